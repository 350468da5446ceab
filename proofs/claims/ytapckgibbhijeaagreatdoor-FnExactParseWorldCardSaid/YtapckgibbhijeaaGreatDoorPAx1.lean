/- Functions of the program, of the reference and of the statements: each as a plain Lean function, and a proof that the machine's call answers what that one answers. Written by a program: the kit's print, with contracts of our own for what it does not take. No condition. -/
import Derived.Test.YtapckgibbhijeaaGreatDoorPAx0
namespace Go.Proofs.YtapckgibbhijeaaGreatDoor.PA
set_option maxHeartbeats 8000000
set_option maxRecDepth 100000
open Go.RowKit Go.Proofs.YtapckgibbhijeaaGreatDoorW.PrintWords Go.Proofs.YtapckgibbhijeaaGreatDoorW.PrintLast Go.Proofs.YtapckgibbhijeaaGreatDoorW.PrintMore
attribute [local go_sem] max2_int min2_int max_two min_two max_three min_three max_four min_four   -- for this text's walks alone
set_option linter.unusedVariables false
set_option linter.unusedSimpArgs false

/-! ### laws_szGoal: function 40 -/
def laws_szGoal.f (a0_0 : ByteArray) (a0_1 : Int) (a0_2 : Int) (a1 : Int) : Option (Int) := if (wrap64 (a1 - (a0_0.size : Int))) < 0 then (some (-1)) else (some (wrap64 (a1 - (a0_0.size : Int))))
theorem laws_szGoal.calls (a0_0 : ByteArray) (a0_1 : Int) (a0_2 : Int) (a1 : Int) (r : Int) (w : World) (h : laws_szGoal.f a0_0 a0_1 a0_2 a1 = some r) :
    Calls Tryz.prog 40 #[.agg #[.string a0_0, .int .i64 a0_1, .int .i64 a0_2], .int .i64 a1] w fun e w' => e = .returned (.int .i64 r) ∧ Below w.heap.size w w' := by
 have hu78 := Tryz.underlying78
 have HB := Pst.A (Below.refl w.heap.size w)
 have H : (if (wrap64 (a1 - (a0_0.size : Int))) < 0 then (some (-1)) else (some (wrap64 (a1 - (a0_0.size : Int))))) = some r := h
 clear h
 by_cases c3 : (wrap64 (a1 - (a0_0.size : Int))) < 0
 ·rw [if_pos c3] at H
  have c3b0 : decide ((wrap64 (a1 - (a0_0.size : Int))) < 0) = true := decide_eq_true c3
  clear c3
  obtain rfl := Option.some.inj H
  go_enter Tryz.func40, Tryz.ntmps40
  go_wp2_with (first | ((with_reducible refine gate_dst (N := 2) rfl ?_); refine Pst.bx 2 #[.string a0_0, .int .i64 a0_1, .int .i64 a0_2] 78 ?_; intro gb101 hg w4 hbox hb; have BK101 := Pst.A hbox; have GW101 := Pst.A (Pst.gs hg : w.heap.size ≤ gb101); have GE101 := Pst.A (Pst.gs hg : w.heap.size ≤ gb101); replace HB := Pst.A (below_step Pst.bel hb); clear hb hbox hg; obtain ⟨_,_,_⟩ := Pst.c3 BK101.out; obtain ⟨_,_,_⟩ := Pst.f3 BK101.out))
  go_ret
  exact ⟨Pst.e1, Pst.bes⟩
 ·rw [if_neg c3] at H
  have c3b0 : decide ((wrap64 (a1 - (a0_0.size : Int))) < 0) = false := decide_eq_false c3
  clear c3
  obtain rfl := Option.some.inj H
  go_enter Tryz.func40, Tryz.ntmps40
  go_wp2_with (first | ((with_reducible refine gate_dst (N := 2) rfl ?_); refine Pst.bx 2 #[.string a0_0, .int .i64 a0_1, .int .i64 a0_2] 78 ?_; intro gb101 hg w6 hbox hb; have BK101 := Pst.A hbox; have GW101 := Pst.A (Pst.gs hg : w.heap.size ≤ gb101); have GE101 := Pst.A (Pst.gs hg : w.heap.size ≤ gb101); replace HB := Pst.A (below_step Pst.bel hb); clear hb hbox hg; obtain ⟨_,_,_⟩ := Pst.c3 BK101.out; obtain ⟨_,_,_⟩ := Pst.f3 BK101.out))
  go_ret
  exact ⟨Pst.e1, Pst.bes⟩

/-! ### laws_szGoalS: function 13 -/
def laws_szGoalS.l0 : Nat → List (S78) → Int → Int → Option (Int)
 | 0, _, _, _ => none
 | k + 1, x0, x1, x5 => if x5 < (x0.length : Int) then (if 0 ≤ x5 then ((laws_szGoal.f ((rd_T78 x0 x5).f0) ((rd_T78 x0 x5).f1) ((rd_T78 x0 x5).f2) x1).bind fun t103 => (if t103 < 0 then (some (-1)) else (laws_szGoalS.l0 k x0 t103 (wrap64 (x5 + 1))))) else (none)) else (some x1)
def laws_szGoalS.f (k : Nat) (l0 : List (S78)) (a1 : Int) : Option (Int) := if (wrap64 (a1 - (l0.length : Int))) < 0 then (some (-1)) else (laws_szGoalS.l0 k l0 (wrap64 (a1 - (l0.length : Int))) 0)
theorem laws_szGoalS.mono_l : ∀ k, (∀ y0 y1 y2, LeO (laws_szGoalS.l0 k y0 y1 y2) (laws_szGoalS.l0 (k + 1) y0 y1 y2))
 | 0 => fun _ _ _ r h => by simp [laws_szGoalS.l0] at h
 | k + 1 => by
  have ih0 := laws_szGoalS.mono_l k
  ·intro y0 y1 y2
   unfold laws_szGoalS.l0
   exact Pst.mo
theorem laws_szGoalS.mono : ∀ a0 a1 k, LeO (laws_szGoalS.f k a0 a1) (laws_szGoalS.f (k + 1) a0 a1) := by
 intro a0 a1 k
 have ih0 := laws_szGoalS.mono_l k
 unfold laws_szGoalS.f
 exact Pst.mo
theorem laws_szGoalS.calls (k : Nat) (A0 : Option Addr) (c0 : Nat) (l0 : List (S78)) (a1 : Int) (r : Int) (w : World) (hr0 : Kd.C k78 w A0 l0.length l0) (hc0 : l0.length ≤ c0) (h : laws_szGoalS.f k l0 a1 = some r) :
    Calls Tryz.prog 13 #[.slice A0 l0.length c0, .int .i64 a1] w fun e w' => e = .returned (.int .i64 r) ∧ Below w.heap.size w w' := by
 have hu78 := Tryz.underlying78
 have HR0 := Pst.A hr0
 have HC0 := Pst.A hc0
 clear hr0 hc0
 have HB := Pst.A (Below.refl w.heap.size w)
 have H : (if (wrap64 (a1 - (l0.length : Int))) < 0 then (some (-1)) else (laws_szGoalS.l0 k l0 (wrap64 (a1 - (l0.length : Int))) 0)) = some r := h
 clear h
 by_cases c3 : (wrap64 (a1 - (l0.length : Int))) < 0
 ·rw [if_pos c3] at H
  have c3b0 : decide ((wrap64 (a1 - (l0.length : Int))) < 0) = true := decide_eq_true c3
  clear c3
  obtain rfl := Option.some.inj H
  go_enter Tryz.func13, Tryz.ntmps13
  go_wp2
  go_ret
  exact ⟨Pst.e1, Pst.bel⟩
 ·rw [if_neg c3] at H
  have c3b0 : decide ((wrap64 (a1 - (l0.length : Int))) < 0) = false := decide_eq_false c3
  clear c3
  have H' := Pst.A H
  clear H
  go_enter Tryz.func13, Tryz.ntmps13
  go_wp2
  go_loopg [1, 5] k (fun kq v1 v5 w' => ∃ (x1_1 : Int) (x5_1 : Int), v1 = .int .i64 x1_1 ∧ v5 = .int .i64 x5_1 ∧ Aside0 (laws_szGoalS.l0 kq l0 x1_1 x5_1 = some r) ∧ Aside0 (kq ≤ k) ∧ Aside0 (Below w.heap.size w w'))
  case atStart => exact ⟨(wrap64 (a1 - (l0.length : Int))), (0), Pst.e2, Pst.e2, H', ⟨Nat.le_refl _⟩, ⟨Pst.bel⟩⟩
  clear H'
  try clear c1
  try clear p2
  try clear c3
  try clear c3b0
  obtain ⟨x1_1, x5_1, rfl, rfl, HA, HK1, HB⟩ := hrel
  cases gk with
  | zero => exact absurd HA.out (by simp [laws_szGoalS.l0])
  | succ k1 =>
   have H := HA.out
   clear HA
   simp only [laws_szGoalS.l0] at H
   by_cases c4 : x5_1 < (l0.length : Int)
   ·rw [if_pos c4] at H
    have c4b0 : decide (x5_1 < (l0.length : Int)) = true := decide_eq_true c4
    clear c4
    by_cases c5 : 0 ≤ x5_1
    ·rw [if_pos c5] at H
     have c5b0 : decide (0 ≤ x5_1) = true := decide_eq_true c5
     clear c5
     obtain ⟨t103, A60, H⟩ := Pst.bd H
     have A6 := Pst.A A60
     clear A60
     by_cases c7 : t103 < 0
     ·rw [if_pos c7] at H
      have c7b0 : decide (t103 < 0) = true := decide_eq_true c7
      clear c7
      obtain rfl := Option.some.inj H
      have p102 : 0 ≤ (x5_1 : Int) := Pst.da
      have q102 : x5_1 < (l0.length : Int) := Pst.da
      obtain ⟨ad102, e102, hx102_0, hx102_1, hx102_2⟩ := at_T78 HR0.out x5_1 p102 q102
      cases e102
      replace hx102_0 := (HB.out.cell (World.block_lt_of_cell? w _ hx102_0)).trans hx102_0
      replace hx102_1 := (HB.out.cell (World.block_lt_of_cell? w _ hx102_1)).trans hx102_1
      replace hx102_2 := (HB.out.cell (World.block_lt_of_cell? w _ hx102_2)).trans hx102_2
      replace p102 := eq_true p102
      replace q102 := eq_true q102
      go_wp2_with (first | ((with_reducible refine gate_callee (f := 40) rfl ?_); refine goesL_ (some 23) rfl rfl Tryz.func40 (by kernel_rfl) rfl #[.agg #[.string ((rd_T78 l0 x5_1).f0), .int .i64 ((rd_T78 l0 x5_1).f1), .int .i64 ((rd_T78 l0 x5_1).f2)], .int .i64 x1_1] rfl Pst.ga ?_; (with_reducible refine (laws_szGoal.calls ((rd_T78 l0 x5_1).f0) ((rd_T78 l0 x5_1).f1) ((rd_T78 l0 x5_1).f2) x1_1 t103 _ A6.out).mono ?_); rintro e w8 ⟨rfl, hb⟩; refine ⟨_, rfl, ?_⟩; replace HB := Pst.A (below_step Pst.bel hb); (try clear hb); (try clear hb2); (try clear hk); (try clear hi)))
      go_ret
      exact ⟨Pst.e1, Pst.bel⟩
     ·rw [if_neg c7] at H
      have c7b0 : decide (t103 < 0) = false := decide_eq_false c7
      clear c7
      have H' := Pst.A H
      clear H
      have p102 : 0 ≤ (x5_1 : Int) := Pst.da
      have q102 : x5_1 < (l0.length : Int) := Pst.da
      obtain ⟨ad102, e102, hx102_0, hx102_1, hx102_2⟩ := at_T78 HR0.out x5_1 p102 q102
      cases e102
      replace hx102_0 := (HB.out.cell (World.block_lt_of_cell? w _ hx102_0)).trans hx102_0
      replace hx102_1 := (HB.out.cell (World.block_lt_of_cell? w _ hx102_1)).trans hx102_1
      replace hx102_2 := (HB.out.cell (World.block_lt_of_cell? w _ hx102_2)).trans hx102_2
      replace p102 := eq_true p102
      replace q102 := eq_true q102
      go_wp2_with (first | ((with_reducible refine gate_callee (f := 40) rfl ?_); refine goesL_ (some 23) rfl rfl Tryz.func40 (by kernel_rfl) rfl #[.agg #[.string ((rd_T78 l0 x5_1).f0), .int .i64 ((rd_T78 l0 x5_1).f1), .int .i64 ((rd_T78 l0 x5_1).f2)], .int .i64 x1_1] rfl Pst.ga ?_; (with_reducible refine (laws_szGoal.calls ((rd_T78 l0 x5_1).f0) ((rd_T78 l0 x5_1).f1) ((rd_T78 l0 x5_1).f2) x1_1 t103 _ A6.out).mono ?_); rintro e w9 ⟨rfl, hb⟩; refine ⟨_, rfl, ?_⟩; replace HB := Pst.A (below_step Pst.bel hb); (try clear hb); (try clear hb2); (try clear hk); (try clear hi)))
      go_roundg k1
      case measure => have := HK1.out; omega
      case rel => exact ⟨(t103), (wrap64 (x5_1 + 1)), Pst.e2, Pst.e2, H', ⟨by have := HK1.out; omega⟩, ⟨Pst.bel⟩⟩
    ·rw [if_neg c5] at H
     exact absurd H (by simp)
   ·rw [if_neg c4] at H
    have c4b0 : decide (x5_1 < (l0.length : Int)) = false := decide_eq_false c4
    clear c4
    obtain rfl := Option.some.inj H
    go_wp2
    go_ret
    exact ⟨Pst.e1, Pst.bel⟩
theorem laws_szGoalS.l0.st {x0 : List (S78)} {x1 : Int} {x5 : Int} {r : (Int)} (H : Ev (fun k => if x5 < (x0.length : Int) then (if 0 ≤ x5 then ((laws_szGoal.f ((rd_T78 x0 x5).f0) ((rd_T78 x0 x5).f1) ((rd_T78 x0 x5).f2) x1).bind fun t103 => (if t103 < 0 then (some (-1)) else (laws_szGoalS.l0 k x0 t103 (wrap64 (x5 + 1))))) else (none)) else (some x1)) r) : Ev (fun k => laws_szGoalS.l0 k x0 x1 x5) r := Ev.step (fun k => laws_szGoalS.l0.eq_2 x0 x1 x5 k) H

/-! ### laws_szPolicyS: function 67 -/
def laws_szPolicyS.f (l0 : List (S119)) (a1 : Int) : Option (Int) := if (wrap64 (a1 - (l0.length : Int))) < 0 then (some (-1)) else (some (wrap64 (a1 - (l0.length : Int))))
theorem laws_szPolicyS.calls (A0 : Option Addr) (c0 : Nat) (l0 : List (S119)) (a1 : Int) (r : Int) (w : World) (hr0 : Kd.C k119 w A0 l0.length l0) (hc0 : l0.length ≤ c0) (h : laws_szPolicyS.f l0 a1 = some r) :
    Calls Tryz.prog 67 #[.slice A0 l0.length c0, .int .i64 a1] w fun e w' => e = .returned (.int .i64 r) ∧ Drawn0 w w' := by
 have HR0 := Pst.A hr0
 have HC0 := Pst.A hc0
 clear hr0 hc0
 have H : (if (wrap64 (a1 - (l0.length : Int))) < 0 then (some (-1)) else (some (wrap64 (a1 - (l0.length : Int))))) = some r := h
 clear h
 by_cases c3 : (wrap64 (a1 - (l0.length : Int))) < 0
 ·rw [if_pos c3] at H
  have c3b0 : decide ((wrap64 (a1 - (l0.length : Int))) < 0) = true := decide_eq_true c3
  clear c3
  obtain rfl := Option.some.inj H
  go_enter Tryz.func67, Tryz.ntmps67
  go_wp2
  go_ret
  exact ⟨Pst.e2, by repeat (first | exact Drawn0.refl _ | apply Drawn0.step)⟩
 ·rw [if_neg c3] at H
  have c3b0 : decide ((wrap64 (a1 - (l0.length : Int))) < 0) = false := decide_eq_false c3
  clear c3
  obtain rfl := Option.some.inj H
  go_enter Tryz.func67, Tryz.ntmps67
  go_wp2
  go_ret
  exact ⟨Pst.e2, by repeat (first | exact Drawn0.refl _ | apply Drawn0.step)⟩

/-! ### laws_szSide: function 41 -/
def laws_szSide.f (l0_0 : List (S119)) (a0_1 : Int) (a0_2 : Int) (a1 : Int) : Option (Int) := (laws_szPolicyS.f l0_0 a1).bind fun t105 => (if t105 < 0 then (some (-1)) else (some t105))
theorem laws_szSide.calls (A0_0 : Option Addr) (c0_0 : Nat) (l0_0 : List (S119)) (a0_1 : Int) (a0_2 : Int) (a1 : Int) (r : Int) (w : World) (hr0_0 : Kd.C k119 w A0_0 l0_0.length l0_0) (hc0_0 : l0_0.length ≤ c0_0) (h : laws_szSide.f l0_0 a0_1 a0_2 a1 = some r) :
    Calls Tryz.prog 41 #[.agg #[.slice A0_0 l0_0.length c0_0, .int .i64 a0_1, .int .i64 a0_2], .int .i64 a1] w fun e w' => e = .returned (.int .i64 r) ∧ Below w.heap.size w w' := by
 have hu27 := Tryz.underlying27
 have HR0_0 := Pst.A hr0_0
 have HC0_0 := Pst.A hc0_0
 clear hr0_0 hc0_0
 have HB := Pst.A (Below.refl w.heap.size w)
 have H : ((laws_szPolicyS.f l0_0 a1).bind fun t105 => (if t105 < 0 then (some (-1)) else (some t105))) = some r := h
 clear h
 obtain ⟨t105, A30, H⟩ := Pst.bd H
 have A3 := Pst.A A30
 clear A30
 by_cases c4 : t105 < 0
 ·rw [if_pos c4] at H
  have c4b0 : decide (t105 < 0) = true := decide_eq_true c4
  clear c4
  obtain rfl := Option.some.inj H
  go_enter Tryz.func41, Tryz.ntmps41
  go_wp2_with (first | ((with_reducible refine gate_dst (N := 2) rfl ?_); refine Pst.bx 2 #[.slice A0_0 l0_0.length c0_0, .int .i64 a0_1, .int .i64 a0_2] 27 ?_; intro gb104 hg w5 hbox hb; have BK104 := Pst.A hbox; have GW104 := Pst.A (Pst.gs hg : w.heap.size ≤ gb104); have GE104 := Pst.A (Pst.gs hg : w.heap.size ≤ gb104); replace HB := Pst.A (below_step Pst.bel hb); clear hb hbox hg; obtain ⟨_,_,_⟩ := Pst.c3 BK104.out; obtain ⟨_,_,_⟩ := Pst.f3 BK104.out) | ((with_reducible refine gate_callee (f := 67) rfl ?_); refine goesL_ (some 8) rfl rfl Tryz.func67 (by kernel_rfl) rfl #[.slice A0_0 l0_0.length c0_0, .int .i64 a1] rfl Pst.ga ?_; (with_reducible refine (laws_szPolicyS.calls _ _ l0_0 a1 t105 _ ?side1 ?side2 A3.out).mono ?_); (case side1 => exact Pst.qc (Kd.C_below HR0_0.out HB.out)); (case side2 => exact HC0_0.out); rintro e w' ⟨rfl, ⟨nd, rfl⟩⟩; refine ⟨_, rfl, ?_⟩))
  go_ret
  exact ⟨Pst.e1, Pst.bes⟩
 ·rw [if_neg c4] at H
  have c4b0 : decide (t105 < 0) = false := decide_eq_false c4
  clear c4
  obtain rfl := Option.some.inj H
  go_enter Tryz.func41, Tryz.ntmps41
  go_wp2_with (first | ((with_reducible refine gate_dst (N := 2) rfl ?_); refine Pst.bx 2 #[.slice A0_0 l0_0.length c0_0, .int .i64 a0_1, .int .i64 a0_2] 27 ?_; intro gb104 hg w7 hbox hb; have BK104 := Pst.A hbox; have GW104 := Pst.A (Pst.gs hg : w.heap.size ≤ gb104); have GE104 := Pst.A (Pst.gs hg : w.heap.size ≤ gb104); replace HB := Pst.A (below_step Pst.bel hb); clear hb hbox hg; obtain ⟨_,_,_⟩ := Pst.c3 BK104.out; obtain ⟨_,_,_⟩ := Pst.f3 BK104.out) | ((with_reducible refine gate_callee (f := 67) rfl ?_); refine goesL_ (some 8) rfl rfl Tryz.func67 (by kernel_rfl) rfl #[.slice A0_0 l0_0.length c0_0, .int .i64 a1] rfl Pst.ga ?_; (with_reducible refine (laws_szPolicyS.calls _ _ l0_0 a1 t105 _ ?side1 ?side2 A3.out).mono ?_); (case side1 => exact Pst.qc (Kd.C_below HR0_0.out HB.out)); (case side2 => exact HC0_0.out); rintro e w' ⟨rfl, ⟨nd, rfl⟩⟩; refine ⟨_, rfl, ?_⟩))
  go_ret
  exact ⟨Pst.e1, Pst.bes⟩

/-! ### laws_szBehave: function 14 -/
def laws_szBehave.f (l0_0 : List (S119)) (a0_1 : Int) (a0_2 : Int) (l0_3 : List (S119)) (a0_4 : Int) (a0_5 : Int) (a0_6 : Int) (a0_7 : Int) (a1 : Int) : Option (Int) := (laws_szSide.f l0_0 a0_1 a0_2 a1).bind fun t107 => (if t107 < 0 then (some (-1)) else ((laws_szSide.f l0_3 a0_4 a0_5 t107).bind fun t108 => (if t108 < 0 then (some (-1)) else (some t108))))
theorem laws_szBehave.calls (A0_0 : Option Addr) (c0_0 : Nat) (l0_0 : List (S119)) (a0_1 : Int) (a0_2 : Int) (A0_3 : Option Addr) (c0_3 : Nat) (l0_3 : List (S119)) (a0_4 : Int) (a0_5 : Int) (a0_6 : Int) (a0_7 : Int) (a1 : Int) (r : Int) (w : World) (hr0_0 : Kd.C k119 w A0_0 l0_0.length l0_0) (hc0_0 : l0_0.length ≤ c0_0) (hr0_3 : Kd.C k119 w A0_3 l0_3.length l0_3) (hc0_3 : l0_3.length ≤ c0_3) (h : laws_szBehave.f l0_0 a0_1 a0_2 l0_3 a0_4 a0_5 a0_6 a0_7 a1 = some r) :
    Calls Tryz.prog 14 #[.agg #[.slice A0_0 l0_0.length c0_0, .int .i64 a0_1, .int .i64 a0_2, .slice A0_3 l0_3.length c0_3, .int .i64 a0_4, .int .i64 a0_5, .int .i64 a0_6, .int .i64 a0_7], .int .i64 a1] w fun e w' => e = .returned (.int .i64 r) ∧ Below w.heap.size w w' := by
 have hu29 := Tryz.underlying29
 have hu27 := Tryz.underlying27
 have HR0_0 := Pst.A hr0_0
 have HC0_0 := Pst.A hc0_0
 clear hr0_0 hc0_0
 have HR0_3 := Pst.A hr0_3
 have HC0_3 := Pst.A hc0_3
 clear hr0_3 hc0_3
 have HB := Pst.A (Below.refl w.heap.size w)
 have H : ((laws_szSide.f l0_0 a0_1 a0_2 a1).bind fun t107 => (if t107 < 0 then (some (-1)) else ((laws_szSide.f l0_3 a0_4 a0_5 t107).bind fun t108 => (if t108 < 0 then (some (-1)) else (some t108))))) = some r := h
 clear h
 obtain ⟨t107, A30, H⟩ := Pst.bd H
 have A3 := Pst.A A30
 clear A30
 by_cases c4 : t107 < 0
 ·rw [if_pos c4] at H
  have c4b0 : decide (t107 < 0) = true := decide_eq_true c4
  clear c4
  obtain rfl := Option.some.inj H
  go_enter Tryz.func14, Tryz.ntmps14
  go_wp2_with (first | ((with_reducible refine gate_dst (N := 2) rfl ?_); refine Pst.bx 2 #[.slice A0_0 l0_0.length c0_0, .int .i64 a0_1, .int .i64 a0_2, .slice A0_3 l0_3.length c0_3, .int .i64 a0_4, .int .i64 a0_5, .int .i64 a0_6, .int .i64 a0_7] 29 ?_; intro gb106 hg w5 hbox hb; have BK106 := Pst.A hbox; have GW106 := Pst.A (Pst.gs hg : w.heap.size ≤ gb106); have GE106 := Pst.A (Pst.gs hg : w.heap.size ≤ gb106); replace HB := Pst.A (below_step Pst.bel hb); clear hb hbox hg; obtain ⟨_,_,_,_,_,_,_,_⟩ := Pst.c8 BK106.out; obtain ⟨_,_,_,_,_,_,_,_⟩ := Pst.f8 BK106.out) | ((with_reducible refine gate_callee (f := 41) rfl ?_); refine goesL_ (some 8) rfl rfl Tryz.func41 (by kernel_rfl) rfl #[.agg #[.slice A0_0 l0_0.length c0_0, .int .i64 a0_1, .int .i64 a0_2], .int .i64 a1] rfl Pst.ga ?_; (with_reducible refine (laws_szSide.calls _ _ l0_0 a0_1 a0_2 a1 t107 _ ?side1 ?side2 A3.out).mono ?_); (case side1 => exact Pst.qc (Kd.C_below HR0_0.out HB.out)); (case side2 => exact HC0_0.out); rintro e w7 ⟨rfl, hb⟩; refine ⟨_, rfl, ?_⟩; replace BK106 := Pst.A (Pst.kb BK106.out hb); replace HB := Pst.A (below_step Pst.bes hb); (try clear hb); (try clear hb2); (try clear hk); (try clear hi)))
  go_ret
  exact ⟨Pst.e1, Pst.bes⟩
 ·rw [if_neg c4] at H
  have c4b0 : decide (t107 < 0) = false := decide_eq_false c4
  clear c4
  obtain ⟨t108, A80, H⟩ := Pst.bd H
  have A8 := Pst.A A80
  clear A80
  by_cases c9 : t108 < 0
  ·rw [if_pos c9] at H
   have c9b0 : decide (t108 < 0) = true := decide_eq_true c9
   clear c9
   obtain rfl := Option.some.inj H
   go_enter Tryz.func14, Tryz.ntmps14
   go_wp2_with (first | ((with_reducible refine gate_dst (N := 2) rfl ?_); refine Pst.bx 2 #[.slice A0_0 l0_0.length c0_0, .int .i64 a0_1, .int .i64 a0_2, .slice A0_3 l0_3.length c0_3, .int .i64 a0_4, .int .i64 a0_5, .int .i64 a0_6, .int .i64 a0_7] 29 ?_; intro gb106 hg w10 hbox hb; have BK106 := Pst.A hbox; have GW106 := Pst.A (Pst.gs hg : w.heap.size ≤ gb106); have GE106 := Pst.A (Pst.gs hg : w.heap.size ≤ gb106); replace HB := Pst.A (below_step Pst.bel hb); clear hb hbox hg; obtain ⟨_,_,_,_,_,_,_,_⟩ := Pst.c8 BK106.out; obtain ⟨_,_,_,_,_,_,_,_⟩ := Pst.f8 BK106.out) | ((with_reducible refine gate_callee (f := 41) rfl ?_); refine goesL_ (some 8) rfl rfl Tryz.func41 (by kernel_rfl) rfl #[.agg #[.slice A0_0 l0_0.length c0_0, .int .i64 a0_1, .int .i64 a0_2], .int .i64 a1] rfl Pst.ga ?_; (with_reducible refine (laws_szSide.calls _ _ l0_0 a0_1 a0_2 a1 t107 _ ?side1 ?side2 A3.out).mono ?_); (case side1 => exact Pst.qc (Kd.C_below HR0_0.out HB.out)); (case side2 => exact HC0_0.out); rintro e w12 ⟨rfl, hb⟩; refine ⟨_, rfl, ?_⟩; replace BK106 := Pst.A (Pst.kb BK106.out hb); replace HB := Pst.A (below_step Pst.bes hb); (try clear hb); (try clear hb2); (try clear hk); (try clear hi); obtain ⟨_,_,_,_,_,_,_,_⟩ := Pst.c8 BK106.out; obtain ⟨_,_,_,_,_,_,_,_⟩ := Pst.f8 BK106.out) | ((with_reducible refine gate_callee (f := 41) rfl ?_); refine goesL_ (some 14) rfl rfl Tryz.func41 (by kernel_rfl) rfl #[.agg #[.slice A0_3 l0_3.length c0_3, .int .i64 a0_4, .int .i64 a0_5], .int .i64 t107] rfl Pst.ga ?_; (with_reducible refine (laws_szSide.calls _ _ l0_3 a0_4 a0_5 t107 t108 _ ?side1 ?side2 A8.out).mono ?_); (case side1 => exact Pst.qc (Kd.C_below HR0_3.out HB.out)); (case side2 => exact HC0_3.out); rintro e w14 ⟨rfl, hb⟩; refine ⟨_, rfl, ?_⟩; replace BK106 := Pst.A (Pst.kb BK106.out hb); replace HB := Pst.A (below_step Pst.bes hb); (try clear hb); (try clear hb2); (try clear hk); (try clear hi)))
   go_ret
   exact ⟨Pst.e1, Pst.bes⟩
  ·rw [if_neg c9] at H
   have c9b0 : decide (t108 < 0) = false := decide_eq_false c9
   clear c9
   obtain rfl := Option.some.inj H
   go_enter Tryz.func14, Tryz.ntmps14
   go_wp2_with (first | ((with_reducible refine gate_dst (N := 2) rfl ?_); refine Pst.bx 2 #[.slice A0_0 l0_0.length c0_0, .int .i64 a0_1, .int .i64 a0_2, .slice A0_3 l0_3.length c0_3, .int .i64 a0_4, .int .i64 a0_5, .int .i64 a0_6, .int .i64 a0_7] 29 ?_; intro gb106 hg w15 hbox hb; have BK106 := Pst.A hbox; have GW106 := Pst.A (Pst.gs hg : w.heap.size ≤ gb106); have GE106 := Pst.A (Pst.gs hg : w.heap.size ≤ gb106); replace HB := Pst.A (below_step Pst.bel hb); clear hb hbox hg; obtain ⟨_,_,_,_,_,_,_,_⟩ := Pst.c8 BK106.out; obtain ⟨_,_,_,_,_,_,_,_⟩ := Pst.f8 BK106.out) | ((with_reducible refine gate_callee (f := 41) rfl ?_); refine goesL_ (some 8) rfl rfl Tryz.func41 (by kernel_rfl) rfl #[.agg #[.slice A0_0 l0_0.length c0_0, .int .i64 a0_1, .int .i64 a0_2], .int .i64 a1] rfl Pst.ga ?_; (with_reducible refine (laws_szSide.calls _ _ l0_0 a0_1 a0_2 a1 t107 _ ?side1 ?side2 A3.out).mono ?_); (case side1 => exact Pst.qc (Kd.C_below HR0_0.out HB.out)); (case side2 => exact HC0_0.out); rintro e w17 ⟨rfl, hb⟩; refine ⟨_, rfl, ?_⟩; replace BK106 := Pst.A (Pst.kb BK106.out hb); replace HB := Pst.A (below_step Pst.bes hb); (try clear hb); (try clear hb2); (try clear hk); (try clear hi); obtain ⟨_,_,_,_,_,_,_,_⟩ := Pst.c8 BK106.out; obtain ⟨_,_,_,_,_,_,_,_⟩ := Pst.f8 BK106.out) | ((with_reducible refine gate_callee (f := 41) rfl ?_); refine goesL_ (some 14) rfl rfl Tryz.func41 (by kernel_rfl) rfl #[.agg #[.slice A0_3 l0_3.length c0_3, .int .i64 a0_4, .int .i64 a0_5], .int .i64 t107] rfl Pst.ga ?_; (with_reducible refine (laws_szSide.calls _ _ l0_3 a0_4 a0_5 t107 t108 _ ?side1 ?side2 A8.out).mono ?_); (case side1 => exact Pst.qc (Kd.C_below HR0_3.out HB.out)); (case side2 => exact HC0_3.out); rintro e w19 ⟨rfl, hb⟩; refine ⟨_, rfl, ?_⟩; replace BK106 := Pst.A (Pst.kb BK106.out hb); replace HB := Pst.A (below_step Pst.bes hb); (try clear hb); (try clear hb2); (try clear hk); (try clear hi)))
   go_ret
   exact ⟨Pst.e1, Pst.bes⟩

/-! ### laws_szSetup: function 4 -/
def laws_szSetup.f (k : Nat) (a0_0 : Int) (a0_1 : Int) (a0_2 : Int) (l0_3 : List (S78)) (l0_4 : List (S119)) (a0_5 : Int) (a0_6 : Int) (l0_7 : List (S119)) (a0_8 : Int) (a0_9 : Int) (a0_10 : Int) (a0_11 : Int) (a1 : Int) : Option (Int) := (laws_szGoalS.f k l0_3 a1).bind fun t110 => (if t110 < 0 then (some (-1)) else ((laws_szBehave.f l0_4 a0_5 a0_6 l0_7 a0_8 a0_9 a0_10 a0_11 t110).bind fun t111 => (if t111 < 0 then (some (-1)) else (some t111))))
theorem laws_szSetup.mono : ∀ a0 a1 a2 a3 a4 a5 a6 a7 a8 a9 a10 a11 a12 k, LeO (laws_szSetup.f k a0 a1 a2 a3 a4 a5 a6 a7 a8 a9 a10 a11 a12) (laws_szSetup.f (k + 1) a0 a1 a2 a3 a4 a5 a6 a7 a8 a9 a10 a11 a12) := by
 intro a0 a1 a2 a3 a4 a5 a6 a7 a8 a9 a10 a11 a12 k
 unfold laws_szSetup.f
 have m0 := @laws_szGoalS.mono
 exact Pst.mo
theorem laws_szSetup.calls (k : Nat) (a0_0 : Int) (a0_1 : Int) (a0_2 : Int) (A0_3 : Option Addr) (c0_3 : Nat) (l0_3 : List (S78)) (A0_4 : Option Addr) (c0_4 : Nat) (l0_4 : List (S119)) (a0_5 : Int) (a0_6 : Int) (A0_7 : Option Addr) (c0_7 : Nat) (l0_7 : List (S119)) (a0_8 : Int) (a0_9 : Int) (a0_10 : Int) (a0_11 : Int) (a1 : Int) (r : Int) (w : World) (hr0_3 : Kd.C k78 w A0_3 l0_3.length l0_3) (hc0_3 : l0_3.length ≤ c0_3) (hr0_4 : Kd.C k119 w A0_4 l0_4.length l0_4) (hc0_4 : l0_4.length ≤ c0_4) (hr0_7 : Kd.C k119 w A0_7 l0_7.length l0_7) (hc0_7 : l0_7.length ≤ c0_7) (h : laws_szSetup.f k a0_0 a0_1 a0_2 l0_3 l0_4 a0_5 a0_6 l0_7 a0_8 a0_9 a0_10 a0_11 a1 = some r) :
    Calls Tryz.prog 4 #[.agg #[.int .i64 a0_0, .int .i64 a0_1, .int .i64 a0_2, .slice A0_3 l0_3.length c0_3, .slice A0_4 l0_4.length c0_4, .int .i64 a0_5, .int .i64 a0_6, .slice A0_7 l0_7.length c0_7, .int .i64 a0_8, .int .i64 a0_9, .int .i64 a0_10, .int .i64 a0_11], .int .i64 a1] w fun e w' => e = .returned (.int .i64 r) ∧ Below w.heap.size w w' := by
 have hu31 := Tryz.underlying31
 have hu29 := Tryz.underlying29
 have HR0_3 := Pst.A hr0_3
 have HC0_3 := Pst.A hc0_3
 clear hr0_3 hc0_3
 have HR0_4 := Pst.A hr0_4
 have HC0_4 := Pst.A hc0_4
 clear hr0_4 hc0_4
 have HR0_7 := Pst.A hr0_7
 have HC0_7 := Pst.A hc0_7
 clear hr0_7 hc0_7
 have HB := Pst.A (Below.refl w.heap.size w)
 have H : ((laws_szGoalS.f k l0_3 a1).bind fun t110 => (if t110 < 0 then (some (-1)) else ((laws_szBehave.f l0_4 a0_5 a0_6 l0_7 a0_8 a0_9 a0_10 a0_11 t110).bind fun t111 => (if t111 < 0 then (some (-1)) else (some t111))))) = some r := h
 clear h
 obtain ⟨t110, A30, H⟩ := Pst.bd H
 have A3 := Pst.A A30
 clear A30
 by_cases c4 : t110 < 0
 ·rw [if_pos c4] at H
  have c4b0 : decide (t110 < 0) = true := decide_eq_true c4
  clear c4
  obtain rfl := Option.some.inj H
  go_enter Tryz.func4, Tryz.ntmps4
  go_wp2_with (first | ((with_reducible refine gate_dst (N := 2) rfl ?_); refine Pst.bx 2 #[.int .i64 a0_0, .int .i64 a0_1, .int .i64 a0_2, .slice A0_3 l0_3.length c0_3, .slice A0_4 l0_4.length c0_4, .int .i64 a0_5, .int .i64 a0_6, .slice A0_7 l0_7.length c0_7, .int .i64 a0_8, .int .i64 a0_9, .int .i64 a0_10, .int .i64 a0_11] 31 ?_; intro gb109 hg w5 hbox hb; have BK109 := Pst.A hbox; have GW109 := Pst.A (Pst.gs hg : w.heap.size ≤ gb109); have GE109 := Pst.A (Pst.gs hg : w.heap.size ≤ gb109); replace HB := Pst.A (below_step Pst.bel hb); clear hb hbox hg; obtain ⟨_,_,_,_,_,_,_,_,_,_,_,_⟩ := Pst.c12 BK109.out; obtain ⟨_,_,_,_,_,_,_,_,_,_,_,_⟩ := Pst.f12 BK109.out) | ((with_reducible refine gate_callee (f := 13) rfl ?_); refine goesL_ (some 8) rfl rfl Tryz.func13 (by kernel_rfl) rfl #[.slice A0_3 l0_3.length c0_3, .int .i64 a1] rfl Pst.ga ?_; (with_reducible refine (laws_szGoalS.calls k _ _ l0_3 a1 t110 _ ?side1 ?side2 A3.out).mono ?_); (case side1 => exact Pst.qc (Kd.C_below HR0_3.out HB.out)); (case side2 => exact HC0_3.out); rintro e w7 ⟨rfl, hb⟩; refine ⟨_, rfl, ?_⟩; replace BK109 := Pst.A (Pst.kb BK109.out hb); replace HB := Pst.A (below_step Pst.bes hb); (try clear hb); (try clear hb2); (try clear hk); (try clear hi)))
  go_ret
  exact ⟨Pst.e1, Pst.bes⟩
 ·rw [if_neg c4] at H
  have c4b0 : decide (t110 < 0) = false := decide_eq_false c4
  clear c4
  obtain ⟨t111, A80, H⟩ := Pst.bd H
  have A8 := Pst.A A80
  clear A80
  by_cases c9 : t111 < 0
  ·rw [if_pos c9] at H
   have c9b0 : decide (t111 < 0) = true := decide_eq_true c9
   clear c9
   obtain rfl := Option.some.inj H
   go_enter Tryz.func4, Tryz.ntmps4
   go_wp2_with (first | ((with_reducible refine gate_dst (N := 2) rfl ?_); refine Pst.bx 2 #[.int .i64 a0_0, .int .i64 a0_1, .int .i64 a0_2, .slice A0_3 l0_3.length c0_3, .slice A0_4 l0_4.length c0_4, .int .i64 a0_5, .int .i64 a0_6, .slice A0_7 l0_7.length c0_7, .int .i64 a0_8, .int .i64 a0_9, .int .i64 a0_10, .int .i64 a0_11] 31 ?_; intro gb109 hg w10 hbox hb; have BK109 := Pst.A hbox; have GW109 := Pst.A (Pst.gs hg : w.heap.size ≤ gb109); have GE109 := Pst.A (Pst.gs hg : w.heap.size ≤ gb109); replace HB := Pst.A (below_step Pst.bel hb); clear hb hbox hg; obtain ⟨_,_,_,_,_,_,_,_,_,_,_,_⟩ := Pst.c12 BK109.out; obtain ⟨_,_,_,_,_,_,_,_,_,_,_,_⟩ := Pst.f12 BK109.out) | ((with_reducible refine gate_callee (f := 13) rfl ?_); refine goesL_ (some 8) rfl rfl Tryz.func13 (by kernel_rfl) rfl #[.slice A0_3 l0_3.length c0_3, .int .i64 a1] rfl Pst.ga ?_; (with_reducible refine (laws_szGoalS.calls k _ _ l0_3 a1 t110 _ ?side1 ?side2 A3.out).mono ?_); (case side1 => exact Pst.qc (Kd.C_below HR0_3.out HB.out)); (case side2 => exact HC0_3.out); rintro e w12 ⟨rfl, hb⟩; refine ⟨_, rfl, ?_⟩; replace BK109 := Pst.A (Pst.kb BK109.out hb); replace HB := Pst.A (below_step Pst.bes hb); (try clear hb); (try clear hb2); (try clear hk); (try clear hi); obtain ⟨_,_,_,_,_,_,_,_,_,_,_,_⟩ := Pst.c12 BK109.out; obtain ⟨_,_,_,_,_,_,_,_,_,_,_,_⟩ := Pst.f12 BK109.out) | ((with_reducible refine gate_callee (f := 14) rfl ?_); refine goesL_ (some 14) rfl rfl Tryz.func14 (by kernel_rfl) rfl #[.agg #[.slice A0_4 l0_4.length c0_4, .int .i64 a0_5, .int .i64 a0_6, .slice A0_7 l0_7.length c0_7, .int .i64 a0_8, .int .i64 a0_9, .int .i64 a0_10, .int .i64 a0_11], .int .i64 t110] rfl Pst.ga ?_; (with_reducible refine (laws_szBehave.calls _ _ l0_4 a0_5 a0_6 _ _ l0_7 a0_8 a0_9 a0_10 a0_11 t110 t111 _ ?side1 ?side2 ?side3 ?side4 A8.out).mono ?_); (case side1 => exact Pst.qc (Kd.C_below HR0_4.out HB.out)); (case side2 => exact HC0_4.out); (case side3 => exact Pst.qc (Kd.C_below HR0_7.out HB.out)); (case side4 => exact HC0_7.out); rintro e w14 ⟨rfl, hb⟩; refine ⟨_, rfl, ?_⟩; replace BK109 := Pst.A (Pst.kb BK109.out hb); replace HB := Pst.A (below_step Pst.bes hb); (try clear hb); (try clear hb2); (try clear hk); (try clear hi)))
   go_ret
   exact ⟨Pst.e1, Pst.bes⟩
  ·rw [if_neg c9] at H
   have c9b0 : decide (t111 < 0) = false := decide_eq_false c9
   clear c9
   obtain rfl := Option.some.inj H
   go_enter Tryz.func4, Tryz.ntmps4
   go_wp2_with (first | ((with_reducible refine gate_dst (N := 2) rfl ?_); refine Pst.bx 2 #[.int .i64 a0_0, .int .i64 a0_1, .int .i64 a0_2, .slice A0_3 l0_3.length c0_3, .slice A0_4 l0_4.length c0_4, .int .i64 a0_5, .int .i64 a0_6, .slice A0_7 l0_7.length c0_7, .int .i64 a0_8, .int .i64 a0_9, .int .i64 a0_10, .int .i64 a0_11] 31 ?_; intro gb109 hg w15 hbox hb; have BK109 := Pst.A hbox; have GW109 := Pst.A (Pst.gs hg : w.heap.size ≤ gb109); have GE109 := Pst.A (Pst.gs hg : w.heap.size ≤ gb109); replace HB := Pst.A (below_step Pst.bel hb); clear hb hbox hg; obtain ⟨_,_,_,_,_,_,_,_,_,_,_,_⟩ := Pst.c12 BK109.out; obtain ⟨_,_,_,_,_,_,_,_,_,_,_,_⟩ := Pst.f12 BK109.out) | ((with_reducible refine gate_callee (f := 13) rfl ?_); refine goesL_ (some 8) rfl rfl Tryz.func13 (by kernel_rfl) rfl #[.slice A0_3 l0_3.length c0_3, .int .i64 a1] rfl Pst.ga ?_; (with_reducible refine (laws_szGoalS.calls k _ _ l0_3 a1 t110 _ ?side1 ?side2 A3.out).mono ?_); (case side1 => exact Pst.qc (Kd.C_below HR0_3.out HB.out)); (case side2 => exact HC0_3.out); rintro e w17 ⟨rfl, hb⟩; refine ⟨_, rfl, ?_⟩; replace BK109 := Pst.A (Pst.kb BK109.out hb); replace HB := Pst.A (below_step Pst.bes hb); (try clear hb); (try clear hb2); (try clear hk); (try clear hi); obtain ⟨_,_,_,_,_,_,_,_,_,_,_,_⟩ := Pst.c12 BK109.out; obtain ⟨_,_,_,_,_,_,_,_,_,_,_,_⟩ := Pst.f12 BK109.out) | ((with_reducible refine gate_callee (f := 14) rfl ?_); refine goesL_ (some 14) rfl rfl Tryz.func14 (by kernel_rfl) rfl #[.agg #[.slice A0_4 l0_4.length c0_4, .int .i64 a0_5, .int .i64 a0_6, .slice A0_7 l0_7.length c0_7, .int .i64 a0_8, .int .i64 a0_9, .int .i64 a0_10, .int .i64 a0_11], .int .i64 t110] rfl Pst.ga ?_; (with_reducible refine (laws_szBehave.calls _ _ l0_4 a0_5 a0_6 _ _ l0_7 a0_8 a0_9 a0_10 a0_11 t110 t111 _ ?side1 ?side2 ?side3 ?side4 A8.out).mono ?_); (case side1 => exact Pst.qc (Kd.C_below HR0_4.out HB.out)); (case side2 => exact HC0_4.out); (case side3 => exact Pst.qc (Kd.C_below HR0_7.out HB.out)); (case side4 => exact HC0_7.out); rintro e w19 ⟨rfl, hb⟩; refine ⟨_, rfl, ?_⟩; replace BK109 := Pst.A (Pst.kb BK109.out hb); replace HB := Pst.A (below_step Pst.bes hb); (try clear hb); (try clear hb2); (try clear hk); (try clear hi)))
   go_ret
   exact ⟨Pst.e1, Pst.bes⟩

/-! ### strconv_Itoa: function 82 -/
/-- A cell that holds some value of an interface's type. -/
def IsErr (w : World) (g : Nat) : Prop := ∃ ev, w.cell? ⟨g, 0, none⟩ = some ev ∧ (ev = .nilIface ∨ ∃ te pe, ev = .iface te pe)
/-- The library's variables that are read: the table of powers of ten as it is laid, the greatest length of a search some number, the two errors some values. -/
def Tab (w : World) : Prop := Lib.TabIs Tryz.prog w "internal/strconv.uint64pow10" .u64 Lib.pow10Tab ∧ (∃ m, w.cell? ⟨0, 0, none⟩ = some (.int .i64 m)) ∧ IsErr w 1 ∧ IsErr w 2
theorem Tab.cell {w w1 : World} {g : Nat} {v : Value} (hb : Below w.heap.size w w1) (h : w.cell? ⟨g, 0, none⟩ = some v) : w1.cell? ⟨g, 0, none⟩ = some v := (hb.cell (show (⟨g, 0, none⟩ : Addr).block < w.heap.size from Lib.lt_of_cell h)).trans h
theorem Tab.on {w w1 : World} (h : Tab w) (hb : Below w.heap.size w w1) : Tab w1 := by
 obtain ⟨h1, ⟨m, h2⟩, ⟨x, h3, h4⟩, y, h5, h6⟩ := h
 exact ⟨Lib.tabBelow_of_tabIs h1 w1 hb, ⟨m, Tab.cell hb h2⟩, ⟨x, Tab.cell hb h3, h4⟩, y, Tab.cell hb h5, h6⟩
def strconv_Itoa.f (a0 : Int) : Option ByteArray := if -9223372036854775808 ≤ a0 ∧ a0 ≤ 9223372036854775807 then some ⟨(Lib.itoa a0).toArray⟩ else none
theorem strconv_Itoa.calls (a0 : Int) (r : ByteArray) (w : World) (h : strconv_Itoa.f a0 = some r) (ht_ : Tab w := by exact HT.out.on Pst.bel) :
    Calls Tryz.prog 82 #[.int .i64 a0] w fun e w' => e = .returned (.string r) ∧ Below w.heap.size w w' := by
 unfold strconv_Itoa.f at h
 by_cases hb : -9223372036854775808 ≤ a0 ∧ a0 ≤ 9223372036854775807
 ·rw [if_pos hb] at h
  obtain rfl := Option.some.inj h
  refine (Tryz.strconv_Itoa a0 hb.1 hb.2 w ht_.1).mono ?_
  rintro e w' ⟨rfl, k, os, rfl⟩
  exact ⟨rfl, Lib.below_grow _ w (Nat.le_refl _) k os⟩
 ·rw [if_neg hb] at h
  cases h

/-! ### strings_Split: function 23 -/
def strings_Split.f (a0 a1 : ByteArray) : Option (List ByteArray) := if a1 = ⟨#[32]⟩ ∧ a0.size ≤ 4294967280 then some (Lib.splitB a1 0 (Lib.countB a0 a1) a0) else none
theorem strings_Split.calls (a0 a1 : ByteArray) (r : List ByteArray) (w : World) (h : strings_Split.f a0 a1 = some r) (ht_ : Tab w := by exact HT.out.on Pst.bel) :
    Calls Tryz.prog 23 #[.string a0, .string a1] w fun e w' => ∃ v0_ : Value, e = .returned v0_ ∧ Kd.R Kd.string 9 w' w.heap.size (fun _ => True) v0_ r ∧ Below w.heap.size w w' := by
 unfold strings_Split.f at h
 by_cases hb : a1 = ⟨#[32]⟩ ∧ a0.size ≤ 4294967280
 ·rw [if_pos hb] at h
  obtain rfl := Option.some.inj h
  obtain ⟨rfl, hs⟩ := hb
  obtain ⟨_, ⟨m, hm⟩, _⟩ := ht_
  refine (Tryz.strings_Split a0 ⟨#[32]⟩ m w (by omega) hm (by decide)).mono ?_
  rintro e w' ⟨rfl, rfl⟩
  have hlen := Lib.splitB_all ⟨#[32]⟩ (by decide) 0 _ a0 rfl
  refine ⟨_, rfl, ⟨fun _ _ => trivial, _, ?_, Kd.reps_scalar _⟩, below_alloc (Below.refl _ _) _⟩
  have hc := Lib.countB_le ⟨#[32]⟩ (by decide) _ a0 (Nat.le_refl _)
  have h2 := World.ownsRow_lit (base := w.heap.size) (e := 9) (size := 1) w ((Lib.splitB ⟨#[32]⟩ 0 (Lib.countB a0 ⟨#[32]⟩) a0).map Value.string).toArray (Lib.countB a0 ⟨#[32]⟩ + 1) (Nat.le_refl _) (by unfold maxLen; omega) (by simpa using hlen)
  rw [hlen]
  exact h2
 ·rw [if_neg hb] at h
  cases h

/-! ### impl_in: function 24 -/
def impl_in.f (a0 : Int) (a1 : Int) (a2 : Int) : Option (Bool) := if a0 ≥ a1 then (some (decide (a0 ≤ a2))) else (some false)
theorem impl_in.calls (a0 : Int) (a1 : Int) (a2 : Int) (r : Bool) (w : World) (h : impl_in.f a0 a1 a2 = some r) :
    Calls Tryz.prog 24 #[.int .i64 a0, .int .i64 a1, .int .i64 a2] w fun e w' => e = .returned (.bool r) ∧ Drawn0 w w' := by
 have H : (if a0 ≥ a1 then (some (decide (a0 ≤ a2))) else (some false)) = some r := h
 clear h
 by_cases c4 : a0 ≥ a1
 ·rw [if_pos c4] at H
  have c4b0 : decide (a1 ≤ a0) = true := decide_eq_true c4
  clear c4
  obtain rfl := Option.some.inj H
  go_enter Tryz.func24, Tryz.ntmps24
  go_wp2
  go_ret
  exact ⟨Pst.e2, by repeat (first | exact Drawn0.refl _ | apply Drawn0.step)⟩
 ·rw [if_neg c4] at H
  have c4b0 : decide (a1 ≤ a0) = false := decide_eq_false c4
  clear c4
  obtain rfl := Option.some.inj H
  go_enter Tryz.func24, Tryz.ntmps24
  go_wp2
  go_ret
  exact ⟨Pst.e2, by repeat (first | exact Drawn0.refl _ | apply Drawn0.step)⟩

/-! ### slices_Clone_Goal: function 50 -/
def slices_Clone_Goal.f (l0 : List S82) : Option (List S82) := if l0.length ≤ 4398046511104 then some l0 else none
theorem slices_Clone_Goal.calls (A0 : Option Addr) (c0 : Nat) (l0 : List (S82)) (r : List S82) (w : World) (hr0 : Kd.C k82 w A0 l0.length l0) (_hc0 : l0.length ≤ c0) (h : slices_Clone_Goal.f l0 = some r) :
    Calls Tryz.prog 50 #[.slice A0 l0.length c0] w fun e w' => ∃ v0_ : Value, e = .returned v0_ ∧ Kd.R k82 82 w' w.heap.size (fun _ => True) v0_ r ∧ Below w.heap.size w w' := by
 unfold slices_Clone_Goal.f at h
 by_cases hb : l0.length ≤ 4398046511104
 ·rw [if_pos hb] at h
  obtain rfl := Option.some.inj h
  have q30 : ∀ (w : World) (a : Option Addr) (n c n' c' : Nat), (binOp .eql 34 (.slice a n c) (.slice none n' c')).run Tryz.prog w = .ok (.bool a.isNone) w := fun w a n c n' c' => Lib.run_eql_slice_nil w _ _ a n c n' c' Tryz.underlying34
  have HR := Pst.A hr0
  have HL := Pst.A hb
  clear h hb hr0
  cases A0 with
  | none =>
   have h0 : l0 = [] := by
    rcases Nat.eq_zero_or_pos l0.length with h0 | h0
    ·exact List.eq_nil_of_length_eq_zero h0
    ·obtain ⟨_, h, _⟩ := HR.out.2.2 h0
     cases h
   subst h0
   go_enter Tryz.func50, Tryz.ntmps50
   go_wp2
   go_ret
   exact ⟨_, rfl, Kd.R_nil _ _ _ _ _, Below.refl _ _⟩
  | some ad =>
   go_enter Tryz.func50, Tryz.ntmps50
   go_wp2_with (first
    | ((with_reducible refine gate_dst (N := 5) rfl ?_); refine Kd.R_lit k82 _ 82 ?hg (N := 5) ?hd (xs := ([] : List S82)) (inner := []) (ok := fun _ => True) (okp := fun _ => True) ?hr ?hp (fun _ hk => hk) trivial (Below.refl _ _) (Nat.le_refl _) (by simp) ?_; (case hd => rfl); (case hg => rfl); (case hr => exact Pst.gr); (case hp => exact (Reps.none _ _)); intro v5 w5 ho5 hb5 hg5 hnew5; have HO := Pst.A ho5; have HB := Pst.A hb5; have HN := Pst.A hnew5; clear ho5 hb5 hg5 hnew5)
    | ((with_reducible refine gate_dst (N := 7) rfl ?_); refine Kd.R_append_rows k82 (Rr := k82.K _) w.heap.size ?hg _ _ 34 82 (.agg #[(.string ⟨#[]⟩), (.int .i64 0), (.int .i64 0)]) 32 rfl Tryz.underlying34 ?hinfo ?hz (by decide) (by decide) _ [] l0 (some ad) l0.length c0 (fun _ => True) (fun k => False) rfl rfl HO.out (Kd.C_below HR.out HB.out) ?hkm (fun _ hk => hk.elim) (fun _ _ => trivial) HB.out HB.out.size ?hl ?_; (case hg => rfl); (case hinfo => exact info82); (case hz => rfl); (case hkm => exact fun _ _ hk => hk); (case hl => have := HL.out; simp; omega); intro v7 w7 ho7 hb7 _ _; have HO7 := Pst.A ho7; have HB7 := Pst.A hb7; clear ho7 hb7)
    | (fail))
   go_ret
   exact ⟨_, rfl, HO7.out, HB7.out⟩
 ·rw [if_neg hb] at h
  cases h

/-! ### slices_Clone_Policy: function 76 -/
def slices_Clone_Policy.f (l0 : List S102) : Option (List S102) := if l0.length ≤ 5864062014805 then some l0 else none
theorem slices_Clone_Policy.calls (A0 : Option Addr) (c0 : Nat) (l0 : List (S102)) (r : List S102) (w : World) (hr0 : Kd.C k102 w A0 l0.length l0) (_hc0 : l0.length ≤ c0) (h : slices_Clone_Policy.f l0 = some r) :
    Calls Tryz.prog 76 #[.slice A0 l0.length c0] w fun e w' => ∃ v0_ : Value, e = .returned v0_ ∧ Kd.R k102 102 w' w.heap.size (fun _ => True) v0_ r ∧ Below w.heap.size w w' := by
 unfold slices_Clone_Policy.f at h
 by_cases hb : l0.length ≤ 5864062014805
 ·rw [if_pos hb] at h
  obtain rfl := Option.some.inj h
  have q30 : ∀ (w : World) (a : Option Addr) (n c n' c' : Nat), (binOp .eql 35 (.slice a n c) (.slice none n' c')).run Tryz.prog w = .ok (.bool a.isNone) w := fun w a n c n' c' => Lib.run_eql_slice_nil w _ _ a n c n' c' Tryz.underlying35
  have HR := Pst.A hr0
  have HL := Pst.A hb
  clear h hb hr0
  cases A0 with
  | none =>
   have h0 : l0 = [] := by
    rcases Nat.eq_zero_or_pos l0.length with h0 | h0
    ·exact List.eq_nil_of_length_eq_zero h0
    ·obtain ⟨_, h, _⟩ := HR.out.2.2 h0
     cases h
   subst h0
   go_enter Tryz.func76, Tryz.ntmps76
   go_wp2
   go_ret
   exact ⟨_, rfl, Kd.R_nil _ _ _ _ _, Below.refl _ _⟩
  | some ad =>
   go_enter Tryz.func76, Tryz.ntmps76
   go_wp2_with (first
    | ((with_reducible refine gate_dst (N := 5) rfl ?_); refine Kd.R_lit k102 _ 102 ?hg (N := 5) ?hd (xs := ([] : List S102)) (inner := []) (ok := fun _ => True) (okp := fun _ => True) ?hr ?hp (fun _ hk => hk) trivial (Below.refl _ _) (Nat.le_refl _) (by simp) ?_; (case hd => rfl); (case hg => rfl); (case hr => exact Pst.gr); (case hp => exact (Reps.none _ _)); intro v5 w5 ho5 hb5 hg5 hnew5; have HO := Pst.A ho5; have HB := Pst.A hb5; have HN := Pst.A hnew5; clear ho5 hb5 hg5 hnew5)
    | ((with_reducible refine gate_dst (N := 7) rfl ?_); refine Kd.R_append_rows k102 (Rr := k102.K _) w.heap.size ?hg _ _ 35 102 (.agg #[(.int .i64 0), (.int .i64 0), (.int .i64 0)]) 24 rfl Tryz.underlying35 ?hinfo ?hz (by decide) (by decide) _ [] l0 (some ad) l0.length c0 (fun _ => True) (fun k => False) rfl rfl HO.out (Kd.C_below HR.out HB.out) ?hkm (fun _ hk => hk.elim) (fun _ _ => trivial) HB.out HB.out.size ?hl ?_; (case hg => rfl); (case hinfo => exact info102); (case hz => rfl); (case hkm => exact fun _ _ hk => hk); (case hl => have := HL.out; simp; omega); intro v7 w7 ho7 hb7 _ _; have HO7 := Pst.A ho7; have HB7 := Pst.A hb7; clear ho7 hb7)
    | (fail))
   go_ret
   exact ⟨_, rfl, HO7.out, HB7.out⟩
 ·rw [if_neg hb] at h
  cases h

/-! ### impl_ownSide: function 51 -/
def impl_ownSide.f (l0_0 : List (S102)) (a0_1 : Int) (a0_2 : Int) : Option ((List (S102)) × Int × Int) := (slices_Clone_Policy.f l0_0).bind fun t114 => (some (t114, a0_1, a0_2))
theorem impl_ownSide.calls (A0_0 : Option Addr) (c0_0 : Nat) (l0_0 : List (S102)) (a0_1 : Int) (a0_2 : Int) (r1 : List (S102)) (r2 : Int) (r3 : Int) (w : World) (hr0_0 : Kd.C k102 w A0_0 l0_0.length l0_0) (hc0_0 : l0_0.length ≤ c0_0) (h : impl_ownSide.f l0_0 a0_1 a0_2 = some (r1, r2, r3)) :
    Calls Tryz.prog 51 #[.agg #[.slice A0_0 l0_0.length c0_0, .int .i64 a0_1, .int .i64 a0_2]] w fun e w' => ∃ v0_ : Value, e = .returned (.agg #[v0_, .int .i64 r2, .int .i64 r3]) ∧ Kd.R k102 102 w' w.heap.size (fun _ => True) v0_ r1 ∧ Below w.heap.size w w' := by
 have hu37 := Tryz.underlying37
 have HR0_0 := Pst.A hr0_0
 have HC0_0 := Pst.A hc0_0
 clear hr0_0 hc0_0
 have HB := Pst.A (Below.refl w.heap.size w)
 have H : ((slices_Clone_Policy.f l0_0).bind fun t114 => (some (t114, a0_1, a0_2))) = some (r1, r2, r3) := h
 clear h
 obtain ⟨t114, A20, H⟩ := Pst.bd H
 have A2 := Pst.A A20
 clear A20
 simp only [Option.some.injEq, Prod.mk.injEq] at H
 obtain ⟨rfl, rfl, rfl⟩ := H
 go_enter Tryz.func51, Tryz.ntmps51
 go_wp2_with (first | ((with_reducible refine gate_dst (N := 1) rfl ?_); refine Pst.bx 1 #[.slice A0_0 l0_0.length c0_0, .int .i64 a0_1, .int .i64 a0_2] 37 ?_; intro gb112 hg w3 hbox hb; have BK112 := Pst.A hbox; have GW112 := Pst.A (Pst.gs hg : w.heap.size ≤ gb112); have GE112 := Pst.A (Pst.gs hg : w.heap.size ≤ gb112); replace HB := Pst.A (below_step Pst.bel hb); clear hb hbox hg) | ((with_reducible refine gate_dst (N := 2) rfl ?_); refine Pst.bx 2 #[.slice none 0 0, .int .i64 0, .int .i64 0] 37 ?_; intro gb113 hg w4 hbox hb; have BK113 := Pst.A hbox; have GW113 := Pst.A (Pst.gs hg : w.heap.size ≤ gb113); have GE113 := Pst.A (Pst.gs hg : w.heap.size ≤ gb113); have NB112_113 := Pst.A (Pst.nl BK112.out hg); have NB113_112 := Pst.A (Pst.nr BK112.out hg); replace BK112 := Pst.A (Pst.kb BK112.out hb); replace HB := Pst.A (below_step Pst.bes hb); clear hb hbox hg; have hnb5 := NB112_113.out; have hnc5 := NB113_112.out; obtain ⟨_,_,_⟩ := Pst.c3 BK112.out; obtain ⟨_,_,_⟩ := Pst.f3 BK112.out) | ((with_reducible refine gate_callee (f := 76) rfl ?_); refine goesL_ (some 5) rfl rfl Tryz.func76 (by kernel_rfl) rfl #[.slice A0_0 l0_0.length c0_0] rfl Pst.ga ?_; (with_reducible refine (slices_Clone_Policy.calls _ _ l0_0 t114 _ ?side1 ?side2 A2.out).mono ?_); (case side1 => exact Pst.qc (Kd.C_below HR0_0.out HB.out)); (case side2 => exact HC0_0.out); rintro e w7 ⟨v115, rfl, ho0, hb⟩; refine ⟨_, rfl, ?_⟩; have HO116 := Pst.A (Kd.R_lower ho0 (below_size Pst.bes)); replace BK112 := Pst.A (Pst.kb BK112.out hb); replace BK113 := Pst.A (Pst.kb BK113.out hb); replace HB := Pst.A (below_step Pst.bes hb); (try clear hb); (try clear hb2); (try clear hk); (try clear hi); (try clear ho0); obtain ⟨Ao8, co8, eo8⟩ := Kd.R_slice HO116.out; subst eo8; obtain ⟨_,_,_⟩ := Pst.c3 BK112.out; obtain ⟨_,_,_⟩ := Pst.f3 BK112.out; obtain ⟨_,_,_⟩ := Pst.c3 BK113.out; obtain ⟨_,_,_⟩ := Pst.f3 BK113.out))
 refine bodyPost_ret (results_cell_row rfl _ _ gb113 37 #[.slice Ao8 t114.length co8, .int .i64 a0_1, .int .i64 a0_2] (0, 0) _ rfl (by (with_reducible repeat (first | refine blk_drewN ?_ _ | refine blk_drew ?_ | refine blk_alloc ?_ _)); refine blk_put (cs := #[.slice Ao8 t114.length co8, .int .i64 a0_1, .int .i64 0]) ?_ 2 _ rfl; (with_reducible repeat (first | refine blk_drewN ?_ _ | refine blk_drew ?_ | refine blk_alloc ?_ _)); refine blk_put (cs := #[.slice Ao8 t114.length co8, .int .i64 0, .int .i64 0]) ?_ 1 _ rfl; (with_reducible repeat (first | refine blk_drewN ?_ _ | refine blk_drew ?_ | refine blk_alloc ?_ _)); refine blk_put (cs := #[.slice none 0 0, .int .i64 0, .int .i64 0]) ?_ 0 _ rfl; (with_reducible repeat (first | refine blk_drewN ?_ _ | refine blk_drew ?_ | refine blk_alloc ?_ _)); refine blk_far ?_ NB113_112.out _; exact Pst.qb BK113.out) Tryz.underlying37 rfl (by kernel_rfl)) rfl ?_
 exact ⟨_, Pst.e1, by (with_reducible repeat (first | apply Kd.R_alloc | apply Kd.R_drewN | apply Kd.R_drew)); exact Kd.R_mono (Kd.R_far (p := ⟨gb113, 2, none⟩) (Kd.R_far (p := ⟨gb113, 1, none⟩) (Kd.R_far (p := ⟨gb113, 0, none⟩) (Kd.R_far (p := ⟨gb112, 0, none⟩) (Kd.R_types (Kd.R_types HO116.out BK112.out (by decide)) BK113.out (by decide)) (fun _ hk => hk.1.2) (.slice Ao8 t114.length co8)) (fun _ hk => hk.2) (.slice Ao8 t114.length co8)) (fun _ hk => hk.2) (.int .i64 a0_1)) (fun _ hk => hk.2) (.int .i64 a0_2)) (fun _ hk => trivial), Pst.bes⟩

/-! ### impl_ownSetup: function 25 -/
def impl_ownSetup.f (a0_0 : Int) (a0_1 : Int) (a0_2 : Int) (l0_3 : List (S82)) (l0_4 : List (S102)) (a0_5 : Int) (a0_6 : Int) (l0_7 : List (S102)) (a0_8 : Int) (a0_9 : Int) (a0_10 : Int) (a0_11 : Int) : Option (Int × Int × Int × (List (S82)) × (List (S102)) × Int × Int × (List (S102)) × Int × Int × Int × Int) := (slices_Clone_Goal.f l0_3).bind fun t119 => ((impl_ownSide.f l0_4 a0_5 a0_6).bind fun bt122 => ((impl_ownSide.f l0_7 a0_8 a0_9).bind fun bt127 => (some (a0_0, a0_1, a0_2, t119, bt122.1, bt122.2.1, bt122.2.2, bt127.1, bt127.2.1, bt127.2.2, a0_10, a0_11))))
theorem impl_ownSetup.calls (a0_0 : Int) (a0_1 : Int) (a0_2 : Int) (A0_3 : Option Addr) (c0_3 : Nat) (l0_3 : List (S82)) (A0_4 : Option Addr) (c0_4 : Nat) (l0_4 : List (S102)) (a0_5 : Int) (a0_6 : Int) (A0_7 : Option Addr) (c0_7 : Nat) (l0_7 : List (S102)) (a0_8 : Int) (a0_9 : Int) (a0_10 : Int) (a0_11 : Int) (r1 : Int) (r2 : Int) (r3 : Int) (r4 : List (S82)) (r5 : List (S102)) (r6 : Int) (r7 : Int) (r8 : List (S102)) (r9 : Int) (r10 : Int) (r11 : Int) (r12 : Int) (w : World) (hr0_3 : Kd.C k82 w A0_3 l0_3.length l0_3) (hc0_3 : l0_3.length ≤ c0_3) (hr0_4 : Kd.C k102 w A0_4 l0_4.length l0_4) (hc0_4 : l0_4.length ≤ c0_4) (hr0_7 : Kd.C k102 w A0_7 l0_7.length l0_7) (hc0_7 : l0_7.length ≤ c0_7) (h : impl_ownSetup.f a0_0 a0_1 a0_2 l0_3 l0_4 a0_5 a0_6 l0_7 a0_8 a0_9 a0_10 a0_11 = some (r1, r2, r3, r4, r5, r6, r7, r8, r9, r10, r11, r12)) :
 Calls Tryz.prog 25 #[.agg #[.int .i64 a0_0, .int .i64 a0_1, .int .i64 a0_2, .slice A0_3 l0_3.length c0_3, .slice A0_4 l0_4.length c0_4, .int .i64 a0_5, .int .i64 a0_6, .slice A0_7 l0_7.length c0_7, .int .i64 a0_8, .int .i64 a0_9, .int .i64 a0_10, .int .i64 a0_11]] w fun e w' => ∃ v3_ v4_ v7_ : Value, e = .returned (.agg #[.int .i64 r1, .int .i64 r2, .int .i64 r3, v3_, v4_, .int .i64 r6, .int .i64 r7, v7_, .int .i64 r9, .int .i64 r10, .int .i64 r11, .int .i64 r12]) ∧ Kd.R k82 82 w' w.heap.size (fun _ => True) v3_ r4 ∧ Kd.R k102 102 w' w.heap.size (fun k_ => some k_ ≠ (v7_ : Value).ownBlock) v4_ r5 ∧ Kd.R k102 102 w' w.heap.size (fun k_ => some k_ ≠ (v4_ : Value).ownBlock) v7_ r8 ∧ Below w.heap.size w w' := by
 have hu41 := Tryz.underlying41
 have hu37 := Tryz.underlying37
 have HR0_3 := Pst.A hr0_3
 have HC0_3 := Pst.A hc0_3
 clear hr0_3 hc0_3
 have HR0_4 := Pst.A hr0_4
 have HC0_4 := Pst.A hc0_4
 clear hr0_4 hc0_4
 have HR0_7 := Pst.A hr0_7
 have HC0_7 := Pst.A hc0_7
 clear hr0_7 hc0_7
 have HB := Pst.A (Below.refl w.heap.size w)
 have H : ((slices_Clone_Goal.f l0_3).bind fun t119 => ((impl_ownSide.f l0_4 a0_5 a0_6).bind fun bt122 => ((impl_ownSide.f l0_7 a0_8 a0_9).bind fun bt127 => (some (a0_0, a0_1, a0_2, t119, bt122.1, bt122.2.1, bt122.2.2, bt127.1, bt127.2.1, bt127.2.2, a0_10, a0_11))))) = some (r1, r2, r3, r4, r5, r6, r7, r8, r9, r10, r11, r12) := h
 clear h
 obtain ⟨t119, A20, H⟩ := Pst.bd H
 have A2 := Pst.A A20
 clear A20
 obtain ⟨⟨t122, t125, t126⟩, A30, H⟩ := Pst.bd H
 replace H : ((impl_ownSide.f l0_7 a0_8 a0_9).bind fun bt127 => (some (a0_0, a0_1, a0_2, t119, t122, t125, t126, bt127.1, bt127.2.1, bt127.2.2, a0_10, a0_11))) = some (r1, r2, r3, r4, r5, r6, r7, r8, r9, r10, r11, r12) := H
 have A3 := Pst.A A30
 clear A30
 obtain ⟨⟨t127, t130, t131⟩, A40, H⟩ := Pst.bd H
 replace H : (some (a0_0, a0_1, a0_2, t119, t122, t125, t126, t127, t130, t131, a0_10, a0_11)) = some (r1, r2, r3, r4, r5, r6, r7, r8, r9, r10, r11, r12) := H
 have A4 := Pst.A A40
 clear A40
 simp only [Option.some.injEq, Prod.mk.injEq] at H
 obtain ⟨rfl, rfl, rfl, rfl, rfl, rfl, rfl, rfl, rfl, rfl, rfl, rfl⟩ := H
 go_enter Tryz.func25, Tryz.ntmps25
 go_wp2_with (first | ((with_reducible refine gate_dst (N := 1) rfl ?_); refine Pst.bx 1 #[.int .i64 a0_0, .int .i64 a0_1, .int .i64 a0_2, .slice A0_3 l0_3.length c0_3, .slice A0_4 l0_4.length c0_4, .int .i64 a0_5, .int .i64 a0_6, .slice A0_7 l0_7.length c0_7, .int .i64 a0_8, .int .i64 a0_9, .int .i64 a0_10, .int .i64 a0_11] 41 ?_; intro gb117 hg w5 hbox hb; have BK117 := Pst.A hbox; have GW117 := Pst.A (Pst.gs hg : w.heap.size ≤ gb117); have GE117 := Pst.A (Pst.gs hg : w.heap.size ≤ gb117); replace HB := Pst.A (below_step Pst.bel hb); clear hb hbox hg) | ((with_reducible refine gate_dst (N := 2) rfl ?_); refine Pst.bx 2 #[.int .i64 0, .int .i64 0, .int .i64 0, .slice none 0 0, .slice none 0 0, .int .i64 0, .int .i64 0, .slice none 0 0, .int .i64 0, .int .i64 0, .int .i64 0, .int .i64 0] 41 ?_; intro gb118 hg w6 hbox hb; have BK118 := Pst.A hbox; have GW118 := Pst.A (Pst.gs hg : w.heap.size ≤ gb118); have GE118 := Pst.A (Pst.gs hg : w.heap.size ≤ gb118); have NB117_118 := Pst.A (Pst.nl BK117.out hg); have NB118_117 := Pst.A (Pst.nr BK117.out hg); replace BK117 := Pst.A (Pst.kb BK117.out hb); replace HB := Pst.A (below_step Pst.bes hb); clear hb hbox hg; have hnb7 := NB117_118.out; have hnc7 := NB118_117.out; obtain ⟨_,_,_,_,_,_,_,_,_,_,_,_⟩ := Pst.c12 BK117.out; obtain ⟨_,_,_,_,_,_,_,_,_,_,_,_⟩ := Pst.f12 BK117.out) | ((with_reducible refine gate_callee (f := 50) rfl ?_); refine goesL_ (some 5) rfl rfl Tryz.func50 (by kernel_rfl) rfl #[.slice A0_3 l0_3.length c0_3] rfl Pst.ga ?_; (with_reducible refine (slices_Clone_Goal.calls _ _ l0_3 t119 _ ?side1 ?side2 A2.out).mono ?_); (case side1 => exact Pst.qc (Kd.C_below HR0_3.out HB.out)); (case side2 => exact HC0_3.out); rintro e w9 ⟨v120, rfl, ho0, hb⟩; refine ⟨_, rfl, ?_⟩; have HO121 := Pst.A (Kd.R_lower ho0 (below_size Pst.bes)); replace BK117 := Pst.A (Pst.kb BK117.out hb); replace BK118 := Pst.A (Pst.kb BK118.out hb); replace HB := Pst.A (below_step Pst.bes hb); (try clear hb); (try clear hb2); (try clear hk); (try clear hi); (try clear ho0); obtain ⟨Ao10, co10, eo10⟩ := Kd.R_slice HO121.out; subst eo10; obtain ⟨_,_,_,_,_,_,_,_,_,_,_,_⟩ := Pst.c12 BK117.out; obtain ⟨_,_,_,_,_,_,_,_,_,_,_,_⟩ := Pst.f12 BK117.out) | ((with_reducible refine gate_callee (f := 51) rfl ?_); refine goesL_ (some 10) rfl rfl Tryz.func51 (by kernel_rfl) rfl #[.agg #[.slice A0_4 l0_4.length c0_4, .int .i64 a0_5, .int .i64 a0_6]] rfl Pst.ga ?_; (with_reducible refine (impl_ownSide.calls _ _ l0_4 a0_5 a0_6 t122 t125 t126 _ ?side1 ?side2 A3.out).mono ?_); (case side1 => exact Kd.C_below HR0_4.out Pst.bes); (case side2 => exact HC0_4.out); rintro e w12 ⟨v123, rfl, ho0, hb⟩; refine ⟨_, rfl, ?_⟩; have HO124 := Pst.A (Kd.R_lower ho0 (below_size Pst.bes)); replace HO121 := Pst.A (Kd.R_below (by (with_reducible repeat (first | apply Kd.R_alloc | apply Kd.R_drewN | apply Kd.R_drew)); exact (Kd.R_mono (Kd.R_far (p := ⟨gb117, 3, none⟩) (Kd.R_types HO121.out BK117.out (by decide)) (fun _ hk => hk.2) (.slice Ao10 t119.length co10)) (fun _ h_ => h_.1))) hb); replace BK117 := Pst.A (blk_below (g := gb117) (o := .cells #[.int .i64 a0_0, .int .i64 a0_1, .int .i64 a0_2, .slice Ao10 t119.length co10, .slice A0_4 l0_4.length c0_4, .int .i64 a0_5, .int .i64 a0_6, .slice A0_7 l0_7.length c0_7, .int .i64 a0_8, .int .i64 a0_9, .int .i64 a0_10, .int .i64 a0_11] 41 (0, 0)) (by (with_reducible repeat (first | refine blk_drewN ?_ _ | refine blk_drew ?_ | refine blk_alloc ?_ _)); refine blk_put (cs := #[.int .i64 a0_0, .int .i64 a0_1, .int .i64 a0_2, .slice A0_3 l0_3.length c0_3, .slice A0_4 l0_4.length c0_4, .int .i64 a0_5, .int .i64 a0_6, .slice A0_7 l0_7.length c0_7, .int .i64 a0_8, .int .i64 a0_9, .int .i64 a0_10, .int .i64 a0_11]) ?_ 3 _ rfl; exact Pst.qb BK117.out) hb); replace BK118 := Pst.A (Pst.kf BK118.out hb); replace HB := Pst.A (below_step Pst.bes hb); (try clear hb); (try clear hb2); (try clear hk); (try clear hi); (try clear ho0); obtain ⟨Ao13, co13, eo13⟩ := Kd.R_slice HO124.out; subst eo13; obtain ⟨_,_,_,_,_,_,_,_,_,_,_,_⟩ := Pst.c12 BK117.out; obtain ⟨_,_,_,_,_,_,_,_,_,_,_,_⟩ := Pst.f12 BK117.out) | ((with_reducible refine gate_callee (f := 51) rfl ?_); refine goesL_ (some 16) rfl rfl Tryz.func51 (by kernel_rfl) rfl #[.agg #[.slice A0_7 l0_7.length c0_7, .int .i64 a0_8, .int .i64 a0_9]] rfl Pst.ga ?_; (with_reducible refine (impl_ownSide.calls _ _ l0_7 a0_8 a0_9 t127 t130 t131 _ ?side1 ?side2 A4.out).mono ?_); (case side1 => exact Kd.C_below HR0_7.out Pst.bes); (case side2 => exact HC0_7.out); rintro e w15 ⟨v128, rfl, ho0, hb⟩; refine ⟨_, rfl, ?_⟩; have HO129 := Pst.A (Kd.R_lower (Kd.R_new' ho0 (Kd.R_lt (by (with_reducible repeat (first | apply Kd.R_alloc | apply Kd.R_drewN | apply Kd.R_drew)); exact (Kd.R_mono (Kd.R_far (p := ⟨gb117, 6, none⟩) (Kd.R_far (p := ⟨gb117, 5, none⟩) (Kd.R_far (p := ⟨gb117, 4, none⟩) (Kd.R_types HO124.out BK117.out (by decide)) (fun _ hk => hk.2) (.slice Ao13 t122.length co13)) (fun _ hk => hk.2) (.int .i64 t125)) (fun _ hk => hk.2) (.int .i64 t126)) (fun _ h_ => h_.1))))) (below_size Pst.bes)); replace HO121 := Pst.A (Kd.R_below (by (with_reducible repeat (first | apply Kd.R_alloc | apply Kd.R_drewN | apply Kd.R_drew)); exact (Kd.R_mono (Kd.R_far (p := ⟨gb117, 6, none⟩) (Kd.R_far (p := ⟨gb117, 5, none⟩) (Kd.R_far (p := ⟨gb117, 4, none⟩) (Kd.R_types HO121.out BK117.out (by decide)) (fun _ hk => hk.2) (.slice Ao13 t122.length co13)) (fun _ hk => hk.2) (.int .i64 t125)) (fun _ hk => hk.2) (.int .i64 t126)) (fun _ h_ => h_.1))) hb); replace HO124 := Pst.A (Kd.R_elder' (by (with_reducible repeat (first | apply Kd.R_alloc | apply Kd.R_drewN | apply Kd.R_drew)); exact (Kd.R_mono (Kd.R_far (p := ⟨gb117, 6, none⟩) (Kd.R_far (p := ⟨gb117, 5, none⟩) (Kd.R_far (p := ⟨gb117, 4, none⟩) (Kd.R_types HO124.out BK117.out (by decide)) (fun _ hk => hk.2) (.slice Ao13 t122.length co13)) (fun _ hk => hk.2) (.int .i64 t125)) (fun _ hk => hk.2) (.int .i64 t126)) (fun _ h_ => h_.1))) (Kd.R_base ho0) hb); replace BK117 := Pst.A (blk_below (g := gb117) (o := .cells #[.int .i64 a0_0, .int .i64 a0_1, .int .i64 a0_2, .slice Ao10 t119.length co10, .slice Ao13 t122.length co13, .int .i64 t125, .int .i64 t126, .slice A0_7 l0_7.length c0_7, .int .i64 a0_8, .int .i64 a0_9, .int .i64 a0_10, .int .i64 a0_11] 41 (0, 0)) (by (with_reducible repeat (first | refine blk_drewN ?_ _ | refine blk_drew ?_ | refine blk_alloc ?_ _)); refine blk_put (cs := #[.int .i64 a0_0, .int .i64 a0_1, .int .i64 a0_2, .slice Ao10 t119.length co10, .slice Ao13 t122.length co13, .int .i64 t125, .int .i64 a0_6, .slice A0_7 l0_7.length c0_7, .int .i64 a0_8, .int .i64 a0_9, .int .i64 a0_10, .int .i64 a0_11]) ?_ 6 _ rfl; (with_reducible repeat (first | refine blk_drewN ?_ _ | refine blk_drew ?_ | refine blk_alloc ?_ _)); refine blk_put (cs := #[.int .i64 a0_0, .int .i64 a0_1, .int .i64 a0_2, .slice Ao10 t119.length co10, .slice Ao13 t122.length co13, .int .i64 a0_5, .int .i64 a0_6, .slice A0_7 l0_7.length c0_7, .int .i64 a0_8, .int .i64 a0_9, .int .i64 a0_10, .int .i64 a0_11]) ?_ 5 _ rfl; (with_reducible repeat (first | refine blk_drewN ?_ _ | refine blk_drew ?_ | refine blk_alloc ?_ _)); refine blk_put (cs := #[.int .i64 a0_0, .int .i64 a0_1, .int .i64 a0_2, .slice Ao10 t119.length co10, .slice A0_4 l0_4.length c0_4, .int .i64 a0_5, .int .i64 a0_6, .slice A0_7 l0_7.length c0_7, .int .i64 a0_8, .int .i64 a0_9, .int .i64 a0_10, .int .i64 a0_11]) ?_ 4 _ rfl; exact Pst.qb BK117.out) hb); replace BK118 := Pst.A (Pst.kf BK118.out hb); replace HB := Pst.A (below_step Pst.bes hb); (try clear hb); (try clear hb2); (try clear hk); (try clear hi); (try clear ho0); obtain ⟨Ao16, co16, eo16⟩ := Kd.R_slice HO129.out; subst eo16; obtain ⟨_,_,_,_,_,_,_,_,_,_,_,_⟩ := Pst.c12 BK117.out; obtain ⟨_,_,_,_,_,_,_,_,_,_,_,_⟩ := Pst.f12 BK117.out; obtain ⟨_,_,_,_,_,_,_,_,_,_,_,_⟩ := Pst.c12 BK118.out; obtain ⟨_,_,_,_,_,_,_,_,_,_,_,_⟩ := Pst.f12 BK118.out))
 refine bodyPost_ret (results_cell_row rfl _ _ gb118 41 #[.int .i64 a0_0, .int .i64 a0_1, .int .i64 a0_2, .slice Ao10 t119.length co10, .slice Ao13 t122.length co13, .int .i64 t125, .int .i64 t126, .slice Ao16 t127.length co16, .int .i64 t130, .int .i64 t131, .int .i64 a0_10, .int .i64 a0_11] (0, 0) _ rfl (by (with_reducible repeat (first | refine blk_drewN ?_ _ | refine blk_drew ?_ | refine blk_alloc ?_ _)); refine blk_put (cs := #[.int .i64 a0_0, .int .i64 a0_1, .int .i64 a0_2, .slice Ao10 t119.length co10, .slice Ao13 t122.length co13, .int .i64 t125, .int .i64 t126, .slice Ao16 t127.length co16, .int .i64 t130, .int .i64 t131, .int .i64 a0_10, .int .i64 0]) ?_ 11 _ rfl; (with_reducible repeat (first | refine blk_drewN ?_ _ | refine blk_drew ?_ | refine blk_alloc ?_ _)); refine blk_put (cs := #[.int .i64 a0_0, .int .i64 a0_1, .int .i64 a0_2, .slice Ao10 t119.length co10, .slice Ao13 t122.length co13, .int .i64 t125, .int .i64 t126, .slice Ao16 t127.length co16, .int .i64 t130, .int .i64 t131, .int .i64 0, .int .i64 0]) ?_ 10 _ rfl; (with_reducible repeat (first | refine blk_drewN ?_ _ | refine blk_drew ?_ | refine blk_alloc ?_ _)); refine blk_put (cs := #[.int .i64 a0_0, .int .i64 a0_1, .int .i64 a0_2, .slice Ao10 t119.length co10, .slice Ao13 t122.length co13, .int .i64 t125, .int .i64 t126, .slice Ao16 t127.length co16, .int .i64 t130, .int .i64 0, .int .i64 0, .int .i64 0]) ?_ 9 _ rfl; (with_reducible repeat (first | refine blk_drewN ?_ _ | refine blk_drew ?_ | refine blk_alloc ?_ _)); refine blk_put (cs := #[.int .i64 a0_0, .int .i64 a0_1, .int .i64 a0_2, .slice Ao10 t119.length co10, .slice Ao13 t122.length co13, .int .i64 t125, .int .i64 t126, .slice Ao16 t127.length co16, .int .i64 0, .int .i64 0, .int .i64 0, .int .i64 0]) ?_ 8 _ rfl; (with_reducible repeat (first | refine blk_drewN ?_ _ | refine blk_drew ?_ | refine blk_alloc ?_ _)); refine blk_put (cs := #[.int .i64 a0_0, .int .i64 a0_1, .int .i64 a0_2, .slice Ao10 t119.length co10, .slice Ao13 t122.length co13, .int .i64 t125, .int .i64 t126, .slice none 0 0, .int .i64 0, .int .i64 0, .int .i64 0, .int .i64 0]) ?_ 7 _ rfl; (with_reducible repeat (first | refine blk_drewN ?_ _ | refine blk_drew ?_ | refine blk_alloc ?_ _)); refine blk_put (cs := #[.int .i64 a0_0, .int .i64 a0_1, .int .i64 a0_2, .slice Ao10 t119.length co10, .slice Ao13 t122.length co13, .int .i64 t125, .int .i64 0, .slice none 0 0, .int .i64 0, .int .i64 0, .int .i64 0, .int .i64 0]) ?_ 6 _ rfl; (with_reducible repeat (first | refine blk_drewN ?_ _ | refine blk_drew ?_ | refine blk_alloc ?_ _)); refine blk_put (cs := #[.int .i64 a0_0, .int .i64 a0_1, .int .i64 a0_2, .slice Ao10 t119.length co10, .slice Ao13 t122.length co13, .int .i64 0, .int .i64 0, .slice none 0 0, .int .i64 0, .int .i64 0, .int .i64 0, .int .i64 0]) ?_ 5 _ rfl; (with_reducible repeat (first | refine blk_drewN ?_ _ | refine blk_drew ?_ | refine blk_alloc ?_ _)); refine blk_put (cs := #[.int .i64 a0_0, .int .i64 a0_1, .int .i64 a0_2, .slice Ao10 t119.length co10, .slice none 0 0, .int .i64 0, .int .i64 0, .slice none 0 0, .int .i64 0, .int .i64 0, .int .i64 0, .int .i64 0]) ?_ 4 _ rfl; (with_reducible repeat (first | refine blk_drewN ?_ _ | refine blk_drew ?_ | refine blk_alloc ?_ _)); refine blk_put (cs := #[.int .i64 a0_0, .int .i64 a0_1, .int .i64 a0_2, .slice none 0 0, .slice none 0 0, .int .i64 0, .int .i64 0, .slice none 0 0, .int .i64 0, .int .i64 0, .int .i64 0, .int .i64 0]) ?_ 3 _ rfl; (with_reducible repeat (first | refine blk_drewN ?_ _ | refine blk_drew ?_ | refine blk_alloc ?_ _)); refine blk_put (cs := #[.int .i64 a0_0, .int .i64 a0_1, .int .i64 0, .slice none 0 0, .slice none 0 0, .int .i64 0, .int .i64 0, .slice none 0 0, .int .i64 0, .int .i64 0, .int .i64 0, .int .i64 0]) ?_ 2 _ rfl; (with_reducible repeat (first | refine blk_drewN ?_ _ | refine blk_drew ?_ | refine blk_alloc ?_ _)); refine blk_put (cs := #[.int .i64 a0_0, .int .i64 0, .int .i64 0, .slice none 0 0, .slice none 0 0, .int .i64 0, .int .i64 0, .slice none 0 0, .int .i64 0, .int .i64 0, .int .i64 0, .int .i64 0]) ?_ 1 _ rfl; (with_reducible repeat (first | refine blk_drewN ?_ _ | refine blk_drew ?_ | refine blk_alloc ?_ _)); refine blk_put (cs := #[.int .i64 0, .int .i64 0, .int .i64 0, .slice none 0 0, .slice none 0 0, .int .i64 0, .int .i64 0, .slice none 0 0, .int .i64 0, .int .i64 0, .int .i64 0, .int .i64 0]) ?_ 0 _ rfl; (with_reducible repeat (first | refine blk_drewN ?_ _ | refine blk_drew ?_ | refine blk_alloc ?_ _)); refine blk_far ?_ NB118_117.out _; (with_reducible repeat (first | refine blk_drewN ?_ _ | refine blk_drew ?_ | refine blk_alloc ?_ _)); refine blk_far ?_ NB118_117.out _; (with_reducible repeat (first | refine blk_drewN ?_ _ | refine blk_drew ?_ | refine blk_alloc ?_ _)); refine blk_far ?_ NB118_117.out _; exact Pst.qb BK118.out) Tryz.underlying41 rfl (by kernel_rfl)) rfl ?_
 exact ⟨_, _, _, Pst.e1, by (with_reducible repeat (first | apply Kd.R_alloc | apply Kd.R_drewN | apply Kd.R_drew)); exact Kd.R_mono (Kd.R_far (p := ⟨gb118, 11, none⟩) (Kd.R_far (p := ⟨gb118, 10, none⟩) (Kd.R_far (p := ⟨gb118, 9, none⟩) (Kd.R_far (p := ⟨gb118, 8, none⟩) (Kd.R_far (p := ⟨gb118, 7, none⟩) (Kd.R_far (p := ⟨gb118, 6, none⟩) (Kd.R_far (p := ⟨gb118, 5, none⟩) (Kd.R_far (p := ⟨gb118, 4, none⟩) (Kd.R_far (p := ⟨gb118, 3, none⟩) (Kd.R_far (p := ⟨gb118, 2, none⟩) (Kd.R_far (p := ⟨gb118, 1, none⟩) (Kd.R_far (p := ⟨gb118, 0, none⟩) (Kd.R_far (p := ⟨gb117, 9, none⟩) (Kd.R_far (p := ⟨gb117, 8, none⟩) (Kd.R_far (p := ⟨gb117, 7, none⟩) (Kd.R_types (Kd.R_types HO121.out BK117.out (by decide)) BK118.out (by decide)) (fun _ hk => hk.1.2) (.slice Ao16 t127.length co16)) (fun _ hk => hk.1.2) (.int .i64 t130)) (fun _ hk => hk.1.2) (.int .i64 t131)) (fun _ hk => hk.2) (.int .i64 a0_0)) (fun _ hk => hk.2) (.int .i64 a0_1)) (fun _ hk => hk.2) (.int .i64 a0_2)) (fun _ hk => hk.2) (.slice Ao10 t119.length co10)) (fun _ hk => hk.2) (.slice Ao13 t122.length co13)) (fun _ hk => hk.2) (.int .i64 t125)) (fun _ hk => hk.2) (.int .i64 t126)) (fun _ hk => hk.2) (.slice Ao16 t127.length co16)) (fun _ hk => hk.2) (.int .i64 t130)) (fun _ hk => hk.2) (.int .i64 t131)) (fun _ hk => hk.2) (.int .i64 a0_10)) (fun _ hk => hk.2) (.int .i64 a0_11)) (fun _ hk => trivial), by (with_reducible repeat (first | apply Kd.R_alloc | apply Kd.R_drewN | apply Kd.R_drew)); exact Kd.R_mono (Kd.R_far (p := ⟨gb118, 11, none⟩) (Kd.R_far (p := ⟨gb118, 10, none⟩) (Kd.R_far (p := ⟨gb118, 9, none⟩) (Kd.R_far (p := ⟨gb118, 8, none⟩) (Kd.R_far (p := ⟨gb118, 7, none⟩) (Kd.R_far (p := ⟨gb118, 6, none⟩) (Kd.R_far (p := ⟨gb118, 5, none⟩) (Kd.R_far (p := ⟨gb118, 4, none⟩) (Kd.R_far (p := ⟨gb118, 3, none⟩) (Kd.R_far (p := ⟨gb118, 2, none⟩) (Kd.R_far (p := ⟨gb118, 1, none⟩) (Kd.R_far (p := ⟨gb118, 0, none⟩) (Kd.R_far (p := ⟨gb117, 9, none⟩) (Kd.R_far (p := ⟨gb117, 8, none⟩) (Kd.R_far (p := ⟨gb117, 7, none⟩) (Kd.R_types (Kd.R_types HO124.out BK117.out (by decide)) BK118.out (by decide)) (fun _ hk => hk.1.2) (.slice Ao16 t127.length co16)) (fun _ hk => hk.1.2) (.int .i64 t130)) (fun _ hk => hk.1.2) (.int .i64 t131)) (fun _ hk => hk.2) (.int .i64 a0_0)) (fun _ hk => hk.2) (.int .i64 a0_1)) (fun _ hk => hk.2) (.int .i64 a0_2)) (fun _ hk => hk.2) (.slice Ao10 t119.length co10)) (fun _ hk => hk.2) (.slice Ao13 t122.length co13)) (fun _ hk => hk.2) (.int .i64 t125)) (fun _ hk => hk.2) (.int .i64 t126)) (fun _ hk => hk.2) (.slice Ao16 t127.length co16)) (fun _ hk => hk.2) (.int .i64 t130)) (fun _ hk => hk.2) (.int .i64 t131)) (fun _ hk => hk.2) (.int .i64 a0_10)) (fun _ hk => hk.2) (.int .i64 a0_11)) (fun _ hk => hk.1.1.2), by (with_reducible repeat (first | apply Kd.R_alloc | apply Kd.R_drewN | apply Kd.R_drew)); exact Kd.R_mono (Kd.R_far (p := ⟨gb118, 11, none⟩) (Kd.R_far (p := ⟨gb118, 10, none⟩) (Kd.R_far (p := ⟨gb118, 9, none⟩) (Kd.R_far (p := ⟨gb118, 8, none⟩) (Kd.R_far (p := ⟨gb118, 7, none⟩) (Kd.R_far (p := ⟨gb118, 6, none⟩) (Kd.R_far (p := ⟨gb118, 5, none⟩) (Kd.R_far (p := ⟨gb118, 4, none⟩) (Kd.R_far (p := ⟨gb118, 3, none⟩) (Kd.R_far (p := ⟨gb118, 2, none⟩) (Kd.R_far (p := ⟨gb118, 1, none⟩) (Kd.R_far (p := ⟨gb118, 0, none⟩) (Kd.R_far (p := ⟨gb117, 9, none⟩) (Kd.R_far (p := ⟨gb117, 8, none⟩) (Kd.R_far (p := ⟨gb117, 7, none⟩) (Kd.R_types (Kd.R_types HO129.out BK117.out (by decide)) BK118.out (by decide)) (fun _ hk => hk.1.2) (.slice Ao16 t127.length co16)) (fun _ hk => hk.1.2) (.int .i64 t130)) (fun _ hk => hk.1.2) (.int .i64 t131)) (fun _ hk => hk.2) (.int .i64 a0_0)) (fun _ hk => hk.2) (.int .i64 a0_1)) (fun _ hk => hk.2) (.int .i64 a0_2)) (fun _ hk => hk.2) (.slice Ao10 t119.length co10)) (fun _ hk => hk.2) (.slice Ao13 t122.length co13)) (fun _ hk => hk.2) (.int .i64 t125)) (fun _ hk => hk.2) (.int .i64 t126)) (fun _ hk => hk.2) (.slice Ao16 t127.length co16)) (fun _ hk => hk.2) (.int .i64 t130)) (fun _ hk => hk.2) (.int .i64 t131)) (fun _ hk => hk.2) (.int .i64 a0_10)) (fun _ hk => hk.2) (.int .i64 a0_11)) (fun _ hk => hk.1.1.2), Pst.bes⟩

/-! ### impl_atoi: function 26 -/
/-- The number of a text, 0 where it has none. -/
def atoiOr (l : List UInt8) : Int := match Lib.atoiAll l with | .ok v => v | _ => 0
def impl_atoi.f (a0 : ByteArray) : Option Int := if a0.size ≤ 4294967280 then some (atoiOr a0.data.toList) else none
theorem impl_atoi.calls (a0 : ByteArray) (r : Int) (w : World) (h : impl_atoi.f a0 = some r) (ht_ : Tab w := by exact HT.out.on Pst.bel) :
    Calls Tryz.prog 26 #[.string a0] w fun e w' => e = .returned (.int .i64 r) ∧ Below w.heap.size w w' := by
 unfold impl_atoi.f at h
 by_cases hb : a0.size ≤ 4294967280
 ·rw [if_pos hb] at h
  obtain rfl := Option.some.inj h
  obtain ⟨_, _, ⟨ev0, hv0, he0⟩, ev1, hv1, he1⟩ := ht_
  clear h
  cases h : Lib.atoiAll a0.data.toList with
  | ok v =>
   have hr : atoiOr a0.data.toList = v := by simp only [atoiOr, h]
   rw [hr]
   go_enter Tryz.func26, Tryz.ntmps26
   go_wp2_with (go_at_call 52; refine (Tryz.strconv_Atoi_ok a0 (by omega) v h _).mono ?_; rintro e w' ⟨rfl, hw⟩)
   go_ret
   refine ⟨rfl, ?_⟩
   rcases hw with rfl | ⟨t, rfl⟩
   ·exact Below.refl _ _
   ·exact Lib.bytesWorld_below _ _ _
  | range =>
   have hr : atoiOr a0.data.toList = 0 := by simp only [atoiOr, h]
   rw [hr]
   go_enter Tryz.func26, Tryz.ntmps26
   go_wp2_with (go_at_call 52; refine (Tryz.strconv_Atoi_range a0 (by omega) h ev1 _ ?_ he1).mono ?_)
   ·exact hv1
   rintro e W1 ⟨N, rfl, -, -, hb1⟩
   go_wp2
   go_ret
   exact ⟨rfl, hb1⟩
  | _ =>
   have hr : atoiOr a0.data.toList = 0 := by simp only [atoiOr, h]
   rw [hr]
   go_enter Tryz.func26, Tryz.ntmps26
   go_wp2_with (go_at_call 52; refine (Tryz.strconv_Atoi_syntax a0 (by omega) h ev0 _ ?_ he0).mono ?_)
   ·exact hv0
   rintro e W1 ⟨N, rfl, -, -, hb1⟩
   go_wp2
   go_ret
   exact ⟨rfl, hb1⟩
 ·rw [if_neg hb] at h
  cases h

/-! ### strings_TrimSuffix: function 27 -/
def strings_TrimSuffix.f (a0 a1 : ByteArray) : Option ByteArray := if a0.size ≤ 4294967280 then some ⟨(Lib.trimSuffix a0.data.toList a1.data.toList).toArray⟩ else none
theorem strings_TrimSuffix.calls (a0 a1 : ByteArray) (r : ByteArray) (w : World) (h : strings_TrimSuffix.f a0 a1 = some r) :
    Calls Tryz.prog 27 #[.string a0, .string a1] w fun e w' => e = .returned (.string r) ∧ Below w.heap.size w w' := by
 unfold strings_TrimSuffix.f at h
 by_cases hb : a0.size ≤ 4294967280
 ·rw [if_pos hb] at h
  obtain rfl := Option.some.inj h
  refine (Tryz.strings_TrimSuffix a0 a1 w (by omega)).mono ?_
  rintro e w' ⟨rfl, rfl⟩
  exact ⟨rfl, Below.refl _ _⟩
 ·rw [if_neg hb] at h
  cases h

/-! ### impl_isValue: function 56 -/
def impl_isValue.f (a0 : Int) : Option (Bool) := (impl_in.f a0 (-1000000000) 1000000000).bind fun t132 => (some t132)
theorem impl_isValue.calls (a0 : Int) (r : Bool) (w : World) (h : impl_isValue.f a0 = some r) :
    Calls Tryz.prog 56 #[.int .i64 a0] w fun e w' => e = .returned (.bool r) ∧ Drawn0 w w' := by
 have H : ((impl_in.f a0 (-1000000000) 1000000000).bind fun t132 => (some t132)) = some r := h
 clear h
 obtain ⟨t132, A20, H⟩ := Pst.bd H
 have A2 := Pst.A A20
 clear A20
 obtain rfl := Option.some.inj H
 go_enter Tryz.func56, Tryz.ntmps56
 go_wp2_with (first | ((with_reducible refine gate_callee (f := 24) rfl ?_); refine goesL_ (some 4) rfl rfl Tryz.func24 (by kernel_rfl) rfl #[.int .i64 a0, .int .i64 (-1000000000), .int .i64 1000000000] rfl Pst.ga ?_; (with_reducible refine (impl_in.calls a0 (-1000000000) 1000000000 t132 _ A2.out).mono ?_); rintro e w' ⟨rfl, ⟨nd, rfl⟩⟩; refine ⟨_, rfl, ?_⟩))
 go_ret
 exact ⟨Pst.e2, by repeat (first | exact Drawn0.refl _ | apply Drawn0.step)⟩

/-! ### strings_TrimRight: function 83 -/
def strings_TrimRight.f (a0 a1 : ByteArray) : Option ByteArray := if a1 = ⟨#[48]⟩ ∧ a0.size ≤ 9223372036854775807 then some ⟨(Lib.trimRightB a0.data.toList 48).toArray⟩ else none
theorem strings_TrimRight.calls (a0 a1 : ByteArray) (r : ByteArray) (w : World) (h : strings_TrimRight.f a0 a1 = some r) :
    Calls Tryz.prog 83 #[.string a0, .string a1] w fun e w' => e = .returned (.string r) ∧ Below w.heap.size w w' := by
 unfold strings_TrimRight.f at h
 by_cases hb : a1 = ⟨#[48]⟩ ∧ a0.size ≤ 9223372036854775807
 ·rw [if_pos hb] at h
  obtain rfl := Option.some.inj h
  obtain ⟨rfl, hs⟩ := hb
  refine (Tryz.strings_TrimRight_one a0 48 (by decide) w hs).mono ?_
  rintro e w' ⟨rfl, rfl⟩
  exact ⟨rfl, Below.refl _ _⟩
 ·rw [if_neg hb] at h
  cases h

/-! ### impl_MilliText: function 57 -/
def impl_MilliText.j0 : Nat → Int → ByteArray → Option (ByteArray)
 | 0, _, _ => none
 | k + 1, x0, x3 => (strconv_Itoa.f (wrap64 (Int.tdiv x0 1000))).bind fun t134 => (if x3.size + t134.size ≤ 9223372036854775807 then (if (Int.tmod x0 1000) = 0 then (some (x3 ++ t134)) else (if (x3 ++ t134).size + 1 ≤ 9223372036854775807 then ((strconv_Itoa.f (wrap64 (1000 + (Int.tmod x0 1000)))).bind fun t135 => (if 1 ≤ (t135.size : Int) then ((strings_TrimRight.f (t135.extract 1 t135.size) (⟨#[48]⟩ : ByteArray)).bind fun t136 => (if ((x3 ++ t134) ++ (⟨#[46]⟩ : ByteArray)).size + t136.size ≤ 9223372036854775807 then (some (((x3 ++ t134) ++ (⟨#[46]⟩ : ByteArray)) ++ t136)) else (none))) else (none))) else (none))) else (none))
def impl_MilliText.f (k : Nat) (a0 : Int) : Option (ByteArray) := (impl_isValue.f a0).bind fun t133 => (if t133 = true then (if a0 < 0 then (impl_MilliText.j0 k (wrap64 (-a0)) (⟨#[45]⟩ : ByteArray)) else (impl_MilliText.j0 k a0 (⟨#[]⟩ : ByteArray))) else (some (⟨#[]⟩ : ByteArray)))
theorem impl_MilliText.mono_l : ∀ k, (∀ y0 y1, LeO (impl_MilliText.j0 k y0 y1) (impl_MilliText.j0 (k + 1) y0 y1))
 | 0 => fun _ _ r h => by simp [impl_MilliText.j0] at h
 | k + 1 => by
  have ih0 := impl_MilliText.mono_l k
  ·intro y0 y1
   unfold impl_MilliText.j0
   exact Pst.mo
theorem impl_MilliText.mono : ∀ a0 k, LeO (impl_MilliText.f k a0) (impl_MilliText.f (k + 1) a0) := by
 intro a0 k
 have ih0 := impl_MilliText.mono_l k
 unfold impl_MilliText.f
 exact Pst.mo
theorem impl_MilliText.calls (k : Nat) (a0 : Int) (r : ByteArray) (w : World) (h : impl_MilliText.f k a0 = some r) (tab_ : Tab w := by exact HT.out.on Pst.bel) :
    Calls Tryz.prog 57 #[.int .i64 a0] w fun e w' => e = .returned (.string r) ∧ Below w.heap.size w w' := by
 have HT := Pst.A tab_
 clear tab_
 have HB := Pst.A (Below.refl w.heap.size w)
 have H : ((impl_isValue.f a0).bind fun t133 => (if t133 = true then (if a0 < 0 then (impl_MilliText.j0 k (wrap64 (-a0)) (⟨#[45]⟩ : ByteArray)) else (impl_MilliText.j0 k a0 (⟨#[]⟩ : ByteArray))) else (some (⟨#[]⟩ : ByteArray)))) = some r := h
 clear h
 obtain ⟨t133, A20, H⟩ := Pst.bd H
 have A2 := Pst.A A20
 clear A20
 by_cases c3 : t133 = true
 ·subst c3
  rw [if_pos rfl] at H
  have HC4 := Pst.A H
  clear H
  go_enter Tryz.func57, Tryz.ntmps57
  go_upto_if 8 with (first | ((with_reducible refine gate_callee (f := 56) rfl ?_); refine goesL_ (some 5) rfl rfl Tryz.func56 (by kernel_rfl) rfl #[.int .i64 a0] rfl Pst.ga ?_; (with_reducible refine (impl_isValue.calls a0 true _ A2.out).mono ?_); rintro e w' ⟨rfl, ⟨nd, rfl⟩⟩; refine ⟨_, rfl, ?_⟩))
  (try simp only [Act.put, List.setIfInBounds_toArray, List.set_cons_zero, List.set_cons_succ])
  go_cut [0, 3] (fun v0 v3 wc => ∃ (kq : Nat) (x0_3 : Int) (x3_3 : ByteArray), v0 = .int .i64 x0_3 ∧ v3 = .string x3_3 ∧ Aside0 (impl_MilliText.j0 kq x0_3 x3_3 = some r) ∧ Aside0 (kq ≤ k) ∧ Aside0 (Below w.heap.size w wc))
  case first =>
   have H := HC4.out
   clear HC4
   by_cases c5 : a0 < 0
   ·rw [if_pos c5] at H
    have c5b0 : decide (a0 < 0) = true := decide_eq_true c5
    clear c5
    (first | rw [c5b0] | (simp only [i64_w, i32_w]; rw [c5b0]) | skip)
    have H' := Pst.A H
    clear H
    go_wp2
    go_meet
    case rel => exact ⟨_, (wrap64 (-a0)), ((⟨#[45]⟩ : ByteArray)), Pst.e2, Pst.e2, H', ⟨by first | omega | exact Nat.le_refl _⟩, ⟨Pst.bel⟩⟩
   ·rw [if_neg c5] at H
    have c5b0 : decide (a0 < 0) = false := decide_eq_false c5
    clear c5
    (first | rw [c5b0] | (simp only [i64_w, i32_w]; rw [c5b0]) | skip)
    have H' := Pst.A H
    clear H
    go_wp2
    go_meet
    case rel => exact ⟨_, (a0), ((⟨#[]⟩ : ByteArray)), Pst.e2, Pst.e2, H', ⟨by first | omega | exact Nat.le_refl _⟩, ⟨Pst.bel⟩⟩
  clear HC4
  try clear p2
  try clear c3
  try clear c5
  try clear c5b0
  obtain ⟨kq, x0_3, x3_3, rfl, rfl, HA, HJ3, HB⟩ := hcut
  cases kq with
  | zero => exact absurd HA.out (by simp [impl_MilliText.j0])
  | succ kj3 =>
   have H := HA.out
   clear HA
   simp only [impl_MilliText.j0] at H
   obtain ⟨t134, A60, H⟩ := Pst.bd H
   have A6 := Pst.A A60
   clear A60
   by_cases c7 : x3_3.size + t134.size ≤ 9223372036854775807
   ·rw [if_pos c7] at H
    have c7b0 := eq_true c7
    have c7b1 : decide (x3_3.size + t134.size ≤ 9223372036854775807) = true := decide_eq_true c7
    try have c7b2 : (9223372036854775807 < x3_3.size + t134.size) = False := eq_false (Nat.not_lt.2 c7)
    by_cases c8 : (Int.tmod x0_3 1000) = 0
    ·rw [if_pos c8] at H
     have c8b0 : ((Int.tmod x0_3 1000) == 0) = true := beq_iff_eq.mpr c8
     have c8b1 : ((Int.tmod x0_3 1000) != 0) = false := bne_eq_false_iff_eq.mpr c8
     clear c8
     obtain rfl := Option.some.inj H
     go_wp2_with (first | ((with_reducible refine gate_callee (f := 82) rfl ?_); refine goesL_ (some 14) rfl rfl Tryz.func82 (by kernel_rfl) rfl #[.int .i64 (wrap64 (Int.tdiv x0_3 1000))] rfl Pst.ga ?_; (with_reducible refine (strconv_Itoa.calls (wrap64 (Int.tdiv x0_3 1000)) t134 _ A6.out).mono ?_); rintro e w9 ⟨rfl, hb⟩; refine ⟨_, rfl, ?_⟩; replace HB := Pst.A (below_step Pst.bel hb); (try clear hb); (try clear hb2); (try clear hk); (try clear hi)))
     go_ret
     exact ⟨Pst.e1, Pst.bel⟩
    ·rw [if_neg c8] at H
     have c8b0 : ((Int.tmod x0_3 1000) == 0) = false := beq_eq_false_iff_ne.mpr c8
     have c8b1 : ((Int.tmod x0_3 1000) != 0) = true := bne_iff_ne.mpr c8
     by_cases c10 : (x3_3 ++ t134).size + 1 ≤ 9223372036854775807
     ·rw [if_pos c10] at H
      have c10b0 := eq_true c10
      have c10b1 : decide ((x3_3 ++ t134).size + 1 ≤ 9223372036854775807) = true := decide_eq_true c10
      try have c10b2 : (9223372036854775807 < (x3_3 ++ t134).size + 1) = False := eq_false (Nat.not_lt.2 c10)
      try have c10b3 : (9223372036854775807 < x3_3.size + t134.size + 1) = False := by rw [show x3_3.size + t134.size + 1 = (x3_3 ++ t134).size + 1 from (by first | (simp only [ByteArray.size_append]; done) | (simp only [ByteArray.size_append]; rfl) | rfl)]; exact c10b2
      obtain ⟨t135, A110, H⟩ := Pst.bd H
      have A11 := Pst.A A110
      clear A110
      by_cases c12 : 1 ≤ (t135.size : Int)
      ·rw [if_pos c12] at H
       have c12b0 := eq_true c12
       have c12b1 : decide (1 ≤ (t135.size : Int)) = true := decide_eq_true c12
       clear c12
       obtain ⟨t136, A130, H⟩ := Pst.bd H
       have A13 := Pst.A A130
       clear A130
       by_cases c14 : ((x3_3 ++ t134) ++ (⟨#[46]⟩ : ByteArray)).size + t136.size ≤ 9223372036854775807
       ·rw [if_pos c14] at H
        have c14b0 := eq_true c14
        have c14b1 : decide (((x3_3 ++ t134) ++ (⟨#[46]⟩ : ByteArray)).size + t136.size ≤ 9223372036854775807) = true := decide_eq_true c14
        try have c14b2 : (9223372036854775807 < ((x3_3 ++ t134) ++ (⟨#[46]⟩ : ByteArray)).size + t136.size) = False := eq_false (Nat.not_lt.2 c14)
        try have c14b3 : (9223372036854775807 < x3_3.size + t134.size + 1 + t136.size) = False := by rw [show x3_3.size + t134.size + 1 + t136.size = ((x3_3 ++ t134) ++ (⟨#[46]⟩ : ByteArray)).size + t136.size from (by first | (simp only [ByteArray.size_append]; done) | (simp only [ByteArray.size_append]; rfl) | rfl)]; exact c14b2
        obtain rfl := Option.some.inj H
        go_wp2_with (first | ((with_reducible refine gate_callee (f := 82) rfl ?_); refine goesL_ (some 14) rfl rfl Tryz.func82 (by kernel_rfl) rfl #[.int .i64 (wrap64 (Int.tdiv x0_3 1000))] rfl Pst.ga ?_; (with_reducible refine (strconv_Itoa.calls (wrap64 (Int.tdiv x0_3 1000)) t134 _ A6.out).mono ?_); rintro e w15 ⟨rfl, hb⟩; refine ⟨_, rfl, ?_⟩; replace HB := Pst.A (below_step Pst.bel hb); (try clear hb); (try clear hb2); (try clear hk); (try clear hi)) | ((with_reducible refine gate_callee (f := 82) rfl ?_); refine goesL_ (some 25) rfl rfl Tryz.func82 (by kernel_rfl) rfl #[.int .i64 (wrap64 (1000 + (Int.tmod x0_3 1000)))] rfl Pst.ga ?_; (with_reducible refine (strconv_Itoa.calls (wrap64 (1000 + (Int.tmod x0_3 1000))) t135 _ A11.out).mono ?_); rintro e w16 ⟨rfl, hb⟩; refine ⟨_, rfl, ?_⟩; replace HB := Pst.A (below_step Pst.bel hb); (try clear hb); (try clear hb2); (try clear hk); (try clear hi)) | ((with_reducible refine gate_callee (f := 83) rfl ?_); refine goesL_ (some 27) rfl rfl Tryz.func83 (by kernel_rfl) rfl #[.string (t135.extract 1 t135.size), .string (⟨#[48]⟩ : ByteArray)] rfl Pst.ga ?_; (with_reducible refine (strings_TrimRight.calls (t135.extract 1 t135.size) (⟨#[48]⟩ : ByteArray) t136 _ A13.out).mono ?_); rintro e w17 ⟨rfl, hb⟩; refine ⟨_, rfl, ?_⟩; replace HB := Pst.A (below_step Pst.bel hb); (try clear hb); (try clear hb2); (try clear hk); (try clear hi)))
        go_ret
        exact ⟨Pst.e1, Pst.bel⟩
       ·rw [if_neg c14] at H
        exact absurd H (by simp)
      ·rw [if_neg c12] at H
       exact absurd H (by simp)
     ·rw [if_neg c10] at H
      exact absurd H (by simp)
   ·rw [if_neg c7] at H
    exact absurd H (by simp)
 ·replace c3 := Bool.eq_false_iff.mpr c3
  subst c3
  rw [if_neg Pst.ft] at H
  obtain rfl := Option.some.inj H
  go_enter Tryz.func57, Tryz.ntmps57
  go_wp2_with (first | ((with_reducible refine gate_callee (f := 56) rfl ?_); refine goesL_ (some 5) rfl rfl Tryz.func56 (by kernel_rfl) rfl #[.int .i64 a0] rfl Pst.ga ?_; (with_reducible refine (impl_isValue.calls a0 false _ A2.out).mono ?_); rintro e w' ⟨rfl, ⟨nd, rfl⟩⟩; refine ⟨_, rfl, ?_⟩))
  go_ret
  exact ⟨Pst.e1, Pst.bel⟩
theorem impl_MilliText.j0.st {x0 : Int} {x3 : ByteArray} {r : (ByteArray)} (H : Ev (fun k => (strconv_Itoa.f (wrap64 (Int.tdiv x0 1000))).bind fun t134 => (if x3.size + t134.size ≤ 9223372036854775807 then (if (Int.tmod x0 1000) = 0 then (some (x3 ++ t134)) else (if (x3 ++ t134).size + 1 ≤ 9223372036854775807 then ((strconv_Itoa.f (wrap64 (1000 + (Int.tmod x0 1000)))).bind fun t135 => (if 1 ≤ (t135.size : Int) then ((strings_TrimRight.f (t135.extract 1 t135.size) (⟨#[48]⟩ : ByteArray)).bind fun t136 => (if ((x3 ++ t134) ++ (⟨#[46]⟩ : ByteArray)).size + t136.size ≤ 9223372036854775807 then (some (((x3 ++ t134) ++ (⟨#[46]⟩ : ByteArray)) ++ t136)) else (none))) else (none))) else (none))) else (none))) r) : Ev (fun k => impl_MilliText.j0 k x0 x3) r := Ev.step (fun k => impl_MilliText.j0.eq_2 x0 x3 k) H

/-! ### impl_ParseMilli: function 28 -/
/-- What is left of a text, parted at the dot: the whole part, and the part behind. -/
def milliPlain (a0 : ByteArray) : List UInt8 := Lib.trimPrefix a0.data.toList [45]
def milliWhole (a0 : ByteArray) : List UInt8 := (Lib.cut (milliPlain a0) [46]).1
def milliPart (a0 : ByteArray) : List UInt8 := (Lib.cut (milliPlain a0) [46]).2.1
def milliDigits (a0 : ByteArray) : List UInt8 := milliWhole a0 ++ (milliPart a0 ++ [48, 48, 48]).take 3
def impl_ParseMilli.t (k : Nat) (a0 : ByteArray) (n : Int) : Option (Int × Bool) := (impl_isValue.f n).bind fun t => if t = true then ((impl_MilliText.f k n).bind fun m => if m.toList = a0.toList then some (n, true) else some (0, false)) else some (0, false)
def impl_ParseMilli.f (k : Nat) (a0 : ByteArray) : Option (Int × Bool) :=
 if a0.size ≤ 4294967280 then
  if 7 < (milliWhole a0).length ∨ 3 < (milliPart a0).length then some (0, false)
  else match Lib.atoiAll (milliDigits a0) with
   | .ok v => if milliPlain a0 = a0.data.toList then impl_ParseMilli.t k a0 v else impl_ParseMilli.t k a0 (wrap64 (-v))
   | _ => some (0, false)
 else none
theorem impl_ParseMilli.mono_t (a0 : ByteArray) (n : Int) (k : Nat) : LeO (impl_ParseMilli.t k a0 n) (impl_ParseMilli.t (k + 1) a0 n) := by
 unfold impl_ParseMilli.t
 exact LeO.bind (LeO.refl _) fun _ => LeO.ite (LeO.bind (impl_MilliText.mono _ _) fun _ => LeO.refl _) (LeO.refl _)
theorem impl_ParseMilli.mono : ∀ a0 k, LeO (impl_ParseMilli.f k a0) (impl_ParseMilli.f (k + 1) a0) := by
 intro a0 k
 unfold impl_ParseMilli.f
 refine LeO.ite (LeO.ite (LeO.refl _) ?_) (LeO.refl _)
 cases Lib.atoiAll (milliDigits a0) with
 | ok v => exact LeO.ite (impl_ParseMilli.mono_t _ _ _) (impl_ParseMilli.mono_t _ _ _)
 | range => exact LeO.refl _
 | _ => exact LeO.refl _
--CALLS
theorem trimLe (a : List UInt8) : (Lib.trimPrefix a [45]).length ≤ a.length := by
 unfold Lib.trimPrefix
 split
 ·rw [List.length_drop]; omega
 ·exact Nat.le_refl _
theorem cutLe (a : List UInt8) : (Lib.cut a [46]).1.length ≤ a.length ∧ (Lib.cut a [46]).2.1.length ≤ a.length := by
 unfold Lib.cut
 split
 ·simp only [List.length_take, List.length_drop]; omega
 ·simp
theorem atoiBelow {w w1 : World} {e : TypeId} (h : w1 = w ∨ ∃ t, w1 = Lib.bytesWorld w e t) : Below w.heap.size w w1 := by
 rcases h with rfl | ⟨t, rfl⟩
 ·exact Below.refl _ _
 ·exact Lib.bytesWorld_below _ _ _
theorem impl_ParseMilli.calls (k : Nat) (a0 : ByteArray) (r1 : Int) (r2 : Bool) (w : World) (h : impl_ParseMilli.f k a0 = some (r1, r2)) (ht_ : Tab w := by exact HT.out.on Pst.bel) :
    Calls Tryz.prog 28 #[.string a0] w fun e w' => e = .returned (.tuple #[.int .i64 r1, .bool r2]) ∧ Below w.heap.size w w' := by
 have HT := Pst.A ht_
 clear ht_
 unfold impl_ParseMilli.f at h
 by_cases hb : a0.size ≤ 4294967280
 ·rw [if_pos hb] at h
  obtain ⟨p, hp⟩ : ∃ p : ByteArray, p = ⟨(milliPlain a0).toArray⟩ := ⟨_, rfl⟩
  obtain ⟨W, hW⟩ : ∃ W : ByteArray, W = ⟨(milliWhole a0).toArray⟩ := ⟨_, rfl⟩
  obtain ⟨T, hT⟩ : ∃ T : ByteArray, T = ⟨(milliPart a0).toArray⟩ := ⟨_, rfl⟩
  obtain ⟨B, hB⟩ : ∃ B : Bool, B = (Lib.cut (milliPlain a0) [46]).2.2 := ⟨_, rfl⟩
  have hps : p.size ≤ a0.size := by rw [hp]; exact trimLe _
  have c1 : ∀ w, Calls Tryz.prog 54 #[.string a0, .string ⟨#[45]⟩] w fun e w' => e = .returned (.string p) ∧ w' = w := fun w => by rw [hp]; exact Tryz.strings_TrimPrefix a0 ⟨#[45]⟩ w
  have c2 : ∀ w, Tab w → Calls Tryz.prog 55 #[.string p, .string ⟨#[46]⟩] w fun e w' => e = .returned (.tuple #[.string W, .string T, .bool B]) ∧ ∃ n, w' = w.drewN n := fun w ht => by
   obtain ⟨_, ⟨m, hm⟩, _⟩ := ht
   have := Tryz.strings_Cut p ⟨#[46]⟩ m w (by omega) hm
   rw [hW, hT, hB]
   rw [hp] at this ⊢
   exact this
  have lW : (milliWhole a0).length = W.size := by rw [hW]; rfl
  have lT : (milliPart a0).length = T.size := by rw [hT]; rfl
  have zW : W.size ≤ a0.size := by
   rw [← lW]; exact Nat.le_trans (cutLe (milliPlain a0)).1 (trimLe a0.data.toList)
  have zT : T.size ≤ a0.size := by
   rw [← lT]; exact Nat.le_trans (cutLe (milliPlain a0)).2 (trimLe a0.data.toList)
  rw [lW, lT] at h
  have hD : (W ++ (T ++ (⟨#[48, 48, 48]⟩ : ByteArray)).extract 0 3).data.toList = milliDigits a0 := by
   have e1 : ∀ s : ByteArray, (s.extract 0 3).data.toList = s.data.toList.take 3 := fun s => by simp
   rw [ByteArray.data_append, Array.toList_append, e1, ByteArray.data_append, Array.toList_append, hW, hT]
   rfl
  have hpe : (p.toList = a0.toList) = (milliPlain a0 = a0.data.toList) := by
   have e1 : ∀ s t : ByteArray, (s.toList = t.toList) = (s.data.toList = t.data.toList) := fun s t => by
    rw [ByteArray.toList_eq, ByteArray.toList_eq]
   rw [e1, hp]
  clear hW hT hB hp lW lT
  have C1 := Lib.hid c1
  have C2 := Lib.hid c2
  have HD := Lib.hid hD
  have HP := Lib.hid hpe
  clear c1 c2 hD hpe
  by_cases hl : 7 < W.size ∨ 3 < T.size
  ·rw [if_pos hl] at h
   obtain ⟨rfl, rfl⟩ : 0 = r1 ∧ false = r2 := by simpa using h
   clear h
   by_cases h7 : 7 < W.size
   ·have d7 : decide (7 < W.size) = true := decide_eq_true h7
    have e7 : decide (7 < (W.size : Int)) = true := decide_eq_true (by omega)
    clear hl h7
    go_enter Tryz.func28, Tryz.ntmps28
    go_wp2_with (first
     | (go_at_call 54; refine (C1.out _).mono ?_; rintro e w1 ⟨rfl, rfl⟩)
     | (go_at_call 55; refine (C2.out _ HT.out).mono ?_; rintro e w1 ⟨rfl, n, rfl⟩))
    go_ret2
    exact ⟨rfl, pw_below_drewN (Below.refl _ _) _⟩
   ·have d7 : decide (7 < W.size) = false := decide_eq_false h7
    have d3 : decide (3 < T.size) = true := decide_eq_true (hl.resolve_left h7)
    have e7 : decide (7 < (W.size : Int)) = false := decide_eq_false (by omega)
    have e3 : decide (3 < (T.size : Int)) = true := decide_eq_true (by have := hl.resolve_left h7; omega)
    clear hl h7
    go_enter Tryz.func28, Tryz.ntmps28
    go_wp2_with (first
     | (go_at_call 54; refine (C1.out _).mono ?_; rintro e w1 ⟨rfl, rfl⟩)
     | (go_at_call 55; refine (C2.out _ HT.out).mono ?_; rintro e w1 ⟨rfl, n, rfl⟩))
    go_ret2
    exact ⟨rfl, pw_below_drewN (Below.refl _ _) _⟩
  ·rw [if_neg hl] at h
   have d7 : decide (7 < W.size) = false := decide_eq_false (by omega)
   have d3 : decide (3 < T.size) = false := decide_eq_false (by omega)
   have e7 : decide (7 < (W.size : Int)) = false := decide_eq_false (by omega)
   have e3 : decide (3 < (T.size : Int)) = false := decide_eq_false (by omega)
   have s1 : (9223372036854775807 < T.size + 3) = False := eq_false (by omega)
   clear hl
   have hV : (W ++ (T ++ (⟨#[48, 48, 48]⟩ : ByteArray)).extract 0 3).size ≤ 10 := by
    rw [ByteArray.size_append, ByteArray.size_extract, ByteArray.size_append]
    have : (⟨#[48, 48, 48]⟩ : ByteArray).size = 3 := rfl
    simp only [decide_eq_false_iff_not] at d7 d3
    omega
   have HV := Lib.hid hV
   clear hV
   obtain ⟨_, _, ⟨ev0, hv0, he0⟩, ev1, hv1, he1⟩ := id HT.out
   have Hv0 := Lib.hid hv0
   have Hv1 := Lib.hid hv1
   clear hv0 hv1
   cases hA : Lib.atoiAll (milliDigits a0) with
   | range =>
    rw [hA] at h
    obtain ⟨rfl, rfl⟩ : 0 = r1 ∧ false = r2 := by simpa using h
    rw [← HD.out] at hA
    have HA := Lib.hid hA
    clear hA h
    go_enter Tryz.func28, Tryz.ntmps28
    go_wp2_with (first
        | (go_at_call 54; refine (C1.out _).mono ?_; rintro e w1 ⟨rfl, rfl⟩)
        | (go_at_call 55; refine (C2.out _ HT.out).mono ?_; rintro e w1 ⟨rfl, n, rfl⟩)
        | (go_at_call 52; refine (Tryz.strconv_Atoi_range _ (by have := HV.out; omega) HA.out ev1 _ (by exact Tab.cell (pw_below_drewN (Below.refl _ _) _) Hv1.out) he1).mono ?_; rintro e W1 ⟨N, rfl, -, -, hb1⟩))
    go_ret2
    exact ⟨rfl, below_step (pw_below_drewN (Below.refl _ _) _) hb1⟩
   | ok v =>
    rw [hA] at h
    rw [← HD.out] at hA
    have HA := Lib.hid hA
    clear hA
    by_cases hq : milliPlain a0 = a0.data.toList
    ·have h2 : impl_ParseMilli.t k a0 v = some (r1, r2) := by simpa [hq] using h
     have hpl : (p.toList != a0.toList) = false := by simpa using (iff_of_eq HP.out).2 hq
     have hpl2 : (p.toList == a0.toList) = true := by simpa using hpl
     have hpl3 : (!p.toList == a0.toList) = false := by rw [hpl2]; rfl
     clear h hq
     unfold impl_ParseMilli.t at h2
     obtain ⟨t, At, h2⟩ := Option.bind_eq_some_iff.1 h2
     replace At := Pst.A At
     cases t with
     | false =>
      obtain ⟨rfl, rfl⟩ : 0 = r1 ∧ false = r2 := by simpa using h2
      clear h2
      go_enter Tryz.func28, Tryz.ntmps28
      go_wp2_with (first
          | (go_at_call 54; refine (C1.out _).mono ?_; rintro e w1 ⟨rfl, rfl⟩)
          | (go_at_call 55; refine (C2.out _ HT.out).mono ?_; rintro e w1 ⟨rfl, n, rfl⟩)
          | (go_at_call 52; refine (Tryz.strconv_Atoi_ok _ (by have := HV.out; omega) v HA.out _).mono ?_; rintro e W1 ⟨rfl, hw1⟩; have HB := Pst.A (show Below w1.heap.size w1 W1 from below_step (pw_below_drewN (Below.refl _ _) _) (atoiBelow hw1)); clear hw1)
          | (go_at_call 56; refine (impl_isValue.calls v _ _ At.out).mono ?_; rintro e W2 ⟨rfl, ⟨nd, rfl⟩⟩)
          | (go_at_call 57; refine (impl_MilliText.calls k v m _ Am.out (HT.out.on Pst.bel)).mono ?_; rintro e W3 ⟨rfl, hb3⟩; have n_ := Pst.A (below_step Pst.bel hb3); clear HB hb3; have HB := n_; clear n_))
      go_ret2
      exact ⟨rfl, Pst.bel⟩
     | true =>
      obtain ⟨m, Am, h2⟩ := Option.bind_eq_some_iff.1 h2
      replace Am := Pst.A Am
      by_cases hm : m.toList = a0.toList
      ·obtain ⟨rfl, rfl⟩ : v = r1 ∧ true = r2 := by simpa [hm] using h2
       have hmb : (m.toList != a0.toList) = false := by simpa using hm
       have hmb2 : (m.toList == a0.toList) = true := by simpa using hmb
       have hmb3 : (!m.toList == a0.toList) = false := by rw [hmb2]; rfl
       clear h2 hm
       go_enter Tryz.func28, Tryz.ntmps28
       go_wp2_with (first
           | (go_at_call 54; refine (C1.out _).mono ?_; rintro e w1 ⟨rfl, rfl⟩)
           | (go_at_call 55; refine (C2.out _ HT.out).mono ?_; rintro e w1 ⟨rfl, n, rfl⟩)
           | (go_at_call 52; refine (Tryz.strconv_Atoi_ok _ (by have := HV.out; omega) v HA.out _).mono ?_; rintro e W1 ⟨rfl, hw1⟩; have HB := Pst.A (show Below w1.heap.size w1 W1 from below_step (pw_below_drewN (Below.refl _ _) _) (atoiBelow hw1)); clear hw1)
           | (go_at_call 56; refine (impl_isValue.calls v _ _ At.out).mono ?_; rintro e W2 ⟨rfl, ⟨nd, rfl⟩⟩)
           | (go_at_call 57; refine (impl_MilliText.calls k v m _ Am.out (HT.out.on Pst.bel)).mono ?_; rintro e W3 ⟨rfl, hb3⟩; have n_ := Pst.A (below_step Pst.bel hb3); clear HB hb3; have HB := n_; clear n_))
       go_ret2
       exact ⟨rfl, Pst.bel⟩
      ·obtain ⟨rfl, rfl⟩ : 0 = r1 ∧ false = r2 := by simpa [hm] using h2
       have hmb : (m.toList != a0.toList) = true := by simpa using hm
       have hmb2 : (m.toList == a0.toList) = false := by simpa using hmb
       have hmb3 : (!m.toList == a0.toList) = true := by rw [hmb2]; rfl
       clear h2 hm
       go_enter Tryz.func28, Tryz.ntmps28
       go_wp2_with (first
           | (go_at_call 54; refine (C1.out _).mono ?_; rintro e w1 ⟨rfl, rfl⟩)
           | (go_at_call 55; refine (C2.out _ HT.out).mono ?_; rintro e w1 ⟨rfl, n, rfl⟩)
           | (go_at_call 52; refine (Tryz.strconv_Atoi_ok _ (by have := HV.out; omega) v HA.out _).mono ?_; rintro e W1 ⟨rfl, hw1⟩; have HB := Pst.A (show Below w1.heap.size w1 W1 from below_step (pw_below_drewN (Below.refl _ _) _) (atoiBelow hw1)); clear hw1)
           | (go_at_call 56; refine (impl_isValue.calls v _ _ At.out).mono ?_; rintro e W2 ⟨rfl, ⟨nd, rfl⟩⟩)
           | (go_at_call 57; refine (impl_MilliText.calls k v m _ Am.out (HT.out.on Pst.bel)).mono ?_; rintro e W3 ⟨rfl, hb3⟩; have n_ := Pst.A (below_step Pst.bel hb3); clear HB hb3; have HB := n_; clear n_))
       go_ret2
       exact ⟨rfl, Pst.bel⟩
    ·have h2 : impl_ParseMilli.t k a0 (wrap64 (-v)) = some (r1, r2) := by simpa [hq] using h
     have hpl : (p.toList != a0.toList) = true := by simpa using fun e => hq ((iff_of_eq HP.out).1 e)
     have hpl2 : (p.toList == a0.toList) = false := by simpa using hpl
     have hpl3 : (!p.toList == a0.toList) = true := by rw [hpl2]; rfl
     clear h hq
     unfold impl_ParseMilli.t at h2
     obtain ⟨t, At, h2⟩ := Option.bind_eq_some_iff.1 h2
     replace At := Pst.A At
     cases t with
     | false =>
      obtain ⟨rfl, rfl⟩ : 0 = r1 ∧ false = r2 := by simpa using h2
      clear h2
      go_enter Tryz.func28, Tryz.ntmps28
      go_wp2_with (first
          | (go_at_call 54; refine (C1.out _).mono ?_; rintro e w1 ⟨rfl, rfl⟩)
          | (go_at_call 55; refine (C2.out _ HT.out).mono ?_; rintro e w1 ⟨rfl, n, rfl⟩)
          | (go_at_call 52; refine (Tryz.strconv_Atoi_ok _ (by have := HV.out; omega) v HA.out _).mono ?_; rintro e W1 ⟨rfl, hw1⟩; have HB := Pst.A (show Below w1.heap.size w1 W1 from below_step (pw_below_drewN (Below.refl _ _) _) (atoiBelow hw1)); clear hw1)
          | (go_at_call 56; refine (impl_isValue.calls (wrap64 (-v)) _ _ At.out).mono ?_; rintro e W2 ⟨rfl, ⟨nd, rfl⟩⟩)
          | (go_at_call 57; refine (impl_MilliText.calls k (wrap64 (-v)) m _ Am.out (HT.out.on Pst.bel)).mono ?_; rintro e W3 ⟨rfl, hb3⟩; have n_ := Pst.A (below_step Pst.bel hb3); clear HB hb3; have HB := n_; clear n_))
      go_ret2
      exact ⟨rfl, Pst.bel⟩
     | true =>
      obtain ⟨m, Am, h2⟩ := Option.bind_eq_some_iff.1 h2
      replace Am := Pst.A Am
      by_cases hm : m.toList = a0.toList
      ·obtain ⟨rfl, rfl⟩ : (wrap64 (-v)) = r1 ∧ true = r2 := by simpa [hm] using h2
       have hmb : (m.toList != a0.toList) = false := by simpa using hm
       have hmb2 : (m.toList == a0.toList) = true := by simpa using hmb
       have hmb3 : (!m.toList == a0.toList) = false := by rw [hmb2]; rfl
       clear h2 hm
       go_enter Tryz.func28, Tryz.ntmps28
       go_wp2_with (first
           | (go_at_call 54; refine (C1.out _).mono ?_; rintro e w1 ⟨rfl, rfl⟩)
           | (go_at_call 55; refine (C2.out _ HT.out).mono ?_; rintro e w1 ⟨rfl, n, rfl⟩)
           | (go_at_call 52; refine (Tryz.strconv_Atoi_ok _ (by have := HV.out; omega) v HA.out _).mono ?_; rintro e W1 ⟨rfl, hw1⟩; have HB := Pst.A (show Below w1.heap.size w1 W1 from below_step (pw_below_drewN (Below.refl _ _) _) (atoiBelow hw1)); clear hw1)
           | (go_at_call 56; refine (impl_isValue.calls (wrap64 (-v)) _ _ At.out).mono ?_; rintro e W2 ⟨rfl, ⟨nd, rfl⟩⟩)
           | (go_at_call 57; refine (impl_MilliText.calls k (wrap64 (-v)) m _ Am.out (HT.out.on Pst.bel)).mono ?_; rintro e W3 ⟨rfl, hb3⟩; have n_ := Pst.A (below_step Pst.bel hb3); clear HB hb3; have HB := n_; clear n_))
       go_ret2
       exact ⟨rfl, Pst.bel⟩
      ·obtain ⟨rfl, rfl⟩ : 0 = r1 ∧ false = r2 := by simpa [hm] using h2
       have hmb : (m.toList != a0.toList) = true := by simpa using hm
       have hmb2 : (m.toList == a0.toList) = false := by simpa using hmb
       have hmb3 : (!m.toList == a0.toList) = true := by rw [hmb2]; rfl
       clear h2 hm
       go_enter Tryz.func28, Tryz.ntmps28
       go_wp2_with (first
           | (go_at_call 54; refine (C1.out _).mono ?_; rintro e w1 ⟨rfl, rfl⟩)
           | (go_at_call 55; refine (C2.out _ HT.out).mono ?_; rintro e w1 ⟨rfl, n, rfl⟩)
           | (go_at_call 52; refine (Tryz.strconv_Atoi_ok _ (by have := HV.out; omega) v HA.out _).mono ?_; rintro e W1 ⟨rfl, hw1⟩; have HB := Pst.A (show Below w1.heap.size w1 W1 from below_step (pw_below_drewN (Below.refl _ _) _) (atoiBelow hw1)); clear hw1)
           | (go_at_call 56; refine (impl_isValue.calls (wrap64 (-v)) _ _ At.out).mono ?_; rintro e W2 ⟨rfl, ⟨nd, rfl⟩⟩)
           | (go_at_call 57; refine (impl_MilliText.calls k (wrap64 (-v)) m _ Am.out (HT.out.on Pst.bel)).mono ?_; rintro e W3 ⟨rfl, hb3⟩; have n_ := Pst.A (below_step Pst.bel hb3); clear HB hb3; have HB := n_; clear n_))
       go_ret2
       exact ⟨rfl, Pst.bel⟩

   | _ =>
    rw [hA] at h
    obtain ⟨rfl, rfl⟩ : 0 = r1 ∧ false = r2 := by simpa using h
    rw [← HD.out] at hA
    have HA := Lib.hid hA
    clear hA h
    go_enter Tryz.func28, Tryz.ntmps28
    go_wp2_with (first
        | (go_at_call 54; refine (C1.out _).mono ?_; rintro e w1 ⟨rfl, rfl⟩)
        | (go_at_call 55; refine (C2.out _ HT.out).mono ?_; rintro e w1 ⟨rfl, n, rfl⟩)
        | (go_at_call 52; refine (Tryz.strconv_Atoi_syntax _ (by have := HV.out; omega) HA.out ev0 _ (by exact Tab.cell (pw_below_drewN (Below.refl _ _) _) Hv0.out) he0).mono ?_; rintro e W1 ⟨N, rfl, -, -, hb1⟩))
    go_ret2
    exact ⟨rfl, below_step (pw_below_drewN (Below.refl _ _) _) hb1⟩
 ·rw [if_neg hb] at h
  cases h

/-! ### impl_NameOk: function 111 -/
def impl_NameOk.l0 : Nat → ByteArray → Int → Int → Option (Bool)
 | 0, _, _, _ => none
 | k + 1, x0, x6, x7 => if x7 < x6 then (if 0 ≤ x7 then (if x7 < (x0.size : Int) then (if (bt x0 x7) < 97 then (if (bt x0 x7) < 48 then (some false) else (if (bt x0 x7) > 57 then (some false) else (impl_NameOk.l0 k x0 x6 (wrap64 (x7 + 1))))) else (if (bt x0 x7) > 122 then (if (bt x0 x7) < 48 then (some false) else (if (bt x0 x7) > 57 then (some false) else (impl_NameOk.l0 k x0 x6 (wrap64 (x7 + 1))))) else (impl_NameOk.l0 k x0 x6 (wrap64 (x7 + 1))))) else (none)) else (none)) else ((impl_in.f (x0.size : Int) 1 12).bind fun t137 => (some t137))
def impl_NameOk.f (k : Nat) (a0 : ByteArray) : Option (Bool) := impl_NameOk.l0 k a0 (a0.size : Int) 0
theorem impl_NameOk.mono_l : ∀ k, (∀ y0 y1 y2, LeO (impl_NameOk.l0 k y0 y1 y2) (impl_NameOk.l0 (k + 1) y0 y1 y2))
 | 0 => fun _ _ _ r h => by simp [impl_NameOk.l0] at h
 | k + 1 => by
  have ih0 := impl_NameOk.mono_l k
  ·intro y0 y1 y2
   unfold impl_NameOk.l0
   exact Pst.mo
theorem impl_NameOk.mono : ∀ a0 k, LeO (impl_NameOk.f k a0) (impl_NameOk.f (k + 1) a0) := by
 intro a0 k
 have ih0 := impl_NameOk.mono_l k
 unfold impl_NameOk.f
 exact Pst.mo
theorem impl_NameOk.calls (k : Nat) (a0 : ByteArray) (r : Bool) (w : World) (h : impl_NameOk.f k a0 = some r) :
    Calls Tryz.prog 111 #[.string a0] w fun e w' => e = .returned (.bool r) ∧ Drawn0 w w' := by
 have H : (impl_NameOk.l0 k a0 (a0.size : Int) 0) = some r := h
 clear h
 have H' := Pst.A H
 clear H
 go_enter Tryz.func111, Tryz.ntmps111
 go_wp2
 go_loopg [7] k (fun kq v7 w' => ∃ (x7_1 : Int), v7 = .int .i64 x7_1 ∧ Aside0 (impl_NameOk.l0 kq a0 (a0.size : Int) x7_1 = some r) ∧ Aside0 (kq ≤ k) ∧ Drawn0 w w')
 case atStart => exact ⟨(0), Pst.e2, H', ⟨Nat.le_refl _⟩, by repeat (first | exact Drawn0.refl _ | apply Drawn0.step)⟩
 clear H'
 try clear c1
 obtain ⟨x7_1, rfl, HA, HK1, ⟨m1, rfl⟩⟩ := hrel
 cases gk with
 | zero => exact absurd HA.out (by simp [impl_NameOk.l0])
 | succ k1 =>
  have H := HA.out
  clear HA
  simp only [impl_NameOk.l0] at H
  by_cases c2 : x7_1 < (a0.size : Int)
  ·rw [if_pos c2] at H
   have c2b0 : decide (x7_1 < (a0.size : Int)) = true := decide_eq_true c2
   clear c2
   by_cases c3 : 0 ≤ x7_1
   ·rw [if_pos c3] at H
    have c3b0 : decide (0 ≤ x7_1) = true := decide_eq_true c3
    clear c3
    by_cases c4 : x7_1 < (a0.size : Int)
    ·rw [if_pos c4] at H
     have c4b0 : decide (x7_1 < (a0.size : Int)) = true := decide_eq_true c4
     clear c4
     by_cases c6 : (bt a0 x7_1) < 97
     ·rw [if_pos c6] at H
      have c6b0 : decide ((bt a0 x7_1) < 97) = true := decide_eq_true c6
      clear c6
      by_cases c7 : (bt a0 x7_1) < 48
      ·rw [if_pos c7] at H
       have c7b0 : decide ((bt a0 x7_1) < 48) = true := decide_eq_true c7
       clear c7
       obtain rfl := Option.some.inj H
       have p5 : 0 ≤ (x7_1 : Int) := Pst.da
       have q5 : x7_1 < (a0.size : Int) := Pst.da
       have hx5 := bt_at a0 x7_1
       replace p5 := eq_true p5
       replace q5 := eq_true q5
       go_wp2
       go_ret
       exact ⟨Pst.e2, by repeat (first | exact Drawn0.refl _ | apply Drawn0.step)⟩
      ·rw [if_neg c7] at H
       have c7b0 : decide ((bt a0 x7_1) < 48) = false := decide_eq_false c7
       clear c7
       by_cases c8 : (bt a0 x7_1) > 57
       ·rw [if_pos c8] at H
        have c8b0 : decide (57 < (bt a0 x7_1)) = true := decide_eq_true c8
        clear c8
        obtain rfl := Option.some.inj H
        have p5 : 0 ≤ (x7_1 : Int) := Pst.da
        have q5 : x7_1 < (a0.size : Int) := Pst.da
        have hx5 := bt_at a0 x7_1
        replace p5 := eq_true p5
        replace q5 := eq_true q5
        go_wp2
        go_ret
        exact ⟨Pst.e2, by repeat (first | exact Drawn0.refl _ | apply Drawn0.step)⟩
       ·rw [if_neg c8] at H
        have c8b0 : decide (57 < (bt a0 x7_1)) = false := decide_eq_false c8
        clear c8
        have H' := Pst.A H
        clear H
        have p5 : 0 ≤ (x7_1 : Int) := Pst.da
        have q5 : x7_1 < (a0.size : Int) := Pst.da
        have hx5 := bt_at a0 x7_1
        replace p5 := eq_true p5
        replace q5 := eq_true q5
        go_wp2
        go_roundg k1
        case measure => have := HK1.out; omega
        case rel => exact ⟨(wrap64 (x7_1 + 1)), Pst.e2, H', ⟨by have := HK1.out; omega⟩, by repeat (first | exact Drawn0.refl _ | apply Drawn0.step)⟩
     ·rw [if_neg c6] at H
      have c6b0 : decide ((bt a0 x7_1) < 97) = false := decide_eq_false c6
      clear c6
      by_cases c9 : (bt a0 x7_1) > 122
      ·rw [if_pos c9] at H
       have c9b0 : decide (122 < (bt a0 x7_1)) = true := decide_eq_true c9
       clear c9
       by_cases c10 : (bt a0 x7_1) < 48
       ·rw [if_pos c10] at H
        have c10b0 : decide ((bt a0 x7_1) < 48) = true := decide_eq_true c10
        clear c10
        obtain rfl := Option.some.inj H
        have p5 : 0 ≤ (x7_1 : Int) := Pst.da
        have q5 : x7_1 < (a0.size : Int) := Pst.da
        have hx5 := bt_at a0 x7_1
        replace p5 := eq_true p5
        replace q5 := eq_true q5
        go_wp2
        go_ret
        exact ⟨Pst.e2, by repeat (first | exact Drawn0.refl _ | apply Drawn0.step)⟩
       ·rw [if_neg c10] at H
        have c10b0 : decide ((bt a0 x7_1) < 48) = false := decide_eq_false c10
        clear c10
        by_cases c11 : (bt a0 x7_1) > 57
        ·rw [if_pos c11] at H
         have c11b0 : decide (57 < (bt a0 x7_1)) = true := decide_eq_true c11
         clear c11
         obtain rfl := Option.some.inj H
         have p5 : 0 ≤ (x7_1 : Int) := Pst.da
         have q5 : x7_1 < (a0.size : Int) := Pst.da
         have hx5 := bt_at a0 x7_1
         replace p5 := eq_true p5
         replace q5 := eq_true q5
         go_wp2
         go_ret
         exact ⟨Pst.e2, by repeat (first | exact Drawn0.refl _ | apply Drawn0.step)⟩
        ·rw [if_neg c11] at H
         have c11b0 : decide (57 < (bt a0 x7_1)) = false := decide_eq_false c11
         clear c11
         have H' := Pst.A H
         clear H
         have p5 : 0 ≤ (x7_1 : Int) := Pst.da
         have q5 : x7_1 < (a0.size : Int) := Pst.da
         have hx5 := bt_at a0 x7_1
         replace p5 := eq_true p5
         replace q5 := eq_true q5
         go_wp2
         go_roundg k1
         case measure => have := HK1.out; omega
         case rel => exact ⟨(wrap64 (x7_1 + 1)), Pst.e2, H', ⟨by have := HK1.out; omega⟩, by repeat (first | exact Drawn0.refl _ | apply Drawn0.step)⟩
      ·rw [if_neg c9] at H
       have c9b0 : decide (122 < (bt a0 x7_1)) = false := decide_eq_false c9
       clear c9
       have H' := Pst.A H
       clear H
       have p5 : 0 ≤ (x7_1 : Int) := Pst.da
       have q5 : x7_1 < (a0.size : Int) := Pst.da
       have hx5 := bt_at a0 x7_1
       replace p5 := eq_true p5
       replace q5 := eq_true q5
       go_wp2
       go_roundg k1
       case measure => have := HK1.out; omega
       case rel => exact ⟨(wrap64 (x7_1 + 1)), Pst.e2, H', ⟨by have := HK1.out; omega⟩, by repeat (first | exact Drawn0.refl _ | apply Drawn0.step)⟩
    ·rw [if_neg c4] at H
     exact absurd H (by simp)
   ·rw [if_neg c3] at H
    exact absurd H (by simp)
  ·rw [if_neg c2] at H
   have c2b0 : decide (x7_1 < (a0.size : Int)) = false := decide_eq_false c2
   clear c2
   obtain ⟨t137, A120, H⟩ := Pst.bd H
   have A12 := Pst.A A120
   clear A120
   obtain rfl := Option.some.inj H
   go_wp2_with (first | ((with_reducible refine gate_callee (f := 24) rfl ?_); refine goesL_ (some 30) rfl rfl Tryz.func24 (by kernel_rfl) rfl #[.int .i64 (a0.size : Int), .int .i64 1, .int .i64 12] rfl Pst.ga ?_; (with_reducible refine (impl_in.calls (a0.size : Int) 1 12 t137 _ A12.out).mono ?_); rintro e w' ⟨rfl, ⟨nd, rfl⟩⟩; refine ⟨_, rfl, ?_⟩))
   go_ret
   exact ⟨Pst.e2, by repeat (first | exact Drawn0.refl _ | apply Drawn0.step)⟩
theorem impl_NameOk.l0.st {x0 : ByteArray} {x6 : Int} {x7 : Int} {r : (Bool)} (H : Ev (fun k => if x7 < x6 then (if 0 ≤ x7 then (if x7 < (x0.size : Int) then (if (bt x0 x7) < 97 then (if (bt x0 x7) < 48 then (some false) else (if (bt x0 x7) > 57 then (some false) else (impl_NameOk.l0 k x0 x6 (wrap64 (x7 + 1))))) else (if (bt x0 x7) > 122 then (if (bt x0 x7) < 48 then (some false) else (if (bt x0 x7) > 57 then (some false) else (impl_NameOk.l0 k x0 x6 (wrap64 (x7 + 1))))) else (impl_NameOk.l0 k x0 x6 (wrap64 (x7 + 1))))) else (none)) else (none)) else ((impl_in.f (x0.size : Int) 1 12).bind fun t137 => (some t137))) r) : Ev (fun k => impl_NameOk.l0 k x0 x6 x7) r := Ev.step (fun k => impl_NameOk.l0.eq_2 x0 x6 x7 k) H

/-! ### impl_GoalOk: function 84 -/
def impl_GoalOk.f (k : Nat) (a0_0 : ByteArray) (a0_1 : Int) (a0_2 : Int) : Option (Bool) := (impl_NameOk.f k a0_0).bind fun t139 => (if t139 = true then ((impl_in.f a0_1 1 1000000).bind fun t140 => (if t140 = true then ((impl_in.f a0_2 0 1000).bind fun t141 => (some t141)) else (some false))) else (some false))
theorem impl_GoalOk.mono : ∀ a0 a1 a2 k, LeO (impl_GoalOk.f k a0 a1 a2) (impl_GoalOk.f (k + 1) a0 a1 a2) := by
 intro a0 a1 a2 k
 unfold impl_GoalOk.f
 have m0 := @impl_NameOk.mono
 exact Pst.mo
theorem impl_GoalOk.calls (k : Nat) (a0_0 : ByteArray) (a0_1 : Int) (a0_2 : Int) (r : Bool) (w : World) (h : impl_GoalOk.f k a0_0 a0_1 a0_2 = some r) :
    Calls Tryz.prog 84 #[.agg #[.string a0_0, .int .i64 a0_1, .int .i64 a0_2]] w fun e w' => e = .returned (.bool r) ∧ Below w.heap.size w w' := by
 have hu82 := Tryz.underlying82
 have HB := Pst.A (Below.refl w.heap.size w)
 have H : ((impl_NameOk.f k a0_0).bind fun t139 => (if t139 = true then ((impl_in.f a0_1 1 1000000).bind fun t140 => (if t140 = true then ((impl_in.f a0_2 0 1000).bind fun t141 => (some t141)) else (some false))) else (some false))) = some r := h
 clear h
 obtain ⟨t139, A20, H⟩ := Pst.bd H
 have A2 := Pst.A A20
 clear A20
 by_cases c3 : t139 = true
 ·subst c3
  rw [if_pos rfl] at H
  obtain ⟨t140, A40, H⟩ := Pst.bd H
  have A4 := Pst.A A40
  clear A40
  by_cases c5 : t140 = true
  ·subst c5
   rw [if_pos rfl] at H
   obtain ⟨t141, A60, H⟩ := Pst.bd H
   have A6 := Pst.A A60
   clear A60
   obtain rfl := Option.some.inj H
   go_enter Tryz.func84, Tryz.ntmps84
   go_wp2_with (first | ((with_reducible refine gate_dst (N := 1) rfl ?_); refine Pst.bx 1 #[.string a0_0, .int .i64 a0_1, .int .i64 a0_2] 82 ?_; intro gb138 hg w7 hbox hb; have BK138 := Pst.A hbox; have GW138 := Pst.A (Pst.gs hg : w.heap.size ≤ gb138); have GE138 := Pst.A (Pst.gs hg : w.heap.size ≤ gb138); replace HB := Pst.A (below_step Pst.bel hb); clear hb hbox hg; obtain ⟨_,_,_⟩ := Pst.c3 BK138.out; obtain ⟨_,_,_⟩ := Pst.f3 BK138.out) | ((with_reducible refine gate_callee (f := 111) rfl ?_); refine goesL_ (some 5) rfl rfl Tryz.func111 (by kernel_rfl) rfl #[.string a0_0] rfl Pst.ga ?_; (with_reducible refine (impl_NameOk.calls k a0_0 true _ A2.out).mono ?_); rintro e w' ⟨rfl, ⟨nd, rfl⟩⟩; refine ⟨_, rfl, ?_⟩) | (go_at_call 24; (with_reducible refine (impl_in.calls a0_1 1 1000000 true _ A4.out).mono ?_); rintro e w' ⟨rfl, ⟨nd, rfl⟩⟩) | (go_at_call 24; (with_reducible refine (impl_in.calls a0_2 0 1000 t141 _ A6.out).mono ?_); rintro e w' ⟨rfl, ⟨nd, rfl⟩⟩))
   go_ret
   exact ⟨Pst.e1, Pst.bes⟩
  ·replace c5 := Bool.eq_false_iff.mpr c5
   subst c5
   rw [if_neg Pst.ft] at H
   obtain rfl := Option.some.inj H
   go_enter Tryz.func84, Tryz.ntmps84
   go_wp2_with (first | ((with_reducible refine gate_dst (N := 1) rfl ?_); refine Pst.bx 1 #[.string a0_0, .int .i64 a0_1, .int .i64 a0_2] 82 ?_; intro gb138 hg w9 hbox hb; have BK138 := Pst.A hbox; have GW138 := Pst.A (Pst.gs hg : w.heap.size ≤ gb138); have GE138 := Pst.A (Pst.gs hg : w.heap.size ≤ gb138); replace HB := Pst.A (below_step Pst.bel hb); clear hb hbox hg; obtain ⟨_,_,_⟩ := Pst.c3 BK138.out; obtain ⟨_,_,_⟩ := Pst.f3 BK138.out) | ((with_reducible refine gate_callee (f := 111) rfl ?_); refine goesL_ (some 5) rfl rfl Tryz.func111 (by kernel_rfl) rfl #[.string a0_0] rfl Pst.ga ?_; (with_reducible refine (impl_NameOk.calls k a0_0 true _ A2.out).mono ?_); rintro e w' ⟨rfl, ⟨nd, rfl⟩⟩; refine ⟨_, rfl, ?_⟩) | (go_at_call 24; (with_reducible refine (impl_in.calls a0_1 1 1000000 false _ A4.out).mono ?_); rintro e w' ⟨rfl, ⟨nd, rfl⟩⟩))
   go_ret
   exact ⟨Pst.e1, Pst.bes⟩
 ·replace c3 := Bool.eq_false_iff.mpr c3
  subst c3
  rw [if_neg Pst.ft] at H
  obtain rfl := Option.some.inj H
  go_enter Tryz.func84, Tryz.ntmps84
  go_wp2_with (first | ((with_reducible refine gate_dst (N := 1) rfl ?_); refine Pst.bx 1 #[.string a0_0, .int .i64 a0_1, .int .i64 a0_2] 82 ?_; intro gb138 hg w11 hbox hb; have BK138 := Pst.A hbox; have GW138 := Pst.A (Pst.gs hg : w.heap.size ≤ gb138); have GE138 := Pst.A (Pst.gs hg : w.heap.size ≤ gb138); replace HB := Pst.A (below_step Pst.bel hb); clear hb hbox hg; obtain ⟨_,_,_⟩ := Pst.c3 BK138.out; obtain ⟨_,_,_⟩ := Pst.f3 BK138.out) | ((with_reducible refine gate_callee (f := 111) rfl ?_); refine goesL_ (some 5) rfl rfl Tryz.func111 (by kernel_rfl) rfl #[.string a0_0] rfl Pst.ga ?_; (with_reducible refine (impl_NameOk.calls k a0_0 false _ A2.out).mono ?_); rintro e w' ⟨rfl, ⟨nd, rfl⟩⟩; refine ⟨_, rfl, ?_⟩))
  go_ret
  exact ⟨Pst.e1, Pst.bes⟩

/-! ### impl_goalThere: function 85 -/
theorem goalNamed_eq (s nm : ByteArray) (a b : Int) (B : Nat) (w : World) (hB : B < w.heap.size) (hcell : w.cell? ⟨B, 0, none⟩ = some (.string nm)) :
    Calls Tryz.prog 86 #[.agg #[.string s, .int .i64 a, .int .i64 b], .pointer (some ⟨B, 0, none⟩)] w fun e w' => e = .returned (.bool (s.toList == nm.toList)) ∧ Below w.heap.size w w' := by
 have hne : B ≠ w.heap.size := by omega
 go_enter Tryz.func86, Tryz.ntmps86
 go_wp2
 go_ret
 exact ⟨rfl, (Below.refl _ w).alloc (Nat.le_refl _) _⟩

/-- The place of the first goal of that metric, or -1. -/
def goalPlace (nm : ByteArray) : List S82 → Int → Int
 | [], _ => -1
 | x :: t, i => if x.f0.toList = nm.toList then i else goalPlace nm t (i + 1)

theorem indexFunc_goal (nm : ByteArray) (B : Nat) (A0 : Option Addr) (c0 : Nat) (l0 : List S82) (w : World) (hr0 : Kd.C k82 w A0 l0.length l0) (hB : B < w.heap.size) (hcell : w.cell? ⟨B, 0, none⟩ = some (.string nm)) :
    Calls Tryz.prog 112 #[.slice A0 l0.length c0, .func (.func 86) #[] #[.pointer (some ⟨B, 0, none⟩)]] w fun e w' => e = .returned (.int .i64 (goalPlace nm l0 0)) ∧ Below w.heap.size w w' := by
 have huC := Tryz.underlying82
 have hmx : l0.length ≤ 9223372036854775807 := hr0.2.1
 have HR := Pst.A hr0
 have HC := Pst.A hcell
 clear hr0 hcell
 go_enter Tryz.func112, Tryz.ntmps112
 go_wp2
 go_loopg [5, 8] l0.length (fun gg _ s8 wr => ∃ kk : Nat, kk ≤ l0.length ∧ l0.length - kk ≤ gg ∧ s8 = .int .i64 kk ∧ Aside0 (Below w.heap.size w wr) ∧ Aside0 (goalPlace nm (l0.drop kk) kk = goalPlace nm l0 0))
 case atStart => exact ⟨0, Nat.zero_le _, by omega, rfl, ⟨Below.refl _ w⟩, ⟨rfl⟩⟩
 obtain ⟨kk, hkk, hg, rfl, BW, A⟩ := hrel
 by_cases hlt : kk < l0.length
 ·have hltz : (kk : Int) < (l0.length : Int) := by omega
  have hcw : wr.cell? ⟨B, 0, none⟩ = some (.string nm) := (BW.out.cell (p := ⟨B, 0, none⟩) hB).trans HC.out
  have hBw : B < wr.heap.size := Nat.lt_of_lt_of_le hB BW.out.size
  obtain ⟨ad, e0, q0, q1, q2⟩ := at_T82 (Kd.C_below HR.out BW.out) (kk : Int) (by omega) hltz
  have hcall := goalNamed_eq (rd_T82 l0 kk).f0 nm (rd_T82 l0 kk).f1 (rd_T82 l0 kk).f2 B wr hBw hcw
  have E0 := Pst.A e0
  have hx : Aside0 (l0.drop kk = rd_T82 l0 kk :: l0.drop (kk + 1)) := ⟨by rw [List.drop_eq_getElem_cons hlt]; simp [rd_T82, List.getD_eq_getElem?_getD, hlt]⟩
  clear hcw e0
  simp only [Int.toNat_natCast] at q0 q1 q2
  generalize rd_T82 l0 kk = y at hcall q0 q1 q2 hx
  obtain rfl := E0.out
  clear E0
  have eg : ∀ args w, (callFunc 86 args).run Tryz.prog w = .ok (.enter 86 args) w := enters_of Tryz.func86 (by kernel_rfl) rfl
  have hs : ∀ z, goalPlace nm (y :: z) kk = if y.f0.toList = nm.toList then (kk : Int) else goalPlace nm z ((kk : Int) + 1) := fun z => rfl
  cases hq : (y.f0.toList == nm.toList) with
  | true =>
   rw [hq] at hcall
   have hs' := Pst.A hs
   have hq' := Pst.A hq
   clear hs hq
   go_wp2_with (go_at_fn 86; refine hcall.mono ?_; rintro e w' ⟨rfl, hb'⟩)
   go_ret
   refine ⟨?_, BW.out.trans (hb'.mono BW.out.size)⟩
   rw [← A.out, hx.out, hs'.out, if_pos (by simpa using hq'.out)]
   rfl
  | false =>
   rw [hq] at hcall
   have hs' := Pst.A hs
   have hq' := Pst.A hq
   clear hs hq
   go_wp2_with (go_at_fn 86; refine hcall.mono ?_; rintro e w' ⟨rfl, hb'⟩)
   go_roundg (l0.length - (kk + 1))
   case measure => omega
   refine ⟨kk + 1, by omega, by omega, by go_num, ⟨BW.out.trans (hb'.mono BW.out.size)⟩, ⟨?_⟩⟩
   rw [← A.out, hx.out, hs'.out, if_neg (by simpa using hq'.out)]
   rfl
 ·have hltz : ¬ (kk : Int) < (l0.length : Int) := by omega
  go_wp2
  go_ret
  refine ⟨?_, BW.out⟩
  rw [← A.out, List.drop_eq_nil_iff.2 (by omega)]
  rfl

def impl_goalThere.f (l0 : List S82) (a1_0 : ByteArray) (a1_1 : Int) (a1_2 : Int) : Option Bool := some (decide (0 ≤ goalPlace a1_0 l0 0))
/-- The closure is handed over as the cell that it holds: a goal of that metric. -/
theorem impl_goalThere.calls (A0 : Option Addr) (c0 : Nat) (l0 : List (S82)) (a1_0 : ByteArray) (a1_1 : Int) (a1_2 : Int) (r : Bool) (w : World) (hr0 : Kd.C k82 w A0 l0.length l0) (hc0 : l0.length ≤ c0) (h : impl_goalThere.f l0 a1_0 a1_1 a1_2 = some r) {B : Nat} (hcell : w.cell? ⟨B, 0, none⟩ = some (.string a1_0)) :
    Calls Tryz.prog 85 #[.slice A0 l0.length c0, .func (.func 86) #[] #[.pointer (some ⟨B, 0, none⟩)]] w fun e w' => e = .returned (.bool r) ∧ Below w.heap.size w w' := by
 obtain rfl : decide (0 ≤ goalPlace a1_0 l0 0) = r := Option.some.inj h
 have hcon := indexFunc_goal a1_0 B A0 c0 l0 w hr0 (World.block_lt_of_cell? w _ hcell) hcell
 generalize goalPlace a1_0 l0 0 = p at hcon
 clear hr0 h hcell
 by_cases hp : 0 ≤ p
 ·have hpb : decide (0 ≤ p) = true := decide_eq_true hp
  go_enter Tryz.func85, Tryz.ntmps85
  go_wp2_with (go_at_call 112; refine hcon.mono ?_; rintro e w' ⟨rfl, hb'⟩)
  go_ret
  exact ⟨by first | rfl | (simp [hp]; done), hb'⟩
 ·have hpb : decide (0 ≤ p) = false := decide_eq_false hp
  go_enter Tryz.func85, Tryz.ntmps85
  go_wp2_with (go_at_call 112; refine hcon.mono ?_; rintro e w' ⟨rfl, hb'⟩)
  go_ret
  exact ⟨by first | rfl | (simp [hp]; done), hb'⟩

/-! ### impl_RulesOk: function 87 -/
def impl_RulesOk.f (a0_0 : Int) (a0_1 : Int) (a0_2 : Int) : Option (Bool) := (impl_in.f a0_0 0 1000).bind fun t143 => (if t143 = true then ((impl_in.f a0_1 0 1000).bind fun t144 => (if t144 = true then ((impl_in.f a0_2 0 1000).bind fun t145 => (some t145)) else (some false))) else (some false))
theorem impl_RulesOk.calls (a0_0 : Int) (a0_1 : Int) (a0_2 : Int) (r : Bool) (w : World) (h : impl_RulesOk.f a0_0 a0_1 a0_2 = some r) :
    Calls Tryz.prog 87 #[.agg #[.int .i64 a0_0, .int .i64 a0_1, .int .i64 a0_2]] w fun e w' => e = .returned (.bool r) ∧ Below w.heap.size w w' := by
 have hu33 := Tryz.underlying33
 have HB := Pst.A (Below.refl w.heap.size w)
 have H : ((impl_in.f a0_0 0 1000).bind fun t143 => (if t143 = true then ((impl_in.f a0_1 0 1000).bind fun t144 => (if t144 = true then ((impl_in.f a0_2 0 1000).bind fun t145 => (some t145)) else (some false))) else (some false))) = some r := h
 clear h
 obtain ⟨t143, A20, H⟩ := Pst.bd H
 have A2 := Pst.A A20
 clear A20
 by_cases c3 : t143 = true
 ·subst c3
  rw [if_pos rfl] at H
  obtain ⟨t144, A40, H⟩ := Pst.bd H
  have A4 := Pst.A A40
  clear A40
  by_cases c5 : t144 = true
  ·subst c5
   rw [if_pos rfl] at H
   obtain ⟨t145, A60, H⟩ := Pst.bd H
   have A6 := Pst.A A60
   clear A60
   obtain rfl := Option.some.inj H
   go_enter Tryz.func87, Tryz.ntmps87
   go_wp2_with (first | ((with_reducible refine gate_dst (N := 1) rfl ?_); refine Pst.bx 1 #[.int .i64 a0_0, .int .i64 a0_1, .int .i64 a0_2] 33 ?_; intro gb142 hg w7 hbox hb; have BK142 := Pst.A hbox; have GW142 := Pst.A (Pst.gs hg : w.heap.size ≤ gb142); have GE142 := Pst.A (Pst.gs hg : w.heap.size ≤ gb142); replace HB := Pst.A (below_step Pst.bel hb); clear hb hbox hg; obtain ⟨_,_,_⟩ := Pst.c3 BK142.out; obtain ⟨_,_,_⟩ := Pst.f3 BK142.out) | ((with_reducible refine gate_callee (f := 24) rfl ?_); refine goesL_ (some 5) rfl rfl Tryz.func24 (by kernel_rfl) rfl #[.int .i64 a0_0, .int .i64 0, .int .i64 1000] rfl Pst.ga ?_; (with_reducible refine (impl_in.calls a0_0 0 1000 true _ A2.out).mono ?_); rintro e w' ⟨rfl, ⟨nd, rfl⟩⟩; refine ⟨_, rfl, ?_⟩) | (go_at_call 24; (with_reducible refine (impl_in.calls a0_1 0 1000 true _ A4.out).mono ?_); rintro e w' ⟨rfl, ⟨nd, rfl⟩⟩) | (go_at_call 24; (with_reducible refine (impl_in.calls a0_2 0 1000 t145 _ A6.out).mono ?_); rintro e w' ⟨rfl, ⟨nd, rfl⟩⟩))
   go_ret
   exact ⟨Pst.e1, Pst.bes⟩
  ·replace c5 := Bool.eq_false_iff.mpr c5
   subst c5
   rw [if_neg Pst.ft] at H
   obtain rfl := Option.some.inj H
   go_enter Tryz.func87, Tryz.ntmps87
   go_wp2_with (first | ((with_reducible refine gate_dst (N := 1) rfl ?_); refine Pst.bx 1 #[.int .i64 a0_0, .int .i64 a0_1, .int .i64 a0_2] 33 ?_; intro gb142 hg w9 hbox hb; have BK142 := Pst.A hbox; have GW142 := Pst.A (Pst.gs hg : w.heap.size ≤ gb142); have GE142 := Pst.A (Pst.gs hg : w.heap.size ≤ gb142); replace HB := Pst.A (below_step Pst.bel hb); clear hb hbox hg; obtain ⟨_,_,_⟩ := Pst.c3 BK142.out; obtain ⟨_,_,_⟩ := Pst.f3 BK142.out) | ((with_reducible refine gate_callee (f := 24) rfl ?_); refine goesL_ (some 5) rfl rfl Tryz.func24 (by kernel_rfl) rfl #[.int .i64 a0_0, .int .i64 0, .int .i64 1000] rfl Pst.ga ?_; (with_reducible refine (impl_in.calls a0_0 0 1000 true _ A2.out).mono ?_); rintro e w' ⟨rfl, ⟨nd, rfl⟩⟩; refine ⟨_, rfl, ?_⟩) | (go_at_call 24; (with_reducible refine (impl_in.calls a0_1 0 1000 false _ A4.out).mono ?_); rintro e w' ⟨rfl, ⟨nd, rfl⟩⟩))
   go_ret
   exact ⟨Pst.e1, Pst.bes⟩
 ·replace c3 := Bool.eq_false_iff.mpr c3
  subst c3
  rw [if_neg Pst.ft] at H
  obtain rfl := Option.some.inj H
  go_enter Tryz.func87, Tryz.ntmps87
  go_wp2_with (first | ((with_reducible refine gate_dst (N := 1) rfl ?_); refine Pst.bx 1 #[.int .i64 a0_0, .int .i64 a0_1, .int .i64 a0_2] 33 ?_; intro gb142 hg w11 hbox hb; have BK142 := Pst.A hbox; have GW142 := Pst.A (Pst.gs hg : w.heap.size ≤ gb142); have GE142 := Pst.A (Pst.gs hg : w.heap.size ≤ gb142); replace HB := Pst.A (below_step Pst.bel hb); clear hb hbox hg; obtain ⟨_,_,_⟩ := Pst.c3 BK142.out; obtain ⟨_,_,_⟩ := Pst.f3 BK142.out) | ((with_reducible refine gate_callee (f := 24) rfl ?_); refine goesL_ (some 5) rfl rfl Tryz.func24 (by kernel_rfl) rfl #[.int .i64 a0_0, .int .i64 0, .int .i64 1000] rfl Pst.ga ?_; (with_reducible refine (impl_in.calls a0_0 0 1000 false _ A2.out).mono ?_); rintro e w' ⟨rfl, ⟨nd, rfl⟩⟩; refine ⟨_, rfl, ?_⟩))
  go_ret
  exact ⟨Pst.e1, Pst.bes⟩

/-! ### impl_SideOk: function 113 -/
def impl_SideOk.l0 : Nat → List (S102) → Int → Int → List (S102) → Int → Int → Option (Bool)
 | 0, _, _, _, _, _, _ => none
 | k + 1, x6, x7, x8, x147000, x147001, x147002 => if x8 < x7 then (if 0 ≤ x8 then (if x8 < (x6.length : Int) then ((impl_in.f ((rd_T102 x6 x8).f0) 0 1).bind fun t151 => (if t151 = true then ((impl_in.f ((rd_T102 x6 x8).f1) 1 1000).bind fun t152 => (if t152 = true then ((impl_in.f ((rd_T102 x6 x8).f2) 1 1000).bind fun t153 => (if t153 = true then (impl_SideOk.l0 k x6 x7 (wrap64 (x8 + 1)) x147000 x147001 x147002) else (some false))) else (some false))) else (some false))) else (none)) else (none)) else (if (x147000.length : Int) ≤ 3 then ((impl_in.f x147001 0 2).bind fun t147 => (if t147 = true then ((impl_in.f x147002 0 1000).bind fun t148 => (some t148)) else (some false))) else (some false))
def impl_SideOk.f (k : Nat) (l0_0 : List (S102)) (a0_1 : Int) (a0_2 : Int) : Option (Bool) := impl_SideOk.l0 k l0_0 (l0_0.length : Int) 0 l0_0 a0_1 a0_2
theorem impl_SideOk.mono_l : ∀ k, (∀ y0 y1 y2 y3 y4 y5, LeO (impl_SideOk.l0 k y0 y1 y2 y3 y4 y5) (impl_SideOk.l0 (k + 1) y0 y1 y2 y3 y4 y5))
 | 0 => fun _ _ _ _ _ _ r h => by simp [impl_SideOk.l0] at h
 | k + 1 => by
  have ih0 := impl_SideOk.mono_l k
  intro y0 y1 y2 y3 y4 y5
  unfold impl_SideOk.l0
  exact Pst.mo
theorem impl_SideOk.mono : ∀ a0 a1 a2 k, LeO (impl_SideOk.f k a0 a1 a2) (impl_SideOk.f (k + 1) a0 a1 a2) := by
 intro a0 a1 a2 k
 have ih0 := impl_SideOk.mono_l k
 unfold impl_SideOk.f
 exact Pst.mo
theorem impl_SideOk.calls (k : Nat) (A0_0 : Option Addr) (c0_0 : Nat) (l0_0 : List (S102)) (a0_1 : Int) (a0_2 : Int) (r : Bool) (w : World) (hr0_0 : Kd.C k102 w A0_0 l0_0.length l0_0) (hc0_0 : l0_0.length ≤ c0_0) (h : impl_SideOk.f k l0_0 a0_1 a0_2 = some r) :
 Calls Tryz.prog 113 #[.agg #[.slice A0_0 l0_0.length c0_0, .int .i64 a0_1, .int .i64 a0_2]] w fun e w' => e = .returned (.bool r) ∧ Below w.heap.size w w' := by
 have hu37 := Tryz.underlying37
 have hu102 := Tryz.underlying102
 have HR0_0 := Pst.A hr0_0
 have HC0_0 := Pst.A hc0_0
 clear hr0_0 hc0_0
 have HB := Pst.A (Below.refl w.heap.size w)
 have H : (impl_SideOk.l0 k l0_0 (l0_0.length : Int) 0 l0_0 a0_1 a0_2) = some r := h
 clear h
 have H' := Pst.A H
 clear H
 go_enter Tryz.func113, Tryz.ntmps113
 go_wp2_with (first | ((with_reducible refine gate_dst (N := 1) rfl ?_); refine Pst.bx 1 #[.slice A0_0 l0_0.length c0_0, .int .i64 a0_1, .int .i64 a0_2] 37 ?_; intro gb146 hg w2 hbox hb; have BK146 := Pst.A hbox; have GW146 := Pst.A (Pst.gs hg : w.heap.size ≤ gb146); have GE146 := Pst.A (Pst.gs hg : w.heap.size ≤ gb146); replace HB := Pst.A (below_step Pst.bel hb); clear hb hbox hg; obtain ⟨hcz3_0, hcz3_1, hcz3_2⟩ := Pst.c3 BK146.out; obtain ⟨hfz3_0, hfz3_1, hfz3_2⟩ := Pst.f3 BK146.out))
 go_loopg [8] k (fun kq v8 w' => ∃ (x8_1 : Int), v8 = .int .i64 x8_1 ∧ Aside0 (impl_SideOk.l0 kq l0_0 (l0_0.length : Int) x8_1 l0_0 a0_1 a0_2 = some r) ∧ Aside0 (kq ≤ k) ∧ Aside0 (w'.heap[gb146]? = some (.cells #[(.slice A0_0 l0_0.length c0_0), .int .i64 a0_1, .int .i64 a0_2] 37 (0, 0))) ∧ Aside0 (Below w.heap.size w w'))
 case atStart => exact ⟨(0), Pst.e2, H', ⟨Nat.le_refl _⟩, ⟨by exact Pst.qb BK146.out⟩, ⟨Pst.bes⟩⟩
 clear H'
 try clear c1
 try clear p2
 obtain ⟨x8_1, rfl, HA, HK1, BK146, HB⟩ := hrel
 cases gk with
 | zero => exact absurd HA.out (by simp [impl_SideOk.l0])
 | succ k1 =>
  have H := HA.out
  clear HA
  simp only [impl_SideOk.l0] at H
  by_cases c4 : x8_1 < (l0_0.length : Int)
  ·rw [if_pos c4] at H
   have c4b0 : decide (x8_1 < (l0_0.length : Int)) = true := decide_eq_true c4
   clear c4
   by_cases c5 : 0 ≤ x8_1
   ·rw [if_pos c5] at H
    have c5b0 : decide (0 ≤ x8_1) = true := decide_eq_true c5
    clear c5
    by_cases c6 : x8_1 < (l0_0.length : Int)
    ·rw [if_pos c6] at H
     have c6b0 : decide (x8_1 < (l0_0.length : Int)) = true := decide_eq_true c6
     clear c6
     obtain ⟨t151, A70, H⟩ := Pst.bd H
     have A7 := Pst.A A70
     clear A70
     by_cases c8 : t151 = true
     ·subst c8
      rw [if_pos rfl] at H
      obtain ⟨t152, A90, H⟩ := Pst.bd H
      have A9 := Pst.A A90
      clear A90
      by_cases c10 : t152 = true
      ·subst c10
       rw [if_pos rfl] at H
       obtain ⟨t153, A110, H⟩ := Pst.bd H
       have A11 := Pst.A A110
       clear A110
       by_cases c12 : t153 = true
       ·subst c12
        rw [if_pos rfl] at H
        have H' := Pst.A H
        clear H
        have p149 : 0 ≤ (x8_1 : Int) := Pst.da
        have q149 : x8_1 < (l0_0.length : Int) := Pst.da
        obtain ⟨ad149, e149, hx149_0, hx149_1, hx149_2⟩ := at_T102 HR0_0.out x8_1 p149 q149
        cases e149
        replace hx149_0 := (HB.out.cell (World.block_lt_of_cell? w _ hx149_0)).trans hx149_0
        replace hx149_1 := (HB.out.cell (World.block_lt_of_cell? w _ hx149_1)).trans hx149_1
        replace hx149_2 := (HB.out.cell (World.block_lt_of_cell? w _ hx149_2)).trans hx149_2
        replace p149 := eq_true p149
        replace q149 := eq_true q149
        go_wp2_with (first | ((with_reducible refine gate_dst (N := 4) rfl ?_); refine Pst.bx 4 #[.int .i64 0, .int .i64 0, .int .i64 0] 102 ?_; intro gb150 hg w13 hbox hb; have BK150 := Pst.A hbox; have GW150 := Pst.A (Pst.gs hg : w.heap.size ≤ gb150); have GE150 := Pst.A (Pst.gs hg : w.heap.size ≤ gb150); have NB146_150 := Pst.A (Pst.nl BK146.out hg); have NB150_146 := Pst.A (Pst.nr BK146.out hg); replace BK146 := Pst.A (Pst.kb BK146.out hb); replace HB := Pst.A (below_step Pst.bes hb); clear hb hbox hg; have hnb14 := NB150_146.out; have hnc14 := NB146_150.out; obtain ⟨hcz15_0, hcz15_1, hcz15_2⟩ := Pst.c3 BK150.out; obtain ⟨hfz15_0, hfz15_1, hfz15_2⟩ := Pst.f3 BK150.out) | ((with_reducible refine gate_callee (f := 24) rfl ?_); refine goesL_ (some 14) rfl rfl Tryz.func24 (by kernel_rfl) rfl #[.int .i64 ((rd_T102 l0_0 x8_1).f0), .int .i64 0, .int .i64 1] rfl Pst.ga ?_; (with_reducible refine (impl_in.calls ((rd_T102 l0_0 x8_1).f0) 0 1 true _ A7.out).mono ?_); rintro e w' ⟨rfl, ⟨nd, rfl⟩⟩; refine ⟨_, rfl, ?_⟩) | (go_at_call 24; (with_reducible refine (impl_in.calls ((rd_T102 l0_0 x8_1).f1) 1 1000 true _ A9.out).mono ?_); rintro e w' ⟨rfl, ⟨nd, rfl⟩⟩) | (go_at_call 24; (with_reducible refine (impl_in.calls ((rd_T102 l0_0 x8_1).f2) 1 1000 true _ A11.out).mono ?_); rintro e w' ⟨rfl, ⟨nd, rfl⟩⟩))
        go_roundg k1
        case measure => have := HK1.out; omega
        case rel => exact ⟨(wrap64 (x8_1 + 1)), Pst.e2, H', ⟨by have := HK1.out; omega⟩, ⟨by (with_reducible repeat (first | refine blk_drewN ?_ _ | refine blk_drew ?_ | refine blk_alloc ?_ _)); refine blk_far ?_ NB146_150.out _; (with_reducible repeat (first | refine blk_drewN ?_ _ | refine blk_drew ?_ | refine blk_alloc ?_ _)); refine blk_far ?_ NB146_150.out _; (with_reducible repeat (first | refine blk_drewN ?_ _ | refine blk_drew ?_ | refine blk_alloc ?_ _)); refine blk_far ?_ NB146_150.out _; exact Pst.qb BK146.out⟩, ⟨Pst.bes⟩⟩
       replace c12 := Bool.eq_false_iff.mpr c12
       subst c12
       rw [if_neg Pst.ft] at H
       obtain rfl := Option.some.inj H
       have p149 : 0 ≤ (x8_1 : Int) := Pst.da
       have q149 : x8_1 < (l0_0.length : Int) := Pst.da
       obtain ⟨ad149, e149, hx149_0, hx149_1, hx149_2⟩ := at_T102 HR0_0.out x8_1 p149 q149
       cases e149
       replace hx149_0 := (HB.out.cell (World.block_lt_of_cell? w _ hx149_0)).trans hx149_0
       replace hx149_1 := (HB.out.cell (World.block_lt_of_cell? w _ hx149_1)).trans hx149_1
       replace hx149_2 := (HB.out.cell (World.block_lt_of_cell? w _ hx149_2)).trans hx149_2
       replace p149 := eq_true p149
       replace q149 := eq_true q149
       go_wp2_with (first | ((with_reducible refine gate_dst (N := 4) rfl ?_); refine Pst.bx 4 #[.int .i64 0, .int .i64 0, .int .i64 0] 102 ?_; intro gb150 hg w16 hbox hb; have BK150 := Pst.A hbox; have GW150 := Pst.A (Pst.gs hg : w.heap.size ≤ gb150); have GE150 := Pst.A (Pst.gs hg : w.heap.size ≤ gb150); have NB146_150 := Pst.A (Pst.nl BK146.out hg); have NB150_146 := Pst.A (Pst.nr BK146.out hg); replace BK146 := Pst.A (Pst.kb BK146.out hb); replace HB := Pst.A (below_step Pst.bes hb); clear hb hbox hg; have hnb17 := NB150_146.out; have hnc17 := NB146_150.out; obtain ⟨hcz18_0, hcz18_1, hcz18_2⟩ := Pst.c3 BK150.out; obtain ⟨hfz18_0, hfz18_1, hfz18_2⟩ := Pst.f3 BK150.out) | ((with_reducible refine gate_callee (f := 24) rfl ?_); refine goesL_ (some 14) rfl rfl Tryz.func24 (by kernel_rfl) rfl #[.int .i64 ((rd_T102 l0_0 x8_1).f0), .int .i64 0, .int .i64 1] rfl Pst.ga ?_; (with_reducible refine (impl_in.calls ((rd_T102 l0_0 x8_1).f0) 0 1 true _ A7.out).mono ?_); rintro e w' ⟨rfl, ⟨nd, rfl⟩⟩; refine ⟨_, rfl, ?_⟩) | (go_at_call 24; (with_reducible refine (impl_in.calls ((rd_T102 l0_0 x8_1).f1) 1 1000 true _ A9.out).mono ?_); rintro e w' ⟨rfl, ⟨nd, rfl⟩⟩) | (go_at_call 24; (with_reducible refine (impl_in.calls ((rd_T102 l0_0 x8_1).f2) 1 1000 false _ A11.out).mono ?_); rintro e w' ⟨rfl, ⟨nd, rfl⟩⟩))
       go_ret
       exact ⟨Pst.e1, Pst.bes⟩
      replace c10 := Bool.eq_false_iff.mpr c10
      subst c10
      rw [if_neg Pst.ft] at H
      obtain rfl := Option.some.inj H
      have p149 : 0 ≤ (x8_1 : Int) := Pst.da
      have q149 : x8_1 < (l0_0.length : Int) := Pst.da
      obtain ⟨ad149, e149, hx149_0, hx149_1, hx149_2⟩ := at_T102 HR0_0.out x8_1 p149 q149
      cases e149
      replace hx149_0 := (HB.out.cell (World.block_lt_of_cell? w _ hx149_0)).trans hx149_0
      replace hx149_1 := (HB.out.cell (World.block_lt_of_cell? w _ hx149_1)).trans hx149_1
      replace hx149_2 := (HB.out.cell (World.block_lt_of_cell? w _ hx149_2)).trans hx149_2
      replace p149 := eq_true p149
      replace q149 := eq_true q149
      go_wp2_with (first | ((with_reducible refine gate_dst (N := 4) rfl ?_); refine Pst.bx 4 #[.int .i64 0, .int .i64 0, .int .i64 0] 102 ?_; intro gb150 hg w19 hbox hb; have BK150 := Pst.A hbox; have GW150 := Pst.A (Pst.gs hg : w.heap.size ≤ gb150); have GE150 := Pst.A (Pst.gs hg : w.heap.size ≤ gb150); have NB146_150 := Pst.A (Pst.nl BK146.out hg); have NB150_146 := Pst.A (Pst.nr BK146.out hg); replace BK146 := Pst.A (Pst.kb BK146.out hb); replace HB := Pst.A (below_step Pst.bes hb); clear hb hbox hg; have hnb20 := NB150_146.out; have hnc20 := NB146_150.out; obtain ⟨hcz21_0, hcz21_1, hcz21_2⟩ := Pst.c3 BK150.out; obtain ⟨hfz21_0, hfz21_1, hfz21_2⟩ := Pst.f3 BK150.out) | ((with_reducible refine gate_callee (f := 24) rfl ?_); refine goesL_ (some 14) rfl rfl Tryz.func24 (by kernel_rfl) rfl #[.int .i64 ((rd_T102 l0_0 x8_1).f0), .int .i64 0, .int .i64 1] rfl Pst.ga ?_; (with_reducible refine (impl_in.calls ((rd_T102 l0_0 x8_1).f0) 0 1 true _ A7.out).mono ?_); rintro e w' ⟨rfl, ⟨nd, rfl⟩⟩; refine ⟨_, rfl, ?_⟩) | (go_at_call 24; (with_reducible refine (impl_in.calls ((rd_T102 l0_0 x8_1).f1) 1 1000 false _ A9.out).mono ?_); rintro e w' ⟨rfl, ⟨nd, rfl⟩⟩))
      go_ret
      exact ⟨Pst.e1, Pst.bes⟩
     replace c8 := Bool.eq_false_iff.mpr c8
     subst c8
     rw [if_neg Pst.ft] at H
     obtain rfl := Option.some.inj H
     have p149 : 0 ≤ (x8_1 : Int) := Pst.da
     have q149 : x8_1 < (l0_0.length : Int) := Pst.da
     obtain ⟨ad149, e149, hx149_0, hx149_1, hx149_2⟩ := at_T102 HR0_0.out x8_1 p149 q149
     cases e149
     replace hx149_0 := (HB.out.cell (World.block_lt_of_cell? w _ hx149_0)).trans hx149_0
     replace hx149_1 := (HB.out.cell (World.block_lt_of_cell? w _ hx149_1)).trans hx149_1
     replace hx149_2 := (HB.out.cell (World.block_lt_of_cell? w _ hx149_2)).trans hx149_2
     replace p149 := eq_true p149
     replace q149 := eq_true q149
     go_wp2_with (first | ((with_reducible refine gate_dst (N := 4) rfl ?_); refine Pst.bx 4 #[.int .i64 0, .int .i64 0, .int .i64 0] 102 ?_; intro gb150 hg w22 hbox hb; have BK150 := Pst.A hbox; have GW150 := Pst.A (Pst.gs hg : w.heap.size ≤ gb150); have GE150 := Pst.A (Pst.gs hg : w.heap.size ≤ gb150); have NB146_150 := Pst.A (Pst.nl BK146.out hg); have NB150_146 := Pst.A (Pst.nr BK146.out hg); replace BK146 := Pst.A (Pst.kb BK146.out hb); replace HB := Pst.A (below_step Pst.bes hb); clear hb hbox hg; have hnb23 := NB150_146.out; have hnc23 := NB146_150.out; obtain ⟨hcz24_0, hcz24_1, hcz24_2⟩ := Pst.c3 BK150.out; obtain ⟨hfz24_0, hfz24_1, hfz24_2⟩ := Pst.f3 BK150.out) | ((with_reducible refine gate_callee (f := 24) rfl ?_); refine goesL_ (some 14) rfl rfl Tryz.func24 (by kernel_rfl) rfl #[.int .i64 ((rd_T102 l0_0 x8_1).f0), .int .i64 0, .int .i64 1] rfl Pst.ga ?_; (with_reducible refine (impl_in.calls ((rd_T102 l0_0 x8_1).f0) 0 1 false _ A7.out).mono ?_); rintro e w' ⟨rfl, ⟨nd, rfl⟩⟩; refine ⟨_, rfl, ?_⟩))
     go_ret
     exact ⟨Pst.e1, Pst.bes⟩
    rw [if_neg c6] at H
    exact absurd H (by simp)
   rw [if_neg c5] at H
   exact absurd H (by simp)
  rw [if_neg c4] at H
  have c4b0 : decide (x8_1 < (l0_0.length : Int)) = false := decide_eq_false c4
  clear c4
  by_cases c25 : (l0_0.length : Int) ≤ 3
  ·rw [if_pos c25] at H
   have c25b0 : decide ((l0_0.length : Int) ≤ 3) = true := decide_eq_true c25
   have c25b1 : decide (l0_0.length ≤ 3) = true := decide_eq_true (by omega)
   clear c25
   obtain ⟨t147, A260, H⟩ := Pst.bd H
   have A26 := Pst.A A260
   clear A260
   by_cases c27 : t147 = true
   ·subst c27
    rw [if_pos rfl] at H
    obtain ⟨t148, A280, H⟩ := Pst.bd H
    have A28 := Pst.A A280
    clear A280
    obtain rfl := Option.some.inj H
    obtain ⟨hcz29_0, hcz29_1, hcz29_2⟩ := Pst.c3 BK146.out
    obtain ⟨hfz29_0, hfz29_1, hfz29_2⟩ := Pst.f3 BK146.out
    go_wp2_with (first | (go_at_call 24; (with_reducible refine (impl_in.calls a0_1 0 2 true _ A26.out).mono ?_); rintro e w' ⟨rfl, ⟨nd, rfl⟩⟩) | (go_at_call 24; (with_reducible refine (impl_in.calls a0_2 0 1000 t148 _ A28.out).mono ?_); rintro e w' ⟨rfl, ⟨nd, rfl⟩⟩))
    go_ret
    exact ⟨Pst.e1, Pst.bes⟩
   replace c27 := Bool.eq_false_iff.mpr c27
   subst c27
   rw [if_neg Pst.ft] at H
   obtain rfl := Option.some.inj H
   obtain ⟨hcz30_0, hcz30_1, hcz30_2⟩ := Pst.c3 BK146.out
   obtain ⟨hfz30_0, hfz30_1, hfz30_2⟩ := Pst.f3 BK146.out
   go_wp2_with (first | (go_at_call 24; (with_reducible refine (impl_in.calls a0_1 0 2 false _ A26.out).mono ?_); rintro e w' ⟨rfl, ⟨nd, rfl⟩⟩))
   go_ret
   exact ⟨Pst.e1, Pst.bes⟩
  rw [if_neg c25] at H
  have c25b0 : decide ((l0_0.length : Int) ≤ 3) = false := decide_eq_false c25
  have c25b1 : decide (l0_0.length ≤ 3) = false := decide_eq_false (by omega)
  clear c25
  obtain rfl := Option.some.inj H
  obtain ⟨hcz31_0, hcz31_1, hcz31_2⟩ := Pst.c3 BK146.out
  obtain ⟨hfz31_0, hfz31_1, hfz31_2⟩ := Pst.f3 BK146.out
  go_wp2
  go_ret
  exact ⟨Pst.e1, Pst.bes⟩
theorem impl_SideOk.l0.st {x6 : List (S102)} {x7 : Int} {x8 : Int} {x147000 : List (S102)} {x147001 : Int} {x147002 : Int} {r : (Bool)} (H : Ev (fun k => if x8 < x7 then (if 0 ≤ x8 then (if x8 < (x6.length : Int) then ((impl_in.f ((rd_T102 x6 x8).f0) 0 1).bind fun t151 => (if t151 = true then ((impl_in.f ((rd_T102 x6 x8).f1) 1 1000).bind fun t152 => (if t152 = true then ((impl_in.f ((rd_T102 x6 x8).f2) 1 1000).bind fun t153 => (if t153 = true then (impl_SideOk.l0 k x6 x7 (wrap64 (x8 + 1)) x147000 x147001 x147002) else (some false))) else (some false))) else (some false))) else (none)) else (none)) else (if (x147000.length : Int) ≤ 3 then ((impl_in.f x147001 0 2).bind fun t147 => (if t147 = true then ((impl_in.f x147002 0 1000).bind fun t148 => (some t148)) else (some false))) else (some false))) r) : Ev (fun k => impl_SideOk.l0 k x6 x7 x8 x147000 x147001 x147002) r := Ev.step (fun k => impl_SideOk.l0.eq_2 x6 x7 x8 x147000 x147001 x147002 k) H

/-! ### impl_BehaveOk: function 88 -/
def impl_BehaveOk.f (k : Nat) (l0_0 : List (S102)) (a0_1 : Int) (a0_2 : Int) (l0_3 : List (S102)) (a0_4 : Int) (a0_5 : Int) (a0_6 : Int) (a0_7 : Int) : Option (Bool) := (impl_SideOk.f k l0_0 a0_1 a0_2).bind fun t155 => (if t155 = true then ((impl_SideOk.f k l0_3 a0_4 a0_5).bind fun t156 => (if t156 = true then (if a0_6 ≥ 0 then (if a0_6 ≤ a0_7 then (some (decide (a0_7 ≤ 1000))) else (some false)) else (some false)) else (some false))) else (some false))
theorem impl_BehaveOk.mono : ∀ a0 a1 a2 a3 a4 a5 a6 a7 k, LeO (impl_BehaveOk.f k a0 a1 a2 a3 a4 a5 a6 a7) (impl_BehaveOk.f (k + 1) a0 a1 a2 a3 a4 a5 a6 a7) := by
 intro a0 a1 a2 a3 a4 a5 a6 a7 k
 unfold impl_BehaveOk.f
 have m0 := @impl_SideOk.mono
 exact Pst.mo
theorem impl_BehaveOk.calls (k : Nat) (A0_0 : Option Addr) (c0_0 : Nat) (l0_0 : List (S102)) (a0_1 : Int) (a0_2 : Int) (A0_3 : Option Addr) (c0_3 : Nat) (l0_3 : List (S102)) (a0_4 : Int) (a0_5 : Int) (a0_6 : Int) (a0_7 : Int) (r : Bool) (w : World) (hr0_0 : Kd.C k102 w A0_0 l0_0.length l0_0) (hc0_0 : l0_0.length ≤ c0_0) (hr0_3 : Kd.C k102 w A0_3 l0_3.length l0_3) (hc0_3 : l0_3.length ≤ c0_3) (h : impl_BehaveOk.f k l0_0 a0_1 a0_2 l0_3 a0_4 a0_5 a0_6 a0_7 = some r) :
    Calls Tryz.prog 88 #[.agg #[.slice A0_0 l0_0.length c0_0, .int .i64 a0_1, .int .i64 a0_2, .slice A0_3 l0_3.length c0_3, .int .i64 a0_4, .int .i64 a0_5, .int .i64 a0_6, .int .i64 a0_7]] w fun e w' => e = .returned (.bool r) ∧ Below w.heap.size w w' := by
 have hu39 := Tryz.underlying39
 have hu37 := Tryz.underlying37
 have HR0_0 := Pst.A hr0_0
 have HC0_0 := Pst.A hc0_0
 clear hr0_0 hc0_0
 have HR0_3 := Pst.A hr0_3
 have HC0_3 := Pst.A hc0_3
 clear hr0_3 hc0_3
 have HB := Pst.A (Below.refl w.heap.size w)
 have H : ((impl_SideOk.f k l0_0 a0_1 a0_2).bind fun t155 => (if t155 = true then ((impl_SideOk.f k l0_3 a0_4 a0_5).bind fun t156 => (if t156 = true then (if a0_6 ≥ 0 then (if a0_6 ≤ a0_7 then (some (decide (a0_7 ≤ 1000))) else (some false)) else (some false)) else (some false))) else (some false))) = some r := h
 clear h
 obtain ⟨t155, A20, H⟩ := Pst.bd H
 have A2 := Pst.A A20
 clear A20
 by_cases c3 : t155 = true
 ·subst c3
  rw [if_pos rfl] at H
  obtain ⟨t156, A40, H⟩ := Pst.bd H
  have A4 := Pst.A A40
  clear A40
  by_cases c5 : t156 = true
  ·subst c5
   rw [if_pos rfl] at H
   by_cases c6 : a0_6 ≥ 0
   ·rw [if_pos c6] at H
    have c6b0 : decide (0 ≤ a0_6) = true := decide_eq_true c6
    clear c6
    by_cases c7 : a0_6 ≤ a0_7
    ·rw [if_pos c7] at H
     have c7b0 : decide (a0_6 ≤ a0_7) = true := decide_eq_true c7
     clear c7
     obtain rfl := Option.some.inj H
     go_enter Tryz.func88, Tryz.ntmps88
     go_wp2_with (first | ((with_reducible refine gate_dst (N := 1) rfl ?_); refine Pst.bx 1 #[.slice A0_0 l0_0.length c0_0, .int .i64 a0_1, .int .i64 a0_2, .slice A0_3 l0_3.length c0_3, .int .i64 a0_4, .int .i64 a0_5, .int .i64 a0_6, .int .i64 a0_7] 39 ?_; intro gb154 hg w8 hbox hb; have BK154 := Pst.A hbox; have GW154 := Pst.A (Pst.gs hg : w.heap.size ≤ gb154); have GE154 := Pst.A (Pst.gs hg : w.heap.size ≤ gb154); replace HB := Pst.A (below_step Pst.bel hb); clear hb hbox hg; obtain ⟨_,_,_,_,_,_,_,_⟩ := Pst.c8 BK154.out; obtain ⟨_,_,_,_,_,_,_,_⟩ := Pst.f8 BK154.out) | ((with_reducible refine gate_callee (f := 113) rfl ?_); refine goesL_ (some 5) rfl rfl Tryz.func113 (by kernel_rfl) rfl #[.agg #[.slice A0_0 l0_0.length c0_0, .int .i64 a0_1, .int .i64 a0_2]] rfl Pst.ga ?_; (with_reducible refine (impl_SideOk.calls k _ _ l0_0 a0_1 a0_2 true _ ?side1 ?side2 A2.out).mono ?_); (case side1 => exact Pst.qc (Kd.C_below HR0_0.out HB.out)); (case side2 => exact HC0_0.out); rintro e w10 ⟨rfl, hb⟩; refine ⟨_, rfl, ?_⟩; replace BK154 := Pst.A (Pst.kb BK154.out hb); replace HB := Pst.A (below_step Pst.bes hb); (try clear hb); (try clear hb2); (try clear hk); (try clear hi); obtain ⟨_,_,_,_,_,_,_,_⟩ := Pst.c8 BK154.out; obtain ⟨_,_,_,_,_,_,_,_⟩ := Pst.f8 BK154.out) | (go_at_call 113; (with_reducible refine (impl_SideOk.calls k _ _ l0_3 a0_4 a0_5 true _ ?side1 ?side2 A4.out).mono ?_); (case side1 => exact Pst.qc (Kd.C_below HR0_3.out HB.out)); (case side2 => exact HC0_3.out); rintro e w12 ⟨rfl, hb⟩; replace BK154 := Pst.A (Pst.kb BK154.out hb); replace HB := Pst.A (below_step Pst.bes hb); (try clear hb); (try clear hb2); (try clear hk); (try clear hi); obtain ⟨_,_,_,_,_,_,_,_⟩ := Pst.c8 BK154.out; obtain ⟨_,_,_,_,_,_,_,_⟩ := Pst.f8 BK154.out))
     go_ret
     exact ⟨Pst.e1, Pst.bes⟩
    ·rw [if_neg c7] at H
     have c7b0 : decide (a0_6 ≤ a0_7) = false := decide_eq_false c7
     clear c7
     obtain rfl := Option.some.inj H
     go_enter Tryz.func88, Tryz.ntmps88
     go_wp2_with (first | ((with_reducible refine gate_dst (N := 1) rfl ?_); refine Pst.bx 1 #[.slice A0_0 l0_0.length c0_0, .int .i64 a0_1, .int .i64 a0_2, .slice A0_3 l0_3.length c0_3, .int .i64 a0_4, .int .i64 a0_5, .int .i64 a0_6, .int .i64 a0_7] 39 ?_; intro gb154 hg w14 hbox hb; have BK154 := Pst.A hbox; have GW154 := Pst.A (Pst.gs hg : w.heap.size ≤ gb154); have GE154 := Pst.A (Pst.gs hg : w.heap.size ≤ gb154); replace HB := Pst.A (below_step Pst.bel hb); clear hb hbox hg; obtain ⟨_,_,_,_,_,_,_,_⟩ := Pst.c8 BK154.out; obtain ⟨_,_,_,_,_,_,_,_⟩ := Pst.f8 BK154.out) | ((with_reducible refine gate_callee (f := 113) rfl ?_); refine goesL_ (some 5) rfl rfl Tryz.func113 (by kernel_rfl) rfl #[.agg #[.slice A0_0 l0_0.length c0_0, .int .i64 a0_1, .int .i64 a0_2]] rfl Pst.ga ?_; (with_reducible refine (impl_SideOk.calls k _ _ l0_0 a0_1 a0_2 true _ ?side1 ?side2 A2.out).mono ?_); (case side1 => exact Pst.qc (Kd.C_below HR0_0.out HB.out)); (case side2 => exact HC0_0.out); rintro e w16 ⟨rfl, hb⟩; refine ⟨_, rfl, ?_⟩; replace BK154 := Pst.A (Pst.kb BK154.out hb); replace HB := Pst.A (below_step Pst.bes hb); (try clear hb); (try clear hb2); (try clear hk); (try clear hi); obtain ⟨_,_,_,_,_,_,_,_⟩ := Pst.c8 BK154.out; obtain ⟨_,_,_,_,_,_,_,_⟩ := Pst.f8 BK154.out) | (go_at_call 113; (with_reducible refine (impl_SideOk.calls k _ _ l0_3 a0_4 a0_5 true _ ?side1 ?side2 A4.out).mono ?_); (case side1 => exact Pst.qc (Kd.C_below HR0_3.out HB.out)); (case side2 => exact HC0_3.out); rintro e w18 ⟨rfl, hb⟩; replace BK154 := Pst.A (Pst.kb BK154.out hb); replace HB := Pst.A (below_step Pst.bes hb); (try clear hb); (try clear hb2); (try clear hk); (try clear hi); obtain ⟨_,_,_,_,_,_,_,_⟩ := Pst.c8 BK154.out; obtain ⟨_,_,_,_,_,_,_,_⟩ := Pst.f8 BK154.out))
     go_ret
     exact ⟨Pst.e1, Pst.bes⟩
   ·rw [if_neg c6] at H
    have c6b0 : decide (0 ≤ a0_6) = false := decide_eq_false c6
    clear c6
    obtain rfl := Option.some.inj H
    go_enter Tryz.func88, Tryz.ntmps88
    go_wp2_with (first | ((with_reducible refine gate_dst (N := 1) rfl ?_); refine Pst.bx 1 #[.slice A0_0 l0_0.length c0_0, .int .i64 a0_1, .int .i64 a0_2, .slice A0_3 l0_3.length c0_3, .int .i64 a0_4, .int .i64 a0_5, .int .i64 a0_6, .int .i64 a0_7] 39 ?_; intro gb154 hg w20 hbox hb; have BK154 := Pst.A hbox; have GW154 := Pst.A (Pst.gs hg : w.heap.size ≤ gb154); have GE154 := Pst.A (Pst.gs hg : w.heap.size ≤ gb154); replace HB := Pst.A (below_step Pst.bel hb); clear hb hbox hg; obtain ⟨_,_,_,_,_,_,_,_⟩ := Pst.c8 BK154.out; obtain ⟨_,_,_,_,_,_,_,_⟩ := Pst.f8 BK154.out) | ((with_reducible refine gate_callee (f := 113) rfl ?_); refine goesL_ (some 5) rfl rfl Tryz.func113 (by kernel_rfl) rfl #[.agg #[.slice A0_0 l0_0.length c0_0, .int .i64 a0_1, .int .i64 a0_2]] rfl Pst.ga ?_; (with_reducible refine (impl_SideOk.calls k _ _ l0_0 a0_1 a0_2 true _ ?side1 ?side2 A2.out).mono ?_); (case side1 => exact Pst.qc (Kd.C_below HR0_0.out HB.out)); (case side2 => exact HC0_0.out); rintro e w22 ⟨rfl, hb⟩; refine ⟨_, rfl, ?_⟩; replace BK154 := Pst.A (Pst.kb BK154.out hb); replace HB := Pst.A (below_step Pst.bes hb); (try clear hb); (try clear hb2); (try clear hk); (try clear hi); obtain ⟨_,_,_,_,_,_,_,_⟩ := Pst.c8 BK154.out; obtain ⟨_,_,_,_,_,_,_,_⟩ := Pst.f8 BK154.out) | (go_at_call 113; (with_reducible refine (impl_SideOk.calls k _ _ l0_3 a0_4 a0_5 true _ ?side1 ?side2 A4.out).mono ?_); (case side1 => exact Pst.qc (Kd.C_below HR0_3.out HB.out)); (case side2 => exact HC0_3.out); rintro e w24 ⟨rfl, hb⟩; replace BK154 := Pst.A (Pst.kb BK154.out hb); replace HB := Pst.A (below_step Pst.bes hb); (try clear hb); (try clear hb2); (try clear hk); (try clear hi); obtain ⟨_,_,_,_,_,_,_,_⟩ := Pst.c8 BK154.out; obtain ⟨_,_,_,_,_,_,_,_⟩ := Pst.f8 BK154.out))
    go_ret
    exact ⟨Pst.e1, Pst.bes⟩
  ·replace c5 := Bool.eq_false_iff.mpr c5
   subst c5
   rw [if_neg Pst.ft] at H
   obtain rfl := Option.some.inj H
   go_enter Tryz.func88, Tryz.ntmps88
   go_wp2_with (first | ((with_reducible refine gate_dst (N := 1) rfl ?_); refine Pst.bx 1 #[.slice A0_0 l0_0.length c0_0, .int .i64 a0_1, .int .i64 a0_2, .slice A0_3 l0_3.length c0_3, .int .i64 a0_4, .int .i64 a0_5, .int .i64 a0_6, .int .i64 a0_7] 39 ?_; intro gb154 hg w26 hbox hb; have BK154 := Pst.A hbox; have GW154 := Pst.A (Pst.gs hg : w.heap.size ≤ gb154); have GE154 := Pst.A (Pst.gs hg : w.heap.size ≤ gb154); replace HB := Pst.A (below_step Pst.bel hb); clear hb hbox hg; obtain ⟨_,_,_,_,_,_,_,_⟩ := Pst.c8 BK154.out; obtain ⟨_,_,_,_,_,_,_,_⟩ := Pst.f8 BK154.out) | ((with_reducible refine gate_callee (f := 113) rfl ?_); refine goesL_ (some 5) rfl rfl Tryz.func113 (by kernel_rfl) rfl #[.agg #[.slice A0_0 l0_0.length c0_0, .int .i64 a0_1, .int .i64 a0_2]] rfl Pst.ga ?_; (with_reducible refine (impl_SideOk.calls k _ _ l0_0 a0_1 a0_2 true _ ?side1 ?side2 A2.out).mono ?_); (case side1 => exact Pst.qc (Kd.C_below HR0_0.out HB.out)); (case side2 => exact HC0_0.out); rintro e w28 ⟨rfl, hb⟩; refine ⟨_, rfl, ?_⟩; replace BK154 := Pst.A (Pst.kb BK154.out hb); replace HB := Pst.A (below_step Pst.bes hb); (try clear hb); (try clear hb2); (try clear hk); (try clear hi); obtain ⟨_,_,_,_,_,_,_,_⟩ := Pst.c8 BK154.out; obtain ⟨_,_,_,_,_,_,_,_⟩ := Pst.f8 BK154.out) | (go_at_call 113; (with_reducible refine (impl_SideOk.calls k _ _ l0_3 a0_4 a0_5 false _ ?side1 ?side2 A4.out).mono ?_); (case side1 => exact Pst.qc (Kd.C_below HR0_3.out HB.out)); (case side2 => exact HC0_3.out); rintro e w30 ⟨rfl, hb⟩; replace BK154 := Pst.A (Pst.kb BK154.out hb); replace HB := Pst.A (below_step Pst.bes hb); (try clear hb); (try clear hb2); (try clear hk); (try clear hi)))
   go_ret
   exact ⟨Pst.e1, Pst.bes⟩
 ·replace c3 := Bool.eq_false_iff.mpr c3
  subst c3
  rw [if_neg Pst.ft] at H
  obtain rfl := Option.some.inj H
  go_enter Tryz.func88, Tryz.ntmps88
  go_wp2_with (first | ((with_reducible refine gate_dst (N := 1) rfl ?_); refine Pst.bx 1 #[.slice A0_0 l0_0.length c0_0, .int .i64 a0_1, .int .i64 a0_2, .slice A0_3 l0_3.length c0_3, .int .i64 a0_4, .int .i64 a0_5, .int .i64 a0_6, .int .i64 a0_7] 39 ?_; intro gb154 hg w31 hbox hb; have BK154 := Pst.A hbox; have GW154 := Pst.A (Pst.gs hg : w.heap.size ≤ gb154); have GE154 := Pst.A (Pst.gs hg : w.heap.size ≤ gb154); replace HB := Pst.A (below_step Pst.bel hb); clear hb hbox hg; obtain ⟨_,_,_,_,_,_,_,_⟩ := Pst.c8 BK154.out; obtain ⟨_,_,_,_,_,_,_,_⟩ := Pst.f8 BK154.out) | ((with_reducible refine gate_callee (f := 113) rfl ?_); refine goesL_ (some 5) rfl rfl Tryz.func113 (by kernel_rfl) rfl #[.agg #[.slice A0_0 l0_0.length c0_0, .int .i64 a0_1, .int .i64 a0_2]] rfl Pst.ga ?_; (with_reducible refine (impl_SideOk.calls k _ _ l0_0 a0_1 a0_2 false _ ?side1 ?side2 A2.out).mono ?_); (case side1 => exact Pst.qc (Kd.C_below HR0_0.out HB.out)); (case side2 => exact HC0_0.out); rintro e w33 ⟨rfl, hb⟩; refine ⟨_, rfl, ?_⟩; replace BK154 := Pst.A (Pst.kb BK154.out hb); replace HB := Pst.A (below_step Pst.bes hb); (try clear hb); (try clear hb2); (try clear hk); (try clear hi)))
  go_ret
  exact ⟨Pst.e1, Pst.bes⟩

/-! ### impl_SetupOk: function 58 -/
def impl_SetupOk.l0 : Nat → List (S82) → Int → Int → Int → Int → Int → List (S82) → List (S102) → Int → Int → List (S102) → Int → Int → Int → Int → Option (Bool)
 | 0, _, _, _, _, _, _, _, _, _, _, _, _, _, _, _ => none
 | k + 1, x6, x7, x8, x158000, x158001, x158002, x158003, x158004, x158005, x158006, x158007, x158008, x158009, x158010, x158011 => if x8 < x7 then (if 0 ≤ x8 then (if x8 < (x6.length : Int) then ((impl_GoalOk.f k ((rd_T82 x6 x8).f0) ((rd_T82 x6 x8).f1) ((rd_T82 x6 x8).f2)).bind fun t163 => (if t163 = true then (if x8 ≤ (x158003.length : Int) then ((impl_goalThere.f (x158003.take (x8 : Int).toNat) ((rd_T82 x6 x8).f0) ((rd_T82 x6 x8).f1) ((rd_T82 x6 x8).f2)).bind fun t168 => (if t168 = true then (some false) else (impl_SetupOk.l0 k x6 x7 (wrap64 (x8 + 1)) x158000 x158001 x158002 x158003 x158004 x158005 x158006 x158007 x158008 x158009 x158010 x158011))) else (none)) else (some false))) else (none)) else (none)) else ((impl_RulesOk.f x158000 x158001 x158002).bind fun t158 => (if t158 = true then ((impl_BehaveOk.f k x158004 x158005 x158006 x158007 x158008 x158009 x158010 x158011).bind fun t159 => (if t159 = true then ((impl_in.f (x158003.length : Int) 1 3).bind fun t160 => (some t160)) else (some false))) else (some false)))
def impl_SetupOk.f (k : Nat) (a0_0 : Int) (a0_1 : Int) (a0_2 : Int) (l0_3 : List (S82)) (l0_4 : List (S102)) (a0_5 : Int) (a0_6 : Int) (l0_7 : List (S102)) (a0_8 : Int) (a0_9 : Int) (a0_10 : Int) (a0_11 : Int) : Option (Bool) := impl_SetupOk.l0 k l0_3 (l0_3.length : Int) 0 a0_0 a0_1 a0_2 l0_3 l0_4 a0_5 a0_6 l0_7 a0_8 a0_9 a0_10 a0_11
theorem impl_SetupOk.mono_l : ∀ k, (∀ y0 y1 y2 y3 y4 y5 y6 y7 y8 y9 y10 y11 y12 y13 y14, LeO (impl_SetupOk.l0 k y0 y1 y2 y3 y4 y5 y6 y7 y8 y9 y10 y11 y12 y13 y14) (impl_SetupOk.l0 (k + 1) y0 y1 y2 y3 y4 y5 y6 y7 y8 y9 y10 y11 y12 y13 y14))
 | 0 => fun _ _ _ _ _ _ _ _ _ _ _ _ _ _ _ r h => by simp [impl_SetupOk.l0] at h
 | k + 1 => by
  have ih0 := impl_SetupOk.mono_l k
  intro y0 y1 y2 y3 y4 y5 y6 y7 y8 y9 y10 y11 y12 y13 y14
  unfold impl_SetupOk.l0
  have m0 := @impl_BehaveOk.mono
  have m1 := @impl_GoalOk.mono
  exact Pst.mo
theorem impl_SetupOk.mono : ∀ a0 a1 a2 a3 a4 a5 a6 a7 a8 a9 a10 a11 k, LeO (impl_SetupOk.f k a0 a1 a2 a3 a4 a5 a6 a7 a8 a9 a10 a11) (impl_SetupOk.f (k + 1) a0 a1 a2 a3 a4 a5 a6 a7 a8 a9 a10 a11) := by
 intro a0 a1 a2 a3 a4 a5 a6 a7 a8 a9 a10 a11 k
 have ih0 := impl_SetupOk.mono_l k
 unfold impl_SetupOk.f
 have m0 := @impl_BehaveOk.mono
 have m1 := @impl_GoalOk.mono
 exact Pst.mo
theorem impl_SetupOk.calls (k : Nat) (a0_0 : Int) (a0_1 : Int) (a0_2 : Int) (A0_3 : Option Addr) (c0_3 : Nat) (l0_3 : List (S82)) (A0_4 : Option Addr) (c0_4 : Nat) (l0_4 : List (S102)) (a0_5 : Int) (a0_6 : Int) (A0_7 : Option Addr) (c0_7 : Nat) (l0_7 : List (S102)) (a0_8 : Int) (a0_9 : Int) (a0_10 : Int) (a0_11 : Int) (r : Bool) (w : World) (hr0_3 : Kd.C k82 w A0_3 l0_3.length l0_3) (hc0_3 : l0_3.length ≤ c0_3) (hr0_4 : Kd.C k102 w A0_4 l0_4.length l0_4) (hc0_4 : l0_4.length ≤ c0_4) (hr0_7 : Kd.C k102 w A0_7 l0_7.length l0_7) (hc0_7 : l0_7.length ≤ c0_7) (h : impl_SetupOk.f k a0_0 a0_1 a0_2 l0_3 l0_4 a0_5 a0_6 l0_7 a0_8 a0_9 a0_10 a0_11 = some r) :
 Calls Tryz.prog 58 #[.agg #[.int .i64 a0_0, .int .i64 a0_1, .int .i64 a0_2, .slice A0_3 l0_3.length c0_3, .slice A0_4 l0_4.length c0_4, .int .i64 a0_5, .int .i64 a0_6, .slice A0_7 l0_7.length c0_7, .int .i64 a0_8, .int .i64 a0_9, .int .i64 a0_10, .int .i64 a0_11]] w fun e w' => e = .returned (.bool r) ∧ Below w.heap.size w w' := by
 have hu41 := Tryz.underlying41
 have hu82 := Tryz.underlying82
 have hu33 := Tryz.underlying33
 have hu39 := Tryz.underlying39
 have HR0_3 := Pst.A hr0_3
 have HC0_3 := Pst.A hc0_3
 clear hr0_3 hc0_3
 have HR0_4 := Pst.A hr0_4
 have HC0_4 := Pst.A hc0_4
 clear hr0_4 hc0_4
 have HR0_7 := Pst.A hr0_7
 have HC0_7 := Pst.A hc0_7
 clear hr0_7 hc0_7
 have HB := Pst.A (Below.refl w.heap.size w)
 have H : (impl_SetupOk.l0 k l0_3 (l0_3.length : Int) 0 a0_0 a0_1 a0_2 l0_3 l0_4 a0_5 a0_6 l0_7 a0_8 a0_9 a0_10 a0_11) = some r := h
 clear h
 have H' := Pst.A H
 clear H
 go_enter Tryz.func58, Tryz.ntmps58
 go_wp2_with (first | ((with_reducible refine gate_dst (N := 1) rfl ?_); (try (refine gate_guard (by rfl) ?_; dsimp only)); refine Pst.bx 1 #[.int .i64 a0_0, .int .i64 a0_1, .int .i64 a0_2, .slice A0_3 l0_3.length c0_3, .slice A0_4 l0_4.length c0_4, .int .i64 a0_5, .int .i64 a0_6, .slice A0_7 l0_7.length c0_7, .int .i64 a0_8, .int .i64 a0_9, .int .i64 a0_10, .int .i64 a0_11] 41 ?_; intro gb157 hg w2 hbox hb; have BK157 := Pst.A hbox; have GW157 := Pst.A (Pst.gs hg : w.heap.size ≤ gb157); have GE157 := Pst.A (Pst.gs hg : w.heap.size ≤ gb157); replace HB := Pst.A (below_step Pst.bel hb); clear hb hbox hg; obtain ⟨hcz3_0, hcz3_1, hcz3_2, hcz3_3, hcz3_4, hcz3_5, hcz3_6, hcz3_7, hcz3_8, hcz3_9, hcz3_10, hcz3_11⟩ := Pst.c12 BK157.out; obtain ⟨hfz3_0, hfz3_1, hfz3_2, hfz3_3, hfz3_4, hfz3_5, hfz3_6, hfz3_7, hfz3_8, hfz3_9, hfz3_10, hfz3_11⟩ := Pst.f12 BK157.out))
 go_loopg [8] k (fun kq v8 w' => ∃ (x8_1 : Int), v8 = .int .i64 x8_1 ∧ Aside0 (impl_SetupOk.l0 kq l0_3 (l0_3.length : Int) x8_1 a0_0 a0_1 a0_2 l0_3 l0_4 a0_5 a0_6 l0_7 a0_8 a0_9 a0_10 a0_11 = some r) ∧ Aside0 (kq ≤ k) ∧ Aside0 (w'.heap[gb157]? = some (.cells #[.int .i64 a0_0, .int .i64 a0_1, .int .i64 a0_2, (.slice A0_3 l0_3.length c0_3), (.slice A0_4 l0_4.length c0_4), .int .i64 a0_5, .int .i64 a0_6, (.slice A0_7 l0_7.length c0_7), .int .i64 a0_8, .int .i64 a0_9, .int .i64 a0_10, .int .i64 a0_11] 41 (0, 0))) ∧ Aside0 (Below w.heap.size w w'))
 case atStart => exact ⟨(0), Pst.e2, H', ⟨Nat.le_refl _⟩, ⟨by exact Pst.qb BK157.out⟩, ⟨Pst.bes⟩⟩
 clear H'
 try clear p2
 obtain ⟨x8_1, rfl, HA, HK1, BK157, HB⟩ := hrel
 cases gk with
 | zero => exact absurd HA.out (by simp [impl_SetupOk.l0])
 | succ k1 =>
  have H := HA.out
  clear HA
  simp only [impl_SetupOk.l0] at H
  by_cases c4 : x8_1 < (l0_3.length : Int)
  ·rw [if_pos c4] at H
   have c4b0 : decide (x8_1 < (l0_3.length : Int)) = true := decide_eq_true c4
   clear c4
   by_cases c5 : 0 ≤ x8_1
   ·rw [if_pos c5] at H
    have c5b0 : decide (0 ≤ x8_1) = true := decide_eq_true c5
    clear c5
    by_cases c6 : x8_1 < (l0_3.length : Int)
    ·rw [if_pos c6] at H
     have c6b0 : decide (x8_1 < (l0_3.length : Int)) = true := decide_eq_true c6
     clear c6
     obtain ⟨t163, A70, H⟩ := Pst.bd H
     have A7 := Pst.A A70
     clear A70
     by_cases c8 : t163 = true
     ·subst c8
      rw [if_pos rfl] at H
      have c9b0 := eq_true (Pst.da : 0 ≤ x8_1)
      by_cases c10 : x8_1 ≤ (l0_3.length : Int)
      ·rw [if_pos c10] at H
       have c10b0 := eq_true c10
       have c10b1 : decide (x8_1 ≤ (l0_3.length : Int)) = true := decide_eq_true c10
       clear c10
       obtain ⟨y164, hy164⟩ : ∃ y_ : List (S82), y_ = (l0_3.take (x8_1 : Int).toNat) := ⟨_, rfl⟩
       replace H : ((impl_goalThere.f y164 ((rd_T82 l0_3 x8_1).f0) ((rd_T82 l0_3 x8_1).f1) ((rd_T82 l0_3 x8_1).f2)).bind fun t168 => (if t168 = true then (some false) else (impl_SetupOk.l0 k1 l0_3 (l0_3.length : Int) (wrap64 (x8_1 + 1)) a0_0 a0_1 a0_2 l0_3 l0_4 a0_5 a0_6 l0_7 a0_8 a0_9 a0_10 a0_11))) = some r := by first | (rw [hy164]; with_reducible exact H) | (have H2_ := (Option.bind_some _ _).symm.trans H; rw [hy164]; with_reducible exact H2_) | (have H2_ := (Option.bind_some _ _).symm.trans H; with_reducible exact H2_) | with_reducible exact H | (rw [hy164]; exact H) | exact H
       have Ny164 := Pst.A hy164
       clear hy164
       obtain ⟨t168, A110, H⟩ := Pst.bd H
       have A11 := Pst.A A110
       clear A110
       by_cases c12 : t168 = true
       ·subst c12
        rw [if_pos rfl] at H
        obtain rfl := Option.some.inj H
        have p161 : 0 ≤ (x8_1 : Int) := Pst.da
        have q161 : x8_1 < (l0_3.length : Int) := Pst.da
        obtain ⟨ad161, e161, hx161_0, hx161_1, hx161_2⟩ := at_T82 HR0_3.out x8_1 p161 q161
        cases e161
        replace hx161_0 := (HB.out.cell (World.block_lt_of_cell? w _ hx161_0)).trans hx161_0
        replace hx161_1 := (HB.out.cell (World.block_lt_of_cell? w _ hx161_1)).trans hx161_1
        replace hx161_2 := (HB.out.cell (World.block_lt_of_cell? w _ hx161_2)).trans hx161_2
        replace p161 := eq_true p161
        replace q161 := eq_true q161
        go_wp2_with (first | ((with_reducible refine gate_dst (N := 4) rfl ?_); (try (refine gate_guard (by rfl) ?_; dsimp only)); refine Pst.bx 4 (#[.string (⟨#[]⟩ : ByteArray), .int .i64 0, .int .i64 0]) 82 ?_; intro gb162 hg w13 hbox hb; have BK162 := Pst.A hbox; have GW162 := Pst.A (Pst.gs hg : w.heap.size ≤ gb162); have GE162 := Pst.A (Pst.gs hg : w.heap.size ≤ gb162); have NB157_162 := Pst.A (Pst.nl BK157.out hg); have NB162_157 := Pst.A (Pst.nr BK157.out hg); replace BK157 := Pst.A (Pst.kb BK157.out hb); replace HB := Pst.A (below_step Pst.bes hb); clear hb hbox hg; have hnb14 := NB162_157.out; have hnc14 := NB157_162.out; obtain ⟨hcz15_0, hcz15_1, hcz15_2⟩ := Pst.c3 BK162.out; obtain ⟨hfz15_0, hfz15_1, hfz15_2⟩ := Pst.f3 BK162.out) | ((with_reducible refine gate_callee (f := 84) rfl ?_); refine goesL_ (some 14) rfl rfl Tryz.func84 (by kernel_rfl) rfl #[.agg #[.string ((rd_T82 l0_3 x8_1).f0), .int .i64 ((rd_T82 l0_3 x8_1).f1), .int .i64 ((rd_T82 l0_3 x8_1).f2)]] rfl Pst.ga ?_; (with_reducible refine (impl_GoalOk.calls k1 ((rd_T82 l0_3 x8_1).f0) ((rd_T82 l0_3 x8_1).f1) ((rd_T82 l0_3 x8_1).f2) true _ A7.out).mono ?_); rintro e w16 ⟨rfl, hb⟩; refine ⟨_, rfl, ?_⟩; replace BK157 := Pst.A (Pst.kf BK157.out hb); replace BK162 := Pst.A (blk_below (g := gb162) (o := .cells #[.string ((rd_T82 l0_3 x8_1).f0), .int .i64 ((rd_T82 l0_3 x8_1).f1), .int .i64 ((rd_T82 l0_3 x8_1).f2)] 82 (0, 0)) (by (with_reducible repeat (first | refine blk_drewN ?_ _ | refine blk_drew ?_ | refine blk_alloc ?_ _)); refine blk_put (cs := #[.string ((rd_T82 l0_3 x8_1).f0), .int .i64 ((rd_T82 l0_3 x8_1).f1), .int .i64 0]) ?_ 2 _ rfl; (with_reducible repeat (first | refine blk_drewN ?_ _ | refine blk_drew ?_ | refine blk_alloc ?_ _)); refine blk_put (cs := #[.string ((rd_T82 l0_3 x8_1).f0), .int .i64 0, .int .i64 0]) ?_ 1 _ rfl; (with_reducible repeat (first | refine blk_drewN ?_ _ | refine blk_drew ?_ | refine blk_alloc ?_ _)); refine blk_put (cs := #[.string (⟨#[]⟩ : ByteArray), .int .i64 0, .int .i64 0]) ?_ 0 _ rfl; exact Pst.qb BK162.out) hb); replace HB := Pst.A (below_step Pst.bes hb); (try clear hb); (try clear hb2); (try clear hk); (try clear hi); obtain ⟨hcz17_0, hcz17_1, hcz17_2, hcz17_3, hcz17_4, hcz17_5, hcz17_6, hcz17_7, hcz17_8, hcz17_9, hcz17_10, hcz17_11⟩ := Pst.c12 BK157.out; obtain ⟨hfz17_0, hfz17_1, hfz17_2, hfz17_3, hfz17_4, hfz17_5, hfz17_6, hfz17_7, hfz17_8, hfz17_9, hfz17_10, hfz17_11⟩ := Pst.f12 BK157.out; have q18 : (x8_1 : Int) ≤ ((l0_3.length : Int) : Int) := Pst.da; obtain ⟨i018, hi018, _, hsz18, _⟩ := info_parts info82; have hroom18 : l0_3.length ≤ c0_3 := HC0_3.out; have hC18 : Kd.C k82 _ (some ad161) l0_3.length l0_3 := HR0_3.out; have hcut18 := cut_to (P := Tryz.prog) 34 82 .i64 Tryz.underlying34 hi018 (some ad161) l0_3.length c0_3 x8_1 (Pst.da) q18 hroom18; have hr18 := Kd.C_take (m := (x8_1 : Int).toNat) hC18 (by omega); have hy18 : y164.length = (x8_1 : Int).toNat := (by rw [Ny164.out, List.length_take]; omega); rw [← Ny164.out] at hr18; rw [← hy18] at hcut18; have HR167 := Pst.A hr18; have HC167 := Pst.A (show y164.length ≤ c0_3 from by omega); clear hr18 hC18 hroom18 hi018 hsz18; have KY18 := Pst.A hy18; clear hy18; replace q18 := eq_true q18; obtain ⟨hcz19_0, hcz19_1, hcz19_2⟩ := Pst.c3 BK162.out; obtain ⟨hfz19_0, hfz19_1, hfz19_2⟩ := Pst.f3 BK162.out) | (go_at_call 85; (with_reducible refine (impl_goalThere.calls _ _ y164 ((rd_T82 l0_3 x8_1).f0) ((rd_T82 l0_3 x8_1).f1) ((rd_T82 l0_3 x8_1).f2) true _ ?side1 ?side2 A11.out (hcell := ?side9)).mono ?_); (case side9 => exact (blk_cell (show _ = some _ from by exact Pst.qb BK162.out) 0).trans rfl); (case side1 => exact Pst.qc (Kd.C_below HR167.out HB.out)); (case side2 => exact HC167.out); rintro e w20 ⟨rfl, hb⟩; replace BK157 := Pst.A (Pst.kb BK157.out hb); replace BK162 := Pst.A (Pst.kb BK162.out hb); replace HB := Pst.A (below_step Pst.bes hb); (try clear hb); (try clear hb2); (try clear hk); (try clear hi)))
        go_ret
        exact ⟨Pst.e1, Pst.bes⟩
       replace c12 := Bool.eq_false_iff.mpr c12
       subst c12
       rw [if_neg Pst.ft] at H
       have H' := Pst.A H
       clear H
       have p161 : 0 ≤ (x8_1 : Int) := Pst.da
       have q161 : x8_1 < (l0_3.length : Int) := Pst.da
       obtain ⟨ad161, e161, hx161_0, hx161_1, hx161_2⟩ := at_T82 HR0_3.out x8_1 p161 q161
       cases e161
       replace hx161_0 := (HB.out.cell (World.block_lt_of_cell? w _ hx161_0)).trans hx161_0
       replace hx161_1 := (HB.out.cell (World.block_lt_of_cell? w _ hx161_1)).trans hx161_1
       replace hx161_2 := (HB.out.cell (World.block_lt_of_cell? w _ hx161_2)).trans hx161_2
       replace p161 := eq_true p161
       replace q161 := eq_true q161
       go_wp2_with (first | ((with_reducible refine gate_dst (N := 4) rfl ?_); (try (refine gate_guard (by rfl) ?_; dsimp only)); refine Pst.bx 4 (#[.string (⟨#[]⟩ : ByteArray), .int .i64 0, .int .i64 0]) 82 ?_; intro gb162 hg w21 hbox hb; have BK162 := Pst.A hbox; have GW162 := Pst.A (Pst.gs hg : w.heap.size ≤ gb162); have GE162 := Pst.A (Pst.gs hg : w.heap.size ≤ gb162); have NB157_162 := Pst.A (Pst.nl BK157.out hg); have NB162_157 := Pst.A (Pst.nr BK157.out hg); replace BK157 := Pst.A (Pst.kb BK157.out hb); replace HB := Pst.A (below_step Pst.bes hb); clear hb hbox hg; have hnb22 := NB162_157.out; have hnc22 := NB157_162.out; obtain ⟨hcz23_0, hcz23_1, hcz23_2⟩ := Pst.c3 BK162.out; obtain ⟨hfz23_0, hfz23_1, hfz23_2⟩ := Pst.f3 BK162.out) | ((with_reducible refine gate_callee (f := 84) rfl ?_); refine goesL_ (some 14) rfl rfl Tryz.func84 (by kernel_rfl) rfl #[.agg #[.string ((rd_T82 l0_3 x8_1).f0), .int .i64 ((rd_T82 l0_3 x8_1).f1), .int .i64 ((rd_T82 l0_3 x8_1).f2)]] rfl Pst.ga ?_; (with_reducible refine (impl_GoalOk.calls k1 ((rd_T82 l0_3 x8_1).f0) ((rd_T82 l0_3 x8_1).f1) ((rd_T82 l0_3 x8_1).f2) true _ A7.out).mono ?_); rintro e w24 ⟨rfl, hb⟩; refine ⟨_, rfl, ?_⟩; replace BK157 := Pst.A (Pst.kf BK157.out hb); replace BK162 := Pst.A (blk_below (g := gb162) (o := .cells #[.string ((rd_T82 l0_3 x8_1).f0), .int .i64 ((rd_T82 l0_3 x8_1).f1), .int .i64 ((rd_T82 l0_3 x8_1).f2)] 82 (0, 0)) (by (with_reducible repeat (first | refine blk_drewN ?_ _ | refine blk_drew ?_ | refine blk_alloc ?_ _)); refine blk_put (cs := #[.string ((rd_T82 l0_3 x8_1).f0), .int .i64 ((rd_T82 l0_3 x8_1).f1), .int .i64 0]) ?_ 2 _ rfl; (with_reducible repeat (first | refine blk_drewN ?_ _ | refine blk_drew ?_ | refine blk_alloc ?_ _)); refine blk_put (cs := #[.string ((rd_T82 l0_3 x8_1).f0), .int .i64 0, .int .i64 0]) ?_ 1 _ rfl; (with_reducible repeat (first | refine blk_drewN ?_ _ | refine blk_drew ?_ | refine blk_alloc ?_ _)); refine blk_put (cs := #[.string (⟨#[]⟩ : ByteArray), .int .i64 0, .int .i64 0]) ?_ 0 _ rfl; exact Pst.qb BK162.out) hb); replace HB := Pst.A (below_step Pst.bes hb); (try clear hb); (try clear hb2); (try clear hk); (try clear hi); obtain ⟨hcz25_0, hcz25_1, hcz25_2, hcz25_3, hcz25_4, hcz25_5, hcz25_6, hcz25_7, hcz25_8, hcz25_9, hcz25_10, hcz25_11⟩ := Pst.c12 BK157.out; obtain ⟨hfz25_0, hfz25_1, hfz25_2, hfz25_3, hfz25_4, hfz25_5, hfz25_6, hfz25_7, hfz25_8, hfz25_9, hfz25_10, hfz25_11⟩ := Pst.f12 BK157.out; have q26 : (x8_1 : Int) ≤ ((l0_3.length : Int) : Int) := Pst.da; obtain ⟨i026, hi026, _, hsz26, _⟩ := info_parts info82; have hroom26 : l0_3.length ≤ c0_3 := HC0_3.out; have hC26 : Kd.C k82 _ (some ad161) l0_3.length l0_3 := HR0_3.out; have hcut26 := cut_to (P := Tryz.prog) 34 82 .i64 Tryz.underlying34 hi026 (some ad161) l0_3.length c0_3 x8_1 (Pst.da) q26 hroom26; have hr26 := Kd.C_take (m := (x8_1 : Int).toNat) hC26 (by omega); have hy26 : y164.length = (x8_1 : Int).toNat := (by rw [Ny164.out, List.length_take]; omega); rw [← Ny164.out] at hr26; rw [← hy26] at hcut26; have HR167 := Pst.A hr26; have HC167 := Pst.A (show y164.length ≤ c0_3 from by omega); clear hr26 hC26 hroom26 hi026 hsz26; have KY26 := Pst.A hy26; clear hy26; replace q26 := eq_true q26; obtain ⟨hcz27_0, hcz27_1, hcz27_2⟩ := Pst.c3 BK162.out; obtain ⟨hfz27_0, hfz27_1, hfz27_2⟩ := Pst.f3 BK162.out) | (go_at_call 85; (with_reducible refine (impl_goalThere.calls _ _ y164 ((rd_T82 l0_3 x8_1).f0) ((rd_T82 l0_3 x8_1).f1) ((rd_T82 l0_3 x8_1).f2) false _ ?side1 ?side2 A11.out (hcell := ?side9)).mono ?_); (case side9 => exact (blk_cell (show _ = some _ from by exact Pst.qb BK162.out) 0).trans rfl); (case side1 => exact Pst.qc (Kd.C_below HR167.out HB.out)); (case side2 => exact HC167.out); rintro e w28 ⟨rfl, hb⟩; replace BK157 := Pst.A (Pst.kb BK157.out hb); replace BK162 := Pst.A (Pst.kb BK162.out hb); replace HB := Pst.A (below_step Pst.bes hb); (try clear hb); (try clear hb2); (try clear hk); (try clear hi)))
       go_roundg k1
       case measure => have := HK1.out; omega
       case rel => exact ⟨(wrap64 (x8_1 + 1)), Pst.e2, H', ⟨by have := HK1.out; omega⟩, ⟨by exact Pst.qb BK157.out⟩, ⟨Pst.bes⟩⟩
      rw [if_neg c10] at H
      exact absurd H (by simp)
     replace c8 := Bool.eq_false_iff.mpr c8
     subst c8
     rw [if_neg Pst.ft] at H
     obtain rfl := Option.some.inj H
     have p161 : 0 ≤ (x8_1 : Int) := Pst.da
     have q161 : x8_1 < (l0_3.length : Int) := Pst.da
     obtain ⟨ad161, e161, hx161_0, hx161_1, hx161_2⟩ := at_T82 HR0_3.out x8_1 p161 q161
     cases e161
     replace hx161_0 := (HB.out.cell (World.block_lt_of_cell? w _ hx161_0)).trans hx161_0
     replace hx161_1 := (HB.out.cell (World.block_lt_of_cell? w _ hx161_1)).trans hx161_1
     replace hx161_2 := (HB.out.cell (World.block_lt_of_cell? w _ hx161_2)).trans hx161_2
     replace p161 := eq_true p161
     replace q161 := eq_true q161
     go_wp2_with (first | ((with_reducible refine gate_dst (N := 4) rfl ?_); (try (refine gate_guard (by rfl) ?_; dsimp only)); refine Pst.bx 4 (#[.string (⟨#[]⟩ : ByteArray), .int .i64 0, .int .i64 0]) 82 ?_; intro gb162 hg w29 hbox hb; have BK162 := Pst.A hbox; have GW162 := Pst.A (Pst.gs hg : w.heap.size ≤ gb162); have GE162 := Pst.A (Pst.gs hg : w.heap.size ≤ gb162); have NB157_162 := Pst.A (Pst.nl BK157.out hg); have NB162_157 := Pst.A (Pst.nr BK157.out hg); replace BK157 := Pst.A (Pst.kb BK157.out hb); replace HB := Pst.A (below_step Pst.bes hb); clear hb hbox hg; have hnb30 := NB162_157.out; have hnc30 := NB157_162.out; obtain ⟨hcz31_0, hcz31_1, hcz31_2⟩ := Pst.c3 BK162.out; obtain ⟨hfz31_0, hfz31_1, hfz31_2⟩ := Pst.f3 BK162.out) | ((with_reducible refine gate_callee (f := 84) rfl ?_); refine goesL_ (some 14) rfl rfl Tryz.func84 (by kernel_rfl) rfl #[.agg #[.string ((rd_T82 l0_3 x8_1).f0), .int .i64 ((rd_T82 l0_3 x8_1).f1), .int .i64 ((rd_T82 l0_3 x8_1).f2)]] rfl Pst.ga ?_; (with_reducible refine (impl_GoalOk.calls k1 ((rd_T82 l0_3 x8_1).f0) ((rd_T82 l0_3 x8_1).f1) ((rd_T82 l0_3 x8_1).f2) false _ A7.out).mono ?_); rintro e w32 ⟨rfl, hb⟩; refine ⟨_, rfl, ?_⟩; replace BK157 := Pst.A (Pst.kf BK157.out hb); replace BK162 := Pst.A (blk_below (g := gb162) (o := .cells #[.string ((rd_T82 l0_3 x8_1).f0), .int .i64 ((rd_T82 l0_3 x8_1).f1), .int .i64 ((rd_T82 l0_3 x8_1).f2)] 82 (0, 0)) (by (with_reducible repeat (first | refine blk_drewN ?_ _ | refine blk_drew ?_ | refine blk_alloc ?_ _)); refine blk_put (cs := #[.string ((rd_T82 l0_3 x8_1).f0), .int .i64 ((rd_T82 l0_3 x8_1).f1), .int .i64 0]) ?_ 2 _ rfl; (with_reducible repeat (first | refine blk_drewN ?_ _ | refine blk_drew ?_ | refine blk_alloc ?_ _)); refine blk_put (cs := #[.string ((rd_T82 l0_3 x8_1).f0), .int .i64 0, .int .i64 0]) ?_ 1 _ rfl; (with_reducible repeat (first | refine blk_drewN ?_ _ | refine blk_drew ?_ | refine blk_alloc ?_ _)); refine blk_put (cs := #[.string (⟨#[]⟩ : ByteArray), .int .i64 0, .int .i64 0]) ?_ 0 _ rfl; exact Pst.qb BK162.out) hb); replace HB := Pst.A (below_step Pst.bes hb); (try clear hb); (try clear hb2); (try clear hk); (try clear hi)))
     go_ret
     exact ⟨Pst.e1, Pst.bes⟩
    rw [if_neg c6] at H
    exact absurd H (by simp)
   rw [if_neg c5] at H
   exact absurd H (by simp)
  rw [if_neg c4] at H
  have c4b0 : decide (x8_1 < (l0_3.length : Int)) = false := decide_eq_false c4
  clear c4
  obtain ⟨t158, A330, H⟩ := Pst.bd H
  have A33 := Pst.A A330
  clear A330
  by_cases c34 : t158 = true
  ·subst c34
   rw [if_pos rfl] at H
   obtain ⟨t159, A350, H⟩ := Pst.bd H
   have A35 := Pst.A A350
   clear A350
   by_cases c36 : t159 = true
   ·subst c36
    rw [if_pos rfl] at H
    obtain ⟨t160, A370, H⟩ := Pst.bd H
    have A37 := Pst.A A370
    clear A370
    obtain rfl := Option.some.inj H
    obtain ⟨hcz38_0, hcz38_1, hcz38_2, hcz38_3, hcz38_4, hcz38_5, hcz38_6, hcz38_7, hcz38_8, hcz38_9, hcz38_10, hcz38_11⟩ := Pst.c12 BK157.out
    obtain ⟨hfz38_0, hfz38_1, hfz38_2, hfz38_3, hfz38_4, hfz38_5, hfz38_6, hfz38_7, hfz38_8, hfz38_9, hfz38_10, hfz38_11⟩ := Pst.f12 BK157.out
    go_wp2_with (first | ((with_reducible refine gate_callee (f := 87) rfl ?_); refine goesL_ (some 27) rfl rfl Tryz.func87 (by kernel_rfl) rfl #[.agg #[.int .i64 a0_0, .int .i64 a0_1, .int .i64 a0_2]] rfl Pst.ga ?_; (with_reducible refine (impl_RulesOk.calls a0_0 a0_1 a0_2 true _ A33.out).mono ?_); rintro e w39 ⟨rfl, hb⟩; refine ⟨_, rfl, ?_⟩; replace BK157 := Pst.A (Pst.kb BK157.out hb); replace HB := Pst.A (below_step Pst.bes hb); (try clear hb); (try clear hb2); (try clear hk); (try clear hi); obtain ⟨hcz40_0, hcz40_1, hcz40_2, hcz40_3, hcz40_4, hcz40_5, hcz40_6, hcz40_7, hcz40_8, hcz40_9, hcz40_10, hcz40_11⟩ := Pst.c12 BK157.out; obtain ⟨hfz40_0, hfz40_1, hfz40_2, hfz40_3, hfz40_4, hfz40_5, hfz40_6, hfz40_7, hfz40_8, hfz40_9, hfz40_10, hfz40_11⟩ := Pst.f12 BK157.out) | (go_at_call 88; (with_reducible refine (impl_BehaveOk.calls k1 _ _ l0_4 a0_5 a0_6 _ _ l0_7 a0_8 a0_9 a0_10 a0_11 true _ ?side1 ?side2 ?side3 ?side4 A35.out).mono ?_); (case side1 => exact Pst.qc (Kd.C_below HR0_4.out HB.out)); (case side2 => exact HC0_4.out); (case side3 => exact Pst.qc (Kd.C_below HR0_7.out HB.out)); (case side4 => exact HC0_7.out); rintro e w41 ⟨rfl, hb⟩; replace BK157 := Pst.A (Pst.kb BK157.out hb); replace HB := Pst.A (below_step Pst.bes hb); (try clear hb); (try clear hb2); (try clear hk); (try clear hi); obtain ⟨hcz42_0, hcz42_1, hcz42_2, hcz42_3, hcz42_4, hcz42_5, hcz42_6, hcz42_7, hcz42_8, hcz42_9, hcz42_10, hcz42_11⟩ := Pst.c12 BK157.out; obtain ⟨hfz42_0, hfz42_1, hfz42_2, hfz42_3, hfz42_4, hfz42_5, hfz42_6, hfz42_7, hfz42_8, hfz42_9, hfz42_10, hfz42_11⟩ := Pst.f12 BK157.out) | (go_at_call 24; (with_reducible refine (impl_in.calls (l0_3.length : Int) 1 3 t160 _ A37.out).mono ?_); rintro e w' ⟨rfl, ⟨nd, rfl⟩⟩))
    go_ret
    exact ⟨Pst.e1, Pst.bes⟩
   replace c36 := Bool.eq_false_iff.mpr c36
   subst c36
   rw [if_neg Pst.ft] at H
   obtain rfl := Option.some.inj H
   obtain ⟨hcz43_0, hcz43_1, hcz43_2, hcz43_3, hcz43_4, hcz43_5, hcz43_6, hcz43_7, hcz43_8, hcz43_9, hcz43_10, hcz43_11⟩ := Pst.c12 BK157.out
   obtain ⟨hfz43_0, hfz43_1, hfz43_2, hfz43_3, hfz43_4, hfz43_5, hfz43_6, hfz43_7, hfz43_8, hfz43_9, hfz43_10, hfz43_11⟩ := Pst.f12 BK157.out
   go_wp2_with (first | ((with_reducible refine gate_callee (f := 87) rfl ?_); refine goesL_ (some 27) rfl rfl Tryz.func87 (by kernel_rfl) rfl #[.agg #[.int .i64 a0_0, .int .i64 a0_1, .int .i64 a0_2]] rfl Pst.ga ?_; (with_reducible refine (impl_RulesOk.calls a0_0 a0_1 a0_2 true _ A33.out).mono ?_); rintro e w44 ⟨rfl, hb⟩; refine ⟨_, rfl, ?_⟩; replace BK157 := Pst.A (Pst.kb BK157.out hb); replace HB := Pst.A (below_step Pst.bes hb); (try clear hb); (try clear hb2); (try clear hk); (try clear hi); obtain ⟨hcz45_0, hcz45_1, hcz45_2, hcz45_3, hcz45_4, hcz45_5, hcz45_6, hcz45_7, hcz45_8, hcz45_9, hcz45_10, hcz45_11⟩ := Pst.c12 BK157.out; obtain ⟨hfz45_0, hfz45_1, hfz45_2, hfz45_3, hfz45_4, hfz45_5, hfz45_6, hfz45_7, hfz45_8, hfz45_9, hfz45_10, hfz45_11⟩ := Pst.f12 BK157.out) | (go_at_call 88; (with_reducible refine (impl_BehaveOk.calls k1 _ _ l0_4 a0_5 a0_6 _ _ l0_7 a0_8 a0_9 a0_10 a0_11 false _ ?side1 ?side2 ?side3 ?side4 A35.out).mono ?_); (case side1 => exact Pst.qc (Kd.C_below HR0_4.out HB.out)); (case side2 => exact HC0_4.out); (case side3 => exact Pst.qc (Kd.C_below HR0_7.out HB.out)); (case side4 => exact HC0_7.out); rintro e w46 ⟨rfl, hb⟩; replace BK157 := Pst.A (Pst.kb BK157.out hb); replace HB := Pst.A (below_step Pst.bes hb); (try clear hb); (try clear hb2); (try clear hk); (try clear hi)))
   go_ret
   exact ⟨Pst.e1, Pst.bes⟩
  replace c34 := Bool.eq_false_iff.mpr c34
  subst c34
  rw [if_neg Pst.ft] at H
  obtain rfl := Option.some.inj H
  obtain ⟨hcz47_0, hcz47_1, hcz47_2, hcz47_3, hcz47_4, hcz47_5, hcz47_6, hcz47_7, hcz47_8, hcz47_9, hcz47_10, hcz47_11⟩ := Pst.c12 BK157.out
  obtain ⟨hfz47_0, hfz47_1, hfz47_2, hfz47_3, hfz47_4, hfz47_5, hfz47_6, hfz47_7, hfz47_8, hfz47_9, hfz47_10, hfz47_11⟩ := Pst.f12 BK157.out
  go_wp2_with (first | ((with_reducible refine gate_callee (f := 87) rfl ?_); refine goesL_ (some 27) rfl rfl Tryz.func87 (by kernel_rfl) rfl #[.agg #[.int .i64 a0_0, .int .i64 a0_1, .int .i64 a0_2]] rfl Pst.ga ?_; (with_reducible refine (impl_RulesOk.calls a0_0 a0_1 a0_2 false _ A33.out).mono ?_); rintro e w48 ⟨rfl, hb⟩; refine ⟨_, rfl, ?_⟩; replace BK157 := Pst.A (Pst.kb BK157.out hb); replace HB := Pst.A (below_step Pst.bes hb); (try clear hb); (try clear hb2); (try clear hk); (try clear hi)))
  go_ret
  exact ⟨Pst.e1, Pst.bes⟩
theorem impl_SetupOk.l0.st {x6 : List (S82)} {x7 : Int} {x8 : Int} {x158000 : Int} {x158001 : Int} {x158002 : Int} {x158003 : List (S82)} {x158004 : List (S102)} {x158005 : Int} {x158006 : Int} {x158007 : List (S102)} {x158008 : Int} {x158009 : Int} {x158010 : Int} {x158011 : Int} {r : (Bool)} (H : Ev (fun k => if x8 < x7 then (if 0 ≤ x8 then (if x8 < (x6.length : Int) then ((impl_GoalOk.f k ((rd_T82 x6 x8).f0) ((rd_T82 x6 x8).f1) ((rd_T82 x6 x8).f2)).bind fun t163 => (if t163 = true then (if x8 ≤ (x158003.length : Int) then ((impl_goalThere.f (x158003.take (x8 : Int).toNat) ((rd_T82 x6 x8).f0) ((rd_T82 x6 x8).f1) ((rd_T82 x6 x8).f2)).bind fun t168 => (if t168 = true then (some false) else (impl_SetupOk.l0 k x6 x7 (wrap64 (x8 + 1)) x158000 x158001 x158002 x158003 x158004 x158005 x158006 x158007 x158008 x158009 x158010 x158011))) else (none)) else (some false))) else (none)) else (none)) else ((impl_RulesOk.f x158000 x158001 x158002).bind fun t158 => (if t158 = true then ((impl_BehaveOk.f k x158004 x158005 x158006 x158007 x158008 x158009 x158010 x158011).bind fun t159 => (if t159 = true then ((impl_in.f (x158003.length : Int) 1 3).bind fun t160 => (some t160)) else (some false))) else (some false)))) r) : Ev (fun k => impl_SetupOk.l0 k x6 x7 x8 x158000 x158001 x158002 x158003 x158004 x158005 x158006 x158007 x158008 x158009 x158010 x158011) r := Ev.step (fun k => impl_SetupOk.l0.eq_2 x6 x7 x8 x158000 x158001 x158002 x158003 x158004 x158005 x158006 x158007 x158008 x158009 x158010 x158011 k) H

end Go.Proofs.YtapckgibbhijeaaGreatDoor.PA
