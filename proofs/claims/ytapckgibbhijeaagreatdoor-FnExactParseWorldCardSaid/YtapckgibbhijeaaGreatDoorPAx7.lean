/- Functions of the program, of the reference and of the statements: each as a plain Lean function, and a proof that the machine's call answers what that one answers. Written by a program: the kit's print, with contracts of our own for what it does not take. No condition. -/
import Derived.Test.YtapckgibbhijeaaGreatDoorPAx0
import Derived.Test.YtapckgibbhijeaaGreatDoorPAx1
import Derived.Test.YtapckgibbhijeaaGreatDoorPAx2
import Derived.Test.YtapckgibbhijeaaGreatDoorPAx5
import Derived.Test.YtapckgibbhijeaaGreatDoorPAx6
namespace Go.Proofs.YtapckgibbhijeaaGreatDoor.PA
set_option maxHeartbeats 8000000
set_option maxRecDepth 100000
open Go.RowKit Go.Proofs.YtapckgibbhijeaaGreatDoorW.PrintWords Go.Proofs.YtapckgibbhijeaaGreatDoorW.PrintLast Go.Proofs.YtapckgibbhijeaaGreatDoorW.PrintMore
attribute [local go_sem] max2_int min2_int max_two min_two max_three min_three max_four min_four   -- for this text's walks alone
set_option linter.unusedVariables false
set_option linter.unusedSimpArgs false

/-! ### laws_heldPolicyS: function 118 -/
def laws_heldPolicyS.l0 : Nat → List (S102) → Int → Int → Option (Int)
 | 0, _, _, _ => none
 | k + 1, x0, x1, x5 => if x5 < (x0.length : Int) then (if 0 ≤ x5 then (if ((rd_T102 x0 x5).f0) = x1 then (if ((rd_T102 x0 x5).f1) = (wrap64 (x1 + 1)) then (if ((rd_T102 x0 x5).f2) = (wrap64 ((wrap64 (x1 + 1)) + 1)) then (laws_heldPolicyS.l0 k x0 (wrap64 ((wrap64 ((wrap64 (x1 + 1)) + 1)) + 1)) (wrap64 (x5 + 1))) else (some (-1))) else (some (-1))) else (some (-1))) else (none)) else (some x1)
def laws_heldPolicyS.f (k : Nat) (l0 : List (S102)) (a1 : Int) : Option (Int) := laws_heldPolicyS.l0 k l0 a1 0
theorem laws_heldPolicyS.mono_l : ∀ k, (∀ y0 y1 y2, LeO (laws_heldPolicyS.l0 k y0 y1 y2) (laws_heldPolicyS.l0 (k + 1) y0 y1 y2))
 | 0 => fun _ _ _ r h => by simp [laws_heldPolicyS.l0] at h
 | k + 1 => by
  have ih0 := laws_heldPolicyS.mono_l k
  ·intro y0 y1 y2
   unfold laws_heldPolicyS.l0
   exact Pst.mo
theorem laws_heldPolicyS.mono : ∀ a0 a1 k, LeO (laws_heldPolicyS.f k a0 a1) (laws_heldPolicyS.f (k + 1) a0 a1) := by
 intro a0 a1 k
 have ih0 := laws_heldPolicyS.mono_l k
 unfold laws_heldPolicyS.f
 exact Pst.mo
theorem laws_heldPolicyS.calls (k : Nat) (A0 : Option Addr) (c0 : Nat) (l0 : List (S102)) (a1 : Int) (r : Int) (w : World) (hr0 : Kd.C k102 w A0 l0.length l0) (hc0 : l0.length ≤ c0) (h : laws_heldPolicyS.f k l0 a1 = some r) :
    Calls Tryz.prog 118 #[.slice A0 l0.length c0, .int .i64 a1] w fun e w' => e = .returned (.int .i64 r) ∧ Drawn0 w w' := by
 have HR0 := Pst.A hr0
 have HC0 := Pst.A hc0
 clear hr0 hc0
 have H : (laws_heldPolicyS.l0 k l0 a1 0) = some r := h
 clear h
 have H' := Pst.A H
 clear H
 go_enter Tryz.func118, Tryz.ntmps118
 go_wp2
 go_loopg [1, 5] k (fun kq v1 v5 w' => ∃ (x1_1 : Int) (x5_1 : Int), v1 = .int .i64 x1_1 ∧ v5 = .int .i64 x5_1 ∧ Aside0 (laws_heldPolicyS.l0 kq l0 x1_1 x5_1 = some r) ∧ Aside0 (kq ≤ k) ∧ Drawn0 w w')
 case atStart => exact ⟨(a1), (0), Pst.e2, Pst.e2, H', ⟨Nat.le_refl _⟩, by repeat (first | exact Drawn0.refl _ | apply Drawn0.step)⟩
 clear H'
 try clear c1
 try clear p2
 obtain ⟨x1_1, x5_1, rfl, rfl, HA, HK1, ⟨m1, rfl⟩⟩ := hrel
 cases gk with
 | zero => exact absurd HA.out (by simp [laws_heldPolicyS.l0])
 | succ k1 =>
  have H := HA.out
  clear HA
  simp only [laws_heldPolicyS.l0] at H
  by_cases c3 : x5_1 < (l0.length : Int)
  ·rw [if_pos c3] at H
   have c3b0 : decide (x5_1 < (l0.length : Int)) = true := decide_eq_true c3
   clear c3
   by_cases c4 : 0 ≤ x5_1
   ·rw [if_pos c4] at H
    have c4b0 : decide (0 ≤ x5_1) = true := decide_eq_true c4
    clear c4
    by_cases c5 : ((rd_T102 l0 x5_1).f0) = x1_1
    ·rw [if_pos c5] at H
     have c5b0 : (((rd_T102 l0 x5_1).f0) == x1_1) = true := beq_iff_eq.mpr c5
     have c5b1 : (((rd_T102 l0 x5_1).f0) != x1_1) = false := bne_eq_false_iff_eq.mpr c5
     clear c5
     by_cases c6 : ((rd_T102 l0 x5_1).f1) = (wrap64 (x1_1 + 1))
     ·rw [if_pos c6] at H
      have c6b0 : (((rd_T102 l0 x5_1).f1) == (wrap64 (x1_1 + 1))) = true := beq_iff_eq.mpr c6
      have c6b1 : (((rd_T102 l0 x5_1).f1) != (wrap64 (x1_1 + 1))) = false := bne_eq_false_iff_eq.mpr c6
      clear c6
      by_cases c7 : ((rd_T102 l0 x5_1).f2) = (wrap64 ((wrap64 (x1_1 + 1)) + 1))
      ·rw [if_pos c7] at H
       have c7b0 : (((rd_T102 l0 x5_1).f2) == (wrap64 ((wrap64 (x1_1 + 1)) + 1))) = true := beq_iff_eq.mpr c7
       have c7b1 : (((rd_T102 l0 x5_1).f2) != (wrap64 ((wrap64 (x1_1 + 1)) + 1))) = false := bne_eq_false_iff_eq.mpr c7
       clear c7
       have H' := Pst.A H
       clear H
       have p385 : 0 ≤ (x5_1 : Int) := Pst.da
       have q385 : x5_1 < (l0.length : Int) := Pst.da
       obtain ⟨ad385, e385, hx385_0, hx385_1, hx385_2⟩ := at_T102 HR0.out x5_1 p385 q385
       cases e385
       replace p385 := eq_true p385
       replace q385 := eq_true q385
       have p386 : 0 ≤ (x5_1 : Int) := Pst.da
       have q386 : x5_1 < (l0.length : Int) := Pst.da
       obtain ⟨ad386, e386, hx386_0, hx386_1, hx386_2⟩ := at_T102 HR0.out x5_1 p386 q386
       obtain rfl : ad385 = ad386 := (by injection e386)
       replace p386 := eq_true p386
       replace q386 := eq_true q386
       have p387 : 0 ≤ (x5_1 : Int) := Pst.da
       have q387 : x5_1 < (l0.length : Int) := Pst.da
       obtain ⟨ad387, e387, hx387_0, hx387_1, hx387_2⟩ := at_T102 HR0.out x5_1 p387 q387
       obtain rfl : ad385 = ad387 := (by injection e387)
       replace p387 := eq_true p387
       replace q387 := eq_true q387
       go_wp2
       go_roundg k1
       case measure => have := HK1.out; omega
       case rel => exact ⟨(wrap64 ((wrap64 ((wrap64 (x1_1 + 1)) + 1)) + 1)), (wrap64 (x5_1 + 1)), Pst.e2, Pst.e2, H', ⟨by have := HK1.out; omega⟩, by repeat (first | exact Drawn0.refl _ | apply Drawn0.step)⟩
      ·rw [if_neg c7] at H
       have c7b0 : (((rd_T102 l0 x5_1).f2) == (wrap64 ((wrap64 (x1_1 + 1)) + 1))) = false := beq_eq_false_iff_ne.mpr c7
       have c7b1 : (((rd_T102 l0 x5_1).f2) != (wrap64 ((wrap64 (x1_1 + 1)) + 1))) = true := bne_iff_ne.mpr c7
       obtain rfl := Option.some.inj H
       have p385 : 0 ≤ (x5_1 : Int) := Pst.da
       have q385 : x5_1 < (l0.length : Int) := Pst.da
       obtain ⟨ad385, e385, hx385_0, hx385_1, hx385_2⟩ := at_T102 HR0.out x5_1 p385 q385
       cases e385
       replace p385 := eq_true p385
       replace q385 := eq_true q385
       have p386 : 0 ≤ (x5_1 : Int) := Pst.da
       have q386 : x5_1 < (l0.length : Int) := Pst.da
       obtain ⟨ad386, e386, hx386_0, hx386_1, hx386_2⟩ := at_T102 HR0.out x5_1 p386 q386
       obtain rfl : ad385 = ad386 := (by injection e386)
       replace p386 := eq_true p386
       replace q386 := eq_true q386
       have p387 : 0 ≤ (x5_1 : Int) := Pst.da
       have q387 : x5_1 < (l0.length : Int) := Pst.da
       obtain ⟨ad387, e387, hx387_0, hx387_1, hx387_2⟩ := at_T102 HR0.out x5_1 p387 q387
       obtain rfl : ad385 = ad387 := (by injection e387)
       replace p387 := eq_true p387
       replace q387 := eq_true q387
       go_wp2
       go_ret
       exact ⟨Pst.e2, by repeat (first | exact Drawn0.refl _ | apply Drawn0.step)⟩
     ·rw [if_neg c6] at H
      have c6b0 : (((rd_T102 l0 x5_1).f1) == (wrap64 (x1_1 + 1))) = false := beq_eq_false_iff_ne.mpr c6
      have c6b1 : (((rd_T102 l0 x5_1).f1) != (wrap64 (x1_1 + 1))) = true := bne_iff_ne.mpr c6
      obtain rfl := Option.some.inj H
      have p385 : 0 ≤ (x5_1 : Int) := Pst.da
      have q385 : x5_1 < (l0.length : Int) := Pst.da
      obtain ⟨ad385, e385, hx385_0, hx385_1, hx385_2⟩ := at_T102 HR0.out x5_1 p385 q385
      cases e385
      replace p385 := eq_true p385
      replace q385 := eq_true q385
      have p386 : 0 ≤ (x5_1 : Int) := Pst.da
      have q386 : x5_1 < (l0.length : Int) := Pst.da
      obtain ⟨ad386, e386, hx386_0, hx386_1, hx386_2⟩ := at_T102 HR0.out x5_1 p386 q386
      obtain rfl : ad385 = ad386 := (by injection e386)
      replace p386 := eq_true p386
      replace q386 := eq_true q386
      go_wp2
      go_ret
      exact ⟨Pst.e2, by repeat (first | exact Drawn0.refl _ | apply Drawn0.step)⟩
    ·rw [if_neg c5] at H
     have c5b0 : (((rd_T102 l0 x5_1).f0) == x1_1) = false := beq_eq_false_iff_ne.mpr c5
     have c5b1 : (((rd_T102 l0 x5_1).f0) != x1_1) = true := bne_iff_ne.mpr c5
     obtain rfl := Option.some.inj H
     have p385 : 0 ≤ (x5_1 : Int) := Pst.da
     have q385 : x5_1 < (l0.length : Int) := Pst.da
     obtain ⟨ad385, e385, hx385_0, hx385_1, hx385_2⟩ := at_T102 HR0.out x5_1 p385 q385
     cases e385
     replace p385 := eq_true p385
     replace q385 := eq_true q385
     go_wp2
     go_ret
     exact ⟨Pst.e2, by repeat (first | exact Drawn0.refl _ | apply Drawn0.step)⟩
   ·rw [if_neg c4] at H
    exact absurd H (by simp)
  ·rw [if_neg c3] at H
   have c3b0 : decide (x5_1 < (l0.length : Int)) = false := decide_eq_false c3
   clear c3
   obtain rfl := Option.some.inj H
   go_wp2
   go_ret
   exact ⟨Pst.e2, by repeat (first | exact Drawn0.refl _ | apply Drawn0.step)⟩
theorem laws_heldPolicyS.l0.st {x0 : List (S102)} {x1 : Int} {x5 : Int} {r : (Int)} (H : Ev (fun k => if x5 < (x0.length : Int) then (if 0 ≤ x5 then (if ((rd_T102 x0 x5).f0) = x1 then (if ((rd_T102 x0 x5).f1) = (wrap64 (x1 + 1)) then (if ((rd_T102 x0 x5).f2) = (wrap64 ((wrap64 (x1 + 1)) + 1)) then (laws_heldPolicyS.l0 k x0 (wrap64 ((wrap64 ((wrap64 (x1 + 1)) + 1)) + 1)) (wrap64 (x5 + 1))) else (some (-1))) else (some (-1))) else (some (-1))) else (none)) else (some x1)) r) : Ev (fun k => laws_heldPolicyS.l0 k x0 x1 x5) r := Ev.step (fun k => laws_heldPolicyS.l0.eq_2 x0 x1 x5 k) H

/-! ### laws_heldSide: function 92 -/
def laws_heldSide.f (k : Nat) (l0_0 : List (S102)) (a0_1 : Int) (a0_2 : Int) (a1 : Int) : Option (Int) := (laws_heldPolicyS.f k l0_0 a1).bind fun t389 => (if t389 < 0 then (some (-1)) else (some t389))
theorem laws_heldSide.mono : ∀ a0 a1 a2 a3 k, LeO (laws_heldSide.f k a0 a1 a2 a3) (laws_heldSide.f (k + 1) a0 a1 a2 a3) := by
 intro a0 a1 a2 a3 k
 unfold laws_heldSide.f
 have m0 := @laws_heldPolicyS.mono
 exact Pst.mo
theorem laws_heldSide.calls (k : Nat) (A0_0 : Option Addr) (c0_0 : Nat) (l0_0 : List (S102)) (a0_1 : Int) (a0_2 : Int) (a1 : Int) (r : Int) (w : World) (hr0_0 : Kd.C k102 w A0_0 l0_0.length l0_0) (hc0_0 : l0_0.length ≤ c0_0) (h : laws_heldSide.f k l0_0 a0_1 a0_2 a1 = some r) :
    Calls Tryz.prog 92 #[.agg #[.slice A0_0 l0_0.length c0_0, .int .i64 a0_1, .int .i64 a0_2], .int .i64 a1] w fun e w' => e = .returned (.int .i64 r) ∧ Below w.heap.size w w' := by
 have hu37 := Tryz.underlying37
 have HR0_0 := Pst.A hr0_0
 have HC0_0 := Pst.A hc0_0
 clear hr0_0 hc0_0
 have HB := Pst.A (Below.refl w.heap.size w)
 have H : ((laws_heldPolicyS.f k l0_0 a1).bind fun t389 => (if t389 < 0 then (some (-1)) else (some t389))) = some r := h
 clear h
 obtain ⟨t389, A30, H⟩ := Pst.bd H
 have A3 := Pst.A A30
 clear A30
 by_cases c4 : t389 < 0
 ·rw [if_pos c4] at H
  have c4b0 : decide (t389 < 0) = true := decide_eq_true c4
  clear c4
  obtain rfl := Option.some.inj H
  go_enter Tryz.func92, Tryz.ntmps92
  go_wp2_with (first | ((with_reducible refine gate_dst (N := 2) rfl ?_); refine Pst.bx 2 #[.slice A0_0 l0_0.length c0_0, .int .i64 a0_1, .int .i64 a0_2] 37 ?_; intro gb388 hg w5 hbox hb; have BK388 := Pst.A hbox; have GW388 := Pst.A (Pst.gs hg : w.heap.size ≤ gb388); have GE388 := Pst.A (Pst.gs hg : w.heap.size ≤ gb388); replace HB := Pst.A (below_step Pst.bel hb); clear hb hbox hg; obtain ⟨_,_,_⟩ := Pst.c3 BK388.out; obtain ⟨_,_,_⟩ := Pst.f3 BK388.out) | ((with_reducible refine gate_callee (f := 118) rfl ?_); refine goesL_ (some 8) rfl rfl Tryz.func118 (by kernel_rfl) rfl #[.slice A0_0 l0_0.length c0_0, .int .i64 a1] rfl Pst.ga ?_; (with_reducible refine (laws_heldPolicyS.calls k _ _ l0_0 a1 t389 _ ?side1 ?side2 A3.out).mono ?_); (case side1 => exact Pst.qc (Kd.C_below HR0_0.out HB.out)); (case side2 => exact HC0_0.out); rintro e w' ⟨rfl, ⟨nd, rfl⟩⟩; refine ⟨_, rfl, ?_⟩))
  go_ret
  exact ⟨Pst.e1, Pst.bes⟩
 ·rw [if_neg c4] at H
  have c4b0 : decide (t389 < 0) = false := decide_eq_false c4
  clear c4
  obtain rfl := Option.some.inj H
  go_enter Tryz.func92, Tryz.ntmps92
  go_wp2_with (first | ((with_reducible refine gate_dst (N := 2) rfl ?_); refine Pst.bx 2 #[.slice A0_0 l0_0.length c0_0, .int .i64 a0_1, .int .i64 a0_2] 37 ?_; intro gb388 hg w7 hbox hb; have BK388 := Pst.A hbox; have GW388 := Pst.A (Pst.gs hg : w.heap.size ≤ gb388); have GE388 := Pst.A (Pst.gs hg : w.heap.size ≤ gb388); replace HB := Pst.A (below_step Pst.bel hb); clear hb hbox hg; obtain ⟨_,_,_⟩ := Pst.c3 BK388.out; obtain ⟨_,_,_⟩ := Pst.f3 BK388.out) | ((with_reducible refine gate_callee (f := 118) rfl ?_); refine goesL_ (some 8) rfl rfl Tryz.func118 (by kernel_rfl) rfl #[.slice A0_0 l0_0.length c0_0, .int .i64 a1] rfl Pst.ga ?_; (with_reducible refine (laws_heldPolicyS.calls k _ _ l0_0 a1 t389 _ ?side1 ?side2 A3.out).mono ?_); (case side1 => exact Pst.qc (Kd.C_below HR0_0.out HB.out)); (case side2 => exact HC0_0.out); rintro e w' ⟨rfl, ⟨nd, rfl⟩⟩; refine ⟨_, rfl, ?_⟩))
  go_ret
  exact ⟨Pst.e1, Pst.bes⟩

/-! ### laws_heldBehave: function 66 -/
def laws_heldBehave.f (k : Nat) (l0_0 : List (S102)) (a0_1 : Int) (a0_2 : Int) (l0_3 : List (S102)) (a0_4 : Int) (a0_5 : Int) (a0_6 : Int) (a0_7 : Int) (a1 : Int) : Option (Int) := (laws_heldSide.f k l0_0 a0_1 a0_2 a1).bind fun t391 => (if t391 < 0 then (some (-1)) else ((laws_heldSide.f k l0_3 a0_4 a0_5 t391).bind fun t392 => (if t392 < 0 then (some (-1)) else (some t392))))
theorem laws_heldBehave.mono : ∀ a0 a1 a2 a3 a4 a5 a6 a7 a8 k, LeO (laws_heldBehave.f k a0 a1 a2 a3 a4 a5 a6 a7 a8) (laws_heldBehave.f (k + 1) a0 a1 a2 a3 a4 a5 a6 a7 a8) := by
 intro a0 a1 a2 a3 a4 a5 a6 a7 a8 k
 unfold laws_heldBehave.f
 have m0 := @laws_heldSide.mono
 exact Pst.mo
theorem laws_heldBehave.calls (k : Nat) (A0_0 : Option Addr) (c0_0 : Nat) (l0_0 : List (S102)) (a0_1 : Int) (a0_2 : Int) (A0_3 : Option Addr) (c0_3 : Nat) (l0_3 : List (S102)) (a0_4 : Int) (a0_5 : Int) (a0_6 : Int) (a0_7 : Int) (a1 : Int) (r : Int) (w : World) (hr0_0 : Kd.C k102 w A0_0 l0_0.length l0_0) (hc0_0 : l0_0.length ≤ c0_0) (hr0_3 : Kd.C k102 w A0_3 l0_3.length l0_3) (hc0_3 : l0_3.length ≤ c0_3) (h : laws_heldBehave.f k l0_0 a0_1 a0_2 l0_3 a0_4 a0_5 a0_6 a0_7 a1 = some r) :
    Calls Tryz.prog 66 #[.agg #[.slice A0_0 l0_0.length c0_0, .int .i64 a0_1, .int .i64 a0_2, .slice A0_3 l0_3.length c0_3, .int .i64 a0_4, .int .i64 a0_5, .int .i64 a0_6, .int .i64 a0_7], .int .i64 a1] w fun e w' => e = .returned (.int .i64 r) ∧ Below w.heap.size w w' := by
 have hu39 := Tryz.underlying39
 have hu37 := Tryz.underlying37
 have HR0_0 := Pst.A hr0_0
 have HC0_0 := Pst.A hc0_0
 clear hr0_0 hc0_0
 have HR0_3 := Pst.A hr0_3
 have HC0_3 := Pst.A hc0_3
 clear hr0_3 hc0_3
 have HB := Pst.A (Below.refl w.heap.size w)
 have H : ((laws_heldSide.f k l0_0 a0_1 a0_2 a1).bind fun t391 => (if t391 < 0 then (some (-1)) else ((laws_heldSide.f k l0_3 a0_4 a0_5 t391).bind fun t392 => (if t392 < 0 then (some (-1)) else (some t392))))) = some r := h
 clear h
 obtain ⟨t391, A30, H⟩ := Pst.bd H
 have A3 := Pst.A A30
 clear A30
 by_cases c4 : t391 < 0
 ·rw [if_pos c4] at H
  have c4b0 : decide (t391 < 0) = true := decide_eq_true c4
  clear c4
  obtain rfl := Option.some.inj H
  go_enter Tryz.func66, Tryz.ntmps66
  go_wp2_with (first | ((with_reducible refine gate_dst (N := 2) rfl ?_); refine Pst.bx 2 #[.slice A0_0 l0_0.length c0_0, .int .i64 a0_1, .int .i64 a0_2, .slice A0_3 l0_3.length c0_3, .int .i64 a0_4, .int .i64 a0_5, .int .i64 a0_6, .int .i64 a0_7] 39 ?_; intro gb390 hg w5 hbox hb; have BK390 := Pst.A hbox; have GW390 := Pst.A (Pst.gs hg : w.heap.size ≤ gb390); have GE390 := Pst.A (Pst.gs hg : w.heap.size ≤ gb390); replace HB := Pst.A (below_step Pst.bel hb); clear hb hbox hg; obtain ⟨_,_,_,_,_,_,_,_⟩ := Pst.c8 BK390.out; obtain ⟨_,_,_,_,_,_,_,_⟩ := Pst.f8 BK390.out) | ((with_reducible refine gate_callee (f := 92) rfl ?_); refine goesL_ (some 8) rfl rfl Tryz.func92 (by kernel_rfl) rfl #[.agg #[.slice A0_0 l0_0.length c0_0, .int .i64 a0_1, .int .i64 a0_2], .int .i64 a1] rfl Pst.ga ?_; (with_reducible refine (laws_heldSide.calls k _ _ l0_0 a0_1 a0_2 a1 t391 _ ?side1 ?side2 A3.out).mono ?_); (case side1 => exact Pst.qc (Kd.C_below HR0_0.out HB.out)); (case side2 => exact HC0_0.out); rintro e w7 ⟨rfl, hb⟩; refine ⟨_, rfl, ?_⟩; replace BK390 := Pst.A (Pst.kb BK390.out hb); replace HB := Pst.A (below_step Pst.bes hb); (try clear hb); (try clear hb2); (try clear hk); (try clear hi)))
  go_ret
  exact ⟨Pst.e1, Pst.bes⟩
 ·rw [if_neg c4] at H
  have c4b0 : decide (t391 < 0) = false := decide_eq_false c4
  clear c4
  obtain ⟨t392, A80, H⟩ := Pst.bd H
  have A8 := Pst.A A80
  clear A80
  by_cases c9 : t392 < 0
  ·rw [if_pos c9] at H
   have c9b0 : decide (t392 < 0) = true := decide_eq_true c9
   clear c9
   obtain rfl := Option.some.inj H
   go_enter Tryz.func66, Tryz.ntmps66
   go_wp2_with (first | ((with_reducible refine gate_dst (N := 2) rfl ?_); refine Pst.bx 2 #[.slice A0_0 l0_0.length c0_0, .int .i64 a0_1, .int .i64 a0_2, .slice A0_3 l0_3.length c0_3, .int .i64 a0_4, .int .i64 a0_5, .int .i64 a0_6, .int .i64 a0_7] 39 ?_; intro gb390 hg w10 hbox hb; have BK390 := Pst.A hbox; have GW390 := Pst.A (Pst.gs hg : w.heap.size ≤ gb390); have GE390 := Pst.A (Pst.gs hg : w.heap.size ≤ gb390); replace HB := Pst.A (below_step Pst.bel hb); clear hb hbox hg; obtain ⟨_,_,_,_,_,_,_,_⟩ := Pst.c8 BK390.out; obtain ⟨_,_,_,_,_,_,_,_⟩ := Pst.f8 BK390.out) | ((with_reducible refine gate_callee (f := 92) rfl ?_); refine goesL_ (some 8) rfl rfl Tryz.func92 (by kernel_rfl) rfl #[.agg #[.slice A0_0 l0_0.length c0_0, .int .i64 a0_1, .int .i64 a0_2], .int .i64 a1] rfl Pst.ga ?_; (with_reducible refine (laws_heldSide.calls k _ _ l0_0 a0_1 a0_2 a1 t391 _ ?side1 ?side2 A3.out).mono ?_); (case side1 => exact Pst.qc (Kd.C_below HR0_0.out HB.out)); (case side2 => exact HC0_0.out); rintro e w12 ⟨rfl, hb⟩; refine ⟨_, rfl, ?_⟩; replace BK390 := Pst.A (Pst.kb BK390.out hb); replace HB := Pst.A (below_step Pst.bes hb); (try clear hb); (try clear hb2); (try clear hk); (try clear hi); obtain ⟨_,_,_,_,_,_,_,_⟩ := Pst.c8 BK390.out; obtain ⟨_,_,_,_,_,_,_,_⟩ := Pst.f8 BK390.out) | ((with_reducible refine gate_callee (f := 92) rfl ?_); refine goesL_ (some 14) rfl rfl Tryz.func92 (by kernel_rfl) rfl #[.agg #[.slice A0_3 l0_3.length c0_3, .int .i64 a0_4, .int .i64 a0_5], .int .i64 t391] rfl Pst.ga ?_; (with_reducible refine (laws_heldSide.calls k _ _ l0_3 a0_4 a0_5 t391 t392 _ ?side1 ?side2 A8.out).mono ?_); (case side1 => exact Pst.qc (Kd.C_below HR0_3.out HB.out)); (case side2 => exact HC0_3.out); rintro e w14 ⟨rfl, hb⟩; refine ⟨_, rfl, ?_⟩; replace BK390 := Pst.A (Pst.kb BK390.out hb); replace HB := Pst.A (below_step Pst.bes hb); (try clear hb); (try clear hb2); (try clear hk); (try clear hi)))
   go_ret
   exact ⟨Pst.e1, Pst.bes⟩
  ·rw [if_neg c9] at H
   have c9b0 : decide (t392 < 0) = false := decide_eq_false c9
   clear c9
   obtain rfl := Option.some.inj H
   go_enter Tryz.func66, Tryz.ntmps66
   go_wp2_with (first | ((with_reducible refine gate_dst (N := 2) rfl ?_); refine Pst.bx 2 #[.slice A0_0 l0_0.length c0_0, .int .i64 a0_1, .int .i64 a0_2, .slice A0_3 l0_3.length c0_3, .int .i64 a0_4, .int .i64 a0_5, .int .i64 a0_6, .int .i64 a0_7] 39 ?_; intro gb390 hg w15 hbox hb; have BK390 := Pst.A hbox; have GW390 := Pst.A (Pst.gs hg : w.heap.size ≤ gb390); have GE390 := Pst.A (Pst.gs hg : w.heap.size ≤ gb390); replace HB := Pst.A (below_step Pst.bel hb); clear hb hbox hg; obtain ⟨_,_,_,_,_,_,_,_⟩ := Pst.c8 BK390.out; obtain ⟨_,_,_,_,_,_,_,_⟩ := Pst.f8 BK390.out) | ((with_reducible refine gate_callee (f := 92) rfl ?_); refine goesL_ (some 8) rfl rfl Tryz.func92 (by kernel_rfl) rfl #[.agg #[.slice A0_0 l0_0.length c0_0, .int .i64 a0_1, .int .i64 a0_2], .int .i64 a1] rfl Pst.ga ?_; (with_reducible refine (laws_heldSide.calls k _ _ l0_0 a0_1 a0_2 a1 t391 _ ?side1 ?side2 A3.out).mono ?_); (case side1 => exact Pst.qc (Kd.C_below HR0_0.out HB.out)); (case side2 => exact HC0_0.out); rintro e w17 ⟨rfl, hb⟩; refine ⟨_, rfl, ?_⟩; replace BK390 := Pst.A (Pst.kb BK390.out hb); replace HB := Pst.A (below_step Pst.bes hb); (try clear hb); (try clear hb2); (try clear hk); (try clear hi); obtain ⟨_,_,_,_,_,_,_,_⟩ := Pst.c8 BK390.out; obtain ⟨_,_,_,_,_,_,_,_⟩ := Pst.f8 BK390.out) | ((with_reducible refine gate_callee (f := 92) rfl ?_); refine goesL_ (some 14) rfl rfl Tryz.func92 (by kernel_rfl) rfl #[.agg #[.slice A0_3 l0_3.length c0_3, .int .i64 a0_4, .int .i64 a0_5], .int .i64 t391] rfl Pst.ga ?_; (with_reducible refine (laws_heldSide.calls k _ _ l0_3 a0_4 a0_5 t391 t392 _ ?side1 ?side2 A8.out).mono ?_); (case side1 => exact Pst.qc (Kd.C_below HR0_3.out HB.out)); (case side2 => exact HC0_3.out); rintro e w19 ⟨rfl, hb⟩; refine ⟨_, rfl, ?_⟩; replace BK390 := Pst.A (Pst.kb BK390.out hb); replace HB := Pst.A (below_step Pst.bes hb); (try clear hb); (try clear hb2); (try clear hk); (try clear hi)))
   go_ret
   exact ⟨Pst.e1, Pst.bes⟩

/-! ### laws_heldSetup: function 38 -/
def laws_heldSetup.f (k : Nat) (a0_0 : Int) (a0_1 : Int) (a0_2 : Int) (l0_3 : List (S82)) (l0_4 : List (S102)) (a0_5 : Int) (a0_6 : Int) (l0_7 : List (S102)) (a0_8 : Int) (a0_9 : Int) (a0_10 : Int) (a0_11 : Int) (a1 : Int) : Option (Int) := (laws_heldGoalS.f k l0_3 a1).bind fun t394 => (if t394 < 0 then (some (-1)) else ((laws_heldBehave.f k l0_4 a0_5 a0_6 l0_7 a0_8 a0_9 a0_10 a0_11 t394).bind fun t395 => (if t395 < 0 then (some (-1)) else (some t395))))
theorem laws_heldSetup.mono : ∀ a0 a1 a2 a3 a4 a5 a6 a7 a8 a9 a10 a11 a12 k, LeO (laws_heldSetup.f k a0 a1 a2 a3 a4 a5 a6 a7 a8 a9 a10 a11 a12) (laws_heldSetup.f (k + 1) a0 a1 a2 a3 a4 a5 a6 a7 a8 a9 a10 a11 a12) := by
 intro a0 a1 a2 a3 a4 a5 a6 a7 a8 a9 a10 a11 a12 k
 unfold laws_heldSetup.f
 have m0 := @laws_heldBehave.mono
 have m1 := @laws_heldGoalS.mono
 exact Pst.mo
theorem laws_heldSetup.calls (k : Nat) (a0_0 : Int) (a0_1 : Int) (a0_2 : Int) (A0_3 : Option Addr) (c0_3 : Nat) (l0_3 : List (S82)) (A0_4 : Option Addr) (c0_4 : Nat) (l0_4 : List (S102)) (a0_5 : Int) (a0_6 : Int) (A0_7 : Option Addr) (c0_7 : Nat) (l0_7 : List (S102)) (a0_8 : Int) (a0_9 : Int) (a0_10 : Int) (a0_11 : Int) (a1 : Int) (r : Int) (w : World) (hr0_3 : Kd.C k82 w A0_3 l0_3.length l0_3) (hc0_3 : l0_3.length ≤ c0_3) (hr0_4 : Kd.C k102 w A0_4 l0_4.length l0_4) (hc0_4 : l0_4.length ≤ c0_4) (hr0_7 : Kd.C k102 w A0_7 l0_7.length l0_7) (hc0_7 : l0_7.length ≤ c0_7) (h : laws_heldSetup.f k a0_0 a0_1 a0_2 l0_3 l0_4 a0_5 a0_6 l0_7 a0_8 a0_9 a0_10 a0_11 a1 = some r) :
    Calls Tryz.prog 38 #[.agg #[.int .i64 a0_0, .int .i64 a0_1, .int .i64 a0_2, .slice A0_3 l0_3.length c0_3, .slice A0_4 l0_4.length c0_4, .int .i64 a0_5, .int .i64 a0_6, .slice A0_7 l0_7.length c0_7, .int .i64 a0_8, .int .i64 a0_9, .int .i64 a0_10, .int .i64 a0_11], .int .i64 a1] w fun e w' => e = .returned (.int .i64 r) ∧ Below w.heap.size w w' := by
 have hu41 := Tryz.underlying41
 have hu39 := Tryz.underlying39
 have HR0_3 := Pst.A hr0_3
 have HC0_3 := Pst.A hc0_3
 clear hr0_3 hc0_3
 have HR0_4 := Pst.A hr0_4
 have HC0_4 := Pst.A hc0_4
 clear hr0_4 hc0_4
 have HR0_7 := Pst.A hr0_7
 have HC0_7 := Pst.A hc0_7
 clear hr0_7 hc0_7
 have HB := Pst.A (Below.refl w.heap.size w)
 have H : ((laws_heldGoalS.f k l0_3 a1).bind fun t394 => (if t394 < 0 then (some (-1)) else ((laws_heldBehave.f k l0_4 a0_5 a0_6 l0_7 a0_8 a0_9 a0_10 a0_11 t394).bind fun t395 => (if t395 < 0 then (some (-1)) else (some t395))))) = some r := h
 clear h
 obtain ⟨t394, A30, H⟩ := Pst.bd H
 have A3 := Pst.A A30
 clear A30
 by_cases c4 : t394 < 0
 ·rw [if_pos c4] at H
  have c4b0 : decide (t394 < 0) = true := decide_eq_true c4
  clear c4
  obtain rfl := Option.some.inj H
  go_enter Tryz.func38, Tryz.ntmps38
  go_wp2_with (first | ((with_reducible refine gate_dst (N := 2) rfl ?_); refine Pst.bx 2 #[.int .i64 a0_0, .int .i64 a0_1, .int .i64 a0_2, .slice A0_3 l0_3.length c0_3, .slice A0_4 l0_4.length c0_4, .int .i64 a0_5, .int .i64 a0_6, .slice A0_7 l0_7.length c0_7, .int .i64 a0_8, .int .i64 a0_9, .int .i64 a0_10, .int .i64 a0_11] 41 ?_; intro gb393 hg w5 hbox hb; have BK393 := Pst.A hbox; have GW393 := Pst.A (Pst.gs hg : w.heap.size ≤ gb393); have GE393 := Pst.A (Pst.gs hg : w.heap.size ≤ gb393); replace HB := Pst.A (below_step Pst.bel hb); clear hb hbox hg; obtain ⟨_,_,_,_,_,_,_,_,_,_,_,_⟩ := Pst.c12 BK393.out; obtain ⟨_,_,_,_,_,_,_,_,_,_,_,_⟩ := Pst.f12 BK393.out) | ((with_reducible refine gate_callee (f := 65) rfl ?_); refine goesL_ (some 8) rfl rfl Tryz.func65 (by kernel_rfl) rfl #[.slice A0_3 l0_3.length c0_3, .int .i64 a1] rfl Pst.ga ?_; (with_reducible refine (laws_heldGoalS.calls k _ _ l0_3 a1 t394 _ ?side1 ?side2 A3.out).mono ?_); (case side1 => exact Pst.qc (Kd.C_below HR0_3.out HB.out)); (case side2 => exact HC0_3.out); rintro e w7 ⟨rfl, hb⟩; refine ⟨_, rfl, ?_⟩; replace BK393 := Pst.A (Pst.kb BK393.out hb); replace HB := Pst.A (below_step Pst.bes hb); (try clear hb); (try clear hb2); (try clear hk); (try clear hi)))
  go_ret
  exact ⟨Pst.e1, Pst.bes⟩
 ·rw [if_neg c4] at H
  have c4b0 : decide (t394 < 0) = false := decide_eq_false c4
  clear c4
  obtain ⟨t395, A80, H⟩ := Pst.bd H
  have A8 := Pst.A A80
  clear A80
  by_cases c9 : t395 < 0
  ·rw [if_pos c9] at H
   have c9b0 : decide (t395 < 0) = true := decide_eq_true c9
   clear c9
   obtain rfl := Option.some.inj H
   go_enter Tryz.func38, Tryz.ntmps38
   go_wp2_with (first | ((with_reducible refine gate_dst (N := 2) rfl ?_); refine Pst.bx 2 #[.int .i64 a0_0, .int .i64 a0_1, .int .i64 a0_2, .slice A0_3 l0_3.length c0_3, .slice A0_4 l0_4.length c0_4, .int .i64 a0_5, .int .i64 a0_6, .slice A0_7 l0_7.length c0_7, .int .i64 a0_8, .int .i64 a0_9, .int .i64 a0_10, .int .i64 a0_11] 41 ?_; intro gb393 hg w10 hbox hb; have BK393 := Pst.A hbox; have GW393 := Pst.A (Pst.gs hg : w.heap.size ≤ gb393); have GE393 := Pst.A (Pst.gs hg : w.heap.size ≤ gb393); replace HB := Pst.A (below_step Pst.bel hb); clear hb hbox hg; obtain ⟨_,_,_,_,_,_,_,_,_,_,_,_⟩ := Pst.c12 BK393.out; obtain ⟨_,_,_,_,_,_,_,_,_,_,_,_⟩ := Pst.f12 BK393.out) | ((with_reducible refine gate_callee (f := 65) rfl ?_); refine goesL_ (some 8) rfl rfl Tryz.func65 (by kernel_rfl) rfl #[.slice A0_3 l0_3.length c0_3, .int .i64 a1] rfl Pst.ga ?_; (with_reducible refine (laws_heldGoalS.calls k _ _ l0_3 a1 t394 _ ?side1 ?side2 A3.out).mono ?_); (case side1 => exact Pst.qc (Kd.C_below HR0_3.out HB.out)); (case side2 => exact HC0_3.out); rintro e w12 ⟨rfl, hb⟩; refine ⟨_, rfl, ?_⟩; replace BK393 := Pst.A (Pst.kb BK393.out hb); replace HB := Pst.A (below_step Pst.bes hb); (try clear hb); (try clear hb2); (try clear hk); (try clear hi); obtain ⟨_,_,_,_,_,_,_,_,_,_,_,_⟩ := Pst.c12 BK393.out; obtain ⟨_,_,_,_,_,_,_,_,_,_,_,_⟩ := Pst.f12 BK393.out) | ((with_reducible refine gate_callee (f := 66) rfl ?_); refine goesL_ (some 14) rfl rfl Tryz.func66 (by kernel_rfl) rfl #[.agg #[.slice A0_4 l0_4.length c0_4, .int .i64 a0_5, .int .i64 a0_6, .slice A0_7 l0_7.length c0_7, .int .i64 a0_8, .int .i64 a0_9, .int .i64 a0_10, .int .i64 a0_11], .int .i64 t394] rfl Pst.ga ?_; (with_reducible refine (laws_heldBehave.calls k _ _ l0_4 a0_5 a0_6 _ _ l0_7 a0_8 a0_9 a0_10 a0_11 t394 t395 _ ?side1 ?side2 ?side3 ?side4 A8.out).mono ?_); (case side1 => exact Pst.qc (Kd.C_below HR0_4.out HB.out)); (case side2 => exact HC0_4.out); (case side3 => exact Pst.qc (Kd.C_below HR0_7.out HB.out)); (case side4 => exact HC0_7.out); rintro e w14 ⟨rfl, hb⟩; refine ⟨_, rfl, ?_⟩; replace BK393 := Pst.A (Pst.kb BK393.out hb); replace HB := Pst.A (below_step Pst.bes hb); (try clear hb); (try clear hb2); (try clear hk); (try clear hi)))
   go_ret
   exact ⟨Pst.e1, Pst.bes⟩
  ·rw [if_neg c9] at H
   have c9b0 : decide (t395 < 0) = false := decide_eq_false c9
   clear c9
   obtain rfl := Option.some.inj H
   go_enter Tryz.func38, Tryz.ntmps38
   go_wp2_with (first | ((with_reducible refine gate_dst (N := 2) rfl ?_); refine Pst.bx 2 #[.int .i64 a0_0, .int .i64 a0_1, .int .i64 a0_2, .slice A0_3 l0_3.length c0_3, .slice A0_4 l0_4.length c0_4, .int .i64 a0_5, .int .i64 a0_6, .slice A0_7 l0_7.length c0_7, .int .i64 a0_8, .int .i64 a0_9, .int .i64 a0_10, .int .i64 a0_11] 41 ?_; intro gb393 hg w15 hbox hb; have BK393 := Pst.A hbox; have GW393 := Pst.A (Pst.gs hg : w.heap.size ≤ gb393); have GE393 := Pst.A (Pst.gs hg : w.heap.size ≤ gb393); replace HB := Pst.A (below_step Pst.bel hb); clear hb hbox hg; obtain ⟨_,_,_,_,_,_,_,_,_,_,_,_⟩ := Pst.c12 BK393.out; obtain ⟨_,_,_,_,_,_,_,_,_,_,_,_⟩ := Pst.f12 BK393.out) | ((with_reducible refine gate_callee (f := 65) rfl ?_); refine goesL_ (some 8) rfl rfl Tryz.func65 (by kernel_rfl) rfl #[.slice A0_3 l0_3.length c0_3, .int .i64 a1] rfl Pst.ga ?_; (with_reducible refine (laws_heldGoalS.calls k _ _ l0_3 a1 t394 _ ?side1 ?side2 A3.out).mono ?_); (case side1 => exact Pst.qc (Kd.C_below HR0_3.out HB.out)); (case side2 => exact HC0_3.out); rintro e w17 ⟨rfl, hb⟩; refine ⟨_, rfl, ?_⟩; replace BK393 := Pst.A (Pst.kb BK393.out hb); replace HB := Pst.A (below_step Pst.bes hb); (try clear hb); (try clear hb2); (try clear hk); (try clear hi); obtain ⟨_,_,_,_,_,_,_,_,_,_,_,_⟩ := Pst.c12 BK393.out; obtain ⟨_,_,_,_,_,_,_,_,_,_,_,_⟩ := Pst.f12 BK393.out) | ((with_reducible refine gate_callee (f := 66) rfl ?_); refine goesL_ (some 14) rfl rfl Tryz.func66 (by kernel_rfl) rfl #[.agg #[.slice A0_4 l0_4.length c0_4, .int .i64 a0_5, .int .i64 a0_6, .slice A0_7 l0_7.length c0_7, .int .i64 a0_8, .int .i64 a0_9, .int .i64 a0_10, .int .i64 a0_11], .int .i64 t394] rfl Pst.ga ?_; (with_reducible refine (laws_heldBehave.calls k _ _ l0_4 a0_5 a0_6 _ _ l0_7 a0_8 a0_9 a0_10 a0_11 t394 t395 _ ?side1 ?side2 ?side3 ?side4 A8.out).mono ?_); (case side1 => exact Pst.qc (Kd.C_below HR0_4.out HB.out)); (case side2 => exact HC0_4.out); (case side3 => exact Pst.qc (Kd.C_below HR0_7.out HB.out)); (case side4 => exact HC0_7.out); rintro e w19 ⟨rfl, hb⟩; refine ⟨_, rfl, ?_⟩; replace BK393 := Pst.A (Pst.kb BK393.out hb); replace HB := Pst.A (below_step Pst.bes hb); (try clear hb); (try clear hb2); (try clear hk); (try clear hi)))
   go_ret
   exact ⟨Pst.e1, Pst.bes⟩

/-! ### laws_heldIntS: function 39 -/
def laws_heldIntS.l0 : Nat → List Int → Int → Int → Option (Int)
 | 0, _, _, _ => none
 | k + 1, x0, x1, x5 => if x5 < (x0.length : Int) then (if 0 ≤ x5 then (if (rd x0 x5) = x1 then (laws_heldIntS.l0 k x0 (wrap64 (x1 + 1)) (wrap64 (x5 + 1))) else (some (-1))) else (none)) else (some x1)
def laws_heldIntS.f (k : Nat) (l0 : List Int) (a1 : Int) : Option (Int) := laws_heldIntS.l0 k l0 a1 0
theorem laws_heldIntS.mono_l : ∀ k, (∀ y0 y1 y2, LeO (laws_heldIntS.l0 k y0 y1 y2) (laws_heldIntS.l0 (k + 1) y0 y1 y2))
 | 0 => fun _ _ _ r h => by simp [laws_heldIntS.l0] at h
 | k + 1 => by
  have ih0 := laws_heldIntS.mono_l k
  ·intro y0 y1 y2
   unfold laws_heldIntS.l0
   exact Pst.mo
theorem laws_heldIntS.mono : ∀ a0 a1 k, LeO (laws_heldIntS.f k a0 a1) (laws_heldIntS.f (k + 1) a0 a1) := by
 intro a0 a1 k
 have ih0 := laws_heldIntS.mono_l k
 unfold laws_heldIntS.f
 exact Pst.mo
theorem laws_heldIntS.calls (k : Nat) (A0 : Option Addr) (c0 : Nat) (l0 : List Int) (a1 : Int) (r : Int) (w : World) (hr0 : Kd.C (Kd.int .i64) w A0 l0.length l0) (hc0 : l0.length ≤ c0) (h : laws_heldIntS.f k l0 a1 = some r) :
    Calls Tryz.prog 39 #[.slice A0 l0.length c0, .int .i64 a1] w fun e w' => e = .returned (.int .i64 r) ∧ Drawn0 w w' := by
 have HR0 := Pst.A hr0
 have HC0 := Pst.A hc0
 clear hr0 hc0
 have H : (laws_heldIntS.l0 k l0 a1 0) = some r := h
 clear h
 have H' := Pst.A H
 clear H
 go_enter Tryz.func39, Tryz.ntmps39
 go_wp2
 go_loopg [1, 5] k (fun kq v1 v5 w' => ∃ (x1_1 : Int) (x5_1 : Int), v1 = .int .i64 x1_1 ∧ v5 = .int .i64 x5_1 ∧ Aside0 (laws_heldIntS.l0 kq l0 x1_1 x5_1 = some r) ∧ Aside0 (kq ≤ k) ∧ Drawn0 w w')
 case atStart => exact ⟨(a1), (0), Pst.e2, Pst.e2, H', ⟨Nat.le_refl _⟩, by repeat (first | exact Drawn0.refl _ | apply Drawn0.step)⟩
 clear H'
 try clear p2
 obtain ⟨x1_1, x5_1, rfl, rfl, HA, HK1, ⟨m1, rfl⟩⟩ := hrel
 cases gk with
 | zero => exact absurd HA.out (by simp [laws_heldIntS.l0])
 | succ k1 =>
  have H := HA.out
  clear HA
  simp only [laws_heldIntS.l0] at H
  by_cases c3 : x5_1 < (l0.length : Int)
  ·rw [if_pos c3] at H
   have c3b0 : decide (x5_1 < (l0.length : Int)) = true := decide_eq_true c3
   clear c3
   by_cases c4 : 0 ≤ x5_1
   ·rw [if_pos c4] at H
    have c4b0 : decide (0 ≤ x5_1) = true := decide_eq_true c4
    clear c4
    by_cases c5 : (rd l0 x5_1) = x1_1
    ·rw [if_pos c5] at H
     have c5b0 : ((rd l0 x5_1) == x1_1) = true := beq_iff_eq.mpr c5
     have c5b1 : ((rd l0 x5_1) != x1_1) = false := bne_eq_false_iff_eq.mpr c5
     clear c5
     have H' := Pst.A H
     clear H
     have p396 : 0 ≤ (x5_1 : Int) := Pst.da
     have q396 : x5_1 < (l0.length : Int) := Pst.da
     obtain ⟨ad396, e396, hx396_0⟩ := Kd.at_int HR0.out x5_1 p396 q396
     cases e396
     replace p396 := eq_true p396
     replace q396 := eq_true q396
     go_wp2
     go_roundg k1
     case measure => have := HK1.out; omega
     case rel => exact ⟨(wrap64 (x1_1 + 1)), (wrap64 (x5_1 + 1)), Pst.e2, Pst.e2, H', ⟨by have := HK1.out; omega⟩, by repeat (first | exact Drawn0.refl _ | apply Drawn0.step)⟩
    ·rw [if_neg c5] at H
     have c5b0 : ((rd l0 x5_1) == x1_1) = false := beq_eq_false_iff_ne.mpr c5
     have c5b1 : ((rd l0 x5_1) != x1_1) = true := bne_iff_ne.mpr c5
     obtain rfl := Option.some.inj H
     have p396 : 0 ≤ (x5_1 : Int) := Pst.da
     have q396 : x5_1 < (l0.length : Int) := Pst.da
     obtain ⟨ad396, e396, hx396_0⟩ := Kd.at_int HR0.out x5_1 p396 q396
     cases e396
     replace p396 := eq_true p396
     replace q396 := eq_true q396
     go_wp2
     go_ret
     exact ⟨Pst.e2, by repeat (first | exact Drawn0.refl _ | apply Drawn0.step)⟩
   ·rw [if_neg c4] at H
    exact absurd H (by simp)
  ·rw [if_neg c3] at H
   have c3b0 : decide (x5_1 < (l0.length : Int)) = false := decide_eq_false c3
   clear c3
   obtain rfl := Option.some.inj H
   go_wp2
   go_ret
   exact ⟨Pst.e2, by repeat (first | exact Drawn0.refl _ | apply Drawn0.step)⟩
theorem laws_heldIntS.l0.st {x0 : List Int} {x1 : Int} {x5 : Int} {r : (Int)} (H : Ev (fun k => if x5 < (x0.length : Int) then (if 0 ≤ x5 then (if (rd x0 x5) = x1 then (laws_heldIntS.l0 k x0 (wrap64 (x1 + 1)) (wrap64 (x5 + 1))) else (some (-1))) else (none)) else (some x1)) r) : Ev (fun k => laws_heldIntS.l0 k x0 x1 x5) r := Ev.step (fun k => laws_heldIntS.l0.eq_2 x0 x1 x5 k) H

/-! ### laws_heldWorld: function 12 -/
def laws_heldWorld.f (k : Nat) (a0_0 : Int) (a0_1 : Int) (a0_2 : Int) (l0_3 : List (S82)) (l0_4 : List (S102)) (a0_5 : Int) (a0_6 : Int) (l0_7 : List (S102)) (a0_8 : Int) (a0_9 : Int) (a0_10 : Int) (a0_11 : Int) (l0_12 : List Int) (a0_13 : Int) (a0_14 : Int) (a0_15 : Int) (a1 : Int) : Option (Int) := (laws_heldSetup.f k a0_0 a0_1 a0_2 l0_3 l0_4 a0_5 a0_6 l0_7 a0_8 a0_9 a0_10 a0_11 a1).bind fun t398 => (if t398 < 0 then (some (-1)) else ((laws_heldIntS.f k l0_12 t398).bind fun t399 => (if t399 < 0 then (some (-1)) else (some t399))))
theorem laws_heldWorld.mono : ∀ a0 a1 a2 a3 a4 a5 a6 a7 a8 a9 a10 a11 a12 a13 a14 a15 a16 k, LeO (laws_heldWorld.f k a0 a1 a2 a3 a4 a5 a6 a7 a8 a9 a10 a11 a12 a13 a14 a15 a16) (laws_heldWorld.f (k + 1) a0 a1 a2 a3 a4 a5 a6 a7 a8 a9 a10 a11 a12 a13 a14 a15 a16) := by
 intro a0 a1 a2 a3 a4 a5 a6 a7 a8 a9 a10 a11 a12 a13 a14 a15 a16 k
 unfold laws_heldWorld.f
 have m0 := @laws_heldIntS.mono
 have m1 := @laws_heldSetup.mono
 exact Pst.mo
theorem laws_heldWorld.calls (k : Nat) (a0_0 : Int) (a0_1 : Int) (a0_2 : Int) (A0_3 : Option Addr) (c0_3 : Nat) (l0_3 : List (S82)) (A0_4 : Option Addr) (c0_4 : Nat) (l0_4 : List (S102)) (a0_5 : Int) (a0_6 : Int) (A0_7 : Option Addr) (c0_7 : Nat) (l0_7 : List (S102)) (a0_8 : Int) (a0_9 : Int) (a0_10 : Int) (a0_11 : Int) (A0_12 : Option Addr) (c0_12 : Nat) (l0_12 : List Int) (a0_13 : Int) (a0_14 : Int) (a0_15 : Int) (a1 : Int) (r : Int) (w : World) (hr0_3 : Kd.C k82 w A0_3 l0_3.length l0_3) (hc0_3 : l0_3.length ≤ c0_3) (hr0_4 : Kd.C k102 w A0_4 l0_4.length l0_4) (hc0_4 : l0_4.length ≤ c0_4) (hr0_7 : Kd.C k102 w A0_7 l0_7.length l0_7) (hc0_7 : l0_7.length ≤ c0_7) (hr0_12 : Kd.C (Kd.int .i64) w A0_12 l0_12.length l0_12) (hc0_12 : l0_12.length ≤ c0_12) (h : laws_heldWorld.f k a0_0 a0_1 a0_2 l0_3 l0_4 a0_5 a0_6 l0_7 a0_8 a0_9 a0_10 a0_11 l0_12 a0_13 a0_14 a0_15 a1 = some r) :
    Calls Tryz.prog 12 #[.agg #[.int .i64 a0_0, .int .i64 a0_1, .int .i64 a0_2, .slice A0_3 l0_3.length c0_3, .slice A0_4 l0_4.length c0_4, .int .i64 a0_5, .int .i64 a0_6, .slice A0_7 l0_7.length c0_7, .int .i64 a0_8, .int .i64 a0_9, .int .i64 a0_10, .int .i64 a0_11, .slice A0_12 l0_12.length c0_12, .int .i64 a0_13, .int .i64 a0_14, .int .i64 a0_15], .int .i64 a1] w fun e w' => e = .returned (.int .i64 r) ∧ Below w.heap.size w w' := by
 have hu44 := Tryz.underlying44
 have hu41 := Tryz.underlying41
 have HR0_3 := Pst.A hr0_3
 have HC0_3 := Pst.A hc0_3
 clear hr0_3 hc0_3
 have HR0_4 := Pst.A hr0_4
 have HC0_4 := Pst.A hc0_4
 clear hr0_4 hc0_4
 have HR0_7 := Pst.A hr0_7
 have HC0_7 := Pst.A hc0_7
 clear hr0_7 hc0_7
 have HR0_12 := Pst.A hr0_12
 have HC0_12 := Pst.A hc0_12
 clear hr0_12 hc0_12
 have HB := Pst.A (Below.refl w.heap.size w)
 have H : ((laws_heldSetup.f k a0_0 a0_1 a0_2 l0_3 l0_4 a0_5 a0_6 l0_7 a0_8 a0_9 a0_10 a0_11 a1).bind fun t398 => (if t398 < 0 then (some (-1)) else ((laws_heldIntS.f k l0_12 t398).bind fun t399 => (if t399 < 0 then (some (-1)) else (some t399))))) = some r := h
 clear h
 obtain ⟨t398, A30, H⟩ := Pst.bd H
 have A3 := Pst.A A30
 clear A30
 by_cases c4 : t398 < 0
 ·rw [if_pos c4] at H
  have c4b0 : decide (t398 < 0) = true := decide_eq_true c4
  clear c4
  obtain rfl := Option.some.inj H
  go_enter Tryz.func12, Tryz.ntmps12
  go_wp2_with (first | ((with_reducible refine gate_dst (N := 2) rfl ?_); refine Pst.bx 2 #[.int .i64 a0_0, .int .i64 a0_1, .int .i64 a0_2, .slice A0_3 l0_3.length c0_3, .slice A0_4 l0_4.length c0_4, .int .i64 a0_5, .int .i64 a0_6, .slice A0_7 l0_7.length c0_7, .int .i64 a0_8, .int .i64 a0_9, .int .i64 a0_10, .int .i64 a0_11, .slice A0_12 l0_12.length c0_12, .int .i64 a0_13, .int .i64 a0_14, .int .i64 a0_15] 44 ?_; intro gb397 hg w5 hbox hb; have BK397 := Pst.A hbox; have GW397 := Pst.A (Pst.gs hg : w.heap.size ≤ gb397); have GE397 := Pst.A (Pst.gs hg : w.heap.size ≤ gb397); replace HB := Pst.A (below_step Pst.bel hb); clear hb hbox hg; obtain ⟨_,_,_,_,_,_,_,_,_,_,_,_,_,_,_,_⟩ := Pst.c16 BK397.out; obtain ⟨_,_,_,_,_,_,_,_,_,_,_,_,_,_,_,_⟩ := Pst.f16 BK397.out) | ((with_reducible refine gate_callee (f := 38) rfl ?_); refine goesL_ (some 8) rfl rfl Tryz.func38 (by kernel_rfl) rfl #[.agg #[.int .i64 a0_0, .int .i64 a0_1, .int .i64 a0_2, .slice A0_3 l0_3.length c0_3, .slice A0_4 l0_4.length c0_4, .int .i64 a0_5, .int .i64 a0_6, .slice A0_7 l0_7.length c0_7, .int .i64 a0_8, .int .i64 a0_9, .int .i64 a0_10, .int .i64 a0_11], .int .i64 a1] rfl Pst.ga ?_; (with_reducible refine (laws_heldSetup.calls k a0_0 a0_1 a0_2 _ _ l0_3 _ _ l0_4 a0_5 a0_6 _ _ l0_7 a0_8 a0_9 a0_10 a0_11 a1 t398 _ ?side1 ?side2 ?side3 ?side4 ?side5 ?side6 A3.out).mono ?_); (case side1 => exact Pst.qc (Kd.C_below HR0_3.out HB.out)); (case side2 => exact HC0_3.out); (case side3 => exact Pst.qc (Kd.C_below HR0_4.out HB.out)); (case side4 => exact HC0_4.out); (case side5 => exact Pst.qc (Kd.C_below HR0_7.out HB.out)); (case side6 => exact HC0_7.out); rintro e w7 ⟨rfl, hb⟩; refine ⟨_, rfl, ?_⟩; replace BK397 := Pst.A (Pst.kb BK397.out hb); replace HB := Pst.A (below_step Pst.bes hb); (try clear hb); (try clear hb2); (try clear hk); (try clear hi)))
  go_ret
  exact ⟨Pst.e1, Pst.bes⟩
 ·rw [if_neg c4] at H
  have c4b0 : decide (t398 < 0) = false := decide_eq_false c4
  clear c4
  obtain ⟨t399, A80, H⟩ := Pst.bd H
  have A8 := Pst.A A80
  clear A80
  by_cases c9 : t399 < 0
  ·rw [if_pos c9] at H
   have c9b0 : decide (t399 < 0) = true := decide_eq_true c9
   clear c9
   obtain rfl := Option.some.inj H
   go_enter Tryz.func12, Tryz.ntmps12
   go_wp2_with (first | ((with_reducible refine gate_dst (N := 2) rfl ?_); refine Pst.bx 2 #[.int .i64 a0_0, .int .i64 a0_1, .int .i64 a0_2, .slice A0_3 l0_3.length c0_3, .slice A0_4 l0_4.length c0_4, .int .i64 a0_5, .int .i64 a0_6, .slice A0_7 l0_7.length c0_7, .int .i64 a0_8, .int .i64 a0_9, .int .i64 a0_10, .int .i64 a0_11, .slice A0_12 l0_12.length c0_12, .int .i64 a0_13, .int .i64 a0_14, .int .i64 a0_15] 44 ?_; intro gb397 hg w10 hbox hb; have BK397 := Pst.A hbox; have GW397 := Pst.A (Pst.gs hg : w.heap.size ≤ gb397); have GE397 := Pst.A (Pst.gs hg : w.heap.size ≤ gb397); replace HB := Pst.A (below_step Pst.bel hb); clear hb hbox hg; obtain ⟨_,_,_,_,_,_,_,_,_,_,_,_,_,_,_,_⟩ := Pst.c16 BK397.out; obtain ⟨_,_,_,_,_,_,_,_,_,_,_,_,_,_,_,_⟩ := Pst.f16 BK397.out) | ((with_reducible refine gate_callee (f := 38) rfl ?_); refine goesL_ (some 8) rfl rfl Tryz.func38 (by kernel_rfl) rfl #[.agg #[.int .i64 a0_0, .int .i64 a0_1, .int .i64 a0_2, .slice A0_3 l0_3.length c0_3, .slice A0_4 l0_4.length c0_4, .int .i64 a0_5, .int .i64 a0_6, .slice A0_7 l0_7.length c0_7, .int .i64 a0_8, .int .i64 a0_9, .int .i64 a0_10, .int .i64 a0_11], .int .i64 a1] rfl Pst.ga ?_; (with_reducible refine (laws_heldSetup.calls k a0_0 a0_1 a0_2 _ _ l0_3 _ _ l0_4 a0_5 a0_6 _ _ l0_7 a0_8 a0_9 a0_10 a0_11 a1 t398 _ ?side1 ?side2 ?side3 ?side4 ?side5 ?side6 A3.out).mono ?_); (case side1 => exact Pst.qc (Kd.C_below HR0_3.out HB.out)); (case side2 => exact HC0_3.out); (case side3 => exact Pst.qc (Kd.C_below HR0_4.out HB.out)); (case side4 => exact HC0_4.out); (case side5 => exact Pst.qc (Kd.C_below HR0_7.out HB.out)); (case side6 => exact HC0_7.out); rintro e w12 ⟨rfl, hb⟩; refine ⟨_, rfl, ?_⟩; replace BK397 := Pst.A (Pst.kb BK397.out hb); replace HB := Pst.A (below_step Pst.bes hb); (try clear hb); (try clear hb2); (try clear hk); (try clear hi); obtain ⟨_,_,_,_,_,_,_,_,_,_,_,_,_,_,_,_⟩ := Pst.c16 BK397.out; obtain ⟨_,_,_,_,_,_,_,_,_,_,_,_,_,_,_,_⟩ := Pst.f16 BK397.out) | ((with_reducible refine gate_callee (f := 39) rfl ?_); refine goesL_ (some 14) rfl rfl Tryz.func39 (by kernel_rfl) rfl #[.slice A0_12 l0_12.length c0_12, .int .i64 t398] rfl Pst.ga ?_; (with_reducible refine (laws_heldIntS.calls k _ _ l0_12 t398 t399 _ ?side1 ?side2 A8.out).mono ?_); (case side1 => exact Pst.qc (Kd.C_below HR0_12.out HB.out)); (case side2 => exact HC0_12.out); rintro e w' ⟨rfl, ⟨nd, rfl⟩⟩; refine ⟨_, rfl, ?_⟩))
   go_ret
   exact ⟨Pst.e1, Pst.bes⟩
  ·rw [if_neg c9] at H
   have c9b0 : decide (t399 < 0) = false := decide_eq_false c9
   clear c9
   obtain rfl := Option.some.inj H
   go_enter Tryz.func12, Tryz.ntmps12
   go_wp2_with (first | ((with_reducible refine gate_dst (N := 2) rfl ?_); refine Pst.bx 2 #[.int .i64 a0_0, .int .i64 a0_1, .int .i64 a0_2, .slice A0_3 l0_3.length c0_3, .slice A0_4 l0_4.length c0_4, .int .i64 a0_5, .int .i64 a0_6, .slice A0_7 l0_7.length c0_7, .int .i64 a0_8, .int .i64 a0_9, .int .i64 a0_10, .int .i64 a0_11, .slice A0_12 l0_12.length c0_12, .int .i64 a0_13, .int .i64 a0_14, .int .i64 a0_15] 44 ?_; intro gb397 hg w14 hbox hb; have BK397 := Pst.A hbox; have GW397 := Pst.A (Pst.gs hg : w.heap.size ≤ gb397); have GE397 := Pst.A (Pst.gs hg : w.heap.size ≤ gb397); replace HB := Pst.A (below_step Pst.bel hb); clear hb hbox hg; obtain ⟨_,_,_,_,_,_,_,_,_,_,_,_,_,_,_,_⟩ := Pst.c16 BK397.out; obtain ⟨_,_,_,_,_,_,_,_,_,_,_,_,_,_,_,_⟩ := Pst.f16 BK397.out) | ((with_reducible refine gate_callee (f := 38) rfl ?_); refine goesL_ (some 8) rfl rfl Tryz.func38 (by kernel_rfl) rfl #[.agg #[.int .i64 a0_0, .int .i64 a0_1, .int .i64 a0_2, .slice A0_3 l0_3.length c0_3, .slice A0_4 l0_4.length c0_4, .int .i64 a0_5, .int .i64 a0_6, .slice A0_7 l0_7.length c0_7, .int .i64 a0_8, .int .i64 a0_9, .int .i64 a0_10, .int .i64 a0_11], .int .i64 a1] rfl Pst.ga ?_; (with_reducible refine (laws_heldSetup.calls k a0_0 a0_1 a0_2 _ _ l0_3 _ _ l0_4 a0_5 a0_6 _ _ l0_7 a0_8 a0_9 a0_10 a0_11 a1 t398 _ ?side1 ?side2 ?side3 ?side4 ?side5 ?side6 A3.out).mono ?_); (case side1 => exact Pst.qc (Kd.C_below HR0_3.out HB.out)); (case side2 => exact HC0_3.out); (case side3 => exact Pst.qc (Kd.C_below HR0_4.out HB.out)); (case side4 => exact HC0_4.out); (case side5 => exact Pst.qc (Kd.C_below HR0_7.out HB.out)); (case side6 => exact HC0_7.out); rintro e w16 ⟨rfl, hb⟩; refine ⟨_, rfl, ?_⟩; replace BK397 := Pst.A (Pst.kb BK397.out hb); replace HB := Pst.A (below_step Pst.bes hb); (try clear hb); (try clear hb2); (try clear hk); (try clear hi); obtain ⟨_,_,_,_,_,_,_,_,_,_,_,_,_,_,_,_⟩ := Pst.c16 BK397.out; obtain ⟨_,_,_,_,_,_,_,_,_,_,_,_,_,_,_,_⟩ := Pst.f16 BK397.out) | ((with_reducible refine gate_callee (f := 39) rfl ?_); refine goesL_ (some 14) rfl rfl Tryz.func39 (by kernel_rfl) rfl #[.slice A0_12 l0_12.length c0_12, .int .i64 t398] rfl Pst.ga ?_; (with_reducible refine (laws_heldIntS.calls k _ _ l0_12 t398 t399 _ ?side1 ?side2 A8.out).mono ?_); (case side1 => exact Pst.qc (Kd.C_below HR0_12.out HB.out)); (case side2 => exact HC0_12.out); rintro e w' ⟨rfl, ⟨nd, rfl⟩⟩; refine ⟨_, rfl, ?_⟩))
   go_ret
   exact ⟨Pst.e1, Pst.bes⟩

/-! ### laws_FnExactParseWorld: function 3 -/
--CALLS
instance : DecidableEq S82 := fun x y => decidable_of_iff (x.f0 = y.f0 ∧ x.f1 = y.f1 ∧ x.f2 = y.f2) ⟨fun h => by cases x; cases y; simp_all, fun h => by rw [h]; exact ⟨rfl, rfl, rfl⟩⟩
instance : DecidableEq S102 := fun x y => decidable_of_iff (x.f0 = y.f0 ∧ x.f1 = y.f1 ∧ x.f2 = y.f2) ⟨fun h => by cases x; cases y; simp_all, fun h => by rw [h]; exact ⟨rfl, rfl, rfl⟩⟩
instance : DecidableEq WorldB := fun u t => decidable_of_iff (u.1 = t.1 ∧ u.2.1 = t.2.1 ∧ u.2.2.1 = t.2.2.1 ∧ u.2.2.2.1 = t.2.2.2.1 ∧ u.2.2.2.2.1 = t.2.2.2.2.1 ∧ u.2.2.2.2.2.1 = t.2.2.2.2.2.1 ∧ u.2.2.2.2.2.2.1 = t.2.2.2.2.2.2.1 ∧ u.2.2.2.2.2.2.2.1 = t.2.2.2.2.2.2.2.1 ∧ u.2.2.2.2.2.2.2.2.1 = t.2.2.2.2.2.2.2.2.1 ∧ u.2.2.2.2.2.2.2.2.2.1 = t.2.2.2.2.2.2.2.2.2.1 ∧ u.2.2.2.2.2.2.2.2.2.2.1 = t.2.2.2.2.2.2.2.2.2.2.1 ∧ u.2.2.2.2.2.2.2.2.2.2.2.1 = t.2.2.2.2.2.2.2.2.2.2.2.1 ∧ u.2.2.2.2.2.2.2.2.2.2.2.2.1 = t.2.2.2.2.2.2.2.2.2.2.2.2.1 ∧ u.2.2.2.2.2.2.2.2.2.2.2.2.2.1 = t.2.2.2.2.2.2.2.2.2.2.2.2.2.1 ∧ u.2.2.2.2.2.2.2.2.2.2.2.2.2.2.1 = t.2.2.2.2.2.2.2.2.2.2.2.2.2.2.1 ∧ u.2.2.2.2.2.2.2.2.2.2.2.2.2.2.2.1 = t.2.2.2.2.2.2.2.2.2.2.2.2.2.2.2.1 ∧ u.2.2.2.2.2.2.2.2.2.2.2.2.2.2.2.2 = t.2.2.2.2.2.2.2.2.2.2.2.2.2.2.2.2) ⟨fun h => by obtain ⟨q0, q1, q2, q3, q4, q5, q6, q7, q8, q9, q10, q11, q12, q13, q14, q15, q16⟩ := h; exact Prod.ext q0 (Prod.ext q1 (Prod.ext q2 (Prod.ext q3 (Prod.ext q4 (Prod.ext q5 (Prod.ext q6 (Prod.ext q7 (Prod.ext q8 (Prod.ext q9 (Prod.ext q10 (Prod.ext q11 (Prod.ext q12 (Prod.ext q13 (Prod.ext q14 (Prod.ext q15 q16))))))))))))))), fun h => by rw [h]; exact ⟨rfl, rfl, rfl, rfl, rfl, rfl, rfl, rfl, rfl, rfl, rfl, rfl, rfl, rfl, rfl, rfl, rfl⟩⟩
/-- What stands behind the two calls that must answer alike. -/
def laws_FnExactParseWorld.g (k : Nat) (s1 s2 s3 : Int) (s4 : List S82) (s5 : List S102) (s6 s7 : Int) (s8 : List S102) (s9 s10 s11 s12 : Int) (t1 t2 t3 : Int) (t4 : List S82) (t5 : List S102) (t6 t7 : Int) (t8 : List S102) (t9 t10 t11 t12 : Int) (t13 : List Int) (t14 t15 t16 : Int) : Option Bool :=
 if (s4.length ≤ 1048577 ∧ s5.length ≤ 1048577 ∧ s8.length ≤ 1048577) ∧ t4.length ≤ 1048577 ∧ t5.length ≤ 1048577 ∧ t8.length ≤ 1048577 ∧ t13.length ≤ 1048577 then
  (laws_markSetup.f k s1 s2 s3 s4 s5 s6 s7 s8 s9 s10 s11 s12 1).bind fun x => if 0 ≤ x.1 then
   ((laws_markWorld.f k t1 t2 t3 t4 t5 t6 t7 t8 t9 t10 t11 t12 t13 t14 t15 t16 1).bind fun y =>
    (laws_heldWorld.f k t1 t2 t3 y.2.1 y.2.2.1 t6 t7 y.2.2.2.1 t9 t10 t11 t12 y.2.2.2.2 t14 t15 t16 1).bind fun z => if 0 ≤ z ∧ z = y.1 then some true else none) else none
 else none
def laws_FnExactParseWorld.f (k : Nat) (a0 : ByteArray) (a b c : Int) (g : List S78) (p : List S119) (d e : Int) (q : List S119) (m n i j : Int) : Option Bool :=
 if 1048576 < a0.size then some true else
 (laws_szSetup.f k a b c g p d e q m n i j 1048576).bind fun t => if t < 0 then some true else
 (laws_toSetup.f k a b c g p d e q m n i j).bind fun s =>
 (spec_ParseWorld.f k a0 s.1 s.2.1 s.2.2.1 s.2.2.2.1 s.2.2.2.2.1 s.2.2.2.2.2.1 s.2.2.2.2.2.2.1 s.2.2.2.2.2.2.2.1 s.2.2.2.2.2.2.2.2.1 s.2.2.2.2.2.2.2.2.2.1 s.2.2.2.2.2.2.2.2.2.2.1 s.2.2.2.2.2.2.2.2.2.2.2).bind fun t =>
 (impl_ParseWorld.f k a0 s.1 s.2.1 s.2.2.1 s.2.2.2.1 s.2.2.2.2.1 s.2.2.2.2.2.1 s.2.2.2.2.2.2.1 s.2.2.2.2.2.2.2.1 s.2.2.2.2.2.2.2.2.1 s.2.2.2.2.2.2.2.2.2.1 s.2.2.2.2.2.2.2.2.2.2.1 s.2.2.2.2.2.2.2.2.2.2.2).bind fun u => if u = t then
  laws_FnExactParseWorld.g k s.1 s.2.1 s.2.2.1 s.2.2.2.1 s.2.2.2.2.1 s.2.2.2.2.2.1 s.2.2.2.2.2.2.1 s.2.2.2.2.2.2.2.1 s.2.2.2.2.2.2.2.2.1 s.2.2.2.2.2.2.2.2.2.1 s.2.2.2.2.2.2.2.2.2.2.1 s.2.2.2.2.2.2.2.2.2.2.2
   t.1 t.2.1 t.2.2.1 t.2.2.2.1 t.2.2.2.2.1 t.2.2.2.2.2.1 t.2.2.2.2.2.2.1 t.2.2.2.2.2.2.2.1 t.2.2.2.2.2.2.2.2.1 t.2.2.2.2.2.2.2.2.2.1 t.2.2.2.2.2.2.2.2.2.2.1 t.2.2.2.2.2.2.2.2.2.2.2.1 t.2.2.2.2.2.2.2.2.2.2.2.2.1 t.2.2.2.2.2.2.2.2.2.2.2.2.2.1 t.2.2.2.2.2.2.2.2.2.2.2.2.2.2.1 t.2.2.2.2.2.2.2.2.2.2.2.2.2.2.2.1 else none
theorem notOwn {α : Type} {d : Kd α} {e base g t : Nat} {w : World} {ok : Nat → Prop} {v : Value} {xs : List α} {cs : Array Value} (h : d.R e w base ok v xs) (hb : w.heap[g]? = some (.cells cs t (0, 0))) (hne : e ≠ t) : ¬ some g = v.ownBlock := fun e_ => by
 obtain ⟨cells, hc⟩ := Kd.R_typed h g e_.symm
 rw [hb] at hc
 injection hc with hc
 injection hc with _ hc
 exact hne hc.symm
def laws_FnExactParseWorld.T12 : Bool × List (List Nat × List Nat) := (true, [([], []), ([], []), ([1], [1]), ([0, 2, 2], [0, 2]), ([3], [3])])
def laws_FnExactParseWorld.B12 : List Nat := [0, 0, 2, 7, 15]
theorem laws_FnExactParseWorld.tab12 : rtab .any (opsOf Tryz.f3 12) = laws_FnExactParseWorld.T12 := by kernel_rfl
theorem laws_FnExactParseWorld.bits12 : waitsOk laws_FnExactParseWorld.T12.2 laws_FnExactParseWorld.B12 = true := by kernel_rfl
theorem laws_FnExactParseWorld.calls (k : Nat) (a0 : ByteArray) (za zb zc : Int) (A3 : Option Addr) (c3 : Nat) (zg : List S78) (A4 : Option Addr) (c4 : Nat) (zp : List S119) (zd ze : Int) (A7 : Option Addr) (c7 : Nat) (zq : List S119) (zm zn zi zj : Int) (r : Bool) (w : World) (hr3 : Kd.C k78 w A3 zg.length zg) (hc3 : zg.length ≤ c3) (hr4 : Kd.C k119 w A4 zp.length zp) (hc4 : zp.length ≤ c4) (hr7 : Kd.C k119 w A7 zq.length zq) (hc7 : zq.length ≤ c7) (h : laws_FnExactParseWorld.f k a0 za zb zc zg zp zd ze zq zm zn zi zj = some r) (tab_ : Tab w := by exact HT.out.on Pst.bel) :
 Calls Tryz.prog 3 #[.string a0, .agg #[.int .i64 za, .int .i64 zb, .int .i64 zc, .slice A3 zg.length c3, .slice A4 zp.length c4, .int .i64 zd, .int .i64 ze, .slice A7 zq.length c7, .int .i64 zm, .int .i64 zn, .int .i64 zi, .int .i64 zj]] w fun e w' => e = .returned (.bool r) ∧ Below w.heap.size w w' := by
 have HT := Pst.A tab_
 clear tab_
 have hu31 := Tryz.underlying31
 have hu41 := Tryz.underlying41
 have hu44 := Tryz.underlying44
 have HR3 := Pst.A hr3
 have HR4 := Pst.A hr4
 have HR7 := Pst.A hr7
 have HC3 := Pst.A hc3
 have HC4 := Pst.A hc4
 have HC7 := Pst.A hc7
 clear hr3 hr4 hr7 hc3 hc4 hc7
 have HB := Pst.A (Below.refl w.heap.size w)
 unfold laws_FnExactParseWorld.f at h
 by_cases hlong : 1048576 < a0.size
 ·rw [if_pos hlong] at h
  obtain rfl := Option.some.inj h
  have hl1 : decide (1048576 < a0.size) = true := decide_eq_true hlong
  have hl2 : decide (1048576 < (a0.size : Int)) = true := decide_eq_true (by omega)
  clear h hlong
  go_enter Tryz.func3, Tryz.ntmps3
  go_wp2_with (first
  | ((with_reducible refine gate_dst (N := 3) rfl ?_); refine Pst.bx 3 #[.int .i64 za, .int .i64 zb, .int .i64 zc, .slice A3 zg.length c3, .slice A4 zp.length c4, .int .i64 zd, .int .i64 ze, .slice A7 zq.length c7, .int .i64 zm, .int .i64 zn, .int .i64 zi, .int .i64 zj] 31 ?_; intro g3 hg wg3 hbox hb; have GEg3 := Pst.A (show w.heap.size ≤ g3 by rw [hg]; exact (below_size Pst.bel)); have m0_ := Pst.A (below_step Pst.bel hb); clear HB ; have HB := m0_; clear m0_ ; have BK3 := Pst.A hbox; clear hb hbox hg))
  go_ret
  exact ⟨rfl, Pst.bel⟩
 rw [if_neg hlong] at h
 have hl1 : decide (1048576 < a0.size) = false := decide_eq_false hlong
 have hl2 : decide (1048576 < (a0.size : Int)) = false := decide_eq_false (by omega)
 clear hlong
 obtain ⟨t, AZ, h1⟩ := Option.bind_eq_some_iff.1 h
 clear h
 replace AZ := Pst.A AZ
 by_cases ht0 : t < 0
 ·rw [if_pos ht0] at h1
  obtain rfl := Option.some.inj h1
  have ht1 : decide (t < 0) = true := decide_eq_true ht0
  clear h1 ht0
  go_enter Tryz.func3, Tryz.ntmps3
  go_wp2_with (first
  | ((with_reducible refine gate_dst (N := 3) rfl ?_); refine Pst.bx 3 #[.int .i64 za, .int .i64 zb, .int .i64 zc, .slice A3 zg.length c3, .slice A4 zp.length c4, .int .i64 zd, .int .i64 ze, .slice A7 zq.length c7, .int .i64 zm, .int .i64 zn, .int .i64 zi, .int .i64 zj] 31 ?_; intro g3 hg wg3 hbox hb; have GEg3 := Pst.A (show w.heap.size ≤ g3 by rw [hg]; exact (below_size Pst.bel)); have m0_ := Pst.A (below_step Pst.bel hb); clear HB ; have HB := m0_; clear m0_ ; have BK3 := Pst.A hbox; clear hb hbox hg)
  | ((with_reducible refine gate_ (.load 31 (.tmp 3)) rfl ?_); (try (refine gate_guard (by rfl) ?_; dsimp only)); refine wpList_load_row rfl 31 (.tmp 3) rfl g3 rfl 31 _ _ _ (Pst.qb BK3.out) Tryz.underlying31 rfl (by kernel_rfl) ?_)
  | (go_at_call 4; refine (laws_szSetup.calls k za zb zc A3 c3 zg A4 c4 zp zd ze A7 c7 zq zm zn zi zj 1048576 t _ (Kd.C_below HR3.out Pst.bel) HC3.out (Kd.C_below HR4.out Pst.bel) HC4.out (Kd.C_below HR7.out Pst.bel) HC7.out AZ.out).mono ?_; rintro e wz ⟨rfl, hb⟩; have m0_ := Pst.A (below_step Pst.bel hb); have mBK3_ := Pst.A (Pst.kb BK3.out hb); clear HB BK3; have HB := m0_; have BK3 := mBK3_; clear m0_ mBK3_; clear hb))
  go_ret
  exact ⟨rfl, Pst.bel⟩
 rw [if_neg ht0] at h1
 have ht1 : decide (t < 0) = false := decide_eq_false ht0
 clear ht0
 obtain ⟨⟨s1, s2, s3, s4, s5, s6, s7, s8, s9, s10, s11, s12⟩, AT, h2⟩ := Option.bind_eq_some_iff.1 h1
 clear h1
 obtain ⟨⟨t1, t2, t3, t4, t5, t6, t7, t8, t9, t10, t11, t12, t13, t14, t15, t16, t17⟩, AS, h3⟩ := Option.bind_eq_some_iff.1 h2
 clear h2
 obtain ⟨u, AI, h4⟩ := Option.bind_eq_some_iff.1 h3
 clear h3
 by_cases hu : ¬ (u = (t1, t2, t3, t4, t5, t6, t7, t8, t9, t10, t11, t12, t13, t14, t15, t16, t17))
 ·rw [if_neg hu] at h4
  cases h4
 replace hu := Decidable.not_not.1 hu
 subst hu
 rw [if_pos rfl] at h4
 replace AT := Pst.A AT
 replace AS := Pst.A AS
 replace AI := Pst.A AI
 have h5 : laws_FnExactParseWorld.g k s1 s2 s3 s4 s5 s6 s7 s8 s9 s10 s11 s12 t1 t2 t3 t4 t5 t6 t7 t8 t9 t10 t11 t12 t13 t14 t15 t16 = some r := h4
 clear h4
 unfold laws_FnExactParseWorld.g at h5
 by_cases hsm : ¬ ((s4.length ≤ 1048577 ∧ s5.length ≤ 1048577 ∧ s8.length ≤ 1048577) ∧ t4.length ≤ 1048577 ∧ t5.length ≤ 1048577 ∧ t8.length ≤ 1048577 ∧ t13.length ≤ 1048577)
 ·rw [if_neg hsm] at h5
  cases h5
 replace hsm := Decidable.not_not.1 hsm
 rw [if_pos hsm] at h5
 obtain ⟨⟨x1, x2, x3, x4⟩, AX, h6⟩ := Option.bind_eq_some_iff.1 h5
 clear h5
 by_cases hx : ¬ (0 ≤ x1)
 ·have h7 := h6
  rw [if_neg hx] at h7
  cases h7
 replace hx := Decidable.not_not.1 hx
 rw [if_pos hx] at h6
 obtain ⟨⟨y1, y4, y5, y8, y13⟩, AY, h7⟩ := Option.bind_eq_some_iff.1 h6
 clear h6
 obtain ⟨z, AH, h8⟩ := Option.bind_eq_some_iff.1 h7
 clear h7
 by_cases hz : ¬ (0 ≤ z ∧ z = y1)
 ·have h9 := h8
  rw [if_neg hz] at h9
  cases h9
 replace hz := Decidable.not_not.1 hz
 rw [if_pos hz] at h8
 obtain rfl := Option.some.inj h8
 clear h8
 obtain ⟨hz0, rfl⟩ := hz
 have hx1 : decide (x1 < 0) = false := decide_eq_false (by omega)
 have hz1 : decide (z < 0) = false := decide_eq_false (by omega)
 replace AX := Pst.A AX
 replace AY := Pst.A AY
 replace AH := Pst.A AH
 have HSM := Pst.A hsm
 clear hsm hx hz0
 go_enter Tryz.func3, Tryz.ntmps3
 go_upto_region 8 with (first
  | ((with_reducible refine gate_dst (N := 3) rfl ?_); refine Pst.bx 3 #[.int .i64 za, .int .i64 zb, .int .i64 zc, .slice A3 zg.length c3, .slice A4 zp.length c4, .int .i64 zd, .int .i64 ze, .slice A7 zq.length c7, .int .i64 zm, .int .i64 zn, .int .i64 zi, .int .i64 zj] 31 ?_; intro g3 hg wg3 hbox hb; have GEg3 := Pst.A (show w.heap.size ≤ g3 by rw [hg]; exact (below_size Pst.bel)); have m0_ := Pst.A (below_step Pst.bel hb); clear HB ; have HB := m0_; clear m0_ ; have BK3 := Pst.A hbox; clear hb hbox hg)
  | ((with_reducible refine gate_ (.load 31 (.tmp 3)) rfl ?_); (try (refine gate_guard (by rfl) ?_; dsimp only)); refine wpList_load_row rfl 31 (.tmp 3) rfl g3 rfl 31 _ _ _ (Pst.qb BK3.out) Tryz.underlying31 rfl (by kernel_rfl) ?_)
  | (go_at_call 4; refine (laws_szSetup.calls k za zb zc A3 c3 zg A4 c4 zp zd ze A7 c7 zq zm zn zi zj 1048576 t _ (Kd.C_below HR3.out Pst.bel) HC3.out (Kd.C_below HR4.out Pst.bel) HC4.out (Kd.C_below HR7.out Pst.bel) HC7.out AZ.out).mono ?_; rintro e wz ⟨rfl, hb⟩; have m0_ := Pst.A (below_step Pst.bel hb); have mBK3_ := Pst.A (Pst.kb BK3.out hb); clear HB BK3; have HB := m0_; have BK3 := mBK3_; clear m0_ mBK3_; clear hb)
  | (go_at_call 6; refine (laws_toSetup.calls k za zb zc A3 c3 zg A4 c4 zp zd ze A7 c7 zq zm zn zi zj s1 s2 s3 s4 s5 s6 s7 s8 s9 s10 s11 s12 _ (Kd.C_below HR3.out Pst.bel) HC3.out (Kd.C_below HR4.out Pst.bel) HC4.out (Kd.C_below HR7.out Pst.bel) HC7.out AT.out).mono ?_; rintro e w2 ⟨v3, v4, v7, rfl, hr3, hr4, hr7, hb⟩; skip; have HQq3 := Pst.A (Kd.R_lower hr3 (below_size Pst.bel)); have HQq4 := Pst.A (Kd.R_lower hr4 (below_size Pst.bel)); have HQq7 := Pst.A (Kd.R_lower hr7 (below_size Pst.bel)); clear hr3 hr4 hr7; have m0_ := Pst.A (below_step Pst.bel hb); have mBK3_ := Pst.A (Pst.kb BK3.out hb); clear HB BK3; have HB := m0_; have BK3 := mBK3_; clear m0_ mBK3_; clear hb; obtain ⟨Aq3, cq3, e3_⟩ := Kd.R_slice HQq3.out; subst e3_; obtain ⟨Aq4, cq4, e4_⟩ := Kd.R_slice HQq4.out; subst e4_; obtain ⟨Aq7, cq7, e7_⟩ := Kd.R_slice HQq7.out; subst e7_)
  | (go_at_call 5; refine (spec_ParseWorld.calls k a0 s1 s2 s3 Aq3 cq3 s4 Aq4 cq4 s5 s6 s7 Aq7 cq7 s8 s9 s10 s11 s12 t1 t2 t3 t4 t5 t6 t7 t8 t9 t10 t11 t12 t13 t14 t15 t16 t17 _ (Kd.R_reads' (Pst.qr HQq3.out)).2.2 (Kd.R_reads' HQq3.out).2.1 (Kd.R_reads' (Pst.qr HQq4.out)).2.2 (Kd.R_reads' HQq4.out).2.1 (Kd.R_reads' (Pst.qr HQq7.out)).2.2 (Kd.R_reads' HQq7.out).2.1 AS.out).mono ?_; rintro e ws ⟨v3, v4, v7, v12, rfl, hr3, hr4, hr7, hr12, hb⟩; have HQw3 := Pst.A (Kd.R_lower hr3 (below_size Pst.bel)); have HQw4 := Pst.A (Kd.R_lower hr4 (below_size Pst.bel)); have HQw7 := Pst.A (Kd.R_lower hr7 (below_size Pst.bel)); have HQw12 := Pst.A (Kd.R_lower hr12 (below_size Pst.bel)); clear hr3 hr4 hr7 hr12; have m0_ := Pst.A (below_step Pst.bel hb); have mBK3_ := Pst.A (Pst.kb BK3.out hb); clear HB BK3; have HB := m0_; have BK3 := mBK3_; clear m0_ mBK3_; clear hb; obtain ⟨Aw3, cw3, e3_⟩ := Kd.R_slice HQw3.out; subst e3_; obtain ⟨Aw4, cw4, e4_⟩ := Kd.R_slice HQw4.out; subst e4_; obtain ⟨Aw7, cw7, e7_⟩ := Kd.R_slice HQw7.out; subst e7_; obtain ⟨Aw12, cw12, e12_⟩ := Kd.R_slice HQw12.out; subst e12_; have AKw := Pst.A (Kept.refl ws (fun _ => False)))
  | ((with_reducible refine gate_dst (N := 6) rfl ?_); refine Pst.bx 6 #[.int .i64 0, .int .i64 0, .int .i64 0, .slice none 0 0, .slice none 0 0, .int .i64 0, .int .i64 0, .slice none 0 0, .int .i64 0, .int .i64 0, .int .i64 0, .int .i64 0, .slice none 0 0, .int .i64 0, .int .i64 0, .int .i64 0] 44 ?_; intro g6 hg wg6 hbox hb; have GEg6 := Pst.A (show w.heap.size ≤ g6 by rw [hg]; exact (below_size Pst.bel)); have GEg6AKw := Pst.A (show ws.heap.size ≤ g6 by rw [hg]; exact AKw.out.1); have NEBK3g6 := Pst.A (show ¬ g3 = g6 from fun e_ => absurd (show g3 < g6 by rw [hg]; exact blk_lt (Pst.qb BK3.out)) (by omega)); have m0_ := Pst.A (below_step Pst.bel hb); have mBK3_ := Pst.A (Pst.kb BK3.out hb); have mAKw_ := Pst.A (Kept.below (by exact AKw.out) hb); clear HB BK3 AKw; have HB := m0_; have BK3 := mBK3_; have AKw := mAKw_; clear m0_ mBK3_ mAKw_; have BK6 := Pst.A hbox; clear hb hbox hg)
  | ((with_reducible refine gate_ (.store 44 (.tmp 6) (.tmp 29)) rfl ?_); refine storeAll rfl 44 (.tmp 6) (.tmp 29) rfl g6 #[.int .i64 t1, .int .i64 t2, .int .i64 t3, .slice Aw3 t4.length cw3, .slice Aw4 t5.length cw4, .int .i64 t6, .int .i64 t7, .slice Aw7 t8.length cw7, .int .i64 t9, .int .i64 t10, .int .i64 t11, .int .i64 t12, .slice Aw12 t13.length cw12, .int .i64 t14, .int .i64 t15, .int .i64 t16] rfl rfl 44 #[.int .i64 0, .int .i64 0, .int .i64 0, .slice none 0 0, .slice none 0 0, .int .i64 0, .int .i64 0, .slice none 0 0, .int .i64 0, .int .i64 0, .int .i64 0, .int .i64 0, .slice none 0 0, .int .i64 0, .int .i64 0, .int .i64 0] ?hb (by kernel_rfl) rfl (by simp [oneInt, oneSlice]) ?_; (case hb => exact Pst.qb BK6.out); intro w6s hbs hgs; have m0_ := Pst.A (pw_below_grown Pst.bel (some g6) (below_size Pst.bel) hgs (fun k_ hk_ => by cases hk_; exact GEg6.out)); have mBK3_ := Pst.A (blk_grown (Pst.qb BK3.out) hgs (fun e_ => NEBK3g6.out (Option.some.inj e_))); have mAKw_ := Pst.A (Kept.of_grown hgs (by exact AKw.out) (fun k_ e_ => .inr (by cases e_; exact GEg6AKw.out))); clear HB BK6 BK3 AKw; have HB := m0_; have BK6 := Pst.A hbs; have BK3 := mBK3_; have AKw := mAKw_; clear m0_ mBK3_ mAKw_ hbs hgs))
 clear HQq3 HQq4 HQq7
 go_upto_region 9 with (first
  | ((with_reducible refine gate_ (.load 31 (.tmp 3)) rfl ?_); (try (refine gate_guard (by rfl) ?_; dsimp only)); refine wpList_load_row rfl 31 (.tmp 3) rfl g3 rfl 31 _ _ _ (Pst.qb BK3.out) Tryz.underlying31 rfl (by kernel_rfl) ?_)
  | (go_at_call 6; refine (laws_toSetup.calls k za zb zc A3 c3 zg A4 c4 zp zd ze A7 c7 zq zm zn zi zj s1 s2 s3 s4 s5 s6 s7 s8 s9 s10 s11 s12 _ (Kd.C_below HR3.out Pst.bel) HC3.out (Kd.C_below HR4.out Pst.bel) HC4.out (Kd.C_below HR7.out Pst.bel) HC7.out AT.out).mono ?_; rintro e wx ⟨v3, v4, v7, rfl, hr3, hr4, hr7, hb⟩; have LOx3 := Pst.A (fun (k_ : Nat) e_ => Nat.le_trans AKw.out.1 (Kd.R_base hr3 k_ e_)); have LOx4 := Pst.A (fun (k_ : Nat) e_ => Nat.le_trans AKw.out.1 (Kd.R_base hr4 k_ e_)); have LOx7 := Pst.A (fun (k_ : Nat) e_ => Nat.le_trans AKw.out.1 (Kd.R_base hr7 k_ e_)); have HQx3 := Pst.A (Kd.R_lower hr3 (below_size Pst.bel)); have HQx4 := Pst.A (Kd.R_lower hr4 (below_size Pst.bel)); have HQx7 := Pst.A (Kd.R_lower hr7 (below_size Pst.bel)); clear hr3 hr4 hr7; have m0_ := Pst.A (below_step Pst.bel hb); have mBK3_ := Pst.A (Pst.kb BK3.out hb); have mBK6_ := Pst.A (Pst.kb BK6.out hb); have mAKw_ := Pst.A (Kept.below (by exact AKw.out) hb); clear HB BK3 BK6 AKw; have HB := m0_; have BK3 := mBK3_; have BK6 := mBK6_; have AKw := mAKw_; clear m0_ mBK3_ mBK6_ mAKw_; clear hb; obtain ⟨Ax3, cx3, e3_⟩ := Kd.R_slice HQx3.out; subst e3_; obtain ⟨Ax4, cx4, e4_⟩ := Kd.R_slice HQx4.out; subst e4_; obtain ⟨Ax7, cx7, e7_⟩ := Kd.R_slice HQx7.out; subst e7_; have AKx := Pst.A (Kept.refl wx (fun _ => False)))
  | ((with_reducible refine gate_dst (N := 8) rfl ?_); refine Pst.bx 8 #[.int .i64 0, .int .i64 0, .int .i64 0, .slice none 0 0, .slice none 0 0, .int .i64 0, .int .i64 0, .slice none 0 0, .int .i64 0, .int .i64 0, .int .i64 0, .int .i64 0] 41 ?_; intro g8 hg wg8 hbox hb; have GEg8 := Pst.A (show w.heap.size ≤ g8 by rw [hg]; exact (below_size Pst.bel)); have GEg8AKw := Pst.A (show ws.heap.size ≤ g8 by rw [hg]; exact AKw.out.1); have GEg8AKx := Pst.A (show wx.heap.size ≤ g8 by rw [hg]; exact AKx.out.1); have NEBK3g8 := Pst.A (show ¬ g3 = g8 from fun e_ => absurd (show g3 < g8 by rw [hg]; exact blk_lt (Pst.qb BK3.out)) (by omega)); have NEBK6g8 := Pst.A (show ¬ g6 = g8 from fun e_ => absurd (show g6 < g8 by rw [hg]; exact blk_lt (Pst.qb BK6.out)) (by omega)); have m0_ := Pst.A (below_step Pst.bel hb); have mBK3_ := Pst.A (Pst.kb BK3.out hb); have mBK6_ := Pst.A (Pst.kb BK6.out hb); have mAKw_ := Pst.A (Kept.below (by exact AKw.out) hb); have mAKx_ := Pst.A (Kept.below (by exact AKx.out) hb); clear HB BK3 BK6 AKw AKx; have HB := m0_; have BK3 := mBK3_; have BK6 := mBK6_; have AKw := mAKw_; have AKx := mAKx_; clear m0_ mBK3_ mBK6_ mAKw_ mAKx_; have BK8 := Pst.A hbox; clear hb hbox hg)
  | ((with_reducible refine gate_ (.store 41 (.tmp 8) (.tmp 32)) rfl ?_); refine storeAll rfl 41 (.tmp 8) (.tmp 32) rfl g8 #[.int .i64 s1, .int .i64 s2, .int .i64 s3, .slice Ax3 s4.length cx3, .slice Ax4 s5.length cx4, .int .i64 s6, .int .i64 s7, .slice Ax7 s8.length cx7, .int .i64 s9, .int .i64 s10, .int .i64 s11, .int .i64 s12] rfl rfl 41 #[.int .i64 0, .int .i64 0, .int .i64 0, .slice none 0 0, .slice none 0 0, .int .i64 0, .int .i64 0, .slice none 0 0, .int .i64 0, .int .i64 0, .int .i64 0, .int .i64 0] ?hb (by kernel_rfl) rfl (by simp [oneInt, oneSlice]) ?_; (case hb => exact Pst.qb BK8.out); intro w8s hbs hgs; have m0_ := Pst.A (pw_below_grown Pst.bel (some g8) (below_size Pst.bel) hgs (fun k_ hk_ => by cases hk_; exact GEg8.out)); have mBK3_ := Pst.A (blk_grown (Pst.qb BK3.out) hgs (fun e_ => NEBK3g8.out (Option.some.inj e_))); have mBK6_ := Pst.A (blk_grown (Pst.qb BK6.out) hgs (fun e_ => NEBK6g8.out (Option.some.inj e_))); have mAKw_ := Pst.A (Kept.of_grown hgs (by exact AKw.out) (fun k_ e_ => .inr (by cases e_; exact GEg8AKw.out))); have mAKx_ := Pst.A (Kept.of_grown hgs (by exact AKx.out) (fun k_ e_ => .inr (by cases e_; exact GEg8AKx.out))); clear HB BK8 BK3 BK6 AKw AKx; have HB := m0_; have BK8 := Pst.A hbs; have BK3 := mBK3_; have BK6 := mBK6_; have AKw := mAKw_; have AKx := mAKx_; clear m0_ mBK3_ mBK6_ mAKw_ mAKx_ hbs hgs))
 have GX8 := Pst.A (show wx.heap.size ≤ w8s.heap.size from AKx.out.1)
 have GW8 := Pst.A (show ws.heap.size ≤ w8s.heap.size from AKw.out.1)
 go_upto_region 10 with (first
  | ((with_reducible refine gate_ (.load 41 (.tmp 8)) rfl ?_); (try (refine gate_guard (by rfl) ?_; dsimp only)); refine wpList_load_row rfl 41 (.tmp 8) rfl g8 rfl 41 _ _ _ (Pst.qb BK8.out) Tryz.underlying41 rfl (by kernel_rfl) ?_)
  | (go_at_call 7; refine (impl_ParseWorld.calls k a0 s1 s2 s3 Ax3 cx3 s4 Ax4 cx4 s5 s6 s7 Ax7 cx7 s8 s9 s10 s11 s12 t1 t2 t3 t4 t5 t6 t7 t8 t9 t10 t11 t12 t13 t14 t15 t16 t17 _ (Kd.R_reads' (Kd.R_kept HQx3.out (by exact AKx.out) (fun _ _ h_ => h_))).2.2 (Kd.R_reads' HQx3.out).2.1 (Kd.R_reads' (Kd.R_kept HQx4.out (by exact AKx.out) (fun _ _ h_ => h_))).2.2 (Kd.R_reads' HQx4.out).2.1 (Kd.R_reads' (Kd.R_kept HQx7.out (by exact AKx.out) (fun _ _ h_ => h_))).2.2 (Kd.R_reads' HQx7.out).2.1 AI.out (HT.out.on Pst.bel)).mono ?_; rintro e wg ⟨v3, v4, v7, v12, rfl, hr3, hr4, hr7, hr12, hb⟩; have HQg3 := Pst.A (Kd.R_lower hr3 (below_size Pst.bel)); have HQg4 := Pst.A (Kd.R_lower hr4 (below_size Pst.bel)); have HQg7 := Pst.A (Kd.R_lower hr7 (below_size Pst.bel)); have HQg12 := Pst.A (Kd.R_lower hr12 (below_size Pst.bel)); have LOg3 := Pst.A (Kd.R_base hr3); have LOg4 := Pst.A (Kd.R_base hr4); have LOg7 := Pst.A (Kd.R_base hr7); have LOg12 := Pst.A (Kd.R_base hr12); clear hr3 hr4 hr7 hr12; have m0_ := Pst.A (below_step Pst.bel hb); have mBK3_ := Pst.A (Pst.kb BK3.out hb); have mBK6_ := Pst.A (Pst.kb BK6.out hb); have mBK8_ := Pst.A (Pst.kb BK8.out hb); have mAKw_ := Pst.A (Kept.below (by exact AKw.out) hb); have mAKx_ := Pst.A (Kept.below (by exact AKx.out) hb); clear HB BK3 BK6 BK8 AKw AKx; have HB := m0_; have BK3 := mBK3_; have BK6 := mBK6_; have BK8 := mBK8_; have AKw := mAKw_; have AKx := mAKx_; clear m0_ mBK3_ mBK6_ mBK8_ mAKw_ mAKx_; clear hb; obtain ⟨Ag3, cg3, e3_⟩ := Kd.R_slice HQg3.out; subst e3_; obtain ⟨Ag4, cg4, e4_⟩ := Kd.R_slice HQg4.out; subst e4_; obtain ⟨Ag7, cg7, e7_⟩ := Kd.R_slice HQg7.out; subst e7_; obtain ⟨Ag12, cg12, e12_⟩ := Kd.R_slice HQg12.out; subst e12_; have AKg := Pst.A (Kept.refl wg (fun k_ => k_ < w8s.heap.size)))
  | ((with_reducible refine gate_dst (N := 9) rfl ?_); refine Pst.bx 9 #[.int .i64 0, .int .i64 0, .int .i64 0, .slice none 0 0, .slice none 0 0, .int .i64 0, .int .i64 0, .slice none 0 0, .int .i64 0, .int .i64 0, .int .i64 0, .int .i64 0, .slice none 0 0, .int .i64 0, .int .i64 0, .int .i64 0] 44 ?_; intro g9 hg wg9 hbox hb; have GEg9 := Pst.A (show w.heap.size ≤ g9 by rw [hg]; exact (below_size Pst.bel)); have GEg9AKw := Pst.A (show ws.heap.size ≤ g9 by rw [hg]; exact AKw.out.1); have GEg9AKx := Pst.A (show wx.heap.size ≤ g9 by rw [hg]; exact AKx.out.1); have GEg9AKg := Pst.A (show wg.heap.size ≤ g9 by rw [hg]; exact AKg.out.1); have NEBK3g9 := Pst.A (show ¬ g3 = g9 from fun e_ => absurd (show g3 < g9 by rw [hg]; exact blk_lt (Pst.qb BK3.out)) (by omega)); have NEBK6g9 := Pst.A (show ¬ g6 = g9 from fun e_ => absurd (show g6 < g9 by rw [hg]; exact blk_lt (Pst.qb BK6.out)) (by omega)); have NEBK8g9 := Pst.A (show ¬ g8 = g9 from fun e_ => absurd (show g8 < g9 by rw [hg]; exact blk_lt (Pst.qb BK8.out)) (by omega)); have m0_ := Pst.A (below_step Pst.bel hb); have mBK3_ := Pst.A (Pst.kb BK3.out hb); have mBK6_ := Pst.A (Pst.kb BK6.out hb); have mBK8_ := Pst.A (Pst.kb BK8.out hb); have mAKw_ := Pst.A (Kept.below (by exact AKw.out) hb); have mAKx_ := Pst.A (Kept.below (by exact AKx.out) hb); have mAKg_ := Pst.A (Kept.below (by exact AKg.out) hb); clear HB BK3 BK6 BK8 AKw AKx AKg; have HB := m0_; have BK3 := mBK3_; have BK6 := mBK6_; have BK8 := mBK8_; have AKw := mAKw_; have AKx := mAKx_; have AKg := mAKg_; clear m0_ mBK3_ mBK6_ mBK8_ mAKw_ mAKx_ mAKg_; have BK9 := Pst.A hbox; clear hb hbox hg)
  | ((with_reducible refine gate_ (.store 44 (.tmp 9) (.tmp 37)) rfl ?_); refine storeAll rfl 44 (.tmp 9) (.tmp 37) rfl g9 #[.int .i64 t1, .int .i64 t2, .int .i64 t3, .slice Ag3 t4.length cg3, .slice Ag4 t5.length cg4, .int .i64 t6, .int .i64 t7, .slice Ag7 t8.length cg7, .int .i64 t9, .int .i64 t10, .int .i64 t11, .int .i64 t12, .slice Ag12 t13.length cg12, .int .i64 t14, .int .i64 t15, .int .i64 t16] rfl rfl 44 #[.int .i64 0, .int .i64 0, .int .i64 0, .slice none 0 0, .slice none 0 0, .int .i64 0, .int .i64 0, .slice none 0 0, .int .i64 0, .int .i64 0, .int .i64 0, .int .i64 0, .slice none 0 0, .int .i64 0, .int .i64 0, .int .i64 0] ?hb (by kernel_rfl) rfl (by simp [oneInt, oneSlice]) ?_; (case hb => exact Pst.qb BK9.out); intro w9s hbs hgs; have m0_ := Pst.A (pw_below_grown Pst.bel (some g9) (below_size Pst.bel) hgs (fun k_ hk_ => by cases hk_; exact GEg9.out)); have mBK3_ := Pst.A (blk_grown (Pst.qb BK3.out) hgs (fun e_ => NEBK3g9.out (Option.some.inj e_))); have mBK6_ := Pst.A (blk_grown (Pst.qb BK6.out) hgs (fun e_ => NEBK6g9.out (Option.some.inj e_))); have mBK8_ := Pst.A (blk_grown (Pst.qb BK8.out) hgs (fun e_ => NEBK8g9.out (Option.some.inj e_))); have mAKw_ := Pst.A (Kept.of_grown hgs (by exact AKw.out) (fun k_ e_ => .inr (by cases e_; exact GEg9AKw.out))); have mAKx_ := Pst.A (Kept.of_grown hgs (by exact AKx.out) (fun k_ e_ => .inr (by cases e_; exact GEg9AKx.out))); have mAKg_ := Pst.A (Kept.of_grown hgs (by exact AKg.out) (fun k_ e_ => .inr (by cases e_; exact GEg9AKg.out))); clear HB BK9 BK3 BK6 BK8 AKw AKx AKg; have HB := m0_; have BK9 := Pst.A hbs; have BK3 := mBK3_; have BK6 := mBK6_; have BK8 := mBK8_; have AKw := mAKw_; have AKx := mAKx_; have AKg := mAKg_; clear m0_ mBK3_ mBK6_ mBK8_ mAKw_ mAKx_ mAKg_ hbs hgs))
 go_upto_region 12 with (first
  | ((with_reducible refine gate_ (.load 44 (.tmp 9)) rfl ?_); (try (refine gate_guard (by rfl) ?_; dsimp only)); refine wpList_load_row rfl 44 (.tmp 9) rfl g9 rfl 44 _ _ _ (Pst.qb BK9.out) Tryz.underlying44 rfl (by kernel_rfl) ?_)
  | ((with_reducible refine gate_ (.load 44 (.tmp 6)) rfl ?_); (try (refine gate_guard (by rfl) ?_; dsimp only)); refine wpList_load_row rfl 44 (.tmp 6) rfl g6 rfl 44 _ _ _ (Pst.qb BK6.out) Tryz.underlying44 rfl (by kernel_rfl) ?_)
  | (go_at_call 8; refine (laws_eqWorld.same t1 t2 t3 Ag3 Aw3 cg3 cw3 t4 Ag4 Aw4 cg4 cw4 t5 t6 t7 Ag7 Aw7 cg7 cw7 t8 t9 t10 t11 t12 Ag12 Aw12 cg12 cw12 t13 t14 t15 t16 _ (Nat.le_trans HSM.out.2.1 (by decide)) (Kd.R_reads' (Kd.R_kept (Kd.R_tight rfl HQg3.out) (by exact AKg.out) (fun k_ e_ h_ => absurd (LOg3.out k_ e_.symm) (Nat.not_le.2 h_)))).2.2 (Kd.R_reads' (Kd.R_kept HQw3.out (by exact AKw.out) (fun _ _ h_ => h_))).2.2 (Nat.le_trans HSM.out.2.2.1 (by decide)) (Kd.R_reads' (Kd.R_kept (Kd.R_tight rfl HQg4.out) (by exact AKg.out) (fun k_ e_ h_ => absurd (LOg4.out k_ e_.symm) (Nat.not_le.2 h_)))).2.2 (Kd.R_reads' (Kd.R_kept HQw4.out (by exact AKw.out) (fun _ _ h_ => h_))).2.2 (Nat.le_trans HSM.out.2.2.2.1 (by decide)) (Kd.R_reads' (Kd.R_kept (Kd.R_tight rfl HQg7.out) (by exact AKg.out) (fun k_ e_ h_ => absurd (LOg7.out k_ e_.symm) (Nat.not_le.2 h_)))).2.2 (Kd.R_reads' (Kd.R_kept HQw7.out (by exact AKw.out) (fun _ _ h_ => h_))).2.2 (Nat.le_trans HSM.out.2.2.2.2 (by decide)) (Kd.R_reads' (Kd.R_kept (Kd.R_tight rfl HQg12.out) (by exact AKg.out) (fun k_ e_ h_ => absurd (LOg12.out k_ e_.symm) (Nat.not_le.2 h_)))).2.2 (Kd.R_reads' (Kd.R_kept HQw12.out (by exact AKw.out) (fun _ _ h_ => h_))).2.2).mono ?_; rintro e we1 ⟨rfl, hb⟩; have m0_ := Pst.A (below_step Pst.bel hb); have mBK3_ := Pst.A (Pst.kb BK3.out hb); have mBK6_ := Pst.A (Pst.kb BK6.out hb); have mBK8_ := Pst.A (Pst.kb BK8.out hb); have mBK9_ := Pst.A (Pst.kb BK9.out hb); have mAKw_ := Pst.A (Kept.below (by exact AKw.out) hb); have mAKx_ := Pst.A (Kept.below (by exact AKx.out) hb); have mAKg_ := Pst.A (Kept.below (by exact AKg.out) hb); clear HB BK3 BK6 BK8 BK9 AKw AKx AKg; have HB := m0_; have BK3 := mBK3_; have BK6 := mBK6_; have BK8 := mBK8_; have BK9 := mBK9_; have AKw := mAKw_; have AKx := mAKx_; have AKg := mAKg_; clear m0_ mBK3_ mBK6_ mBK8_ mBK9_ mAKw_ mAKx_ mAKg_; clear hb))
 refine start_ (n := 5) (S := fun w' => True) (ds := []) #[false, false, false, false, false] (by kernel_rfl) rfl rfl trivial (fun hHeld => ?_)
 refine with_tabW laws_FnExactParseWorld.tab12 laws_FnExactParseWorld.bits12 (fun HT_ HW_ => ?_)
 have HB0 := HB
 clear HB
 have HB : Aside0 (Below we1.heap.size we1 we1.drew) := Pst.A (below_drew1 (Below.refl _ _))
 refine inv_at [0, 1, 2, 3, 4] (fun a0_ b a w' => ∃ (v3 : Value) (v4 : Value) (v7 : Value) (m2_ : Value), a = putSel a0_ b [(0, 48, .agg #[.int .i64 s1, .int .i64 s2, .int .i64 s3, .slice Ax3 s4.length cx3, .slice Ax4 s5.length cx4, .int .i64 s6, .int .i64 s7, .slice Ax7 s8.length cx7, .int .i64 s9, .int .i64 s10, .int .i64 s11, .int .i64 s12]), (1, 49, .agg #[.int .i64 za, .int .i64 zb, .int .i64 zc, .slice A3 zg.length c3, .slice A4 zp.length c4, .int .i64 zd, .int .i64 ze, .slice A7 zq.length c7, .int .i64 zm, .int .i64 zn, .int .i64 zi, .int .i64 zj]), (2, 50, m2_), (3, 51, .bool true), (4, 52, .bool false)] ∧ (Below we1.heap.size we1 w') ∧ (b 2 = true → Kd.R k82 82 w' we1.heap.size (fun _ => True) v3 s4) ∧ (b 2 = true → Kd.R k102 102 w' we1.heap.size (fun _ => True) v4 s5) ∧ (b 2 = true → Kd.R k102 102 w' we1.heap.size (fun _ => True) v7 s8) ∧ (b 2 = true → (m2_ : Value) = .agg #[.int .i64 s1, .int .i64 s2, .int .i64 s3, v3, v4, .int .i64 s6, .int .i64 s7, v7, .int .i64 s9, .int .i64 s10, .int .i64 s11, .int .i64 s12])) HT_.out HW_.out (by kernel_rfl) (by kernel_rfl) ?_ ?_ ?_
 ·exact ⟨.bool false, .bool false, .bool false, .bool false, by simp only [putSel, Bool.false_eq_true, if_false], HB.out, fun h_ => absurd h_ (by decide), fun h_ => absurd h_ (by decide), fun h_ => absurd h_ (by decide), fun h_ => absurd h_ (by decide)⟩
 ·skip
  clear HB
  refine steps_cons ?_ ?_
  ·rintro b a w' ⟨v3, v4, v7, m2_, ha, Q_HB, Q_HO3, Q_HO4, Q_HO7, Q_X2_⟩ hb_ hon hoff
   refine ⟨_, rfl, fun K hK => ?_⟩
   have e8 : a.tmps[8]? = some (.pointer (some ⟨g8, 0, none⟩)) := by rw [ha]; exact (putSel_off rfl).trans rfl
   replace ha := Pst.A ha
   have HB := Pst.A Q_HB
   refine value_ (w1 := w') (v := .agg #[.int .i64 s1, .int .i64 s2, .int .i64 s3, .slice Ax3 s4.length cx3, .slice Ax4 s5.length cx4, .int .i64 s6, .int .i64 s7, .slice Ax7 s8.length cx7, .int .i64 s9, .int .i64 s10, .int .i64 s11, .int .i64 s12]) (by rfl) rfl (loadAll 41 (.tmp 8) rfl g8 (by simp only [Act.eval, Array.getD_eq_getD_getElem?, e8, Option.getD_some]) 41 _ _ (blk_below BK8.out HB.out) Tryz.underlying41 rfl (by kernel_rfl)) ?_
   refine hK.out _ _ ⟨v3, v4, v7, m2_, (by rw [ha.out]; exact putSel_upk 0 hb_ rfl rfl rfl), HB.out, fun h0_ => (Q_HO3 h0_), fun h0_ => (Q_HO4 h0_), fun h0_ => (Q_HO7 h0_), Q_X2_⟩
  refine steps_cons ?_ ?_
  ·rintro b a w' ⟨v3, v4, v7, m2_, ha, Q_HB, Q_HO3, Q_HO4, Q_HO7, Q_X2_⟩ hb_ hon hoff
   refine ⟨_, rfl, fun K hK => ?_⟩
   have e3 : a.tmps[3]? = some (.pointer (some ⟨g3, 0, none⟩)) := by rw [ha]; exact (putSel_off rfl).trans rfl
   replace ha := Pst.A ha
   have HB := Pst.A Q_HB
   refine value_ (w1 := w') (v := .agg #[.int .i64 za, .int .i64 zb, .int .i64 zc, .slice A3 zg.length c3, .slice A4 zp.length c4, .int .i64 zd, .int .i64 ze, .slice A7 zq.length c7, .int .i64 zm, .int .i64 zn, .int .i64 zi, .int .i64 zj]) (by rfl) rfl (loadAll 31 (.tmp 3) rfl g3 (by simp only [Act.eval, Array.getD_eq_getD_getElem?, e3, Option.getD_some]) 31 _ _ (blk_below BK3.out HB.out) Tryz.underlying31 rfl (by kernel_rfl)) ?_
   refine hK.out _ _ ⟨v3, v4, v7, m2_, (by rw [ha.out]; exact putSel_upk 1 hb_ rfl rfl rfl), HB.out, fun h0_ => absurd ((hoff 2 (by kernel_rfl)).symm.trans h0_) (by decide), fun h0_ => absurd ((hoff 2 (by kernel_rfl)).symm.trans h0_) (by decide), fun h0_ => absurd ((hoff 2 (by kernel_rfl)).symm.trans h0_) (by decide), fun h0_ => absurd ((hoff 2 (by kernel_rfl)).symm.trans h0_) (by decide)⟩
  refine steps_cons ?_ ?_
  ·rintro b a w' ⟨v3, v4, v7, m2_, ha, Q_HB, Q_HO3, Q_HO4, Q_HO7, Q_X2_⟩ hb_ hon hoff
   refine ⟨_, rfl, fun K hK => ?_⟩
   have e49 : a.tmps[49]? = some (.agg #[.int .i64 za, .int .i64 zb, .int .i64 zc, .slice A3 zg.length c3, .slice A4 zp.length c4, .int .i64 zd, .int .i64 ze, .slice A7 zq.length c7, .int .i64 zm, .int .i64 zn, .int .i64 zi, .int .i64 zj]) := by rw [ha]; exact putSel_on (e := (1, 49, .agg #[.int .i64 za, .int .i64 zb, .int .i64 zc, .slice A3 zg.length c3, .slice A4 zp.length c4, .int .i64 zd, .int .i64 ze, .slice A7 zq.length c7, .int .i64 zm, .int .i64 zn, .int .i64 zi, .int .i64 zj])) 1 rfl rfl (hon 1 (by kernel_rfl)) rfl
   replace ha := Pst.A ha
   have HB := Pst.A Q_HB
   refine goes_ Tryz.func6 (by kernel_rfl) rfl #[.agg #[.int .i64 za, .int .i64 zb, .int .i64 zc, .slice A3 zg.length c3, .slice A4 zp.length c4, .int .i64 zd, .int .i64 ze, .slice A7 zq.length c7, .int .i64 zm, .int .i64 zn, .int .i64 zi, .int .i64 zj]] (by rfl) rfl rfl (by first | (simp only [List.map_toArray, List.map_cons, List.map_nil, Act.eval, Array.getD_eq_getD_getElem?, Option.getD_some, e49]; done) | (simp only [List.map_toArray, List.map_cons, List.map_nil, Act.eval, Array.getD_eq_getD_getElem?, Option.getD_some, e49]; rfl)) ?_
   refine (laws_toSetup.calls k za zb zc A3 c3 zg A4 c4 zp zd ze A7 c7 zq zm zn zi zj s1 s2 s3 s4 s5 s6 s7 s8 s9 s10 s11 s12 _ (Kd.C_below HR3.out (below_step HB0.out HB.out)) HC3.out (Kd.C_below HR4.out (below_step HB0.out HB.out)) HC4.out (Kd.C_below HR7.out (below_step HB0.out HB.out)) HC7.out AT.out).mono ?_
   rintro e w2 ⟨v3_, v4_, v7_, rfl, hr3, hr4, hr7, hb⟩
   refine ⟨_, rfl, ?_⟩
   refine hK.out _ _ ⟨v3_, v4_, v7_, (.agg #[.int .i64 s1, .int .i64 s2, .int .i64 s3, v3_, v4_, .int .i64 s6, .int .i64 s7, v7_, .int .i64 s9, .int .i64 s10, .int .i64 s11, .int .i64 s12]), (by rw [ha.out]; exact putSel_upk 2 hb_ rfl rfl rfl), below_step HB.out hb, fun _ => Kd.R_lower (Kd.R_mono hr3 (fun _ _ => trivial)) HB.out.size, fun _ => Kd.R_lower (Kd.R_mono hr4 (fun _ _ => trivial)) HB.out.size, fun _ => Kd.R_lower (Kd.R_mono hr7 (fun _ _ => trivial)) HB.out.size, fun _ => rfl⟩
  refine steps_cons ?_ ?_
  ·rintro b a w' ⟨v3, v4, v7, m2_, ha, Q_HB, Q_HO3, Q_HO4, Q_HO7, Q_X2_⟩ hb_ hon hoff
   refine ⟨_, rfl, fun K hK => ?_⟩
   have e48 : a.tmps[48]? = some (.agg #[.int .i64 s1, .int .i64 s2, .int .i64 s3, .slice Ax3 s4.length cx3, .slice Ax4 s5.length cx4, .int .i64 s6, .int .i64 s7, .slice Ax7 s8.length cx7, .int .i64 s9, .int .i64 s10, .int .i64 s11, .int .i64 s12]) := by rw [ha]; exact putSel_on (e := (0, 48, .agg #[.int .i64 s1, .int .i64 s2, .int .i64 s3, .slice Ax3 s4.length cx3, .slice Ax4 s5.length cx4, .int .i64 s6, .int .i64 s7, .slice Ax7 s8.length cx7, .int .i64 s9, .int .i64 s10, .int .i64 s11, .int .i64 s12])) 0 rfl rfl (hon 0 (by kernel_rfl)) rfl
   have e50 : a.tmps[50]? = some (m2_) := by rw [ha]; exact putSel_on (e := (2, 50, m2_)) 2 rfl rfl (hon 2 (by kernel_rfl)) rfl
   rw [Q_X2_ (hon 2 (by kernel_rfl))] at e50
   replace ha := Pst.A ha
   have HB := Pst.A Q_HB
   have HO3 := Pst.A (Q_HO3 (hon 2 (by kernel_rfl)))
   have HO4 := Pst.A (Q_HO4 (hon 2 (by kernel_rfl)))
   have HO7 := Pst.A (Q_HO7 (hon 2 (by kernel_rfl)))
   obtain ⟨Ay3, cy3, ey3_⟩ := Kd.R_slice HO3.out
   obtain ⟨Ay4, cy4, ey4_⟩ := Kd.R_slice HO4.out
   obtain ⟨Ay7, cy7, ey7_⟩ := Kd.R_slice HO7.out
   subst ey3_ ey4_ ey7_
   refine goes_ Tryz.func9 (by kernel_rfl) rfl #[.agg #[.int .i64 s1, .int .i64 s2, .int .i64 s3, .slice Ax3 s4.length cx3, .slice Ax4 s5.length cx4, .int .i64 s6, .int .i64 s7, .slice Ax7 s8.length cx7, .int .i64 s9, .int .i64 s10, .int .i64 s11, .int .i64 s12], .agg #[.int .i64 s1, .int .i64 s2, .int .i64 s3, .slice Ay3 s4.length cy3, .slice Ay4 s5.length cy4, .int .i64 s6, .int .i64 s7, .slice Ay7 s8.length cy7, .int .i64 s9, .int .i64 s10, .int .i64 s11, .int .i64 s12]] (by rfl) rfl rfl (by first | (simp only [List.map_toArray, List.map_cons, List.map_nil, Act.eval, Array.getD_eq_getD_getElem?, Option.getD_some, e48, e50]; done) | (simp only [List.map_toArray, List.map_cons, List.map_nil, Act.eval, Array.getD_eq_getD_getElem?, Option.getD_some, e48, e50]; rfl)) ?_
   refine (laws_eqSetup.same s1 s2 s3 Ax3 Ay3 cx3 cy3 s4 Ax4 Ay4 cx4 cy4 s5 s6 s7 Ax7 Ay7 cx7 cy7 s8 s9 s10 s11 s12 _ (Nat.le_trans HSM.out.1.1 (by decide)) (Kd.R_reads' (Kd.R_below (Kd.R_kept HQx3.out (by exact AKx.out) (fun _ _ h_ => h_)) HB.out)).2.2 (Kd.R_reads' HO3.out).2.2 (Nat.le_trans HSM.out.1.2.1 (by decide)) (Kd.R_reads' (Kd.R_below (Kd.R_kept HQx4.out (by exact AKx.out) (fun _ _ h_ => h_)) HB.out)).2.2 (Kd.R_reads' HO4.out).2.2 (Nat.le_trans HSM.out.1.2.2 (by decide)) (Kd.R_reads' (Kd.R_below (Kd.R_kept HQx7.out (by exact AKx.out) (fun _ _ h_ => h_)) HB.out)).2.2 (Kd.R_reads' HO7.out).2.2).mono ?_
   rintro e w2 ⟨rfl, hb⟩
   refine ⟨_, rfl, ?_⟩
   refine hK.out _ _ ⟨(.slice Ay3 s4.length cy3), (.slice Ay4 s5.length cy4), (.slice Ay7 s8.length cy7), m2_, (by rw [ha.out]; exact putSel_upk 3 hb_ rfl rfl rfl), below_step HB.out hb, fun _ => Kd.R_below HO3.out hb, fun _ => Kd.R_below HO4.out hb, fun _ => Kd.R_below HO7.out hb, Q_X2_⟩
  refine steps_cons ?_ ?_
  ·rintro b a w' ⟨v3, v4, v7, m2_, ha, Q_HB, Q_HO3, Q_HO4, Q_HO7, Q_X2_⟩ hb_ hon hoff
   refine ⟨_, rfl, fun K hK => ?_⟩
   have e51 : a.tmps[51]? = some (.bool true) := by rw [ha]; exact putSel_on (e := (3, 51, .bool true)) 3 rfl rfl (hon 3 (by kernel_rfl)) rfl
   replace ha := Pst.A ha
   have HB := Pst.A Q_HB
   have HO3 := Pst.A (Q_HO3 (hon 2 (by kernel_rfl)))
   have HO4 := Pst.A (Q_HO4 (hon 2 (by kernel_rfl)))
   have HO7 := Pst.A (Q_HO7 (hon 2 (by kernel_rfl)))
   refine value_ (w1 := w') (v := .bool false) (by rfl) rfl ?_ ?_
   ·go_simp
    (try simp only [i64_w])
    try rfl
   refine hK.out _ _ ⟨v3, v4, v7, m2_, (by rw [ha.out]; exact putSel_upk 4 hb_ rfl rfl rfl), HB.out, fun _ => HO3.out, fun _ => HO4.out, fun _ => HO7.out, Q_X2_⟩
  exact steps_nil
 rintro b a wf hall ⟨v3, v4, v7, m2_, ha, Q_HB, Q_HO3, Q_HO4, Q_HO7, Q_X2_⟩
 clear HB
 have hb0_ := hall 0 (by kernel_rfl)
 have hb1_ := hall 1 (by kernel_rfl)
 have hb2_ := hall 2 (by kernel_rfl)
 have hb3_ := hall 3 (by kernel_rfl)
 have hb4_ := hall 4 (by kernel_rfl)
 subst ha
 obtain rfl := Q_X2_ hb2_
 simp only [putSel, hb0_, hb1_, hb2_, hb3_, hb4_, if_true, Act.put, List.setIfInBounds_toArray, List.set_cons_zero, List.set_cons_succ]
 have HB := Pst.A Q_HB
 clear Q_HB
 have HO3 := Pst.A (Q_HO3 hb2_)
 clear Q_HO3
 have HO4 := Pst.A (Q_HO4 hb2_)
 clear Q_HO4
 have HO7 := Pst.A (Q_HO7 hb2_)
 clear Q_HO7 hall hb0_ hb1_ hb2_ hb3_ hb4_
 have HBf := HB
 clear HB
 have HB := Pst.A (below_step HB0.out HBf.out)
 replace BK3 := Pst.A (blk_below BK3.out HBf.out)
 replace BK6 := Pst.A (blk_below BK6.out HBf.out)
 replace BK8 := Pst.A (blk_below BK8.out HBf.out)
 replace BK9 := Pst.A (blk_below BK9.out HBf.out)
 replace AKw := Pst.A (AKw.out.below HBf.out)
 replace AKx := Pst.A (AKx.out.below HBf.out)
 replace AKg := Pst.A (AKg.out.below HBf.out)
 clear HBf HB0 HO3 HO4 HO7 HT_ HW_ hHeld
 have HM3 := Pst.A (Kd.R_tight rfl (Kd.R_kept HQx3.out AKx.out (fun _ _ h_ => h_)))
 have HM4 := Pst.A (Kd.R_tight rfl (Kd.R_kept HQx4.out AKx.out (fun _ _ h_ => h_)))
 have HM7 := Pst.A (Kd.R_tight rfl (Kd.R_kept HQx7.out AKx.out (fun _ _ h_ => h_)))
 have SX := Pst.A (show ∀ k_ : Nat, (some k_ = (.slice Ax3 s4.length cx3 : Value).ownBlock ∨ some k_ = (.slice Ax4 s5.length cx4 : Value).ownBlock ∨ some k_ = (.slice Ax7 s8.length cx7 : Value).ownBlock) → ws.heap.size ≤ k_ ∧ k_ < w8s.heap.size from fun k_ h_ => by
  rcases h_ with h_ | h_ | h_
  ·exact ⟨LOx3.out k_ h_.symm, Nat.lt_of_lt_of_le (Kd.R_lt HQx3.out k_ h_.symm) GX8.out⟩
  ·exact ⟨LOx4.out k_ h_.symm, Nat.lt_of_lt_of_le (Kd.R_lt HQx4.out k_ h_.symm) GX8.out⟩
  exact ⟨LOx7.out k_ h_.symm, Nat.lt_of_lt_of_le (Kd.R_lt HQx7.out k_ h_.symm) GX8.out⟩)
 have NMg3 := Pst.A (show ¬ (some g3 = (.slice Ax3 s4.length cx3 : Value).ownBlock ∨ some g3 = (.slice Ax4 s5.length cx4 : Value).ownBlock ∨ some g3 = (.slice Ax7 s8.length cx7 : Value).ownBlock) from fun h_ => h_.elim (notOwn HM3.out BK3.out (by decide)) (fun h_ => h_.elim (notOwn HM4.out BK3.out (by decide)) (notOwn HM7.out BK3.out (by decide))))
 have NMg6 := Pst.A (show ¬ (some g6 = (.slice Ax3 s4.length cx3 : Value).ownBlock ∨ some g6 = (.slice Ax4 s5.length cx4 : Value).ownBlock ∨ some g6 = (.slice Ax7 s8.length cx7 : Value).ownBlock) from fun h_ => h_.elim (notOwn HM3.out BK6.out (by decide)) (fun h_ => h_.elim (notOwn HM4.out BK6.out (by decide)) (notOwn HM7.out BK6.out (by decide))))
 have NMg8 := Pst.A (show ¬ (some g8 = (.slice Ax3 s4.length cx3 : Value).ownBlock ∨ some g8 = (.slice Ax4 s5.length cx4 : Value).ownBlock ∨ some g8 = (.slice Ax7 s8.length cx7 : Value).ownBlock) from fun h_ => h_.elim (notOwn HM3.out BK8.out (by decide)) (fun h_ => h_.elim (notOwn HM4.out BK8.out (by decide)) (notOwn HM7.out BK8.out (by decide))))
 have NMg9 := Pst.A (show ¬ (some g9 = (.slice Ax3 s4.length cx3 : Value).ownBlock ∨ some g9 = (.slice Ax4 s5.length cx4 : Value).ownBlock ∨ some g9 = (.slice Ax7 s8.length cx7 : Value).ownBlock) from fun h_ => h_.elim (notOwn HM3.out BK9.out (by decide)) (fun h_ => h_.elim (notOwn HM4.out BK9.out (by decide)) (notOwn HM7.out BK9.out (by decide))))
 go_upto_region 16 with (first
  | ((with_reducible refine gate_ (.load 41 (.tmp 8)) rfl ?_); (try (refine gate_guard (by rfl) ?_; dsimp only)); refine wpList_load_row rfl 41 (.tmp 8) rfl g8 rfl 41 _ _ _ (Pst.qb BK8.out) Tryz.underlying41 rfl (by kernel_rfl) ?_)
  | (go_at_call 10; refine (laws_markSetup.calls k s1 s2 s3 (fun k_ => some k_ = (.slice Ax3 s4.length cx3 : Value).ownBlock) (.slice Ax3 s4.length cx3 : Value) s4 (fun k_ => some k_ = (.slice Ax4 s5.length cx4 : Value).ownBlock) (.slice Ax4 s5.length cx4 : Value) s5 s6 s7 (fun k_ => some k_ = (.slice Ax7 s8.length cx7 : Value).ownBlock) (.slice Ax7 s8.length cx7 : Value) s8 s9 s10 s11 s12 1 x1 x2 x3 x4 w _ (by exact Pst.bel) HM3.out HM4.out (fun k_ h4_ h7_ => HQx4.out.1 k_ h4_.symm h7_) HM7.out (fun k_ h7_ h4_ => HQx7.out.1 k_ h7_.symm h4_) AX.out).mono ?_; rintro e wm ⟨rfl, -, -, -, hb, hk⟩; have m0_ := Pst.A hb; have mBK3_ := Pst.A (blk_kept BK3.out hk NMg3.out); have mBK6_ := Pst.A (blk_kept BK6.out hk NMg6.out); have mBK8_ := Pst.A (blk_kept BK8.out hk NMg8.out); have mBK9_ := Pst.A (blk_kept BK9.out hk NMg9.out); have mAKw_ := Pst.A (AKw.out.then_ hk (fun k_ h_ => .inr (SX.out k_ h_).1)); have mAKg_ := Pst.A (AKg.out.then_ hk (fun k_ h_ => .inl (SX.out k_ h_).2)); clear HB BK3 BK6 BK8 BK9 AKw AKg; have HB := m0_; have BK3 := mBK3_; have BK6 := mBK6_; have BK8 := mBK8_; have BK9 := mBK9_; have AKw := mAKw_; have AKg := mAKg_; clear m0_ mBK3_ mBK6_ mBK8_ mBK9_ mAKw_ mAKg_ hk hb))
 clear AKx HM3 HM4 HM7 SX NMg3 NMg6 NMg8 NMg9
 go_upto_region 19 with (first
  | ((with_reducible refine gate_ (.load 44 (.tmp 9)) rfl ?_); (try (refine gate_guard (by rfl) ?_; dsimp only)); refine wpList_load_row rfl 44 (.tmp 9) rfl g9 rfl 44 _ _ _ (Pst.qb BK9.out) Tryz.underlying44 rfl (by kernel_rfl) ?_)
  | ((with_reducible refine gate_ (.load 44 (.tmp 6)) rfl ?_); (try (refine gate_guard (by rfl) ?_; dsimp only)); refine wpList_load_row rfl 44 (.tmp 6) rfl g6 rfl 44 _ _ _ (Pst.qb BK6.out) Tryz.underlying44 rfl (by kernel_rfl) ?_)
  | (go_at_call 8; refine (laws_eqWorld.same t1 t2 t3 Ag3 Aw3 cg3 cw3 t4 Ag4 Aw4 cg4 cw4 t5 t6 t7 Ag7 Aw7 cg7 cw7 t8 t9 t10 t11 t12 Ag12 Aw12 cg12 cw12 t13 t14 t15 t16 _ (Nat.le_trans HSM.out.2.1 (by decide)) (Kd.R_reads' (Kd.R_kept (Kd.R_tight rfl HQg3.out) (by exact AKg.out) (fun k_ e_ h_ => absurd (LOg3.out k_ e_.symm) (Nat.not_le.2 h_)))).2.2 (Kd.R_reads' (Kd.R_kept HQw3.out (by exact AKw.out) (fun _ _ h_ => h_))).2.2 (Nat.le_trans HSM.out.2.2.1 (by decide)) (Kd.R_reads' (Kd.R_kept (Kd.R_tight rfl HQg4.out) (by exact AKg.out) (fun k_ e_ h_ => absurd (LOg4.out k_ e_.symm) (Nat.not_le.2 h_)))).2.2 (Kd.R_reads' (Kd.R_kept HQw4.out (by exact AKw.out) (fun _ _ h_ => h_))).2.2 (Nat.le_trans HSM.out.2.2.2.1 (by decide)) (Kd.R_reads' (Kd.R_kept (Kd.R_tight rfl HQg7.out) (by exact AKg.out) (fun k_ e_ h_ => absurd (LOg7.out k_ e_.symm) (Nat.not_le.2 h_)))).2.2 (Kd.R_reads' (Kd.R_kept HQw7.out (by exact AKw.out) (fun _ _ h_ => h_))).2.2 (Nat.le_trans HSM.out.2.2.2.2 (by decide)) (Kd.R_reads' (Kd.R_kept (Kd.R_tight rfl HQg12.out) (by exact AKg.out) (fun k_ e_ h_ => absurd (LOg12.out k_ e_.symm) (Nat.not_le.2 h_)))).2.2 (Kd.R_reads' (Kd.R_kept HQw12.out (by exact AKw.out) (fun _ _ h_ => h_))).2.2).mono ?_; rintro e we2 ⟨rfl, hb⟩; have m0_ := Pst.A (below_step Pst.bel hb); have mBK3_ := Pst.A (Pst.kb BK3.out hb); have mBK6_ := Pst.A (Pst.kb BK6.out hb); have mBK8_ := Pst.A (Pst.kb BK8.out hb); have mBK9_ := Pst.A (Pst.kb BK9.out hb); have mAKw_ := Pst.A (Kept.below (by exact AKw.out) hb); have mAKg_ := Pst.A (Kept.below (by exact AKg.out) hb); clear HB BK3 BK6 BK8 BK9 AKw AKg; have HB := m0_; have BK3 := mBK3_; have BK6 := mBK6_; have BK8 := mBK8_; have BK9 := mBK9_; have AKw := mAKw_; have AKg := mAKg_; clear m0_ mBK3_ mBK6_ mBK8_ mBK9_ mAKw_ mAKg_; clear hb))
 have HN3 := Pst.A (Kd.R_tight rfl (Kd.R_kept (Kd.R_tight rfl HQg3.out) AKg.out (fun k_ e_ h_ => absurd (LOg3.out k_ e_.symm) (Nat.not_le.2 h_))))
 have HN4 := Pst.A (Kd.R_tight rfl (Kd.R_kept (Kd.R_tight rfl HQg4.out) AKg.out (fun k_ e_ h_ => absurd (LOg4.out k_ e_.symm) (Nat.not_le.2 h_))))
 have HN7 := Pst.A (Kd.R_tight rfl (Kd.R_kept (Kd.R_tight rfl HQg7.out) AKg.out (fun k_ e_ h_ => absurd (LOg7.out k_ e_.symm) (Nat.not_le.2 h_))))
 have HN12 := Pst.A (Kd.R_tight rfl (Kd.R_kept (Kd.R_tight rfl HQg12.out) AKg.out (fun k_ e_ h_ => absurd (LOg12.out k_ e_.symm) (Nat.not_le.2 h_))))
 have SY := Pst.A (show ∀ k_ : Nat, (some k_ = (.slice Ag3 t4.length cg3 : Value).ownBlock ∨ some k_ = (.slice Ag4 t5.length cg4 : Value).ownBlock ∨ some k_ = (.slice Ag7 t8.length cg7 : Value).ownBlock ∨ some k_ = (.slice Ag12 t13.length cg12 : Value).ownBlock) → ws.heap.size ≤ k_ from fun k_ h_ => by
  rcases h_ with h_ | h_ | h_ | h_
  ·exact Nat.le_trans GW8.out (LOg3.out k_ h_.symm)
  ·exact Nat.le_trans GW8.out (LOg4.out k_ h_.symm)
  ·exact Nat.le_trans GW8.out (LOg7.out k_ h_.symm)
  exact Nat.le_trans GW8.out (LOg12.out k_ h_.symm))
 have NMg3 := Pst.A (show ¬ (some g3 = (.slice Ag3 t4.length cg3 : Value).ownBlock ∨ some g3 = (.slice Ag4 t5.length cg4 : Value).ownBlock ∨ some g3 = (.slice Ag7 t8.length cg7 : Value).ownBlock ∨ some g3 = (.slice Ag12 t13.length cg12 : Value).ownBlock) from fun h_ => h_.elim (notOwn HN3.out BK3.out (by decide)) (fun h_ => h_.elim (notOwn HN4.out BK3.out (by decide)) (fun h_ => h_.elim (notOwn HN7.out BK3.out (by decide)) (notOwn HN12.out BK3.out (by decide)))))
 have NMg6 := Pst.A (show ¬ (some g6 = (.slice Ag3 t4.length cg3 : Value).ownBlock ∨ some g6 = (.slice Ag4 t5.length cg4 : Value).ownBlock ∨ some g6 = (.slice Ag7 t8.length cg7 : Value).ownBlock ∨ some g6 = (.slice Ag12 t13.length cg12 : Value).ownBlock) from fun h_ => h_.elim (notOwn HN3.out BK6.out (by decide)) (fun h_ => h_.elim (notOwn HN4.out BK6.out (by decide)) (fun h_ => h_.elim (notOwn HN7.out BK6.out (by decide)) (notOwn HN12.out BK6.out (by decide)))))
 have NMg8 := Pst.A (show ¬ (some g8 = (.slice Ag3 t4.length cg3 : Value).ownBlock ∨ some g8 = (.slice Ag4 t5.length cg4 : Value).ownBlock ∨ some g8 = (.slice Ag7 t8.length cg7 : Value).ownBlock ∨ some g8 = (.slice Ag12 t13.length cg12 : Value).ownBlock) from fun h_ => h_.elim (notOwn HN3.out BK8.out (by decide)) (fun h_ => h_.elim (notOwn HN4.out BK8.out (by decide)) (fun h_ => h_.elim (notOwn HN7.out BK8.out (by decide)) (notOwn HN12.out BK8.out (by decide)))))
 have NMg9 := Pst.A (show ¬ (some g9 = (.slice Ag3 t4.length cg3 : Value).ownBlock ∨ some g9 = (.slice Ag4 t5.length cg4 : Value).ownBlock ∨ some g9 = (.slice Ag7 t8.length cg7 : Value).ownBlock ∨ some g9 = (.slice Ag12 t13.length cg12 : Value).ownBlock) from fun h_ => h_.elim (notOwn HN3.out BK9.out (by decide)) (fun h_ => h_.elim (notOwn HN4.out BK9.out (by decide)) (fun h_ => h_.elim (notOwn HN7.out BK9.out (by decide)) (notOwn HN12.out BK9.out (by decide)))))
 go_upto_region 21 with (first
  | ((with_reducible refine gate_ (.load 44 (.tmp 9)) rfl ?_); (try (refine gate_guard (by rfl) ?_; dsimp only)); refine wpList_load_row rfl 44 (.tmp 9) rfl g9 rfl 44 _ _ _ (Pst.qb BK9.out) Tryz.underlying44 rfl (by kernel_rfl) ?_)
  | (go_at_call 11; refine (laws_markWorld.calls k t1 t2 t3 (fun k_ => some k_ = (.slice Ag3 t4.length cg3 : Value).ownBlock) (.slice Ag3 t4.length cg3 : Value) t4 (fun k_ => some k_ = (.slice Ag4 t5.length cg4 : Value).ownBlock) (.slice Ag4 t5.length cg4 : Value) t5 t6 t7 (fun k_ => some k_ = (.slice Ag7 t8.length cg7 : Value).ownBlock) (.slice Ag7 t8.length cg7 : Value) t8 t9 t10 t11 t12 (fun k_ => some k_ = (.slice Ag12 t13.length cg12 : Value).ownBlock) (.slice Ag12 t13.length cg12 : Value) t13 t14 t15 t16 1 z y4 y5 y8 y13 w _ (by exact Pst.bel) HN3.out HN4.out (fun k_ h4_ h7_ => HQg4.out.1 k_ h4_.symm h7_) HN7.out (fun k_ h7_ h4_ => HQg7.out.1 k_ h7_.symm h4_) HN12.out AY.out).mono ?_; rintro e wn ⟨rfl, hr3, hr4, hr7, hr12, hb, hk⟩; have m0_ := Pst.A hb; have mBK3_ := Pst.A (blk_kept BK3.out hk NMg3.out); have mBK6_ := Pst.A (blk_kept BK6.out hk NMg6.out); have mBK8_ := Pst.A (blk_kept BK8.out hk NMg8.out); have mBK9_ := Pst.A (blk_kept BK9.out hk NMg9.out); have mAKw_ := Pst.A (AKw.out.then_ hk (fun k_ h_ => .inr (SY.out k_ h_))); clear HB BK3 BK6 BK8 BK9 AKw; have HB := m0_; have BK3 := mBK3_; have BK6 := mBK6_; have BK8 := mBK8_; have BK9 := mBK9_; have AKw := mAKw_; clear m0_ mBK3_ mBK6_ mBK8_ mBK9_ mAKw_ hk hb; have L3 := (Kd.R_reads' hr3).1; have L4 := (Kd.R_reads' hr4).1; have L7 := (Kd.R_reads' hr7).1; have L12 := (Kd.R_reads' hr12).1; have BKy := Pst.A (show wn.heap[g9]? = some (.cells #[.int .i64 t1, .int .i64 t2, .int .i64 t3, .slice Ag3 y4.length cg3, .slice Ag4 y5.length cg4, .int .i64 t6, .int .i64 t7, .slice Ag7 y8.length cg7, .int .i64 t9, .int .i64 t10, .int .i64 t11, .int .i64 t12, .slice Ag12 y13.length cg12, .int .i64 t14, .int .i64 t15, .int .i64 t16] 44 (0, 0)) from by rw [← L3, ← L4, ← L7, ← L12]; exact BK9.out); rw [L3] at hr3; rw [L4] at hr4; rw [L7] at hr7; rw [L12] at hr12; clear BK9; have BK9 := BKy; clear BKy L3 L4 L7 L12; have HY3 := Pst.A hr3; have HY4 := Pst.A hr4; have HY7 := Pst.A hr7; have HY12 := Pst.A hr12; clear hr3 hr4 hr7 hr12; have AKy := Pst.A (Kept.refl wn (fun _ => False))))
 clear AKg HN3 HN4 HN7 HN12 SY NMg3 NMg6 NMg8 NMg9
 go_upto_region 26 with (first
  | ((with_reducible refine gate_ (.load 44 (.tmp 9)) rfl ?_); (try (refine gate_guard (by rfl) ?_; dsimp only)); refine wpList_load_row rfl 44 (.tmp 9) rfl g9 rfl 44 _ _ _ (Pst.qb BK9.out) Tryz.underlying44 rfl (by kernel_rfl) ?_)
  | (go_at_call 12; refine (laws_heldWorld.calls k t1 t2 t3 Ag3 cg3 y4 Ag4 cg4 y5 t6 t7 Ag7 cg7 y8 t9 t10 t11 t12 Ag12 cg12 y13 t14 t15 t16 1 z _ (Kd.R_reads' (Kd.R_kept HY3.out (by exact AKy.out) (fun _ _ h_ => h_))).2.2 (Kd.R_reads' HY3.out).2.1 (Kd.R_reads' (Kd.R_kept HY4.out (by exact AKy.out) (fun _ _ h_ => h_))).2.2 (Kd.R_reads' HY4.out).2.1 (Kd.R_reads' (Kd.R_kept HY7.out (by exact AKy.out) (fun _ _ h_ => h_))).2.2 (Kd.R_reads' HY7.out).2.1 (Kd.R_reads' (Kd.R_kept HY12.out (by exact AKy.out) (fun _ _ h_ => h_))).2.2 (Kd.R_reads' HY12.out).2.1 AH.out).mono ?_; rintro e wh1 ⟨rfl, hb⟩; have m0_ := Pst.A (below_step Pst.bel hb); have mBK3_ := Pst.A (Pst.kb BK3.out hb); have mBK6_ := Pst.A (Pst.kb BK6.out hb); have mBK8_ := Pst.A (Pst.kb BK8.out hb); have mBK9_ := Pst.A (Pst.kb BK9.out hb); have mAKw_ := Pst.A (Kept.below (by exact AKw.out) hb); have mAKy_ := Pst.A (Kept.below (by exact AKy.out) hb); clear HB BK3 BK6 BK8 BK9 AKw AKy; have HB := m0_; have BK3 := mBK3_; have BK6 := mBK6_; have BK8 := mBK8_; have BK9 := mBK9_; have AKw := mAKw_; have AKy := mAKy_; clear m0_ mBK3_ mBK6_ mBK8_ mBK9_ mAKw_ mAKy_; clear hb))
 go_upto_region 27 with (first
  | ((with_reducible refine gate_ (.load 31 (.tmp 3)) rfl ?_); (try (refine gate_guard (by rfl) ?_; dsimp only)); refine wpList_load_row rfl 31 (.tmp 3) rfl g3 rfl 31 _ _ _ (Pst.qb BK3.out) Tryz.underlying31 rfl (by kernel_rfl) ?_)
  | (go_at_call 6; refine (laws_toSetup.calls k za zb zc A3 c3 zg A4 c4 zp zd ze A7 c7 zq zm zn zi zj s1 s2 s3 s4 s5 s6 s7 s8 s9 s10 s11 s12 _ (Kd.C_below HR3.out Pst.bel) HC3.out (Kd.C_below HR4.out Pst.bel) HC4.out (Kd.C_below HR7.out Pst.bel) HC7.out AT.out).mono ?_; rintro e wv ⟨v3, v4, v7, rfl, hr3, hr4, hr7, hb⟩; skip; have HQv3 := Pst.A (Kd.R_lower hr3 (below_size Pst.bel)); have HQv4 := Pst.A (Kd.R_lower hr4 (below_size Pst.bel)); have HQv7 := Pst.A (Kd.R_lower hr7 (below_size Pst.bel)); clear hr3 hr4 hr7; have m0_ := Pst.A (below_step Pst.bel hb); have mBK3_ := Pst.A (Pst.kb BK3.out hb); have mBK6_ := Pst.A (Pst.kb BK6.out hb); have mBK8_ := Pst.A (Pst.kb BK8.out hb); have mBK9_ := Pst.A (Pst.kb BK9.out hb); have mAKw_ := Pst.A (Kept.below (by exact AKw.out) hb); have mAKy_ := Pst.A (Kept.below (by exact AKy.out) hb); clear HB BK3 BK6 BK8 BK9 AKw AKy; have HB := m0_; have BK3 := mBK3_; have BK6 := mBK6_; have BK8 := mBK8_; have BK9 := mBK9_; have AKw := mAKw_; have AKy := mAKy_; clear m0_ mBK3_ mBK6_ mBK8_ mBK9_ mAKw_ mAKy_; clear hb; obtain ⟨Av3, cv3, e3_⟩ := Kd.R_slice HQv3.out; subst e3_; obtain ⟨Av4, cv4, e4_⟩ := Kd.R_slice HQv4.out; subst e4_; obtain ⟨Av7, cv7, e7_⟩ := Kd.R_slice HQv7.out; subst e7_)
  | (go_at_call 7; refine (impl_ParseWorld.calls k a0 s1 s2 s3 Av3 cv3 s4 Av4 cv4 s5 s6 s7 Av7 cv7 s8 s9 s10 s11 s12 t1 t2 t3 t4 t5 t6 t7 t8 t9 t10 t11 t12 t13 t14 t15 t16 t17 _ (Kd.R_reads' (Pst.qr HQv3.out)).2.2 (Kd.R_reads' HQv3.out).2.1 (Kd.R_reads' (Pst.qr HQv4.out)).2.2 (Kd.R_reads' HQv4.out).2.1 (Kd.R_reads' (Pst.qr HQv7.out)).2.2 (Kd.R_reads' HQv7.out).2.1 AI.out (HT.out.on Pst.bel)).mono ?_; rintro e whh ⟨v3, v4, v7, v12, rfl, hr3, hr4, hr7, hr12, hb⟩; have HQh3 := Pst.A (Kd.R_lower hr3 (below_size Pst.bel)); have HQh4 := Pst.A (Kd.R_lower hr4 (below_size Pst.bel)); have HQh7 := Pst.A (Kd.R_lower hr7 (below_size Pst.bel)); have HQh12 := Pst.A (Kd.R_lower hr12 (below_size Pst.bel)); clear hr3 hr4 hr7 hr12; have m0_ := Pst.A (below_step Pst.bel hb); have mBK3_ := Pst.A (Pst.kb BK3.out hb); have mBK6_ := Pst.A (Pst.kb BK6.out hb); have mBK8_ := Pst.A (Pst.kb BK8.out hb); have mBK9_ := Pst.A (Pst.kb BK9.out hb); have mAKw_ := Pst.A (Kept.below (by exact AKw.out) hb); have mAKy_ := Pst.A (Kept.below (by exact AKy.out) hb); clear HB BK3 BK6 BK8 BK9 AKw AKy; have HB := m0_; have BK3 := mBK3_; have BK6 := mBK6_; have BK8 := mBK8_; have BK9 := mBK9_; have AKw := mAKw_; have AKy := mAKy_; clear m0_ mBK3_ mBK6_ mBK8_ mBK9_ mAKw_ mAKy_; clear hb; obtain ⟨Ah3, ch3, e3_⟩ := Kd.R_slice HQh3.out; subst e3_; obtain ⟨Ah4, ch4, e4_⟩ := Kd.R_slice HQh4.out; subst e4_; obtain ⟨Ah7, ch7, e7_⟩ := Kd.R_slice HQh7.out; subst e7_; obtain ⟨Ah12, ch12, e12_⟩ := Kd.R_slice HQh12.out; subst e12_; have AKh := Pst.A (Kept.refl whh (fun _ => False)))
  | ((with_reducible refine gate_dst (N := 14) rfl ?_); refine Pst.bx 14 #[.int .i64 0, .int .i64 0, .int .i64 0, .slice none 0 0, .slice none 0 0, .int .i64 0, .int .i64 0, .slice none 0 0, .int .i64 0, .int .i64 0, .int .i64 0, .int .i64 0, .slice none 0 0, .int .i64 0, .int .i64 0, .int .i64 0] 44 ?_; intro g14 hg wg14 hbox hb; have GEg14 := Pst.A (show w.heap.size ≤ g14 by rw [hg]; exact (below_size Pst.bel)); have GEg14AKw := Pst.A (show ws.heap.size ≤ g14 by rw [hg]; exact AKw.out.1); have GEg14AKy := Pst.A (show wn.heap.size ≤ g14 by rw [hg]; exact AKy.out.1); have GEg14AKh := Pst.A (show whh.heap.size ≤ g14 by rw [hg]; exact AKh.out.1); have NEBK3g14 := Pst.A (show ¬ g3 = g14 from fun e_ => absurd (show g3 < g14 by rw [hg]; exact blk_lt (Pst.qb BK3.out)) (by omega)); have NEBK6g14 := Pst.A (show ¬ g6 = g14 from fun e_ => absurd (show g6 < g14 by rw [hg]; exact blk_lt (Pst.qb BK6.out)) (by omega)); have NEBK8g14 := Pst.A (show ¬ g8 = g14 from fun e_ => absurd (show g8 < g14 by rw [hg]; exact blk_lt (Pst.qb BK8.out)) (by omega)); have NEBK9g14 := Pst.A (show ¬ g9 = g14 from fun e_ => absurd (show g9 < g14 by rw [hg]; exact blk_lt (Pst.qb BK9.out)) (by omega)); have m0_ := Pst.A (below_step Pst.bel hb); have mBK3_ := Pst.A (Pst.kb BK3.out hb); have mBK6_ := Pst.A (Pst.kb BK6.out hb); have mBK8_ := Pst.A (Pst.kb BK8.out hb); have mBK9_ := Pst.A (Pst.kb BK9.out hb); have mAKw_ := Pst.A (Kept.below (by exact AKw.out) hb); have mAKy_ := Pst.A (Kept.below (by exact AKy.out) hb); have mAKh_ := Pst.A (Kept.below (by exact AKh.out) hb); clear HB BK3 BK6 BK8 BK9 AKw AKy AKh; have HB := m0_; have BK3 := mBK3_; have BK6 := mBK6_; have BK8 := mBK8_; have BK9 := mBK9_; have AKw := mAKw_; have AKy := mAKy_; have AKh := mAKh_; clear m0_ mBK3_ mBK6_ mBK8_ mBK9_ mAKw_ mAKy_ mAKh_; have BK14 := Pst.A hbox; clear hb hbox hg)
  | ((with_reducible refine gate_ (.store 44 (.tmp 14) (.tmp 85)) rfl ?_); refine storeAll rfl 44 (.tmp 14) (.tmp 85) rfl g14 #[.int .i64 t1, .int .i64 t2, .int .i64 t3, .slice Ah3 t4.length ch3, .slice Ah4 t5.length ch4, .int .i64 t6, .int .i64 t7, .slice Ah7 t8.length ch7, .int .i64 t9, .int .i64 t10, .int .i64 t11, .int .i64 t12, .slice Ah12 t13.length ch12, .int .i64 t14, .int .i64 t15, .int .i64 t16] rfl rfl 44 #[.int .i64 0, .int .i64 0, .int .i64 0, .slice none 0 0, .slice none 0 0, .int .i64 0, .int .i64 0, .slice none 0 0, .int .i64 0, .int .i64 0, .int .i64 0, .int .i64 0, .slice none 0 0, .int .i64 0, .int .i64 0, .int .i64 0] ?hb (by kernel_rfl) rfl (by simp [oneInt, oneSlice]) ?_; (case hb => exact Pst.qb BK14.out); intro w14s hbs hgs; have m0_ := Pst.A (pw_below_grown Pst.bel (some g14) (below_size Pst.bel) hgs (fun k_ hk_ => by cases hk_; exact GEg14.out)); have mBK3_ := Pst.A (blk_grown (Pst.qb BK3.out) hgs (fun e_ => NEBK3g14.out (Option.some.inj e_))); have mBK6_ := Pst.A (blk_grown (Pst.qb BK6.out) hgs (fun e_ => NEBK6g14.out (Option.some.inj e_))); have mBK8_ := Pst.A (blk_grown (Pst.qb BK8.out) hgs (fun e_ => NEBK8g14.out (Option.some.inj e_))); have mBK9_ := Pst.A (blk_grown (Pst.qb BK9.out) hgs (fun e_ => NEBK9g14.out (Option.some.inj e_))); have mAKw_ := Pst.A (Kept.of_grown hgs (by exact AKw.out) (fun k_ e_ => .inr (by cases e_; exact GEg14AKw.out))); have mAKy_ := Pst.A (Kept.of_grown hgs (by exact AKy.out) (fun k_ e_ => .inr (by cases e_; exact GEg14AKy.out))); have mAKh_ := Pst.A (Kept.of_grown hgs (by exact AKh.out) (fun k_ e_ => .inr (by cases e_; exact GEg14AKh.out))); clear HB BK14 BK3 BK6 BK8 BK9 AKw AKy AKh; have HB := m0_; have BK14 := Pst.A hbs; have BK3 := mBK3_; have BK6 := mBK6_; have BK8 := mBK8_; have BK9 := mBK9_; have AKw := mAKw_; have AKy := mAKy_; have AKh := mAKh_; clear m0_ mBK3_ mBK6_ mBK8_ mBK9_ mAKw_ mAKy_ mAKh_ hbs hgs))
 go_upto_region 30 with (first
  | ((with_reducible refine gate_ (.load 44 (.tmp 14)) rfl ?_); (try (refine gate_guard (by rfl) ?_; dsimp only)); refine wpList_load_row rfl 44 (.tmp 14) rfl g14 rfl 44 _ _ _ (Pst.qb BK14.out) Tryz.underlying44 rfl (by kernel_rfl) ?_)
  | ((with_reducible refine gate_ (.load 44 (.tmp 6)) rfl ?_); (try (refine gate_guard (by rfl) ?_; dsimp only)); refine wpList_load_row rfl 44 (.tmp 6) rfl g6 rfl 44 _ _ _ (Pst.qb BK6.out) Tryz.underlying44 rfl (by kernel_rfl) ?_)
  | (go_at_call 8; refine (laws_eqWorld.same t1 t2 t3 Ah3 Aw3 ch3 cw3 t4 Ah4 Aw4 ch4 cw4 t5 t6 t7 Ah7 Aw7 ch7 cw7 t8 t9 t10 t11 t12 Ah12 Aw12 ch12 cw12 t13 t14 t15 t16 _ (Nat.le_trans HSM.out.2.1 (by decide)) (Kd.R_reads' (Kd.R_kept HQh3.out (by exact AKh.out) (fun _ _ h_ => h_))).2.2 (Kd.R_reads' (Kd.R_kept HQw3.out (by exact AKw.out) (fun _ _ h_ => h_))).2.2 (Nat.le_trans HSM.out.2.2.1 (by decide)) (Kd.R_reads' (Kd.R_kept HQh4.out (by exact AKh.out) (fun _ _ h_ => h_))).2.2 (Kd.R_reads' (Kd.R_kept HQw4.out (by exact AKw.out) (fun _ _ h_ => h_))).2.2 (Nat.le_trans HSM.out.2.2.2.1 (by decide)) (Kd.R_reads' (Kd.R_kept HQh7.out (by exact AKh.out) (fun _ _ h_ => h_))).2.2 (Kd.R_reads' (Kd.R_kept HQw7.out (by exact AKw.out) (fun _ _ h_ => h_))).2.2 (Nat.le_trans HSM.out.2.2.2.2 (by decide)) (Kd.R_reads' (Kd.R_kept HQh12.out (by exact AKh.out) (fun _ _ h_ => h_))).2.2 (Kd.R_reads' (Kd.R_kept HQw12.out (by exact AKw.out) (fun _ _ h_ => h_))).2.2).mono ?_; rintro e we3 ⟨rfl, hb⟩; have m0_ := Pst.A (below_step Pst.bel hb); have mBK3_ := Pst.A (Pst.kb BK3.out hb); have mBK6_ := Pst.A (Pst.kb BK6.out hb); have mBK8_ := Pst.A (Pst.kb BK8.out hb); have mBK9_ := Pst.A (Pst.kb BK9.out hb); have mBK14_ := Pst.A (Pst.kb BK14.out hb); have mAKw_ := Pst.A (Kept.below (by exact AKw.out) hb); have mAKy_ := Pst.A (Kept.below (by exact AKy.out) hb); have mAKh_ := Pst.A (Kept.below (by exact AKh.out) hb); clear HB BK3 BK6 BK8 BK9 BK14 AKw AKy AKh; have HB := m0_; have BK3 := mBK3_; have BK6 := mBK6_; have BK8 := mBK8_; have BK9 := mBK9_; have BK14 := mBK14_; have AKw := mAKw_; have AKy := mAKy_; have AKh := mAKh_; clear m0_ mBK3_ mBK6_ mBK8_ mBK9_ mBK14_ mAKw_ mAKy_ mAKh_; clear hb))
 go_wp2_with (first
  | ((with_reducible refine gate_ (.load 44 (.tmp 9)) rfl ?_); (try (refine gate_guard (by rfl) ?_; dsimp only)); refine wpList_load_row rfl 44 (.tmp 9) rfl g9 rfl 44 _ _ _ (Pst.qb BK9.out) Tryz.underlying44 rfl (by kernel_rfl) ?_)
  | (go_at_call 12; refine (laws_heldWorld.calls k t1 t2 t3 Ag3 cg3 y4 Ag4 cg4 y5 t6 t7 Ag7 cg7 y8 t9 t10 t11 t12 Ag12 cg12 y13 t14 t15 t16 1 z _ (Kd.R_reads' (Kd.R_kept HY3.out (by exact AKy.out) (fun _ _ h_ => h_))).2.2 (Kd.R_reads' HY3.out).2.1 (Kd.R_reads' (Kd.R_kept HY4.out (by exact AKy.out) (fun _ _ h_ => h_))).2.2 (Kd.R_reads' HY4.out).2.1 (Kd.R_reads' (Kd.R_kept HY7.out (by exact AKy.out) (fun _ _ h_ => h_))).2.2 (Kd.R_reads' HY7.out).2.1 (Kd.R_reads' (Kd.R_kept HY12.out (by exact AKy.out) (fun _ _ h_ => h_))).2.2 (Kd.R_reads' HY12.out).2.1 AH.out).mono ?_; rintro e wh2 ⟨rfl, hb⟩; have m0_ := Pst.A (below_step Pst.bel hb); have mBK3_ := Pst.A (Pst.kb BK3.out hb); have mBK6_ := Pst.A (Pst.kb BK6.out hb); have mBK8_ := Pst.A (Pst.kb BK8.out hb); have mBK9_ := Pst.A (Pst.kb BK9.out hb); have mBK14_ := Pst.A (Pst.kb BK14.out hb); have mAKw_ := Pst.A (Kept.below (by exact AKw.out) hb); have mAKy_ := Pst.A (Kept.below (by exact AKy.out) hb); have mAKh_ := Pst.A (Kept.below (by exact AKh.out) hb); clear HB BK3 BK6 BK8 BK9 BK14 AKw AKy AKh; have HB := m0_; have BK3 := mBK3_; have BK6 := mBK6_; have BK8 := mBK8_; have BK9 := mBK9_; have BK14 := mBK14_; have AKw := mAKw_; have AKy := mAKy_; have AKh := mAKh_; clear m0_ mBK3_ mBK6_ mBK8_ mBK9_ mBK14_ mAKw_ mAKy_ mAKh_; clear hb))
 go_ret
 exact ⟨rfl, Pst.bel⟩

end Go.Proofs.YtapckgibbhijeaaGreatDoor.PA
