/- Functions of the program, of the reference and of the statements: each as a plain Lean function, and a proof that the machine's call answers what that one answers. Written by a program: the kit's print, with contracts of our own for what it does not take. No condition. -/
import Derived.Test.YtidkiabehmdofaaGreatDoorPAx0
import Derived.Test.YtidkiabehmdofaaGreatDoorPAx1
namespace Go.Proofs.YtidkiabehmdofaaGreatDoor.PA
set_option maxHeartbeats 8000000
set_option maxRecDepth 100000
open Go.RowKit Go.Proofs.YtidkiabehmdofaaGreatDoorW.PrintWords Go.Proofs.YtidkiabehmdofaaGreatDoorW.PrintLast Go.Proofs.YtidkiabehmdofaaGreatDoorW.PrintMore
attribute [local go_sem] max2_int min2_int max_two min_two max_three min_three max_four min_four   -- for this text's walks alone
set_option linter.unusedVariables false
set_option linter.unusedSimpArgs false

/-! ### spec_l01New: function 34 -/
def spec_l01New.l0 : Nat → List Int → Int → Int → Option (List Int × Int × Int)
 | 0, _, _, _ => none
 | k + 1, x0, x3, x4 => if x4 < (x0.length : Int) then (if x4 < 4000 then (if 0 ≤ x4 then (spec_l01New.l0 k x0 (Go.bits .and .i64 (wrap64 ((wrap64 ((wrap64 (x3 * 149)) + (wrap64 (rd x0 x4)))) + 11)) 1073741823) (wrap64 (x4 + 1))) else (none)) else (some (x0, 0, x3))) else (some (x0, 0, x3))
def spec_l01New.f (k : Nat) (l0 : List Int) : Option (List Int × Int × Int) := spec_l01New.l0 k l0 (wrap64 (808808 + (l0.length : Int))) 0
theorem spec_l01New.mono_l : ∀ k, (∀ y0 y1 y2, LeO (spec_l01New.l0 k y0 y1 y2) (spec_l01New.l0 (k + 1) y0 y1 y2))
 | 0 => fun _ _ _ r h => by simp [spec_l01New.l0] at h
 | k + 1 => by
  have ih0 := spec_l01New.mono_l k
  ·intro y0 y1 y2
   unfold spec_l01New.l0
   exact Pst.mo
theorem spec_l01New.mono : ∀ a0 k, LeO (spec_l01New.f k a0) (spec_l01New.f (k + 1) a0) := by
 intro a0 k
 have ih0 := spec_l01New.mono_l k
 unfold spec_l01New.f
 exact Pst.mo
theorem spec_l01New.calls (k : Nat) (A0 : Option Addr) (c0 : Nat) (l0 : List Int) (r1 : List Int) (r2 : Int) (r3 : Int) (w0 w : World) (hB : Below w0.heap.size w0 w) (hr0 : Kd.C (Kd.int .u8) w0 A0 l0.length l0) (hc0 : l0.length ≤ c0) (h : spec_l01New.f k l0 = some (r1, r2, r3)) :
    Calls Tryz.prog 34 #[.slice A0 l0.length c0] w fun e w' => ∃ g_ : Nat, e = .returned (.pointer (some ⟨g_, 0, none⟩)) ∧ IsS81 w0 w' g_ r1 r2 r3 ∧ Below w0.heap.size w0 w' ∧ Below w.heap.size w w' := by
 have hu81 := Tryz.underlying81
 have HR0 := Pst.A hr0
 have HC0 := Pst.A hc0
 clear hr0 hc0
 have HBW := Pst.A (Below.refl w.heap.size w)
 have HW0 := Pst.A hB.size
 have HB := Pst.A hB
 clear hB
 have H : (spec_l01New.l0 k l0 (wrap64 (808808 + (l0.length : Int))) 0) = some (r1, r2, r3) := h
 clear h
 have H' := Pst.A H
 clear H
 go_enter Tryz.func34, Tryz.ntmps34
 go_wp2
 go_loopg [3, 4] k (fun kq v3 v4 w' => ∃ (x3_1 : Int) (x4_1 : Int), v3 = .int .i64 x3_1 ∧ v4 = .int .i64 x4_1 ∧ Aside0 (spec_l01New.l0 kq l0 x3_1 x4_1 = some (r1, r2, r3)) ∧ Aside0 (kq ≤ k) ∧ Aside0 (Below w0.heap.size w0 w') ∧ Aside0 (Below w.heap.size w w'))
 case atStart => exact ⟨(wrap64 (808808 + (l0.length : Int))), (0), Pst.e2, Pst.e2, H', ⟨Nat.le_refl _⟩, ⟨Pst.bel⟩, ⟨by repeat (first | (with_reducible first | exact HBW.out | apply below_alloc | apply pw_below_drewN | apply below_drew1) | exact HBW.out)⟩⟩
 clear H'
 obtain ⟨x3_1, x4_1, rfl, rfl, HA, HK1, HB, HBW⟩ := hrel
 cases gk with
 | zero => exact absurd HA.out (by simp [spec_l01New.l0])
 | succ k1 =>
  have H := HA.out
  clear HA
  simp only [spec_l01New.l0] at H
  by_cases c2 : x4_1 < (l0.length : Int)
  ·rw [if_pos c2] at H
   have c2b0 : decide (x4_1 < (l0.length : Int)) = true := decide_eq_true c2
   clear c2
   by_cases c3 : x4_1 < 4000
   ·rw [if_pos c3] at H
    have c3b0 : decide (x4_1 < 4000) = true := decide_eq_true c3
    clear c3
    by_cases c4 : 0 ≤ x4_1
    ·rw [if_pos c4] at H
     have c4b0 : decide (0 ≤ x4_1) = true := decide_eq_true c4
     clear c4
     have H' := Pst.A H
     clear H
     have p315 : 0 ≤ (x4_1 : Int) := Pst.da
     have q315 : x4_1 < (l0.length : Int) := Pst.da
     obtain ⟨ad315, e315, hx315_0⟩ := Kd.at_int HR0.out x4_1 p315 q315
     cases e315
     replace hx315_0 := pw_cell_below HB.out hx315_0
     replace p315 := eq_true p315
     replace q315 := eq_true q315
     go_wp2
     go_roundg k1
     case measure => have := HK1.out; omega
     case rel => exact ⟨(Go.bits .and .i64 (wrap64 ((wrap64 ((wrap64 (x3_1 * 149)) + (wrap64 (rd l0 x4_1)))) + 11)) 1073741823), (wrap64 (x4_1 + 1)), Pst.e2, Pst.e2, H', ⟨by have := HK1.out; omega⟩, ⟨Pst.bel⟩, ⟨by repeat (first | (with_reducible first | exact HBW.out | apply below_alloc | apply pw_below_drewN | apply below_drew1) | exact HBW.out)⟩⟩
    ·rw [if_neg c4] at H
     exact absurd H (by simp)
   ·rw [if_neg c3] at H
    have c3b0 : decide (x4_1 < 4000) = false := decide_eq_false c3
    clear c3
    simp only [Option.some.injEq, Prod.mk.injEq] at H
    obtain ⟨rfl, rfl, rfl⟩ := H
    go_wp2_with (first | ((with_reducible refine gate_dst (N := 31) rfl ?_); refine Pst.bx 31 #[.slice A0 l0.length c0, .int .i64 0, .int .i64 x3_1] 81 ?_; intro gb316 hg w5 hbox hb; have BK316 := Pst.A hbox; have GW316 := Pst.A ((by rw [hg]; exact (below_size (by repeat (first | (with_reducible first | exact HBW.out | apply below_alloc | apply pw_below_drewN | apply below_drew1) | exact HBW.out))) : w.heap.size ≤ gb316)); have GE316 := Pst.A ((Nat.le_trans HW0.out (by rw [hg]; exact (below_size (by repeat (first | (with_reducible first | exact HBW.out | apply below_alloc | apply pw_below_drewN | apply below_drew1) | exact HBW.out))) : w.heap.size ≤ gb316) : w0.heap.size ≤ gb316)); replace HBW := Pst.A (below_step HBW.out hb); replace HB := Pst.A (below_step Pst.bel hb); clear hb hbox hg))
    go_ret
    exact ⟨_, rfl, (show IsS81 w0 _ gb316 l0 0 x3_1 from ⟨_, _, by exact Pst.qb BK316.out, GE316.out, HR0.out⟩), Pst.bes, by repeat (first | (with_reducible first | exact HBW.out | apply below_alloc | apply pw_below_drewN | apply below_drew1 | refine below_set ?_ GW316.out) | exact HBW.out)⟩
  ·rw [if_neg c2] at H
   have c2b0 : decide (x4_1 < (l0.length : Int)) = false := decide_eq_false c2
   clear c2
   simp only [Option.some.injEq, Prod.mk.injEq] at H
   obtain ⟨rfl, rfl, rfl⟩ := H
   go_wp2_with (first | ((with_reducible refine gate_dst (N := 31) rfl ?_); refine Pst.bx 31 #[.slice A0 l0.length c0, .int .i64 0, .int .i64 x3_1] 81 ?_; intro gb317 hg w6 hbox hb; have BK317 := Pst.A hbox; have GW317 := Pst.A ((by rw [hg]; exact (below_size (by repeat (first | (with_reducible first | exact HBW.out | apply below_alloc | apply pw_below_drewN | apply below_drew1) | exact HBW.out))) : w.heap.size ≤ gb317)); have GE317 := Pst.A ((Nat.le_trans HW0.out (by rw [hg]; exact (below_size (by repeat (first | (with_reducible first | exact HBW.out | apply below_alloc | apply pw_below_drewN | apply below_drew1) | exact HBW.out))) : w.heap.size ≤ gb317) : w0.heap.size ≤ gb317)); replace HBW := Pst.A (below_step HBW.out hb); replace HB := Pst.A (below_step Pst.bel hb); clear hb hbox hg))
   go_ret
   exact ⟨_, rfl, (show IsS81 w0 _ gb317 l0 0 x3_1 from ⟨_, _, by exact Pst.qb BK317.out, GE317.out, HR0.out⟩), Pst.bes, by repeat (first | (with_reducible first | exact HBW.out | apply below_alloc | apply pw_below_drewN | apply below_drew1 | refine below_set ?_ GW317.out) | exact HBW.out)⟩
theorem spec_l01New.l0.st {x0 : List Int} {x3 : Int} {x4 : Int} {r : (List Int × Int × Int)} (H : Ev (fun k => if x4 < (x0.length : Int) then (if x4 < 4000 then (if 0 ≤ x4 then (spec_l01New.l0 k x0 (Go.bits .and .i64 (wrap64 ((wrap64 ((wrap64 (x3 * 149)) + (wrap64 (rd x0 x4)))) + 11)) 1073741823) (wrap64 (x4 + 1))) else (none)) else (some (x0, 0, x3))) else (some (x0, 0, x3))) r) : Ev (fun k => spec_l01New.l0 k x0 x3 x4) r := Ev.step (fun k => spec_l01New.l0.eq_2 x0 x3 x4 k) H

/-! ### impl_in: function 25 -/
def impl_in.f (a0 : Int) (a1 : Int) (a2 : Int) : Option (Bool) := if a0 ≥ a1 then (some (decide (a0 ≤ a2))) else (some false)
theorem impl_in.calls (a0 : Int) (a1 : Int) (a2 : Int) (r : Bool) (w : World) (h : impl_in.f a0 a1 a2 = some r) :
    Calls Tryz.prog 25 #[.int .i64 a0, .int .i64 a1, .int .i64 a2] w fun e w' => e = .returned (.bool r) ∧ Drawn0 w w' := by
 have H : (if a0 ≥ a1 then (some (decide (a0 ≤ a2))) else (some false)) = some r := h
 clear h
 by_cases c4 : a0 ≥ a1
 ·rw [if_pos c4] at H
  have c4b0 : decide (a1 ≤ a0) = true := decide_eq_true c4
  clear c4
  obtain rfl := Option.some.inj H
  go_enter Tryz.func25, Tryz.ntmps25
  go_wp2
  go_ret
  exact ⟨Pst.e2, by repeat (first | exact Drawn0.refl _ | apply Drawn0.step)⟩
 ·rw [if_neg c4] at H
  have c4b0 : decide (a1 ≤ a0) = false := decide_eq_false c4
  clear c4
  obtain rfl := Option.some.inj H
  go_enter Tryz.func25, Tryz.ntmps25
  go_wp2
  go_ret
  exact ⟨Pst.e2, by repeat (first | exact Drawn0.refl _ | apply Drawn0.step)⟩

/-! ### impl_NameOk: function 81 -/
def impl_NameOk.l0 : Nat → ByteArray → Int → Int → Option (Bool)
 | 0, _, _, _ => none
 | k + 1, x0, x6, x7 => if x7 < x6 then (if 0 ≤ x7 then (if x7 < (x0.size : Int) then (if (bt x0 x7) < 97 then (if (bt x0 x7) < 48 then (some false) else (if (bt x0 x7) > 57 then (some false) else (impl_NameOk.l0 k x0 x6 (wrap64 (x7 + 1))))) else (if (bt x0 x7) > 122 then (if (bt x0 x7) < 48 then (some false) else (if (bt x0 x7) > 57 then (some false) else (impl_NameOk.l0 k x0 x6 (wrap64 (x7 + 1))))) else (impl_NameOk.l0 k x0 x6 (wrap64 (x7 + 1))))) else (none)) else (none)) else ((impl_in.f (x0.size : Int) 1 12).bind fun t374 => (some t374))
def impl_NameOk.f (k : Nat) (a0 : ByteArray) : Option (Bool) := impl_NameOk.l0 k a0 (a0.size : Int) 0
theorem impl_NameOk.mono_l : ∀ k, (∀ y0 y1 y2, LeO (impl_NameOk.l0 k y0 y1 y2) (impl_NameOk.l0 (k + 1) y0 y1 y2))
 | 0 => fun _ _ _ r h => by simp [impl_NameOk.l0] at h
 | k + 1 => by
  have ih0 := impl_NameOk.mono_l k
  ·intro y0 y1 y2
   unfold impl_NameOk.l0
   exact Pst.mo
theorem impl_NameOk.mono : ∀ a0 k, LeO (impl_NameOk.f k a0) (impl_NameOk.f (k + 1) a0) := by
 intro a0 k
 have ih0 := impl_NameOk.mono_l k
 unfold impl_NameOk.f
 exact Pst.mo
theorem impl_NameOk.calls (k : Nat) (a0 : ByteArray) (r : Bool) (w : World) (h : impl_NameOk.f k a0 = some r) :
    Calls Tryz.prog 81 #[.string a0] w fun e w' => e = .returned (.bool r) ∧ Drawn0 w w' := by
 have H : (impl_NameOk.l0 k a0 (a0.size : Int) 0) = some r := h
 clear h
 have H' := Pst.A H
 clear H
 go_enter Tryz.func81, Tryz.ntmps81
 go_wp2
 go_loopg [7] k (fun kq v7 w' => ∃ (x7_1 : Int), v7 = .int .i64 x7_1 ∧ Aside0 (impl_NameOk.l0 kq a0 (a0.size : Int) x7_1 = some r) ∧ Aside0 (kq ≤ k) ∧ Drawn0 w w')
 case atStart => exact ⟨(0), Pst.e2, H', ⟨Nat.le_refl _⟩, by repeat (first | exact Drawn0.refl _ | apply Drawn0.step)⟩
 clear H'
 obtain ⟨x7_1, rfl, HA, HK1, ⟨m1, rfl⟩⟩ := hrel
 cases gk with
 | zero => exact absurd HA.out (by simp [impl_NameOk.l0])
 | succ k1 =>
  have H := HA.out
  clear HA
  simp only [impl_NameOk.l0] at H
  by_cases c2 : x7_1 < (a0.size : Int)
  ·rw [if_pos c2] at H
   have c2b0 : decide (x7_1 < (a0.size : Int)) = true := decide_eq_true c2
   clear c2
   by_cases c3 : 0 ≤ x7_1
   ·rw [if_pos c3] at H
    have c3b0 : decide (0 ≤ x7_1) = true := decide_eq_true c3
    clear c3
    by_cases c4 : x7_1 < (a0.size : Int)
    ·rw [if_pos c4] at H
     have c4b0 : decide (x7_1 < (a0.size : Int)) = true := decide_eq_true c4
     clear c4
     by_cases c6 : (bt a0 x7_1) < 97
     ·rw [if_pos c6] at H
      have c6b0 : decide ((bt a0 x7_1) < 97) = true := decide_eq_true c6
      clear c6
      by_cases c7 : (bt a0 x7_1) < 48
      ·rw [if_pos c7] at H
       have c7b0 : decide ((bt a0 x7_1) < 48) = true := decide_eq_true c7
       clear c7
       obtain rfl := Option.some.inj H
       have p5 : 0 ≤ (x7_1 : Int) := Pst.da
       have q5 : x7_1 < (a0.size : Int) := Pst.da
       have hx5 := bt_at a0 x7_1
       replace p5 := eq_true p5
       replace q5 := eq_true q5
       go_wp2
       go_ret
       exact ⟨Pst.e2, by repeat (first | exact Drawn0.refl _ | apply Drawn0.step)⟩
      ·rw [if_neg c7] at H
       have c7b0 : decide ((bt a0 x7_1) < 48) = false := decide_eq_false c7
       clear c7
       by_cases c8 : (bt a0 x7_1) > 57
       ·rw [if_pos c8] at H
        have c8b0 : decide (57 < (bt a0 x7_1)) = true := decide_eq_true c8
        clear c8
        obtain rfl := Option.some.inj H
        have p5 : 0 ≤ (x7_1 : Int) := Pst.da
        have q5 : x7_1 < (a0.size : Int) := Pst.da
        have hx5 := bt_at a0 x7_1
        replace p5 := eq_true p5
        replace q5 := eq_true q5
        go_wp2
        go_ret
        exact ⟨Pst.e2, by repeat (first | exact Drawn0.refl _ | apply Drawn0.step)⟩
       ·rw [if_neg c8] at H
        have c8b0 : decide (57 < (bt a0 x7_1)) = false := decide_eq_false c8
        clear c8
        have H' := Pst.A H
        clear H
        have p5 : 0 ≤ (x7_1 : Int) := Pst.da
        have q5 : x7_1 < (a0.size : Int) := Pst.da
        have hx5 := bt_at a0 x7_1
        replace p5 := eq_true p5
        replace q5 := eq_true q5
        go_wp2
        go_roundg k1
        case measure => have := HK1.out; omega
        case rel => exact ⟨(wrap64 (x7_1 + 1)), Pst.e2, H', ⟨by have := HK1.out; omega⟩, by repeat (first | exact Drawn0.refl _ | apply Drawn0.step)⟩
     ·rw [if_neg c6] at H
      have c6b0 : decide ((bt a0 x7_1) < 97) = false := decide_eq_false c6
      clear c6
      by_cases c9 : (bt a0 x7_1) > 122
      ·rw [if_pos c9] at H
       have c9b0 : decide (122 < (bt a0 x7_1)) = true := decide_eq_true c9
       clear c9
       by_cases c10 : (bt a0 x7_1) < 48
       ·rw [if_pos c10] at H
        have c10b0 : decide ((bt a0 x7_1) < 48) = true := decide_eq_true c10
        clear c10
        obtain rfl := Option.some.inj H
        have p5 : 0 ≤ (x7_1 : Int) := Pst.da
        have q5 : x7_1 < (a0.size : Int) := Pst.da
        have hx5 := bt_at a0 x7_1
        replace p5 := eq_true p5
        replace q5 := eq_true q5
        go_wp2
        go_ret
        exact ⟨Pst.e2, by repeat (first | exact Drawn0.refl _ | apply Drawn0.step)⟩
       ·rw [if_neg c10] at H
        have c10b0 : decide ((bt a0 x7_1) < 48) = false := decide_eq_false c10
        clear c10
        by_cases c11 : (bt a0 x7_1) > 57
        ·rw [if_pos c11] at H
         have c11b0 : decide (57 < (bt a0 x7_1)) = true := decide_eq_true c11
         clear c11
         obtain rfl := Option.some.inj H
         have p5 : 0 ≤ (x7_1 : Int) := Pst.da
         have q5 : x7_1 < (a0.size : Int) := Pst.da
         have hx5 := bt_at a0 x7_1
         replace p5 := eq_true p5
         replace q5 := eq_true q5
         go_wp2
         go_ret
         exact ⟨Pst.e2, by repeat (first | exact Drawn0.refl _ | apply Drawn0.step)⟩
        ·rw [if_neg c11] at H
         have c11b0 : decide (57 < (bt a0 x7_1)) = false := decide_eq_false c11
         clear c11
         have H' := Pst.A H
         clear H
         have p5 : 0 ≤ (x7_1 : Int) := Pst.da
         have q5 : x7_1 < (a0.size : Int) := Pst.da
         have hx5 := bt_at a0 x7_1
         replace p5 := eq_true p5
         replace q5 := eq_true q5
         go_wp2
         go_roundg k1
         case measure => have := HK1.out; omega
         case rel => exact ⟨(wrap64 (x7_1 + 1)), Pst.e2, H', ⟨by have := HK1.out; omega⟩, by repeat (first | exact Drawn0.refl _ | apply Drawn0.step)⟩
      ·rw [if_neg c9] at H
       have c9b0 : decide (122 < (bt a0 x7_1)) = false := decide_eq_false c9
       clear c9
       have H' := Pst.A H
       clear H
       have p5 : 0 ≤ (x7_1 : Int) := Pst.da
       have q5 : x7_1 < (a0.size : Int) := Pst.da
       have hx5 := bt_at a0 x7_1
       replace p5 := eq_true p5
       replace q5 := eq_true q5
       go_wp2
       go_roundg k1
       case measure => have := HK1.out; omega
       case rel => exact ⟨(wrap64 (x7_1 + 1)), Pst.e2, H', ⟨by have := HK1.out; omega⟩, by repeat (first | exact Drawn0.refl _ | apply Drawn0.step)⟩
    ·rw [if_neg c4] at H
     exact absurd H (by simp)
   ·rw [if_neg c3] at H
    exact absurd H (by simp)
  ·rw [if_neg c2] at H
   have c2b0 : decide (x7_1 < (a0.size : Int)) = false := decide_eq_false c2
   clear c2
   obtain ⟨t374, A120, H⟩ := Pst.bd H
   have A12 := Pst.A A120
   clear A120
   obtain rfl := Option.some.inj H
   go_wp2_with (first | ((with_reducible refine gate_callee (f := 25) rfl ?_); refine goesL_ (some 30) rfl rfl Tryz.func25 (by kernel_rfl) rfl #[.int .i64 (a0.size : Int), .int .i64 1, .int .i64 12] rfl Pst.ga ?_; (with_reducible refine (impl_in.calls (a0.size : Int) 1 12 t374 _ A12.out).mono ?_); rintro e w' ⟨rfl, ⟨nd, rfl⟩⟩; refine ⟨_, rfl, ?_⟩))
   go_ret
   exact ⟨Pst.e2, by repeat (first | exact Drawn0.refl _ | apply Drawn0.step)⟩
theorem impl_NameOk.l0.st {x0 : ByteArray} {x6 : Int} {x7 : Int} {r : (Bool)} (H : Ev (fun k => if x7 < x6 then (if 0 ≤ x7 then (if x7 < (x0.size : Int) then (if (bt x0 x7) < 97 then (if (bt x0 x7) < 48 then (some false) else (if (bt x0 x7) > 57 then (some false) else (impl_NameOk.l0 k x0 x6 (wrap64 (x7 + 1))))) else (if (bt x0 x7) > 122 then (if (bt x0 x7) < 48 then (some false) else (if (bt x0 x7) > 57 then (some false) else (impl_NameOk.l0 k x0 x6 (wrap64 (x7 + 1))))) else (impl_NameOk.l0 k x0 x6 (wrap64 (x7 + 1))))) else (none)) else (none)) else ((impl_in.f (x0.size : Int) 1 12).bind fun t374 => (some t374))) r) : Ev (fun k => impl_NameOk.l0 k x0 x6 x7) r := Ev.step (fun k => impl_NameOk.l0.eq_2 x0 x6 x7 k) H

/-! ### impl_GoalOk: function 55 -/
def impl_GoalOk.f (k : Nat) (a0_0 : ByteArray) (a0_1 : Int) (a0_2 : Int) : Option (Bool) := (impl_NameOk.f k a0_0).bind fun t376 => (if t376 = true then ((impl_in.f a0_1 1 1000000).bind fun t377 => (if t377 = true then ((impl_in.f a0_2 0 1000).bind fun t378 => (some t378)) else (some false))) else (some false))
theorem impl_GoalOk.mono : ∀ a0 a1 a2 k, LeO (impl_GoalOk.f k a0 a1 a2) (impl_GoalOk.f (k + 1) a0 a1 a2) := by
 intro a0 a1 a2 k
 unfold impl_GoalOk.f
 have m0 := @impl_NameOk.mono
 exact Pst.mo
theorem impl_GoalOk.calls (k : Nat) (a0_0 : ByteArray) (a0_1 : Int) (a0_2 : Int) (r : Bool) (w : World) (h : impl_GoalOk.f k a0_0 a0_1 a0_2 = some r) :
    Calls Tryz.prog 55 #[.agg #[.string a0_0, .int .i64 a0_1, .int .i64 a0_2]] w fun e w' => e = .returned (.bool r) ∧ Below w.heap.size w w' := by
 have hu48 := Tryz.underlying48
 have HB := Pst.A (Below.refl w.heap.size w)
 have H : ((impl_NameOk.f k a0_0).bind fun t376 => (if t376 = true then ((impl_in.f a0_1 1 1000000).bind fun t377 => (if t377 = true then ((impl_in.f a0_2 0 1000).bind fun t378 => (some t378)) else (some false))) else (some false))) = some r := h
 clear h
 obtain ⟨t376, A20, H⟩ := Pst.bd H
 have A2 := Pst.A A20
 clear A20
 by_cases c3 : t376 = true
 ·subst c3
  rw [if_pos rfl] at H
  obtain ⟨t377, A40, H⟩ := Pst.bd H
  have A4 := Pst.A A40
  clear A40
  by_cases c5 : t377 = true
  ·subst c5
   rw [if_pos rfl] at H
   obtain ⟨t378, A60, H⟩ := Pst.bd H
   have A6 := Pst.A A60
   clear A60
   obtain rfl := Option.some.inj H
   go_enter Tryz.func55, Tryz.ntmps55
   go_wp2_with (first | ((with_reducible refine gate_dst (N := 1) rfl ?_); refine Pst.bx 1 #[.string a0_0, .int .i64 a0_1, .int .i64 a0_2] 48 ?_; intro gb375 hg w7 hbox hb; have BK375 := Pst.A hbox; have GW375 := Pst.A (Pst.gs hg : w.heap.size ≤ gb375); have GE375 := Pst.A (Pst.gs hg : w.heap.size ≤ gb375); replace HB := Pst.A (below_step Pst.bel hb); clear hb hbox hg; obtain ⟨_,_,_⟩ := Pst.c3 BK375.out; obtain ⟨_,_,_⟩ := Pst.f3 BK375.out) | ((with_reducible refine gate_callee (f := 81) rfl ?_); refine goesL_ (some 5) rfl rfl Tryz.func81 (by kernel_rfl) rfl #[.string a0_0] rfl Pst.ga ?_; (with_reducible refine (impl_NameOk.calls k a0_0 true _ A2.out).mono ?_); rintro e w' ⟨rfl, ⟨nd, rfl⟩⟩; refine ⟨_, rfl, ?_⟩) | (go_at_call 25; (with_reducible refine (impl_in.calls a0_1 1 1000000 true _ A4.out).mono ?_); rintro e w' ⟨rfl, ⟨nd, rfl⟩⟩) | (go_at_call 25; (with_reducible refine (impl_in.calls a0_2 0 1000 t378 _ A6.out).mono ?_); rintro e w' ⟨rfl, ⟨nd, rfl⟩⟩))
   go_ret
   exact ⟨Pst.e1, Pst.bes⟩
  ·replace c5 := Bool.eq_false_iff.mpr c5
   subst c5
   rw [if_neg Pst.ft] at H
   obtain rfl := Option.some.inj H
   go_enter Tryz.func55, Tryz.ntmps55
   go_wp2_with (first | ((with_reducible refine gate_dst (N := 1) rfl ?_); refine Pst.bx 1 #[.string a0_0, .int .i64 a0_1, .int .i64 a0_2] 48 ?_; intro gb375 hg w9 hbox hb; have BK375 := Pst.A hbox; have GW375 := Pst.A (Pst.gs hg : w.heap.size ≤ gb375); have GE375 := Pst.A (Pst.gs hg : w.heap.size ≤ gb375); replace HB := Pst.A (below_step Pst.bel hb); clear hb hbox hg; obtain ⟨_,_,_⟩ := Pst.c3 BK375.out; obtain ⟨_,_,_⟩ := Pst.f3 BK375.out) | ((with_reducible refine gate_callee (f := 81) rfl ?_); refine goesL_ (some 5) rfl rfl Tryz.func81 (by kernel_rfl) rfl #[.string a0_0] rfl Pst.ga ?_; (with_reducible refine (impl_NameOk.calls k a0_0 true _ A2.out).mono ?_); rintro e w' ⟨rfl, ⟨nd, rfl⟩⟩; refine ⟨_, rfl, ?_⟩) | (go_at_call 25; (with_reducible refine (impl_in.calls a0_1 1 1000000 false _ A4.out).mono ?_); rintro e w' ⟨rfl, ⟨nd, rfl⟩⟩))
   go_ret
   exact ⟨Pst.e1, Pst.bes⟩
 ·replace c3 := Bool.eq_false_iff.mpr c3
  subst c3
  rw [if_neg Pst.ft] at H
  obtain rfl := Option.some.inj H
  go_enter Tryz.func55, Tryz.ntmps55
  go_wp2_with (first | ((with_reducible refine gate_dst (N := 1) rfl ?_); refine Pst.bx 1 #[.string a0_0, .int .i64 a0_1, .int .i64 a0_2] 48 ?_; intro gb375 hg w11 hbox hb; have BK375 := Pst.A hbox; have GW375 := Pst.A (Pst.gs hg : w.heap.size ≤ gb375); have GE375 := Pst.A (Pst.gs hg : w.heap.size ≤ gb375); replace HB := Pst.A (below_step Pst.bel hb); clear hb hbox hg; obtain ⟨_,_,_⟩ := Pst.c3 BK375.out; obtain ⟨_,_,_⟩ := Pst.f3 BK375.out) | ((with_reducible refine gate_callee (f := 81) rfl ?_); refine goesL_ (some 5) rfl rfl Tryz.func81 (by kernel_rfl) rfl #[.string a0_0] rfl Pst.ga ?_; (with_reducible refine (impl_NameOk.calls k a0_0 false _ A2.out).mono ?_); rintro e w' ⟨rfl, ⟨nd, rfl⟩⟩; refine ⟨_, rfl, ?_⟩))
  go_ret
  exact ⟨Pst.e1, Pst.bes⟩

/-! ### impl_goalThere: function 56 -/
theorem goalNamed_eq (s nm : ByteArray) (a b : Int) (B : Nat) (w : World) (hB : B < w.heap.size) (hcell : w.cell? ⟨B, 0, none⟩ = some (.string nm)) :
    Calls Tryz.prog 57 #[.agg #[.string s, .int .i64 a, .int .i64 b], .pointer (some ⟨B, 0, none⟩)] w fun e w' => e = .returned (.bool (s.toList == nm.toList)) ∧ Below w.heap.size w w' := by
 have hne : B ≠ w.heap.size := by omega
 go_enter Tryz.func57, Tryz.ntmps57
 go_wp2
 go_ret
 exact ⟨rfl, (Below.refl _ w).alloc (Nat.le_refl _) _⟩

/-- The place of the first goal of that metric, or -1. -/
def goalPlace (nm : ByteArray) : List S48 → Int → Int
 | [], _ => -1
 | x :: t, i => if x.f0.toList = nm.toList then i else goalPlace nm t (i + 1)

theorem indexFunc_goal (nm : ByteArray) (B : Nat) (A0 : Option Addr) (c0 : Nat) (l0 : List S48) (w : World) (hr0 : Kd.C k48 w A0 l0.length l0) (hB : B < w.heap.size) (hcell : w.cell? ⟨B, 0, none⟩ = some (.string nm)) :
    Calls Tryz.prog 82 #[.slice A0 l0.length c0, .func (.func 57) #[] #[.pointer (some ⟨B, 0, none⟩)]] w fun e w' => e = .returned (.int .i64 (goalPlace nm l0 0)) ∧ Below w.heap.size w w' := by
 have huC := Tryz.underlying48
 have hmx : l0.length ≤ 9223372036854775807 := hr0.2.1
 have HR := Pst.A hr0
 have HC := Pst.A hcell
 clear hr0 hcell
 go_enter Tryz.func82, Tryz.ntmps82
 go_wp2
 go_loopg [5, 8] l0.length (fun gg _ s8 wr => ∃ kk : Nat, kk ≤ l0.length ∧ l0.length - kk ≤ gg ∧ s8 = .int .i64 kk ∧ Aside0 (Below w.heap.size w wr) ∧ Aside0 (goalPlace nm (l0.drop kk) kk = goalPlace nm l0 0))
 case atStart => exact ⟨0, Nat.zero_le _, by omega, rfl, ⟨Below.refl _ w⟩, ⟨rfl⟩⟩
 obtain ⟨kk, hkk, hg, rfl, BW, A⟩ := hrel
 by_cases hlt : kk < l0.length
 ·have hltz : (kk : Int) < (l0.length : Int) := by omega
  have hcw : wr.cell? ⟨B, 0, none⟩ = some (.string nm) := (BW.out.cell (p := ⟨B, 0, none⟩) hB).trans HC.out
  have hBw : B < wr.heap.size := Nat.lt_of_lt_of_le hB BW.out.size
  obtain ⟨ad, e0, q0, q1, q2⟩ := at_T48 (Kd.C_below HR.out BW.out) (kk : Int) (by omega) hltz
  have hcall := goalNamed_eq (rd_T48 l0 kk).f0 nm (rd_T48 l0 kk).f1 (rd_T48 l0 kk).f2 B wr hBw hcw
  have E0 := Pst.A e0
  have hx : Aside0 (l0.drop kk = rd_T48 l0 kk :: l0.drop (kk + 1)) := ⟨by rw [List.drop_eq_getElem_cons hlt]; simp [rd_T48, List.getD_eq_getElem?_getD, hlt]⟩
  clear hcw e0
  simp only [Int.toNat_natCast] at q0 q1 q2
  generalize rd_T48 l0 kk = y at hcall q0 q1 q2 hx
  obtain rfl := E0.out
  clear E0
  have eg : ∀ args w, (callFunc 57 args).run Tryz.prog w = .ok (.enter 57 args) w := enters_of Tryz.func57 (by kernel_rfl) rfl
  have hs : ∀ z, goalPlace nm (y :: z) kk = if y.f0.toList = nm.toList then (kk : Int) else goalPlace nm z ((kk : Int) + 1) := fun z => rfl
  cases hq : (y.f0.toList == nm.toList) with
  | true =>
   rw [hq] at hcall
   have hs' := Pst.A hs
   have hq' := Pst.A hq
   clear hs hq
   go_wp2_with (go_at_fn 57; refine hcall.mono ?_; rintro e w' ⟨rfl, hb'⟩)
   go_ret
   refine ⟨?_, BW.out.trans (hb'.mono BW.out.size)⟩
   rw [← A.out, hx.out, hs'.out, if_pos (by simpa using hq'.out)]
   rfl
  | false =>
   rw [hq] at hcall
   have hs' := Pst.A hs
   have hq' := Pst.A hq
   clear hs hq
   go_wp2_with (go_at_fn 57; refine hcall.mono ?_; rintro e w' ⟨rfl, hb'⟩)
   go_roundg (l0.length - (kk + 1))
   case measure => omega
   refine ⟨kk + 1, by omega, by omega, by go_num, ⟨BW.out.trans (hb'.mono BW.out.size)⟩, ⟨?_⟩⟩
   rw [← A.out, hx.out, hs'.out, if_neg (by simpa using hq'.out)]
   rfl
 ·have hltz : ¬ (kk : Int) < (l0.length : Int) := by omega
  go_wp2
  go_ret
  refine ⟨?_, BW.out⟩
  rw [← A.out, List.drop_eq_nil_iff.2 (by omega)]
  rfl

def impl_goalThere.f (l0 : List S48) (a1_0 : ByteArray) (a1_1 : Int) (a1_2 : Int) : Option Bool := some (decide (0 ≤ goalPlace a1_0 l0 0))
/-- The closure is handed over as the cell that it holds: a goal of that metric. -/
theorem impl_goalThere.calls (A0 : Option Addr) (c0 : Nat) (l0 : List (S48)) (a1_0 : ByteArray) (a1_1 : Int) (a1_2 : Int) (r : Bool) (w : World) (hr0 : Kd.C k48 w A0 l0.length l0) (hc0 : l0.length ≤ c0) (h : impl_goalThere.f l0 a1_0 a1_1 a1_2 = some r) {B : Nat} (hcell : w.cell? ⟨B, 0, none⟩ = some (.string a1_0)) :
    Calls Tryz.prog 56 #[.slice A0 l0.length c0, .func (.func 57) #[] #[.pointer (some ⟨B, 0, none⟩)]] w fun e w' => e = .returned (.bool r) ∧ Below w.heap.size w w' := by
 obtain rfl : decide (0 ≤ goalPlace a1_0 l0 0) = r := Option.some.inj h
 have hcon := indexFunc_goal a1_0 B A0 c0 l0 w hr0 (World.block_lt_of_cell? w _ hcell) hcell
 generalize goalPlace a1_0 l0 0 = p at hcon
 clear hr0 h hcell
 by_cases hp : 0 ≤ p
 ·have hpb : decide (0 ≤ p) = true := decide_eq_true hp
  go_enter Tryz.func56, Tryz.ntmps56
  go_wp2_with (go_at_call 82; refine hcon.mono ?_; rintro e w' ⟨rfl, hb'⟩)
  go_ret
  exact ⟨by first | rfl | (simp [hp]; done), hb'⟩
 ·have hpb : decide (0 ≤ p) = false := decide_eq_false hp
  go_enter Tryz.func56, Tryz.ntmps56
  go_wp2_with (go_at_call 82; refine hcon.mono ?_; rintro e w' ⟨rfl, hb'⟩)
  go_ret
  exact ⟨by first | rfl | (simp [hp]; done), hb'⟩

/-! ### impl_RulesOk: function 58 -/
def impl_RulesOk.f (a0_0 : Int) (a0_1 : Int) (a0_2 : Int) : Option (Bool) := (impl_in.f a0_0 0 1000).bind fun t380 => (if t380 = true then ((impl_in.f a0_1 0 1000).bind fun t381 => (if t381 = true then ((impl_in.f a0_2 0 1000).bind fun t382 => (some t382)) else (some false))) else (some false))
theorem impl_RulesOk.calls (a0_0 : Int) (a0_1 : Int) (a0_2 : Int) (r : Bool) (w : World) (h : impl_RulesOk.f a0_0 a0_1 a0_2 = some r) :
    Calls Tryz.prog 58 #[.agg #[.int .i64 a0_0, .int .i64 a0_1, .int .i64 a0_2]] w fun e w' => e = .returned (.bool r) ∧ Below w.heap.size w w' := by
 have hu25 := Tryz.underlying25
 have HB := Pst.A (Below.refl w.heap.size w)
 have H : ((impl_in.f a0_0 0 1000).bind fun t380 => (if t380 = true then ((impl_in.f a0_1 0 1000).bind fun t381 => (if t381 = true then ((impl_in.f a0_2 0 1000).bind fun t382 => (some t382)) else (some false))) else (some false))) = some r := h
 clear h
 obtain ⟨t380, A20, H⟩ := Pst.bd H
 have A2 := Pst.A A20
 clear A20
 by_cases c3 : t380 = true
 ·subst c3
  rw [if_pos rfl] at H
  obtain ⟨t381, A40, H⟩ := Pst.bd H
  have A4 := Pst.A A40
  clear A40
  by_cases c5 : t381 = true
  ·subst c5
   rw [if_pos rfl] at H
   obtain ⟨t382, A60, H⟩ := Pst.bd H
   have A6 := Pst.A A60
   clear A60
   obtain rfl := Option.some.inj H
   go_enter Tryz.func58, Tryz.ntmps58
   go_wp2_with (first | ((with_reducible refine gate_dst (N := 1) rfl ?_); refine Pst.bx 1 #[.int .i64 a0_0, .int .i64 a0_1, .int .i64 a0_2] 25 ?_; intro gb379 hg w7 hbox hb; have BK379 := Pst.A hbox; have GW379 := Pst.A (Pst.gs hg : w.heap.size ≤ gb379); have GE379 := Pst.A (Pst.gs hg : w.heap.size ≤ gb379); replace HB := Pst.A (below_step Pst.bel hb); clear hb hbox hg; obtain ⟨_,_,_⟩ := Pst.c3 BK379.out; obtain ⟨_,_,_⟩ := Pst.f3 BK379.out) | ((with_reducible refine gate_callee (f := 25) rfl ?_); refine goesL_ (some 5) rfl rfl Tryz.func25 (by kernel_rfl) rfl #[.int .i64 a0_0, .int .i64 0, .int .i64 1000] rfl Pst.ga ?_; (with_reducible refine (impl_in.calls a0_0 0 1000 true _ A2.out).mono ?_); rintro e w' ⟨rfl, ⟨nd, rfl⟩⟩; refine ⟨_, rfl, ?_⟩) | (go_at_call 25; (with_reducible refine (impl_in.calls a0_1 0 1000 true _ A4.out).mono ?_); rintro e w' ⟨rfl, ⟨nd, rfl⟩⟩) | (go_at_call 25; (with_reducible refine (impl_in.calls a0_2 0 1000 t382 _ A6.out).mono ?_); rintro e w' ⟨rfl, ⟨nd, rfl⟩⟩))
   go_ret
   exact ⟨Pst.e1, Pst.bes⟩
  ·replace c5 := Bool.eq_false_iff.mpr c5
   subst c5
   rw [if_neg Pst.ft] at H
   obtain rfl := Option.some.inj H
   go_enter Tryz.func58, Tryz.ntmps58
   go_wp2_with (first | ((with_reducible refine gate_dst (N := 1) rfl ?_); refine Pst.bx 1 #[.int .i64 a0_0, .int .i64 a0_1, .int .i64 a0_2] 25 ?_; intro gb379 hg w9 hbox hb; have BK379 := Pst.A hbox; have GW379 := Pst.A (Pst.gs hg : w.heap.size ≤ gb379); have GE379 := Pst.A (Pst.gs hg : w.heap.size ≤ gb379); replace HB := Pst.A (below_step Pst.bel hb); clear hb hbox hg; obtain ⟨_,_,_⟩ := Pst.c3 BK379.out; obtain ⟨_,_,_⟩ := Pst.f3 BK379.out) | ((with_reducible refine gate_callee (f := 25) rfl ?_); refine goesL_ (some 5) rfl rfl Tryz.func25 (by kernel_rfl) rfl #[.int .i64 a0_0, .int .i64 0, .int .i64 1000] rfl Pst.ga ?_; (with_reducible refine (impl_in.calls a0_0 0 1000 true _ A2.out).mono ?_); rintro e w' ⟨rfl, ⟨nd, rfl⟩⟩; refine ⟨_, rfl, ?_⟩) | (go_at_call 25; (with_reducible refine (impl_in.calls a0_1 0 1000 false _ A4.out).mono ?_); rintro e w' ⟨rfl, ⟨nd, rfl⟩⟩))
   go_ret
   exact ⟨Pst.e1, Pst.bes⟩
 ·replace c3 := Bool.eq_false_iff.mpr c3
  subst c3
  rw [if_neg Pst.ft] at H
  obtain rfl := Option.some.inj H
  go_enter Tryz.func58, Tryz.ntmps58
  go_wp2_with (first | ((with_reducible refine gate_dst (N := 1) rfl ?_); refine Pst.bx 1 #[.int .i64 a0_0, .int .i64 a0_1, .int .i64 a0_2] 25 ?_; intro gb379 hg w11 hbox hb; have BK379 := Pst.A hbox; have GW379 := Pst.A (Pst.gs hg : w.heap.size ≤ gb379); have GE379 := Pst.A (Pst.gs hg : w.heap.size ≤ gb379); replace HB := Pst.A (below_step Pst.bel hb); clear hb hbox hg; obtain ⟨_,_,_⟩ := Pst.c3 BK379.out; obtain ⟨_,_,_⟩ := Pst.f3 BK379.out) | ((with_reducible refine gate_callee (f := 25) rfl ?_); refine goesL_ (some 5) rfl rfl Tryz.func25 (by kernel_rfl) rfl #[.int .i64 a0_0, .int .i64 0, .int .i64 1000] rfl Pst.ga ?_; (with_reducible refine (impl_in.calls a0_0 0 1000 false _ A2.out).mono ?_); rintro e w' ⟨rfl, ⟨nd, rfl⟩⟩; refine ⟨_, rfl, ?_⟩))
  go_ret
  exact ⟨Pst.e1, Pst.bes⟩

/-! ### impl_SideOk: function 83 -/
def impl_SideOk.l0 : Nat → List (S101) → Int → Int → List (S101) → Int → Int → Option (Bool)
 | 0, _, _, _, _, _, _ => none
 | k + 1, x6, x7, x8, x384000, x384001, x384002 => if x8 < x7 then (if 0 ≤ x8 then (if x8 < (x6.length : Int) then ((impl_in.f ((rd_T101 x6 x8).f0) 0 1).bind fun t388 => (if t388 = true then ((impl_in.f ((rd_T101 x6 x8).f1) 1 1000).bind fun t389 => (if t389 = true then ((impl_in.f ((rd_T101 x6 x8).f2) 1 1000).bind fun t390 => (if t390 = true then (impl_SideOk.l0 k x6 x7 (wrap64 (x8 + 1)) x384000 x384001 x384002) else (some false))) else (some false))) else (some false))) else (none)) else (none)) else (if (x384000.length : Int) ≤ 3 then ((impl_in.f x384001 0 2).bind fun t384 => (if t384 = true then ((impl_in.f x384002 0 1000).bind fun t385 => (some t385)) else (some false))) else (some false))
def impl_SideOk.f (k : Nat) (l0_0 : List (S101)) (a0_1 : Int) (a0_2 : Int) : Option (Bool) := impl_SideOk.l0 k l0_0 (l0_0.length : Int) 0 l0_0 a0_1 a0_2
theorem impl_SideOk.mono_l : ∀ k, (∀ y0 y1 y2 y3 y4 y5, LeO (impl_SideOk.l0 k y0 y1 y2 y3 y4 y5) (impl_SideOk.l0 (k + 1) y0 y1 y2 y3 y4 y5))
 | 0 => fun _ _ _ _ _ _ r h => by simp [impl_SideOk.l0] at h
 | k + 1 => by
  have ih0 := impl_SideOk.mono_l k
  intro y0 y1 y2 y3 y4 y5
  unfold impl_SideOk.l0
  exact Pst.mo
theorem impl_SideOk.mono : ∀ a0 a1 a2 k, LeO (impl_SideOk.f k a0 a1 a2) (impl_SideOk.f (k + 1) a0 a1 a2) := by
 intro a0 a1 a2 k
 have ih0 := impl_SideOk.mono_l k
 unfold impl_SideOk.f
 exact Pst.mo
theorem impl_SideOk.calls (k : Nat) (A0_0 : Option Addr) (c0_0 : Nat) (l0_0 : List (S101)) (a0_1 : Int) (a0_2 : Int) (r : Bool) (w : World) (hr0_0 : Kd.C k101 w A0_0 l0_0.length l0_0) (hc0_0 : l0_0.length ≤ c0_0) (h : impl_SideOk.f k l0_0 a0_1 a0_2 = some r) :
 Calls Tryz.prog 83 #[.agg #[.slice A0_0 l0_0.length c0_0, .int .i64 a0_1, .int .i64 a0_2]] w fun e w' => e = .returned (.bool r) ∧ Below w.heap.size w w' := by
 have hu29 := Tryz.underlying29
 have hu101 := Tryz.underlying101
 have HR0_0 := Pst.A hr0_0
 have HC0_0 := Pst.A hc0_0
 clear hr0_0 hc0_0
 have HB := Pst.A (Below.refl w.heap.size w)
 have H : (impl_SideOk.l0 k l0_0 (l0_0.length : Int) 0 l0_0 a0_1 a0_2) = some r := h
 clear h
 have H' := Pst.A H
 clear H
 go_enter Tryz.func83, Tryz.ntmps83
 go_wp2_with (first | ((with_reducible refine gate_dst (N := 1) rfl ?_); refine Pst.bx 1 #[.slice A0_0 l0_0.length c0_0, .int .i64 a0_1, .int .i64 a0_2] 29 ?_; intro gb383 hg w2 hbox hb; have BK383 := Pst.A hbox; have GW383 := Pst.A (Pst.gs hg : w.heap.size ≤ gb383); have GE383 := Pst.A (Pst.gs hg : w.heap.size ≤ gb383); replace HB := Pst.A (below_step Pst.bel hb); clear hb hbox hg; obtain ⟨hcz3_0, hcz3_1, hcz3_2⟩ := Pst.c3 BK383.out; obtain ⟨hfz3_0, hfz3_1, hfz3_2⟩ := Pst.f3 BK383.out))
 go_loopg [8] k (fun kq v8 w' => ∃ (x8_1 : Int), v8 = .int .i64 x8_1 ∧ Aside0 (impl_SideOk.l0 kq l0_0 (l0_0.length : Int) x8_1 l0_0 a0_1 a0_2 = some r) ∧ Aside0 (kq ≤ k) ∧ Aside0 (w'.heap[gb383]? = some (.cells #[(.slice A0_0 l0_0.length c0_0), .int .i64 a0_1, .int .i64 a0_2] 29 (0, 0))) ∧ Aside0 (Below w.heap.size w w'))
 case atStart => exact ⟨(0), Pst.e2, H', ⟨Nat.le_refl _⟩, ⟨by exact Pst.qb BK383.out⟩, ⟨Pst.bes⟩⟩
 clear H'
 try clear p2
 obtain ⟨x8_1, rfl, HA, HK1, BK383, HB⟩ := hrel
 cases gk with
 | zero => exact absurd HA.out (by simp [impl_SideOk.l0])
 | succ k1 =>
  have H := HA.out
  clear HA
  simp only [impl_SideOk.l0] at H
  by_cases c4 : x8_1 < (l0_0.length : Int)
  ·rw [if_pos c4] at H
   have c4b0 : decide (x8_1 < (l0_0.length : Int)) = true := decide_eq_true c4
   clear c4
   by_cases c5 : 0 ≤ x8_1
   ·rw [if_pos c5] at H
    have c5b0 : decide (0 ≤ x8_1) = true := decide_eq_true c5
    clear c5
    by_cases c6 : x8_1 < (l0_0.length : Int)
    ·rw [if_pos c6] at H
     have c6b0 : decide (x8_1 < (l0_0.length : Int)) = true := decide_eq_true c6
     clear c6
     obtain ⟨t388, A70, H⟩ := Pst.bd H
     have A7 := Pst.A A70
     clear A70
     by_cases c8 : t388 = true
     ·subst c8
      rw [if_pos rfl] at H
      obtain ⟨t389, A90, H⟩ := Pst.bd H
      have A9 := Pst.A A90
      clear A90
      by_cases c10 : t389 = true
      ·subst c10
       rw [if_pos rfl] at H
       obtain ⟨t390, A110, H⟩ := Pst.bd H
       have A11 := Pst.A A110
       clear A110
       by_cases c12 : t390 = true
       ·subst c12
        rw [if_pos rfl] at H
        have H' := Pst.A H
        clear H
        have p386 : 0 ≤ (x8_1 : Int) := Pst.da
        have q386 : x8_1 < (l0_0.length : Int) := Pst.da
        obtain ⟨ad386, e386, hx386_0, hx386_1, hx386_2⟩ := at_T101 HR0_0.out x8_1 p386 q386
        cases e386
        replace hx386_0 := (HB.out.cell (World.block_lt_of_cell? w _ hx386_0)).trans hx386_0
        replace hx386_1 := (HB.out.cell (World.block_lt_of_cell? w _ hx386_1)).trans hx386_1
        replace hx386_2 := (HB.out.cell (World.block_lt_of_cell? w _ hx386_2)).trans hx386_2
        replace p386 := eq_true p386
        replace q386 := eq_true q386
        go_wp2_with (first | ((with_reducible refine gate_dst (N := 4) rfl ?_); refine Pst.bx 4 #[.int .i64 0, .int .i64 0, .int .i64 0] 101 ?_; intro gb387 hg w13 hbox hb; have BK387 := Pst.A hbox; have GW387 := Pst.A (Pst.gs hg : w.heap.size ≤ gb387); have GE387 := Pst.A (Pst.gs hg : w.heap.size ≤ gb387); have NB383_387 := Pst.A (Pst.nl BK383.out hg); have NB387_383 := Pst.A (Pst.nr BK383.out hg); replace BK383 := Pst.A (Pst.kb BK383.out hb); replace HB := Pst.A (below_step Pst.bes hb); clear hb hbox hg; have hnb14 := NB387_383.out; have hnc14 := NB383_387.out; obtain ⟨hcz15_0, hcz15_1, hcz15_2⟩ := Pst.c3 BK387.out; obtain ⟨hfz15_0, hfz15_1, hfz15_2⟩ := Pst.f3 BK387.out) | ((with_reducible refine gate_callee (f := 25) rfl ?_); refine goesL_ (some 14) rfl rfl Tryz.func25 (by kernel_rfl) rfl #[.int .i64 ((rd_T101 l0_0 x8_1).f0), .int .i64 0, .int .i64 1] rfl Pst.ga ?_; (with_reducible refine (impl_in.calls ((rd_T101 l0_0 x8_1).f0) 0 1 true _ A7.out).mono ?_); rintro e w' ⟨rfl, ⟨nd, rfl⟩⟩; refine ⟨_, rfl, ?_⟩) | (go_at_call 25; (with_reducible refine (impl_in.calls ((rd_T101 l0_0 x8_1).f1) 1 1000 true _ A9.out).mono ?_); rintro e w' ⟨rfl, ⟨nd, rfl⟩⟩) | (go_at_call 25; (with_reducible refine (impl_in.calls ((rd_T101 l0_0 x8_1).f2) 1 1000 true _ A11.out).mono ?_); rintro e w' ⟨rfl, ⟨nd, rfl⟩⟩))
        go_roundg k1
        case measure => have := HK1.out; omega
        case rel => exact ⟨(wrap64 (x8_1 + 1)), Pst.e2, H', ⟨by have := HK1.out; omega⟩, ⟨by (with_reducible repeat (first | refine blk_drewN ?_ _ | refine blk_drew ?_ | refine blk_alloc ?_ _)); refine blk_far ?_ NB383_387.out _; (with_reducible repeat (first | refine blk_drewN ?_ _ | refine blk_drew ?_ | refine blk_alloc ?_ _)); refine blk_far ?_ NB383_387.out _; (with_reducible repeat (first | refine blk_drewN ?_ _ | refine blk_drew ?_ | refine blk_alloc ?_ _)); refine blk_far ?_ NB383_387.out _; exact Pst.qb BK383.out⟩, ⟨Pst.bes⟩⟩
       replace c12 := Bool.eq_false_iff.mpr c12
       subst c12
       rw [if_neg Pst.ft] at H
       obtain rfl := Option.some.inj H
       have p386 : 0 ≤ (x8_1 : Int) := Pst.da
       have q386 : x8_1 < (l0_0.length : Int) := Pst.da
       obtain ⟨ad386, e386, hx386_0, hx386_1, hx386_2⟩ := at_T101 HR0_0.out x8_1 p386 q386
       cases e386
       replace hx386_0 := (HB.out.cell (World.block_lt_of_cell? w _ hx386_0)).trans hx386_0
       replace hx386_1 := (HB.out.cell (World.block_lt_of_cell? w _ hx386_1)).trans hx386_1
       replace hx386_2 := (HB.out.cell (World.block_lt_of_cell? w _ hx386_2)).trans hx386_2
       replace p386 := eq_true p386
       replace q386 := eq_true q386
       go_wp2_with (first | ((with_reducible refine gate_dst (N := 4) rfl ?_); refine Pst.bx 4 #[.int .i64 0, .int .i64 0, .int .i64 0] 101 ?_; intro gb387 hg w16 hbox hb; have BK387 := Pst.A hbox; have GW387 := Pst.A (Pst.gs hg : w.heap.size ≤ gb387); have GE387 := Pst.A (Pst.gs hg : w.heap.size ≤ gb387); have NB383_387 := Pst.A (Pst.nl BK383.out hg); have NB387_383 := Pst.A (Pst.nr BK383.out hg); replace BK383 := Pst.A (Pst.kb BK383.out hb); replace HB := Pst.A (below_step Pst.bes hb); clear hb hbox hg; have hnb17 := NB387_383.out; have hnc17 := NB383_387.out; obtain ⟨hcz18_0, hcz18_1, hcz18_2⟩ := Pst.c3 BK387.out; obtain ⟨hfz18_0, hfz18_1, hfz18_2⟩ := Pst.f3 BK387.out) | ((with_reducible refine gate_callee (f := 25) rfl ?_); refine goesL_ (some 14) rfl rfl Tryz.func25 (by kernel_rfl) rfl #[.int .i64 ((rd_T101 l0_0 x8_1).f0), .int .i64 0, .int .i64 1] rfl Pst.ga ?_; (with_reducible refine (impl_in.calls ((rd_T101 l0_0 x8_1).f0) 0 1 true _ A7.out).mono ?_); rintro e w' ⟨rfl, ⟨nd, rfl⟩⟩; refine ⟨_, rfl, ?_⟩) | (go_at_call 25; (with_reducible refine (impl_in.calls ((rd_T101 l0_0 x8_1).f1) 1 1000 true _ A9.out).mono ?_); rintro e w' ⟨rfl, ⟨nd, rfl⟩⟩) | (go_at_call 25; (with_reducible refine (impl_in.calls ((rd_T101 l0_0 x8_1).f2) 1 1000 false _ A11.out).mono ?_); rintro e w' ⟨rfl, ⟨nd, rfl⟩⟩))
       go_ret
       exact ⟨Pst.e1, Pst.bes⟩
      replace c10 := Bool.eq_false_iff.mpr c10
      subst c10
      rw [if_neg Pst.ft] at H
      obtain rfl := Option.some.inj H
      have p386 : 0 ≤ (x8_1 : Int) := Pst.da
      have q386 : x8_1 < (l0_0.length : Int) := Pst.da
      obtain ⟨ad386, e386, hx386_0, hx386_1, hx386_2⟩ := at_T101 HR0_0.out x8_1 p386 q386
      cases e386
      replace hx386_0 := (HB.out.cell (World.block_lt_of_cell? w _ hx386_0)).trans hx386_0
      replace hx386_1 := (HB.out.cell (World.block_lt_of_cell? w _ hx386_1)).trans hx386_1
      replace hx386_2 := (HB.out.cell (World.block_lt_of_cell? w _ hx386_2)).trans hx386_2
      replace p386 := eq_true p386
      replace q386 := eq_true q386
      go_wp2_with (first | ((with_reducible refine gate_dst (N := 4) rfl ?_); refine Pst.bx 4 #[.int .i64 0, .int .i64 0, .int .i64 0] 101 ?_; intro gb387 hg w19 hbox hb; have BK387 := Pst.A hbox; have GW387 := Pst.A (Pst.gs hg : w.heap.size ≤ gb387); have GE387 := Pst.A (Pst.gs hg : w.heap.size ≤ gb387); have NB383_387 := Pst.A (Pst.nl BK383.out hg); have NB387_383 := Pst.A (Pst.nr BK383.out hg); replace BK383 := Pst.A (Pst.kb BK383.out hb); replace HB := Pst.A (below_step Pst.bes hb); clear hb hbox hg; have hnb20 := NB387_383.out; have hnc20 := NB383_387.out; obtain ⟨hcz21_0, hcz21_1, hcz21_2⟩ := Pst.c3 BK387.out; obtain ⟨hfz21_0, hfz21_1, hfz21_2⟩ := Pst.f3 BK387.out) | ((with_reducible refine gate_callee (f := 25) rfl ?_); refine goesL_ (some 14) rfl rfl Tryz.func25 (by kernel_rfl) rfl #[.int .i64 ((rd_T101 l0_0 x8_1).f0), .int .i64 0, .int .i64 1] rfl Pst.ga ?_; (with_reducible refine (impl_in.calls ((rd_T101 l0_0 x8_1).f0) 0 1 true _ A7.out).mono ?_); rintro e w' ⟨rfl, ⟨nd, rfl⟩⟩; refine ⟨_, rfl, ?_⟩) | (go_at_call 25; (with_reducible refine (impl_in.calls ((rd_T101 l0_0 x8_1).f1) 1 1000 false _ A9.out).mono ?_); rintro e w' ⟨rfl, ⟨nd, rfl⟩⟩))
      go_ret
      exact ⟨Pst.e1, Pst.bes⟩
     replace c8 := Bool.eq_false_iff.mpr c8
     subst c8
     rw [if_neg Pst.ft] at H
     obtain rfl := Option.some.inj H
     have p386 : 0 ≤ (x8_1 : Int) := Pst.da
     have q386 : x8_1 < (l0_0.length : Int) := Pst.da
     obtain ⟨ad386, e386, hx386_0, hx386_1, hx386_2⟩ := at_T101 HR0_0.out x8_1 p386 q386
     cases e386
     replace hx386_0 := (HB.out.cell (World.block_lt_of_cell? w _ hx386_0)).trans hx386_0
     replace hx386_1 := (HB.out.cell (World.block_lt_of_cell? w _ hx386_1)).trans hx386_1
     replace hx386_2 := (HB.out.cell (World.block_lt_of_cell? w _ hx386_2)).trans hx386_2
     replace p386 := eq_true p386
     replace q386 := eq_true q386
     go_wp2_with (first | ((with_reducible refine gate_dst (N := 4) rfl ?_); refine Pst.bx 4 #[.int .i64 0, .int .i64 0, .int .i64 0] 101 ?_; intro gb387 hg w22 hbox hb; have BK387 := Pst.A hbox; have GW387 := Pst.A (Pst.gs hg : w.heap.size ≤ gb387); have GE387 := Pst.A (Pst.gs hg : w.heap.size ≤ gb387); have NB383_387 := Pst.A (Pst.nl BK383.out hg); have NB387_383 := Pst.A (Pst.nr BK383.out hg); replace BK383 := Pst.A (Pst.kb BK383.out hb); replace HB := Pst.A (below_step Pst.bes hb); clear hb hbox hg; have hnb23 := NB387_383.out; have hnc23 := NB383_387.out; obtain ⟨hcz24_0, hcz24_1, hcz24_2⟩ := Pst.c3 BK387.out; obtain ⟨hfz24_0, hfz24_1, hfz24_2⟩ := Pst.f3 BK387.out) | ((with_reducible refine gate_callee (f := 25) rfl ?_); refine goesL_ (some 14) rfl rfl Tryz.func25 (by kernel_rfl) rfl #[.int .i64 ((rd_T101 l0_0 x8_1).f0), .int .i64 0, .int .i64 1] rfl Pst.ga ?_; (with_reducible refine (impl_in.calls ((rd_T101 l0_0 x8_1).f0) 0 1 false _ A7.out).mono ?_); rintro e w' ⟨rfl, ⟨nd, rfl⟩⟩; refine ⟨_, rfl, ?_⟩))
     go_ret
     exact ⟨Pst.e1, Pst.bes⟩
    rw [if_neg c6] at H
    exact absurd H (by simp)
   rw [if_neg c5] at H
   exact absurd H (by simp)
  rw [if_neg c4] at H
  have c4b0 : decide (x8_1 < (l0_0.length : Int)) = false := decide_eq_false c4
  clear c4
  by_cases c25 : (l0_0.length : Int) ≤ 3
  ·rw [if_pos c25] at H
   have c25b0 : decide ((l0_0.length : Int) ≤ 3) = true := decide_eq_true c25
   have c25b1 : decide (l0_0.length ≤ 3) = true := decide_eq_true (by omega)
   clear c25
   obtain ⟨t384, A260, H⟩ := Pst.bd H
   have A26 := Pst.A A260
   clear A260
   by_cases c27 : t384 = true
   ·subst c27
    rw [if_pos rfl] at H
    obtain ⟨t385, A280, H⟩ := Pst.bd H
    have A28 := Pst.A A280
    clear A280
    obtain rfl := Option.some.inj H
    obtain ⟨hcz29_0, hcz29_1, hcz29_2⟩ := Pst.c3 BK383.out
    obtain ⟨hfz29_0, hfz29_1, hfz29_2⟩ := Pst.f3 BK383.out
    go_wp2_with (first | (go_at_call 25; (with_reducible refine (impl_in.calls a0_1 0 2 true _ A26.out).mono ?_); rintro e w' ⟨rfl, ⟨nd, rfl⟩⟩) | (go_at_call 25; (with_reducible refine (impl_in.calls a0_2 0 1000 t385 _ A28.out).mono ?_); rintro e w' ⟨rfl, ⟨nd, rfl⟩⟩))
    go_ret
    exact ⟨Pst.e1, Pst.bes⟩
   replace c27 := Bool.eq_false_iff.mpr c27
   subst c27
   rw [if_neg Pst.ft] at H
   obtain rfl := Option.some.inj H
   obtain ⟨hcz30_0, hcz30_1, hcz30_2⟩ := Pst.c3 BK383.out
   obtain ⟨hfz30_0, hfz30_1, hfz30_2⟩ := Pst.f3 BK383.out
   go_wp2_with (first | (go_at_call 25; (with_reducible refine (impl_in.calls a0_1 0 2 false _ A26.out).mono ?_); rintro e w' ⟨rfl, ⟨nd, rfl⟩⟩))
   go_ret
   exact ⟨Pst.e1, Pst.bes⟩
  rw [if_neg c25] at H
  have c25b0 : decide ((l0_0.length : Int) ≤ 3) = false := decide_eq_false c25
  have c25b1 : decide (l0_0.length ≤ 3) = false := decide_eq_false (by omega)
  clear c25
  obtain rfl := Option.some.inj H
  obtain ⟨hcz31_0, hcz31_1, hcz31_2⟩ := Pst.c3 BK383.out
  obtain ⟨hfz31_0, hfz31_1, hfz31_2⟩ := Pst.f3 BK383.out
  go_wp2
  go_ret
  exact ⟨Pst.e1, Pst.bes⟩
theorem impl_SideOk.l0.st {x6 : List (S101)} {x7 : Int} {x8 : Int} {x384000 : List (S101)} {x384001 : Int} {x384002 : Int} {r : (Bool)} (H : Ev (fun k => if x8 < x7 then (if 0 ≤ x8 then (if x8 < (x6.length : Int) then ((impl_in.f ((rd_T101 x6 x8).f0) 0 1).bind fun t388 => (if t388 = true then ((impl_in.f ((rd_T101 x6 x8).f1) 1 1000).bind fun t389 => (if t389 = true then ((impl_in.f ((rd_T101 x6 x8).f2) 1 1000).bind fun t390 => (if t390 = true then (impl_SideOk.l0 k x6 x7 (wrap64 (x8 + 1)) x384000 x384001 x384002) else (some false))) else (some false))) else (some false))) else (none)) else (none)) else (if (x384000.length : Int) ≤ 3 then ((impl_in.f x384001 0 2).bind fun t384 => (if t384 = true then ((impl_in.f x384002 0 1000).bind fun t385 => (some t385)) else (some false))) else (some false))) r) : Ev (fun k => impl_SideOk.l0 k x6 x7 x8 x384000 x384001 x384002) r := Ev.step (fun k => impl_SideOk.l0.eq_2 x6 x7 x8 x384000 x384001 x384002 k) H

/-! ### impl_BehaveOk: function 59 -/
def impl_BehaveOk.f (k : Nat) (l0_0 : List (S101)) (a0_1 : Int) (a0_2 : Int) (l0_3 : List (S101)) (a0_4 : Int) (a0_5 : Int) (a0_6 : Int) (a0_7 : Int) : Option (Bool) := (impl_SideOk.f k l0_0 a0_1 a0_2).bind fun t392 => (if t392 = true then ((impl_SideOk.f k l0_3 a0_4 a0_5).bind fun t393 => (if t393 = true then (if a0_6 ≥ 0 then (if a0_6 ≤ a0_7 then (some (decide (a0_7 ≤ 1000))) else (some false)) else (some false)) else (some false))) else (some false))
theorem impl_BehaveOk.mono : ∀ a0 a1 a2 a3 a4 a5 a6 a7 k, LeO (impl_BehaveOk.f k a0 a1 a2 a3 a4 a5 a6 a7) (impl_BehaveOk.f (k + 1) a0 a1 a2 a3 a4 a5 a6 a7) := by
 intro a0 a1 a2 a3 a4 a5 a6 a7 k
 unfold impl_BehaveOk.f
 have m0 := @impl_SideOk.mono
 exact Pst.mo
theorem impl_BehaveOk.calls (k : Nat) (A0_0 : Option Addr) (c0_0 : Nat) (l0_0 : List (S101)) (a0_1 : Int) (a0_2 : Int) (A0_3 : Option Addr) (c0_3 : Nat) (l0_3 : List (S101)) (a0_4 : Int) (a0_5 : Int) (a0_6 : Int) (a0_7 : Int) (r : Bool) (w : World) (hr0_0 : Kd.C k101 w A0_0 l0_0.length l0_0) (hc0_0 : l0_0.length ≤ c0_0) (hr0_3 : Kd.C k101 w A0_3 l0_3.length l0_3) (hc0_3 : l0_3.length ≤ c0_3) (h : impl_BehaveOk.f k l0_0 a0_1 a0_2 l0_3 a0_4 a0_5 a0_6 a0_7 = some r) :
    Calls Tryz.prog 59 #[.agg #[.slice A0_0 l0_0.length c0_0, .int .i64 a0_1, .int .i64 a0_2, .slice A0_3 l0_3.length c0_3, .int .i64 a0_4, .int .i64 a0_5, .int .i64 a0_6, .int .i64 a0_7]] w fun e w' => e = .returned (.bool r) ∧ Below w.heap.size w w' := by
 have hu31 := Tryz.underlying31
 have hu29 := Tryz.underlying29
 have HR0_0 := Pst.A hr0_0
 have HC0_0 := Pst.A hc0_0
 clear hr0_0 hc0_0
 have HR0_3 := Pst.A hr0_3
 have HC0_3 := Pst.A hc0_3
 clear hr0_3 hc0_3
 have HB := Pst.A (Below.refl w.heap.size w)
 have H : ((impl_SideOk.f k l0_0 a0_1 a0_2).bind fun t392 => (if t392 = true then ((impl_SideOk.f k l0_3 a0_4 a0_5).bind fun t393 => (if t393 = true then (if a0_6 ≥ 0 then (if a0_6 ≤ a0_7 then (some (decide (a0_7 ≤ 1000))) else (some false)) else (some false)) else (some false))) else (some false))) = some r := h
 clear h
 obtain ⟨t392, A20, H⟩ := Pst.bd H
 have A2 := Pst.A A20
 clear A20
 by_cases c3 : t392 = true
 ·subst c3
  rw [if_pos rfl] at H
  obtain ⟨t393, A40, H⟩ := Pst.bd H
  have A4 := Pst.A A40
  clear A40
  by_cases c5 : t393 = true
  ·subst c5
   rw [if_pos rfl] at H
   by_cases c6 : a0_6 ≥ 0
   ·rw [if_pos c6] at H
    have c6b0 : decide (0 ≤ a0_6) = true := decide_eq_true c6
    clear c6
    by_cases c7 : a0_6 ≤ a0_7
    ·rw [if_pos c7] at H
     have c7b0 : decide (a0_6 ≤ a0_7) = true := decide_eq_true c7
     clear c7
     obtain rfl := Option.some.inj H
     go_enter Tryz.func59, Tryz.ntmps59
     go_wp2_with (first | ((with_reducible refine gate_dst (N := 1) rfl ?_); refine Pst.bx 1 #[.slice A0_0 l0_0.length c0_0, .int .i64 a0_1, .int .i64 a0_2, .slice A0_3 l0_3.length c0_3, .int .i64 a0_4, .int .i64 a0_5, .int .i64 a0_6, .int .i64 a0_7] 31 ?_; intro gb391 hg w8 hbox hb; have BK391 := Pst.A hbox; have GW391 := Pst.A (Pst.gs hg : w.heap.size ≤ gb391); have GE391 := Pst.A (Pst.gs hg : w.heap.size ≤ gb391); replace HB := Pst.A (below_step Pst.bel hb); clear hb hbox hg; obtain ⟨_,_,_,_,_,_,_,_⟩ := Pst.c8 BK391.out; obtain ⟨_,_,_,_,_,_,_,_⟩ := Pst.f8 BK391.out) | ((with_reducible refine gate_callee (f := 83) rfl ?_); refine goesL_ (some 5) rfl rfl Tryz.func83 (by kernel_rfl) rfl #[.agg #[.slice A0_0 l0_0.length c0_0, .int .i64 a0_1, .int .i64 a0_2]] rfl Pst.ga ?_; (with_reducible refine (impl_SideOk.calls k _ _ l0_0 a0_1 a0_2 true _ ?side1 ?side2 A2.out).mono ?_); (case side1 => exact Pst.qc (Kd.C_below HR0_0.out HB.out)); (case side2 => exact HC0_0.out); rintro e w10 ⟨rfl, hb⟩; refine ⟨_, rfl, ?_⟩; replace BK391 := Pst.A (Pst.kb BK391.out hb); replace HB := Pst.A (below_step Pst.bes hb); (try clear hb); (try clear hb2); (try clear hk); (try clear hi); obtain ⟨_,_,_,_,_,_,_,_⟩ := Pst.c8 BK391.out; obtain ⟨_,_,_,_,_,_,_,_⟩ := Pst.f8 BK391.out) | (go_at_call 83; (with_reducible refine (impl_SideOk.calls k _ _ l0_3 a0_4 a0_5 true _ ?side1 ?side2 A4.out).mono ?_); (case side1 => exact Pst.qc (Kd.C_below HR0_3.out HB.out)); (case side2 => exact HC0_3.out); rintro e w12 ⟨rfl, hb⟩; replace BK391 := Pst.A (Pst.kb BK391.out hb); replace HB := Pst.A (below_step Pst.bes hb); (try clear hb); (try clear hb2); (try clear hk); (try clear hi); obtain ⟨_,_,_,_,_,_,_,_⟩ := Pst.c8 BK391.out; obtain ⟨_,_,_,_,_,_,_,_⟩ := Pst.f8 BK391.out))
     go_ret
     exact ⟨Pst.e1, Pst.bes⟩
    ·rw [if_neg c7] at H
     have c7b0 : decide (a0_6 ≤ a0_7) = false := decide_eq_false c7
     clear c7
     obtain rfl := Option.some.inj H
     go_enter Tryz.func59, Tryz.ntmps59
     go_wp2_with (first | ((with_reducible refine gate_dst (N := 1) rfl ?_); refine Pst.bx 1 #[.slice A0_0 l0_0.length c0_0, .int .i64 a0_1, .int .i64 a0_2, .slice A0_3 l0_3.length c0_3, .int .i64 a0_4, .int .i64 a0_5, .int .i64 a0_6, .int .i64 a0_7] 31 ?_; intro gb391 hg w14 hbox hb; have BK391 := Pst.A hbox; have GW391 := Pst.A (Pst.gs hg : w.heap.size ≤ gb391); have GE391 := Pst.A (Pst.gs hg : w.heap.size ≤ gb391); replace HB := Pst.A (below_step Pst.bel hb); clear hb hbox hg; obtain ⟨_,_,_,_,_,_,_,_⟩ := Pst.c8 BK391.out; obtain ⟨_,_,_,_,_,_,_,_⟩ := Pst.f8 BK391.out) | ((with_reducible refine gate_callee (f := 83) rfl ?_); refine goesL_ (some 5) rfl rfl Tryz.func83 (by kernel_rfl) rfl #[.agg #[.slice A0_0 l0_0.length c0_0, .int .i64 a0_1, .int .i64 a0_2]] rfl Pst.ga ?_; (with_reducible refine (impl_SideOk.calls k _ _ l0_0 a0_1 a0_2 true _ ?side1 ?side2 A2.out).mono ?_); (case side1 => exact Pst.qc (Kd.C_below HR0_0.out HB.out)); (case side2 => exact HC0_0.out); rintro e w16 ⟨rfl, hb⟩; refine ⟨_, rfl, ?_⟩; replace BK391 := Pst.A (Pst.kb BK391.out hb); replace HB := Pst.A (below_step Pst.bes hb); (try clear hb); (try clear hb2); (try clear hk); (try clear hi); obtain ⟨_,_,_,_,_,_,_,_⟩ := Pst.c8 BK391.out; obtain ⟨_,_,_,_,_,_,_,_⟩ := Pst.f8 BK391.out) | (go_at_call 83; (with_reducible refine (impl_SideOk.calls k _ _ l0_3 a0_4 a0_5 true _ ?side1 ?side2 A4.out).mono ?_); (case side1 => exact Pst.qc (Kd.C_below HR0_3.out HB.out)); (case side2 => exact HC0_3.out); rintro e w18 ⟨rfl, hb⟩; replace BK391 := Pst.A (Pst.kb BK391.out hb); replace HB := Pst.A (below_step Pst.bes hb); (try clear hb); (try clear hb2); (try clear hk); (try clear hi); obtain ⟨_,_,_,_,_,_,_,_⟩ := Pst.c8 BK391.out; obtain ⟨_,_,_,_,_,_,_,_⟩ := Pst.f8 BK391.out))
     go_ret
     exact ⟨Pst.e1, Pst.bes⟩
   ·rw [if_neg c6] at H
    have c6b0 : decide (0 ≤ a0_6) = false := decide_eq_false c6
    clear c6
    obtain rfl := Option.some.inj H
    go_enter Tryz.func59, Tryz.ntmps59
    go_wp2_with (first | ((with_reducible refine gate_dst (N := 1) rfl ?_); refine Pst.bx 1 #[.slice A0_0 l0_0.length c0_0, .int .i64 a0_1, .int .i64 a0_2, .slice A0_3 l0_3.length c0_3, .int .i64 a0_4, .int .i64 a0_5, .int .i64 a0_6, .int .i64 a0_7] 31 ?_; intro gb391 hg w20 hbox hb; have BK391 := Pst.A hbox; have GW391 := Pst.A (Pst.gs hg : w.heap.size ≤ gb391); have GE391 := Pst.A (Pst.gs hg : w.heap.size ≤ gb391); replace HB := Pst.A (below_step Pst.bel hb); clear hb hbox hg; obtain ⟨_,_,_,_,_,_,_,_⟩ := Pst.c8 BK391.out; obtain ⟨_,_,_,_,_,_,_,_⟩ := Pst.f8 BK391.out) | ((with_reducible refine gate_callee (f := 83) rfl ?_); refine goesL_ (some 5) rfl rfl Tryz.func83 (by kernel_rfl) rfl #[.agg #[.slice A0_0 l0_0.length c0_0, .int .i64 a0_1, .int .i64 a0_2]] rfl Pst.ga ?_; (with_reducible refine (impl_SideOk.calls k _ _ l0_0 a0_1 a0_2 true _ ?side1 ?side2 A2.out).mono ?_); (case side1 => exact Pst.qc (Kd.C_below HR0_0.out HB.out)); (case side2 => exact HC0_0.out); rintro e w22 ⟨rfl, hb⟩; refine ⟨_, rfl, ?_⟩; replace BK391 := Pst.A (Pst.kb BK391.out hb); replace HB := Pst.A (below_step Pst.bes hb); (try clear hb); (try clear hb2); (try clear hk); (try clear hi); obtain ⟨_,_,_,_,_,_,_,_⟩ := Pst.c8 BK391.out; obtain ⟨_,_,_,_,_,_,_,_⟩ := Pst.f8 BK391.out) | (go_at_call 83; (with_reducible refine (impl_SideOk.calls k _ _ l0_3 a0_4 a0_5 true _ ?side1 ?side2 A4.out).mono ?_); (case side1 => exact Pst.qc (Kd.C_below HR0_3.out HB.out)); (case side2 => exact HC0_3.out); rintro e w24 ⟨rfl, hb⟩; replace BK391 := Pst.A (Pst.kb BK391.out hb); replace HB := Pst.A (below_step Pst.bes hb); (try clear hb); (try clear hb2); (try clear hk); (try clear hi); obtain ⟨_,_,_,_,_,_,_,_⟩ := Pst.c8 BK391.out; obtain ⟨_,_,_,_,_,_,_,_⟩ := Pst.f8 BK391.out))
    go_ret
    exact ⟨Pst.e1, Pst.bes⟩
  ·replace c5 := Bool.eq_false_iff.mpr c5
   subst c5
   rw [if_neg Pst.ft] at H
   obtain rfl := Option.some.inj H
   go_enter Tryz.func59, Tryz.ntmps59
   go_wp2_with (first | ((with_reducible refine gate_dst (N := 1) rfl ?_); refine Pst.bx 1 #[.slice A0_0 l0_0.length c0_0, .int .i64 a0_1, .int .i64 a0_2, .slice A0_3 l0_3.length c0_3, .int .i64 a0_4, .int .i64 a0_5, .int .i64 a0_6, .int .i64 a0_7] 31 ?_; intro gb391 hg w26 hbox hb; have BK391 := Pst.A hbox; have GW391 := Pst.A (Pst.gs hg : w.heap.size ≤ gb391); have GE391 := Pst.A (Pst.gs hg : w.heap.size ≤ gb391); replace HB := Pst.A (below_step Pst.bel hb); clear hb hbox hg; obtain ⟨_,_,_,_,_,_,_,_⟩ := Pst.c8 BK391.out; obtain ⟨_,_,_,_,_,_,_,_⟩ := Pst.f8 BK391.out) | ((with_reducible refine gate_callee (f := 83) rfl ?_); refine goesL_ (some 5) rfl rfl Tryz.func83 (by kernel_rfl) rfl #[.agg #[.slice A0_0 l0_0.length c0_0, .int .i64 a0_1, .int .i64 a0_2]] rfl Pst.ga ?_; (with_reducible refine (impl_SideOk.calls k _ _ l0_0 a0_1 a0_2 true _ ?side1 ?side2 A2.out).mono ?_); (case side1 => exact Pst.qc (Kd.C_below HR0_0.out HB.out)); (case side2 => exact HC0_0.out); rintro e w28 ⟨rfl, hb⟩; refine ⟨_, rfl, ?_⟩; replace BK391 := Pst.A (Pst.kb BK391.out hb); replace HB := Pst.A (below_step Pst.bes hb); (try clear hb); (try clear hb2); (try clear hk); (try clear hi); obtain ⟨_,_,_,_,_,_,_,_⟩ := Pst.c8 BK391.out; obtain ⟨_,_,_,_,_,_,_,_⟩ := Pst.f8 BK391.out) | (go_at_call 83; (with_reducible refine (impl_SideOk.calls k _ _ l0_3 a0_4 a0_5 false _ ?side1 ?side2 A4.out).mono ?_); (case side1 => exact Pst.qc (Kd.C_below HR0_3.out HB.out)); (case side2 => exact HC0_3.out); rintro e w30 ⟨rfl, hb⟩; replace BK391 := Pst.A (Pst.kb BK391.out hb); replace HB := Pst.A (below_step Pst.bes hb); (try clear hb); (try clear hb2); (try clear hk); (try clear hi)))
   go_ret
   exact ⟨Pst.e1, Pst.bes⟩
 ·replace c3 := Bool.eq_false_iff.mpr c3
  subst c3
  rw [if_neg Pst.ft] at H
  obtain rfl := Option.some.inj H
  go_enter Tryz.func59, Tryz.ntmps59
  go_wp2_with (first | ((with_reducible refine gate_dst (N := 1) rfl ?_); refine Pst.bx 1 #[.slice A0_0 l0_0.length c0_0, .int .i64 a0_1, .int .i64 a0_2, .slice A0_3 l0_3.length c0_3, .int .i64 a0_4, .int .i64 a0_5, .int .i64 a0_6, .int .i64 a0_7] 31 ?_; intro gb391 hg w31 hbox hb; have BK391 := Pst.A hbox; have GW391 := Pst.A (Pst.gs hg : w.heap.size ≤ gb391); have GE391 := Pst.A (Pst.gs hg : w.heap.size ≤ gb391); replace HB := Pst.A (below_step Pst.bel hb); clear hb hbox hg; obtain ⟨_,_,_,_,_,_,_,_⟩ := Pst.c8 BK391.out; obtain ⟨_,_,_,_,_,_,_,_⟩ := Pst.f8 BK391.out) | ((with_reducible refine gate_callee (f := 83) rfl ?_); refine goesL_ (some 5) rfl rfl Tryz.func83 (by kernel_rfl) rfl #[.agg #[.slice A0_0 l0_0.length c0_0, .int .i64 a0_1, .int .i64 a0_2]] rfl Pst.ga ?_; (with_reducible refine (impl_SideOk.calls k _ _ l0_0 a0_1 a0_2 false _ ?side1 ?side2 A2.out).mono ?_); (case side1 => exact Pst.qc (Kd.C_below HR0_0.out HB.out)); (case side2 => exact HC0_0.out); rintro e w33 ⟨rfl, hb⟩; refine ⟨_, rfl, ?_⟩; replace BK391 := Pst.A (Pst.kb BK391.out hb); replace HB := Pst.A (below_step Pst.bes hb); (try clear hb); (try clear hb2); (try clear hk); (try clear hi)))
  go_ret
  exact ⟨Pst.e1, Pst.bes⟩

/-! ### impl_SetupOk: function 35 -/
def impl_SetupOk.l0 : Nat → List (S48) → Int → Int → Int → Int → Int → List (S48) → List (S101) → Int → Int → List (S101) → Int → Int → Int → Int → Option (Bool)
 | 0, _, _, _, _, _, _, _, _, _, _, _, _, _, _, _ => none
 | k + 1, x6, x7, x8, x395000, x395001, x395002, x395003, x395004, x395005, x395006, x395007, x395008, x395009, x395010, x395011 => if x8 < x7 then (if 0 ≤ x8 then (if x8 < (x6.length : Int) then ((impl_GoalOk.f k ((rd_T48 x6 x8).f0) ((rd_T48 x6 x8).f1) ((rd_T48 x6 x8).f2)).bind fun t400 => (if t400 = true then (if x8 ≤ (x395003.length : Int) then ((impl_goalThere.f (x395003.take (x8 : Int).toNat) ((rd_T48 x6 x8).f0) ((rd_T48 x6 x8).f1) ((rd_T48 x6 x8).f2)).bind fun t405 => (if t405 = true then (some false) else (impl_SetupOk.l0 k x6 x7 (wrap64 (x8 + 1)) x395000 x395001 x395002 x395003 x395004 x395005 x395006 x395007 x395008 x395009 x395010 x395011))) else (none)) else (some false))) else (none)) else (none)) else ((impl_RulesOk.f x395000 x395001 x395002).bind fun t395 => (if t395 = true then ((impl_BehaveOk.f k x395004 x395005 x395006 x395007 x395008 x395009 x395010 x395011).bind fun t396 => (if t396 = true then ((impl_in.f (x395003.length : Int) 1 3).bind fun t397 => (some t397)) else (some false))) else (some false)))
def impl_SetupOk.f (k : Nat) (a0_0 : Int) (a0_1 : Int) (a0_2 : Int) (l0_3 : List (S48)) (l0_4 : List (S101)) (a0_5 : Int) (a0_6 : Int) (l0_7 : List (S101)) (a0_8 : Int) (a0_9 : Int) (a0_10 : Int) (a0_11 : Int) : Option (Bool) := impl_SetupOk.l0 k l0_3 (l0_3.length : Int) 0 a0_0 a0_1 a0_2 l0_3 l0_4 a0_5 a0_6 l0_7 a0_8 a0_9 a0_10 a0_11
theorem impl_SetupOk.mono_l : ∀ k, (∀ y0 y1 y2 y3 y4 y5 y6 y7 y8 y9 y10 y11 y12 y13 y14, LeO (impl_SetupOk.l0 k y0 y1 y2 y3 y4 y5 y6 y7 y8 y9 y10 y11 y12 y13 y14) (impl_SetupOk.l0 (k + 1) y0 y1 y2 y3 y4 y5 y6 y7 y8 y9 y10 y11 y12 y13 y14))
 | 0 => fun _ _ _ _ _ _ _ _ _ _ _ _ _ _ _ r h => by simp [impl_SetupOk.l0] at h
 | k + 1 => by
  have ih0 := impl_SetupOk.mono_l k
  intro y0 y1 y2 y3 y4 y5 y6 y7 y8 y9 y10 y11 y12 y13 y14
  unfold impl_SetupOk.l0
  have m0 := @impl_BehaveOk.mono
  have m1 := @impl_GoalOk.mono
  exact Pst.mo
theorem impl_SetupOk.mono : ∀ a0 a1 a2 a3 a4 a5 a6 a7 a8 a9 a10 a11 k, LeO (impl_SetupOk.f k a0 a1 a2 a3 a4 a5 a6 a7 a8 a9 a10 a11) (impl_SetupOk.f (k + 1) a0 a1 a2 a3 a4 a5 a6 a7 a8 a9 a10 a11) := by
 intro a0 a1 a2 a3 a4 a5 a6 a7 a8 a9 a10 a11 k
 have ih0 := impl_SetupOk.mono_l k
 unfold impl_SetupOk.f
 have m0 := @impl_BehaveOk.mono
 have m1 := @impl_GoalOk.mono
 exact Pst.mo
theorem impl_SetupOk.calls (k : Nat) (a0_0 : Int) (a0_1 : Int) (a0_2 : Int) (A0_3 : Option Addr) (c0_3 : Nat) (l0_3 : List (S48)) (A0_4 : Option Addr) (c0_4 : Nat) (l0_4 : List (S101)) (a0_5 : Int) (a0_6 : Int) (A0_7 : Option Addr) (c0_7 : Nat) (l0_7 : List (S101)) (a0_8 : Int) (a0_9 : Int) (a0_10 : Int) (a0_11 : Int) (r : Bool) (w : World) (hr0_3 : Kd.C k48 w A0_3 l0_3.length l0_3) (hc0_3 : l0_3.length ≤ c0_3) (hr0_4 : Kd.C k101 w A0_4 l0_4.length l0_4) (hc0_4 : l0_4.length ≤ c0_4) (hr0_7 : Kd.C k101 w A0_7 l0_7.length l0_7) (hc0_7 : l0_7.length ≤ c0_7) (h : impl_SetupOk.f k a0_0 a0_1 a0_2 l0_3 l0_4 a0_5 a0_6 l0_7 a0_8 a0_9 a0_10 a0_11 = some r) :
 Calls Tryz.prog 35 #[.agg #[.int .i64 a0_0, .int .i64 a0_1, .int .i64 a0_2, .slice A0_3 l0_3.length c0_3, .slice A0_4 l0_4.length c0_4, .int .i64 a0_5, .int .i64 a0_6, .slice A0_7 l0_7.length c0_7, .int .i64 a0_8, .int .i64 a0_9, .int .i64 a0_10, .int .i64 a0_11]] w fun e w' => e = .returned (.bool r) ∧ Below w.heap.size w w' := by
 have hu33 := Tryz.underlying33
 have hu48 := Tryz.underlying48
 have hu25 := Tryz.underlying25
 have hu31 := Tryz.underlying31
 have HR0_3 := Pst.A hr0_3
 have HC0_3 := Pst.A hc0_3
 clear hr0_3 hc0_3
 have HR0_4 := Pst.A hr0_4
 have HC0_4 := Pst.A hc0_4
 clear hr0_4 hc0_4
 have HR0_7 := Pst.A hr0_7
 have HC0_7 := Pst.A hc0_7
 clear hr0_7 hc0_7
 have HB := Pst.A (Below.refl w.heap.size w)
 have H : (impl_SetupOk.l0 k l0_3 (l0_3.length : Int) 0 a0_0 a0_1 a0_2 l0_3 l0_4 a0_5 a0_6 l0_7 a0_8 a0_9 a0_10 a0_11) = some r := h
 clear h
 have H' := Pst.A H
 clear H
 go_enter Tryz.func35, Tryz.ntmps35
 go_wp2_with (first | ((with_reducible refine gate_dst (N := 1) rfl ?_); (try (refine gate_guard (by rfl) ?_; dsimp only)); refine Pst.bx 1 #[.int .i64 a0_0, .int .i64 a0_1, .int .i64 a0_2, .slice A0_3 l0_3.length c0_3, .slice A0_4 l0_4.length c0_4, .int .i64 a0_5, .int .i64 a0_6, .slice A0_7 l0_7.length c0_7, .int .i64 a0_8, .int .i64 a0_9, .int .i64 a0_10, .int .i64 a0_11] 33 ?_; intro gb394 hg w2 hbox hb; have BK394 := Pst.A hbox; have GW394 := Pst.A (Pst.gs hg : w.heap.size ≤ gb394); have GE394 := Pst.A (Pst.gs hg : w.heap.size ≤ gb394); replace HB := Pst.A (below_step Pst.bel hb); clear hb hbox hg; obtain ⟨hcz3_0, hcz3_1, hcz3_2, hcz3_3, hcz3_4, hcz3_5, hcz3_6, hcz3_7, hcz3_8, hcz3_9, hcz3_10, hcz3_11⟩ := Pst.c12 BK394.out; obtain ⟨hfz3_0, hfz3_1, hfz3_2, hfz3_3, hfz3_4, hfz3_5, hfz3_6, hfz3_7, hfz3_8, hfz3_9, hfz3_10, hfz3_11⟩ := Pst.f12 BK394.out))
 go_loopg [8] k (fun kq v8 w' => ∃ (x8_1 : Int), v8 = .int .i64 x8_1 ∧ Aside0 (impl_SetupOk.l0 kq l0_3 (l0_3.length : Int) x8_1 a0_0 a0_1 a0_2 l0_3 l0_4 a0_5 a0_6 l0_7 a0_8 a0_9 a0_10 a0_11 = some r) ∧ Aside0 (kq ≤ k) ∧ Aside0 (w'.heap[gb394]? = some (.cells #[.int .i64 a0_0, .int .i64 a0_1, .int .i64 a0_2, (.slice A0_3 l0_3.length c0_3), (.slice A0_4 l0_4.length c0_4), .int .i64 a0_5, .int .i64 a0_6, (.slice A0_7 l0_7.length c0_7), .int .i64 a0_8, .int .i64 a0_9, .int .i64 a0_10, .int .i64 a0_11] 33 (0, 0))) ∧ Aside0 (Below w.heap.size w w'))
 case atStart => exact ⟨(0), Pst.e2, H', ⟨Nat.le_refl _⟩, ⟨by exact Pst.qb BK394.out⟩, ⟨Pst.bes⟩⟩
 clear H'
 try clear p2
 try clear c3
 obtain ⟨x8_1, rfl, HA, HK1, BK394, HB⟩ := hrel
 cases gk with
 | zero => exact absurd HA.out (by simp [impl_SetupOk.l0])
 | succ k1 =>
  have H := HA.out
  clear HA
  simp only [impl_SetupOk.l0] at H
  by_cases c4 : x8_1 < (l0_3.length : Int)
  ·rw [if_pos c4] at H
   have c4b0 : decide (x8_1 < (l0_3.length : Int)) = true := decide_eq_true c4
   clear c4
   by_cases c5 : 0 ≤ x8_1
   ·rw [if_pos c5] at H
    have c5b0 : decide (0 ≤ x8_1) = true := decide_eq_true c5
    clear c5
    by_cases c6 : x8_1 < (l0_3.length : Int)
    ·rw [if_pos c6] at H
     have c6b0 : decide (x8_1 < (l0_3.length : Int)) = true := decide_eq_true c6
     clear c6
     obtain ⟨t400, A70, H⟩ := Pst.bd H
     have A7 := Pst.A A70
     clear A70
     by_cases c8 : t400 = true
     ·subst c8
      rw [if_pos rfl] at H
      have c9b0 := eq_true (Pst.da : 0 ≤ x8_1)
      by_cases c10 : x8_1 ≤ (l0_3.length : Int)
      ·rw [if_pos c10] at H
       have c10b0 := eq_true c10
       have c10b1 : decide (x8_1 ≤ (l0_3.length : Int)) = true := decide_eq_true c10
       clear c10
       obtain ⟨y401, hy401⟩ : ∃ y_ : List (S48), y_ = (l0_3.take (x8_1 : Int).toNat) := ⟨_, rfl⟩
       replace H : ((impl_goalThere.f y401 ((rd_T48 l0_3 x8_1).f0) ((rd_T48 l0_3 x8_1).f1) ((rd_T48 l0_3 x8_1).f2)).bind fun t405 => (if t405 = true then (some false) else (impl_SetupOk.l0 k1 l0_3 (l0_3.length : Int) (wrap64 (x8_1 + 1)) a0_0 a0_1 a0_2 l0_3 l0_4 a0_5 a0_6 l0_7 a0_8 a0_9 a0_10 a0_11))) = some r := by first | (rw [hy401]; with_reducible exact H) | (have H2_ := (Option.bind_some _ _).symm.trans H; rw [hy401]; with_reducible exact H2_) | (have H2_ := (Option.bind_some _ _).symm.trans H; with_reducible exact H2_) | with_reducible exact H | (rw [hy401]; exact H) | exact H
       have Ny401 := Pst.A hy401
       clear hy401
       obtain ⟨t405, A110, H⟩ := Pst.bd H
       have A11 := Pst.A A110
       clear A110
       by_cases c12 : t405 = true
       ·subst c12
        rw [if_pos rfl] at H
        obtain rfl := Option.some.inj H
        have p398 : 0 ≤ (x8_1 : Int) := Pst.da
        have q398 : x8_1 < (l0_3.length : Int) := Pst.da
        obtain ⟨ad398, e398, hx398_0, hx398_1, hx398_2⟩ := at_T48 HR0_3.out x8_1 p398 q398
        cases e398
        replace hx398_0 := (HB.out.cell (World.block_lt_of_cell? w _ hx398_0)).trans hx398_0
        replace hx398_1 := (HB.out.cell (World.block_lt_of_cell? w _ hx398_1)).trans hx398_1
        replace hx398_2 := (HB.out.cell (World.block_lt_of_cell? w _ hx398_2)).trans hx398_2
        replace p398 := eq_true p398
        replace q398 := eq_true q398
        go_wp2_with (first | ((with_reducible refine gate_dst (N := 4) rfl ?_); (try (refine gate_guard (by rfl) ?_; dsimp only)); refine Pst.bx 4 (#[.string (⟨#[]⟩ : ByteArray), .int .i64 0, .int .i64 0]) 48 ?_; intro gb399 hg w13 hbox hb; have BK399 := Pst.A hbox; have GW399 := Pst.A (Pst.gs hg : w.heap.size ≤ gb399); have GE399 := Pst.A (Pst.gs hg : w.heap.size ≤ gb399); have NB394_399 := Pst.A (Pst.nl BK394.out hg); have NB399_394 := Pst.A (Pst.nr BK394.out hg); replace BK394 := Pst.A (Pst.kb BK394.out hb); replace HB := Pst.A (below_step Pst.bes hb); clear hb hbox hg; have hnb14 := NB399_394.out; have hnc14 := NB394_399.out; obtain ⟨hcz15_0, hcz15_1, hcz15_2⟩ := Pst.c3 BK399.out; obtain ⟨hfz15_0, hfz15_1, hfz15_2⟩ := Pst.f3 BK399.out) | ((with_reducible refine gate_callee (f := 55) rfl ?_); refine goesL_ (some 14) rfl rfl Tryz.func55 (by kernel_rfl) rfl #[.agg #[.string ((rd_T48 l0_3 x8_1).f0), .int .i64 ((rd_T48 l0_3 x8_1).f1), .int .i64 ((rd_T48 l0_3 x8_1).f2)]] rfl Pst.ga ?_; (with_reducible refine (impl_GoalOk.calls k1 ((rd_T48 l0_3 x8_1).f0) ((rd_T48 l0_3 x8_1).f1) ((rd_T48 l0_3 x8_1).f2) true _ A7.out).mono ?_); rintro e w16 ⟨rfl, hb⟩; refine ⟨_, rfl, ?_⟩; replace BK394 := Pst.A (Pst.kf BK394.out hb); replace BK399 := Pst.A (blk_below (g := gb399) (o := .cells #[.string ((rd_T48 l0_3 x8_1).f0), .int .i64 ((rd_T48 l0_3 x8_1).f1), .int .i64 ((rd_T48 l0_3 x8_1).f2)] 48 (0, 0)) (by (with_reducible repeat (first | refine blk_drewN ?_ _ | refine blk_drew ?_ | refine blk_alloc ?_ _)); refine blk_put (cs := #[.string ((rd_T48 l0_3 x8_1).f0), .int .i64 ((rd_T48 l0_3 x8_1).f1), .int .i64 0]) ?_ 2 _ rfl; (with_reducible repeat (first | refine blk_drewN ?_ _ | refine blk_drew ?_ | refine blk_alloc ?_ _)); refine blk_put (cs := #[.string ((rd_T48 l0_3 x8_1).f0), .int .i64 0, .int .i64 0]) ?_ 1 _ rfl; (with_reducible repeat (first | refine blk_drewN ?_ _ | refine blk_drew ?_ | refine blk_alloc ?_ _)); refine blk_put (cs := #[.string (⟨#[]⟩ : ByteArray), .int .i64 0, .int .i64 0]) ?_ 0 _ rfl; exact Pst.qb BK399.out) hb); replace HB := Pst.A (below_step Pst.bes hb); (try clear hb); (try clear hb2); (try clear hk); (try clear hi); obtain ⟨hcz17_0, hcz17_1, hcz17_2, hcz17_3, hcz17_4, hcz17_5, hcz17_6, hcz17_7, hcz17_8, hcz17_9, hcz17_10, hcz17_11⟩ := Pst.c12 BK394.out; obtain ⟨hfz17_0, hfz17_1, hfz17_2, hfz17_3, hfz17_4, hfz17_5, hfz17_6, hfz17_7, hfz17_8, hfz17_9, hfz17_10, hfz17_11⟩ := Pst.f12 BK394.out; have q18 : (x8_1 : Int) ≤ ((l0_3.length : Int) : Int) := Pst.da; obtain ⟨i018, hi018, _, hsz18, _⟩ := info_parts info48; have hroom18 : l0_3.length ≤ c0_3 := HC0_3.out; have hC18 : Kd.C k48 _ (some ad398) l0_3.length l0_3 := HR0_3.out; have hcut18 := cut_to (P := Tryz.prog) 26 48 .i64 Tryz.underlying26 hi018 (some ad398) l0_3.length c0_3 x8_1 (Pst.da) q18 hroom18; have hr18 := Kd.C_take (m := (x8_1 : Int).toNat) hC18 (by omega); have hy18 : y401.length = (x8_1 : Int).toNat := (by rw [Ny401.out, List.length_take]; omega); rw [← Ny401.out] at hr18; rw [← hy18] at hcut18; have HR404 := Pst.A hr18; have HC404 := Pst.A (show y401.length ≤ c0_3 from by omega); clear hr18 hC18 hroom18 hi018 hsz18; have KY18 := Pst.A hy18; clear hy18; replace q18 := eq_true q18; obtain ⟨hcz19_0, hcz19_1, hcz19_2⟩ := Pst.c3 BK399.out; obtain ⟨hfz19_0, hfz19_1, hfz19_2⟩ := Pst.f3 BK399.out) | (go_at_call 56; (with_reducible refine (impl_goalThere.calls _ _ y401 ((rd_T48 l0_3 x8_1).f0) ((rd_T48 l0_3 x8_1).f1) ((rd_T48 l0_3 x8_1).f2) true _ ?side1 ?side2 A11.out (hcell := ?side9)).mono ?_); (case side9 => exact (blk_cell (show _ = some _ from by exact Pst.qb BK399.out) 0).trans rfl); (case side1 => exact Pst.qc (Kd.C_below HR404.out HB.out)); (case side2 => exact HC404.out); rintro e w20 ⟨rfl, hb⟩; replace BK394 := Pst.A (Pst.kb BK394.out hb); replace BK399 := Pst.A (Pst.kb BK399.out hb); replace HB := Pst.A (below_step Pst.bes hb); (try clear hb); (try clear hb2); (try clear hk); (try clear hi)))
        go_ret
        exact ⟨Pst.e1, Pst.bes⟩
       replace c12 := Bool.eq_false_iff.mpr c12
       subst c12
       rw [if_neg Pst.ft] at H
       have H' := Pst.A H
       clear H
       have p398 : 0 ≤ (x8_1 : Int) := Pst.da
       have q398 : x8_1 < (l0_3.length : Int) := Pst.da
       obtain ⟨ad398, e398, hx398_0, hx398_1, hx398_2⟩ := at_T48 HR0_3.out x8_1 p398 q398
       cases e398
       replace hx398_0 := (HB.out.cell (World.block_lt_of_cell? w _ hx398_0)).trans hx398_0
       replace hx398_1 := (HB.out.cell (World.block_lt_of_cell? w _ hx398_1)).trans hx398_1
       replace hx398_2 := (HB.out.cell (World.block_lt_of_cell? w _ hx398_2)).trans hx398_2
       replace p398 := eq_true p398
       replace q398 := eq_true q398
       go_wp2_with (first | ((with_reducible refine gate_dst (N := 4) rfl ?_); (try (refine gate_guard (by rfl) ?_; dsimp only)); refine Pst.bx 4 (#[.string (⟨#[]⟩ : ByteArray), .int .i64 0, .int .i64 0]) 48 ?_; intro gb399 hg w21 hbox hb; have BK399 := Pst.A hbox; have GW399 := Pst.A (Pst.gs hg : w.heap.size ≤ gb399); have GE399 := Pst.A (Pst.gs hg : w.heap.size ≤ gb399); have NB394_399 := Pst.A (Pst.nl BK394.out hg); have NB399_394 := Pst.A (Pst.nr BK394.out hg); replace BK394 := Pst.A (Pst.kb BK394.out hb); replace HB := Pst.A (below_step Pst.bes hb); clear hb hbox hg; have hnb22 := NB399_394.out; have hnc22 := NB394_399.out; obtain ⟨hcz23_0, hcz23_1, hcz23_2⟩ := Pst.c3 BK399.out; obtain ⟨hfz23_0, hfz23_1, hfz23_2⟩ := Pst.f3 BK399.out) | ((with_reducible refine gate_callee (f := 55) rfl ?_); refine goesL_ (some 14) rfl rfl Tryz.func55 (by kernel_rfl) rfl #[.agg #[.string ((rd_T48 l0_3 x8_1).f0), .int .i64 ((rd_T48 l0_3 x8_1).f1), .int .i64 ((rd_T48 l0_3 x8_1).f2)]] rfl Pst.ga ?_; (with_reducible refine (impl_GoalOk.calls k1 ((rd_T48 l0_3 x8_1).f0) ((rd_T48 l0_3 x8_1).f1) ((rd_T48 l0_3 x8_1).f2) true _ A7.out).mono ?_); rintro e w24 ⟨rfl, hb⟩; refine ⟨_, rfl, ?_⟩; replace BK394 := Pst.A (Pst.kf BK394.out hb); replace BK399 := Pst.A (blk_below (g := gb399) (o := .cells #[.string ((rd_T48 l0_3 x8_1).f0), .int .i64 ((rd_T48 l0_3 x8_1).f1), .int .i64 ((rd_T48 l0_3 x8_1).f2)] 48 (0, 0)) (by (with_reducible repeat (first | refine blk_drewN ?_ _ | refine blk_drew ?_ | refine blk_alloc ?_ _)); refine blk_put (cs := #[.string ((rd_T48 l0_3 x8_1).f0), .int .i64 ((rd_T48 l0_3 x8_1).f1), .int .i64 0]) ?_ 2 _ rfl; (with_reducible repeat (first | refine blk_drewN ?_ _ | refine blk_drew ?_ | refine blk_alloc ?_ _)); refine blk_put (cs := #[.string ((rd_T48 l0_3 x8_1).f0), .int .i64 0, .int .i64 0]) ?_ 1 _ rfl; (with_reducible repeat (first | refine blk_drewN ?_ _ | refine blk_drew ?_ | refine blk_alloc ?_ _)); refine blk_put (cs := #[.string (⟨#[]⟩ : ByteArray), .int .i64 0, .int .i64 0]) ?_ 0 _ rfl; exact Pst.qb BK399.out) hb); replace HB := Pst.A (below_step Pst.bes hb); (try clear hb); (try clear hb2); (try clear hk); (try clear hi); obtain ⟨hcz25_0, hcz25_1, hcz25_2, hcz25_3, hcz25_4, hcz25_5, hcz25_6, hcz25_7, hcz25_8, hcz25_9, hcz25_10, hcz25_11⟩ := Pst.c12 BK394.out; obtain ⟨hfz25_0, hfz25_1, hfz25_2, hfz25_3, hfz25_4, hfz25_5, hfz25_6, hfz25_7, hfz25_8, hfz25_9, hfz25_10, hfz25_11⟩ := Pst.f12 BK394.out; have q26 : (x8_1 : Int) ≤ ((l0_3.length : Int) : Int) := Pst.da; obtain ⟨i026, hi026, _, hsz26, _⟩ := info_parts info48; have hroom26 : l0_3.length ≤ c0_3 := HC0_3.out; have hC26 : Kd.C k48 _ (some ad398) l0_3.length l0_3 := HR0_3.out; have hcut26 := cut_to (P := Tryz.prog) 26 48 .i64 Tryz.underlying26 hi026 (some ad398) l0_3.length c0_3 x8_1 (Pst.da) q26 hroom26; have hr26 := Kd.C_take (m := (x8_1 : Int).toNat) hC26 (by omega); have hy26 : y401.length = (x8_1 : Int).toNat := (by rw [Ny401.out, List.length_take]; omega); rw [← Ny401.out] at hr26; rw [← hy26] at hcut26; have HR404 := Pst.A hr26; have HC404 := Pst.A (show y401.length ≤ c0_3 from by omega); clear hr26 hC26 hroom26 hi026 hsz26; have KY26 := Pst.A hy26; clear hy26; replace q26 := eq_true q26; obtain ⟨hcz27_0, hcz27_1, hcz27_2⟩ := Pst.c3 BK399.out; obtain ⟨hfz27_0, hfz27_1, hfz27_2⟩ := Pst.f3 BK399.out) | (go_at_call 56; (with_reducible refine (impl_goalThere.calls _ _ y401 ((rd_T48 l0_3 x8_1).f0) ((rd_T48 l0_3 x8_1).f1) ((rd_T48 l0_3 x8_1).f2) false _ ?side1 ?side2 A11.out (hcell := ?side9)).mono ?_); (case side9 => exact (blk_cell (show _ = some _ from by exact Pst.qb BK399.out) 0).trans rfl); (case side1 => exact Pst.qc (Kd.C_below HR404.out HB.out)); (case side2 => exact HC404.out); rintro e w28 ⟨rfl, hb⟩; replace BK394 := Pst.A (Pst.kb BK394.out hb); replace BK399 := Pst.A (Pst.kb BK399.out hb); replace HB := Pst.A (below_step Pst.bes hb); (try clear hb); (try clear hb2); (try clear hk); (try clear hi)))
       go_roundg k1
       case measure => have := HK1.out; omega
       case rel => exact ⟨(wrap64 (x8_1 + 1)), Pst.e2, H', ⟨by have := HK1.out; omega⟩, ⟨by exact Pst.qb BK394.out⟩, ⟨Pst.bes⟩⟩
      rw [if_neg c10] at H
      exact absurd H (by simp)
     replace c8 := Bool.eq_false_iff.mpr c8
     subst c8
     rw [if_neg Pst.ft] at H
     obtain rfl := Option.some.inj H
     have p398 : 0 ≤ (x8_1 : Int) := Pst.da
     have q398 : x8_1 < (l0_3.length : Int) := Pst.da
     obtain ⟨ad398, e398, hx398_0, hx398_1, hx398_2⟩ := at_T48 HR0_3.out x8_1 p398 q398
     cases e398
     replace hx398_0 := (HB.out.cell (World.block_lt_of_cell? w _ hx398_0)).trans hx398_0
     replace hx398_1 := (HB.out.cell (World.block_lt_of_cell? w _ hx398_1)).trans hx398_1
     replace hx398_2 := (HB.out.cell (World.block_lt_of_cell? w _ hx398_2)).trans hx398_2
     replace p398 := eq_true p398
     replace q398 := eq_true q398
     go_wp2_with (first | ((with_reducible refine gate_dst (N := 4) rfl ?_); (try (refine gate_guard (by rfl) ?_; dsimp only)); refine Pst.bx 4 (#[.string (⟨#[]⟩ : ByteArray), .int .i64 0, .int .i64 0]) 48 ?_; intro gb399 hg w29 hbox hb; have BK399 := Pst.A hbox; have GW399 := Pst.A (Pst.gs hg : w.heap.size ≤ gb399); have GE399 := Pst.A (Pst.gs hg : w.heap.size ≤ gb399); have NB394_399 := Pst.A (Pst.nl BK394.out hg); have NB399_394 := Pst.A (Pst.nr BK394.out hg); replace BK394 := Pst.A (Pst.kb BK394.out hb); replace HB := Pst.A (below_step Pst.bes hb); clear hb hbox hg; have hnb30 := NB399_394.out; have hnc30 := NB394_399.out; obtain ⟨hcz31_0, hcz31_1, hcz31_2⟩ := Pst.c3 BK399.out; obtain ⟨hfz31_0, hfz31_1, hfz31_2⟩ := Pst.f3 BK399.out) | ((with_reducible refine gate_callee (f := 55) rfl ?_); refine goesL_ (some 14) rfl rfl Tryz.func55 (by kernel_rfl) rfl #[.agg #[.string ((rd_T48 l0_3 x8_1).f0), .int .i64 ((rd_T48 l0_3 x8_1).f1), .int .i64 ((rd_T48 l0_3 x8_1).f2)]] rfl Pst.ga ?_; (with_reducible refine (impl_GoalOk.calls k1 ((rd_T48 l0_3 x8_1).f0) ((rd_T48 l0_3 x8_1).f1) ((rd_T48 l0_3 x8_1).f2) false _ A7.out).mono ?_); rintro e w32 ⟨rfl, hb⟩; refine ⟨_, rfl, ?_⟩; replace BK394 := Pst.A (Pst.kf BK394.out hb); replace BK399 := Pst.A (blk_below (g := gb399) (o := .cells #[.string ((rd_T48 l0_3 x8_1).f0), .int .i64 ((rd_T48 l0_3 x8_1).f1), .int .i64 ((rd_T48 l0_3 x8_1).f2)] 48 (0, 0)) (by (with_reducible repeat (first | refine blk_drewN ?_ _ | refine blk_drew ?_ | refine blk_alloc ?_ _)); refine blk_put (cs := #[.string ((rd_T48 l0_3 x8_1).f0), .int .i64 ((rd_T48 l0_3 x8_1).f1), .int .i64 0]) ?_ 2 _ rfl; (with_reducible repeat (first | refine blk_drewN ?_ _ | refine blk_drew ?_ | refine blk_alloc ?_ _)); refine blk_put (cs := #[.string ((rd_T48 l0_3 x8_1).f0), .int .i64 0, .int .i64 0]) ?_ 1 _ rfl; (with_reducible repeat (first | refine blk_drewN ?_ _ | refine blk_drew ?_ | refine blk_alloc ?_ _)); refine blk_put (cs := #[.string (⟨#[]⟩ : ByteArray), .int .i64 0, .int .i64 0]) ?_ 0 _ rfl; exact Pst.qb BK399.out) hb); replace HB := Pst.A (below_step Pst.bes hb); (try clear hb); (try clear hb2); (try clear hk); (try clear hi)))
     go_ret
     exact ⟨Pst.e1, Pst.bes⟩
    rw [if_neg c6] at H
    exact absurd H (by simp)
   rw [if_neg c5] at H
   exact absurd H (by simp)
  rw [if_neg c4] at H
  have c4b0 : decide (x8_1 < (l0_3.length : Int)) = false := decide_eq_false c4
  clear c4
  obtain ⟨t395, A330, H⟩ := Pst.bd H
  have A33 := Pst.A A330
  clear A330
  by_cases c34 : t395 = true
  ·subst c34
   rw [if_pos rfl] at H
   obtain ⟨t396, A350, H⟩ := Pst.bd H
   have A35 := Pst.A A350
   clear A350
   by_cases c36 : t396 = true
   ·subst c36
    rw [if_pos rfl] at H
    obtain ⟨t397, A370, H⟩ := Pst.bd H
    have A37 := Pst.A A370
    clear A370
    obtain rfl := Option.some.inj H
    obtain ⟨hcz38_0, hcz38_1, hcz38_2, hcz38_3, hcz38_4, hcz38_5, hcz38_6, hcz38_7, hcz38_8, hcz38_9, hcz38_10, hcz38_11⟩ := Pst.c12 BK394.out
    obtain ⟨hfz38_0, hfz38_1, hfz38_2, hfz38_3, hfz38_4, hfz38_5, hfz38_6, hfz38_7, hfz38_8, hfz38_9, hfz38_10, hfz38_11⟩ := Pst.f12 BK394.out
    go_wp2_with (first | ((with_reducible refine gate_callee (f := 58) rfl ?_); refine goesL_ (some 27) rfl rfl Tryz.func58 (by kernel_rfl) rfl #[.agg #[.int .i64 a0_0, .int .i64 a0_1, .int .i64 a0_2]] rfl Pst.ga ?_; (with_reducible refine (impl_RulesOk.calls a0_0 a0_1 a0_2 true _ A33.out).mono ?_); rintro e w39 ⟨rfl, hb⟩; refine ⟨_, rfl, ?_⟩; replace BK394 := Pst.A (Pst.kb BK394.out hb); replace HB := Pst.A (below_step Pst.bes hb); (try clear hb); (try clear hb2); (try clear hk); (try clear hi); obtain ⟨hcz40_0, hcz40_1, hcz40_2, hcz40_3, hcz40_4, hcz40_5, hcz40_6, hcz40_7, hcz40_8, hcz40_9, hcz40_10, hcz40_11⟩ := Pst.c12 BK394.out; obtain ⟨hfz40_0, hfz40_1, hfz40_2, hfz40_3, hfz40_4, hfz40_5, hfz40_6, hfz40_7, hfz40_8, hfz40_9, hfz40_10, hfz40_11⟩ := Pst.f12 BK394.out) | (go_at_call 59; (with_reducible refine (impl_BehaveOk.calls k1 _ _ l0_4 a0_5 a0_6 _ _ l0_7 a0_8 a0_9 a0_10 a0_11 true _ ?side1 ?side2 ?side3 ?side4 A35.out).mono ?_); (case side1 => exact Pst.qc (Kd.C_below HR0_4.out HB.out)); (case side2 => exact HC0_4.out); (case side3 => exact Pst.qc (Kd.C_below HR0_7.out HB.out)); (case side4 => exact HC0_7.out); rintro e w41 ⟨rfl, hb⟩; replace BK394 := Pst.A (Pst.kb BK394.out hb); replace HB := Pst.A (below_step Pst.bes hb); (try clear hb); (try clear hb2); (try clear hk); (try clear hi); obtain ⟨hcz42_0, hcz42_1, hcz42_2, hcz42_3, hcz42_4, hcz42_5, hcz42_6, hcz42_7, hcz42_8, hcz42_9, hcz42_10, hcz42_11⟩ := Pst.c12 BK394.out; obtain ⟨hfz42_0, hfz42_1, hfz42_2, hfz42_3, hfz42_4, hfz42_5, hfz42_6, hfz42_7, hfz42_8, hfz42_9, hfz42_10, hfz42_11⟩ := Pst.f12 BK394.out) | (go_at_call 25; (with_reducible refine (impl_in.calls (l0_3.length : Int) 1 3 t397 _ A37.out).mono ?_); rintro e w' ⟨rfl, ⟨nd, rfl⟩⟩))
    go_ret
    exact ⟨Pst.e1, Pst.bes⟩
   replace c36 := Bool.eq_false_iff.mpr c36
   subst c36
   rw [if_neg Pst.ft] at H
   obtain rfl := Option.some.inj H
   obtain ⟨hcz43_0, hcz43_1, hcz43_2, hcz43_3, hcz43_4, hcz43_5, hcz43_6, hcz43_7, hcz43_8, hcz43_9, hcz43_10, hcz43_11⟩ := Pst.c12 BK394.out
   obtain ⟨hfz43_0, hfz43_1, hfz43_2, hfz43_3, hfz43_4, hfz43_5, hfz43_6, hfz43_7, hfz43_8, hfz43_9, hfz43_10, hfz43_11⟩ := Pst.f12 BK394.out
   go_wp2_with (first | ((with_reducible refine gate_callee (f := 58) rfl ?_); refine goesL_ (some 27) rfl rfl Tryz.func58 (by kernel_rfl) rfl #[.agg #[.int .i64 a0_0, .int .i64 a0_1, .int .i64 a0_2]] rfl Pst.ga ?_; (with_reducible refine (impl_RulesOk.calls a0_0 a0_1 a0_2 true _ A33.out).mono ?_); rintro e w44 ⟨rfl, hb⟩; refine ⟨_, rfl, ?_⟩; replace BK394 := Pst.A (Pst.kb BK394.out hb); replace HB := Pst.A (below_step Pst.bes hb); (try clear hb); (try clear hb2); (try clear hk); (try clear hi); obtain ⟨hcz45_0, hcz45_1, hcz45_2, hcz45_3, hcz45_4, hcz45_5, hcz45_6, hcz45_7, hcz45_8, hcz45_9, hcz45_10, hcz45_11⟩ := Pst.c12 BK394.out; obtain ⟨hfz45_0, hfz45_1, hfz45_2, hfz45_3, hfz45_4, hfz45_5, hfz45_6, hfz45_7, hfz45_8, hfz45_9, hfz45_10, hfz45_11⟩ := Pst.f12 BK394.out) | (go_at_call 59; (with_reducible refine (impl_BehaveOk.calls k1 _ _ l0_4 a0_5 a0_6 _ _ l0_7 a0_8 a0_9 a0_10 a0_11 false _ ?side1 ?side2 ?side3 ?side4 A35.out).mono ?_); (case side1 => exact Pst.qc (Kd.C_below HR0_4.out HB.out)); (case side2 => exact HC0_4.out); (case side3 => exact Pst.qc (Kd.C_below HR0_7.out HB.out)); (case side4 => exact HC0_7.out); rintro e w46 ⟨rfl, hb⟩; replace BK394 := Pst.A (Pst.kb BK394.out hb); replace HB := Pst.A (below_step Pst.bes hb); (try clear hb); (try clear hb2); (try clear hk); (try clear hi)))
   go_ret
   exact ⟨Pst.e1, Pst.bes⟩
  replace c34 := Bool.eq_false_iff.mpr c34
  subst c34
  rw [if_neg Pst.ft] at H
  obtain rfl := Option.some.inj H
  obtain ⟨hcz47_0, hcz47_1, hcz47_2, hcz47_3, hcz47_4, hcz47_5, hcz47_6, hcz47_7, hcz47_8, hcz47_9, hcz47_10, hcz47_11⟩ := Pst.c12 BK394.out
  obtain ⟨hfz47_0, hfz47_1, hfz47_2, hfz47_3, hfz47_4, hfz47_5, hfz47_6, hfz47_7, hfz47_8, hfz47_9, hfz47_10, hfz47_11⟩ := Pst.f12 BK394.out
  go_wp2_with (first | ((with_reducible refine gate_callee (f := 58) rfl ?_); refine goesL_ (some 27) rfl rfl Tryz.func58 (by kernel_rfl) rfl #[.agg #[.int .i64 a0_0, .int .i64 a0_1, .int .i64 a0_2]] rfl Pst.ga ?_; (with_reducible refine (impl_RulesOk.calls a0_0 a0_1 a0_2 false _ A33.out).mono ?_); rintro e w48 ⟨rfl, hb⟩; refine ⟨_, rfl, ?_⟩; replace BK394 := Pst.A (Pst.kb BK394.out hb); replace HB := Pst.A (below_step Pst.bes hb); (try clear hb); (try clear hb2); (try clear hk); (try clear hi)))
  go_ret
  exact ⟨Pst.e1, Pst.bes⟩
theorem impl_SetupOk.l0.st {x6 : List (S48)} {x7 : Int} {x8 : Int} {x395000 : Int} {x395001 : Int} {x395002 : Int} {x395003 : List (S48)} {x395004 : List (S101)} {x395005 : Int} {x395006 : Int} {x395007 : List (S101)} {x395008 : Int} {x395009 : Int} {x395010 : Int} {x395011 : Int} {r : (Bool)} (H : Ev (fun k => if x8 < x7 then (if 0 ≤ x8 then (if x8 < (x6.length : Int) then ((impl_GoalOk.f k ((rd_T48 x6 x8).f0) ((rd_T48 x6 x8).f1) ((rd_T48 x6 x8).f2)).bind fun t400 => (if t400 = true then (if x8 ≤ (x395003.length : Int) then ((impl_goalThere.f (x395003.take (x8 : Int).toNat) ((rd_T48 x6 x8).f0) ((rd_T48 x6 x8).f1) ((rd_T48 x6 x8).f2)).bind fun t405 => (if t405 = true then (some false) else (impl_SetupOk.l0 k x6 x7 (wrap64 (x8 + 1)) x395000 x395001 x395002 x395003 x395004 x395005 x395006 x395007 x395008 x395009 x395010 x395011))) else (none)) else (some false))) else (none)) else (none)) else ((impl_RulesOk.f x395000 x395001 x395002).bind fun t395 => (if t395 = true then ((impl_BehaveOk.f k x395004 x395005 x395006 x395007 x395008 x395009 x395010 x395011).bind fun t396 => (if t396 = true then ((impl_in.f (x395003.length : Int) 1 3).bind fun t397 => (some t397)) else (some false))) else (some false)))) r) : Ev (fun k => impl_SetupOk.l0 k x6 x7 x8 x395000 x395001 x395002 x395003 x395004 x395005 x395006 x395007 x395008 x395009 x395010 x395011) r := Ev.step (fun k => impl_SetupOk.l0.eq_2 x6 x7 x8 x395000 x395001 x395002 x395003 x395004 x395005 x395006 x395007 x395008 x395009 x395010 x395011 k) H

/-! ### impl_WorldOk: function 16 -/
mutual
def impl_WorldOk.l0 : Nat → List Int → Int → Int → Int → Int → Int → List (S48) → List (S101) → Int → Int → List (S101) → Int → Int → Int → Int → List Int → Int → Int → Int → Option (Bool)
 | 0, _, _, _, _, _, _, _, _, _, _, _, _, _, _, _, _, _, _, _ => none
 | k + 1, x7, x8, x9, x407000, x407001, x407002, x407003, x407004, x407005, x407006, x407007, x407008, x407009, x407010, x407011, x407012, x407013, x407014, x407015 => if x9 < x8 then (if 0 ≤ x9 then (if x9 < (x7.length : Int) then ((impl_in.f (rd x7 x9) 0 100000).bind fun t408 => (if t408 = true then (impl_WorldOk.l0 k x7 x8 (wrap64 (x9 + 1)) x407000 x407001 x407002 x407003 x407004 x407005 x407006 x407007 x407008 x407009 x407010 x407011 x407012 x407013 x407014 x407015) else (some false))) else (none)) else (none)) else ((impl_SetupOk.f k x407000 x407001 x407002 x407003 x407004 x407005 x407006 x407007 x407008 x407009 x407010 x407011).bind fun t409 => (if t409 = true then (if (x407003.length : Int) = 1 then (if 0 < (x407003.length : Int) then (impl_WorldOk.j1 k (((rd_T48 x407003 0).f0).toList == ([99, 112, 117] : List UInt8)) x407000 x407001 x407002 x407003 x407004 x407005 x407006 x407007 x407008 x407009 x407010 x407011 x407012 x407013 x407014 x407015) else (none)) else (impl_WorldOk.j1 k false x407000 x407001 x407002 x407003 x407004 x407005 x407006 x407007 x407008 x407009 x407010 x407011 x407012 x407013 x407014 x407015)) else (impl_WorldOk.j1 k false x407000 x407001 x407002 x407003 x407004 x407005 x407006 x407007 x407008 x407009 x407010 x407011 x407012 x407013 x407014 x407015)))
def impl_WorldOk.j1 : Nat → Bool → Int → Int → Int → List (S48) → List (S101) → Int → Int → List (S101) → Int → Int → Int → Int → List Int → Int → Int → Int → Option (Bool)
 | 0, _, _, _, _, _, _, _, _, _, _, _, _, _, _, _, _, _ => none
 | k + 1, x5, x407000, x407001, x407002, x407003, x407004, x407005, x407006, x407007, x407008, x407009, x407010, x407011, x407012, x407013, x407014, x407015 => if x5 = true then ((impl_in.f (x407012.length : Int) 1 20).bind fun t411 => (if t411 = true then ((impl_in.f x407013 0 50).bind fun t412 => (if t412 = true then ((impl_in.f x407014 1 50).bind fun t413 => (if t413 = true then ((impl_in.f x407015 1 12).bind fun t414 => (some t414)) else (some false))) else (some false))) else (some false))) else (some false)
end
def impl_WorldOk.f (k : Nat) (a0_0 : Int) (a0_1 : Int) (a0_2 : Int) (l0_3 : List (S48)) (l0_4 : List (S101)) (a0_5 : Int) (a0_6 : Int) (l0_7 : List (S101)) (a0_8 : Int) (a0_9 : Int) (a0_10 : Int) (a0_11 : Int) (l0_12 : List Int) (a0_13 : Int) (a0_14 : Int) (a0_15 : Int) : Option (Bool) := impl_WorldOk.l0 k l0_12 (l0_12.length : Int) 0 a0_0 a0_1 a0_2 l0_3 l0_4 a0_5 a0_6 l0_7 a0_8 a0_9 a0_10 a0_11 l0_12 a0_13 a0_14 a0_15
theorem impl_WorldOk.mono_l : ∀ k, (∀ y0 y1 y2 y3 y4 y5 y6 y7 y8 y9 y10 y11 y12 y13 y14 y15 y16 y17 y18, LeO (impl_WorldOk.l0 k y0 y1 y2 y3 y4 y5 y6 y7 y8 y9 y10 y11 y12 y13 y14 y15 y16 y17 y18) (impl_WorldOk.l0 (k + 1) y0 y1 y2 y3 y4 y5 y6 y7 y8 y9 y10 y11 y12 y13 y14 y15 y16 y17 y18)) ∧ (∀ y0 y1 y2 y3 y4 y5 y6 y7 y8 y9 y10 y11 y12 y13 y14 y15 y16, LeO (impl_WorldOk.j1 k y0 y1 y2 y3 y4 y5 y6 y7 y8 y9 y10 y11 y12 y13 y14 y15 y16) (impl_WorldOk.j1 (k + 1) y0 y1 y2 y3 y4 y5 y6 y7 y8 y9 y10 y11 y12 y13 y14 y15 y16))
 | 0 => ⟨fun _ _ _ _ _ _ _ _ _ _ _ _ _ _ _ _ _ _ _ r h => by simp [impl_WorldOk.l0] at h, fun _ _ _ _ _ _ _ _ _ _ _ _ _ _ _ _ _ r h => by simp [impl_WorldOk.j1] at h⟩
 | k + 1 => by
  obtain ⟨ih0, ih1⟩ := impl_WorldOk.mono_l k
  refine ⟨?_, ?_⟩
  ·intro y0 y1 y2 y3 y4 y5 y6 y7 y8 y9 y10 y11 y12 y13 y14 y15 y16 y17 y18
   unfold impl_WorldOk.l0
   have m0 := @impl_SetupOk.mono
   exact Pst.mo
  intro y0 y1 y2 y3 y4 y5 y6 y7 y8 y9 y10 y11 y12 y13 y14 y15 y16
  unfold impl_WorldOk.j1
  have m0 := @impl_SetupOk.mono
  exact Pst.mo
theorem impl_WorldOk.mono : ∀ a0 a1 a2 a3 a4 a5 a6 a7 a8 a9 a10 a11 a12 a13 a14 a15 k, LeO (impl_WorldOk.f k a0 a1 a2 a3 a4 a5 a6 a7 a8 a9 a10 a11 a12 a13 a14 a15) (impl_WorldOk.f (k + 1) a0 a1 a2 a3 a4 a5 a6 a7 a8 a9 a10 a11 a12 a13 a14 a15) := by
 intro a0 a1 a2 a3 a4 a5 a6 a7 a8 a9 a10 a11 a12 a13 a14 a15 k
 obtain ⟨ih0, ih1⟩ := impl_WorldOk.mono_l k
 unfold impl_WorldOk.f
 have m0 := @impl_SetupOk.mono
 exact Pst.mo
theorem impl_WorldOk.calls (k : Nat) (a0_0 : Int) (a0_1 : Int) (a0_2 : Int) (A0_3 : Option Addr) (c0_3 : Nat) (l0_3 : List (S48)) (A0_4 : Option Addr) (c0_4 : Nat) (l0_4 : List (S101)) (a0_5 : Int) (a0_6 : Int) (A0_7 : Option Addr) (c0_7 : Nat) (l0_7 : List (S101)) (a0_8 : Int) (a0_9 : Int) (a0_10 : Int) (a0_11 : Int) (A0_12 : Option Addr) (c0_12 : Nat) (l0_12 : List Int) (a0_13 : Int) (a0_14 : Int) (a0_15 : Int) (r : Bool) (w : World) (hr0_3 : Kd.C k48 w A0_3 l0_3.length l0_3) (hc0_3 : l0_3.length ≤ c0_3) (hr0_4 : Kd.C k101 w A0_4 l0_4.length l0_4) (hc0_4 : l0_4.length ≤ c0_4) (hr0_7 : Kd.C k101 w A0_7 l0_7.length l0_7) (hc0_7 : l0_7.length ≤ c0_7) (hr0_12 : Kd.C (Kd.int .i64) w A0_12 l0_12.length l0_12) (hc0_12 : l0_12.length ≤ c0_12) (h : impl_WorldOk.f k a0_0 a0_1 a0_2 l0_3 l0_4 a0_5 a0_6 l0_7 a0_8 a0_9 a0_10 a0_11 l0_12 a0_13 a0_14 a0_15 = some r) :
 Calls Tryz.prog 16 #[.agg #[.int .i64 a0_0, .int .i64 a0_1, .int .i64 a0_2, .slice A0_3 l0_3.length c0_3, .slice A0_4 l0_4.length c0_4, .int .i64 a0_5, .int .i64 a0_6, .slice A0_7 l0_7.length c0_7, .int .i64 a0_8, .int .i64 a0_9, .int .i64 a0_10, .int .i64 a0_11, .slice A0_12 l0_12.length c0_12, .int .i64 a0_13, .int .i64 a0_14, .int .i64 a0_15]] w fun e w' => e = .returned (.bool r) ∧ Below w.heap.size w w' := by
 have hu36 := Tryz.underlying36
 have hu33 := Tryz.underlying33
 have HR0_3 := Pst.A hr0_3
 have HC0_3 := Pst.A hc0_3
 clear hr0_3 hc0_3
 have HR0_4 := Pst.A hr0_4
 have HC0_4 := Pst.A hc0_4
 clear hr0_4 hc0_4
 have HR0_7 := Pst.A hr0_7
 have HC0_7 := Pst.A hc0_7
 clear hr0_7 hc0_7
 have HR0_12 := Pst.A hr0_12
 have HC0_12 := Pst.A hc0_12
 clear hr0_12 hc0_12
 have HB := Pst.A (Below.refl w.heap.size w)
 have H : (impl_WorldOk.l0 k l0_12 (l0_12.length : Int) 0 a0_0 a0_1 a0_2 l0_3 l0_4 a0_5 a0_6 l0_7 a0_8 a0_9 a0_10 a0_11 l0_12 a0_13 a0_14 a0_15) = some r := h
 clear h
 have H' := Pst.A H
 clear H
 go_enter Tryz.func16, Tryz.ntmps16
 go_wp2_with (first | ((with_reducible refine gate_dst (N := 1) rfl ?_); (try (refine gate_guard (by rfl) ?_; dsimp only)); refine Pst.bx 1 #[.int .i64 a0_0, .int .i64 a0_1, .int .i64 a0_2, .slice A0_3 l0_3.length c0_3, .slice A0_4 l0_4.length c0_4, .int .i64 a0_5, .int .i64 a0_6, .slice A0_7 l0_7.length c0_7, .int .i64 a0_8, .int .i64 a0_9, .int .i64 a0_10, .int .i64 a0_11, .slice A0_12 l0_12.length c0_12, .int .i64 a0_13, .int .i64 a0_14, .int .i64 a0_15] 36 ?_; intro gb406 hg w2 hbox hb; have BK406 := Pst.A hbox; have GW406 := Pst.A (Pst.gs hg : w.heap.size ≤ gb406); have GE406 := Pst.A (Pst.gs hg : w.heap.size ≤ gb406); replace HB := Pst.A (below_step Pst.bel hb); clear hb hbox hg; obtain ⟨hcz3_0, hcz3_1, hcz3_2, hcz3_3, hcz3_4, hcz3_5, hcz3_6, hcz3_7, hcz3_8, hcz3_9, hcz3_10, hcz3_11, hcz3_12, hcz3_13, hcz3_14, hcz3_15⟩ := Pst.c16 BK406.out; obtain ⟨hfz3_0, hfz3_1, hfz3_2, hfz3_3, hfz3_4, hfz3_5, hfz3_6, hfz3_7, hfz3_8, hfz3_9, hfz3_10, hfz3_11, hfz3_12, hfz3_13, hfz3_14, hfz3_15⟩ := Pst.f16 BK406.out))
 go_loopg [9] k (fun kq v9 w' => ∃ (x9_1 : Int), v9 = .int .i64 x9_1 ∧ Aside0 (impl_WorldOk.l0 kq l0_12 (l0_12.length : Int) x9_1 a0_0 a0_1 a0_2 l0_3 l0_4 a0_5 a0_6 l0_7 a0_8 a0_9 a0_10 a0_11 l0_12 a0_13 a0_14 a0_15 = some r) ∧ Aside0 (kq ≤ k) ∧ Aside0 (w'.heap[gb406]? = some (.cells #[.int .i64 a0_0, .int .i64 a0_1, .int .i64 a0_2, (.slice A0_3 l0_3.length c0_3), (.slice A0_4 l0_4.length c0_4), .int .i64 a0_5, .int .i64 a0_6, (.slice A0_7 l0_7.length c0_7), .int .i64 a0_8, .int .i64 a0_9, .int .i64 a0_10, .int .i64 a0_11, (.slice A0_12 l0_12.length c0_12), .int .i64 a0_13, .int .i64 a0_14, .int .i64 a0_15] 36 (0, 0))) ∧ Aside0 (Below w.heap.size w w'))
 case atStart => exact ⟨(0), Pst.e2, H', ⟨Nat.le_refl _⟩, ⟨by exact Pst.qb BK406.out⟩, ⟨Pst.bes⟩⟩
 clear H'
 try clear c1
 try clear p2
 obtain ⟨x9_1, rfl, HA, HK1, BK406, HB⟩ := hrel
 cases gk with
 | zero => exact absurd HA.out (by simp [impl_WorldOk.l0])
 | succ k1 =>
  have H := HA.out
  clear HA
  simp only [impl_WorldOk.l0] at H
  by_cases c4 : x9_1 < (l0_12.length : Int)
  ·rw [if_pos c4] at H
   have c4b0 : decide (x9_1 < (l0_12.length : Int)) = true := decide_eq_true c4
   clear c4
   by_cases c5 : 0 ≤ x9_1
   ·rw [if_pos c5] at H
    have c5b0 : decide (0 ≤ x9_1) = true := decide_eq_true c5
    clear c5
    by_cases c6 : x9_1 < (l0_12.length : Int)
    ·rw [if_pos c6] at H
     have c6b0 : decide (x9_1 < (l0_12.length : Int)) = true := decide_eq_true c6
     clear c6
     obtain ⟨t408, A70, H⟩ := Pst.bd H
     have A7 := Pst.A A70
     clear A70
     by_cases c8 : t408 = true
     ·subst c8
      rw [if_pos rfl] at H
      have H' := Pst.A H
      clear H
      have p407 : 0 ≤ (x9_1 : Int) := Pst.da
      have q407 : x9_1 < (l0_12.length : Int) := Pst.da
      obtain ⟨ad407, e407, hx407_0⟩ := Kd.at_int HR0_12.out x9_1 p407 q407
      cases e407
      replace hx407_0 := (HB.out.cell (World.block_lt_of_cell? w _ hx407_0)).trans hx407_0
      replace p407 := eq_true p407
      replace q407 := eq_true q407
      go_wp2_with (first | ((with_reducible refine gate_callee (f := 25) rfl ?_); refine goesL_ (some 14) rfl rfl Tryz.func25 (by kernel_rfl) rfl #[.int .i64 (rd l0_12 x9_1), .int .i64 0, .int .i64 100000] rfl Pst.ga ?_; (with_reducible refine (impl_in.calls (rd l0_12 x9_1) 0 100000 true _ A7.out).mono ?_); rintro e w' ⟨rfl, ⟨nd, rfl⟩⟩; refine ⟨_, rfl, ?_⟩))
      go_roundg k1
      case measure => have := HK1.out; omega
      case rel => exact ⟨(wrap64 (x9_1 + 1)), Pst.e2, H', ⟨by have := HK1.out; omega⟩, ⟨by exact Pst.qb BK406.out⟩, ⟨Pst.bes⟩⟩
     replace c8 := Bool.eq_false_iff.mpr c8
     subst c8
     rw [if_neg Pst.ft] at H
     obtain rfl := Option.some.inj H
     have p407 : 0 ≤ (x9_1 : Int) := Pst.da
     have q407 : x9_1 < (l0_12.length : Int) := Pst.da
     obtain ⟨ad407, e407, hx407_0⟩ := Kd.at_int HR0_12.out x9_1 p407 q407
     cases e407
     replace hx407_0 := (HB.out.cell (World.block_lt_of_cell? w _ hx407_0)).trans hx407_0
     replace p407 := eq_true p407
     replace q407 := eq_true q407
     go_wp2_with (first | ((with_reducible refine gate_callee (f := 25) rfl ?_); refine goesL_ (some 14) rfl rfl Tryz.func25 (by kernel_rfl) rfl #[.int .i64 (rd l0_12 x9_1), .int .i64 0, .int .i64 100000] rfl Pst.ga ?_; (with_reducible refine (impl_in.calls (rd l0_12 x9_1) 0 100000 false _ A7.out).mono ?_); rintro e w' ⟨rfl, ⟨nd, rfl⟩⟩; refine ⟨_, rfl, ?_⟩))
     go_ret
     exact ⟨Pst.e1, Pst.bes⟩
    rw [if_neg c6] at H
    exact absurd H (by simp)
   rw [if_neg c5] at H
   exact absurd H (by simp)
  rw [if_neg c4] at H
  have c4b0 : decide (x9_1 < (l0_12.length : Int)) = false := decide_eq_false c4
  clear c4
  have HC9 := Pst.A H
  clear H
  go_upto_region 7 with (fail)
  go_cut [5] (fun v5 wc => ∃ (kq : Nat) (x5_8 : Bool), v5 = .bool x5_8 ∧ Aside0 (impl_WorldOk.j1 kq x5_8 a0_0 a0_1 a0_2 l0_3 l0_4 a0_5 a0_6 l0_7 a0_8 a0_9 a0_10 a0_11 l0_12 a0_13 a0_14 a0_15 = some r) ∧ Aside0 (kq ≤ k1) ∧ Aside0 (wc.heap[gb406]? = some (.cells #[.int .i64 a0_0, .int .i64 a0_1, .int .i64 a0_2, (.slice A0_3 l0_3.length c0_3), (.slice A0_4 l0_4.length c0_4), .int .i64 a0_5, .int .i64 a0_6, (.slice A0_7 l0_7.length c0_7), .int .i64 a0_8, .int .i64 a0_9, .int .i64 a0_10, .int .i64 a0_11, (.slice A0_12 l0_12.length c0_12), .int .i64 a0_13, .int .i64 a0_14, .int .i64 a0_15] 36 (0, 0))) ∧ Aside0 (Below w.heap.size w wc))
  case first =>
   have H := HC9.out
   clear HC9
   obtain ⟨t409, A100, H⟩ := Pst.bd H
   have A10 := Pst.A A100
   clear A100
   by_cases c11 : t409 = true
   ·subst c11
    rw [if_pos rfl] at H
    by_cases c12 : (l0_3.length : Int) = 1
    ·rw [if_pos c12] at H
     have c12b0 : ((l0_3.length : Int) == 1) = true := beq_iff_eq.mpr c12
     have c12b1 : ((l0_3.length : Int) != 1) = false := bne_eq_false_iff_eq.mpr c12
     clear c12
     (first | rw [c12b0] | (simp only [i64_w, i32_w]; rw [c12b0]) | skip)
     by_cases c13 : 0 < (l0_3.length : Int)
     ·rw [if_pos c13] at H
      have c13b0 : decide (0 < (l0_3.length : Int)) = true := decide_eq_true c13
      have c13b1 : decide (0 < l0_3.length) = true := decide_eq_true (by omega)
      clear c13
      have H' := Pst.A H
      clear H
      obtain ⟨hcz14_0, hcz14_1, hcz14_2, hcz14_3, hcz14_4, hcz14_5, hcz14_6, hcz14_7, hcz14_8, hcz14_9, hcz14_10, hcz14_11, hcz14_12, hcz14_13, hcz14_14, hcz14_15⟩ := Pst.c16 BK406.out
      obtain ⟨hfz14_0, hfz14_1, hfz14_2, hfz14_3, hfz14_4, hfz14_5, hfz14_6, hfz14_7, hfz14_8, hfz14_9, hfz14_10, hfz14_11, hfz14_12, hfz14_13, hfz14_14, hfz14_15⟩ := Pst.f16 BK406.out
      go_wp2_with (first | ((with_reducible refine gate_callee (f := 35) rfl ?_); refine goesL_ (some 19) rfl rfl Tryz.func35 (by kernel_rfl) rfl #[.agg #[.int .i64 a0_0, .int .i64 a0_1, .int .i64 a0_2, .slice A0_3 l0_3.length c0_3, .slice A0_4 l0_4.length c0_4, .int .i64 a0_5, .int .i64 a0_6, .slice A0_7 l0_7.length c0_7, .int .i64 a0_8, .int .i64 a0_9, .int .i64 a0_10, .int .i64 a0_11]] rfl Pst.ga ?_; (with_reducible refine (impl_SetupOk.calls k1 a0_0 a0_1 a0_2 _ _ l0_3 _ _ l0_4 a0_5 a0_6 _ _ l0_7 a0_8 a0_9 a0_10 a0_11 true _ ?side1 ?side2 ?side3 ?side4 ?side5 ?side6 A10.out).mono ?_); (case side1 => exact Pst.qc (Kd.C_below HR0_3.out HB.out)); (case side2 => exact HC0_3.out); (case side3 => exact Pst.qc (Kd.C_below HR0_4.out HB.out)); (case side4 => exact HC0_4.out); (case side5 => exact Pst.qc (Kd.C_below HR0_7.out HB.out)); (case side6 => exact HC0_7.out); rintro e w15 ⟨rfl, hb⟩; refine ⟨_, rfl, ?_⟩; replace BK406 := Pst.A (Pst.kb BK406.out hb); replace HB := Pst.A (below_step Pst.bes hb); (try clear hb); (try clear hb2); (try clear hk); (try clear hi); obtain ⟨hcz16_0, hcz16_1, hcz16_2, hcz16_3, hcz16_4, hcz16_5, hcz16_6, hcz16_7, hcz16_8, hcz16_9, hcz16_10, hcz16_11, hcz16_12, hcz16_13, hcz16_14, hcz16_15⟩ := Pst.c16 BK406.out; obtain ⟨hfz16_0, hfz16_1, hfz16_2, hfz16_3, hfz16_4, hfz16_5, hfz16_6, hfz16_7, hfz16_8, hfz16_9, hfz16_10, hfz16_11, hfz16_12, hfz16_13, hfz16_14, hfz16_15⟩ := Pst.f16 BK406.out; have p410 : 0 ≤ (0 : Int) := (by omega); have q410 : 0 < (l0_3.length : Int) := Pst.da; obtain ⟨ad410, e410, hx410_0, hx410_1, hx410_2⟩ := at_T48 HR0_3.out 0 p410 q410; cases e410; have qi410 : (0 < l0_3.length) = True := eq_true (by omega); (try rw [show ((0 : Int)).toNat = 0 from rfl] at hx410_0); (try rw [show 0 * 3 = 0 from rfl] at hx410_0); (try rw [Addr.add_zero'] at hx410_0); (try rw [show ((0 : Int)).toNat = 0 from rfl] at hx410_1); (try rw [show 0 * 3 = 0 from rfl] at hx410_1); (try rw [Addr.add_zero'] at hx410_1); (try rw [show ((0 : Int)).toNat = 0 from rfl] at hx410_2); (try rw [show 0 * 3 = 0 from rfl] at hx410_2); (try rw [Addr.add_zero'] at hx410_2); replace hx410_0 := (HB.out.cell (World.block_lt_of_cell? w _ hx410_0)).trans hx410_0; replace hx410_1 := (HB.out.cell (World.block_lt_of_cell? w _ hx410_1)).trans hx410_1; replace hx410_2 := (HB.out.cell (World.block_lt_of_cell? w _ hx410_2)).trans hx410_2; replace p410 := eq_true p410; replace q410 := eq_true q410))
      go_meet
      case rel => exact ⟨_, ((((rd_T48 l0_3 0).f0).toList == ([99, 112, 117] : List UInt8))), Pst.e2, H', ⟨by have := HK1.out; first | omega | exact Nat.le_refl _⟩, ⟨by exact Pst.qb BK406.out⟩, ⟨Pst.bes⟩⟩
     rw [if_neg c13] at H
     exact absurd H (by simp)
    rw [if_neg c12] at H
    have c12b0 : ((l0_3.length : Int) == 1) = false := beq_eq_false_iff_ne.mpr c12
    have c12b1 : ((l0_3.length : Int) != 1) = true := bne_iff_ne.mpr c12
    (first | rw [c12b0] | (simp only [i64_w, i32_w]; rw [c12b0]) | skip)
    have H' := Pst.A H
    clear H
    obtain ⟨hcz17_0, hcz17_1, hcz17_2, hcz17_3, hcz17_4, hcz17_5, hcz17_6, hcz17_7, hcz17_8, hcz17_9, hcz17_10, hcz17_11, hcz17_12, hcz17_13, hcz17_14, hcz17_15⟩ := Pst.c16 BK406.out
    obtain ⟨hfz17_0, hfz17_1, hfz17_2, hfz17_3, hfz17_4, hfz17_5, hfz17_6, hfz17_7, hfz17_8, hfz17_9, hfz17_10, hfz17_11, hfz17_12, hfz17_13, hfz17_14, hfz17_15⟩ := Pst.f16 BK406.out
    go_wp2_with (first | ((with_reducible refine gate_callee (f := 35) rfl ?_); refine goesL_ (some 19) rfl rfl Tryz.func35 (by kernel_rfl) rfl #[.agg #[.int .i64 a0_0, .int .i64 a0_1, .int .i64 a0_2, .slice A0_3 l0_3.length c0_3, .slice A0_4 l0_4.length c0_4, .int .i64 a0_5, .int .i64 a0_6, .slice A0_7 l0_7.length c0_7, .int .i64 a0_8, .int .i64 a0_9, .int .i64 a0_10, .int .i64 a0_11]] rfl Pst.ga ?_; (with_reducible refine (impl_SetupOk.calls k1 a0_0 a0_1 a0_2 _ _ l0_3 _ _ l0_4 a0_5 a0_6 _ _ l0_7 a0_8 a0_9 a0_10 a0_11 true _ ?side1 ?side2 ?side3 ?side4 ?side5 ?side6 A10.out).mono ?_); (case side1 => exact Pst.qc (Kd.C_below HR0_3.out HB.out)); (case side2 => exact HC0_3.out); (case side3 => exact Pst.qc (Kd.C_below HR0_4.out HB.out)); (case side4 => exact HC0_4.out); (case side5 => exact Pst.qc (Kd.C_below HR0_7.out HB.out)); (case side6 => exact HC0_7.out); rintro e w18 ⟨rfl, hb⟩; refine ⟨_, rfl, ?_⟩; replace BK406 := Pst.A (Pst.kb BK406.out hb); replace HB := Pst.A (below_step Pst.bes hb); (try clear hb); (try clear hb2); (try clear hk); (try clear hi); obtain ⟨hcz19_0, hcz19_1, hcz19_2, hcz19_3, hcz19_4, hcz19_5, hcz19_6, hcz19_7, hcz19_8, hcz19_9, hcz19_10, hcz19_11, hcz19_12, hcz19_13, hcz19_14, hcz19_15⟩ := Pst.c16 BK406.out; obtain ⟨hfz19_0, hfz19_1, hfz19_2, hfz19_3, hfz19_4, hfz19_5, hfz19_6, hfz19_7, hfz19_8, hfz19_9, hfz19_10, hfz19_11, hfz19_12, hfz19_13, hfz19_14, hfz19_15⟩ := Pst.f16 BK406.out))
    go_meet
    case rel => exact ⟨_, (false), Pst.e2, H', ⟨by have := HK1.out; first | omega | exact Nat.le_refl _⟩, ⟨by exact Pst.qb BK406.out⟩, ⟨Pst.bes⟩⟩
   replace c11 := Bool.eq_false_iff.mpr c11
   subst c11
   rw [if_neg Pst.ft] at H
   have H' := Pst.A H
   clear H
   obtain ⟨hcz20_0, hcz20_1, hcz20_2, hcz20_3, hcz20_4, hcz20_5, hcz20_6, hcz20_7, hcz20_8, hcz20_9, hcz20_10, hcz20_11, hcz20_12, hcz20_13, hcz20_14, hcz20_15⟩ := Pst.c16 BK406.out
   obtain ⟨hfz20_0, hfz20_1, hfz20_2, hfz20_3, hfz20_4, hfz20_5, hfz20_6, hfz20_7, hfz20_8, hfz20_9, hfz20_10, hfz20_11, hfz20_12, hfz20_13, hfz20_14, hfz20_15⟩ := Pst.f16 BK406.out
   go_wp2_with (first | ((with_reducible refine gate_callee (f := 35) rfl ?_); refine goesL_ (some 19) rfl rfl Tryz.func35 (by kernel_rfl) rfl #[.agg #[.int .i64 a0_0, .int .i64 a0_1, .int .i64 a0_2, .slice A0_3 l0_3.length c0_3, .slice A0_4 l0_4.length c0_4, .int .i64 a0_5, .int .i64 a0_6, .slice A0_7 l0_7.length c0_7, .int .i64 a0_8, .int .i64 a0_9, .int .i64 a0_10, .int .i64 a0_11]] rfl Pst.ga ?_; (with_reducible refine (impl_SetupOk.calls k1 a0_0 a0_1 a0_2 _ _ l0_3 _ _ l0_4 a0_5 a0_6 _ _ l0_7 a0_8 a0_9 a0_10 a0_11 false _ ?side1 ?side2 ?side3 ?side4 ?side5 ?side6 A10.out).mono ?_); (case side1 => exact Pst.qc (Kd.C_below HR0_3.out HB.out)); (case side2 => exact HC0_3.out); (case side3 => exact Pst.qc (Kd.C_below HR0_4.out HB.out)); (case side4 => exact HC0_4.out); (case side5 => exact Pst.qc (Kd.C_below HR0_7.out HB.out)); (case side6 => exact HC0_7.out); rintro e w21 ⟨rfl, hb⟩; refine ⟨_, rfl, ?_⟩; replace BK406 := Pst.A (Pst.kb BK406.out hb); replace HB := Pst.A (below_step Pst.bes hb); (try clear hb); (try clear hb2); (try clear hk); (try clear hi)))
   go_meet
   case rel => exact ⟨_, (false), Pst.e2, H', ⟨by have := HK1.out; first | omega | exact Nat.le_refl _⟩, ⟨by exact Pst.qb BK406.out⟩, ⟨Pst.bes⟩⟩
  clear HC9
  try clear c1
  try clear c2
  try clear p2
  try clear c3
  try clear c4
  try clear c4b0
  try clear p4
  try clear q4
  try clear hx4
  try clear qi4
  try clear c5
  try clear c5b0
  try clear c6
  try clear c6b0
  try clear p6
  try clear c8
  try clear c11
  try clear c12
  try clear c12b0
  try clear c12b1
  try clear c13
  try clear c13b0
  try clear c13b1
  try clear c16
  try clear hx407_0
  try clear hx410_0
  try clear hx410_1
  try clear hx410_2
  try clear p2
  try clear p407
  try clear p410
  try clear q407
  try clear q410
  obtain ⟨kq, x5_8, rfl, HA, HJ8, BK406, HB⟩ := hcut
  cases kq with
  | zero => exact absurd HA.out (by simp [impl_WorldOk.j1])
  | succ kj8 =>
   have H := HA.out
   clear HA
   simp only [impl_WorldOk.j1] at H
   by_cases c22 : x5_8 = true
   ·subst c22
    rw [if_pos rfl] at H
    obtain ⟨t411, A230, H⟩ := Pst.bd H
    have A23 := Pst.A A230
    clear A230
    by_cases c24 : t411 = true
    ·subst c24
     rw [if_pos rfl] at H
     obtain ⟨t412, A250, H⟩ := Pst.bd H
     have A25 := Pst.A A250
     clear A250
     by_cases c26 : t412 = true
     ·subst c26
      rw [if_pos rfl] at H
      obtain ⟨t413, A270, H⟩ := Pst.bd H
      have A27 := Pst.A A270
      clear A270
      by_cases c28 : t413 = true
      ·subst c28
       rw [if_pos rfl] at H
       obtain ⟨t414, A290, H⟩ := Pst.bd H
       have A29 := Pst.A A290
       clear A290
       obtain rfl := Option.some.inj H
       obtain ⟨hcz30_0, hcz30_1, hcz30_2, hcz30_3, hcz30_4, hcz30_5, hcz30_6, hcz30_7, hcz30_8, hcz30_9, hcz30_10, hcz30_11, hcz30_12, hcz30_13, hcz30_14, hcz30_15⟩ := Pst.c16 BK406.out
       obtain ⟨hfz30_0, hfz30_1, hfz30_2, hfz30_3, hfz30_4, hfz30_5, hfz30_6, hfz30_7, hfz30_8, hfz30_9, hfz30_10, hfz30_11, hfz30_12, hfz30_13, hfz30_14, hfz30_15⟩ := Pst.f16 BK406.out
       go_wp2_with (first | (go_at_call 25; (with_reducible refine (impl_in.calls (l0_12.length : Int) 1 20 true _ A23.out).mono ?_); rintro e w' ⟨rfl, ⟨nd, rfl⟩⟩) | (go_at_call 25; (with_reducible refine (impl_in.calls a0_13 0 50 true _ A25.out).mono ?_); rintro e w' ⟨rfl, ⟨nd, rfl⟩⟩) | (go_at_call 25; (with_reducible refine (impl_in.calls a0_14 1 50 true _ A27.out).mono ?_); rintro e w' ⟨rfl, ⟨nd, rfl⟩⟩) | (go_at_call 25; (with_reducible refine (impl_in.calls a0_15 1 12 t414 _ A29.out).mono ?_); rintro e w' ⟨rfl, ⟨nd, rfl⟩⟩))
       go_ret
       exact ⟨Pst.e1, Pst.bes⟩
      replace c28 := Bool.eq_false_iff.mpr c28
      subst c28
      rw [if_neg Pst.ft] at H
      obtain rfl := Option.some.inj H
      obtain ⟨hcz31_0, hcz31_1, hcz31_2, hcz31_3, hcz31_4, hcz31_5, hcz31_6, hcz31_7, hcz31_8, hcz31_9, hcz31_10, hcz31_11, hcz31_12, hcz31_13, hcz31_14, hcz31_15⟩ := Pst.c16 BK406.out
      obtain ⟨hfz31_0, hfz31_1, hfz31_2, hfz31_3, hfz31_4, hfz31_5, hfz31_6, hfz31_7, hfz31_8, hfz31_9, hfz31_10, hfz31_11, hfz31_12, hfz31_13, hfz31_14, hfz31_15⟩ := Pst.f16 BK406.out
      go_wp2_with (first | (go_at_call 25; (with_reducible refine (impl_in.calls (l0_12.length : Int) 1 20 true _ A23.out).mono ?_); rintro e w' ⟨rfl, ⟨nd, rfl⟩⟩) | (go_at_call 25; (with_reducible refine (impl_in.calls a0_13 0 50 true _ A25.out).mono ?_); rintro e w' ⟨rfl, ⟨nd, rfl⟩⟩) | (go_at_call 25; (with_reducible refine (impl_in.calls a0_14 1 50 false _ A27.out).mono ?_); rintro e w' ⟨rfl, ⟨nd, rfl⟩⟩))
      go_ret
      exact ⟨Pst.e1, Pst.bes⟩
     replace c26 := Bool.eq_false_iff.mpr c26
     subst c26
     rw [if_neg Pst.ft] at H
     obtain rfl := Option.some.inj H
     obtain ⟨hcz32_0, hcz32_1, hcz32_2, hcz32_3, hcz32_4, hcz32_5, hcz32_6, hcz32_7, hcz32_8, hcz32_9, hcz32_10, hcz32_11, hcz32_12, hcz32_13, hcz32_14, hcz32_15⟩ := Pst.c16 BK406.out
     obtain ⟨hfz32_0, hfz32_1, hfz32_2, hfz32_3, hfz32_4, hfz32_5, hfz32_6, hfz32_7, hfz32_8, hfz32_9, hfz32_10, hfz32_11, hfz32_12, hfz32_13, hfz32_14, hfz32_15⟩ := Pst.f16 BK406.out
     go_wp2_with (first | (go_at_call 25; (with_reducible refine (impl_in.calls (l0_12.length : Int) 1 20 true _ A23.out).mono ?_); rintro e w' ⟨rfl, ⟨nd, rfl⟩⟩) | (go_at_call 25; (with_reducible refine (impl_in.calls a0_13 0 50 false _ A25.out).mono ?_); rintro e w' ⟨rfl, ⟨nd, rfl⟩⟩))
     go_ret
     exact ⟨Pst.e1, Pst.bes⟩
    replace c24 := Bool.eq_false_iff.mpr c24
    subst c24
    rw [if_neg Pst.ft] at H
    obtain rfl := Option.some.inj H
    obtain ⟨hcz33_0, hcz33_1, hcz33_2, hcz33_3, hcz33_4, hcz33_5, hcz33_6, hcz33_7, hcz33_8, hcz33_9, hcz33_10, hcz33_11, hcz33_12, hcz33_13, hcz33_14, hcz33_15⟩ := Pst.c16 BK406.out
    obtain ⟨hfz33_0, hfz33_1, hfz33_2, hfz33_3, hfz33_4, hfz33_5, hfz33_6, hfz33_7, hfz33_8, hfz33_9, hfz33_10, hfz33_11, hfz33_12, hfz33_13, hfz33_14, hfz33_15⟩ := Pst.f16 BK406.out
    go_wp2_with (first | (go_at_call 25; (with_reducible refine (impl_in.calls (l0_12.length : Int) 1 20 false _ A23.out).mono ?_); rintro e w' ⟨rfl, ⟨nd, rfl⟩⟩))
    go_ret
    exact ⟨Pst.e1, Pst.bes⟩
   replace c22 := Bool.eq_false_iff.mpr c22
   subst c22
   rw [if_neg Pst.ft] at H
   obtain rfl := Option.some.inj H
   go_wp2
   go_ret
   exact ⟨Pst.e1, Pst.bes⟩
theorem impl_WorldOk.l0.st {x7 : List Int} {x8 : Int} {x9 : Int} {x407000 : Int} {x407001 : Int} {x407002 : Int} {x407003 : List (S48)} {x407004 : List (S101)} {x407005 : Int} {x407006 : Int} {x407007 : List (S101)} {x407008 : Int} {x407009 : Int} {x407010 : Int} {x407011 : Int} {x407012 : List Int} {x407013 : Int} {x407014 : Int} {x407015 : Int} {r : (Bool)} (H : Ev (fun k => if x9 < x8 then (if 0 ≤ x9 then (if x9 < (x7.length : Int) then ((impl_in.f (rd x7 x9) 0 100000).bind fun t408 => (if t408 = true then (impl_WorldOk.l0 k x7 x8 (wrap64 (x9 + 1)) x407000 x407001 x407002 x407003 x407004 x407005 x407006 x407007 x407008 x407009 x407010 x407011 x407012 x407013 x407014 x407015) else (some false))) else (none)) else (none)) else ((impl_SetupOk.f k x407000 x407001 x407002 x407003 x407004 x407005 x407006 x407007 x407008 x407009 x407010 x407011).bind fun t409 => (if t409 = true then (if (x407003.length : Int) = 1 then (if 0 < (x407003.length : Int) then (impl_WorldOk.j1 k (((rd_T48 x407003 0).f0).toList == ([99, 112, 117] : List UInt8)) x407000 x407001 x407002 x407003 x407004 x407005 x407006 x407007 x407008 x407009 x407010 x407011 x407012 x407013 x407014 x407015) else (none)) else (impl_WorldOk.j1 k false x407000 x407001 x407002 x407003 x407004 x407005 x407006 x407007 x407008 x407009 x407010 x407011 x407012 x407013 x407014 x407015)) else (impl_WorldOk.j1 k false x407000 x407001 x407002 x407003 x407004 x407005 x407006 x407007 x407008 x407009 x407010 x407011 x407012 x407013 x407014 x407015)))) r) : Ev (fun k => impl_WorldOk.l0 k x7 x8 x9 x407000 x407001 x407002 x407003 x407004 x407005 x407006 x407007 x407008 x407009 x407010 x407011 x407012 x407013 x407014 x407015) r := Ev.step (fun k => impl_WorldOk.l0.eq_2 x7 x8 x9 x407000 x407001 x407002 x407003 x407004 x407005 x407006 x407007 x407008 x407009 x407010 x407011 x407012 x407013 x407014 x407015 k) H
theorem impl_WorldOk.j1.st {x5 : Bool} {x407000 : Int} {x407001 : Int} {x407002 : Int} {x407003 : List (S48)} {x407004 : List (S101)} {x407005 : Int} {x407006 : Int} {x407007 : List (S101)} {x407008 : Int} {x407009 : Int} {x407010 : Int} {x407011 : Int} {x407012 : List Int} {x407013 : Int} {x407014 : Int} {x407015 : Int} {r : (Bool)} (H : Ev (fun k => if x5 = true then ((impl_in.f (x407012.length : Int) 1 20).bind fun t411 => (if t411 = true then ((impl_in.f x407013 0 50).bind fun t412 => (if t412 = true then ((impl_in.f x407014 1 50).bind fun t413 => (if t413 = true then ((impl_in.f x407015 1 12).bind fun t414 => (some t414)) else (some false))) else (some false))) else (some false))) else (some false)) r) : Ev (fun k => impl_WorldOk.j1 k x5 x407000 x407001 x407002 x407003 x407004 x407005 x407006 x407007 x407008 x407009 x407010 x407011 x407012 x407013 x407014 x407015) r := Ev.step (fun k => impl_WorldOk.j1.eq_2 x5 x407000 x407001 x407002 x407003 x407004 x407005 x407006 x407007 x407008 x407009 x407010 x407011 x407012 x407013 x407014 x407015 k) H

/-! ### impl_words: function 17 -/
/-- Texts with a space between. -/
def spaced (l : List ByteArray) : List UInt8 := Lib.join (l.map (·.data.toList)) [32]
def impl_words.f (l0 : List ByteArray) : Option ByteArray := if 1 ≤ l0.length ∧ l0.length ≤ 1000 ∧ (spaced l0).length ≤ 1000000 then some ⟨(spaced l0).toArray⟩ else none
theorem impl_words.calls (P0_ : Nat → Prop) (u9000_ : Value) (l0 : List ByteArray) (r : ByteArray) (w0 w : World) (hB : Below w0.heap.size w0 w) (ho0 : Kd.R Kd.string 9 w w0.heap.size P0_ u9000_ l0) (h : impl_words.f l0 = some r) :
    Calls Tryz.prog 17 #[u9000_] w fun e w' => e = .returned (.string r) ∧ Below w0.heap.size w0 w' ∧ Kept w w' (fun k_ => P0_ k_) := by
 unfold impl_words.f at h
 by_cases hb : 1 ≤ l0.length ∧ l0.length ≤ 1000 ∧ (spaced l0).length ≤ 1000000
 ·rw [if_pos hb] at h
  obtain rfl := Option.some.inj h
  obtain ⟨hok, inner, hown, hrep⟩ := ho0
  obtain ⟨hlen, hv⟩ := hown
  rcases hv with ⟨rfl, h0⟩ | ⟨g, cap, cur, rfl, hbase, hg, hnc, hcm, hcs, htake⟩
  ·omega
  have hcells : ∀ (j : Nat) x, l0[j]? = some x → w.cell? ⟨g, 0 + j, none⟩ = some (.string x) := by
   intro j x hj
   have h1 := hrep.2 j x hj
   have hjl : j < l0.length := (List.getElem?_eq_some_iff.1 hj).1
   have h2 : (inner.drop (j * 1)).take 1 = [.string x] := h1
   have h3 : ((inner.drop (j * 1)).take 1)[0]? = some (.string x) := by rw [h2]; rfl
   rw [List.getElem?_take, if_pos (by omega), List.getElem?_drop, ← htake, List.getElem?_take, if_pos (by show j * 1 + 0 < l0.length * 1; omega)] at h3
   rw [blk_cell hg, ← Array.getElem?_toList, Nat.zero_add]
   rw [Nat.mul_one, Nat.add_zero] at h3
   exact h3
  have hcall := Tryz.strings_Join g 0 cap l0 ⟨#[32]⟩ w hcells (blk_lt hg) (by omega) hnc (by have := hb.2.2; unfold spaced at this; show (Lib.join (l0.map (·.data.toList)) [32]).length ≤ _; omega)
  have HB := Pst.A hB
  generalize hn : l0.length = n at hcall
  have hres : (Lib.join (l0.map (·.data.toList)) (⟨#[32]⟩ : ByteArray).data.toList) = spaced l0 := rfl
  rw [hres] at hcall
  generalize spaced l0 = q at hcall
  clear hB h hb hok hrep hlen hg hcs htake hcells hnc hcm
  go_enter Tryz.func17, Tryz.ntmps17
  go_wp2_with (go_at_call 36; refine hcall.mono ?_; rintro e w1 ⟨rfl, hb1⟩)
  go_ret
  exact ⟨rfl, below_step HB.out hb1, Kept.of_below hb1 _⟩
 ·rw [if_neg hb] at h
  cases h

/-! ### strconv_Itoa: function 37 -/
/-- A cell that holds some value of an interface's type. -/
def IsErr (w : World) (g : Nat) : Prop := ∃ ev, w.cell? ⟨g, 0, none⟩ = some ev ∧ (ev = .nilIface ∨ ∃ te pe, ev = .iface te pe)
/-- The library's variables that are read: the table of powers of ten as it is laid, the greatest length of a search some number, the two errors some values. -/
def Tab (w : World) : Prop := Lib.TabIs Tryz.prog w "internal/strconv.uint64pow10" .u64 Lib.pow10Tab ∧ (∃ m, w.cell? ⟨0, 0, none⟩ = some (.int .i64 m)) ∧ IsErr w 1 ∧ IsErr w 2
theorem Tab.cell {w w1 : World} {g : Nat} {v : Value} (hb : Below w.heap.size w w1) (h : w.cell? ⟨g, 0, none⟩ = some v) : w1.cell? ⟨g, 0, none⟩ = some v := (hb.cell (show (⟨g, 0, none⟩ : Addr).block < w.heap.size from Lib.lt_of_cell h)).trans h
theorem Tab.on {w w1 : World} (h : Tab w) (hb : Below w.heap.size w w1) : Tab w1 := by
 obtain ⟨h1, ⟨m, h2⟩, ⟨x, h3, h4⟩, y, h5, h6⟩ := h
 exact ⟨Lib.tabBelow_of_tabIs h1 w1 hb, ⟨m, Tab.cell hb h2⟩, ⟨x, Tab.cell hb h3, h4⟩, y, Tab.cell hb h5, h6⟩
def strconv_Itoa.f (a0 : Int) : Option ByteArray := if -9223372036854775808 ≤ a0 ∧ a0 ≤ 9223372036854775807 then some ⟨(Lib.itoa a0).toArray⟩ else none
theorem strconv_Itoa.calls (a0 : Int) (r : ByteArray) (w : World) (h : strconv_Itoa.f a0 = some r) (ht_ : Tab w := by exact HT.out.on Pst.bel) :
    Calls Tryz.prog 37 #[.int .i64 a0] w fun e w' => e = .returned (.string r) ∧ Below w.heap.size w w' := by
 unfold strconv_Itoa.f at h
 by_cases hb : -9223372036854775808 ≤ a0 ∧ a0 ≤ 9223372036854775807
 ·rw [if_pos hb] at h
  obtain rfl := Option.some.inj h
  refine (Tryz.strconv_Itoa a0 hb.1 hb.2 w ht_.1).mono ?_
  rintro e w' ⟨rfl, k, os, rfl⟩
  exact ⟨rfl, Lib.below_grow _ w (Nat.le_refl _) k os⟩
 ·rw [if_neg hb] at h
  cases h

/-! ### impl_number: function 18 -/
def impl_number.f (a0 : Int) : Option (ByteArray) := (strconv_Itoa.f a0).bind fun t415 => (some t415)
theorem impl_number.calls (a0 : Int) (r : ByteArray) (w : World) (h : impl_number.f a0 = some r) (tab_ : Tab w := by exact HT.out.on Pst.bel) :
    Calls Tryz.prog 18 #[.int .i64 a0] w fun e w' => e = .returned (.string r) ∧ Below w.heap.size w w' := by
 have HT := Pst.A tab_
 clear tab_
 have HB := Pst.A (Below.refl w.heap.size w)
 have H : ((strconv_Itoa.f a0).bind fun t415 => (some t415)) = some r := h
 clear h
 obtain ⟨t415, A20, H⟩ := Pst.bd H
 have A2 := Pst.A A20
 clear A20
 obtain rfl := Option.some.inj H
 go_enter Tryz.func18, Tryz.ntmps18
 go_wp2_with (first | ((with_reducible refine gate_callee (f := 37) rfl ?_); refine goesL_ (some 4) rfl rfl Tryz.func37 (by kernel_rfl) rfl #[.int .i64 a0] rfl Pst.ga ?_; (with_reducible refine (strconv_Itoa.calls a0 t415 _ A2.out).mono ?_); rintro e w3 ⟨rfl, hb⟩; refine ⟨_, rfl, ?_⟩; replace HB := Pst.A (below_step Pst.bel hb); (try clear hb); (try clear hb2); (try clear hk); (try clear hi)))
 go_ret
 exact ⟨Pst.e1, Pst.bel⟩

/-! ### impl_isValue: function 38 -/
def impl_isValue.f (a0 : Int) : Option (Bool) := (impl_in.f a0 (-1000000000) 1000000000).bind fun t416 => (some t416)
theorem impl_isValue.calls (a0 : Int) (r : Bool) (w : World) (h : impl_isValue.f a0 = some r) :
    Calls Tryz.prog 38 #[.int .i64 a0] w fun e w' => e = .returned (.bool r) ∧ Drawn0 w w' := by
 have H : ((impl_in.f a0 (-1000000000) 1000000000).bind fun t416 => (some t416)) = some r := h
 clear h
 obtain ⟨t416, A20, H⟩ := Pst.bd H
 have A2 := Pst.A A20
 clear A20
 obtain rfl := Option.some.inj H
 go_enter Tryz.func38, Tryz.ntmps38
 go_wp2_with (first | ((with_reducible refine gate_callee (f := 25) rfl ?_); refine goesL_ (some 4) rfl rfl Tryz.func25 (by kernel_rfl) rfl #[.int .i64 a0, .int .i64 (-1000000000), .int .i64 1000000000] rfl Pst.ga ?_; (with_reducible refine (impl_in.calls a0 (-1000000000) 1000000000 t416 _ A2.out).mono ?_); rintro e w' ⟨rfl, ⟨nd, rfl⟩⟩; refine ⟨_, rfl, ?_⟩))
 go_ret
 exact ⟨Pst.e2, by repeat (first | exact Drawn0.refl _ | apply Drawn0.step)⟩

/-! ### strings_TrimRight: function 39 -/
def strings_TrimRight.f (a0 a1 : ByteArray) : Option ByteArray := if a1 = ⟨#[48]⟩ ∧ a0.size ≤ 9223372036854775807 then some ⟨(Lib.trimRightB a0.data.toList 48).toArray⟩ else none
theorem strings_TrimRight.calls (a0 a1 : ByteArray) (r : ByteArray) (w : World) (h : strings_TrimRight.f a0 a1 = some r) :
    Calls Tryz.prog 39 #[.string a0, .string a1] w fun e w' => e = .returned (.string r) ∧ Below w.heap.size w w' := by
 unfold strings_TrimRight.f at h
 by_cases hb : a1 = ⟨#[48]⟩ ∧ a0.size ≤ 9223372036854775807
 ·rw [if_pos hb] at h
  obtain rfl := Option.some.inj h
  obtain ⟨rfl, hs⟩ := hb
  refine (Tryz.strings_TrimRight_one a0 48 (by decide) w hs).mono ?_
  rintro e w' ⟨rfl, rfl⟩
  exact ⟨rfl, Below.refl _ _⟩
 ·rw [if_neg hb] at h
  cases h

/-! ### impl_MilliText: function 19 -/
def impl_MilliText.j0 : Nat → Int → ByteArray → Option (ByteArray)
 | 0, _, _ => none
 | k + 1, x0, x3 => (strconv_Itoa.f (wrap64 (Int.tdiv x0 1000))).bind fun t418 => (if x3.size + t418.size ≤ 9223372036854775807 then (if (Int.tmod x0 1000) = 0 then (some (x3 ++ t418)) else (if (x3 ++ t418).size + 1 ≤ 9223372036854775807 then ((strconv_Itoa.f (wrap64 (1000 + (Int.tmod x0 1000)))).bind fun t419 => (if 1 ≤ (t419.size : Int) then ((strings_TrimRight.f (t419.extract 1 t419.size) (⟨#[48]⟩ : ByteArray)).bind fun t420 => (if ((x3 ++ t418) ++ (⟨#[46]⟩ : ByteArray)).size + t420.size ≤ 9223372036854775807 then (some (((x3 ++ t418) ++ (⟨#[46]⟩ : ByteArray)) ++ t420)) else (none))) else (none))) else (none))) else (none))
def impl_MilliText.f (k : Nat) (a0 : Int) : Option (ByteArray) := (impl_isValue.f a0).bind fun t417 => (if t417 = true then (if a0 < 0 then (impl_MilliText.j0 k (wrap64 (-a0)) (⟨#[45]⟩ : ByteArray)) else (impl_MilliText.j0 k a0 (⟨#[]⟩ : ByteArray))) else (some (⟨#[]⟩ : ByteArray)))
theorem impl_MilliText.mono_l : ∀ k, (∀ y0 y1, LeO (impl_MilliText.j0 k y0 y1) (impl_MilliText.j0 (k + 1) y0 y1))
 | 0 => fun _ _ r h => by simp [impl_MilliText.j0] at h
 | k + 1 => by
  have ih0 := impl_MilliText.mono_l k
  ·intro y0 y1
   unfold impl_MilliText.j0
   exact Pst.mo
theorem impl_MilliText.mono : ∀ a0 k, LeO (impl_MilliText.f k a0) (impl_MilliText.f (k + 1) a0) := by
 intro a0 k
 have ih0 := impl_MilliText.mono_l k
 unfold impl_MilliText.f
 exact Pst.mo
theorem impl_MilliText.calls (k : Nat) (a0 : Int) (r : ByteArray) (w : World) (h : impl_MilliText.f k a0 = some r) (tab_ : Tab w := by exact HT.out.on Pst.bel) :
    Calls Tryz.prog 19 #[.int .i64 a0] w fun e w' => e = .returned (.string r) ∧ Below w.heap.size w w' := by
 have HT := Pst.A tab_
 clear tab_
 have HB := Pst.A (Below.refl w.heap.size w)
 have H : ((impl_isValue.f a0).bind fun t417 => (if t417 = true then (if a0 < 0 then (impl_MilliText.j0 k (wrap64 (-a0)) (⟨#[45]⟩ : ByteArray)) else (impl_MilliText.j0 k a0 (⟨#[]⟩ : ByteArray))) else (some (⟨#[]⟩ : ByteArray)))) = some r := h
 clear h
 obtain ⟨t417, A20, H⟩ := Pst.bd H
 have A2 := Pst.A A20
 clear A20
 by_cases c3 : t417 = true
 ·subst c3
  rw [if_pos rfl] at H
  have HC4 := Pst.A H
  clear H
  go_enter Tryz.func19, Tryz.ntmps19
  go_upto_if 8 with (first | ((with_reducible refine gate_callee (f := 38) rfl ?_); refine goesL_ (some 5) rfl rfl Tryz.func38 (by kernel_rfl) rfl #[.int .i64 a0] rfl Pst.ga ?_; (with_reducible refine (impl_isValue.calls a0 true _ A2.out).mono ?_); rintro e w' ⟨rfl, ⟨nd, rfl⟩⟩; refine ⟨_, rfl, ?_⟩))
  (try simp only [Act.put, List.setIfInBounds_toArray, List.set_cons_zero, List.set_cons_succ])
  go_cut [0, 3] (fun v0 v3 wc => ∃ (kq : Nat) (x0_3 : Int) (x3_3 : ByteArray), v0 = .int .i64 x0_3 ∧ v3 = .string x3_3 ∧ Aside0 (impl_MilliText.j0 kq x0_3 x3_3 = some r) ∧ Aside0 (kq ≤ k) ∧ Aside0 (Below w.heap.size w wc))
  case first =>
   have H := HC4.out
   clear HC4
   by_cases c5 : a0 < 0
   ·rw [if_pos c5] at H
    have c5b0 : decide (a0 < 0) = true := decide_eq_true c5
    clear c5
    (first | rw [c5b0] | (simp only [i64_w, i32_w]; rw [c5b0]) | skip)
    have H' := Pst.A H
    clear H
    go_wp2
    go_meet
    case rel => exact ⟨_, (wrap64 (-a0)), ((⟨#[45]⟩ : ByteArray)), Pst.e2, Pst.e2, H', ⟨by first | omega | exact Nat.le_refl _⟩, ⟨Pst.bel⟩⟩
   ·rw [if_neg c5] at H
    have c5b0 : decide (a0 < 0) = false := decide_eq_false c5
    clear c5
    (first | rw [c5b0] | (simp only [i64_w, i32_w]; rw [c5b0]) | skip)
    have H' := Pst.A H
    clear H
    go_wp2
    go_meet
    case rel => exact ⟨_, (a0), ((⟨#[]⟩ : ByteArray)), Pst.e2, Pst.e2, H', ⟨by first | omega | exact Nat.le_refl _⟩, ⟨Pst.bel⟩⟩
  clear HC4
  try clear c1
  try clear p2
  try clear c3
  try clear c5
  try clear c5b0
  obtain ⟨kq, x0_3, x3_3, rfl, rfl, HA, HJ3, HB⟩ := hcut
  cases kq with
  | zero => exact absurd HA.out (by simp [impl_MilliText.j0])
  | succ kj3 =>
   have H := HA.out
   clear HA
   simp only [impl_MilliText.j0] at H
   obtain ⟨t418, A60, H⟩ := Pst.bd H
   have A6 := Pst.A A60
   clear A60
   by_cases c7 : x3_3.size + t418.size ≤ 9223372036854775807
   ·rw [if_pos c7] at H
    have c7b0 := eq_true c7
    have c7b1 : decide (x3_3.size + t418.size ≤ 9223372036854775807) = true := decide_eq_true c7
    try have c7b2 : (9223372036854775807 < x3_3.size + t418.size) = False := eq_false (Nat.not_lt.2 c7)
    by_cases c8 : (Int.tmod x0_3 1000) = 0
    ·rw [if_pos c8] at H
     have c8b0 : ((Int.tmod x0_3 1000) == 0) = true := beq_iff_eq.mpr c8
     have c8b1 : ((Int.tmod x0_3 1000) != 0) = false := bne_eq_false_iff_eq.mpr c8
     clear c8
     obtain rfl := Option.some.inj H
     go_wp2_with (first | ((with_reducible refine gate_callee (f := 37) rfl ?_); refine goesL_ (some 14) rfl rfl Tryz.func37 (by kernel_rfl) rfl #[.int .i64 (wrap64 (Int.tdiv x0_3 1000))] rfl Pst.ga ?_; (with_reducible refine (strconv_Itoa.calls (wrap64 (Int.tdiv x0_3 1000)) t418 _ A6.out).mono ?_); rintro e w9 ⟨rfl, hb⟩; refine ⟨_, rfl, ?_⟩; replace HB := Pst.A (below_step Pst.bel hb); (try clear hb); (try clear hb2); (try clear hk); (try clear hi)))
     go_ret
     exact ⟨Pst.e1, Pst.bel⟩
    ·rw [if_neg c8] at H
     have c8b0 : ((Int.tmod x0_3 1000) == 0) = false := beq_eq_false_iff_ne.mpr c8
     have c8b1 : ((Int.tmod x0_3 1000) != 0) = true := bne_iff_ne.mpr c8
     by_cases c10 : (x3_3 ++ t418).size + 1 ≤ 9223372036854775807
     ·rw [if_pos c10] at H
      have c10b0 := eq_true c10
      have c10b1 : decide ((x3_3 ++ t418).size + 1 ≤ 9223372036854775807) = true := decide_eq_true c10
      try have c10b2 : (9223372036854775807 < (x3_3 ++ t418).size + 1) = False := eq_false (Nat.not_lt.2 c10)
      try have c10b3 : (9223372036854775807 < x3_3.size + t418.size + 1) = False := by rw [show x3_3.size + t418.size + 1 = (x3_3 ++ t418).size + 1 from (by first | (simp only [ByteArray.size_append]; done) | (simp only [ByteArray.size_append]; rfl) | rfl)]; exact c10b2
      obtain ⟨t419, A110, H⟩ := Pst.bd H
      have A11 := Pst.A A110
      clear A110
      by_cases c12 : 1 ≤ (t419.size : Int)
      ·rw [if_pos c12] at H
       have c12b0 := eq_true c12
       have c12b1 : decide (1 ≤ (t419.size : Int)) = true := decide_eq_true c12
       clear c12
       obtain ⟨t420, A130, H⟩ := Pst.bd H
       have A13 := Pst.A A130
       clear A130
       by_cases c14 : ((x3_3 ++ t418) ++ (⟨#[46]⟩ : ByteArray)).size + t420.size ≤ 9223372036854775807
       ·rw [if_pos c14] at H
        have c14b0 := eq_true c14
        have c14b1 : decide (((x3_3 ++ t418) ++ (⟨#[46]⟩ : ByteArray)).size + t420.size ≤ 9223372036854775807) = true := decide_eq_true c14
        try have c14b2 : (9223372036854775807 < ((x3_3 ++ t418) ++ (⟨#[46]⟩ : ByteArray)).size + t420.size) = False := eq_false (Nat.not_lt.2 c14)
        try have c14b3 : (9223372036854775807 < x3_3.size + t418.size + 1 + t420.size) = False := by rw [show x3_3.size + t418.size + 1 + t420.size = ((x3_3 ++ t418) ++ (⟨#[46]⟩ : ByteArray)).size + t420.size from (by first | (simp only [ByteArray.size_append]; done) | (simp only [ByteArray.size_append]; rfl) | rfl)]; exact c14b2
        obtain rfl := Option.some.inj H
        go_wp2_with (first | ((with_reducible refine gate_callee (f := 37) rfl ?_); refine goesL_ (some 14) rfl rfl Tryz.func37 (by kernel_rfl) rfl #[.int .i64 (wrap64 (Int.tdiv x0_3 1000))] rfl Pst.ga ?_; (with_reducible refine (strconv_Itoa.calls (wrap64 (Int.tdiv x0_3 1000)) t418 _ A6.out).mono ?_); rintro e w15 ⟨rfl, hb⟩; refine ⟨_, rfl, ?_⟩; replace HB := Pst.A (below_step Pst.bel hb); (try clear hb); (try clear hb2); (try clear hk); (try clear hi)) | ((with_reducible refine gate_callee (f := 37) rfl ?_); refine goesL_ (some 25) rfl rfl Tryz.func37 (by kernel_rfl) rfl #[.int .i64 (wrap64 (1000 + (Int.tmod x0_3 1000)))] rfl Pst.ga ?_; (with_reducible refine (strconv_Itoa.calls (wrap64 (1000 + (Int.tmod x0_3 1000))) t419 _ A11.out).mono ?_); rintro e w16 ⟨rfl, hb⟩; refine ⟨_, rfl, ?_⟩; replace HB := Pst.A (below_step Pst.bel hb); (try clear hb); (try clear hb2); (try clear hk); (try clear hi)) | ((with_reducible refine gate_callee (f := 39) rfl ?_); refine goesL_ (some 27) rfl rfl Tryz.func39 (by kernel_rfl) rfl #[.string (t419.extract 1 t419.size), .string (⟨#[48]⟩ : ByteArray)] rfl Pst.ga ?_; (with_reducible refine (strings_TrimRight.calls (t419.extract 1 t419.size) (⟨#[48]⟩ : ByteArray) t420 _ A13.out).mono ?_); rintro e w17 ⟨rfl, hb⟩; refine ⟨_, rfl, ?_⟩; replace HB := Pst.A (below_step Pst.bel hb); (try clear hb); (try clear hb2); (try clear hk); (try clear hi)))
        go_ret
        exact ⟨Pst.e1, Pst.bel⟩
       ·rw [if_neg c14] at H
        exact absurd H (by simp)
      ·rw [if_neg c12] at H
       exact absurd H (by simp)
     ·rw [if_neg c10] at H
      exact absurd H (by simp)
   ·rw [if_neg c7] at H
    exact absurd H (by simp)
 ·replace c3 := Bool.eq_false_iff.mpr c3
  subst c3
  rw [if_neg Pst.ft] at H
  obtain rfl := Option.some.inj H
  go_enter Tryz.func19, Tryz.ntmps19
  go_wp2_with (first | ((with_reducible refine gate_callee (f := 38) rfl ?_); refine goesL_ (some 5) rfl rfl Tryz.func38 (by kernel_rfl) rfl #[.int .i64 a0] rfl Pst.ga ?_; (with_reducible refine (impl_isValue.calls a0 false _ A2.out).mono ?_); rintro e w' ⟨rfl, ⟨nd, rfl⟩⟩; refine ⟨_, rfl, ?_⟩))
  go_ret
  exact ⟨Pst.e1, Pst.bel⟩
theorem impl_MilliText.j0.st {x0 : Int} {x3 : ByteArray} {r : (ByteArray)} (H : Ev (fun k => (strconv_Itoa.f (wrap64 (Int.tdiv x0 1000))).bind fun t418 => (if x3.size + t418.size ≤ 9223372036854775807 then (if (Int.tmod x0 1000) = 0 then (some (x3 ++ t418)) else (if (x3 ++ t418).size + 1 ≤ 9223372036854775807 then ((strconv_Itoa.f (wrap64 (1000 + (Int.tmod x0 1000)))).bind fun t419 => (if 1 ≤ (t419.size : Int) then ((strings_TrimRight.f (t419.extract 1 t419.size) (⟨#[48]⟩ : ByteArray)).bind fun t420 => (if ((x3 ++ t418) ++ (⟨#[46]⟩ : ByteArray)).size + t420.size ≤ 9223372036854775807 then (some (((x3 ++ t418) ++ (⟨#[46]⟩ : ByteArray)) ++ t420)) else (none))) else (none))) else (none))) else (none))) r) : Ev (fun k => impl_MilliText.j0 k x0 x3) r := Ev.step (fun k => impl_MilliText.j0.eq_2 x0 x3 k) H

end Go.Proofs.YtidkiabehmdofaaGreatDoor.PA
