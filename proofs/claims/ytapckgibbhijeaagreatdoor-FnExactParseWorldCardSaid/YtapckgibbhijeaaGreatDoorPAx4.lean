/- Functions of the program, of the reference and of the statements: each as a plain Lean function, and a proof that the machine's call answers what that one answers. Written by a program: the kit's print, with contracts of our own for what it does not take. No condition. -/
import Derived.Test.YtapckgibbhijeaaGreatDoorPAx0
import Derived.Test.YtapckgibbhijeaaGreatDoorPAx2
import Derived.Test.YtapckgibbhijeaaGreatDoorPAx3
namespace Go.Proofs.YtapckgibbhijeaaGreatDoor.PA
set_option maxHeartbeats 8000000
set_option maxRecDepth 100000
open Go.RowKit Go.Proofs.YtapckgibbhijeaaGreatDoorW.PrintWords Go.Proofs.YtapckgibbhijeaaGreatDoorW.PrintLast Go.Proofs.YtapckgibbhijeaaGreatDoorW.PrintMore
attribute [local go_sem] max2_int min2_int max_two min_two max_three min_three max_four min_four   -- for this text's walks alone
set_option linter.unusedVariables false
set_option linter.unusedSimpArgs false

/-! ### spec_ParseMilli: function 18 -/
mutual
def spec_ParseMilli.l0 : Nat → ByteArray → Int → Int → Int → Option (Int × Bool)
 | 0, _, _, _, _ => none
 | k + 1, x0, x4, x5, x6 => if x6 < (x0.size : Int) then (if 0 ≤ x6 then (if (bt x0 x6) = 45 then (spec_ParseMilli.j1 k x0 x4 x5 x6 (x6 == 0)) else (spec_ParseMilli.j1 k x0 x4 x5 x6 false)) else (none)) else (if x5 ≥ 0 then (spec_ParseMilli.j3 k x0 x4 (wrap64 ((wrap64 ((x0.size : Int) - x5)) - 1))) else (spec_ParseMilli.j3 k x0 x4 0))
def spec_ParseMilli.j1 : Nat → ByteArray → Int → Int → Int → Bool → Option (Int × Bool)
 | 0, _, _, _, _, _ => none
 | k + 1, x0, x4, x5, x6, x17 => if x17 = true then (spec_ParseMilli.l0 k x0 x4 x5 (wrap64 (x6 + 1))) else (if 0 ≤ x6 then (if x6 < (x0.size : Int) then (if (bt x0 x6) = 46 then (spec_ParseMilli.j2 k x0 x4 x5 x6 (decide (x5 < 0))) else (spec_ParseMilli.j2 k x0 x4 x5 x6 false)) else (none)) else (none))
def spec_ParseMilli.j2 : Nat → ByteArray → Int → Int → Int → Bool → Option (Int × Bool)
 | 0, _, _, _, _, _ => none
 | k + 1, x0, x4, x5, x6, x26 => if x26 = true then (spec_ParseMilli.l0 k x0 x4 x6 (wrap64 (x6 + 1))) else (if 0 ≤ x6 then (if x6 < (x0.size : Int) then (if (bt x0 x6) ≥ 48 then (if (bt x0 x6) ≤ 57 then (spec_ParseMilli.l0 k x0 (wrap64 ((wrap64 ((wrap64 (10 * x4)) + (wrap64 (bt x0 x6)))) - 48)) x5 (wrap64 (x6 + 1))) else (some (0, false))) else (some (0, false))) else (none)) else (none))
def spec_ParseMilli.j3 : Nat → ByteArray → Int → Int → Option (Int × Bool)
 | 0, _, _, _ => none
 | k + 1, x0, x4, x7 => if x7 > 3 then (some (0, false)) else (spec_ParseMilli.l1 k x0 x4 x7)
def spec_ParseMilli.l1 : Nat → ByteArray → Int → Int → Option (Int × Bool)
 | 0, _, _, _ => none
 | k + 1, x0, x4, x7 => if x7 < 3 then (spec_ParseMilli.l1 k x0 (wrap64 (10 * x4)) (wrap64 (x7 + 1))) else (if (x0.size : Int) > 0 then (if 0 < (x0.size : Int) then (spec_ParseMilli.j5 k x0 x4 ((bt x0 0) == 45)) else (none)) else (spec_ParseMilli.j5 k x0 x4 false))
def spec_ParseMilli.j5 : Nat → ByteArray → Int → Bool → Option (Int × Bool)
 | 0, _, _, _ => none
 | k + 1, x0, x4, x77 => if x77 = true then ((spec_MilliText.f k (wrap64 (-x4))).bind fun t243 => (if t243.toList = x0.toList then (if x0.toList = ([] : List UInt8) then (some (0, false)) else (some (wrap64 (-x4), true))) else (some (0, false)))) else ((spec_MilliText.f k x4).bind fun t244 => (if t244.toList = x0.toList then (if x0.toList = ([] : List UInt8) then (some (0, false)) else (some (x4, true))) else (some (0, false))))
end
def spec_ParseMilli.f (k : Nat) (a0 : ByteArray) : Option (Int × Bool) := if (a0.size : Int) > 13 then (some (0, false)) else (spec_ParseMilli.l0 k a0 0 (-1) 0)
theorem spec_ParseMilli.mono_l : ∀ k, (∀ y0 y1 y2 y3, LeO (spec_ParseMilli.l0 k y0 y1 y2 y3) (spec_ParseMilli.l0 (k + 1) y0 y1 y2 y3)) ∧ (∀ y0 y1 y2 y3 y4, LeO (spec_ParseMilli.j1 k y0 y1 y2 y3 y4) (spec_ParseMilli.j1 (k + 1) y0 y1 y2 y3 y4)) ∧ (∀ y0 y1 y2 y3 y4, LeO (spec_ParseMilli.j2 k y0 y1 y2 y3 y4) (spec_ParseMilli.j2 (k + 1) y0 y1 y2 y3 y4)) ∧ (∀ y0 y1 y2, LeO (spec_ParseMilli.j3 k y0 y1 y2) (spec_ParseMilli.j3 (k + 1) y0 y1 y2)) ∧ (∀ y0 y1 y2, LeO (spec_ParseMilli.l1 k y0 y1 y2) (spec_ParseMilli.l1 (k + 1) y0 y1 y2)) ∧ (∀ y0 y1 y2, LeO (spec_ParseMilli.j5 k y0 y1 y2) (spec_ParseMilli.j5 (k + 1) y0 y1 y2))
 | 0 => ⟨fun _ _ _ _ r h => by simp [spec_ParseMilli.l0] at h, fun _ _ _ _ _ r h => by simp [spec_ParseMilli.j1] at h, fun _ _ _ _ _ r h => by simp [spec_ParseMilli.j2] at h, fun _ _ _ r h => by simp [spec_ParseMilli.j3] at h, fun _ _ _ r h => by simp [spec_ParseMilli.l1] at h, fun _ _ _ r h => by simp [spec_ParseMilli.j5] at h⟩
 | k + 1 => by
  obtain ⟨ih0, ih1, ih2, ih3, ih4, ih5⟩ := spec_ParseMilli.mono_l k
  refine ⟨?_, ?_, ?_, ?_, ?_, ?_⟩
  ·intro y0 y1 y2 y3
   unfold spec_ParseMilli.l0
   have m0 := @spec_MilliText.mono
   exact Pst.mo
  ·intro y0 y1 y2 y3 y4
   unfold spec_ParseMilli.j1
   have m0 := @spec_MilliText.mono
   exact Pst.mo
  ·intro y0 y1 y2 y3 y4
   unfold spec_ParseMilli.j2
   have m0 := @spec_MilliText.mono
   exact Pst.mo
  ·intro y0 y1 y2
   unfold spec_ParseMilli.j3
   have m0 := @spec_MilliText.mono
   exact Pst.mo
  ·intro y0 y1 y2
   unfold spec_ParseMilli.l1
   have m0 := @spec_MilliText.mono
   exact Pst.mo
  intro y0 y1 y2
  unfold spec_ParseMilli.j5
  have m0 := @spec_MilliText.mono
  exact Pst.mo
theorem spec_ParseMilli.mono : ∀ a0 k, LeO (spec_ParseMilli.f k a0) (spec_ParseMilli.f (k + 1) a0) := by
 intro a0 k
 obtain ⟨ih0, ih1, ih2, ih3, ih4, ih5⟩ := spec_ParseMilli.mono_l k
 unfold spec_ParseMilli.f
 have m0 := @spec_MilliText.mono
 exact Pst.mo
theorem spec_ParseMilli.calls (k : Nat) (a0 : ByteArray) (r1 : Int) (r2 : Bool) (w : World) (h : spec_ParseMilli.f k a0 = some (r1, r2)) :
 Calls Tryz.prog 18 #[.string a0] w fun e w' => e = .returned (.tuple #[.int .i64 r1, .bool r2]) ∧ Below w.heap.size w w' := by
 have HB := Pst.A (Below.refl w.heap.size w)
 have H : (if (a0.size : Int) > 13 then (some (0, false)) else (spec_ParseMilli.l0 k a0 0 (-1) 0)) = some (r1, r2) := h
 clear h
 by_cases c2 : (a0.size : Int) > 13
 ·rw [if_pos c2] at H
  have c2b0 : decide (13 < (a0.size : Int)) = true := decide_eq_true c2
  have c2b1 : decide (13 < a0.size) = true := decide_eq_true (by omega)
  clear c2
  simp only [Option.some.injEq, Prod.mk.injEq] at H
  obtain ⟨rfl, rfl⟩ := H
  go_enter Tryz.func18, Tryz.ntmps18
  go_wp2
  go_ret2
  exact ⟨Pst.e1, Pst.bel⟩
 rw [if_neg c2] at H
 have c2b0 : decide (13 < (a0.size : Int)) = false := decide_eq_false c2
 have c2b1 : decide (13 < a0.size) = false := decide_eq_false (by omega)
 clear c2
 have H' := Pst.A H
 clear H
 go_enter Tryz.func18, Tryz.ntmps18
 go_wp2
 go_loopg [4, 5, 6] k (fun kq v4 v5 v6 w' => ∃ (x4_1 : Int) (x5_1 : Int) (x6_1 : Int), v4 = .int .i64 x4_1 ∧ v5 = .int .i64 x5_1 ∧ v6 = .int .i64 x6_1 ∧ Aside0 (spec_ParseMilli.l0 kq a0 x4_1 x5_1 x6_1 = some (r1, r2)) ∧ Aside0 (kq ≤ k) ∧ Aside0 (Below w.heap.size w w'))
 case atStart => exact ⟨(0), ((-1)), (0), Pst.e2, Pst.e2, Pst.e2, H', ⟨Nat.le_refl _⟩, ⟨Pst.bel⟩⟩
 clear H'
 try clear c1
 try clear c2
 try clear c2b0
 try clear c2b1
 try clear p2
 obtain ⟨x4_1, x5_1, x6_1, rfl, rfl, rfl, HA, HK1, HB⟩ := hrel
 cases gk with
 | zero => exact absurd HA.out (by simp [spec_ParseMilli.l0])
 | succ k1 =>
  have H := HA.out
  clear HA
  simp only [spec_ParseMilli.l0] at H
  by_cases c3 : x6_1 < (a0.size : Int)
  ·rw [if_pos c3] at H
   have c3b0 : decide (x6_1 < (a0.size : Int)) = true := decide_eq_true c3
   clear c3
   have HC4 := Pst.A H
   clear H
   go_upto_region 9 with (fail)
   go_cut [17] (fun v17 wc => ∃ (kq : Nat) (x17_3 : Bool), v17 = .bool x17_3 ∧ Aside0 (spec_ParseMilli.j1 kq a0 x4_1 x5_1 x6_1 x17_3 = some (r1, r2)) ∧ Aside0 (kq ≤ k1) ∧ Aside0 (Below w.heap.size w wc))
   case first =>
    have H := HC4.out
    clear HC4
    by_cases c5 : 0 ≤ x6_1
    ·rw [if_pos c5] at H
     have c5b0 : decide (0 ≤ x6_1) = true := decide_eq_true c5
     clear c5
     (first | rw [c5b0] | (simp only [i64_w, i32_w]; rw [c5b0]) | skip)
     by_cases c7 : (bt a0 x6_1) = 45
     ·rw [if_pos c7] at H
      have c7b0 : ((bt a0 x6_1) == 45) = true := beq_iff_eq.mpr c7
      have c7b1 : ((bt a0 x6_1) != 45) = false := bne_eq_false_iff_eq.mpr c7
      clear c7
      have H' := Pst.A H
      clear H
      have p6 : 0 ≤ (x6_1 : Int) := Pst.da
      have q6 : x6_1 < (a0.size : Int) := Pst.da
      have hx6 := bt_at a0 x6_1
      replace p6 := eq_true p6
      replace q6 := eq_true q6
      go_wp2
      go_meet
      case rel => exact ⟨_, ((x6_1 == 0)), Pst.e2, H', ⟨by have := HK1.out; first | omega | exact Nat.le_refl _⟩, ⟨Pst.bel⟩⟩
     rw [if_neg c7] at H
     have c7b0 : ((bt a0 x6_1) == 45) = false := beq_eq_false_iff_ne.mpr c7
     have c7b1 : ((bt a0 x6_1) != 45) = true := bne_iff_ne.mpr c7
     have H' := Pst.A H
     clear H
     have p6 : 0 ≤ (x6_1 : Int) := Pst.da
     have q6 : x6_1 < (a0.size : Int) := Pst.da
     have hx6 := bt_at a0 x6_1
     replace p6 := eq_true p6
     replace q6 := eq_true q6
     go_wp2
     go_meet
     case rel => exact ⟨_, (false), Pst.e2, H', ⟨by have := HK1.out; first | omega | exact Nat.le_refl _⟩, ⟨Pst.bel⟩⟩
    rw [if_neg c5] at H
    exact absurd H (by simp)
   clear HC4
   try clear c1
   try clear c2
   try clear c2b0
   try clear c2b1
   try clear p2
   try clear c3
   try clear c3b0
   try clear c5
   try clear c5b0
   try clear p6
   try clear q6
   try clear hx6
   try clear c7
   try clear c7b0
   try clear c7b1
   try clear p2
   try clear p6
   try clear q6
   obtain ⟨kq, x17_3, rfl, HA, HJ3, HB⟩ := hcut
   cases kq with
   | zero => exact absurd HA.out (by simp [spec_ParseMilli.j1])
   | succ kj3 =>
    have H := HA.out
    clear HA
    simp only [spec_ParseMilli.j1] at H
    by_cases c8 : x17_3 = true
    ·subst c8
     rw [if_pos rfl] at H
     have H' := Pst.A H
     clear H
     go_wp2
     go_roundg kj3
     case measure => have := HK1.out; have := HJ3.out; omega
     case rel => exact ⟨(x4_1), (x5_1), (wrap64 (x6_1 + 1)), Pst.e2, Pst.e2, Pst.e2, H', ⟨by have := HK1.out; have := HJ3.out; omega⟩, ⟨Pst.bel⟩⟩
    replace c8 := Bool.eq_false_iff.mpr c8
    subst c8
    rw [if_neg Pst.ft] at H
    have HC9 := Pst.A H
    clear H
    go_upto_region 10 with (fail)
    go_cut [26] (fun v26 wc => ∃ (kq : Nat) (x26_8 : Bool), v26 = .bool x26_8 ∧ Aside0 (spec_ParseMilli.j2 kq a0 x4_1 x5_1 x6_1 x26_8 = some (r1, r2)) ∧ Aside0 (kq ≤ kj3) ∧ Aside0 (Below w.heap.size w wc))
    case first =>
     have H := HC9.out
     clear HC9
     by_cases c10 : 0 ≤ x6_1
     ·rw [if_pos c10] at H
      have c10b0 : decide (0 ≤ x6_1) = true := decide_eq_true c10
      clear c10
      (first | rw [c10b0] | (simp only [i64_w, i32_w]; rw [c10b0]) | skip)
      by_cases c11 : x6_1 < (a0.size : Int)
      ·rw [if_pos c11] at H
       have c11b0 : decide (x6_1 < (a0.size : Int)) = true := decide_eq_true c11
       clear c11
       by_cases c13 : (bt a0 x6_1) = 46
       ·rw [if_pos c13] at H
        have c13b0 : ((bt a0 x6_1) == 46) = true := beq_iff_eq.mpr c13
        have c13b1 : ((bt a0 x6_1) != 46) = false := bne_eq_false_iff_eq.mpr c13
        clear c13
        have H' := Pst.A H
        clear H
        have p12 : 0 ≤ (x6_1 : Int) := Pst.da
        have q12 : x6_1 < (a0.size : Int) := Pst.da
        have hx12 := bt_at a0 x6_1
        replace p12 := eq_true p12
        replace q12 := eq_true q12
        go_wp2
        go_meet
        case rel => exact ⟨_, (decide (x5_1 < 0)), Pst.e2, H', ⟨by have := HK1.out; have := HJ3.out; first | omega | exact Nat.le_refl _⟩, ⟨Pst.bel⟩⟩
       rw [if_neg c13] at H
       have c13b0 : ((bt a0 x6_1) == 46) = false := beq_eq_false_iff_ne.mpr c13
       have c13b1 : ((bt a0 x6_1) != 46) = true := bne_iff_ne.mpr c13
       have H' := Pst.A H
       clear H
       have p12 : 0 ≤ (x6_1 : Int) := Pst.da
       have q12 : x6_1 < (a0.size : Int) := Pst.da
       have hx12 := bt_at a0 x6_1
       replace p12 := eq_true p12
       replace q12 := eq_true q12
       go_wp2
       go_meet
       case rel => exact ⟨_, (false), Pst.e2, H', ⟨by have := HK1.out; have := HJ3.out; first | omega | exact Nat.le_refl _⟩, ⟨Pst.bel⟩⟩
      rw [if_neg c11] at H
      exact absurd H (by simp)
     rw [if_neg c10] at H
     exact absurd H (by simp)
    clear HC9
    try clear c1
    try clear p1
    try clear q1
    try clear hx1
    try clear c2
    try clear c2b0
    try clear c2b1
    try clear p2
    try clear c3
    try clear c3b0
    try clear c5
    try clear c5b0
    try clear p6
    try clear q6
    try clear hx6
    try clear c7
    try clear c7b0
    try clear c7b1
    try clear c8
    try clear c10
    try clear c10b0
    try clear c11
    try clear c11b0
    try clear p12
    try clear q12
    try clear hx12
    try clear c13
    try clear c13b0
    try clear c13b1
    try clear p12
    try clear p2
    try clear p6
    try clear q12
    try clear q6
    obtain ⟨kq, x26_8, rfl, HA, HJ8, HB⟩ := hcut
    cases kq with
    | zero => exact absurd HA.out (by simp [spec_ParseMilli.j2])
    | succ kj8 =>
     have H := HA.out
     clear HA
     simp only [spec_ParseMilli.j2] at H
     by_cases c14 : x26_8 = true
     ·subst c14
      rw [if_pos rfl] at H
      have H' := Pst.A H
      clear H
      go_wp2
      go_roundg kj8
      case measure => have := HK1.out; have := HJ3.out; have := HJ8.out; omega
      case rel => exact ⟨(x4_1), (x6_1), (wrap64 (x6_1 + 1)), Pst.e2, Pst.e2, Pst.e2, H', ⟨by have := HK1.out; have := HJ3.out; have := HJ8.out; omega⟩, ⟨Pst.bel⟩⟩
     replace c14 := Bool.eq_false_iff.mpr c14
     subst c14
     rw [if_neg Pst.ft] at H
     by_cases c15 : 0 ≤ x6_1
     ·rw [if_pos c15] at H
      have c15b0 : decide (0 ≤ x6_1) = true := decide_eq_true c15
      clear c15
      by_cases c16 : x6_1 < (a0.size : Int)
      ·rw [if_pos c16] at H
       have c16b0 : decide (x6_1 < (a0.size : Int)) = true := decide_eq_true c16
       clear c16
       by_cases c18 : (bt a0 x6_1) ≥ 48
       ·rw [if_pos c18] at H
        have c18b0 : decide (48 ≤ (bt a0 x6_1)) = true := decide_eq_true c18
        clear c18
        by_cases c20 : (bt a0 x6_1) ≤ 57
        ·rw [if_pos c20] at H
         have c20b0 : decide ((bt a0 x6_1) ≤ 57) = true := decide_eq_true c20
         clear c20
         have H' := Pst.A H
         clear H
         have p17 : 0 ≤ (x6_1 : Int) := Pst.da
         have q17 : x6_1 < (a0.size : Int) := Pst.da
         have hx17 := bt_at a0 x6_1
         replace p17 := eq_true p17
         replace q17 := eq_true q17
         have p19 : 0 ≤ (x6_1 : Int) := Pst.da
         have q19 : x6_1 < (a0.size : Int) := Pst.da
         have hx19 := bt_at a0 x6_1
         replace p19 := eq_true p19
         replace q19 := eq_true q19
         have p21 : 0 ≤ (x6_1 : Int) := Pst.da
         have q21 : x6_1 < (a0.size : Int) := Pst.da
         have hx21 := bt_at a0 x6_1
         replace p21 := eq_true p21
         replace q21 := eq_true q21
         go_wp2
         go_roundg kj8
         case measure => have := HK1.out; have := HJ3.out; have := HJ8.out; omega
         case rel => exact ⟨(wrap64 ((wrap64 ((wrap64 (10 * x4_1)) + (wrap64 (bt a0 x6_1)))) - 48)), (x5_1), (wrap64 (x6_1 + 1)), Pst.e2, Pst.e2, Pst.e2, H', ⟨by have := HK1.out; have := HJ3.out; have := HJ8.out; omega⟩, ⟨Pst.bel⟩⟩
        rw [if_neg c20] at H
        have c20b0 : decide ((bt a0 x6_1) ≤ 57) = false := decide_eq_false c20
        clear c20
        simp only [Option.some.injEq, Prod.mk.injEq] at H
        obtain ⟨rfl, rfl⟩ := H
        have p17 : 0 ≤ (x6_1 : Int) := Pst.da
        have q17 : x6_1 < (a0.size : Int) := Pst.da
        have hx17 := bt_at a0 x6_1
        replace p17 := eq_true p17
        replace q17 := eq_true q17
        have p19 : 0 ≤ (x6_1 : Int) := Pst.da
        have q19 : x6_1 < (a0.size : Int) := Pst.da
        have hx19 := bt_at a0 x6_1
        replace p19 := eq_true p19
        replace q19 := eq_true q19
        go_wp2
        go_ret2
        exact ⟨Pst.e1, Pst.bel⟩
       rw [if_neg c18] at H
       have c18b0 : decide (48 ≤ (bt a0 x6_1)) = false := decide_eq_false c18
       clear c18
       simp only [Option.some.injEq, Prod.mk.injEq] at H
       obtain ⟨rfl, rfl⟩ := H
       have p17 : 0 ≤ (x6_1 : Int) := Pst.da
       have q17 : x6_1 < (a0.size : Int) := Pst.da
       have hx17 := bt_at a0 x6_1
       replace p17 := eq_true p17
       replace q17 := eq_true q17
       go_wp2
       go_ret2
       exact ⟨Pst.e1, Pst.bel⟩
      rw [if_neg c16] at H
      exact absurd H (by simp)
     rw [if_neg c15] at H
     exact absurd H (by simp)
  rw [if_neg c3] at H
  have c3b0 : decide (x6_1 < (a0.size : Int)) = false := decide_eq_false c3
  clear c3
  have HC22 := Pst.A H
  clear H
  go_upto_if 56 with (fail)
  go_cut [7] (fun v7 wc => ∃ (kq : Nat) (x7_21 : Int), v7 = .int .i64 x7_21 ∧ Aside0 (spec_ParseMilli.j3 kq a0 x4_1 x7_21 = some (r1, r2)) ∧ Aside0 (kq ≤ k1) ∧ Aside0 (Below w.heap.size w wc))
  case first =>
   have H := HC22.out
   clear HC22
   by_cases c23 : x5_1 ≥ 0
   ·rw [if_pos c23] at H
    have c23b0 : decide (0 ≤ x5_1) = true := decide_eq_true c23
    clear c23
    (first | rw [c23b0] | (simp only [i64_w, i32_w]; rw [c23b0]) | skip)
    have H' := Pst.A H
    clear H
    go_wp2
    go_meet
    case rel => exact ⟨_, (wrap64 ((wrap64 ((a0.size : Int) - x5_1)) - 1)), Pst.e2, H', ⟨by have := HK1.out; first | omega | exact Nat.le_refl _⟩, ⟨Pst.bel⟩⟩
   rw [if_neg c23] at H
   have c23b0 : decide (0 ≤ x5_1) = false := decide_eq_false c23
   clear c23
   (first | rw [c23b0] | (simp only [i64_w, i32_w]; rw [c23b0]) | skip)
   have H' := Pst.A H
   clear H
   go_wp2
   go_meet
   case rel => exact ⟨_, (0), Pst.e2, H', ⟨by have := HK1.out; first | omega | exact Nat.le_refl _⟩, ⟨Pst.bel⟩⟩
  clear HC22
  try clear c1
  try clear p1
  try clear q1
  try clear hx1
  try clear c2
  try clear c2b0
  try clear c2b1
  try clear p2
  try clear q2
  try clear hx2
  try clear c3
  try clear c3b0
  try clear c5
  try clear c5b0
  try clear p6
  try clear q6
  try clear hx6
  try clear c7
  try clear c7b0
  try clear c7b1
  try clear c8
  try clear c10
  try clear c10b0
  try clear c11
  try clear c11b0
  try clear p12
  try clear q12
  try clear hx12
  try clear c13
  try clear c13b0
  try clear c13b1
  try clear c14
  try clear c15
  try clear c15b0
  try clear c16
  try clear c16b0
  try clear p17
  try clear q17
  try clear hx17
  try clear c18
  try clear c18b0
  try clear p19
  try clear q19
  try clear hx19
  try clear c20
  try clear c20b0
  try clear p21
  try clear q21
  try clear hx21
  try clear c23
  try clear c23b0
  try clear p1
  try clear p12
  try clear p17
  try clear p19
  try clear p2
  try clear p21
  try clear p6
  try clear q1
  try clear q12
  try clear q17
  try clear q19
  try clear q21
  try clear q6
  obtain ⟨kq, x7_21, rfl, HA, HJ21, HB⟩ := hcut
  cases kq with
  | zero => exact absurd HA.out (by simp [spec_ParseMilli.j3])
  | succ kj21 =>
   have H := HA.out
   clear HA
   simp only [spec_ParseMilli.j3] at H
   by_cases c24 : x7_21 > 3
   ·rw [if_pos c24] at H
    have c24b0 : decide (3 < x7_21) = true := decide_eq_true c24
    clear c24
    simp only [Option.some.injEq, Prod.mk.injEq] at H
    obtain ⟨rfl, rfl⟩ := H
    go_wp2
    go_ret2
    exact ⟨Pst.e1, Pst.bel⟩
   rw [if_neg c24] at H
   have c24b0 : decide (3 < x7_21) = false := decide_eq_false c24
   clear c24
   have H' := Pst.A H
   clear H
   go_wp2
   go_loopg [4, 7] kj21 (fun kq v4 v7 w' => ∃ (x4_3 : Int) (x7_3 : Int), v4 = .int .i64 x4_3 ∧ v7 = .int .i64 x7_3 ∧ Aside0 (spec_ParseMilli.l1 kq a0 x4_3 x7_3 = some (r1, r2)) ∧ Aside0 (kq ≤ kj21) ∧ Aside0 (Below w.heap.size w w'))
   case atStart => exact ⟨(x4_1), (x7_21), Pst.e2, Pst.e2, H', ⟨Nat.le_refl _⟩, ⟨Pst.bel⟩⟩
   clear H'
   try clear c1
   try clear p1
   try clear q1
   try clear hx1
   try clear c2
   try clear c2b0
   try clear c2b1
   try clear p2
   try clear q2
   try clear hx2
   try clear c3
   try clear c3b0
   try clear c5
   try clear c5b0
   try clear p6
   try clear q6
   try clear hx6
   try clear c7
   try clear c7b0
   try clear c7b1
   try clear c8
   try clear c10
   try clear c10b0
   try clear c11
   try clear c11b0
   try clear p12
   try clear q12
   try clear hx12
   try clear c13
   try clear c13b0
   try clear c13b1
   try clear c14
   try clear c15
   try clear c15b0
   try clear c16
   try clear c16b0
   try clear p17
   try clear q17
   try clear hx17
   try clear c18
   try clear c18b0
   try clear p19
   try clear q19
   try clear hx19
   try clear c20
   try clear c20b0
   try clear p21
   try clear q21
   try clear hx21
   try clear c23
   try clear c23b0
   try clear c24
   try clear c24b0
   try clear p1
   try clear p12
   try clear p17
   try clear p19
   try clear p2
   try clear p21
   try clear p6
   try clear q1
   try clear q12
   try clear q17
   try clear q19
   try clear q2
   try clear q21
   try clear q6
   obtain ⟨x4_3, x7_3, rfl, rfl, HA, HK3, HB⟩ := hrel
   cases gk with
   | zero => exact absurd HA.out (by simp [spec_ParseMilli.l1])
   | succ k3 =>
    have H := HA.out
    clear HA
    simp only [spec_ParseMilli.l1] at H
    by_cases c25 : x7_3 < 3
    ·rw [if_pos c25] at H
     have c25b0 : decide (x7_3 < 3) = true := decide_eq_true c25
     clear c25
     have H' := Pst.A H
     clear H
     go_wp2
     go_roundg k3
     case measure => have := HK1.out; have := HJ21.out; have := HK3.out; omega
     case rel => exact ⟨(wrap64 (10 * x4_3)), (wrap64 (x7_3 + 1)), Pst.e2, Pst.e2, H', ⟨by have := HK1.out; have := HJ21.out; have := HK3.out; omega⟩, ⟨Pst.bel⟩⟩
    rw [if_neg c25] at H
    have c25b0 : decide (x7_3 < 3) = false := decide_eq_false c25
    clear c25
    have HC26 := Pst.A H
    clear H
    go_upto_region 22 with (fail)
    go_cut [77] (fun v77 wc => ∃ (kq : Nat) (x77_25 : Bool), v77 = .bool x77_25 ∧ Aside0 (spec_ParseMilli.j5 kq a0 x4_3 x77_25 = some (r1, r2)) ∧ Aside0 (kq ≤ k3) ∧ Aside0 (Below w.heap.size w wc))
    case first =>
     have H := HC26.out
     clear HC26
     by_cases c27 : (a0.size : Int) > 0
     ·rw [if_pos c27] at H
      have c27b0 : decide (0 < (a0.size : Int)) = true := decide_eq_true c27
      have c27b1 : decide (0 < a0.size) = true := decide_eq_true (by omega)
      clear c27
      (first | rw [c27b0] | (simp only [i64_w, i32_w]; rw [c27b0]) | skip)
      by_cases c28 : 0 < (a0.size : Int)
      ·rw [if_pos c28] at H
       have c28b0 : decide (0 < (a0.size : Int)) = true := decide_eq_true c28
       have c28b1 : decide (0 < a0.size) = true := decide_eq_true (by omega)
       clear c28
       have H' := Pst.A H
       clear H
       have p29 : 0 ≤ (0 : Int) := (by omega)
       have q29 : 0 < a0.size := (by have : (0 : Int) < (a0.size : Int) := Pst.da; omega)
       have hx29 : ∀ h : 0 < a0.size, ((a0[0]'h).toNat : Int) = bt a0 0 := bt_at a0 0
       clear p29
       have qi29 : (0 < (a0.size : Int)) = True := eq_true (Pst.da)
       replace q29 := eq_true q29
       go_wp2
       go_meet
       case rel => exact ⟨_, (((bt a0 0) == 45)), Pst.e2, H', ⟨by have := HK1.out; have := HJ21.out; have := HK3.out; first | omega | exact Nat.le_refl _⟩, ⟨Pst.bel⟩⟩
      rw [if_neg c28] at H
      exact absurd H (by simp)
     rw [if_neg c27] at H
     have c27b0 : decide (0 < (a0.size : Int)) = false := decide_eq_false c27
     have c27b1 : decide (0 < a0.size) = false := decide_eq_false (by omega)
     clear c27
     (first | rw [c27b0] | (simp only [i64_w, i32_w]; rw [c27b0]) | skip)
     have H' := Pst.A H
     clear H
     go_wp2
     go_meet
     case rel => exact ⟨_, (false), Pst.e2, H', ⟨by have := HK1.out; have := HJ21.out; have := HK3.out; first | omega | exact Nat.le_refl _⟩, ⟨Pst.bel⟩⟩
    clear HC26
    try clear c1
    try clear p1
    try clear q1
    try clear hx1
    try clear c2
    try clear c2b0
    try clear c2b1
    try clear p2
    try clear q2
    try clear hx2
    try clear qi2
    try clear c3
    try clear c3b0
    try clear c5
    try clear c5b0
    try clear p6
    try clear q6
    try clear hx6
    try clear c7
    try clear c7b0
    try clear c7b1
    try clear c8
    try clear c10
    try clear c10b0
    try clear c11
    try clear c11b0
    try clear p12
    try clear q12
    try clear hx12
    try clear c13
    try clear c13b0
    try clear c13b1
    try clear c14
    try clear c15
    try clear c15b0
    try clear c16
    try clear c16b0
    try clear p17
    try clear q17
    try clear hx17
    try clear c18
    try clear c18b0
    try clear p19
    try clear q19
    try clear hx19
    try clear c20
    try clear c20b0
    try clear p21
    try clear q21
    try clear hx21
    try clear c23
    try clear c23b0
    try clear c24
    try clear c24b0
    try clear c25
    try clear c25b0
    try clear c27
    try clear c27b0
    try clear c27b1
    try clear c28
    try clear c28b0
    try clear c28b1
    try clear p29
    try clear q29
    try clear hx29
    try clear qi29
    try clear p1
    try clear p12
    try clear p17
    try clear p19
    try clear p2
    try clear p21
    try clear p29
    try clear p6
    try clear q1
    try clear q12
    try clear q17
    try clear q19
    try clear q2
    try clear q21
    try clear q29
    try clear q6
    obtain ⟨kq, x77_25, rfl, HA, HJ25, HB⟩ := hcut
    cases kq with
    | zero => exact absurd HA.out (by simp [spec_ParseMilli.j5])
    | succ kj25 =>
     have H := HA.out
     clear HA
     simp only [spec_ParseMilli.j5] at H
     by_cases c30 : x77_25 = true
     ·subst c30
      rw [if_pos rfl] at H
      obtain ⟨t243, A310, H⟩ := Pst.bd H
      have A31 := Pst.A A310
      clear A310
      by_cases c32 : t243.toList = a0.toList
      ·rw [if_pos c32] at H
       have c32b0 : (t243.toList == a0.toList) = true := beq_iff_eq.mpr c32
       have c32b1 : (t243.toList != a0.toList) = false := bne_eq_false_iff_eq.mpr c32
       clear c32
       by_cases c33 : a0.toList = ([] : List UInt8)
       ·rw [if_pos c33] at H
        have c33b0 : (a0.toList == ([] : List UInt8)) = true := beq_iff_eq.mpr c33
        have c33b1 : (a0.toList != ([] : List UInt8)) = false := bne_eq_false_iff_eq.mpr c33
        clear c33
        simp only [Option.some.injEq, Prod.mk.injEq] at H
        obtain ⟨rfl, rfl⟩ := H
        go_wp2_with (first | ((with_reducible refine gate_callee (f := 45) rfl ?_); refine goesL_ (some 81) rfl rfl Tryz.func45 (by kernel_rfl) rfl #[.int .i64 (wrap64 (-x4_3))] rfl Pst.ga ?_; (with_reducible refine (spec_MilliText.calls kj25 (wrap64 (-x4_3)) t243 _ A31.out).mono ?_); rintro e w34 ⟨rfl, hb⟩; refine ⟨_, rfl, ?_⟩; replace HB := Pst.A (below_step Pst.bel hb); (try clear hb); (try clear hb2); (try clear hk); (try clear hi)))
        go_ret2
        exact ⟨Pst.e1, Pst.bel⟩
       rw [if_neg c33] at H
       have c33b0 : (a0.toList == ([] : List UInt8)) = false := beq_eq_false_iff_ne.mpr c33
       have c33b1 : (a0.toList != ([] : List UInt8)) = true := bne_iff_ne.mpr c33
       simp only [Option.some.injEq, Prod.mk.injEq] at H
       obtain ⟨rfl, rfl⟩ := H
       go_wp2_with (first | ((with_reducible refine gate_callee (f := 45) rfl ?_); refine goesL_ (some 81) rfl rfl Tryz.func45 (by kernel_rfl) rfl #[.int .i64 (wrap64 (-x4_3))] rfl Pst.ga ?_; (with_reducible refine (spec_MilliText.calls kj25 (wrap64 (-x4_3)) t243 _ A31.out).mono ?_); rintro e w35 ⟨rfl, hb⟩; refine ⟨_, rfl, ?_⟩; replace HB := Pst.A (below_step Pst.bel hb); (try clear hb); (try clear hb2); (try clear hk); (try clear hi)))
       go_ret2
       exact ⟨Pst.e1, Pst.bel⟩
      rw [if_neg c32] at H
      have c32b0 : (t243.toList == a0.toList) = false := beq_eq_false_iff_ne.mpr c32
      have c32b1 : (t243.toList != a0.toList) = true := bne_iff_ne.mpr c32
      simp only [Option.some.injEq, Prod.mk.injEq] at H
      obtain ⟨rfl, rfl⟩ := H
      go_wp2_with (first | ((with_reducible refine gate_callee (f := 45) rfl ?_); refine goesL_ (some 81) rfl rfl Tryz.func45 (by kernel_rfl) rfl #[.int .i64 (wrap64 (-x4_3))] rfl Pst.ga ?_; (with_reducible refine (spec_MilliText.calls kj25 (wrap64 (-x4_3)) t243 _ A31.out).mono ?_); rintro e w36 ⟨rfl, hb⟩; refine ⟨_, rfl, ?_⟩; replace HB := Pst.A (below_step Pst.bel hb); (try clear hb); (try clear hb2); (try clear hk); (try clear hi)))
      go_ret2
      exact ⟨Pst.e1, Pst.bel⟩
     replace c30 := Bool.eq_false_iff.mpr c30
     subst c30
     rw [if_neg Pst.ft] at H
     obtain ⟨t244, A370, H⟩ := Pst.bd H
     have A37 := Pst.A A370
     clear A370
     by_cases c38 : t244.toList = a0.toList
     ·rw [if_pos c38] at H
      have c38b0 : (t244.toList == a0.toList) = true := beq_iff_eq.mpr c38
      have c38b1 : (t244.toList != a0.toList) = false := bne_eq_false_iff_eq.mpr c38
      clear c38
      by_cases c39 : a0.toList = ([] : List UInt8)
      ·rw [if_pos c39] at H
       have c39b0 : (a0.toList == ([] : List UInt8)) = true := beq_iff_eq.mpr c39
       have c39b1 : (a0.toList != ([] : List UInt8)) = false := bne_eq_false_iff_eq.mpr c39
       clear c39
       simp only [Option.some.injEq, Prod.mk.injEq] at H
       obtain ⟨rfl, rfl⟩ := H
       go_wp2_with (first | ((with_reducible refine gate_callee (f := 45) rfl ?_); refine goesL_ (some 81) rfl rfl Tryz.func45 (by kernel_rfl) rfl #[.int .i64 x4_3] rfl Pst.ga ?_; (with_reducible refine (spec_MilliText.calls kj25 x4_3 t244 _ A37.out).mono ?_); rintro e w40 ⟨rfl, hb⟩; refine ⟨_, rfl, ?_⟩; replace HB := Pst.A (below_step Pst.bel hb); (try clear hb); (try clear hb2); (try clear hk); (try clear hi)))
       go_ret2
       exact ⟨Pst.e1, Pst.bel⟩
      rw [if_neg c39] at H
      have c39b0 : (a0.toList == ([] : List UInt8)) = false := beq_eq_false_iff_ne.mpr c39
      have c39b1 : (a0.toList != ([] : List UInt8)) = true := bne_iff_ne.mpr c39
      simp only [Option.some.injEq, Prod.mk.injEq] at H
      obtain ⟨rfl, rfl⟩ := H
      go_wp2_with (first | ((with_reducible refine gate_callee (f := 45) rfl ?_); refine goesL_ (some 81) rfl rfl Tryz.func45 (by kernel_rfl) rfl #[.int .i64 x4_3] rfl Pst.ga ?_; (with_reducible refine (spec_MilliText.calls kj25 x4_3 t244 _ A37.out).mono ?_); rintro e w41 ⟨rfl, hb⟩; refine ⟨_, rfl, ?_⟩; replace HB := Pst.A (below_step Pst.bel hb); (try clear hb); (try clear hb2); (try clear hk); (try clear hi)))
      go_ret2
      exact ⟨Pst.e1, Pst.bel⟩
     rw [if_neg c38] at H
     have c38b0 : (t244.toList == a0.toList) = false := beq_eq_false_iff_ne.mpr c38
     have c38b1 : (t244.toList != a0.toList) = true := bne_iff_ne.mpr c38
     simp only [Option.some.injEq, Prod.mk.injEq] at H
     obtain ⟨rfl, rfl⟩ := H
     go_wp2_with (first | ((with_reducible refine gate_callee (f := 45) rfl ?_); refine goesL_ (some 81) rfl rfl Tryz.func45 (by kernel_rfl) rfl #[.int .i64 x4_3] rfl Pst.ga ?_; (with_reducible refine (spec_MilliText.calls kj25 x4_3 t244 _ A37.out).mono ?_); rintro e w42 ⟨rfl, hb⟩; refine ⟨_, rfl, ?_⟩; replace HB := Pst.A (below_step Pst.bel hb); (try clear hb); (try clear hb2); (try clear hk); (try clear hi)))
     go_ret2
     exact ⟨Pst.e1, Pst.bel⟩
theorem spec_ParseMilli.l0.st {x0 : ByteArray} {x4 : Int} {x5 : Int} {x6 : Int} {r : (Int × Bool)} (H : Ev (fun k => if x6 < (x0.size : Int) then (if 0 ≤ x6 then (if (bt x0 x6) = 45 then (spec_ParseMilli.j1 k x0 x4 x5 x6 (x6 == 0)) else (spec_ParseMilli.j1 k x0 x4 x5 x6 false)) else (none)) else (if x5 ≥ 0 then (spec_ParseMilli.j3 k x0 x4 (wrap64 ((wrap64 ((x0.size : Int) - x5)) - 1))) else (spec_ParseMilli.j3 k x0 x4 0))) r) : Ev (fun k => spec_ParseMilli.l0 k x0 x4 x5 x6) r := Ev.step (fun k => spec_ParseMilli.l0.eq_2 x0 x4 x5 x6 k) H
theorem spec_ParseMilli.j1.st {x0 : ByteArray} {x4 : Int} {x5 : Int} {x6 : Int} {x17 : Bool} {r : (Int × Bool)} (H : Ev (fun k => if x17 = true then (spec_ParseMilli.l0 k x0 x4 x5 (wrap64 (x6 + 1))) else (if 0 ≤ x6 then (if x6 < (x0.size : Int) then (if (bt x0 x6) = 46 then (spec_ParseMilli.j2 k x0 x4 x5 x6 (decide (x5 < 0))) else (spec_ParseMilli.j2 k x0 x4 x5 x6 false)) else (none)) else (none))) r) : Ev (fun k => spec_ParseMilli.j1 k x0 x4 x5 x6 x17) r := Ev.step (fun k => spec_ParseMilli.j1.eq_2 x0 x4 x5 x6 x17 k) H
theorem spec_ParseMilli.j2.st {x0 : ByteArray} {x4 : Int} {x5 : Int} {x6 : Int} {x26 : Bool} {r : (Int × Bool)} (H : Ev (fun k => if x26 = true then (spec_ParseMilli.l0 k x0 x4 x6 (wrap64 (x6 + 1))) else (if 0 ≤ x6 then (if x6 < (x0.size : Int) then (if (bt x0 x6) ≥ 48 then (if (bt x0 x6) ≤ 57 then (spec_ParseMilli.l0 k x0 (wrap64 ((wrap64 ((wrap64 (10 * x4)) + (wrap64 (bt x0 x6)))) - 48)) x5 (wrap64 (x6 + 1))) else (some (0, false))) else (some (0, false))) else (none)) else (none))) r) : Ev (fun k => spec_ParseMilli.j2 k x0 x4 x5 x6 x26) r := Ev.step (fun k => spec_ParseMilli.j2.eq_2 x0 x4 x5 x6 x26 k) H
theorem spec_ParseMilli.j3.st {x0 : ByteArray} {x4 : Int} {x7 : Int} {r : (Int × Bool)} (H : Ev (fun k => if x7 > 3 then (some (0, false)) else (spec_ParseMilli.l1 k x0 x4 x7)) r) : Ev (fun k => spec_ParseMilli.j3 k x0 x4 x7) r := Ev.step (fun k => spec_ParseMilli.j3.eq_2 x0 x4 x7 k) H
theorem spec_ParseMilli.l1.st {x0 : ByteArray} {x4 : Int} {x7 : Int} {r : (Int × Bool)} (H : Ev (fun k => if x7 < 3 then (spec_ParseMilli.l1 k x0 (wrap64 (10 * x4)) (wrap64 (x7 + 1))) else (if (x0.size : Int) > 0 then (if 0 < (x0.size : Int) then (spec_ParseMilli.j5 k x0 x4 ((bt x0 0) == 45)) else (none)) else (spec_ParseMilli.j5 k x0 x4 false))) r) : Ev (fun k => spec_ParseMilli.l1 k x0 x4 x7) r := Ev.step (fun k => spec_ParseMilli.l1.eq_2 x0 x4 x7 k) H
theorem spec_ParseMilli.j5.st {x0 : ByteArray} {x4 : Int} {x77 : Bool} {r : (Int × Bool)} (H : Ev (fun k => if x77 = true then ((spec_MilliText.f k (wrap64 (-x4))).bind fun t243 => (if t243.toList = x0.toList then (if x0.toList = ([] : List UInt8) then (some (0, false)) else (some (wrap64 (-x4), true))) else (some (0, false)))) else ((spec_MilliText.f k x4).bind fun t244 => (if t244.toList = x0.toList then (if x0.toList = ([] : List UInt8) then (some (0, false)) else (some (x4, true))) else (some (0, false))))) r) : Ev (fun k => spec_ParseMilli.j5 k x0 x4 x77) r := Ev.step (fun k => spec_ParseMilli.j5.eq_2 x0 x4 x77 k) H

/-! ### spec_RulesOk: function 69 -/
def spec_RulesOk.f (a0_0 : Int) (a0_1 : Int) (a0_2 : Int) : Option (Bool) := (spec_l01In.f a0_0 0 1000).bind fun t246 => (if t246 = true then ((spec_l01In.f a0_1 0 1000).bind fun t247 => (if t247 = true then ((spec_l01In.f a0_2 0 1000).bind fun t248 => (some t248)) else (some false))) else (some false))
theorem spec_RulesOk.calls (a0_0 : Int) (a0_1 : Int) (a0_2 : Int) (r : Bool) (w : World) (h : spec_RulesOk.f a0_0 a0_1 a0_2 = some r) :
    Calls Tryz.prog 69 #[.agg #[.int .i64 a0_0, .int .i64 a0_1, .int .i64 a0_2]] w fun e w' => e = .returned (.bool r) ∧ Below w.heap.size w w' := by
 have hu33 := Tryz.underlying33
 have HB := Pst.A (Below.refl w.heap.size w)
 have H : ((spec_l01In.f a0_0 0 1000).bind fun t246 => (if t246 = true then ((spec_l01In.f a0_1 0 1000).bind fun t247 => (if t247 = true then ((spec_l01In.f a0_2 0 1000).bind fun t248 => (some t248)) else (some false))) else (some false))) = some r := h
 clear h
 obtain ⟨t246, A20, H⟩ := Pst.bd H
 have A2 := Pst.A A20
 clear A20
 by_cases c3 : t246 = true
 ·subst c3
  rw [if_pos rfl] at H
  obtain ⟨t247, A40, H⟩ := Pst.bd H
  have A4 := Pst.A A40
  clear A40
  by_cases c5 : t247 = true
  ·subst c5
   rw [if_pos rfl] at H
   obtain ⟨t248, A60, H⟩ := Pst.bd H
   have A6 := Pst.A A60
   clear A60
   obtain rfl := Option.some.inj H
   go_enter Tryz.func69, Tryz.ntmps69
   go_wp2_with (first | ((with_reducible refine gate_dst (N := 1) rfl ?_); refine Pst.bx 1 #[.int .i64 a0_0, .int .i64 a0_1, .int .i64 a0_2] 33 ?_; intro gb245 hg w7 hbox hb; have BK245 := Pst.A hbox; have GW245 := Pst.A (Pst.gs hg : w.heap.size ≤ gb245); have GE245 := Pst.A (Pst.gs hg : w.heap.size ≤ gb245); replace HB := Pst.A (below_step Pst.bel hb); clear hb hbox hg; obtain ⟨_,_,_⟩ := Pst.c3 BK245.out; obtain ⟨_,_,_⟩ := Pst.f3 BK245.out) | ((with_reducible refine gate_callee (f := 42) rfl ?_); refine goesL_ (some 5) rfl rfl Tryz.func42 (by kernel_rfl) rfl #[.int .i64 a0_0, .int .i64 0, .int .i64 1000] rfl Pst.ga ?_; (with_reducible refine (spec_l01In.calls a0_0 0 1000 true _ A2.out).mono ?_); rintro e w' ⟨rfl, ⟨nd, rfl⟩⟩; refine ⟨_, rfl, ?_⟩) | (go_at_call 42; (with_reducible refine (spec_l01In.calls a0_1 0 1000 true _ A4.out).mono ?_); rintro e w' ⟨rfl, ⟨nd, rfl⟩⟩) | (go_at_call 42; (with_reducible refine (spec_l01In.calls a0_2 0 1000 t248 _ A6.out).mono ?_); rintro e w' ⟨rfl, ⟨nd, rfl⟩⟩))
   go_ret
   exact ⟨Pst.e1, Pst.bes⟩
  ·replace c5 := Bool.eq_false_iff.mpr c5
   subst c5
   rw [if_neg Pst.ft] at H
   obtain rfl := Option.some.inj H
   go_enter Tryz.func69, Tryz.ntmps69
   go_wp2_with (first | ((with_reducible refine gate_dst (N := 1) rfl ?_); refine Pst.bx 1 #[.int .i64 a0_0, .int .i64 a0_1, .int .i64 a0_2] 33 ?_; intro gb245 hg w9 hbox hb; have BK245 := Pst.A hbox; have GW245 := Pst.A (Pst.gs hg : w.heap.size ≤ gb245); have GE245 := Pst.A (Pst.gs hg : w.heap.size ≤ gb245); replace HB := Pst.A (below_step Pst.bel hb); clear hb hbox hg; obtain ⟨_,_,_⟩ := Pst.c3 BK245.out; obtain ⟨_,_,_⟩ := Pst.f3 BK245.out) | ((with_reducible refine gate_callee (f := 42) rfl ?_); refine goesL_ (some 5) rfl rfl Tryz.func42 (by kernel_rfl) rfl #[.int .i64 a0_0, .int .i64 0, .int .i64 1000] rfl Pst.ga ?_; (with_reducible refine (spec_l01In.calls a0_0 0 1000 true _ A2.out).mono ?_); rintro e w' ⟨rfl, ⟨nd, rfl⟩⟩; refine ⟨_, rfl, ?_⟩) | (go_at_call 42; (with_reducible refine (spec_l01In.calls a0_1 0 1000 false _ A4.out).mono ?_); rintro e w' ⟨rfl, ⟨nd, rfl⟩⟩))
   go_ret
   exact ⟨Pst.e1, Pst.bes⟩
 ·replace c3 := Bool.eq_false_iff.mpr c3
  subst c3
  rw [if_neg Pst.ft] at H
  obtain rfl := Option.some.inj H
  go_enter Tryz.func69, Tryz.ntmps69
  go_wp2_with (first | ((with_reducible refine gate_dst (N := 1) rfl ?_); refine Pst.bx 1 #[.int .i64 a0_0, .int .i64 a0_1, .int .i64 a0_2] 33 ?_; intro gb245 hg w11 hbox hb; have BK245 := Pst.A hbox; have GW245 := Pst.A (Pst.gs hg : w.heap.size ≤ gb245); have GE245 := Pst.A (Pst.gs hg : w.heap.size ≤ gb245); replace HB := Pst.A (below_step Pst.bel hb); clear hb hbox hg; obtain ⟨_,_,_⟩ := Pst.c3 BK245.out; obtain ⟨_,_,_⟩ := Pst.f3 BK245.out) | ((with_reducible refine gate_callee (f := 42) rfl ?_); refine goesL_ (some 5) rfl rfl Tryz.func42 (by kernel_rfl) rfl #[.int .i64 a0_0, .int .i64 0, .int .i64 1000] rfl Pst.ga ?_; (with_reducible refine (spec_l01In.calls a0_0 0 1000 false _ A2.out).mono ?_); rintro e w' ⟨rfl, ⟨nd, rfl⟩⟩; refine ⟨_, rfl, ?_⟩))
  go_ret
  exact ⟨Pst.e1, Pst.bes⟩

/-! ### spec_SideOk: function 93 -/
mutual
def spec_SideOk.j0 : Nat → Bool → List (S102) → Int → Int → Option (Bool)
 | 0, _, _, _, _ => none
 | k + 1, x20, x250000, x250001, x250002 => if x20 = true then (some false) else (spec_SideOk.l0 k 0 x250000 x250001 x250002)
def spec_SideOk.l0 : Nat → Int → List (S102) → Int → Int → Option (Bool)
 | 0, _, _, _, _ => none
 | k + 1, x3, x250000, x250001, x250002 => if x3 < (x250000.length : Int) then (if 0 ≤ x3 then ((spec_l01In.f ((rd_T102 x250000 x3).f0) 0 1).bind fun t254 => (if t254 = true then ((spec_l01In.f ((rd_T102 x250000 x3).f1) 1 1000).bind fun t255 => (if t255 = true then ((spec_l01In.f ((rd_T102 x250000 x3).f2) 1 1000).bind fun t256 => (if t256 = true then (spec_SideOk.l0 k (wrap64 (x3 + 1)) x250000 x250001 x250002) else (some false))) else (some false))) else (some false))) else (none)) else (some true)
end
def spec_SideOk.f (k : Nat) (l0_0 : List (S102)) (a0_1 : Int) (a0_2 : Int) : Option (Bool) := if (l0_0.length : Int) > 3 then (spec_SideOk.j0 k true l0_0 a0_1 a0_2) else ((spec_l01In.f a0_1 0 2).bind fun t250 => (if t250 = true then ((spec_l01In.f a0_2 0 1000).bind fun t251 => (spec_SideOk.j0 k (!t251) l0_0 a0_1 a0_2)) else (spec_SideOk.j0 k true l0_0 a0_1 a0_2)))
theorem spec_SideOk.mono_l : ∀ k, (∀ y0 y1 y2 y3, LeO (spec_SideOk.j0 k y0 y1 y2 y3) (spec_SideOk.j0 (k + 1) y0 y1 y2 y3)) ∧ (∀ y0 y1 y2 y3, LeO (spec_SideOk.l0 k y0 y1 y2 y3) (spec_SideOk.l0 (k + 1) y0 y1 y2 y3))
 | 0 => ⟨fun _ _ _ _ r h => by simp [spec_SideOk.j0] at h, fun _ _ _ _ r h => by simp [spec_SideOk.l0] at h⟩
 | k + 1 => by
  obtain ⟨ih0, ih1⟩ := spec_SideOk.mono_l k
  refine ⟨?_, ?_⟩
  ·intro y0 y1 y2 y3
   unfold spec_SideOk.j0
   exact Pst.mo
  intro y0 y1 y2 y3
  unfold spec_SideOk.l0
  exact Pst.mo
theorem spec_SideOk.mono : ∀ a0 a1 a2 k, LeO (spec_SideOk.f k a0 a1 a2) (spec_SideOk.f (k + 1) a0 a1 a2) := by
 intro a0 a1 a2 k
 obtain ⟨ih0, ih1⟩ := spec_SideOk.mono_l k
 unfold spec_SideOk.f
 exact Pst.mo
theorem spec_SideOk.calls (k : Nat) (A0_0 : Option Addr) (c0_0 : Nat) (l0_0 : List (S102)) (a0_1 : Int) (a0_2 : Int) (r : Bool) (w : World) (hr0_0 : Kd.C k102 w A0_0 l0_0.length l0_0) (hc0_0 : l0_0.length ≤ c0_0) (h : spec_SideOk.f k l0_0 a0_1 a0_2 = some r) :
 Calls Tryz.prog 93 #[.agg #[.slice A0_0 l0_0.length c0_0, .int .i64 a0_1, .int .i64 a0_2]] w fun e w' => e = .returned (.bool r) ∧ Below w.heap.size w w' := by
 have hu37 := Tryz.underlying37
 have hu102 := Tryz.underlying102
 have HR0_0 := Pst.A hr0_0
 have HC0_0 := Pst.A hc0_0
 clear hr0_0 hc0_0
 have HB := Pst.A (Below.refl w.heap.size w)
 have H : (if (l0_0.length : Int) > 3 then (spec_SideOk.j0 k true l0_0 a0_1 a0_2) else ((spec_l01In.f a0_1 0 2).bind fun t250 => (if t250 = true then ((spec_l01In.f a0_2 0 1000).bind fun t251 => (spec_SideOk.j0 k (!t251) l0_0 a0_1 a0_2)) else (spec_SideOk.j0 k true l0_0 a0_1 a0_2)))) = some r := h
 clear h
 have HC2 := Pst.A H
 clear H
 go_enter Tryz.func93, Tryz.ntmps93
 go_upto_region 1 with (first | ((with_reducible refine gate_dst (N := 1) rfl ?_); refine Pst.bx 1 #[.slice A0_0 l0_0.length c0_0, .int .i64 a0_1, .int .i64 a0_2] 37 ?_; intro gb249 hg w3 hbox hb; have BK249 := Pst.A hbox; have GW249 := Pst.A (Pst.gs hg : w.heap.size ≤ gb249); have GE249 := Pst.A (Pst.gs hg : w.heap.size ≤ gb249); replace HB := Pst.A (below_step Pst.bel hb); clear hb hbox hg))
 (try simp only [Act.put, List.setIfInBounds_toArray, List.set_cons_zero, List.set_cons_succ])
 go_cut [20] (fun v20 wc => ∃ (kq : Nat) (x20_1 : Bool), v20 = .bool x20_1 ∧ Aside0 (spec_SideOk.j0 kq x20_1 l0_0 a0_1 a0_2 = some r) ∧ Aside0 (kq ≤ k) ∧ Aside0 (wc.heap[gb249]? = some (.cells #[(.slice A0_0 l0_0.length c0_0), .int .i64 a0_1, .int .i64 a0_2] 37 (0, 0))) ∧ Aside0 (Below w.heap.size w wc))
 case first =>
  have H := HC2.out
  clear HC2
  by_cases c4 : (l0_0.length : Int) > 3
  ·rw [if_pos c4] at H
   have c4b0 : decide (3 < (l0_0.length : Int)) = true := decide_eq_true c4
   have c4b1 : decide (3 < l0_0.length) = true := decide_eq_true (by omega)
   clear c4
   (first | rw [c4b0] | (simp only [i64_w, i32_w]; rw [c4b0]) | skip)
   have H' := Pst.A H
   clear H
   obtain ⟨hcz5_0, hcz5_1, hcz5_2⟩ := Pst.c3 BK249.out
   obtain ⟨hfz5_0, hfz5_1, hfz5_2⟩ := Pst.f3 BK249.out
   go_wp2
   go_meet
   case rel => exact ⟨_, (true), Pst.e2, H', ⟨by first | omega | exact Nat.le_refl _⟩, ⟨by exact Pst.qb BK249.out⟩, ⟨Pst.bes⟩⟩
  rw [if_neg c4] at H
  have c4b0 : decide (3 < (l0_0.length : Int)) = false := decide_eq_false c4
  have c4b1 : decide (3 < l0_0.length) = false := decide_eq_false (by omega)
  clear c4
  (first | rw [c4b0] | (simp only [i64_w, i32_w]; rw [c4b0]) | skip)
  obtain ⟨t250, A60, H⟩ := Pst.bd H
  have A6 := Pst.A A60
  clear A60
  by_cases c7 : t250 = true
  ·subst c7
   rw [if_pos rfl] at H
   obtain ⟨t251, A80, H⟩ := Pst.bd H
   have A8 := Pst.A A80
   clear A80
   have H' := Pst.A H
   clear H
   obtain ⟨hcz9_0, hcz9_1, hcz9_2⟩ := Pst.c3 BK249.out
   obtain ⟨hfz9_0, hfz9_1, hfz9_2⟩ := Pst.f3 BK249.out
   go_wp2_with (first | (go_at_call 42; (with_reducible refine (spec_l01In.calls a0_1 0 2 true _ A6.out).mono ?_); rintro e w' ⟨rfl, ⟨nd, rfl⟩⟩) | (go_at_call 42; (with_reducible refine (spec_l01In.calls a0_2 0 1000 t251 _ A8.out).mono ?_); rintro e w' ⟨rfl, ⟨nd, rfl⟩⟩))
   go_meet
   case rel => exact ⟨_, (!t251), Pst.e2, H', ⟨by first | omega | exact Nat.le_refl _⟩, ⟨by exact Pst.qb BK249.out⟩, ⟨Pst.bes⟩⟩
  replace c7 := Bool.eq_false_iff.mpr c7
  subst c7
  rw [if_neg Pst.ft] at H
  have H' := Pst.A H
  clear H
  obtain ⟨hcz10_0, hcz10_1, hcz10_2⟩ := Pst.c3 BK249.out
  obtain ⟨hfz10_0, hfz10_1, hfz10_2⟩ := Pst.f3 BK249.out
  go_wp2_with (first | (go_at_call 42; (with_reducible refine (spec_l01In.calls a0_1 0 2 false _ A6.out).mono ?_); rintro e w' ⟨rfl, ⟨nd, rfl⟩⟩))
  go_meet
  case rel => exact ⟨_, (true), Pst.e2, H', ⟨by first | omega | exact Nat.le_refl _⟩, ⟨by exact Pst.qb BK249.out⟩, ⟨Pst.bes⟩⟩
 clear HC2
 try clear p2
 try clear c4
 try clear c4b0
 try clear c4b1
 try clear c7
 try clear c9
 obtain ⟨kq, x20_1, rfl, HA, HJ1, BK249, HB⟩ := hcut
 cases kq with
 | zero => exact absurd HA.out (by simp [spec_SideOk.j0])
 | succ kj1 =>
  have H := HA.out
  clear HA
  simp only [spec_SideOk.j0] at H
  by_cases c11 : x20_1 = true
  ·subst c11
   rw [if_pos rfl] at H
   obtain rfl := Option.some.inj H
   go_wp2
   go_ret
   exact ⟨Pst.e1, Pst.bes⟩
  replace c11 := Bool.eq_false_iff.mpr c11
  subst c11
  rw [if_neg Pst.ft] at H
  have H' := Pst.A H
  clear H
  go_wp2
  go_loopg [3] kj1 (fun kq v3 w' => ∃ (x3_2 : Int), v3 = .int .i64 x3_2 ∧ Aside0 (spec_SideOk.l0 kq x3_2 l0_0 a0_1 a0_2 = some r) ∧ Aside0 (kq ≤ kj1) ∧ Aside0 (w'.heap[gb249]? = some (.cells #[(.slice A0_0 l0_0.length c0_0), .int .i64 a0_1, .int .i64 a0_2] 37 (0, 0))) ∧ Aside0 (Below w.heap.size w w'))
  case atStart => exact ⟨(0), Pst.e2, H', ⟨Nat.le_refl _⟩, ⟨by exact Pst.qb BK249.out⟩, ⟨Pst.bes⟩⟩
  clear H'
  try clear c1
  try clear p2
  try clear c4
  try clear c4b0
  try clear c4b1
  try clear c7
  try clear c9
  try clear c11
  try clear p2
  obtain ⟨x3_2, rfl, HA, HK2, BK249, HB⟩ := hrel
  cases gk with
  | zero => exact absurd HA.out (by simp [spec_SideOk.l0])
  | succ k2 =>
   have H := HA.out
   clear HA
   simp only [spec_SideOk.l0] at H
   by_cases c12 : x3_2 < (l0_0.length : Int)
   ·rw [if_pos c12] at H
    have c12b0 : decide (x3_2 < (l0_0.length : Int)) = true := decide_eq_true c12
    clear c12
    by_cases c13 : 0 ≤ x3_2
    ·rw [if_pos c13] at H
     have c13b0 : decide (0 ≤ x3_2) = true := decide_eq_true c13
     clear c13
     obtain ⟨t254, A140, H⟩ := Pst.bd H
     have A14 := Pst.A A140
     clear A140
     by_cases c15 : t254 = true
     ·subst c15
      rw [if_pos rfl] at H
      obtain ⟨t255, A160, H⟩ := Pst.bd H
      have A16 := Pst.A A160
      clear A160
      by_cases c17 : t255 = true
      ·subst c17
       rw [if_pos rfl] at H
       obtain ⟨t256, A180, H⟩ := Pst.bd H
       have A18 := Pst.A A180
       clear A180
       by_cases c19 : t256 = true
       ·subst c19
        rw [if_pos rfl] at H
        have H' := Pst.A H
        clear H
        obtain ⟨hcz20_0, hcz20_1, hcz20_2⟩ := Pst.c3 BK249.out
        obtain ⟨hfz20_0, hfz20_1, hfz20_2⟩ := Pst.f3 BK249.out
        have p252 : 0 ≤ (x3_2 : Int) := Pst.da
        have q252 : x3_2 < (l0_0.length : Int) := Pst.da
        obtain ⟨ad252, e252, hx252_0, hx252_1, hx252_2⟩ := at_T102 HR0_0.out x3_2 p252 q252
        cases e252
        replace hx252_0 := (HB.out.cell (World.block_lt_of_cell? w _ hx252_0)).trans hx252_0
        replace hx252_1 := (HB.out.cell (World.block_lt_of_cell? w _ hx252_1)).trans hx252_1
        replace hx252_2 := (HB.out.cell (World.block_lt_of_cell? w _ hx252_2)).trans hx252_2
        replace p252 := eq_true p252
        replace q252 := eq_true q252
        go_wp2_with (first | ((with_reducible refine gate_dst (N := 4) rfl ?_); refine Pst.bx 4 #[.int .i64 0, .int .i64 0, .int .i64 0] 102 ?_; intro gb253 hg w21 hbox hb; have BK253 := Pst.A hbox; have GW253 := Pst.A (Pst.gs hg : w.heap.size ≤ gb253); have GE253 := Pst.A (Pst.gs hg : w.heap.size ≤ gb253); have NB249_253 := Pst.A (Pst.nl BK249.out hg); have NB253_249 := Pst.A (Pst.nr BK249.out hg); replace BK249 := Pst.A (Pst.kb BK249.out hb); replace HB := Pst.A (below_step Pst.bes hb); clear hb hbox hg; have hnb22 := NB253_249.out; have hnc22 := NB249_253.out; obtain ⟨hcz23_0, hcz23_1, hcz23_2⟩ := Pst.c3 BK253.out; obtain ⟨hfz23_0, hfz23_1, hfz23_2⟩ := Pst.f3 BK253.out) | ((with_reducible refine gate_callee (f := 42) rfl ?_); refine goesL_ (some 35) rfl rfl Tryz.func42 (by kernel_rfl) rfl #[.int .i64 ((rd_T102 l0_0 x3_2).f0), .int .i64 0, .int .i64 1] rfl Pst.ga ?_; (with_reducible refine (spec_l01In.calls ((rd_T102 l0_0 x3_2).f0) 0 1 true _ A14.out).mono ?_); rintro e w' ⟨rfl, ⟨nd, rfl⟩⟩; refine ⟨_, rfl, ?_⟩) | (go_at_call 42; (with_reducible refine (spec_l01In.calls ((rd_T102 l0_0 x3_2).f1) 1 1000 true _ A16.out).mono ?_); rintro e w' ⟨rfl, ⟨nd, rfl⟩⟩) | (go_at_call 42; (with_reducible refine (spec_l01In.calls ((rd_T102 l0_0 x3_2).f2) 1 1000 true _ A18.out).mono ?_); rintro e w' ⟨rfl, ⟨nd, rfl⟩⟩))
        go_roundg k2
        case measure => have := HJ1.out; have := HK2.out; omega
        case rel => exact ⟨(wrap64 (x3_2 + 1)), Pst.e2, H', ⟨by have := HJ1.out; have := HK2.out; omega⟩, ⟨by (with_reducible repeat (first | refine blk_drewN ?_ _ | refine blk_drew ?_ | refine blk_alloc ?_ _)); refine blk_far ?_ NB249_253.out _; (with_reducible repeat (first | refine blk_drewN ?_ _ | refine blk_drew ?_ | refine blk_alloc ?_ _)); refine blk_far ?_ NB249_253.out _; (with_reducible repeat (first | refine blk_drewN ?_ _ | refine blk_drew ?_ | refine blk_alloc ?_ _)); refine blk_far ?_ NB249_253.out _; exact Pst.qb BK249.out⟩, ⟨Pst.bes⟩⟩
       replace c19 := Bool.eq_false_iff.mpr c19
       subst c19
       rw [if_neg Pst.ft] at H
       obtain rfl := Option.some.inj H
       obtain ⟨hcz24_0, hcz24_1, hcz24_2⟩ := Pst.c3 BK249.out
       obtain ⟨hfz24_0, hfz24_1, hfz24_2⟩ := Pst.f3 BK249.out
       have p252 : 0 ≤ (x3_2 : Int) := Pst.da
       have q252 : x3_2 < (l0_0.length : Int) := Pst.da
       obtain ⟨ad252, e252, hx252_0, hx252_1, hx252_2⟩ := at_T102 HR0_0.out x3_2 p252 q252
       cases e252
       replace hx252_0 := (HB.out.cell (World.block_lt_of_cell? w _ hx252_0)).trans hx252_0
       replace hx252_1 := (HB.out.cell (World.block_lt_of_cell? w _ hx252_1)).trans hx252_1
       replace hx252_2 := (HB.out.cell (World.block_lt_of_cell? w _ hx252_2)).trans hx252_2
       replace p252 := eq_true p252
       replace q252 := eq_true q252
       go_wp2_with (first | ((with_reducible refine gate_dst (N := 4) rfl ?_); refine Pst.bx 4 #[.int .i64 0, .int .i64 0, .int .i64 0] 102 ?_; intro gb253 hg w25 hbox hb; have BK253 := Pst.A hbox; have GW253 := Pst.A (Pst.gs hg : w.heap.size ≤ gb253); have GE253 := Pst.A (Pst.gs hg : w.heap.size ≤ gb253); have NB249_253 := Pst.A (Pst.nl BK249.out hg); have NB253_249 := Pst.A (Pst.nr BK249.out hg); replace BK249 := Pst.A (Pst.kb BK249.out hb); replace HB := Pst.A (below_step Pst.bes hb); clear hb hbox hg; have hnb26 := NB253_249.out; have hnc26 := NB249_253.out; obtain ⟨hcz27_0, hcz27_1, hcz27_2⟩ := Pst.c3 BK253.out; obtain ⟨hfz27_0, hfz27_1, hfz27_2⟩ := Pst.f3 BK253.out) | ((with_reducible refine gate_callee (f := 42) rfl ?_); refine goesL_ (some 35) rfl rfl Tryz.func42 (by kernel_rfl) rfl #[.int .i64 ((rd_T102 l0_0 x3_2).f0), .int .i64 0, .int .i64 1] rfl Pst.ga ?_; (with_reducible refine (spec_l01In.calls ((rd_T102 l0_0 x3_2).f0) 0 1 true _ A14.out).mono ?_); rintro e w' ⟨rfl, ⟨nd, rfl⟩⟩; refine ⟨_, rfl, ?_⟩) | (go_at_call 42; (with_reducible refine (spec_l01In.calls ((rd_T102 l0_0 x3_2).f1) 1 1000 true _ A16.out).mono ?_); rintro e w' ⟨rfl, ⟨nd, rfl⟩⟩) | (go_at_call 42; (with_reducible refine (spec_l01In.calls ((rd_T102 l0_0 x3_2).f2) 1 1000 false _ A18.out).mono ?_); rintro e w' ⟨rfl, ⟨nd, rfl⟩⟩))
       go_ret
       exact ⟨Pst.e1, Pst.bes⟩
      replace c17 := Bool.eq_false_iff.mpr c17
      subst c17
      rw [if_neg Pst.ft] at H
      obtain rfl := Option.some.inj H
      obtain ⟨hcz28_0, hcz28_1, hcz28_2⟩ := Pst.c3 BK249.out
      obtain ⟨hfz28_0, hfz28_1, hfz28_2⟩ := Pst.f3 BK249.out
      have p252 : 0 ≤ (x3_2 : Int) := Pst.da
      have q252 : x3_2 < (l0_0.length : Int) := Pst.da
      obtain ⟨ad252, e252, hx252_0, hx252_1, hx252_2⟩ := at_T102 HR0_0.out x3_2 p252 q252
      cases e252
      replace hx252_0 := (HB.out.cell (World.block_lt_of_cell? w _ hx252_0)).trans hx252_0
      replace hx252_1 := (HB.out.cell (World.block_lt_of_cell? w _ hx252_1)).trans hx252_1
      replace hx252_2 := (HB.out.cell (World.block_lt_of_cell? w _ hx252_2)).trans hx252_2
      replace p252 := eq_true p252
      replace q252 := eq_true q252
      go_wp2_with (first | ((with_reducible refine gate_dst (N := 4) rfl ?_); refine Pst.bx 4 #[.int .i64 0, .int .i64 0, .int .i64 0] 102 ?_; intro gb253 hg w29 hbox hb; have BK253 := Pst.A hbox; have GW253 := Pst.A (Pst.gs hg : w.heap.size ≤ gb253); have GE253 := Pst.A (Pst.gs hg : w.heap.size ≤ gb253); have NB249_253 := Pst.A (Pst.nl BK249.out hg); have NB253_249 := Pst.A (Pst.nr BK249.out hg); replace BK249 := Pst.A (Pst.kb BK249.out hb); replace HB := Pst.A (below_step Pst.bes hb); clear hb hbox hg; have hnb30 := NB253_249.out; have hnc30 := NB249_253.out; obtain ⟨hcz31_0, hcz31_1, hcz31_2⟩ := Pst.c3 BK253.out; obtain ⟨hfz31_0, hfz31_1, hfz31_2⟩ := Pst.f3 BK253.out) | ((with_reducible refine gate_callee (f := 42) rfl ?_); refine goesL_ (some 35) rfl rfl Tryz.func42 (by kernel_rfl) rfl #[.int .i64 ((rd_T102 l0_0 x3_2).f0), .int .i64 0, .int .i64 1] rfl Pst.ga ?_; (with_reducible refine (spec_l01In.calls ((rd_T102 l0_0 x3_2).f0) 0 1 true _ A14.out).mono ?_); rintro e w' ⟨rfl, ⟨nd, rfl⟩⟩; refine ⟨_, rfl, ?_⟩) | (go_at_call 42; (with_reducible refine (spec_l01In.calls ((rd_T102 l0_0 x3_2).f1) 1 1000 false _ A16.out).mono ?_); rintro e w' ⟨rfl, ⟨nd, rfl⟩⟩))
      go_ret
      exact ⟨Pst.e1, Pst.bes⟩
     replace c15 := Bool.eq_false_iff.mpr c15
     subst c15
     rw [if_neg Pst.ft] at H
     obtain rfl := Option.some.inj H
     obtain ⟨hcz32_0, hcz32_1, hcz32_2⟩ := Pst.c3 BK249.out
     obtain ⟨hfz32_0, hfz32_1, hfz32_2⟩ := Pst.f3 BK249.out
     have p252 : 0 ≤ (x3_2 : Int) := Pst.da
     have q252 : x3_2 < (l0_0.length : Int) := Pst.da
     obtain ⟨ad252, e252, hx252_0, hx252_1, hx252_2⟩ := at_T102 HR0_0.out x3_2 p252 q252
     cases e252
     replace hx252_0 := (HB.out.cell (World.block_lt_of_cell? w _ hx252_0)).trans hx252_0
     replace hx252_1 := (HB.out.cell (World.block_lt_of_cell? w _ hx252_1)).trans hx252_1
     replace hx252_2 := (HB.out.cell (World.block_lt_of_cell? w _ hx252_2)).trans hx252_2
     replace p252 := eq_true p252
     replace q252 := eq_true q252
     go_wp2_with (first | ((with_reducible refine gate_dst (N := 4) rfl ?_); refine Pst.bx 4 #[.int .i64 0, .int .i64 0, .int .i64 0] 102 ?_; intro gb253 hg w33 hbox hb; have BK253 := Pst.A hbox; have GW253 := Pst.A (Pst.gs hg : w.heap.size ≤ gb253); have GE253 := Pst.A (Pst.gs hg : w.heap.size ≤ gb253); have NB249_253 := Pst.A (Pst.nl BK249.out hg); have NB253_249 := Pst.A (Pst.nr BK249.out hg); replace BK249 := Pst.A (Pst.kb BK249.out hb); replace HB := Pst.A (below_step Pst.bes hb); clear hb hbox hg; have hnb34 := NB253_249.out; have hnc34 := NB249_253.out; obtain ⟨hcz35_0, hcz35_1, hcz35_2⟩ := Pst.c3 BK253.out; obtain ⟨hfz35_0, hfz35_1, hfz35_2⟩ := Pst.f3 BK253.out) | ((with_reducible refine gate_callee (f := 42) rfl ?_); refine goesL_ (some 35) rfl rfl Tryz.func42 (by kernel_rfl) rfl #[.int .i64 ((rd_T102 l0_0 x3_2).f0), .int .i64 0, .int .i64 1] rfl Pst.ga ?_; (with_reducible refine (spec_l01In.calls ((rd_T102 l0_0 x3_2).f0) 0 1 false _ A14.out).mono ?_); rintro e w' ⟨rfl, ⟨nd, rfl⟩⟩; refine ⟨_, rfl, ?_⟩))
     go_ret
     exact ⟨Pst.e1, Pst.bes⟩
    rw [if_neg c13] at H
    exact absurd H (by simp)
   rw [if_neg c12] at H
   have c12b0 : decide (x3_2 < (l0_0.length : Int)) = false := decide_eq_false c12
   clear c12
   obtain rfl := Option.some.inj H
   obtain ⟨hcz36_0, hcz36_1, hcz36_2⟩ := Pst.c3 BK249.out
   obtain ⟨hfz36_0, hfz36_1, hfz36_2⟩ := Pst.f3 BK249.out
   go_wp2
   go_ret
   exact ⟨Pst.e1, Pst.bes⟩
theorem spec_SideOk.j0.st {x20 : Bool} {x250000 : List (S102)} {x250001 : Int} {x250002 : Int} {r : (Bool)} (H : Ev (fun k => if x20 = true then (some false) else (spec_SideOk.l0 k 0 x250000 x250001 x250002)) r) : Ev (fun k => spec_SideOk.j0 k x20 x250000 x250001 x250002) r := Ev.step (fun k => spec_SideOk.j0.eq_2 x20 x250000 x250001 x250002 k) H
theorem spec_SideOk.l0.st {x3 : Int} {x250000 : List (S102)} {x250001 : Int} {x250002 : Int} {r : (Bool)} (H : Ev (fun k => if x3 < (x250000.length : Int) then (if 0 ≤ x3 then ((spec_l01In.f ((rd_T102 x250000 x3).f0) 0 1).bind fun t254 => (if t254 = true then ((spec_l01In.f ((rd_T102 x250000 x3).f1) 1 1000).bind fun t255 => (if t255 = true then ((spec_l01In.f ((rd_T102 x250000 x3).f2) 1 1000).bind fun t256 => (if t256 = true then (spec_SideOk.l0 k (wrap64 (x3 + 1)) x250000 x250001 x250002) else (some false))) else (some false))) else (some false))) else (none)) else (some true)) r) : Ev (fun k => spec_SideOk.l0 k x3 x250000 x250001 x250002) r := Ev.step (fun k => spec_SideOk.l0.eq_2 x3 x250000 x250001 x250002 k) H

/-! ### spec_BehaveOk: function 70 -/
def spec_BehaveOk.f (k : Nat) (l0_0 : List (S102)) (a0_1 : Int) (a0_2 : Int) (l0_3 : List (S102)) (a0_4 : Int) (a0_5 : Int) (a0_6 : Int) (a0_7 : Int) : Option (Bool) := (spec_SideOk.f k l0_0 a0_1 a0_2).bind fun t258 => (if t258 = true then ((spec_SideOk.f k l0_3 a0_4 a0_5).bind fun t259 => (if t259 = true then ((spec_l01In.f a0_7 0 1000).bind fun t260 => (if t260 = true then ((spec_l01In.f a0_6 0 a0_7).bind fun t261 => (some t261)) else (some false))) else (some false))) else (some false))
theorem spec_BehaveOk.mono : ∀ a0 a1 a2 a3 a4 a5 a6 a7 k, LeO (spec_BehaveOk.f k a0 a1 a2 a3 a4 a5 a6 a7) (spec_BehaveOk.f (k + 1) a0 a1 a2 a3 a4 a5 a6 a7) := by
 intro a0 a1 a2 a3 a4 a5 a6 a7 k
 unfold spec_BehaveOk.f
 have m0 := @spec_SideOk.mono
 exact Pst.mo
theorem spec_BehaveOk.calls (k : Nat) (A0_0 : Option Addr) (c0_0 : Nat) (l0_0 : List (S102)) (a0_1 : Int) (a0_2 : Int) (A0_3 : Option Addr) (c0_3 : Nat) (l0_3 : List (S102)) (a0_4 : Int) (a0_5 : Int) (a0_6 : Int) (a0_7 : Int) (r : Bool) (w : World) (hr0_0 : Kd.C k102 w A0_0 l0_0.length l0_0) (hc0_0 : l0_0.length ≤ c0_0) (hr0_3 : Kd.C k102 w A0_3 l0_3.length l0_3) (hc0_3 : l0_3.length ≤ c0_3) (h : spec_BehaveOk.f k l0_0 a0_1 a0_2 l0_3 a0_4 a0_5 a0_6 a0_7 = some r) :
    Calls Tryz.prog 70 #[.agg #[.slice A0_0 l0_0.length c0_0, .int .i64 a0_1, .int .i64 a0_2, .slice A0_3 l0_3.length c0_3, .int .i64 a0_4, .int .i64 a0_5, .int .i64 a0_6, .int .i64 a0_7]] w fun e w' => e = .returned (.bool r) ∧ Below w.heap.size w w' := by
 have hu39 := Tryz.underlying39
 have hu37 := Tryz.underlying37
 have HR0_0 := Pst.A hr0_0
 have HC0_0 := Pst.A hc0_0
 clear hr0_0 hc0_0
 have HR0_3 := Pst.A hr0_3
 have HC0_3 := Pst.A hc0_3
 clear hr0_3 hc0_3
 have HB := Pst.A (Below.refl w.heap.size w)
 have H : ((spec_SideOk.f k l0_0 a0_1 a0_2).bind fun t258 => (if t258 = true then ((spec_SideOk.f k l0_3 a0_4 a0_5).bind fun t259 => (if t259 = true then ((spec_l01In.f a0_7 0 1000).bind fun t260 => (if t260 = true then ((spec_l01In.f a0_6 0 a0_7).bind fun t261 => (some t261)) else (some false))) else (some false))) else (some false))) = some r := h
 clear h
 obtain ⟨t258, A20, H⟩ := Pst.bd H
 have A2 := Pst.A A20
 clear A20
 by_cases c3 : t258 = true
 ·subst c3
  rw [if_pos rfl] at H
  obtain ⟨t259, A40, H⟩ := Pst.bd H
  have A4 := Pst.A A40
  clear A40
  by_cases c5 : t259 = true
  ·subst c5
   rw [if_pos rfl] at H
   obtain ⟨t260, A60, H⟩ := Pst.bd H
   have A6 := Pst.A A60
   clear A60
   by_cases c7 : t260 = true
   ·subst c7
    rw [if_pos rfl] at H
    obtain ⟨t261, A80, H⟩ := Pst.bd H
    have A8 := Pst.A A80
    clear A80
    obtain rfl := Option.some.inj H
    go_enter Tryz.func70, Tryz.ntmps70
    go_wp2_with (first | ((with_reducible refine gate_dst (N := 1) rfl ?_); refine Pst.bx 1 #[.slice A0_0 l0_0.length c0_0, .int .i64 a0_1, .int .i64 a0_2, .slice A0_3 l0_3.length c0_3, .int .i64 a0_4, .int .i64 a0_5, .int .i64 a0_6, .int .i64 a0_7] 39 ?_; intro gb257 hg w9 hbox hb; have BK257 := Pst.A hbox; have GW257 := Pst.A (Pst.gs hg : w.heap.size ≤ gb257); have GE257 := Pst.A (Pst.gs hg : w.heap.size ≤ gb257); replace HB := Pst.A (below_step Pst.bel hb); clear hb hbox hg; obtain ⟨_,_,_,_,_,_,_,_⟩ := Pst.c8 BK257.out; obtain ⟨_,_,_,_,_,_,_,_⟩ := Pst.f8 BK257.out) | ((with_reducible refine gate_callee (f := 93) rfl ?_); refine goesL_ (some 5) rfl rfl Tryz.func93 (by kernel_rfl) rfl #[.agg #[.slice A0_0 l0_0.length c0_0, .int .i64 a0_1, .int .i64 a0_2]] rfl Pst.ga ?_; (with_reducible refine (spec_SideOk.calls k _ _ l0_0 a0_1 a0_2 true _ ?side1 ?side2 A2.out).mono ?_); (case side1 => exact Pst.qc (Kd.C_below HR0_0.out HB.out)); (case side2 => exact HC0_0.out); rintro e w11 ⟨rfl, hb⟩; refine ⟨_, rfl, ?_⟩; replace BK257 := Pst.A (Pst.kb BK257.out hb); replace HB := Pst.A (below_step Pst.bes hb); (try clear hb); (try clear hb2); (try clear hk); (try clear hi); obtain ⟨_,_,_,_,_,_,_,_⟩ := Pst.c8 BK257.out; obtain ⟨_,_,_,_,_,_,_,_⟩ := Pst.f8 BK257.out) | (go_at_call 93; (with_reducible refine (spec_SideOk.calls k _ _ l0_3 a0_4 a0_5 true _ ?side1 ?side2 A4.out).mono ?_); (case side1 => exact Pst.qc (Kd.C_below HR0_3.out HB.out)); (case side2 => exact HC0_3.out); rintro e w13 ⟨rfl, hb⟩; replace BK257 := Pst.A (Pst.kb BK257.out hb); replace HB := Pst.A (below_step Pst.bes hb); (try clear hb); (try clear hb2); (try clear hk); (try clear hi); obtain ⟨_,_,_,_,_,_,_,_⟩ := Pst.c8 BK257.out; obtain ⟨_,_,_,_,_,_,_,_⟩ := Pst.f8 BK257.out) | (go_at_call 42; (with_reducible refine (spec_l01In.calls a0_7 0 1000 true _ A6.out).mono ?_); rintro e w' ⟨rfl, ⟨nd, rfl⟩⟩) | (go_at_call 42; (with_reducible refine (spec_l01In.calls a0_6 0 a0_7 t261 _ A8.out).mono ?_); rintro e w' ⟨rfl, ⟨nd, rfl⟩⟩))
    go_ret
    exact ⟨Pst.e1, Pst.bes⟩
   ·replace c7 := Bool.eq_false_iff.mpr c7
    subst c7
    rw [if_neg Pst.ft] at H
    obtain rfl := Option.some.inj H
    go_enter Tryz.func70, Tryz.ntmps70
    go_wp2_with (first | ((with_reducible refine gate_dst (N := 1) rfl ?_); refine Pst.bx 1 #[.slice A0_0 l0_0.length c0_0, .int .i64 a0_1, .int .i64 a0_2, .slice A0_3 l0_3.length c0_3, .int .i64 a0_4, .int .i64 a0_5, .int .i64 a0_6, .int .i64 a0_7] 39 ?_; intro gb257 hg w15 hbox hb; have BK257 := Pst.A hbox; have GW257 := Pst.A (Pst.gs hg : w.heap.size ≤ gb257); have GE257 := Pst.A (Pst.gs hg : w.heap.size ≤ gb257); replace HB := Pst.A (below_step Pst.bel hb); clear hb hbox hg; obtain ⟨_,_,_,_,_,_,_,_⟩ := Pst.c8 BK257.out; obtain ⟨_,_,_,_,_,_,_,_⟩ := Pst.f8 BK257.out) | ((with_reducible refine gate_callee (f := 93) rfl ?_); refine goesL_ (some 5) rfl rfl Tryz.func93 (by kernel_rfl) rfl #[.agg #[.slice A0_0 l0_0.length c0_0, .int .i64 a0_1, .int .i64 a0_2]] rfl Pst.ga ?_; (with_reducible refine (spec_SideOk.calls k _ _ l0_0 a0_1 a0_2 true _ ?side1 ?side2 A2.out).mono ?_); (case side1 => exact Pst.qc (Kd.C_below HR0_0.out HB.out)); (case side2 => exact HC0_0.out); rintro e w17 ⟨rfl, hb⟩; refine ⟨_, rfl, ?_⟩; replace BK257 := Pst.A (Pst.kb BK257.out hb); replace HB := Pst.A (below_step Pst.bes hb); (try clear hb); (try clear hb2); (try clear hk); (try clear hi); obtain ⟨_,_,_,_,_,_,_,_⟩ := Pst.c8 BK257.out; obtain ⟨_,_,_,_,_,_,_,_⟩ := Pst.f8 BK257.out) | (go_at_call 93; (with_reducible refine (spec_SideOk.calls k _ _ l0_3 a0_4 a0_5 true _ ?side1 ?side2 A4.out).mono ?_); (case side1 => exact Pst.qc (Kd.C_below HR0_3.out HB.out)); (case side2 => exact HC0_3.out); rintro e w19 ⟨rfl, hb⟩; replace BK257 := Pst.A (Pst.kb BK257.out hb); replace HB := Pst.A (below_step Pst.bes hb); (try clear hb); (try clear hb2); (try clear hk); (try clear hi); obtain ⟨_,_,_,_,_,_,_,_⟩ := Pst.c8 BK257.out; obtain ⟨_,_,_,_,_,_,_,_⟩ := Pst.f8 BK257.out) | (go_at_call 42; (with_reducible refine (spec_l01In.calls a0_7 0 1000 false _ A6.out).mono ?_); rintro e w' ⟨rfl, ⟨nd, rfl⟩⟩))
    go_ret
    exact ⟨Pst.e1, Pst.bes⟩
  ·replace c5 := Bool.eq_false_iff.mpr c5
   subst c5
   rw [if_neg Pst.ft] at H
   obtain rfl := Option.some.inj H
   go_enter Tryz.func70, Tryz.ntmps70
   go_wp2_with (first | ((with_reducible refine gate_dst (N := 1) rfl ?_); refine Pst.bx 1 #[.slice A0_0 l0_0.length c0_0, .int .i64 a0_1, .int .i64 a0_2, .slice A0_3 l0_3.length c0_3, .int .i64 a0_4, .int .i64 a0_5, .int .i64 a0_6, .int .i64 a0_7] 39 ?_; intro gb257 hg w21 hbox hb; have BK257 := Pst.A hbox; have GW257 := Pst.A (Pst.gs hg : w.heap.size ≤ gb257); have GE257 := Pst.A (Pst.gs hg : w.heap.size ≤ gb257); replace HB := Pst.A (below_step Pst.bel hb); clear hb hbox hg; obtain ⟨_,_,_,_,_,_,_,_⟩ := Pst.c8 BK257.out; obtain ⟨_,_,_,_,_,_,_,_⟩ := Pst.f8 BK257.out) | ((with_reducible refine gate_callee (f := 93) rfl ?_); refine goesL_ (some 5) rfl rfl Tryz.func93 (by kernel_rfl) rfl #[.agg #[.slice A0_0 l0_0.length c0_0, .int .i64 a0_1, .int .i64 a0_2]] rfl Pst.ga ?_; (with_reducible refine (spec_SideOk.calls k _ _ l0_0 a0_1 a0_2 true _ ?side1 ?side2 A2.out).mono ?_); (case side1 => exact Pst.qc (Kd.C_below HR0_0.out HB.out)); (case side2 => exact HC0_0.out); rintro e w23 ⟨rfl, hb⟩; refine ⟨_, rfl, ?_⟩; replace BK257 := Pst.A (Pst.kb BK257.out hb); replace HB := Pst.A (below_step Pst.bes hb); (try clear hb); (try clear hb2); (try clear hk); (try clear hi); obtain ⟨_,_,_,_,_,_,_,_⟩ := Pst.c8 BK257.out; obtain ⟨_,_,_,_,_,_,_,_⟩ := Pst.f8 BK257.out) | (go_at_call 93; (with_reducible refine (spec_SideOk.calls k _ _ l0_3 a0_4 a0_5 false _ ?side1 ?side2 A4.out).mono ?_); (case side1 => exact Pst.qc (Kd.C_below HR0_3.out HB.out)); (case side2 => exact HC0_3.out); rintro e w25 ⟨rfl, hb⟩; replace BK257 := Pst.A (Pst.kb BK257.out hb); replace HB := Pst.A (below_step Pst.bes hb); (try clear hb); (try clear hb2); (try clear hk); (try clear hi)))
   go_ret
   exact ⟨Pst.e1, Pst.bes⟩
 ·replace c3 := Bool.eq_false_iff.mpr c3
  subst c3
  rw [if_neg Pst.ft] at H
  obtain rfl := Option.some.inj H
  go_enter Tryz.func70, Tryz.ntmps70
  go_wp2_with (first | ((with_reducible refine gate_dst (N := 1) rfl ?_); refine Pst.bx 1 #[.slice A0_0 l0_0.length c0_0, .int .i64 a0_1, .int .i64 a0_2, .slice A0_3 l0_3.length c0_3, .int .i64 a0_4, .int .i64 a0_5, .int .i64 a0_6, .int .i64 a0_7] 39 ?_; intro gb257 hg w26 hbox hb; have BK257 := Pst.A hbox; have GW257 := Pst.A (Pst.gs hg : w.heap.size ≤ gb257); have GE257 := Pst.A (Pst.gs hg : w.heap.size ≤ gb257); replace HB := Pst.A (below_step Pst.bel hb); clear hb hbox hg; obtain ⟨_,_,_,_,_,_,_,_⟩ := Pst.c8 BK257.out; obtain ⟨_,_,_,_,_,_,_,_⟩ := Pst.f8 BK257.out) | ((with_reducible refine gate_callee (f := 93) rfl ?_); refine goesL_ (some 5) rfl rfl Tryz.func93 (by kernel_rfl) rfl #[.agg #[.slice A0_0 l0_0.length c0_0, .int .i64 a0_1, .int .i64 a0_2]] rfl Pst.ga ?_; (with_reducible refine (spec_SideOk.calls k _ _ l0_0 a0_1 a0_2 false _ ?side1 ?side2 A2.out).mono ?_); (case side1 => exact Pst.qc (Kd.C_below HR0_0.out HB.out)); (case side2 => exact HC0_0.out); rintro e w28 ⟨rfl, hb⟩; refine ⟨_, rfl, ?_⟩; replace BK257 := Pst.A (Pst.kb BK257.out hb); replace HB := Pst.A (below_step Pst.bes hb); (try clear hb); (try clear hb2); (try clear hk); (try clear hi)))
  go_ret
  exact ⟨Pst.e1, Pst.bes⟩

/-! ### spec_NameOk: function 94 -/
def spec_NameOk.l0 : Nat → ByteArray → Int → Option (Bool)
 | 0, _, _ => none
 | k + 1, x0, x3 => if x3 < (x0.size : Int) then (if 0 ≤ x3 then (if (bt x0 x3) < 97 then (if (bt x0 x3) < 48 then (some false) else (if (bt x0 x3) > 57 then (some false) else (spec_NameOk.l0 k x0 (wrap64 (x3 + 1))))) else (if (bt x0 x3) > 122 then (if (bt x0 x3) < 48 then (some false) else (if (bt x0 x3) > 57 then (some false) else (spec_NameOk.l0 k x0 (wrap64 (x3 + 1))))) else (spec_NameOk.l0 k x0 (wrap64 (x3 + 1))))) else (none)) else (some true)
def spec_NameOk.f (k : Nat) (a0 : ByteArray) : Option (Bool) := (spec_l01In.f (a0.size : Int) 1 12).bind fun t262 => (if t262 = true then (spec_NameOk.l0 k a0 0) else (some false))
theorem spec_NameOk.mono_l : ∀ k, (∀ y0 y1, LeO (spec_NameOk.l0 k y0 y1) (spec_NameOk.l0 (k + 1) y0 y1))
 | 0 => fun _ _ r h => by simp [spec_NameOk.l0] at h
 | k + 1 => by
  have ih0 := spec_NameOk.mono_l k
  ·intro y0 y1
   unfold spec_NameOk.l0
   exact Pst.mo
theorem spec_NameOk.mono : ∀ a0 k, LeO (spec_NameOk.f k a0) (spec_NameOk.f (k + 1) a0) := by
 intro a0 k
 have ih0 := spec_NameOk.mono_l k
 unfold spec_NameOk.f
 exact Pst.mo
theorem spec_NameOk.calls (k : Nat) (a0 : ByteArray) (r : Bool) (w : World) (h : spec_NameOk.f k a0 = some r) :
    Calls Tryz.prog 94 #[.string a0] w fun e w' => e = .returned (.bool r) ∧ Drawn0 w w' := by
 have H : ((spec_l01In.f (a0.size : Int) 1 12).bind fun t262 => (if t262 = true then (spec_NameOk.l0 k a0 0) else (some false))) = some r := h
 clear h
 obtain ⟨t262, A20, H⟩ := Pst.bd H
 have A2 := Pst.A A20
 clear A20
 by_cases c3 : t262 = true
 ·subst c3
  rw [if_pos rfl] at H
  have H' := Pst.A H
  clear H
  go_enter Tryz.func94, Tryz.ntmps94
  go_wp2_with (first | ((with_reducible refine gate_callee (f := 42) rfl ?_); refine goesL_ (some 7) rfl rfl Tryz.func42 (by kernel_rfl) rfl #[.int .i64 (a0.size : Int), .int .i64 1, .int .i64 12] rfl Pst.ga ?_; (with_reducible refine (spec_l01In.calls (a0.size : Int) 1 12 true _ A2.out).mono ?_); rintro e w' ⟨rfl, ⟨nd, rfl⟩⟩; refine ⟨_, rfl, ?_⟩))
  go_loopg [3] k (fun kq v3 w' => ∃ (x3_1 : Int), v3 = .int .i64 x3_1 ∧ Aside0 (spec_NameOk.l0 kq a0 x3_1 = some r) ∧ Aside0 (kq ≤ k) ∧ Drawn0 w w')
  case atStart => exact ⟨(0), Pst.e2, H', ⟨Nat.le_refl _⟩, by repeat (first | exact Drawn0.refl _ | apply Drawn0.step)⟩
  clear H'
  try clear p2
  try clear c3
  obtain ⟨x3_1, rfl, HA, HK1, ⟨m1, rfl⟩⟩ := hrel
  cases gk with
  | zero => exact absurd HA.out (by simp [spec_NameOk.l0])
  | succ k1 =>
   have H := HA.out
   clear HA
   simp only [spec_NameOk.l0] at H
   by_cases c4 : x3_1 < (a0.size : Int)
   ·rw [if_pos c4] at H
    have c4b0 : decide (x3_1 < (a0.size : Int)) = true := decide_eq_true c4
    clear c4
    by_cases c5 : 0 ≤ x3_1
    ·rw [if_pos c5] at H
     have c5b0 : decide (0 ≤ x3_1) = true := decide_eq_true c5
     clear c5
     by_cases c7 : (bt a0 x3_1) < 97
     ·rw [if_pos c7] at H
      have c7b0 : decide ((bt a0 x3_1) < 97) = true := decide_eq_true c7
      clear c7
      by_cases c8 : (bt a0 x3_1) < 48
      ·rw [if_pos c8] at H
       have c8b0 : decide ((bt a0 x3_1) < 48) = true := decide_eq_true c8
       clear c8
       obtain rfl := Option.some.inj H
       have p6 : 0 ≤ (x3_1 : Int) := Pst.da
       have q6 : x3_1 < (a0.size : Int) := Pst.da
       have hx6 := bt_at a0 x3_1
       replace p6 := eq_true p6
       replace q6 := eq_true q6
       go_wp2
       go_ret
       exact ⟨Pst.e2, by repeat (first | exact Drawn0.refl _ | apply Drawn0.step)⟩
      ·rw [if_neg c8] at H
       have c8b0 : decide ((bt a0 x3_1) < 48) = false := decide_eq_false c8
       clear c8
       by_cases c9 : (bt a0 x3_1) > 57
       ·rw [if_pos c9] at H
        have c9b0 : decide (57 < (bt a0 x3_1)) = true := decide_eq_true c9
        clear c9
        obtain rfl := Option.some.inj H
        have p6 : 0 ≤ (x3_1 : Int) := Pst.da
        have q6 : x3_1 < (a0.size : Int) := Pst.da
        have hx6 := bt_at a0 x3_1
        replace p6 := eq_true p6
        replace q6 := eq_true q6
        go_wp2
        go_ret
        exact ⟨Pst.e2, by repeat (first | exact Drawn0.refl _ | apply Drawn0.step)⟩
       ·rw [if_neg c9] at H
        have c9b0 : decide (57 < (bt a0 x3_1)) = false := decide_eq_false c9
        clear c9
        have H' := Pst.A H
        clear H
        have p6 : 0 ≤ (x3_1 : Int) := Pst.da
        have q6 : x3_1 < (a0.size : Int) := Pst.da
        have hx6 := bt_at a0 x3_1
        replace p6 := eq_true p6
        replace q6 := eq_true q6
        go_wp2
        go_roundg k1
        case measure => have := HK1.out; omega
        case rel => exact ⟨(wrap64 (x3_1 + 1)), Pst.e2, H', ⟨by have := HK1.out; omega⟩, by repeat (first | exact Drawn0.refl _ | apply Drawn0.step)⟩
     ·rw [if_neg c7] at H
      have c7b0 : decide ((bt a0 x3_1) < 97) = false := decide_eq_false c7
      clear c7
      by_cases c10 : (bt a0 x3_1) > 122
      ·rw [if_pos c10] at H
       have c10b0 : decide (122 < (bt a0 x3_1)) = true := decide_eq_true c10
       clear c10
       by_cases c11 : (bt a0 x3_1) < 48
       ·rw [if_pos c11] at H
        have c11b0 : decide ((bt a0 x3_1) < 48) = true := decide_eq_true c11
        clear c11
        obtain rfl := Option.some.inj H
        have p6 : 0 ≤ (x3_1 : Int) := Pst.da
        have q6 : x3_1 < (a0.size : Int) := Pst.da
        have hx6 := bt_at a0 x3_1
        replace p6 := eq_true p6
        replace q6 := eq_true q6
        go_wp2
        go_ret
        exact ⟨Pst.e2, by repeat (first | exact Drawn0.refl _ | apply Drawn0.step)⟩
       ·rw [if_neg c11] at H
        have c11b0 : decide ((bt a0 x3_1) < 48) = false := decide_eq_false c11
        clear c11
        by_cases c12 : (bt a0 x3_1) > 57
        ·rw [if_pos c12] at H
         have c12b0 : decide (57 < (bt a0 x3_1)) = true := decide_eq_true c12
         clear c12
         obtain rfl := Option.some.inj H
         have p6 : 0 ≤ (x3_1 : Int) := Pst.da
         have q6 : x3_1 < (a0.size : Int) := Pst.da
         have hx6 := bt_at a0 x3_1
         replace p6 := eq_true p6
         replace q6 := eq_true q6
         go_wp2
         go_ret
         exact ⟨Pst.e2, by repeat (first | exact Drawn0.refl _ | apply Drawn0.step)⟩
        ·rw [if_neg c12] at H
         have c12b0 : decide (57 < (bt a0 x3_1)) = false := decide_eq_false c12
         clear c12
         have H' := Pst.A H
         clear H
         have p6 : 0 ≤ (x3_1 : Int) := Pst.da
         have q6 : x3_1 < (a0.size : Int) := Pst.da
         have hx6 := bt_at a0 x3_1
         replace p6 := eq_true p6
         replace q6 := eq_true q6
         go_wp2
         go_roundg k1
         case measure => have := HK1.out; omega
         case rel => exact ⟨(wrap64 (x3_1 + 1)), Pst.e2, H', ⟨by have := HK1.out; omega⟩, by repeat (first | exact Drawn0.refl _ | apply Drawn0.step)⟩
      ·rw [if_neg c10] at H
       have c10b0 : decide (122 < (bt a0 x3_1)) = false := decide_eq_false c10
       clear c10
       have H' := Pst.A H
       clear H
       have p6 : 0 ≤ (x3_1 : Int) := Pst.da
       have q6 : x3_1 < (a0.size : Int) := Pst.da
       have hx6 := bt_at a0 x3_1
       replace p6 := eq_true p6
       replace q6 := eq_true q6
       go_wp2
       go_roundg k1
       case measure => have := HK1.out; omega
       case rel => exact ⟨(wrap64 (x3_1 + 1)), Pst.e2, H', ⟨by have := HK1.out; omega⟩, by repeat (first | exact Drawn0.refl _ | apply Drawn0.step)⟩
    ·rw [if_neg c5] at H
     exact absurd H (by simp)
   ·rw [if_neg c4] at H
    have c4b0 : decide (x3_1 < (a0.size : Int)) = false := decide_eq_false c4
    clear c4
    obtain rfl := Option.some.inj H
    go_wp2
    go_ret
    exact ⟨Pst.e2, by repeat (first | exact Drawn0.refl _ | apply Drawn0.step)⟩
 ·replace c3 := Bool.eq_false_iff.mpr c3
  subst c3
  rw [if_neg Pst.ft] at H
  obtain rfl := Option.some.inj H
  go_enter Tryz.func94, Tryz.ntmps94
  go_wp2_with (first | ((with_reducible refine gate_callee (f := 42) rfl ?_); refine goesL_ (some 7) rfl rfl Tryz.func42 (by kernel_rfl) rfl #[.int .i64 (a0.size : Int), .int .i64 1, .int .i64 12] rfl Pst.ga ?_; (with_reducible refine (spec_l01In.calls (a0.size : Int) 1 12 false _ A2.out).mono ?_); rintro e w' ⟨rfl, ⟨nd, rfl⟩⟩; refine ⟨_, rfl, ?_⟩))
  go_ret
  exact ⟨Pst.e2, by repeat (first | exact Drawn0.refl _ | apply Drawn0.step)⟩
theorem spec_NameOk.l0.st {x0 : ByteArray} {x3 : Int} {r : (Bool)} (H : Ev (fun k => if x3 < (x0.size : Int) then (if 0 ≤ x3 then (if (bt x0 x3) < 97 then (if (bt x0 x3) < 48 then (some false) else (if (bt x0 x3) > 57 then (some false) else (spec_NameOk.l0 k x0 (wrap64 (x3 + 1))))) else (if (bt x0 x3) > 122 then (if (bt x0 x3) < 48 then (some false) else (if (bt x0 x3) > 57 then (some false) else (spec_NameOk.l0 k x0 (wrap64 (x3 + 1))))) else (spec_NameOk.l0 k x0 (wrap64 (x3 + 1))))) else (none)) else (some true)) r) : Ev (fun k => spec_NameOk.l0 k x0 x3) r := Ev.step (fun k => spec_NameOk.l0.eq_2 x0 x3 k) H

/-! ### spec_GoalOk: function 71 -/
def spec_GoalOk.f (k : Nat) (a0_0 : ByteArray) (a0_1 : Int) (a0_2 : Int) : Option (Bool) := (spec_NameOk.f k a0_0).bind fun t264 => (if t264 = true then ((spec_l01In.f a0_1 1 1000000).bind fun t265 => (if t265 = true then ((spec_l01In.f a0_2 0 1000).bind fun t266 => (some t266)) else (some false))) else (some false))
theorem spec_GoalOk.mono : ∀ a0 a1 a2 k, LeO (spec_GoalOk.f k a0 a1 a2) (spec_GoalOk.f (k + 1) a0 a1 a2) := by
 intro a0 a1 a2 k
 unfold spec_GoalOk.f
 have m0 := @spec_NameOk.mono
 exact Pst.mo
theorem spec_GoalOk.calls (k : Nat) (a0_0 : ByteArray) (a0_1 : Int) (a0_2 : Int) (r : Bool) (w : World) (h : spec_GoalOk.f k a0_0 a0_1 a0_2 = some r) :
    Calls Tryz.prog 71 #[.agg #[.string a0_0, .int .i64 a0_1, .int .i64 a0_2]] w fun e w' => e = .returned (.bool r) ∧ Below w.heap.size w w' := by
 have hu82 := Tryz.underlying82
 have HB := Pst.A (Below.refl w.heap.size w)
 have H : ((spec_NameOk.f k a0_0).bind fun t264 => (if t264 = true then ((spec_l01In.f a0_1 1 1000000).bind fun t265 => (if t265 = true then ((spec_l01In.f a0_2 0 1000).bind fun t266 => (some t266)) else (some false))) else (some false))) = some r := h
 clear h
 obtain ⟨t264, A20, H⟩ := Pst.bd H
 have A2 := Pst.A A20
 clear A20
 by_cases c3 : t264 = true
 ·subst c3
  rw [if_pos rfl] at H
  obtain ⟨t265, A40, H⟩ := Pst.bd H
  have A4 := Pst.A A40
  clear A40
  by_cases c5 : t265 = true
  ·subst c5
   rw [if_pos rfl] at H
   obtain ⟨t266, A60, H⟩ := Pst.bd H
   have A6 := Pst.A A60
   clear A60
   obtain rfl := Option.some.inj H
   go_enter Tryz.func71, Tryz.ntmps71
   go_wp2_with (first | ((with_reducible refine gate_dst (N := 1) rfl ?_); refine Pst.bx 1 #[.string a0_0, .int .i64 a0_1, .int .i64 a0_2] 82 ?_; intro gb263 hg w7 hbox hb; have BK263 := Pst.A hbox; have GW263 := Pst.A (Pst.gs hg : w.heap.size ≤ gb263); have GE263 := Pst.A (Pst.gs hg : w.heap.size ≤ gb263); replace HB := Pst.A (below_step Pst.bel hb); clear hb hbox hg; obtain ⟨_,_,_⟩ := Pst.c3 BK263.out; obtain ⟨_,_,_⟩ := Pst.f3 BK263.out) | ((with_reducible refine gate_callee (f := 94) rfl ?_); refine goesL_ (some 5) rfl rfl Tryz.func94 (by kernel_rfl) rfl #[.string a0_0] rfl Pst.ga ?_; (with_reducible refine (spec_NameOk.calls k a0_0 true _ A2.out).mono ?_); rintro e w' ⟨rfl, ⟨nd, rfl⟩⟩; refine ⟨_, rfl, ?_⟩) | (go_at_call 42; (with_reducible refine (spec_l01In.calls a0_1 1 1000000 true _ A4.out).mono ?_); rintro e w' ⟨rfl, ⟨nd, rfl⟩⟩) | (go_at_call 42; (with_reducible refine (spec_l01In.calls a0_2 0 1000 t266 _ A6.out).mono ?_); rintro e w' ⟨rfl, ⟨nd, rfl⟩⟩))
   go_ret
   exact ⟨Pst.e1, Pst.bes⟩
  ·replace c5 := Bool.eq_false_iff.mpr c5
   subst c5
   rw [if_neg Pst.ft] at H
   obtain rfl := Option.some.inj H
   go_enter Tryz.func71, Tryz.ntmps71
   go_wp2_with (first | ((with_reducible refine gate_dst (N := 1) rfl ?_); refine Pst.bx 1 #[.string a0_0, .int .i64 a0_1, .int .i64 a0_2] 82 ?_; intro gb263 hg w9 hbox hb; have BK263 := Pst.A hbox; have GW263 := Pst.A (Pst.gs hg : w.heap.size ≤ gb263); have GE263 := Pst.A (Pst.gs hg : w.heap.size ≤ gb263); replace HB := Pst.A (below_step Pst.bel hb); clear hb hbox hg; obtain ⟨_,_,_⟩ := Pst.c3 BK263.out; obtain ⟨_,_,_⟩ := Pst.f3 BK263.out) | ((with_reducible refine gate_callee (f := 94) rfl ?_); refine goesL_ (some 5) rfl rfl Tryz.func94 (by kernel_rfl) rfl #[.string a0_0] rfl Pst.ga ?_; (with_reducible refine (spec_NameOk.calls k a0_0 true _ A2.out).mono ?_); rintro e w' ⟨rfl, ⟨nd, rfl⟩⟩; refine ⟨_, rfl, ?_⟩) | (go_at_call 42; (with_reducible refine (spec_l01In.calls a0_1 1 1000000 false _ A4.out).mono ?_); rintro e w' ⟨rfl, ⟨nd, rfl⟩⟩))
   go_ret
   exact ⟨Pst.e1, Pst.bes⟩
 ·replace c3 := Bool.eq_false_iff.mpr c3
  subst c3
  rw [if_neg Pst.ft] at H
  obtain rfl := Option.some.inj H
  go_enter Tryz.func71, Tryz.ntmps71
  go_wp2_with (first | ((with_reducible refine gate_dst (N := 1) rfl ?_); refine Pst.bx 1 #[.string a0_0, .int .i64 a0_1, .int .i64 a0_2] 82 ?_; intro gb263 hg w11 hbox hb; have BK263 := Pst.A hbox; have GW263 := Pst.A (Pst.gs hg : w.heap.size ≤ gb263); have GE263 := Pst.A (Pst.gs hg : w.heap.size ≤ gb263); replace HB := Pst.A (below_step Pst.bel hb); clear hb hbox hg; obtain ⟨_,_,_⟩ := Pst.c3 BK263.out; obtain ⟨_,_,_⟩ := Pst.f3 BK263.out) | ((with_reducible refine gate_callee (f := 94) rfl ?_); refine goesL_ (some 5) rfl rfl Tryz.func94 (by kernel_rfl) rfl #[.string a0_0] rfl Pst.ga ?_; (with_reducible refine (spec_NameOk.calls k a0_0 false _ A2.out).mono ?_); rintro e w' ⟨rfl, ⟨nd, rfl⟩⟩; refine ⟨_, rfl, ?_⟩))
  go_ret
  exact ⟨Pst.e1, Pst.bes⟩

end Go.Proofs.YtapckgibbhijeaaGreatDoor.PA
