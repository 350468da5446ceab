/- Functions of the program, of the reference and of the statements: each as a plain Lean function, and a proof that the machine's call answers what that one answers. Written by a program: the kit's print, with contracts of our own for what it does not take. No condition. -/
import Derived.Test.YtipppogkphenpaaPBx0
import Derived.Test.YtipppogkphenpaaPBx3
namespace Go.Proofs.Ytipppogkphenpaa.PB
open Go.RowKit Go.Proofs.YtipppogkphenpaaW.PrintWords Go.Proofs.YtipppogkphenpaaW.PrintLast Go.Proofs.YtipppogkphenpaaW.PrintMore
attribute [local go_sem] max2_int min2_int max_two min_two max_three min_three max_four min_four   -- for this text's walks alone
set_option linter.unusedVariables false
set_option linter.unusedSimpArgs false

/-! ### laws_eqIntS: function 15 -/
def laws_eqIntS.l0 : Nat → List Int → List Int → Int → Option (Bool)
  | 0, _, _, _ => none
  | k + 1, x0, x1, x5 => if x5 < (x0.length : Int) then (if 0 ≤ x5 then (if x5 < (x1.length : Int) then (if (rd x0 x5) = (rd x1 x5) then (laws_eqIntS.l0 k x0 x1 (wrap64 (x5 + 1))) else (some false)) else (none)) else (none)) else (some true)
def laws_eqIntS.f (k : Nat) (l0 : List Int) (l1 : List Int) : Option (Bool) := if (l0.length : Int) = (l1.length : Int) then (laws_eqIntS.l0 k l0 l1 0) else (some false)
theorem laws_eqIntS.mono_l : ∀ k, (∀ y0 y1 y2, LeO (laws_eqIntS.l0 k y0 y1 y2) (laws_eqIntS.l0 (k + 1) y0 y1 y2))
  | 0 => fun _ _ _ r h => by simp [laws_eqIntS.l0] at h
  | k + 1 => by
    have ih0 := laws_eqIntS.mono_l k
    · intro y0 y1 y2
      unfold laws_eqIntS.l0
      repeat' first
      | (with_reducible exact ih0 _ _ _)
      | (with_reducible exact LeO.refl _)
      | (with_reducible exact LeO.none _)
      | (with_reducible refine LeO.ite ?_ ?_)
      | (with_reducible refine LeO.bind ?_ (fun _ => ?_))
      | exact ih0 _ _ _
      | exact LeO.none _
      | refine LeO.ite ?_ ?_
      | refine LeO.bind ?_ (fun _ => ?_)
theorem laws_eqIntS.mono : ∀ a0 a1 k, LeO (laws_eqIntS.f k a0 a1) (laws_eqIntS.f (k + 1) a0 a1) := by
  intro a0 a1 k
  have ih0 := laws_eqIntS.mono_l k
  unfold laws_eqIntS.f
  repeat' first
      | (with_reducible exact ih0 _ _ _)
      | (with_reducible exact LeO.refl _)
      | (with_reducible exact LeO.none _)
      | (with_reducible refine LeO.ite ?_ ?_)
      | (with_reducible refine LeO.bind ?_ (fun _ => ?_))
      | exact ih0 _ _ _
      | exact LeO.none _
      | refine LeO.ite ?_ ?_
      | refine LeO.bind ?_ (fun _ => ?_)
set_option maxHeartbeats 8000000 in
set_option maxRecDepth 100000 in
theorem laws_eqIntS.calls (k : Nat) (A0 : Option Addr) (c0 : Nat) (l0 : List Int) (A1 : Option Addr) (c1 : Nat) (l1 : List Int) (r : Bool) (w : World) (hr0 : Kd.C (Kd.int .i64) w A0 l0.length l0) (hc0 : l0.length ≤ c0) (hr1 : Kd.C (Kd.int .i64) w A1 l1.length l1) (hc1 : l1.length ≤ c1) (h : laws_eqIntS.f k l0 l1 = some r) :
    Calls Try.prog 15 #[.slice A0 l0.length c0, .slice A1 l1.length c1] w fun e w' => e = .returned (.bool r) ∧ Drawn0 w w' := by
  have HR0 := Aside0.mk hr0
  have HC0 := Aside0.mk hc0
  clear hr0 hc0
  have HR1 := Aside0.mk hr1
  have HC1 := Aside0.mk hc1
  clear hr1 hc1
  have H : (if (l0.length : Int) = (l1.length : Int) then (laws_eqIntS.l0 k l0 l1 0) else (some false)) = some r := h
  clear h
  by_cases c3 : (l0.length : Int) = (l1.length : Int)
  · rw [if_pos c3] at H
    have c3b0 : ((l0.length : Int) == (l1.length : Int)) = true := beq_iff_eq.mpr c3
    have c3b1 : ((l0.length : Int) != (l1.length : Int)) = false := bne_eq_false_iff_eq.mpr c3
    have c3b2 : (l0.length == l1.length) = true := by first | simpa using c3 | (simp at c3 ⊢; omega)
    clear c3
    have H' := Aside0.mk H
    clear H
    go_enter Try.func15, Try.ntmps15
    go_wp2
    repeat (go_quiet (fail); try go_wp2)
    go_loopg [5] k (fun kq v5 w' => ∃ (x5_1 : Int), v5 = .int .i64 x5_1 ∧ Aside0 (laws_eqIntS.l0 kq l0 l1 x5_1 = some r) ∧ Aside0 (kq ≤ k) ∧ Drawn0 w w')
    case atStart => exact ⟨(0), (by first | rfl | (simp; done) | (simp [*]; done)), H', ⟨Nat.le_refl _⟩, by repeat (first | exact Drawn0.refl _ | apply Drawn0.step)⟩
    case round =>
      clear H'
      try clear c1
      try clear p2
      try clear c3
      try clear c3b0
      try clear c3b1
      try clear c3b2
      obtain ⟨x5_1, rfl, HA, HK1, ⟨m1, rfl⟩⟩ := hrel
      cases gk with
      | zero => exact absurd HA.out (by simp [laws_eqIntS.l0])
      | succ k1 =>
        have H := HA.out
        clear HA
        simp only [laws_eqIntS.l0] at H
        by_cases c4 : x5_1 < (l0.length : Int)
        · rw [if_pos c4] at H
          have c4b0 : decide (x5_1 < (l0.length : Int)) = true := decide_eq_true c4
          clear c4
          by_cases c5 : 0 ≤ x5_1
          · rw [if_pos c5] at H
            have c5b0 : decide (0 ≤ x5_1) = true := decide_eq_true c5
            clear c5
            by_cases c6 : x5_1 < (l1.length : Int)
            · rw [if_pos c6] at H
              have c6b0 : decide (x5_1 < (l1.length : Int)) = true := decide_eq_true c6
              clear c6
              by_cases c7 : (rd l0 x5_1) = (rd l1 x5_1)
              · rw [if_pos c7] at H
                have c7b0 : ((rd l0 x5_1) == (rd l1 x5_1)) = true := beq_iff_eq.mpr c7
                have c7b1 : ((rd l0 x5_1) != (rd l1 x5_1)) = false := bne_eq_false_iff_eq.mpr c7
                clear c7
                have H' := Aside0.mk H
                clear H
                have p101 : 0 ≤ (x5_1 : Int) := of_decide_eq_true (by first | (with_reducible assumption) | assumption)
                have q101 : x5_1 < (l0.length : Int) := of_decide_eq_true (by first | (with_reducible assumption) | assumption)
                obtain ⟨ad101, e101, hx101_0⟩ := Kd.at_int HR0.out x5_1 p101 q101
                cases e101
                replace p101 := eq_true p101
                replace q101 := eq_true q101
                have p102 : 0 ≤ (x5_1 : Int) := of_decide_eq_true (by first | (with_reducible assumption) | assumption)
                have q102 : x5_1 < (l1.length : Int) := of_decide_eq_true (by first | (with_reducible assumption) | assumption)
                obtain ⟨ad102, e102, hx102_0⟩ := Kd.at_int HR1.out x5_1 p102 q102
                cases e102
                replace p102 := eq_true p102
                replace q102 := eq_true q102
                go_wp2
                repeat (go_quiet (fail); try go_wp2)
                go_roundg k1
                case measure => have := HK1.out; omega
                case rel => exact ⟨(wrap64 (x5_1 + 1)), (by first | rfl | (simp; done) | (simp [*]; done)), H', ⟨by have := HK1.out; omega⟩, by repeat (first | exact Drawn0.refl _ | apply Drawn0.step)⟩
              · rw [if_neg c7] at H
                have c7b0 : ((rd l0 x5_1) == (rd l1 x5_1)) = false := beq_eq_false_iff_ne.mpr c7
                have c7b1 : ((rd l0 x5_1) != (rd l1 x5_1)) = true := bne_iff_ne.mpr c7
                obtain rfl := Option.some.inj H
                have p101 : 0 ≤ (x5_1 : Int) := of_decide_eq_true (by first | (with_reducible assumption) | assumption)
                have q101 : x5_1 < (l0.length : Int) := of_decide_eq_true (by first | (with_reducible assumption) | assumption)
                obtain ⟨ad101, e101, hx101_0⟩ := Kd.at_int HR0.out x5_1 p101 q101
                cases e101
                replace p101 := eq_true p101
                replace q101 := eq_true q101
                have p102 : 0 ≤ (x5_1 : Int) := of_decide_eq_true (by first | (with_reducible assumption) | assumption)
                have q102 : x5_1 < (l1.length : Int) := of_decide_eq_true (by first | (with_reducible assumption) | assumption)
                obtain ⟨ad102, e102, hx102_0⟩ := Kd.at_int HR1.out x5_1 p102 q102
                cases e102
                replace p102 := eq_true p102
                replace q102 := eq_true q102
                go_wp2
                repeat (go_quiet (fail); try go_wp2)
                go_ret
                exact ⟨by first | rfl | (simp; done) | (simp [*]; done), by repeat (first | exact Drawn0.refl _ | apply Drawn0.step)⟩
            · rw [if_neg c6] at H
              exact absurd H (by simp)
          · rw [if_neg c5] at H
            exact absurd H (by simp)
        · rw [if_neg c4] at H
          have c4b0 : decide (x5_1 < (l0.length : Int)) = false := decide_eq_false c4
          clear c4
          obtain rfl := Option.some.inj H
          go_wp2
          repeat (go_quiet (fail); try go_wp2)
          go_ret
          exact ⟨by first | rfl | (simp; done) | (simp [*]; done), by repeat (first | exact Drawn0.refl _ | apply Drawn0.step)⟩
  · rw [if_neg c3] at H
    have c3b0 : ((l0.length : Int) == (l1.length : Int)) = false := beq_eq_false_iff_ne.mpr c3
    have c3b1 : ((l0.length : Int) != (l1.length : Int)) = true := bne_iff_ne.mpr c3
    have c3b2 : (l0.length == l1.length) = false := by first | simpa using c3 | (simp at c3 ⊢; omega)
    obtain rfl := Option.some.inj H
    go_enter Try.func15, Try.ntmps15
    go_wp2
    repeat (go_quiet (fail); try go_wp2)
    go_ret
    exact ⟨by first | rfl | (simp; done) | (simp [*]; done), by repeat (first | exact Drawn0.refl _ | apply Drawn0.step)⟩
theorem laws_eqIntS.l0.st {x0 : List Int} {x1 : List Int} {x5 : Int} {r : (Bool)} (H : Ev (fun k => if x5 < (x0.length : Int) then (if 0 ≤ x5 then (if x5 < (x1.length : Int) then (if (rd x0 x5) = (rd x1 x5) then (laws_eqIntS.l0 k x0 x1 (wrap64 (x5 + 1))) else (some false)) else (none)) else (none)) else (some true)) r) : Ev (fun k => laws_eqIntS.l0 k x0 x1 x5) r := Ev.step (fun k => laws_eqIntS.l0.eq_2 x0 x1 x5 k) H

/-! ### spec_NeedOf: function 21 -/
def spec_NeedOf.l0 : Nat → List (S43) → Int → Int → Int → Option (Int × Int)
  | 0, _, _, _, _ => none
  | k + 1, x0, x4, x5, x6 => if x6 < (x0.length : Int) then (if 0 ≤ x6 then (spec_NeedOf.l0 k x0 (wrap64 (x4 + ((rd_T43 x0 x6).f2))) (wrap64 (x5 + ((rd_T43 x0 x6).f1))) (wrap64 (x6 + 1))) else (none)) else (some (x4, x5))
def spec_NeedOf.f (k : Nat) (l0 : List (S43)) : Option (Int × Int) := (spec_ClaimsOk.f k l0).bind fun t142 => (if t142 = true then (spec_NeedOf.l0 k l0 0 0 0) else (some ((-1), (-1))))
theorem spec_NeedOf.mono_l : ∀ k, (∀ y0 y1 y2 y3, LeO (spec_NeedOf.l0 k y0 y1 y2 y3) (spec_NeedOf.l0 (k + 1) y0 y1 y2 y3))
  | 0 => fun _ _ _ _ r h => by simp [spec_NeedOf.l0] at h
  | k + 1 => by
    have ih0 := spec_NeedOf.mono_l k
    · intro y0 y1 y2 y3
      unfold spec_NeedOf.l0
      repeat' first
      | (with_reducible exact ih0 _ _ _ _)
      | (with_reducible exact spec_ClaimsOk.mono _ _)
      | (with_reducible exact LeO.refl _)
      | (with_reducible exact LeO.none _)
      | (with_reducible refine LeO.ite ?_ ?_)
      | (with_reducible refine LeO.bind ?_ (fun _ => ?_))
      | exact ih0 _ _ _ _
      | exact spec_ClaimsOk.mono _ _
      | exact LeO.none _
      | refine LeO.ite ?_ ?_
      | refine LeO.bind ?_ (fun _ => ?_)
theorem spec_NeedOf.mono : ∀ a0 k, LeO (spec_NeedOf.f k a0) (spec_NeedOf.f (k + 1) a0) := by
  intro a0 k
  have ih0 := spec_NeedOf.mono_l k
  unfold spec_NeedOf.f
  repeat' first
      | (with_reducible exact ih0 _ _ _ _)
      | (with_reducible exact spec_ClaimsOk.mono _ _)
      | (with_reducible exact LeO.refl _)
      | (with_reducible exact LeO.none _)
      | (with_reducible refine LeO.ite ?_ ?_)
      | (with_reducible refine LeO.bind ?_ (fun _ => ?_))
      | exact ih0 _ _ _ _
      | exact spec_ClaimsOk.mono _ _
      | exact LeO.none _
      | refine LeO.ite ?_ ?_
      | refine LeO.bind ?_ (fun _ => ?_)
set_option maxHeartbeats 8000000 in
set_option maxRecDepth 100000 in
theorem spec_NeedOf.calls (k : Nat) (A0 : Option Addr) (c0 : Nat) (l0 : List (S43)) (r1 : Int) (r2 : Int) (w : World) (hr0 : Kd.C k43 w A0 l0.length l0) (hc0 : l0.length ≤ c0) (h : spec_NeedOf.f k l0 = some (r1, r2)) :
    Calls Try.prog 21 #[.slice A0 l0.length c0] w fun e w' => e = .returned (.tuple #[.int .i64 r1, .int .i64 r2]) ∧ Below w.heap.size w w' := by
  have HR0 := Aside0.mk hr0
  have HC0 := Aside0.mk hc0
  clear hr0 hc0
  have HB := Aside0.mk (Below.refl w.heap.size w)
  have H : ((spec_ClaimsOk.f k l0).bind fun t142 => (if t142 = true then (spec_NeedOf.l0 k l0 0 0 0) else (some ((-1), (-1))))) = some (r1, r2) := h
  clear h
  replace H := Option.bind_eq_some_iff.mp H
  obtain ⟨t142, A20, H⟩ := H
  replace H : (if t142 = true then (spec_NeedOf.l0 k l0 0 0 0) else (some ((-1), (-1)))) = some (r1, r2) := H
  have A2 := Aside0.mk A20
  clear A20
  by_cases c3 : t142 = true
  · subst c3
    have H1 : (spec_NeedOf.l0 k l0 0 0 0) = some (r1, r2) := by rw [if_pos rfl] at H; exact H
    clear H
    have H := H1
    clear H1
    have H' := Aside0.mk H
    clear H
    go_enter Try.func21, Try.ntmps21
    go_wp2_with (first | ((with_reducible refine gate_callee (f := 17) rfl ?_); refine goesL_ (some 8) rfl rfl Try.func17 (by kernel_rfl) rfl #[.slice A0 l0.length c0] rfl (by (try simp only [List.map_toArray, List.map_cons, List.map_nil]); first | done | rfl | (simp only [List.length_drop, List.length_take]; rfl)) ?_; (with_reducible refine (spec_ClaimsOk.calls k _ _ l0 true _ ?side1 ?side2 A2.out).mono ?_); (case side1 => repeat (first | exact HR0.out | (with_reducible refine Kd.C_alloc ?_ _) | (with_reducible refine Kd.C_drewN ?_ _) | (with_reducible refine Kd.C_drew ?_))); (case side2 => exact HC0.out); rintro e w4 ⟨rfl, hb⟩; refine ⟨_, rfl, ?_⟩; have n0_ := Aside0.mk (below_step (by repeat (first | (with_reducible first | exact HB.out | apply below_alloc | apply pw_below_drewN | apply below_drew1) | exact HB.out)) hb); clear HB; have HB := n0_; clear n0_; (try clear hb); (try clear hb2); (try clear hk); (try clear hi)))
    go_loopg [4, 5, 6] k (fun kq v4 v5 v6 w' => ∃ (x4_1 : Int) (x5_1 : Int) (x6_1 : Int), v4 = .int .i64 x4_1 ∧ v5 = .int .i64 x5_1 ∧ v6 = .int .i64 x6_1 ∧ Aside0 (spec_NeedOf.l0 kq l0 x4_1 x5_1 x6_1 = some (r1, r2)) ∧ Aside0 (kq ≤ k) ∧ Aside0 (Below w.heap.size w w'))
    case atStart => exact ⟨(0), (0), (0), (by first | rfl | (simp; done) | (simp [*]; done)), (by first | rfl | (simp; done) | (simp [*]; done)), (by first | rfl | (simp; done) | (simp [*]; done)), H', ⟨Nat.le_refl _⟩, ⟨by repeat (first | (with_reducible first | exact HB.out | apply below_alloc | apply pw_below_drewN | apply below_drew1) | exact HB.out)⟩⟩
    case round =>
      clear H'
      try clear c1
      try clear c2
      try clear p2
      try clear c3
      obtain ⟨x4_1, x5_1, x6_1, rfl, rfl, rfl, HA, HK1, HB⟩ := hrel
      cases gk with
      | zero => exact absurd HA.out (by simp [spec_NeedOf.l0])
      | succ k1 =>
        have H := HA.out
        clear HA
        simp only [spec_NeedOf.l0] at H
        by_cases c5 : x6_1 < (l0.length : Int)
        · rw [if_pos c5] at H
          have c5b0 : decide (x6_1 < (l0.length : Int)) = true := decide_eq_true c5
          clear c5
          by_cases c6 : 0 ≤ x6_1
          · rw [if_pos c6] at H
            have c6b0 : decide (0 ≤ x6_1) = true := decide_eq_true c6
            clear c6
            have H' := Aside0.mk H
            clear H
            have p143 : 0 ≤ (x6_1 : Int) := of_decide_eq_true (by first | (with_reducible assumption) | assumption)
            have q143 : x6_1 < (l0.length : Int) := of_decide_eq_true (by first | (with_reducible assumption) | assumption)
            obtain ⟨ad143, e143, hx143_0, hx143_1, hx143_2, hx143_3⟩ := at_T43 HR0.out x6_1 p143 q143
            cases e143
            replace hx143_0 := (HB.out.cell (World.block_lt_of_cell? w _ hx143_0)).trans hx143_0
            replace hx143_1 := (HB.out.cell (World.block_lt_of_cell? w _ hx143_1)).trans hx143_1
            replace hx143_2 := (HB.out.cell (World.block_lt_of_cell? w _ hx143_2)).trans hx143_2
            replace hx143_3 := (HB.out.cell (World.block_lt_of_cell? w _ hx143_3)).trans hx143_3
            replace p143 := eq_true p143
            replace q143 := eq_true q143
            have p144 : 0 ≤ (x6_1 : Int) := of_decide_eq_true (by first | (with_reducible assumption) | assumption)
            have q144 : x6_1 < (l0.length : Int) := of_decide_eq_true (by first | (with_reducible assumption) | assumption)
            obtain ⟨ad144, e144, hx144_0, hx144_1, hx144_2, hx144_3⟩ := at_T43 HR0.out x6_1 p144 q144
            obtain rfl : ad143 = ad144 := (by injection e144)
            replace hx144_0 := (HB.out.cell (World.block_lt_of_cell? w _ hx144_0)).trans hx144_0
            replace hx144_1 := (HB.out.cell (World.block_lt_of_cell? w _ hx144_1)).trans hx144_1
            replace hx144_2 := (HB.out.cell (World.block_lt_of_cell? w _ hx144_2)).trans hx144_2
            replace hx144_3 := (HB.out.cell (World.block_lt_of_cell? w _ hx144_3)).trans hx144_3
            replace p144 := eq_true p144
            replace q144 := eq_true q144
            go_wp2
            go_roundg k1
            case measure => have := HK1.out; omega
            case rel => exact ⟨(wrap64 (x4_1 + ((rd_T43 l0 x6_1).f2))), (wrap64 (x5_1 + ((rd_T43 l0 x6_1).f1))), (wrap64 (x6_1 + 1)), (by first | rfl | (simp; done) | (simp [*]; done)), (by first | rfl | (simp; done) | (simp [*]; done)), (by first | rfl | (simp; done) | (simp [*]; done)), H', ⟨by have := HK1.out; omega⟩, ⟨by repeat (first | (with_reducible first | exact HB.out | apply below_alloc | apply pw_below_drewN | apply below_drew1) | exact HB.out)⟩⟩
          · rw [if_neg c6] at H
            exact absurd H (by simp)
        · rw [if_neg c5] at H
          have c5b0 : decide (x6_1 < (l0.length : Int)) = false := decide_eq_false c5
          clear c5
          simp only [Option.some.injEq, Prod.mk.injEq] at H
          obtain ⟨rfl, rfl⟩ := H
          go_wp2
          go_ret2
          exact ⟨by first | rfl | (simp [errW_none, errW_some] <;> rfl) | (simp [*, errW_none, errW_some] <;> rfl), by repeat (first | (with_reducible first | exact HB.out | apply below_alloc | apply pw_below_drewN | apply below_drew1) | exact HB.out)⟩
  · replace c3 := Bool.eq_false_iff.mpr c3
    subst c3
    have H1 : (some ((-1), (-1))) = some (r1, r2) := by rw [if_neg (show ¬ (false = true) by decide)] at H; exact H
    clear H
    have H := H1
    clear H1
    simp only [Option.some.injEq, Prod.mk.injEq] at H
    obtain ⟨rfl, rfl⟩ := H
    go_enter Try.func21, Try.ntmps21
    go_wp2_with (first | ((with_reducible refine gate_callee (f := 17) rfl ?_); refine goesL_ (some 8) rfl rfl Try.func17 (by kernel_rfl) rfl #[.slice A0 l0.length c0] rfl (by (try simp only [List.map_toArray, List.map_cons, List.map_nil]); first | done | rfl | (simp only [List.length_drop, List.length_take]; rfl)) ?_; (with_reducible refine (spec_ClaimsOk.calls k _ _ l0 false _ ?side1 ?side2 A2.out).mono ?_); (case side1 => repeat (first | exact HR0.out | (with_reducible refine Kd.C_alloc ?_ _) | (with_reducible refine Kd.C_drewN ?_ _) | (with_reducible refine Kd.C_drew ?_))); (case side2 => exact HC0.out); rintro e w7 ⟨rfl, hb⟩; refine ⟨_, rfl, ?_⟩; have n0_ := Aside0.mk (below_step (by repeat (first | (with_reducible first | exact HB.out | apply below_alloc | apply pw_below_drewN | apply below_drew1) | exact HB.out)) hb); clear HB; have HB := n0_; clear n0_; (try clear hb); (try clear hb2); (try clear hk); (try clear hi)))
    go_ret2
    exact ⟨by first | rfl | (simp [errW_none, errW_some] <;> rfl) | (simp [*, errW_none, errW_some] <;> rfl), by repeat (first | (with_reducible first | exact HB.out | apply below_alloc | apply pw_below_drewN | apply below_drew1) | exact HB.out)⟩
theorem spec_NeedOf.l0.st {x0 : List (S43)} {x4 : Int} {x5 : Int} {x6 : Int} {r : (Int × Int)} (H : Ev (fun k => if x6 < (x0.length : Int) then (if 0 ≤ x6 then (spec_NeedOf.l0 k x0 (wrap64 (x4 + ((rd_T43 x0 x6).f2))) (wrap64 (x5 + ((rd_T43 x0 x6).f1))) (wrap64 (x6 + 1))) else (none)) else (some (x4, x5))) r) : Ev (fun k => spec_NeedOf.l0 k x0 x4 x5 x6) r := Ev.step (fun k => spec_NeedOf.l0.eq_2 x0 x4 x5 x6 k) H

/-! ### spec_ShareOut: function 35 -/
mutual
def spec_ShareOut.j0 : Nat → Int → List (S43) → List Int → Int → Bool → Option (List Int × Bool)
 | 0, _, _, _, _, _ => none
 | k + 1, x0, x1, x6, x7, x31 => if x31 = true then (some (([] : List Int), false)) else (spec_ShareOut.l0 k x0 x1 x6 x7 0)
def spec_ShareOut.l0 : Nat → Int → List (S43) → List Int → Int → Int → Option (List Int × Bool)
 | 0, _, _, _, _, _ => none
 | k + 1, x0, x1, x6, x7, x9 => if x9 < (x1.length : Int) then (if 0 ≤ x9 then (if x6.length < 17592186044416 then (spec_ShareOut.l0 k x0 x1 (x6 ++ [(rd_T43 x1 x9).f2]) x7 (wrap64 (x9 + 1))) else (none)) else (none)) else (spec_ShareOut.l1 k x1 x6 (wrap64 (x0 - x7)))
def spec_ShareOut.l1 : Nat → List (S43) → List Int → Int → Option (List Int × Bool)
 | 0, _, _, _ => none
 | k + 1, x1, x6, x10 => if x10 > 0 then (spec_ShareOut.l2 k x1 x6 x10 (-1) 0) else (some (x6, true))
def spec_ShareOut.l2 : Nat → List (S43) → List Int → Int → Int → Int → Option (List Int × Bool)
 | 0, _, _, _, _, _ => none
 | k + 1, x1, x6, x10, x11, x12 => if x12 < (x1.length : Int) then (if 0 ≤ x12 then (if x12 < (x6.length : Int) then (if (rd x6 x12) < ((rd_T43 x1 x12).f1) then (if x11 < 0 then (spec_ShareOut.l2 k x1 x6 x10 x12 (wrap64 (x12 + 1))) else (if 0 ≤ x11 then (if x11 < (x1.length : Int) then (if x11 < (x6.length : Int) then (if (wrap64 ((rd x6 x12) * ((rd_T43 x1 x11).f3))) < (wrap64 ((rd x6 x11) * ((rd_T43 x1 x12).f3))) then (spec_ShareOut.l2 k x1 x6 x10 x12 (wrap64 (x12 + 1))) else (spec_ShareOut.l2 k x1 x6 x10 x11 (wrap64 (x12 + 1)))) else (none)) else (none)) else (none))) else (spec_ShareOut.l2 k x1 x6 x10 x11 (wrap64 (x12 + 1)))) else (none)) else (none)) else (if x11 < 0 then (some (x6, true)) else (if 0 ≤ x11 then (if x11 < (x6.length : Int) then (spec_ShareOut.l1 k x1 (x6.set (x11 : Int).toNat (wrap64 ((rd x6 x11) + 1))) (wrap64 (x10 - 1))) else (none)) else (none)))
end
def spec_ShareOut.f (k : Nat) (a0 : Int) (l1 : List (S43)) : Option (List Int × Bool) := (some (([] : List Int) : List Int)).bind fun y145 => ((spec_NeedOf.f k l1).bind fun bt148 => ((spec_ClaimsOk.f k l1).bind fun t150 => (if t150 = true then ((spec_l05Count.f a0).bind fun t151 => (if t151 = true then (spec_ShareOut.j0 k a0 l1 y145 bt148.1 (decide (bt148.1 > a0))) else (spec_ShareOut.j0 k a0 l1 y145 bt148.1 true))) else (spec_ShareOut.j0 k a0 l1 y145 bt148.1 true))))
theorem spec_ShareOut.mono_l : ∀ k, (∀ y0 y1 y2 y3 y4, LeO (spec_ShareOut.j0 k y0 y1 y2 y3 y4) (spec_ShareOut.j0 (k + 1) y0 y1 y2 y3 y4)) ∧ (∀ y0 y1 y2 y3 y4, LeO (spec_ShareOut.l0 k y0 y1 y2 y3 y4) (spec_ShareOut.l0 (k + 1) y0 y1 y2 y3 y4)) ∧ (∀ y0 y1 y2, LeO (spec_ShareOut.l1 k y0 y1 y2) (spec_ShareOut.l1 (k + 1) y0 y1 y2)) ∧ (∀ y0 y1 y2 y3 y4, LeO (spec_ShareOut.l2 k y0 y1 y2 y3 y4) (spec_ShareOut.l2 (k + 1) y0 y1 y2 y3 y4))
 | 0 => ⟨fun _ _ _ _ _ r h => by simp [spec_ShareOut.j0] at h, fun _ _ _ _ _ r h => by simp [spec_ShareOut.l0] at h, fun _ _ _ r h => by simp [spec_ShareOut.l1] at h, fun _ _ _ _ _ r h => by simp [spec_ShareOut.l2] at h⟩
 | k + 1 => by
  obtain ⟨ih0, ih1, ih2, ih3⟩ := spec_ShareOut.mono_l k
  refine ⟨?_, ?_, ?_, ?_⟩
  ·
   intro y0 y1 y2 y3 y4
   unfold spec_ShareOut.j0
   repeat' first
   | (with_reducible exact ih0 _ _ _ _ _)
   | (with_reducible exact ih1 _ _ _ _ _)
   | (with_reducible exact ih2 _ _ _)
   | (with_reducible exact ih3 _ _ _ _ _)
   | (with_reducible exact spec_ClaimsOk.mono _ _)
   | (with_reducible exact spec_NeedOf.mono _ _)
   | (with_reducible exact LeO.refl _)
   | (with_reducible exact LeO.none _)
   | (with_reducible refine LeO.ite ?_ ?_)
   | (with_reducible refine LeO.bind ?_ (fun _ => ?_))
   | exact ih0 _ _ _ _ _
   | exact ih1 _ _ _ _ _
   | exact ih2 _ _ _
   | exact ih3 _ _ _ _ _
   | exact spec_ClaimsOk.mono _ _
   | exact spec_NeedOf.mono _ _
   | exact LeO.none _
   | refine LeO.ite ?_ ?_
   | refine LeO.bind ?_ (fun _ => ?_)
  ·
   intro y0 y1 y2 y3 y4
   unfold spec_ShareOut.l0
   repeat' first
   | (with_reducible exact ih0 _ _ _ _ _)
   | (with_reducible exact ih1 _ _ _ _ _)
   | (with_reducible exact ih2 _ _ _)
   | (with_reducible exact ih3 _ _ _ _ _)
   | (with_reducible exact spec_ClaimsOk.mono _ _)
   | (with_reducible exact spec_NeedOf.mono _ _)
   | (with_reducible exact LeO.refl _)
   | (with_reducible exact LeO.none _)
   | (with_reducible refine LeO.ite ?_ ?_)
   | (with_reducible refine LeO.bind ?_ (fun _ => ?_))
   | exact ih0 _ _ _ _ _
   | exact ih1 _ _ _ _ _
   | exact ih2 _ _ _
   | exact ih3 _ _ _ _ _
   | exact spec_ClaimsOk.mono _ _
   | exact spec_NeedOf.mono _ _
   | exact LeO.none _
   | refine LeO.ite ?_ ?_
   | refine LeO.bind ?_ (fun _ => ?_)
  ·
   intro y0 y1 y2
   unfold spec_ShareOut.l1
   repeat' first
   | (with_reducible exact ih0 _ _ _ _ _)
   | (with_reducible exact ih1 _ _ _ _ _)
   | (with_reducible exact ih2 _ _ _)
   | (with_reducible exact ih3 _ _ _ _ _)
   | (with_reducible exact spec_ClaimsOk.mono _ _)
   | (with_reducible exact spec_NeedOf.mono _ _)
   | (with_reducible exact LeO.refl _)
   | (with_reducible exact LeO.none _)
   | (with_reducible refine LeO.ite ?_ ?_)
   | (with_reducible refine LeO.bind ?_ (fun _ => ?_))
   | exact ih0 _ _ _ _ _
   | exact ih1 _ _ _ _ _
   | exact ih2 _ _ _
   | exact ih3 _ _ _ _ _
   | exact spec_ClaimsOk.mono _ _
   | exact spec_NeedOf.mono _ _
   | exact LeO.none _
   | refine LeO.ite ?_ ?_
   | refine LeO.bind ?_ (fun _ => ?_)
  ·
   intro y0 y1 y2 y3 y4
   unfold spec_ShareOut.l2
   repeat' first
   | (with_reducible exact ih0 _ _ _ _ _)
   | (with_reducible exact ih1 _ _ _ _ _)
   | (with_reducible exact ih2 _ _ _)
   | (with_reducible exact ih3 _ _ _ _ _)
   | (with_reducible exact spec_ClaimsOk.mono _ _)
   | (with_reducible exact spec_NeedOf.mono _ _)
   | (with_reducible exact LeO.refl _)
   | (with_reducible exact LeO.none _)
   | (with_reducible refine LeO.ite ?_ ?_)
   | (with_reducible refine LeO.bind ?_ (fun _ => ?_))
   | exact ih0 _ _ _ _ _
   | exact ih1 _ _ _ _ _
   | exact ih2 _ _ _
   | exact ih3 _ _ _ _ _
   | exact spec_ClaimsOk.mono _ _
   | exact spec_NeedOf.mono _ _
   | exact LeO.none _
   | refine LeO.ite ?_ ?_
   | refine LeO.bind ?_ (fun _ => ?_)
theorem spec_ShareOut.mono : ∀ a0 a1 k, LeO (spec_ShareOut.f k a0 a1) (spec_ShareOut.f (k + 1) a0 a1) := by
 intro a0 a1 k
 obtain ⟨ih0, ih1, ih2, ih3⟩ := spec_ShareOut.mono_l k
 unfold spec_ShareOut.f
 repeat' first
   | (with_reducible exact ih0 _ _ _ _ _)
   | (with_reducible exact ih1 _ _ _ _ _)
   | (with_reducible exact ih2 _ _ _)
   | (with_reducible exact ih3 _ _ _ _ _)
   | (with_reducible exact spec_ClaimsOk.mono _ _)
   | (with_reducible exact spec_NeedOf.mono _ _)
   | (with_reducible exact LeO.refl _)
   | (with_reducible exact LeO.none _)
   | (with_reducible refine LeO.ite ?_ ?_)
   | (with_reducible refine LeO.bind ?_ (fun _ => ?_))
   | exact ih0 _ _ _ _ _
   | exact ih1 _ _ _ _ _
   | exact ih2 _ _ _
   | exact ih3 _ _ _ _ _
   | exact spec_ClaimsOk.mono _ _
   | exact spec_NeedOf.mono _ _
   | exact LeO.none _
   | refine LeO.ite ?_ ?_
   | refine LeO.bind ?_ (fun _ => ?_)
set_option maxHeartbeats 8000000 in
set_option maxRecDepth 100000 in
theorem spec_ShareOut.calls (k : Nat) (a0 : Int) (A1 : Option Addr) (c1 : Nat) (l1 : List (S43)) (r1 : List Int) (r2 : Bool) (w : World) (hr1 : Kd.C k43 w A1 l1.length l1) (hc1 : l1.length ≤ c1) (h : spec_ShareOut.f k a0 l1 = some (r1, r2)) :
  Calls Try.prog 35 #[.int .i64 a0, .slice A1 l1.length c1] w fun e w' => ∃ v0_ : Value, e = .returned (.tuple #[v0_, .bool r2]) ∧ Kd.R (Kd.int .i64) 3 w' w.heap.size (fun _ => True) v0_ r1 ∧ Below w.heap.size w w' := by
 have HR1 := Aside0.mk hr1
 have HC1 := Aside0.mk hc1
 clear hr1 hc1
 have HB := Aside0.mk (Below.refl w.heap.size w)
 have H : ((some (([] : List Int) : List Int)).bind fun y145 => ((spec_NeedOf.f k l1).bind fun bt148 => ((spec_ClaimsOk.f k l1).bind fun t150 => (if t150 = true then ((spec_l05Count.f a0).bind fun t151 => (if t151 = true then (spec_ShareOut.j0 k a0 l1 y145 bt148.1 (decide (bt148.1 > a0))) else (spec_ShareOut.j0 k a0 l1 y145 bt148.1 true))) else (spec_ShareOut.j0 k a0 l1 y145 bt148.1 true))))) = some (r1, r2) := h
 clear h
 obtain ⟨y145, hy145⟩ : ∃ y_ : List Int, y_ = (([] : List Int)) := ⟨_, rfl⟩
 replace H : ((spec_NeedOf.f k l1).bind fun bt148 => ((spec_ClaimsOk.f k l1).bind fun t150 => (if t150 = true then ((spec_l05Count.f a0).bind fun t151 => (if t151 = true then (spec_ShareOut.j0 k a0 l1 y145 bt148.1 (decide (bt148.1 > a0))) else (spec_ShareOut.j0 k a0 l1 y145 bt148.1 true))) else (spec_ShareOut.j0 k a0 l1 y145 bt148.1 true)))) = some (r1, r2) := by first | (rw [hy145]; with_reducible exact H) | (have H2_ := (Option.bind_some _ _).symm.trans H; rw [hy145]; with_reducible exact H2_) | (have H2_ := (Option.bind_some _ _).symm.trans H; with_reducible exact H2_) | with_reducible exact H | (rw [hy145]; exact H) | exact H
 have Ny145 := Aside0.mk hy145
 clear hy145
 replace H := Option.bind_eq_some_iff.mp H
 obtain ⟨⟨t148, t149⟩, A30, H⟩ := H
 replace H : ((spec_ClaimsOk.f k l1).bind fun t150 => (if t150 = true then ((spec_l05Count.f a0).bind fun t151 => (if t151 = true then (spec_ShareOut.j0 k a0 l1 y145 t148 (decide (t148 > a0))) else (spec_ShareOut.j0 k a0 l1 y145 t148 true))) else (spec_ShareOut.j0 k a0 l1 y145 t148 true))) = some (r1, r2) := H
 have A3 := Aside0.mk A30
 clear A30
 have HC4 := Aside0.mk H
 clear H
 go_enter Try.func35, Try.ntmps35
 go_upto_region 3 with (first | ((with_reducible refine gate_dst (N := 13) rfl ?_); refine Kd.R_lit (Kd.int .i64) _ 3 ?hg (N := 13) ?hd (xs := ([] : List Int)) (inner := []) (ok := fun _ => True) (okp := fun _ => True) ?hr ?hp (fun _ hk => hk) trivial (Below.refl _ _) (Nat.le_refl _) (by simp) ?_; (case hd => rfl); (case hg => rfl); (case hr => first | (go_simp; done) | (go_simp; rfl)); (case hp => exact (Reps.none _ _)); intro v146 w5 ho6 hb hg_ hnew_; clear hg_ hnew_; (first | rw [← Ny145.out] at ho6 | (simp only [Int.reduceToNat] at ho6; rw [← Ny145.out] at ho6)); have n0_ := Aside0.mk (Kd.R_lower ho6 (below_size (by repeat (first | (with_reducible first | exact HB.out | apply below_alloc | apply pw_below_drewN | apply below_drew1) | exact HB.out)))); have n1_ := Aside0.mk (below_step (by repeat (first | (with_reducible first | exact HB.out | apply below_alloc | apply pw_below_drewN | apply below_drew1) | exact HB.out)) hb); clear HB; have HO147 := n0_; have HB := n1_; clear n0_ n1_; clear hb ho6) | (go_at_call 21; (with_reducible refine (spec_NeedOf.calls k _ _ l1 t148 t149 _ ?side1 ?side2 A3.out).mono ?_); (case side1 => repeat (first | exact (Kd.C_below HR1.out HB.out) | (with_reducible refine Kd.C_alloc ?_ _) | (with_reducible refine Kd.C_drewN ?_ _) | (with_reducible refine Kd.C_drew ?_))); (case side2 => exact HC1.out); rintro e w7 ⟨rfl, hb⟩; have n0_ := Aside0.mk (Kd.R_below (by (with_reducible repeat (first | apply Kd.R_alloc | apply Kd.R_drewN | apply Kd.R_drew)); exact HO147.out) hb); have n1_ := Aside0.mk (below_step (by repeat (first | (with_reducible first | exact HB.out | apply below_alloc | apply pw_below_drewN | apply below_drew1) | exact HB.out)) hb); clear HO147; clear HB; have HO147 := n0_; have HB := n1_; clear n0_ n1_; (try clear hb); (try clear hb2); (try clear hk); (try clear hi)))
 repeat (go_quiet (first | ((with_reducible refine gate_dst (N := 13) rfl ?_); refine Kd.R_lit (Kd.int .i64) _ 3 ?hg (N := 13) ?hd (xs := ([] : List Int)) (inner := []) (ok := fun _ => True) (okp := fun _ => True) ?hr ?hp (fun _ hk => hk) trivial (Below.refl _ _) (Nat.le_refl _) (by simp) ?_; (case hd => rfl); (case hg => rfl); (case hr => first | (go_simp; done) | (go_simp; rfl)); (case hp => exact (Reps.none _ _)); intro v146 w5 ho6 hb hg_ hnew_; clear hg_ hnew_; (first | rw [← Ny145.out] at ho6 | (simp only [Int.reduceToNat] at ho6; rw [← Ny145.out] at ho6)); have n0_ := Aside0.mk (Kd.R_lower ho6 (below_size (by repeat (first | (with_reducible first | exact HB.out | apply below_alloc | apply pw_below_drewN | apply below_drew1) | exact HB.out)))); have n1_ := Aside0.mk (below_step (by repeat (first | (with_reducible first | exact HB.out | apply below_alloc | apply pw_below_drewN | apply below_drew1) | exact HB.out)) hb); clear HB; have HO147 := n0_; have HB := n1_; clear n0_ n1_; clear hb ho6) | (go_at_call 21; (with_reducible refine (spec_NeedOf.calls k _ _ l1 t148 t149 _ ?side1 ?side2 A3.out).mono ?_); (case side1 => repeat (first | exact (Kd.C_below HR1.out HB.out) | (with_reducible refine Kd.C_alloc ?_ _) | (with_reducible refine Kd.C_drewN ?_ _) | (with_reducible refine Kd.C_drew ?_))); (case side2 => exact HC1.out); rintro e w7 ⟨rfl, hb⟩; have n0_ := Aside0.mk (Kd.R_below (by (with_reducible repeat (first | apply Kd.R_alloc | apply Kd.R_drewN | apply Kd.R_drew)); exact HO147.out) hb); have n1_ := Aside0.mk (below_step (by repeat (first | (with_reducible first | exact HB.out | apply below_alloc | apply pw_below_drewN | apply below_drew1) | exact HB.out)) hb); clear HO147; clear HB; have HO147 := n0_; have HB := n1_; clear n0_ n1_; (try clear hb); (try clear hb2); (try clear hk); (try clear hi))); go_upto_region 3 with (first | ((with_reducible refine gate_dst (N := 13) rfl ?_); refine Kd.R_lit (Kd.int .i64) _ 3 ?hg (N := 13) ?hd (xs := ([] : List Int)) (inner := []) (ok := fun _ => True) (okp := fun _ => True) ?hr ?hp (fun _ hk => hk) trivial (Below.refl _ _) (Nat.le_refl _) (by simp) ?_; (case hd => rfl); (case hg => rfl); (case hr => first | (go_simp; done) | (go_simp; rfl)); (case hp => exact (Reps.none _ _)); intro v146 w5 ho6 hb hg_ hnew_; clear hg_ hnew_; (first | rw [← Ny145.out] at ho6 | (simp only [Int.reduceToNat] at ho6; rw [← Ny145.out] at ho6)); have n0_ := Aside0.mk (Kd.R_lower ho6 (below_size (by repeat (first | (with_reducible first | exact HB.out | apply below_alloc | apply pw_below_drewN | apply below_drew1) | exact HB.out)))); have n1_ := Aside0.mk (below_step (by repeat (first | (with_reducible first | exact HB.out | apply below_alloc | apply pw_below_drewN | apply below_drew1) | exact HB.out)) hb); clear HB; have HO147 := n0_; have HB := n1_; clear n0_ n1_; clear hb ho6) | (go_at_call 21; (with_reducible refine (spec_NeedOf.calls k _ _ l1 t148 t149 _ ?side1 ?side2 A3.out).mono ?_); (case side1 => repeat (first | exact (Kd.C_below HR1.out HB.out) | (with_reducible refine Kd.C_alloc ?_ _) | (with_reducible refine Kd.C_drewN ?_ _) | (with_reducible refine Kd.C_drew ?_))); (case side2 => exact HC1.out); rintro e w7 ⟨rfl, hb⟩; have n0_ := Aside0.mk (Kd.R_below (by (with_reducible repeat (first | apply Kd.R_alloc | apply Kd.R_drewN | apply Kd.R_drew)); exact HO147.out) hb); have n1_ := Aside0.mk (below_step (by repeat (first | (with_reducible first | exact HB.out | apply below_alloc | apply pw_below_drewN | apply below_drew1) | exact HB.out)) hb); clear HO147; clear HB; have HO147 := n0_; have HB := n1_; clear n0_ n1_; (try clear hb); (try clear hb2); (try clear hk); (try clear hi))))
 (try simp only [Act.put, List.setIfInBounds_toArray, List.set_cons_zero, List.set_cons_succ])
 go_cut [31] (fun v31 wc => ∃ (kq : Nat) (x31_3 : Bool), v31 = .bool x31_3 ∧ Aside0 (spec_ShareOut.j0 kq a0 l1 y145 t148 x31_3 = some (r1, r2)) ∧ Aside0 (kq ≤ k) ∧ Aside0 (Kd.R (Kd.int .i64) 3 wc w.heap.size (fun _ => True) v146 y145) ∧ Aside0 (Below w.heap.size w wc))
 case first =>
  have H := HC4.out
  clear HC4
  replace H := Option.bind_eq_some_iff.mp H
  obtain ⟨t150, A80, H⟩ := H
  replace H : (if t150 = true then ((spec_l05Count.f a0).bind fun t151 => (if t151 = true then (spec_ShareOut.j0 k a0 l1 y145 t148 (decide (t148 > a0))) else (spec_ShareOut.j0 k a0 l1 y145 t148 true))) else (spec_ShareOut.j0 k a0 l1 y145 t148 true)) = some (r1, r2) := H
  have A8 := Aside0.mk A80
  clear A80
  by_cases c9 : t150 = true
  ·
   subst c9
   have H1 : ((spec_l05Count.f a0).bind fun t151 => (if t151 = true then (spec_ShareOut.j0 k a0 l1 y145 t148 (decide (t148 > a0))) else (spec_ShareOut.j0 k a0 l1 y145 t148 true))) = some (r1, r2) := by rw [if_pos rfl] at H; exact H
   clear H
   have H := H1
   clear H1
   replace H := Option.bind_eq_some_iff.mp H
   obtain ⟨t151, A100, H⟩ := H
   replace H : (if t151 = true then (spec_ShareOut.j0 k a0 l1 y145 t148 (decide (t148 > a0))) else (spec_ShareOut.j0 k a0 l1 y145 t148 true)) = some (r1, r2) := H
   have A10 := Aside0.mk A100
   clear A100
   by_cases c11 : t151 = true
   ·
    subst c11
    have H1 : (spec_ShareOut.j0 k a0 l1 y145 t148 (decide (t148 > a0))) = some (r1, r2) := by rw [if_pos rfl] at H; exact H
    clear H
    have H := H1
    clear H1
    have H' := Aside0.mk H
    clear H
    go_wp2_with (first | (go_at_call 17; (with_reducible refine (spec_ClaimsOk.calls k _ _ l1 true _ ?side1 ?side2 A8.out).mono ?_); (case side1 => repeat (first | exact (Kd.C_below HR1.out HB.out) | (with_reducible refine Kd.C_alloc ?_ _) | (with_reducible refine Kd.C_drewN ?_ _) | (with_reducible refine Kd.C_drew ?_))); (case side2 => exact HC1.out); rintro e w12 ⟨rfl, hb⟩; have n0_ := Aside0.mk (Kd.R_below (by (with_reducible repeat (first | apply Kd.R_alloc | apply Kd.R_drewN | apply Kd.R_drew)); exact HO147.out) hb); have n1_ := Aside0.mk (below_step (by repeat (first | (with_reducible first | exact HB.out | apply below_alloc | apply pw_below_drewN | apply below_drew1) | exact HB.out)) hb); clear HO147; clear HB; have HO147 := n0_; have HB := n1_; clear n0_ n1_; (try clear hb); (try clear hb2); (try clear hk); (try clear hi)) | (go_at_call 51; (with_reducible refine (spec_l05Count.calls a0 true _ A10.out).mono ?_); rintro e w' ⟨rfl, ⟨nd, rfl⟩⟩; (try first | exact ⟨rfl, _, World.drewN_drewN _ _ _⟩ | exact ⟨rfl, _, Eq.trans (World.drewN_drewN _ _ _) (congrArg (World.drewN _) (Nat.add_assoc _ _ _))⟩)))
    repeat (go_quiet (first | (go_at_call 17; (with_reducible refine (spec_ClaimsOk.calls k _ _ l1 true _ ?side1 ?side2 A8.out).mono ?_); (case side1 => repeat (first | exact (Kd.C_below HR1.out HB.out) | (with_reducible refine Kd.C_alloc ?_ _) | (with_reducible refine Kd.C_drewN ?_ _) | (with_reducible refine Kd.C_drew ?_))); (case side2 => exact HC1.out); rintro e w12 ⟨rfl, hb⟩; have n0_ := Aside0.mk (Kd.R_below (by (with_reducible repeat (first | apply Kd.R_alloc | apply Kd.R_drewN | apply Kd.R_drew)); exact HO147.out) hb); have n1_ := Aside0.mk (below_step (by repeat (first | (with_reducible first | exact HB.out | apply below_alloc | apply pw_below_drewN | apply below_drew1) | exact HB.out)) hb); clear HO147; clear HB; have HO147 := n0_; have HB := n1_; clear n0_ n1_; (try clear hb); (try clear hb2); (try clear hk); (try clear hi)) | (go_at_call 51; (with_reducible refine (spec_l05Count.calls a0 true _ A10.out).mono ?_); rintro e w' ⟨rfl, ⟨nd, rfl⟩⟩; (try first | exact ⟨rfl, _, World.drewN_drewN _ _ _⟩ | exact ⟨rfl, _, Eq.trans (World.drewN_drewN _ _ _) (congrArg (World.drewN _) (Nat.add_assoc _ _ _))⟩))); try go_wp2_with (first | (go_at_call 17; (with_reducible refine (spec_ClaimsOk.calls k _ _ l1 true _ ?side1 ?side2 A8.out).mono ?_); (case side1 => repeat (first | exact (Kd.C_below HR1.out HB.out) | (with_reducible refine Kd.C_alloc ?_ _) | (with_reducible refine Kd.C_drewN ?_ _) | (with_reducible refine Kd.C_drew ?_))); (case side2 => exact HC1.out); rintro e w12 ⟨rfl, hb⟩; have n0_ := Aside0.mk (Kd.R_below (by (with_reducible repeat (first | apply Kd.R_alloc | apply Kd.R_drewN | apply Kd.R_drew)); exact HO147.out) hb); have n1_ := Aside0.mk (below_step (by repeat (first | (with_reducible first | exact HB.out | apply below_alloc | apply pw_below_drewN | apply below_drew1) | exact HB.out)) hb); clear HO147; clear HB; have HO147 := n0_; have HB := n1_; clear n0_ n1_; (try clear hb); (try clear hb2); (try clear hk); (try clear hi)) | (go_at_call 51; (with_reducible refine (spec_l05Count.calls a0 true _ A10.out).mono ?_); rintro e w' ⟨rfl, ⟨nd, rfl⟩⟩; (try first | exact ⟨rfl, _, World.drewN_drewN _ _ _⟩ | exact ⟨rfl, _, Eq.trans (World.drewN_drewN _ _ _) (congrArg (World.drewN _) (Nat.add_assoc _ _ _))⟩))))
    go_meet
    case rel => exact ⟨_, (decide (t148 > a0)), (by first | rfl | (simp; done) | (simp [*]; done)), H', ⟨by first | omega | exact Nat.le_refl _⟩, ⟨by (with_reducible repeat (first | apply Kd.R_alloc | apply Kd.R_drewN | apply Kd.R_drew)); exact HO147.out⟩, ⟨by repeat (first | (with_reducible first | exact HB.out | apply below_alloc | apply pw_below_drewN | apply below_drew1) | exact HB.out)⟩⟩
   ·
    replace c11 := Bool.eq_false_iff.mpr c11
    subst c11
    have H1 : (spec_ShareOut.j0 k a0 l1 y145 t148 true) = some (r1, r2) := by rw [if_neg (show ¬ (false = true) by decide)] at H; exact H
    clear H
    have H := H1
    clear H1
    have H' := Aside0.mk H
    clear H
    go_wp2_with (first | (go_at_call 17; (with_reducible refine (spec_ClaimsOk.calls k _ _ l1 true _ ?side1 ?side2 A8.out).mono ?_); (case side1 => repeat (first | exact (Kd.C_below HR1.out HB.out) | (with_reducible refine Kd.C_alloc ?_ _) | (with_reducible refine Kd.C_drewN ?_ _) | (with_reducible refine Kd.C_drew ?_))); (case side2 => exact HC1.out); rintro e w13 ⟨rfl, hb⟩; have n0_ := Aside0.mk (Kd.R_below (by (with_reducible repeat (first | apply Kd.R_alloc | apply Kd.R_drewN | apply Kd.R_drew)); exact HO147.out) hb); have n1_ := Aside0.mk (below_step (by repeat (first | (with_reducible first | exact HB.out | apply below_alloc | apply pw_below_drewN | apply below_drew1) | exact HB.out)) hb); clear HO147; clear HB; have HO147 := n0_; have HB := n1_; clear n0_ n1_; (try clear hb); (try clear hb2); (try clear hk); (try clear hi)) | (go_at_call 51; (with_reducible refine (spec_l05Count.calls a0 false _ A10.out).mono ?_); rintro e w' ⟨rfl, ⟨nd, rfl⟩⟩; (try first | exact ⟨rfl, _, World.drewN_drewN _ _ _⟩ | exact ⟨rfl, _, Eq.trans (World.drewN_drewN _ _ _) (congrArg (World.drewN _) (Nat.add_assoc _ _ _))⟩)))
    repeat (go_quiet (first | (go_at_call 17; (with_reducible refine (spec_ClaimsOk.calls k _ _ l1 true _ ?side1 ?side2 A8.out).mono ?_); (case side1 => repeat (first | exact (Kd.C_below HR1.out HB.out) | (with_reducible refine Kd.C_alloc ?_ _) | (with_reducible refine Kd.C_drewN ?_ _) | (with_reducible refine Kd.C_drew ?_))); (case side2 => exact HC1.out); rintro e w13 ⟨rfl, hb⟩; have n0_ := Aside0.mk (Kd.R_below (by (with_reducible repeat (first | apply Kd.R_alloc | apply Kd.R_drewN | apply Kd.R_drew)); exact HO147.out) hb); have n1_ := Aside0.mk (below_step (by repeat (first | (with_reducible first | exact HB.out | apply below_alloc | apply pw_below_drewN | apply below_drew1) | exact HB.out)) hb); clear HO147; clear HB; have HO147 := n0_; have HB := n1_; clear n0_ n1_; (try clear hb); (try clear hb2); (try clear hk); (try clear hi)) | (go_at_call 51; (with_reducible refine (spec_l05Count.calls a0 false _ A10.out).mono ?_); rintro e w' ⟨rfl, ⟨nd, rfl⟩⟩; (try first | exact ⟨rfl, _, World.drewN_drewN _ _ _⟩ | exact ⟨rfl, _, Eq.trans (World.drewN_drewN _ _ _) (congrArg (World.drewN _) (Nat.add_assoc _ _ _))⟩))); try go_wp2_with (first | (go_at_call 17; (with_reducible refine (spec_ClaimsOk.calls k _ _ l1 true _ ?side1 ?side2 A8.out).mono ?_); (case side1 => repeat (first | exact (Kd.C_below HR1.out HB.out) | (with_reducible refine Kd.C_alloc ?_ _) | (with_reducible refine Kd.C_drewN ?_ _) | (with_reducible refine Kd.C_drew ?_))); (case side2 => exact HC1.out); rintro e w13 ⟨rfl, hb⟩; have n0_ := Aside0.mk (Kd.R_below (by (with_reducible repeat (first | apply Kd.R_alloc | apply Kd.R_drewN | apply Kd.R_drew)); exact HO147.out) hb); have n1_ := Aside0.mk (below_step (by repeat (first | (with_reducible first | exact HB.out | apply below_alloc | apply pw_below_drewN | apply below_drew1) | exact HB.out)) hb); clear HO147; clear HB; have HO147 := n0_; have HB := n1_; clear n0_ n1_; (try clear hb); (try clear hb2); (try clear hk); (try clear hi)) | (go_at_call 51; (with_reducible refine (spec_l05Count.calls a0 false _ A10.out).mono ?_); rintro e w' ⟨rfl, ⟨nd, rfl⟩⟩; (try first | exact ⟨rfl, _, World.drewN_drewN _ _ _⟩ | exact ⟨rfl, _, Eq.trans (World.drewN_drewN _ _ _) (congrArg (World.drewN _) (Nat.add_assoc _ _ _))⟩))))
    go_meet
    case rel => exact ⟨_, (true), (by first | rfl | (simp; done) | (simp [*]; done)), H', ⟨by first | omega | exact Nat.le_refl _⟩, ⟨by (with_reducible repeat (first | apply Kd.R_alloc | apply Kd.R_drewN | apply Kd.R_drew)); exact HO147.out⟩, ⟨by repeat (first | (with_reducible first | exact HB.out | apply below_alloc | apply pw_below_drewN | apply below_drew1) | exact HB.out)⟩⟩
  ·
   replace c9 := Bool.eq_false_iff.mpr c9
   subst c9
   have H1 : (spec_ShareOut.j0 k a0 l1 y145 t148 true) = some (r1, r2) := by rw [if_neg (show ¬ (false = true) by decide)] at H; exact H
   clear H
   have H := H1
   clear H1
   have H' := Aside0.mk H
   clear H
   go_wp2_with (first | (go_at_call 17; (with_reducible refine (spec_ClaimsOk.calls k _ _ l1 false _ ?side1 ?side2 A8.out).mono ?_); (case side1 => repeat (first | exact (Kd.C_below HR1.out HB.out) | (with_reducible refine Kd.C_alloc ?_ _) | (with_reducible refine Kd.C_drewN ?_ _) | (with_reducible refine Kd.C_drew ?_))); (case side2 => exact HC1.out); rintro e w14 ⟨rfl, hb⟩; have n0_ := Aside0.mk (Kd.R_below (by (with_reducible repeat (first | apply Kd.R_alloc | apply Kd.R_drewN | apply Kd.R_drew)); exact HO147.out) hb); have n1_ := Aside0.mk (below_step (by repeat (first | (with_reducible first | exact HB.out | apply below_alloc | apply pw_below_drewN | apply below_drew1) | exact HB.out)) hb); clear HO147; clear HB; have HO147 := n0_; have HB := n1_; clear n0_ n1_; (try clear hb); (try clear hb2); (try clear hk); (try clear hi)))
   repeat (go_quiet (first | (go_at_call 17; (with_reducible refine (spec_ClaimsOk.calls k _ _ l1 false _ ?side1 ?side2 A8.out).mono ?_); (case side1 => repeat (first | exact (Kd.C_below HR1.out HB.out) | (with_reducible refine Kd.C_alloc ?_ _) | (with_reducible refine Kd.C_drewN ?_ _) | (with_reducible refine Kd.C_drew ?_))); (case side2 => exact HC1.out); rintro e w14 ⟨rfl, hb⟩; have n0_ := Aside0.mk (Kd.R_below (by (with_reducible repeat (first | apply Kd.R_alloc | apply Kd.R_drewN | apply Kd.R_drew)); exact HO147.out) hb); have n1_ := Aside0.mk (below_step (by repeat (first | (with_reducible first | exact HB.out | apply below_alloc | apply pw_below_drewN | apply below_drew1) | exact HB.out)) hb); clear HO147; clear HB; have HO147 := n0_; have HB := n1_; clear n0_ n1_; (try clear hb); (try clear hb2); (try clear hk); (try clear hi))); try go_wp2_with (first | (go_at_call 17; (with_reducible refine (spec_ClaimsOk.calls k _ _ l1 false _ ?side1 ?side2 A8.out).mono ?_); (case side1 => repeat (first | exact (Kd.C_below HR1.out HB.out) | (with_reducible refine Kd.C_alloc ?_ _) | (with_reducible refine Kd.C_drewN ?_ _) | (with_reducible refine Kd.C_drew ?_))); (case side2 => exact HC1.out); rintro e w14 ⟨rfl, hb⟩; have n0_ := Aside0.mk (Kd.R_below (by (with_reducible repeat (first | apply Kd.R_alloc | apply Kd.R_drewN | apply Kd.R_drew)); exact HO147.out) hb); have n1_ := Aside0.mk (below_step (by repeat (first | (with_reducible first | exact HB.out | apply below_alloc | apply pw_below_drewN | apply below_drew1) | exact HB.out)) hb); clear HO147; clear HB; have HO147 := n0_; have HB := n1_; clear n0_ n1_; (try clear hb); (try clear hb2); (try clear hk); (try clear hi))))
   go_meet
   case rel => exact ⟨_, (true), (by first | rfl | (simp; done) | (simp [*]; done)), H', ⟨by first | omega | exact Nat.le_refl _⟩, ⟨by (with_reducible repeat (first | apply Kd.R_alloc | apply Kd.R_drewN | apply Kd.R_drew)); exact HO147.out⟩, ⟨by repeat (first | (with_reducible first | exact HB.out | apply below_alloc | apply pw_below_drewN | apply below_drew1) | exact HB.out)⟩⟩
 case rest =>
  clear HC4
  try clear c1
  try clear p2
  try clear c3
  try clear c9
  try clear c11
  obtain ⟨kq, x31_3, rfl, HA, HJ3, HO_6, HB⟩ := hcut
  cases kq with
  | zero => exact absurd HA.out (by simp [spec_ShareOut.j0])
  | succ kj3 =>
   have H := HA.out
   clear HA
   simp only [spec_ShareOut.j0] at H
   by_cases c15 : x31_3 = true
   ·
    subst c15
    have H1 : (some (([] : List Int), false)) = some (r1, r2) := by rw [if_pos rfl] at H; exact H
    clear H
    have H := H1
    clear H1
    simp only [Option.some.injEq, Prod.mk.injEq] at H
    obtain ⟨rfl, rfl⟩ := H
    go_wp2
    repeat (go_quiet (fail); try go_wp2)
    go_ret2
    exact ⟨_, by first | rfl | (simp [errW_none, errW_some] <;> rfl) | (simp [*, errW_none, errW_some] <;> rfl), by first | exact Kd.R_nil _ _ _ _ _ | exact Kd.N_nil _ _ _ _ _ | exact Kd.V_nil _ _ _ _ _ | exact Kd.Q_nil _ _ _ _ _ | exact Kd.S_nil _ _ _ _ _, by repeat (first | (with_reducible first | exact HB.out | apply below_alloc | apply pw_below_drewN | apply below_drew1) | exact HB.out)⟩
   ·
    replace c15 := Bool.eq_false_iff.mpr c15
    subst c15
    have H1 : (spec_ShareOut.l0 kj3 a0 l1 y145 t148 0) = some (r1, r2) := by rw [if_neg (show ¬ (false = true) by decide)] at H; exact H
    clear H
    have H := H1
    clear H1
    have H' := Aside0.mk H
    clear H
    go_wp2
    repeat (go_quiet (fail); try go_wp2)
    go_loopg [6, 9] kj3 (fun kq v6 v9 w' => ∃ (x6_2 : List Int) (x9_2 : Int), v9 = .int .i64 x9_2 ∧ Aside0 (spec_ShareOut.l0 kq a0 l1 x6_2 t148 x9_2 = some (r1, r2)) ∧ Aside0 (kq ≤ kj3) ∧ Aside0 (Kd.R (Kd.int .i64) 3 w' w.heap.size (fun _ => True) v6 x6_2) ∧ Aside0 (Below w.heap.size w w'))
    case atStart => exact ⟨(y145), (0), (by first | rfl | (simp; done) | (simp [*]; done)), H', ⟨Nat.le_refl _⟩, ⟨by (with_reducible repeat (first | apply Kd.R_alloc | apply Kd.R_drewN | apply Kd.R_drew)); exact HO_6.out⟩, ⟨by repeat (first | (with_reducible first | exact HB.out | apply below_alloc | apply pw_below_drewN | apply below_drew1) | exact HB.out)⟩⟩
    case round =>
     clear H'
     try clear c1
     try clear p2
     try clear c3
     try clear c9
     try clear c11
     try clear c15
     try clear p2
     obtain ⟨x6_2, x9_2, rfl, HA, HK2, HO_6, HB⟩ := hrel
     cases gk with
     | zero => exact absurd HA.out (by simp [spec_ShareOut.l0])
     | succ k2 =>
      have H := HA.out
      clear HA
      simp only [spec_ShareOut.l0] at H
      by_cases c16 : x9_2 < (l1.length : Int)
      ·
       rw [if_pos c16] at H
       have c16b0 : decide (x9_2 < (l1.length : Int)) = true := decide_eq_true c16
       clear c16
       by_cases c17 : 0 ≤ x9_2
       ·
        rw [if_pos c17] at H
        have c17b0 : decide (0 ≤ x9_2) = true := decide_eq_true c17
        clear c17
        by_cases c18 : x6_2.length < 17592186044416
        ·
         rw [if_pos c18] at H
         have LMc18 := Aside0.mk c18
         clear c18
         obtain ⟨y153, hy153⟩ : ∃ y_ : List Int, y_ = (x6_2 ++ [(rd_T43 l1 x9_2).f2]) := ⟨_, rfl⟩
         replace H : (spec_ShareOut.l0 k2 a0 l1 y153 t148 (wrap64 (x9_2 + 1))) = some (r1, r2) := by first | (rw [hy153]; with_reducible exact H) | (have H2_ := (Option.bind_some _ _).symm.trans H; rw [hy153]; with_reducible exact H2_) | (have H2_ := (Option.bind_some _ _).symm.trans H; with_reducible exact H2_) | with_reducible exact H | (rw [hy153]; exact H) | exact H
         have Ny153 := Aside0.mk hy153
         clear hy153
         have H' := Aside0.mk H
         clear H
         have p152 : 0 ≤ (x9_2 : Int) := of_decide_eq_true (by first | (with_reducible assumption) | assumption)
         have q152 : x9_2 < (l1.length : Int) := of_decide_eq_true (by first | (with_reducible assumption) | assumption)
         obtain ⟨ad152, e152, hx152_0, hx152_1, hx152_2, hx152_3⟩ := at_T43 HR1.out x9_2 p152 q152
         cases e152
         replace hx152_0 := (HB.out.cell (World.block_lt_of_cell? w _ hx152_0)).trans hx152_0
         replace hx152_1 := (HB.out.cell (World.block_lt_of_cell? w _ hx152_1)).trans hx152_1
         replace hx152_2 := (HB.out.cell (World.block_lt_of_cell? w _ hx152_2)).trans hx152_2
         replace hx152_3 := (HB.out.cell (World.block_lt_of_cell? w _ hx152_3)).trans hx152_3
         replace p152 := eq_true p152
         replace q152 := eq_true q152
         go_wp2_with (first | ((with_reducible refine gate_builtin (b := .append) (xs := #[.tmp 38, .tmp 44]) rfl ?_); at_builtin; refine Kd.R_append (Kd.int .i64) (w0 := w) w.heap.size rfl (.tmp 38) (.tmp 44) 22 3 (.int .i64 0) 8 rfl Try.underlying22 info3 rfl (by decide) (by omega) u6 x6_2 ((rd_T43 l1 x9_2).f2) [.int .i64 ((rd_T43 l1 x9_2).f2)] (fun _ => True) (fun _ => False) rfl rfl ?aP (fun _ hk => hk.elim) ?aF ?aO ?aB ?aS ?aL ?_; (case aP => exact rfl); (case aB => exact (by repeat (first | (with_reducible first | exact HB.out | apply below_alloc | apply pw_below_drewN | apply below_drew1) | exact HB.out))); (case aF => exact (fun _ _ => trivial)); (case aO => exact (by (with_reducible repeat (first | apply Kd.R_alloc | apply Kd.R_drewN | apply Kd.R_drew)); exact HO_6.out)); (case aS => exact (below_size (by repeat (first | (with_reducible first | exact HB.out | apply below_alloc | apply pw_below_drewN | apply below_drew1) | exact HB.out)))); (case aL => have := LMc18.out; omega); intro v154 w19 ho hb hg hat; rw [← Ny153.out] at ho; have n0_ := Aside0.mk (hb); have n1_ := Aside0.mk (ho); clear HB; clear HO_6; have HB := n0_; have HO155 := n1_; clear n0_ n1_; clear ho hb hg hat))
         repeat (go_quiet (first | ((with_reducible refine gate_builtin (b := .append) (xs := #[.tmp 38, .tmp 44]) rfl ?_); at_builtin; refine Kd.R_append (Kd.int .i64) (w0 := w) w.heap.size rfl (.tmp 38) (.tmp 44) 22 3 (.int .i64 0) 8 rfl Try.underlying22 info3 rfl (by decide) (by omega) u6 x6_2 ((rd_T43 l1 x9_2).f2) [.int .i64 ((rd_T43 l1 x9_2).f2)] (fun _ => True) (fun _ => False) rfl rfl ?aP (fun _ hk => hk.elim) ?aF ?aO ?aB ?aS ?aL ?_; (case aP => exact rfl); (case aB => exact (by repeat (first | (with_reducible first | exact HB.out | apply below_alloc | apply pw_below_drewN | apply below_drew1) | exact HB.out))); (case aF => exact (fun _ _ => trivial)); (case aO => exact (by (with_reducible repeat (first | apply Kd.R_alloc | apply Kd.R_drewN | apply Kd.R_drew)); exact HO_6.out)); (case aS => exact (below_size (by repeat (first | (with_reducible first | exact HB.out | apply below_alloc | apply pw_below_drewN | apply below_drew1) | exact HB.out)))); (case aL => have := LMc18.out; omega); intro v154 w19 ho hb hg hat; rw [← Ny153.out] at ho; have n0_ := Aside0.mk (hb); have n1_ := Aside0.mk (ho); clear HB; clear HO_6; have HB := n0_; have HO155 := n1_; clear n0_ n1_; clear ho hb hg hat)); try go_wp2_with (first | ((with_reducible refine gate_builtin (b := .append) (xs := #[.tmp 38, .tmp 44]) rfl ?_); at_builtin; refine Kd.R_append (Kd.int .i64) (w0 := w) w.heap.size rfl (.tmp 38) (.tmp 44) 22 3 (.int .i64 0) 8 rfl Try.underlying22 info3 rfl (by decide) (by omega) u6 x6_2 ((rd_T43 l1 x9_2).f2) [.int .i64 ((rd_T43 l1 x9_2).f2)] (fun _ => True) (fun _ => False) rfl rfl ?aP (fun _ hk => hk.elim) ?aF ?aO ?aB ?aS ?aL ?_; (case aP => exact rfl); (case aB => exact (by repeat (first | (with_reducible first | exact HB.out | apply below_alloc | apply pw_below_drewN | apply below_drew1) | exact HB.out))); (case aF => exact (fun _ _ => trivial)); (case aO => exact (by (with_reducible repeat (first | apply Kd.R_alloc | apply Kd.R_drewN | apply Kd.R_drew)); exact HO_6.out)); (case aS => exact (below_size (by repeat (first | (with_reducible first | exact HB.out | apply below_alloc | apply pw_below_drewN | apply below_drew1) | exact HB.out)))); (case aL => have := LMc18.out; omega); intro v154 w19 ho hb hg hat; rw [← Ny153.out] at ho; have n0_ := Aside0.mk (hb); have n1_ := Aside0.mk (ho); clear HB; clear HO_6; have HB := n0_; have HO155 := n1_; clear n0_ n1_; clear ho hb hg hat)))
         go_roundg k2
         case measure => have := HJ3.out; have := HK2.out; omega
         case rel => exact ⟨(y153), (wrap64 (x9_2 + 1)), (by first | rfl | (simp; done) | (simp [*]; done)), H', ⟨by have := HJ3.out; have := HK2.out; omega⟩, ⟨by (with_reducible repeat (first | apply Kd.R_alloc | apply Kd.R_drewN | apply Kd.R_drew)); exact HO155.out⟩, ⟨by repeat (first | (with_reducible first | exact HB.out | apply below_alloc | apply pw_below_drewN | apply below_drew1) | exact HB.out)⟩⟩
        ·
         rw [if_neg c18] at H
         exact absurd H (by simp)
       ·
        rw [if_neg c17] at H
        exact absurd H (by simp)
      ·
       rw [if_neg c16] at H
       have c16b0 : decide (x9_2 < (l1.length : Int)) = false := decide_eq_false c16
       clear c16
       have H' := Aside0.mk H
       clear H
       go_wp2
       repeat (go_quiet (fail); try go_wp2)
       go_loopg [10] k2 (fun kq v10 w' => ∃ (x6_3 : List Int) (x10_3 : Int), v10 = .int .i64 x10_3 ∧ Aside0 (spec_ShareOut.l1 kq l1 x6_3 x10_3 = some (r1, r2)) ∧ Aside0 (kq ≤ k2) ∧ Aside0 (Kd.R (Kd.int .i64) 3 w' w.heap.size (fun _ => True) u6 x6_3) ∧ Aside0 (Below w.heap.size w w'))
       case atStart => exact ⟨(x6_2), (wrap64 (a0 - t148)), (by first | rfl | (simp; done) | (simp [*]; done)), H', ⟨Nat.le_refl _⟩, ⟨by (with_reducible repeat (first | apply Kd.R_alloc | apply Kd.R_drewN | apply Kd.R_drew)); exact HO_6.out⟩, ⟨by repeat (first | (with_reducible first | exact HB.out | apply below_alloc | apply pw_below_drewN | apply below_drew1) | exact HB.out)⟩⟩
       case round =>
        clear H'
        try clear c1
        try clear p1
        try clear q1
        try clear hx1
        try clear p2
        try clear c3
        try clear p6
        try clear c9
        try clear c11
        try clear c15
        try clear p15
        try clear q15
        try clear hx15
        try clear c16
        try clear c16b0
        try clear c17
        try clear c17b0
        try clear c18
        try clear hx152_0
        try clear hx152_1
        try clear hx152_2
        try clear hx152_3
        try clear p152
        try clear p2
        try clear q152
        obtain ⟨x6_3, x10_3, rfl, HA, HK3, HO_6, HB⟩ := hrel
        cases gk with
        | zero => exact absurd HA.out (by simp [spec_ShareOut.l1])
        | succ k3 =>
         have H := HA.out
         clear HA
         simp only [spec_ShareOut.l1] at H
         by_cases c20 : x10_3 > 0
         ·
          rw [if_pos c20] at H
          have c20b0 : decide (0 < x10_3) = true := decide_eq_true c20
          clear c20
          have H' := Aside0.mk H
          clear H
          go_wp2
          repeat (go_quiet (fail); try go_wp2)
          go_loopg [11, 12] k3 (fun kq v11 v12 w' => ∃ (x11_4 : Int) (x12_4 : Int), v11 = .int .i64 x11_4 ∧ v12 = .int .i64 x12_4 ∧ Aside0 (spec_ShareOut.l2 kq l1 x6_3 x10_3 x11_4 x12_4 = some (r1, r2)) ∧ Aside0 (kq ≤ k3) ∧ Aside0 (Kd.R (Kd.int .i64) 3 w' w.heap.size (fun _ => True) u6 x6_3) ∧ Aside0 (Below w.heap.size w w'))
          case atStart => exact ⟨((-1)), (0), (by first | rfl | (simp; done) | (simp [*]; done)), (by first | rfl | (simp; done) | (simp [*]; done)), H', ⟨Nat.le_refl _⟩, ⟨by (with_reducible repeat (first | apply Kd.R_alloc | apply Kd.R_drewN | apply Kd.R_drew)); exact HO_6.out⟩, ⟨by repeat (first | (with_reducible first | exact HB.out | apply below_alloc | apply pw_below_drewN | apply below_drew1) | exact HB.out)⟩⟩
          case round =>
           clear H'
           try clear c1
           try clear p1
           try clear q1
           try clear hx1
           try clear c2
           try clear p2
           try clear c3
           try clear p6
           try clear c9
           try clear c11
           try clear c15
           try clear p15
           try clear q15
           try clear hx15
           try clear c16
           try clear c16b0
           try clear c17
           try clear c17b0
           try clear c18
           try clear c20
           try clear c20b0
           try clear hx152_0
           try clear hx152_1
           try clear hx152_2
           try clear hx152_3
           try clear p1
           try clear p15
           try clear p152
           try clear p2
           try clear p6
           try clear q1
           try clear q15
           try clear q152
           obtain ⟨x11_4, x12_4, rfl, rfl, HA, HK4, HO_6, HB⟩ := hrel
           cases gk with
           | zero => exact absurd HA.out (by simp [spec_ShareOut.l2])
           | succ k4 =>
            have H := HA.out
            clear HA
            simp only [spec_ShareOut.l2] at H
            by_cases c21 : x12_4 < (l1.length : Int)
            ·
             rw [if_pos c21] at H
             have c21b0 : decide (x12_4 < (l1.length : Int)) = true := decide_eq_true c21
             clear c21
             by_cases c22 : 0 ≤ x12_4
             ·
              rw [if_pos c22] at H
              have c22b0 : decide (0 ≤ x12_4) = true := decide_eq_true c22
              clear c22
              by_cases c23 : x12_4 < (x6_3.length : Int)
              ·
               rw [if_pos c23] at H
               have c23b0 : decide (x12_4 < (x6_3.length : Int)) = true := decide_eq_true c23
               clear c23
               by_cases c24 : (rd x6_3 x12_4) < ((rd_T43 l1 x12_4).f1)
               ·
                rw [if_pos c24] at H
                have c24b0 : decide ((rd x6_3 x12_4) < ((rd_T43 l1 x12_4).f1)) = true := decide_eq_true c24
                clear c24
                by_cases c25 : x11_4 < 0
                ·
                 rw [if_pos c25] at H
                 have c25b0 : decide (x11_4 < 0) = true := decide_eq_true c25
                 clear c25
                 have H' := Aside0.mk H
                 clear H
                 obtain ⟨Ao26, co26, eo26⟩ := Kd.R_slice HO_6.out
                 subst eo26
                 have p156 : 0 ≤ (x12_4 : Int) := of_decide_eq_true (by first | (with_reducible assumption) | assumption)
                 have q156 : x12_4 < (x6_3.length : Int) := of_decide_eq_true (by first | (with_reducible assumption) | assumption)
                 obtain ⟨ad156, e156, hx156_0⟩ := Kd.at_int (Kd.R_reads' HO_6.out).2.2 x12_4 p156 q156
                 cases e156
                 replace p156 := eq_true p156
                 replace q156 := eq_true q156
                 have p157 : 0 ≤ (x12_4 : Int) := of_decide_eq_true (by first | (with_reducible assumption) | assumption)
                 have q157 : x12_4 < (l1.length : Int) := of_decide_eq_true (by first | (with_reducible assumption) | assumption)
                 obtain ⟨ad157, e157, hx157_0, hx157_1, hx157_2, hx157_3⟩ := at_T43 HR1.out x12_4 p157 q157
                 cases e157
                 replace hx157_0 := (HB.out.cell (World.block_lt_of_cell? w _ hx157_0)).trans hx157_0
                 replace hx157_1 := (HB.out.cell (World.block_lt_of_cell? w _ hx157_1)).trans hx157_1
                 replace hx157_2 := (HB.out.cell (World.block_lt_of_cell? w _ hx157_2)).trans hx157_2
                 replace hx157_3 := (HB.out.cell (World.block_lt_of_cell? w _ hx157_3)).trans hx157_3
                 replace p157 := eq_true p157
                 replace q157 := eq_true q157
                 go_wp2
                 repeat (go_quiet (fail); try go_wp2)
                 go_roundg k4
                 case measure => have := HJ3.out; have := HK2.out; have := HK3.out; have := HK4.out; omega
                 case rel => exact ⟨(x12_4), (wrap64 (x12_4 + 1)), (by first | rfl | (simp; done) | (simp [*]; done)), (by first | rfl | (simp; done) | (simp [*]; done)), H', ⟨by have := HJ3.out; have := HK2.out; have := HK3.out; have := HK4.out; omega⟩, ⟨by (with_reducible repeat (first | apply Kd.R_alloc | apply Kd.R_drewN | apply Kd.R_drew)); exact HO_6.out⟩, ⟨by repeat (first | (with_reducible first | exact HB.out | apply below_alloc | apply pw_below_drewN | apply below_drew1) | exact HB.out)⟩⟩
                ·
                 rw [if_neg c25] at H
                 have c25b0 : decide (x11_4 < 0) = false := decide_eq_false c25
                 clear c25
                 by_cases c27 : 0 ≤ x11_4
                 ·
                  rw [if_pos c27] at H
                  have c27b0 : decide (0 ≤ x11_4) = true := decide_eq_true c27
                  clear c27
                  by_cases c28 : x11_4 < (l1.length : Int)
                  ·
                   rw [if_pos c28] at H
                   have c28b0 : decide (x11_4 < (l1.length : Int)) = true := decide_eq_true c28
                   clear c28
                   by_cases c29 : x11_4 < (x6_3.length : Int)
                   ·
                    rw [if_pos c29] at H
                    have c29b0 : decide (x11_4 < (x6_3.length : Int)) = true := decide_eq_true c29
                    clear c29
                    by_cases c30 : (wrap64 ((rd x6_3 x12_4) * ((rd_T43 l1 x11_4).f3))) < (wrap64 ((rd x6_3 x11_4) * ((rd_T43 l1 x12_4).f3)))
                    ·
                     rw [if_pos c30] at H
                     have c30b0 : decide ((wrap64 ((rd x6_3 x12_4) * ((rd_T43 l1 x11_4).f3))) < (wrap64 ((rd x6_3 x11_4) * ((rd_T43 l1 x12_4).f3)))) = true := decide_eq_true c30
                     clear c30
                     have H' := Aside0.mk H
                     clear H
                     obtain ⟨Ao31, co31, eo31⟩ := Kd.R_slice HO_6.out
                     subst eo31
                     have p156 : 0 ≤ (x12_4 : Int) := of_decide_eq_true (by first | (with_reducible assumption) | assumption)
                     have q156 : x12_4 < (x6_3.length : Int) := of_decide_eq_true (by first | (with_reducible assumption) | assumption)
                     obtain ⟨ad156, e156, hx156_0⟩ := Kd.at_int (Kd.R_reads' HO_6.out).2.2 x12_4 p156 q156
                     cases e156
                     replace p156 := eq_true p156
                     replace q156 := eq_true q156
                     have p157 : 0 ≤ (x12_4 : Int) := of_decide_eq_true (by first | (with_reducible assumption) | assumption)
                     have q157 : x12_4 < (l1.length : Int) := of_decide_eq_true (by first | (with_reducible assumption) | assumption)
                     obtain ⟨ad157, e157, hx157_0, hx157_1, hx157_2, hx157_3⟩ := at_T43 HR1.out x12_4 p157 q157
                     cases e157
                     replace hx157_0 := (HB.out.cell (World.block_lt_of_cell? w _ hx157_0)).trans hx157_0
                     replace hx157_1 := (HB.out.cell (World.block_lt_of_cell? w _ hx157_1)).trans hx157_1
                     replace hx157_2 := (HB.out.cell (World.block_lt_of_cell? w _ hx157_2)).trans hx157_2
                     replace hx157_3 := (HB.out.cell (World.block_lt_of_cell? w _ hx157_3)).trans hx157_3
                     replace p157 := eq_true p157
                     replace q157 := eq_true q157
                     have p158 : 0 ≤ (x12_4 : Int) := of_decide_eq_true (by first | (with_reducible assumption) | assumption)
                     have q158 : x12_4 < (x6_3.length : Int) := of_decide_eq_true (by first | (with_reducible assumption) | assumption)
                     obtain ⟨ad158, e158, hx158_0⟩ := Kd.at_int (Kd.R_reads' HO_6.out).2.2 x12_4 p158 q158
                     obtain rfl : ad156 = ad158 := (by injection e158)
                     replace p158 := eq_true p158
                     replace q158 := eq_true q158
                     have p159 : 0 ≤ (x11_4 : Int) := of_decide_eq_true (by first | (with_reducible assumption) | assumption)
                     have q159 : x11_4 < (l1.length : Int) := of_decide_eq_true (by first | (with_reducible assumption) | assumption)
                     obtain ⟨ad159, e159, hx159_0, hx159_1, hx159_2, hx159_3⟩ := at_T43 HR1.out x11_4 p159 q159
                     obtain rfl : ad157 = ad159 := (by injection e159)
                     replace hx159_0 := (HB.out.cell (World.block_lt_of_cell? w _ hx159_0)).trans hx159_0
                     replace hx159_1 := (HB.out.cell (World.block_lt_of_cell? w _ hx159_1)).trans hx159_1
                     replace hx159_2 := (HB.out.cell (World.block_lt_of_cell? w _ hx159_2)).trans hx159_2
                     replace hx159_3 := (HB.out.cell (World.block_lt_of_cell? w _ hx159_3)).trans hx159_3
                     replace p159 := eq_true p159
                     replace q159 := eq_true q159
                     have p160 : 0 ≤ (x11_4 : Int) := of_decide_eq_true (by first | (with_reducible assumption) | assumption)
                     have q160 : x11_4 < (x6_3.length : Int) := of_decide_eq_true (by first | (with_reducible assumption) | assumption)
                     obtain ⟨ad160, e160, hx160_0⟩ := Kd.at_int (Kd.R_reads' HO_6.out).2.2 x11_4 p160 q160
                     obtain rfl : ad156 = ad160 := (by injection e160)
                     replace p160 := eq_true p160
                     replace q160 := eq_true q160
                     have p161 : 0 ≤ (x12_4 : Int) := of_decide_eq_true (by first | (with_reducible assumption) | assumption)
                     have q161 : x12_4 < (l1.length : Int) := of_decide_eq_true (by first | (with_reducible assumption) | assumption)
                     obtain ⟨ad161, e161, hx161_0, hx161_1, hx161_2, hx161_3⟩ := at_T43 HR1.out x12_4 p161 q161
                     obtain rfl : ad157 = ad161 := (by injection e161)
                     replace hx161_0 := (HB.out.cell (World.block_lt_of_cell? w _ hx161_0)).trans hx161_0
                     replace hx161_1 := (HB.out.cell (World.block_lt_of_cell? w _ hx161_1)).trans hx161_1
                     replace hx161_2 := (HB.out.cell (World.block_lt_of_cell? w _ hx161_2)).trans hx161_2
                     replace hx161_3 := (HB.out.cell (World.block_lt_of_cell? w _ hx161_3)).trans hx161_3
                     replace p161 := eq_true p161
                     replace q161 := eq_true q161
                     go_wp2
                     repeat (go_quiet (fail); try go_wp2)
                     go_roundg k4
                     case measure => have := HJ3.out; have := HK2.out; have := HK3.out; have := HK4.out; omega
                     case rel => exact ⟨(x12_4), (wrap64 (x12_4 + 1)), (by first | rfl | (simp; done) | (simp [*]; done)), (by first | rfl | (simp; done) | (simp [*]; done)), H', ⟨by have := HJ3.out; have := HK2.out; have := HK3.out; have := HK4.out; omega⟩, ⟨by (with_reducible repeat (first | apply Kd.R_alloc | apply Kd.R_drewN | apply Kd.R_drew)); exact HO_6.out⟩, ⟨by repeat (first | (with_reducible first | exact HB.out | apply below_alloc | apply pw_below_drewN | apply below_drew1) | exact HB.out)⟩⟩
                    ·
                     rw [if_neg c30] at H
                     have c30b0 : decide ((wrap64 ((rd x6_3 x12_4) * ((rd_T43 l1 x11_4).f3))) < (wrap64 ((rd x6_3 x11_4) * ((rd_T43 l1 x12_4).f3)))) = false := decide_eq_false c30
                     clear c30
                     have H' := Aside0.mk H
                     clear H
                     obtain ⟨Ao32, co32, eo32⟩ := Kd.R_slice HO_6.out
                     subst eo32
                     have p156 : 0 ≤ (x12_4 : Int) := of_decide_eq_true (by first | (with_reducible assumption) | assumption)
                     have q156 : x12_4 < (x6_3.length : Int) := of_decide_eq_true (by first | (with_reducible assumption) | assumption)
                     obtain ⟨ad156, e156, hx156_0⟩ := Kd.at_int (Kd.R_reads' HO_6.out).2.2 x12_4 p156 q156
                     cases e156
                     replace p156 := eq_true p156
                     replace q156 := eq_true q156
                     have p157 : 0 ≤ (x12_4 : Int) := of_decide_eq_true (by first | (with_reducible assumption) | assumption)
                     have q157 : x12_4 < (l1.length : Int) := of_decide_eq_true (by first | (with_reducible assumption) | assumption)
                     obtain ⟨ad157, e157, hx157_0, hx157_1, hx157_2, hx157_3⟩ := at_T43 HR1.out x12_4 p157 q157
                     cases e157
                     replace hx157_0 := (HB.out.cell (World.block_lt_of_cell? w _ hx157_0)).trans hx157_0
                     replace hx157_1 := (HB.out.cell (World.block_lt_of_cell? w _ hx157_1)).trans hx157_1
                     replace hx157_2 := (HB.out.cell (World.block_lt_of_cell? w _ hx157_2)).trans hx157_2
                     replace hx157_3 := (HB.out.cell (World.block_lt_of_cell? w _ hx157_3)).trans hx157_3
                     replace p157 := eq_true p157
                     replace q157 := eq_true q157
                     have p158 : 0 ≤ (x12_4 : Int) := of_decide_eq_true (by first | (with_reducible assumption) | assumption)
                     have q158 : x12_4 < (x6_3.length : Int) := of_decide_eq_true (by first | (with_reducible assumption) | assumption)
                     obtain ⟨ad158, e158, hx158_0⟩ := Kd.at_int (Kd.R_reads' HO_6.out).2.2 x12_4 p158 q158
                     obtain rfl : ad156 = ad158 := (by injection e158)
                     replace p158 := eq_true p158
                     replace q158 := eq_true q158
                     have p159 : 0 ≤ (x11_4 : Int) := of_decide_eq_true (by first | (with_reducible assumption) | assumption)
                     have q159 : x11_4 < (l1.length : Int) := of_decide_eq_true (by first | (with_reducible assumption) | assumption)
                     obtain ⟨ad159, e159, hx159_0, hx159_1, hx159_2, hx159_3⟩ := at_T43 HR1.out x11_4 p159 q159
                     obtain rfl : ad157 = ad159 := (by injection e159)
                     replace hx159_0 := (HB.out.cell (World.block_lt_of_cell? w _ hx159_0)).trans hx159_0
                     replace hx159_1 := (HB.out.cell (World.block_lt_of_cell? w _ hx159_1)).trans hx159_1
                     replace hx159_2 := (HB.out.cell (World.block_lt_of_cell? w _ hx159_2)).trans hx159_2
                     replace hx159_3 := (HB.out.cell (World.block_lt_of_cell? w _ hx159_3)).trans hx159_3
                     replace p159 := eq_true p159
                     replace q159 := eq_true q159
                     have p160 : 0 ≤ (x11_4 : Int) := of_decide_eq_true (by first | (with_reducible assumption) | assumption)
                     have q160 : x11_4 < (x6_3.length : Int) := of_decide_eq_true (by first | (with_reducible assumption) | assumption)
                     obtain ⟨ad160, e160, hx160_0⟩ := Kd.at_int (Kd.R_reads' HO_6.out).2.2 x11_4 p160 q160
                     obtain rfl : ad156 = ad160 := (by injection e160)
                     replace p160 := eq_true p160
                     replace q160 := eq_true q160
                     have p161 : 0 ≤ (x12_4 : Int) := of_decide_eq_true (by first | (with_reducible assumption) | assumption)
                     have q161 : x12_4 < (l1.length : Int) := of_decide_eq_true (by first | (with_reducible assumption) | assumption)
                     obtain ⟨ad161, e161, hx161_0, hx161_1, hx161_2, hx161_3⟩ := at_T43 HR1.out x12_4 p161 q161
                     obtain rfl : ad157 = ad161 := (by injection e161)
                     replace hx161_0 := (HB.out.cell (World.block_lt_of_cell? w _ hx161_0)).trans hx161_0
                     replace hx161_1 := (HB.out.cell (World.block_lt_of_cell? w _ hx161_1)).trans hx161_1
                     replace hx161_2 := (HB.out.cell (World.block_lt_of_cell? w _ hx161_2)).trans hx161_2
                     replace hx161_3 := (HB.out.cell (World.block_lt_of_cell? w _ hx161_3)).trans hx161_3
                     replace p161 := eq_true p161
                     replace q161 := eq_true q161
                     go_wp2
                     repeat (go_quiet (fail); try go_wp2)
                     go_roundg k4
                     case measure => have := HJ3.out; have := HK2.out; have := HK3.out; have := HK4.out; omega
                     case rel => exact ⟨(x11_4), (wrap64 (x12_4 + 1)), (by first | rfl | (simp; done) | (simp [*]; done)), (by first | rfl | (simp; done) | (simp [*]; done)), H', ⟨by have := HJ3.out; have := HK2.out; have := HK3.out; have := HK4.out; omega⟩, ⟨by (with_reducible repeat (first | apply Kd.R_alloc | apply Kd.R_drewN | apply Kd.R_drew)); exact HO_6.out⟩, ⟨by repeat (first | (with_reducible first | exact HB.out | apply below_alloc | apply pw_below_drewN | apply below_drew1) | exact HB.out)⟩⟩
                   ·
                    rw [if_neg c29] at H
                    exact absurd H (by simp)
                  ·
                   rw [if_neg c28] at H
                   exact absurd H (by simp)
                 ·
                  rw [if_neg c27] at H
                  exact absurd H (by simp)
               ·
                rw [if_neg c24] at H
                have c24b0 : decide ((rd x6_3 x12_4) < ((rd_T43 l1 x12_4).f1)) = false := decide_eq_false c24
                clear c24
                have H' := Aside0.mk H
                clear H
                obtain ⟨Ao33, co33, eo33⟩ := Kd.R_slice HO_6.out
                subst eo33
                have p156 : 0 ≤ (x12_4 : Int) := of_decide_eq_true (by first | (with_reducible assumption) | assumption)
                have q156 : x12_4 < (x6_3.length : Int) := of_decide_eq_true (by first | (with_reducible assumption) | assumption)
                obtain ⟨ad156, e156, hx156_0⟩ := Kd.at_int (Kd.R_reads' HO_6.out).2.2 x12_4 p156 q156
                cases e156
                replace p156 := eq_true p156
                replace q156 := eq_true q156
                have p157 : 0 ≤ (x12_4 : Int) := of_decide_eq_true (by first | (with_reducible assumption) | assumption)
                have q157 : x12_4 < (l1.length : Int) := of_decide_eq_true (by first | (with_reducible assumption) | assumption)
                obtain ⟨ad157, e157, hx157_0, hx157_1, hx157_2, hx157_3⟩ := at_T43 HR1.out x12_4 p157 q157
                cases e157
                replace hx157_0 := (HB.out.cell (World.block_lt_of_cell? w _ hx157_0)).trans hx157_0
                replace hx157_1 := (HB.out.cell (World.block_lt_of_cell? w _ hx157_1)).trans hx157_1
                replace hx157_2 := (HB.out.cell (World.block_lt_of_cell? w _ hx157_2)).trans hx157_2
                replace hx157_3 := (HB.out.cell (World.block_lt_of_cell? w _ hx157_3)).trans hx157_3
                replace p157 := eq_true p157
                replace q157 := eq_true q157
                go_wp2
                repeat (go_quiet (fail); try go_wp2)
                go_roundg k4
                case measure => have := HJ3.out; have := HK2.out; have := HK3.out; have := HK4.out; omega
                case rel => exact ⟨(x11_4), (wrap64 (x12_4 + 1)), (by first | rfl | (simp; done) | (simp [*]; done)), (by first | rfl | (simp; done) | (simp [*]; done)), H', ⟨by have := HJ3.out; have := HK2.out; have := HK3.out; have := HK4.out; omega⟩, ⟨by (with_reducible repeat (first | apply Kd.R_alloc | apply Kd.R_drewN | apply Kd.R_drew)); exact HO_6.out⟩, ⟨by repeat (first | (with_reducible first | exact HB.out | apply below_alloc | apply pw_below_drewN | apply below_drew1) | exact HB.out)⟩⟩
              ·
               rw [if_neg c23] at H
               exact absurd H (by simp)
             ·
              rw [if_neg c22] at H
              exact absurd H (by simp)
            ·
             rw [if_neg c21] at H
             have c21b0 : decide (x12_4 < (l1.length : Int)) = false := decide_eq_false c21
             clear c21
             by_cases c34 : x11_4 < 0
             ·
              rw [if_pos c34] at H
              have c34b0 : decide (x11_4 < 0) = true := decide_eq_true c34
              clear c34
              simp only [Option.some.injEq, Prod.mk.injEq] at H
              obtain ⟨rfl, rfl⟩ := H
              go_wp2
              repeat (go_quiet (fail); try go_wp2)
              go_ret2
              exact ⟨_, by first | rfl | (simp [errW_none, errW_some] <;> rfl) | (simp [*, errW_none, errW_some] <;> rfl), by (with_reducible repeat (first | apply Kd.R_alloc | apply Kd.R_drewN | apply Kd.R_drew)); exact HO_6.out, by repeat (first | (with_reducible first | exact HB.out | apply below_alloc | apply pw_below_drewN | apply below_drew1) | exact HB.out)⟩
             ·
              rw [if_neg c34] at H
              have c34b0 : decide (x11_4 < 0) = false := decide_eq_false c34
              clear c34
              by_cases c35 : 0 ≤ x11_4
              ·
               rw [if_pos c35] at H
               have c35b0 : decide (0 ≤ x11_4) = true := decide_eq_true c35
               clear c35
               by_cases c36 : x11_4 < (x6_3.length : Int)
               ·
                rw [if_pos c36] at H
                have c36b0 : decide (x11_4 < (x6_3.length : Int)) = true := decide_eq_true c36
                clear c36
                obtain ⟨y163, hy163⟩ : ∃ y_ : List Int, y_ = (x6_3.set (x11_4 : Int).toNat (wrap64 ((rd x6_3 x11_4) + 1))) := ⟨_, rfl⟩
                replace H : (spec_ShareOut.l1 k4 l1 y163 (wrap64 (x10_3 - 1))) = some (r1, r2) := by first | (rw [hy163]; with_reducible exact H) | (have H2_ := (Option.bind_some _ _).symm.trans H; rw [hy163]; with_reducible exact H2_) | (have H2_ := (Option.bind_some _ _).symm.trans H; with_reducible exact H2_) | with_reducible exact H | (rw [hy163]; exact H) | exact H
                have Ny163 := Aside0.mk hy163
                clear hy163
                have H' := Aside0.mk H
                clear H
                obtain ⟨Ao38, co38, eo38⟩ := Kd.R_slice HO_6.out
                subst eo38
                have p162 : 0 ≤ (x11_4 : Int) := of_decide_eq_true (by first | (with_reducible assumption) | assumption)
                have q162 : x11_4 < (x6_3.length : Int) := of_decide_eq_true (by first | (with_reducible assumption) | assumption)
                obtain ⟨ad162, e162, hx162_0⟩ := Kd.at_int (Kd.R_reads' HO_6.out).2.2 x11_4 p162 q162
                cases e162
                replace p162 := eq_true p162
                replace q162 := eq_true q162
                have p37 : 0 ≤ (x11_4 : Int) := of_decide_eq_true (by first | (with_reducible assumption) | assumption)
                have q37 : (x11_4 : Int) < ((x6_3.length : Int) : Int) := of_decide_eq_true (by first | (with_reducible assumption) | assumption)
                obtain ⟨go37, co37, eo37, gb37, gl37, cl37, HG37⟩ := Kd.R_form HO_6.out (by omega)
                (first | cases eo37 | (injection eo37 with ea_ en_ ec_; (first | subst ea_ | (injection ea_ with ea_; subst ea_)); subst ec_; clear en_))
                have GB37 := Aside0.mk gb37
                have GG37 := Aside0.mk HG37
                clear gb37 gl37 HG37
                (first | simp only [add_plain] at hx162_0 | skip)
                obtain ⟨hx37_0, hf37_0⟩ := Kd.R_celln 0 HO_6.out (x11_4 : Int) p37 q37
                replace p37 := eq_true p37
                replace q37 := eq_true q37
                have HP39 := Kd.R_putg HO_6.out (x11_4 : Int) (wrap64 ((rd x6_3 x11_4) + 1))
                go_wp2_with (first | ((with_reducible refine gate_store (t := 3) (p := 107) rfl ?_); (try (rw [drewN_self wr]; generalize hq_ : World.drewN wr _ = wr; have n0_ := Aside0.mk (Kd.R_at hq_ HO_6.out); have n1_ := Aside0.mk (below_at hq_ HB.out); clear hq_ HO_6 HB; have HO_6 := n0_; have HB := n1_; clear n0_ n1_; (try (have HP39 := Kd.R_putg HO_6.out (x11_4 : Int) (wrap64 ((rd x6_3 x11_4) + 1)))))); refine store_event (t := 3) (p := 107) (v := ?vo_w40) (w1 := (wr.setCell ⟨go37, (x11_4 : Int).toNat, none⟩ (.int .i64 (wrap64 ((rd x6_3 x11_4) + 1))))) ?hg ?ho ?hn ?hr ?_; (case ho => rfl); (case hg => rfl); (case hn => rfl); (case hr => first | (go_simp; done) | (go_simp; rfl)); intro w40 hw; have hg : wr.grownBy w40 (some go37) := (by rw [hw]; exact HP39.2); have hp_ : Kd.R (Kd.int .i64) 3 w40 w.heap.size (fun _ => True) (.slice (some ⟨go37, 0, none⟩) x6_3.length co38) y163 := (by rw [hw, Ny163.out]; exact HP39.1); clear HP39; have n0_ := Aside0.mk (hp_); have n1_ := Aside0.mk ((by rw [hw]; exact below_set (HB.out) GB37.out : Below w.heap.size w w40)); clear HO_6; clear HB; have HO_6 := n0_; have HB := n1_; clear n0_ n1_; clear hg hw hp_))
                repeat (go_quiet (first | ((with_reducible refine gate_store (t := 3) (p := 107) rfl ?_); (try (rw [drewN_self wr]; generalize hq_ : World.drewN wr _ = wr; have n0_ := Aside0.mk (Kd.R_at hq_ HO_6.out); have n1_ := Aside0.mk (below_at hq_ HB.out); clear hq_ HO_6 HB; have HO_6 := n0_; have HB := n1_; clear n0_ n1_; (try (have HP39 := Kd.R_putg HO_6.out (x11_4 : Int) (wrap64 ((rd x6_3 x11_4) + 1)))))); refine store_event (t := 3) (p := 107) (v := ?vo_w40) (w1 := (wr.setCell ⟨go37, (x11_4 : Int).toNat, none⟩ (.int .i64 (wrap64 ((rd x6_3 x11_4) + 1))))) ?hg ?ho ?hn ?hr ?_; (case ho => rfl); (case hg => rfl); (case hn => rfl); (case hr => first | (go_simp; done) | (go_simp; rfl)); intro w40 hw; have hg : wr.grownBy w40 (some go37) := (by rw [hw]; exact HP39.2); have hp_ : Kd.R (Kd.int .i64) 3 w40 w.heap.size (fun _ => True) (.slice (some ⟨go37, 0, none⟩) x6_3.length co38) y163 := (by rw [hw, Ny163.out]; exact HP39.1); clear HP39; have n0_ := Aside0.mk (hp_); have n1_ := Aside0.mk ((by rw [hw]; exact below_set (HB.out) GB37.out : Below w.heap.size w w40)); clear HO_6; clear HB; have HO_6 := n0_; have HB := n1_; clear n0_ n1_; clear hg hw hp_)); try go_wp2_with (first | ((with_reducible refine gate_store (t := 3) (p := 107) rfl ?_); (try (rw [drewN_self wr]; generalize hq_ : World.drewN wr _ = wr; have n0_ := Aside0.mk (Kd.R_at hq_ HO_6.out); have n1_ := Aside0.mk (below_at hq_ HB.out); clear hq_ HO_6 HB; have HO_6 := n0_; have HB := n1_; clear n0_ n1_; (try (have HP39 := Kd.R_putg HO_6.out (x11_4 : Int) (wrap64 ((rd x6_3 x11_4) + 1)))))); refine store_event (t := 3) (p := 107) (v := ?vo_w40) (w1 := (wr.setCell ⟨go37, (x11_4 : Int).toNat, none⟩ (.int .i64 (wrap64 ((rd x6_3 x11_4) + 1))))) ?hg ?ho ?hn ?hr ?_; (case ho => rfl); (case hg => rfl); (case hn => rfl); (case hr => first | (go_simp; done) | (go_simp; rfl)); intro w40 hw; have hg : wr.grownBy w40 (some go37) := (by rw [hw]; exact HP39.2); have hp_ : Kd.R (Kd.int .i64) 3 w40 w.heap.size (fun _ => True) (.slice (some ⟨go37, 0, none⟩) x6_3.length co38) y163 := (by rw [hw, Ny163.out]; exact HP39.1); clear HP39; have n0_ := Aside0.mk (hp_); have n1_ := Aside0.mk ((by rw [hw]; exact below_set (HB.out) GB37.out : Below w.heap.size w w40)); clear HO_6; clear HB; have HO_6 := n0_; have HB := n1_; clear n0_ n1_; clear hg hw hp_)))
                go_roundg k4
                case measure => have := HJ3.out; have := HK2.out; have := HK3.out; have := HK4.out; omega
                case rel => exact ⟨(y163), (wrap64 (x10_3 - 1)), (by first | rfl | (simp; done) | (simp [*]; done)), H', ⟨by have := HJ3.out; have := HK2.out; have := HK3.out; have := HK4.out; omega⟩, ⟨by (with_reducible repeat (first | apply Kd.R_alloc | apply Kd.R_drewN | apply Kd.R_drew)); exact HO_6.out⟩, ⟨by repeat (first | (with_reducible first | exact HB.out | apply below_alloc | apply pw_below_drewN | apply below_drew1) | exact HB.out)⟩⟩
               ·
                rw [if_neg c36] at H
                exact absurd H (by simp)
              ·
               rw [if_neg c35] at H
               exact absurd H (by simp)
         ·
          rw [if_neg c20] at H
          have c20b0 : decide (0 < x10_3) = false := decide_eq_false c20
          clear c20
          simp only [Option.some.injEq, Prod.mk.injEq] at H
          obtain ⟨rfl, rfl⟩ := H
          go_wp2
          repeat (go_quiet (fail); try go_wp2)
          go_ret2
          exact ⟨_, by first | rfl | (simp [errW_none, errW_some] <;> rfl) | (simp [*, errW_none, errW_some] <;> rfl), by (with_reducible repeat (first | apply Kd.R_alloc | apply Kd.R_drewN | apply Kd.R_drew)); exact HO_6.out, by repeat (first | (with_reducible first | exact HB.out | apply below_alloc | apply pw_below_drewN | apply below_drew1) | exact HB.out)⟩
theorem spec_ShareOut.j0.st {x0 : Int} {x1 : List (S43)} {x6 : List Int} {x7 : Int} {x31 : Bool} {r : (List Int × Bool)} (H : Ev (fun k => if x31 = true then (some (([] : List Int), false)) else (spec_ShareOut.l0 k x0 x1 x6 x7 0)) r) : Ev (fun k => spec_ShareOut.j0 k x0 x1 x6 x7 x31) r := Ev.step (fun k => spec_ShareOut.j0.eq_2 x0 x1 x6 x7 x31 k) H
theorem spec_ShareOut.l0.st {x0 : Int} {x1 : List (S43)} {x6 : List Int} {x7 : Int} {x9 : Int} {r : (List Int × Bool)} (H : Ev (fun k => if x9 < (x1.length : Int) then (if 0 ≤ x9 then (if x6.length < 17592186044416 then (spec_ShareOut.l0 k x0 x1 (x6 ++ [(rd_T43 x1 x9).f2]) x7 (wrap64 (x9 + 1))) else (none)) else (none)) else (spec_ShareOut.l1 k x1 x6 (wrap64 (x0 - x7)))) r) : Ev (fun k => spec_ShareOut.l0 k x0 x1 x6 x7 x9) r := Ev.step (fun k => spec_ShareOut.l0.eq_2 x0 x1 x6 x7 x9 k) H
theorem spec_ShareOut.l1.st {x1 : List (S43)} {x6 : List Int} {x10 : Int} {r : (List Int × Bool)} (H : Ev (fun k => if x10 > 0 then (spec_ShareOut.l2 k x1 x6 x10 (-1) 0) else (some (x6, true))) r) : Ev (fun k => spec_ShareOut.l1 k x1 x6 x10) r := Ev.step (fun k => spec_ShareOut.l1.eq_2 x1 x6 x10 k) H
theorem spec_ShareOut.l2.st {x1 : List (S43)} {x6 : List Int} {x10 : Int} {x11 : Int} {x12 : Int} {r : (List Int × Bool)} (H : Ev (fun k => if x12 < (x1.length : Int) then (if 0 ≤ x12 then (if x12 < (x6.length : Int) then (if (rd x6 x12) < ((rd_T43 x1 x12).f1) then (if x11 < 0 then (spec_ShareOut.l2 k x1 x6 x10 x12 (wrap64 (x12 + 1))) else (if 0 ≤ x11 then (if x11 < (x1.length : Int) then (if x11 < (x6.length : Int) then (if (wrap64 ((rd x6 x12) * ((rd_T43 x1 x11).f3))) < (wrap64 ((rd x6 x11) * ((rd_T43 x1 x12).f3))) then (spec_ShareOut.l2 k x1 x6 x10 x12 (wrap64 (x12 + 1))) else (spec_ShareOut.l2 k x1 x6 x10 x11 (wrap64 (x12 + 1)))) else (none)) else (none)) else (none))) else (spec_ShareOut.l2 k x1 x6 x10 x11 (wrap64 (x12 + 1)))) else (none)) else (none)) else (if x11 < 0 then (some (x6, true)) else (if 0 ≤ x11 then (if x11 < (x6.length : Int) then (spec_ShareOut.l1 k x1 (x6.set (x11 : Int).toNat (wrap64 ((rd x6 x11) + 1))) (wrap64 (x10 - 1))) else (none)) else (none)))) r) : Ev (fun k => spec_ShareOut.l2 k x1 x6 x10 x11 x12) r := Ev.step (fun k => spec_ShareOut.l2.eq_2 x1 x6 x10 x11 x12 k) H

/-! ### impl_NeedOf: function 22 -/
def impl_NeedOf.l0 : Nat → Int → Int → List (S43) → Int → Int → Option (Int × Int)
  | 0, _, _, _, _, _ => none
  | k + 1, x4, x5, x11, x12, x13 => if x13 < x12 then (if 0 ≤ x13 then (if x13 < (x11.length : Int) then (impl_NeedOf.l0 k (wrap64 (x4 + ((rd_T43 x11 x13).f2))) (wrap64 (x5 + ((rd_T43 x11 x13).f1))) x11 x12 (wrap64 (x13 + 1))) else (none)) else (none)) else (some (x4, x5))
def impl_NeedOf.f (k : Nat) (l0 : List (S43)) : Option (Int × Int) := (impl_ClaimsOk.f k l0).bind fun t175 => (if t175 = true then (impl_NeedOf.l0 k 0 0 l0 (l0.length : Int) 0) else (some ((-1), (-1))))
theorem impl_NeedOf.mono_l : ∀ k, (∀ y0 y1 y2 y3 y4, LeO (impl_NeedOf.l0 k y0 y1 y2 y3 y4) (impl_NeedOf.l0 (k + 1) y0 y1 y2 y3 y4))
  | 0 => fun _ _ _ _ _ r h => by simp [impl_NeedOf.l0] at h
  | k + 1 => by
    have ih0 := impl_NeedOf.mono_l k
    · intro y0 y1 y2 y3 y4
      unfold impl_NeedOf.l0
      repeat' first
      | (with_reducible exact ih0 _ _ _ _ _)
      | (with_reducible exact impl_ClaimsOk.mono _ _)
      | (with_reducible exact LeO.refl _)
      | (with_reducible exact LeO.none _)
      | (with_reducible refine LeO.ite ?_ ?_)
      | (with_reducible refine LeO.bind ?_ (fun _ => ?_))
      | exact ih0 _ _ _ _ _
      | exact impl_ClaimsOk.mono _ _
      | exact LeO.none _
      | refine LeO.ite ?_ ?_
      | refine LeO.bind ?_ (fun _ => ?_)
theorem impl_NeedOf.mono : ∀ a0 k, LeO (impl_NeedOf.f k a0) (impl_NeedOf.f (k + 1) a0) := by
  intro a0 k
  have ih0 := impl_NeedOf.mono_l k
  unfold impl_NeedOf.f
  repeat' first
      | (with_reducible exact ih0 _ _ _ _ _)
      | (with_reducible exact impl_ClaimsOk.mono _ _)
      | (with_reducible exact LeO.refl _)
      | (with_reducible exact LeO.none _)
      | (with_reducible refine LeO.ite ?_ ?_)
      | (with_reducible refine LeO.bind ?_ (fun _ => ?_))
      | exact ih0 _ _ _ _ _
      | exact impl_ClaimsOk.mono _ _
      | exact LeO.none _
      | refine LeO.ite ?_ ?_
      | refine LeO.bind ?_ (fun _ => ?_)
set_option maxHeartbeats 8000000 in
set_option maxRecDepth 100000 in
theorem impl_NeedOf.calls (k : Nat) (A0 : Option Addr) (c0 : Nat) (l0 : List (S43)) (r1 : Int) (r2 : Int) (w : World) (hr0 : Kd.C k43 w A0 l0.length l0) (hc0 : l0.length ≤ c0) (h : impl_NeedOf.f k l0 = some (r1, r2)) :
    Calls Try.prog 22 #[.slice A0 l0.length c0] w fun e w' => e = .returned (.tuple #[.int .i64 r1, .int .i64 r2]) ∧ Below w.heap.size w w' := by
  have hu43 := Try.underlying43
  have HR0 := Aside0.mk hr0
  have HC0 := Aside0.mk hc0
  clear hr0 hc0
  have HB := Aside0.mk (Below.refl w.heap.size w)
  have H : ((impl_ClaimsOk.f k l0).bind fun t175 => (if t175 = true then (impl_NeedOf.l0 k 0 0 l0 (l0.length : Int) 0) else (some ((-1), (-1))))) = some (r1, r2) := h
  clear h
  replace H := Option.bind_eq_some_iff.mp H
  obtain ⟨t175, A20, H⟩ := H
  replace H : (if t175 = true then (impl_NeedOf.l0 k 0 0 l0 (l0.length : Int) 0) else (some ((-1), (-1)))) = some (r1, r2) := H
  have A2 := Aside0.mk A20
  clear A20
  by_cases c3 : t175 = true
  · subst c3
    have H1 : (impl_NeedOf.l0 k 0 0 l0 (l0.length : Int) 0) = some (r1, r2) := by rw [if_pos rfl] at H; exact H
    clear H
    have H := H1
    clear H1
    have H' := Aside0.mk H
    clear H
    go_enter Try.func22, Try.ntmps22
    go_wp2_with (first | ((with_reducible refine gate_callee (f := 19) rfl ?_); refine goesL_ (some 9) rfl rfl Try.func19 (by kernel_rfl) rfl #[.slice A0 l0.length c0] rfl (by (try simp only [List.map_toArray, List.map_cons, List.map_nil]); first | done | rfl | (simp only [List.length_drop, List.length_take]; rfl)) ?_; (with_reducible refine (impl_ClaimsOk.calls k _ _ l0 true _ ?side1 ?side2 A2.out).mono ?_); (case side1 => repeat (first | exact HR0.out | (with_reducible refine Kd.C_alloc ?_ _) | (with_reducible refine Kd.C_drewN ?_ _) | (with_reducible refine Kd.C_drew ?_))); (case side2 => exact HC0.out); rintro e w4 ⟨rfl, hb⟩; refine ⟨_, rfl, ?_⟩; have n0_ := Aside0.mk (below_step (by repeat (first | (with_reducible first | exact HB.out | apply below_alloc | apply pw_below_drewN | apply below_drew1) | exact HB.out)) hb); clear HB; have HB := n0_; clear n0_; (try clear hb); (try clear hb2); (try clear hk); (try clear hi)))
    go_loopg [4, 5, 13] k (fun kq v4 v5 v13 w' => ∃ (x4_1 : Int) (x5_1 : Int) (x13_1 : Int), v4 = .int .i64 x4_1 ∧ v5 = .int .i64 x5_1 ∧ v13 = .int .i64 x13_1 ∧ Aside0 (impl_NeedOf.l0 kq x4_1 x5_1 l0 (l0.length : Int) x13_1 = some (r1, r2)) ∧ Aside0 (kq ≤ k) ∧ Aside0 (Below w.heap.size w w'))
    case atStart => exact ⟨(0), (0), (0), (by first | rfl | (simp; done) | (simp [*]; done)), (by first | rfl | (simp; done) | (simp [*]; done)), (by first | rfl | (simp; done) | (simp [*]; done)), H', ⟨Nat.le_refl _⟩, ⟨by repeat (first | (with_reducible first | exact HB.out | apply below_alloc | apply pw_below_drewN | apply below_drew1) | exact HB.out)⟩⟩
    case round =>
      clear H'
      try clear c1
      try clear c2
      try clear p2
      try clear c3
      obtain ⟨x4_1, x5_1, x13_1, rfl, rfl, rfl, HA, HK1, HB⟩ := hrel
      cases gk with
      | zero => exact absurd HA.out (by simp [impl_NeedOf.l0])
      | succ k1 =>
        have H := HA.out
        clear HA
        simp only [impl_NeedOf.l0] at H
        by_cases c5 : x13_1 < (l0.length : Int)
        · rw [if_pos c5] at H
          have c5b0 : decide (x13_1 < (l0.length : Int)) = true := decide_eq_true c5
          clear c5
          by_cases c6 : 0 ≤ x13_1
          · rw [if_pos c6] at H
            have c6b0 : decide (0 ≤ x13_1) = true := decide_eq_true c6
            clear c6
            by_cases c7 : x13_1 < (l0.length : Int)
            · rw [if_pos c7] at H
              have c7b0 : decide (x13_1 < (l0.length : Int)) = true := decide_eq_true c7
              clear c7
              have H' := Aside0.mk H
              clear H
              have p176 : 0 ≤ (x13_1 : Int) := of_decide_eq_true (by first | (with_reducible assumption) | assumption)
              have q176 : x13_1 < (l0.length : Int) := of_decide_eq_true (by first | (with_reducible assumption) | assumption)
              obtain ⟨ad176, e176, hx176_0, hx176_1, hx176_2, hx176_3⟩ := at_T43 HR0.out x13_1 p176 q176
              cases e176
              replace hx176_0 := (HB.out.cell (World.block_lt_of_cell? w _ hx176_0)).trans hx176_0
              replace hx176_1 := (HB.out.cell (World.block_lt_of_cell? w _ hx176_1)).trans hx176_1
              replace hx176_2 := (HB.out.cell (World.block_lt_of_cell? w _ hx176_2)).trans hx176_2
              replace hx176_3 := (HB.out.cell (World.block_lt_of_cell? w _ hx176_3)).trans hx176_3
              replace p176 := eq_true p176
              replace q176 := eq_true q176
              go_wp2_with (first | ((with_reducible refine gate_dst (N := 7) rfl ?_); refine box_event ?hg (N := 7) ?hd (cs := #[.string (⟨#[]⟩ : ByteArray), .int .i64 0, .int .i64 0, .int .i64 0]) (t := 43) ?hr ?_; (case hd => rfl); (case hg => rfl); (case hr => first | (go_simp; done) | (go_simp; rfl)); intro gb177 hg w8 hbox hb; have n0_ := Aside0.mk (below_step (by repeat (first | (with_reducible first | exact HB.out | apply below_alloc | apply pw_below_drewN | apply below_drew1) | exact HB.out)) hb); have n1_ := Aside0.mk (hbox); have n2_ := Aside0.mk ((by rw [hg]; exact (below_size (by repeat (first | (with_reducible first | exact HB.out | apply below_alloc | apply pw_below_drewN | apply below_drew1) | exact HB.out))) : w.heap.size ≤ gb177)); have n3_ := Aside0.mk ((by rw [hg]; exact (below_size (by repeat (first | (with_reducible first | exact HB.out | apply below_alloc | apply pw_below_drewN | apply below_drew1) | exact HB.out))) : w.heap.size ≤ gb177)); clear HB; have HB := n0_; have BK177 := n1_; have GW177 := n2_; have GE177 := n3_; clear n0_ n1_ n2_ n3_; clear hb hbox hg; have hcz9_0 : w8.cell? ⟨gb177, 0, none⟩ = some (.string (⟨#[]⟩ : ByteArray)) := (blk_cell BK177.out 0).trans rfl; have hcz9_1 : w8.cell? ⟨gb177, 1, none⟩ = some (.int .i64 0) := (blk_cell BK177.out 1).trans rfl; have hcz9_2 : w8.cell? ⟨gb177, 2, none⟩ = some (.int .i64 0) := (blk_cell BK177.out 2).trans rfl; have hcz9_3 : w8.cell? ⟨gb177, 3, none⟩ = some (.int .i64 0) := (blk_cell BK177.out 3).trans rfl; have hfz9_0 := blk_frozen BK177.out 0; have hfz9_1 := blk_frozen BK177.out 1; have hfz9_2 := blk_frozen BK177.out 2; have hfz9_3 := blk_frozen BK177.out 3))
              go_roundg k1
              case measure => have := HK1.out; omega
              case rel => exact ⟨(wrap64 (x4_1 + ((rd_T43 l0 x13_1).f2))), (wrap64 (x5_1 + ((rd_T43 l0 x13_1).f1))), (wrap64 (x13_1 + 1)), (by first | rfl | (simp; done) | (simp [*]; done)), (by first | rfl | (simp; done) | (simp [*]; done)), (by first | rfl | (simp; done) | (simp [*]; done)), H', ⟨by have := HK1.out; omega⟩, ⟨by repeat (first | (with_reducible first | exact HB.out | apply below_alloc | apply pw_below_drewN | apply below_drew1 | refine below_set ?_ GE177.out) | exact HB.out)⟩⟩
            · rw [if_neg c7] at H
              exact absurd H (by simp)
          · rw [if_neg c6] at H
            exact absurd H (by simp)
        · rw [if_neg c5] at H
          have c5b0 : decide (x13_1 < (l0.length : Int)) = false := decide_eq_false c5
          clear c5
          simp only [Option.some.injEq, Prod.mk.injEq] at H
          obtain ⟨rfl, rfl⟩ := H
          go_wp2
          go_ret2
          exact ⟨by first | rfl | (simp [errW_none, errW_some] <;> rfl) | (simp [*, errW_none, errW_some] <;> rfl), by repeat (first | (with_reducible first | exact HB.out | apply below_alloc | apply pw_below_drewN | apply below_drew1) | exact HB.out)⟩
  · replace c3 := Bool.eq_false_iff.mpr c3
    subst c3
    have H1 : (some ((-1), (-1))) = some (r1, r2) := by rw [if_neg (show ¬ (false = true) by decide)] at H; exact H
    clear H
    have H := H1
    clear H1
    simp only [Option.some.injEq, Prod.mk.injEq] at H
    obtain ⟨rfl, rfl⟩ := H
    go_enter Try.func22, Try.ntmps22
    go_wp2_with (first | ((with_reducible refine gate_callee (f := 19) rfl ?_); refine goesL_ (some 9) rfl rfl Try.func19 (by kernel_rfl) rfl #[.slice A0 l0.length c0] rfl (by (try simp only [List.map_toArray, List.map_cons, List.map_nil]); first | done | rfl | (simp only [List.length_drop, List.length_take]; rfl)) ?_; (with_reducible refine (impl_ClaimsOk.calls k _ _ l0 false _ ?side1 ?side2 A2.out).mono ?_); (case side1 => repeat (first | exact HR0.out | (with_reducible refine Kd.C_alloc ?_ _) | (with_reducible refine Kd.C_drewN ?_ _) | (with_reducible refine Kd.C_drew ?_))); (case side2 => exact HC0.out); rintro e w10 ⟨rfl, hb⟩; refine ⟨_, rfl, ?_⟩; have n0_ := Aside0.mk (below_step (by repeat (first | (with_reducible first | exact HB.out | apply below_alloc | apply pw_below_drewN | apply below_drew1) | exact HB.out)) hb); clear HB; have HB := n0_; clear n0_; (try clear hb); (try clear hb2); (try clear hk); (try clear hi)))
    go_ret2
    exact ⟨by first | rfl | (simp [errW_none, errW_some] <;> rfl) | (simp [*, errW_none, errW_some] <;> rfl), by repeat (first | (with_reducible first | exact HB.out | apply below_alloc | apply pw_below_drewN | apply below_drew1) | exact HB.out)⟩
theorem impl_NeedOf.l0.st {x4 : Int} {x5 : Int} {x11 : List (S43)} {x12 : Int} {x13 : Int} {r : (Int × Int)} (H : Ev (fun k => if x13 < x12 then (if 0 ≤ x13 then (if x13 < (x11.length : Int) then (impl_NeedOf.l0 k (wrap64 (x4 + ((rd_T43 x11 x13).f2))) (wrap64 (x5 + ((rd_T43 x11 x13).f1))) x11 x12 (wrap64 (x13 + 1))) else (none)) else (none)) else (some (x4, x5))) r) : Ev (fun k => impl_NeedOf.l0 k x4 x5 x11 x12 x13) r := Ev.step (fun k => impl_NeedOf.l0.eq_2 x4 x5 x11 x12 x13 k) H

/-! ### impl_ShareOut: function 36 -/
mutual
def impl_ShareOut.j0 : Nat → Int → List (S43) → Int → Bool → Option (List Int × Bool)
 | 0, _, _, _, _ => none
 | k + 1, x0, x1, x6, x31 => if x31 = true then (some (([] : List Int), false)) else (impl_ShareOut.l0 k x0 x1 x6 ([] : List Int) x1 (x1.length : Int) 0)
def impl_ShareOut.l0 : Nat → Int → List (S43) → Int → List Int → List (S43) → Int → Int → Option (List Int × Bool)
 | 0, _, _, _, _, _, _, _ => none
 | k + 1, x0, x1, x6, x8, x32, x33, x34 => if x34 < x33 then (if 0 ≤ x34 then (if x34 < (x32.length : Int) then (if x8.length < 17592186044416 then (impl_ShareOut.l0 k x0 x1 x6 (x8 ++ [(rd_T43 x32 x34).f2]) x32 x33 (wrap64 (x34 + 1))) else (none)) else (none)) else (none)) else (impl_ShareOut.l1 k x1 x8 (wrap64 (x0 - x6)))
def impl_ShareOut.l1 : Nat → List (S43) → List Int → Int → Option (List Int × Bool)
 | 0, _, _, _ => none
 | k + 1, x1, x8, x11 => if x11 > 0 then (impl_ShareOut.l2 k x1 x8 x11 (-1) x1 (x1.length : Int) 0) else (some (x8, true))
def impl_ShareOut.l2 : Nat → List (S43) → List Int → Int → Int → List (S43) → Int → Int → Option (List Int × Bool)
 | 0, _, _, _, _, _, _, _ => none
 | k + 1, x1, x8, x11, x12, x51, x52, x53 => if x53 < x52 then (if 0 ≤ x53 then (if x53 < (x51.length : Int) then (if x53 < (x8.length : Int) then (if (rd x8 x53) < ((rd_T43 x51 x53).f1) then (if x12 < 0 then (impl_ShareOut.l2 k x1 x8 x11 x53 x51 x52 (wrap64 (x53 + 1))) else (if 0 ≤ x12 then (if x12 < (x1.length : Int) then (if x12 < (x8.length : Int) then (if (wrap64 ((rd x8 x53) * ((rd_T43 x1 x12).f3))) < (wrap64 ((rd x8 x12) * ((rd_T43 x51 x53).f3))) then (impl_ShareOut.l2 k x1 x8 x11 x53 x51 x52 (wrap64 (x53 + 1))) else (impl_ShareOut.l2 k x1 x8 x11 x12 x51 x52 (wrap64 (x53 + 1)))) else (none)) else (none)) else (none))) else (impl_ShareOut.l2 k x1 x8 x11 x12 x51 x52 (wrap64 (x53 + 1)))) else (none)) else (none)) else (none)) else (if x12 < 0 then (some (x8, true)) else (if 0 ≤ x12 then (if x12 < (x8.length : Int) then (impl_ShareOut.l1 k x1 (x8.set (x12 : Int).toNat (wrap64 ((rd x8 x12) + 1))) (wrap64 (x11 - 1))) else (none)) else (none)))
end
def impl_ShareOut.f (k : Nat) (a0 : Int) (l1 : List (S43)) : Option (List Int × Bool) := (impl_NeedOf.f k l1).bind fun bt178 => (if bt178.1 < 0 then (impl_ShareOut.j0 k a0 l1 bt178.1 true) else ((impl_isCount.f a0).bind fun t180 => (if t180 = true then (impl_ShareOut.j0 k a0 l1 bt178.1 (decide (bt178.1 > a0))) else (impl_ShareOut.j0 k a0 l1 bt178.1 true))))
theorem impl_ShareOut.mono_l : ∀ k, (∀ y0 y1 y2 y3, LeO (impl_ShareOut.j0 k y0 y1 y2 y3) (impl_ShareOut.j0 (k + 1) y0 y1 y2 y3)) ∧ (∀ y0 y1 y2 y3 y4 y5 y6, LeO (impl_ShareOut.l0 k y0 y1 y2 y3 y4 y5 y6) (impl_ShareOut.l0 (k + 1) y0 y1 y2 y3 y4 y5 y6)) ∧ (∀ y0 y1 y2, LeO (impl_ShareOut.l1 k y0 y1 y2) (impl_ShareOut.l1 (k + 1) y0 y1 y2)) ∧ (∀ y0 y1 y2 y3 y4 y5 y6, LeO (impl_ShareOut.l2 k y0 y1 y2 y3 y4 y5 y6) (impl_ShareOut.l2 (k + 1) y0 y1 y2 y3 y4 y5 y6))
 | 0 => ⟨fun _ _ _ _ r h => by simp [impl_ShareOut.j0] at h, fun _ _ _ _ _ _ _ r h => by simp [impl_ShareOut.l0] at h, fun _ _ _ r h => by simp [impl_ShareOut.l1] at h, fun _ _ _ _ _ _ _ r h => by simp [impl_ShareOut.l2] at h⟩
 | k + 1 => by
  obtain ⟨ih0, ih1, ih2, ih3⟩ := impl_ShareOut.mono_l k
  refine ⟨?_, ?_, ?_, ?_⟩
  ·
   intro y0 y1 y2 y3
   unfold impl_ShareOut.j0
   repeat' first
   | (with_reducible exact ih0 _ _ _ _)
   | (with_reducible exact ih1 _ _ _ _ _ _ _)
   | (with_reducible exact ih2 _ _ _)
   | (with_reducible exact ih3 _ _ _ _ _ _ _)
   | (with_reducible exact impl_NeedOf.mono _ _)
   | (with_reducible exact LeO.refl _)
   | (with_reducible exact LeO.none _)
   | (with_reducible refine LeO.ite ?_ ?_)
   | (with_reducible refine LeO.bind ?_ (fun _ => ?_))
   | exact ih0 _ _ _ _
   | exact ih1 _ _ _ _ _ _ _
   | exact ih2 _ _ _
   | exact ih3 _ _ _ _ _ _ _
   | exact impl_NeedOf.mono _ _
   | exact LeO.none _
   | refine LeO.ite ?_ ?_
   | refine LeO.bind ?_ (fun _ => ?_)
  ·
   intro y0 y1 y2 y3 y4 y5 y6
   unfold impl_ShareOut.l0
   repeat' first
   | (with_reducible exact ih0 _ _ _ _)
   | (with_reducible exact ih1 _ _ _ _ _ _ _)
   | (with_reducible exact ih2 _ _ _)
   | (with_reducible exact ih3 _ _ _ _ _ _ _)
   | (with_reducible exact impl_NeedOf.mono _ _)
   | (with_reducible exact LeO.refl _)
   | (with_reducible exact LeO.none _)
   | (with_reducible refine LeO.ite ?_ ?_)
   | (with_reducible refine LeO.bind ?_ (fun _ => ?_))
   | exact ih0 _ _ _ _
   | exact ih1 _ _ _ _ _ _ _
   | exact ih2 _ _ _
   | exact ih3 _ _ _ _ _ _ _
   | exact impl_NeedOf.mono _ _
   | exact LeO.none _
   | refine LeO.ite ?_ ?_
   | refine LeO.bind ?_ (fun _ => ?_)
  ·
   intro y0 y1 y2
   unfold impl_ShareOut.l1
   repeat' first
   | (with_reducible exact ih0 _ _ _ _)
   | (with_reducible exact ih1 _ _ _ _ _ _ _)
   | (with_reducible exact ih2 _ _ _)
   | (with_reducible exact ih3 _ _ _ _ _ _ _)
   | (with_reducible exact impl_NeedOf.mono _ _)
   | (with_reducible exact LeO.refl _)
   | (with_reducible exact LeO.none _)
   | (with_reducible refine LeO.ite ?_ ?_)
   | (with_reducible refine LeO.bind ?_ (fun _ => ?_))
   | exact ih0 _ _ _ _
   | exact ih1 _ _ _ _ _ _ _
   | exact ih2 _ _ _
   | exact ih3 _ _ _ _ _ _ _
   | exact impl_NeedOf.mono _ _
   | exact LeO.none _
   | refine LeO.ite ?_ ?_
   | refine LeO.bind ?_ (fun _ => ?_)
  ·
   intro y0 y1 y2 y3 y4 y5 y6
   unfold impl_ShareOut.l2
   repeat' first
   | (with_reducible exact ih0 _ _ _ _)
   | (with_reducible exact ih1 _ _ _ _ _ _ _)
   | (with_reducible exact ih2 _ _ _)
   | (with_reducible exact ih3 _ _ _ _ _ _ _)
   | (with_reducible exact impl_NeedOf.mono _ _)
   | (with_reducible exact LeO.refl _)
   | (with_reducible exact LeO.none _)
   | (with_reducible refine LeO.ite ?_ ?_)
   | (with_reducible refine LeO.bind ?_ (fun _ => ?_))
   | exact ih0 _ _ _ _
   | exact ih1 _ _ _ _ _ _ _
   | exact ih2 _ _ _
   | exact ih3 _ _ _ _ _ _ _
   | exact impl_NeedOf.mono _ _
   | exact LeO.none _
   | refine LeO.ite ?_ ?_
   | refine LeO.bind ?_ (fun _ => ?_)
theorem impl_ShareOut.mono : ∀ a0 a1 k, LeO (impl_ShareOut.f k a0 a1) (impl_ShareOut.f (k + 1) a0 a1) := by
 intro a0 a1 k
 obtain ⟨ih0, ih1, ih2, ih3⟩ := impl_ShareOut.mono_l k
 unfold impl_ShareOut.f
 repeat' first
   | (with_reducible exact ih0 _ _ _ _)
   | (with_reducible exact ih1 _ _ _ _ _ _ _)
   | (with_reducible exact ih2 _ _ _)
   | (with_reducible exact ih3 _ _ _ _ _ _ _)
   | (with_reducible exact impl_NeedOf.mono _ _)
   | (with_reducible exact LeO.refl _)
   | (with_reducible exact LeO.none _)
   | (with_reducible refine LeO.ite ?_ ?_)
   | (with_reducible refine LeO.bind ?_ (fun _ => ?_))
   | exact ih0 _ _ _ _
   | exact ih1 _ _ _ _ _ _ _
   | exact ih2 _ _ _
   | exact ih3 _ _ _ _ _ _ _
   | exact impl_NeedOf.mono _ _
   | exact LeO.none _
   | refine LeO.ite ?_ ?_
   | refine LeO.bind ?_ (fun _ => ?_)
set_option maxHeartbeats 8000000 in
set_option maxRecDepth 100000 in
theorem impl_ShareOut.calls (k : Nat) (a0 : Int) (A1 : Option Addr) (c1 : Nat) (l1 : List (S43)) (r1 : List Int) (r2 : Bool) (w : World) (hr1 : Kd.C k43 w A1 l1.length l1) (hc1 : l1.length ≤ c1) (h : impl_ShareOut.f k a0 l1 = some (r1, r2)) :
  Calls Try.prog 36 #[.int .i64 a0, .slice A1 l1.length c1] w fun e w' => ∃ v0_ : Value, e = .returned (.tuple #[v0_, .bool r2]) ∧ Kd.R (Kd.int .i64) 3 w' w.heap.size (fun _ => True) v0_ r1 ∧ Below w.heap.size w w' := by
 have hu43 := Try.underlying43
 have HR1 := Aside0.mk hr1
 have HC1 := Aside0.mk hc1
 clear hr1 hc1
 have HB := Aside0.mk (Below.refl w.heap.size w)
 have H : ((impl_NeedOf.f k l1).bind fun bt178 => (if bt178.1 < 0 then (impl_ShareOut.j0 k a0 l1 bt178.1 true) else ((impl_isCount.f a0).bind fun t180 => (if t180 = true then (impl_ShareOut.j0 k a0 l1 bt178.1 (decide (bt178.1 > a0))) else (impl_ShareOut.j0 k a0 l1 bt178.1 true))))) = some (r1, r2) := h
 clear h
 replace H := Option.bind_eq_some_iff.mp H
 obtain ⟨⟨t178, t179⟩, A30, H⟩ := H
 replace H : (if t178 < 0 then (impl_ShareOut.j0 k a0 l1 t178 true) else ((impl_isCount.f a0).bind fun t180 => (if t180 = true then (impl_ShareOut.j0 k a0 l1 t178 (decide (t178 > a0))) else (impl_ShareOut.j0 k a0 l1 t178 true)))) = some (r1, r2) := H
 have A3 := Aside0.mk A30
 clear A30
 have HC4 := Aside0.mk H
 clear H
 go_enter Try.func36, Try.ntmps36
 go_upto_region 2 with (first | (go_at_call 22; (with_reducible refine (impl_NeedOf.calls k _ _ l1 t178 t179 _ ?side1 ?side2 A3.out).mono ?_); (case side1 => repeat (first | exact HR1.out | (with_reducible refine Kd.C_alloc ?_ _) | (with_reducible refine Kd.C_drewN ?_ _) | (with_reducible refine Kd.C_drew ?_))); (case side2 => exact HC1.out); rintro e w5 ⟨rfl, hb⟩; have n0_ := Aside0.mk (below_step (by repeat (first | (with_reducible first | exact HB.out | apply below_alloc | apply pw_below_drewN | apply below_drew1) | exact HB.out)) hb); clear HB; have HB := n0_; clear n0_; (try clear hb); (try clear hb2); (try clear hk); (try clear hi)))
 repeat (go_quiet (first | (go_at_call 22; (with_reducible refine (impl_NeedOf.calls k _ _ l1 t178 t179 _ ?side1 ?side2 A3.out).mono ?_); (case side1 => repeat (first | exact HR1.out | (with_reducible refine Kd.C_alloc ?_ _) | (with_reducible refine Kd.C_drewN ?_ _) | (with_reducible refine Kd.C_drew ?_))); (case side2 => exact HC1.out); rintro e w5 ⟨rfl, hb⟩; have n0_ := Aside0.mk (below_step (by repeat (first | (with_reducible first | exact HB.out | apply below_alloc | apply pw_below_drewN | apply below_drew1) | exact HB.out)) hb); clear HB; have HB := n0_; clear n0_; (try clear hb); (try clear hb2); (try clear hk); (try clear hi))); go_upto_region 2 with (first | (go_at_call 22; (with_reducible refine (impl_NeedOf.calls k _ _ l1 t178 t179 _ ?side1 ?side2 A3.out).mono ?_); (case side1 => repeat (first | exact HR1.out | (with_reducible refine Kd.C_alloc ?_ _) | (with_reducible refine Kd.C_drewN ?_ _) | (with_reducible refine Kd.C_drew ?_))); (case side2 => exact HC1.out); rintro e w5 ⟨rfl, hb⟩; have n0_ := Aside0.mk (below_step (by repeat (first | (with_reducible first | exact HB.out | apply below_alloc | apply pw_below_drewN | apply below_drew1) | exact HB.out)) hb); clear HB; have HB := n0_; clear n0_; (try clear hb); (try clear hb2); (try clear hk); (try clear hi))))
 (try simp only [Act.put, List.setIfInBounds_toArray, List.set_cons_zero, List.set_cons_succ])
 go_cut [31] (fun v31 wc => ∃ (kq : Nat) (x31_3 : Bool), v31 = .bool x31_3 ∧ Aside0 (impl_ShareOut.j0 kq a0 l1 t178 x31_3 = some (r1, r2)) ∧ Aside0 (kq ≤ k) ∧ Aside0 (Below w.heap.size w wc))
 case first =>
  have H := HC4.out
  clear HC4
  by_cases c6 : t178 < 0
  ·
   rw [if_pos c6] at H
   have c6b0 : decide (t178 < 0) = true := decide_eq_true c6
   clear c6
   (first | rw [c6b0] | (simp only [i64_w, i32_w]; rw [c6b0]) | skip)
   have H' := Aside0.mk H
   clear H
   go_wp2
   repeat (go_quiet (fail); try go_wp2)
   go_meet
   case rel => exact ⟨_, (true), (by first | rfl | (simp; done) | (simp [*]; done)), H', ⟨by first | omega | exact Nat.le_refl _⟩, ⟨by repeat (first | (with_reducible first | exact HB.out | apply below_alloc | apply pw_below_drewN | apply below_drew1) | exact HB.out)⟩⟩
  ·
   rw [if_neg c6] at H
   have c6b0 : decide (t178 < 0) = false := decide_eq_false c6
   clear c6
   (first | rw [c6b0] | (simp only [i64_w, i32_w]; rw [c6b0]) | skip)
   replace H := Option.bind_eq_some_iff.mp H
   obtain ⟨t180, A70, H⟩ := H
   replace H : (if t180 = true then (impl_ShareOut.j0 k a0 l1 t178 (decide (t178 > a0))) else (impl_ShareOut.j0 k a0 l1 t178 true)) = some (r1, r2) := H
   have A7 := Aside0.mk A70
   clear A70
   by_cases c8 : t180 = true
   ·
    subst c8
    have H1 : (impl_ShareOut.j0 k a0 l1 t178 (decide (t178 > a0))) = some (r1, r2) := by rw [if_pos rfl] at H; exact H
    clear H
    have H := H1
    clear H1
    have H' := Aside0.mk H
    clear H
    go_wp2_with (first | (go_at_call 52; (with_reducible refine (impl_isCount.calls a0 true _ A7.out).mono ?_); rintro e w' ⟨rfl, ⟨nd, rfl⟩⟩; (try first | exact ⟨rfl, _, World.drewN_drewN _ _ _⟩ | exact ⟨rfl, _, Eq.trans (World.drewN_drewN _ _ _) (congrArg (World.drewN _) (Nat.add_assoc _ _ _))⟩)))
    repeat (go_quiet (first | (go_at_call 52; (with_reducible refine (impl_isCount.calls a0 true _ A7.out).mono ?_); rintro e w' ⟨rfl, ⟨nd, rfl⟩⟩; (try first | exact ⟨rfl, _, World.drewN_drewN _ _ _⟩ | exact ⟨rfl, _, Eq.trans (World.drewN_drewN _ _ _) (congrArg (World.drewN _) (Nat.add_assoc _ _ _))⟩))); try go_wp2_with (first | (go_at_call 52; (with_reducible refine (impl_isCount.calls a0 true _ A7.out).mono ?_); rintro e w' ⟨rfl, ⟨nd, rfl⟩⟩; (try first | exact ⟨rfl, _, World.drewN_drewN _ _ _⟩ | exact ⟨rfl, _, Eq.trans (World.drewN_drewN _ _ _) (congrArg (World.drewN _) (Nat.add_assoc _ _ _))⟩))))
    go_meet
    case rel => exact ⟨_, (decide (t178 > a0)), (by first | rfl | (simp; done) | (simp [*]; done)), H', ⟨by first | omega | exact Nat.le_refl _⟩, ⟨by repeat (first | (with_reducible first | exact HB.out | apply below_alloc | apply pw_below_drewN | apply below_drew1) | exact HB.out)⟩⟩
   ·
    replace c8 := Bool.eq_false_iff.mpr c8
    subst c8
    have H1 : (impl_ShareOut.j0 k a0 l1 t178 true) = some (r1, r2) := by rw [if_neg (show ¬ (false = true) by decide)] at H; exact H
    clear H
    have H := H1
    clear H1
    have H' := Aside0.mk H
    clear H
    go_wp2_with (first | (go_at_call 52; (with_reducible refine (impl_isCount.calls a0 false _ A7.out).mono ?_); rintro e w' ⟨rfl, ⟨nd, rfl⟩⟩; (try first | exact ⟨rfl, _, World.drewN_drewN _ _ _⟩ | exact ⟨rfl, _, Eq.trans (World.drewN_drewN _ _ _) (congrArg (World.drewN _) (Nat.add_assoc _ _ _))⟩)))
    repeat (go_quiet (first | (go_at_call 52; (with_reducible refine (impl_isCount.calls a0 false _ A7.out).mono ?_); rintro e w' ⟨rfl, ⟨nd, rfl⟩⟩; (try first | exact ⟨rfl, _, World.drewN_drewN _ _ _⟩ | exact ⟨rfl, _, Eq.trans (World.drewN_drewN _ _ _) (congrArg (World.drewN _) (Nat.add_assoc _ _ _))⟩))); try go_wp2_with (first | (go_at_call 52; (with_reducible refine (impl_isCount.calls a0 false _ A7.out).mono ?_); rintro e w' ⟨rfl, ⟨nd, rfl⟩⟩; (try first | exact ⟨rfl, _, World.drewN_drewN _ _ _⟩ | exact ⟨rfl, _, Eq.trans (World.drewN_drewN _ _ _) (congrArg (World.drewN _) (Nat.add_assoc _ _ _))⟩))))
    go_meet
    case rel => exact ⟨_, (true), (by first | rfl | (simp; done) | (simp [*]; done)), H', ⟨by first | omega | exact Nat.le_refl _⟩, ⟨by repeat (first | (with_reducible first | exact HB.out | apply below_alloc | apply pw_below_drewN | apply below_drew1) | exact HB.out)⟩⟩
 case rest =>
  clear HC4
  try clear c1
  try clear p2
  try clear c3
  try clear c6
  try clear c6b0
  try clear c8
  obtain ⟨kq, x31_3, rfl, HA, HJ3, HB⟩ := hcut
  cases kq with
  | zero => exact absurd HA.out (by simp [impl_ShareOut.j0])
  | succ kj3 =>
   have H := HA.out
   clear HA
   simp only [impl_ShareOut.j0] at H
   by_cases c9 : x31_3 = true
   ·
    subst c9
    have H1 : (some (([] : List Int), false)) = some (r1, r2) := by rw [if_pos rfl] at H; exact H
    clear H
    have H := H1
    clear H1
    simp only [Option.some.injEq, Prod.mk.injEq] at H
    obtain ⟨rfl, rfl⟩ := H
    go_wp2
    repeat (go_quiet (fail); try go_wp2)
    go_ret2
    exact ⟨_, by first | rfl | (simp [errW_none, errW_some] <;> rfl) | (simp [*, errW_none, errW_some] <;> rfl), by first | exact Kd.R_nil _ _ _ _ _ | exact Kd.N_nil _ _ _ _ _ | exact Kd.V_nil _ _ _ _ _ | exact Kd.Q_nil _ _ _ _ _ | exact Kd.S_nil _ _ _ _ _, by repeat (first | (with_reducible first | exact HB.out | apply below_alloc | apply pw_below_drewN | apply below_drew1) | exact HB.out)⟩
   ·
    replace c9 := Bool.eq_false_iff.mpr c9
    subst c9
    have H1 : (impl_ShareOut.l0 kj3 a0 l1 t178 ([] : List Int) l1 (l1.length : Int) 0) = some (r1, r2) := by rw [if_neg (show ¬ (false = true) by decide)] at H; exact H
    clear H
    have H := H1
    clear H1
    have H' := Aside0.mk H
    clear H
    go_wp2
    repeat (go_quiet (fail); try go_wp2)
    go_loopg [8, 34] kj3 (fun kq v8 v34 w' => ∃ (x8_2 : List Int) (x34_2 : Int), v34 = .int .i64 x34_2 ∧ Aside0 (impl_ShareOut.l0 kq a0 l1 t178 x8_2 l1 (l1.length : Int) x34_2 = some (r1, r2)) ∧ Aside0 (kq ≤ kj3) ∧ Aside0 (Kd.R (Kd.int .i64) 3 w' w.heap.size (fun _ => True) v8 x8_2) ∧ Aside0 (Below w.heap.size w w'))
    case atStart => exact ⟨(([] : List Int)), (0), (by first | rfl | (simp; done) | (simp [*]; done)), H', ⟨Nat.le_refl _⟩, ⟨by first | exact Kd.R_nil _ _ _ _ _ | exact Kd.N_nil _ _ _ _ _ | exact Kd.V_nil _ _ _ _ _ | exact Kd.Q_nil _ _ _ _ _ | exact Kd.S_nil _ _ _ _ _⟩, ⟨by repeat (first | (with_reducible first | exact HB.out | apply below_alloc | apply pw_below_drewN | apply below_drew1) | exact HB.out)⟩⟩
    case round =>
     clear H'
     try clear c1
     try clear p2
     try clear c3
     try clear c6
     try clear c6b0
     try clear c8
     try clear c9
     try clear p2
     obtain ⟨x8_2, x34_2, rfl, HA, HK2, HO_8, HB⟩ := hrel
     cases gk with
     | zero => exact absurd HA.out (by simp [impl_ShareOut.l0])
     | succ k2 =>
      have H := HA.out
      clear HA
      simp only [impl_ShareOut.l0] at H
      by_cases c10 : x34_2 < (l1.length : Int)
      ·
       rw [if_pos c10] at H
       have c10b0 : decide (x34_2 < (l1.length : Int)) = true := decide_eq_true c10
       clear c10
       by_cases c11 : 0 ≤ x34_2
       ·
        rw [if_pos c11] at H
        have c11b0 : decide (0 ≤ x34_2) = true := decide_eq_true c11
        clear c11
        by_cases c12 : x34_2 < (l1.length : Int)
        ·
         rw [if_pos c12] at H
         have c12b0 : decide (x34_2 < (l1.length : Int)) = true := decide_eq_true c12
         clear c12
         by_cases c13 : x8_2.length < 17592186044416
         ·
          rw [if_pos c13] at H
          have LMc13 := Aside0.mk c13
          clear c13
          obtain ⟨y183, hy183⟩ : ∃ y_ : List Int, y_ = (x8_2 ++ [(rd_T43 l1 x34_2).f2]) := ⟨_, rfl⟩
          replace H : (impl_ShareOut.l0 k2 a0 l1 t178 y183 l1 (l1.length : Int) (wrap64 (x34_2 + 1))) = some (r1, r2) := by first | (rw [hy183]; with_reducible exact H) | (have H2_ := (Option.bind_some _ _).symm.trans H; rw [hy183]; with_reducible exact H2_) | (have H2_ := (Option.bind_some _ _).symm.trans H; with_reducible exact H2_) | with_reducible exact H | (rw [hy183]; exact H) | exact H
          have Ny183 := Aside0.mk hy183
          clear hy183
          have H' := Aside0.mk H
          clear H
          have p181 : 0 ≤ (x34_2 : Int) := of_decide_eq_true (by first | (with_reducible assumption) | assumption)
          have q181 : x34_2 < (l1.length : Int) := of_decide_eq_true (by first | (with_reducible assumption) | assumption)
          obtain ⟨ad181, e181, hx181_0, hx181_1, hx181_2, hx181_3⟩ := at_T43 HR1.out x34_2 p181 q181
          cases e181
          replace hx181_0 := (HB.out.cell (World.block_lt_of_cell? w _ hx181_0)).trans hx181_0
          replace hx181_1 := (HB.out.cell (World.block_lt_of_cell? w _ hx181_1)).trans hx181_1
          replace hx181_2 := (HB.out.cell (World.block_lt_of_cell? w _ hx181_2)).trans hx181_2
          replace hx181_3 := (HB.out.cell (World.block_lt_of_cell? w _ hx181_3)).trans hx181_3
          replace p181 := eq_true p181
          replace q181 := eq_true q181
          go_wp2_with (first | ((with_reducible refine gate_dst (N := 10) rfl ?_); refine box_event ?hg (N := 10) ?hd (cs := #[.string (⟨#[]⟩ : ByteArray), .int .i64 0, .int .i64 0, .int .i64 0]) (t := 43) ?hr ?_; (case hd => rfl); (case hg => rfl); (case hr => first | (go_simp; done) | (go_simp; rfl)); intro gb182 hg w14 hbox hb; have n0_ := Aside0.mk (Kd.R_below (by (with_reducible repeat (first | apply Kd.R_alloc | apply Kd.R_drewN | apply Kd.R_drew)); exact HO_8.out) hb); have n1_ := Aside0.mk (below_step (by repeat (first | (with_reducible first | exact HB.out | apply below_alloc | apply pw_below_drewN | apply below_drew1) | exact HB.out)) hb); have n2_ := Aside0.mk (hbox); have n3_ := Aside0.mk ((by rw [hg]; exact (below_size (by repeat (first | (with_reducible first | exact HB.out | apply below_alloc | apply pw_below_drewN | apply below_drew1) | exact HB.out))) : w.heap.size ≤ gb182)); have n4_ := Aside0.mk ((by rw [hg]; exact (below_size (by repeat (first | (with_reducible first | exact HB.out | apply below_alloc | apply pw_below_drewN | apply below_drew1) | exact HB.out))) : w.heap.size ≤ gb182)); clear HO_8; clear HB; have HO_8 := n0_; have HB := n1_; have BK182 := n2_; have GW182 := n3_; have GE182 := n4_; clear n0_ n1_ n2_ n3_ n4_; clear hb hbox hg; have hcz15_0 : w14.cell? ⟨gb182, 0, none⟩ = some (.string (⟨#[]⟩ : ByteArray)) := (blk_cell BK182.out 0).trans rfl; have hcz15_1 : w14.cell? ⟨gb182, 1, none⟩ = some (.int .i64 0) := (blk_cell BK182.out 1).trans rfl; have hcz15_2 : w14.cell? ⟨gb182, 2, none⟩ = some (.int .i64 0) := (blk_cell BK182.out 2).trans rfl; have hcz15_3 : w14.cell? ⟨gb182, 3, none⟩ = some (.int .i64 0) := (blk_cell BK182.out 3).trans rfl; have hfz15_0 := blk_frozen BK182.out 0; have hfz15_1 := blk_frozen BK182.out 1; have hfz15_2 := blk_frozen BK182.out 2; have hfz15_3 := blk_frozen BK182.out 3) | ((with_reducible refine gate_builtin (b := .append) (xs := #[.tmp 38, .tmp 41]) rfl ?_); at_builtin; refine Kd.R_append (Kd.int .i64) (w0 := w) w.heap.size rfl (.tmp 38) (.tmp 41) 22 3 (.int .i64 0) 8 rfl Try.underlying22 info3 rfl (by decide) (by omega) u8 x8_2 ((rd_T43 l1 x34_2).f2) [.int .i64 ((rd_T43 l1 x34_2).f2)] (fun _ => True) (fun _ => False) rfl (by first | (go_simp; done) | (go_simp; rfl)) ?aP (fun _ hk => hk.elim) ?aF ?aO ?aB ?aS ?aL ?_; (case aP => exact rfl); (case aB => exact (by repeat (first | (with_reducible first | exact HB.out | apply below_alloc | apply pw_below_drewN | apply below_drew1 | refine below_set ?_ GE182.out) | exact HB.out))); (case aF => exact (fun _ _ => trivial)); (case aO => exact (by (with_reducible repeat (first | apply Kd.R_alloc | apply Kd.R_drewN | apply Kd.R_drew)); exact Kd.R_mono (Kd.R_far (p := ⟨gb182, 3, none⟩) (Kd.R_far (p := ⟨gb182, 2, none⟩) (Kd.R_far (p := ⟨gb182, 1, none⟩) (Kd.R_far (p := ⟨gb182, 0, none⟩) (Kd.R_types HO_8.out BK182.out (by decide)) (fun _ hk => hk.2) (.string ((rd_T43 l1 x34_2).f0))) (fun _ hk => hk.2) (.int .i64 ((rd_T43 l1 x34_2).f1))) (fun _ hk => hk.2) (.int .i64 ((rd_T43 l1 x34_2).f2))) (fun _ hk => hk.2) (.int .i64 ((rd_T43 l1 x34_2).f3))) (fun _ hk => trivial))); (case aS => exact (below_size (by repeat (first | (with_reducible first | exact HB.out | apply below_alloc | apply pw_below_drewN | apply below_drew1 | refine below_set ?_ GE182.out) | exact HB.out)))); (case aL => have := LMc13.out; omega); intro v184 w16 ho hb hg hat; rw [← Ny183.out] at ho; have n0_ := Aside0.mk (blk_grown (g := gb182) (o := .cells #[.string ((rd_T43 l1 x34_2).f0), .int .i64 ((rd_T43 l1 x34_2).f1), .int .i64 ((rd_T43 l1 x34_2).f2), .int .i64 ((rd_T43 l1 x34_2).f3)] 43 (0, 0)) (by (with_reducible repeat (first | refine blk_drewN ?_ _ | refine blk_drew ?_ | refine blk_alloc ?_ _)); refine blk_put (cs := #[.string ((rd_T43 l1 x34_2).f0), .int .i64 ((rd_T43 l1 x34_2).f1), .int .i64 ((rd_T43 l1 x34_2).f2), .int .i64 0]) ?_ 3 _ rfl; (with_reducible repeat (first | refine blk_drewN ?_ _ | refine blk_drew ?_ | refine blk_alloc ?_ _)); refine blk_put (cs := #[.string ((rd_T43 l1 x34_2).f0), .int .i64 ((rd_T43 l1 x34_2).f1), .int .i64 0, .int .i64 0]) ?_ 2 _ rfl; (with_reducible repeat (first | refine blk_drewN ?_ _ | refine blk_drew ?_ | refine blk_alloc ?_ _)); refine blk_put (cs := #[.string ((rd_T43 l1 x34_2).f0), .int .i64 0, .int .i64 0, .int .i64 0]) ?_ 1 _ rfl; (with_reducible repeat (first | refine blk_drewN ?_ _ | refine blk_drew ?_ | refine blk_alloc ?_ _)); refine blk_put (cs := #[.string (⟨#[]⟩ : ByteArray), .int .i64 0, .int .i64 0, .int .i64 0]) ?_ 0 _ rfl; (with_reducible repeat (first | refine blk_drewN ?_ _ | refine blk_drew ?_ | refine blk_alloc ?_ _)); exact BK182.out) hg (Kd.R_ne HO_8.out BK182.out (by decide))); have n1_ := Aside0.mk (hb); have n2_ := Aside0.mk (ho); clear BK182; clear HB; clear HO_8; have BK182 := n0_; have HB := n1_; have HO185 := n2_; clear n0_ n1_ n2_; clear ho hb hg hat))
          repeat (go_quiet (first | ((with_reducible refine gate_dst (N := 10) rfl ?_); refine box_event ?hg (N := 10) ?hd (cs := #[.string (⟨#[]⟩ : ByteArray), .int .i64 0, .int .i64 0, .int .i64 0]) (t := 43) ?hr ?_; (case hd => rfl); (case hg => rfl); (case hr => first | (go_simp; done) | (go_simp; rfl)); intro gb182 hg w14 hbox hb; have n0_ := Aside0.mk (Kd.R_below (by (with_reducible repeat (first | apply Kd.R_alloc | apply Kd.R_drewN | apply Kd.R_drew)); exact HO_8.out) hb); have n1_ := Aside0.mk (below_step (by repeat (first | (with_reducible first | exact HB.out | apply below_alloc | apply pw_below_drewN | apply below_drew1) | exact HB.out)) hb); have n2_ := Aside0.mk (hbox); have n3_ := Aside0.mk ((by rw [hg]; exact (below_size (by repeat (first | (with_reducible first | exact HB.out | apply below_alloc | apply pw_below_drewN | apply below_drew1) | exact HB.out))) : w.heap.size ≤ gb182)); have n4_ := Aside0.mk ((by rw [hg]; exact (below_size (by repeat (first | (with_reducible first | exact HB.out | apply below_alloc | apply pw_below_drewN | apply below_drew1) | exact HB.out))) : w.heap.size ≤ gb182)); clear HO_8; clear HB; have HO_8 := n0_; have HB := n1_; have BK182 := n2_; have GW182 := n3_; have GE182 := n4_; clear n0_ n1_ n2_ n3_ n4_; clear hb hbox hg; have hcz15_0 : w14.cell? ⟨gb182, 0, none⟩ = some (.string (⟨#[]⟩ : ByteArray)) := (blk_cell BK182.out 0).trans rfl; have hcz15_1 : w14.cell? ⟨gb182, 1, none⟩ = some (.int .i64 0) := (blk_cell BK182.out 1).trans rfl; have hcz15_2 : w14.cell? ⟨gb182, 2, none⟩ = some (.int .i64 0) := (blk_cell BK182.out 2).trans rfl; have hcz15_3 : w14.cell? ⟨gb182, 3, none⟩ = some (.int .i64 0) := (blk_cell BK182.out 3).trans rfl; have hfz15_0 := blk_frozen BK182.out 0; have hfz15_1 := blk_frozen BK182.out 1; have hfz15_2 := blk_frozen BK182.out 2; have hfz15_3 := blk_frozen BK182.out 3) | ((with_reducible refine gate_builtin (b := .append) (xs := #[.tmp 38, .tmp 41]) rfl ?_); at_builtin; refine Kd.R_append (Kd.int .i64) (w0 := w) w.heap.size rfl (.tmp 38) (.tmp 41) 22 3 (.int .i64 0) 8 rfl Try.underlying22 info3 rfl (by decide) (by omega) u8 x8_2 ((rd_T43 l1 x34_2).f2) [.int .i64 ((rd_T43 l1 x34_2).f2)] (fun _ => True) (fun _ => False) rfl (by first | (go_simp; done) | (go_simp; rfl)) ?aP (fun _ hk => hk.elim) ?aF ?aO ?aB ?aS ?aL ?_; (case aP => exact rfl); (case aB => exact (by repeat (first | (with_reducible first | exact HB.out | apply below_alloc | apply pw_below_drewN | apply below_drew1 | refine below_set ?_ GE182.out) | exact HB.out))); (case aF => exact (fun _ _ => trivial)); (case aO => exact (by (with_reducible repeat (first | apply Kd.R_alloc | apply Kd.R_drewN | apply Kd.R_drew)); exact Kd.R_mono (Kd.R_far (p := ⟨gb182, 3, none⟩) (Kd.R_far (p := ⟨gb182, 2, none⟩) (Kd.R_far (p := ⟨gb182, 1, none⟩) (Kd.R_far (p := ⟨gb182, 0, none⟩) (Kd.R_types HO_8.out BK182.out (by decide)) (fun _ hk => hk.2) (.string ((rd_T43 l1 x34_2).f0))) (fun _ hk => hk.2) (.int .i64 ((rd_T43 l1 x34_2).f1))) (fun _ hk => hk.2) (.int .i64 ((rd_T43 l1 x34_2).f2))) (fun _ hk => hk.2) (.int .i64 ((rd_T43 l1 x34_2).f3))) (fun _ hk => trivial))); (case aS => exact (below_size (by repeat (first | (with_reducible first | exact HB.out | apply below_alloc | apply pw_below_drewN | apply below_drew1 | refine below_set ?_ GE182.out) | exact HB.out)))); (case aL => have := LMc13.out; omega); intro v184 w16 ho hb hg hat; rw [← Ny183.out] at ho; have n0_ := Aside0.mk (blk_grown (g := gb182) (o := .cells #[.string ((rd_T43 l1 x34_2).f0), .int .i64 ((rd_T43 l1 x34_2).f1), .int .i64 ((rd_T43 l1 x34_2).f2), .int .i64 ((rd_T43 l1 x34_2).f3)] 43 (0, 0)) (by (with_reducible repeat (first | refine blk_drewN ?_ _ | refine blk_drew ?_ | refine blk_alloc ?_ _)); refine blk_put (cs := #[.string ((rd_T43 l1 x34_2).f0), .int .i64 ((rd_T43 l1 x34_2).f1), .int .i64 ((rd_T43 l1 x34_2).f2), .int .i64 0]) ?_ 3 _ rfl; (with_reducible repeat (first | refine blk_drewN ?_ _ | refine blk_drew ?_ | refine blk_alloc ?_ _)); refine blk_put (cs := #[.string ((rd_T43 l1 x34_2).f0), .int .i64 ((rd_T43 l1 x34_2).f1), .int .i64 0, .int .i64 0]) ?_ 2 _ rfl; (with_reducible repeat (first | refine blk_drewN ?_ _ | refine blk_drew ?_ | refine blk_alloc ?_ _)); refine blk_put (cs := #[.string ((rd_T43 l1 x34_2).f0), .int .i64 0, .int .i64 0, .int .i64 0]) ?_ 1 _ rfl; (with_reducible repeat (first | refine blk_drewN ?_ _ | refine blk_drew ?_ | refine blk_alloc ?_ _)); refine blk_put (cs := #[.string (⟨#[]⟩ : ByteArray), .int .i64 0, .int .i64 0, .int .i64 0]) ?_ 0 _ rfl; (with_reducible repeat (first | refine blk_drewN ?_ _ | refine blk_drew ?_ | refine blk_alloc ?_ _)); exact BK182.out) hg (Kd.R_ne HO_8.out BK182.out (by decide))); have n1_ := Aside0.mk (hb); have n2_ := Aside0.mk (ho); clear BK182; clear HB; clear HO_8; have BK182 := n0_; have HB := n1_; have HO185 := n2_; clear n0_ n1_ n2_; clear ho hb hg hat)); try go_wp2_with (first | ((with_reducible refine gate_dst (N := 10) rfl ?_); refine box_event ?hg (N := 10) ?hd (cs := #[.string (⟨#[]⟩ : ByteArray), .int .i64 0, .int .i64 0, .int .i64 0]) (t := 43) ?hr ?_; (case hd => rfl); (case hg => rfl); (case hr => first | (go_simp; done) | (go_simp; rfl)); intro gb182 hg w14 hbox hb; have n0_ := Aside0.mk (Kd.R_below (by (with_reducible repeat (first | apply Kd.R_alloc | apply Kd.R_drewN | apply Kd.R_drew)); exact HO_8.out) hb); have n1_ := Aside0.mk (below_step (by repeat (first | (with_reducible first | exact HB.out | apply below_alloc | apply pw_below_drewN | apply below_drew1) | exact HB.out)) hb); have n2_ := Aside0.mk (hbox); have n3_ := Aside0.mk ((by rw [hg]; exact (below_size (by repeat (first | (with_reducible first | exact HB.out | apply below_alloc | apply pw_below_drewN | apply below_drew1) | exact HB.out))) : w.heap.size ≤ gb182)); have n4_ := Aside0.mk ((by rw [hg]; exact (below_size (by repeat (first | (with_reducible first | exact HB.out | apply below_alloc | apply pw_below_drewN | apply below_drew1) | exact HB.out))) : w.heap.size ≤ gb182)); clear HO_8; clear HB; have HO_8 := n0_; have HB := n1_; have BK182 := n2_; have GW182 := n3_; have GE182 := n4_; clear n0_ n1_ n2_ n3_ n4_; clear hb hbox hg; have hcz15_0 : w14.cell? ⟨gb182, 0, none⟩ = some (.string (⟨#[]⟩ : ByteArray)) := (blk_cell BK182.out 0).trans rfl; have hcz15_1 : w14.cell? ⟨gb182, 1, none⟩ = some (.int .i64 0) := (blk_cell BK182.out 1).trans rfl; have hcz15_2 : w14.cell? ⟨gb182, 2, none⟩ = some (.int .i64 0) := (blk_cell BK182.out 2).trans rfl; have hcz15_3 : w14.cell? ⟨gb182, 3, none⟩ = some (.int .i64 0) := (blk_cell BK182.out 3).trans rfl; have hfz15_0 := blk_frozen BK182.out 0; have hfz15_1 := blk_frozen BK182.out 1; have hfz15_2 := blk_frozen BK182.out 2; have hfz15_3 := blk_frozen BK182.out 3) | ((with_reducible refine gate_builtin (b := .append) (xs := #[.tmp 38, .tmp 41]) rfl ?_); at_builtin; refine Kd.R_append (Kd.int .i64) (w0 := w) w.heap.size rfl (.tmp 38) (.tmp 41) 22 3 (.int .i64 0) 8 rfl Try.underlying22 info3 rfl (by decide) (by omega) u8 x8_2 ((rd_T43 l1 x34_2).f2) [.int .i64 ((rd_T43 l1 x34_2).f2)] (fun _ => True) (fun _ => False) rfl (by first | (go_simp; done) | (go_simp; rfl)) ?aP (fun _ hk => hk.elim) ?aF ?aO ?aB ?aS ?aL ?_; (case aP => exact rfl); (case aB => exact (by repeat (first | (with_reducible first | exact HB.out | apply below_alloc | apply pw_below_drewN | apply below_drew1 | refine below_set ?_ GE182.out) | exact HB.out))); (case aF => exact (fun _ _ => trivial)); (case aO => exact (by (with_reducible repeat (first | apply Kd.R_alloc | apply Kd.R_drewN | apply Kd.R_drew)); exact Kd.R_mono (Kd.R_far (p := ⟨gb182, 3, none⟩) (Kd.R_far (p := ⟨gb182, 2, none⟩) (Kd.R_far (p := ⟨gb182, 1, none⟩) (Kd.R_far (p := ⟨gb182, 0, none⟩) (Kd.R_types HO_8.out BK182.out (by decide)) (fun _ hk => hk.2) (.string ((rd_T43 l1 x34_2).f0))) (fun _ hk => hk.2) (.int .i64 ((rd_T43 l1 x34_2).f1))) (fun _ hk => hk.2) (.int .i64 ((rd_T43 l1 x34_2).f2))) (fun _ hk => hk.2) (.int .i64 ((rd_T43 l1 x34_2).f3))) (fun _ hk => trivial))); (case aS => exact (below_size (by repeat (first | (with_reducible first | exact HB.out | apply below_alloc | apply pw_below_drewN | apply below_drew1 | refine below_set ?_ GE182.out) | exact HB.out)))); (case aL => have := LMc13.out; omega); intro v184 w16 ho hb hg hat; rw [← Ny183.out] at ho; have n0_ := Aside0.mk (blk_grown (g := gb182) (o := .cells #[.string ((rd_T43 l1 x34_2).f0), .int .i64 ((rd_T43 l1 x34_2).f1), .int .i64 ((rd_T43 l1 x34_2).f2), .int .i64 ((rd_T43 l1 x34_2).f3)] 43 (0, 0)) (by (with_reducible repeat (first | refine blk_drewN ?_ _ | refine blk_drew ?_ | refine blk_alloc ?_ _)); refine blk_put (cs := #[.string ((rd_T43 l1 x34_2).f0), .int .i64 ((rd_T43 l1 x34_2).f1), .int .i64 ((rd_T43 l1 x34_2).f2), .int .i64 0]) ?_ 3 _ rfl; (with_reducible repeat (first | refine blk_drewN ?_ _ | refine blk_drew ?_ | refine blk_alloc ?_ _)); refine blk_put (cs := #[.string ((rd_T43 l1 x34_2).f0), .int .i64 ((rd_T43 l1 x34_2).f1), .int .i64 0, .int .i64 0]) ?_ 2 _ rfl; (with_reducible repeat (first | refine blk_drewN ?_ _ | refine blk_drew ?_ | refine blk_alloc ?_ _)); refine blk_put (cs := #[.string ((rd_T43 l1 x34_2).f0), .int .i64 0, .int .i64 0, .int .i64 0]) ?_ 1 _ rfl; (with_reducible repeat (first | refine blk_drewN ?_ _ | refine blk_drew ?_ | refine blk_alloc ?_ _)); refine blk_put (cs := #[.string (⟨#[]⟩ : ByteArray), .int .i64 0, .int .i64 0, .int .i64 0]) ?_ 0 _ rfl; (with_reducible repeat (first | refine blk_drewN ?_ _ | refine blk_drew ?_ | refine blk_alloc ?_ _)); exact BK182.out) hg (Kd.R_ne HO_8.out BK182.out (by decide))); have n1_ := Aside0.mk (hb); have n2_ := Aside0.mk (ho); clear BK182; clear HB; clear HO_8; have BK182 := n0_; have HB := n1_; have HO185 := n2_; clear n0_ n1_ n2_; clear ho hb hg hat)))
          go_roundg k2
          case measure => have := HJ3.out; have := HK2.out; omega
          case rel => exact ⟨(y183), (wrap64 (x34_2 + 1)), (by first | rfl | (simp; done) | (simp [*]; done)), H', ⟨by have := HJ3.out; have := HK2.out; omega⟩, ⟨by (with_reducible repeat (first | apply Kd.R_alloc | apply Kd.R_drewN | apply Kd.R_drew)); exact HO185.out⟩, ⟨by repeat (first | (with_reducible first | exact HB.out | apply below_alloc | apply pw_below_drewN | apply below_drew1 | refine below_set ?_ GE182.out) | exact HB.out)⟩⟩
         ·
          rw [if_neg c13] at H
          exact absurd H (by simp)
        ·
         rw [if_neg c12] at H
         exact absurd H (by simp)
       ·
        rw [if_neg c11] at H
        exact absurd H (by simp)
      ·
       rw [if_neg c10] at H
       have c10b0 : decide (x34_2 < (l1.length : Int)) = false := decide_eq_false c10
       clear c10
       have H' := Aside0.mk H
       clear H
       go_wp2
       repeat (go_quiet (fail); try go_wp2)
       go_loopg [11] k2 (fun kq v11 w' => ∃ (x8_3 : List Int) (x11_3 : Int), v11 = .int .i64 x11_3 ∧ Aside0 (impl_ShareOut.l1 kq l1 x8_3 x11_3 = some (r1, r2)) ∧ Aside0 (kq ≤ k2) ∧ Aside0 (Kd.R (Kd.int .i64) 3 w' w.heap.size (fun _ => True) u8 x8_3) ∧ Aside0 (Below w.heap.size w w'))
       case atStart => exact ⟨(x8_2), (wrap64 (a0 - t178)), (by first | rfl | (simp; done) | (simp [*]; done)), H', ⟨Nat.le_refl _⟩, ⟨by (with_reducible repeat (first | apply Kd.R_alloc | apply Kd.R_drewN | apply Kd.R_drew)); exact HO_8.out⟩, ⟨by repeat (first | (with_reducible first | exact HB.out | apply below_alloc | apply pw_below_drewN | apply below_drew1) | exact HB.out)⟩⟩
       case round =>
        clear H'
        try clear c1
        try clear p1
        try clear q1
        try clear hx1
        try clear p2
        try clear c3
        try clear c6
        try clear c6b0
        try clear p6
        try clear c8
        try clear c9
        try clear c10
        try clear c10b0
        try clear c11
        try clear c11b0
        try clear c12
        try clear c12b0
        try clear c13
        try clear hcz15_0
        try clear hcz15_1
        try clear hcz15_2
        try clear hcz15_3
        try clear hfz15_0
        try clear hfz15_1
        try clear hfz15_2
        try clear hfz15_3
        try clear hx181_0
        try clear hx181_1
        try clear hx181_2
        try clear hx181_3
        try clear p181
        try clear p2
        try clear q181
        obtain ⟨x8_3, x11_3, rfl, HA, HK3, HO_8, HB⟩ := hrel
        cases gk with
        | zero => exact absurd HA.out (by simp [impl_ShareOut.l1])
        | succ k3 =>
         have H := HA.out
         clear HA
         simp only [impl_ShareOut.l1] at H
         by_cases c17 : x11_3 > 0
         ·
          rw [if_pos c17] at H
          have c17b0 : decide (0 < x11_3) = true := decide_eq_true c17
          clear c17
          have H' := Aside0.mk H
          clear H
          go_wp2
          repeat (go_quiet (fail); try go_wp2)
          go_loopg [12, 53] k3 (fun kq v12 v53 w' => ∃ (x12_4 : Int) (x53_4 : Int), v12 = .int .i64 x12_4 ∧ v53 = .int .i64 x53_4 ∧ Aside0 (impl_ShareOut.l2 kq l1 x8_3 x11_3 x12_4 l1 (l1.length : Int) x53_4 = some (r1, r2)) ∧ Aside0 (kq ≤ k3) ∧ Aside0 (Kd.R (Kd.int .i64) 3 w' w.heap.size (fun _ => True) u8 x8_3) ∧ Aside0 (Below w.heap.size w w'))
          case atStart => exact ⟨((-1)), (0), (by first | rfl | (simp; done) | (simp [*]; done)), (by first | rfl | (simp; done) | (simp [*]; done)), H', ⟨Nat.le_refl _⟩, ⟨by (with_reducible repeat (first | apply Kd.R_alloc | apply Kd.R_drewN | apply Kd.R_drew)); exact HO_8.out⟩, ⟨by repeat (first | (with_reducible first | exact HB.out | apply below_alloc | apply pw_below_drewN | apply below_drew1) | exact HB.out)⟩⟩
          case round =>
           clear H'
           try clear c1
           try clear p1
           try clear q1
           try clear hx1
           try clear p2
           try clear c3
           try clear c6
           try clear c6b0
           try clear p6
           try clear c8
           try clear c9
           try clear c10
           try clear c10b0
           try clear c11
           try clear c11b0
           try clear c12
           try clear c12b0
           try clear c13
           try clear c17
           try clear c17b0
           try clear hcz15_0
           try clear hcz15_1
           try clear hcz15_2
           try clear hcz15_3
           try clear hfz15_0
           try clear hfz15_1
           try clear hfz15_2
           try clear hfz15_3
           try clear hx181_0
           try clear hx181_1
           try clear hx181_2
           try clear hx181_3
           try clear p1
           try clear p181
           try clear p2
           try clear p6
           try clear q1
           try clear q181
           obtain ⟨x12_4, x53_4, rfl, rfl, HA, HK4, HO_8, HB⟩ := hrel
           cases gk with
           | zero => exact absurd HA.out (by simp [impl_ShareOut.l2])
           | succ k4 =>
            have H := HA.out
            clear HA
            simp only [impl_ShareOut.l2] at H
            by_cases c18 : x53_4 < (l1.length : Int)
            ·
             rw [if_pos c18] at H
             have c18b0 : decide (x53_4 < (l1.length : Int)) = true := decide_eq_true c18
             clear c18
             by_cases c19 : 0 ≤ x53_4
             ·
              rw [if_pos c19] at H
              have c19b0 : decide (0 ≤ x53_4) = true := decide_eq_true c19
              clear c19
              by_cases c20 : x53_4 < (l1.length : Int)
              ·
               rw [if_pos c20] at H
               have c20b0 : decide (x53_4 < (l1.length : Int)) = true := decide_eq_true c20
               clear c20
               by_cases c21 : x53_4 < (x8_3.length : Int)
               ·
                rw [if_pos c21] at H
                have c21b0 : decide (x53_4 < (x8_3.length : Int)) = true := decide_eq_true c21
                clear c21
                by_cases c22 : (rd x8_3 x53_4) < ((rd_T43 l1 x53_4).f1)
                ·
                 rw [if_pos c22] at H
                 have c22b0 : decide ((rd x8_3 x53_4) < ((rd_T43 l1 x53_4).f1)) = true := decide_eq_true c22
                 clear c22
                 by_cases c23 : x12_4 < 0
                 ·
                  rw [if_pos c23] at H
                  have c23b0 : decide (x12_4 < 0) = true := decide_eq_true c23
                  clear c23
                  have H' := Aside0.mk H
                  clear H
                  have p186 : 0 ≤ (x53_4 : Int) := of_decide_eq_true (by first | (with_reducible assumption) | assumption)
                  have q186 : x53_4 < (l1.length : Int) := of_decide_eq_true (by first | (with_reducible assumption) | assumption)
                  obtain ⟨ad186, e186, hx186_0, hx186_1, hx186_2, hx186_3⟩ := at_T43 HR1.out x53_4 p186 q186
                  cases e186
                  replace hx186_0 := (HB.out.cell (World.block_lt_of_cell? w _ hx186_0)).trans hx186_0
                  replace hx186_1 := (HB.out.cell (World.block_lt_of_cell? w _ hx186_1)).trans hx186_1
                  replace hx186_2 := (HB.out.cell (World.block_lt_of_cell? w _ hx186_2)).trans hx186_2
                  replace hx186_3 := (HB.out.cell (World.block_lt_of_cell? w _ hx186_3)).trans hx186_3
                  replace p186 := eq_true p186
                  replace q186 := eq_true q186
                  go_wp2_with (first | ((with_reducible refine gate_dst (N := 14) rfl ?_); refine box_event ?hg (N := 14) ?hd (cs := #[.string (⟨#[]⟩ : ByteArray), .int .i64 0, .int .i64 0, .int .i64 0]) (t := 43) ?hr ?_; (case hd => rfl); (case hg => rfl); (case hr => first | (go_simp; done) | (go_simp; rfl)); intro gb187 hg w24 hbox hb; have n0_ := Aside0.mk (Kd.R_below (by (with_reducible repeat (first | apply Kd.R_alloc | apply Kd.R_drewN | apply Kd.R_drew)); exact HO_8.out) hb); have n1_ := Aside0.mk (below_step (by repeat (first | (with_reducible first | exact HB.out | apply below_alloc | apply pw_below_drewN | apply below_drew1) | exact HB.out)) hb); have n2_ := Aside0.mk (hbox); have n3_ := Aside0.mk ((by rw [hg]; exact (below_size (by repeat (first | (with_reducible first | exact HB.out | apply below_alloc | apply pw_below_drewN | apply below_drew1) | exact HB.out))) : w.heap.size ≤ gb187)); have n4_ := Aside0.mk ((by rw [hg]; exact (below_size (by repeat (first | (with_reducible first | exact HB.out | apply below_alloc | apply pw_below_drewN | apply below_drew1) | exact HB.out))) : w.heap.size ≤ gb187)); clear HO_8; clear HB; have HO_8 := n0_; have HB := n1_; have BK187 := n2_; have GW187 := n3_; have GE187 := n4_; clear n0_ n1_ n2_ n3_ n4_; clear hb hbox hg; have hcz25_0 : w24.cell? ⟨gb187, 0, none⟩ = some (.string (⟨#[]⟩ : ByteArray)) := (blk_cell BK187.out 0).trans rfl; have hcz25_1 : w24.cell? ⟨gb187, 1, none⟩ = some (.int .i64 0) := (blk_cell BK187.out 1).trans rfl; have hcz25_2 : w24.cell? ⟨gb187, 2, none⟩ = some (.int .i64 0) := (blk_cell BK187.out 2).trans rfl; have hcz25_3 : w24.cell? ⟨gb187, 3, none⟩ = some (.int .i64 0) := (blk_cell BK187.out 3).trans rfl; have hfz25_0 := blk_frozen BK187.out 0; have hfz25_1 := blk_frozen BK187.out 1; have hfz25_2 := blk_frozen BK187.out 2; have hfz25_3 := blk_frozen BK187.out 3; obtain ⟨Ao26, co26, eo26⟩ := Kd.R_slice HO_8.out; subst eo26; have p188 : 0 ≤ (x53_4 : Int) := of_decide_eq_true (by first | (with_reducible assumption) | assumption); have q188 : x53_4 < (x8_3.length : Int) := of_decide_eq_true (by first | (with_reducible assumption) | assumption); obtain ⟨ad188, e188, hx188_0⟩ := Kd.at_int (Kd.R_reads' HO_8.out).2.2 x53_4 p188 q188; cases e188; have hn188_0 : ad188.block ≠ gb187 := Kd.own_blk (Kd.R_ne HO_8.out BK187.out (by decide)); have hn188_1 : ad188.block ≠ gb187 := Kd.own_blk (Kd.R_ne HO_8.out BK187.out (by decide)); have hn188_2 : ad188.block ≠ gb187 := Kd.own_blk (Kd.R_ne HO_8.out BK187.out (by decide)); have hn188_3 : ad188.block ≠ gb187 := Kd.own_blk (Kd.R_ne HO_8.out BK187.out (by decide)); replace hx188_0 := (cell_far (p := ⟨gb187, 0, none⟩) (by first | (rw [add_block]; exact hn188_0) | (show (Addr.add _ _).block ≠ _; rw [add_block]; exact hn188_0) | exact hn188_0) (.string ((rd_T43 l1 x53_4).f0))).trans hx188_0; replace hx188_0 := (cell_far (p := ⟨gb187, 1, none⟩) (by first | (rw [add_block]; exact hn188_1) | (show (Addr.add _ _).block ≠ _; rw [add_block]; exact hn188_1) | exact hn188_1) (.int .i64 ((rd_T43 l1 x53_4).f1))).trans hx188_0; replace hx188_0 := (cell_far (p := ⟨gb187, 2, none⟩) (by first | (rw [add_block]; exact hn188_2) | (show (Addr.add _ _).block ≠ _; rw [add_block]; exact hn188_2) | exact hn188_2) (.int .i64 ((rd_T43 l1 x53_4).f2))).trans hx188_0; replace hx188_0 := (cell_far (p := ⟨gb187, 3, none⟩) (by first | (rw [add_block]; exact hn188_3) | (show (Addr.add _ _).block ≠ _; rw [add_block]; exact hn188_3) | exact hn188_3) (.int .i64 ((rd_T43 l1 x53_4).f3))).trans hx188_0; (try have hy188_0 := fun (n_ : Nat) => (show ((((((w24.drewN n_).setCell ⟨gb187, 0, none⟩ (.string ((rd_T43 l1 x53_4).f0))).setCell ⟨gb187, 1, none⟩ (.int .i64 ((rd_T43 l1 x53_4).f1))).setCell ⟨gb187, 2, none⟩ (.int .i64 ((rd_T43 l1 x53_4).f2))).setCell ⟨gb187, 3, none⟩ (.int .i64 ((rd_T43 l1 x53_4).f3)))).cell? _ = some _ from hx188_0)); clear hn188_0; clear hn188_1; clear hn188_2; clear hn188_3; replace p188 := eq_true p188; replace q188 := eq_true q188))
                  repeat (go_quiet (first | ((with_reducible refine gate_dst (N := 14) rfl ?_); refine box_event ?hg (N := 14) ?hd (cs := #[.string (⟨#[]⟩ : ByteArray), .int .i64 0, .int .i64 0, .int .i64 0]) (t := 43) ?hr ?_; (case hd => rfl); (case hg => rfl); (case hr => first | (go_simp; done) | (go_simp; rfl)); intro gb187 hg w24 hbox hb; have n0_ := Aside0.mk (Kd.R_below (by (with_reducible repeat (first | apply Kd.R_alloc | apply Kd.R_drewN | apply Kd.R_drew)); exact HO_8.out) hb); have n1_ := Aside0.mk (below_step (by repeat (first | (with_reducible first | exact HB.out | apply below_alloc | apply pw_below_drewN | apply below_drew1) | exact HB.out)) hb); have n2_ := Aside0.mk (hbox); have n3_ := Aside0.mk ((by rw [hg]; exact (below_size (by repeat (first | (with_reducible first | exact HB.out | apply below_alloc | apply pw_below_drewN | apply below_drew1) | exact HB.out))) : w.heap.size ≤ gb187)); have n4_ := Aside0.mk ((by rw [hg]; exact (below_size (by repeat (first | (with_reducible first | exact HB.out | apply below_alloc | apply pw_below_drewN | apply below_drew1) | exact HB.out))) : w.heap.size ≤ gb187)); clear HO_8; clear HB; have HO_8 := n0_; have HB := n1_; have BK187 := n2_; have GW187 := n3_; have GE187 := n4_; clear n0_ n1_ n2_ n3_ n4_; clear hb hbox hg; have hcz25_0 : w24.cell? ⟨gb187, 0, none⟩ = some (.string (⟨#[]⟩ : ByteArray)) := (blk_cell BK187.out 0).trans rfl; have hcz25_1 : w24.cell? ⟨gb187, 1, none⟩ = some (.int .i64 0) := (blk_cell BK187.out 1).trans rfl; have hcz25_2 : w24.cell? ⟨gb187, 2, none⟩ = some (.int .i64 0) := (blk_cell BK187.out 2).trans rfl; have hcz25_3 : w24.cell? ⟨gb187, 3, none⟩ = some (.int .i64 0) := (blk_cell BK187.out 3).trans rfl; have hfz25_0 := blk_frozen BK187.out 0; have hfz25_1 := blk_frozen BK187.out 1; have hfz25_2 := blk_frozen BK187.out 2; have hfz25_3 := blk_frozen BK187.out 3; obtain ⟨Ao26, co26, eo26⟩ := Kd.R_slice HO_8.out; subst eo26; have p188 : 0 ≤ (x53_4 : Int) := of_decide_eq_true (by first | (with_reducible assumption) | assumption); have q188 : x53_4 < (x8_3.length : Int) := of_decide_eq_true (by first | (with_reducible assumption) | assumption); obtain ⟨ad188, e188, hx188_0⟩ := Kd.at_int (Kd.R_reads' HO_8.out).2.2 x53_4 p188 q188; cases e188; have hn188_0 : ad188.block ≠ gb187 := Kd.own_blk (Kd.R_ne HO_8.out BK187.out (by decide)); have hn188_1 : ad188.block ≠ gb187 := Kd.own_blk (Kd.R_ne HO_8.out BK187.out (by decide)); have hn188_2 : ad188.block ≠ gb187 := Kd.own_blk (Kd.R_ne HO_8.out BK187.out (by decide)); have hn188_3 : ad188.block ≠ gb187 := Kd.own_blk (Kd.R_ne HO_8.out BK187.out (by decide)); replace hx188_0 := (cell_far (p := ⟨gb187, 0, none⟩) (by first | (rw [add_block]; exact hn188_0) | (show (Addr.add _ _).block ≠ _; rw [add_block]; exact hn188_0) | exact hn188_0) (.string ((rd_T43 l1 x53_4).f0))).trans hx188_0; replace hx188_0 := (cell_far (p := ⟨gb187, 1, none⟩) (by first | (rw [add_block]; exact hn188_1) | (show (Addr.add _ _).block ≠ _; rw [add_block]; exact hn188_1) | exact hn188_1) (.int .i64 ((rd_T43 l1 x53_4).f1))).trans hx188_0; replace hx188_0 := (cell_far (p := ⟨gb187, 2, none⟩) (by first | (rw [add_block]; exact hn188_2) | (show (Addr.add _ _).block ≠ _; rw [add_block]; exact hn188_2) | exact hn188_2) (.int .i64 ((rd_T43 l1 x53_4).f2))).trans hx188_0; replace hx188_0 := (cell_far (p := ⟨gb187, 3, none⟩) (by first | (rw [add_block]; exact hn188_3) | (show (Addr.add _ _).block ≠ _; rw [add_block]; exact hn188_3) | exact hn188_3) (.int .i64 ((rd_T43 l1 x53_4).f3))).trans hx188_0; (try have hy188_0 := fun (n_ : Nat) => (show ((((((w24.drewN n_).setCell ⟨gb187, 0, none⟩ (.string ((rd_T43 l1 x53_4).f0))).setCell ⟨gb187, 1, none⟩ (.int .i64 ((rd_T43 l1 x53_4).f1))).setCell ⟨gb187, 2, none⟩ (.int .i64 ((rd_T43 l1 x53_4).f2))).setCell ⟨gb187, 3, none⟩ (.int .i64 ((rd_T43 l1 x53_4).f3)))).cell? _ = some _ from hx188_0)); clear hn188_0; clear hn188_1; clear hn188_2; clear hn188_3; replace p188 := eq_true p188; replace q188 := eq_true q188)); try go_wp2_with (first | ((with_reducible refine gate_dst (N := 14) rfl ?_); refine box_event ?hg (N := 14) ?hd (cs := #[.string (⟨#[]⟩ : ByteArray), .int .i64 0, .int .i64 0, .int .i64 0]) (t := 43) ?hr ?_; (case hd => rfl); (case hg => rfl); (case hr => first | (go_simp; done) | (go_simp; rfl)); intro gb187 hg w24 hbox hb; have n0_ := Aside0.mk (Kd.R_below (by (with_reducible repeat (first | apply Kd.R_alloc | apply Kd.R_drewN | apply Kd.R_drew)); exact HO_8.out) hb); have n1_ := Aside0.mk (below_step (by repeat (first | (with_reducible first | exact HB.out | apply below_alloc | apply pw_below_drewN | apply below_drew1) | exact HB.out)) hb); have n2_ := Aside0.mk (hbox); have n3_ := Aside0.mk ((by rw [hg]; exact (below_size (by repeat (first | (with_reducible first | exact HB.out | apply below_alloc | apply pw_below_drewN | apply below_drew1) | exact HB.out))) : w.heap.size ≤ gb187)); have n4_ := Aside0.mk ((by rw [hg]; exact (below_size (by repeat (first | (with_reducible first | exact HB.out | apply below_alloc | apply pw_below_drewN | apply below_drew1) | exact HB.out))) : w.heap.size ≤ gb187)); clear HO_8; clear HB; have HO_8 := n0_; have HB := n1_; have BK187 := n2_; have GW187 := n3_; have GE187 := n4_; clear n0_ n1_ n2_ n3_ n4_; clear hb hbox hg; have hcz25_0 : w24.cell? ⟨gb187, 0, none⟩ = some (.string (⟨#[]⟩ : ByteArray)) := (blk_cell BK187.out 0).trans rfl; have hcz25_1 : w24.cell? ⟨gb187, 1, none⟩ = some (.int .i64 0) := (blk_cell BK187.out 1).trans rfl; have hcz25_2 : w24.cell? ⟨gb187, 2, none⟩ = some (.int .i64 0) := (blk_cell BK187.out 2).trans rfl; have hcz25_3 : w24.cell? ⟨gb187, 3, none⟩ = some (.int .i64 0) := (blk_cell BK187.out 3).trans rfl; have hfz25_0 := blk_frozen BK187.out 0; have hfz25_1 := blk_frozen BK187.out 1; have hfz25_2 := blk_frozen BK187.out 2; have hfz25_3 := blk_frozen BK187.out 3; obtain ⟨Ao26, co26, eo26⟩ := Kd.R_slice HO_8.out; subst eo26; have p188 : 0 ≤ (x53_4 : Int) := of_decide_eq_true (by first | (with_reducible assumption) | assumption); have q188 : x53_4 < (x8_3.length : Int) := of_decide_eq_true (by first | (with_reducible assumption) | assumption); obtain ⟨ad188, e188, hx188_0⟩ := Kd.at_int (Kd.R_reads' HO_8.out).2.2 x53_4 p188 q188; cases e188; have hn188_0 : ad188.block ≠ gb187 := Kd.own_blk (Kd.R_ne HO_8.out BK187.out (by decide)); have hn188_1 : ad188.block ≠ gb187 := Kd.own_blk (Kd.R_ne HO_8.out BK187.out (by decide)); have hn188_2 : ad188.block ≠ gb187 := Kd.own_blk (Kd.R_ne HO_8.out BK187.out (by decide)); have hn188_3 : ad188.block ≠ gb187 := Kd.own_blk (Kd.R_ne HO_8.out BK187.out (by decide)); replace hx188_0 := (cell_far (p := ⟨gb187, 0, none⟩) (by first | (rw [add_block]; exact hn188_0) | (show (Addr.add _ _).block ≠ _; rw [add_block]; exact hn188_0) | exact hn188_0) (.string ((rd_T43 l1 x53_4).f0))).trans hx188_0; replace hx188_0 := (cell_far (p := ⟨gb187, 1, none⟩) (by first | (rw [add_block]; exact hn188_1) | (show (Addr.add _ _).block ≠ _; rw [add_block]; exact hn188_1) | exact hn188_1) (.int .i64 ((rd_T43 l1 x53_4).f1))).trans hx188_0; replace hx188_0 := (cell_far (p := ⟨gb187, 2, none⟩) (by first | (rw [add_block]; exact hn188_2) | (show (Addr.add _ _).block ≠ _; rw [add_block]; exact hn188_2) | exact hn188_2) (.int .i64 ((rd_T43 l1 x53_4).f2))).trans hx188_0; replace hx188_0 := (cell_far (p := ⟨gb187, 3, none⟩) (by first | (rw [add_block]; exact hn188_3) | (show (Addr.add _ _).block ≠ _; rw [add_block]; exact hn188_3) | exact hn188_3) (.int .i64 ((rd_T43 l1 x53_4).f3))).trans hx188_0; (try have hy188_0 := fun (n_ : Nat) => (show ((((((w24.drewN n_).setCell ⟨gb187, 0, none⟩ (.string ((rd_T43 l1 x53_4).f0))).setCell ⟨gb187, 1, none⟩ (.int .i64 ((rd_T43 l1 x53_4).f1))).setCell ⟨gb187, 2, none⟩ (.int .i64 ((rd_T43 l1 x53_4).f2))).setCell ⟨gb187, 3, none⟩ (.int .i64 ((rd_T43 l1 x53_4).f3)))).cell? _ = some _ from hx188_0)); clear hn188_0; clear hn188_1; clear hn188_2; clear hn188_3; replace p188 := eq_true p188; replace q188 := eq_true q188)))
                  go_roundg k4
                  case measure => have := HJ3.out; have := HK2.out; have := HK3.out; have := HK4.out; omega
                  case rel => exact ⟨(x53_4), (wrap64 (x53_4 + 1)), (by first | rfl | (simp; done) | (simp [*]; done)), (by first | rfl | (simp; done) | (simp [*]; done)), H', ⟨by have := HJ3.out; have := HK2.out; have := HK3.out; have := HK4.out; omega⟩, ⟨by (with_reducible repeat (first | apply Kd.R_alloc | apply Kd.R_drewN | apply Kd.R_drew)); exact Kd.R_mono (Kd.R_far (p := ⟨gb187, 3, none⟩) (Kd.R_far (p := ⟨gb187, 2, none⟩) (Kd.R_far (p := ⟨gb187, 1, none⟩) (Kd.R_far (p := ⟨gb187, 0, none⟩) (Kd.R_types HO_8.out BK187.out (by decide)) (fun _ hk => hk.2) (.string ((rd_T43 l1 x53_4).f0))) (fun _ hk => hk.2) (.int .i64 ((rd_T43 l1 x53_4).f1))) (fun _ hk => hk.2) (.int .i64 ((rd_T43 l1 x53_4).f2))) (fun _ hk => hk.2) (.int .i64 ((rd_T43 l1 x53_4).f3))) (fun _ hk => trivial)⟩, ⟨by repeat (first | (with_reducible first | exact HB.out | apply below_alloc | apply pw_below_drewN | apply below_drew1 | refine below_set ?_ GE187.out) | exact HB.out)⟩⟩
                 ·
                  rw [if_neg c23] at H
                  have c23b0 : decide (x12_4 < 0) = false := decide_eq_false c23
                  clear c23
                  by_cases c27 : 0 ≤ x12_4
                  ·
                   rw [if_pos c27] at H
                   have c27b0 : decide (0 ≤ x12_4) = true := decide_eq_true c27
                   clear c27
                   by_cases c28 : x12_4 < (l1.length : Int)
                   ·
                    rw [if_pos c28] at H
                    have c28b0 : decide (x12_4 < (l1.length : Int)) = true := decide_eq_true c28
                    clear c28
                    by_cases c29 : x12_4 < (x8_3.length : Int)
                    ·
                     rw [if_pos c29] at H
                     have c29b0 : decide (x12_4 < (x8_3.length : Int)) = true := decide_eq_true c29
                     clear c29
                     by_cases c30 : (wrap64 ((rd x8_3 x53_4) * ((rd_T43 l1 x12_4).f3))) < (wrap64 ((rd x8_3 x12_4) * ((rd_T43 l1 x53_4).f3)))
                     ·
                      rw [if_pos c30] at H
                      have c30b0 : decide ((wrap64 ((rd x8_3 x53_4) * ((rd_T43 l1 x12_4).f3))) < (wrap64 ((rd x8_3 x12_4) * ((rd_T43 l1 x53_4).f3)))) = true := decide_eq_true c30
                      clear c30
                      have H' := Aside0.mk H
                      clear H
                      have p186 : 0 ≤ (x53_4 : Int) := of_decide_eq_true (by first | (with_reducible assumption) | assumption)
                      have q186 : x53_4 < (l1.length : Int) := of_decide_eq_true (by first | (with_reducible assumption) | assumption)
                      obtain ⟨ad186, e186, hx186_0, hx186_1, hx186_2, hx186_3⟩ := at_T43 HR1.out x53_4 p186 q186
                      cases e186
                      replace hx186_0 := (HB.out.cell (World.block_lt_of_cell? w _ hx186_0)).trans hx186_0
                      replace hx186_1 := (HB.out.cell (World.block_lt_of_cell? w _ hx186_1)).trans hx186_1
                      replace hx186_2 := (HB.out.cell (World.block_lt_of_cell? w _ hx186_2)).trans hx186_2
                      replace hx186_3 := (HB.out.cell (World.block_lt_of_cell? w _ hx186_3)).trans hx186_3
                      replace p186 := eq_true p186
                      replace q186 := eq_true q186
                      go_wp2_with (first | ((with_reducible refine gate_dst (N := 14) rfl ?_); refine box_event ?hg (N := 14) ?hd (cs := #[.string (⟨#[]⟩ : ByteArray), .int .i64 0, .int .i64 0, .int .i64 0]) (t := 43) ?hr ?_; (case hd => rfl); (case hg => rfl); (case hr => first | (go_simp; done) | (go_simp; rfl)); intro gb187 hg w31 hbox hb; have n0_ := Aside0.mk (Kd.R_below (by (with_reducible repeat (first | apply Kd.R_alloc | apply Kd.R_drewN | apply Kd.R_drew)); exact HO_8.out) hb); have n1_ := Aside0.mk (below_step (by repeat (first | (with_reducible first | exact HB.out | apply below_alloc | apply pw_below_drewN | apply below_drew1) | exact HB.out)) hb); have n2_ := Aside0.mk (hbox); have n3_ := Aside0.mk ((by rw [hg]; exact (below_size (by repeat (first | (with_reducible first | exact HB.out | apply below_alloc | apply pw_below_drewN | apply below_drew1) | exact HB.out))) : w.heap.size ≤ gb187)); have n4_ := Aside0.mk ((by rw [hg]; exact (below_size (by repeat (first | (with_reducible first | exact HB.out | apply below_alloc | apply pw_below_drewN | apply below_drew1) | exact HB.out))) : w.heap.size ≤ gb187)); clear HO_8; clear HB; have HO_8 := n0_; have HB := n1_; have BK187 := n2_; have GW187 := n3_; have GE187 := n4_; clear n0_ n1_ n2_ n3_ n4_; clear hb hbox hg; have hcz32_0 : w31.cell? ⟨gb187, 0, none⟩ = some (.string (⟨#[]⟩ : ByteArray)) := (blk_cell BK187.out 0).trans rfl; have hcz32_1 : w31.cell? ⟨gb187, 1, none⟩ = some (.int .i64 0) := (blk_cell BK187.out 1).trans rfl; have hcz32_2 : w31.cell? ⟨gb187, 2, none⟩ = some (.int .i64 0) := (blk_cell BK187.out 2).trans rfl; have hcz32_3 : w31.cell? ⟨gb187, 3, none⟩ = some (.int .i64 0) := (blk_cell BK187.out 3).trans rfl; have hfz32_0 := blk_frozen BK187.out 0; have hfz32_1 := blk_frozen BK187.out 1; have hfz32_2 := blk_frozen BK187.out 2; have hfz32_3 := blk_frozen BK187.out 3; obtain ⟨Ao33, co33, eo33⟩ := Kd.R_slice HO_8.out; subst eo33; have p188 : 0 ≤ (x53_4 : Int) := of_decide_eq_true (by first | (with_reducible assumption) | assumption); have q188 : x53_4 < (x8_3.length : Int) := of_decide_eq_true (by first | (with_reducible assumption) | assumption); obtain ⟨ad188, e188, hx188_0⟩ := Kd.at_int (Kd.R_reads' HO_8.out).2.2 x53_4 p188 q188; cases e188; have hn188_0 : ad188.block ≠ gb187 := Kd.own_blk (Kd.R_ne HO_8.out BK187.out (by decide)); have hn188_1 : ad188.block ≠ gb187 := Kd.own_blk (Kd.R_ne HO_8.out BK187.out (by decide)); have hn188_2 : ad188.block ≠ gb187 := Kd.own_blk (Kd.R_ne HO_8.out BK187.out (by decide)); have hn188_3 : ad188.block ≠ gb187 := Kd.own_blk (Kd.R_ne HO_8.out BK187.out (by decide)); replace hx188_0 := (cell_far (p := ⟨gb187, 0, none⟩) (by first | (rw [add_block]; exact hn188_0) | (show (Addr.add _ _).block ≠ _; rw [add_block]; exact hn188_0) | exact hn188_0) (.string ((rd_T43 l1 x53_4).f0))).trans hx188_0; replace hx188_0 := (cell_far (p := ⟨gb187, 1, none⟩) (by first | (rw [add_block]; exact hn188_1) | (show (Addr.add _ _).block ≠ _; rw [add_block]; exact hn188_1) | exact hn188_1) (.int .i64 ((rd_T43 l1 x53_4).f1))).trans hx188_0; replace hx188_0 := (cell_far (p := ⟨gb187, 2, none⟩) (by first | (rw [add_block]; exact hn188_2) | (show (Addr.add _ _).block ≠ _; rw [add_block]; exact hn188_2) | exact hn188_2) (.int .i64 ((rd_T43 l1 x53_4).f2))).trans hx188_0; replace hx188_0 := (cell_far (p := ⟨gb187, 3, none⟩) (by first | (rw [add_block]; exact hn188_3) | (show (Addr.add _ _).block ≠ _; rw [add_block]; exact hn188_3) | exact hn188_3) (.int .i64 ((rd_T43 l1 x53_4).f3))).trans hx188_0; (try have hy188_0 := fun (n_ : Nat) => (show ((((((w31.drewN n_).setCell ⟨gb187, 0, none⟩ (.string ((rd_T43 l1 x53_4).f0))).setCell ⟨gb187, 1, none⟩ (.int .i64 ((rd_T43 l1 x53_4).f1))).setCell ⟨gb187, 2, none⟩ (.int .i64 ((rd_T43 l1 x53_4).f2))).setCell ⟨gb187, 3, none⟩ (.int .i64 ((rd_T43 l1 x53_4).f3)))).cell? _ = some _ from hx188_0)); clear hn188_0; clear hn188_1; clear hn188_2; clear hn188_3; replace p188 := eq_true p188; replace q188 := eq_true q188; have p189 : 0 ≤ (x53_4 : Int) := of_decide_eq_true (by first | (with_reducible assumption) | assumption); have q189 : x53_4 < (x8_3.length : Int) := of_decide_eq_true (by first | (with_reducible assumption) | assumption); obtain ⟨ad189, e189, hx189_0⟩ := Kd.at_int (Kd.R_reads' HO_8.out).2.2 x53_4 p189 q189; obtain rfl : ad188 = ad189 := (by injection e189); have hn189_0 : ad188.block ≠ gb187 := Kd.own_blk (Kd.R_ne HO_8.out BK187.out (by decide)); have hn189_1 : ad188.block ≠ gb187 := Kd.own_blk (Kd.R_ne HO_8.out BK187.out (by decide)); have hn189_2 : ad188.block ≠ gb187 := Kd.own_blk (Kd.R_ne HO_8.out BK187.out (by decide)); have hn189_3 : ad188.block ≠ gb187 := Kd.own_blk (Kd.R_ne HO_8.out BK187.out (by decide)); replace hx189_0 := (cell_far (p := ⟨gb187, 0, none⟩) (by first | (rw [add_block]; exact hn189_0) | (show (Addr.add _ _).block ≠ _; rw [add_block]; exact hn189_0) | exact hn189_0) (.string ((rd_T43 l1 x53_4).f0))).trans hx189_0; replace hx189_0 := (cell_far (p := ⟨gb187, 1, none⟩) (by first | (rw [add_block]; exact hn189_1) | (show (Addr.add _ _).block ≠ _; rw [add_block]; exact hn189_1) | exact hn189_1) (.int .i64 ((rd_T43 l1 x53_4).f1))).trans hx189_0; replace hx189_0 := (cell_far (p := ⟨gb187, 2, none⟩) (by first | (rw [add_block]; exact hn189_2) | (show (Addr.add _ _).block ≠ _; rw [add_block]; exact hn189_2) | exact hn189_2) (.int .i64 ((rd_T43 l1 x53_4).f2))).trans hx189_0; replace hx189_0 := (cell_far (p := ⟨gb187, 3, none⟩) (by first | (rw [add_block]; exact hn189_3) | (show (Addr.add _ _).block ≠ _; rw [add_block]; exact hn189_3) | exact hn189_3) (.int .i64 ((rd_T43 l1 x53_4).f3))).trans hx189_0; (try have hy189_0 := fun (n_ : Nat) => (show ((((((w31.drewN n_).setCell ⟨gb187, 0, none⟩ (.string ((rd_T43 l1 x53_4).f0))).setCell ⟨gb187, 1, none⟩ (.int .i64 ((rd_T43 l1 x53_4).f1))).setCell ⟨gb187, 2, none⟩ (.int .i64 ((rd_T43 l1 x53_4).f2))).setCell ⟨gb187, 3, none⟩ (.int .i64 ((rd_T43 l1 x53_4).f3)))).cell? _ = some _ from hx189_0)); clear hn189_0; clear hn189_1; clear hn189_2; clear hn189_3; replace p189 := eq_true p189; replace q189 := eq_true q189; have p190 : 0 ≤ (x12_4 : Int) := of_decide_eq_true (by first | (with_reducible assumption) | assumption); have q190 : x12_4 < (l1.length : Int) := of_decide_eq_true (by first | (with_reducible assumption) | assumption); obtain ⟨ad190, e190, hx190_0, hx190_1, hx190_2, hx190_3⟩ := at_T43 HR1.out x12_4 p190 q190; obtain rfl : ad186 = ad190 := (by injection e190); have hn190_0 : ad186.block ≠ gb187 := Nat.ne_of_lt (Nat.lt_of_lt_of_le (by have := World.block_lt_of_cell? _ _ hx190_0; first | rwa [add_block] at this | exact this) GW187.out); have hn190_1 : ad186.block ≠ gb187 := Nat.ne_of_lt (Nat.lt_of_lt_of_le (by have := World.block_lt_of_cell? _ _ hx190_0; first | rwa [add_block] at this | exact this) GW187.out); have hn190_2 : ad186.block ≠ gb187 := Nat.ne_of_lt (Nat.lt_of_lt_of_le (by have := World.block_lt_of_cell? _ _ hx190_0; first | rwa [add_block] at this | exact this) GW187.out); have hn190_3 : ad186.block ≠ gb187 := Nat.ne_of_lt (Nat.lt_of_lt_of_le (by have := World.block_lt_of_cell? _ _ hx190_0; first | rwa [add_block] at this | exact this) GW187.out); replace hx190_0 := (HB.out.cell (World.block_lt_of_cell? w _ hx190_0)).trans hx190_0; replace hx190_1 := (HB.out.cell (World.block_lt_of_cell? w _ hx190_1)).trans hx190_1; replace hx190_2 := (HB.out.cell (World.block_lt_of_cell? w _ hx190_2)).trans hx190_2; replace hx190_3 := (HB.out.cell (World.block_lt_of_cell? w _ hx190_3)).trans hx190_3; replace hx190_0 := (cell_far (p := ⟨gb187, 0, none⟩) (by first | (rw [add_block]; exact hn190_0) | (show (Addr.add _ _).block ≠ _; rw [add_block]; exact hn190_0) | exact hn190_0) (.string ((rd_T43 l1 x53_4).f0))).trans hx190_0; replace hx190_1 := (cell_far (p := ⟨gb187, 0, none⟩) (by first | (rw [add_block]; exact hn190_0) | (show (Addr.add _ _).block ≠ _; rw [add_block]; exact hn190_0) | exact hn190_0) (.string ((rd_T43 l1 x53_4).f0))).trans hx190_1; replace hx190_2 := (cell_far (p := ⟨gb187, 0, none⟩) (by first | (rw [add_block]; exact hn190_0) | (show (Addr.add _ _).block ≠ _; rw [add_block]; exact hn190_0) | exact hn190_0) (.string ((rd_T43 l1 x53_4).f0))).trans hx190_2; replace hx190_3 := (cell_far (p := ⟨gb187, 0, none⟩) (by first | (rw [add_block]; exact hn190_0) | (show (Addr.add _ _).block ≠ _; rw [add_block]; exact hn190_0) | exact hn190_0) (.string ((rd_T43 l1 x53_4).f0))).trans hx190_3; replace hx190_0 := (cell_far (p := ⟨gb187, 1, none⟩) (by first | (rw [add_block]; exact hn190_1) | (show (Addr.add _ _).block ≠ _; rw [add_block]; exact hn190_1) | exact hn190_1) (.int .i64 ((rd_T43 l1 x53_4).f1))).trans hx190_0; replace hx190_1 := (cell_far (p := ⟨gb187, 1, none⟩) (by first | (rw [add_block]; exact hn190_1) | (show (Addr.add _ _).block ≠ _; rw [add_block]; exact hn190_1) | exact hn190_1) (.int .i64 ((rd_T43 l1 x53_4).f1))).trans hx190_1; replace hx190_2 := (cell_far (p := ⟨gb187, 1, none⟩) (by first | (rw [add_block]; exact hn190_1) | (show (Addr.add _ _).block ≠ _; rw [add_block]; exact hn190_1) | exact hn190_1) (.int .i64 ((rd_T43 l1 x53_4).f1))).trans hx190_2; replace hx190_3 := (cell_far (p := ⟨gb187, 1, none⟩) (by first | (rw [add_block]; exact hn190_1) | (show (Addr.add _ _).block ≠ _; rw [add_block]; exact hn190_1) | exact hn190_1) (.int .i64 ((rd_T43 l1 x53_4).f1))).trans hx190_3; replace hx190_0 := (cell_far (p := ⟨gb187, 2, none⟩) (by first | (rw [add_block]; exact hn190_2) | (show (Addr.add _ _).block ≠ _; rw [add_block]; exact hn190_2) | exact hn190_2) (.int .i64 ((rd_T43 l1 x53_4).f2))).trans hx190_0; replace hx190_1 := (cell_far (p := ⟨gb187, 2, none⟩) (by first | (rw [add_block]; exact hn190_2) | (show (Addr.add _ _).block ≠ _; rw [add_block]; exact hn190_2) | exact hn190_2) (.int .i64 ((rd_T43 l1 x53_4).f2))).trans hx190_1; replace hx190_2 := (cell_far (p := ⟨gb187, 2, none⟩) (by first | (rw [add_block]; exact hn190_2) | (show (Addr.add _ _).block ≠ _; rw [add_block]; exact hn190_2) | exact hn190_2) (.int .i64 ((rd_T43 l1 x53_4).f2))).trans hx190_2; replace hx190_3 := (cell_far (p := ⟨gb187, 2, none⟩) (by first | (rw [add_block]; exact hn190_2) | (show (Addr.add _ _).block ≠ _; rw [add_block]; exact hn190_2) | exact hn190_2) (.int .i64 ((rd_T43 l1 x53_4).f2))).trans hx190_3; replace hx190_0 := (cell_far (p := ⟨gb187, 3, none⟩) (by first | (rw [add_block]; exact hn190_3) | (show (Addr.add _ _).block ≠ _; rw [add_block]; exact hn190_3) | exact hn190_3) (.int .i64 ((rd_T43 l1 x53_4).f3))).trans hx190_0; replace hx190_1 := (cell_far (p := ⟨gb187, 3, none⟩) (by first | (rw [add_block]; exact hn190_3) | (show (Addr.add _ _).block ≠ _; rw [add_block]; exact hn190_3) | exact hn190_3) (.int .i64 ((rd_T43 l1 x53_4).f3))).trans hx190_1; replace hx190_2 := (cell_far (p := ⟨gb187, 3, none⟩) (by first | (rw [add_block]; exact hn190_3) | (show (Addr.add _ _).block ≠ _; rw [add_block]; exact hn190_3) | exact hn190_3) (.int .i64 ((rd_T43 l1 x53_4).f3))).trans hx190_2; replace hx190_3 := (cell_far (p := ⟨gb187, 3, none⟩) (by first | (rw [add_block]; exact hn190_3) | (show (Addr.add _ _).block ≠ _; rw [add_block]; exact hn190_3) | exact hn190_3) (.int .i64 ((rd_T43 l1 x53_4).f3))).trans hx190_3; (try have hy190_0 := fun (n_ : Nat) => (show ((((((w31.drewN n_).setCell ⟨gb187, 0, none⟩ (.string ((rd_T43 l1 x53_4).f0))).setCell ⟨gb187, 1, none⟩ (.int .i64 ((rd_T43 l1 x53_4).f1))).setCell ⟨gb187, 2, none⟩ (.int .i64 ((rd_T43 l1 x53_4).f2))).setCell ⟨gb187, 3, none⟩ (.int .i64 ((rd_T43 l1 x53_4).f3)))).cell? _ = some _ from hx190_0)); (try have hy190_1 := fun (n_ : Nat) => (show ((((((w31.drewN n_).setCell ⟨gb187, 0, none⟩ (.string ((rd_T43 l1 x53_4).f0))).setCell ⟨gb187, 1, none⟩ (.int .i64 ((rd_T43 l1 x53_4).f1))).setCell ⟨gb187, 2, none⟩ (.int .i64 ((rd_T43 l1 x53_4).f2))).setCell ⟨gb187, 3, none⟩ (.int .i64 ((rd_T43 l1 x53_4).f3)))).cell? _ = some _ from hx190_1)); (try have hy190_2 := fun (n_ : Nat) => (show ((((((w31.drewN n_).setCell ⟨gb187, 0, none⟩ (.string ((rd_T43 l1 x53_4).f0))).setCell ⟨gb187, 1, none⟩ (.int .i64 ((rd_T43 l1 x53_4).f1))).setCell ⟨gb187, 2, none⟩ (.int .i64 ((rd_T43 l1 x53_4).f2))).setCell ⟨gb187, 3, none⟩ (.int .i64 ((rd_T43 l1 x53_4).f3)))).cell? _ = some _ from hx190_2)); (try have hy190_3 := fun (n_ : Nat) => (show ((((((w31.drewN n_).setCell ⟨gb187, 0, none⟩ (.string ((rd_T43 l1 x53_4).f0))).setCell ⟨gb187, 1, none⟩ (.int .i64 ((rd_T43 l1 x53_4).f1))).setCell ⟨gb187, 2, none⟩ (.int .i64 ((rd_T43 l1 x53_4).f2))).setCell ⟨gb187, 3, none⟩ (.int .i64 ((rd_T43 l1 x53_4).f3)))).cell? _ = some _ from hx190_3)); clear hn190_0; clear hn190_1; clear hn190_2; clear hn190_3; replace p190 := eq_true p190; replace q190 := eq_true q190; have p191 : 0 ≤ (x12_4 : Int) := of_decide_eq_true (by first | (with_reducible assumption) | assumption); have q191 : x12_4 < (x8_3.length : Int) := of_decide_eq_true (by first | (with_reducible assumption) | assumption); obtain ⟨ad191, e191, hx191_0⟩ := Kd.at_int (Kd.R_reads' HO_8.out).2.2 x12_4 p191 q191; obtain rfl : ad188 = ad191 := (by injection e191); have hn191_0 : ad188.block ≠ gb187 := Kd.own_blk (Kd.R_ne HO_8.out BK187.out (by decide)); have hn191_1 : ad188.block ≠ gb187 := Kd.own_blk (Kd.R_ne HO_8.out BK187.out (by decide)); have hn191_2 : ad188.block ≠ gb187 := Kd.own_blk (Kd.R_ne HO_8.out BK187.out (by decide)); have hn191_3 : ad188.block ≠ gb187 := Kd.own_blk (Kd.R_ne HO_8.out BK187.out (by decide)); replace hx191_0 := (cell_far (p := ⟨gb187, 0, none⟩) (by first | (rw [add_block]; exact hn191_0) | (show (Addr.add _ _).block ≠ _; rw [add_block]; exact hn191_0) | exact hn191_0) (.string ((rd_T43 l1 x53_4).f0))).trans hx191_0; replace hx191_0 := (cell_far (p := ⟨gb187, 1, none⟩) (by first | (rw [add_block]; exact hn191_1) | (show (Addr.add _ _).block ≠ _; rw [add_block]; exact hn191_1) | exact hn191_1) (.int .i64 ((rd_T43 l1 x53_4).f1))).trans hx191_0; replace hx191_0 := (cell_far (p := ⟨gb187, 2, none⟩) (by first | (rw [add_block]; exact hn191_2) | (show (Addr.add _ _).block ≠ _; rw [add_block]; exact hn191_2) | exact hn191_2) (.int .i64 ((rd_T43 l1 x53_4).f2))).trans hx191_0; replace hx191_0 := (cell_far (p := ⟨gb187, 3, none⟩) (by first | (rw [add_block]; exact hn191_3) | (show (Addr.add _ _).block ≠ _; rw [add_block]; exact hn191_3) | exact hn191_3) (.int .i64 ((rd_T43 l1 x53_4).f3))).trans hx191_0; (try have hy191_0 := fun (n_ : Nat) => (show ((((((w31.drewN n_).setCell ⟨gb187, 0, none⟩ (.string ((rd_T43 l1 x53_4).f0))).setCell ⟨gb187, 1, none⟩ (.int .i64 ((rd_T43 l1 x53_4).f1))).setCell ⟨gb187, 2, none⟩ (.int .i64 ((rd_T43 l1 x53_4).f2))).setCell ⟨gb187, 3, none⟩ (.int .i64 ((rd_T43 l1 x53_4).f3)))).cell? _ = some _ from hx191_0)); clear hn191_0; clear hn191_1; clear hn191_2; clear hn191_3; replace p191 := eq_true p191; replace q191 := eq_true q191))
                      repeat (go_quiet (first | ((with_reducible refine gate_dst (N := 14) rfl ?_); refine box_event ?hg (N := 14) ?hd (cs := #[.string (⟨#[]⟩ : ByteArray), .int .i64 0, .int .i64 0, .int .i64 0]) (t := 43) ?hr ?_; (case hd => rfl); (case hg => rfl); (case hr => first | (go_simp; done) | (go_simp; rfl)); intro gb187 hg w31 hbox hb; have n0_ := Aside0.mk (Kd.R_below (by (with_reducible repeat (first | apply Kd.R_alloc | apply Kd.R_drewN | apply Kd.R_drew)); exact HO_8.out) hb); have n1_ := Aside0.mk (below_step (by repeat (first | (with_reducible first | exact HB.out | apply below_alloc | apply pw_below_drewN | apply below_drew1) | exact HB.out)) hb); have n2_ := Aside0.mk (hbox); have n3_ := Aside0.mk ((by rw [hg]; exact (below_size (by repeat (first | (with_reducible first | exact HB.out | apply below_alloc | apply pw_below_drewN | apply below_drew1) | exact HB.out))) : w.heap.size ≤ gb187)); have n4_ := Aside0.mk ((by rw [hg]; exact (below_size (by repeat (first | (with_reducible first | exact HB.out | apply below_alloc | apply pw_below_drewN | apply below_drew1) | exact HB.out))) : w.heap.size ≤ gb187)); clear HO_8; clear HB; have HO_8 := n0_; have HB := n1_; have BK187 := n2_; have GW187 := n3_; have GE187 := n4_; clear n0_ n1_ n2_ n3_ n4_; clear hb hbox hg; have hcz32_0 : w31.cell? ⟨gb187, 0, none⟩ = some (.string (⟨#[]⟩ : ByteArray)) := (blk_cell BK187.out 0).trans rfl; have hcz32_1 : w31.cell? ⟨gb187, 1, none⟩ = some (.int .i64 0) := (blk_cell BK187.out 1).trans rfl; have hcz32_2 : w31.cell? ⟨gb187, 2, none⟩ = some (.int .i64 0) := (blk_cell BK187.out 2).trans rfl; have hcz32_3 : w31.cell? ⟨gb187, 3, none⟩ = some (.int .i64 0) := (blk_cell BK187.out 3).trans rfl; have hfz32_0 := blk_frozen BK187.out 0; have hfz32_1 := blk_frozen BK187.out 1; have hfz32_2 := blk_frozen BK187.out 2; have hfz32_3 := blk_frozen BK187.out 3; obtain ⟨Ao33, co33, eo33⟩ := Kd.R_slice HO_8.out; subst eo33; have p188 : 0 ≤ (x53_4 : Int) := of_decide_eq_true (by first | (with_reducible assumption) | assumption); have q188 : x53_4 < (x8_3.length : Int) := of_decide_eq_true (by first | (with_reducible assumption) | assumption); obtain ⟨ad188, e188, hx188_0⟩ := Kd.at_int (Kd.R_reads' HO_8.out).2.2 x53_4 p188 q188; cases e188; have hn188_0 : ad188.block ≠ gb187 := Kd.own_blk (Kd.R_ne HO_8.out BK187.out (by decide)); have hn188_1 : ad188.block ≠ gb187 := Kd.own_blk (Kd.R_ne HO_8.out BK187.out (by decide)); have hn188_2 : ad188.block ≠ gb187 := Kd.own_blk (Kd.R_ne HO_8.out BK187.out (by decide)); have hn188_3 : ad188.block ≠ gb187 := Kd.own_blk (Kd.R_ne HO_8.out BK187.out (by decide)); replace hx188_0 := (cell_far (p := ⟨gb187, 0, none⟩) (by first | (rw [add_block]; exact hn188_0) | (show (Addr.add _ _).block ≠ _; rw [add_block]; exact hn188_0) | exact hn188_0) (.string ((rd_T43 l1 x53_4).f0))).trans hx188_0; replace hx188_0 := (cell_far (p := ⟨gb187, 1, none⟩) (by first | (rw [add_block]; exact hn188_1) | (show (Addr.add _ _).block ≠ _; rw [add_block]; exact hn188_1) | exact hn188_1) (.int .i64 ((rd_T43 l1 x53_4).f1))).trans hx188_0; replace hx188_0 := (cell_far (p := ⟨gb187, 2, none⟩) (by first | (rw [add_block]; exact hn188_2) | (show (Addr.add _ _).block ≠ _; rw [add_block]; exact hn188_2) | exact hn188_2) (.int .i64 ((rd_T43 l1 x53_4).f2))).trans hx188_0; replace hx188_0 := (cell_far (p := ⟨gb187, 3, none⟩) (by first | (rw [add_block]; exact hn188_3) | (show (Addr.add _ _).block ≠ _; rw [add_block]; exact hn188_3) | exact hn188_3) (.int .i64 ((rd_T43 l1 x53_4).f3))).trans hx188_0; (try have hy188_0 := fun (n_ : Nat) => (show ((((((w31.drewN n_).setCell ⟨gb187, 0, none⟩ (.string ((rd_T43 l1 x53_4).f0))).setCell ⟨gb187, 1, none⟩ (.int .i64 ((rd_T43 l1 x53_4).f1))).setCell ⟨gb187, 2, none⟩ (.int .i64 ((rd_T43 l1 x53_4).f2))).setCell ⟨gb187, 3, none⟩ (.int .i64 ((rd_T43 l1 x53_4).f3)))).cell? _ = some _ from hx188_0)); clear hn188_0; clear hn188_1; clear hn188_2; clear hn188_3; replace p188 := eq_true p188; replace q188 := eq_true q188; have p189 : 0 ≤ (x53_4 : Int) := of_decide_eq_true (by first | (with_reducible assumption) | assumption); have q189 : x53_4 < (x8_3.length : Int) := of_decide_eq_true (by first | (with_reducible assumption) | assumption); obtain ⟨ad189, e189, hx189_0⟩ := Kd.at_int (Kd.R_reads' HO_8.out).2.2 x53_4 p189 q189; obtain rfl : ad188 = ad189 := (by injection e189); have hn189_0 : ad188.block ≠ gb187 := Kd.own_blk (Kd.R_ne HO_8.out BK187.out (by decide)); have hn189_1 : ad188.block ≠ gb187 := Kd.own_blk (Kd.R_ne HO_8.out BK187.out (by decide)); have hn189_2 : ad188.block ≠ gb187 := Kd.own_blk (Kd.R_ne HO_8.out BK187.out (by decide)); have hn189_3 : ad188.block ≠ gb187 := Kd.own_blk (Kd.R_ne HO_8.out BK187.out (by decide)); replace hx189_0 := (cell_far (p := ⟨gb187, 0, none⟩) (by first | (rw [add_block]; exact hn189_0) | (show (Addr.add _ _).block ≠ _; rw [add_block]; exact hn189_0) | exact hn189_0) (.string ((rd_T43 l1 x53_4).f0))).trans hx189_0; replace hx189_0 := (cell_far (p := ⟨gb187, 1, none⟩) (by first | (rw [add_block]; exact hn189_1) | (show (Addr.add _ _).block ≠ _; rw [add_block]; exact hn189_1) | exact hn189_1) (.int .i64 ((rd_T43 l1 x53_4).f1))).trans hx189_0; replace hx189_0 := (cell_far (p := ⟨gb187, 2, none⟩) (by first | (rw [add_block]; exact hn189_2) | (show (Addr.add _ _).block ≠ _; rw [add_block]; exact hn189_2) | exact hn189_2) (.int .i64 ((rd_T43 l1 x53_4).f2))).trans hx189_0; replace hx189_0 := (cell_far (p := ⟨gb187, 3, none⟩) (by first | (rw [add_block]; exact hn189_3) | (show (Addr.add _ _).block ≠ _; rw [add_block]; exact hn189_3) | exact hn189_3) (.int .i64 ((rd_T43 l1 x53_4).f3))).trans hx189_0; (try have hy189_0 := fun (n_ : Nat) => (show ((((((w31.drewN n_).setCell ⟨gb187, 0, none⟩ (.string ((rd_T43 l1 x53_4).f0))).setCell ⟨gb187, 1, none⟩ (.int .i64 ((rd_T43 l1 x53_4).f1))).setCell ⟨gb187, 2, none⟩ (.int .i64 ((rd_T43 l1 x53_4).f2))).setCell ⟨gb187, 3, none⟩ (.int .i64 ((rd_T43 l1 x53_4).f3)))).cell? _ = some _ from hx189_0)); clear hn189_0; clear hn189_1; clear hn189_2; clear hn189_3; replace p189 := eq_true p189; replace q189 := eq_true q189; have p190 : 0 ≤ (x12_4 : Int) := of_decide_eq_true (by first | (with_reducible assumption) | assumption); have q190 : x12_4 < (l1.length : Int) := of_decide_eq_true (by first | (with_reducible assumption) | assumption); obtain ⟨ad190, e190, hx190_0, hx190_1, hx190_2, hx190_3⟩ := at_T43 HR1.out x12_4 p190 q190; obtain rfl : ad186 = ad190 := (by injection e190); have hn190_0 : ad186.block ≠ gb187 := Nat.ne_of_lt (Nat.lt_of_lt_of_le (by have := World.block_lt_of_cell? _ _ hx190_0; first | rwa [add_block] at this | exact this) GW187.out); have hn190_1 : ad186.block ≠ gb187 := Nat.ne_of_lt (Nat.lt_of_lt_of_le (by have := World.block_lt_of_cell? _ _ hx190_0; first | rwa [add_block] at this | exact this) GW187.out); have hn190_2 : ad186.block ≠ gb187 := Nat.ne_of_lt (Nat.lt_of_lt_of_le (by have := World.block_lt_of_cell? _ _ hx190_0; first | rwa [add_block] at this | exact this) GW187.out); have hn190_3 : ad186.block ≠ gb187 := Nat.ne_of_lt (Nat.lt_of_lt_of_le (by have := World.block_lt_of_cell? _ _ hx190_0; first | rwa [add_block] at this | exact this) GW187.out); replace hx190_0 := (HB.out.cell (World.block_lt_of_cell? w _ hx190_0)).trans hx190_0; replace hx190_1 := (HB.out.cell (World.block_lt_of_cell? w _ hx190_1)).trans hx190_1; replace hx190_2 := (HB.out.cell (World.block_lt_of_cell? w _ hx190_2)).trans hx190_2; replace hx190_3 := (HB.out.cell (World.block_lt_of_cell? w _ hx190_3)).trans hx190_3; replace hx190_0 := (cell_far (p := ⟨gb187, 0, none⟩) (by first | (rw [add_block]; exact hn190_0) | (show (Addr.add _ _).block ≠ _; rw [add_block]; exact hn190_0) | exact hn190_0) (.string ((rd_T43 l1 x53_4).f0))).trans hx190_0; replace hx190_1 := (cell_far (p := ⟨gb187, 0, none⟩) (by first | (rw [add_block]; exact hn190_0) | (show (Addr.add _ _).block ≠ _; rw [add_block]; exact hn190_0) | exact hn190_0) (.string ((rd_T43 l1 x53_4).f0))).trans hx190_1; replace hx190_2 := (cell_far (p := ⟨gb187, 0, none⟩) (by first | (rw [add_block]; exact hn190_0) | (show (Addr.add _ _).block ≠ _; rw [add_block]; exact hn190_0) | exact hn190_0) (.string ((rd_T43 l1 x53_4).f0))).trans hx190_2; replace hx190_3 := (cell_far (p := ⟨gb187, 0, none⟩) (by first | (rw [add_block]; exact hn190_0) | (show (Addr.add _ _).block ≠ _; rw [add_block]; exact hn190_0) | exact hn190_0) (.string ((rd_T43 l1 x53_4).f0))).trans hx190_3; replace hx190_0 := (cell_far (p := ⟨gb187, 1, none⟩) (by first | (rw [add_block]; exact hn190_1) | (show (Addr.add _ _).block ≠ _; rw [add_block]; exact hn190_1) | exact hn190_1) (.int .i64 ((rd_T43 l1 x53_4).f1))).trans hx190_0; replace hx190_1 := (cell_far (p := ⟨gb187, 1, none⟩) (by first | (rw [add_block]; exact hn190_1) | (show (Addr.add _ _).block ≠ _; rw [add_block]; exact hn190_1) | exact hn190_1) (.int .i64 ((rd_T43 l1 x53_4).f1))).trans hx190_1; replace hx190_2 := (cell_far (p := ⟨gb187, 1, none⟩) (by first | (rw [add_block]; exact hn190_1) | (show (Addr.add _ _).block ≠ _; rw [add_block]; exact hn190_1) | exact hn190_1) (.int .i64 ((rd_T43 l1 x53_4).f1))).trans hx190_2; replace hx190_3 := (cell_far (p := ⟨gb187, 1, none⟩) (by first | (rw [add_block]; exact hn190_1) | (show (Addr.add _ _).block ≠ _; rw [add_block]; exact hn190_1) | exact hn190_1) (.int .i64 ((rd_T43 l1 x53_4).f1))).trans hx190_3; replace hx190_0 := (cell_far (p := ⟨gb187, 2, none⟩) (by first | (rw [add_block]; exact hn190_2) | (show (Addr.add _ _).block ≠ _; rw [add_block]; exact hn190_2) | exact hn190_2) (.int .i64 ((rd_T43 l1 x53_4).f2))).trans hx190_0; replace hx190_1 := (cell_far (p := ⟨gb187, 2, none⟩) (by first | (rw [add_block]; exact hn190_2) | (show (Addr.add _ _).block ≠ _; rw [add_block]; exact hn190_2) | exact hn190_2) (.int .i64 ((rd_T43 l1 x53_4).f2))).trans hx190_1; replace hx190_2 := (cell_far (p := ⟨gb187, 2, none⟩) (by first | (rw [add_block]; exact hn190_2) | (show (Addr.add _ _).block ≠ _; rw [add_block]; exact hn190_2) | exact hn190_2) (.int .i64 ((rd_T43 l1 x53_4).f2))).trans hx190_2; replace hx190_3 := (cell_far (p := ⟨gb187, 2, none⟩) (by first | (rw [add_block]; exact hn190_2) | (show (Addr.add _ _).block ≠ _; rw [add_block]; exact hn190_2) | exact hn190_2) (.int .i64 ((rd_T43 l1 x53_4).f2))).trans hx190_3; replace hx190_0 := (cell_far (p := ⟨gb187, 3, none⟩) (by first | (rw [add_block]; exact hn190_3) | (show (Addr.add _ _).block ≠ _; rw [add_block]; exact hn190_3) | exact hn190_3) (.int .i64 ((rd_T43 l1 x53_4).f3))).trans hx190_0; replace hx190_1 := (cell_far (p := ⟨gb187, 3, none⟩) (by first | (rw [add_block]; exact hn190_3) | (show (Addr.add _ _).block ≠ _; rw [add_block]; exact hn190_3) | exact hn190_3) (.int .i64 ((rd_T43 l1 x53_4).f3))).trans hx190_1; replace hx190_2 := (cell_far (p := ⟨gb187, 3, none⟩) (by first | (rw [add_block]; exact hn190_3) | (show (Addr.add _ _).block ≠ _; rw [add_block]; exact hn190_3) | exact hn190_3) (.int .i64 ((rd_T43 l1 x53_4).f3))).trans hx190_2; replace hx190_3 := (cell_far (p := ⟨gb187, 3, none⟩) (by first | (rw [add_block]; exact hn190_3) | (show (Addr.add _ _).block ≠ _; rw [add_block]; exact hn190_3) | exact hn190_3) (.int .i64 ((rd_T43 l1 x53_4).f3))).trans hx190_3; (try have hy190_0 := fun (n_ : Nat) => (show ((((((w31.drewN n_).setCell ⟨gb187, 0, none⟩ (.string ((rd_T43 l1 x53_4).f0))).setCell ⟨gb187, 1, none⟩ (.int .i64 ((rd_T43 l1 x53_4).f1))).setCell ⟨gb187, 2, none⟩ (.int .i64 ((rd_T43 l1 x53_4).f2))).setCell ⟨gb187, 3, none⟩ (.int .i64 ((rd_T43 l1 x53_4).f3)))).cell? _ = some _ from hx190_0)); (try have hy190_1 := fun (n_ : Nat) => (show ((((((w31.drewN n_).setCell ⟨gb187, 0, none⟩ (.string ((rd_T43 l1 x53_4).f0))).setCell ⟨gb187, 1, none⟩ (.int .i64 ((rd_T43 l1 x53_4).f1))).setCell ⟨gb187, 2, none⟩ (.int .i64 ((rd_T43 l1 x53_4).f2))).setCell ⟨gb187, 3, none⟩ (.int .i64 ((rd_T43 l1 x53_4).f3)))).cell? _ = some _ from hx190_1)); (try have hy190_2 := fun (n_ : Nat) => (show ((((((w31.drewN n_).setCell ⟨gb187, 0, none⟩ (.string ((rd_T43 l1 x53_4).f0))).setCell ⟨gb187, 1, none⟩ (.int .i64 ((rd_T43 l1 x53_4).f1))).setCell ⟨gb187, 2, none⟩ (.int .i64 ((rd_T43 l1 x53_4).f2))).setCell ⟨gb187, 3, none⟩ (.int .i64 ((rd_T43 l1 x53_4).f3)))).cell? _ = some _ from hx190_2)); (try have hy190_3 := fun (n_ : Nat) => (show ((((((w31.drewN n_).setCell ⟨gb187, 0, none⟩ (.string ((rd_T43 l1 x53_4).f0))).setCell ⟨gb187, 1, none⟩ (.int .i64 ((rd_T43 l1 x53_4).f1))).setCell ⟨gb187, 2, none⟩ (.int .i64 ((rd_T43 l1 x53_4).f2))).setCell ⟨gb187, 3, none⟩ (.int .i64 ((rd_T43 l1 x53_4).f3)))).cell? _ = some _ from hx190_3)); clear hn190_0; clear hn190_1; clear hn190_2; clear hn190_3; replace p190 := eq_true p190; replace q190 := eq_true q190; have p191 : 0 ≤ (x12_4 : Int) := of_decide_eq_true (by first | (with_reducible assumption) | assumption); have q191 : x12_4 < (x8_3.length : Int) := of_decide_eq_true (by first | (with_reducible assumption) | assumption); obtain ⟨ad191, e191, hx191_0⟩ := Kd.at_int (Kd.R_reads' HO_8.out).2.2 x12_4 p191 q191; obtain rfl : ad188 = ad191 := (by injection e191); have hn191_0 : ad188.block ≠ gb187 := Kd.own_blk (Kd.R_ne HO_8.out BK187.out (by decide)); have hn191_1 : ad188.block ≠ gb187 := Kd.own_blk (Kd.R_ne HO_8.out BK187.out (by decide)); have hn191_2 : ad188.block ≠ gb187 := Kd.own_blk (Kd.R_ne HO_8.out BK187.out (by decide)); have hn191_3 : ad188.block ≠ gb187 := Kd.own_blk (Kd.R_ne HO_8.out BK187.out (by decide)); replace hx191_0 := (cell_far (p := ⟨gb187, 0, none⟩) (by first | (rw [add_block]; exact hn191_0) | (show (Addr.add _ _).block ≠ _; rw [add_block]; exact hn191_0) | exact hn191_0) (.string ((rd_T43 l1 x53_4).f0))).trans hx191_0; replace hx191_0 := (cell_far (p := ⟨gb187, 1, none⟩) (by first | (rw [add_block]; exact hn191_1) | (show (Addr.add _ _).block ≠ _; rw [add_block]; exact hn191_1) | exact hn191_1) (.int .i64 ((rd_T43 l1 x53_4).f1))).trans hx191_0; replace hx191_0 := (cell_far (p := ⟨gb187, 2, none⟩) (by first | (rw [add_block]; exact hn191_2) | (show (Addr.add _ _).block ≠ _; rw [add_block]; exact hn191_2) | exact hn191_2) (.int .i64 ((rd_T43 l1 x53_4).f2))).trans hx191_0; replace hx191_0 := (cell_far (p := ⟨gb187, 3, none⟩) (by first | (rw [add_block]; exact hn191_3) | (show (Addr.add _ _).block ≠ _; rw [add_block]; exact hn191_3) | exact hn191_3) (.int .i64 ((rd_T43 l1 x53_4).f3))).trans hx191_0; (try have hy191_0 := fun (n_ : Nat) => (show ((((((w31.drewN n_).setCell ⟨gb187, 0, none⟩ (.string ((rd_T43 l1 x53_4).f0))).setCell ⟨gb187, 1, none⟩ (.int .i64 ((rd_T43 l1 x53_4).f1))).setCell ⟨gb187, 2, none⟩ (.int .i64 ((rd_T43 l1 x53_4).f2))).setCell ⟨gb187, 3, none⟩ (.int .i64 ((rd_T43 l1 x53_4).f3)))).cell? _ = some _ from hx191_0)); clear hn191_0; clear hn191_1; clear hn191_2; clear hn191_3; replace p191 := eq_true p191; replace q191 := eq_true q191)); try go_wp2_with (first | ((with_reducible refine gate_dst (N := 14) rfl ?_); refine box_event ?hg (N := 14) ?hd (cs := #[.string (⟨#[]⟩ : ByteArray), .int .i64 0, .int .i64 0, .int .i64 0]) (t := 43) ?hr ?_; (case hd => rfl); (case hg => rfl); (case hr => first | (go_simp; done) | (go_simp; rfl)); intro gb187 hg w31 hbox hb; have n0_ := Aside0.mk (Kd.R_below (by (with_reducible repeat (first | apply Kd.R_alloc | apply Kd.R_drewN | apply Kd.R_drew)); exact HO_8.out) hb); have n1_ := Aside0.mk (below_step (by repeat (first | (with_reducible first | exact HB.out | apply below_alloc | apply pw_below_drewN | apply below_drew1) | exact HB.out)) hb); have n2_ := Aside0.mk (hbox); have n3_ := Aside0.mk ((by rw [hg]; exact (below_size (by repeat (first | (with_reducible first | exact HB.out | apply below_alloc | apply pw_below_drewN | apply below_drew1) | exact HB.out))) : w.heap.size ≤ gb187)); have n4_ := Aside0.mk ((by rw [hg]; exact (below_size (by repeat (first | (with_reducible first | exact HB.out | apply below_alloc | apply pw_below_drewN | apply below_drew1) | exact HB.out))) : w.heap.size ≤ gb187)); clear HO_8; clear HB; have HO_8 := n0_; have HB := n1_; have BK187 := n2_; have GW187 := n3_; have GE187 := n4_; clear n0_ n1_ n2_ n3_ n4_; clear hb hbox hg; have hcz32_0 : w31.cell? ⟨gb187, 0, none⟩ = some (.string (⟨#[]⟩ : ByteArray)) := (blk_cell BK187.out 0).trans rfl; have hcz32_1 : w31.cell? ⟨gb187, 1, none⟩ = some (.int .i64 0) := (blk_cell BK187.out 1).trans rfl; have hcz32_2 : w31.cell? ⟨gb187, 2, none⟩ = some (.int .i64 0) := (blk_cell BK187.out 2).trans rfl; have hcz32_3 : w31.cell? ⟨gb187, 3, none⟩ = some (.int .i64 0) := (blk_cell BK187.out 3).trans rfl; have hfz32_0 := blk_frozen BK187.out 0; have hfz32_1 := blk_frozen BK187.out 1; have hfz32_2 := blk_frozen BK187.out 2; have hfz32_3 := blk_frozen BK187.out 3; obtain ⟨Ao33, co33, eo33⟩ := Kd.R_slice HO_8.out; subst eo33; have p188 : 0 ≤ (x53_4 : Int) := of_decide_eq_true (by first | (with_reducible assumption) | assumption); have q188 : x53_4 < (x8_3.length : Int) := of_decide_eq_true (by first | (with_reducible assumption) | assumption); obtain ⟨ad188, e188, hx188_0⟩ := Kd.at_int (Kd.R_reads' HO_8.out).2.2 x53_4 p188 q188; cases e188; have hn188_0 : ad188.block ≠ gb187 := Kd.own_blk (Kd.R_ne HO_8.out BK187.out (by decide)); have hn188_1 : ad188.block ≠ gb187 := Kd.own_blk (Kd.R_ne HO_8.out BK187.out (by decide)); have hn188_2 : ad188.block ≠ gb187 := Kd.own_blk (Kd.R_ne HO_8.out BK187.out (by decide)); have hn188_3 : ad188.block ≠ gb187 := Kd.own_blk (Kd.R_ne HO_8.out BK187.out (by decide)); replace hx188_0 := (cell_far (p := ⟨gb187, 0, none⟩) (by first | (rw [add_block]; exact hn188_0) | (show (Addr.add _ _).block ≠ _; rw [add_block]; exact hn188_0) | exact hn188_0) (.string ((rd_T43 l1 x53_4).f0))).trans hx188_0; replace hx188_0 := (cell_far (p := ⟨gb187, 1, none⟩) (by first | (rw [add_block]; exact hn188_1) | (show (Addr.add _ _).block ≠ _; rw [add_block]; exact hn188_1) | exact hn188_1) (.int .i64 ((rd_T43 l1 x53_4).f1))).trans hx188_0; replace hx188_0 := (cell_far (p := ⟨gb187, 2, none⟩) (by first | (rw [add_block]; exact hn188_2) | (show (Addr.add _ _).block ≠ _; rw [add_block]; exact hn188_2) | exact hn188_2) (.int .i64 ((rd_T43 l1 x53_4).f2))).trans hx188_0; replace hx188_0 := (cell_far (p := ⟨gb187, 3, none⟩) (by first | (rw [add_block]; exact hn188_3) | (show (Addr.add _ _).block ≠ _; rw [add_block]; exact hn188_3) | exact hn188_3) (.int .i64 ((rd_T43 l1 x53_4).f3))).trans hx188_0; (try have hy188_0 := fun (n_ : Nat) => (show ((((((w31.drewN n_).setCell ⟨gb187, 0, none⟩ (.string ((rd_T43 l1 x53_4).f0))).setCell ⟨gb187, 1, none⟩ (.int .i64 ((rd_T43 l1 x53_4).f1))).setCell ⟨gb187, 2, none⟩ (.int .i64 ((rd_T43 l1 x53_4).f2))).setCell ⟨gb187, 3, none⟩ (.int .i64 ((rd_T43 l1 x53_4).f3)))).cell? _ = some _ from hx188_0)); clear hn188_0; clear hn188_1; clear hn188_2; clear hn188_3; replace p188 := eq_true p188; replace q188 := eq_true q188; have p189 : 0 ≤ (x53_4 : Int) := of_decide_eq_true (by first | (with_reducible assumption) | assumption); have q189 : x53_4 < (x8_3.length : Int) := of_decide_eq_true (by first | (with_reducible assumption) | assumption); obtain ⟨ad189, e189, hx189_0⟩ := Kd.at_int (Kd.R_reads' HO_8.out).2.2 x53_4 p189 q189; obtain rfl : ad188 = ad189 := (by injection e189); have hn189_0 : ad188.block ≠ gb187 := Kd.own_blk (Kd.R_ne HO_8.out BK187.out (by decide)); have hn189_1 : ad188.block ≠ gb187 := Kd.own_blk (Kd.R_ne HO_8.out BK187.out (by decide)); have hn189_2 : ad188.block ≠ gb187 := Kd.own_blk (Kd.R_ne HO_8.out BK187.out (by decide)); have hn189_3 : ad188.block ≠ gb187 := Kd.own_blk (Kd.R_ne HO_8.out BK187.out (by decide)); replace hx189_0 := (cell_far (p := ⟨gb187, 0, none⟩) (by first | (rw [add_block]; exact hn189_0) | (show (Addr.add _ _).block ≠ _; rw [add_block]; exact hn189_0) | exact hn189_0) (.string ((rd_T43 l1 x53_4).f0))).trans hx189_0; replace hx189_0 := (cell_far (p := ⟨gb187, 1, none⟩) (by first | (rw [add_block]; exact hn189_1) | (show (Addr.add _ _).block ≠ _; rw [add_block]; exact hn189_1) | exact hn189_1) (.int .i64 ((rd_T43 l1 x53_4).f1))).trans hx189_0; replace hx189_0 := (cell_far (p := ⟨gb187, 2, none⟩) (by first | (rw [add_block]; exact hn189_2) | (show (Addr.add _ _).block ≠ _; rw [add_block]; exact hn189_2) | exact hn189_2) (.int .i64 ((rd_T43 l1 x53_4).f2))).trans hx189_0; replace hx189_0 := (cell_far (p := ⟨gb187, 3, none⟩) (by first | (rw [add_block]; exact hn189_3) | (show (Addr.add _ _).block ≠ _; rw [add_block]; exact hn189_3) | exact hn189_3) (.int .i64 ((rd_T43 l1 x53_4).f3))).trans hx189_0; (try have hy189_0 := fun (n_ : Nat) => (show ((((((w31.drewN n_).setCell ⟨gb187, 0, none⟩ (.string ((rd_T43 l1 x53_4).f0))).setCell ⟨gb187, 1, none⟩ (.int .i64 ((rd_T43 l1 x53_4).f1))).setCell ⟨gb187, 2, none⟩ (.int .i64 ((rd_T43 l1 x53_4).f2))).setCell ⟨gb187, 3, none⟩ (.int .i64 ((rd_T43 l1 x53_4).f3)))).cell? _ = some _ from hx189_0)); clear hn189_0; clear hn189_1; clear hn189_2; clear hn189_3; replace p189 := eq_true p189; replace q189 := eq_true q189; have p190 : 0 ≤ (x12_4 : Int) := of_decide_eq_true (by first | (with_reducible assumption) | assumption); have q190 : x12_4 < (l1.length : Int) := of_decide_eq_true (by first | (with_reducible assumption) | assumption); obtain ⟨ad190, e190, hx190_0, hx190_1, hx190_2, hx190_3⟩ := at_T43 HR1.out x12_4 p190 q190; obtain rfl : ad186 = ad190 := (by injection e190); have hn190_0 : ad186.block ≠ gb187 := Nat.ne_of_lt (Nat.lt_of_lt_of_le (by have := World.block_lt_of_cell? _ _ hx190_0; first | rwa [add_block] at this | exact this) GW187.out); have hn190_1 : ad186.block ≠ gb187 := Nat.ne_of_lt (Nat.lt_of_lt_of_le (by have := World.block_lt_of_cell? _ _ hx190_0; first | rwa [add_block] at this | exact this) GW187.out); have hn190_2 : ad186.block ≠ gb187 := Nat.ne_of_lt (Nat.lt_of_lt_of_le (by have := World.block_lt_of_cell? _ _ hx190_0; first | rwa [add_block] at this | exact this) GW187.out); have hn190_3 : ad186.block ≠ gb187 := Nat.ne_of_lt (Nat.lt_of_lt_of_le (by have := World.block_lt_of_cell? _ _ hx190_0; first | rwa [add_block] at this | exact this) GW187.out); replace hx190_0 := (HB.out.cell (World.block_lt_of_cell? w _ hx190_0)).trans hx190_0; replace hx190_1 := (HB.out.cell (World.block_lt_of_cell? w _ hx190_1)).trans hx190_1; replace hx190_2 := (HB.out.cell (World.block_lt_of_cell? w _ hx190_2)).trans hx190_2; replace hx190_3 := (HB.out.cell (World.block_lt_of_cell? w _ hx190_3)).trans hx190_3; replace hx190_0 := (cell_far (p := ⟨gb187, 0, none⟩) (by first | (rw [add_block]; exact hn190_0) | (show (Addr.add _ _).block ≠ _; rw [add_block]; exact hn190_0) | exact hn190_0) (.string ((rd_T43 l1 x53_4).f0))).trans hx190_0; replace hx190_1 := (cell_far (p := ⟨gb187, 0, none⟩) (by first | (rw [add_block]; exact hn190_0) | (show (Addr.add _ _).block ≠ _; rw [add_block]; exact hn190_0) | exact hn190_0) (.string ((rd_T43 l1 x53_4).f0))).trans hx190_1; replace hx190_2 := (cell_far (p := ⟨gb187, 0, none⟩) (by first | (rw [add_block]; exact hn190_0) | (show (Addr.add _ _).block ≠ _; rw [add_block]; exact hn190_0) | exact hn190_0) (.string ((rd_T43 l1 x53_4).f0))).trans hx190_2; replace hx190_3 := (cell_far (p := ⟨gb187, 0, none⟩) (by first | (rw [add_block]; exact hn190_0) | (show (Addr.add _ _).block ≠ _; rw [add_block]; exact hn190_0) | exact hn190_0) (.string ((rd_T43 l1 x53_4).f0))).trans hx190_3; replace hx190_0 := (cell_far (p := ⟨gb187, 1, none⟩) (by first | (rw [add_block]; exact hn190_1) | (show (Addr.add _ _).block ≠ _; rw [add_block]; exact hn190_1) | exact hn190_1) (.int .i64 ((rd_T43 l1 x53_4).f1))).trans hx190_0; replace hx190_1 := (cell_far (p := ⟨gb187, 1, none⟩) (by first | (rw [add_block]; exact hn190_1) | (show (Addr.add _ _).block ≠ _; rw [add_block]; exact hn190_1) | exact hn190_1) (.int .i64 ((rd_T43 l1 x53_4).f1))).trans hx190_1; replace hx190_2 := (cell_far (p := ⟨gb187, 1, none⟩) (by first | (rw [add_block]; exact hn190_1) | (show (Addr.add _ _).block ≠ _; rw [add_block]; exact hn190_1) | exact hn190_1) (.int .i64 ((rd_T43 l1 x53_4).f1))).trans hx190_2; replace hx190_3 := (cell_far (p := ⟨gb187, 1, none⟩) (by first | (rw [add_block]; exact hn190_1) | (show (Addr.add _ _).block ≠ _; rw [add_block]; exact hn190_1) | exact hn190_1) (.int .i64 ((rd_T43 l1 x53_4).f1))).trans hx190_3; replace hx190_0 := (cell_far (p := ⟨gb187, 2, none⟩) (by first | (rw [add_block]; exact hn190_2) | (show (Addr.add _ _).block ≠ _; rw [add_block]; exact hn190_2) | exact hn190_2) (.int .i64 ((rd_T43 l1 x53_4).f2))).trans hx190_0; replace hx190_1 := (cell_far (p := ⟨gb187, 2, none⟩) (by first | (rw [add_block]; exact hn190_2) | (show (Addr.add _ _).block ≠ _; rw [add_block]; exact hn190_2) | exact hn190_2) (.int .i64 ((rd_T43 l1 x53_4).f2))).trans hx190_1; replace hx190_2 := (cell_far (p := ⟨gb187, 2, none⟩) (by first | (rw [add_block]; exact hn190_2) | (show (Addr.add _ _).block ≠ _; rw [add_block]; exact hn190_2) | exact hn190_2) (.int .i64 ((rd_T43 l1 x53_4).f2))).trans hx190_2; replace hx190_3 := (cell_far (p := ⟨gb187, 2, none⟩) (by first | (rw [add_block]; exact hn190_2) | (show (Addr.add _ _).block ≠ _; rw [add_block]; exact hn190_2) | exact hn190_2) (.int .i64 ((rd_T43 l1 x53_4).f2))).trans hx190_3; replace hx190_0 := (cell_far (p := ⟨gb187, 3, none⟩) (by first | (rw [add_block]; exact hn190_3) | (show (Addr.add _ _).block ≠ _; rw [add_block]; exact hn190_3) | exact hn190_3) (.int .i64 ((rd_T43 l1 x53_4).f3))).trans hx190_0; replace hx190_1 := (cell_far (p := ⟨gb187, 3, none⟩) (by first | (rw [add_block]; exact hn190_3) | (show (Addr.add _ _).block ≠ _; rw [add_block]; exact hn190_3) | exact hn190_3) (.int .i64 ((rd_T43 l1 x53_4).f3))).trans hx190_1; replace hx190_2 := (cell_far (p := ⟨gb187, 3, none⟩) (by first | (rw [add_block]; exact hn190_3) | (show (Addr.add _ _).block ≠ _; rw [add_block]; exact hn190_3) | exact hn190_3) (.int .i64 ((rd_T43 l1 x53_4).f3))).trans hx190_2; replace hx190_3 := (cell_far (p := ⟨gb187, 3, none⟩) (by first | (rw [add_block]; exact hn190_3) | (show (Addr.add _ _).block ≠ _; rw [add_block]; exact hn190_3) | exact hn190_3) (.int .i64 ((rd_T43 l1 x53_4).f3))).trans hx190_3; (try have hy190_0 := fun (n_ : Nat) => (show ((((((w31.drewN n_).setCell ⟨gb187, 0, none⟩ (.string ((rd_T43 l1 x53_4).f0))).setCell ⟨gb187, 1, none⟩ (.int .i64 ((rd_T43 l1 x53_4).f1))).setCell ⟨gb187, 2, none⟩ (.int .i64 ((rd_T43 l1 x53_4).f2))).setCell ⟨gb187, 3, none⟩ (.int .i64 ((rd_T43 l1 x53_4).f3)))).cell? _ = some _ from hx190_0)); (try have hy190_1 := fun (n_ : Nat) => (show ((((((w31.drewN n_).setCell ⟨gb187, 0, none⟩ (.string ((rd_T43 l1 x53_4).f0))).setCell ⟨gb187, 1, none⟩ (.int .i64 ((rd_T43 l1 x53_4).f1))).setCell ⟨gb187, 2, none⟩ (.int .i64 ((rd_T43 l1 x53_4).f2))).setCell ⟨gb187, 3, none⟩ (.int .i64 ((rd_T43 l1 x53_4).f3)))).cell? _ = some _ from hx190_1)); (try have hy190_2 := fun (n_ : Nat) => (show ((((((w31.drewN n_).setCell ⟨gb187, 0, none⟩ (.string ((rd_T43 l1 x53_4).f0))).setCell ⟨gb187, 1, none⟩ (.int .i64 ((rd_T43 l1 x53_4).f1))).setCell ⟨gb187, 2, none⟩ (.int .i64 ((rd_T43 l1 x53_4).f2))).setCell ⟨gb187, 3, none⟩ (.int .i64 ((rd_T43 l1 x53_4).f3)))).cell? _ = some _ from hx190_2)); (try have hy190_3 := fun (n_ : Nat) => (show ((((((w31.drewN n_).setCell ⟨gb187, 0, none⟩ (.string ((rd_T43 l1 x53_4).f0))).setCell ⟨gb187, 1, none⟩ (.int .i64 ((rd_T43 l1 x53_4).f1))).setCell ⟨gb187, 2, none⟩ (.int .i64 ((rd_T43 l1 x53_4).f2))).setCell ⟨gb187, 3, none⟩ (.int .i64 ((rd_T43 l1 x53_4).f3)))).cell? _ = some _ from hx190_3)); clear hn190_0; clear hn190_1; clear hn190_2; clear hn190_3; replace p190 := eq_true p190; replace q190 := eq_true q190; have p191 : 0 ≤ (x12_4 : Int) := of_decide_eq_true (by first | (with_reducible assumption) | assumption); have q191 : x12_4 < (x8_3.length : Int) := of_decide_eq_true (by first | (with_reducible assumption) | assumption); obtain ⟨ad191, e191, hx191_0⟩ := Kd.at_int (Kd.R_reads' HO_8.out).2.2 x12_4 p191 q191; obtain rfl : ad188 = ad191 := (by injection e191); have hn191_0 : ad188.block ≠ gb187 := Kd.own_blk (Kd.R_ne HO_8.out BK187.out (by decide)); have hn191_1 : ad188.block ≠ gb187 := Kd.own_blk (Kd.R_ne HO_8.out BK187.out (by decide)); have hn191_2 : ad188.block ≠ gb187 := Kd.own_blk (Kd.R_ne HO_8.out BK187.out (by decide)); have hn191_3 : ad188.block ≠ gb187 := Kd.own_blk (Kd.R_ne HO_8.out BK187.out (by decide)); replace hx191_0 := (cell_far (p := ⟨gb187, 0, none⟩) (by first | (rw [add_block]; exact hn191_0) | (show (Addr.add _ _).block ≠ _; rw [add_block]; exact hn191_0) | exact hn191_0) (.string ((rd_T43 l1 x53_4).f0))).trans hx191_0; replace hx191_0 := (cell_far (p := ⟨gb187, 1, none⟩) (by first | (rw [add_block]; exact hn191_1) | (show (Addr.add _ _).block ≠ _; rw [add_block]; exact hn191_1) | exact hn191_1) (.int .i64 ((rd_T43 l1 x53_4).f1))).trans hx191_0; replace hx191_0 := (cell_far (p := ⟨gb187, 2, none⟩) (by first | (rw [add_block]; exact hn191_2) | (show (Addr.add _ _).block ≠ _; rw [add_block]; exact hn191_2) | exact hn191_2) (.int .i64 ((rd_T43 l1 x53_4).f2))).trans hx191_0; replace hx191_0 := (cell_far (p := ⟨gb187, 3, none⟩) (by first | (rw [add_block]; exact hn191_3) | (show (Addr.add _ _).block ≠ _; rw [add_block]; exact hn191_3) | exact hn191_3) (.int .i64 ((rd_T43 l1 x53_4).f3))).trans hx191_0; (try have hy191_0 := fun (n_ : Nat) => (show ((((((w31.drewN n_).setCell ⟨gb187, 0, none⟩ (.string ((rd_T43 l1 x53_4).f0))).setCell ⟨gb187, 1, none⟩ (.int .i64 ((rd_T43 l1 x53_4).f1))).setCell ⟨gb187, 2, none⟩ (.int .i64 ((rd_T43 l1 x53_4).f2))).setCell ⟨gb187, 3, none⟩ (.int .i64 ((rd_T43 l1 x53_4).f3)))).cell? _ = some _ from hx191_0)); clear hn191_0; clear hn191_1; clear hn191_2; clear hn191_3; replace p191 := eq_true p191; replace q191 := eq_true q191)))
                      go_roundg k4
                      case measure => have := HJ3.out; have := HK2.out; have := HK3.out; have := HK4.out; omega
                      case rel => exact ⟨(x53_4), (wrap64 (x53_4 + 1)), (by first | rfl | (simp; done) | (simp [*]; done)), (by first | rfl | (simp; done) | (simp [*]; done)), H', ⟨by have := HJ3.out; have := HK2.out; have := HK3.out; have := HK4.out; omega⟩, ⟨by (with_reducible repeat (first | apply Kd.R_alloc | apply Kd.R_drewN | apply Kd.R_drew)); exact Kd.R_mono (Kd.R_far (p := ⟨gb187, 3, none⟩) (Kd.R_far (p := ⟨gb187, 2, none⟩) (Kd.R_far (p := ⟨gb187, 1, none⟩) (Kd.R_far (p := ⟨gb187, 0, none⟩) (Kd.R_types HO_8.out BK187.out (by decide)) (fun _ hk => hk.2) (.string ((rd_T43 l1 x53_4).f0))) (fun _ hk => hk.2) (.int .i64 ((rd_T43 l1 x53_4).f1))) (fun _ hk => hk.2) (.int .i64 ((rd_T43 l1 x53_4).f2))) (fun _ hk => hk.2) (.int .i64 ((rd_T43 l1 x53_4).f3))) (fun _ hk => trivial)⟩, ⟨by repeat (first | (with_reducible first | exact HB.out | apply below_alloc | apply pw_below_drewN | apply below_drew1 | refine below_set ?_ GE187.out) | exact HB.out)⟩⟩
                     ·
                      rw [if_neg c30] at H
                      have c30b0 : decide ((wrap64 ((rd x8_3 x53_4) * ((rd_T43 l1 x12_4).f3))) < (wrap64 ((rd x8_3 x12_4) * ((rd_T43 l1 x53_4).f3)))) = false := decide_eq_false c30
                      clear c30
                      have H' := Aside0.mk H
                      clear H
                      have p186 : 0 ≤ (x53_4 : Int) := of_decide_eq_true (by first | (with_reducible assumption) | assumption)
                      have q186 : x53_4 < (l1.length : Int) := of_decide_eq_true (by first | (with_reducible assumption) | assumption)
                      obtain ⟨ad186, e186, hx186_0, hx186_1, hx186_2, hx186_3⟩ := at_T43 HR1.out x53_4 p186 q186
                      cases e186
                      replace hx186_0 := (HB.out.cell (World.block_lt_of_cell? w _ hx186_0)).trans hx186_0
                      replace hx186_1 := (HB.out.cell (World.block_lt_of_cell? w _ hx186_1)).trans hx186_1
                      replace hx186_2 := (HB.out.cell (World.block_lt_of_cell? w _ hx186_2)).trans hx186_2
                      replace hx186_3 := (HB.out.cell (World.block_lt_of_cell? w _ hx186_3)).trans hx186_3
                      replace p186 := eq_true p186
                      replace q186 := eq_true q186
                      go_wp2_with (first | ((with_reducible refine gate_dst (N := 14) rfl ?_); refine box_event ?hg (N := 14) ?hd (cs := #[.string (⟨#[]⟩ : ByteArray), .int .i64 0, .int .i64 0, .int .i64 0]) (t := 43) ?hr ?_; (case hd => rfl); (case hg => rfl); (case hr => first | (go_simp; done) | (go_simp; rfl)); intro gb187 hg w34 hbox hb; have n0_ := Aside0.mk (Kd.R_below (by (with_reducible repeat (first | apply Kd.R_alloc | apply Kd.R_drewN | apply Kd.R_drew)); exact HO_8.out) hb); have n1_ := Aside0.mk (below_step (by repeat (first | (with_reducible first | exact HB.out | apply below_alloc | apply pw_below_drewN | apply below_drew1) | exact HB.out)) hb); have n2_ := Aside0.mk (hbox); have n3_ := Aside0.mk ((by rw [hg]; exact (below_size (by repeat (first | (with_reducible first | exact HB.out | apply below_alloc | apply pw_below_drewN | apply below_drew1) | exact HB.out))) : w.heap.size ≤ gb187)); have n4_ := Aside0.mk ((by rw [hg]; exact (below_size (by repeat (first | (with_reducible first | exact HB.out | apply below_alloc | apply pw_below_drewN | apply below_drew1) | exact HB.out))) : w.heap.size ≤ gb187)); clear HO_8; clear HB; have HO_8 := n0_; have HB := n1_; have BK187 := n2_; have GW187 := n3_; have GE187 := n4_; clear n0_ n1_ n2_ n3_ n4_; clear hb hbox hg; have hcz35_0 : w34.cell? ⟨gb187, 0, none⟩ = some (.string (⟨#[]⟩ : ByteArray)) := (blk_cell BK187.out 0).trans rfl; have hcz35_1 : w34.cell? ⟨gb187, 1, none⟩ = some (.int .i64 0) := (blk_cell BK187.out 1).trans rfl; have hcz35_2 : w34.cell? ⟨gb187, 2, none⟩ = some (.int .i64 0) := (blk_cell BK187.out 2).trans rfl; have hcz35_3 : w34.cell? ⟨gb187, 3, none⟩ = some (.int .i64 0) := (blk_cell BK187.out 3).trans rfl; have hfz35_0 := blk_frozen BK187.out 0; have hfz35_1 := blk_frozen BK187.out 1; have hfz35_2 := blk_frozen BK187.out 2; have hfz35_3 := blk_frozen BK187.out 3; obtain ⟨Ao36, co36, eo36⟩ := Kd.R_slice HO_8.out; subst eo36; have p188 : 0 ≤ (x53_4 : Int) := of_decide_eq_true (by first | (with_reducible assumption) | assumption); have q188 : x53_4 < (x8_3.length : Int) := of_decide_eq_true (by first | (with_reducible assumption) | assumption); obtain ⟨ad188, e188, hx188_0⟩ := Kd.at_int (Kd.R_reads' HO_8.out).2.2 x53_4 p188 q188; cases e188; have hn188_0 : ad188.block ≠ gb187 := Kd.own_blk (Kd.R_ne HO_8.out BK187.out (by decide)); have hn188_1 : ad188.block ≠ gb187 := Kd.own_blk (Kd.R_ne HO_8.out BK187.out (by decide)); have hn188_2 : ad188.block ≠ gb187 := Kd.own_blk (Kd.R_ne HO_8.out BK187.out (by decide)); have hn188_3 : ad188.block ≠ gb187 := Kd.own_blk (Kd.R_ne HO_8.out BK187.out (by decide)); replace hx188_0 := (cell_far (p := ⟨gb187, 0, none⟩) (by first | (rw [add_block]; exact hn188_0) | (show (Addr.add _ _).block ≠ _; rw [add_block]; exact hn188_0) | exact hn188_0) (.string ((rd_T43 l1 x53_4).f0))).trans hx188_0; replace hx188_0 := (cell_far (p := ⟨gb187, 1, none⟩) (by first | (rw [add_block]; exact hn188_1) | (show (Addr.add _ _).block ≠ _; rw [add_block]; exact hn188_1) | exact hn188_1) (.int .i64 ((rd_T43 l1 x53_4).f1))).trans hx188_0; replace hx188_0 := (cell_far (p := ⟨gb187, 2, none⟩) (by first | (rw [add_block]; exact hn188_2) | (show (Addr.add _ _).block ≠ _; rw [add_block]; exact hn188_2) | exact hn188_2) (.int .i64 ((rd_T43 l1 x53_4).f2))).trans hx188_0; replace hx188_0 := (cell_far (p := ⟨gb187, 3, none⟩) (by first | (rw [add_block]; exact hn188_3) | (show (Addr.add _ _).block ≠ _; rw [add_block]; exact hn188_3) | exact hn188_3) (.int .i64 ((rd_T43 l1 x53_4).f3))).trans hx188_0; (try have hy188_0 := fun (n_ : Nat) => (show ((((((w34.drewN n_).setCell ⟨gb187, 0, none⟩ (.string ((rd_T43 l1 x53_4).f0))).setCell ⟨gb187, 1, none⟩ (.int .i64 ((rd_T43 l1 x53_4).f1))).setCell ⟨gb187, 2, none⟩ (.int .i64 ((rd_T43 l1 x53_4).f2))).setCell ⟨gb187, 3, none⟩ (.int .i64 ((rd_T43 l1 x53_4).f3)))).cell? _ = some _ from hx188_0)); clear hn188_0; clear hn188_1; clear hn188_2; clear hn188_3; replace p188 := eq_true p188; replace q188 := eq_true q188; have p189 : 0 ≤ (x53_4 : Int) := of_decide_eq_true (by first | (with_reducible assumption) | assumption); have q189 : x53_4 < (x8_3.length : Int) := of_decide_eq_true (by first | (with_reducible assumption) | assumption); obtain ⟨ad189, e189, hx189_0⟩ := Kd.at_int (Kd.R_reads' HO_8.out).2.2 x53_4 p189 q189; obtain rfl : ad188 = ad189 := (by injection e189); have hn189_0 : ad188.block ≠ gb187 := Kd.own_blk (Kd.R_ne HO_8.out BK187.out (by decide)); have hn189_1 : ad188.block ≠ gb187 := Kd.own_blk (Kd.R_ne HO_8.out BK187.out (by decide)); have hn189_2 : ad188.block ≠ gb187 := Kd.own_blk (Kd.R_ne HO_8.out BK187.out (by decide)); have hn189_3 : ad188.block ≠ gb187 := Kd.own_blk (Kd.R_ne HO_8.out BK187.out (by decide)); replace hx189_0 := (cell_far (p := ⟨gb187, 0, none⟩) (by first | (rw [add_block]; exact hn189_0) | (show (Addr.add _ _).block ≠ _; rw [add_block]; exact hn189_0) | exact hn189_0) (.string ((rd_T43 l1 x53_4).f0))).trans hx189_0; replace hx189_0 := (cell_far (p := ⟨gb187, 1, none⟩) (by first | (rw [add_block]; exact hn189_1) | (show (Addr.add _ _).block ≠ _; rw [add_block]; exact hn189_1) | exact hn189_1) (.int .i64 ((rd_T43 l1 x53_4).f1))).trans hx189_0; replace hx189_0 := (cell_far (p := ⟨gb187, 2, none⟩) (by first | (rw [add_block]; exact hn189_2) | (show (Addr.add _ _).block ≠ _; rw [add_block]; exact hn189_2) | exact hn189_2) (.int .i64 ((rd_T43 l1 x53_4).f2))).trans hx189_0; replace hx189_0 := (cell_far (p := ⟨gb187, 3, none⟩) (by first | (rw [add_block]; exact hn189_3) | (show (Addr.add _ _).block ≠ _; rw [add_block]; exact hn189_3) | exact hn189_3) (.int .i64 ((rd_T43 l1 x53_4).f3))).trans hx189_0; (try have hy189_0 := fun (n_ : Nat) => (show ((((((w34.drewN n_).setCell ⟨gb187, 0, none⟩ (.string ((rd_T43 l1 x53_4).f0))).setCell ⟨gb187, 1, none⟩ (.int .i64 ((rd_T43 l1 x53_4).f1))).setCell ⟨gb187, 2, none⟩ (.int .i64 ((rd_T43 l1 x53_4).f2))).setCell ⟨gb187, 3, none⟩ (.int .i64 ((rd_T43 l1 x53_4).f3)))).cell? _ = some _ from hx189_0)); clear hn189_0; clear hn189_1; clear hn189_2; clear hn189_3; replace p189 := eq_true p189; replace q189 := eq_true q189; have p190 : 0 ≤ (x12_4 : Int) := of_decide_eq_true (by first | (with_reducible assumption) | assumption); have q190 : x12_4 < (l1.length : Int) := of_decide_eq_true (by first | (with_reducible assumption) | assumption); obtain ⟨ad190, e190, hx190_0, hx190_1, hx190_2, hx190_3⟩ := at_T43 HR1.out x12_4 p190 q190; obtain rfl : ad186 = ad190 := (by injection e190); have hn190_0 : ad186.block ≠ gb187 := Nat.ne_of_lt (Nat.lt_of_lt_of_le (by have := World.block_lt_of_cell? _ _ hx190_0; first | rwa [add_block] at this | exact this) GW187.out); have hn190_1 : ad186.block ≠ gb187 := Nat.ne_of_lt (Nat.lt_of_lt_of_le (by have := World.block_lt_of_cell? _ _ hx190_0; first | rwa [add_block] at this | exact this) GW187.out); have hn190_2 : ad186.block ≠ gb187 := Nat.ne_of_lt (Nat.lt_of_lt_of_le (by have := World.block_lt_of_cell? _ _ hx190_0; first | rwa [add_block] at this | exact this) GW187.out); have hn190_3 : ad186.block ≠ gb187 := Nat.ne_of_lt (Nat.lt_of_lt_of_le (by have := World.block_lt_of_cell? _ _ hx190_0; first | rwa [add_block] at this | exact this) GW187.out); replace hx190_0 := (HB.out.cell (World.block_lt_of_cell? w _ hx190_0)).trans hx190_0; replace hx190_1 := (HB.out.cell (World.block_lt_of_cell? w _ hx190_1)).trans hx190_1; replace hx190_2 := (HB.out.cell (World.block_lt_of_cell? w _ hx190_2)).trans hx190_2; replace hx190_3 := (HB.out.cell (World.block_lt_of_cell? w _ hx190_3)).trans hx190_3; replace hx190_0 := (cell_far (p := ⟨gb187, 0, none⟩) (by first | (rw [add_block]; exact hn190_0) | (show (Addr.add _ _).block ≠ _; rw [add_block]; exact hn190_0) | exact hn190_0) (.string ((rd_T43 l1 x53_4).f0))).trans hx190_0; replace hx190_1 := (cell_far (p := ⟨gb187, 0, none⟩) (by first | (rw [add_block]; exact hn190_0) | (show (Addr.add _ _).block ≠ _; rw [add_block]; exact hn190_0) | exact hn190_0) (.string ((rd_T43 l1 x53_4).f0))).trans hx190_1; replace hx190_2 := (cell_far (p := ⟨gb187, 0, none⟩) (by first | (rw [add_block]; exact hn190_0) | (show (Addr.add _ _).block ≠ _; rw [add_block]; exact hn190_0) | exact hn190_0) (.string ((rd_T43 l1 x53_4).f0))).trans hx190_2; replace hx190_3 := (cell_far (p := ⟨gb187, 0, none⟩) (by first | (rw [add_block]; exact hn190_0) | (show (Addr.add _ _).block ≠ _; rw [add_block]; exact hn190_0) | exact hn190_0) (.string ((rd_T43 l1 x53_4).f0))).trans hx190_3; replace hx190_0 := (cell_far (p := ⟨gb187, 1, none⟩) (by first | (rw [add_block]; exact hn190_1) | (show (Addr.add _ _).block ≠ _; rw [add_block]; exact hn190_1) | exact hn190_1) (.int .i64 ((rd_T43 l1 x53_4).f1))).trans hx190_0; replace hx190_1 := (cell_far (p := ⟨gb187, 1, none⟩) (by first | (rw [add_block]; exact hn190_1) | (show (Addr.add _ _).block ≠ _; rw [add_block]; exact hn190_1) | exact hn190_1) (.int .i64 ((rd_T43 l1 x53_4).f1))).trans hx190_1; replace hx190_2 := (cell_far (p := ⟨gb187, 1, none⟩) (by first | (rw [add_block]; exact hn190_1) | (show (Addr.add _ _).block ≠ _; rw [add_block]; exact hn190_1) | exact hn190_1) (.int .i64 ((rd_T43 l1 x53_4).f1))).trans hx190_2; replace hx190_3 := (cell_far (p := ⟨gb187, 1, none⟩) (by first | (rw [add_block]; exact hn190_1) | (show (Addr.add _ _).block ≠ _; rw [add_block]; exact hn190_1) | exact hn190_1) (.int .i64 ((rd_T43 l1 x53_4).f1))).trans hx190_3; replace hx190_0 := (cell_far (p := ⟨gb187, 2, none⟩) (by first | (rw [add_block]; exact hn190_2) | (show (Addr.add _ _).block ≠ _; rw [add_block]; exact hn190_2) | exact hn190_2) (.int .i64 ((rd_T43 l1 x53_4).f2))).trans hx190_0; replace hx190_1 := (cell_far (p := ⟨gb187, 2, none⟩) (by first | (rw [add_block]; exact hn190_2) | (show (Addr.add _ _).block ≠ _; rw [add_block]; exact hn190_2) | exact hn190_2) (.int .i64 ((rd_T43 l1 x53_4).f2))).trans hx190_1; replace hx190_2 := (cell_far (p := ⟨gb187, 2, none⟩) (by first | (rw [add_block]; exact hn190_2) | (show (Addr.add _ _).block ≠ _; rw [add_block]; exact hn190_2) | exact hn190_2) (.int .i64 ((rd_T43 l1 x53_4).f2))).trans hx190_2; replace hx190_3 := (cell_far (p := ⟨gb187, 2, none⟩) (by first | (rw [add_block]; exact hn190_2) | (show (Addr.add _ _).block ≠ _; rw [add_block]; exact hn190_2) | exact hn190_2) (.int .i64 ((rd_T43 l1 x53_4).f2))).trans hx190_3; replace hx190_0 := (cell_far (p := ⟨gb187, 3, none⟩) (by first | (rw [add_block]; exact hn190_3) | (show (Addr.add _ _).block ≠ _; rw [add_block]; exact hn190_3) | exact hn190_3) (.int .i64 ((rd_T43 l1 x53_4).f3))).trans hx190_0; replace hx190_1 := (cell_far (p := ⟨gb187, 3, none⟩) (by first | (rw [add_block]; exact hn190_3) | (show (Addr.add _ _).block ≠ _; rw [add_block]; exact hn190_3) | exact hn190_3) (.int .i64 ((rd_T43 l1 x53_4).f3))).trans hx190_1; replace hx190_2 := (cell_far (p := ⟨gb187, 3, none⟩) (by first | (rw [add_block]; exact hn190_3) | (show (Addr.add _ _).block ≠ _; rw [add_block]; exact hn190_3) | exact hn190_3) (.int .i64 ((rd_T43 l1 x53_4).f3))).trans hx190_2; replace hx190_3 := (cell_far (p := ⟨gb187, 3, none⟩) (by first | (rw [add_block]; exact hn190_3) | (show (Addr.add _ _).block ≠ _; rw [add_block]; exact hn190_3) | exact hn190_3) (.int .i64 ((rd_T43 l1 x53_4).f3))).trans hx190_3; (try have hy190_0 := fun (n_ : Nat) => (show ((((((w34.drewN n_).setCell ⟨gb187, 0, none⟩ (.string ((rd_T43 l1 x53_4).f0))).setCell ⟨gb187, 1, none⟩ (.int .i64 ((rd_T43 l1 x53_4).f1))).setCell ⟨gb187, 2, none⟩ (.int .i64 ((rd_T43 l1 x53_4).f2))).setCell ⟨gb187, 3, none⟩ (.int .i64 ((rd_T43 l1 x53_4).f3)))).cell? _ = some _ from hx190_0)); (try have hy190_1 := fun (n_ : Nat) => (show ((((((w34.drewN n_).setCell ⟨gb187, 0, none⟩ (.string ((rd_T43 l1 x53_4).f0))).setCell ⟨gb187, 1, none⟩ (.int .i64 ((rd_T43 l1 x53_4).f1))).setCell ⟨gb187, 2, none⟩ (.int .i64 ((rd_T43 l1 x53_4).f2))).setCell ⟨gb187, 3, none⟩ (.int .i64 ((rd_T43 l1 x53_4).f3)))).cell? _ = some _ from hx190_1)); (try have hy190_2 := fun (n_ : Nat) => (show ((((((w34.drewN n_).setCell ⟨gb187, 0, none⟩ (.string ((rd_T43 l1 x53_4).f0))).setCell ⟨gb187, 1, none⟩ (.int .i64 ((rd_T43 l1 x53_4).f1))).setCell ⟨gb187, 2, none⟩ (.int .i64 ((rd_T43 l1 x53_4).f2))).setCell ⟨gb187, 3, none⟩ (.int .i64 ((rd_T43 l1 x53_4).f3)))).cell? _ = some _ from hx190_2)); (try have hy190_3 := fun (n_ : Nat) => (show ((((((w34.drewN n_).setCell ⟨gb187, 0, none⟩ (.string ((rd_T43 l1 x53_4).f0))).setCell ⟨gb187, 1, none⟩ (.int .i64 ((rd_T43 l1 x53_4).f1))).setCell ⟨gb187, 2, none⟩ (.int .i64 ((rd_T43 l1 x53_4).f2))).setCell ⟨gb187, 3, none⟩ (.int .i64 ((rd_T43 l1 x53_4).f3)))).cell? _ = some _ from hx190_3)); clear hn190_0; clear hn190_1; clear hn190_2; clear hn190_3; replace p190 := eq_true p190; replace q190 := eq_true q190; have p191 : 0 ≤ (x12_4 : Int) := of_decide_eq_true (by first | (with_reducible assumption) | assumption); have q191 : x12_4 < (x8_3.length : Int) := of_decide_eq_true (by first | (with_reducible assumption) | assumption); obtain ⟨ad191, e191, hx191_0⟩ := Kd.at_int (Kd.R_reads' HO_8.out).2.2 x12_4 p191 q191; obtain rfl : ad188 = ad191 := (by injection e191); have hn191_0 : ad188.block ≠ gb187 := Kd.own_blk (Kd.R_ne HO_8.out BK187.out (by decide)); have hn191_1 : ad188.block ≠ gb187 := Kd.own_blk (Kd.R_ne HO_8.out BK187.out (by decide)); have hn191_2 : ad188.block ≠ gb187 := Kd.own_blk (Kd.R_ne HO_8.out BK187.out (by decide)); have hn191_3 : ad188.block ≠ gb187 := Kd.own_blk (Kd.R_ne HO_8.out BK187.out (by decide)); replace hx191_0 := (cell_far (p := ⟨gb187, 0, none⟩) (by first | (rw [add_block]; exact hn191_0) | (show (Addr.add _ _).block ≠ _; rw [add_block]; exact hn191_0) | exact hn191_0) (.string ((rd_T43 l1 x53_4).f0))).trans hx191_0; replace hx191_0 := (cell_far (p := ⟨gb187, 1, none⟩) (by first | (rw [add_block]; exact hn191_1) | (show (Addr.add _ _).block ≠ _; rw [add_block]; exact hn191_1) | exact hn191_1) (.int .i64 ((rd_T43 l1 x53_4).f1))).trans hx191_0; replace hx191_0 := (cell_far (p := ⟨gb187, 2, none⟩) (by first | (rw [add_block]; exact hn191_2) | (show (Addr.add _ _).block ≠ _; rw [add_block]; exact hn191_2) | exact hn191_2) (.int .i64 ((rd_T43 l1 x53_4).f2))).trans hx191_0; replace hx191_0 := (cell_far (p := ⟨gb187, 3, none⟩) (by first | (rw [add_block]; exact hn191_3) | (show (Addr.add _ _).block ≠ _; rw [add_block]; exact hn191_3) | exact hn191_3) (.int .i64 ((rd_T43 l1 x53_4).f3))).trans hx191_0; (try have hy191_0 := fun (n_ : Nat) => (show ((((((w34.drewN n_).setCell ⟨gb187, 0, none⟩ (.string ((rd_T43 l1 x53_4).f0))).setCell ⟨gb187, 1, none⟩ (.int .i64 ((rd_T43 l1 x53_4).f1))).setCell ⟨gb187, 2, none⟩ (.int .i64 ((rd_T43 l1 x53_4).f2))).setCell ⟨gb187, 3, none⟩ (.int .i64 ((rd_T43 l1 x53_4).f3)))).cell? _ = some _ from hx191_0)); clear hn191_0; clear hn191_1; clear hn191_2; clear hn191_3; replace p191 := eq_true p191; replace q191 := eq_true q191))
                      repeat (go_quiet (first | ((with_reducible refine gate_dst (N := 14) rfl ?_); refine box_event ?hg (N := 14) ?hd (cs := #[.string (⟨#[]⟩ : ByteArray), .int .i64 0, .int .i64 0, .int .i64 0]) (t := 43) ?hr ?_; (case hd => rfl); (case hg => rfl); (case hr => first | (go_simp; done) | (go_simp; rfl)); intro gb187 hg w34 hbox hb; have n0_ := Aside0.mk (Kd.R_below (by (with_reducible repeat (first | apply Kd.R_alloc | apply Kd.R_drewN | apply Kd.R_drew)); exact HO_8.out) hb); have n1_ := Aside0.mk (below_step (by repeat (first | (with_reducible first | exact HB.out | apply below_alloc | apply pw_below_drewN | apply below_drew1) | exact HB.out)) hb); have n2_ := Aside0.mk (hbox); have n3_ := Aside0.mk ((by rw [hg]; exact (below_size (by repeat (first | (with_reducible first | exact HB.out | apply below_alloc | apply pw_below_drewN | apply below_drew1) | exact HB.out))) : w.heap.size ≤ gb187)); have n4_ := Aside0.mk ((by rw [hg]; exact (below_size (by repeat (first | (with_reducible first | exact HB.out | apply below_alloc | apply pw_below_drewN | apply below_drew1) | exact HB.out))) : w.heap.size ≤ gb187)); clear HO_8; clear HB; have HO_8 := n0_; have HB := n1_; have BK187 := n2_; have GW187 := n3_; have GE187 := n4_; clear n0_ n1_ n2_ n3_ n4_; clear hb hbox hg; have hcz35_0 : w34.cell? ⟨gb187, 0, none⟩ = some (.string (⟨#[]⟩ : ByteArray)) := (blk_cell BK187.out 0).trans rfl; have hcz35_1 : w34.cell? ⟨gb187, 1, none⟩ = some (.int .i64 0) := (blk_cell BK187.out 1).trans rfl; have hcz35_2 : w34.cell? ⟨gb187, 2, none⟩ = some (.int .i64 0) := (blk_cell BK187.out 2).trans rfl; have hcz35_3 : w34.cell? ⟨gb187, 3, none⟩ = some (.int .i64 0) := (blk_cell BK187.out 3).trans rfl; have hfz35_0 := blk_frozen BK187.out 0; have hfz35_1 := blk_frozen BK187.out 1; have hfz35_2 := blk_frozen BK187.out 2; have hfz35_3 := blk_frozen BK187.out 3; obtain ⟨Ao36, co36, eo36⟩ := Kd.R_slice HO_8.out; subst eo36; have p188 : 0 ≤ (x53_4 : Int) := of_decide_eq_true (by first | (with_reducible assumption) | assumption); have q188 : x53_4 < (x8_3.length : Int) := of_decide_eq_true (by first | (with_reducible assumption) | assumption); obtain ⟨ad188, e188, hx188_0⟩ := Kd.at_int (Kd.R_reads' HO_8.out).2.2 x53_4 p188 q188; cases e188; have hn188_0 : ad188.block ≠ gb187 := Kd.own_blk (Kd.R_ne HO_8.out BK187.out (by decide)); have hn188_1 : ad188.block ≠ gb187 := Kd.own_blk (Kd.R_ne HO_8.out BK187.out (by decide)); have hn188_2 : ad188.block ≠ gb187 := Kd.own_blk (Kd.R_ne HO_8.out BK187.out (by decide)); have hn188_3 : ad188.block ≠ gb187 := Kd.own_blk (Kd.R_ne HO_8.out BK187.out (by decide)); replace hx188_0 := (cell_far (p := ⟨gb187, 0, none⟩) (by first | (rw [add_block]; exact hn188_0) | (show (Addr.add _ _).block ≠ _; rw [add_block]; exact hn188_0) | exact hn188_0) (.string ((rd_T43 l1 x53_4).f0))).trans hx188_0; replace hx188_0 := (cell_far (p := ⟨gb187, 1, none⟩) (by first | (rw [add_block]; exact hn188_1) | (show (Addr.add _ _).block ≠ _; rw [add_block]; exact hn188_1) | exact hn188_1) (.int .i64 ((rd_T43 l1 x53_4).f1))).trans hx188_0; replace hx188_0 := (cell_far (p := ⟨gb187, 2, none⟩) (by first | (rw [add_block]; exact hn188_2) | (show (Addr.add _ _).block ≠ _; rw [add_block]; exact hn188_2) | exact hn188_2) (.int .i64 ((rd_T43 l1 x53_4).f2))).trans hx188_0; replace hx188_0 := (cell_far (p := ⟨gb187, 3, none⟩) (by first | (rw [add_block]; exact hn188_3) | (show (Addr.add _ _).block ≠ _; rw [add_block]; exact hn188_3) | exact hn188_3) (.int .i64 ((rd_T43 l1 x53_4).f3))).trans hx188_0; (try have hy188_0 := fun (n_ : Nat) => (show ((((((w34.drewN n_).setCell ⟨gb187, 0, none⟩ (.string ((rd_T43 l1 x53_4).f0))).setCell ⟨gb187, 1, none⟩ (.int .i64 ((rd_T43 l1 x53_4).f1))).setCell ⟨gb187, 2, none⟩ (.int .i64 ((rd_T43 l1 x53_4).f2))).setCell ⟨gb187, 3, none⟩ (.int .i64 ((rd_T43 l1 x53_4).f3)))).cell? _ = some _ from hx188_0)); clear hn188_0; clear hn188_1; clear hn188_2; clear hn188_3; replace p188 := eq_true p188; replace q188 := eq_true q188; have p189 : 0 ≤ (x53_4 : Int) := of_decide_eq_true (by first | (with_reducible assumption) | assumption); have q189 : x53_4 < (x8_3.length : Int) := of_decide_eq_true (by first | (with_reducible assumption) | assumption); obtain ⟨ad189, e189, hx189_0⟩ := Kd.at_int (Kd.R_reads' HO_8.out).2.2 x53_4 p189 q189; obtain rfl : ad188 = ad189 := (by injection e189); have hn189_0 : ad188.block ≠ gb187 := Kd.own_blk (Kd.R_ne HO_8.out BK187.out (by decide)); have hn189_1 : ad188.block ≠ gb187 := Kd.own_blk (Kd.R_ne HO_8.out BK187.out (by decide)); have hn189_2 : ad188.block ≠ gb187 := Kd.own_blk (Kd.R_ne HO_8.out BK187.out (by decide)); have hn189_3 : ad188.block ≠ gb187 := Kd.own_blk (Kd.R_ne HO_8.out BK187.out (by decide)); replace hx189_0 := (cell_far (p := ⟨gb187, 0, none⟩) (by first | (rw [add_block]; exact hn189_0) | (show (Addr.add _ _).block ≠ _; rw [add_block]; exact hn189_0) | exact hn189_0) (.string ((rd_T43 l1 x53_4).f0))).trans hx189_0; replace hx189_0 := (cell_far (p := ⟨gb187, 1, none⟩) (by first | (rw [add_block]; exact hn189_1) | (show (Addr.add _ _).block ≠ _; rw [add_block]; exact hn189_1) | exact hn189_1) (.int .i64 ((rd_T43 l1 x53_4).f1))).trans hx189_0; replace hx189_0 := (cell_far (p := ⟨gb187, 2, none⟩) (by first | (rw [add_block]; exact hn189_2) | (show (Addr.add _ _).block ≠ _; rw [add_block]; exact hn189_2) | exact hn189_2) (.int .i64 ((rd_T43 l1 x53_4).f2))).trans hx189_0; replace hx189_0 := (cell_far (p := ⟨gb187, 3, none⟩) (by first | (rw [add_block]; exact hn189_3) | (show (Addr.add _ _).block ≠ _; rw [add_block]; exact hn189_3) | exact hn189_3) (.int .i64 ((rd_T43 l1 x53_4).f3))).trans hx189_0; (try have hy189_0 := fun (n_ : Nat) => (show ((((((w34.drewN n_).setCell ⟨gb187, 0, none⟩ (.string ((rd_T43 l1 x53_4).f0))).setCell ⟨gb187, 1, none⟩ (.int .i64 ((rd_T43 l1 x53_4).f1))).setCell ⟨gb187, 2, none⟩ (.int .i64 ((rd_T43 l1 x53_4).f2))).setCell ⟨gb187, 3, none⟩ (.int .i64 ((rd_T43 l1 x53_4).f3)))).cell? _ = some _ from hx189_0)); clear hn189_0; clear hn189_1; clear hn189_2; clear hn189_3; replace p189 := eq_true p189; replace q189 := eq_true q189; have p190 : 0 ≤ (x12_4 : Int) := of_decide_eq_true (by first | (with_reducible assumption) | assumption); have q190 : x12_4 < (l1.length : Int) := of_decide_eq_true (by first | (with_reducible assumption) | assumption); obtain ⟨ad190, e190, hx190_0, hx190_1, hx190_2, hx190_3⟩ := at_T43 HR1.out x12_4 p190 q190; obtain rfl : ad186 = ad190 := (by injection e190); have hn190_0 : ad186.block ≠ gb187 := Nat.ne_of_lt (Nat.lt_of_lt_of_le (by have := World.block_lt_of_cell? _ _ hx190_0; first | rwa [add_block] at this | exact this) GW187.out); have hn190_1 : ad186.block ≠ gb187 := Nat.ne_of_lt (Nat.lt_of_lt_of_le (by have := World.block_lt_of_cell? _ _ hx190_0; first | rwa [add_block] at this | exact this) GW187.out); have hn190_2 : ad186.block ≠ gb187 := Nat.ne_of_lt (Nat.lt_of_lt_of_le (by have := World.block_lt_of_cell? _ _ hx190_0; first | rwa [add_block] at this | exact this) GW187.out); have hn190_3 : ad186.block ≠ gb187 := Nat.ne_of_lt (Nat.lt_of_lt_of_le (by have := World.block_lt_of_cell? _ _ hx190_0; first | rwa [add_block] at this | exact this) GW187.out); replace hx190_0 := (HB.out.cell (World.block_lt_of_cell? w _ hx190_0)).trans hx190_0; replace hx190_1 := (HB.out.cell (World.block_lt_of_cell? w _ hx190_1)).trans hx190_1; replace hx190_2 := (HB.out.cell (World.block_lt_of_cell? w _ hx190_2)).trans hx190_2; replace hx190_3 := (HB.out.cell (World.block_lt_of_cell? w _ hx190_3)).trans hx190_3; replace hx190_0 := (cell_far (p := ⟨gb187, 0, none⟩) (by first | (rw [add_block]; exact hn190_0) | (show (Addr.add _ _).block ≠ _; rw [add_block]; exact hn190_0) | exact hn190_0) (.string ((rd_T43 l1 x53_4).f0))).trans hx190_0; replace hx190_1 := (cell_far (p := ⟨gb187, 0, none⟩) (by first | (rw [add_block]; exact hn190_0) | (show (Addr.add _ _).block ≠ _; rw [add_block]; exact hn190_0) | exact hn190_0) (.string ((rd_T43 l1 x53_4).f0))).trans hx190_1; replace hx190_2 := (cell_far (p := ⟨gb187, 0, none⟩) (by first | (rw [add_block]; exact hn190_0) | (show (Addr.add _ _).block ≠ _; rw [add_block]; exact hn190_0) | exact hn190_0) (.string ((rd_T43 l1 x53_4).f0))).trans hx190_2; replace hx190_3 := (cell_far (p := ⟨gb187, 0, none⟩) (by first | (rw [add_block]; exact hn190_0) | (show (Addr.add _ _).block ≠ _; rw [add_block]; exact hn190_0) | exact hn190_0) (.string ((rd_T43 l1 x53_4).f0))).trans hx190_3; replace hx190_0 := (cell_far (p := ⟨gb187, 1, none⟩) (by first | (rw [add_block]; exact hn190_1) | (show (Addr.add _ _).block ≠ _; rw [add_block]; exact hn190_1) | exact hn190_1) (.int .i64 ((rd_T43 l1 x53_4).f1))).trans hx190_0; replace hx190_1 := (cell_far (p := ⟨gb187, 1, none⟩) (by first | (rw [add_block]; exact hn190_1) | (show (Addr.add _ _).block ≠ _; rw [add_block]; exact hn190_1) | exact hn190_1) (.int .i64 ((rd_T43 l1 x53_4).f1))).trans hx190_1; replace hx190_2 := (cell_far (p := ⟨gb187, 1, none⟩) (by first | (rw [add_block]; exact hn190_1) | (show (Addr.add _ _).block ≠ _; rw [add_block]; exact hn190_1) | exact hn190_1) (.int .i64 ((rd_T43 l1 x53_4).f1))).trans hx190_2; replace hx190_3 := (cell_far (p := ⟨gb187, 1, none⟩) (by first | (rw [add_block]; exact hn190_1) | (show (Addr.add _ _).block ≠ _; rw [add_block]; exact hn190_1) | exact hn190_1) (.int .i64 ((rd_T43 l1 x53_4).f1))).trans hx190_3; replace hx190_0 := (cell_far (p := ⟨gb187, 2, none⟩) (by first | (rw [add_block]; exact hn190_2) | (show (Addr.add _ _).block ≠ _; rw [add_block]; exact hn190_2) | exact hn190_2) (.int .i64 ((rd_T43 l1 x53_4).f2))).trans hx190_0; replace hx190_1 := (cell_far (p := ⟨gb187, 2, none⟩) (by first | (rw [add_block]; exact hn190_2) | (show (Addr.add _ _).block ≠ _; rw [add_block]; exact hn190_2) | exact hn190_2) (.int .i64 ((rd_T43 l1 x53_4).f2))).trans hx190_1; replace hx190_2 := (cell_far (p := ⟨gb187, 2, none⟩) (by first | (rw [add_block]; exact hn190_2) | (show (Addr.add _ _).block ≠ _; rw [add_block]; exact hn190_2) | exact hn190_2) (.int .i64 ((rd_T43 l1 x53_4).f2))).trans hx190_2; replace hx190_3 := (cell_far (p := ⟨gb187, 2, none⟩) (by first | (rw [add_block]; exact hn190_2) | (show (Addr.add _ _).block ≠ _; rw [add_block]; exact hn190_2) | exact hn190_2) (.int .i64 ((rd_T43 l1 x53_4).f2))).trans hx190_3; replace hx190_0 := (cell_far (p := ⟨gb187, 3, none⟩) (by first | (rw [add_block]; exact hn190_3) | (show (Addr.add _ _).block ≠ _; rw [add_block]; exact hn190_3) | exact hn190_3) (.int .i64 ((rd_T43 l1 x53_4).f3))).trans hx190_0; replace hx190_1 := (cell_far (p := ⟨gb187, 3, none⟩) (by first | (rw [add_block]; exact hn190_3) | (show (Addr.add _ _).block ≠ _; rw [add_block]; exact hn190_3) | exact hn190_3) (.int .i64 ((rd_T43 l1 x53_4).f3))).trans hx190_1; replace hx190_2 := (cell_far (p := ⟨gb187, 3, none⟩) (by first | (rw [add_block]; exact hn190_3) | (show (Addr.add _ _).block ≠ _; rw [add_block]; exact hn190_3) | exact hn190_3) (.int .i64 ((rd_T43 l1 x53_4).f3))).trans hx190_2; replace hx190_3 := (cell_far (p := ⟨gb187, 3, none⟩) (by first | (rw [add_block]; exact hn190_3) | (show (Addr.add _ _).block ≠ _; rw [add_block]; exact hn190_3) | exact hn190_3) (.int .i64 ((rd_T43 l1 x53_4).f3))).trans hx190_3; (try have hy190_0 := fun (n_ : Nat) => (show ((((((w34.drewN n_).setCell ⟨gb187, 0, none⟩ (.string ((rd_T43 l1 x53_4).f0))).setCell ⟨gb187, 1, none⟩ (.int .i64 ((rd_T43 l1 x53_4).f1))).setCell ⟨gb187, 2, none⟩ (.int .i64 ((rd_T43 l1 x53_4).f2))).setCell ⟨gb187, 3, none⟩ (.int .i64 ((rd_T43 l1 x53_4).f3)))).cell? _ = some _ from hx190_0)); (try have hy190_1 := fun (n_ : Nat) => (show ((((((w34.drewN n_).setCell ⟨gb187, 0, none⟩ (.string ((rd_T43 l1 x53_4).f0))).setCell ⟨gb187, 1, none⟩ (.int .i64 ((rd_T43 l1 x53_4).f1))).setCell ⟨gb187, 2, none⟩ (.int .i64 ((rd_T43 l1 x53_4).f2))).setCell ⟨gb187, 3, none⟩ (.int .i64 ((rd_T43 l1 x53_4).f3)))).cell? _ = some _ from hx190_1)); (try have hy190_2 := fun (n_ : Nat) => (show ((((((w34.drewN n_).setCell ⟨gb187, 0, none⟩ (.string ((rd_T43 l1 x53_4).f0))).setCell ⟨gb187, 1, none⟩ (.int .i64 ((rd_T43 l1 x53_4).f1))).setCell ⟨gb187, 2, none⟩ (.int .i64 ((rd_T43 l1 x53_4).f2))).setCell ⟨gb187, 3, none⟩ (.int .i64 ((rd_T43 l1 x53_4).f3)))).cell? _ = some _ from hx190_2)); (try have hy190_3 := fun (n_ : Nat) => (show ((((((w34.drewN n_).setCell ⟨gb187, 0, none⟩ (.string ((rd_T43 l1 x53_4).f0))).setCell ⟨gb187, 1, none⟩ (.int .i64 ((rd_T43 l1 x53_4).f1))).setCell ⟨gb187, 2, none⟩ (.int .i64 ((rd_T43 l1 x53_4).f2))).setCell ⟨gb187, 3, none⟩ (.int .i64 ((rd_T43 l1 x53_4).f3)))).cell? _ = some _ from hx190_3)); clear hn190_0; clear hn190_1; clear hn190_2; clear hn190_3; replace p190 := eq_true p190; replace q190 := eq_true q190; have p191 : 0 ≤ (x12_4 : Int) := of_decide_eq_true (by first | (with_reducible assumption) | assumption); have q191 : x12_4 < (x8_3.length : Int) := of_decide_eq_true (by first | (with_reducible assumption) | assumption); obtain ⟨ad191, e191, hx191_0⟩ := Kd.at_int (Kd.R_reads' HO_8.out).2.2 x12_4 p191 q191; obtain rfl : ad188 = ad191 := (by injection e191); have hn191_0 : ad188.block ≠ gb187 := Kd.own_blk (Kd.R_ne HO_8.out BK187.out (by decide)); have hn191_1 : ad188.block ≠ gb187 := Kd.own_blk (Kd.R_ne HO_8.out BK187.out (by decide)); have hn191_2 : ad188.block ≠ gb187 := Kd.own_blk (Kd.R_ne HO_8.out BK187.out (by decide)); have hn191_3 : ad188.block ≠ gb187 := Kd.own_blk (Kd.R_ne HO_8.out BK187.out (by decide)); replace hx191_0 := (cell_far (p := ⟨gb187, 0, none⟩) (by first | (rw [add_block]; exact hn191_0) | (show (Addr.add _ _).block ≠ _; rw [add_block]; exact hn191_0) | exact hn191_0) (.string ((rd_T43 l1 x53_4).f0))).trans hx191_0; replace hx191_0 := (cell_far (p := ⟨gb187, 1, none⟩) (by first | (rw [add_block]; exact hn191_1) | (show (Addr.add _ _).block ≠ _; rw [add_block]; exact hn191_1) | exact hn191_1) (.int .i64 ((rd_T43 l1 x53_4).f1))).trans hx191_0; replace hx191_0 := (cell_far (p := ⟨gb187, 2, none⟩) (by first | (rw [add_block]; exact hn191_2) | (show (Addr.add _ _).block ≠ _; rw [add_block]; exact hn191_2) | exact hn191_2) (.int .i64 ((rd_T43 l1 x53_4).f2))).trans hx191_0; replace hx191_0 := (cell_far (p := ⟨gb187, 3, none⟩) (by first | (rw [add_block]; exact hn191_3) | (show (Addr.add _ _).block ≠ _; rw [add_block]; exact hn191_3) | exact hn191_3) (.int .i64 ((rd_T43 l1 x53_4).f3))).trans hx191_0; (try have hy191_0 := fun (n_ : Nat) => (show ((((((w34.drewN n_).setCell ⟨gb187, 0, none⟩ (.string ((rd_T43 l1 x53_4).f0))).setCell ⟨gb187, 1, none⟩ (.int .i64 ((rd_T43 l1 x53_4).f1))).setCell ⟨gb187, 2, none⟩ (.int .i64 ((rd_T43 l1 x53_4).f2))).setCell ⟨gb187, 3, none⟩ (.int .i64 ((rd_T43 l1 x53_4).f3)))).cell? _ = some _ from hx191_0)); clear hn191_0; clear hn191_1; clear hn191_2; clear hn191_3; replace p191 := eq_true p191; replace q191 := eq_true q191)); try go_wp2_with (first | ((with_reducible refine gate_dst (N := 14) rfl ?_); refine box_event ?hg (N := 14) ?hd (cs := #[.string (⟨#[]⟩ : ByteArray), .int .i64 0, .int .i64 0, .int .i64 0]) (t := 43) ?hr ?_; (case hd => rfl); (case hg => rfl); (case hr => first | (go_simp; done) | (go_simp; rfl)); intro gb187 hg w34 hbox hb; have n0_ := Aside0.mk (Kd.R_below (by (with_reducible repeat (first | apply Kd.R_alloc | apply Kd.R_drewN | apply Kd.R_drew)); exact HO_8.out) hb); have n1_ := Aside0.mk (below_step (by repeat (first | (with_reducible first | exact HB.out | apply below_alloc | apply pw_below_drewN | apply below_drew1) | exact HB.out)) hb); have n2_ := Aside0.mk (hbox); have n3_ := Aside0.mk ((by rw [hg]; exact (below_size (by repeat (first | (with_reducible first | exact HB.out | apply below_alloc | apply pw_below_drewN | apply below_drew1) | exact HB.out))) : w.heap.size ≤ gb187)); have n4_ := Aside0.mk ((by rw [hg]; exact (below_size (by repeat (first | (with_reducible first | exact HB.out | apply below_alloc | apply pw_below_drewN | apply below_drew1) | exact HB.out))) : w.heap.size ≤ gb187)); clear HO_8; clear HB; have HO_8 := n0_; have HB := n1_; have BK187 := n2_; have GW187 := n3_; have GE187 := n4_; clear n0_ n1_ n2_ n3_ n4_; clear hb hbox hg; have hcz35_0 : w34.cell? ⟨gb187, 0, none⟩ = some (.string (⟨#[]⟩ : ByteArray)) := (blk_cell BK187.out 0).trans rfl; have hcz35_1 : w34.cell? ⟨gb187, 1, none⟩ = some (.int .i64 0) := (blk_cell BK187.out 1).trans rfl; have hcz35_2 : w34.cell? ⟨gb187, 2, none⟩ = some (.int .i64 0) := (blk_cell BK187.out 2).trans rfl; have hcz35_3 : w34.cell? ⟨gb187, 3, none⟩ = some (.int .i64 0) := (blk_cell BK187.out 3).trans rfl; have hfz35_0 := blk_frozen BK187.out 0; have hfz35_1 := blk_frozen BK187.out 1; have hfz35_2 := blk_frozen BK187.out 2; have hfz35_3 := blk_frozen BK187.out 3; obtain ⟨Ao36, co36, eo36⟩ := Kd.R_slice HO_8.out; subst eo36; have p188 : 0 ≤ (x53_4 : Int) := of_decide_eq_true (by first | (with_reducible assumption) | assumption); have q188 : x53_4 < (x8_3.length : Int) := of_decide_eq_true (by first | (with_reducible assumption) | assumption); obtain ⟨ad188, e188, hx188_0⟩ := Kd.at_int (Kd.R_reads' HO_8.out).2.2 x53_4 p188 q188; cases e188; have hn188_0 : ad188.block ≠ gb187 := Kd.own_blk (Kd.R_ne HO_8.out BK187.out (by decide)); have hn188_1 : ad188.block ≠ gb187 := Kd.own_blk (Kd.R_ne HO_8.out BK187.out (by decide)); have hn188_2 : ad188.block ≠ gb187 := Kd.own_blk (Kd.R_ne HO_8.out BK187.out (by decide)); have hn188_3 : ad188.block ≠ gb187 := Kd.own_blk (Kd.R_ne HO_8.out BK187.out (by decide)); replace hx188_0 := (cell_far (p := ⟨gb187, 0, none⟩) (by first | (rw [add_block]; exact hn188_0) | (show (Addr.add _ _).block ≠ _; rw [add_block]; exact hn188_0) | exact hn188_0) (.string ((rd_T43 l1 x53_4).f0))).trans hx188_0; replace hx188_0 := (cell_far (p := ⟨gb187, 1, none⟩) (by first | (rw [add_block]; exact hn188_1) | (show (Addr.add _ _).block ≠ _; rw [add_block]; exact hn188_1) | exact hn188_1) (.int .i64 ((rd_T43 l1 x53_4).f1))).trans hx188_0; replace hx188_0 := (cell_far (p := ⟨gb187, 2, none⟩) (by first | (rw [add_block]; exact hn188_2) | (show (Addr.add _ _).block ≠ _; rw [add_block]; exact hn188_2) | exact hn188_2) (.int .i64 ((rd_T43 l1 x53_4).f2))).trans hx188_0; replace hx188_0 := (cell_far (p := ⟨gb187, 3, none⟩) (by first | (rw [add_block]; exact hn188_3) | (show (Addr.add _ _).block ≠ _; rw [add_block]; exact hn188_3) | exact hn188_3) (.int .i64 ((rd_T43 l1 x53_4).f3))).trans hx188_0; (try have hy188_0 := fun (n_ : Nat) => (show ((((((w34.drewN n_).setCell ⟨gb187, 0, none⟩ (.string ((rd_T43 l1 x53_4).f0))).setCell ⟨gb187, 1, none⟩ (.int .i64 ((rd_T43 l1 x53_4).f1))).setCell ⟨gb187, 2, none⟩ (.int .i64 ((rd_T43 l1 x53_4).f2))).setCell ⟨gb187, 3, none⟩ (.int .i64 ((rd_T43 l1 x53_4).f3)))).cell? _ = some _ from hx188_0)); clear hn188_0; clear hn188_1; clear hn188_2; clear hn188_3; replace p188 := eq_true p188; replace q188 := eq_true q188; have p189 : 0 ≤ (x53_4 : Int) := of_decide_eq_true (by first | (with_reducible assumption) | assumption); have q189 : x53_4 < (x8_3.length : Int) := of_decide_eq_true (by first | (with_reducible assumption) | assumption); obtain ⟨ad189, e189, hx189_0⟩ := Kd.at_int (Kd.R_reads' HO_8.out).2.2 x53_4 p189 q189; obtain rfl : ad188 = ad189 := (by injection e189); have hn189_0 : ad188.block ≠ gb187 := Kd.own_blk (Kd.R_ne HO_8.out BK187.out (by decide)); have hn189_1 : ad188.block ≠ gb187 := Kd.own_blk (Kd.R_ne HO_8.out BK187.out (by decide)); have hn189_2 : ad188.block ≠ gb187 := Kd.own_blk (Kd.R_ne HO_8.out BK187.out (by decide)); have hn189_3 : ad188.block ≠ gb187 := Kd.own_blk (Kd.R_ne HO_8.out BK187.out (by decide)); replace hx189_0 := (cell_far (p := ⟨gb187, 0, none⟩) (by first | (rw [add_block]; exact hn189_0) | (show (Addr.add _ _).block ≠ _; rw [add_block]; exact hn189_0) | exact hn189_0) (.string ((rd_T43 l1 x53_4).f0))).trans hx189_0; replace hx189_0 := (cell_far (p := ⟨gb187, 1, none⟩) (by first | (rw [add_block]; exact hn189_1) | (show (Addr.add _ _).block ≠ _; rw [add_block]; exact hn189_1) | exact hn189_1) (.int .i64 ((rd_T43 l1 x53_4).f1))).trans hx189_0; replace hx189_0 := (cell_far (p := ⟨gb187, 2, none⟩) (by first | (rw [add_block]; exact hn189_2) | (show (Addr.add _ _).block ≠ _; rw [add_block]; exact hn189_2) | exact hn189_2) (.int .i64 ((rd_T43 l1 x53_4).f2))).trans hx189_0; replace hx189_0 := (cell_far (p := ⟨gb187, 3, none⟩) (by first | (rw [add_block]; exact hn189_3) | (show (Addr.add _ _).block ≠ _; rw [add_block]; exact hn189_3) | exact hn189_3) (.int .i64 ((rd_T43 l1 x53_4).f3))).trans hx189_0; (try have hy189_0 := fun (n_ : Nat) => (show ((((((w34.drewN n_).setCell ⟨gb187, 0, none⟩ (.string ((rd_T43 l1 x53_4).f0))).setCell ⟨gb187, 1, none⟩ (.int .i64 ((rd_T43 l1 x53_4).f1))).setCell ⟨gb187, 2, none⟩ (.int .i64 ((rd_T43 l1 x53_4).f2))).setCell ⟨gb187, 3, none⟩ (.int .i64 ((rd_T43 l1 x53_4).f3)))).cell? _ = some _ from hx189_0)); clear hn189_0; clear hn189_1; clear hn189_2; clear hn189_3; replace p189 := eq_true p189; replace q189 := eq_true q189; have p190 : 0 ≤ (x12_4 : Int) := of_decide_eq_true (by first | (with_reducible assumption) | assumption); have q190 : x12_4 < (l1.length : Int) := of_decide_eq_true (by first | (with_reducible assumption) | assumption); obtain ⟨ad190, e190, hx190_0, hx190_1, hx190_2, hx190_3⟩ := at_T43 HR1.out x12_4 p190 q190; obtain rfl : ad186 = ad190 := (by injection e190); have hn190_0 : ad186.block ≠ gb187 := Nat.ne_of_lt (Nat.lt_of_lt_of_le (by have := World.block_lt_of_cell? _ _ hx190_0; first | rwa [add_block] at this | exact this) GW187.out); have hn190_1 : ad186.block ≠ gb187 := Nat.ne_of_lt (Nat.lt_of_lt_of_le (by have := World.block_lt_of_cell? _ _ hx190_0; first | rwa [add_block] at this | exact this) GW187.out); have hn190_2 : ad186.block ≠ gb187 := Nat.ne_of_lt (Nat.lt_of_lt_of_le (by have := World.block_lt_of_cell? _ _ hx190_0; first | rwa [add_block] at this | exact this) GW187.out); have hn190_3 : ad186.block ≠ gb187 := Nat.ne_of_lt (Nat.lt_of_lt_of_le (by have := World.block_lt_of_cell? _ _ hx190_0; first | rwa [add_block] at this | exact this) GW187.out); replace hx190_0 := (HB.out.cell (World.block_lt_of_cell? w _ hx190_0)).trans hx190_0; replace hx190_1 := (HB.out.cell (World.block_lt_of_cell? w _ hx190_1)).trans hx190_1; replace hx190_2 := (HB.out.cell (World.block_lt_of_cell? w _ hx190_2)).trans hx190_2; replace hx190_3 := (HB.out.cell (World.block_lt_of_cell? w _ hx190_3)).trans hx190_3; replace hx190_0 := (cell_far (p := ⟨gb187, 0, none⟩) (by first | (rw [add_block]; exact hn190_0) | (show (Addr.add _ _).block ≠ _; rw [add_block]; exact hn190_0) | exact hn190_0) (.string ((rd_T43 l1 x53_4).f0))).trans hx190_0; replace hx190_1 := (cell_far (p := ⟨gb187, 0, none⟩) (by first | (rw [add_block]; exact hn190_0) | (show (Addr.add _ _).block ≠ _; rw [add_block]; exact hn190_0) | exact hn190_0) (.string ((rd_T43 l1 x53_4).f0))).trans hx190_1; replace hx190_2 := (cell_far (p := ⟨gb187, 0, none⟩) (by first | (rw [add_block]; exact hn190_0) | (show (Addr.add _ _).block ≠ _; rw [add_block]; exact hn190_0) | exact hn190_0) (.string ((rd_T43 l1 x53_4).f0))).trans hx190_2; replace hx190_3 := (cell_far (p := ⟨gb187, 0, none⟩) (by first | (rw [add_block]; exact hn190_0) | (show (Addr.add _ _).block ≠ _; rw [add_block]; exact hn190_0) | exact hn190_0) (.string ((rd_T43 l1 x53_4).f0))).trans hx190_3; replace hx190_0 := (cell_far (p := ⟨gb187, 1, none⟩) (by first | (rw [add_block]; exact hn190_1) | (show (Addr.add _ _).block ≠ _; rw [add_block]; exact hn190_1) | exact hn190_1) (.int .i64 ((rd_T43 l1 x53_4).f1))).trans hx190_0; replace hx190_1 := (cell_far (p := ⟨gb187, 1, none⟩) (by first | (rw [add_block]; exact hn190_1) | (show (Addr.add _ _).block ≠ _; rw [add_block]; exact hn190_1) | exact hn190_1) (.int .i64 ((rd_T43 l1 x53_4).f1))).trans hx190_1; replace hx190_2 := (cell_far (p := ⟨gb187, 1, none⟩) (by first | (rw [add_block]; exact hn190_1) | (show (Addr.add _ _).block ≠ _; rw [add_block]; exact hn190_1) | exact hn190_1) (.int .i64 ((rd_T43 l1 x53_4).f1))).trans hx190_2; replace hx190_3 := (cell_far (p := ⟨gb187, 1, none⟩) (by first | (rw [add_block]; exact hn190_1) | (show (Addr.add _ _).block ≠ _; rw [add_block]; exact hn190_1) | exact hn190_1) (.int .i64 ((rd_T43 l1 x53_4).f1))).trans hx190_3; replace hx190_0 := (cell_far (p := ⟨gb187, 2, none⟩) (by first | (rw [add_block]; exact hn190_2) | (show (Addr.add _ _).block ≠ _; rw [add_block]; exact hn190_2) | exact hn190_2) (.int .i64 ((rd_T43 l1 x53_4).f2))).trans hx190_0; replace hx190_1 := (cell_far (p := ⟨gb187, 2, none⟩) (by first | (rw [add_block]; exact hn190_2) | (show (Addr.add _ _).block ≠ _; rw [add_block]; exact hn190_2) | exact hn190_2) (.int .i64 ((rd_T43 l1 x53_4).f2))).trans hx190_1; replace hx190_2 := (cell_far (p := ⟨gb187, 2, none⟩) (by first | (rw [add_block]; exact hn190_2) | (show (Addr.add _ _).block ≠ _; rw [add_block]; exact hn190_2) | exact hn190_2) (.int .i64 ((rd_T43 l1 x53_4).f2))).trans hx190_2; replace hx190_3 := (cell_far (p := ⟨gb187, 2, none⟩) (by first | (rw [add_block]; exact hn190_2) | (show (Addr.add _ _).block ≠ _; rw [add_block]; exact hn190_2) | exact hn190_2) (.int .i64 ((rd_T43 l1 x53_4).f2))).trans hx190_3; replace hx190_0 := (cell_far (p := ⟨gb187, 3, none⟩) (by first | (rw [add_block]; exact hn190_3) | (show (Addr.add _ _).block ≠ _; rw [add_block]; exact hn190_3) | exact hn190_3) (.int .i64 ((rd_T43 l1 x53_4).f3))).trans hx190_0; replace hx190_1 := (cell_far (p := ⟨gb187, 3, none⟩) (by first | (rw [add_block]; exact hn190_3) | (show (Addr.add _ _).block ≠ _; rw [add_block]; exact hn190_3) | exact hn190_3) (.int .i64 ((rd_T43 l1 x53_4).f3))).trans hx190_1; replace hx190_2 := (cell_far (p := ⟨gb187, 3, none⟩) (by first | (rw [add_block]; exact hn190_3) | (show (Addr.add _ _).block ≠ _; rw [add_block]; exact hn190_3) | exact hn190_3) (.int .i64 ((rd_T43 l1 x53_4).f3))).trans hx190_2; replace hx190_3 := (cell_far (p := ⟨gb187, 3, none⟩) (by first | (rw [add_block]; exact hn190_3) | (show (Addr.add _ _).block ≠ _; rw [add_block]; exact hn190_3) | exact hn190_3) (.int .i64 ((rd_T43 l1 x53_4).f3))).trans hx190_3; (try have hy190_0 := fun (n_ : Nat) => (show ((((((w34.drewN n_).setCell ⟨gb187, 0, none⟩ (.string ((rd_T43 l1 x53_4).f0))).setCell ⟨gb187, 1, none⟩ (.int .i64 ((rd_T43 l1 x53_4).f1))).setCell ⟨gb187, 2, none⟩ (.int .i64 ((rd_T43 l1 x53_4).f2))).setCell ⟨gb187, 3, none⟩ (.int .i64 ((rd_T43 l1 x53_4).f3)))).cell? _ = some _ from hx190_0)); (try have hy190_1 := fun (n_ : Nat) => (show ((((((w34.drewN n_).setCell ⟨gb187, 0, none⟩ (.string ((rd_T43 l1 x53_4).f0))).setCell ⟨gb187, 1, none⟩ (.int .i64 ((rd_T43 l1 x53_4).f1))).setCell ⟨gb187, 2, none⟩ (.int .i64 ((rd_T43 l1 x53_4).f2))).setCell ⟨gb187, 3, none⟩ (.int .i64 ((rd_T43 l1 x53_4).f3)))).cell? _ = some _ from hx190_1)); (try have hy190_2 := fun (n_ : Nat) => (show ((((((w34.drewN n_).setCell ⟨gb187, 0, none⟩ (.string ((rd_T43 l1 x53_4).f0))).setCell ⟨gb187, 1, none⟩ (.int .i64 ((rd_T43 l1 x53_4).f1))).setCell ⟨gb187, 2, none⟩ (.int .i64 ((rd_T43 l1 x53_4).f2))).setCell ⟨gb187, 3, none⟩ (.int .i64 ((rd_T43 l1 x53_4).f3)))).cell? _ = some _ from hx190_2)); (try have hy190_3 := fun (n_ : Nat) => (show ((((((w34.drewN n_).setCell ⟨gb187, 0, none⟩ (.string ((rd_T43 l1 x53_4).f0))).setCell ⟨gb187, 1, none⟩ (.int .i64 ((rd_T43 l1 x53_4).f1))).setCell ⟨gb187, 2, none⟩ (.int .i64 ((rd_T43 l1 x53_4).f2))).setCell ⟨gb187, 3, none⟩ (.int .i64 ((rd_T43 l1 x53_4).f3)))).cell? _ = some _ from hx190_3)); clear hn190_0; clear hn190_1; clear hn190_2; clear hn190_3; replace p190 := eq_true p190; replace q190 := eq_true q190; have p191 : 0 ≤ (x12_4 : Int) := of_decide_eq_true (by first | (with_reducible assumption) | assumption); have q191 : x12_4 < (x8_3.length : Int) := of_decide_eq_true (by first | (with_reducible assumption) | assumption); obtain ⟨ad191, e191, hx191_0⟩ := Kd.at_int (Kd.R_reads' HO_8.out).2.2 x12_4 p191 q191; obtain rfl : ad188 = ad191 := (by injection e191); have hn191_0 : ad188.block ≠ gb187 := Kd.own_blk (Kd.R_ne HO_8.out BK187.out (by decide)); have hn191_1 : ad188.block ≠ gb187 := Kd.own_blk (Kd.R_ne HO_8.out BK187.out (by decide)); have hn191_2 : ad188.block ≠ gb187 := Kd.own_blk (Kd.R_ne HO_8.out BK187.out (by decide)); have hn191_3 : ad188.block ≠ gb187 := Kd.own_blk (Kd.R_ne HO_8.out BK187.out (by decide)); replace hx191_0 := (cell_far (p := ⟨gb187, 0, none⟩) (by first | (rw [add_block]; exact hn191_0) | (show (Addr.add _ _).block ≠ _; rw [add_block]; exact hn191_0) | exact hn191_0) (.string ((rd_T43 l1 x53_4).f0))).trans hx191_0; replace hx191_0 := (cell_far (p := ⟨gb187, 1, none⟩) (by first | (rw [add_block]; exact hn191_1) | (show (Addr.add _ _).block ≠ _; rw [add_block]; exact hn191_1) | exact hn191_1) (.int .i64 ((rd_T43 l1 x53_4).f1))).trans hx191_0; replace hx191_0 := (cell_far (p := ⟨gb187, 2, none⟩) (by first | (rw [add_block]; exact hn191_2) | (show (Addr.add _ _).block ≠ _; rw [add_block]; exact hn191_2) | exact hn191_2) (.int .i64 ((rd_T43 l1 x53_4).f2))).trans hx191_0; replace hx191_0 := (cell_far (p := ⟨gb187, 3, none⟩) (by first | (rw [add_block]; exact hn191_3) | (show (Addr.add _ _).block ≠ _; rw [add_block]; exact hn191_3) | exact hn191_3) (.int .i64 ((rd_T43 l1 x53_4).f3))).trans hx191_0; (try have hy191_0 := fun (n_ : Nat) => (show ((((((w34.drewN n_).setCell ⟨gb187, 0, none⟩ (.string ((rd_T43 l1 x53_4).f0))).setCell ⟨gb187, 1, none⟩ (.int .i64 ((rd_T43 l1 x53_4).f1))).setCell ⟨gb187, 2, none⟩ (.int .i64 ((rd_T43 l1 x53_4).f2))).setCell ⟨gb187, 3, none⟩ (.int .i64 ((rd_T43 l1 x53_4).f3)))).cell? _ = some _ from hx191_0)); clear hn191_0; clear hn191_1; clear hn191_2; clear hn191_3; replace p191 := eq_true p191; replace q191 := eq_true q191)))
                      go_roundg k4
                      case measure => have := HJ3.out; have := HK2.out; have := HK3.out; have := HK4.out; omega
                      case rel => exact ⟨(x12_4), (wrap64 (x53_4 + 1)), (by first | rfl | (simp; done) | (simp [*]; done)), (by first | rfl | (simp; done) | (simp [*]; done)), H', ⟨by have := HJ3.out; have := HK2.out; have := HK3.out; have := HK4.out; omega⟩, ⟨by (with_reducible repeat (first | apply Kd.R_alloc | apply Kd.R_drewN | apply Kd.R_drew)); exact Kd.R_mono (Kd.R_far (p := ⟨gb187, 3, none⟩) (Kd.R_far (p := ⟨gb187, 2, none⟩) (Kd.R_far (p := ⟨gb187, 1, none⟩) (Kd.R_far (p := ⟨gb187, 0, none⟩) (Kd.R_types HO_8.out BK187.out (by decide)) (fun _ hk => hk.2) (.string ((rd_T43 l1 x53_4).f0))) (fun _ hk => hk.2) (.int .i64 ((rd_T43 l1 x53_4).f1))) (fun _ hk => hk.2) (.int .i64 ((rd_T43 l1 x53_4).f2))) (fun _ hk => hk.2) (.int .i64 ((rd_T43 l1 x53_4).f3))) (fun _ hk => trivial)⟩, ⟨by repeat (first | (with_reducible first | exact HB.out | apply below_alloc | apply pw_below_drewN | apply below_drew1 | refine below_set ?_ GE187.out) | exact HB.out)⟩⟩
                    ·
                     rw [if_neg c29] at H
                     exact absurd H (by simp)
                   ·
                    rw [if_neg c28] at H
                    exact absurd H (by simp)
                  ·
                   rw [if_neg c27] at H
                   exact absurd H (by simp)
                ·
                 rw [if_neg c22] at H
                 have c22b0 : decide ((rd x8_3 x53_4) < ((rd_T43 l1 x53_4).f1)) = false := decide_eq_false c22
                 clear c22
                 have H' := Aside0.mk H
                 clear H
                 have p186 : 0 ≤ (x53_4 : Int) := of_decide_eq_true (by first | (with_reducible assumption) | assumption)
                 have q186 : x53_4 < (l1.length : Int) := of_decide_eq_true (by first | (with_reducible assumption) | assumption)
                 obtain ⟨ad186, e186, hx186_0, hx186_1, hx186_2, hx186_3⟩ := at_T43 HR1.out x53_4 p186 q186
                 cases e186
                 replace hx186_0 := (HB.out.cell (World.block_lt_of_cell? w _ hx186_0)).trans hx186_0
                 replace hx186_1 := (HB.out.cell (World.block_lt_of_cell? w _ hx186_1)).trans hx186_1
                 replace hx186_2 := (HB.out.cell (World.block_lt_of_cell? w _ hx186_2)).trans hx186_2
                 replace hx186_3 := (HB.out.cell (World.block_lt_of_cell? w _ hx186_3)).trans hx186_3
                 replace p186 := eq_true p186
                 replace q186 := eq_true q186
                 go_wp2_with (first | ((with_reducible refine gate_dst (N := 14) rfl ?_); refine box_event ?hg (N := 14) ?hd (cs := #[.string (⟨#[]⟩ : ByteArray), .int .i64 0, .int .i64 0, .int .i64 0]) (t := 43) ?hr ?_; (case hd => rfl); (case hg => rfl); (case hr => first | (go_simp; done) | (go_simp; rfl)); intro gb187 hg w37 hbox hb; have n0_ := Aside0.mk (Kd.R_below (by (with_reducible repeat (first | apply Kd.R_alloc | apply Kd.R_drewN | apply Kd.R_drew)); exact HO_8.out) hb); have n1_ := Aside0.mk (below_step (by repeat (first | (with_reducible first | exact HB.out | apply below_alloc | apply pw_below_drewN | apply below_drew1) | exact HB.out)) hb); have n2_ := Aside0.mk (hbox); have n3_ := Aside0.mk ((by rw [hg]; exact (below_size (by repeat (first | (with_reducible first | exact HB.out | apply below_alloc | apply pw_below_drewN | apply below_drew1) | exact HB.out))) : w.heap.size ≤ gb187)); have n4_ := Aside0.mk ((by rw [hg]; exact (below_size (by repeat (first | (with_reducible first | exact HB.out | apply below_alloc | apply pw_below_drewN | apply below_drew1) | exact HB.out))) : w.heap.size ≤ gb187)); clear HO_8; clear HB; have HO_8 := n0_; have HB := n1_; have BK187 := n2_; have GW187 := n3_; have GE187 := n4_; clear n0_ n1_ n2_ n3_ n4_; clear hb hbox hg; have hcz38_0 : w37.cell? ⟨gb187, 0, none⟩ = some (.string (⟨#[]⟩ : ByteArray)) := (blk_cell BK187.out 0).trans rfl; have hcz38_1 : w37.cell? ⟨gb187, 1, none⟩ = some (.int .i64 0) := (blk_cell BK187.out 1).trans rfl; have hcz38_2 : w37.cell? ⟨gb187, 2, none⟩ = some (.int .i64 0) := (blk_cell BK187.out 2).trans rfl; have hcz38_3 : w37.cell? ⟨gb187, 3, none⟩ = some (.int .i64 0) := (blk_cell BK187.out 3).trans rfl; have hfz38_0 := blk_frozen BK187.out 0; have hfz38_1 := blk_frozen BK187.out 1; have hfz38_2 := blk_frozen BK187.out 2; have hfz38_3 := blk_frozen BK187.out 3; obtain ⟨Ao39, co39, eo39⟩ := Kd.R_slice HO_8.out; subst eo39; have p188 : 0 ≤ (x53_4 : Int) := of_decide_eq_true (by first | (with_reducible assumption) | assumption); have q188 : x53_4 < (x8_3.length : Int) := of_decide_eq_true (by first | (with_reducible assumption) | assumption); obtain ⟨ad188, e188, hx188_0⟩ := Kd.at_int (Kd.R_reads' HO_8.out).2.2 x53_4 p188 q188; cases e188; have hn188_0 : ad188.block ≠ gb187 := Kd.own_blk (Kd.R_ne HO_8.out BK187.out (by decide)); have hn188_1 : ad188.block ≠ gb187 := Kd.own_blk (Kd.R_ne HO_8.out BK187.out (by decide)); have hn188_2 : ad188.block ≠ gb187 := Kd.own_blk (Kd.R_ne HO_8.out BK187.out (by decide)); have hn188_3 : ad188.block ≠ gb187 := Kd.own_blk (Kd.R_ne HO_8.out BK187.out (by decide)); replace hx188_0 := (cell_far (p := ⟨gb187, 0, none⟩) (by first | (rw [add_block]; exact hn188_0) | (show (Addr.add _ _).block ≠ _; rw [add_block]; exact hn188_0) | exact hn188_0) (.string ((rd_T43 l1 x53_4).f0))).trans hx188_0; replace hx188_0 := (cell_far (p := ⟨gb187, 1, none⟩) (by first | (rw [add_block]; exact hn188_1) | (show (Addr.add _ _).block ≠ _; rw [add_block]; exact hn188_1) | exact hn188_1) (.int .i64 ((rd_T43 l1 x53_4).f1))).trans hx188_0; replace hx188_0 := (cell_far (p := ⟨gb187, 2, none⟩) (by first | (rw [add_block]; exact hn188_2) | (show (Addr.add _ _).block ≠ _; rw [add_block]; exact hn188_2) | exact hn188_2) (.int .i64 ((rd_T43 l1 x53_4).f2))).trans hx188_0; replace hx188_0 := (cell_far (p := ⟨gb187, 3, none⟩) (by first | (rw [add_block]; exact hn188_3) | (show (Addr.add _ _).block ≠ _; rw [add_block]; exact hn188_3) | exact hn188_3) (.int .i64 ((rd_T43 l1 x53_4).f3))).trans hx188_0; (try have hy188_0 := fun (n_ : Nat) => (show ((((((w37.drewN n_).setCell ⟨gb187, 0, none⟩ (.string ((rd_T43 l1 x53_4).f0))).setCell ⟨gb187, 1, none⟩ (.int .i64 ((rd_T43 l1 x53_4).f1))).setCell ⟨gb187, 2, none⟩ (.int .i64 ((rd_T43 l1 x53_4).f2))).setCell ⟨gb187, 3, none⟩ (.int .i64 ((rd_T43 l1 x53_4).f3)))).cell? _ = some _ from hx188_0)); clear hn188_0; clear hn188_1; clear hn188_2; clear hn188_3; replace p188 := eq_true p188; replace q188 := eq_true q188))
                 repeat (go_quiet (first | ((with_reducible refine gate_dst (N := 14) rfl ?_); refine box_event ?hg (N := 14) ?hd (cs := #[.string (⟨#[]⟩ : ByteArray), .int .i64 0, .int .i64 0, .int .i64 0]) (t := 43) ?hr ?_; (case hd => rfl); (case hg => rfl); (case hr => first | (go_simp; done) | (go_simp; rfl)); intro gb187 hg w37 hbox hb; have n0_ := Aside0.mk (Kd.R_below (by (with_reducible repeat (first | apply Kd.R_alloc | apply Kd.R_drewN | apply Kd.R_drew)); exact HO_8.out) hb); have n1_ := Aside0.mk (below_step (by repeat (first | (with_reducible first | exact HB.out | apply below_alloc | apply pw_below_drewN | apply below_drew1) | exact HB.out)) hb); have n2_ := Aside0.mk (hbox); have n3_ := Aside0.mk ((by rw [hg]; exact (below_size (by repeat (first | (with_reducible first | exact HB.out | apply below_alloc | apply pw_below_drewN | apply below_drew1) | exact HB.out))) : w.heap.size ≤ gb187)); have n4_ := Aside0.mk ((by rw [hg]; exact (below_size (by repeat (first | (with_reducible first | exact HB.out | apply below_alloc | apply pw_below_drewN | apply below_drew1) | exact HB.out))) : w.heap.size ≤ gb187)); clear HO_8; clear HB; have HO_8 := n0_; have HB := n1_; have BK187 := n2_; have GW187 := n3_; have GE187 := n4_; clear n0_ n1_ n2_ n3_ n4_; clear hb hbox hg; have hcz38_0 : w37.cell? ⟨gb187, 0, none⟩ = some (.string (⟨#[]⟩ : ByteArray)) := (blk_cell BK187.out 0).trans rfl; have hcz38_1 : w37.cell? ⟨gb187, 1, none⟩ = some (.int .i64 0) := (blk_cell BK187.out 1).trans rfl; have hcz38_2 : w37.cell? ⟨gb187, 2, none⟩ = some (.int .i64 0) := (blk_cell BK187.out 2).trans rfl; have hcz38_3 : w37.cell? ⟨gb187, 3, none⟩ = some (.int .i64 0) := (blk_cell BK187.out 3).trans rfl; have hfz38_0 := blk_frozen BK187.out 0; have hfz38_1 := blk_frozen BK187.out 1; have hfz38_2 := blk_frozen BK187.out 2; have hfz38_3 := blk_frozen BK187.out 3; obtain ⟨Ao39, co39, eo39⟩ := Kd.R_slice HO_8.out; subst eo39; have p188 : 0 ≤ (x53_4 : Int) := of_decide_eq_true (by first | (with_reducible assumption) | assumption); have q188 : x53_4 < (x8_3.length : Int) := of_decide_eq_true (by first | (with_reducible assumption) | assumption); obtain ⟨ad188, e188, hx188_0⟩ := Kd.at_int (Kd.R_reads' HO_8.out).2.2 x53_4 p188 q188; cases e188; have hn188_0 : ad188.block ≠ gb187 := Kd.own_blk (Kd.R_ne HO_8.out BK187.out (by decide)); have hn188_1 : ad188.block ≠ gb187 := Kd.own_blk (Kd.R_ne HO_8.out BK187.out (by decide)); have hn188_2 : ad188.block ≠ gb187 := Kd.own_blk (Kd.R_ne HO_8.out BK187.out (by decide)); have hn188_3 : ad188.block ≠ gb187 := Kd.own_blk (Kd.R_ne HO_8.out BK187.out (by decide)); replace hx188_0 := (cell_far (p := ⟨gb187, 0, none⟩) (by first | (rw [add_block]; exact hn188_0) | (show (Addr.add _ _).block ≠ _; rw [add_block]; exact hn188_0) | exact hn188_0) (.string ((rd_T43 l1 x53_4).f0))).trans hx188_0; replace hx188_0 := (cell_far (p := ⟨gb187, 1, none⟩) (by first | (rw [add_block]; exact hn188_1) | (show (Addr.add _ _).block ≠ _; rw [add_block]; exact hn188_1) | exact hn188_1) (.int .i64 ((rd_T43 l1 x53_4).f1))).trans hx188_0; replace hx188_0 := (cell_far (p := ⟨gb187, 2, none⟩) (by first | (rw [add_block]; exact hn188_2) | (show (Addr.add _ _).block ≠ _; rw [add_block]; exact hn188_2) | exact hn188_2) (.int .i64 ((rd_T43 l1 x53_4).f2))).trans hx188_0; replace hx188_0 := (cell_far (p := ⟨gb187, 3, none⟩) (by first | (rw [add_block]; exact hn188_3) | (show (Addr.add _ _).block ≠ _; rw [add_block]; exact hn188_3) | exact hn188_3) (.int .i64 ((rd_T43 l1 x53_4).f3))).trans hx188_0; (try have hy188_0 := fun (n_ : Nat) => (show ((((((w37.drewN n_).setCell ⟨gb187, 0, none⟩ (.string ((rd_T43 l1 x53_4).f0))).setCell ⟨gb187, 1, none⟩ (.int .i64 ((rd_T43 l1 x53_4).f1))).setCell ⟨gb187, 2, none⟩ (.int .i64 ((rd_T43 l1 x53_4).f2))).setCell ⟨gb187, 3, none⟩ (.int .i64 ((rd_T43 l1 x53_4).f3)))).cell? _ = some _ from hx188_0)); clear hn188_0; clear hn188_1; clear hn188_2; clear hn188_3; replace p188 := eq_true p188; replace q188 := eq_true q188)); try go_wp2_with (first | ((with_reducible refine gate_dst (N := 14) rfl ?_); refine box_event ?hg (N := 14) ?hd (cs := #[.string (⟨#[]⟩ : ByteArray), .int .i64 0, .int .i64 0, .int .i64 0]) (t := 43) ?hr ?_; (case hd => rfl); (case hg => rfl); (case hr => first | (go_simp; done) | (go_simp; rfl)); intro gb187 hg w37 hbox hb; have n0_ := Aside0.mk (Kd.R_below (by (with_reducible repeat (first | apply Kd.R_alloc | apply Kd.R_drewN | apply Kd.R_drew)); exact HO_8.out) hb); have n1_ := Aside0.mk (below_step (by repeat (first | (with_reducible first | exact HB.out | apply below_alloc | apply pw_below_drewN | apply below_drew1) | exact HB.out)) hb); have n2_ := Aside0.mk (hbox); have n3_ := Aside0.mk ((by rw [hg]; exact (below_size (by repeat (first | (with_reducible first | exact HB.out | apply below_alloc | apply pw_below_drewN | apply below_drew1) | exact HB.out))) : w.heap.size ≤ gb187)); have n4_ := Aside0.mk ((by rw [hg]; exact (below_size (by repeat (first | (with_reducible first | exact HB.out | apply below_alloc | apply pw_below_drewN | apply below_drew1) | exact HB.out))) : w.heap.size ≤ gb187)); clear HO_8; clear HB; have HO_8 := n0_; have HB := n1_; have BK187 := n2_; have GW187 := n3_; have GE187 := n4_; clear n0_ n1_ n2_ n3_ n4_; clear hb hbox hg; have hcz38_0 : w37.cell? ⟨gb187, 0, none⟩ = some (.string (⟨#[]⟩ : ByteArray)) := (blk_cell BK187.out 0).trans rfl; have hcz38_1 : w37.cell? ⟨gb187, 1, none⟩ = some (.int .i64 0) := (blk_cell BK187.out 1).trans rfl; have hcz38_2 : w37.cell? ⟨gb187, 2, none⟩ = some (.int .i64 0) := (blk_cell BK187.out 2).trans rfl; have hcz38_3 : w37.cell? ⟨gb187, 3, none⟩ = some (.int .i64 0) := (blk_cell BK187.out 3).trans rfl; have hfz38_0 := blk_frozen BK187.out 0; have hfz38_1 := blk_frozen BK187.out 1; have hfz38_2 := blk_frozen BK187.out 2; have hfz38_3 := blk_frozen BK187.out 3; obtain ⟨Ao39, co39, eo39⟩ := Kd.R_slice HO_8.out; subst eo39; have p188 : 0 ≤ (x53_4 : Int) := of_decide_eq_true (by first | (with_reducible assumption) | assumption); have q188 : x53_4 < (x8_3.length : Int) := of_decide_eq_true (by first | (with_reducible assumption) | assumption); obtain ⟨ad188, e188, hx188_0⟩ := Kd.at_int (Kd.R_reads' HO_8.out).2.2 x53_4 p188 q188; cases e188; have hn188_0 : ad188.block ≠ gb187 := Kd.own_blk (Kd.R_ne HO_8.out BK187.out (by decide)); have hn188_1 : ad188.block ≠ gb187 := Kd.own_blk (Kd.R_ne HO_8.out BK187.out (by decide)); have hn188_2 : ad188.block ≠ gb187 := Kd.own_blk (Kd.R_ne HO_8.out BK187.out (by decide)); have hn188_3 : ad188.block ≠ gb187 := Kd.own_blk (Kd.R_ne HO_8.out BK187.out (by decide)); replace hx188_0 := (cell_far (p := ⟨gb187, 0, none⟩) (by first | (rw [add_block]; exact hn188_0) | (show (Addr.add _ _).block ≠ _; rw [add_block]; exact hn188_0) | exact hn188_0) (.string ((rd_T43 l1 x53_4).f0))).trans hx188_0; replace hx188_0 := (cell_far (p := ⟨gb187, 1, none⟩) (by first | (rw [add_block]; exact hn188_1) | (show (Addr.add _ _).block ≠ _; rw [add_block]; exact hn188_1) | exact hn188_1) (.int .i64 ((rd_T43 l1 x53_4).f1))).trans hx188_0; replace hx188_0 := (cell_far (p := ⟨gb187, 2, none⟩) (by first | (rw [add_block]; exact hn188_2) | (show (Addr.add _ _).block ≠ _; rw [add_block]; exact hn188_2) | exact hn188_2) (.int .i64 ((rd_T43 l1 x53_4).f2))).trans hx188_0; replace hx188_0 := (cell_far (p := ⟨gb187, 3, none⟩) (by first | (rw [add_block]; exact hn188_3) | (show (Addr.add _ _).block ≠ _; rw [add_block]; exact hn188_3) | exact hn188_3) (.int .i64 ((rd_T43 l1 x53_4).f3))).trans hx188_0; (try have hy188_0 := fun (n_ : Nat) => (show ((((((w37.drewN n_).setCell ⟨gb187, 0, none⟩ (.string ((rd_T43 l1 x53_4).f0))).setCell ⟨gb187, 1, none⟩ (.int .i64 ((rd_T43 l1 x53_4).f1))).setCell ⟨gb187, 2, none⟩ (.int .i64 ((rd_T43 l1 x53_4).f2))).setCell ⟨gb187, 3, none⟩ (.int .i64 ((rd_T43 l1 x53_4).f3)))).cell? _ = some _ from hx188_0)); clear hn188_0; clear hn188_1; clear hn188_2; clear hn188_3; replace p188 := eq_true p188; replace q188 := eq_true q188)))
                 go_roundg k4
                 case measure => have := HJ3.out; have := HK2.out; have := HK3.out; have := HK4.out; omega
                 case rel => exact ⟨(x12_4), (wrap64 (x53_4 + 1)), (by first | rfl | (simp; done) | (simp [*]; done)), (by first | rfl | (simp; done) | (simp [*]; done)), H', ⟨by have := HJ3.out; have := HK2.out; have := HK3.out; have := HK4.out; omega⟩, ⟨by (with_reducible repeat (first | apply Kd.R_alloc | apply Kd.R_drewN | apply Kd.R_drew)); exact Kd.R_mono (Kd.R_far (p := ⟨gb187, 3, none⟩) (Kd.R_far (p := ⟨gb187, 2, none⟩) (Kd.R_far (p := ⟨gb187, 1, none⟩) (Kd.R_far (p := ⟨gb187, 0, none⟩) (Kd.R_types HO_8.out BK187.out (by decide)) (fun _ hk => hk.2) (.string ((rd_T43 l1 x53_4).f0))) (fun _ hk => hk.2) (.int .i64 ((rd_T43 l1 x53_4).f1))) (fun _ hk => hk.2) (.int .i64 ((rd_T43 l1 x53_4).f2))) (fun _ hk => hk.2) (.int .i64 ((rd_T43 l1 x53_4).f3))) (fun _ hk => trivial)⟩, ⟨by repeat (first | (with_reducible first | exact HB.out | apply below_alloc | apply pw_below_drewN | apply below_drew1 | refine below_set ?_ GE187.out) | exact HB.out)⟩⟩
               ·
                rw [if_neg c21] at H
                exact absurd H (by simp)
              ·
               rw [if_neg c20] at H
               exact absurd H (by simp)
             ·
              rw [if_neg c19] at H
              exact absurd H (by simp)
            ·
             rw [if_neg c18] at H
             have c18b0 : decide (x53_4 < (l1.length : Int)) = false := decide_eq_false c18
             clear c18
             by_cases c40 : x12_4 < 0
             ·
              rw [if_pos c40] at H
              have c40b0 : decide (x12_4 < 0) = true := decide_eq_true c40
              clear c40
              simp only [Option.some.injEq, Prod.mk.injEq] at H
              obtain ⟨rfl, rfl⟩ := H
              go_wp2
              repeat (go_quiet (fail); try go_wp2)
              go_ret2
              exact ⟨_, by first | rfl | (simp [errW_none, errW_some] <;> rfl) | (simp [*, errW_none, errW_some] <;> rfl), by (with_reducible repeat (first | apply Kd.R_alloc | apply Kd.R_drewN | apply Kd.R_drew)); exact HO_8.out, by repeat (first | (with_reducible first | exact HB.out | apply below_alloc | apply pw_below_drewN | apply below_drew1) | exact HB.out)⟩
             ·
              rw [if_neg c40] at H
              have c40b0 : decide (x12_4 < 0) = false := decide_eq_false c40
              clear c40
              by_cases c41 : 0 ≤ x12_4
              ·
               rw [if_pos c41] at H
               have c41b0 : decide (0 ≤ x12_4) = true := decide_eq_true c41
               clear c41
               by_cases c42 : x12_4 < (x8_3.length : Int)
               ·
                rw [if_pos c42] at H
                have c42b0 : decide (x12_4 < (x8_3.length : Int)) = true := decide_eq_true c42
                clear c42
                obtain ⟨y193, hy193⟩ : ∃ y_ : List Int, y_ = (x8_3.set (x12_4 : Int).toNat (wrap64 ((rd x8_3 x12_4) + 1))) := ⟨_, rfl⟩
                replace H : (impl_ShareOut.l1 k4 l1 y193 (wrap64 (x11_3 - 1))) = some (r1, r2) := by first | (rw [hy193]; with_reducible exact H) | (have H2_ := (Option.bind_some _ _).symm.trans H; rw [hy193]; with_reducible exact H2_) | (have H2_ := (Option.bind_some _ _).symm.trans H; with_reducible exact H2_) | with_reducible exact H | (rw [hy193]; exact H) | exact H
                have Ny193 := Aside0.mk hy193
                clear hy193
                have H' := Aside0.mk H
                clear H
                obtain ⟨Ao44, co44, eo44⟩ := Kd.R_slice HO_8.out
                subst eo44
                have p192 : 0 ≤ (x12_4 : Int) := of_decide_eq_true (by first | (with_reducible assumption) | assumption)
                have q192 : x12_4 < (x8_3.length : Int) := of_decide_eq_true (by first | (with_reducible assumption) | assumption)
                obtain ⟨ad192, e192, hx192_0⟩ := Kd.at_int (Kd.R_reads' HO_8.out).2.2 x12_4 p192 q192
                cases e192
                replace p192 := eq_true p192
                replace q192 := eq_true q192
                have p43 : 0 ≤ (x12_4 : Int) := of_decide_eq_true (by first | (with_reducible assumption) | assumption)
                have q43 : (x12_4 : Int) < ((x8_3.length : Int) : Int) := of_decide_eq_true (by first | (with_reducible assumption) | assumption)
                obtain ⟨go43, co43, eo43, gb43, gl43, cl43, HG43⟩ := Kd.R_form HO_8.out (by omega)
                (first | cases eo43 | (injection eo43 with ea_ en_ ec_; (first | subst ea_ | (injection ea_ with ea_; subst ea_)); subst ec_; clear en_))
                have GB43 := Aside0.mk gb43
                have GG43 := Aside0.mk HG43
                clear gb43 gl43 HG43
                (first | simp only [add_plain] at hx192_0 | skip)
                obtain ⟨hx43_0, hf43_0⟩ := Kd.R_celln 0 HO_8.out (x12_4 : Int) p43 q43
                replace p43 := eq_true p43
                replace q43 := eq_true q43
                have HP45 := Kd.R_putg HO_8.out (x12_4 : Int) (wrap64 ((rd x8_3 x12_4) + 1))
                go_wp2_with (first | ((with_reducible refine gate_store (t := 3) (p := 98) rfl ?_); (try (rw [drewN_self wr]; generalize hq_ : World.drewN wr _ = wr; have n0_ := Aside0.mk (Kd.R_at hq_ HO_8.out); have n1_ := Aside0.mk (below_at hq_ HB.out); clear hq_ HO_8 HB; have HO_8 := n0_; have HB := n1_; clear n0_ n1_; (try (have HP45 := Kd.R_putg HO_8.out (x12_4 : Int) (wrap64 ((rd x8_3 x12_4) + 1)))))); refine store_event (t := 3) (p := 98) (v := ?vo_w46) (w1 := (wr.setCell ⟨go43, (x12_4 : Int).toNat, none⟩ (.int .i64 (wrap64 ((rd x8_3 x12_4) + 1))))) ?hg ?ho ?hn ?hr ?_; (case ho => rfl); (case hg => rfl); (case hn => rfl); (case hr => first | (go_simp; done) | (go_simp; rfl)); intro w46 hw; have hg : wr.grownBy w46 (some go43) := (by rw [hw]; exact HP45.2); have hp_ : Kd.R (Kd.int .i64) 3 w46 w.heap.size (fun _ => True) (.slice (some ⟨go43, 0, none⟩) x8_3.length co44) y193 := (by rw [hw, Ny193.out]; exact HP45.1); clear HP45; have n0_ := Aside0.mk (hp_); have n1_ := Aside0.mk ((by rw [hw]; exact below_set (HB.out) GB43.out : Below w.heap.size w w46)); clear HO_8; clear HB; have HO_8 := n0_; have HB := n1_; clear n0_ n1_; clear hg hw hp_))
                repeat (go_quiet (first | ((with_reducible refine gate_store (t := 3) (p := 98) rfl ?_); (try (rw [drewN_self wr]; generalize hq_ : World.drewN wr _ = wr; have n0_ := Aside0.mk (Kd.R_at hq_ HO_8.out); have n1_ := Aside0.mk (below_at hq_ HB.out); clear hq_ HO_8 HB; have HO_8 := n0_; have HB := n1_; clear n0_ n1_; (try (have HP45 := Kd.R_putg HO_8.out (x12_4 : Int) (wrap64 ((rd x8_3 x12_4) + 1)))))); refine store_event (t := 3) (p := 98) (v := ?vo_w46) (w1 := (wr.setCell ⟨go43, (x12_4 : Int).toNat, none⟩ (.int .i64 (wrap64 ((rd x8_3 x12_4) + 1))))) ?hg ?ho ?hn ?hr ?_; (case ho => rfl); (case hg => rfl); (case hn => rfl); (case hr => first | (go_simp; done) | (go_simp; rfl)); intro w46 hw; have hg : wr.grownBy w46 (some go43) := (by rw [hw]; exact HP45.2); have hp_ : Kd.R (Kd.int .i64) 3 w46 w.heap.size (fun _ => True) (.slice (some ⟨go43, 0, none⟩) x8_3.length co44) y193 := (by rw [hw, Ny193.out]; exact HP45.1); clear HP45; have n0_ := Aside0.mk (hp_); have n1_ := Aside0.mk ((by rw [hw]; exact below_set (HB.out) GB43.out : Below w.heap.size w w46)); clear HO_8; clear HB; have HO_8 := n0_; have HB := n1_; clear n0_ n1_; clear hg hw hp_)); try go_wp2_with (first | ((with_reducible refine gate_store (t := 3) (p := 98) rfl ?_); (try (rw [drewN_self wr]; generalize hq_ : World.drewN wr _ = wr; have n0_ := Aside0.mk (Kd.R_at hq_ HO_8.out); have n1_ := Aside0.mk (below_at hq_ HB.out); clear hq_ HO_8 HB; have HO_8 := n0_; have HB := n1_; clear n0_ n1_; (try (have HP45 := Kd.R_putg HO_8.out (x12_4 : Int) (wrap64 ((rd x8_3 x12_4) + 1)))))); refine store_event (t := 3) (p := 98) (v := ?vo_w46) (w1 := (wr.setCell ⟨go43, (x12_4 : Int).toNat, none⟩ (.int .i64 (wrap64 ((rd x8_3 x12_4) + 1))))) ?hg ?ho ?hn ?hr ?_; (case ho => rfl); (case hg => rfl); (case hn => rfl); (case hr => first | (go_simp; done) | (go_simp; rfl)); intro w46 hw; have hg : wr.grownBy w46 (some go43) := (by rw [hw]; exact HP45.2); have hp_ : Kd.R (Kd.int .i64) 3 w46 w.heap.size (fun _ => True) (.slice (some ⟨go43, 0, none⟩) x8_3.length co44) y193 := (by rw [hw, Ny193.out]; exact HP45.1); clear HP45; have n0_ := Aside0.mk (hp_); have n1_ := Aside0.mk ((by rw [hw]; exact below_set (HB.out) GB43.out : Below w.heap.size w w46)); clear HO_8; clear HB; have HO_8 := n0_; have HB := n1_; clear n0_ n1_; clear hg hw hp_)))
                go_roundg k4
                case measure => have := HJ3.out; have := HK2.out; have := HK3.out; have := HK4.out; omega
                case rel => exact ⟨(y193), (wrap64 (x11_3 - 1)), (by first | rfl | (simp; done) | (simp [*]; done)), H', ⟨by have := HJ3.out; have := HK2.out; have := HK3.out; have := HK4.out; omega⟩, ⟨by (with_reducible repeat (first | apply Kd.R_alloc | apply Kd.R_drewN | apply Kd.R_drew)); exact HO_8.out⟩, ⟨by repeat (first | (with_reducible first | exact HB.out | apply below_alloc | apply pw_below_drewN | apply below_drew1) | exact HB.out)⟩⟩
               ·
                rw [if_neg c42] at H
                exact absurd H (by simp)
              ·
               rw [if_neg c41] at H
               exact absurd H (by simp)
         ·
          rw [if_neg c17] at H
          have c17b0 : decide (0 < x11_3) = false := decide_eq_false c17
          clear c17
          simp only [Option.some.injEq, Prod.mk.injEq] at H
          obtain ⟨rfl, rfl⟩ := H
          go_wp2
          repeat (go_quiet (fail); try go_wp2)
          go_ret2
          exact ⟨_, by first | rfl | (simp [errW_none, errW_some] <;> rfl) | (simp [*, errW_none, errW_some] <;> rfl), by (with_reducible repeat (first | apply Kd.R_alloc | apply Kd.R_drewN | apply Kd.R_drew)); exact HO_8.out, by repeat (first | (with_reducible first | exact HB.out | apply below_alloc | apply pw_below_drewN | apply below_drew1) | exact HB.out)⟩
theorem impl_ShareOut.j0.st {x0 : Int} {x1 : List (S43)} {x6 : Int} {x31 : Bool} {r : (List Int × Bool)} (H : Ev (fun k => if x31 = true then (some (([] : List Int), false)) else (impl_ShareOut.l0 k x0 x1 x6 ([] : List Int) x1 (x1.length : Int) 0)) r) : Ev (fun k => impl_ShareOut.j0 k x0 x1 x6 x31) r := Ev.step (fun k => impl_ShareOut.j0.eq_2 x0 x1 x6 x31 k) H
theorem impl_ShareOut.l0.st {x0 : Int} {x1 : List (S43)} {x6 : Int} {x8 : List Int} {x32 : List (S43)} {x33 : Int} {x34 : Int} {r : (List Int × Bool)} (H : Ev (fun k => if x34 < x33 then (if 0 ≤ x34 then (if x34 < (x32.length : Int) then (if x8.length < 17592186044416 then (impl_ShareOut.l0 k x0 x1 x6 (x8 ++ [(rd_T43 x32 x34).f2]) x32 x33 (wrap64 (x34 + 1))) else (none)) else (none)) else (none)) else (impl_ShareOut.l1 k x1 x8 (wrap64 (x0 - x6)))) r) : Ev (fun k => impl_ShareOut.l0 k x0 x1 x6 x8 x32 x33 x34) r := Ev.step (fun k => impl_ShareOut.l0.eq_2 x0 x1 x6 x8 x32 x33 x34 k) H
theorem impl_ShareOut.l1.st {x1 : List (S43)} {x8 : List Int} {x11 : Int} {r : (List Int × Bool)} (H : Ev (fun k => if x11 > 0 then (impl_ShareOut.l2 k x1 x8 x11 (-1) x1 (x1.length : Int) 0) else (some (x8, true))) r) : Ev (fun k => impl_ShareOut.l1 k x1 x8 x11) r := Ev.step (fun k => impl_ShareOut.l1.eq_2 x1 x8 x11 k) H
theorem impl_ShareOut.l2.st {x1 : List (S43)} {x8 : List Int} {x11 : Int} {x12 : Int} {x51 : List (S43)} {x52 : Int} {x53 : Int} {r : (List Int × Bool)} (H : Ev (fun k => if x53 < x52 then (if 0 ≤ x53 then (if x53 < (x51.length : Int) then (if x53 < (x8.length : Int) then (if (rd x8 x53) < ((rd_T43 x51 x53).f1) then (if x12 < 0 then (impl_ShareOut.l2 k x1 x8 x11 x53 x51 x52 (wrap64 (x53 + 1))) else (if 0 ≤ x12 then (if x12 < (x1.length : Int) then (if x12 < (x8.length : Int) then (if (wrap64 ((rd x8 x53) * ((rd_T43 x1 x12).f3))) < (wrap64 ((rd x8 x12) * ((rd_T43 x51 x53).f3))) then (impl_ShareOut.l2 k x1 x8 x11 x53 x51 x52 (wrap64 (x53 + 1))) else (impl_ShareOut.l2 k x1 x8 x11 x12 x51 x52 (wrap64 (x53 + 1)))) else (none)) else (none)) else (none))) else (impl_ShareOut.l2 k x1 x8 x11 x12 x51 x52 (wrap64 (x53 + 1)))) else (none)) else (none)) else (none)) else (if x12 < 0 then (some (x8, true)) else (if 0 ≤ x12 then (if x12 < (x8.length : Int) then (impl_ShareOut.l1 k x1 (x8.set (x12 : Int).toNat (wrap64 ((rd x8 x12) + 1))) (wrap64 (x11 - 1))) else (none)) else (none)))) r) : Ev (fun k => impl_ShareOut.l2 k x1 x8 x11 x12 x51 x52 x53) r := Ev.step (fun k => impl_ShareOut.l2.eq_2 x1 x8 x11 x12 x51 x52 x53 k) H

end Go.Proofs.Ytipppogkphenpaa.PB
