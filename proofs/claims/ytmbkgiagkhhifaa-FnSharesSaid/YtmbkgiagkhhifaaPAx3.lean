/- Functions of the program, of the reference and of the statements: each as a plain Lean function, and a proof that the machine's call answers what that one answers. Written by a program: the kit's print, with contracts of our own for what it does not take. No condition. -/
import Derived.Test.YtmbkgiagkhhifaaPAx0
import Derived.Test.YtmbkgiagkhhifaaPAx2
namespace Go.Proofs.Ytmbkgiagkhhifaa.PA
open Go.RowKit Go.Proofs.YtmbkgiagkhhifaaW.PrintWords Go.Proofs.YtmbkgiagkhhifaaW.PrintLast Go.Proofs.YtmbkgiagkhhifaaW.PrintMore
attribute [local go_sem] max2_int min2_int max_two min_two max_three min_three max_four min_four   -- for this text's walks alone
set_option linter.unusedVariables false
set_option linter.unusedSimpArgs false

/-! ### impl_ShareOut: function 7 -/
mutual
def impl_ShareOut.j0 : Nat → Int → List (S44) → Int → Bool → Option (List Int × Bool)
 | 0, _, _, _, _ => none
 | k + 1, x0, x1, x6, x31 => if x31 = true then (some (([] : List Int), false)) else (impl_ShareOut.l0 k x0 x1 x6 ([] : List Int) x1 (x1.length : Int) 0)
def impl_ShareOut.l0 : Nat → Int → List (S44) → Int → List Int → List (S44) → Int → Int → Option (List Int × Bool)
 | 0, _, _, _, _, _, _, _ => none
 | k + 1, x0, x1, x6, x8, x32, x33, x34 => if x34 < x33 then (if 0 ≤ x34 then (if x34 < (x32.length : Int) then (if x8.length < 17592186044416 then (impl_ShareOut.l0 k x0 x1 x6 (x8 ++ [(rd_T44 x32 x34).f2]) x32 x33 (wrap64 (x34 + 1))) else (none)) else (none)) else (none)) else (impl_ShareOut.l1 k x1 x8 (wrap64 (x0 - x6)))
def impl_ShareOut.l1 : Nat → List (S44) → List Int → Int → Option (List Int × Bool)
 | 0, _, _, _ => none
 | k + 1, x1, x8, x11 => if x11 > 0 then (impl_ShareOut.l2 k x1 x8 x11 (-1) x1 (x1.length : Int) 0) else (some (x8, true))
def impl_ShareOut.l2 : Nat → List (S44) → List Int → Int → Int → List (S44) → Int → Int → Option (List Int × Bool)
 | 0, _, _, _, _, _, _, _ => none
 | k + 1, x1, x8, x11, x12, x51, x52, x53 => if x53 < x52 then (if 0 ≤ x53 then (if x53 < (x51.length : Int) then (if x53 < (x8.length : Int) then (if (rd x8 x53) < ((rd_T44 x51 x53).f1) then (if x12 < 0 then (impl_ShareOut.l2 k x1 x8 x11 x53 x51 x52 (wrap64 (x53 + 1))) else (if 0 ≤ x12 then (if x12 < (x1.length : Int) then (if x12 < (x8.length : Int) then (if (wrap64 ((rd x8 x53) * ((rd_T44 x1 x12).f3))) < (wrap64 ((rd x8 x12) * ((rd_T44 x51 x53).f3))) then (impl_ShareOut.l2 k x1 x8 x11 x53 x51 x52 (wrap64 (x53 + 1))) else (impl_ShareOut.l2 k x1 x8 x11 x12 x51 x52 (wrap64 (x53 + 1)))) else (none)) else (none)) else (none))) else (impl_ShareOut.l2 k x1 x8 x11 x12 x51 x52 (wrap64 (x53 + 1)))) else (none)) else (none)) else (none)) else (if x12 < 0 then (some (x8, true)) else (if 0 ≤ x12 then (if x12 < (x8.length : Int) then (impl_ShareOut.l1 k x1 (x8.set (x12 : Int).toNat (wrap64 ((rd x8 x12) + 1))) (wrap64 (x11 - 1))) else (none)) else (none)))
end
def impl_ShareOut.f (k : Nat) (a0 : Int) (l1 : List (S44)) : Option (List Int × Bool) := (impl_NeedOf.f k l1).bind fun bt270 => (if bt270.1 < 0 then (impl_ShareOut.j0 k a0 l1 bt270.1 true) else ((impl_isCount.f a0).bind fun t272 => (if t272 = true then (impl_ShareOut.j0 k a0 l1 bt270.1 (decide (bt270.1 > a0))) else (impl_ShareOut.j0 k a0 l1 bt270.1 true))))
theorem impl_ShareOut.mono_l : ∀ k, (∀ y0 y1 y2 y3, LeO (impl_ShareOut.j0 k y0 y1 y2 y3) (impl_ShareOut.j0 (k + 1) y0 y1 y2 y3)) ∧ (∀ y0 y1 y2 y3 y4 y5 y6, LeO (impl_ShareOut.l0 k y0 y1 y2 y3 y4 y5 y6) (impl_ShareOut.l0 (k + 1) y0 y1 y2 y3 y4 y5 y6)) ∧ (∀ y0 y1 y2, LeO (impl_ShareOut.l1 k y0 y1 y2) (impl_ShareOut.l1 (k + 1) y0 y1 y2)) ∧ (∀ y0 y1 y2 y3 y4 y5 y6, LeO (impl_ShareOut.l2 k y0 y1 y2 y3 y4 y5 y6) (impl_ShareOut.l2 (k + 1) y0 y1 y2 y3 y4 y5 y6))
 | 0 => ⟨fun _ _ _ _ r h => by simp [impl_ShareOut.j0] at h, fun _ _ _ _ _ _ _ r h => by simp [impl_ShareOut.l0] at h, fun _ _ _ r h => by simp [impl_ShareOut.l1] at h, fun _ _ _ _ _ _ _ r h => by simp [impl_ShareOut.l2] at h⟩
 | k + 1 => by
  obtain ⟨ih0, ih1, ih2, ih3⟩ := impl_ShareOut.mono_l k
  refine ⟨?_, ?_, ?_, ?_⟩
  ·
   intro y0 y1 y2 y3
   unfold impl_ShareOut.j0
   repeat' first
   | (with_reducible exact ih0 _ _ _ _)
   | (with_reducible exact ih1 _ _ _ _ _ _ _)
   | (with_reducible exact ih2 _ _ _)
   | (with_reducible exact ih3 _ _ _ _ _ _ _)
   | (with_reducible exact impl_NeedOf.mono _ _)
   | (with_reducible exact LeO.refl _)
   | (with_reducible exact LeO.none _)
   | (with_reducible refine LeO.ite ?_ ?_)
   | (with_reducible refine LeO.bind ?_ (fun _ => ?_))
   | exact ih0 _ _ _ _
   | exact ih1 _ _ _ _ _ _ _
   | exact ih2 _ _ _
   | exact ih3 _ _ _ _ _ _ _
   | exact impl_NeedOf.mono _ _
   | exact LeO.none _
   | refine LeO.ite ?_ ?_
   | refine LeO.bind ?_ (fun _ => ?_)
  ·
   intro y0 y1 y2 y3 y4 y5 y6
   unfold impl_ShareOut.l0
   repeat' first
   | (with_reducible exact ih0 _ _ _ _)
   | (with_reducible exact ih1 _ _ _ _ _ _ _)
   | (with_reducible exact ih2 _ _ _)
   | (with_reducible exact ih3 _ _ _ _ _ _ _)
   | (with_reducible exact impl_NeedOf.mono _ _)
   | (with_reducible exact LeO.refl _)
   | (with_reducible exact LeO.none _)
   | (with_reducible refine LeO.ite ?_ ?_)
   | (with_reducible refine LeO.bind ?_ (fun _ => ?_))
   | exact ih0 _ _ _ _
   | exact ih1 _ _ _ _ _ _ _
   | exact ih2 _ _ _
   | exact ih3 _ _ _ _ _ _ _
   | exact impl_NeedOf.mono _ _
   | exact LeO.none _
   | refine LeO.ite ?_ ?_
   | refine LeO.bind ?_ (fun _ => ?_)
  ·
   intro y0 y1 y2
   unfold impl_ShareOut.l1
   repeat' first
   | (with_reducible exact ih0 _ _ _ _)
   | (with_reducible exact ih1 _ _ _ _ _ _ _)
   | (with_reducible exact ih2 _ _ _)
   | (with_reducible exact ih3 _ _ _ _ _ _ _)
   | (with_reducible exact impl_NeedOf.mono _ _)
   | (with_reducible exact LeO.refl _)
   | (with_reducible exact LeO.none _)
   | (with_reducible refine LeO.ite ?_ ?_)
   | (with_reducible refine LeO.bind ?_ (fun _ => ?_))
   | exact ih0 _ _ _ _
   | exact ih1 _ _ _ _ _ _ _
   | exact ih2 _ _ _
   | exact ih3 _ _ _ _ _ _ _
   | exact impl_NeedOf.mono _ _
   | exact LeO.none _
   | refine LeO.ite ?_ ?_
   | refine LeO.bind ?_ (fun _ => ?_)
  ·
   intro y0 y1 y2 y3 y4 y5 y6
   unfold impl_ShareOut.l2
   repeat' first
   | (with_reducible exact ih0 _ _ _ _)
   | (with_reducible exact ih1 _ _ _ _ _ _ _)
   | (with_reducible exact ih2 _ _ _)
   | (with_reducible exact ih3 _ _ _ _ _ _ _)
   | (with_reducible exact impl_NeedOf.mono _ _)
   | (with_reducible exact LeO.refl _)
   | (with_reducible exact LeO.none _)
   | (with_reducible refine LeO.ite ?_ ?_)
   | (with_reducible refine LeO.bind ?_ (fun _ => ?_))
   | exact ih0 _ _ _ _
   | exact ih1 _ _ _ _ _ _ _
   | exact ih2 _ _ _
   | exact ih3 _ _ _ _ _ _ _
   | exact impl_NeedOf.mono _ _
   | exact LeO.none _
   | refine LeO.ite ?_ ?_
   | refine LeO.bind ?_ (fun _ => ?_)
theorem impl_ShareOut.mono : ∀ a0 a1 k, LeO (impl_ShareOut.f k a0 a1) (impl_ShareOut.f (k + 1) a0 a1) := by
 intro a0 a1 k
 obtain ⟨ih0, ih1, ih2, ih3⟩ := impl_ShareOut.mono_l k
 unfold impl_ShareOut.f
 repeat' first
   | (with_reducible exact ih0 _ _ _ _)
   | (with_reducible exact ih1 _ _ _ _ _ _ _)
   | (with_reducible exact ih2 _ _ _)
   | (with_reducible exact ih3 _ _ _ _ _ _ _)
   | (with_reducible exact impl_NeedOf.mono _ _)
   | (with_reducible exact LeO.refl _)
   | (with_reducible exact LeO.none _)
   | (with_reducible refine LeO.ite ?_ ?_)
   | (with_reducible refine LeO.bind ?_ (fun _ => ?_))
   | exact ih0 _ _ _ _
   | exact ih1 _ _ _ _ _ _ _
   | exact ih2 _ _ _
   | exact ih3 _ _ _ _ _ _ _
   | exact impl_NeedOf.mono _ _
   | exact LeO.none _
   | refine LeO.ite ?_ ?_
   | refine LeO.bind ?_ (fun _ => ?_)
set_option maxHeartbeats 8000000 in
set_option maxRecDepth 100000 in
theorem impl_ShareOut.calls (k : Nat) (a0 : Int) (A1 : Option Addr) (c1 : Nat) (l1 : List (S44)) (r1 : List Int) (r2 : Bool) (w : World) (hr1 : Kd.C k44 w A1 l1.length l1) (hc1 : l1.length ≤ c1) (h : impl_ShareOut.f k a0 l1 = some (r1, r2)) :
  Calls Try.prog 7 #[.int .i64 a0, .slice A1 l1.length c1] w fun e w' => ∃ v0_ : Value, e = .returned (.tuple #[v0_, .bool r2]) ∧ Kd.R (Kd.int .i64) 3 w' w.heap.size (fun _ => True) v0_ r1 ∧ Below w.heap.size w w' := by
 have hu44 := Try.underlying44
 have HR1 := Aside0.mk hr1
 have HC1 := Aside0.mk hc1
 clear hr1 hc1
 have HB := Aside0.mk (Below.refl w.heap.size w)
 have H : ((impl_NeedOf.f k l1).bind fun bt270 => (if bt270.1 < 0 then (impl_ShareOut.j0 k a0 l1 bt270.1 true) else ((impl_isCount.f a0).bind fun t272 => (if t272 = true then (impl_ShareOut.j0 k a0 l1 bt270.1 (decide (bt270.1 > a0))) else (impl_ShareOut.j0 k a0 l1 bt270.1 true))))) = some (r1, r2) := h
 clear h
 replace H := Option.bind_eq_some_iff.mp H
 obtain ⟨⟨t270, t271⟩, A30, H⟩ := H
 replace H : (if t270 < 0 then (impl_ShareOut.j0 k a0 l1 t270 true) else ((impl_isCount.f a0).bind fun t272 => (if t272 = true then (impl_ShareOut.j0 k a0 l1 t270 (decide (t270 > a0))) else (impl_ShareOut.j0 k a0 l1 t270 true)))) = some (r1, r2) := H
 have A3 := Aside0.mk A30
 clear A30
 have HC4 := Aside0.mk H
 clear H
 go_enter Try.func7, Try.ntmps7
 go_upto_region 2 with (first | (go_at_call 11; (with_reducible refine (impl_NeedOf.calls k _ _ l1 t270 t271 _ ?side1 ?side2 A3.out).mono ?_); (case side1 => repeat (first | exact HR1.out | (with_reducible refine Kd.C_alloc ?_ _) | (with_reducible refine Kd.C_drewN ?_ _) | (with_reducible refine Kd.C_drew ?_))); (case side2 => exact HC1.out); rintro e w5 ⟨rfl, hb⟩; have n0_ := Aside0.mk (below_step (by repeat (first | (with_reducible first | exact HB.out | apply below_alloc | apply pw_below_drewN | apply below_drew1) | exact HB.out)) hb); clear HB; have HB := n0_; clear n0_; (try clear hb); (try clear hb2); (try clear hk); (try clear hi)))
 repeat (go_quiet (first | (go_at_call 11; (with_reducible refine (impl_NeedOf.calls k _ _ l1 t270 t271 _ ?side1 ?side2 A3.out).mono ?_); (case side1 => repeat (first | exact HR1.out | (with_reducible refine Kd.C_alloc ?_ _) | (with_reducible refine Kd.C_drewN ?_ _) | (with_reducible refine Kd.C_drew ?_))); (case side2 => exact HC1.out); rintro e w5 ⟨rfl, hb⟩; have n0_ := Aside0.mk (below_step (by repeat (first | (with_reducible first | exact HB.out | apply below_alloc | apply pw_below_drewN | apply below_drew1) | exact HB.out)) hb); clear HB; have HB := n0_; clear n0_; (try clear hb); (try clear hb2); (try clear hk); (try clear hi))); go_upto_region 2 with (first | (go_at_call 11; (with_reducible refine (impl_NeedOf.calls k _ _ l1 t270 t271 _ ?side1 ?side2 A3.out).mono ?_); (case side1 => repeat (first | exact HR1.out | (with_reducible refine Kd.C_alloc ?_ _) | (with_reducible refine Kd.C_drewN ?_ _) | (with_reducible refine Kd.C_drew ?_))); (case side2 => exact HC1.out); rintro e w5 ⟨rfl, hb⟩; have n0_ := Aside0.mk (below_step (by repeat (first | (with_reducible first | exact HB.out | apply below_alloc | apply pw_below_drewN | apply below_drew1) | exact HB.out)) hb); clear HB; have HB := n0_; clear n0_; (try clear hb); (try clear hb2); (try clear hk); (try clear hi))))
 (try simp only [Act.put, List.setIfInBounds_toArray, List.set_cons_zero, List.set_cons_succ])
 go_cut [31] (fun v31 wc => ∃ (kq : Nat) (x31_3 : Bool), v31 = .bool x31_3 ∧ Aside0 (impl_ShareOut.j0 kq a0 l1 t270 x31_3 = some (r1, r2)) ∧ Aside0 (kq ≤ k) ∧ Aside0 (Below w.heap.size w wc))
 case first =>
  have H := HC4.out
  clear HC4
  by_cases c6 : t270 < 0
  ·
   rw [if_pos c6] at H
   have c6b0 : decide (t270 < 0) = true := decide_eq_true c6
   clear c6
   (first | rw [c6b0] | (simp only [i64_w, i32_w]; rw [c6b0]) | skip)
   have H' := Aside0.mk H
   clear H
   go_wp2
   repeat (go_quiet (fail); try go_wp2)
   go_meet
   case rel => exact ⟨_, (true), (by first | rfl | (simp; done) | (simp [*]; done)), H', ⟨by first | omega | exact Nat.le_refl _⟩, ⟨by repeat (first | (with_reducible first | exact HB.out | apply below_alloc | apply pw_below_drewN | apply below_drew1) | exact HB.out)⟩⟩
  ·
   rw [if_neg c6] at H
   have c6b0 : decide (t270 < 0) = false := decide_eq_false c6
   clear c6
   (first | rw [c6b0] | (simp only [i64_w, i32_w]; rw [c6b0]) | skip)
   replace H := Option.bind_eq_some_iff.mp H
   obtain ⟨t272, A70, H⟩ := H
   replace H : (if t272 = true then (impl_ShareOut.j0 k a0 l1 t270 (decide (t270 > a0))) else (impl_ShareOut.j0 k a0 l1 t270 true)) = some (r1, r2) := H
   have A7 := Aside0.mk A70
   clear A70
   by_cases c8 : t272 = true
   ·
    subst c8
    have H1 : (impl_ShareOut.j0 k a0 l1 t270 (decide (t270 > a0))) = some (r1, r2) := by rw [if_pos rfl] at H; exact H
    clear H
    have H := H1
    clear H1
    have H' := Aside0.mk H
    clear H
    go_wp2_with (first | (go_at_call 21; (with_reducible refine (impl_isCount.calls a0 true _ A7.out).mono ?_); rintro e w' ⟨rfl, ⟨nd, rfl⟩⟩; (try first | exact ⟨rfl, _, World.drewN_drewN _ _ _⟩ | exact ⟨rfl, _, Eq.trans (World.drewN_drewN _ _ _) (congrArg (World.drewN _) (Nat.add_assoc _ _ _))⟩)))
    repeat (go_quiet (first | (go_at_call 21; (with_reducible refine (impl_isCount.calls a0 true _ A7.out).mono ?_); rintro e w' ⟨rfl, ⟨nd, rfl⟩⟩; (try first | exact ⟨rfl, _, World.drewN_drewN _ _ _⟩ | exact ⟨rfl, _, Eq.trans (World.drewN_drewN _ _ _) (congrArg (World.drewN _) (Nat.add_assoc _ _ _))⟩))); try go_wp2_with (first | (go_at_call 21; (with_reducible refine (impl_isCount.calls a0 true _ A7.out).mono ?_); rintro e w' ⟨rfl, ⟨nd, rfl⟩⟩; (try first | exact ⟨rfl, _, World.drewN_drewN _ _ _⟩ | exact ⟨rfl, _, Eq.trans (World.drewN_drewN _ _ _) (congrArg (World.drewN _) (Nat.add_assoc _ _ _))⟩))))
    go_meet
    case rel => exact ⟨_, (decide (t270 > a0)), (by first | rfl | (simp; done) | (simp [*]; done)), H', ⟨by first | omega | exact Nat.le_refl _⟩, ⟨by repeat (first | (with_reducible first | exact HB.out | apply below_alloc | apply pw_below_drewN | apply below_drew1) | exact HB.out)⟩⟩
   ·
    replace c8 := Bool.eq_false_iff.mpr c8
    subst c8
    have H1 : (impl_ShareOut.j0 k a0 l1 t270 true) = some (r1, r2) := by rw [if_neg (show ¬ (false = true) by decide)] at H; exact H
    clear H
    have H := H1
    clear H1
    have H' := Aside0.mk H
    clear H
    go_wp2_with (first | (go_at_call 21; (with_reducible refine (impl_isCount.calls a0 false _ A7.out).mono ?_); rintro e w' ⟨rfl, ⟨nd, rfl⟩⟩; (try first | exact ⟨rfl, _, World.drewN_drewN _ _ _⟩ | exact ⟨rfl, _, Eq.trans (World.drewN_drewN _ _ _) (congrArg (World.drewN _) (Nat.add_assoc _ _ _))⟩)))
    repeat (go_quiet (first | (go_at_call 21; (with_reducible refine (impl_isCount.calls a0 false _ A7.out).mono ?_); rintro e w' ⟨rfl, ⟨nd, rfl⟩⟩; (try first | exact ⟨rfl, _, World.drewN_drewN _ _ _⟩ | exact ⟨rfl, _, Eq.trans (World.drewN_drewN _ _ _) (congrArg (World.drewN _) (Nat.add_assoc _ _ _))⟩))); try go_wp2_with (first | (go_at_call 21; (with_reducible refine (impl_isCount.calls a0 false _ A7.out).mono ?_); rintro e w' ⟨rfl, ⟨nd, rfl⟩⟩; (try first | exact ⟨rfl, _, World.drewN_drewN _ _ _⟩ | exact ⟨rfl, _, Eq.trans (World.drewN_drewN _ _ _) (congrArg (World.drewN _) (Nat.add_assoc _ _ _))⟩))))
    go_meet
    case rel => exact ⟨_, (true), (by first | rfl | (simp; done) | (simp [*]; done)), H', ⟨by first | omega | exact Nat.le_refl _⟩, ⟨by repeat (first | (with_reducible first | exact HB.out | apply below_alloc | apply pw_below_drewN | apply below_drew1) | exact HB.out)⟩⟩
 case rest =>
  clear HC4
  try clear c1
  try clear p2
  try clear c6
  try clear c6b0
  try clear c7
  try clear c8
  obtain ⟨kq, x31_3, rfl, HA, HJ3, HB⟩ := hcut
  cases kq with
  | zero => exact absurd HA.out (by simp [impl_ShareOut.j0])
  | succ kj3 =>
   have H := HA.out
   clear HA
   simp only [impl_ShareOut.j0] at H
   by_cases c9 : x31_3 = true
   ·
    subst c9
    have H1 : (some (([] : List Int), false)) = some (r1, r2) := by rw [if_pos rfl] at H; exact H
    clear H
    have H := H1
    clear H1
    simp only [Option.some.injEq, Prod.mk.injEq] at H
    obtain ⟨rfl, rfl⟩ := H
    go_wp2
    repeat (go_quiet (fail); try go_wp2)
    go_ret2
    exact ⟨_, by first | rfl | (simp [errW_none, errW_some] <;> rfl) | (simp [*, errW_none, errW_some] <;> rfl), by first | exact Kd.R_nil _ _ _ _ _ | exact Kd.N_nil _ _ _ _ _ | exact Kd.V_nil _ _ _ _ _ | exact Kd.Q_nil _ _ _ _ _ | exact Kd.S_nil _ _ _ _ _, by repeat (first | (with_reducible first | exact HB.out | apply below_alloc | apply pw_below_drewN | apply below_drew1) | exact HB.out)⟩
   ·
    replace c9 := Bool.eq_false_iff.mpr c9
    subst c9
    have H1 : (impl_ShareOut.l0 kj3 a0 l1 t270 ([] : List Int) l1 (l1.length : Int) 0) = some (r1, r2) := by rw [if_neg (show ¬ (false = true) by decide)] at H; exact H
    clear H
    have H := H1
    clear H1
    have H' := Aside0.mk H
    clear H
    go_wp2
    repeat (go_quiet (fail); try go_wp2)
    go_loopg [8, 34] kj3 (fun kq v8 v34 w' => ∃ (x8_2 : List Int) (x34_2 : Int), v34 = .int .i64 x34_2 ∧ Aside0 (impl_ShareOut.l0 kq a0 l1 t270 x8_2 l1 (l1.length : Int) x34_2 = some (r1, r2)) ∧ Aside0 (kq ≤ kj3) ∧ Aside0 (Kd.R (Kd.int .i64) 3 w' w.heap.size (fun _ => True) v8 x8_2) ∧ Aside0 (Below w.heap.size w w'))
    case atStart => exact ⟨(([] : List Int)), (0), (by first | rfl | (simp; done) | (simp [*]; done)), H', ⟨Nat.le_refl _⟩, ⟨by first | exact Kd.R_nil _ _ _ _ _ | exact Kd.N_nil _ _ _ _ _ | exact Kd.V_nil _ _ _ _ _ | exact Kd.Q_nil _ _ _ _ _ | exact Kd.S_nil _ _ _ _ _⟩, ⟨by repeat (first | (with_reducible first | exact HB.out | apply below_alloc | apply pw_below_drewN | apply below_drew1) | exact HB.out)⟩⟩
    case round =>
     clear H'
     try clear c1
     try clear p2
     try clear c6
     try clear c6b0
     try clear c7
     try clear c8
     try clear c9
     try clear p2
     obtain ⟨x8_2, x34_2, rfl, HA, HK2, HO_8, HB⟩ := hrel
     cases gk with
     | zero => exact absurd HA.out (by simp [impl_ShareOut.l0])
     | succ k2 =>
      have H := HA.out
      clear HA
      simp only [impl_ShareOut.l0] at H
      by_cases c10 : x34_2 < (l1.length : Int)
      ·
       rw [if_pos c10] at H
       have c10b0 : decide (x34_2 < (l1.length : Int)) = true := decide_eq_true c10
       clear c10
       by_cases c11 : 0 ≤ x34_2
       ·
        rw [if_pos c11] at H
        have c11b0 : decide (0 ≤ x34_2) = true := decide_eq_true c11
        clear c11
        by_cases c12 : x34_2 < (l1.length : Int)
        ·
         rw [if_pos c12] at H
         have c12b0 : decide (x34_2 < (l1.length : Int)) = true := decide_eq_true c12
         clear c12
         by_cases c13 : x8_2.length < 17592186044416
         ·
          rw [if_pos c13] at H
          have LMc13 := Aside0.mk c13
          clear c13
          obtain ⟨y275, hy275⟩ : ∃ y_ : List Int, y_ = (x8_2 ++ [(rd_T44 l1 x34_2).f2]) := ⟨_, rfl⟩
          replace H : (impl_ShareOut.l0 k2 a0 l1 t270 y275 l1 (l1.length : Int) (wrap64 (x34_2 + 1))) = some (r1, r2) := by first | (rw [hy275]; with_reducible exact H) | (have H2_ := (Option.bind_some _ _).symm.trans H; rw [hy275]; with_reducible exact H2_) | (have H2_ := (Option.bind_some _ _).symm.trans H; with_reducible exact H2_) | with_reducible exact H | (rw [hy275]; exact H) | exact H
          have Ny275 := Aside0.mk hy275
          clear hy275
          have H' := Aside0.mk H
          clear H
          have p273 : 0 ≤ (x34_2 : Int) := of_decide_eq_true (by first | (with_reducible assumption) | assumption)
          have q273 : x34_2 < (l1.length : Int) := of_decide_eq_true (by first | (with_reducible assumption) | assumption)
          obtain ⟨ad273, e273, hx273_0, hx273_1, hx273_2, hx273_3⟩ := at_T44 HR1.out x34_2 p273 q273
          cases e273
          replace hx273_0 := (HB.out.cell (World.block_lt_of_cell? w _ hx273_0)).trans hx273_0
          replace hx273_1 := (HB.out.cell (World.block_lt_of_cell? w _ hx273_1)).trans hx273_1
          replace hx273_2 := (HB.out.cell (World.block_lt_of_cell? w _ hx273_2)).trans hx273_2
          replace hx273_3 := (HB.out.cell (World.block_lt_of_cell? w _ hx273_3)).trans hx273_3
          replace p273 := eq_true p273
          replace q273 := eq_true q273
          go_wp2_with (first | ((with_reducible refine gate_dst (N := 10) rfl ?_); refine box_event ?hg (N := 10) ?hd (cs := #[.string (⟨#[]⟩ : ByteArray), .int .i64 0, .int .i64 0, .int .i64 0]) (t := 44) ?hr ?_; (case hd => rfl); (case hg => rfl); (case hr => first | (go_simp; done) | (go_simp; rfl)); intro gb274 hg w14 hbox hb; have n0_ := Aside0.mk (Kd.R_below (by (with_reducible repeat (first | apply Kd.R_alloc | apply Kd.R_drewN | apply Kd.R_drew)); exact HO_8.out) hb); have n1_ := Aside0.mk (below_step (by repeat (first | (with_reducible first | exact HB.out | apply below_alloc | apply pw_below_drewN | apply below_drew1) | exact HB.out)) hb); have n2_ := Aside0.mk (hbox); have n3_ := Aside0.mk ((by rw [hg]; exact (below_size (by repeat (first | (with_reducible first | exact HB.out | apply below_alloc | apply pw_below_drewN | apply below_drew1) | exact HB.out))) : w.heap.size ≤ gb274)); have n4_ := Aside0.mk ((by rw [hg]; exact (below_size (by repeat (first | (with_reducible first | exact HB.out | apply below_alloc | apply pw_below_drewN | apply below_drew1) | exact HB.out))) : w.heap.size ≤ gb274)); clear HO_8; clear HB; have HO_8 := n0_; have HB := n1_; have BK274 := n2_; have GW274 := n3_; have GE274 := n4_; clear n0_ n1_ n2_ n3_ n4_; clear hb hbox hg; have hcz15_0 : w14.cell? ⟨gb274, 0, none⟩ = some (.string (⟨#[]⟩ : ByteArray)) := (blk_cell BK274.out 0).trans rfl; have hcz15_1 : w14.cell? ⟨gb274, 1, none⟩ = some (.int .i64 0) := (blk_cell BK274.out 1).trans rfl; have hcz15_2 : w14.cell? ⟨gb274, 2, none⟩ = some (.int .i64 0) := (blk_cell BK274.out 2).trans rfl; have hcz15_3 : w14.cell? ⟨gb274, 3, none⟩ = some (.int .i64 0) := (blk_cell BK274.out 3).trans rfl; have hfz15_0 := blk_frozen BK274.out 0; have hfz15_1 := blk_frozen BK274.out 1; have hfz15_2 := blk_frozen BK274.out 2; have hfz15_3 := blk_frozen BK274.out 3) | ((with_reducible refine gate_builtin (b := .append) (xs := #[.tmp 38, .tmp 41]) rfl ?_); at_builtin; refine Kd.R_append (Kd.int .i64) (w0 := w) w.heap.size rfl (.tmp 38) (.tmp 41) 27 3 (.int .i64 0) 8 rfl Try.underlying27 info3 rfl (by decide) (by omega) u8 x8_2 ((rd_T44 l1 x34_2).f2) [.int .i64 ((rd_T44 l1 x34_2).f2)] (fun _ => True) (fun _ => False) rfl (by first | (go_simp; done) | (go_simp; rfl)) ?aP (fun _ hk => hk.elim) ?aF ?aO ?aB ?aS ?aL ?_; (case aP => exact rfl); (case aB => exact (by repeat (first | (with_reducible first | exact HB.out | apply below_alloc | apply pw_below_drewN | apply below_drew1 | refine below_set ?_ GE274.out) | exact HB.out))); (case aF => exact (fun _ _ => trivial)); (case aO => exact (by (with_reducible repeat (first | apply Kd.R_alloc | apply Kd.R_drewN | apply Kd.R_drew)); exact Kd.R_mono (Kd.R_far (p := ⟨gb274, 3, none⟩) (Kd.R_far (p := ⟨gb274, 2, none⟩) (Kd.R_far (p := ⟨gb274, 1, none⟩) (Kd.R_far (p := ⟨gb274, 0, none⟩) (Kd.R_types HO_8.out BK274.out (by decide)) (fun _ hk => hk.2) (.string ((rd_T44 l1 x34_2).f0))) (fun _ hk => hk.2) (.int .i64 ((rd_T44 l1 x34_2).f1))) (fun _ hk => hk.2) (.int .i64 ((rd_T44 l1 x34_2).f2))) (fun _ hk => hk.2) (.int .i64 ((rd_T44 l1 x34_2).f3))) (fun _ hk => trivial))); (case aS => exact (below_size (by repeat (first | (with_reducible first | exact HB.out | apply below_alloc | apply pw_below_drewN | apply below_drew1 | refine below_set ?_ GE274.out) | exact HB.out)))); (case aL => have := LMc13.out; omega); intro v276 w16 ho hb hg hat; rw [← Ny275.out] at ho; have n0_ := Aside0.mk (blk_grown (g := gb274) (o := .cells #[.string ((rd_T44 l1 x34_2).f0), .int .i64 ((rd_T44 l1 x34_2).f1), .int .i64 ((rd_T44 l1 x34_2).f2), .int .i64 ((rd_T44 l1 x34_2).f3)] 44 (0, 0)) (by (with_reducible repeat (first | refine blk_drewN ?_ _ | refine blk_drew ?_ | refine blk_alloc ?_ _)); refine blk_put (cs := #[.string ((rd_T44 l1 x34_2).f0), .int .i64 ((rd_T44 l1 x34_2).f1), .int .i64 ((rd_T44 l1 x34_2).f2), .int .i64 0]) ?_ 3 _ rfl; (with_reducible repeat (first | refine blk_drewN ?_ _ | refine blk_drew ?_ | refine blk_alloc ?_ _)); refine blk_put (cs := #[.string ((rd_T44 l1 x34_2).f0), .int .i64 ((rd_T44 l1 x34_2).f1), .int .i64 0, .int .i64 0]) ?_ 2 _ rfl; (with_reducible repeat (first | refine blk_drewN ?_ _ | refine blk_drew ?_ | refine blk_alloc ?_ _)); refine blk_put (cs := #[.string ((rd_T44 l1 x34_2).f0), .int .i64 0, .int .i64 0, .int .i64 0]) ?_ 1 _ rfl; (with_reducible repeat (first | refine blk_drewN ?_ _ | refine blk_drew ?_ | refine blk_alloc ?_ _)); refine blk_put (cs := #[.string (⟨#[]⟩ : ByteArray), .int .i64 0, .int .i64 0, .int .i64 0]) ?_ 0 _ rfl; (with_reducible repeat (first | refine blk_drewN ?_ _ | refine blk_drew ?_ | refine blk_alloc ?_ _)); exact BK274.out) hg (Kd.R_ne HO_8.out BK274.out (by decide))); have n1_ := Aside0.mk (hb); have n2_ := Aside0.mk (ho); clear BK274; clear HB; clear HO_8; have BK274 := n0_; have HB := n1_; have HO277 := n2_; clear n0_ n1_ n2_; clear ho hb hg hat))
          repeat (go_quiet (first | ((with_reducible refine gate_dst (N := 10) rfl ?_); refine box_event ?hg (N := 10) ?hd (cs := #[.string (⟨#[]⟩ : ByteArray), .int .i64 0, .int .i64 0, .int .i64 0]) (t := 44) ?hr ?_; (case hd => rfl); (case hg => rfl); (case hr => first | (go_simp; done) | (go_simp; rfl)); intro gb274 hg w14 hbox hb; have n0_ := Aside0.mk (Kd.R_below (by (with_reducible repeat (first | apply Kd.R_alloc | apply Kd.R_drewN | apply Kd.R_drew)); exact HO_8.out) hb); have n1_ := Aside0.mk (below_step (by repeat (first | (with_reducible first | exact HB.out | apply below_alloc | apply pw_below_drewN | apply below_drew1) | exact HB.out)) hb); have n2_ := Aside0.mk (hbox); have n3_ := Aside0.mk ((by rw [hg]; exact (below_size (by repeat (first | (with_reducible first | exact HB.out | apply below_alloc | apply pw_below_drewN | apply below_drew1) | exact HB.out))) : w.heap.size ≤ gb274)); have n4_ := Aside0.mk ((by rw [hg]; exact (below_size (by repeat (first | (with_reducible first | exact HB.out | apply below_alloc | apply pw_below_drewN | apply below_drew1) | exact HB.out))) : w.heap.size ≤ gb274)); clear HO_8; clear HB; have HO_8 := n0_; have HB := n1_; have BK274 := n2_; have GW274 := n3_; have GE274 := n4_; clear n0_ n1_ n2_ n3_ n4_; clear hb hbox hg; have hcz15_0 : w14.cell? ⟨gb274, 0, none⟩ = some (.string (⟨#[]⟩ : ByteArray)) := (blk_cell BK274.out 0).trans rfl; have hcz15_1 : w14.cell? ⟨gb274, 1, none⟩ = some (.int .i64 0) := (blk_cell BK274.out 1).trans rfl; have hcz15_2 : w14.cell? ⟨gb274, 2, none⟩ = some (.int .i64 0) := (blk_cell BK274.out 2).trans rfl; have hcz15_3 : w14.cell? ⟨gb274, 3, none⟩ = some (.int .i64 0) := (blk_cell BK274.out 3).trans rfl; have hfz15_0 := blk_frozen BK274.out 0; have hfz15_1 := blk_frozen BK274.out 1; have hfz15_2 := blk_frozen BK274.out 2; have hfz15_3 := blk_frozen BK274.out 3) | ((with_reducible refine gate_builtin (b := .append) (xs := #[.tmp 38, .tmp 41]) rfl ?_); at_builtin; refine Kd.R_append (Kd.int .i64) (w0 := w) w.heap.size rfl (.tmp 38) (.tmp 41) 27 3 (.int .i64 0) 8 rfl Try.underlying27 info3 rfl (by decide) (by omega) u8 x8_2 ((rd_T44 l1 x34_2).f2) [.int .i64 ((rd_T44 l1 x34_2).f2)] (fun _ => True) (fun _ => False) rfl (by first | (go_simp; done) | (go_simp; rfl)) ?aP (fun _ hk => hk.elim) ?aF ?aO ?aB ?aS ?aL ?_; (case aP => exact rfl); (case aB => exact (by repeat (first | (with_reducible first | exact HB.out | apply below_alloc | apply pw_below_drewN | apply below_drew1 | refine below_set ?_ GE274.out) | exact HB.out))); (case aF => exact (fun _ _ => trivial)); (case aO => exact (by (with_reducible repeat (first | apply Kd.R_alloc | apply Kd.R_drewN | apply Kd.R_drew)); exact Kd.R_mono (Kd.R_far (p := ⟨gb274, 3, none⟩) (Kd.R_far (p := ⟨gb274, 2, none⟩) (Kd.R_far (p := ⟨gb274, 1, none⟩) (Kd.R_far (p := ⟨gb274, 0, none⟩) (Kd.R_types HO_8.out BK274.out (by decide)) (fun _ hk => hk.2) (.string ((rd_T44 l1 x34_2).f0))) (fun _ hk => hk.2) (.int .i64 ((rd_T44 l1 x34_2).f1))) (fun _ hk => hk.2) (.int .i64 ((rd_T44 l1 x34_2).f2))) (fun _ hk => hk.2) (.int .i64 ((rd_T44 l1 x34_2).f3))) (fun _ hk => trivial))); (case aS => exact (below_size (by repeat (first | (with_reducible first | exact HB.out | apply below_alloc | apply pw_below_drewN | apply below_drew1 | refine below_set ?_ GE274.out) | exact HB.out)))); (case aL => have := LMc13.out; omega); intro v276 w16 ho hb hg hat; rw [← Ny275.out] at ho; have n0_ := Aside0.mk (blk_grown (g := gb274) (o := .cells #[.string ((rd_T44 l1 x34_2).f0), .int .i64 ((rd_T44 l1 x34_2).f1), .int .i64 ((rd_T44 l1 x34_2).f2), .int .i64 ((rd_T44 l1 x34_2).f3)] 44 (0, 0)) (by (with_reducible repeat (first | refine blk_drewN ?_ _ | refine blk_drew ?_ | refine blk_alloc ?_ _)); refine blk_put (cs := #[.string ((rd_T44 l1 x34_2).f0), .int .i64 ((rd_T44 l1 x34_2).f1), .int .i64 ((rd_T44 l1 x34_2).f2), .int .i64 0]) ?_ 3 _ rfl; (with_reducible repeat (first | refine blk_drewN ?_ _ | refine blk_drew ?_ | refine blk_alloc ?_ _)); refine blk_put (cs := #[.string ((rd_T44 l1 x34_2).f0), .int .i64 ((rd_T44 l1 x34_2).f1), .int .i64 0, .int .i64 0]) ?_ 2 _ rfl; (with_reducible repeat (first | refine blk_drewN ?_ _ | refine blk_drew ?_ | refine blk_alloc ?_ _)); refine blk_put (cs := #[.string ((rd_T44 l1 x34_2).f0), .int .i64 0, .int .i64 0, .int .i64 0]) ?_ 1 _ rfl; (with_reducible repeat (first | refine blk_drewN ?_ _ | refine blk_drew ?_ | refine blk_alloc ?_ _)); refine blk_put (cs := #[.string (⟨#[]⟩ : ByteArray), .int .i64 0, .int .i64 0, .int .i64 0]) ?_ 0 _ rfl; (with_reducible repeat (first | refine blk_drewN ?_ _ | refine blk_drew ?_ | refine blk_alloc ?_ _)); exact BK274.out) hg (Kd.R_ne HO_8.out BK274.out (by decide))); have n1_ := Aside0.mk (hb); have n2_ := Aside0.mk (ho); clear BK274; clear HB; clear HO_8; have BK274 := n0_; have HB := n1_; have HO277 := n2_; clear n0_ n1_ n2_; clear ho hb hg hat)); try go_wp2_with (first | ((with_reducible refine gate_dst (N := 10) rfl ?_); refine box_event ?hg (N := 10) ?hd (cs := #[.string (⟨#[]⟩ : ByteArray), .int .i64 0, .int .i64 0, .int .i64 0]) (t := 44) ?hr ?_; (case hd => rfl); (case hg => rfl); (case hr => first | (go_simp; done) | (go_simp; rfl)); intro gb274 hg w14 hbox hb; have n0_ := Aside0.mk (Kd.R_below (by (with_reducible repeat (first | apply Kd.R_alloc | apply Kd.R_drewN | apply Kd.R_drew)); exact HO_8.out) hb); have n1_ := Aside0.mk (below_step (by repeat (first | (with_reducible first | exact HB.out | apply below_alloc | apply pw_below_drewN | apply below_drew1) | exact HB.out)) hb); have n2_ := Aside0.mk (hbox); have n3_ := Aside0.mk ((by rw [hg]; exact (below_size (by repeat (first | (with_reducible first | exact HB.out | apply below_alloc | apply pw_below_drewN | apply below_drew1) | exact HB.out))) : w.heap.size ≤ gb274)); have n4_ := Aside0.mk ((by rw [hg]; exact (below_size (by repeat (first | (with_reducible first | exact HB.out | apply below_alloc | apply pw_below_drewN | apply below_drew1) | exact HB.out))) : w.heap.size ≤ gb274)); clear HO_8; clear HB; have HO_8 := n0_; have HB := n1_; have BK274 := n2_; have GW274 := n3_; have GE274 := n4_; clear n0_ n1_ n2_ n3_ n4_; clear hb hbox hg; have hcz15_0 : w14.cell? ⟨gb274, 0, none⟩ = some (.string (⟨#[]⟩ : ByteArray)) := (blk_cell BK274.out 0).trans rfl; have hcz15_1 : w14.cell? ⟨gb274, 1, none⟩ = some (.int .i64 0) := (blk_cell BK274.out 1).trans rfl; have hcz15_2 : w14.cell? ⟨gb274, 2, none⟩ = some (.int .i64 0) := (blk_cell BK274.out 2).trans rfl; have hcz15_3 : w14.cell? ⟨gb274, 3, none⟩ = some (.int .i64 0) := (blk_cell BK274.out 3).trans rfl; have hfz15_0 := blk_frozen BK274.out 0; have hfz15_1 := blk_frozen BK274.out 1; have hfz15_2 := blk_frozen BK274.out 2; have hfz15_3 := blk_frozen BK274.out 3) | ((with_reducible refine gate_builtin (b := .append) (xs := #[.tmp 38, .tmp 41]) rfl ?_); at_builtin; refine Kd.R_append (Kd.int .i64) (w0 := w) w.heap.size rfl (.tmp 38) (.tmp 41) 27 3 (.int .i64 0) 8 rfl Try.underlying27 info3 rfl (by decide) (by omega) u8 x8_2 ((rd_T44 l1 x34_2).f2) [.int .i64 ((rd_T44 l1 x34_2).f2)] (fun _ => True) (fun _ => False) rfl (by first | (go_simp; done) | (go_simp; rfl)) ?aP (fun _ hk => hk.elim) ?aF ?aO ?aB ?aS ?aL ?_; (case aP => exact rfl); (case aB => exact (by repeat (first | (with_reducible first | exact HB.out | apply below_alloc | apply pw_below_drewN | apply below_drew1 | refine below_set ?_ GE274.out) | exact HB.out))); (case aF => exact (fun _ _ => trivial)); (case aO => exact (by (with_reducible repeat (first | apply Kd.R_alloc | apply Kd.R_drewN | apply Kd.R_drew)); exact Kd.R_mono (Kd.R_far (p := ⟨gb274, 3, none⟩) (Kd.R_far (p := ⟨gb274, 2, none⟩) (Kd.R_far (p := ⟨gb274, 1, none⟩) (Kd.R_far (p := ⟨gb274, 0, none⟩) (Kd.R_types HO_8.out BK274.out (by decide)) (fun _ hk => hk.2) (.string ((rd_T44 l1 x34_2).f0))) (fun _ hk => hk.2) (.int .i64 ((rd_T44 l1 x34_2).f1))) (fun _ hk => hk.2) (.int .i64 ((rd_T44 l1 x34_2).f2))) (fun _ hk => hk.2) (.int .i64 ((rd_T44 l1 x34_2).f3))) (fun _ hk => trivial))); (case aS => exact (below_size (by repeat (first | (with_reducible first | exact HB.out | apply below_alloc | apply pw_below_drewN | apply below_drew1 | refine below_set ?_ GE274.out) | exact HB.out)))); (case aL => have := LMc13.out; omega); intro v276 w16 ho hb hg hat; rw [← Ny275.out] at ho; have n0_ := Aside0.mk (blk_grown (g := gb274) (o := .cells #[.string ((rd_T44 l1 x34_2).f0), .int .i64 ((rd_T44 l1 x34_2).f1), .int .i64 ((rd_T44 l1 x34_2).f2), .int .i64 ((rd_T44 l1 x34_2).f3)] 44 (0, 0)) (by (with_reducible repeat (first | refine blk_drewN ?_ _ | refine blk_drew ?_ | refine blk_alloc ?_ _)); refine blk_put (cs := #[.string ((rd_T44 l1 x34_2).f0), .int .i64 ((rd_T44 l1 x34_2).f1), .int .i64 ((rd_T44 l1 x34_2).f2), .int .i64 0]) ?_ 3 _ rfl; (with_reducible repeat (first | refine blk_drewN ?_ _ | refine blk_drew ?_ | refine blk_alloc ?_ _)); refine blk_put (cs := #[.string ((rd_T44 l1 x34_2).f0), .int .i64 ((rd_T44 l1 x34_2).f1), .int .i64 0, .int .i64 0]) ?_ 2 _ rfl; (with_reducible repeat (first | refine blk_drewN ?_ _ | refine blk_drew ?_ | refine blk_alloc ?_ _)); refine blk_put (cs := #[.string ((rd_T44 l1 x34_2).f0), .int .i64 0, .int .i64 0, .int .i64 0]) ?_ 1 _ rfl; (with_reducible repeat (first | refine blk_drewN ?_ _ | refine blk_drew ?_ | refine blk_alloc ?_ _)); refine blk_put (cs := #[.string (⟨#[]⟩ : ByteArray), .int .i64 0, .int .i64 0, .int .i64 0]) ?_ 0 _ rfl; (with_reducible repeat (first | refine blk_drewN ?_ _ | refine blk_drew ?_ | refine blk_alloc ?_ _)); exact BK274.out) hg (Kd.R_ne HO_8.out BK274.out (by decide))); have n1_ := Aside0.mk (hb); have n2_ := Aside0.mk (ho); clear BK274; clear HB; clear HO_8; have BK274 := n0_; have HB := n1_; have HO277 := n2_; clear n0_ n1_ n2_; clear ho hb hg hat)))
          go_roundg k2
          case measure => have := HJ3.out; have := HK2.out; omega
          case rel => exact ⟨(y275), (wrap64 (x34_2 + 1)), (by first | rfl | (simp; done) | (simp [*]; done)), H', ⟨by have := HJ3.out; have := HK2.out; omega⟩, ⟨by (with_reducible repeat (first | apply Kd.R_alloc | apply Kd.R_drewN | apply Kd.R_drew)); exact HO277.out⟩, ⟨by repeat (first | (with_reducible first | exact HB.out | apply below_alloc | apply pw_below_drewN | apply below_drew1 | refine below_set ?_ GE274.out) | exact HB.out)⟩⟩
         ·
          rw [if_neg c13] at H
          exact absurd H (by simp)
        ·
         rw [if_neg c12] at H
         exact absurd H (by simp)
       ·
        rw [if_neg c11] at H
        exact absurd H (by simp)
      ·
       rw [if_neg c10] at H
       have c10b0 : decide (x34_2 < (l1.length : Int)) = false := decide_eq_false c10
       clear c10
       have H' := Aside0.mk H
       clear H
       go_wp2
       repeat (go_quiet (fail); try go_wp2)
       go_loopg [11] k2 (fun kq v11 w' => ∃ (x8_3 : List Int) (x11_3 : Int), v11 = .int .i64 x11_3 ∧ Aside0 (impl_ShareOut.l1 kq l1 x8_3 x11_3 = some (r1, r2)) ∧ Aside0 (kq ≤ k2) ∧ Aside0 (Kd.R (Kd.int .i64) 3 w' w.heap.size (fun _ => True) u8 x8_3) ∧ Aside0 (Below w.heap.size w w'))
       case atStart => exact ⟨(x8_2), (wrap64 (a0 - t270)), (by first | rfl | (simp; done) | (simp [*]; done)), H', ⟨Nat.le_refl _⟩, ⟨by (with_reducible repeat (first | apply Kd.R_alloc | apply Kd.R_drewN | apply Kd.R_drew)); exact HO_8.out⟩, ⟨by repeat (first | (with_reducible first | exact HB.out | apply below_alloc | apply pw_below_drewN | apply below_drew1) | exact HB.out)⟩⟩
       case round =>
        clear H'
        try clear c1
        try clear p2
        try clear q2
        try clear hx2
        try clear c6
        try clear c6b0
        try clear p6
        try clear c7
        try clear c8
        try clear c9
        try clear c10
        try clear c10b0
        try clear c11
        try clear c11b0
        try clear c12
        try clear c12b0
        try clear c13
        try clear hcz15_0
        try clear hcz15_1
        try clear hcz15_2
        try clear hcz15_3
        try clear hfz15_0
        try clear hfz15_1
        try clear hfz15_2
        try clear hfz15_3
        try clear hx273_0
        try clear hx273_1
        try clear hx273_2
        try clear hx273_3
        try clear p2
        try clear p273
        try clear q273
        obtain ⟨x8_3, x11_3, rfl, HA, HK3, HO_8, HB⟩ := hrel
        cases gk with
        | zero => exact absurd HA.out (by simp [impl_ShareOut.l1])
        | succ k3 =>
         have H := HA.out
         clear HA
         simp only [impl_ShareOut.l1] at H
         by_cases c17 : x11_3 > 0
         ·
          rw [if_pos c17] at H
          have c17b0 : decide (0 < x11_3) = true := decide_eq_true c17
          clear c17
          have H' := Aside0.mk H
          clear H
          go_wp2
          repeat (go_quiet (fail); try go_wp2)
          go_loopg [12, 53] k3 (fun kq v12 v53 w' => ∃ (x12_4 : Int) (x53_4 : Int), v12 = .int .i64 x12_4 ∧ v53 = .int .i64 x53_4 ∧ Aside0 (impl_ShareOut.l2 kq l1 x8_3 x11_3 x12_4 l1 (l1.length : Int) x53_4 = some (r1, r2)) ∧ Aside0 (kq ≤ k3) ∧ Aside0 (Kd.R (Kd.int .i64) 3 w' w.heap.size (fun _ => True) u8 x8_3) ∧ Aside0 (Below w.heap.size w w'))
          case atStart => exact ⟨((-1)), (0), (by first | rfl | (simp; done) | (simp [*]; done)), (by first | rfl | (simp; done) | (simp [*]; done)), H', ⟨Nat.le_refl _⟩, ⟨by (with_reducible repeat (first | apply Kd.R_alloc | apply Kd.R_drewN | apply Kd.R_drew)); exact HO_8.out⟩, ⟨by repeat (first | (with_reducible first | exact HB.out | apply below_alloc | apply pw_below_drewN | apply below_drew1) | exact HB.out)⟩⟩
          case round =>
           clear H'
           try clear c1
           try clear p2
           try clear q2
           try clear hx2
           try clear c6
           try clear c6b0
           try clear p6
           try clear c7
           try clear c8
           try clear c9
           try clear c10
           try clear c10b0
           try clear c11
           try clear c11b0
           try clear c12
           try clear c12b0
           try clear c13
           try clear c17
           try clear c17b0
           try clear hcz15_0
           try clear hcz15_1
           try clear hcz15_2
           try clear hcz15_3
           try clear hfz15_0
           try clear hfz15_1
           try clear hfz15_2
           try clear hfz15_3
           try clear hx273_0
           try clear hx273_1
           try clear hx273_2
           try clear hx273_3
           try clear p2
           try clear p273
           try clear p6
           try clear q2
           try clear q273
           obtain ⟨x12_4, x53_4, rfl, rfl, HA, HK4, HO_8, HB⟩ := hrel
           cases gk with
           | zero => exact absurd HA.out (by simp [impl_ShareOut.l2])
           | succ k4 =>
            have H := HA.out
            clear HA
            simp only [impl_ShareOut.l2] at H
            by_cases c18 : x53_4 < (l1.length : Int)
            ·
             rw [if_pos c18] at H
             have c18b0 : decide (x53_4 < (l1.length : Int)) = true := decide_eq_true c18
             clear c18
             by_cases c19 : 0 ≤ x53_4
             ·
              rw [if_pos c19] at H
              have c19b0 : decide (0 ≤ x53_4) = true := decide_eq_true c19
              clear c19
              by_cases c20 : x53_4 < (l1.length : Int)
              ·
               rw [if_pos c20] at H
               have c20b0 : decide (x53_4 < (l1.length : Int)) = true := decide_eq_true c20
               clear c20
               by_cases c21 : x53_4 < (x8_3.length : Int)
               ·
                rw [if_pos c21] at H
                have c21b0 : decide (x53_4 < (x8_3.length : Int)) = true := decide_eq_true c21
                clear c21
                by_cases c22 : (rd x8_3 x53_4) < ((rd_T44 l1 x53_4).f1)
                ·
                 rw [if_pos c22] at H
                 have c22b0 : decide ((rd x8_3 x53_4) < ((rd_T44 l1 x53_4).f1)) = true := decide_eq_true c22
                 clear c22
                 by_cases c23 : x12_4 < 0
                 ·
                  rw [if_pos c23] at H
                  have c23b0 : decide (x12_4 < 0) = true := decide_eq_true c23
                  clear c23
                  have H' := Aside0.mk H
                  clear H
                  have p278 : 0 ≤ (x53_4 : Int) := of_decide_eq_true (by first | (with_reducible assumption) | assumption)
                  have q278 : x53_4 < (l1.length : Int) := of_decide_eq_true (by first | (with_reducible assumption) | assumption)
                  obtain ⟨ad278, e278, hx278_0, hx278_1, hx278_2, hx278_3⟩ := at_T44 HR1.out x53_4 p278 q278
                  cases e278
                  replace hx278_0 := (HB.out.cell (World.block_lt_of_cell? w _ hx278_0)).trans hx278_0
                  replace hx278_1 := (HB.out.cell (World.block_lt_of_cell? w _ hx278_1)).trans hx278_1
                  replace hx278_2 := (HB.out.cell (World.block_lt_of_cell? w _ hx278_2)).trans hx278_2
                  replace hx278_3 := (HB.out.cell (World.block_lt_of_cell? w _ hx278_3)).trans hx278_3
                  replace p278 := eq_true p278
                  replace q278 := eq_true q278
                  go_wp2_with (first | ((with_reducible refine gate_dst (N := 14) rfl ?_); refine box_event ?hg (N := 14) ?hd (cs := #[.string (⟨#[]⟩ : ByteArray), .int .i64 0, .int .i64 0, .int .i64 0]) (t := 44) ?hr ?_; (case hd => rfl); (case hg => rfl); (case hr => first | (go_simp; done) | (go_simp; rfl)); intro gb279 hg w24 hbox hb; have n0_ := Aside0.mk (Kd.R_below (by (with_reducible repeat (first | apply Kd.R_alloc | apply Kd.R_drewN | apply Kd.R_drew)); exact HO_8.out) hb); have n1_ := Aside0.mk (below_step (by repeat (first | (with_reducible first | exact HB.out | apply below_alloc | apply pw_below_drewN | apply below_drew1) | exact HB.out)) hb); have n2_ := Aside0.mk (hbox); have n3_ := Aside0.mk ((by rw [hg]; exact (below_size (by repeat (first | (with_reducible first | exact HB.out | apply below_alloc | apply pw_below_drewN | apply below_drew1) | exact HB.out))) : w.heap.size ≤ gb279)); have n4_ := Aside0.mk ((by rw [hg]; exact (below_size (by repeat (first | (with_reducible first | exact HB.out | apply below_alloc | apply pw_below_drewN | apply below_drew1) | exact HB.out))) : w.heap.size ≤ gb279)); clear HO_8; clear HB; have HO_8 := n0_; have HB := n1_; have BK279 := n2_; have GW279 := n3_; have GE279 := n4_; clear n0_ n1_ n2_ n3_ n4_; clear hb hbox hg; have hcz25_0 : w24.cell? ⟨gb279, 0, none⟩ = some (.string (⟨#[]⟩ : ByteArray)) := (blk_cell BK279.out 0).trans rfl; have hcz25_1 : w24.cell? ⟨gb279, 1, none⟩ = some (.int .i64 0) := (blk_cell BK279.out 1).trans rfl; have hcz25_2 : w24.cell? ⟨gb279, 2, none⟩ = some (.int .i64 0) := (blk_cell BK279.out 2).trans rfl; have hcz25_3 : w24.cell? ⟨gb279, 3, none⟩ = some (.int .i64 0) := (blk_cell BK279.out 3).trans rfl; have hfz25_0 := blk_frozen BK279.out 0; have hfz25_1 := blk_frozen BK279.out 1; have hfz25_2 := blk_frozen BK279.out 2; have hfz25_3 := blk_frozen BK279.out 3; obtain ⟨Ao26, co26, eo26⟩ := Kd.R_slice HO_8.out; subst eo26; have p280 : 0 ≤ (x53_4 : Int) := of_decide_eq_true (by first | (with_reducible assumption) | assumption); have q280 : x53_4 < (x8_3.length : Int) := of_decide_eq_true (by first | (with_reducible assumption) | assumption); obtain ⟨ad280, e280, hx280_0⟩ := Kd.at_int (Kd.R_reads' HO_8.out).2.2 x53_4 p280 q280; cases e280; have hn280_0 : ad280.block ≠ gb279 := Kd.own_blk (Kd.R_ne HO_8.out BK279.out (by decide)); have hn280_1 : ad280.block ≠ gb279 := Kd.own_blk (Kd.R_ne HO_8.out BK279.out (by decide)); have hn280_2 : ad280.block ≠ gb279 := Kd.own_blk (Kd.R_ne HO_8.out BK279.out (by decide)); have hn280_3 : ad280.block ≠ gb279 := Kd.own_blk (Kd.R_ne HO_8.out BK279.out (by decide)); replace hx280_0 := (cell_far (p := ⟨gb279, 0, none⟩) (by first | (rw [add_block]; exact hn280_0) | (show (Addr.add _ _).block ≠ _; rw [add_block]; exact hn280_0) | exact hn280_0) (.string ((rd_T44 l1 x53_4).f0))).trans hx280_0; replace hx280_0 := (cell_far (p := ⟨gb279, 1, none⟩) (by first | (rw [add_block]; exact hn280_1) | (show (Addr.add _ _).block ≠ _; rw [add_block]; exact hn280_1) | exact hn280_1) (.int .i64 ((rd_T44 l1 x53_4).f1))).trans hx280_0; replace hx280_0 := (cell_far (p := ⟨gb279, 2, none⟩) (by first | (rw [add_block]; exact hn280_2) | (show (Addr.add _ _).block ≠ _; rw [add_block]; exact hn280_2) | exact hn280_2) (.int .i64 ((rd_T44 l1 x53_4).f2))).trans hx280_0; replace hx280_0 := (cell_far (p := ⟨gb279, 3, none⟩) (by first | (rw [add_block]; exact hn280_3) | (show (Addr.add _ _).block ≠ _; rw [add_block]; exact hn280_3) | exact hn280_3) (.int .i64 ((rd_T44 l1 x53_4).f3))).trans hx280_0; (try have hy280_0 := fun (n_ : Nat) => (show ((((((w24.drewN n_).setCell ⟨gb279, 0, none⟩ (.string ((rd_T44 l1 x53_4).f0))).setCell ⟨gb279, 1, none⟩ (.int .i64 ((rd_T44 l1 x53_4).f1))).setCell ⟨gb279, 2, none⟩ (.int .i64 ((rd_T44 l1 x53_4).f2))).setCell ⟨gb279, 3, none⟩ (.int .i64 ((rd_T44 l1 x53_4).f3)))).cell? _ = some _ from hx280_0)); clear hn280_0; clear hn280_1; clear hn280_2; clear hn280_3; replace p280 := eq_true p280; replace q280 := eq_true q280))
                  repeat (go_quiet (first | ((with_reducible refine gate_dst (N := 14) rfl ?_); refine box_event ?hg (N := 14) ?hd (cs := #[.string (⟨#[]⟩ : ByteArray), .int .i64 0, .int .i64 0, .int .i64 0]) (t := 44) ?hr ?_; (case hd => rfl); (case hg => rfl); (case hr => first | (go_simp; done) | (go_simp; rfl)); intro gb279 hg w24 hbox hb; have n0_ := Aside0.mk (Kd.R_below (by (with_reducible repeat (first | apply Kd.R_alloc | apply Kd.R_drewN | apply Kd.R_drew)); exact HO_8.out) hb); have n1_ := Aside0.mk (below_step (by repeat (first | (with_reducible first | exact HB.out | apply below_alloc | apply pw_below_drewN | apply below_drew1) | exact HB.out)) hb); have n2_ := Aside0.mk (hbox); have n3_ := Aside0.mk ((by rw [hg]; exact (below_size (by repeat (first | (with_reducible first | exact HB.out | apply below_alloc | apply pw_below_drewN | apply below_drew1) | exact HB.out))) : w.heap.size ≤ gb279)); have n4_ := Aside0.mk ((by rw [hg]; exact (below_size (by repeat (first | (with_reducible first | exact HB.out | apply below_alloc | apply pw_below_drewN | apply below_drew1) | exact HB.out))) : w.heap.size ≤ gb279)); clear HO_8; clear HB; have HO_8 := n0_; have HB := n1_; have BK279 := n2_; have GW279 := n3_; have GE279 := n4_; clear n0_ n1_ n2_ n3_ n4_; clear hb hbox hg; have hcz25_0 : w24.cell? ⟨gb279, 0, none⟩ = some (.string (⟨#[]⟩ : ByteArray)) := (blk_cell BK279.out 0).trans rfl; have hcz25_1 : w24.cell? ⟨gb279, 1, none⟩ = some (.int .i64 0) := (blk_cell BK279.out 1).trans rfl; have hcz25_2 : w24.cell? ⟨gb279, 2, none⟩ = some (.int .i64 0) := (blk_cell BK279.out 2).trans rfl; have hcz25_3 : w24.cell? ⟨gb279, 3, none⟩ = some (.int .i64 0) := (blk_cell BK279.out 3).trans rfl; have hfz25_0 := blk_frozen BK279.out 0; have hfz25_1 := blk_frozen BK279.out 1; have hfz25_2 := blk_frozen BK279.out 2; have hfz25_3 := blk_frozen BK279.out 3; obtain ⟨Ao26, co26, eo26⟩ := Kd.R_slice HO_8.out; subst eo26; have p280 : 0 ≤ (x53_4 : Int) := of_decide_eq_true (by first | (with_reducible assumption) | assumption); have q280 : x53_4 < (x8_3.length : Int) := of_decide_eq_true (by first | (with_reducible assumption) | assumption); obtain ⟨ad280, e280, hx280_0⟩ := Kd.at_int (Kd.R_reads' HO_8.out).2.2 x53_4 p280 q280; cases e280; have hn280_0 : ad280.block ≠ gb279 := Kd.own_blk (Kd.R_ne HO_8.out BK279.out (by decide)); have hn280_1 : ad280.block ≠ gb279 := Kd.own_blk (Kd.R_ne HO_8.out BK279.out (by decide)); have hn280_2 : ad280.block ≠ gb279 := Kd.own_blk (Kd.R_ne HO_8.out BK279.out (by decide)); have hn280_3 : ad280.block ≠ gb279 := Kd.own_blk (Kd.R_ne HO_8.out BK279.out (by decide)); replace hx280_0 := (cell_far (p := ⟨gb279, 0, none⟩) (by first | (rw [add_block]; exact hn280_0) | (show (Addr.add _ _).block ≠ _; rw [add_block]; exact hn280_0) | exact hn280_0) (.string ((rd_T44 l1 x53_4).f0))).trans hx280_0; replace hx280_0 := (cell_far (p := ⟨gb279, 1, none⟩) (by first | (rw [add_block]; exact hn280_1) | (show (Addr.add _ _).block ≠ _; rw [add_block]; exact hn280_1) | exact hn280_1) (.int .i64 ((rd_T44 l1 x53_4).f1))).trans hx280_0; replace hx280_0 := (cell_far (p := ⟨gb279, 2, none⟩) (by first | (rw [add_block]; exact hn280_2) | (show (Addr.add _ _).block ≠ _; rw [add_block]; exact hn280_2) | exact hn280_2) (.int .i64 ((rd_T44 l1 x53_4).f2))).trans hx280_0; replace hx280_0 := (cell_far (p := ⟨gb279, 3, none⟩) (by first | (rw [add_block]; exact hn280_3) | (show (Addr.add _ _).block ≠ _; rw [add_block]; exact hn280_3) | exact hn280_3) (.int .i64 ((rd_T44 l1 x53_4).f3))).trans hx280_0; (try have hy280_0 := fun (n_ : Nat) => (show ((((((w24.drewN n_).setCell ⟨gb279, 0, none⟩ (.string ((rd_T44 l1 x53_4).f0))).setCell ⟨gb279, 1, none⟩ (.int .i64 ((rd_T44 l1 x53_4).f1))).setCell ⟨gb279, 2, none⟩ (.int .i64 ((rd_T44 l1 x53_4).f2))).setCell ⟨gb279, 3, none⟩ (.int .i64 ((rd_T44 l1 x53_4).f3)))).cell? _ = some _ from hx280_0)); clear hn280_0; clear hn280_1; clear hn280_2; clear hn280_3; replace p280 := eq_true p280; replace q280 := eq_true q280)); try go_wp2_with (first | ((with_reducible refine gate_dst (N := 14) rfl ?_); refine box_event ?hg (N := 14) ?hd (cs := #[.string (⟨#[]⟩ : ByteArray), .int .i64 0, .int .i64 0, .int .i64 0]) (t := 44) ?hr ?_; (case hd => rfl); (case hg => rfl); (case hr => first | (go_simp; done) | (go_simp; rfl)); intro gb279 hg w24 hbox hb; have n0_ := Aside0.mk (Kd.R_below (by (with_reducible repeat (first | apply Kd.R_alloc | apply Kd.R_drewN | apply Kd.R_drew)); exact HO_8.out) hb); have n1_ := Aside0.mk (below_step (by repeat (first | (with_reducible first | exact HB.out | apply below_alloc | apply pw_below_drewN | apply below_drew1) | exact HB.out)) hb); have n2_ := Aside0.mk (hbox); have n3_ := Aside0.mk ((by rw [hg]; exact (below_size (by repeat (first | (with_reducible first | exact HB.out | apply below_alloc | apply pw_below_drewN | apply below_drew1) | exact HB.out))) : w.heap.size ≤ gb279)); have n4_ := Aside0.mk ((by rw [hg]; exact (below_size (by repeat (first | (with_reducible first | exact HB.out | apply below_alloc | apply pw_below_drewN | apply below_drew1) | exact HB.out))) : w.heap.size ≤ gb279)); clear HO_8; clear HB; have HO_8 := n0_; have HB := n1_; have BK279 := n2_; have GW279 := n3_; have GE279 := n4_; clear n0_ n1_ n2_ n3_ n4_; clear hb hbox hg; have hcz25_0 : w24.cell? ⟨gb279, 0, none⟩ = some (.string (⟨#[]⟩ : ByteArray)) := (blk_cell BK279.out 0).trans rfl; have hcz25_1 : w24.cell? ⟨gb279, 1, none⟩ = some (.int .i64 0) := (blk_cell BK279.out 1).trans rfl; have hcz25_2 : w24.cell? ⟨gb279, 2, none⟩ = some (.int .i64 0) := (blk_cell BK279.out 2).trans rfl; have hcz25_3 : w24.cell? ⟨gb279, 3, none⟩ = some (.int .i64 0) := (blk_cell BK279.out 3).trans rfl; have hfz25_0 := blk_frozen BK279.out 0; have hfz25_1 := blk_frozen BK279.out 1; have hfz25_2 := blk_frozen BK279.out 2; have hfz25_3 := blk_frozen BK279.out 3; obtain ⟨Ao26, co26, eo26⟩ := Kd.R_slice HO_8.out; subst eo26; have p280 : 0 ≤ (x53_4 : Int) := of_decide_eq_true (by first | (with_reducible assumption) | assumption); have q280 : x53_4 < (x8_3.length : Int) := of_decide_eq_true (by first | (with_reducible assumption) | assumption); obtain ⟨ad280, e280, hx280_0⟩ := Kd.at_int (Kd.R_reads' HO_8.out).2.2 x53_4 p280 q280; cases e280; have hn280_0 : ad280.block ≠ gb279 := Kd.own_blk (Kd.R_ne HO_8.out BK279.out (by decide)); have hn280_1 : ad280.block ≠ gb279 := Kd.own_blk (Kd.R_ne HO_8.out BK279.out (by decide)); have hn280_2 : ad280.block ≠ gb279 := Kd.own_blk (Kd.R_ne HO_8.out BK279.out (by decide)); have hn280_3 : ad280.block ≠ gb279 := Kd.own_blk (Kd.R_ne HO_8.out BK279.out (by decide)); replace hx280_0 := (cell_far (p := ⟨gb279, 0, none⟩) (by first | (rw [add_block]; exact hn280_0) | (show (Addr.add _ _).block ≠ _; rw [add_block]; exact hn280_0) | exact hn280_0) (.string ((rd_T44 l1 x53_4).f0))).trans hx280_0; replace hx280_0 := (cell_far (p := ⟨gb279, 1, none⟩) (by first | (rw [add_block]; exact hn280_1) | (show (Addr.add _ _).block ≠ _; rw [add_block]; exact hn280_1) | exact hn280_1) (.int .i64 ((rd_T44 l1 x53_4).f1))).trans hx280_0; replace hx280_0 := (cell_far (p := ⟨gb279, 2, none⟩) (by first | (rw [add_block]; exact hn280_2) | (show (Addr.add _ _).block ≠ _; rw [add_block]; exact hn280_2) | exact hn280_2) (.int .i64 ((rd_T44 l1 x53_4).f2))).trans hx280_0; replace hx280_0 := (cell_far (p := ⟨gb279, 3, none⟩) (by first | (rw [add_block]; exact hn280_3) | (show (Addr.add _ _).block ≠ _; rw [add_block]; exact hn280_3) | exact hn280_3) (.int .i64 ((rd_T44 l1 x53_4).f3))).trans hx280_0; (try have hy280_0 := fun (n_ : Nat) => (show ((((((w24.drewN n_).setCell ⟨gb279, 0, none⟩ (.string ((rd_T44 l1 x53_4).f0))).setCell ⟨gb279, 1, none⟩ (.int .i64 ((rd_T44 l1 x53_4).f1))).setCell ⟨gb279, 2, none⟩ (.int .i64 ((rd_T44 l1 x53_4).f2))).setCell ⟨gb279, 3, none⟩ (.int .i64 ((rd_T44 l1 x53_4).f3)))).cell? _ = some _ from hx280_0)); clear hn280_0; clear hn280_1; clear hn280_2; clear hn280_3; replace p280 := eq_true p280; replace q280 := eq_true q280)))
                  go_roundg k4
                  case measure => have := HJ3.out; have := HK2.out; have := HK3.out; have := HK4.out; omega
                  case rel => exact ⟨(x53_4), (wrap64 (x53_4 + 1)), (by first | rfl | (simp; done) | (simp [*]; done)), (by first | rfl | (simp; done) | (simp [*]; done)), H', ⟨by have := HJ3.out; have := HK2.out; have := HK3.out; have := HK4.out; omega⟩, ⟨by (with_reducible repeat (first | apply Kd.R_alloc | apply Kd.R_drewN | apply Kd.R_drew)); exact Kd.R_mono (Kd.R_far (p := ⟨gb279, 3, none⟩) (Kd.R_far (p := ⟨gb279, 2, none⟩) (Kd.R_far (p := ⟨gb279, 1, none⟩) (Kd.R_far (p := ⟨gb279, 0, none⟩) (Kd.R_types HO_8.out BK279.out (by decide)) (fun _ hk => hk.2) (.string ((rd_T44 l1 x53_4).f0))) (fun _ hk => hk.2) (.int .i64 ((rd_T44 l1 x53_4).f1))) (fun _ hk => hk.2) (.int .i64 ((rd_T44 l1 x53_4).f2))) (fun _ hk => hk.2) (.int .i64 ((rd_T44 l1 x53_4).f3))) (fun _ hk => trivial)⟩, ⟨by repeat (first | (with_reducible first | exact HB.out | apply below_alloc | apply pw_below_drewN | apply below_drew1 | refine below_set ?_ GE279.out) | exact HB.out)⟩⟩
                 ·
                  rw [if_neg c23] at H
                  have c23b0 : decide (x12_4 < 0) = false := decide_eq_false c23
                  clear c23
                  by_cases c27 : 0 ≤ x12_4
                  ·
                   rw [if_pos c27] at H
                   have c27b0 : decide (0 ≤ x12_4) = true := decide_eq_true c27
                   clear c27
                   by_cases c28 : x12_4 < (l1.length : Int)
                   ·
                    rw [if_pos c28] at H
                    have c28b0 : decide (x12_4 < (l1.length : Int)) = true := decide_eq_true c28
                    clear c28
                    by_cases c29 : x12_4 < (x8_3.length : Int)
                    ·
                     rw [if_pos c29] at H
                     have c29b0 : decide (x12_4 < (x8_3.length : Int)) = true := decide_eq_true c29
                     clear c29
                     by_cases c30 : (wrap64 ((rd x8_3 x53_4) * ((rd_T44 l1 x12_4).f3))) < (wrap64 ((rd x8_3 x12_4) * ((rd_T44 l1 x53_4).f3)))
                     ·
                      rw [if_pos c30] at H
                      have c30b0 : decide ((wrap64 ((rd x8_3 x53_4) * ((rd_T44 l1 x12_4).f3))) < (wrap64 ((rd x8_3 x12_4) * ((rd_T44 l1 x53_4).f3)))) = true := decide_eq_true c30
                      clear c30
                      have H' := Aside0.mk H
                      clear H
                      have p278 : 0 ≤ (x53_4 : Int) := of_decide_eq_true (by first | (with_reducible assumption) | assumption)
                      have q278 : x53_4 < (l1.length : Int) := of_decide_eq_true (by first | (with_reducible assumption) | assumption)
                      obtain ⟨ad278, e278, hx278_0, hx278_1, hx278_2, hx278_3⟩ := at_T44 HR1.out x53_4 p278 q278
                      cases e278
                      replace hx278_0 := (HB.out.cell (World.block_lt_of_cell? w _ hx278_0)).trans hx278_0
                      replace hx278_1 := (HB.out.cell (World.block_lt_of_cell? w _ hx278_1)).trans hx278_1
                      replace hx278_2 := (HB.out.cell (World.block_lt_of_cell? w _ hx278_2)).trans hx278_2
                      replace hx278_3 := (HB.out.cell (World.block_lt_of_cell? w _ hx278_3)).trans hx278_3
                      replace p278 := eq_true p278
                      replace q278 := eq_true q278
                      go_wp2_with (first | ((with_reducible refine gate_dst (N := 14) rfl ?_); refine box_event ?hg (N := 14) ?hd (cs := #[.string (⟨#[]⟩ : ByteArray), .int .i64 0, .int .i64 0, .int .i64 0]) (t := 44) ?hr ?_; (case hd => rfl); (case hg => rfl); (case hr => first | (go_simp; done) | (go_simp; rfl)); intro gb279 hg w31 hbox hb; have n0_ := Aside0.mk (Kd.R_below (by (with_reducible repeat (first | apply Kd.R_alloc | apply Kd.R_drewN | apply Kd.R_drew)); exact HO_8.out) hb); have n1_ := Aside0.mk (below_step (by repeat (first | (with_reducible first | exact HB.out | apply below_alloc | apply pw_below_drewN | apply below_drew1) | exact HB.out)) hb); have n2_ := Aside0.mk (hbox); have n3_ := Aside0.mk ((by rw [hg]; exact (below_size (by repeat (first | (with_reducible first | exact HB.out | apply below_alloc | apply pw_below_drewN | apply below_drew1) | exact HB.out))) : w.heap.size ≤ gb279)); have n4_ := Aside0.mk ((by rw [hg]; exact (below_size (by repeat (first | (with_reducible first | exact HB.out | apply below_alloc | apply pw_below_drewN | apply below_drew1) | exact HB.out))) : w.heap.size ≤ gb279)); clear HO_8; clear HB; have HO_8 := n0_; have HB := n1_; have BK279 := n2_; have GW279 := n3_; have GE279 := n4_; clear n0_ n1_ n2_ n3_ n4_; clear hb hbox hg; have hcz32_0 : w31.cell? ⟨gb279, 0, none⟩ = some (.string (⟨#[]⟩ : ByteArray)) := (blk_cell BK279.out 0).trans rfl; have hcz32_1 : w31.cell? ⟨gb279, 1, none⟩ = some (.int .i64 0) := (blk_cell BK279.out 1).trans rfl; have hcz32_2 : w31.cell? ⟨gb279, 2, none⟩ = some (.int .i64 0) := (blk_cell BK279.out 2).trans rfl; have hcz32_3 : w31.cell? ⟨gb279, 3, none⟩ = some (.int .i64 0) := (blk_cell BK279.out 3).trans rfl; have hfz32_0 := blk_frozen BK279.out 0; have hfz32_1 := blk_frozen BK279.out 1; have hfz32_2 := blk_frozen BK279.out 2; have hfz32_3 := blk_frozen BK279.out 3; obtain ⟨Ao33, co33, eo33⟩ := Kd.R_slice HO_8.out; subst eo33; have p280 : 0 ≤ (x53_4 : Int) := of_decide_eq_true (by first | (with_reducible assumption) | assumption); have q280 : x53_4 < (x8_3.length : Int) := of_decide_eq_true (by first | (with_reducible assumption) | assumption); obtain ⟨ad280, e280, hx280_0⟩ := Kd.at_int (Kd.R_reads' HO_8.out).2.2 x53_4 p280 q280; cases e280; have hn280_0 : ad280.block ≠ gb279 := Kd.own_blk (Kd.R_ne HO_8.out BK279.out (by decide)); have hn280_1 : ad280.block ≠ gb279 := Kd.own_blk (Kd.R_ne HO_8.out BK279.out (by decide)); have hn280_2 : ad280.block ≠ gb279 := Kd.own_blk (Kd.R_ne HO_8.out BK279.out (by decide)); have hn280_3 : ad280.block ≠ gb279 := Kd.own_blk (Kd.R_ne HO_8.out BK279.out (by decide)); replace hx280_0 := (cell_far (p := ⟨gb279, 0, none⟩) (by first | (rw [add_block]; exact hn280_0) | (show (Addr.add _ _).block ≠ _; rw [add_block]; exact hn280_0) | exact hn280_0) (.string ((rd_T44 l1 x53_4).f0))).trans hx280_0; replace hx280_0 := (cell_far (p := ⟨gb279, 1, none⟩) (by first | (rw [add_block]; exact hn280_1) | (show (Addr.add _ _).block ≠ _; rw [add_block]; exact hn280_1) | exact hn280_1) (.int .i64 ((rd_T44 l1 x53_4).f1))).trans hx280_0; replace hx280_0 := (cell_far (p := ⟨gb279, 2, none⟩) (by first | (rw [add_block]; exact hn280_2) | (show (Addr.add _ _).block ≠ _; rw [add_block]; exact hn280_2) | exact hn280_2) (.int .i64 ((rd_T44 l1 x53_4).f2))).trans hx280_0; replace hx280_0 := (cell_far (p := ⟨gb279, 3, none⟩) (by first | (rw [add_block]; exact hn280_3) | (show (Addr.add _ _).block ≠ _; rw [add_block]; exact hn280_3) | exact hn280_3) (.int .i64 ((rd_T44 l1 x53_4).f3))).trans hx280_0; (try have hy280_0 := fun (n_ : Nat) => (show ((((((w31.drewN n_).setCell ⟨gb279, 0, none⟩ (.string ((rd_T44 l1 x53_4).f0))).setCell ⟨gb279, 1, none⟩ (.int .i64 ((rd_T44 l1 x53_4).f1))).setCell ⟨gb279, 2, none⟩ (.int .i64 ((rd_T44 l1 x53_4).f2))).setCell ⟨gb279, 3, none⟩ (.int .i64 ((rd_T44 l1 x53_4).f3)))).cell? _ = some _ from hx280_0)); clear hn280_0; clear hn280_1; clear hn280_2; clear hn280_3; replace p280 := eq_true p280; replace q280 := eq_true q280; have p281 : 0 ≤ (x53_4 : Int) := of_decide_eq_true (by first | (with_reducible assumption) | assumption); have q281 : x53_4 < (x8_3.length : Int) := of_decide_eq_true (by first | (with_reducible assumption) | assumption); obtain ⟨ad281, e281, hx281_0⟩ := Kd.at_int (Kd.R_reads' HO_8.out).2.2 x53_4 p281 q281; obtain rfl : ad280 = ad281 := (by injection e281); have hn281_0 : ad280.block ≠ gb279 := Kd.own_blk (Kd.R_ne HO_8.out BK279.out (by decide)); have hn281_1 : ad280.block ≠ gb279 := Kd.own_blk (Kd.R_ne HO_8.out BK279.out (by decide)); have hn281_2 : ad280.block ≠ gb279 := Kd.own_blk (Kd.R_ne HO_8.out BK279.out (by decide)); have hn281_3 : ad280.block ≠ gb279 := Kd.own_blk (Kd.R_ne HO_8.out BK279.out (by decide)); replace hx281_0 := (cell_far (p := ⟨gb279, 0, none⟩) (by first | (rw [add_block]; exact hn281_0) | (show (Addr.add _ _).block ≠ _; rw [add_block]; exact hn281_0) | exact hn281_0) (.string ((rd_T44 l1 x53_4).f0))).trans hx281_0; replace hx281_0 := (cell_far (p := ⟨gb279, 1, none⟩) (by first | (rw [add_block]; exact hn281_1) | (show (Addr.add _ _).block ≠ _; rw [add_block]; exact hn281_1) | exact hn281_1) (.int .i64 ((rd_T44 l1 x53_4).f1))).trans hx281_0; replace hx281_0 := (cell_far (p := ⟨gb279, 2, none⟩) (by first | (rw [add_block]; exact hn281_2) | (show (Addr.add _ _).block ≠ _; rw [add_block]; exact hn281_2) | exact hn281_2) (.int .i64 ((rd_T44 l1 x53_4).f2))).trans hx281_0; replace hx281_0 := (cell_far (p := ⟨gb279, 3, none⟩) (by first | (rw [add_block]; exact hn281_3) | (show (Addr.add _ _).block ≠ _; rw [add_block]; exact hn281_3) | exact hn281_3) (.int .i64 ((rd_T44 l1 x53_4).f3))).trans hx281_0; (try have hy281_0 := fun (n_ : Nat) => (show ((((((w31.drewN n_).setCell ⟨gb279, 0, none⟩ (.string ((rd_T44 l1 x53_4).f0))).setCell ⟨gb279, 1, none⟩ (.int .i64 ((rd_T44 l1 x53_4).f1))).setCell ⟨gb279, 2, none⟩ (.int .i64 ((rd_T44 l1 x53_4).f2))).setCell ⟨gb279, 3, none⟩ (.int .i64 ((rd_T44 l1 x53_4).f3)))).cell? _ = some _ from hx281_0)); clear hn281_0; clear hn281_1; clear hn281_2; clear hn281_3; replace p281 := eq_true p281; replace q281 := eq_true q281; have p282 : 0 ≤ (x12_4 : Int) := of_decide_eq_true (by first | (with_reducible assumption) | assumption); have q282 : x12_4 < (l1.length : Int) := of_decide_eq_true (by first | (with_reducible assumption) | assumption); obtain ⟨ad282, e282, hx282_0, hx282_1, hx282_2, hx282_3⟩ := at_T44 HR1.out x12_4 p282 q282; obtain rfl : ad278 = ad282 := (by injection e282); have hn282_0 : ad278.block ≠ gb279 := Nat.ne_of_lt (Nat.lt_of_lt_of_le (by have := World.block_lt_of_cell? _ _ hx282_0; first | rwa [add_block] at this | exact this) GW279.out); have hn282_1 : ad278.block ≠ gb279 := Nat.ne_of_lt (Nat.lt_of_lt_of_le (by have := World.block_lt_of_cell? _ _ hx282_0; first | rwa [add_block] at this | exact this) GW279.out); have hn282_2 : ad278.block ≠ gb279 := Nat.ne_of_lt (Nat.lt_of_lt_of_le (by have := World.block_lt_of_cell? _ _ hx282_0; first | rwa [add_block] at this | exact this) GW279.out); have hn282_3 : ad278.block ≠ gb279 := Nat.ne_of_lt (Nat.lt_of_lt_of_le (by have := World.block_lt_of_cell? _ _ hx282_0; first | rwa [add_block] at this | exact this) GW279.out); replace hx282_0 := (HB.out.cell (World.block_lt_of_cell? w _ hx282_0)).trans hx282_0; replace hx282_1 := (HB.out.cell (World.block_lt_of_cell? w _ hx282_1)).trans hx282_1; replace hx282_2 := (HB.out.cell (World.block_lt_of_cell? w _ hx282_2)).trans hx282_2; replace hx282_3 := (HB.out.cell (World.block_lt_of_cell? w _ hx282_3)).trans hx282_3; replace hx282_0 := (cell_far (p := ⟨gb279, 0, none⟩) (by first | (rw [add_block]; exact hn282_0) | (show (Addr.add _ _).block ≠ _; rw [add_block]; exact hn282_0) | exact hn282_0) (.string ((rd_T44 l1 x53_4).f0))).trans hx282_0; replace hx282_1 := (cell_far (p := ⟨gb279, 0, none⟩) (by first | (rw [add_block]; exact hn282_0) | (show (Addr.add _ _).block ≠ _; rw [add_block]; exact hn282_0) | exact hn282_0) (.string ((rd_T44 l1 x53_4).f0))).trans hx282_1; replace hx282_2 := (cell_far (p := ⟨gb279, 0, none⟩) (by first | (rw [add_block]; exact hn282_0) | (show (Addr.add _ _).block ≠ _; rw [add_block]; exact hn282_0) | exact hn282_0) (.string ((rd_T44 l1 x53_4).f0))).trans hx282_2; replace hx282_3 := (cell_far (p := ⟨gb279, 0, none⟩) (by first | (rw [add_block]; exact hn282_0) | (show (Addr.add _ _).block ≠ _; rw [add_block]; exact hn282_0) | exact hn282_0) (.string ((rd_T44 l1 x53_4).f0))).trans hx282_3; replace hx282_0 := (cell_far (p := ⟨gb279, 1, none⟩) (by first | (rw [add_block]; exact hn282_1) | (show (Addr.add _ _).block ≠ _; rw [add_block]; exact hn282_1) | exact hn282_1) (.int .i64 ((rd_T44 l1 x53_4).f1))).trans hx282_0; replace hx282_1 := (cell_far (p := ⟨gb279, 1, none⟩) (by first | (rw [add_block]; exact hn282_1) | (show (Addr.add _ _).block ≠ _; rw [add_block]; exact hn282_1) | exact hn282_1) (.int .i64 ((rd_T44 l1 x53_4).f1))).trans hx282_1; replace hx282_2 := (cell_far (p := ⟨gb279, 1, none⟩) (by first | (rw [add_block]; exact hn282_1) | (show (Addr.add _ _).block ≠ _; rw [add_block]; exact hn282_1) | exact hn282_1) (.int .i64 ((rd_T44 l1 x53_4).f1))).trans hx282_2; replace hx282_3 := (cell_far (p := ⟨gb279, 1, none⟩) (by first | (rw [add_block]; exact hn282_1) | (show (Addr.add _ _).block ≠ _; rw [add_block]; exact hn282_1) | exact hn282_1) (.int .i64 ((rd_T44 l1 x53_4).f1))).trans hx282_3; replace hx282_0 := (cell_far (p := ⟨gb279, 2, none⟩) (by first | (rw [add_block]; exact hn282_2) | (show (Addr.add _ _).block ≠ _; rw [add_block]; exact hn282_2) | exact hn282_2) (.int .i64 ((rd_T44 l1 x53_4).f2))).trans hx282_0; replace hx282_1 := (cell_far (p := ⟨gb279, 2, none⟩) (by first | (rw [add_block]; exact hn282_2) | (show (Addr.add _ _).block ≠ _; rw [add_block]; exact hn282_2) | exact hn282_2) (.int .i64 ((rd_T44 l1 x53_4).f2))).trans hx282_1; replace hx282_2 := (cell_far (p := ⟨gb279, 2, none⟩) (by first | (rw [add_block]; exact hn282_2) | (show (Addr.add _ _).block ≠ _; rw [add_block]; exact hn282_2) | exact hn282_2) (.int .i64 ((rd_T44 l1 x53_4).f2))).trans hx282_2; replace hx282_3 := (cell_far (p := ⟨gb279, 2, none⟩) (by first | (rw [add_block]; exact hn282_2) | (show (Addr.add _ _).block ≠ _; rw [add_block]; exact hn282_2) | exact hn282_2) (.int .i64 ((rd_T44 l1 x53_4).f2))).trans hx282_3; replace hx282_0 := (cell_far (p := ⟨gb279, 3, none⟩) (by first | (rw [add_block]; exact hn282_3) | (show (Addr.add _ _).block ≠ _; rw [add_block]; exact hn282_3) | exact hn282_3) (.int .i64 ((rd_T44 l1 x53_4).f3))).trans hx282_0; replace hx282_1 := (cell_far (p := ⟨gb279, 3, none⟩) (by first | (rw [add_block]; exact hn282_3) | (show (Addr.add _ _).block ≠ _; rw [add_block]; exact hn282_3) | exact hn282_3) (.int .i64 ((rd_T44 l1 x53_4).f3))).trans hx282_1; replace hx282_2 := (cell_far (p := ⟨gb279, 3, none⟩) (by first | (rw [add_block]; exact hn282_3) | (show (Addr.add _ _).block ≠ _; rw [add_block]; exact hn282_3) | exact hn282_3) (.int .i64 ((rd_T44 l1 x53_4).f3))).trans hx282_2; replace hx282_3 := (cell_far (p := ⟨gb279, 3, none⟩) (by first | (rw [add_block]; exact hn282_3) | (show (Addr.add _ _).block ≠ _; rw [add_block]; exact hn282_3) | exact hn282_3) (.int .i64 ((rd_T44 l1 x53_4).f3))).trans hx282_3; (try have hy282_0 := fun (n_ : Nat) => (show ((((((w31.drewN n_).setCell ⟨gb279, 0, none⟩ (.string ((rd_T44 l1 x53_4).f0))).setCell ⟨gb279, 1, none⟩ (.int .i64 ((rd_T44 l1 x53_4).f1))).setCell ⟨gb279, 2, none⟩ (.int .i64 ((rd_T44 l1 x53_4).f2))).setCell ⟨gb279, 3, none⟩ (.int .i64 ((rd_T44 l1 x53_4).f3)))).cell? _ = some _ from hx282_0)); (try have hy282_1 := fun (n_ : Nat) => (show ((((((w31.drewN n_).setCell ⟨gb279, 0, none⟩ (.string ((rd_T44 l1 x53_4).f0))).setCell ⟨gb279, 1, none⟩ (.int .i64 ((rd_T44 l1 x53_4).f1))).setCell ⟨gb279, 2, none⟩ (.int .i64 ((rd_T44 l1 x53_4).f2))).setCell ⟨gb279, 3, none⟩ (.int .i64 ((rd_T44 l1 x53_4).f3)))).cell? _ = some _ from hx282_1)); (try have hy282_2 := fun (n_ : Nat) => (show ((((((w31.drewN n_).setCell ⟨gb279, 0, none⟩ (.string ((rd_T44 l1 x53_4).f0))).setCell ⟨gb279, 1, none⟩ (.int .i64 ((rd_T44 l1 x53_4).f1))).setCell ⟨gb279, 2, none⟩ (.int .i64 ((rd_T44 l1 x53_4).f2))).setCell ⟨gb279, 3, none⟩ (.int .i64 ((rd_T44 l1 x53_4).f3)))).cell? _ = some _ from hx282_2)); (try have hy282_3 := fun (n_ : Nat) => (show ((((((w31.drewN n_).setCell ⟨gb279, 0, none⟩ (.string ((rd_T44 l1 x53_4).f0))).setCell ⟨gb279, 1, none⟩ (.int .i64 ((rd_T44 l1 x53_4).f1))).setCell ⟨gb279, 2, none⟩ (.int .i64 ((rd_T44 l1 x53_4).f2))).setCell ⟨gb279, 3, none⟩ (.int .i64 ((rd_T44 l1 x53_4).f3)))).cell? _ = some _ from hx282_3)); clear hn282_0; clear hn282_1; clear hn282_2; clear hn282_3; replace p282 := eq_true p282; replace q282 := eq_true q282; have p283 : 0 ≤ (x12_4 : Int) := of_decide_eq_true (by first | (with_reducible assumption) | assumption); have q283 : x12_4 < (x8_3.length : Int) := of_decide_eq_true (by first | (with_reducible assumption) | assumption); obtain ⟨ad283, e283, hx283_0⟩ := Kd.at_int (Kd.R_reads' HO_8.out).2.2 x12_4 p283 q283; obtain rfl : ad280 = ad283 := (by injection e283); have hn283_0 : ad280.block ≠ gb279 := Kd.own_blk (Kd.R_ne HO_8.out BK279.out (by decide)); have hn283_1 : ad280.block ≠ gb279 := Kd.own_blk (Kd.R_ne HO_8.out BK279.out (by decide)); have hn283_2 : ad280.block ≠ gb279 := Kd.own_blk (Kd.R_ne HO_8.out BK279.out (by decide)); have hn283_3 : ad280.block ≠ gb279 := Kd.own_blk (Kd.R_ne HO_8.out BK279.out (by decide)); replace hx283_0 := (cell_far (p := ⟨gb279, 0, none⟩) (by first | (rw [add_block]; exact hn283_0) | (show (Addr.add _ _).block ≠ _; rw [add_block]; exact hn283_0) | exact hn283_0) (.string ((rd_T44 l1 x53_4).f0))).trans hx283_0; replace hx283_0 := (cell_far (p := ⟨gb279, 1, none⟩) (by first | (rw [add_block]; exact hn283_1) | (show (Addr.add _ _).block ≠ _; rw [add_block]; exact hn283_1) | exact hn283_1) (.int .i64 ((rd_T44 l1 x53_4).f1))).trans hx283_0; replace hx283_0 := (cell_far (p := ⟨gb279, 2, none⟩) (by first | (rw [add_block]; exact hn283_2) | (show (Addr.add _ _).block ≠ _; rw [add_block]; exact hn283_2) | exact hn283_2) (.int .i64 ((rd_T44 l1 x53_4).f2))).trans hx283_0; replace hx283_0 := (cell_far (p := ⟨gb279, 3, none⟩) (by first | (rw [add_block]; exact hn283_3) | (show (Addr.add _ _).block ≠ _; rw [add_block]; exact hn283_3) | exact hn283_3) (.int .i64 ((rd_T44 l1 x53_4).f3))).trans hx283_0; (try have hy283_0 := fun (n_ : Nat) => (show ((((((w31.drewN n_).setCell ⟨gb279, 0, none⟩ (.string ((rd_T44 l1 x53_4).f0))).setCell ⟨gb279, 1, none⟩ (.int .i64 ((rd_T44 l1 x53_4).f1))).setCell ⟨gb279, 2, none⟩ (.int .i64 ((rd_T44 l1 x53_4).f2))).setCell ⟨gb279, 3, none⟩ (.int .i64 ((rd_T44 l1 x53_4).f3)))).cell? _ = some _ from hx283_0)); clear hn283_0; clear hn283_1; clear hn283_2; clear hn283_3; replace p283 := eq_true p283; replace q283 := eq_true q283))
                      repeat (go_quiet (first | ((with_reducible refine gate_dst (N := 14) rfl ?_); refine box_event ?hg (N := 14) ?hd (cs := #[.string (⟨#[]⟩ : ByteArray), .int .i64 0, .int .i64 0, .int .i64 0]) (t := 44) ?hr ?_; (case hd => rfl); (case hg => rfl); (case hr => first | (go_simp; done) | (go_simp; rfl)); intro gb279 hg w31 hbox hb; have n0_ := Aside0.mk (Kd.R_below (by (with_reducible repeat (first | apply Kd.R_alloc | apply Kd.R_drewN | apply Kd.R_drew)); exact HO_8.out) hb); have n1_ := Aside0.mk (below_step (by repeat (first | (with_reducible first | exact HB.out | apply below_alloc | apply pw_below_drewN | apply below_drew1) | exact HB.out)) hb); have n2_ := Aside0.mk (hbox); have n3_ := Aside0.mk ((by rw [hg]; exact (below_size (by repeat (first | (with_reducible first | exact HB.out | apply below_alloc | apply pw_below_drewN | apply below_drew1) | exact HB.out))) : w.heap.size ≤ gb279)); have n4_ := Aside0.mk ((by rw [hg]; exact (below_size (by repeat (first | (with_reducible first | exact HB.out | apply below_alloc | apply pw_below_drewN | apply below_drew1) | exact HB.out))) : w.heap.size ≤ gb279)); clear HO_8; clear HB; have HO_8 := n0_; have HB := n1_; have BK279 := n2_; have GW279 := n3_; have GE279 := n4_; clear n0_ n1_ n2_ n3_ n4_; clear hb hbox hg; have hcz32_0 : w31.cell? ⟨gb279, 0, none⟩ = some (.string (⟨#[]⟩ : ByteArray)) := (blk_cell BK279.out 0).trans rfl; have hcz32_1 : w31.cell? ⟨gb279, 1, none⟩ = some (.int .i64 0) := (blk_cell BK279.out 1).trans rfl; have hcz32_2 : w31.cell? ⟨gb279, 2, none⟩ = some (.int .i64 0) := (blk_cell BK279.out 2).trans rfl; have hcz32_3 : w31.cell? ⟨gb279, 3, none⟩ = some (.int .i64 0) := (blk_cell BK279.out 3).trans rfl; have hfz32_0 := blk_frozen BK279.out 0; have hfz32_1 := blk_frozen BK279.out 1; have hfz32_2 := blk_frozen BK279.out 2; have hfz32_3 := blk_frozen BK279.out 3; obtain ⟨Ao33, co33, eo33⟩ := Kd.R_slice HO_8.out; subst eo33; have p280 : 0 ≤ (x53_4 : Int) := of_decide_eq_true (by first | (with_reducible assumption) | assumption); have q280 : x53_4 < (x8_3.length : Int) := of_decide_eq_true (by first | (with_reducible assumption) | assumption); obtain ⟨ad280, e280, hx280_0⟩ := Kd.at_int (Kd.R_reads' HO_8.out).2.2 x53_4 p280 q280; cases e280; have hn280_0 : ad280.block ≠ gb279 := Kd.own_blk (Kd.R_ne HO_8.out BK279.out (by decide)); have hn280_1 : ad280.block ≠ gb279 := Kd.own_blk (Kd.R_ne HO_8.out BK279.out (by decide)); have hn280_2 : ad280.block ≠ gb279 := Kd.own_blk (Kd.R_ne HO_8.out BK279.out (by decide)); have hn280_3 : ad280.block ≠ gb279 := Kd.own_blk (Kd.R_ne HO_8.out BK279.out (by decide)); replace hx280_0 := (cell_far (p := ⟨gb279, 0, none⟩) (by first | (rw [add_block]; exact hn280_0) | (show (Addr.add _ _).block ≠ _; rw [add_block]; exact hn280_0) | exact hn280_0) (.string ((rd_T44 l1 x53_4).f0))).trans hx280_0; replace hx280_0 := (cell_far (p := ⟨gb279, 1, none⟩) (by first | (rw [add_block]; exact hn280_1) | (show (Addr.add _ _).block ≠ _; rw [add_block]; exact hn280_1) | exact hn280_1) (.int .i64 ((rd_T44 l1 x53_4).f1))).trans hx280_0; replace hx280_0 := (cell_far (p := ⟨gb279, 2, none⟩) (by first | (rw [add_block]; exact hn280_2) | (show (Addr.add _ _).block ≠ _; rw [add_block]; exact hn280_2) | exact hn280_2) (.int .i64 ((rd_T44 l1 x53_4).f2))).trans hx280_0; replace hx280_0 := (cell_far (p := ⟨gb279, 3, none⟩) (by first | (rw [add_block]; exact hn280_3) | (show (Addr.add _ _).block ≠ _; rw [add_block]; exact hn280_3) | exact hn280_3) (.int .i64 ((rd_T44 l1 x53_4).f3))).trans hx280_0; (try have hy280_0 := fun (n_ : Nat) => (show ((((((w31.drewN n_).setCell ⟨gb279, 0, none⟩ (.string ((rd_T44 l1 x53_4).f0))).setCell ⟨gb279, 1, none⟩ (.int .i64 ((rd_T44 l1 x53_4).f1))).setCell ⟨gb279, 2, none⟩ (.int .i64 ((rd_T44 l1 x53_4).f2))).setCell ⟨gb279, 3, none⟩ (.int .i64 ((rd_T44 l1 x53_4).f3)))).cell? _ = some _ from hx280_0)); clear hn280_0; clear hn280_1; clear hn280_2; clear hn280_3; replace p280 := eq_true p280; replace q280 := eq_true q280; have p281 : 0 ≤ (x53_4 : Int) := of_decide_eq_true (by first | (with_reducible assumption) | assumption); have q281 : x53_4 < (x8_3.length : Int) := of_decide_eq_true (by first | (with_reducible assumption) | assumption); obtain ⟨ad281, e281, hx281_0⟩ := Kd.at_int (Kd.R_reads' HO_8.out).2.2 x53_4 p281 q281; obtain rfl : ad280 = ad281 := (by injection e281); have hn281_0 : ad280.block ≠ gb279 := Kd.own_blk (Kd.R_ne HO_8.out BK279.out (by decide)); have hn281_1 : ad280.block ≠ gb279 := Kd.own_blk (Kd.R_ne HO_8.out BK279.out (by decide)); have hn281_2 : ad280.block ≠ gb279 := Kd.own_blk (Kd.R_ne HO_8.out BK279.out (by decide)); have hn281_3 : ad280.block ≠ gb279 := Kd.own_blk (Kd.R_ne HO_8.out BK279.out (by decide)); replace hx281_0 := (cell_far (p := ⟨gb279, 0, none⟩) (by first | (rw [add_block]; exact hn281_0) | (show (Addr.add _ _).block ≠ _; rw [add_block]; exact hn281_0) | exact hn281_0) (.string ((rd_T44 l1 x53_4).f0))).trans hx281_0; replace hx281_0 := (cell_far (p := ⟨gb279, 1, none⟩) (by first | (rw [add_block]; exact hn281_1) | (show (Addr.add _ _).block ≠ _; rw [add_block]; exact hn281_1) | exact hn281_1) (.int .i64 ((rd_T44 l1 x53_4).f1))).trans hx281_0; replace hx281_0 := (cell_far (p := ⟨gb279, 2, none⟩) (by first | (rw [add_block]; exact hn281_2) | (show (Addr.add _ _).block ≠ _; rw [add_block]; exact hn281_2) | exact hn281_2) (.int .i64 ((rd_T44 l1 x53_4).f2))).trans hx281_0; replace hx281_0 := (cell_far (p := ⟨gb279, 3, none⟩) (by first | (rw [add_block]; exact hn281_3) | (show (Addr.add _ _).block ≠ _; rw [add_block]; exact hn281_3) | exact hn281_3) (.int .i64 ((rd_T44 l1 x53_4).f3))).trans hx281_0; (try have hy281_0 := fun (n_ : Nat) => (show ((((((w31.drewN n_).setCell ⟨gb279, 0, none⟩ (.string ((rd_T44 l1 x53_4).f0))).setCell ⟨gb279, 1, none⟩ (.int .i64 ((rd_T44 l1 x53_4).f1))).setCell ⟨gb279, 2, none⟩ (.int .i64 ((rd_T44 l1 x53_4).f2))).setCell ⟨gb279, 3, none⟩ (.int .i64 ((rd_T44 l1 x53_4).f3)))).cell? _ = some _ from hx281_0)); clear hn281_0; clear hn281_1; clear hn281_2; clear hn281_3; replace p281 := eq_true p281; replace q281 := eq_true q281; have p282 : 0 ≤ (x12_4 : Int) := of_decide_eq_true (by first | (with_reducible assumption) | assumption); have q282 : x12_4 < (l1.length : Int) := of_decide_eq_true (by first | (with_reducible assumption) | assumption); obtain ⟨ad282, e282, hx282_0, hx282_1, hx282_2, hx282_3⟩ := at_T44 HR1.out x12_4 p282 q282; obtain rfl : ad278 = ad282 := (by injection e282); have hn282_0 : ad278.block ≠ gb279 := Nat.ne_of_lt (Nat.lt_of_lt_of_le (by have := World.block_lt_of_cell? _ _ hx282_0; first | rwa [add_block] at this | exact this) GW279.out); have hn282_1 : ad278.block ≠ gb279 := Nat.ne_of_lt (Nat.lt_of_lt_of_le (by have := World.block_lt_of_cell? _ _ hx282_0; first | rwa [add_block] at this | exact this) GW279.out); have hn282_2 : ad278.block ≠ gb279 := Nat.ne_of_lt (Nat.lt_of_lt_of_le (by have := World.block_lt_of_cell? _ _ hx282_0; first | rwa [add_block] at this | exact this) GW279.out); have hn282_3 : ad278.block ≠ gb279 := Nat.ne_of_lt (Nat.lt_of_lt_of_le (by have := World.block_lt_of_cell? _ _ hx282_0; first | rwa [add_block] at this | exact this) GW279.out); replace hx282_0 := (HB.out.cell (World.block_lt_of_cell? w _ hx282_0)).trans hx282_0; replace hx282_1 := (HB.out.cell (World.block_lt_of_cell? w _ hx282_1)).trans hx282_1; replace hx282_2 := (HB.out.cell (World.block_lt_of_cell? w _ hx282_2)).trans hx282_2; replace hx282_3 := (HB.out.cell (World.block_lt_of_cell? w _ hx282_3)).trans hx282_3; replace hx282_0 := (cell_far (p := ⟨gb279, 0, none⟩) (by first | (rw [add_block]; exact hn282_0) | (show (Addr.add _ _).block ≠ _; rw [add_block]; exact hn282_0) | exact hn282_0) (.string ((rd_T44 l1 x53_4).f0))).trans hx282_0; replace hx282_1 := (cell_far (p := ⟨gb279, 0, none⟩) (by first | (rw [add_block]; exact hn282_0) | (show (Addr.add _ _).block ≠ _; rw [add_block]; exact hn282_0) | exact hn282_0) (.string ((rd_T44 l1 x53_4).f0))).trans hx282_1; replace hx282_2 := (cell_far (p := ⟨gb279, 0, none⟩) (by first | (rw [add_block]; exact hn282_0) | (show (Addr.add _ _).block ≠ _; rw [add_block]; exact hn282_0) | exact hn282_0) (.string ((rd_T44 l1 x53_4).f0))).trans hx282_2; replace hx282_3 := (cell_far (p := ⟨gb279, 0, none⟩) (by first | (rw [add_block]; exact hn282_0) | (show (Addr.add _ _).block ≠ _; rw [add_block]; exact hn282_0) | exact hn282_0) (.string ((rd_T44 l1 x53_4).f0))).trans hx282_3; replace hx282_0 := (cell_far (p := ⟨gb279, 1, none⟩) (by first | (rw [add_block]; exact hn282_1) | (show (Addr.add _ _).block ≠ _; rw [add_block]; exact hn282_1) | exact hn282_1) (.int .i64 ((rd_T44 l1 x53_4).f1))).trans hx282_0; replace hx282_1 := (cell_far (p := ⟨gb279, 1, none⟩) (by first | (rw [add_block]; exact hn282_1) | (show (Addr.add _ _).block ≠ _; rw [add_block]; exact hn282_1) | exact hn282_1) (.int .i64 ((rd_T44 l1 x53_4).f1))).trans hx282_1; replace hx282_2 := (cell_far (p := ⟨gb279, 1, none⟩) (by first | (rw [add_block]; exact hn282_1) | (show (Addr.add _ _).block ≠ _; rw [add_block]; exact hn282_1) | exact hn282_1) (.int .i64 ((rd_T44 l1 x53_4).f1))).trans hx282_2; replace hx282_3 := (cell_far (p := ⟨gb279, 1, none⟩) (by first | (rw [add_block]; exact hn282_1) | (show (Addr.add _ _).block ≠ _; rw [add_block]; exact hn282_1) | exact hn282_1) (.int .i64 ((rd_T44 l1 x53_4).f1))).trans hx282_3; replace hx282_0 := (cell_far (p := ⟨gb279, 2, none⟩) (by first | (rw [add_block]; exact hn282_2) | (show (Addr.add _ _).block ≠ _; rw [add_block]; exact hn282_2) | exact hn282_2) (.int .i64 ((rd_T44 l1 x53_4).f2))).trans hx282_0; replace hx282_1 := (cell_far (p := ⟨gb279, 2, none⟩) (by first | (rw [add_block]; exact hn282_2) | (show (Addr.add _ _).block ≠ _; rw [add_block]; exact hn282_2) | exact hn282_2) (.int .i64 ((rd_T44 l1 x53_4).f2))).trans hx282_1; replace hx282_2 := (cell_far (p := ⟨gb279, 2, none⟩) (by first | (rw [add_block]; exact hn282_2) | (show (Addr.add _ _).block ≠ _; rw [add_block]; exact hn282_2) | exact hn282_2) (.int .i64 ((rd_T44 l1 x53_4).f2))).trans hx282_2; replace hx282_3 := (cell_far (p := ⟨gb279, 2, none⟩) (by first | (rw [add_block]; exact hn282_2) | (show (Addr.add _ _).block ≠ _; rw [add_block]; exact hn282_2) | exact hn282_2) (.int .i64 ((rd_T44 l1 x53_4).f2))).trans hx282_3; replace hx282_0 := (cell_far (p := ⟨gb279, 3, none⟩) (by first | (rw [add_block]; exact hn282_3) | (show (Addr.add _ _).block ≠ _; rw [add_block]; exact hn282_3) | exact hn282_3) (.int .i64 ((rd_T44 l1 x53_4).f3))).trans hx282_0; replace hx282_1 := (cell_far (p := ⟨gb279, 3, none⟩) (by first | (rw [add_block]; exact hn282_3) | (show (Addr.add _ _).block ≠ _; rw [add_block]; exact hn282_3) | exact hn282_3) (.int .i64 ((rd_T44 l1 x53_4).f3))).trans hx282_1; replace hx282_2 := (cell_far (p := ⟨gb279, 3, none⟩) (by first | (rw [add_block]; exact hn282_3) | (show (Addr.add _ _).block ≠ _; rw [add_block]; exact hn282_3) | exact hn282_3) (.int .i64 ((rd_T44 l1 x53_4).f3))).trans hx282_2; replace hx282_3 := (cell_far (p := ⟨gb279, 3, none⟩) (by first | (rw [add_block]; exact hn282_3) | (show (Addr.add _ _).block ≠ _; rw [add_block]; exact hn282_3) | exact hn282_3) (.int .i64 ((rd_T44 l1 x53_4).f3))).trans hx282_3; (try have hy282_0 := fun (n_ : Nat) => (show ((((((w31.drewN n_).setCell ⟨gb279, 0, none⟩ (.string ((rd_T44 l1 x53_4).f0))).setCell ⟨gb279, 1, none⟩ (.int .i64 ((rd_T44 l1 x53_4).f1))).setCell ⟨gb279, 2, none⟩ (.int .i64 ((rd_T44 l1 x53_4).f2))).setCell ⟨gb279, 3, none⟩ (.int .i64 ((rd_T44 l1 x53_4).f3)))).cell? _ = some _ from hx282_0)); (try have hy282_1 := fun (n_ : Nat) => (show ((((((w31.drewN n_).setCell ⟨gb279, 0, none⟩ (.string ((rd_T44 l1 x53_4).f0))).setCell ⟨gb279, 1, none⟩ (.int .i64 ((rd_T44 l1 x53_4).f1))).setCell ⟨gb279, 2, none⟩ (.int .i64 ((rd_T44 l1 x53_4).f2))).setCell ⟨gb279, 3, none⟩ (.int .i64 ((rd_T44 l1 x53_4).f3)))).cell? _ = some _ from hx282_1)); (try have hy282_2 := fun (n_ : Nat) => (show ((((((w31.drewN n_).setCell ⟨gb279, 0, none⟩ (.string ((rd_T44 l1 x53_4).f0))).setCell ⟨gb279, 1, none⟩ (.int .i64 ((rd_T44 l1 x53_4).f1))).setCell ⟨gb279, 2, none⟩ (.int .i64 ((rd_T44 l1 x53_4).f2))).setCell ⟨gb279, 3, none⟩ (.int .i64 ((rd_T44 l1 x53_4).f3)))).cell? _ = some _ from hx282_2)); (try have hy282_3 := fun (n_ : Nat) => (show ((((((w31.drewN n_).setCell ⟨gb279, 0, none⟩ (.string ((rd_T44 l1 x53_4).f0))).setCell ⟨gb279, 1, none⟩ (.int .i64 ((rd_T44 l1 x53_4).f1))).setCell ⟨gb279, 2, none⟩ (.int .i64 ((rd_T44 l1 x53_4).f2))).setCell ⟨gb279, 3, none⟩ (.int .i64 ((rd_T44 l1 x53_4).f3)))).cell? _ = some _ from hx282_3)); clear hn282_0; clear hn282_1; clear hn282_2; clear hn282_3; replace p282 := eq_true p282; replace q282 := eq_true q282; have p283 : 0 ≤ (x12_4 : Int) := of_decide_eq_true (by first | (with_reducible assumption) | assumption); have q283 : x12_4 < (x8_3.length : Int) := of_decide_eq_true (by first | (with_reducible assumption) | assumption); obtain ⟨ad283, e283, hx283_0⟩ := Kd.at_int (Kd.R_reads' HO_8.out).2.2 x12_4 p283 q283; obtain rfl : ad280 = ad283 := (by injection e283); have hn283_0 : ad280.block ≠ gb279 := Kd.own_blk (Kd.R_ne HO_8.out BK279.out (by decide)); have hn283_1 : ad280.block ≠ gb279 := Kd.own_blk (Kd.R_ne HO_8.out BK279.out (by decide)); have hn283_2 : ad280.block ≠ gb279 := Kd.own_blk (Kd.R_ne HO_8.out BK279.out (by decide)); have hn283_3 : ad280.block ≠ gb279 := Kd.own_blk (Kd.R_ne HO_8.out BK279.out (by decide)); replace hx283_0 := (cell_far (p := ⟨gb279, 0, none⟩) (by first | (rw [add_block]; exact hn283_0) | (show (Addr.add _ _).block ≠ _; rw [add_block]; exact hn283_0) | exact hn283_0) (.string ((rd_T44 l1 x53_4).f0))).trans hx283_0; replace hx283_0 := (cell_far (p := ⟨gb279, 1, none⟩) (by first | (rw [add_block]; exact hn283_1) | (show (Addr.add _ _).block ≠ _; rw [add_block]; exact hn283_1) | exact hn283_1) (.int .i64 ((rd_T44 l1 x53_4).f1))).trans hx283_0; replace hx283_0 := (cell_far (p := ⟨gb279, 2, none⟩) (by first | (rw [add_block]; exact hn283_2) | (show (Addr.add _ _).block ≠ _; rw [add_block]; exact hn283_2) | exact hn283_2) (.int .i64 ((rd_T44 l1 x53_4).f2))).trans hx283_0; replace hx283_0 := (cell_far (p := ⟨gb279, 3, none⟩) (by first | (rw [add_block]; exact hn283_3) | (show (Addr.add _ _).block ≠ _; rw [add_block]; exact hn283_3) | exact hn283_3) (.int .i64 ((rd_T44 l1 x53_4).f3))).trans hx283_0; (try have hy283_0 := fun (n_ : Nat) => (show ((((((w31.drewN n_).setCell ⟨gb279, 0, none⟩ (.string ((rd_T44 l1 x53_4).f0))).setCell ⟨gb279, 1, none⟩ (.int .i64 ((rd_T44 l1 x53_4).f1))).setCell ⟨gb279, 2, none⟩ (.int .i64 ((rd_T44 l1 x53_4).f2))).setCell ⟨gb279, 3, none⟩ (.int .i64 ((rd_T44 l1 x53_4).f3)))).cell? _ = some _ from hx283_0)); clear hn283_0; clear hn283_1; clear hn283_2; clear hn283_3; replace p283 := eq_true p283; replace q283 := eq_true q283)); try go_wp2_with (first | ((with_reducible refine gate_dst (N := 14) rfl ?_); refine box_event ?hg (N := 14) ?hd (cs := #[.string (⟨#[]⟩ : ByteArray), .int .i64 0, .int .i64 0, .int .i64 0]) (t := 44) ?hr ?_; (case hd => rfl); (case hg => rfl); (case hr => first | (go_simp; done) | (go_simp; rfl)); intro gb279 hg w31 hbox hb; have n0_ := Aside0.mk (Kd.R_below (by (with_reducible repeat (first | apply Kd.R_alloc | apply Kd.R_drewN | apply Kd.R_drew)); exact HO_8.out) hb); have n1_ := Aside0.mk (below_step (by repeat (first | (with_reducible first | exact HB.out | apply below_alloc | apply pw_below_drewN | apply below_drew1) | exact HB.out)) hb); have n2_ := Aside0.mk (hbox); have n3_ := Aside0.mk ((by rw [hg]; exact (below_size (by repeat (first | (with_reducible first | exact HB.out | apply below_alloc | apply pw_below_drewN | apply below_drew1) | exact HB.out))) : w.heap.size ≤ gb279)); have n4_ := Aside0.mk ((by rw [hg]; exact (below_size (by repeat (first | (with_reducible first | exact HB.out | apply below_alloc | apply pw_below_drewN | apply below_drew1) | exact HB.out))) : w.heap.size ≤ gb279)); clear HO_8; clear HB; have HO_8 := n0_; have HB := n1_; have BK279 := n2_; have GW279 := n3_; have GE279 := n4_; clear n0_ n1_ n2_ n3_ n4_; clear hb hbox hg; have hcz32_0 : w31.cell? ⟨gb279, 0, none⟩ = some (.string (⟨#[]⟩ : ByteArray)) := (blk_cell BK279.out 0).trans rfl; have hcz32_1 : w31.cell? ⟨gb279, 1, none⟩ = some (.int .i64 0) := (blk_cell BK279.out 1).trans rfl; have hcz32_2 : w31.cell? ⟨gb279, 2, none⟩ = some (.int .i64 0) := (blk_cell BK279.out 2).trans rfl; have hcz32_3 : w31.cell? ⟨gb279, 3, none⟩ = some (.int .i64 0) := (blk_cell BK279.out 3).trans rfl; have hfz32_0 := blk_frozen BK279.out 0; have hfz32_1 := blk_frozen BK279.out 1; have hfz32_2 := blk_frozen BK279.out 2; have hfz32_3 := blk_frozen BK279.out 3; obtain ⟨Ao33, co33, eo33⟩ := Kd.R_slice HO_8.out; subst eo33; have p280 : 0 ≤ (x53_4 : Int) := of_decide_eq_true (by first | (with_reducible assumption) | assumption); have q280 : x53_4 < (x8_3.length : Int) := of_decide_eq_true (by first | (with_reducible assumption) | assumption); obtain ⟨ad280, e280, hx280_0⟩ := Kd.at_int (Kd.R_reads' HO_8.out).2.2 x53_4 p280 q280; cases e280; have hn280_0 : ad280.block ≠ gb279 := Kd.own_blk (Kd.R_ne HO_8.out BK279.out (by decide)); have hn280_1 : ad280.block ≠ gb279 := Kd.own_blk (Kd.R_ne HO_8.out BK279.out (by decide)); have hn280_2 : ad280.block ≠ gb279 := Kd.own_blk (Kd.R_ne HO_8.out BK279.out (by decide)); have hn280_3 : ad280.block ≠ gb279 := Kd.own_blk (Kd.R_ne HO_8.out BK279.out (by decide)); replace hx280_0 := (cell_far (p := ⟨gb279, 0, none⟩) (by first | (rw [add_block]; exact hn280_0) | (show (Addr.add _ _).block ≠ _; rw [add_block]; exact hn280_0) | exact hn280_0) (.string ((rd_T44 l1 x53_4).f0))).trans hx280_0; replace hx280_0 := (cell_far (p := ⟨gb279, 1, none⟩) (by first | (rw [add_block]; exact hn280_1) | (show (Addr.add _ _).block ≠ _; rw [add_block]; exact hn280_1) | exact hn280_1) (.int .i64 ((rd_T44 l1 x53_4).f1))).trans hx280_0; replace hx280_0 := (cell_far (p := ⟨gb279, 2, none⟩) (by first | (rw [add_block]; exact hn280_2) | (show (Addr.add _ _).block ≠ _; rw [add_block]; exact hn280_2) | exact hn280_2) (.int .i64 ((rd_T44 l1 x53_4).f2))).trans hx280_0; replace hx280_0 := (cell_far (p := ⟨gb279, 3, none⟩) (by first | (rw [add_block]; exact hn280_3) | (show (Addr.add _ _).block ≠ _; rw [add_block]; exact hn280_3) | exact hn280_3) (.int .i64 ((rd_T44 l1 x53_4).f3))).trans hx280_0; (try have hy280_0 := fun (n_ : Nat) => (show ((((((w31.drewN n_).setCell ⟨gb279, 0, none⟩ (.string ((rd_T44 l1 x53_4).f0))).setCell ⟨gb279, 1, none⟩ (.int .i64 ((rd_T44 l1 x53_4).f1))).setCell ⟨gb279, 2, none⟩ (.int .i64 ((rd_T44 l1 x53_4).f2))).setCell ⟨gb279, 3, none⟩ (.int .i64 ((rd_T44 l1 x53_4).f3)))).cell? _ = some _ from hx280_0)); clear hn280_0; clear hn280_1; clear hn280_2; clear hn280_3; replace p280 := eq_true p280; replace q280 := eq_true q280; have p281 : 0 ≤ (x53_4 : Int) := of_decide_eq_true (by first | (with_reducible assumption) | assumption); have q281 : x53_4 < (x8_3.length : Int) := of_decide_eq_true (by first | (with_reducible assumption) | assumption); obtain ⟨ad281, e281, hx281_0⟩ := Kd.at_int (Kd.R_reads' HO_8.out).2.2 x53_4 p281 q281; obtain rfl : ad280 = ad281 := (by injection e281); have hn281_0 : ad280.block ≠ gb279 := Kd.own_blk (Kd.R_ne HO_8.out BK279.out (by decide)); have hn281_1 : ad280.block ≠ gb279 := Kd.own_blk (Kd.R_ne HO_8.out BK279.out (by decide)); have hn281_2 : ad280.block ≠ gb279 := Kd.own_blk (Kd.R_ne HO_8.out BK279.out (by decide)); have hn281_3 : ad280.block ≠ gb279 := Kd.own_blk (Kd.R_ne HO_8.out BK279.out (by decide)); replace hx281_0 := (cell_far (p := ⟨gb279, 0, none⟩) (by first | (rw [add_block]; exact hn281_0) | (show (Addr.add _ _).block ≠ _; rw [add_block]; exact hn281_0) | exact hn281_0) (.string ((rd_T44 l1 x53_4).f0))).trans hx281_0; replace hx281_0 := (cell_far (p := ⟨gb279, 1, none⟩) (by first | (rw [add_block]; exact hn281_1) | (show (Addr.add _ _).block ≠ _; rw [add_block]; exact hn281_1) | exact hn281_1) (.int .i64 ((rd_T44 l1 x53_4).f1))).trans hx281_0; replace hx281_0 := (cell_far (p := ⟨gb279, 2, none⟩) (by first | (rw [add_block]; exact hn281_2) | (show (Addr.add _ _).block ≠ _; rw [add_block]; exact hn281_2) | exact hn281_2) (.int .i64 ((rd_T44 l1 x53_4).f2))).trans hx281_0; replace hx281_0 := (cell_far (p := ⟨gb279, 3, none⟩) (by first | (rw [add_block]; exact hn281_3) | (show (Addr.add _ _).block ≠ _; rw [add_block]; exact hn281_3) | exact hn281_3) (.int .i64 ((rd_T44 l1 x53_4).f3))).trans hx281_0; (try have hy281_0 := fun (n_ : Nat) => (show ((((((w31.drewN n_).setCell ⟨gb279, 0, none⟩ (.string ((rd_T44 l1 x53_4).f0))).setCell ⟨gb279, 1, none⟩ (.int .i64 ((rd_T44 l1 x53_4).f1))).setCell ⟨gb279, 2, none⟩ (.int .i64 ((rd_T44 l1 x53_4).f2))).setCell ⟨gb279, 3, none⟩ (.int .i64 ((rd_T44 l1 x53_4).f3)))).cell? _ = some _ from hx281_0)); clear hn281_0; clear hn281_1; clear hn281_2; clear hn281_3; replace p281 := eq_true p281; replace q281 := eq_true q281; have p282 : 0 ≤ (x12_4 : Int) := of_decide_eq_true (by first | (with_reducible assumption) | assumption); have q282 : x12_4 < (l1.length : Int) := of_decide_eq_true (by first | (with_reducible assumption) | assumption); obtain ⟨ad282, e282, hx282_0, hx282_1, hx282_2, hx282_3⟩ := at_T44 HR1.out x12_4 p282 q282; obtain rfl : ad278 = ad282 := (by injection e282); have hn282_0 : ad278.block ≠ gb279 := Nat.ne_of_lt (Nat.lt_of_lt_of_le (by have := World.block_lt_of_cell? _ _ hx282_0; first | rwa [add_block] at this | exact this) GW279.out); have hn282_1 : ad278.block ≠ gb279 := Nat.ne_of_lt (Nat.lt_of_lt_of_le (by have := World.block_lt_of_cell? _ _ hx282_0; first | rwa [add_block] at this | exact this) GW279.out); have hn282_2 : ad278.block ≠ gb279 := Nat.ne_of_lt (Nat.lt_of_lt_of_le (by have := World.block_lt_of_cell? _ _ hx282_0; first | rwa [add_block] at this | exact this) GW279.out); have hn282_3 : ad278.block ≠ gb279 := Nat.ne_of_lt (Nat.lt_of_lt_of_le (by have := World.block_lt_of_cell? _ _ hx282_0; first | rwa [add_block] at this | exact this) GW279.out); replace hx282_0 := (HB.out.cell (World.block_lt_of_cell? w _ hx282_0)).trans hx282_0; replace hx282_1 := (HB.out.cell (World.block_lt_of_cell? w _ hx282_1)).trans hx282_1; replace hx282_2 := (HB.out.cell (World.block_lt_of_cell? w _ hx282_2)).trans hx282_2; replace hx282_3 := (HB.out.cell (World.block_lt_of_cell? w _ hx282_3)).trans hx282_3; replace hx282_0 := (cell_far (p := ⟨gb279, 0, none⟩) (by first | (rw [add_block]; exact hn282_0) | (show (Addr.add _ _).block ≠ _; rw [add_block]; exact hn282_0) | exact hn282_0) (.string ((rd_T44 l1 x53_4).f0))).trans hx282_0; replace hx282_1 := (cell_far (p := ⟨gb279, 0, none⟩) (by first | (rw [add_block]; exact hn282_0) | (show (Addr.add _ _).block ≠ _; rw [add_block]; exact hn282_0) | exact hn282_0) (.string ((rd_T44 l1 x53_4).f0))).trans hx282_1; replace hx282_2 := (cell_far (p := ⟨gb279, 0, none⟩) (by first | (rw [add_block]; exact hn282_0) | (show (Addr.add _ _).block ≠ _; rw [add_block]; exact hn282_0) | exact hn282_0) (.string ((rd_T44 l1 x53_4).f0))).trans hx282_2; replace hx282_3 := (cell_far (p := ⟨gb279, 0, none⟩) (by first | (rw [add_block]; exact hn282_0) | (show (Addr.add _ _).block ≠ _; rw [add_block]; exact hn282_0) | exact hn282_0) (.string ((rd_T44 l1 x53_4).f0))).trans hx282_3; replace hx282_0 := (cell_far (p := ⟨gb279, 1, none⟩) (by first | (rw [add_block]; exact hn282_1) | (show (Addr.add _ _).block ≠ _; rw [add_block]; exact hn282_1) | exact hn282_1) (.int .i64 ((rd_T44 l1 x53_4).f1))).trans hx282_0; replace hx282_1 := (cell_far (p := ⟨gb279, 1, none⟩) (by first | (rw [add_block]; exact hn282_1) | (show (Addr.add _ _).block ≠ _; rw [add_block]; exact hn282_1) | exact hn282_1) (.int .i64 ((rd_T44 l1 x53_4).f1))).trans hx282_1; replace hx282_2 := (cell_far (p := ⟨gb279, 1, none⟩) (by first | (rw [add_block]; exact hn282_1) | (show (Addr.add _ _).block ≠ _; rw [add_block]; exact hn282_1) | exact hn282_1) (.int .i64 ((rd_T44 l1 x53_4).f1))).trans hx282_2; replace hx282_3 := (cell_far (p := ⟨gb279, 1, none⟩) (by first | (rw [add_block]; exact hn282_1) | (show (Addr.add _ _).block ≠ _; rw [add_block]; exact hn282_1) | exact hn282_1) (.int .i64 ((rd_T44 l1 x53_4).f1))).trans hx282_3; replace hx282_0 := (cell_far (p := ⟨gb279, 2, none⟩) (by first | (rw [add_block]; exact hn282_2) | (show (Addr.add _ _).block ≠ _; rw [add_block]; exact hn282_2) | exact hn282_2) (.int .i64 ((rd_T44 l1 x53_4).f2))).trans hx282_0; replace hx282_1 := (cell_far (p := ⟨gb279, 2, none⟩) (by first | (rw [add_block]; exact hn282_2) | (show (Addr.add _ _).block ≠ _; rw [add_block]; exact hn282_2) | exact hn282_2) (.int .i64 ((rd_T44 l1 x53_4).f2))).trans hx282_1; replace hx282_2 := (cell_far (p := ⟨gb279, 2, none⟩) (by first | (rw [add_block]; exact hn282_2) | (show (Addr.add _ _).block ≠ _; rw [add_block]; exact hn282_2) | exact hn282_2) (.int .i64 ((rd_T44 l1 x53_4).f2))).trans hx282_2; replace hx282_3 := (cell_far (p := ⟨gb279, 2, none⟩) (by first | (rw [add_block]; exact hn282_2) | (show (Addr.add _ _).block ≠ _; rw [add_block]; exact hn282_2) | exact hn282_2) (.int .i64 ((rd_T44 l1 x53_4).f2))).trans hx282_3; replace hx282_0 := (cell_far (p := ⟨gb279, 3, none⟩) (by first | (rw [add_block]; exact hn282_3) | (show (Addr.add _ _).block ≠ _; rw [add_block]; exact hn282_3) | exact hn282_3) (.int .i64 ((rd_T44 l1 x53_4).f3))).trans hx282_0; replace hx282_1 := (cell_far (p := ⟨gb279, 3, none⟩) (by first | (rw [add_block]; exact hn282_3) | (show (Addr.add _ _).block ≠ _; rw [add_block]; exact hn282_3) | exact hn282_3) (.int .i64 ((rd_T44 l1 x53_4).f3))).trans hx282_1; replace hx282_2 := (cell_far (p := ⟨gb279, 3, none⟩) (by first | (rw [add_block]; exact hn282_3) | (show (Addr.add _ _).block ≠ _; rw [add_block]; exact hn282_3) | exact hn282_3) (.int .i64 ((rd_T44 l1 x53_4).f3))).trans hx282_2; replace hx282_3 := (cell_far (p := ⟨gb279, 3, none⟩) (by first | (rw [add_block]; exact hn282_3) | (show (Addr.add _ _).block ≠ _; rw [add_block]; exact hn282_3) | exact hn282_3) (.int .i64 ((rd_T44 l1 x53_4).f3))).trans hx282_3; (try have hy282_0 := fun (n_ : Nat) => (show ((((((w31.drewN n_).setCell ⟨gb279, 0, none⟩ (.string ((rd_T44 l1 x53_4).f0))).setCell ⟨gb279, 1, none⟩ (.int .i64 ((rd_T44 l1 x53_4).f1))).setCell ⟨gb279, 2, none⟩ (.int .i64 ((rd_T44 l1 x53_4).f2))).setCell ⟨gb279, 3, none⟩ (.int .i64 ((rd_T44 l1 x53_4).f3)))).cell? _ = some _ from hx282_0)); (try have hy282_1 := fun (n_ : Nat) => (show ((((((w31.drewN n_).setCell ⟨gb279, 0, none⟩ (.string ((rd_T44 l1 x53_4).f0))).setCell ⟨gb279, 1, none⟩ (.int .i64 ((rd_T44 l1 x53_4).f1))).setCell ⟨gb279, 2, none⟩ (.int .i64 ((rd_T44 l1 x53_4).f2))).setCell ⟨gb279, 3, none⟩ (.int .i64 ((rd_T44 l1 x53_4).f3)))).cell? _ = some _ from hx282_1)); (try have hy282_2 := fun (n_ : Nat) => (show ((((((w31.drewN n_).setCell ⟨gb279, 0, none⟩ (.string ((rd_T44 l1 x53_4).f0))).setCell ⟨gb279, 1, none⟩ (.int .i64 ((rd_T44 l1 x53_4).f1))).setCell ⟨gb279, 2, none⟩ (.int .i64 ((rd_T44 l1 x53_4).f2))).setCell ⟨gb279, 3, none⟩ (.int .i64 ((rd_T44 l1 x53_4).f3)))).cell? _ = some _ from hx282_2)); (try have hy282_3 := fun (n_ : Nat) => (show ((((((w31.drewN n_).setCell ⟨gb279, 0, none⟩ (.string ((rd_T44 l1 x53_4).f0))).setCell ⟨gb279, 1, none⟩ (.int .i64 ((rd_T44 l1 x53_4).f1))).setCell ⟨gb279, 2, none⟩ (.int .i64 ((rd_T44 l1 x53_4).f2))).setCell ⟨gb279, 3, none⟩ (.int .i64 ((rd_T44 l1 x53_4).f3)))).cell? _ = some _ from hx282_3)); clear hn282_0; clear hn282_1; clear hn282_2; clear hn282_3; replace p282 := eq_true p282; replace q282 := eq_true q282; have p283 : 0 ≤ (x12_4 : Int) := of_decide_eq_true (by first | (with_reducible assumption) | assumption); have q283 : x12_4 < (x8_3.length : Int) := of_decide_eq_true (by first | (with_reducible assumption) | assumption); obtain ⟨ad283, e283, hx283_0⟩ := Kd.at_int (Kd.R_reads' HO_8.out).2.2 x12_4 p283 q283; obtain rfl : ad280 = ad283 := (by injection e283); have hn283_0 : ad280.block ≠ gb279 := Kd.own_blk (Kd.R_ne HO_8.out BK279.out (by decide)); have hn283_1 : ad280.block ≠ gb279 := Kd.own_blk (Kd.R_ne HO_8.out BK279.out (by decide)); have hn283_2 : ad280.block ≠ gb279 := Kd.own_blk (Kd.R_ne HO_8.out BK279.out (by decide)); have hn283_3 : ad280.block ≠ gb279 := Kd.own_blk (Kd.R_ne HO_8.out BK279.out (by decide)); replace hx283_0 := (cell_far (p := ⟨gb279, 0, none⟩) (by first | (rw [add_block]; exact hn283_0) | (show (Addr.add _ _).block ≠ _; rw [add_block]; exact hn283_0) | exact hn283_0) (.string ((rd_T44 l1 x53_4).f0))).trans hx283_0; replace hx283_0 := (cell_far (p := ⟨gb279, 1, none⟩) (by first | (rw [add_block]; exact hn283_1) | (show (Addr.add _ _).block ≠ _; rw [add_block]; exact hn283_1) | exact hn283_1) (.int .i64 ((rd_T44 l1 x53_4).f1))).trans hx283_0; replace hx283_0 := (cell_far (p := ⟨gb279, 2, none⟩) (by first | (rw [add_block]; exact hn283_2) | (show (Addr.add _ _).block ≠ _; rw [add_block]; exact hn283_2) | exact hn283_2) (.int .i64 ((rd_T44 l1 x53_4).f2))).trans hx283_0; replace hx283_0 := (cell_far (p := ⟨gb279, 3, none⟩) (by first | (rw [add_block]; exact hn283_3) | (show (Addr.add _ _).block ≠ _; rw [add_block]; exact hn283_3) | exact hn283_3) (.int .i64 ((rd_T44 l1 x53_4).f3))).trans hx283_0; (try have hy283_0 := fun (n_ : Nat) => (show ((((((w31.drewN n_).setCell ⟨gb279, 0, none⟩ (.string ((rd_T44 l1 x53_4).f0))).setCell ⟨gb279, 1, none⟩ (.int .i64 ((rd_T44 l1 x53_4).f1))).setCell ⟨gb279, 2, none⟩ (.int .i64 ((rd_T44 l1 x53_4).f2))).setCell ⟨gb279, 3, none⟩ (.int .i64 ((rd_T44 l1 x53_4).f3)))).cell? _ = some _ from hx283_0)); clear hn283_0; clear hn283_1; clear hn283_2; clear hn283_3; replace p283 := eq_true p283; replace q283 := eq_true q283)))
                      go_roundg k4
                      case measure => have := HJ3.out; have := HK2.out; have := HK3.out; have := HK4.out; omega
                      case rel => exact ⟨(x53_4), (wrap64 (x53_4 + 1)), (by first | rfl | (simp; done) | (simp [*]; done)), (by first | rfl | (simp; done) | (simp [*]; done)), H', ⟨by have := HJ3.out; have := HK2.out; have := HK3.out; have := HK4.out; omega⟩, ⟨by (with_reducible repeat (first | apply Kd.R_alloc | apply Kd.R_drewN | apply Kd.R_drew)); exact Kd.R_mono (Kd.R_far (p := ⟨gb279, 3, none⟩) (Kd.R_far (p := ⟨gb279, 2, none⟩) (Kd.R_far (p := ⟨gb279, 1, none⟩) (Kd.R_far (p := ⟨gb279, 0, none⟩) (Kd.R_types HO_8.out BK279.out (by decide)) (fun _ hk => hk.2) (.string ((rd_T44 l1 x53_4).f0))) (fun _ hk => hk.2) (.int .i64 ((rd_T44 l1 x53_4).f1))) (fun _ hk => hk.2) (.int .i64 ((rd_T44 l1 x53_4).f2))) (fun _ hk => hk.2) (.int .i64 ((rd_T44 l1 x53_4).f3))) (fun _ hk => trivial)⟩, ⟨by repeat (first | (with_reducible first | exact HB.out | apply below_alloc | apply pw_below_drewN | apply below_drew1 | refine below_set ?_ GE279.out) | exact HB.out)⟩⟩
                     ·
                      rw [if_neg c30] at H
                      have c30b0 : decide ((wrap64 ((rd x8_3 x53_4) * ((rd_T44 l1 x12_4).f3))) < (wrap64 ((rd x8_3 x12_4) * ((rd_T44 l1 x53_4).f3)))) = false := decide_eq_false c30
                      clear c30
                      have H' := Aside0.mk H
                      clear H
                      have p278 : 0 ≤ (x53_4 : Int) := of_decide_eq_true (by first | (with_reducible assumption) | assumption)
                      have q278 : x53_4 < (l1.length : Int) := of_decide_eq_true (by first | (with_reducible assumption) | assumption)
                      obtain ⟨ad278, e278, hx278_0, hx278_1, hx278_2, hx278_3⟩ := at_T44 HR1.out x53_4 p278 q278
                      cases e278
                      replace hx278_0 := (HB.out.cell (World.block_lt_of_cell? w _ hx278_0)).trans hx278_0
                      replace hx278_1 := (HB.out.cell (World.block_lt_of_cell? w _ hx278_1)).trans hx278_1
                      replace hx278_2 := (HB.out.cell (World.block_lt_of_cell? w _ hx278_2)).trans hx278_2
                      replace hx278_3 := (HB.out.cell (World.block_lt_of_cell? w _ hx278_3)).trans hx278_3
                      replace p278 := eq_true p278
                      replace q278 := eq_true q278
                      go_wp2_with (first | ((with_reducible refine gate_dst (N := 14) rfl ?_); refine box_event ?hg (N := 14) ?hd (cs := #[.string (⟨#[]⟩ : ByteArray), .int .i64 0, .int .i64 0, .int .i64 0]) (t := 44) ?hr ?_; (case hd => rfl); (case hg => rfl); (case hr => first | (go_simp; done) | (go_simp; rfl)); intro gb279 hg w34 hbox hb; have n0_ := Aside0.mk (Kd.R_below (by (with_reducible repeat (first | apply Kd.R_alloc | apply Kd.R_drewN | apply Kd.R_drew)); exact HO_8.out) hb); have n1_ := Aside0.mk (below_step (by repeat (first | (with_reducible first | exact HB.out | apply below_alloc | apply pw_below_drewN | apply below_drew1) | exact HB.out)) hb); have n2_ := Aside0.mk (hbox); have n3_ := Aside0.mk ((by rw [hg]; exact (below_size (by repeat (first | (with_reducible first | exact HB.out | apply below_alloc | apply pw_below_drewN | apply below_drew1) | exact HB.out))) : w.heap.size ≤ gb279)); have n4_ := Aside0.mk ((by rw [hg]; exact (below_size (by repeat (first | (with_reducible first | exact HB.out | apply below_alloc | apply pw_below_drewN | apply below_drew1) | exact HB.out))) : w.heap.size ≤ gb279)); clear HO_8; clear HB; have HO_8 := n0_; have HB := n1_; have BK279 := n2_; have GW279 := n3_; have GE279 := n4_; clear n0_ n1_ n2_ n3_ n4_; clear hb hbox hg; have hcz35_0 : w34.cell? ⟨gb279, 0, none⟩ = some (.string (⟨#[]⟩ : ByteArray)) := (blk_cell BK279.out 0).trans rfl; have hcz35_1 : w34.cell? ⟨gb279, 1, none⟩ = some (.int .i64 0) := (blk_cell BK279.out 1).trans rfl; have hcz35_2 : w34.cell? ⟨gb279, 2, none⟩ = some (.int .i64 0) := (blk_cell BK279.out 2).trans rfl; have hcz35_3 : w34.cell? ⟨gb279, 3, none⟩ = some (.int .i64 0) := (blk_cell BK279.out 3).trans rfl; have hfz35_0 := blk_frozen BK279.out 0; have hfz35_1 := blk_frozen BK279.out 1; have hfz35_2 := blk_frozen BK279.out 2; have hfz35_3 := blk_frozen BK279.out 3; obtain ⟨Ao36, co36, eo36⟩ := Kd.R_slice HO_8.out; subst eo36; have p280 : 0 ≤ (x53_4 : Int) := of_decide_eq_true (by first | (with_reducible assumption) | assumption); have q280 : x53_4 < (x8_3.length : Int) := of_decide_eq_true (by first | (with_reducible assumption) | assumption); obtain ⟨ad280, e280, hx280_0⟩ := Kd.at_int (Kd.R_reads' HO_8.out).2.2 x53_4 p280 q280; cases e280; have hn280_0 : ad280.block ≠ gb279 := Kd.own_blk (Kd.R_ne HO_8.out BK279.out (by decide)); have hn280_1 : ad280.block ≠ gb279 := Kd.own_blk (Kd.R_ne HO_8.out BK279.out (by decide)); have hn280_2 : ad280.block ≠ gb279 := Kd.own_blk (Kd.R_ne HO_8.out BK279.out (by decide)); have hn280_3 : ad280.block ≠ gb279 := Kd.own_blk (Kd.R_ne HO_8.out BK279.out (by decide)); replace hx280_0 := (cell_far (p := ⟨gb279, 0, none⟩) (by first | (rw [add_block]; exact hn280_0) | (show (Addr.add _ _).block ≠ _; rw [add_block]; exact hn280_0) | exact hn280_0) (.string ((rd_T44 l1 x53_4).f0))).trans hx280_0; replace hx280_0 := (cell_far (p := ⟨gb279, 1, none⟩) (by first | (rw [add_block]; exact hn280_1) | (show (Addr.add _ _).block ≠ _; rw [add_block]; exact hn280_1) | exact hn280_1) (.int .i64 ((rd_T44 l1 x53_4).f1))).trans hx280_0; replace hx280_0 := (cell_far (p := ⟨gb279, 2, none⟩) (by first | (rw [add_block]; exact hn280_2) | (show (Addr.add _ _).block ≠ _; rw [add_block]; exact hn280_2) | exact hn280_2) (.int .i64 ((rd_T44 l1 x53_4).f2))).trans hx280_0; replace hx280_0 := (cell_far (p := ⟨gb279, 3, none⟩) (by first | (rw [add_block]; exact hn280_3) | (show (Addr.add _ _).block ≠ _; rw [add_block]; exact hn280_3) | exact hn280_3) (.int .i64 ((rd_T44 l1 x53_4).f3))).trans hx280_0; (try have hy280_0 := fun (n_ : Nat) => (show ((((((w34.drewN n_).setCell ⟨gb279, 0, none⟩ (.string ((rd_T44 l1 x53_4).f0))).setCell ⟨gb279, 1, none⟩ (.int .i64 ((rd_T44 l1 x53_4).f1))).setCell ⟨gb279, 2, none⟩ (.int .i64 ((rd_T44 l1 x53_4).f2))).setCell ⟨gb279, 3, none⟩ (.int .i64 ((rd_T44 l1 x53_4).f3)))).cell? _ = some _ from hx280_0)); clear hn280_0; clear hn280_1; clear hn280_2; clear hn280_3; replace p280 := eq_true p280; replace q280 := eq_true q280; have p281 : 0 ≤ (x53_4 : Int) := of_decide_eq_true (by first | (with_reducible assumption) | assumption); have q281 : x53_4 < (x8_3.length : Int) := of_decide_eq_true (by first | (with_reducible assumption) | assumption); obtain ⟨ad281, e281, hx281_0⟩ := Kd.at_int (Kd.R_reads' HO_8.out).2.2 x53_4 p281 q281; obtain rfl : ad280 = ad281 := (by injection e281); have hn281_0 : ad280.block ≠ gb279 := Kd.own_blk (Kd.R_ne HO_8.out BK279.out (by decide)); have hn281_1 : ad280.block ≠ gb279 := Kd.own_blk (Kd.R_ne HO_8.out BK279.out (by decide)); have hn281_2 : ad280.block ≠ gb279 := Kd.own_blk (Kd.R_ne HO_8.out BK279.out (by decide)); have hn281_3 : ad280.block ≠ gb279 := Kd.own_blk (Kd.R_ne HO_8.out BK279.out (by decide)); replace hx281_0 := (cell_far (p := ⟨gb279, 0, none⟩) (by first | (rw [add_block]; exact hn281_0) | (show (Addr.add _ _).block ≠ _; rw [add_block]; exact hn281_0) | exact hn281_0) (.string ((rd_T44 l1 x53_4).f0))).trans hx281_0; replace hx281_0 := (cell_far (p := ⟨gb279, 1, none⟩) (by first | (rw [add_block]; exact hn281_1) | (show (Addr.add _ _).block ≠ _; rw [add_block]; exact hn281_1) | exact hn281_1) (.int .i64 ((rd_T44 l1 x53_4).f1))).trans hx281_0; replace hx281_0 := (cell_far (p := ⟨gb279, 2, none⟩) (by first | (rw [add_block]; exact hn281_2) | (show (Addr.add _ _).block ≠ _; rw [add_block]; exact hn281_2) | exact hn281_2) (.int .i64 ((rd_T44 l1 x53_4).f2))).trans hx281_0; replace hx281_0 := (cell_far (p := ⟨gb279, 3, none⟩) (by first | (rw [add_block]; exact hn281_3) | (show (Addr.add _ _).block ≠ _; rw [add_block]; exact hn281_3) | exact hn281_3) (.int .i64 ((rd_T44 l1 x53_4).f3))).trans hx281_0; (try have hy281_0 := fun (n_ : Nat) => (show ((((((w34.drewN n_).setCell ⟨gb279, 0, none⟩ (.string ((rd_T44 l1 x53_4).f0))).setCell ⟨gb279, 1, none⟩ (.int .i64 ((rd_T44 l1 x53_4).f1))).setCell ⟨gb279, 2, none⟩ (.int .i64 ((rd_T44 l1 x53_4).f2))).setCell ⟨gb279, 3, none⟩ (.int .i64 ((rd_T44 l1 x53_4).f3)))).cell? _ = some _ from hx281_0)); clear hn281_0; clear hn281_1; clear hn281_2; clear hn281_3; replace p281 := eq_true p281; replace q281 := eq_true q281; have p282 : 0 ≤ (x12_4 : Int) := of_decide_eq_true (by first | (with_reducible assumption) | assumption); have q282 : x12_4 < (l1.length : Int) := of_decide_eq_true (by first | (with_reducible assumption) | assumption); obtain ⟨ad282, e282, hx282_0, hx282_1, hx282_2, hx282_3⟩ := at_T44 HR1.out x12_4 p282 q282; obtain rfl : ad278 = ad282 := (by injection e282); have hn282_0 : ad278.block ≠ gb279 := Nat.ne_of_lt (Nat.lt_of_lt_of_le (by have := World.block_lt_of_cell? _ _ hx282_0; first | rwa [add_block] at this | exact this) GW279.out); have hn282_1 : ad278.block ≠ gb279 := Nat.ne_of_lt (Nat.lt_of_lt_of_le (by have := World.block_lt_of_cell? _ _ hx282_0; first | rwa [add_block] at this | exact this) GW279.out); have hn282_2 : ad278.block ≠ gb279 := Nat.ne_of_lt (Nat.lt_of_lt_of_le (by have := World.block_lt_of_cell? _ _ hx282_0; first | rwa [add_block] at this | exact this) GW279.out); have hn282_3 : ad278.block ≠ gb279 := Nat.ne_of_lt (Nat.lt_of_lt_of_le (by have := World.block_lt_of_cell? _ _ hx282_0; first | rwa [add_block] at this | exact this) GW279.out); replace hx282_0 := (HB.out.cell (World.block_lt_of_cell? w _ hx282_0)).trans hx282_0; replace hx282_1 := (HB.out.cell (World.block_lt_of_cell? w _ hx282_1)).trans hx282_1; replace hx282_2 := (HB.out.cell (World.block_lt_of_cell? w _ hx282_2)).trans hx282_2; replace hx282_3 := (HB.out.cell (World.block_lt_of_cell? w _ hx282_3)).trans hx282_3; replace hx282_0 := (cell_far (p := ⟨gb279, 0, none⟩) (by first | (rw [add_block]; exact hn282_0) | (show (Addr.add _ _).block ≠ _; rw [add_block]; exact hn282_0) | exact hn282_0) (.string ((rd_T44 l1 x53_4).f0))).trans hx282_0; replace hx282_1 := (cell_far (p := ⟨gb279, 0, none⟩) (by first | (rw [add_block]; exact hn282_0) | (show (Addr.add _ _).block ≠ _; rw [add_block]; exact hn282_0) | exact hn282_0) (.string ((rd_T44 l1 x53_4).f0))).trans hx282_1; replace hx282_2 := (cell_far (p := ⟨gb279, 0, none⟩) (by first | (rw [add_block]; exact hn282_0) | (show (Addr.add _ _).block ≠ _; rw [add_block]; exact hn282_0) | exact hn282_0) (.string ((rd_T44 l1 x53_4).f0))).trans hx282_2; replace hx282_3 := (cell_far (p := ⟨gb279, 0, none⟩) (by first | (rw [add_block]; exact hn282_0) | (show (Addr.add _ _).block ≠ _; rw [add_block]; exact hn282_0) | exact hn282_0) (.string ((rd_T44 l1 x53_4).f0))).trans hx282_3; replace hx282_0 := (cell_far (p := ⟨gb279, 1, none⟩) (by first | (rw [add_block]; exact hn282_1) | (show (Addr.add _ _).block ≠ _; rw [add_block]; exact hn282_1) | exact hn282_1) (.int .i64 ((rd_T44 l1 x53_4).f1))).trans hx282_0; replace hx282_1 := (cell_far (p := ⟨gb279, 1, none⟩) (by first | (rw [add_block]; exact hn282_1) | (show (Addr.add _ _).block ≠ _; rw [add_block]; exact hn282_1) | exact hn282_1) (.int .i64 ((rd_T44 l1 x53_4).f1))).trans hx282_1; replace hx282_2 := (cell_far (p := ⟨gb279, 1, none⟩) (by first | (rw [add_block]; exact hn282_1) | (show (Addr.add _ _).block ≠ _; rw [add_block]; exact hn282_1) | exact hn282_1) (.int .i64 ((rd_T44 l1 x53_4).f1))).trans hx282_2; replace hx282_3 := (cell_far (p := ⟨gb279, 1, none⟩) (by first | (rw [add_block]; exact hn282_1) | (show (Addr.add _ _).block ≠ _; rw [add_block]; exact hn282_1) | exact hn282_1) (.int .i64 ((rd_T44 l1 x53_4).f1))).trans hx282_3; replace hx282_0 := (cell_far (p := ⟨gb279, 2, none⟩) (by first | (rw [add_block]; exact hn282_2) | (show (Addr.add _ _).block ≠ _; rw [add_block]; exact hn282_2) | exact hn282_2) (.int .i64 ((rd_T44 l1 x53_4).f2))).trans hx282_0; replace hx282_1 := (cell_far (p := ⟨gb279, 2, none⟩) (by first | (rw [add_block]; exact hn282_2) | (show (Addr.add _ _).block ≠ _; rw [add_block]; exact hn282_2) | exact hn282_2) (.int .i64 ((rd_T44 l1 x53_4).f2))).trans hx282_1; replace hx282_2 := (cell_far (p := ⟨gb279, 2, none⟩) (by first | (rw [add_block]; exact hn282_2) | (show (Addr.add _ _).block ≠ _; rw [add_block]; exact hn282_2) | exact hn282_2) (.int .i64 ((rd_T44 l1 x53_4).f2))).trans hx282_2; replace hx282_3 := (cell_far (p := ⟨gb279, 2, none⟩) (by first | (rw [add_block]; exact hn282_2) | (show (Addr.add _ _).block ≠ _; rw [add_block]; exact hn282_2) | exact hn282_2) (.int .i64 ((rd_T44 l1 x53_4).f2))).trans hx282_3; replace hx282_0 := (cell_far (p := ⟨gb279, 3, none⟩) (by first | (rw [add_block]; exact hn282_3) | (show (Addr.add _ _).block ≠ _; rw [add_block]; exact hn282_3) | exact hn282_3) (.int .i64 ((rd_T44 l1 x53_4).f3))).trans hx282_0; replace hx282_1 := (cell_far (p := ⟨gb279, 3, none⟩) (by first | (rw [add_block]; exact hn282_3) | (show (Addr.add _ _).block ≠ _; rw [add_block]; exact hn282_3) | exact hn282_3) (.int .i64 ((rd_T44 l1 x53_4).f3))).trans hx282_1; replace hx282_2 := (cell_far (p := ⟨gb279, 3, none⟩) (by first | (rw [add_block]; exact hn282_3) | (show (Addr.add _ _).block ≠ _; rw [add_block]; exact hn282_3) | exact hn282_3) (.int .i64 ((rd_T44 l1 x53_4).f3))).trans hx282_2; replace hx282_3 := (cell_far (p := ⟨gb279, 3, none⟩) (by first | (rw [add_block]; exact hn282_3) | (show (Addr.add _ _).block ≠ _; rw [add_block]; exact hn282_3) | exact hn282_3) (.int .i64 ((rd_T44 l1 x53_4).f3))).trans hx282_3; (try have hy282_0 := fun (n_ : Nat) => (show ((((((w34.drewN n_).setCell ⟨gb279, 0, none⟩ (.string ((rd_T44 l1 x53_4).f0))).setCell ⟨gb279, 1, none⟩ (.int .i64 ((rd_T44 l1 x53_4).f1))).setCell ⟨gb279, 2, none⟩ (.int .i64 ((rd_T44 l1 x53_4).f2))).setCell ⟨gb279, 3, none⟩ (.int .i64 ((rd_T44 l1 x53_4).f3)))).cell? _ = some _ from hx282_0)); (try have hy282_1 := fun (n_ : Nat) => (show ((((((w34.drewN n_).setCell ⟨gb279, 0, none⟩ (.string ((rd_T44 l1 x53_4).f0))).setCell ⟨gb279, 1, none⟩ (.int .i64 ((rd_T44 l1 x53_4).f1))).setCell ⟨gb279, 2, none⟩ (.int .i64 ((rd_T44 l1 x53_4).f2))).setCell ⟨gb279, 3, none⟩ (.int .i64 ((rd_T44 l1 x53_4).f3)))).cell? _ = some _ from hx282_1)); (try have hy282_2 := fun (n_ : Nat) => (show ((((((w34.drewN n_).setCell ⟨gb279, 0, none⟩ (.string ((rd_T44 l1 x53_4).f0))).setCell ⟨gb279, 1, none⟩ (.int .i64 ((rd_T44 l1 x53_4).f1))).setCell ⟨gb279, 2, none⟩ (.int .i64 ((rd_T44 l1 x53_4).f2))).setCell ⟨gb279, 3, none⟩ (.int .i64 ((rd_T44 l1 x53_4).f3)))).cell? _ = some _ from hx282_2)); (try have hy282_3 := fun (n_ : Nat) => (show ((((((w34.drewN n_).setCell ⟨gb279, 0, none⟩ (.string ((rd_T44 l1 x53_4).f0))).setCell ⟨gb279, 1, none⟩ (.int .i64 ((rd_T44 l1 x53_4).f1))).setCell ⟨gb279, 2, none⟩ (.int .i64 ((rd_T44 l1 x53_4).f2))).setCell ⟨gb279, 3, none⟩ (.int .i64 ((rd_T44 l1 x53_4).f3)))).cell? _ = some _ from hx282_3)); clear hn282_0; clear hn282_1; clear hn282_2; clear hn282_3; replace p282 := eq_true p282; replace q282 := eq_true q282; have p283 : 0 ≤ (x12_4 : Int) := of_decide_eq_true (by first | (with_reducible assumption) | assumption); have q283 : x12_4 < (x8_3.length : Int) := of_decide_eq_true (by first | (with_reducible assumption) | assumption); obtain ⟨ad283, e283, hx283_0⟩ := Kd.at_int (Kd.R_reads' HO_8.out).2.2 x12_4 p283 q283; obtain rfl : ad280 = ad283 := (by injection e283); have hn283_0 : ad280.block ≠ gb279 := Kd.own_blk (Kd.R_ne HO_8.out BK279.out (by decide)); have hn283_1 : ad280.block ≠ gb279 := Kd.own_blk (Kd.R_ne HO_8.out BK279.out (by decide)); have hn283_2 : ad280.block ≠ gb279 := Kd.own_blk (Kd.R_ne HO_8.out BK279.out (by decide)); have hn283_3 : ad280.block ≠ gb279 := Kd.own_blk (Kd.R_ne HO_8.out BK279.out (by decide)); replace hx283_0 := (cell_far (p := ⟨gb279, 0, none⟩) (by first | (rw [add_block]; exact hn283_0) | (show (Addr.add _ _).block ≠ _; rw [add_block]; exact hn283_0) | exact hn283_0) (.string ((rd_T44 l1 x53_4).f0))).trans hx283_0; replace hx283_0 := (cell_far (p := ⟨gb279, 1, none⟩) (by first | (rw [add_block]; exact hn283_1) | (show (Addr.add _ _).block ≠ _; rw [add_block]; exact hn283_1) | exact hn283_1) (.int .i64 ((rd_T44 l1 x53_4).f1))).trans hx283_0; replace hx283_0 := (cell_far (p := ⟨gb279, 2, none⟩) (by first | (rw [add_block]; exact hn283_2) | (show (Addr.add _ _).block ≠ _; rw [add_block]; exact hn283_2) | exact hn283_2) (.int .i64 ((rd_T44 l1 x53_4).f2))).trans hx283_0; replace hx283_0 := (cell_far (p := ⟨gb279, 3, none⟩) (by first | (rw [add_block]; exact hn283_3) | (show (Addr.add _ _).block ≠ _; rw [add_block]; exact hn283_3) | exact hn283_3) (.int .i64 ((rd_T44 l1 x53_4).f3))).trans hx283_0; (try have hy283_0 := fun (n_ : Nat) => (show ((((((w34.drewN n_).setCell ⟨gb279, 0, none⟩ (.string ((rd_T44 l1 x53_4).f0))).setCell ⟨gb279, 1, none⟩ (.int .i64 ((rd_T44 l1 x53_4).f1))).setCell ⟨gb279, 2, none⟩ (.int .i64 ((rd_T44 l1 x53_4).f2))).setCell ⟨gb279, 3, none⟩ (.int .i64 ((rd_T44 l1 x53_4).f3)))).cell? _ = some _ from hx283_0)); clear hn283_0; clear hn283_1; clear hn283_2; clear hn283_3; replace p283 := eq_true p283; replace q283 := eq_true q283))
                      repeat (go_quiet (first | ((with_reducible refine gate_dst (N := 14) rfl ?_); refine box_event ?hg (N := 14) ?hd (cs := #[.string (⟨#[]⟩ : ByteArray), .int .i64 0, .int .i64 0, .int .i64 0]) (t := 44) ?hr ?_; (case hd => rfl); (case hg => rfl); (case hr => first | (go_simp; done) | (go_simp; rfl)); intro gb279 hg w34 hbox hb; have n0_ := Aside0.mk (Kd.R_below (by (with_reducible repeat (first | apply Kd.R_alloc | apply Kd.R_drewN | apply Kd.R_drew)); exact HO_8.out) hb); have n1_ := Aside0.mk (below_step (by repeat (first | (with_reducible first | exact HB.out | apply below_alloc | apply pw_below_drewN | apply below_drew1) | exact HB.out)) hb); have n2_ := Aside0.mk (hbox); have n3_ := Aside0.mk ((by rw [hg]; exact (below_size (by repeat (first | (with_reducible first | exact HB.out | apply below_alloc | apply pw_below_drewN | apply below_drew1) | exact HB.out))) : w.heap.size ≤ gb279)); have n4_ := Aside0.mk ((by rw [hg]; exact (below_size (by repeat (first | (with_reducible first | exact HB.out | apply below_alloc | apply pw_below_drewN | apply below_drew1) | exact HB.out))) : w.heap.size ≤ gb279)); clear HO_8; clear HB; have HO_8 := n0_; have HB := n1_; have BK279 := n2_; have GW279 := n3_; have GE279 := n4_; clear n0_ n1_ n2_ n3_ n4_; clear hb hbox hg; have hcz35_0 : w34.cell? ⟨gb279, 0, none⟩ = some (.string (⟨#[]⟩ : ByteArray)) := (blk_cell BK279.out 0).trans rfl; have hcz35_1 : w34.cell? ⟨gb279, 1, none⟩ = some (.int .i64 0) := (blk_cell BK279.out 1).trans rfl; have hcz35_2 : w34.cell? ⟨gb279, 2, none⟩ = some (.int .i64 0) := (blk_cell BK279.out 2).trans rfl; have hcz35_3 : w34.cell? ⟨gb279, 3, none⟩ = some (.int .i64 0) := (blk_cell BK279.out 3).trans rfl; have hfz35_0 := blk_frozen BK279.out 0; have hfz35_1 := blk_frozen BK279.out 1; have hfz35_2 := blk_frozen BK279.out 2; have hfz35_3 := blk_frozen BK279.out 3; obtain ⟨Ao36, co36, eo36⟩ := Kd.R_slice HO_8.out; subst eo36; have p280 : 0 ≤ (x53_4 : Int) := of_decide_eq_true (by first | (with_reducible assumption) | assumption); have q280 : x53_4 < (x8_3.length : Int) := of_decide_eq_true (by first | (with_reducible assumption) | assumption); obtain ⟨ad280, e280, hx280_0⟩ := Kd.at_int (Kd.R_reads' HO_8.out).2.2 x53_4 p280 q280; cases e280; have hn280_0 : ad280.block ≠ gb279 := Kd.own_blk (Kd.R_ne HO_8.out BK279.out (by decide)); have hn280_1 : ad280.block ≠ gb279 := Kd.own_blk (Kd.R_ne HO_8.out BK279.out (by decide)); have hn280_2 : ad280.block ≠ gb279 := Kd.own_blk (Kd.R_ne HO_8.out BK279.out (by decide)); have hn280_3 : ad280.block ≠ gb279 := Kd.own_blk (Kd.R_ne HO_8.out BK279.out (by decide)); replace hx280_0 := (cell_far (p := ⟨gb279, 0, none⟩) (by first | (rw [add_block]; exact hn280_0) | (show (Addr.add _ _).block ≠ _; rw [add_block]; exact hn280_0) | exact hn280_0) (.string ((rd_T44 l1 x53_4).f0))).trans hx280_0; replace hx280_0 := (cell_far (p := ⟨gb279, 1, none⟩) (by first | (rw [add_block]; exact hn280_1) | (show (Addr.add _ _).block ≠ _; rw [add_block]; exact hn280_1) | exact hn280_1) (.int .i64 ((rd_T44 l1 x53_4).f1))).trans hx280_0; replace hx280_0 := (cell_far (p := ⟨gb279, 2, none⟩) (by first | (rw [add_block]; exact hn280_2) | (show (Addr.add _ _).block ≠ _; rw [add_block]; exact hn280_2) | exact hn280_2) (.int .i64 ((rd_T44 l1 x53_4).f2))).trans hx280_0; replace hx280_0 := (cell_far (p := ⟨gb279, 3, none⟩) (by first | (rw [add_block]; exact hn280_3) | (show (Addr.add _ _).block ≠ _; rw [add_block]; exact hn280_3) | exact hn280_3) (.int .i64 ((rd_T44 l1 x53_4).f3))).trans hx280_0; (try have hy280_0 := fun (n_ : Nat) => (show ((((((w34.drewN n_).setCell ⟨gb279, 0, none⟩ (.string ((rd_T44 l1 x53_4).f0))).setCell ⟨gb279, 1, none⟩ (.int .i64 ((rd_T44 l1 x53_4).f1))).setCell ⟨gb279, 2, none⟩ (.int .i64 ((rd_T44 l1 x53_4).f2))).setCell ⟨gb279, 3, none⟩ (.int .i64 ((rd_T44 l1 x53_4).f3)))).cell? _ = some _ from hx280_0)); clear hn280_0; clear hn280_1; clear hn280_2; clear hn280_3; replace p280 := eq_true p280; replace q280 := eq_true q280; have p281 : 0 ≤ (x53_4 : Int) := of_decide_eq_true (by first | (with_reducible assumption) | assumption); have q281 : x53_4 < (x8_3.length : Int) := of_decide_eq_true (by first | (with_reducible assumption) | assumption); obtain ⟨ad281, e281, hx281_0⟩ := Kd.at_int (Kd.R_reads' HO_8.out).2.2 x53_4 p281 q281; obtain rfl : ad280 = ad281 := (by injection e281); have hn281_0 : ad280.block ≠ gb279 := Kd.own_blk (Kd.R_ne HO_8.out BK279.out (by decide)); have hn281_1 : ad280.block ≠ gb279 := Kd.own_blk (Kd.R_ne HO_8.out BK279.out (by decide)); have hn281_2 : ad280.block ≠ gb279 := Kd.own_blk (Kd.R_ne HO_8.out BK279.out (by decide)); have hn281_3 : ad280.block ≠ gb279 := Kd.own_blk (Kd.R_ne HO_8.out BK279.out (by decide)); replace hx281_0 := (cell_far (p := ⟨gb279, 0, none⟩) (by first | (rw [add_block]; exact hn281_0) | (show (Addr.add _ _).block ≠ _; rw [add_block]; exact hn281_0) | exact hn281_0) (.string ((rd_T44 l1 x53_4).f0))).trans hx281_0; replace hx281_0 := (cell_far (p := ⟨gb279, 1, none⟩) (by first | (rw [add_block]; exact hn281_1) | (show (Addr.add _ _).block ≠ _; rw [add_block]; exact hn281_1) | exact hn281_1) (.int .i64 ((rd_T44 l1 x53_4).f1))).trans hx281_0; replace hx281_0 := (cell_far (p := ⟨gb279, 2, none⟩) (by first | (rw [add_block]; exact hn281_2) | (show (Addr.add _ _).block ≠ _; rw [add_block]; exact hn281_2) | exact hn281_2) (.int .i64 ((rd_T44 l1 x53_4).f2))).trans hx281_0; replace hx281_0 := (cell_far (p := ⟨gb279, 3, none⟩) (by first | (rw [add_block]; exact hn281_3) | (show (Addr.add _ _).block ≠ _; rw [add_block]; exact hn281_3) | exact hn281_3) (.int .i64 ((rd_T44 l1 x53_4).f3))).trans hx281_0; (try have hy281_0 := fun (n_ : Nat) => (show ((((((w34.drewN n_).setCell ⟨gb279, 0, none⟩ (.string ((rd_T44 l1 x53_4).f0))).setCell ⟨gb279, 1, none⟩ (.int .i64 ((rd_T44 l1 x53_4).f1))).setCell ⟨gb279, 2, none⟩ (.int .i64 ((rd_T44 l1 x53_4).f2))).setCell ⟨gb279, 3, none⟩ (.int .i64 ((rd_T44 l1 x53_4).f3)))).cell? _ = some _ from hx281_0)); clear hn281_0; clear hn281_1; clear hn281_2; clear hn281_3; replace p281 := eq_true p281; replace q281 := eq_true q281; have p282 : 0 ≤ (x12_4 : Int) := of_decide_eq_true (by first | (with_reducible assumption) | assumption); have q282 : x12_4 < (l1.length : Int) := of_decide_eq_true (by first | (with_reducible assumption) | assumption); obtain ⟨ad282, e282, hx282_0, hx282_1, hx282_2, hx282_3⟩ := at_T44 HR1.out x12_4 p282 q282; obtain rfl : ad278 = ad282 := (by injection e282); have hn282_0 : ad278.block ≠ gb279 := Nat.ne_of_lt (Nat.lt_of_lt_of_le (by have := World.block_lt_of_cell? _ _ hx282_0; first | rwa [add_block] at this | exact this) GW279.out); have hn282_1 : ad278.block ≠ gb279 := Nat.ne_of_lt (Nat.lt_of_lt_of_le (by have := World.block_lt_of_cell? _ _ hx282_0; first | rwa [add_block] at this | exact this) GW279.out); have hn282_2 : ad278.block ≠ gb279 := Nat.ne_of_lt (Nat.lt_of_lt_of_le (by have := World.block_lt_of_cell? _ _ hx282_0; first | rwa [add_block] at this | exact this) GW279.out); have hn282_3 : ad278.block ≠ gb279 := Nat.ne_of_lt (Nat.lt_of_lt_of_le (by have := World.block_lt_of_cell? _ _ hx282_0; first | rwa [add_block] at this | exact this) GW279.out); replace hx282_0 := (HB.out.cell (World.block_lt_of_cell? w _ hx282_0)).trans hx282_0; replace hx282_1 := (HB.out.cell (World.block_lt_of_cell? w _ hx282_1)).trans hx282_1; replace hx282_2 := (HB.out.cell (World.block_lt_of_cell? w _ hx282_2)).trans hx282_2; replace hx282_3 := (HB.out.cell (World.block_lt_of_cell? w _ hx282_3)).trans hx282_3; replace hx282_0 := (cell_far (p := ⟨gb279, 0, none⟩) (by first | (rw [add_block]; exact hn282_0) | (show (Addr.add _ _).block ≠ _; rw [add_block]; exact hn282_0) | exact hn282_0) (.string ((rd_T44 l1 x53_4).f0))).trans hx282_0; replace hx282_1 := (cell_far (p := ⟨gb279, 0, none⟩) (by first | (rw [add_block]; exact hn282_0) | (show (Addr.add _ _).block ≠ _; rw [add_block]; exact hn282_0) | exact hn282_0) (.string ((rd_T44 l1 x53_4).f0))).trans hx282_1; replace hx282_2 := (cell_far (p := ⟨gb279, 0, none⟩) (by first | (rw [add_block]; exact hn282_0) | (show (Addr.add _ _).block ≠ _; rw [add_block]; exact hn282_0) | exact hn282_0) (.string ((rd_T44 l1 x53_4).f0))).trans hx282_2; replace hx282_3 := (cell_far (p := ⟨gb279, 0, none⟩) (by first | (rw [add_block]; exact hn282_0) | (show (Addr.add _ _).block ≠ _; rw [add_block]; exact hn282_0) | exact hn282_0) (.string ((rd_T44 l1 x53_4).f0))).trans hx282_3; replace hx282_0 := (cell_far (p := ⟨gb279, 1, none⟩) (by first | (rw [add_block]; exact hn282_1) | (show (Addr.add _ _).block ≠ _; rw [add_block]; exact hn282_1) | exact hn282_1) (.int .i64 ((rd_T44 l1 x53_4).f1))).trans hx282_0; replace hx282_1 := (cell_far (p := ⟨gb279, 1, none⟩) (by first | (rw [add_block]; exact hn282_1) | (show (Addr.add _ _).block ≠ _; rw [add_block]; exact hn282_1) | exact hn282_1) (.int .i64 ((rd_T44 l1 x53_4).f1))).trans hx282_1; replace hx282_2 := (cell_far (p := ⟨gb279, 1, none⟩) (by first | (rw [add_block]; exact hn282_1) | (show (Addr.add _ _).block ≠ _; rw [add_block]; exact hn282_1) | exact hn282_1) (.int .i64 ((rd_T44 l1 x53_4).f1))).trans hx282_2; replace hx282_3 := (cell_far (p := ⟨gb279, 1, none⟩) (by first | (rw [add_block]; exact hn282_1) | (show (Addr.add _ _).block ≠ _; rw [add_block]; exact hn282_1) | exact hn282_1) (.int .i64 ((rd_T44 l1 x53_4).f1))).trans hx282_3; replace hx282_0 := (cell_far (p := ⟨gb279, 2, none⟩) (by first | (rw [add_block]; exact hn282_2) | (show (Addr.add _ _).block ≠ _; rw [add_block]; exact hn282_2) | exact hn282_2) (.int .i64 ((rd_T44 l1 x53_4).f2))).trans hx282_0; replace hx282_1 := (cell_far (p := ⟨gb279, 2, none⟩) (by first | (rw [add_block]; exact hn282_2) | (show (Addr.add _ _).block ≠ _; rw [add_block]; exact hn282_2) | exact hn282_2) (.int .i64 ((rd_T44 l1 x53_4).f2))).trans hx282_1; replace hx282_2 := (cell_far (p := ⟨gb279, 2, none⟩) (by first | (rw [add_block]; exact hn282_2) | (show (Addr.add _ _).block ≠ _; rw [add_block]; exact hn282_2) | exact hn282_2) (.int .i64 ((rd_T44 l1 x53_4).f2))).trans hx282_2; replace hx282_3 := (cell_far (p := ⟨gb279, 2, none⟩) (by first | (rw [add_block]; exact hn282_2) | (show (Addr.add _ _).block ≠ _; rw [add_block]; exact hn282_2) | exact hn282_2) (.int .i64 ((rd_T44 l1 x53_4).f2))).trans hx282_3; replace hx282_0 := (cell_far (p := ⟨gb279, 3, none⟩) (by first | (rw [add_block]; exact hn282_3) | (show (Addr.add _ _).block ≠ _; rw [add_block]; exact hn282_3) | exact hn282_3) (.int .i64 ((rd_T44 l1 x53_4).f3))).trans hx282_0; replace hx282_1 := (cell_far (p := ⟨gb279, 3, none⟩) (by first | (rw [add_block]; exact hn282_3) | (show (Addr.add _ _).block ≠ _; rw [add_block]; exact hn282_3) | exact hn282_3) (.int .i64 ((rd_T44 l1 x53_4).f3))).trans hx282_1; replace hx282_2 := (cell_far (p := ⟨gb279, 3, none⟩) (by first | (rw [add_block]; exact hn282_3) | (show (Addr.add _ _).block ≠ _; rw [add_block]; exact hn282_3) | exact hn282_3) (.int .i64 ((rd_T44 l1 x53_4).f3))).trans hx282_2; replace hx282_3 := (cell_far (p := ⟨gb279, 3, none⟩) (by first | (rw [add_block]; exact hn282_3) | (show (Addr.add _ _).block ≠ _; rw [add_block]; exact hn282_3) | exact hn282_3) (.int .i64 ((rd_T44 l1 x53_4).f3))).trans hx282_3; (try have hy282_0 := fun (n_ : Nat) => (show ((((((w34.drewN n_).setCell ⟨gb279, 0, none⟩ (.string ((rd_T44 l1 x53_4).f0))).setCell ⟨gb279, 1, none⟩ (.int .i64 ((rd_T44 l1 x53_4).f1))).setCell ⟨gb279, 2, none⟩ (.int .i64 ((rd_T44 l1 x53_4).f2))).setCell ⟨gb279, 3, none⟩ (.int .i64 ((rd_T44 l1 x53_4).f3)))).cell? _ = some _ from hx282_0)); (try have hy282_1 := fun (n_ : Nat) => (show ((((((w34.drewN n_).setCell ⟨gb279, 0, none⟩ (.string ((rd_T44 l1 x53_4).f0))).setCell ⟨gb279, 1, none⟩ (.int .i64 ((rd_T44 l1 x53_4).f1))).setCell ⟨gb279, 2, none⟩ (.int .i64 ((rd_T44 l1 x53_4).f2))).setCell ⟨gb279, 3, none⟩ (.int .i64 ((rd_T44 l1 x53_4).f3)))).cell? _ = some _ from hx282_1)); (try have hy282_2 := fun (n_ : Nat) => (show ((((((w34.drewN n_).setCell ⟨gb279, 0, none⟩ (.string ((rd_T44 l1 x53_4).f0))).setCell ⟨gb279, 1, none⟩ (.int .i64 ((rd_T44 l1 x53_4).f1))).setCell ⟨gb279, 2, none⟩ (.int .i64 ((rd_T44 l1 x53_4).f2))).setCell ⟨gb279, 3, none⟩ (.int .i64 ((rd_T44 l1 x53_4).f3)))).cell? _ = some _ from hx282_2)); (try have hy282_3 := fun (n_ : Nat) => (show ((((((w34.drewN n_).setCell ⟨gb279, 0, none⟩ (.string ((rd_T44 l1 x53_4).f0))).setCell ⟨gb279, 1, none⟩ (.int .i64 ((rd_T44 l1 x53_4).f1))).setCell ⟨gb279, 2, none⟩ (.int .i64 ((rd_T44 l1 x53_4).f2))).setCell ⟨gb279, 3, none⟩ (.int .i64 ((rd_T44 l1 x53_4).f3)))).cell? _ = some _ from hx282_3)); clear hn282_0; clear hn282_1; clear hn282_2; clear hn282_3; replace p282 := eq_true p282; replace q282 := eq_true q282; have p283 : 0 ≤ (x12_4 : Int) := of_decide_eq_true (by first | (with_reducible assumption) | assumption); have q283 : x12_4 < (x8_3.length : Int) := of_decide_eq_true (by first | (with_reducible assumption) | assumption); obtain ⟨ad283, e283, hx283_0⟩ := Kd.at_int (Kd.R_reads' HO_8.out).2.2 x12_4 p283 q283; obtain rfl : ad280 = ad283 := (by injection e283); have hn283_0 : ad280.block ≠ gb279 := Kd.own_blk (Kd.R_ne HO_8.out BK279.out (by decide)); have hn283_1 : ad280.block ≠ gb279 := Kd.own_blk (Kd.R_ne HO_8.out BK279.out (by decide)); have hn283_2 : ad280.block ≠ gb279 := Kd.own_blk (Kd.R_ne HO_8.out BK279.out (by decide)); have hn283_3 : ad280.block ≠ gb279 := Kd.own_blk (Kd.R_ne HO_8.out BK279.out (by decide)); replace hx283_0 := (cell_far (p := ⟨gb279, 0, none⟩) (by first | (rw [add_block]; exact hn283_0) | (show (Addr.add _ _).block ≠ _; rw [add_block]; exact hn283_0) | exact hn283_0) (.string ((rd_T44 l1 x53_4).f0))).trans hx283_0; replace hx283_0 := (cell_far (p := ⟨gb279, 1, none⟩) (by first | (rw [add_block]; exact hn283_1) | (show (Addr.add _ _).block ≠ _; rw [add_block]; exact hn283_1) | exact hn283_1) (.int .i64 ((rd_T44 l1 x53_4).f1))).trans hx283_0; replace hx283_0 := (cell_far (p := ⟨gb279, 2, none⟩) (by first | (rw [add_block]; exact hn283_2) | (show (Addr.add _ _).block ≠ _; rw [add_block]; exact hn283_2) | exact hn283_2) (.int .i64 ((rd_T44 l1 x53_4).f2))).trans hx283_0; replace hx283_0 := (cell_far (p := ⟨gb279, 3, none⟩) (by first | (rw [add_block]; exact hn283_3) | (show (Addr.add _ _).block ≠ _; rw [add_block]; exact hn283_3) | exact hn283_3) (.int .i64 ((rd_T44 l1 x53_4).f3))).trans hx283_0; (try have hy283_0 := fun (n_ : Nat) => (show ((((((w34.drewN n_).setCell ⟨gb279, 0, none⟩ (.string ((rd_T44 l1 x53_4).f0))).setCell ⟨gb279, 1, none⟩ (.int .i64 ((rd_T44 l1 x53_4).f1))).setCell ⟨gb279, 2, none⟩ (.int .i64 ((rd_T44 l1 x53_4).f2))).setCell ⟨gb279, 3, none⟩ (.int .i64 ((rd_T44 l1 x53_4).f3)))).cell? _ = some _ from hx283_0)); clear hn283_0; clear hn283_1; clear hn283_2; clear hn283_3; replace p283 := eq_true p283; replace q283 := eq_true q283)); try go_wp2_with (first | ((with_reducible refine gate_dst (N := 14) rfl ?_); refine box_event ?hg (N := 14) ?hd (cs := #[.string (⟨#[]⟩ : ByteArray), .int .i64 0, .int .i64 0, .int .i64 0]) (t := 44) ?hr ?_; (case hd => rfl); (case hg => rfl); (case hr => first | (go_simp; done) | (go_simp; rfl)); intro gb279 hg w34 hbox hb; have n0_ := Aside0.mk (Kd.R_below (by (with_reducible repeat (first | apply Kd.R_alloc | apply Kd.R_drewN | apply Kd.R_drew)); exact HO_8.out) hb); have n1_ := Aside0.mk (below_step (by repeat (first | (with_reducible first | exact HB.out | apply below_alloc | apply pw_below_drewN | apply below_drew1) | exact HB.out)) hb); have n2_ := Aside0.mk (hbox); have n3_ := Aside0.mk ((by rw [hg]; exact (below_size (by repeat (first | (with_reducible first | exact HB.out | apply below_alloc | apply pw_below_drewN | apply below_drew1) | exact HB.out))) : w.heap.size ≤ gb279)); have n4_ := Aside0.mk ((by rw [hg]; exact (below_size (by repeat (first | (with_reducible first | exact HB.out | apply below_alloc | apply pw_below_drewN | apply below_drew1) | exact HB.out))) : w.heap.size ≤ gb279)); clear HO_8; clear HB; have HO_8 := n0_; have HB := n1_; have BK279 := n2_; have GW279 := n3_; have GE279 := n4_; clear n0_ n1_ n2_ n3_ n4_; clear hb hbox hg; have hcz35_0 : w34.cell? ⟨gb279, 0, none⟩ = some (.string (⟨#[]⟩ : ByteArray)) := (blk_cell BK279.out 0).trans rfl; have hcz35_1 : w34.cell? ⟨gb279, 1, none⟩ = some (.int .i64 0) := (blk_cell BK279.out 1).trans rfl; have hcz35_2 : w34.cell? ⟨gb279, 2, none⟩ = some (.int .i64 0) := (blk_cell BK279.out 2).trans rfl; have hcz35_3 : w34.cell? ⟨gb279, 3, none⟩ = some (.int .i64 0) := (blk_cell BK279.out 3).trans rfl; have hfz35_0 := blk_frozen BK279.out 0; have hfz35_1 := blk_frozen BK279.out 1; have hfz35_2 := blk_frozen BK279.out 2; have hfz35_3 := blk_frozen BK279.out 3; obtain ⟨Ao36, co36, eo36⟩ := Kd.R_slice HO_8.out; subst eo36; have p280 : 0 ≤ (x53_4 : Int) := of_decide_eq_true (by first | (with_reducible assumption) | assumption); have q280 : x53_4 < (x8_3.length : Int) := of_decide_eq_true (by first | (with_reducible assumption) | assumption); obtain ⟨ad280, e280, hx280_0⟩ := Kd.at_int (Kd.R_reads' HO_8.out).2.2 x53_4 p280 q280; cases e280; have hn280_0 : ad280.block ≠ gb279 := Kd.own_blk (Kd.R_ne HO_8.out BK279.out (by decide)); have hn280_1 : ad280.block ≠ gb279 := Kd.own_blk (Kd.R_ne HO_8.out BK279.out (by decide)); have hn280_2 : ad280.block ≠ gb279 := Kd.own_blk (Kd.R_ne HO_8.out BK279.out (by decide)); have hn280_3 : ad280.block ≠ gb279 := Kd.own_blk (Kd.R_ne HO_8.out BK279.out (by decide)); replace hx280_0 := (cell_far (p := ⟨gb279, 0, none⟩) (by first | (rw [add_block]; exact hn280_0) | (show (Addr.add _ _).block ≠ _; rw [add_block]; exact hn280_0) | exact hn280_0) (.string ((rd_T44 l1 x53_4).f0))).trans hx280_0; replace hx280_0 := (cell_far (p := ⟨gb279, 1, none⟩) (by first | (rw [add_block]; exact hn280_1) | (show (Addr.add _ _).block ≠ _; rw [add_block]; exact hn280_1) | exact hn280_1) (.int .i64 ((rd_T44 l1 x53_4).f1))).trans hx280_0; replace hx280_0 := (cell_far (p := ⟨gb279, 2, none⟩) (by first | (rw [add_block]; exact hn280_2) | (show (Addr.add _ _).block ≠ _; rw [add_block]; exact hn280_2) | exact hn280_2) (.int .i64 ((rd_T44 l1 x53_4).f2))).trans hx280_0; replace hx280_0 := (cell_far (p := ⟨gb279, 3, none⟩) (by first | (rw [add_block]; exact hn280_3) | (show (Addr.add _ _).block ≠ _; rw [add_block]; exact hn280_3) | exact hn280_3) (.int .i64 ((rd_T44 l1 x53_4).f3))).trans hx280_0; (try have hy280_0 := fun (n_ : Nat) => (show ((((((w34.drewN n_).setCell ⟨gb279, 0, none⟩ (.string ((rd_T44 l1 x53_4).f0))).setCell ⟨gb279, 1, none⟩ (.int .i64 ((rd_T44 l1 x53_4).f1))).setCell ⟨gb279, 2, none⟩ (.int .i64 ((rd_T44 l1 x53_4).f2))).setCell ⟨gb279, 3, none⟩ (.int .i64 ((rd_T44 l1 x53_4).f3)))).cell? _ = some _ from hx280_0)); clear hn280_0; clear hn280_1; clear hn280_2; clear hn280_3; replace p280 := eq_true p280; replace q280 := eq_true q280; have p281 : 0 ≤ (x53_4 : Int) := of_decide_eq_true (by first | (with_reducible assumption) | assumption); have q281 : x53_4 < (x8_3.length : Int) := of_decide_eq_true (by first | (with_reducible assumption) | assumption); obtain ⟨ad281, e281, hx281_0⟩ := Kd.at_int (Kd.R_reads' HO_8.out).2.2 x53_4 p281 q281; obtain rfl : ad280 = ad281 := (by injection e281); have hn281_0 : ad280.block ≠ gb279 := Kd.own_blk (Kd.R_ne HO_8.out BK279.out (by decide)); have hn281_1 : ad280.block ≠ gb279 := Kd.own_blk (Kd.R_ne HO_8.out BK279.out (by decide)); have hn281_2 : ad280.block ≠ gb279 := Kd.own_blk (Kd.R_ne HO_8.out BK279.out (by decide)); have hn281_3 : ad280.block ≠ gb279 := Kd.own_blk (Kd.R_ne HO_8.out BK279.out (by decide)); replace hx281_0 := (cell_far (p := ⟨gb279, 0, none⟩) (by first | (rw [add_block]; exact hn281_0) | (show (Addr.add _ _).block ≠ _; rw [add_block]; exact hn281_0) | exact hn281_0) (.string ((rd_T44 l1 x53_4).f0))).trans hx281_0; replace hx281_0 := (cell_far (p := ⟨gb279, 1, none⟩) (by first | (rw [add_block]; exact hn281_1) | (show (Addr.add _ _).block ≠ _; rw [add_block]; exact hn281_1) | exact hn281_1) (.int .i64 ((rd_T44 l1 x53_4).f1))).trans hx281_0; replace hx281_0 := (cell_far (p := ⟨gb279, 2, none⟩) (by first | (rw [add_block]; exact hn281_2) | (show (Addr.add _ _).block ≠ _; rw [add_block]; exact hn281_2) | exact hn281_2) (.int .i64 ((rd_T44 l1 x53_4).f2))).trans hx281_0; replace hx281_0 := (cell_far (p := ⟨gb279, 3, none⟩) (by first | (rw [add_block]; exact hn281_3) | (show (Addr.add _ _).block ≠ _; rw [add_block]; exact hn281_3) | exact hn281_3) (.int .i64 ((rd_T44 l1 x53_4).f3))).trans hx281_0; (try have hy281_0 := fun (n_ : Nat) => (show ((((((w34.drewN n_).setCell ⟨gb279, 0, none⟩ (.string ((rd_T44 l1 x53_4).f0))).setCell ⟨gb279, 1, none⟩ (.int .i64 ((rd_T44 l1 x53_4).f1))).setCell ⟨gb279, 2, none⟩ (.int .i64 ((rd_T44 l1 x53_4).f2))).setCell ⟨gb279, 3, none⟩ (.int .i64 ((rd_T44 l1 x53_4).f3)))).cell? _ = some _ from hx281_0)); clear hn281_0; clear hn281_1; clear hn281_2; clear hn281_3; replace p281 := eq_true p281; replace q281 := eq_true q281; have p282 : 0 ≤ (x12_4 : Int) := of_decide_eq_true (by first | (with_reducible assumption) | assumption); have q282 : x12_4 < (l1.length : Int) := of_decide_eq_true (by first | (with_reducible assumption) | assumption); obtain ⟨ad282, e282, hx282_0, hx282_1, hx282_2, hx282_3⟩ := at_T44 HR1.out x12_4 p282 q282; obtain rfl : ad278 = ad282 := (by injection e282); have hn282_0 : ad278.block ≠ gb279 := Nat.ne_of_lt (Nat.lt_of_lt_of_le (by have := World.block_lt_of_cell? _ _ hx282_0; first | rwa [add_block] at this | exact this) GW279.out); have hn282_1 : ad278.block ≠ gb279 := Nat.ne_of_lt (Nat.lt_of_lt_of_le (by have := World.block_lt_of_cell? _ _ hx282_0; first | rwa [add_block] at this | exact this) GW279.out); have hn282_2 : ad278.block ≠ gb279 := Nat.ne_of_lt (Nat.lt_of_lt_of_le (by have := World.block_lt_of_cell? _ _ hx282_0; first | rwa [add_block] at this | exact this) GW279.out); have hn282_3 : ad278.block ≠ gb279 := Nat.ne_of_lt (Nat.lt_of_lt_of_le (by have := World.block_lt_of_cell? _ _ hx282_0; first | rwa [add_block] at this | exact this) GW279.out); replace hx282_0 := (HB.out.cell (World.block_lt_of_cell? w _ hx282_0)).trans hx282_0; replace hx282_1 := (HB.out.cell (World.block_lt_of_cell? w _ hx282_1)).trans hx282_1; replace hx282_2 := (HB.out.cell (World.block_lt_of_cell? w _ hx282_2)).trans hx282_2; replace hx282_3 := (HB.out.cell (World.block_lt_of_cell? w _ hx282_3)).trans hx282_3; replace hx282_0 := (cell_far (p := ⟨gb279, 0, none⟩) (by first | (rw [add_block]; exact hn282_0) | (show (Addr.add _ _).block ≠ _; rw [add_block]; exact hn282_0) | exact hn282_0) (.string ((rd_T44 l1 x53_4).f0))).trans hx282_0; replace hx282_1 := (cell_far (p := ⟨gb279, 0, none⟩) (by first | (rw [add_block]; exact hn282_0) | (show (Addr.add _ _).block ≠ _; rw [add_block]; exact hn282_0) | exact hn282_0) (.string ((rd_T44 l1 x53_4).f0))).trans hx282_1; replace hx282_2 := (cell_far (p := ⟨gb279, 0, none⟩) (by first | (rw [add_block]; exact hn282_0) | (show (Addr.add _ _).block ≠ _; rw [add_block]; exact hn282_0) | exact hn282_0) (.string ((rd_T44 l1 x53_4).f0))).trans hx282_2; replace hx282_3 := (cell_far (p := ⟨gb279, 0, none⟩) (by first | (rw [add_block]; exact hn282_0) | (show (Addr.add _ _).block ≠ _; rw [add_block]; exact hn282_0) | exact hn282_0) (.string ((rd_T44 l1 x53_4).f0))).trans hx282_3; replace hx282_0 := (cell_far (p := ⟨gb279, 1, none⟩) (by first | (rw [add_block]; exact hn282_1) | (show (Addr.add _ _).block ≠ _; rw [add_block]; exact hn282_1) | exact hn282_1) (.int .i64 ((rd_T44 l1 x53_4).f1))).trans hx282_0; replace hx282_1 := (cell_far (p := ⟨gb279, 1, none⟩) (by first | (rw [add_block]; exact hn282_1) | (show (Addr.add _ _).block ≠ _; rw [add_block]; exact hn282_1) | exact hn282_1) (.int .i64 ((rd_T44 l1 x53_4).f1))).trans hx282_1; replace hx282_2 := (cell_far (p := ⟨gb279, 1, none⟩) (by first | (rw [add_block]; exact hn282_1) | (show (Addr.add _ _).block ≠ _; rw [add_block]; exact hn282_1) | exact hn282_1) (.int .i64 ((rd_T44 l1 x53_4).f1))).trans hx282_2; replace hx282_3 := (cell_far (p := ⟨gb279, 1, none⟩) (by first | (rw [add_block]; exact hn282_1) | (show (Addr.add _ _).block ≠ _; rw [add_block]; exact hn282_1) | exact hn282_1) (.int .i64 ((rd_T44 l1 x53_4).f1))).trans hx282_3; replace hx282_0 := (cell_far (p := ⟨gb279, 2, none⟩) (by first | (rw [add_block]; exact hn282_2) | (show (Addr.add _ _).block ≠ _; rw [add_block]; exact hn282_2) | exact hn282_2) (.int .i64 ((rd_T44 l1 x53_4).f2))).trans hx282_0; replace hx282_1 := (cell_far (p := ⟨gb279, 2, none⟩) (by first | (rw [add_block]; exact hn282_2) | (show (Addr.add _ _).block ≠ _; rw [add_block]; exact hn282_2) | exact hn282_2) (.int .i64 ((rd_T44 l1 x53_4).f2))).trans hx282_1; replace hx282_2 := (cell_far (p := ⟨gb279, 2, none⟩) (by first | (rw [add_block]; exact hn282_2) | (show (Addr.add _ _).block ≠ _; rw [add_block]; exact hn282_2) | exact hn282_2) (.int .i64 ((rd_T44 l1 x53_4).f2))).trans hx282_2; replace hx282_3 := (cell_far (p := ⟨gb279, 2, none⟩) (by first | (rw [add_block]; exact hn282_2) | (show (Addr.add _ _).block ≠ _; rw [add_block]; exact hn282_2) | exact hn282_2) (.int .i64 ((rd_T44 l1 x53_4).f2))).trans hx282_3; replace hx282_0 := (cell_far (p := ⟨gb279, 3, none⟩) (by first | (rw [add_block]; exact hn282_3) | (show (Addr.add _ _).block ≠ _; rw [add_block]; exact hn282_3) | exact hn282_3) (.int .i64 ((rd_T44 l1 x53_4).f3))).trans hx282_0; replace hx282_1 := (cell_far (p := ⟨gb279, 3, none⟩) (by first | (rw [add_block]; exact hn282_3) | (show (Addr.add _ _).block ≠ _; rw [add_block]; exact hn282_3) | exact hn282_3) (.int .i64 ((rd_T44 l1 x53_4).f3))).trans hx282_1; replace hx282_2 := (cell_far (p := ⟨gb279, 3, none⟩) (by first | (rw [add_block]; exact hn282_3) | (show (Addr.add _ _).block ≠ _; rw [add_block]; exact hn282_3) | exact hn282_3) (.int .i64 ((rd_T44 l1 x53_4).f3))).trans hx282_2; replace hx282_3 := (cell_far (p := ⟨gb279, 3, none⟩) (by first | (rw [add_block]; exact hn282_3) | (show (Addr.add _ _).block ≠ _; rw [add_block]; exact hn282_3) | exact hn282_3) (.int .i64 ((rd_T44 l1 x53_4).f3))).trans hx282_3; (try have hy282_0 := fun (n_ : Nat) => (show ((((((w34.drewN n_).setCell ⟨gb279, 0, none⟩ (.string ((rd_T44 l1 x53_4).f0))).setCell ⟨gb279, 1, none⟩ (.int .i64 ((rd_T44 l1 x53_4).f1))).setCell ⟨gb279, 2, none⟩ (.int .i64 ((rd_T44 l1 x53_4).f2))).setCell ⟨gb279, 3, none⟩ (.int .i64 ((rd_T44 l1 x53_4).f3)))).cell? _ = some _ from hx282_0)); (try have hy282_1 := fun (n_ : Nat) => (show ((((((w34.drewN n_).setCell ⟨gb279, 0, none⟩ (.string ((rd_T44 l1 x53_4).f0))).setCell ⟨gb279, 1, none⟩ (.int .i64 ((rd_T44 l1 x53_4).f1))).setCell ⟨gb279, 2, none⟩ (.int .i64 ((rd_T44 l1 x53_4).f2))).setCell ⟨gb279, 3, none⟩ (.int .i64 ((rd_T44 l1 x53_4).f3)))).cell? _ = some _ from hx282_1)); (try have hy282_2 := fun (n_ : Nat) => (show ((((((w34.drewN n_).setCell ⟨gb279, 0, none⟩ (.string ((rd_T44 l1 x53_4).f0))).setCell ⟨gb279, 1, none⟩ (.int .i64 ((rd_T44 l1 x53_4).f1))).setCell ⟨gb279, 2, none⟩ (.int .i64 ((rd_T44 l1 x53_4).f2))).setCell ⟨gb279, 3, none⟩ (.int .i64 ((rd_T44 l1 x53_4).f3)))).cell? _ = some _ from hx282_2)); (try have hy282_3 := fun (n_ : Nat) => (show ((((((w34.drewN n_).setCell ⟨gb279, 0, none⟩ (.string ((rd_T44 l1 x53_4).f0))).setCell ⟨gb279, 1, none⟩ (.int .i64 ((rd_T44 l1 x53_4).f1))).setCell ⟨gb279, 2, none⟩ (.int .i64 ((rd_T44 l1 x53_4).f2))).setCell ⟨gb279, 3, none⟩ (.int .i64 ((rd_T44 l1 x53_4).f3)))).cell? _ = some _ from hx282_3)); clear hn282_0; clear hn282_1; clear hn282_2; clear hn282_3; replace p282 := eq_true p282; replace q282 := eq_true q282; have p283 : 0 ≤ (x12_4 : Int) := of_decide_eq_true (by first | (with_reducible assumption) | assumption); have q283 : x12_4 < (x8_3.length : Int) := of_decide_eq_true (by first | (with_reducible assumption) | assumption); obtain ⟨ad283, e283, hx283_0⟩ := Kd.at_int (Kd.R_reads' HO_8.out).2.2 x12_4 p283 q283; obtain rfl : ad280 = ad283 := (by injection e283); have hn283_0 : ad280.block ≠ gb279 := Kd.own_blk (Kd.R_ne HO_8.out BK279.out (by decide)); have hn283_1 : ad280.block ≠ gb279 := Kd.own_blk (Kd.R_ne HO_8.out BK279.out (by decide)); have hn283_2 : ad280.block ≠ gb279 := Kd.own_blk (Kd.R_ne HO_8.out BK279.out (by decide)); have hn283_3 : ad280.block ≠ gb279 := Kd.own_blk (Kd.R_ne HO_8.out BK279.out (by decide)); replace hx283_0 := (cell_far (p := ⟨gb279, 0, none⟩) (by first | (rw [add_block]; exact hn283_0) | (show (Addr.add _ _).block ≠ _; rw [add_block]; exact hn283_0) | exact hn283_0) (.string ((rd_T44 l1 x53_4).f0))).trans hx283_0; replace hx283_0 := (cell_far (p := ⟨gb279, 1, none⟩) (by first | (rw [add_block]; exact hn283_1) | (show (Addr.add _ _).block ≠ _; rw [add_block]; exact hn283_1) | exact hn283_1) (.int .i64 ((rd_T44 l1 x53_4).f1))).trans hx283_0; replace hx283_0 := (cell_far (p := ⟨gb279, 2, none⟩) (by first | (rw [add_block]; exact hn283_2) | (show (Addr.add _ _).block ≠ _; rw [add_block]; exact hn283_2) | exact hn283_2) (.int .i64 ((rd_T44 l1 x53_4).f2))).trans hx283_0; replace hx283_0 := (cell_far (p := ⟨gb279, 3, none⟩) (by first | (rw [add_block]; exact hn283_3) | (show (Addr.add _ _).block ≠ _; rw [add_block]; exact hn283_3) | exact hn283_3) (.int .i64 ((rd_T44 l1 x53_4).f3))).trans hx283_0; (try have hy283_0 := fun (n_ : Nat) => (show ((((((w34.drewN n_).setCell ⟨gb279, 0, none⟩ (.string ((rd_T44 l1 x53_4).f0))).setCell ⟨gb279, 1, none⟩ (.int .i64 ((rd_T44 l1 x53_4).f1))).setCell ⟨gb279, 2, none⟩ (.int .i64 ((rd_T44 l1 x53_4).f2))).setCell ⟨gb279, 3, none⟩ (.int .i64 ((rd_T44 l1 x53_4).f3)))).cell? _ = some _ from hx283_0)); clear hn283_0; clear hn283_1; clear hn283_2; clear hn283_3; replace p283 := eq_true p283; replace q283 := eq_true q283)))
                      go_roundg k4
                      case measure => have := HJ3.out; have := HK2.out; have := HK3.out; have := HK4.out; omega
                      case rel => exact ⟨(x12_4), (wrap64 (x53_4 + 1)), (by first | rfl | (simp; done) | (simp [*]; done)), (by first | rfl | (simp; done) | (simp [*]; done)), H', ⟨by have := HJ3.out; have := HK2.out; have := HK3.out; have := HK4.out; omega⟩, ⟨by (with_reducible repeat (first | apply Kd.R_alloc | apply Kd.R_drewN | apply Kd.R_drew)); exact Kd.R_mono (Kd.R_far (p := ⟨gb279, 3, none⟩) (Kd.R_far (p := ⟨gb279, 2, none⟩) (Kd.R_far (p := ⟨gb279, 1, none⟩) (Kd.R_far (p := ⟨gb279, 0, none⟩) (Kd.R_types HO_8.out BK279.out (by decide)) (fun _ hk => hk.2) (.string ((rd_T44 l1 x53_4).f0))) (fun _ hk => hk.2) (.int .i64 ((rd_T44 l1 x53_4).f1))) (fun _ hk => hk.2) (.int .i64 ((rd_T44 l1 x53_4).f2))) (fun _ hk => hk.2) (.int .i64 ((rd_T44 l1 x53_4).f3))) (fun _ hk => trivial)⟩, ⟨by repeat (first | (with_reducible first | exact HB.out | apply below_alloc | apply pw_below_drewN | apply below_drew1 | refine below_set ?_ GE279.out) | exact HB.out)⟩⟩
                    ·
                     rw [if_neg c29] at H
                     exact absurd H (by simp)
                   ·
                    rw [if_neg c28] at H
                    exact absurd H (by simp)
                  ·
                   rw [if_neg c27] at H
                   exact absurd H (by simp)
                ·
                 rw [if_neg c22] at H
                 have c22b0 : decide ((rd x8_3 x53_4) < ((rd_T44 l1 x53_4).f1)) = false := decide_eq_false c22
                 clear c22
                 have H' := Aside0.mk H
                 clear H
                 have p278 : 0 ≤ (x53_4 : Int) := of_decide_eq_true (by first | (with_reducible assumption) | assumption)
                 have q278 : x53_4 < (l1.length : Int) := of_decide_eq_true (by first | (with_reducible assumption) | assumption)
                 obtain ⟨ad278, e278, hx278_0, hx278_1, hx278_2, hx278_3⟩ := at_T44 HR1.out x53_4 p278 q278
                 cases e278
                 replace hx278_0 := (HB.out.cell (World.block_lt_of_cell? w _ hx278_0)).trans hx278_0
                 replace hx278_1 := (HB.out.cell (World.block_lt_of_cell? w _ hx278_1)).trans hx278_1
                 replace hx278_2 := (HB.out.cell (World.block_lt_of_cell? w _ hx278_2)).trans hx278_2
                 replace hx278_3 := (HB.out.cell (World.block_lt_of_cell? w _ hx278_3)).trans hx278_3
                 replace p278 := eq_true p278
                 replace q278 := eq_true q278
                 go_wp2_with (first | ((with_reducible refine gate_dst (N := 14) rfl ?_); refine box_event ?hg (N := 14) ?hd (cs := #[.string (⟨#[]⟩ : ByteArray), .int .i64 0, .int .i64 0, .int .i64 0]) (t := 44) ?hr ?_; (case hd => rfl); (case hg => rfl); (case hr => first | (go_simp; done) | (go_simp; rfl)); intro gb279 hg w37 hbox hb; have n0_ := Aside0.mk (Kd.R_below (by (with_reducible repeat (first | apply Kd.R_alloc | apply Kd.R_drewN | apply Kd.R_drew)); exact HO_8.out) hb); have n1_ := Aside0.mk (below_step (by repeat (first | (with_reducible first | exact HB.out | apply below_alloc | apply pw_below_drewN | apply below_drew1) | exact HB.out)) hb); have n2_ := Aside0.mk (hbox); have n3_ := Aside0.mk ((by rw [hg]; exact (below_size (by repeat (first | (with_reducible first | exact HB.out | apply below_alloc | apply pw_below_drewN | apply below_drew1) | exact HB.out))) : w.heap.size ≤ gb279)); have n4_ := Aside0.mk ((by rw [hg]; exact (below_size (by repeat (first | (with_reducible first | exact HB.out | apply below_alloc | apply pw_below_drewN | apply below_drew1) | exact HB.out))) : w.heap.size ≤ gb279)); clear HO_8; clear HB; have HO_8 := n0_; have HB := n1_; have BK279 := n2_; have GW279 := n3_; have GE279 := n4_; clear n0_ n1_ n2_ n3_ n4_; clear hb hbox hg; have hcz38_0 : w37.cell? ⟨gb279, 0, none⟩ = some (.string (⟨#[]⟩ : ByteArray)) := (blk_cell BK279.out 0).trans rfl; have hcz38_1 : w37.cell? ⟨gb279, 1, none⟩ = some (.int .i64 0) := (blk_cell BK279.out 1).trans rfl; have hcz38_2 : w37.cell? ⟨gb279, 2, none⟩ = some (.int .i64 0) := (blk_cell BK279.out 2).trans rfl; have hcz38_3 : w37.cell? ⟨gb279, 3, none⟩ = some (.int .i64 0) := (blk_cell BK279.out 3).trans rfl; have hfz38_0 := blk_frozen BK279.out 0; have hfz38_1 := blk_frozen BK279.out 1; have hfz38_2 := blk_frozen BK279.out 2; have hfz38_3 := blk_frozen BK279.out 3; obtain ⟨Ao39, co39, eo39⟩ := Kd.R_slice HO_8.out; subst eo39; have p280 : 0 ≤ (x53_4 : Int) := of_decide_eq_true (by first | (with_reducible assumption) | assumption); have q280 : x53_4 < (x8_3.length : Int) := of_decide_eq_true (by first | (with_reducible assumption) | assumption); obtain ⟨ad280, e280, hx280_0⟩ := Kd.at_int (Kd.R_reads' HO_8.out).2.2 x53_4 p280 q280; cases e280; have hn280_0 : ad280.block ≠ gb279 := Kd.own_blk (Kd.R_ne HO_8.out BK279.out (by decide)); have hn280_1 : ad280.block ≠ gb279 := Kd.own_blk (Kd.R_ne HO_8.out BK279.out (by decide)); have hn280_2 : ad280.block ≠ gb279 := Kd.own_blk (Kd.R_ne HO_8.out BK279.out (by decide)); have hn280_3 : ad280.block ≠ gb279 := Kd.own_blk (Kd.R_ne HO_8.out BK279.out (by decide)); replace hx280_0 := (cell_far (p := ⟨gb279, 0, none⟩) (by first | (rw [add_block]; exact hn280_0) | (show (Addr.add _ _).block ≠ _; rw [add_block]; exact hn280_0) | exact hn280_0) (.string ((rd_T44 l1 x53_4).f0))).trans hx280_0; replace hx280_0 := (cell_far (p := ⟨gb279, 1, none⟩) (by first | (rw [add_block]; exact hn280_1) | (show (Addr.add _ _).block ≠ _; rw [add_block]; exact hn280_1) | exact hn280_1) (.int .i64 ((rd_T44 l1 x53_4).f1))).trans hx280_0; replace hx280_0 := (cell_far (p := ⟨gb279, 2, none⟩) (by first | (rw [add_block]; exact hn280_2) | (show (Addr.add _ _).block ≠ _; rw [add_block]; exact hn280_2) | exact hn280_2) (.int .i64 ((rd_T44 l1 x53_4).f2))).trans hx280_0; replace hx280_0 := (cell_far (p := ⟨gb279, 3, none⟩) (by first | (rw [add_block]; exact hn280_3) | (show (Addr.add _ _).block ≠ _; rw [add_block]; exact hn280_3) | exact hn280_3) (.int .i64 ((rd_T44 l1 x53_4).f3))).trans hx280_0; (try have hy280_0 := fun (n_ : Nat) => (show ((((((w37.drewN n_).setCell ⟨gb279, 0, none⟩ (.string ((rd_T44 l1 x53_4).f0))).setCell ⟨gb279, 1, none⟩ (.int .i64 ((rd_T44 l1 x53_4).f1))).setCell ⟨gb279, 2, none⟩ (.int .i64 ((rd_T44 l1 x53_4).f2))).setCell ⟨gb279, 3, none⟩ (.int .i64 ((rd_T44 l1 x53_4).f3)))).cell? _ = some _ from hx280_0)); clear hn280_0; clear hn280_1; clear hn280_2; clear hn280_3; replace p280 := eq_true p280; replace q280 := eq_true q280))
                 repeat (go_quiet (first | ((with_reducible refine gate_dst (N := 14) rfl ?_); refine box_event ?hg (N := 14) ?hd (cs := #[.string (⟨#[]⟩ : ByteArray), .int .i64 0, .int .i64 0, .int .i64 0]) (t := 44) ?hr ?_; (case hd => rfl); (case hg => rfl); (case hr => first | (go_simp; done) | (go_simp; rfl)); intro gb279 hg w37 hbox hb; have n0_ := Aside0.mk (Kd.R_below (by (with_reducible repeat (first | apply Kd.R_alloc | apply Kd.R_drewN | apply Kd.R_drew)); exact HO_8.out) hb); have n1_ := Aside0.mk (below_step (by repeat (first | (with_reducible first | exact HB.out | apply below_alloc | apply pw_below_drewN | apply below_drew1) | exact HB.out)) hb); have n2_ := Aside0.mk (hbox); have n3_ := Aside0.mk ((by rw [hg]; exact (below_size (by repeat (first | (with_reducible first | exact HB.out | apply below_alloc | apply pw_below_drewN | apply below_drew1) | exact HB.out))) : w.heap.size ≤ gb279)); have n4_ := Aside0.mk ((by rw [hg]; exact (below_size (by repeat (first | (with_reducible first | exact HB.out | apply below_alloc | apply pw_below_drewN | apply below_drew1) | exact HB.out))) : w.heap.size ≤ gb279)); clear HO_8; clear HB; have HO_8 := n0_; have HB := n1_; have BK279 := n2_; have GW279 := n3_; have GE279 := n4_; clear n0_ n1_ n2_ n3_ n4_; clear hb hbox hg; have hcz38_0 : w37.cell? ⟨gb279, 0, none⟩ = some (.string (⟨#[]⟩ : ByteArray)) := (blk_cell BK279.out 0).trans rfl; have hcz38_1 : w37.cell? ⟨gb279, 1, none⟩ = some (.int .i64 0) := (blk_cell BK279.out 1).trans rfl; have hcz38_2 : w37.cell? ⟨gb279, 2, none⟩ = some (.int .i64 0) := (blk_cell BK279.out 2).trans rfl; have hcz38_3 : w37.cell? ⟨gb279, 3, none⟩ = some (.int .i64 0) := (blk_cell BK279.out 3).trans rfl; have hfz38_0 := blk_frozen BK279.out 0; have hfz38_1 := blk_frozen BK279.out 1; have hfz38_2 := blk_frozen BK279.out 2; have hfz38_3 := blk_frozen BK279.out 3; obtain ⟨Ao39, co39, eo39⟩ := Kd.R_slice HO_8.out; subst eo39; have p280 : 0 ≤ (x53_4 : Int) := of_decide_eq_true (by first | (with_reducible assumption) | assumption); have q280 : x53_4 < (x8_3.length : Int) := of_decide_eq_true (by first | (with_reducible assumption) | assumption); obtain ⟨ad280, e280, hx280_0⟩ := Kd.at_int (Kd.R_reads' HO_8.out).2.2 x53_4 p280 q280; cases e280; have hn280_0 : ad280.block ≠ gb279 := Kd.own_blk (Kd.R_ne HO_8.out BK279.out (by decide)); have hn280_1 : ad280.block ≠ gb279 := Kd.own_blk (Kd.R_ne HO_8.out BK279.out (by decide)); have hn280_2 : ad280.block ≠ gb279 := Kd.own_blk (Kd.R_ne HO_8.out BK279.out (by decide)); have hn280_3 : ad280.block ≠ gb279 := Kd.own_blk (Kd.R_ne HO_8.out BK279.out (by decide)); replace hx280_0 := (cell_far (p := ⟨gb279, 0, none⟩) (by first | (rw [add_block]; exact hn280_0) | (show (Addr.add _ _).block ≠ _; rw [add_block]; exact hn280_0) | exact hn280_0) (.string ((rd_T44 l1 x53_4).f0))).trans hx280_0; replace hx280_0 := (cell_far (p := ⟨gb279, 1, none⟩) (by first | (rw [add_block]; exact hn280_1) | (show (Addr.add _ _).block ≠ _; rw [add_block]; exact hn280_1) | exact hn280_1) (.int .i64 ((rd_T44 l1 x53_4).f1))).trans hx280_0; replace hx280_0 := (cell_far (p := ⟨gb279, 2, none⟩) (by first | (rw [add_block]; exact hn280_2) | (show (Addr.add _ _).block ≠ _; rw [add_block]; exact hn280_2) | exact hn280_2) (.int .i64 ((rd_T44 l1 x53_4).f2))).trans hx280_0; replace hx280_0 := (cell_far (p := ⟨gb279, 3, none⟩) (by first | (rw [add_block]; exact hn280_3) | (show (Addr.add _ _).block ≠ _; rw [add_block]; exact hn280_3) | exact hn280_3) (.int .i64 ((rd_T44 l1 x53_4).f3))).trans hx280_0; (try have hy280_0 := fun (n_ : Nat) => (show ((((((w37.drewN n_).setCell ⟨gb279, 0, none⟩ (.string ((rd_T44 l1 x53_4).f0))).setCell ⟨gb279, 1, none⟩ (.int .i64 ((rd_T44 l1 x53_4).f1))).setCell ⟨gb279, 2, none⟩ (.int .i64 ((rd_T44 l1 x53_4).f2))).setCell ⟨gb279, 3, none⟩ (.int .i64 ((rd_T44 l1 x53_4).f3)))).cell? _ = some _ from hx280_0)); clear hn280_0; clear hn280_1; clear hn280_2; clear hn280_3; replace p280 := eq_true p280; replace q280 := eq_true q280)); try go_wp2_with (first | ((with_reducible refine gate_dst (N := 14) rfl ?_); refine box_event ?hg (N := 14) ?hd (cs := #[.string (⟨#[]⟩ : ByteArray), .int .i64 0, .int .i64 0, .int .i64 0]) (t := 44) ?hr ?_; (case hd => rfl); (case hg => rfl); (case hr => first | (go_simp; done) | (go_simp; rfl)); intro gb279 hg w37 hbox hb; have n0_ := Aside0.mk (Kd.R_below (by (with_reducible repeat (first | apply Kd.R_alloc | apply Kd.R_drewN | apply Kd.R_drew)); exact HO_8.out) hb); have n1_ := Aside0.mk (below_step (by repeat (first | (with_reducible first | exact HB.out | apply below_alloc | apply pw_below_drewN | apply below_drew1) | exact HB.out)) hb); have n2_ := Aside0.mk (hbox); have n3_ := Aside0.mk ((by rw [hg]; exact (below_size (by repeat (first | (with_reducible first | exact HB.out | apply below_alloc | apply pw_below_drewN | apply below_drew1) | exact HB.out))) : w.heap.size ≤ gb279)); have n4_ := Aside0.mk ((by rw [hg]; exact (below_size (by repeat (first | (with_reducible first | exact HB.out | apply below_alloc | apply pw_below_drewN | apply below_drew1) | exact HB.out))) : w.heap.size ≤ gb279)); clear HO_8; clear HB; have HO_8 := n0_; have HB := n1_; have BK279 := n2_; have GW279 := n3_; have GE279 := n4_; clear n0_ n1_ n2_ n3_ n4_; clear hb hbox hg; have hcz38_0 : w37.cell? ⟨gb279, 0, none⟩ = some (.string (⟨#[]⟩ : ByteArray)) := (blk_cell BK279.out 0).trans rfl; have hcz38_1 : w37.cell? ⟨gb279, 1, none⟩ = some (.int .i64 0) := (blk_cell BK279.out 1).trans rfl; have hcz38_2 : w37.cell? ⟨gb279, 2, none⟩ = some (.int .i64 0) := (blk_cell BK279.out 2).trans rfl; have hcz38_3 : w37.cell? ⟨gb279, 3, none⟩ = some (.int .i64 0) := (blk_cell BK279.out 3).trans rfl; have hfz38_0 := blk_frozen BK279.out 0; have hfz38_1 := blk_frozen BK279.out 1; have hfz38_2 := blk_frozen BK279.out 2; have hfz38_3 := blk_frozen BK279.out 3; obtain ⟨Ao39, co39, eo39⟩ := Kd.R_slice HO_8.out; subst eo39; have p280 : 0 ≤ (x53_4 : Int) := of_decide_eq_true (by first | (with_reducible assumption) | assumption); have q280 : x53_4 < (x8_3.length : Int) := of_decide_eq_true (by first | (with_reducible assumption) | assumption); obtain ⟨ad280, e280, hx280_0⟩ := Kd.at_int (Kd.R_reads' HO_8.out).2.2 x53_4 p280 q280; cases e280; have hn280_0 : ad280.block ≠ gb279 := Kd.own_blk (Kd.R_ne HO_8.out BK279.out (by decide)); have hn280_1 : ad280.block ≠ gb279 := Kd.own_blk (Kd.R_ne HO_8.out BK279.out (by decide)); have hn280_2 : ad280.block ≠ gb279 := Kd.own_blk (Kd.R_ne HO_8.out BK279.out (by decide)); have hn280_3 : ad280.block ≠ gb279 := Kd.own_blk (Kd.R_ne HO_8.out BK279.out (by decide)); replace hx280_0 := (cell_far (p := ⟨gb279, 0, none⟩) (by first | (rw [add_block]; exact hn280_0) | (show (Addr.add _ _).block ≠ _; rw [add_block]; exact hn280_0) | exact hn280_0) (.string ((rd_T44 l1 x53_4).f0))).trans hx280_0; replace hx280_0 := (cell_far (p := ⟨gb279, 1, none⟩) (by first | (rw [add_block]; exact hn280_1) | (show (Addr.add _ _).block ≠ _; rw [add_block]; exact hn280_1) | exact hn280_1) (.int .i64 ((rd_T44 l1 x53_4).f1))).trans hx280_0; replace hx280_0 := (cell_far (p := ⟨gb279, 2, none⟩) (by first | (rw [add_block]; exact hn280_2) | (show (Addr.add _ _).block ≠ _; rw [add_block]; exact hn280_2) | exact hn280_2) (.int .i64 ((rd_T44 l1 x53_4).f2))).trans hx280_0; replace hx280_0 := (cell_far (p := ⟨gb279, 3, none⟩) (by first | (rw [add_block]; exact hn280_3) | (show (Addr.add _ _).block ≠ _; rw [add_block]; exact hn280_3) | exact hn280_3) (.int .i64 ((rd_T44 l1 x53_4).f3))).trans hx280_0; (try have hy280_0 := fun (n_ : Nat) => (show ((((((w37.drewN n_).setCell ⟨gb279, 0, none⟩ (.string ((rd_T44 l1 x53_4).f0))).setCell ⟨gb279, 1, none⟩ (.int .i64 ((rd_T44 l1 x53_4).f1))).setCell ⟨gb279, 2, none⟩ (.int .i64 ((rd_T44 l1 x53_4).f2))).setCell ⟨gb279, 3, none⟩ (.int .i64 ((rd_T44 l1 x53_4).f3)))).cell? _ = some _ from hx280_0)); clear hn280_0; clear hn280_1; clear hn280_2; clear hn280_3; replace p280 := eq_true p280; replace q280 := eq_true q280)))
                 go_roundg k4
                 case measure => have := HJ3.out; have := HK2.out; have := HK3.out; have := HK4.out; omega
                 case rel => exact ⟨(x12_4), (wrap64 (x53_4 + 1)), (by first | rfl | (simp; done) | (simp [*]; done)), (by first | rfl | (simp; done) | (simp [*]; done)), H', ⟨by have := HJ3.out; have := HK2.out; have := HK3.out; have := HK4.out; omega⟩, ⟨by (with_reducible repeat (first | apply Kd.R_alloc | apply Kd.R_drewN | apply Kd.R_drew)); exact Kd.R_mono (Kd.R_far (p := ⟨gb279, 3, none⟩) (Kd.R_far (p := ⟨gb279, 2, none⟩) (Kd.R_far (p := ⟨gb279, 1, none⟩) (Kd.R_far (p := ⟨gb279, 0, none⟩) (Kd.R_types HO_8.out BK279.out (by decide)) (fun _ hk => hk.2) (.string ((rd_T44 l1 x53_4).f0))) (fun _ hk => hk.2) (.int .i64 ((rd_T44 l1 x53_4).f1))) (fun _ hk => hk.2) (.int .i64 ((rd_T44 l1 x53_4).f2))) (fun _ hk => hk.2) (.int .i64 ((rd_T44 l1 x53_4).f3))) (fun _ hk => trivial)⟩, ⟨by repeat (first | (with_reducible first | exact HB.out | apply below_alloc | apply pw_below_drewN | apply below_drew1 | refine below_set ?_ GE279.out) | exact HB.out)⟩⟩
               ·
                rw [if_neg c21] at H
                exact absurd H (by simp)
              ·
               rw [if_neg c20] at H
               exact absurd H (by simp)
             ·
              rw [if_neg c19] at H
              exact absurd H (by simp)
            ·
             rw [if_neg c18] at H
             have c18b0 : decide (x53_4 < (l1.length : Int)) = false := decide_eq_false c18
             clear c18
             by_cases c40 : x12_4 < 0
             ·
              rw [if_pos c40] at H
              have c40b0 : decide (x12_4 < 0) = true := decide_eq_true c40
              clear c40
              simp only [Option.some.injEq, Prod.mk.injEq] at H
              obtain ⟨rfl, rfl⟩ := H
              go_wp2
              repeat (go_quiet (fail); try go_wp2)
              go_ret2
              exact ⟨_, by first | rfl | (simp [errW_none, errW_some] <;> rfl) | (simp [*, errW_none, errW_some] <;> rfl), by (with_reducible repeat (first | apply Kd.R_alloc | apply Kd.R_drewN | apply Kd.R_drew)); exact HO_8.out, by repeat (first | (with_reducible first | exact HB.out | apply below_alloc | apply pw_below_drewN | apply below_drew1) | exact HB.out)⟩
             ·
              rw [if_neg c40] at H
              have c40b0 : decide (x12_4 < 0) = false := decide_eq_false c40
              clear c40
              by_cases c41 : 0 ≤ x12_4
              ·
               rw [if_pos c41] at H
               have c41b0 : decide (0 ≤ x12_4) = true := decide_eq_true c41
               clear c41
               by_cases c42 : x12_4 < (x8_3.length : Int)
               ·
                rw [if_pos c42] at H
                have c42b0 : decide (x12_4 < (x8_3.length : Int)) = true := decide_eq_true c42
                clear c42
                obtain ⟨y285, hy285⟩ : ∃ y_ : List Int, y_ = (x8_3.set (x12_4 : Int).toNat (wrap64 ((rd x8_3 x12_4) + 1))) := ⟨_, rfl⟩
                replace H : (impl_ShareOut.l1 k4 l1 y285 (wrap64 (x11_3 - 1))) = some (r1, r2) := by first | (rw [hy285]; with_reducible exact H) | (have H2_ := (Option.bind_some _ _).symm.trans H; rw [hy285]; with_reducible exact H2_) | (have H2_ := (Option.bind_some _ _).symm.trans H; with_reducible exact H2_) | with_reducible exact H | (rw [hy285]; exact H) | exact H
                have Ny285 := Aside0.mk hy285
                clear hy285
                have H' := Aside0.mk H
                clear H
                obtain ⟨Ao44, co44, eo44⟩ := Kd.R_slice HO_8.out
                subst eo44
                have p284 : 0 ≤ (x12_4 : Int) := of_decide_eq_true (by first | (with_reducible assumption) | assumption)
                have q284 : x12_4 < (x8_3.length : Int) := of_decide_eq_true (by first | (with_reducible assumption) | assumption)
                obtain ⟨ad284, e284, hx284_0⟩ := Kd.at_int (Kd.R_reads' HO_8.out).2.2 x12_4 p284 q284
                cases e284
                replace p284 := eq_true p284
                replace q284 := eq_true q284
                have p43 : 0 ≤ (x12_4 : Int) := of_decide_eq_true (by first | (with_reducible assumption) | assumption)
                have q43 : (x12_4 : Int) < ((x8_3.length : Int) : Int) := of_decide_eq_true (by first | (with_reducible assumption) | assumption)
                obtain ⟨go43, co43, eo43, gb43, gl43, cl43, HG43⟩ := Kd.R_form HO_8.out (by omega)
                (first | cases eo43 | (injection eo43 with ea_ en_ ec_; (first | subst ea_ | (injection ea_ with ea_; subst ea_)); subst ec_; clear en_))
                have GB43 := Aside0.mk gb43
                have GG43 := Aside0.mk HG43
                clear gb43 gl43 HG43
                (first | simp only [add_plain] at hx284_0 | skip)
                obtain ⟨hx43_0, hf43_0⟩ := Kd.R_celln 0 HO_8.out (x12_4 : Int) p43 q43
                replace p43 := eq_true p43
                replace q43 := eq_true q43
                have HP45 := Kd.R_putg HO_8.out (x12_4 : Int) (wrap64 ((rd x8_3 x12_4) + 1))
                go_wp2_with (first | ((with_reducible refine gate_store (t := 3) (p := 98) rfl ?_); (try (rw [drewN_self wr]; generalize hq_ : World.drewN wr _ = wr; have n0_ := Aside0.mk (Kd.R_at hq_ HO_8.out); have n1_ := Aside0.mk (below_at hq_ HB.out); clear hq_ HO_8 HB; have HO_8 := n0_; have HB := n1_; clear n0_ n1_; (try (have HP45 := Kd.R_putg HO_8.out (x12_4 : Int) (wrap64 ((rd x8_3 x12_4) + 1)))))); refine store_event (t := 3) (p := 98) (v := ?vo_w46) (w1 := (wr.setCell ⟨go43, (x12_4 : Int).toNat, none⟩ (.int .i64 (wrap64 ((rd x8_3 x12_4) + 1))))) ?hg ?ho ?hn ?hr ?_; (case ho => rfl); (case hg => rfl); (case hn => rfl); (case hr => first | (go_simp; done) | (go_simp; rfl)); intro w46 hw; have hg : wr.grownBy w46 (some go43) := (by rw [hw]; exact HP45.2); have hp_ : Kd.R (Kd.int .i64) 3 w46 w.heap.size (fun _ => True) (.slice (some ⟨go43, 0, none⟩) x8_3.length co44) y285 := (by rw [hw, Ny285.out]; exact HP45.1); clear HP45; have n0_ := Aside0.mk (hp_); have n1_ := Aside0.mk ((by rw [hw]; exact below_set (HB.out) GB43.out : Below w.heap.size w w46)); clear HO_8; clear HB; have HO_8 := n0_; have HB := n1_; clear n0_ n1_; clear hg hw hp_))
                repeat (go_quiet (first | ((with_reducible refine gate_store (t := 3) (p := 98) rfl ?_); (try (rw [drewN_self wr]; generalize hq_ : World.drewN wr _ = wr; have n0_ := Aside0.mk (Kd.R_at hq_ HO_8.out); have n1_ := Aside0.mk (below_at hq_ HB.out); clear hq_ HO_8 HB; have HO_8 := n0_; have HB := n1_; clear n0_ n1_; (try (have HP45 := Kd.R_putg HO_8.out (x12_4 : Int) (wrap64 ((rd x8_3 x12_4) + 1)))))); refine store_event (t := 3) (p := 98) (v := ?vo_w46) (w1 := (wr.setCell ⟨go43, (x12_4 : Int).toNat, none⟩ (.int .i64 (wrap64 ((rd x8_3 x12_4) + 1))))) ?hg ?ho ?hn ?hr ?_; (case ho => rfl); (case hg => rfl); (case hn => rfl); (case hr => first | (go_simp; done) | (go_simp; rfl)); intro w46 hw; have hg : wr.grownBy w46 (some go43) := (by rw [hw]; exact HP45.2); have hp_ : Kd.R (Kd.int .i64) 3 w46 w.heap.size (fun _ => True) (.slice (some ⟨go43, 0, none⟩) x8_3.length co44) y285 := (by rw [hw, Ny285.out]; exact HP45.1); clear HP45; have n0_ := Aside0.mk (hp_); have n1_ := Aside0.mk ((by rw [hw]; exact below_set (HB.out) GB43.out : Below w.heap.size w w46)); clear HO_8; clear HB; have HO_8 := n0_; have HB := n1_; clear n0_ n1_; clear hg hw hp_)); try go_wp2_with (first | ((with_reducible refine gate_store (t := 3) (p := 98) rfl ?_); (try (rw [drewN_self wr]; generalize hq_ : World.drewN wr _ = wr; have n0_ := Aside0.mk (Kd.R_at hq_ HO_8.out); have n1_ := Aside0.mk (below_at hq_ HB.out); clear hq_ HO_8 HB; have HO_8 := n0_; have HB := n1_; clear n0_ n1_; (try (have HP45 := Kd.R_putg HO_8.out (x12_4 : Int) (wrap64 ((rd x8_3 x12_4) + 1)))))); refine store_event (t := 3) (p := 98) (v := ?vo_w46) (w1 := (wr.setCell ⟨go43, (x12_4 : Int).toNat, none⟩ (.int .i64 (wrap64 ((rd x8_3 x12_4) + 1))))) ?hg ?ho ?hn ?hr ?_; (case ho => rfl); (case hg => rfl); (case hn => rfl); (case hr => first | (go_simp; done) | (go_simp; rfl)); intro w46 hw; have hg : wr.grownBy w46 (some go43) := (by rw [hw]; exact HP45.2); have hp_ : Kd.R (Kd.int .i64) 3 w46 w.heap.size (fun _ => True) (.slice (some ⟨go43, 0, none⟩) x8_3.length co44) y285 := (by rw [hw, Ny285.out]; exact HP45.1); clear HP45; have n0_ := Aside0.mk (hp_); have n1_ := Aside0.mk ((by rw [hw]; exact below_set (HB.out) GB43.out : Below w.heap.size w w46)); clear HO_8; clear HB; have HO_8 := n0_; have HB := n1_; clear n0_ n1_; clear hg hw hp_)))
                go_roundg k4
                case measure => have := HJ3.out; have := HK2.out; have := HK3.out; have := HK4.out; omega
                case rel => exact ⟨(y285), (wrap64 (x11_3 - 1)), (by first | rfl | (simp; done) | (simp [*]; done)), H', ⟨by have := HJ3.out; have := HK2.out; have := HK3.out; have := HK4.out; omega⟩, ⟨by (with_reducible repeat (first | apply Kd.R_alloc | apply Kd.R_drewN | apply Kd.R_drew)); exact HO_8.out⟩, ⟨by repeat (first | (with_reducible first | exact HB.out | apply below_alloc | apply pw_below_drewN | apply below_drew1) | exact HB.out)⟩⟩
               ·
                rw [if_neg c42] at H
                exact absurd H (by simp)
              ·
               rw [if_neg c41] at H
               exact absurd H (by simp)
         ·
          rw [if_neg c17] at H
          have c17b0 : decide (0 < x11_3) = false := decide_eq_false c17
          clear c17
          simp only [Option.some.injEq, Prod.mk.injEq] at H
          obtain ⟨rfl, rfl⟩ := H
          go_wp2
          repeat (go_quiet (fail); try go_wp2)
          go_ret2
          exact ⟨_, by first | rfl | (simp [errW_none, errW_some] <;> rfl) | (simp [*, errW_none, errW_some] <;> rfl), by (with_reducible repeat (first | apply Kd.R_alloc | apply Kd.R_drewN | apply Kd.R_drew)); exact HO_8.out, by repeat (first | (with_reducible first | exact HB.out | apply below_alloc | apply pw_below_drewN | apply below_drew1) | exact HB.out)⟩
theorem impl_ShareOut.j0.st {x0 : Int} {x1 : List (S44)} {x6 : Int} {x31 : Bool} {r : (List Int × Bool)} (H : Ev (fun k => if x31 = true then (some (([] : List Int), false)) else (impl_ShareOut.l0 k x0 x1 x6 ([] : List Int) x1 (x1.length : Int) 0)) r) : Ev (fun k => impl_ShareOut.j0 k x0 x1 x6 x31) r := Ev.step (fun k => impl_ShareOut.j0.eq_2 x0 x1 x6 x31 k) H
theorem impl_ShareOut.l0.st {x0 : Int} {x1 : List (S44)} {x6 : Int} {x8 : List Int} {x32 : List (S44)} {x33 : Int} {x34 : Int} {r : (List Int × Bool)} (H : Ev (fun k => if x34 < x33 then (if 0 ≤ x34 then (if x34 < (x32.length : Int) then (if x8.length < 17592186044416 then (impl_ShareOut.l0 k x0 x1 x6 (x8 ++ [(rd_T44 x32 x34).f2]) x32 x33 (wrap64 (x34 + 1))) else (none)) else (none)) else (none)) else (impl_ShareOut.l1 k x1 x8 (wrap64 (x0 - x6)))) r) : Ev (fun k => impl_ShareOut.l0 k x0 x1 x6 x8 x32 x33 x34) r := Ev.step (fun k => impl_ShareOut.l0.eq_2 x0 x1 x6 x8 x32 x33 x34 k) H
theorem impl_ShareOut.l1.st {x1 : List (S44)} {x8 : List Int} {x11 : Int} {r : (List Int × Bool)} (H : Ev (fun k => if x11 > 0 then (impl_ShareOut.l2 k x1 x8 x11 (-1) x1 (x1.length : Int) 0) else (some (x8, true))) r) : Ev (fun k => impl_ShareOut.l1 k x1 x8 x11) r := Ev.step (fun k => impl_ShareOut.l1.eq_2 x1 x8 x11 k) H
theorem impl_ShareOut.l2.st {x1 : List (S44)} {x8 : List Int} {x11 : Int} {x12 : Int} {x51 : List (S44)} {x52 : Int} {x53 : Int} {r : (List Int × Bool)} (H : Ev (fun k => if x53 < x52 then (if 0 ≤ x53 then (if x53 < (x51.length : Int) then (if x53 < (x8.length : Int) then (if (rd x8 x53) < ((rd_T44 x51 x53).f1) then (if x12 < 0 then (impl_ShareOut.l2 k x1 x8 x11 x53 x51 x52 (wrap64 (x53 + 1))) else (if 0 ≤ x12 then (if x12 < (x1.length : Int) then (if x12 < (x8.length : Int) then (if (wrap64 ((rd x8 x53) * ((rd_T44 x1 x12).f3))) < (wrap64 ((rd x8 x12) * ((rd_T44 x51 x53).f3))) then (impl_ShareOut.l2 k x1 x8 x11 x53 x51 x52 (wrap64 (x53 + 1))) else (impl_ShareOut.l2 k x1 x8 x11 x12 x51 x52 (wrap64 (x53 + 1)))) else (none)) else (none)) else (none))) else (impl_ShareOut.l2 k x1 x8 x11 x12 x51 x52 (wrap64 (x53 + 1)))) else (none)) else (none)) else (none)) else (if x12 < 0 then (some (x8, true)) else (if 0 ≤ x12 then (if x12 < (x8.length : Int) then (impl_ShareOut.l1 k x1 (x8.set (x12 : Int).toNat (wrap64 ((rd x8 x12) + 1))) (wrap64 (x11 - 1))) else (none)) else (none)))) r) : Ev (fun k => impl_ShareOut.l2 k x1 x8 x11 x12 x51 x52 x53) r := Ev.step (fun k => impl_ShareOut.l2.eq_2 x1 x8 x11 x12 x51 x52 x53 k) H

/-! ### impl_SumOfShares: function 12 -/
def impl_SumOfShares.l0 : Nat → Int → List Int → Int → Int → Option (Int)
  | 0, _, _, _, _ => none
  | k + 1, x3, x9, x10, x11 => if x11 < x10 then (if 0 ≤ x11 then (if x11 < (x9.length : Int) then (if (rd x9 x11) < 0 then (some 0) else (impl_SumOfShares.l0 k (mn (wrap64 (x3 + (mn (rd x9 x11) 1000000000))) 1000000000) x9 x10 (wrap64 (x11 + 1)))) else (none)) else (none)) else (some x3)
def impl_SumOfShares.f (k : Nat) (l0 : List Int) : Option (Int) := if (l0.length : Int) > 300 then (some 0) else (impl_SumOfShares.l0 k 0 l0 (l0.length : Int) 0)
theorem impl_SumOfShares.mono_l : ∀ k, (∀ y0 y1 y2 y3, LeO (impl_SumOfShares.l0 k y0 y1 y2 y3) (impl_SumOfShares.l0 (k + 1) y0 y1 y2 y3))
  | 0 => fun _ _ _ _ r h => by simp [impl_SumOfShares.l0] at h
  | k + 1 => by
    have ih0 := impl_SumOfShares.mono_l k
    · intro y0 y1 y2 y3
      unfold impl_SumOfShares.l0
      repeat' first
      | (with_reducible exact ih0 _ _ _ _)
      | (with_reducible exact LeO.refl _)
      | (with_reducible exact LeO.none _)
      | (with_reducible refine LeO.ite ?_ ?_)
      | (with_reducible refine LeO.bind ?_ (fun _ => ?_))
      | exact ih0 _ _ _ _
      | exact LeO.none _
      | refine LeO.ite ?_ ?_
      | refine LeO.bind ?_ (fun _ => ?_)
theorem impl_SumOfShares.mono : ∀ a0 k, LeO (impl_SumOfShares.f k a0) (impl_SumOfShares.f (k + 1) a0) := by
  intro a0 k
  have ih0 := impl_SumOfShares.mono_l k
  unfold impl_SumOfShares.f
  repeat' first
      | (with_reducible exact ih0 _ _ _ _)
      | (with_reducible exact LeO.refl _)
      | (with_reducible exact LeO.none _)
      | (with_reducible refine LeO.ite ?_ ?_)
      | (with_reducible refine LeO.bind ?_ (fun _ => ?_))
      | exact ih0 _ _ _ _
      | exact LeO.none _
      | refine LeO.ite ?_ ?_
      | refine LeO.bind ?_ (fun _ => ?_)
set_option maxHeartbeats 8000000 in
set_option maxRecDepth 100000 in
theorem impl_SumOfShares.calls (k : Nat) (A0 : Option Addr) (c0 : Nat) (l0 : List Int) (r : Int) (w : World) (hr0 : Kd.C (Kd.int .i64) w A0 l0.length l0) (hc0 : l0.length ≤ c0) (h : impl_SumOfShares.f k l0 = some r) :
    Calls Try.prog 12 #[.slice A0 l0.length c0] w fun e w' => e = .returned (.int .i64 r) ∧ Below w.heap.size w w' := by
  have HR0 := Aside0.mk hr0
  have HC0 := Aside0.mk hc0
  clear hr0 hc0
  have HB := Aside0.mk (Below.refl w.heap.size w)
  have H : (if (l0.length : Int) > 300 then (some 0) else (impl_SumOfShares.l0 k 0 l0 (l0.length : Int) 0)) = some r := h
  clear h
  by_cases c2 : (l0.length : Int) > 300
  · rw [if_pos c2] at H
    have c2b0 : decide (300 < (l0.length : Int)) = true := decide_eq_true c2
    have c2b1 : decide (300 < l0.length) = true := decide_eq_true (by omega)
    clear c2
    obtain rfl := Option.some.inj H
    go_enter Try.func12, Try.ntmps12
    go_wp2
    go_ret
    exact ⟨by first | rfl | (simp [errW_none, errW_some] <;> rfl) | (simp [*, errW_none, errW_some] <;> rfl), by repeat (first | (with_reducible first | exact HB.out | apply below_alloc | apply pw_below_drewN | apply below_drew1) | exact HB.out)⟩
  · rw [if_neg c2] at H
    have c2b0 : decide (300 < (l0.length : Int)) = false := decide_eq_false c2
    have c2b1 : decide (300 < l0.length) = false := decide_eq_false (by omega)
    clear c2
    have H' := Aside0.mk H
    clear H
    go_enter Try.func12, Try.ntmps12
    go_wp2
    go_loopg [3, 11] k (fun kq v3 v11 w' => ∃ (x3_1 : Int) (x11_1 : Int), v3 = .int .i64 x3_1 ∧ v11 = .int .i64 x11_1 ∧ Aside0 (impl_SumOfShares.l0 kq x3_1 l0 (l0.length : Int) x11_1 = some r) ∧ Aside0 (kq ≤ k) ∧ Aside0 (Below w.heap.size w w'))
    case atStart => exact ⟨(0), (0), (by first | rfl | (simp; done) | (simp [*]; done)), (by first | rfl | (simp; done) | (simp [*]; done)), H', ⟨Nat.le_refl _⟩, ⟨by repeat (first | (with_reducible first | exact HB.out | apply below_alloc | apply pw_below_drewN | apply below_drew1) | exact HB.out)⟩⟩
    case round =>
      clear H'
      try clear c1
      try clear c2
      try clear c2b0
      try clear c2b1
      try clear p2
      obtain ⟨x3_1, x11_1, rfl, rfl, HA, HK1, HB⟩ := hrel
      cases gk with
      | zero => exact absurd HA.out (by simp [impl_SumOfShares.l0])
      | succ k1 =>
        have H := HA.out
        clear HA
        simp only [impl_SumOfShares.l0] at H
        by_cases c3 : x11_1 < (l0.length : Int)
        · rw [if_pos c3] at H
          have c3b0 : decide (x11_1 < (l0.length : Int)) = true := decide_eq_true c3
          clear c3
          by_cases c4 : 0 ≤ x11_1
          · rw [if_pos c4] at H
            have c4b0 : decide (0 ≤ x11_1) = true := decide_eq_true c4
            clear c4
            by_cases c5 : x11_1 < (l0.length : Int)
            · rw [if_pos c5] at H
              have c5b0 : decide (x11_1 < (l0.length : Int)) = true := decide_eq_true c5
              clear c5
              by_cases c6 : (rd l0 x11_1) < 0
              · rw [if_pos c6] at H
                have c6b0 : decide ((rd l0 x11_1) < 0) = true := decide_eq_true c6
                clear c6
                obtain rfl := Option.some.inj H
                have p286 : 0 ≤ (x11_1 : Int) := of_decide_eq_true (by first | (with_reducible assumption) | assumption)
                have q286 : x11_1 < (l0.length : Int) := of_decide_eq_true (by first | (with_reducible assumption) | assumption)
                obtain ⟨ad286, e286, hx286_0⟩ := Kd.at_int HR0.out x11_1 p286 q286
                cases e286
                replace hx286_0 := (HB.out.cell (World.block_lt_of_cell? w _ hx286_0)).trans hx286_0
                replace p286 := eq_true p286
                replace q286 := eq_true q286
                go_wp2
                go_ret
                exact ⟨by first | rfl | (simp [errW_none, errW_some] <;> rfl) | (simp [*, errW_none, errW_some] <;> rfl), by repeat (first | (with_reducible first | exact HB.out | apply below_alloc | apply pw_below_drewN | apply below_drew1) | exact HB.out)⟩
              · rw [if_neg c6] at H
                have c6b0 : decide ((rd l0 x11_1) < 0) = false := decide_eq_false c6
                clear c6
                obtain ⟨ji7, hji7⟩ : ∃ j_ : Int, (mn (rd l0 x11_1) 1000000000) = j_ := ⟨_, rfl⟩
                replace H : (impl_SumOfShares.l0 k1 (mn (wrap64 (x3_1 + (ji7))) 1000000000) l0 (l0.length : Int) (wrap64 (x11_1 + 1))) = some r := by first | (rw [hji7] at H; exact H) | (simp only [hji7] at H ⊢; exact H)
                have hji7_ : (if 1000000000 < (rd l0 x11_1) then 1000000000 else (rd l0 x11_1)) = ji7 := hji7
                obtain ⟨ji8, hji8⟩ : ∃ j_ : Int, (mn (wrap64 (x3_1 + (ji7))) 1000000000) = j_ := ⟨_, rfl⟩
                replace H : (impl_SumOfShares.l0 k1 ji8 l0 (l0.length : Int) (wrap64 (x11_1 + 1))) = some r := by first | (rw [hji8] at H; exact H) | (simp only [hji8] at H ⊢; exact H)
                have hji8_ : (if 1000000000 < (wrap64 (x3_1 + (ji7))) then 1000000000 else (wrap64 (x3_1 + (ji7)))) = ji8 := hji8
                have H' := Aside0.mk H
                clear H
                have p286 : 0 ≤ (x11_1 : Int) := of_decide_eq_true (by first | (with_reducible assumption) | assumption)
                have q286 : x11_1 < (l0.length : Int) := of_decide_eq_true (by first | (with_reducible assumption) | assumption)
                obtain ⟨ad286, e286, hx286_0⟩ := Kd.at_int HR0.out x11_1 p286 q286
                cases e286
                replace hx286_0 := (HB.out.cell (World.block_lt_of_cell? w _ hx286_0)).trans hx286_0
                replace p286 := eq_true p286
                replace q286 := eq_true q286
                go_wp2
                go_roundg k1
                case measure => have := HK1.out; omega
                case rel => exact ⟨(ji8), (wrap64 (x11_1 + 1)), (by first | rfl | (simp; done) | (simp only [← hji8] <;> (first | rfl | simp)) | (simp [*]; done)), (by first | rfl | (simp; done) | (simp [*]; done)), H', ⟨by have := HK1.out; omega⟩, ⟨by repeat (first | (with_reducible first | exact HB.out | apply below_alloc | apply pw_below_drewN | apply below_drew1) | exact HB.out)⟩⟩
            · rw [if_neg c5] at H
              exact absurd H (by simp)
          · rw [if_neg c4] at H
            exact absurd H (by simp)
        · rw [if_neg c3] at H
          have c3b0 : decide (x11_1 < (l0.length : Int)) = false := decide_eq_false c3
          clear c3
          obtain rfl := Option.some.inj H
          go_wp2
          go_ret
          exact ⟨by first | rfl | (simp [errW_none, errW_some] <;> rfl) | (simp [*, errW_none, errW_some] <;> rfl), by repeat (first | (with_reducible first | exact HB.out | apply below_alloc | apply pw_below_drewN | apply below_drew1) | exact HB.out)⟩
theorem impl_SumOfShares.l0.st {x3 : Int} {x9 : List Int} {x10 : Int} {x11 : Int} {r : (Int)} (H : Ev (fun k => if x11 < x10 then (if 0 ≤ x11 then (if x11 < (x9.length : Int) then (if (rd x9 x11) < 0 then (some 0) else (impl_SumOfShares.l0 k (mn (wrap64 (x3 + (mn (rd x9 x11) 1000000000))) 1000000000) x9 x10 (wrap64 (x11 + 1)))) else (none)) else (none)) else (some x3)) r) : Ev (fun k => impl_SumOfShares.l0 k x3 x9 x10 x11) r := Ev.step (fun k => impl_SumOfShares.l0.eq_2 x3 x9 x10 x11 k) H

/-! ### impl_LeftOver: function 8 -/
def impl_LeftOver.f (k : Nat) (a0 : Int) (l1 : List (S44)) : Option (Int) := (impl_ShareOut.f k a0 l1).bind fun bt287 => (if bt287.2 = true then ((impl_SumOfShares.f k bt287.1).bind fun t291 => (some (wrap64 (a0 - t291)))) else (some (-1)))
theorem impl_LeftOver.mono : ∀ a0 a1 k, LeO (impl_LeftOver.f k a0 a1) (impl_LeftOver.f (k + 1) a0 a1) := by
  intro a0 a1 k
  unfold impl_LeftOver.f
  repeat' first
      | (with_reducible exact impl_ShareOut.mono _ _ _)
      | (with_reducible exact impl_SumOfShares.mono _ _)
      | (with_reducible exact LeO.refl _)
      | (with_reducible exact LeO.none _)
      | (with_reducible refine LeO.ite ?_ ?_)
      | (with_reducible refine LeO.bind ?_ (fun _ => ?_))
      | exact impl_ShareOut.mono _ _ _
      | exact impl_SumOfShares.mono _ _
      | exact LeO.none _
      | refine LeO.ite ?_ ?_
      | refine LeO.bind ?_ (fun _ => ?_)
set_option maxHeartbeats 8000000 in
set_option maxRecDepth 100000 in
theorem impl_LeftOver.calls (k : Nat) (a0 : Int) (A1 : Option Addr) (c1 : Nat) (l1 : List (S44)) (r : Int) (w : World) (hr1 : Kd.C k44 w A1 l1.length l1) (hc1 : l1.length ≤ c1) (h : impl_LeftOver.f k a0 l1 = some r) :
    Calls Try.prog 8 #[.int .i64 a0, .slice A1 l1.length c1] w fun e w' => e = .returned (.int .i64 r) ∧ Below w.heap.size w w' := by
  have HR1 := Aside0.mk hr1
  have HC1 := Aside0.mk hc1
  clear hr1 hc1
  have HB := Aside0.mk (Below.refl w.heap.size w)
  have H : ((impl_ShareOut.f k a0 l1).bind fun bt287 => (if bt287.2 = true then ((impl_SumOfShares.f k bt287.1).bind fun t291 => (some (wrap64 (a0 - t291)))) else (some (-1)))) = some r := h
  clear h
  replace H := Option.bind_eq_some_iff.mp H
  obtain ⟨⟨t287, t288⟩, A30, H⟩ := H
  replace H : (if t288 = true then ((impl_SumOfShares.f k t287).bind fun t291 => (some (wrap64 (a0 - t291)))) else (some (-1))) = some r := H
  have A3 := Aside0.mk A30
  clear A30
  by_cases c4 : t288 = true
  · subst c4
    have H1 : ((impl_SumOfShares.f k t287).bind fun t291 => (some (wrap64 (a0 - t291)))) = some r := by rw [if_pos rfl] at H; exact H
    clear H
    have H := H1
    clear H1
    replace H := Option.bind_eq_some_iff.mp H
    obtain ⟨t291, A50, H⟩ := H
    replace H : (some (wrap64 (a0 - t291))) = some r := H
    have A5 := Aside0.mk A50
    clear A50
    obtain rfl := Option.some.inj H
    go_enter Try.func8, Try.ntmps8
    go_wp2_with (first | ((with_reducible refine gate_callee (f := 7) rfl ?_); refine goesL_ (some 10) rfl rfl Try.func7 (by kernel_rfl) rfl #[.int .i64 a0, .slice A1 l1.length c1] rfl (by (try simp only [List.map_toArray, List.map_cons, List.map_nil]); first | done | rfl | (simp only [List.length_drop, List.length_take]; rfl)) ?_; (with_reducible refine (impl_ShareOut.calls k a0 _ _ l1 t287 true _ ?side1 ?side2 A3.out).mono ?_); (case side1 => repeat (first | exact HR1.out | (with_reducible refine Kd.C_alloc ?_ _) | (with_reducible refine Kd.C_drewN ?_ _) | (with_reducible refine Kd.C_drew ?_))); (case side2 => exact HC1.out); rintro e w6 ⟨v289, rfl, ho0, hb⟩; refine ⟨_, rfl, ?_⟩; have n0_ := Aside0.mk (Kd.R_lower ho0 (below_size (by repeat (first | (with_reducible first | exact HB.out | apply below_alloc | apply pw_below_drewN | apply below_drew1) | exact HB.out)))); have n1_ := Aside0.mk (below_step (by repeat (first | (with_reducible first | exact HB.out | apply below_alloc | apply pw_below_drewN | apply below_drew1) | exact HB.out)) hb); clear HB; have HO290 := n0_; have HB := n1_; clear n0_ n1_; (try clear hb); (try clear hb2); (try clear hk); (try clear hi); (try clear ho0); obtain ⟨Ao7, co7, eo7⟩ := Kd.R_slice HO290.out; subst eo7) | ((with_reducible refine gate_callee (f := 12) rfl ?_); refine goesL_ (some 17) rfl rfl Try.func12 (by kernel_rfl) rfl #[.slice Ao7 t287.length co7] rfl (by (try simp only [List.map_toArray, List.map_cons, List.map_nil]); first | done | rfl | (simp only [List.length_drop, List.length_take]; rfl)) ?_; (with_reducible refine (impl_SumOfShares.calls k _ _ t287 t291 _ ?side1 ?side2 A5.out).mono ?_); (case side1 => repeat (first | exact (Kd.R_reads' HO290.out).2.2 | (with_reducible refine Kd.C_alloc ?_ _) | (with_reducible refine Kd.C_drewN ?_ _) | (with_reducible refine Kd.C_drew ?_))); (case side2 => exact (Kd.R_reads' HO290.out).2.1); rintro e w8 ⟨rfl, hb⟩; refine ⟨_, rfl, ?_⟩; have n0_ := Aside0.mk (Kd.R_below (by (with_reducible repeat (first | apply Kd.R_alloc | apply Kd.R_drewN | apply Kd.R_drew)); exact HO290.out) hb); have n1_ := Aside0.mk (below_step (by repeat (first | (with_reducible first | exact HB.out | apply below_alloc | apply pw_below_drewN | apply below_drew1) | exact HB.out)) hb); clear HO290; clear HB; have HO290 := n0_; have HB := n1_; clear n0_ n1_; (try clear hb); (try clear hb2); (try clear hk); (try clear hi)))
    go_ret
    exact ⟨by first | rfl | (simp [errW_none, errW_some] <;> rfl) | (simp [*, errW_none, errW_some] <;> rfl), by repeat (first | (with_reducible first | exact HB.out | apply below_alloc | apply pw_below_drewN | apply below_drew1) | exact HB.out)⟩
  · replace c4 := Bool.eq_false_iff.mpr c4
    subst c4
    have H1 : (some (-1)) = some r := by rw [if_neg (show ¬ (false = true) by decide)] at H; exact H
    clear H
    have H := H1
    clear H1
    obtain rfl := Option.some.inj H
    go_enter Try.func8, Try.ntmps8
    go_wp2_with (first | ((with_reducible refine gate_callee (f := 7) rfl ?_); refine goesL_ (some 10) rfl rfl Try.func7 (by kernel_rfl) rfl #[.int .i64 a0, .slice A1 l1.length c1] rfl (by (try simp only [List.map_toArray, List.map_cons, List.map_nil]); first | done | rfl | (simp only [List.length_drop, List.length_take]; rfl)) ?_; (with_reducible refine (impl_ShareOut.calls k a0 _ _ l1 t287 false _ ?side1 ?side2 A3.out).mono ?_); (case side1 => repeat (first | exact HR1.out | (with_reducible refine Kd.C_alloc ?_ _) | (with_reducible refine Kd.C_drewN ?_ _) | (with_reducible refine Kd.C_drew ?_))); (case side2 => exact HC1.out); rintro e w9 ⟨v289, rfl, ho0, hb⟩; refine ⟨_, rfl, ?_⟩; have n0_ := Aside0.mk (Kd.R_lower ho0 (below_size (by repeat (first | (with_reducible first | exact HB.out | apply below_alloc | apply pw_below_drewN | apply below_drew1) | exact HB.out)))); have n1_ := Aside0.mk (below_step (by repeat (first | (with_reducible first | exact HB.out | apply below_alloc | apply pw_below_drewN | apply below_drew1) | exact HB.out)) hb); clear HB; have HO290 := n0_; have HB := n1_; clear n0_ n1_; (try clear hb); (try clear hb2); (try clear hk); (try clear hi); (try clear ho0)))
    go_ret
    exact ⟨by first | rfl | (simp [errW_none, errW_some] <;> rfl) | (simp [*, errW_none, errW_some] <;> rfl), by repeat (first | (with_reducible first | exact HB.out | apply below_alloc | apply pw_below_drewN | apply below_drew1) | exact HB.out)⟩

/-! ### laws_same: function 9 -/
def laws_same.l0 : Nat → List Int → List Int → Int → Option (Bool)
  | 0, _, _, _ => none
  | k + 1, x0, x1, x5 => if x5 < (x0.length : Int) then (if 0 ≤ x5 then (if x5 < (x1.length : Int) then (if (rd x0 x5) = (rd x1 x5) then (laws_same.l0 k x0 x1 (wrap64 (x5 + 1))) else (some false)) else (none)) else (none)) else (some true)
def laws_same.f (k : Nat) (l0 : List Int) (l1 : List Int) : Option (Bool) := if (l0.length : Int) = (l1.length : Int) then (laws_same.l0 k l0 l1 0) else (some false)
theorem laws_same.mono_l : ∀ k, (∀ y0 y1 y2, LeO (laws_same.l0 k y0 y1 y2) (laws_same.l0 (k + 1) y0 y1 y2))
  | 0 => fun _ _ _ r h => by simp [laws_same.l0] at h
  | k + 1 => by
    have ih0 := laws_same.mono_l k
    · intro y0 y1 y2
      unfold laws_same.l0
      repeat' first
      | (with_reducible exact ih0 _ _ _)
      | (with_reducible exact LeO.refl _)
      | (with_reducible exact LeO.none _)
      | (with_reducible refine LeO.ite ?_ ?_)
      | (with_reducible refine LeO.bind ?_ (fun _ => ?_))
      | exact ih0 _ _ _
      | exact LeO.none _
      | refine LeO.ite ?_ ?_
      | refine LeO.bind ?_ (fun _ => ?_)
theorem laws_same.mono : ∀ a0 a1 k, LeO (laws_same.f k a0 a1) (laws_same.f (k + 1) a0 a1) := by
  intro a0 a1 k
  have ih0 := laws_same.mono_l k
  unfold laws_same.f
  repeat' first
      | (with_reducible exact ih0 _ _ _)
      | (with_reducible exact LeO.refl _)
      | (with_reducible exact LeO.none _)
      | (with_reducible refine LeO.ite ?_ ?_)
      | (with_reducible refine LeO.bind ?_ (fun _ => ?_))
      | exact ih0 _ _ _
      | exact LeO.none _
      | refine LeO.ite ?_ ?_
      | refine LeO.bind ?_ (fun _ => ?_)
set_option maxHeartbeats 8000000 in
set_option maxRecDepth 100000 in
theorem laws_same.calls (k : Nat) (A0 : Option Addr) (c0 : Nat) (l0 : List Int) (A1 : Option Addr) (c1 : Nat) (l1 : List Int) (r : Bool) (w : World) (hr0 : Kd.C (Kd.int .i64) w A0 l0.length l0) (hc0 : l0.length ≤ c0) (hr1 : Kd.C (Kd.int .i64) w A1 l1.length l1) (hc1 : l1.length ≤ c1) (h : laws_same.f k l0 l1 = some r) :
    Calls Try.prog 9 #[.slice A0 l0.length c0, .slice A1 l1.length c1] w fun e w' => e = .returned (.bool r) ∧ Drawn0 w w' := by
  have HR0 := Aside0.mk hr0
  have HC0 := Aside0.mk hc0
  clear hr0 hc0
  have HR1 := Aside0.mk hr1
  have HC1 := Aside0.mk hc1
  clear hr1 hc1
  have H : (if (l0.length : Int) = (l1.length : Int) then (laws_same.l0 k l0 l1 0) else (some false)) = some r := h
  clear h
  by_cases c3 : (l0.length : Int) = (l1.length : Int)
  · rw [if_pos c3] at H
    have c3b0 : ((l0.length : Int) == (l1.length : Int)) = true := beq_iff_eq.mpr c3
    have c3b1 : ((l0.length : Int) != (l1.length : Int)) = false := bne_eq_false_iff_eq.mpr c3
    have c3b2 : (l0.length == l1.length) = true := by first | simpa using c3 | (simp at c3 ⊢; omega)
    clear c3
    have H' := Aside0.mk H
    clear H
    go_enter Try.func9, Try.ntmps9
    go_wp2
    repeat (go_quiet (fail); try go_wp2)
    go_loopg [5] k (fun kq v5 w' => ∃ (x5_1 : Int), v5 = .int .i64 x5_1 ∧ Aside0 (laws_same.l0 kq l0 l1 x5_1 = some r) ∧ Aside0 (kq ≤ k) ∧ Drawn0 w w')
    case atStart => exact ⟨(0), (by first | rfl | (simp; done) | (simp [*]; done)), H', ⟨Nat.le_refl _⟩, by repeat (first | exact Drawn0.refl _ | apply Drawn0.step)⟩
    case round =>
      clear H'
      try clear c1
      try clear p2
      try clear c3
      try clear c3b0
      try clear c3b1
      try clear c3b2
      obtain ⟨x5_1, rfl, HA, HK1, ⟨m1, rfl⟩⟩ := hrel
      cases gk with
      | zero => exact absurd HA.out (by simp [laws_same.l0])
      | succ k1 =>
        have H := HA.out
        clear HA
        simp only [laws_same.l0] at H
        by_cases c4 : x5_1 < (l0.length : Int)
        · rw [if_pos c4] at H
          have c4b0 : decide (x5_1 < (l0.length : Int)) = true := decide_eq_true c4
          clear c4
          by_cases c5 : 0 ≤ x5_1
          · rw [if_pos c5] at H
            have c5b0 : decide (0 ≤ x5_1) = true := decide_eq_true c5
            clear c5
            by_cases c6 : x5_1 < (l1.length : Int)
            · rw [if_pos c6] at H
              have c6b0 : decide (x5_1 < (l1.length : Int)) = true := decide_eq_true c6
              clear c6
              by_cases c7 : (rd l0 x5_1) = (rd l1 x5_1)
              · rw [if_pos c7] at H
                have c7b0 : ((rd l0 x5_1) == (rd l1 x5_1)) = true := beq_iff_eq.mpr c7
                have c7b1 : ((rd l0 x5_1) != (rd l1 x5_1)) = false := bne_eq_false_iff_eq.mpr c7
                clear c7
                have H' := Aside0.mk H
                clear H
                have p292 : 0 ≤ (x5_1 : Int) := of_decide_eq_true (by first | (with_reducible assumption) | assumption)
                have q292 : x5_1 < (l0.length : Int) := of_decide_eq_true (by first | (with_reducible assumption) | assumption)
                obtain ⟨ad292, e292, hx292_0⟩ := Kd.at_int HR0.out x5_1 p292 q292
                cases e292
                replace p292 := eq_true p292
                replace q292 := eq_true q292
                have p293 : 0 ≤ (x5_1 : Int) := of_decide_eq_true (by first | (with_reducible assumption) | assumption)
                have q293 : x5_1 < (l1.length : Int) := of_decide_eq_true (by first | (with_reducible assumption) | assumption)
                obtain ⟨ad293, e293, hx293_0⟩ := Kd.at_int HR1.out x5_1 p293 q293
                cases e293
                replace p293 := eq_true p293
                replace q293 := eq_true q293
                go_wp2
                repeat (go_quiet (fail); try go_wp2)
                go_roundg k1
                case measure => have := HK1.out; omega
                case rel => exact ⟨(wrap64 (x5_1 + 1)), (by first | rfl | (simp; done) | (simp [*]; done)), H', ⟨by have := HK1.out; omega⟩, by repeat (first | exact Drawn0.refl _ | apply Drawn0.step)⟩
              · rw [if_neg c7] at H
                have c7b0 : ((rd l0 x5_1) == (rd l1 x5_1)) = false := beq_eq_false_iff_ne.mpr c7
                have c7b1 : ((rd l0 x5_1) != (rd l1 x5_1)) = true := bne_iff_ne.mpr c7
                obtain rfl := Option.some.inj H
                have p292 : 0 ≤ (x5_1 : Int) := of_decide_eq_true (by first | (with_reducible assumption) | assumption)
                have q292 : x5_1 < (l0.length : Int) := of_decide_eq_true (by first | (with_reducible assumption) | assumption)
                obtain ⟨ad292, e292, hx292_0⟩ := Kd.at_int HR0.out x5_1 p292 q292
                cases e292
                replace p292 := eq_true p292
                replace q292 := eq_true q292
                have p293 : 0 ≤ (x5_1 : Int) := of_decide_eq_true (by first | (with_reducible assumption) | assumption)
                have q293 : x5_1 < (l1.length : Int) := of_decide_eq_true (by first | (with_reducible assumption) | assumption)
                obtain ⟨ad293, e293, hx293_0⟩ := Kd.at_int HR1.out x5_1 p293 q293
                cases e293
                replace p293 := eq_true p293
                replace q293 := eq_true q293
                go_wp2
                repeat (go_quiet (fail); try go_wp2)
                go_ret
                exact ⟨by first | rfl | (simp; done) | (simp [*]; done), by repeat (first | exact Drawn0.refl _ | apply Drawn0.step)⟩
            · rw [if_neg c6] at H
              exact absurd H (by simp)
          · rw [if_neg c5] at H
            exact absurd H (by simp)
        · rw [if_neg c4] at H
          have c4b0 : decide (x5_1 < (l0.length : Int)) = false := decide_eq_false c4
          clear c4
          obtain rfl := Option.some.inj H
          go_wp2
          repeat (go_quiet (fail); try go_wp2)
          go_ret
          exact ⟨by first | rfl | (simp; done) | (simp [*]; done), by repeat (first | exact Drawn0.refl _ | apply Drawn0.step)⟩
  · rw [if_neg c3] at H
    have c3b0 : ((l0.length : Int) == (l1.length : Int)) = false := beq_eq_false_iff_ne.mpr c3
    have c3b1 : ((l0.length : Int) != (l1.length : Int)) = true := bne_iff_ne.mpr c3
    have c3b2 : (l0.length == l1.length) = false := by first | simpa using c3 | (simp at c3 ⊢; omega)
    obtain rfl := Option.some.inj H
    go_enter Try.func9, Try.ntmps9
    go_wp2
    repeat (go_quiet (fail); try go_wp2)
    go_ret
    exact ⟨by first | rfl | (simp; done) | (simp [*]; done), by repeat (first | exact Drawn0.refl _ | apply Drawn0.step)⟩
theorem laws_same.l0.st {x0 : List Int} {x1 : List Int} {x5 : Int} {r : (Bool)} (H : Ev (fun k => if x5 < (x0.length : Int) then (if 0 ≤ x5 then (if x5 < (x1.length : Int) then (if (rd x0 x5) = (rd x1 x5) then (laws_same.l0 k x0 x1 (wrap64 (x5 + 1))) else (some false)) else (none)) else (none)) else (some true)) r) : Ev (fun k => laws_same.l0 k x0 x1 x5) r := Ev.step (fun k => laws_same.l0.eq_2 x0 x1 x5 k) H

/-! ### spec_SumOfShares: function 22 -/
mutual
def spec_SumOfShares.l0 : Nat → List Int → Int → Int → Option (Int)
  | 0, _, _, _ => none
  | k + 1, x0, x3, x4 => if x4 < (x0.length : Int) then (if 0 ≤ x4 then (if (rd x0 x4) < 0 then (some 0) else (spec_SumOfShares.l0 k x0 x3 (wrap64 (x4 + 1)))) else (none)) else (spec_SumOfShares.l1 k x0 x3 0)
def spec_SumOfShares.l1 : Nat → List Int → Int → Int → Option (Int)
  | 0, _, _, _ => none
  | k + 1, x0, x3, x5 => if x5 < (x0.length : Int) then (if 0 ≤ x5 then (if (rd x0 x5) > (wrap64 (1000000000 - x3)) then (some 1000000000) else (spec_SumOfShares.l1 k x0 (wrap64 (x3 + (rd x0 x5))) (wrap64 (x5 + 1)))) else (none)) else (some x3)
end
def spec_SumOfShares.f (k : Nat) (l0 : List Int) : Option (Int) := if (l0.length : Int) > 300 then (some 0) else (spec_SumOfShares.l0 k l0 0 0)
theorem spec_SumOfShares.mono_l : ∀ k, (∀ y0 y1 y2, LeO (spec_SumOfShares.l0 k y0 y1 y2) (spec_SumOfShares.l0 (k + 1) y0 y1 y2)) ∧ (∀ y0 y1 y2, LeO (spec_SumOfShares.l1 k y0 y1 y2) (spec_SumOfShares.l1 (k + 1) y0 y1 y2))
  | 0 => ⟨fun _ _ _ r h => by simp [spec_SumOfShares.l0] at h, fun _ _ _ r h => by simp [spec_SumOfShares.l1] at h⟩
  | k + 1 => by
    obtain ⟨ih0, ih1⟩ := spec_SumOfShares.mono_l k
    refine ⟨?_, ?_⟩
    · intro y0 y1 y2
      unfold spec_SumOfShares.l0
      repeat' first
      | (with_reducible exact ih0 _ _ _)
      | (with_reducible exact ih1 _ _ _)
      | (with_reducible exact LeO.refl _)
      | (with_reducible exact LeO.none _)
      | (with_reducible refine LeO.ite ?_ ?_)
      | (with_reducible refine LeO.bind ?_ (fun _ => ?_))
      | exact ih0 _ _ _
      | exact ih1 _ _ _
      | exact LeO.none _
      | refine LeO.ite ?_ ?_
      | refine LeO.bind ?_ (fun _ => ?_)
    · intro y0 y1 y2
      unfold spec_SumOfShares.l1
      repeat' first
      | (with_reducible exact ih0 _ _ _)
      | (with_reducible exact ih1 _ _ _)
      | (with_reducible exact LeO.refl _)
      | (with_reducible exact LeO.none _)
      | (with_reducible refine LeO.ite ?_ ?_)
      | (with_reducible refine LeO.bind ?_ (fun _ => ?_))
      | exact ih0 _ _ _
      | exact ih1 _ _ _
      | exact LeO.none _
      | refine LeO.ite ?_ ?_
      | refine LeO.bind ?_ (fun _ => ?_)
theorem spec_SumOfShares.mono : ∀ a0 k, LeO (spec_SumOfShares.f k a0) (spec_SumOfShares.f (k + 1) a0) := by
  intro a0 k
  obtain ⟨ih0, ih1⟩ := spec_SumOfShares.mono_l k
  unfold spec_SumOfShares.f
  repeat' first
      | (with_reducible exact ih0 _ _ _)
      | (with_reducible exact ih1 _ _ _)
      | (with_reducible exact LeO.refl _)
      | (with_reducible exact LeO.none _)
      | (with_reducible refine LeO.ite ?_ ?_)
      | (with_reducible refine LeO.bind ?_ (fun _ => ?_))
      | exact ih0 _ _ _
      | exact ih1 _ _ _
      | exact LeO.none _
      | refine LeO.ite ?_ ?_
      | refine LeO.bind ?_ (fun _ => ?_)
set_option maxHeartbeats 8000000 in
set_option maxRecDepth 100000 in
theorem spec_SumOfShares.calls (k : Nat) (A0 : Option Addr) (c0 : Nat) (l0 : List Int) (r : Int) (w : World) (hr0 : Kd.C (Kd.int .i64) w A0 l0.length l0) (hc0 : l0.length ≤ c0) (h : spec_SumOfShares.f k l0 = some r) :
    Calls Try.prog 22 #[.slice A0 l0.length c0] w fun e w' => e = .returned (.int .i64 r) ∧ Drawn0 w w' := by
  have HR0 := Aside0.mk hr0
  have HC0 := Aside0.mk hc0
  clear hr0 hc0
  have H : (if (l0.length : Int) > 300 then (some 0) else (spec_SumOfShares.l0 k l0 0 0)) = some r := h
  clear h
  by_cases c2 : (l0.length : Int) > 300
  · rw [if_pos c2] at H
    have c2b0 : decide (300 < (l0.length : Int)) = true := decide_eq_true c2
    have c2b1 : decide (300 < l0.length) = true := decide_eq_true (by omega)
    clear c2
    obtain rfl := Option.some.inj H
    go_enter Try.func22, Try.ntmps22
    go_wp2
    go_ret
    exact ⟨by first | rfl | (simp; done) | (simp [*]; done), by repeat (first | exact Drawn0.refl _ | apply Drawn0.step)⟩
  · rw [if_neg c2] at H
    have c2b0 : decide (300 < (l0.length : Int)) = false := decide_eq_false c2
    have c2b1 : decide (300 < l0.length) = false := decide_eq_false (by omega)
    clear c2
    have H' := Aside0.mk H
    clear H
    go_enter Try.func22, Try.ntmps22
    go_wp2
    go_loopg [4] k (fun kq v4 w' => ∃ (x4_1 : Int), v4 = .int .i64 x4_1 ∧ Aside0 (spec_SumOfShares.l0 kq l0 0 x4_1 = some r) ∧ Aside0 (kq ≤ k) ∧ Drawn0 w w')
    case atStart => exact ⟨(0), (by first | rfl | (simp; done) | (simp [*]; done)), H', ⟨Nat.le_refl _⟩, by repeat (first | exact Drawn0.refl _ | apply Drawn0.step)⟩
    case round =>
      clear H'
      try clear c2
      try clear c2b0
      try clear c2b1
      try clear p2
      obtain ⟨x4_1, rfl, HA, HK1, ⟨m1, rfl⟩⟩ := hrel
      cases gk with
      | zero => exact absurd HA.out (by simp [spec_SumOfShares.l0])
      | succ k1 =>
        have H := HA.out
        clear HA
        simp only [spec_SumOfShares.l0] at H
        by_cases c3 : x4_1 < (l0.length : Int)
        · rw [if_pos c3] at H
          have c3b0 : decide (x4_1 < (l0.length : Int)) = true := decide_eq_true c3
          clear c3
          by_cases c4 : 0 ≤ x4_1
          · rw [if_pos c4] at H
            have c4b0 : decide (0 ≤ x4_1) = true := decide_eq_true c4
            clear c4
            by_cases c5 : (rd l0 x4_1) < 0
            · rw [if_pos c5] at H
              have c5b0 : decide ((rd l0 x4_1) < 0) = true := decide_eq_true c5
              clear c5
              obtain rfl := Option.some.inj H
              have p294 : 0 ≤ (x4_1 : Int) := of_decide_eq_true (by first | (with_reducible assumption) | assumption)
              have q294 : x4_1 < (l0.length : Int) := of_decide_eq_true (by first | (with_reducible assumption) | assumption)
              obtain ⟨ad294, e294, hx294_0⟩ := Kd.at_int HR0.out x4_1 p294 q294
              cases e294
              replace p294 := eq_true p294
              replace q294 := eq_true q294
              go_wp2
              go_ret
              exact ⟨by first | rfl | (simp; done) | (simp [*]; done), by repeat (first | exact Drawn0.refl _ | apply Drawn0.step)⟩
            · rw [if_neg c5] at H
              have c5b0 : decide ((rd l0 x4_1) < 0) = false := decide_eq_false c5
              clear c5
              have H' := Aside0.mk H
              clear H
              have p294 : 0 ≤ (x4_1 : Int) := of_decide_eq_true (by first | (with_reducible assumption) | assumption)
              have q294 : x4_1 < (l0.length : Int) := of_decide_eq_true (by first | (with_reducible assumption) | assumption)
              obtain ⟨ad294, e294, hx294_0⟩ := Kd.at_int HR0.out x4_1 p294 q294
              cases e294
              replace p294 := eq_true p294
              replace q294 := eq_true q294
              go_wp2
              go_roundg k1
              case measure => have := HK1.out; omega
              case rel => exact ⟨(wrap64 (x4_1 + 1)), (by first | rfl | (simp; done) | (simp [*]; done)), H', ⟨by have := HK1.out; omega⟩, by repeat (first | exact Drawn0.refl _ | apply Drawn0.step)⟩
          · rw [if_neg c4] at H
            exact absurd H (by simp)
        · rw [if_neg c3] at H
          have c3b0 : decide (x4_1 < (l0.length : Int)) = false := decide_eq_false c3
          clear c3
          have H' := Aside0.mk H
          clear H
          go_wp2
          go_loopg [3, 5] k1 (fun kq v3 v5 w' => ∃ (x3_2 : Int) (x5_2 : Int), v3 = .int .i64 x3_2 ∧ v5 = .int .i64 x5_2 ∧ Aside0 (spec_SumOfShares.l1 kq l0 x3_2 x5_2 = some r) ∧ Aside0 (kq ≤ k1) ∧ Drawn0 w w')
          case atStart => exact ⟨(0), (0), (by first | rfl | (simp; done) | (simp [*]; done)), (by first | rfl | (simp; done) | (simp [*]; done)), H', ⟨Nat.le_refl _⟩, by repeat (first | exact Drawn0.refl _ | apply Drawn0.step)⟩
          case round =>
            clear H'
            try clear c2
            try clear c2b0
            try clear c2b1
            try clear p2
            try clear q2
            try clear hx2
            try clear c3
            try clear c3b0
            try clear c4
            try clear c4b0
            try clear c5
            try clear c5b0
            try clear hx294_0
            try clear p2
            try clear p294
            try clear q294
            obtain ⟨x3_2, x5_2, rfl, rfl, HA, HK2, ⟨m2, rfl⟩⟩ := hrel
            cases gk with
            | zero => exact absurd HA.out (by simp [spec_SumOfShares.l1])
            | succ k2 =>
              have H := HA.out
              clear HA
              simp only [spec_SumOfShares.l1] at H
              by_cases c6 : x5_2 < (l0.length : Int)
              · rw [if_pos c6] at H
                have c6b0 : decide (x5_2 < (l0.length : Int)) = true := decide_eq_true c6
                clear c6
                by_cases c7 : 0 ≤ x5_2
                · rw [if_pos c7] at H
                  have c7b0 : decide (0 ≤ x5_2) = true := decide_eq_true c7
                  clear c7
                  by_cases c8 : (rd l0 x5_2) > (wrap64 (1000000000 - x3_2))
                  · rw [if_pos c8] at H
                    have c8b0 : decide ((wrap64 (1000000000 - x3_2)) < (rd l0 x5_2)) = true := decide_eq_true c8
                    clear c8
                    obtain rfl := Option.some.inj H
                    have p295 : 0 ≤ (x5_2 : Int) := of_decide_eq_true (by first | (with_reducible assumption) | assumption)
                    have q295 : x5_2 < (l0.length : Int) := of_decide_eq_true (by first | (with_reducible assumption) | assumption)
                    obtain ⟨ad295, e295, hx295_0⟩ := Kd.at_int HR0.out x5_2 p295 q295
                    cases e295
                    replace p295 := eq_true p295
                    replace q295 := eq_true q295
                    go_wp2
                    go_ret
                    exact ⟨by first | rfl | (simp; done) | (simp [*]; done), by repeat (first | exact Drawn0.refl _ | apply Drawn0.step)⟩
                  · rw [if_neg c8] at H
                    have c8b0 : decide ((wrap64 (1000000000 - x3_2)) < (rd l0 x5_2)) = false := decide_eq_false c8
                    clear c8
                    have H' := Aside0.mk H
                    clear H
                    have p295 : 0 ≤ (x5_2 : Int) := of_decide_eq_true (by first | (with_reducible assumption) | assumption)
                    have q295 : x5_2 < (l0.length : Int) := of_decide_eq_true (by first | (with_reducible assumption) | assumption)
                    obtain ⟨ad295, e295, hx295_0⟩ := Kd.at_int HR0.out x5_2 p295 q295
                    cases e295
                    replace p295 := eq_true p295
                    replace q295 := eq_true q295
                    have p296 : 0 ≤ (x5_2 : Int) := of_decide_eq_true (by first | (with_reducible assumption) | assumption)
                    have q296 : x5_2 < (l0.length : Int) := of_decide_eq_true (by first | (with_reducible assumption) | assumption)
                    obtain ⟨ad296, e296, hx296_0⟩ := Kd.at_int HR0.out x5_2 p296 q296
                    obtain rfl : ad295 = ad296 := (by injection e296)
                    replace p296 := eq_true p296
                    replace q296 := eq_true q296
                    go_wp2
                    go_roundg k2
                    case measure => have := HK1.out; have := HK2.out; omega
                    case rel => exact ⟨(wrap64 (x3_2 + (rd l0 x5_2))), (wrap64 (x5_2 + 1)), (by first | rfl | (simp; done) | (simp [*]; done)), (by first | rfl | (simp; done) | (simp [*]; done)), H', ⟨by have := HK1.out; have := HK2.out; omega⟩, by repeat (first | exact Drawn0.refl _ | apply Drawn0.step)⟩
                · rw [if_neg c7] at H
                  exact absurd H (by simp)
              · rw [if_neg c6] at H
                have c6b0 : decide (x5_2 < (l0.length : Int)) = false := decide_eq_false c6
                clear c6
                obtain rfl := Option.some.inj H
                go_wp2
                go_ret
                exact ⟨by first | rfl | (simp; done) | (simp [*]; done), by repeat (first | exact Drawn0.refl _ | apply Drawn0.step)⟩
theorem spec_SumOfShares.l0.st {x0 : List Int} {x3 : Int} {x4 : Int} {r : (Int)} (H : Ev (fun k => if x4 < (x0.length : Int) then (if 0 ≤ x4 then (if (rd x0 x4) < 0 then (some 0) else (spec_SumOfShares.l0 k x0 x3 (wrap64 (x4 + 1)))) else (none)) else (spec_SumOfShares.l1 k x0 x3 0)) r) : Ev (fun k => spec_SumOfShares.l0 k x0 x3 x4) r := Ev.step (fun k => spec_SumOfShares.l0.eq_2 x0 x3 x4 k) H
theorem spec_SumOfShares.l1.st {x0 : List Int} {x3 : Int} {x5 : Int} {r : (Int)} (H : Ev (fun k => if x5 < (x0.length : Int) then (if 0 ≤ x5 then (if (rd x0 x5) > (wrap64 (1000000000 - x3)) then (some 1000000000) else (spec_SumOfShares.l1 k x0 (wrap64 (x3 + (rd x0 x5))) (wrap64 (x5 + 1)))) else (none)) else (some x3)) r) : Ev (fun k => spec_SumOfShares.l1 k x0 x3 x5) r := Ev.step (fun k => spec_SumOfShares.l1.eq_2 x0 x3 x5 k) H

/-! ### spec_LeftOver: function 10 -/
def spec_LeftOver.f (k : Nat) (a0 : Int) (l1 : List (S44)) : Option (Int) := (spec_ShareOut.f k a0 l1).bind fun bt297 => (if bt297.2 = true then ((spec_SumOfShares.f k bt297.1).bind fun t301 => (some (wrap64 (a0 - t301)))) else (some (-1)))
theorem spec_LeftOver.mono : ∀ a0 a1 k, LeO (spec_LeftOver.f k a0 a1) (spec_LeftOver.f (k + 1) a0 a1) := by
  intro a0 a1 k
  unfold spec_LeftOver.f
  repeat' first
      | (with_reducible exact spec_ShareOut.mono _ _ _)
      | (with_reducible exact spec_SumOfShares.mono _ _)
      | (with_reducible exact LeO.refl _)
      | (with_reducible exact LeO.none _)
      | (with_reducible refine LeO.ite ?_ ?_)
      | (with_reducible refine LeO.bind ?_ (fun _ => ?_))
      | exact spec_ShareOut.mono _ _ _
      | exact spec_SumOfShares.mono _ _
      | exact LeO.none _
      | refine LeO.ite ?_ ?_
      | refine LeO.bind ?_ (fun _ => ?_)
set_option maxHeartbeats 8000000 in
set_option maxRecDepth 100000 in
theorem spec_LeftOver.calls (k : Nat) (a0 : Int) (A1 : Option Addr) (c1 : Nat) (l1 : List (S44)) (r : Int) (w : World) (hr1 : Kd.C k44 w A1 l1.length l1) (hc1 : l1.length ≤ c1) (h : spec_LeftOver.f k a0 l1 = some r) :
    Calls Try.prog 10 #[.int .i64 a0, .slice A1 l1.length c1] w fun e w' => e = .returned (.int .i64 r) ∧ Below w.heap.size w w' := by
  have HR1 := Aside0.mk hr1
  have HC1 := Aside0.mk hc1
  clear hr1 hc1
  have HB := Aside0.mk (Below.refl w.heap.size w)
  have H : ((spec_ShareOut.f k a0 l1).bind fun bt297 => (if bt297.2 = true then ((spec_SumOfShares.f k bt297.1).bind fun t301 => (some (wrap64 (a0 - t301)))) else (some (-1)))) = some r := h
  clear h
  replace H := Option.bind_eq_some_iff.mp H
  obtain ⟨⟨t297, t298⟩, A30, H⟩ := H
  replace H : (if t298 = true then ((spec_SumOfShares.f k t297).bind fun t301 => (some (wrap64 (a0 - t301)))) else (some (-1))) = some r := H
  have A3 := Aside0.mk A30
  clear A30
  by_cases c4 : t298 = true
  · subst c4
    have H1 : ((spec_SumOfShares.f k t297).bind fun t301 => (some (wrap64 (a0 - t301)))) = some r := by rw [if_pos rfl] at H; exact H
    clear H
    have H := H1
    clear H1
    replace H := Option.bind_eq_some_iff.mp H
    obtain ⟨t301, A50, H⟩ := H
    replace H : (some (wrap64 (a0 - t301))) = some r := H
    have A5 := Aside0.mk A50
    clear A50
    obtain rfl := Option.some.inj H
    go_enter Try.func10, Try.ntmps10
    go_wp2_with (first | ((with_reducible refine gate_callee (f := 6) rfl ?_); refine goesL_ (some 10) rfl rfl Try.func6 (by kernel_rfl) rfl #[.int .i64 a0, .slice A1 l1.length c1] rfl (by (try simp only [List.map_toArray, List.map_cons, List.map_nil]); first | done | rfl | (simp only [List.length_drop, List.length_take]; rfl)) ?_; (with_reducible refine (spec_ShareOut.calls k a0 _ _ l1 t297 true _ ?side1 ?side2 A3.out).mono ?_); (case side1 => repeat (first | exact HR1.out | (with_reducible refine Kd.C_alloc ?_ _) | (with_reducible refine Kd.C_drewN ?_ _) | (with_reducible refine Kd.C_drew ?_))); (case side2 => exact HC1.out); rintro e w6 ⟨v299, rfl, ho0, hb⟩; refine ⟨_, rfl, ?_⟩; have n0_ := Aside0.mk (Kd.R_lower ho0 (below_size (by repeat (first | (with_reducible first | exact HB.out | apply below_alloc | apply pw_below_drewN | apply below_drew1) | exact HB.out)))); have n1_ := Aside0.mk (below_step (by repeat (first | (with_reducible first | exact HB.out | apply below_alloc | apply pw_below_drewN | apply below_drew1) | exact HB.out)) hb); clear HB; have HO300 := n0_; have HB := n1_; clear n0_ n1_; (try clear hb); (try clear hb2); (try clear hk); (try clear hi); (try clear ho0); obtain ⟨Ao7, co7, eo7⟩ := Kd.R_slice HO300.out; subst eo7) | ((with_reducible refine gate_callee (f := 22) rfl ?_); refine goesL_ (some 17) rfl rfl Try.func22 (by kernel_rfl) rfl #[.slice Ao7 t297.length co7] rfl (by (try simp only [List.map_toArray, List.map_cons, List.map_nil]); first | done | rfl | (simp only [List.length_drop, List.length_take]; rfl)) ?_; (with_reducible refine (spec_SumOfShares.calls k _ _ t297 t301 _ ?side1 ?side2 A5.out).mono ?_); (case side1 => repeat (first | exact (Kd.R_reads' HO300.out).2.2 | (with_reducible refine Kd.C_alloc ?_ _) | (with_reducible refine Kd.C_drewN ?_ _) | (with_reducible refine Kd.C_drew ?_))); (case side2 => exact (Kd.R_reads' HO300.out).2.1); rintro e w' ⟨rfl, ⟨nd, rfl⟩⟩; refine ⟨_, rfl, ?_⟩))
    go_ret
    exact ⟨by first | rfl | (simp [errW_none, errW_some] <;> rfl) | (simp [*, errW_none, errW_some] <;> rfl), by repeat (first | (with_reducible first | exact HB.out | apply below_alloc | apply pw_below_drewN | apply below_drew1) | exact HB.out)⟩
  · replace c4 := Bool.eq_false_iff.mpr c4
    subst c4
    have H1 : (some (-1)) = some r := by rw [if_neg (show ¬ (false = true) by decide)] at H; exact H
    clear H
    have H := H1
    clear H1
    obtain rfl := Option.some.inj H
    go_enter Try.func10, Try.ntmps10
    go_wp2_with (first | ((with_reducible refine gate_callee (f := 6) rfl ?_); refine goesL_ (some 10) rfl rfl Try.func6 (by kernel_rfl) rfl #[.int .i64 a0, .slice A1 l1.length c1] rfl (by (try simp only [List.map_toArray, List.map_cons, List.map_nil]); first | done | rfl | (simp only [List.length_drop, List.length_take]; rfl)) ?_; (with_reducible refine (spec_ShareOut.calls k a0 _ _ l1 t297 false _ ?side1 ?side2 A3.out).mono ?_); (case side1 => repeat (first | exact HR1.out | (with_reducible refine Kd.C_alloc ?_ _) | (with_reducible refine Kd.C_drewN ?_ _) | (with_reducible refine Kd.C_drew ?_))); (case side2 => exact HC1.out); rintro e w8 ⟨v299, rfl, ho0, hb⟩; refine ⟨_, rfl, ?_⟩; have n0_ := Aside0.mk (Kd.R_lower ho0 (below_size (by repeat (first | (with_reducible first | exact HB.out | apply below_alloc | apply pw_below_drewN | apply below_drew1) | exact HB.out)))); have n1_ := Aside0.mk (below_step (by repeat (first | (with_reducible first | exact HB.out | apply below_alloc | apply pw_below_drewN | apply below_drew1) | exact HB.out)) hb); clear HB; have HO300 := n0_; have HB := n1_; clear n0_ n1_; (try clear hb); (try clear hb2); (try clear hk); (try clear hi); (try clear ho0)))
    go_ret
    exact ⟨by first | rfl | (simp [errW_none, errW_some] <;> rfl) | (simp [*, errW_none, errW_some] <;> rfl), by repeat (first | (with_reducible first | exact HB.out | apply below_alloc | apply pw_below_drewN | apply below_drew1) | exact HB.out)⟩

end Go.Proofs.Ytmbkgiagkhhifaa.PA
