/- Functions of the program, of the reference and of the statements: each as a plain Lean function, and a proof that the machine's call answers what that one answers. Written by a program: the kit's print, with contracts of our own for what it does not take. No condition. -/
import Derived.Test.YtclmebhdpdjpdaaPAx0
import Derived.Test.YtclmebhdpdjpdaaPAx1
import Derived.Test.YtclmebhdpdjpdaaPAx2
namespace Go.Proofs.Ytclmebhdpdjpdaa.PA
open Go.RowKit Go.Proofs.YtclmebhdpdjpdaaW.PrintWords Go.Proofs.YtclmebhdpdjpdaaW.PrintLast Go.Proofs.YtclmebhdpdjpdaaW.PrintMore
attribute [local go_sem] max2_int min2_int max_two min_two max_three min_three max_four min_four   -- for this text's walks alone
set_option linter.unusedVariables false
set_option linter.unusedSimpArgs false

/-! ### laws_FnTrends: function 3 -/
mutual
def laws_FnTrends.j0 : Nat → List Int → Int → List Int → Int → Int → Bool → Bool → Option (Bool)
 | 0, _, _, _, _, _, _, _ => none
 | k + 1, x3, x4, x7, x9, x10, x11, x89 => if x89 = true then (some false) else (laws_FnTrends.l0 k x3 x4 x7 x9 x10 x11 0)
def laws_FnTrends.l0 : Nat → List Int → Int → List Int → Int → Int → Bool → Int → Option (Bool)
 | 0, _, _, _, _, _, _, _ => none
 | k + 1, x3, x4, x7, x9, x10, x11, x15 => if x15 < (x7.length : Int) then (if 0 ≤ x15 then (if (rd x7 x15) < x9 then (some false) else (if (rd x7 x15) > x10 then (some false) else (laws_FnTrends.l0 k x3 x4 x7 x9 x10 x11 (wrap64 (x15 + 1))))) else (none)) else ((impl_MedianOf.f x3).bind fun bt318 => ((impl_PercentileOf.f x3 500).bind fun bt320 => (if (bt318.2 != bt320.2) = true then (laws_FnTrends.j2 k x3 x4 true) else (if bt318.1 = bt320.1 then (if (bt318.2 != x11) = true then (laws_FnTrends.j2 k x3 x4 true) else (if bt318.2 = true then (if bt318.1 < x9 then (laws_FnTrends.j2 k x3 x4 true) else (laws_FnTrends.j2 k x3 x4 (decide (bt318.1 > x10)))) else (laws_FnTrends.j2 k x3 x4 false))) else (laws_FnTrends.j2 k x3 x4 true)))))
def laws_FnTrends.j2 : Nat → List Int → Int → Bool → Option (Bool)
 | 0, _, _, _ => none
 | k + 1, x3, x4, x145 => if x145 = true then (some false) else ((impl_ClipSpikes.f k x3 x4).bind fun bt322 => ((impl_PercentileOf.f x3 x4).bind fun bt326 => (if (bt322.2 != bt326.2) = true then (some false) else (laws_FnTrends.l1 k x3 bt322.1 bt326.1 0))))
def laws_FnTrends.l1 : Nat → List Int → List Int → Int → Int → Option (Bool)
 | 0, _, _, _, _ => none
 | k + 1, x3, x20, x22, x24 => if x24 < (x20.length : Int) then (if 0 ≤ x24 then (if (rd x20 x24) > x22 then (some false) else (laws_FnTrends.l1 k x3 x20 x22 (wrap64 (x24 + 1)))) else (none)) else ((impl_SlopeOf.f k x3).bind fun bt329 => ((spec_SlopeOf.f k x3).bind fun bt332 => (if (bt329.2.2 != bt332.2.2) = true then (laws_FnTrends.j4 k x3 bt329.1 bt329.2.2 true) else (if bt329.1 = bt332.1 then (if bt329.2.1 = bt332.2.1 then (laws_FnTrends.j4 k x3 bt329.1 bt329.2.2 (decide (bt329.2.1 < 1))) else (laws_FnTrends.j4 k x3 bt329.1 bt329.2.2 true)) else (laws_FnTrends.j4 k x3 bt329.1 bt329.2.2 true)))))
def laws_FnTrends.j4 : Nat → List Int → Int → Bool → Bool → Option (Bool)
 | 0, _, _, _, _ => none
 | k + 1, x3, x25, x27, x201 => if x201 = true then (some false) else ((impl_DiffsOf.f k x3).bind fun t335 => (laws_FnTrends.l2 k x3 x25 x27 t335 false false 0))
def laws_FnTrends.l2 : Nat → List Int → Int → Bool → List Int → Bool → Bool → Int → Option (Bool)
 | 0, _, _, _, _, _, _, _ => none
 | k + 1, x3, x25, x27, x31, x32, x33, x34 => if x34 < (x31.length : Int) then (if x32 = true then (if x33 = true then (laws_FnTrends.l2 k x3 x25 x27 x31 true true (wrap64 (x34 + 1))) else (if 0 ≤ x34 then (laws_FnTrends.l2 k x3 x25 x27 x31 true (decide ((rd x31 x34) > 0)) (wrap64 (x34 + 1))) else (none))) else (if 0 ≤ x34 then (if x33 = true then (laws_FnTrends.l2 k x3 x25 x27 x31 (decide ((rd x31 x34) < 0)) true (wrap64 (x34 + 1))) else (laws_FnTrends.l2 k x3 x25 x27 x31 (decide ((rd x31 x34) < 0)) (decide ((rd x31 x34) > 0)) (wrap64 (x34 + 1)))) else (none))) else (if x27 = true then (if (x31.length : Int) = (wrap64 ((x3.length : Int) - 1)) then (if x32 = true then (if x33 = true then (some true) else (some (decide (x25 ≤ 0)))) else (if x25 ≥ 0 then (if x33 = true then (some true) else (some (decide (x25 ≤ 0)))) else (some false))) else (some false)) else (some true))
end
def laws_FnTrends.f (k : Nat) (l0 : List Int) : Option (Bool) := (laws_big.f l0).bind fun t296 => (if t296 = true then (some true) else ((spec_DrawSmoothOf.f k l0).bind fun bt297 => ((spec_SmoothOf.f k bt297.1 bt297.2).bind fun bt301 => ((impl_SmoothOf.f k bt297.1 bt297.2).bind fun bt305 => ((impl_RangeOf.f k bt297.1).bind fun bt309 => ((spec_RangeOf.f k bt297.1).bind fun bt312 => (if (bt305.2 != bt301.2) = true then (laws_FnTrends.j0 k bt297.1 bt297.2 bt305.1 bt309.1 bt309.2.1 bt309.2.2 true) else ((laws_same.f k bt305.1 bt301.1).bind fun t315 => (if t315 = true then (if (bt309.2.2 != bt312.2.2) = true then (laws_FnTrends.j0 k bt297.1 bt297.2 bt305.1 bt309.1 bt309.2.1 bt309.2.2 true) else (if bt309.1 = bt312.1 then (laws_FnTrends.j0 k bt297.1 bt297.2 bt305.1 bt309.1 bt309.2.1 bt309.2.2 (bt309.2.1 != bt312.2.1)) else (laws_FnTrends.j0 k bt297.1 bt297.2 bt305.1 bt309.1 bt309.2.1 bt309.2.2 true))) else (laws_FnTrends.j0 k bt297.1 bt297.2 bt305.1 bt309.1 bt309.2.1 bt309.2.2 true))))))))))
theorem laws_FnTrends.mono_l : ∀ k, (∀ y0 y1 y2 y3 y4 y5 y6, LeO (laws_FnTrends.j0 k y0 y1 y2 y3 y4 y5 y6) (laws_FnTrends.j0 (k + 1) y0 y1 y2 y3 y4 y5 y6)) ∧ (∀ y0 y1 y2 y3 y4 y5 y6, LeO (laws_FnTrends.l0 k y0 y1 y2 y3 y4 y5 y6) (laws_FnTrends.l0 (k + 1) y0 y1 y2 y3 y4 y5 y6)) ∧ (∀ y0 y1 y2, LeO (laws_FnTrends.j2 k y0 y1 y2) (laws_FnTrends.j2 (k + 1) y0 y1 y2)) ∧ (∀ y0 y1 y2 y3, LeO (laws_FnTrends.l1 k y0 y1 y2 y3) (laws_FnTrends.l1 (k + 1) y0 y1 y2 y3)) ∧ (∀ y0 y1 y2 y3, LeO (laws_FnTrends.j4 k y0 y1 y2 y3) (laws_FnTrends.j4 (k + 1) y0 y1 y2 y3)) ∧ (∀ y0 y1 y2 y3 y4 y5 y6, LeO (laws_FnTrends.l2 k y0 y1 y2 y3 y4 y5 y6) (laws_FnTrends.l2 (k + 1) y0 y1 y2 y3 y4 y5 y6))
 | 0 => ⟨fun _ _ _ _ _ _ _ r h => by simp [laws_FnTrends.j0] at h, fun _ _ _ _ _ _ _ r h => by simp [laws_FnTrends.l0] at h, fun _ _ _ r h => by simp [laws_FnTrends.j2] at h, fun _ _ _ _ r h => by simp [laws_FnTrends.l1] at h, fun _ _ _ _ r h => by simp [laws_FnTrends.j4] at h, fun _ _ _ _ _ _ _ r h => by simp [laws_FnTrends.l2] at h⟩
 | k + 1 => by
  obtain ⟨ih0, ih1, ih2, ih3, ih4, ih5⟩ := laws_FnTrends.mono_l k
  refine ⟨?_, ?_, ?_, ?_, ?_, ?_⟩
  ·
   intro y0 y1 y2 y3 y4 y5 y6
   unfold laws_FnTrends.j0
   repeat' first
   | (with_reducible exact ih0 _ _ _ _ _ _ _)
   | (with_reducible exact ih1 _ _ _ _ _ _ _)
   | (with_reducible exact ih2 _ _ _)
   | (with_reducible exact ih3 _ _ _ _)
   | (with_reducible exact ih4 _ _ _ _)
   | (with_reducible exact ih5 _ _ _ _ _ _ _)
   | (with_reducible exact impl_ClipSpikes.mono _ _ _)
   | (with_reducible exact impl_DiffsOf.mono _ _)
   | (with_reducible exact impl_RangeOf.mono _ _)
   | (with_reducible exact impl_SlopeOf.mono _ _)
   | (with_reducible exact impl_SmoothOf.mono _ _ _)
   | (with_reducible exact laws_same.mono _ _ _)
   | (with_reducible exact spec_DrawSmoothOf.mono _ _)
   | (with_reducible exact spec_RangeOf.mono _ _)
   | (with_reducible exact spec_SlopeOf.mono _ _)
   | (with_reducible exact spec_SmoothOf.mono _ _ _)
   | (with_reducible exact LeO.refl _)
   | (with_reducible exact LeO.none _)
   | (with_reducible refine LeO.ite ?_ ?_)
   | (with_reducible refine LeO.bind ?_ (fun _ => ?_))
   | exact ih0 _ _ _ _ _ _ _
   | exact ih1 _ _ _ _ _ _ _
   | exact ih2 _ _ _
   | exact ih3 _ _ _ _
   | exact ih4 _ _ _ _
   | exact ih5 _ _ _ _ _ _ _
   | exact impl_ClipSpikes.mono _ _ _
   | exact impl_DiffsOf.mono _ _
   | exact impl_RangeOf.mono _ _
   | exact impl_SlopeOf.mono _ _
   | exact impl_SmoothOf.mono _ _ _
   | exact laws_same.mono _ _ _
   | exact spec_DrawSmoothOf.mono _ _
   | exact spec_RangeOf.mono _ _
   | exact spec_SlopeOf.mono _ _
   | exact spec_SmoothOf.mono _ _ _
   | exact LeO.none _
   | refine LeO.ite ?_ ?_
   | refine LeO.bind ?_ (fun _ => ?_)
  ·
   intro y0 y1 y2 y3 y4 y5 y6
   unfold laws_FnTrends.l0
   repeat' first
   | (with_reducible exact ih0 _ _ _ _ _ _ _)
   | (with_reducible exact ih1 _ _ _ _ _ _ _)
   | (with_reducible exact ih2 _ _ _)
   | (with_reducible exact ih3 _ _ _ _)
   | (with_reducible exact ih4 _ _ _ _)
   | (with_reducible exact ih5 _ _ _ _ _ _ _)
   | (with_reducible exact impl_ClipSpikes.mono _ _ _)
   | (with_reducible exact impl_DiffsOf.mono _ _)
   | (with_reducible exact impl_RangeOf.mono _ _)
   | (with_reducible exact impl_SlopeOf.mono _ _)
   | (with_reducible exact impl_SmoothOf.mono _ _ _)
   | (with_reducible exact laws_same.mono _ _ _)
   | (with_reducible exact spec_DrawSmoothOf.mono _ _)
   | (with_reducible exact spec_RangeOf.mono _ _)
   | (with_reducible exact spec_SlopeOf.mono _ _)
   | (with_reducible exact spec_SmoothOf.mono _ _ _)
   | (with_reducible exact LeO.refl _)
   | (with_reducible exact LeO.none _)
   | (with_reducible refine LeO.ite ?_ ?_)
   | (with_reducible refine LeO.bind ?_ (fun _ => ?_))
   | exact ih0 _ _ _ _ _ _ _
   | exact ih1 _ _ _ _ _ _ _
   | exact ih2 _ _ _
   | exact ih3 _ _ _ _
   | exact ih4 _ _ _ _
   | exact ih5 _ _ _ _ _ _ _
   | exact impl_ClipSpikes.mono _ _ _
   | exact impl_DiffsOf.mono _ _
   | exact impl_RangeOf.mono _ _
   | exact impl_SlopeOf.mono _ _
   | exact impl_SmoothOf.mono _ _ _
   | exact laws_same.mono _ _ _
   | exact spec_DrawSmoothOf.mono _ _
   | exact spec_RangeOf.mono _ _
   | exact spec_SlopeOf.mono _ _
   | exact spec_SmoothOf.mono _ _ _
   | exact LeO.none _
   | refine LeO.ite ?_ ?_
   | refine LeO.bind ?_ (fun _ => ?_)
  ·
   intro y0 y1 y2
   unfold laws_FnTrends.j2
   repeat' first
   | (with_reducible exact ih0 _ _ _ _ _ _ _)
   | (with_reducible exact ih1 _ _ _ _ _ _ _)
   | (with_reducible exact ih2 _ _ _)
   | (with_reducible exact ih3 _ _ _ _)
   | (with_reducible exact ih4 _ _ _ _)
   | (with_reducible exact ih5 _ _ _ _ _ _ _)
   | (with_reducible exact impl_ClipSpikes.mono _ _ _)
   | (with_reducible exact impl_DiffsOf.mono _ _)
   | (with_reducible exact impl_RangeOf.mono _ _)
   | (with_reducible exact impl_SlopeOf.mono _ _)
   | (with_reducible exact impl_SmoothOf.mono _ _ _)
   | (with_reducible exact laws_same.mono _ _ _)
   | (with_reducible exact spec_DrawSmoothOf.mono _ _)
   | (with_reducible exact spec_RangeOf.mono _ _)
   | (with_reducible exact spec_SlopeOf.mono _ _)
   | (with_reducible exact spec_SmoothOf.mono _ _ _)
   | (with_reducible exact LeO.refl _)
   | (with_reducible exact LeO.none _)
   | (with_reducible refine LeO.ite ?_ ?_)
   | (with_reducible refine LeO.bind ?_ (fun _ => ?_))
   | exact ih0 _ _ _ _ _ _ _
   | exact ih1 _ _ _ _ _ _ _
   | exact ih2 _ _ _
   | exact ih3 _ _ _ _
   | exact ih4 _ _ _ _
   | exact ih5 _ _ _ _ _ _ _
   | exact impl_ClipSpikes.mono _ _ _
   | exact impl_DiffsOf.mono _ _
   | exact impl_RangeOf.mono _ _
   | exact impl_SlopeOf.mono _ _
   | exact impl_SmoothOf.mono _ _ _
   | exact laws_same.mono _ _ _
   | exact spec_DrawSmoothOf.mono _ _
   | exact spec_RangeOf.mono _ _
   | exact spec_SlopeOf.mono _ _
   | exact spec_SmoothOf.mono _ _ _
   | exact LeO.none _
   | refine LeO.ite ?_ ?_
   | refine LeO.bind ?_ (fun _ => ?_)
  ·
   intro y0 y1 y2 y3
   unfold laws_FnTrends.l1
   repeat' first
   | (with_reducible exact ih0 _ _ _ _ _ _ _)
   | (with_reducible exact ih1 _ _ _ _ _ _ _)
   | (with_reducible exact ih2 _ _ _)
   | (with_reducible exact ih3 _ _ _ _)
   | (with_reducible exact ih4 _ _ _ _)
   | (with_reducible exact ih5 _ _ _ _ _ _ _)
   | (with_reducible exact impl_ClipSpikes.mono _ _ _)
   | (with_reducible exact impl_DiffsOf.mono _ _)
   | (with_reducible exact impl_RangeOf.mono _ _)
   | (with_reducible exact impl_SlopeOf.mono _ _)
   | (with_reducible exact impl_SmoothOf.mono _ _ _)
   | (with_reducible exact laws_same.mono _ _ _)
   | (with_reducible exact spec_DrawSmoothOf.mono _ _)
   | (with_reducible exact spec_RangeOf.mono _ _)
   | (with_reducible exact spec_SlopeOf.mono _ _)
   | (with_reducible exact spec_SmoothOf.mono _ _ _)
   | (with_reducible exact LeO.refl _)
   | (with_reducible exact LeO.none _)
   | (with_reducible refine LeO.ite ?_ ?_)
   | (with_reducible refine LeO.bind ?_ (fun _ => ?_))
   | exact ih0 _ _ _ _ _ _ _
   | exact ih1 _ _ _ _ _ _ _
   | exact ih2 _ _ _
   | exact ih3 _ _ _ _
   | exact ih4 _ _ _ _
   | exact ih5 _ _ _ _ _ _ _
   | exact impl_ClipSpikes.mono _ _ _
   | exact impl_DiffsOf.mono _ _
   | exact impl_RangeOf.mono _ _
   | exact impl_SlopeOf.mono _ _
   | exact impl_SmoothOf.mono _ _ _
   | exact laws_same.mono _ _ _
   | exact spec_DrawSmoothOf.mono _ _
   | exact spec_RangeOf.mono _ _
   | exact spec_SlopeOf.mono _ _
   | exact spec_SmoothOf.mono _ _ _
   | exact LeO.none _
   | refine LeO.ite ?_ ?_
   | refine LeO.bind ?_ (fun _ => ?_)
  ·
   intro y0 y1 y2 y3
   unfold laws_FnTrends.j4
   repeat' first
   | (with_reducible exact ih0 _ _ _ _ _ _ _)
   | (with_reducible exact ih1 _ _ _ _ _ _ _)
   | (with_reducible exact ih2 _ _ _)
   | (with_reducible exact ih3 _ _ _ _)
   | (with_reducible exact ih4 _ _ _ _)
   | (with_reducible exact ih5 _ _ _ _ _ _ _)
   | (with_reducible exact impl_ClipSpikes.mono _ _ _)
   | (with_reducible exact impl_DiffsOf.mono _ _)
   | (with_reducible exact impl_RangeOf.mono _ _)
   | (with_reducible exact impl_SlopeOf.mono _ _)
   | (with_reducible exact impl_SmoothOf.mono _ _ _)
   | (with_reducible exact laws_same.mono _ _ _)
   | (with_reducible exact spec_DrawSmoothOf.mono _ _)
   | (with_reducible exact spec_RangeOf.mono _ _)
   | (with_reducible exact spec_SlopeOf.mono _ _)
   | (with_reducible exact spec_SmoothOf.mono _ _ _)
   | (with_reducible exact LeO.refl _)
   | (with_reducible exact LeO.none _)
   | (with_reducible refine LeO.ite ?_ ?_)
   | (with_reducible refine LeO.bind ?_ (fun _ => ?_))
   | exact ih0 _ _ _ _ _ _ _
   | exact ih1 _ _ _ _ _ _ _
   | exact ih2 _ _ _
   | exact ih3 _ _ _ _
   | exact ih4 _ _ _ _
   | exact ih5 _ _ _ _ _ _ _
   | exact impl_ClipSpikes.mono _ _ _
   | exact impl_DiffsOf.mono _ _
   | exact impl_RangeOf.mono _ _
   | exact impl_SlopeOf.mono _ _
   | exact impl_SmoothOf.mono _ _ _
   | exact laws_same.mono _ _ _
   | exact spec_DrawSmoothOf.mono _ _
   | exact spec_RangeOf.mono _ _
   | exact spec_SlopeOf.mono _ _
   | exact spec_SmoothOf.mono _ _ _
   | exact LeO.none _
   | refine LeO.ite ?_ ?_
   | refine LeO.bind ?_ (fun _ => ?_)
  ·
   intro y0 y1 y2 y3 y4 y5 y6
   unfold laws_FnTrends.l2
   repeat' first
   | (with_reducible exact ih0 _ _ _ _ _ _ _)
   | (with_reducible exact ih1 _ _ _ _ _ _ _)
   | (with_reducible exact ih2 _ _ _)
   | (with_reducible exact ih3 _ _ _ _)
   | (with_reducible exact ih4 _ _ _ _)
   | (with_reducible exact ih5 _ _ _ _ _ _ _)
   | (with_reducible exact impl_ClipSpikes.mono _ _ _)
   | (with_reducible exact impl_DiffsOf.mono _ _)
   | (with_reducible exact impl_RangeOf.mono _ _)
   | (with_reducible exact impl_SlopeOf.mono _ _)
   | (with_reducible exact impl_SmoothOf.mono _ _ _)
   | (with_reducible exact laws_same.mono _ _ _)
   | (with_reducible exact spec_DrawSmoothOf.mono _ _)
   | (with_reducible exact spec_RangeOf.mono _ _)
   | (with_reducible exact spec_SlopeOf.mono _ _)
   | (with_reducible exact spec_SmoothOf.mono _ _ _)
   | (with_reducible exact LeO.refl _)
   | (with_reducible exact LeO.none _)
   | (with_reducible refine LeO.ite ?_ ?_)
   | (with_reducible refine LeO.bind ?_ (fun _ => ?_))
   | exact ih0 _ _ _ _ _ _ _
   | exact ih1 _ _ _ _ _ _ _
   | exact ih2 _ _ _
   | exact ih3 _ _ _ _
   | exact ih4 _ _ _ _
   | exact ih5 _ _ _ _ _ _ _
   | exact impl_ClipSpikes.mono _ _ _
   | exact impl_DiffsOf.mono _ _
   | exact impl_RangeOf.mono _ _
   | exact impl_SlopeOf.mono _ _
   | exact impl_SmoothOf.mono _ _ _
   | exact laws_same.mono _ _ _
   | exact spec_DrawSmoothOf.mono _ _
   | exact spec_RangeOf.mono _ _
   | exact spec_SlopeOf.mono _ _
   | exact spec_SmoothOf.mono _ _ _
   | exact LeO.none _
   | refine LeO.ite ?_ ?_
   | refine LeO.bind ?_ (fun _ => ?_)
theorem laws_FnTrends.mono : ∀ a0 k, LeO (laws_FnTrends.f k a0) (laws_FnTrends.f (k + 1) a0) := by
 intro a0 k
 obtain ⟨ih0, ih1, ih2, ih3, ih4, ih5⟩ := laws_FnTrends.mono_l k
 unfold laws_FnTrends.f
 repeat' first
   | (with_reducible exact ih0 _ _ _ _ _ _ _)
   | (with_reducible exact ih1 _ _ _ _ _ _ _)
   | (with_reducible exact ih2 _ _ _)
   | (with_reducible exact ih3 _ _ _ _)
   | (with_reducible exact ih4 _ _ _ _)
   | (with_reducible exact ih5 _ _ _ _ _ _ _)
   | (with_reducible exact impl_ClipSpikes.mono _ _ _)
   | (with_reducible exact impl_DiffsOf.mono _ _)
   | (with_reducible exact impl_RangeOf.mono _ _)
   | (with_reducible exact impl_SlopeOf.mono _ _)
   | (with_reducible exact impl_SmoothOf.mono _ _ _)
   | (with_reducible exact laws_same.mono _ _ _)
   | (with_reducible exact spec_DrawSmoothOf.mono _ _)
   | (with_reducible exact spec_RangeOf.mono _ _)
   | (with_reducible exact spec_SlopeOf.mono _ _)
   | (with_reducible exact spec_SmoothOf.mono _ _ _)
   | (with_reducible exact LeO.refl _)
   | (with_reducible exact LeO.none _)
   | (with_reducible refine LeO.ite ?_ ?_)
   | (with_reducible refine LeO.bind ?_ (fun _ => ?_))
   | exact ih0 _ _ _ _ _ _ _
   | exact ih1 _ _ _ _ _ _ _
   | exact ih2 _ _ _
   | exact ih3 _ _ _ _
   | exact ih4 _ _ _ _
   | exact ih5 _ _ _ _ _ _ _
   | exact impl_ClipSpikes.mono _ _ _
   | exact impl_DiffsOf.mono _ _
   | exact impl_RangeOf.mono _ _
   | exact impl_SlopeOf.mono _ _
   | exact impl_SmoothOf.mono _ _ _
   | exact laws_same.mono _ _ _
   | exact spec_DrawSmoothOf.mono _ _
   | exact spec_RangeOf.mono _ _
   | exact spec_SlopeOf.mono _ _
   | exact spec_SmoothOf.mono _ _ _
   | exact LeO.none _
   | refine LeO.ite ?_ ?_
   | refine LeO.bind ?_ (fun _ => ?_)
theorem laws_FnTrends.j0.no {k : Nat} {a : List Int} {b : Int} {c : List Int} {d : Int} {e : Int} {f : Bool} : laws_FnTrends.j0 k a b c d e f true ≠ some true := by cases k <;> simp [laws_FnTrends.j0]
theorem laws_FnTrends.j2.no {k : Nat} {a : List Int} {b : Int} : laws_FnTrends.j2 k a b true ≠ some true := by cases k <;> simp [laws_FnTrends.j2]
theorem laws_FnTrends.j4.no {k : Nat} {a : List Int} {b : Int} {c : Bool} : laws_FnTrends.j4 k a b c true ≠ some true := by cases k <;> simp [laws_FnTrends.j4]
set_option maxHeartbeats 8000000 in
set_option maxRecDepth 100000 in
theorem laws_FnTrends.calls (k : Nat) (A0 : Option Addr) (c0 : Nat) (l0 : List Int) (r : Bool) (w : World) (hr0 : Kd.C (Kd.int .u8) w A0 l0.length l0) (hc0 : l0.length ≤ c0) (h : laws_FnTrends.f k l0 = some r) (ht_ : r = true := by rfl) :
  Calls Try.prog 3 #[.slice A0 l0.length c0] w fun e w' => e = .returned (.bool r) ∧ Below w.heap.size w w' := by
 have HR0 := Aside0.mk hr0
 have HC0 := Aside0.mk hc0
 clear hr0 hc0
 have HB := Aside0.mk (Below.refl w.heap.size w)
 have H : ((laws_big.f l0).bind fun t296 => (if t296 = true then (some true) else ((spec_DrawSmoothOf.f k l0).bind fun bt297 => ((spec_SmoothOf.f k bt297.1 bt297.2).bind fun bt301 => ((impl_SmoothOf.f k bt297.1 bt297.2).bind fun bt305 => ((impl_RangeOf.f k bt297.1).bind fun bt309 => ((spec_RangeOf.f k bt297.1).bind fun bt312 => (if (bt305.2 != bt301.2) = true then (laws_FnTrends.j0 k bt297.1 bt297.2 bt305.1 bt309.1 bt309.2.1 bt309.2.2 true) else ((laws_same.f k bt305.1 bt301.1).bind fun t315 => (if t315 = true then (if (bt309.2.2 != bt312.2.2) = true then (laws_FnTrends.j0 k bt297.1 bt297.2 bt305.1 bt309.1 bt309.2.1 bt309.2.2 true) else (if bt309.1 = bt312.1 then (laws_FnTrends.j0 k bt297.1 bt297.2 bt305.1 bt309.1 bt309.2.1 bt309.2.2 (bt309.2.1 != bt312.2.1)) else (laws_FnTrends.j0 k bt297.1 bt297.2 bt305.1 bt309.1 bt309.2.1 bt309.2.2 true))) else (laws_FnTrends.j0 k bt297.1 bt297.2 bt305.1 bt309.1 bt309.2.1 bt309.2.2 true))))))))))) = some r := h
 clear h
 replace H := Option.bind_eq_some_iff.mp H
 obtain ⟨t296, A20, H⟩ := H
 replace H : (if t296 = true then (some true) else ((spec_DrawSmoothOf.f k l0).bind fun bt297 => ((spec_SmoothOf.f k bt297.1 bt297.2).bind fun bt301 => ((impl_SmoothOf.f k bt297.1 bt297.2).bind fun bt305 => ((impl_RangeOf.f k bt297.1).bind fun bt309 => ((spec_RangeOf.f k bt297.1).bind fun bt312 => (if (bt305.2 != bt301.2) = true then (laws_FnTrends.j0 k bt297.1 bt297.2 bt305.1 bt309.1 bt309.2.1 bt309.2.2 true) else ((laws_same.f k bt305.1 bt301.1).bind fun t315 => (if t315 = true then (if (bt309.2.2 != bt312.2.2) = true then (laws_FnTrends.j0 k bt297.1 bt297.2 bt305.1 bt309.1 bt309.2.1 bt309.2.2 true) else (if bt309.1 = bt312.1 then (laws_FnTrends.j0 k bt297.1 bt297.2 bt305.1 bt309.1 bt309.2.1 bt309.2.2 (bt309.2.1 != bt312.2.1)) else (laws_FnTrends.j0 k bt297.1 bt297.2 bt305.1 bt309.1 bt309.2.1 bt309.2.2 true))) else (laws_FnTrends.j0 k bt297.1 bt297.2 bt305.1 bt309.1 bt309.2.1 bt309.2.2 true)))))))))) = some r := H
 have A2 := Aside0.mk A20
 clear A20
 by_cases c3 : t296 = true
 ·
  subst c3
  have H1 : (some true) = some r := by rw [if_pos rfl] at H; exact H
  clear H
  have H := H1
  clear H1
  first
  | exact absurd (H.trans (congrArg some ht_)) (by decide)
  |
   obtain rfl := Option.some.inj H
   go_enter Try.func3, Try.ntmps3
   go_wp2_with (first | ((with_reducible refine gate_callee (f := 4) rfl ?_); refine goesL_ (some 36) rfl rfl Try.func4 (by kernel_rfl) rfl #[.slice A0 l0.length c0] rfl (by (try simp only [List.map_toArray, List.map_cons, List.map_nil]); first | done | rfl | (simp only [List.length_drop, List.length_take]; rfl)) ?_; (with_reducible refine (laws_big.calls _ _ l0 true _ ?side1 ?side2 A2.out).mono ?_); (case side1 => exact Pst.qc HR0.out); (case side2 => exact HC0.out); rintro e w' ⟨rfl, ⟨nd, rfl⟩⟩; refine ⟨_, rfl, ?_⟩))
   go_ret
   exact ⟨by first | rfl | (simp [errW_none, errW_some] <;> rfl) | (simp [*, errW_none, errW_some] <;> rfl), by repeat (first | (with_reducible first | exact HB.out | apply below_alloc | apply pw_below_drewN | apply below_drew1) | exact HB.out)⟩
 ·
  replace c3 := Bool.eq_false_iff.mpr c3
  subst c3
  have H1 : ((spec_DrawSmoothOf.f k l0).bind fun bt297 => ((spec_SmoothOf.f k bt297.1 bt297.2).bind fun bt301 => ((impl_SmoothOf.f k bt297.1 bt297.2).bind fun bt305 => ((impl_RangeOf.f k bt297.1).bind fun bt309 => ((spec_RangeOf.f k bt297.1).bind fun bt312 => (if (bt305.2 != bt301.2) = true then (laws_FnTrends.j0 k bt297.1 bt297.2 bt305.1 bt309.1 bt309.2.1 bt309.2.2 true) else ((laws_same.f k bt305.1 bt301.1).bind fun t315 => (if t315 = true then (if (bt309.2.2 != bt312.2.2) = true then (laws_FnTrends.j0 k bt297.1 bt297.2 bt305.1 bt309.1 bt309.2.1 bt309.2.2 true) else (if bt309.1 = bt312.1 then (laws_FnTrends.j0 k bt297.1 bt297.2 bt305.1 bt309.1 bt309.2.1 bt309.2.2 (bt309.2.1 != bt312.2.1)) else (laws_FnTrends.j0 k bt297.1 bt297.2 bt305.1 bt309.1 bt309.2.1 bt309.2.2 true))) else (laws_FnTrends.j0 k bt297.1 bt297.2 bt305.1 bt309.1 bt309.2.1 bt309.2.2 true))))))))) = some r := by rw [if_neg (show ¬ (false = true) by decide)] at H; exact H
  clear H
  have H := H1
  clear H1
  replace H := Option.bind_eq_some_iff.mp H
  obtain ⟨⟨t297, t298⟩, A40, H⟩ := H
  replace H : ((spec_SmoothOf.f k t297 t298).bind fun bt301 => ((impl_SmoothOf.f k t297 t298).bind fun bt305 => ((impl_RangeOf.f k t297).bind fun bt309 => ((spec_RangeOf.f k t297).bind fun bt312 => (if (bt305.2 != bt301.2) = true then (laws_FnTrends.j0 k t297 t298 bt305.1 bt309.1 bt309.2.1 bt309.2.2 true) else ((laws_same.f k bt305.1 bt301.1).bind fun t315 => (if t315 = true then (if (bt309.2.2 != bt312.2.2) = true then (laws_FnTrends.j0 k t297 t298 bt305.1 bt309.1 bt309.2.1 bt309.2.2 true) else (if bt309.1 = bt312.1 then (laws_FnTrends.j0 k t297 t298 bt305.1 bt309.1 bt309.2.1 bt309.2.2 (bt309.2.1 != bt312.2.1)) else (laws_FnTrends.j0 k t297 t298 bt305.1 bt309.1 bt309.2.1 bt309.2.2 true))) else (laws_FnTrends.j0 k t297 t298 bt305.1 bt309.1 bt309.2.1 bt309.2.2 true)))))))) = some r := H
  have A4 := Aside0.mk A40
  clear A40
  replace H := Option.bind_eq_some_iff.mp H
  obtain ⟨⟨t301, t302⟩, A50, H⟩ := H
  replace H : ((impl_SmoothOf.f k t297 t298).bind fun bt305 => ((impl_RangeOf.f k t297).bind fun bt309 => ((spec_RangeOf.f k t297).bind fun bt312 => (if (bt305.2 != t302) = true then (laws_FnTrends.j0 k t297 t298 bt305.1 bt309.1 bt309.2.1 bt309.2.2 true) else ((laws_same.f k bt305.1 t301).bind fun t315 => (if t315 = true then (if (bt309.2.2 != bt312.2.2) = true then (laws_FnTrends.j0 k t297 t298 bt305.1 bt309.1 bt309.2.1 bt309.2.2 true) else (if bt309.1 = bt312.1 then (laws_FnTrends.j0 k t297 t298 bt305.1 bt309.1 bt309.2.1 bt309.2.2 (bt309.2.1 != bt312.2.1)) else (laws_FnTrends.j0 k t297 t298 bt305.1 bt309.1 bt309.2.1 bt309.2.2 true))) else (laws_FnTrends.j0 k t297 t298 bt305.1 bt309.1 bt309.2.1 bt309.2.2 true))))))) = some r := H
  have A5 := Aside0.mk A50
  clear A50
  replace H := Option.bind_eq_some_iff.mp H
  obtain ⟨⟨t305, t306⟩, A60, H⟩ := H
  replace H : ((impl_RangeOf.f k t297).bind fun bt309 => ((spec_RangeOf.f k t297).bind fun bt312 => (if (t306 != t302) = true then (laws_FnTrends.j0 k t297 t298 t305 bt309.1 bt309.2.1 bt309.2.2 true) else ((laws_same.f k t305 t301).bind fun t315 => (if t315 = true then (if (bt309.2.2 != bt312.2.2) = true then (laws_FnTrends.j0 k t297 t298 t305 bt309.1 bt309.2.1 bt309.2.2 true) else (if bt309.1 = bt312.1 then (laws_FnTrends.j0 k t297 t298 t305 bt309.1 bt309.2.1 bt309.2.2 (bt309.2.1 != bt312.2.1)) else (laws_FnTrends.j0 k t297 t298 t305 bt309.1 bt309.2.1 bt309.2.2 true))) else (laws_FnTrends.j0 k t297 t298 t305 bt309.1 bt309.2.1 bt309.2.2 true)))))) = some r := H
  have A6 := Aside0.mk A60
  clear A60
  replace H := Option.bind_eq_some_iff.mp H
  obtain ⟨⟨t309, t310, t311⟩, A70, H⟩ := H
  replace H : ((spec_RangeOf.f k t297).bind fun bt312 => (if (t306 != t302) = true then (laws_FnTrends.j0 k t297 t298 t305 t309 t310 t311 true) else ((laws_same.f k t305 t301).bind fun t315 => (if t315 = true then (if (t311 != bt312.2.2) = true then (laws_FnTrends.j0 k t297 t298 t305 t309 t310 t311 true) else (if t309 = bt312.1 then (laws_FnTrends.j0 k t297 t298 t305 t309 t310 t311 (t310 != bt312.2.1)) else (laws_FnTrends.j0 k t297 t298 t305 t309 t310 t311 true))) else (laws_FnTrends.j0 k t297 t298 t305 t309 t310 t311 true))))) = some r := H
  have A7 := Aside0.mk A70
  clear A70
  replace H := Option.bind_eq_some_iff.mp H
  obtain ⟨⟨t312, t313, t314⟩, A80, H⟩ := H
  replace H : (if (t306 != t302) = true then (laws_FnTrends.j0 k t297 t298 t305 t309 t310 t311 true) else ((laws_same.f k t305 t301).bind fun t315 => (if t315 = true then (if (t311 != t314) = true then (laws_FnTrends.j0 k t297 t298 t305 t309 t310 t311 true) else (if t309 = t312 then (laws_FnTrends.j0 k t297 t298 t305 t309 t310 t311 (t310 != t313)) else (laws_FnTrends.j0 k t297 t298 t305 t309 t310 t311 true))) else (laws_FnTrends.j0 k t297 t298 t305 t309 t310 t311 true)))) = some r := H
  have A8 := Aside0.mk A80
  clear A80
  have HC9 := Aside0.mk H
  clear H
  go_enter Try.func3, Try.ntmps3
  go_upto_region 8 with (first | ((with_reducible refine gate_callee (f := 4) rfl ?_); refine goesL_ (some 36) rfl rfl Try.func4 (by kernel_rfl) rfl #[.slice A0 l0.length c0] rfl (by (try simp only [List.map_toArray, List.map_cons, List.map_nil]); first | done | rfl | (simp only [List.length_drop, List.length_take]; rfl)) ?_; (with_reducible refine (laws_big.calls _ _ l0 false _ ?side1 ?side2 A2.out).mono ?_); (case side1 => exact Pst.qc HR0.out); (case side2 => exact HC0.out); rintro e w' ⟨rfl, ⟨nd, rfl⟩⟩; refine ⟨_, rfl, ?_⟩) | ((with_reducible refine gate_callee (f := 5) rfl ?_); refine goesL_ (some 39) rfl rfl Try.func5 (by kernel_rfl) rfl #[.slice A0 l0.length c0] rfl (by (try simp only [List.map_toArray, List.map_cons, List.map_nil]); first | done | rfl | (simp only [List.length_drop, List.length_take]; rfl)) ?_; (with_reducible refine (spec_DrawSmoothOf.calls k _ _ l0 t297 t298 _ ?side1 ?side2 A4.out).mono ?_); (case side1 => exact Pst.qc HR0.out); (case side2 => exact HC0.out); rintro e w10 ⟨v299, rfl, ho0, hb⟩; refine ⟨_, rfl, ?_⟩; have n0_ := Aside0.mk (Kd.R_lower ho0 (below_size Pst.bel)); have n1_ := Aside0.mk (below_step Pst.bel hb); clear HB; have HO300 := n0_; have HB := n1_; clear n0_ n1_; (try clear hb); (try clear hb2); (try clear hk); (try clear hi); (try clear ho0); obtain ⟨Ao11, co11, eo11⟩ := Kd.R_slice HO300.out; subst eo11) | ((with_reducible refine gate_callee (f := 6) rfl ?_); refine goesL_ (some 45) rfl rfl Try.func6 (by kernel_rfl) rfl #[.slice Ao11 t297.length co11, .int .i64 t298] rfl (by (try simp only [List.map_toArray, List.map_cons, List.map_nil]); first | done | rfl | (simp only [List.length_drop, List.length_take]; rfl)) ?_; (with_reducible refine (spec_SmoothOf.calls k _ _ t297 t298 t301 t302 _ ?side1 ?side2 A5.out).mono ?_); (case side1 => exact Pst.qc (Kd.R_reads' HO300.out).2.2); (case side2 => exact (Kd.R_reads' HO300.out).2.1); rintro e w12 ⟨v303, rfl, ho0, hb⟩; refine ⟨_, rfl, ?_⟩; have n0_ := Aside0.mk (Kd.R_elder' (Pst.qr HO300.out) (Kd.R_base ho0) hb); have n1_ := Aside0.mk (Kd.R_lower (Kd.R_new' ho0 (Kd.R_lt (Pst.qr HO300.out))) (below_size Pst.bel)); have n2_ := Aside0.mk (below_step Pst.bel hb); clear HO300; clear HB; have HO300 := n0_; have HO304 := n1_; have HB := n2_; clear n0_ n1_ n2_; (try clear hb); (try clear hb2); (try clear hk); (try clear hi); (try clear ho0)) | ((with_reducible refine gate_callee (f := 7) rfl ?_); refine goesL_ (some 51) rfl rfl Try.func7 (by kernel_rfl) rfl #[.slice Ao11 t297.length co11, .int .i64 t298] rfl (by (try simp only [List.map_toArray, List.map_cons, List.map_nil]); first | done | rfl | (simp only [List.length_drop, List.length_take]; rfl)) ?_; (with_reducible refine (impl_SmoothOf.calls k _ _ t297 t298 t305 t306 _ ?side1 ?side2 A6.out).mono ?_); (case side1 => exact Pst.qc (Kd.R_reads' HO300.out).2.2); (case side2 => exact (Kd.R_reads' HO300.out).2.1); rintro e w13 ⟨v307, rfl, ho0, hb⟩; refine ⟨_, rfl, ?_⟩; have n0_ := Aside0.mk (Kd.R_elder' (Pst.qr HO300.out) (Kd.R_base ho0) hb); have n1_ := Aside0.mk (Kd.R_elder' (Pst.qr HO304.out) (Kd.R_base ho0) hb); have n2_ := Aside0.mk (Kd.R_lower (Kd.R_new' (Kd.R_new' ho0 (Kd.R_lt (Pst.qr HO300.out))) (Kd.R_lt (Pst.qr HO304.out))) (below_size Pst.bel)); have n3_ := Aside0.mk (below_step Pst.bel hb); clear HO300; clear HO304; clear HB; have HO300 := n0_; have HO304 := n1_; have HO308 := n2_; have HB := n3_; clear n0_ n1_ n2_ n3_; (try clear hb); (try clear hb2); (try clear hk); (try clear hi); (try clear ho0)) | ((with_reducible refine gate_callee (f := 8) rfl ?_); refine goesL_ (some 56) rfl rfl Try.func8 (by kernel_rfl) rfl #[.slice Ao11 t297.length co11] rfl (by (try simp only [List.map_toArray, List.map_cons, List.map_nil]); first | done | rfl | (simp only [List.length_drop, List.length_take]; rfl)) ?_; (with_reducible refine (impl_RangeOf.calls k _ _ t297 t309 t310 t311 _ ?side1 ?side2 A7.out).mono ?_); (case side1 => exact Pst.qc (Kd.R_reads' HO300.out).2.2); (case side2 => exact (Kd.R_reads' HO300.out).2.1); rintro e w14 ⟨rfl, hb⟩; refine ⟨_, rfl, ?_⟩; have n0_ := Aside0.mk (Kd.R_below (Pst.qr HO300.out) hb); have n1_ := Aside0.mk (Kd.R_below (Pst.qr HO304.out) hb); have n2_ := Aside0.mk (Kd.R_below (Pst.qr HO308.out) hb); have n3_ := Aside0.mk (below_step Pst.bel hb); clear HO300; clear HO304; clear HO308; clear HB; have HO300 := n0_; have HO304 := n1_; have HO308 := n2_; have HB := n3_; clear n0_ n1_ n2_ n3_; (try clear hb); (try clear hb2); (try clear hk); (try clear hi)) | ((with_reducible refine gate_callee (f := 9) rfl ?_); refine goesL_ (some 62) rfl rfl Try.func9 (by kernel_rfl) rfl #[.slice Ao11 t297.length co11] rfl (by (try simp only [List.map_toArray, List.map_cons, List.map_nil]); first | done | rfl | (simp only [List.length_drop, List.length_take]; rfl)) ?_; (with_reducible refine (spec_RangeOf.calls k _ _ t297 t312 t313 t314 _ ?side1 ?side2 A8.out).mono ?_); (case side1 => exact Pst.qc (Kd.R_reads' HO300.out).2.2); (case side2 => exact (Kd.R_reads' HO300.out).2.1); rintro e w15 ⟨rfl, hb⟩; refine ⟨_, rfl, ?_⟩; have n0_ := Aside0.mk (Kd.R_below (Pst.qr HO300.out) hb); have n1_ := Aside0.mk (Kd.R_below (Pst.qr HO304.out) hb); have n2_ := Aside0.mk (Kd.R_below (Pst.qr HO308.out) hb); have n3_ := Aside0.mk (below_step Pst.bel hb); clear HO300; clear HO304; clear HO308; clear HB; have HO300 := n0_; have HO304 := n1_; have HO308 := n2_; have HB := n3_; clear n0_ n1_ n2_ n3_; (try clear hb); (try clear hb2); (try clear hk); (try clear hi)))
  (try simp only [Act.put, List.setIfInBounds_toArray, List.set_cons_zero, List.set_cons_succ])
  go_cut [89] (fun v89 wc => ∃ (kq : Nat) (x89_8 : Bool), v89 = .bool x89_8 ∧ Aside0 (laws_FnTrends.j0 kq t297 t298 t305 t309 t310 t311 x89_8 = some r) ∧ Aside0 (kq ≤ k) ∧ Aside0 (Kd.R (Kd.int .i64) 3 wc w.heap.size (fun k_ => some k_ ≠ (v307 : Value).ownBlock) (.slice Ao11 t297.length co11) t297) ∧ Aside0 (Kd.R (Kd.int .i64) 3 wc w.heap.size (fun k_ => some k_ ≠ ((.slice Ao11 t297.length co11) : Value).ownBlock) v307 t305) ∧ Aside0 (Below w.heap.size w wc))
  case first =>
   have H := HC9.out
   clear HC9
   by_cases c16 : (t306 != t302) = true
   ·
    rw [if_pos c16] at H
    have c16b0 : (t306 != t302) = true := c16
    (try (have c16b1 : decide (t306 = t302) = false := by simpa using c16))
    (try (have c16b2 : (t306 == t302) = false := by simpa using c16))
    (try (have c16b3 : ¬ (t306 = t302) := by simpa using c16))
    clear c16
    (first | rw [c16b0] | (simp only [i64_w, i32_w]; rw [c16b0]) | skip)
    first | exact absurd (H.trans (congrArg some ht_)) laws_FnTrends.j0.no | exact absurd (H.trans (congrArg some ht_)) laws_FnTrends.j2.no | exact absurd (H.trans (congrArg some ht_)) laws_FnTrends.j4.no
   ·
    rw [if_neg c16] at H
    have c16b0 : (t306 != t302) = false := by simpa using c16
    (try (have c16b1 : decide (t306 = t302) = true := by simpa using c16))
    (try (have c16b2 : (t306 == t302) = true := by simpa using c16))
    clear c16
    (first | rw [c16b0] | (simp only [i64_w, i32_w]; rw [c16b0]) | skip)
    replace H := Option.bind_eq_some_iff.mp H
    obtain ⟨t315, A170, H⟩ := H
    replace H : (if t315 = true then (if (t311 != t314) = true then (laws_FnTrends.j0 k t297 t298 t305 t309 t310 t311 true) else (if t309 = t312 then (laws_FnTrends.j0 k t297 t298 t305 t309 t310 t311 (t310 != t313)) else (laws_FnTrends.j0 k t297 t298 t305 t309 t310 t311 true))) else (laws_FnTrends.j0 k t297 t298 t305 t309 t310 t311 true)) = some r := H
    have A17 := Aside0.mk A170
    clear A170
    by_cases c18 : t315 = true
    ·
     subst c18
     have H1 : (if (t311 != t314) = true then (laws_FnTrends.j0 k t297 t298 t305 t309 t310 t311 true) else (if t309 = t312 then (laws_FnTrends.j0 k t297 t298 t305 t309 t310 t311 (t310 != t313)) else (laws_FnTrends.j0 k t297 t298 t305 t309 t310 t311 true))) = some r := by rw [if_pos rfl] at H; exact H
     clear H
     have H := H1
     clear H1
     by_cases c19 : (t311 != t314) = true
     ·
      rw [if_pos c19] at H
      have c19b0 : (t311 != t314) = true := c19
      (try (have c19b1 : decide (t311 = t314) = false := by simpa using c19))
      (try (have c19b2 : (t311 == t314) = false := by simpa using c19))
      (try (have c19b3 : ¬ (t311 = t314) := by simpa using c19))
      clear c19
      first | exact absurd (H.trans (congrArg some ht_)) laws_FnTrends.j0.no | exact absurd (H.trans (congrArg some ht_)) laws_FnTrends.j2.no | exact absurd (H.trans (congrArg some ht_)) laws_FnTrends.j4.no
     ·
      rw [if_neg c19] at H
      have c19b0 : (t311 != t314) = false := by simpa using c19
      (try (have c19b1 : decide (t311 = t314) = true := by simpa using c19))
      (try (have c19b2 : (t311 == t314) = true := by simpa using c19))
      clear c19
      by_cases c22 : t309 = t312
      ·
       rw [if_pos c22] at H
       have c22b0 : (t309 == t312) = true := beq_iff_eq.mpr c22
       have c22b1 : (t309 != t312) = false := bne_eq_false_iff_eq.mpr c22
       clear c22
       have H' := Aside0.mk H
       clear H
       obtain ⟨Ao23, co23, eo23⟩ := Kd.R_slice HO308.out
       subst eo23
       obtain ⟨Ao24, co24, eo24⟩ := Kd.R_slice HO304.out
       subst eo24
       go_wp2_with (first | (go_at_call 10; (with_reducible refine (laws_same.calls k _ _ t305 _ _ t301 true _ ?side1 ?side2 ?side3 ?side4 A17.out).mono ?_); (case side1 => exact Pst.qc (Kd.R_reads' HO308.out).2.2); (case side2 => exact (Kd.R_reads' HO308.out).2.1); (case side3 => exact Pst.qc (Kd.R_reads' HO304.out).2.2); (case side4 => exact (Kd.R_reads' HO304.out).2.1); rintro e w' ⟨rfl, ⟨nd, rfl⟩⟩))
       go_meet
       case rel => exact ⟨_, ((t310 != t313)), (by first | rfl | (simp; done) | (simp [*]; done)), H', ⟨by first | omega | exact Nat.le_refl _⟩, ⟨by (with_reducible repeat (first | apply Kd.R_alloc | apply Kd.R_drewN | apply Kd.R_drew)); exact Kd.R_mono HO300.out (fun _ hk => hk.2)⟩, ⟨by (with_reducible repeat (first | apply Kd.R_alloc | apply Kd.R_drewN | apply Kd.R_drew)); exact Kd.R_mono HO308.out (fun _ hk => hk.1.2)⟩, ⟨by repeat (first | (with_reducible first | exact HB.out | apply below_alloc | apply pw_below_drewN | apply below_drew1) | exact HB.out)⟩⟩
      ·
       rw [if_neg c22] at H
       have c22b0 : (t309 == t312) = false := beq_eq_false_iff_ne.mpr c22
       have c22b1 : (t309 != t312) = true := bne_iff_ne.mpr c22
       first | exact absurd (H.trans (congrArg some ht_)) laws_FnTrends.j0.no | exact absurd (H.trans (congrArg some ht_)) laws_FnTrends.j2.no | exact absurd (H.trans (congrArg some ht_)) laws_FnTrends.j4.no
    ·
     replace c18 := Bool.eq_false_iff.mpr c18
     subst c18
     have H1 : (laws_FnTrends.j0 k t297 t298 t305 t309 t310 t311 true) = some r := by rw [if_neg (show ¬ (false = true) by decide)] at H; exact H
     clear H
     have H := H1
     clear H1
     first | exact absurd (H.trans (congrArg some ht_)) laws_FnTrends.j0.no | exact absurd (H.trans (congrArg some ht_)) laws_FnTrends.j2.no | exact absurd (H.trans (congrArg some ht_)) laws_FnTrends.j4.no
  case rest =>
   as_aux_lemma =>
    clear HC9
    try clear c1
    try clear c2
    try clear p2
    try clear c3
    try clear c4
    try clear c5
    try clear c6
    try clear c7
    try clear c8
    try clear c9
    try clear c16
    try clear c16b0
    try clear c16b1
    try clear c16b2
    try clear c18
    try clear c19
    try clear c19b0
    try clear c19b1
    try clear c19b2
    try clear c22
    try clear c22b0
    try clear c22b1
    obtain ⟨kq, x89_8, rfl, HA, HJ8, HO_3, HO_7, HB⟩ := hcut
    cases kq with
    | zero => exact absurd HA.out (by simp [laws_FnTrends.j0])
    | succ kj8 =>
     have H := HA.out
     clear HA
     simp only [laws_FnTrends.j0] at H
     by_cases c29 : x89_8 = true
     ·
      subst c29
      have H1 : (some false) = some r := by rw [if_pos rfl] at H; exact H
      clear H
      have H := H1
      clear H1
      exact absurd (H.trans (congrArg some ht_)) (by decide)
     ·
      replace c29 := Bool.eq_false_iff.mpr c29
      subst c29
      have H1 : (laws_FnTrends.l0 kj8 t297 t298 t305 t309 t310 t311 0) = some r := by rw [if_neg (show ¬ (false = true) by decide)] at H; exact H
      clear H
      have H := H1
      clear H1
      have H' := Aside0.mk H
      clear H
      go_wp2
      go_loopg [15] kj8 (fun kq v15 w' => ∃ (x15_2 : Int), v15 = .int .i64 x15_2 ∧ Aside0 (laws_FnTrends.l0 kq t297 t298 t305 t309 t310 t311 x15_2 = some r) ∧ Aside0 (kq ≤ kj8) ∧ Aside0 (Kd.R (Kd.int .i64) 3 w' w.heap.size (fun k_ => some k_ ≠ (v307 : Value).ownBlock) (.slice Ao11 t297.length co11) t297) ∧ Aside0 (Kd.R (Kd.int .i64) 3 w' w.heap.size (fun k_ => some k_ ≠ ((.slice Ao11 t297.length co11) : Value).ownBlock) v307 t305) ∧ Aside0 (Below w.heap.size w w'))
      case atStart => exact ⟨(0), (by first | rfl | (simp; done) | (simp [*]; done)), H', ⟨Nat.le_refl _⟩, ⟨by (with_reducible repeat (first | apply Kd.R_alloc | apply Kd.R_drewN | apply Kd.R_drew)); exact HO_3.out⟩, ⟨by (with_reducible repeat (first | apply Kd.R_alloc | apply Kd.R_drewN | apply Kd.R_drew)); exact HO_7.out⟩, ⟨by repeat (first | (with_reducible first | exact HB.out | apply below_alloc | apply pw_below_drewN | apply below_drew1) | exact HB.out)⟩⟩
      case round =>
       as_aux_lemma =>
        clear H'
        try clear c1
        try clear c2
        try clear p2
        try clear c3
        try clear c4
        try clear c5
        try clear c6
        try clear c7
        try clear c8
        try clear c9
        try clear c16
        try clear c16b0
        try clear c16b1
        try clear c16b2
        try clear c18
        try clear c19
        try clear c19b0
        try clear c19b1
        try clear c19b2
        try clear c22
        try clear c22b0
        try clear c22b1
        try clear c29
        try clear p2
        obtain ⟨x15_2, rfl, HA, HK2, HO_3, HO_7, HB⟩ := hrel
        cases gk with
        | zero => exact absurd HA.out (by simp [laws_FnTrends.l0])
        | succ k2 =>
         have H := HA.out
         clear HA
         simp only [laws_FnTrends.l0] at H
         by_cases c30 : x15_2 < (t305.length : Int)
         ·
          rw [if_pos c30] at H
          have c30b0 : decide (x15_2 < (t305.length : Int)) = true := decide_eq_true c30
          clear c30
          by_cases c31 : 0 ≤ x15_2
          ·
           rw [if_pos c31] at H
           have c31b0 : decide (0 ≤ x15_2) = true := decide_eq_true c31
           clear c31
           by_cases c32 : (rd t305 x15_2) < t309
           ·
            rw [if_pos c32] at H
            have c32b0 : decide ((rd t305 x15_2) < t309) = true := decide_eq_true c32
            clear c32
            first
            | exact absurd (H.trans (congrArg some ht_)) (by decide)
            |
             obtain rfl := Option.some.inj H
             obtain ⟨Ao33, co33, eo33⟩ := Kd.R_slice HO_7.out
             subst eo33
             have p316 : 0 ≤ (x15_2 : Int) := of_decide_eq_true (by first | (with_reducible assumption) | assumption)
             have q316 : x15_2 < (t305.length : Int) := of_decide_eq_true (by first | (with_reducible assumption) | assumption)
             obtain ⟨ad316, e316, hx316_0⟩ := Kd.at_int (Kd.R_reads' HO_7.out).2.2 x15_2 p316 q316
             cases e316
             replace p316 := eq_true p316
             replace q316 := eq_true q316
             go_wp2
             go_ret
             exact ⟨by first | rfl | (simp [errW_none, errW_some] <;> rfl) | (simp [*, errW_none, errW_some] <;> rfl), by repeat (first | (with_reducible first | exact HB.out | apply below_alloc | apply pw_below_drewN | apply below_drew1) | exact HB.out)⟩
           ·
            rw [if_neg c32] at H
            have c32b0 : decide ((rd t305 x15_2) < t309) = false := decide_eq_false c32
            clear c32
            by_cases c34 : (rd t305 x15_2) > t310
            ·
             rw [if_pos c34] at H
             have c34b0 : decide (t310 < (rd t305 x15_2)) = true := decide_eq_true c34
             clear c34
             first
             | exact absurd (H.trans (congrArg some ht_)) (by decide)
             |
              obtain rfl := Option.some.inj H
              obtain ⟨Ao35, co35, eo35⟩ := Kd.R_slice HO_7.out
              subst eo35
              have p316 : 0 ≤ (x15_2 : Int) := of_decide_eq_true (by first | (with_reducible assumption) | assumption)
              have q316 : x15_2 < (t305.length : Int) := of_decide_eq_true (by first | (with_reducible assumption) | assumption)
              obtain ⟨ad316, e316, hx316_0⟩ := Kd.at_int (Kd.R_reads' HO_7.out).2.2 x15_2 p316 q316
              cases e316
              replace p316 := eq_true p316
              replace q316 := eq_true q316
              have p317 : 0 ≤ (x15_2 : Int) := of_decide_eq_true (by first | (with_reducible assumption) | assumption)
              have q317 : x15_2 < (t305.length : Int) := of_decide_eq_true (by first | (with_reducible assumption) | assumption)
              obtain ⟨ad317, e317, hx317_0⟩ := Kd.at_int (Kd.R_reads' HO_7.out).2.2 x15_2 p317 q317
              obtain rfl : ad316 = ad317 := (by injection e317)
              replace p317 := eq_true p317
              replace q317 := eq_true q317
              go_wp2
              go_ret
              exact ⟨by first | rfl | (simp [errW_none, errW_some] <;> rfl) | (simp [*, errW_none, errW_some] <;> rfl), by repeat (first | (with_reducible first | exact HB.out | apply below_alloc | apply pw_below_drewN | apply below_drew1) | exact HB.out)⟩
            ·
             rw [if_neg c34] at H
             have c34b0 : decide (t310 < (rd t305 x15_2)) = false := decide_eq_false c34
             clear c34
             have H' := Aside0.mk H
             clear H
             obtain ⟨Ao36, co36, eo36⟩ := Kd.R_slice HO_7.out
             subst eo36
             have p316 : 0 ≤ (x15_2 : Int) := of_decide_eq_true (by first | (with_reducible assumption) | assumption)
             have q316 : x15_2 < (t305.length : Int) := of_decide_eq_true (by first | (with_reducible assumption) | assumption)
             obtain ⟨ad316, e316, hx316_0⟩ := Kd.at_int (Kd.R_reads' HO_7.out).2.2 x15_2 p316 q316
             cases e316
             replace p316 := eq_true p316
             replace q316 := eq_true q316
             have p317 : 0 ≤ (x15_2 : Int) := of_decide_eq_true (by first | (with_reducible assumption) | assumption)
             have q317 : x15_2 < (t305.length : Int) := of_decide_eq_true (by first | (with_reducible assumption) | assumption)
             obtain ⟨ad317, e317, hx317_0⟩ := Kd.at_int (Kd.R_reads' HO_7.out).2.2 x15_2 p317 q317
             obtain rfl : ad316 = ad317 := (by injection e317)
             replace p317 := eq_true p317
             replace q317 := eq_true q317
             go_wp2
             go_roundg k2
             case measure => have := HJ8.out; have := HK2.out; omega
             case rel => exact ⟨(wrap64 (x15_2 + 1)), (by first | rfl | (simp; done) | (simp [*]; done)), H', ⟨by have := HJ8.out; have := HK2.out; omega⟩, ⟨by (with_reducible repeat (first | apply Kd.R_alloc | apply Kd.R_drewN | apply Kd.R_drew)); exact HO_3.out⟩, ⟨by (with_reducible repeat (first | apply Kd.R_alloc | apply Kd.R_drewN | apply Kd.R_drew)); exact HO_7.out⟩, ⟨by repeat (first | (with_reducible first | exact HB.out | apply below_alloc | apply pw_below_drewN | apply below_drew1) | exact HB.out)⟩⟩
          ·
           rw [if_neg c31] at H
           exact absurd H (by simp)
         ·
          rw [if_neg c30] at H
          have c30b0 : decide (x15_2 < (t305.length : Int)) = false := decide_eq_false c30
          clear c30
          replace H := Option.bind_eq_some_iff.mp H
          obtain ⟨⟨t318, t319⟩, A370, H⟩ := H
          replace H : ((impl_PercentileOf.f t297 500).bind fun bt320 => (if (t319 != bt320.2) = true then (laws_FnTrends.j2 k2 t297 t298 true) else (if t318 = bt320.1 then (if (t319 != t311) = true then (laws_FnTrends.j2 k2 t297 t298 true) else (if t319 = true then (if t318 < t309 then (laws_FnTrends.j2 k2 t297 t298 true) else (laws_FnTrends.j2 k2 t297 t298 (decide (t318 > t310)))) else (laws_FnTrends.j2 k2 t297 t298 false))) else (laws_FnTrends.j2 k2 t297 t298 true)))) = some r := H
          have A37 := Aside0.mk A370
          clear A370
          replace H := Option.bind_eq_some_iff.mp H
          obtain ⟨⟨t320, t321⟩, A380, H⟩ := H
          replace H : (if (t319 != t321) = true then (laws_FnTrends.j2 k2 t297 t298 true) else (if t318 = t320 then (if (t319 != t311) = true then (laws_FnTrends.j2 k2 t297 t298 true) else (if t319 = true then (if t318 < t309 then (laws_FnTrends.j2 k2 t297 t298 true) else (laws_FnTrends.j2 k2 t297 t298 (decide (t318 > t310)))) else (laws_FnTrends.j2 k2 t297 t298 false))) else (laws_FnTrends.j2 k2 t297 t298 true))) = some r := H
          have A38 := Aside0.mk A380
          clear A380
          have HC39 := Aside0.mk H
          clear H
          obtain ⟨Ao40, co40, eo40⟩ := Kd.R_slice HO_7.out
          subst eo40
          go_upto_region 17 with (first | ((with_reducible refine gate_callee (f := 11) rfl ?_); refine goesL_ (some 112) rfl rfl Try.func11 (by kernel_rfl) rfl #[.slice Ao11 t297.length co11] rfl (by (try simp only [List.map_toArray, List.map_cons, List.map_nil]); first | done | rfl | (simp only [List.length_drop, List.length_take]; rfl)) ?_; (with_reducible refine (impl_MedianOf.calls _ _ t297 t318 t319 _ ?side1 ?side2 A37.out).mono ?_); (case side1 => exact Pst.qc (Kd.R_reads' HO_3.out).2.2); (case side2 => exact (Kd.R_reads' HO_3.out).2.1); rintro e w41 ⟨rfl, hb⟩; refine ⟨_, rfl, ?_⟩; have n0_ := Aside0.mk (Kd.R_below (Pst.qr HO_3.out) hb); have n1_ := Aside0.mk (Kd.R_below (Pst.qr HO_7.out) hb); have n2_ := Aside0.mk (below_step Pst.bel hb); clear HO_3; clear HO_7; clear HB; have HO_3 := n0_; have HO_7 := n1_; have HB := n2_; clear n0_ n1_ n2_; (try clear hb); (try clear hb2); (try clear hk); (try clear hi)) | ((with_reducible refine gate_callee (f := 12) rfl ?_); refine goesL_ (some 117) rfl rfl Try.func12 (by kernel_rfl) rfl #[.slice Ao11 t297.length co11, .int .i64 500] rfl (by (try simp only [List.map_toArray, List.map_cons, List.map_nil]); first | done | rfl | (simp only [List.length_drop, List.length_take]; rfl)) ?_; (with_reducible refine (impl_PercentileOf.calls _ _ t297 500 t320 t321 _ ?side1 ?side2 A38.out).mono ?_); (case side1 => exact Pst.qc (Kd.R_reads' HO_3.out).2.2); (case side2 => exact (Kd.R_reads' HO_3.out).2.1); rintro e w42 ⟨rfl, hb⟩; refine ⟨_, rfl, ?_⟩; have n0_ := Aside0.mk (Kd.R_below (Pst.qr HO_3.out) hb); have n1_ := Aside0.mk (Kd.R_below (Pst.qr HO_7.out) hb); have n2_ := Aside0.mk (below_step Pst.bel hb); clear HO_3; clear HO_7; clear HB; have HO_3 := n0_; have HO_7 := n1_; have HB := n2_; clear n0_ n1_ n2_; (try clear hb); (try clear hb2); (try clear hk); (try clear hi)))
          (try simp only [Act.put, List.setIfInBounds_toArray, List.set_cons_zero, List.set_cons_succ])
          go_cut [145] (fun v145 wc => ∃ (kq : Nat) (x145_38 : Bool), v145 = .bool x145_38 ∧ Aside0 (laws_FnTrends.j2 kq t297 t298 x145_38 = some r) ∧ Aside0 (kq ≤ k2) ∧ Aside0 (Kd.R (Kd.int .i64) 3 wc w.heap.size (fun _ => True) (.slice Ao11 t297.length co11) t297) ∧ Aside0 (Below w.heap.size w wc))
          case first =>
           have H := HC39.out
           clear HC39
           by_cases c43 : (t319 != t321) = true
           ·
            rw [if_pos c43] at H
            have c43b0 : (t319 != t321) = true := c43
            (try (have c43b1 : decide (t319 = t321) = false := by simpa using c43))
            (try (have c43b2 : (t319 == t321) = false := by simpa using c43))
            (try (have c43b3 : ¬ (t319 = t321) := by simpa using c43))
            clear c43
            (first | rw [c43b0] | (simp only [i64_w, i32_w]; rw [c43b0]) | skip)
            first | exact absurd (H.trans (congrArg some ht_)) laws_FnTrends.j0.no | exact absurd (H.trans (congrArg some ht_)) laws_FnTrends.j2.no | exact absurd (H.trans (congrArg some ht_)) laws_FnTrends.j4.no
           ·
            rw [if_neg c43] at H
            have c43b0 : (t319 != t321) = false := by simpa using c43
            (try (have c43b1 : decide (t319 = t321) = true := by simpa using c43))
            (try (have c43b2 : (t319 == t321) = true := by simpa using c43))
            clear c43
            (first | rw [c43b0] | (simp only [i64_w, i32_w]; rw [c43b0]) | skip)
            by_cases c44 : t318 = t320
            ·
             rw [if_pos c44] at H
             have c44b0 : (t318 == t320) = true := beq_iff_eq.mpr c44
             have c44b1 : (t318 != t320) = false := bne_eq_false_iff_eq.mpr c44
             clear c44
             by_cases c45 : (t319 != t311) = true
             ·
              rw [if_pos c45] at H
              have c45b0 : (t319 != t311) = true := c45
              (try (have c45b1 : decide (t319 = t311) = false := by simpa using c45))
              (try (have c45b2 : (t319 == t311) = false := by simpa using c45))
              (try (have c45b3 : ¬ (t319 = t311) := by simpa using c45))
              clear c45
              first | exact absurd (H.trans (congrArg some ht_)) laws_FnTrends.j0.no | exact absurd (H.trans (congrArg some ht_)) laws_FnTrends.j2.no | exact absurd (H.trans (congrArg some ht_)) laws_FnTrends.j4.no
             ·
              rw [if_neg c45] at H
              have c45b0 : (t319 != t311) = false := by simpa using c45
              (try (have c45b1 : decide (t319 = t311) = true := by simpa using c45))
              (try (have c45b2 : (t319 == t311) = true := by simpa using c45))
              clear c45
              by_cases c46 : t319 = true
              ·
               subst c46
               have H1 : (if t318 < t309 then (laws_FnTrends.j2 k2 t297 t298 true) else (laws_FnTrends.j2 k2 t297 t298 (decide (t318 > t310)))) = some r := by rw [if_pos rfl] at H; exact H
               clear H
               have H := H1
               clear H1
               by_cases c47 : t318 < t309
               ·
                rw [if_pos c47] at H
                have c47b0 : decide (t318 < t309) = true := decide_eq_true c47
                clear c47
                first | exact absurd (H.trans (congrArg some ht_)) laws_FnTrends.j0.no | exact absurd (H.trans (congrArg some ht_)) laws_FnTrends.j2.no | exact absurd (H.trans (congrArg some ht_)) laws_FnTrends.j4.no
               ·
                rw [if_neg c47] at H
                have c47b0 : decide (t318 < t309) = false := decide_eq_false c47
                clear c47
                have H' := Aside0.mk H
                clear H
                go_wp2
                go_meet
                case rel => exact ⟨_, (decide (t318 > t310)), (by first | rfl | (simp; done) | (simp [*]; done)), H', ⟨by have := HJ8.out; have := HK2.out; first | omega | exact Nat.le_refl _⟩, ⟨by (with_reducible repeat (first | apply Kd.R_alloc | apply Kd.R_drewN | apply Kd.R_drew)); exact Kd.R_mono HO_3.out (fun _ hk => trivial)⟩, ⟨by repeat (first | (with_reducible first | exact HB.out | apply below_alloc | apply pw_below_drewN | apply below_drew1) | exact HB.out)⟩⟩
              ·
               replace c46 := Bool.eq_false_iff.mpr c46
               subst c46
               have H1 : (laws_FnTrends.j2 k2 t297 t298 false) = some r := by rw [if_neg (show ¬ (false = true) by decide)] at H; exact H
               clear H
               have H := H1
               clear H1
               have H' := Aside0.mk H
               clear H
               go_wp2
               go_meet
               case rel => exact ⟨_, (false), (by first | rfl | (simp; done) | (simp [*]; done)), H', ⟨by have := HJ8.out; have := HK2.out; first | omega | exact Nat.le_refl _⟩, ⟨by (with_reducible repeat (first | apply Kd.R_alloc | apply Kd.R_drewN | apply Kd.R_drew)); exact Kd.R_mono HO_3.out (fun _ hk => trivial)⟩, ⟨by repeat (first | (with_reducible first | exact HB.out | apply below_alloc | apply pw_below_drewN | apply below_drew1) | exact HB.out)⟩⟩
            ·
             rw [if_neg c44] at H
             have c44b0 : (t318 == t320) = false := beq_eq_false_iff_ne.mpr c44
             have c44b1 : (t318 != t320) = true := bne_iff_ne.mpr c44
             first | exact absurd (H.trans (congrArg some ht_)) laws_FnTrends.j0.no | exact absurd (H.trans (congrArg some ht_)) laws_FnTrends.j2.no | exact absurd (H.trans (congrArg some ht_)) laws_FnTrends.j4.no
          case rest =>
           as_aux_lemma =>
            clear HC39
            try clear c1
            try clear c2
            try clear p2
            try clear c3
            try clear p3
            try clear q3
            try clear hx3
            try clear c4
            try clear c5
            try clear c6
            try clear p6
            try clear c7
            try clear c8
            try clear c9
            try clear c11
            try clear c12
            try clear c16
            try clear c16b0
            try clear c16b1
            try clear c16b2
            try clear c18
            try clear c19
            try clear c19b0
            try clear c19b1
            try clear c19b2
            try clear c22
            try clear c22b0
            try clear c22b1
            try clear c29
            try clear c30
            try clear c30b0
            try clear c31
            try clear c31b0
            try clear p31
            try clear q31
            try clear hx31
            try clear c32
            try clear c32b0
            try clear c34
            try clear c34b0
            try clear c43
            try clear c43b0
            try clear c43b1
            try clear c43b2
            try clear c44
            try clear c44b0
            try clear c44b1
            try clear c45
            try clear c45b0
            try clear c45b1
            try clear c45b2
            try clear c46
            try clear c47
            try clear c47b0
            try clear hx316_0
            try clear hx317_0
            try clear p2
            try clear p316
            try clear p317
            try clear q316
            try clear q317
            obtain ⟨kq, x145_38, rfl, HA, HJ38, HO_3, HB⟩ := hcut
            cases kq with
            | zero => exact absurd HA.out (by simp [laws_FnTrends.j2])
            | succ kj38 =>
             have H := HA.out
             clear HA
             simp only [laws_FnTrends.j2] at H
             by_cases c48 : x145_38 = true
             ·
              subst c48
              have H1 : (some false) = some r := by rw [if_pos rfl] at H; exact H
              clear H
              have H := H1
              clear H1
              exact absurd (H.trans (congrArg some ht_)) (by decide)
             ·
              replace c48 := Bool.eq_false_iff.mpr c48
              subst c48
              have H1 : ((impl_ClipSpikes.f kj38 t297 t298).bind fun bt322 => ((impl_PercentileOf.f t297 t298).bind fun bt326 => (if (bt322.2 != bt326.2) = true then (some false) else (laws_FnTrends.l1 kj38 t297 bt322.1 bt326.1 0)))) = some r := by rw [if_neg (show ¬ (false = true) by decide)] at H; exact H
              clear H
              have H := H1
              clear H1
              replace H := Option.bind_eq_some_iff.mp H
              obtain ⟨⟨t322, t323⟩, A490, H⟩ := H
              replace H : ((impl_PercentileOf.f t297 t298).bind fun bt326 => (if (t323 != bt326.2) = true then (some false) else (laws_FnTrends.l1 kj38 t297 t322 bt326.1 0))) = some r := H
              have A49 := Aside0.mk A490
              clear A490
              replace H := Option.bind_eq_some_iff.mp H
              obtain ⟨⟨t326, t327⟩, A500, H⟩ := H
              replace H : (if (t323 != t327) = true then (some false) else (laws_FnTrends.l1 kj38 t297 t322 t326 0)) = some r := H
              have A50 := Aside0.mk A500
              clear A500
              by_cases c51 : (t323 != t327) = true
              ·
               rw [if_pos c51] at H
               have c51b0 : (t323 != t327) = true := c51
               (try (have c51b1 : decide (t323 = t327) = false := by simpa using c51))
               (try (have c51b2 : (t323 == t327) = false := by simpa using c51))
               (try (have c51b3 : ¬ (t323 = t327) := by simpa using c51))
               clear c51
               exact absurd (H.trans (congrArg some ht_)) (by decide)
              ·
               rw [if_neg c51] at H
               have c51b0 : (t323 != t327) = false := by simpa using c51
               (try (have c51b1 : decide (t323 = t327) = true := by simpa using c51))
               (try (have c51b2 : (t323 == t327) = true := by simpa using c51))
               clear c51
               have H' := Aside0.mk H
               clear H
               go_wp2_with (first | ((with_reducible refine gate_callee (f := 13) rfl ?_); refine goesL_ (some 149) rfl rfl Try.func13 (by kernel_rfl) rfl #[.slice Ao11 t297.length co11, .int .i64 t298] rfl (by (try simp only [List.map_toArray, List.map_cons, List.map_nil]); first | done | rfl | (simp only [List.length_drop, List.length_take]; rfl)) ?_; (with_reducible refine (impl_ClipSpikes.calls kj38 _ _ t297 t298 t322 t323 _ ?side1 ?side2 A49.out).mono ?_); (case side1 => exact Pst.qc (Kd.R_reads' HO_3.out).2.2); (case side2 => exact (Kd.R_reads' HO_3.out).2.1); rintro e w54 ⟨v324, rfl, ho0, hb⟩; refine ⟨_, rfl, ?_⟩; have n0_ := Aside0.mk (Kd.R_elder' (Pst.qr HO_3.out) (Kd.R_base ho0) hb); have n1_ := Aside0.mk (Kd.R_lower (Kd.R_new' ho0 (Kd.R_lt (Pst.qr HO_3.out))) (below_size Pst.bel)); have n2_ := Aside0.mk (below_step Pst.bel hb); clear HO_3; clear HB; have HO_3 := n0_; have HO325 := n1_; have HB := n2_; clear n0_ n1_ n2_; (try clear hb); (try clear hb2); (try clear hk); (try clear hi); (try clear ho0)) | ((with_reducible refine gate_callee (f := 12) rfl ?_); refine goesL_ (some 155) rfl rfl Try.func12 (by kernel_rfl) rfl #[.slice Ao11 t297.length co11, .int .i64 t298] rfl (by (try simp only [List.map_toArray, List.map_cons, List.map_nil]); first | done | rfl | (simp only [List.length_drop, List.length_take]; rfl)) ?_; (with_reducible refine (impl_PercentileOf.calls _ _ t297 t298 t326 t327 _ ?side1 ?side2 A50.out).mono ?_); (case side1 => exact Pst.qc (Kd.R_reads' HO_3.out).2.2); (case side2 => exact (Kd.R_reads' HO_3.out).2.1); rintro e w55 ⟨rfl, hb⟩; refine ⟨_, rfl, ?_⟩; have n0_ := Aside0.mk (Kd.R_below (Pst.qr HO_3.out) hb); have n1_ := Aside0.mk (Kd.R_below (Pst.qr HO325.out) hb); have n2_ := Aside0.mk (below_step Pst.bel hb); clear HO_3; clear HO325; clear HB; have HO_3 := n0_; have HO325 := n1_; have HB := n2_; clear n0_ n1_ n2_; (try clear hb); (try clear hb2); (try clear hk); (try clear hi)))
               go_loopg [24] kj38 (fun kq v24 w' => ∃ (x24_4 : Int), v24 = .int .i64 x24_4 ∧ Aside0 (laws_FnTrends.l1 kq t297 t322 t326 x24_4 = some r) ∧ Aside0 (kq ≤ kj38) ∧ Aside0 (Kd.R (Kd.int .i64) 3 w' w.heap.size (fun k_ => some k_ ≠ (v324 : Value).ownBlock) (.slice Ao11 t297.length co11) t297) ∧ Aside0 (Kd.R (Kd.int .i64) 3 w' w.heap.size (fun k_ => some k_ ≠ ((.slice Ao11 t297.length co11) : Value).ownBlock) v324 t322) ∧ Aside0 (Below w.heap.size w w'))
               case atStart => exact ⟨(0), (by first | rfl | (simp; done) | (simp [*]; done)), H', ⟨Nat.le_refl _⟩, ⟨by (with_reducible repeat (first | apply Kd.R_alloc | apply Kd.R_drewN | apply Kd.R_drew)); exact Kd.R_mono HO_3.out (fun _ hk => hk.2)⟩, ⟨by (with_reducible repeat (first | apply Kd.R_alloc | apply Kd.R_drewN | apply Kd.R_drew)); exact Kd.R_mono HO325.out (fun _ hk => hk.2)⟩, ⟨by repeat (first | (with_reducible first | exact HB.out | apply below_alloc | apply pw_below_drewN | apply below_drew1) | exact HB.out)⟩⟩
               case round =>
                as_aux_lemma =>
                 clear H'
                 try clear c1
                 try clear c2
                 try clear p2
                 try clear c3
                 try clear p3
                 try clear q3
                 try clear hx3
                 try clear c4
                 try clear c5
                 try clear c6
                 try clear p6
                 try clear c7
                 try clear c8
                 try clear c9
                 try clear c11
                 try clear c12
                 try clear c13
                 try clear c16
                 try clear c16b0
                 try clear c16b1
                 try clear c16b2
                 try clear c18
                 try clear c19
                 try clear c19b0
                 try clear c19b1
                 try clear c19b2
                 try clear c22
                 try clear c22b0
                 try clear c22b1
                 try clear c29
                 try clear c30
                 try clear c30b0
                 try clear c31
                 try clear c31b0
                 try clear p31
                 try clear q31
                 try clear hx31
                 try clear c32
                 try clear c32b0
                 try clear c34
                 try clear c34b0
                 try clear c43
                 try clear c43b0
                 try clear c43b1
                 try clear c43b2
                 try clear c44
                 try clear c44b0
                 try clear c44b1
                 try clear c45
                 try clear c45b0
                 try clear c45b1
                 try clear c45b2
                 try clear c46
                 try clear c47
                 try clear c47b0
                 try clear c48
                 try clear c51
                 try clear c51b0
                 try clear c51b1
                 try clear c51b2
                 try clear hx316_0
                 try clear hx317_0
                 try clear p2
                 try clear p3
                 try clear p31
                 try clear p316
                 try clear p317
                 try clear p6
                 try clear q3
                 try clear q31
                 try clear q316
                 try clear q317
                 obtain ⟨x24_4, rfl, HA, HK4, HO_3, HO_20, HB⟩ := hrel
                 cases gk with
                 | zero => exact absurd HA.out (by simp [laws_FnTrends.l1])
                 | succ k4 =>
                  have H := HA.out
                  clear HA
                  simp only [laws_FnTrends.l1] at H
                  by_cases c56 : x24_4 < (t322.length : Int)
                  ·
                   rw [if_pos c56] at H
                   have c56b0 : decide (x24_4 < (t322.length : Int)) = true := decide_eq_true c56
                   clear c56
                   by_cases c57 : 0 ≤ x24_4
                   ·
                    rw [if_pos c57] at H
                    have c57b0 : decide (0 ≤ x24_4) = true := decide_eq_true c57
                    clear c57
                    by_cases c58 : (rd t322 x24_4) > t326
                    ·
                     rw [if_pos c58] at H
                     have c58b0 : decide (t326 < (rd t322 x24_4)) = true := decide_eq_true c58
                     clear c58
                     first
                     | exact absurd (H.trans (congrArg some ht_)) (by decide)
                     |
                      obtain rfl := Option.some.inj H
                      obtain ⟨Ao59, co59, eo59⟩ := Kd.R_slice HO_20.out
                      subst eo59
                      have p328 : 0 ≤ (x24_4 : Int) := of_decide_eq_true (by first | (with_reducible assumption) | assumption)
                      have q328 : x24_4 < (t322.length : Int) := of_decide_eq_true (by first | (with_reducible assumption) | assumption)
                      obtain ⟨ad328, e328, hx328_0⟩ := Kd.at_int (Kd.R_reads' HO_20.out).2.2 x24_4 p328 q328
                      cases e328
                      replace p328 := eq_true p328
                      replace q328 := eq_true q328
                      go_wp2
                      go_ret
                      exact ⟨by first | rfl | (simp [errW_none, errW_some] <;> rfl) | (simp [*, errW_none, errW_some] <;> rfl), by repeat (first | (with_reducible first | exact HB.out | apply below_alloc | apply pw_below_drewN | apply below_drew1) | exact HB.out)⟩
                    ·
                     rw [if_neg c58] at H
                     have c58b0 : decide (t326 < (rd t322 x24_4)) = false := decide_eq_false c58
                     clear c58
                     have H' := Aside0.mk H
                     clear H
                     obtain ⟨Ao60, co60, eo60⟩ := Kd.R_slice HO_20.out
                     subst eo60
                     have p328 : 0 ≤ (x24_4 : Int) := of_decide_eq_true (by first | (with_reducible assumption) | assumption)
                     have q328 : x24_4 < (t322.length : Int) := of_decide_eq_true (by first | (with_reducible assumption) | assumption)
                     obtain ⟨ad328, e328, hx328_0⟩ := Kd.at_int (Kd.R_reads' HO_20.out).2.2 x24_4 p328 q328
                     cases e328
                     replace p328 := eq_true p328
                     replace q328 := eq_true q328
                     go_wp2
                     go_roundg k4
                     case measure => have := HJ8.out; have := HK2.out; have := HJ38.out; have := HK4.out; omega
                     case rel => exact ⟨(wrap64 (x24_4 + 1)), (by first | rfl | (simp; done) | (simp [*]; done)), H', ⟨by have := HJ8.out; have := HK2.out; have := HJ38.out; have := HK4.out; omega⟩, ⟨by (with_reducible repeat (first | apply Kd.R_alloc | apply Kd.R_drewN | apply Kd.R_drew)); exact HO_3.out⟩, ⟨by (with_reducible repeat (first | apply Kd.R_alloc | apply Kd.R_drewN | apply Kd.R_drew)); exact HO_20.out⟩, ⟨by repeat (first | (with_reducible first | exact HB.out | apply below_alloc | apply pw_below_drewN | apply below_drew1) | exact HB.out)⟩⟩
                   ·
                    rw [if_neg c57] at H
                    exact absurd H (by simp)
                  ·
                   rw [if_neg c56] at H
                   have c56b0 : decide (x24_4 < (t322.length : Int)) = false := decide_eq_false c56
                   clear c56
                   replace H := Option.bind_eq_some_iff.mp H
                   obtain ⟨⟨t329, t330, t331⟩, A610, H⟩ := H
                   replace H : ((spec_SlopeOf.f k4 t297).bind fun bt332 => (if (t331 != bt332.2.2) = true then (laws_FnTrends.j4 k4 t297 t329 t331 true) else (if t329 = bt332.1 then (if t330 = bt332.2.1 then (laws_FnTrends.j4 k4 t297 t329 t331 (decide (t330 < 1))) else (laws_FnTrends.j4 k4 t297 t329 t331 true)) else (laws_FnTrends.j4 k4 t297 t329 t331 true)))) = some r := H
                   have A61 := Aside0.mk A610
                   clear A610
                   replace H := Option.bind_eq_some_iff.mp H
                   obtain ⟨⟨t332, t333, t334⟩, A620, H⟩ := H
                   replace H : (if (t331 != t334) = true then (laws_FnTrends.j4 k4 t297 t329 t331 true) else (if t329 = t332 then (if t330 = t333 then (laws_FnTrends.j4 k4 t297 t329 t331 (decide (t330 < 1))) else (laws_FnTrends.j4 k4 t297 t329 t331 true)) else (laws_FnTrends.j4 k4 t297 t329 t331 true))) = some r := H
                   have A62 := Aside0.mk A620
                   clear A620
                   have HC63 := Aside0.mk H
                   clear H
                   obtain ⟨Ao64, co64, eo64⟩ := Kd.R_slice HO_20.out
                   subst eo64
                   go_upto_region 30 with (first | ((with_reducible refine gate_callee (f := 14) rfl ?_); refine goesL_ (some 175) rfl rfl Try.func14 (by kernel_rfl) rfl #[.slice Ao11 t297.length co11] rfl (by (try simp only [List.map_toArray, List.map_cons, List.map_nil]); first | done | rfl | (simp only [List.length_drop, List.length_take]; rfl)) ?_; (with_reducible refine (impl_SlopeOf.calls k4 _ _ t297 t329 t330 t331 _ ?side1 ?side2 A61.out).mono ?_); (case side1 => exact Pst.qc (Kd.R_reads' HO_3.out).2.2); (case side2 => exact (Kd.R_reads' HO_3.out).2.1); rintro e w65 ⟨rfl, hb⟩; refine ⟨_, rfl, ?_⟩; have n0_ := Aside0.mk (Kd.R_below (Pst.qr HO_3.out) hb); have n1_ := Aside0.mk (Kd.R_below (Pst.qr HO_20.out) hb); have n2_ := Aside0.mk (below_step Pst.bel hb); clear HO_3; clear HO_20; clear HB; have HO_3 := n0_; have HO_20 := n1_; have HB := n2_; clear n0_ n1_ n2_; (try clear hb); (try clear hb2); (try clear hk); (try clear hi)) | ((with_reducible refine gate_callee (f := 15) rfl ?_); refine goesL_ (some 181) rfl rfl Try.func15 (by kernel_rfl) rfl #[.slice Ao11 t297.length co11] rfl (by (try simp only [List.map_toArray, List.map_cons, List.map_nil]); first | done | rfl | (simp only [List.length_drop, List.length_take]; rfl)) ?_; (with_reducible refine (spec_SlopeOf.calls k4 _ _ t297 t332 t333 t334 _ ?side1 ?side2 A62.out).mono ?_); (case side1 => exact Pst.qc (Kd.R_reads' HO_3.out).2.2); (case side2 => exact (Kd.R_reads' HO_3.out).2.1); rintro e w' ⟨rfl, ⟨nd, rfl⟩⟩; refine ⟨_, rfl, ?_⟩))
                   (try simp only [Act.put, List.setIfInBounds_toArray, List.set_cons_zero, List.set_cons_succ])
                   go_cut [201] (fun v201 wc => ∃ (kq : Nat) (x201_62 : Bool), v201 = .bool x201_62 ∧ Aside0 (laws_FnTrends.j4 kq t297 t329 t331 x201_62 = some r) ∧ Aside0 (kq ≤ k4) ∧ Aside0 (Kd.R (Kd.int .i64) 3 wc w.heap.size (fun _ => True) (.slice Ao11 t297.length co11) t297) ∧ Aside0 (Below w.heap.size w wc))
                   case first =>
                    have H := HC63.out
                    clear HC63
                    by_cases c66 : (t331 != t334) = true
                    ·
                     rw [if_pos c66] at H
                     have c66b0 : (t331 != t334) = true := c66
                     (try (have c66b1 : decide (t331 = t334) = false := by simpa using c66))
                     (try (have c66b2 : (t331 == t334) = false := by simpa using c66))
                     (try (have c66b3 : ¬ (t331 = t334) := by simpa using c66))
                     clear c66
                     (first | rw [c66b0] | (simp only [i64_w, i32_w]; rw [c66b0]) | skip)
                     first | exact absurd (H.trans (congrArg some ht_)) laws_FnTrends.j0.no | exact absurd (H.trans (congrArg some ht_)) laws_FnTrends.j2.no | exact absurd (H.trans (congrArg some ht_)) laws_FnTrends.j4.no
                    ·
                     rw [if_neg c66] at H
                     have c66b0 : (t331 != t334) = false := by simpa using c66
                     (try (have c66b1 : decide (t331 = t334) = true := by simpa using c66))
                     (try (have c66b2 : (t331 == t334) = true := by simpa using c66))
                     clear c66
                     (first | rw [c66b0] | (simp only [i64_w, i32_w]; rw [c66b0]) | skip)
                     by_cases c67 : t329 = t332
                     ·
                      rw [if_pos c67] at H
                      have c67b0 : (t329 == t332) = true := beq_iff_eq.mpr c67
                      have c67b1 : (t329 != t332) = false := bne_eq_false_iff_eq.mpr c67
                      clear c67
                      by_cases c68 : t330 = t333
                      ·
                       rw [if_pos c68] at H
                       have c68b0 : (t330 == t333) = true := beq_iff_eq.mpr c68
                       have c68b1 : (t330 != t333) = false := bne_eq_false_iff_eq.mpr c68
                       clear c68
                       have H' := Aside0.mk H
                       clear H
                       go_wp2
                       go_meet
                       case rel => exact ⟨_, (decide (t330 < 1)), (by first | rfl | (simp; done) | (simp [*]; done)), H', ⟨by have := HJ8.out; have := HK2.out; have := HJ38.out; have := HK4.out; first | omega | exact Nat.le_refl _⟩, ⟨by (with_reducible repeat (first | apply Kd.R_alloc | apply Kd.R_drewN | apply Kd.R_drew)); exact Kd.R_mono HO_3.out (fun _ hk => trivial)⟩, ⟨by repeat (first | (with_reducible first | exact HB.out | apply below_alloc | apply pw_below_drewN | apply below_drew1) | exact HB.out)⟩⟩
                      ·
                       rw [if_neg c68] at H
                       have c68b0 : (t330 == t333) = false := beq_eq_false_iff_ne.mpr c68
                       have c68b1 : (t330 != t333) = true := bne_iff_ne.mpr c68
                       first | exact absurd (H.trans (congrArg some ht_)) laws_FnTrends.j0.no | exact absurd (H.trans (congrArg some ht_)) laws_FnTrends.j2.no | exact absurd (H.trans (congrArg some ht_)) laws_FnTrends.j4.no
                     ·
                      rw [if_neg c67] at H
                      have c67b0 : (t329 == t332) = false := beq_eq_false_iff_ne.mpr c67
                      have c67b1 : (t329 != t332) = true := bne_iff_ne.mpr c67
                      first | exact absurd (H.trans (congrArg some ht_)) laws_FnTrends.j0.no | exact absurd (H.trans (congrArg some ht_)) laws_FnTrends.j2.no | exact absurd (H.trans (congrArg some ht_)) laws_FnTrends.j4.no
                   case rest =>
                    as_aux_lemma =>
                     clear HC63
                     try clear c1
                     try clear c2
                     try clear p2
                     try clear c3
                     try clear p3
                     try clear q3
                     try clear hx3
                     try clear c4
                     try clear c5
                     try clear c6
                     try clear p6
                     try clear c7
                     try clear c8
                     try clear c9
                     try clear c11
                     try clear c12
                     try clear c13
                     try clear c14
                     try clear c15
                     try clear c16
                     try clear c16b0
                     try clear c16b1
                     try clear c16b2
                     try clear c18
                     try clear c19
                     try clear c19b0
                     try clear c19b1
                     try clear c19b2
                     try clear c22
                     try clear c22b0
                     try clear c22b1
                     try clear c29
                     try clear c30
                     try clear c30b0
                     try clear c31
                     try clear c31b0
                     try clear p31
                     try clear q31
                     try clear hx31
                     try clear c32
                     try clear c32b0
                     try clear p32
                     try clear q32
                     try clear hx32
                     try clear c34
                     try clear c34b0
                     try clear c43
                     try clear c43b0
                     try clear c43b1
                     try clear c43b2
                     try clear c44
                     try clear c44b0
                     try clear c44b1
                     try clear c45
                     try clear c45b0
                     try clear c45b1
                     try clear c45b2
                     try clear c46
                     try clear c47
                     try clear c47b0
                     try clear c48
                     try clear c51
                     try clear c51b0
                     try clear c51b1
                     try clear c51b2
                     try clear c56
                     try clear c56b0
                     try clear c57
                     try clear c57b0
                     try clear c58
                     try clear c58b0
                     try clear p64
                     try clear c66
                     try clear c66b0
                     try clear c66b1
                     try clear c66b2
                     try clear c67
                     try clear c67b0
                     try clear c67b1
                     try clear c68
                     try clear c68b0
                     try clear c68b1
                     try clear hx316_0
                     try clear hx317_0
                     try clear hx328_0
                     try clear p2
                     try clear p3
                     try clear p31
                     try clear p316
                     try clear p317
                     try clear p328
                     try clear p6
                     try clear q3
                     try clear q31
                     try clear q316
                     try clear q317
                     try clear q328
                     obtain ⟨kq, x201_62, rfl, HA, HJ62, HO_3, HB⟩ := hcut
                     cases kq with
                     | zero => exact absurd HA.out (by simp [laws_FnTrends.j4])
                     | succ kj62 =>
                      have H := HA.out
                      clear HA
                      simp only [laws_FnTrends.j4] at H
                      by_cases c69 : x201_62 = true
                      ·
                       subst c69
                       have H1 : (some false) = some r := by rw [if_pos rfl] at H; exact H
                       clear H
                       have H := H1
                       clear H1
                       exact absurd (H.trans (congrArg some ht_)) (by decide)
                      ·
                       replace c69 := Bool.eq_false_iff.mpr c69
                       subst c69
                       have H1 : ((impl_DiffsOf.f kj62 t297).bind fun t335 => (laws_FnTrends.l2 kj62 t297 t329 t331 t335 false false 0)) = some r := by rw [if_neg (show ¬ (false = true) by decide)] at H; exact H
                       clear H
                       have H := H1
                       clear H1
                       replace H := Option.bind_eq_some_iff.mp H
                       obtain ⟨t335, A700, H⟩ := H
                       replace H : (laws_FnTrends.l2 kj62 t297 t329 t331 t335 false false 0) = some r := H
                       have A70 := Aside0.mk A700
                       clear A700
                       have H' := Aside0.mk H
                       clear H
                       go_wp2_with (first | ((with_reducible refine gate_callee (f := 16) rfl ?_); refine goesL_ (some 203) rfl rfl Try.func16 (by kernel_rfl) rfl #[.slice Ao11 t297.length co11] rfl (by (try simp only [List.map_toArray, List.map_cons, List.map_nil]); first | done | rfl | (simp only [List.length_drop, List.length_take]; rfl)) ?_; (with_reducible refine (impl_DiffsOf.calls kj62 _ _ t297 t335 _ ?side1 ?side2 A70.out).mono ?_); (case side1 => exact Pst.qc (Kd.R_reads' HO_3.out).2.2); (case side2 => exact (Kd.R_reads' HO_3.out).2.1); rintro e w71 ⟨v336, rfl, ho0, hb⟩; refine ⟨_, rfl, ?_⟩; have n0_ := Aside0.mk (Kd.R_elder' (Pst.qr HO_3.out) (Kd.R_base ho0) hb); have n1_ := Aside0.mk (Kd.R_lower (Kd.R_new' ho0 (Kd.R_lt (Pst.qr HO_3.out))) (below_size Pst.bel)); have n2_ := Aside0.mk (below_step Pst.bel hb); clear HO_3; clear HB; have HO_3 := n0_; have HO337 := n1_; have HB := n2_; clear n0_ n1_ n2_; (try clear hb); (try clear hb2); (try clear hk); (try clear hi); (try clear ho0)))
                       go_loopg [32, 33, 34] kj62 (fun kq v32 v33 v34 w' => ∃ (x32_6 : Bool) (x33_6 : Bool) (x34_6 : Int), v32 = .bool x32_6 ∧ v33 = .bool x33_6 ∧ v34 = .int .i64 x34_6 ∧ Aside0 (laws_FnTrends.l2 kq t297 t329 t331 t335 x32_6 x33_6 x34_6 = some r) ∧ Aside0 (kq ≤ kj62) ∧ Aside0 (Kd.R (Kd.int .i64) 3 w' w.heap.size (fun k_ => some k_ ≠ (v336 : Value).ownBlock) (.slice Ao11 t297.length co11) t297) ∧ Aside0 (Kd.R (Kd.int .i64) 3 w' w.heap.size (fun k_ => some k_ ≠ ((.slice Ao11 t297.length co11) : Value).ownBlock) v336 t335) ∧ Aside0 (Below w.heap.size w w'))
                       case atStart => exact ⟨(false), (false), (0), (by first | rfl | (simp; done) | (simp [*]; done)), (by first | rfl | (simp; done) | (simp [*]; done)), (by first | rfl | (simp; done) | (simp [*]; done)), H', ⟨Nat.le_refl _⟩, ⟨by (with_reducible repeat (first | apply Kd.R_alloc | apply Kd.R_drewN | apply Kd.R_drew)); exact Kd.R_mono HO_3.out (fun _ hk => hk.2)⟩, ⟨by (with_reducible repeat (first | apply Kd.R_alloc | apply Kd.R_drewN | apply Kd.R_drew)); exact Kd.R_mono HO337.out (fun _ hk => hk.2)⟩, ⟨by repeat (first | (with_reducible first | exact HB.out | apply below_alloc | apply pw_below_drewN | apply below_drew1) | exact HB.out)⟩⟩
                       case round =>
                        as_aux_lemma =>
                         clear H'
                         try clear c1
                         try clear c2
                         try clear p2
                         try clear c3
                         try clear p3
                         try clear q3
                         try clear hx3
                         try clear c4
                         try clear c5
                         try clear c6
                         try clear p6
                         try clear c7
                         try clear c8
                         try clear c9
                         try clear c11
                         try clear c12
                         try clear c13
                         try clear c14
                         try clear c15
                         try clear c16
                         try clear c16b0
                         try clear c16b1
                         try clear c16b2
                         try clear c18
                         try clear c19
                         try clear c19b0
                         try clear c19b1
                         try clear c19b2
                         try clear c22
                         try clear c22b0
                         try clear c22b1
                         try clear c29
                         try clear c30
                         try clear c30b0
                         try clear c31
                         try clear c31b0
                         try clear p31
                         try clear q31
                         try clear hx31
                         try clear c32
                         try clear c32b0
                         try clear p32
                         try clear q32
                         try clear hx32
                         try clear c34
                         try clear c34b0
                         try clear c43
                         try clear c43b0
                         try clear c43b1
                         try clear c43b2
                         try clear c44
                         try clear c44b0
                         try clear c44b1
                         try clear c45
                         try clear c45b0
                         try clear c45b1
                         try clear c45b2
                         try clear c46
                         try clear c47
                         try clear c47b0
                         try clear c48
                         try clear c51
                         try clear c51b0
                         try clear c51b1
                         try clear c51b2
                         try clear c56
                         try clear c56b0
                         try clear c57
                         try clear c57b0
                         try clear c58
                         try clear c58b0
                         try clear p64
                         try clear c66
                         try clear c66b0
                         try clear c66b1
                         try clear c66b2
                         try clear c67
                         try clear c67b0
                         try clear c67b1
                         try clear c68
                         try clear c68b0
                         try clear c68b1
                         try clear c69
                         try clear hx316_0
                         try clear hx317_0
                         try clear hx328_0
                         try clear p2
                         try clear p3
                         try clear p31
                         try clear p316
                         try clear p317
                         try clear p32
                         try clear p328
                         try clear p6
                         try clear p64
                         try clear q3
                         try clear q31
                         try clear q316
                         try clear q317
                         try clear q32
                         try clear q328
                         obtain ⟨x32_6, x33_6, x34_6, rfl, rfl, rfl, HA, HK6, HO_3, HO_31, HB⟩ := hrel
                         cases gk with
                         | zero => exact absurd HA.out (by simp [laws_FnTrends.l2])
                         | succ k6 =>
                          have H := HA.out
                          clear HA
                          simp only [laws_FnTrends.l2] at H
                          by_cases c72 : x34_6 < (t335.length : Int)
                          ·
                           rw [if_pos c72] at H
                           have c72b0 : decide (x34_6 < (t335.length : Int)) = true := decide_eq_true c72
                           clear c72
                           by_cases c73 : x32_6 = true
                           ·
                            subst c73
                            have H1 : (if x33_6 = true then (laws_FnTrends.l2 k6 t297 t329 t331 t335 true true (wrap64 (x34_6 + 1))) else (if 0 ≤ x34_6 then (laws_FnTrends.l2 k6 t297 t329 t331 t335 true (decide ((rd t335 x34_6) > 0)) (wrap64 (x34_6 + 1))) else (none))) = some r := by rw [if_pos rfl] at H; exact H
                            clear H
                            have H := H1
                            clear H1
                            by_cases c74 : x33_6 = true
                            ·
                             subst c74
                             have H1 : (laws_FnTrends.l2 k6 t297 t329 t331 t335 true true (wrap64 (x34_6 + 1))) = some r := by rw [if_pos rfl] at H; exact H
                             clear H
                             have H := H1
                             clear H1
                             have H' := Aside0.mk H
                             clear H
                             obtain ⟨Ao75, co75, eo75⟩ := Kd.R_slice HO_31.out
                             subst eo75
                             go_wp2
                             go_roundg k6
                             case measure => have := HJ8.out; have := HK2.out; have := HJ38.out; have := HK4.out; have := HJ62.out; have := HK6.out; omega
                             case rel => exact ⟨(true), (true), (wrap64 (x34_6 + 1)), (by first | rfl | (simp; done) | (simp [*]; done)), (by first | rfl | (simp; done) | (simp [*]; done)), (by first | rfl | (simp; done) | (simp [*]; done)), H', ⟨by have := HJ8.out; have := HK2.out; have := HJ38.out; have := HK4.out; have := HJ62.out; have := HK6.out; omega⟩, ⟨by (with_reducible repeat (first | apply Kd.R_alloc | apply Kd.R_drewN | apply Kd.R_drew)); exact HO_3.out⟩, ⟨by (with_reducible repeat (first | apply Kd.R_alloc | apply Kd.R_drewN | apply Kd.R_drew)); exact HO_31.out⟩, ⟨by repeat (first | (with_reducible first | exact HB.out | apply below_alloc | apply pw_below_drewN | apply below_drew1) | exact HB.out)⟩⟩
                            ·
                             replace c74 := Bool.eq_false_iff.mpr c74
                             subst c74
                             have H1 : (if 0 ≤ x34_6 then (laws_FnTrends.l2 k6 t297 t329 t331 t335 true (decide ((rd t335 x34_6) > 0)) (wrap64 (x34_6 + 1))) else (none)) = some r := by rw [if_neg (show ¬ (false = true) by decide)] at H; exact H
                             clear H
                             have H := H1
                             clear H1
                             by_cases c76 : 0 ≤ x34_6
                             ·
                              rw [if_pos c76] at H
                              have c76b0 : decide (0 ≤ x34_6) = true := decide_eq_true c76
                              clear c76
                              have H' := Aside0.mk H
                              clear H
                              obtain ⟨Ao77, co77, eo77⟩ := Kd.R_slice HO_31.out
                              subst eo77
                              have p338 : 0 ≤ (x34_6 : Int) := of_decide_eq_true (by first | (with_reducible assumption) | assumption)
                              have q338 : x34_6 < (t335.length : Int) := of_decide_eq_true (by first | (with_reducible assumption) | assumption)
                              obtain ⟨ad338, e338, hx338_0⟩ := Kd.at_int (Kd.R_reads' HO_31.out).2.2 x34_6 p338 q338
                              cases e338
                              replace p338 := eq_true p338
                              replace q338 := eq_true q338
                              go_wp2
                              go_roundg k6
                              case measure => have := HJ8.out; have := HK2.out; have := HJ38.out; have := HK4.out; have := HJ62.out; have := HK6.out; omega
                              case rel => exact ⟨(true), (decide ((rd t335 x34_6) > 0)), (wrap64 (x34_6 + 1)), (by first | rfl | (simp; done) | (simp [*]; done)), (by first | rfl | (simp; done) | (simp [*]; done)), (by first | rfl | (simp; done) | (simp [*]; done)), H', ⟨by have := HJ8.out; have := HK2.out; have := HJ38.out; have := HK4.out; have := HJ62.out; have := HK6.out; omega⟩, ⟨by (with_reducible repeat (first | apply Kd.R_alloc | apply Kd.R_drewN | apply Kd.R_drew)); exact HO_3.out⟩, ⟨by (with_reducible repeat (first | apply Kd.R_alloc | apply Kd.R_drewN | apply Kd.R_drew)); exact HO_31.out⟩, ⟨by repeat (first | (with_reducible first | exact HB.out | apply below_alloc | apply pw_below_drewN | apply below_drew1) | exact HB.out)⟩⟩
                             ·
                              rw [if_neg c76] at H
                              exact absurd H (by simp)
                           ·
                            replace c73 := Bool.eq_false_iff.mpr c73
                            subst c73
                            have H1 : (if 0 ≤ x34_6 then (if x33_6 = true then (laws_FnTrends.l2 k6 t297 t329 t331 t335 (decide ((rd t335 x34_6) < 0)) true (wrap64 (x34_6 + 1))) else (laws_FnTrends.l2 k6 t297 t329 t331 t335 (decide ((rd t335 x34_6) < 0)) (decide ((rd t335 x34_6) > 0)) (wrap64 (x34_6 + 1)))) else (none)) = some r := by rw [if_neg (show ¬ (false = true) by decide)] at H; exact H
                            clear H
                            have H := H1
                            clear H1
                            by_cases c78 : 0 ≤ x34_6
                            ·
                             rw [if_pos c78] at H
                             have c78b0 : decide (0 ≤ x34_6) = true := decide_eq_true c78
                             clear c78
                             by_cases c79 : x33_6 = true
                             ·
                              subst c79
                              have H1 : (laws_FnTrends.l2 k6 t297 t329 t331 t335 (decide ((rd t335 x34_6) < 0)) true (wrap64 (x34_6 + 1))) = some r := by rw [if_pos rfl] at H; exact H
                              clear H
                              have H := H1
                              clear H1
                              have H' := Aside0.mk H
                              clear H
                              obtain ⟨Ao80, co80, eo80⟩ := Kd.R_slice HO_31.out
                              subst eo80
                              have p339 : 0 ≤ (x34_6 : Int) := of_decide_eq_true (by first | (with_reducible assumption) | assumption)
                              have q339 : x34_6 < (t335.length : Int) := of_decide_eq_true (by first | (with_reducible assumption) | assumption)
                              obtain ⟨ad339, e339, hx339_0⟩ := Kd.at_int (Kd.R_reads' HO_31.out).2.2 x34_6 p339 q339
                              cases e339
                              replace p339 := eq_true p339
                              replace q339 := eq_true q339
                              go_wp2
                              go_roundg k6
                              case measure => have := HJ8.out; have := HK2.out; have := HJ38.out; have := HK4.out; have := HJ62.out; have := HK6.out; omega
                              case rel => exact ⟨(decide ((rd t335 x34_6) < 0)), (true), (wrap64 (x34_6 + 1)), (by first | rfl | (simp; done) | (simp [*]; done)), (by first | rfl | (simp; done) | (simp [*]; done)), (by first | rfl | (simp; done) | (simp [*]; done)), H', ⟨by have := HJ8.out; have := HK2.out; have := HJ38.out; have := HK4.out; have := HJ62.out; have := HK6.out; omega⟩, ⟨by (with_reducible repeat (first | apply Kd.R_alloc | apply Kd.R_drewN | apply Kd.R_drew)); exact HO_3.out⟩, ⟨by (with_reducible repeat (first | apply Kd.R_alloc | apply Kd.R_drewN | apply Kd.R_drew)); exact HO_31.out⟩, ⟨by repeat (first | (with_reducible first | exact HB.out | apply below_alloc | apply pw_below_drewN | apply below_drew1) | exact HB.out)⟩⟩
                             ·
                              replace c79 := Bool.eq_false_iff.mpr c79
                              subst c79
                              have H1 : (laws_FnTrends.l2 k6 t297 t329 t331 t335 (decide ((rd t335 x34_6) < 0)) (decide ((rd t335 x34_6) > 0)) (wrap64 (x34_6 + 1))) = some r := by rw [if_neg (show ¬ (false = true) by decide)] at H; exact H
                              clear H
                              have H := H1
                              clear H1
                              have H' := Aside0.mk H
                              clear H
                              obtain ⟨Ao81, co81, eo81⟩ := Kd.R_slice HO_31.out
                              subst eo81
                              have p339 : 0 ≤ (x34_6 : Int) := of_decide_eq_true (by first | (with_reducible assumption) | assumption)
                              have q339 : x34_6 < (t335.length : Int) := of_decide_eq_true (by first | (with_reducible assumption) | assumption)
                              obtain ⟨ad339, e339, hx339_0⟩ := Kd.at_int (Kd.R_reads' HO_31.out).2.2 x34_6 p339 q339
                              cases e339
                              replace p339 := eq_true p339
                              replace q339 := eq_true q339
                              have p340 : 0 ≤ (x34_6 : Int) := of_decide_eq_true (by first | (with_reducible assumption) | assumption)
                              have q340 : x34_6 < (t335.length : Int) := of_decide_eq_true (by first | (with_reducible assumption) | assumption)
                              obtain ⟨ad340, e340, hx340_0⟩ := Kd.at_int (Kd.R_reads' HO_31.out).2.2 x34_6 p340 q340
                              obtain rfl : ad339 = ad340 := (by injection e340)
                              replace p340 := eq_true p340
                              replace q340 := eq_true q340
                              go_wp2
                              go_roundg k6
                              case measure => have := HJ8.out; have := HK2.out; have := HJ38.out; have := HK4.out; have := HJ62.out; have := HK6.out; omega
                              case rel => exact ⟨(decide ((rd t335 x34_6) < 0)), (decide ((rd t335 x34_6) > 0)), (wrap64 (x34_6 + 1)), (by first | rfl | (simp; done) | (simp [*]; done)), (by first | rfl | (simp; done) | (simp [*]; done)), (by first | rfl | (simp; done) | (simp [*]; done)), H', ⟨by have := HJ8.out; have := HK2.out; have := HJ38.out; have := HK4.out; have := HJ62.out; have := HK6.out; omega⟩, ⟨by (with_reducible repeat (first | apply Kd.R_alloc | apply Kd.R_drewN | apply Kd.R_drew)); exact HO_3.out⟩, ⟨by (with_reducible repeat (first | apply Kd.R_alloc | apply Kd.R_drewN | apply Kd.R_drew)); exact HO_31.out⟩, ⟨by repeat (first | (with_reducible first | exact HB.out | apply below_alloc | apply pw_below_drewN | apply below_drew1) | exact HB.out)⟩⟩
                            ·
                             rw [if_neg c78] at H
                             exact absurd H (by simp)
                          ·
                           rw [if_neg c72] at H
                           have c72b0 : decide (x34_6 < (t335.length : Int)) = false := decide_eq_false c72
                           clear c72
                           by_cases c82 : t331 = true
                           ·
                            subst c82
                            have H1 : (if (t335.length : Int) = (wrap64 ((t297.length : Int) - 1)) then (if x32_6 = true then (if x33_6 = true then (some true) else (some (decide (t329 ≤ 0)))) else (if t329 ≥ 0 then (if x33_6 = true then (some true) else (some (decide (t329 ≤ 0)))) else (some false))) else (some false)) = some r := by rw [if_pos rfl] at H; exact H
                            clear H
                            have H := H1
                            clear H1
                            by_cases c83 : (t335.length : Int) = (wrap64 ((t297.length : Int) - 1))
                            ·
                             rw [if_pos c83] at H
                             have c83b0 : ((t335.length : Int) == (wrap64 ((t297.length : Int) - 1))) = true := beq_iff_eq.mpr c83
                             have c83b1 : ((t335.length : Int) != (wrap64 ((t297.length : Int) - 1))) = false := bne_eq_false_iff_eq.mpr c83
                             clear c83
                             by_cases c84 : x32_6 = true
                             ·
                              subst c84
                              have H1 : (if x33_6 = true then (some true) else (some (decide (t329 ≤ 0)))) = some r := by rw [if_pos rfl] at H; exact H
                              clear H
                              have H := H1
                              clear H1
                              by_cases c85 : x33_6 = true
                              ·
                               subst c85
                               have H1 : (some true) = some r := by rw [if_pos rfl] at H; exact H
                               clear H
                               have H := H1
                               clear H1
                               first
                               | exact absurd (H.trans (congrArg some ht_)) (by decide)
                               |
                                obtain rfl := Option.some.inj H
                                obtain ⟨Ao86, co86, eo86⟩ := Kd.R_slice HO_31.out
                                subst eo86
                                go_wp2
                                go_ret
                                exact ⟨by first | rfl | (simp [errW_none, errW_some] <;> rfl) | (simp [*, errW_none, errW_some] <;> rfl), by repeat (first | (with_reducible first | exact HB.out | apply below_alloc | apply pw_below_drewN | apply below_drew1) | exact HB.out)⟩
                              ·
                               replace c85 := Bool.eq_false_iff.mpr c85
                               subst c85
                               have H1 : (some (decide (t329 ≤ 0))) = some r := by rw [if_neg (show ¬ (false = true) by decide)] at H; exact H
                               clear H
                               have H := H1
                               clear H1
                               first
                               | exact absurd (H.trans (congrArg some ht_)) (by decide)
                               |
                                obtain rfl := Option.some.inj H
                                obtain ⟨Ao87, co87, eo87⟩ := Kd.R_slice HO_31.out
                                subst eo87
                                go_wp2
                                go_ret
                                exact ⟨by first | rfl | (simp [errW_none, errW_some] <;> rfl) | (simp [*, errW_none, errW_some] <;> rfl), by repeat (first | (with_reducible first | exact HB.out | apply below_alloc | apply pw_below_drewN | apply below_drew1) | exact HB.out)⟩
                             ·
                              replace c84 := Bool.eq_false_iff.mpr c84
                              subst c84
                              have H1 : (if t329 ≥ 0 then (if x33_6 = true then (some true) else (some (decide (t329 ≤ 0)))) else (some false)) = some r := by rw [if_neg (show ¬ (false = true) by decide)] at H; exact H
                              clear H
                              have H := H1
                              clear H1
                              by_cases c88 : t329 ≥ 0
                              ·
                               rw [if_pos c88] at H
                               have c88b0 : decide (0 ≤ t329) = true := decide_eq_true c88
                               clear c88
                               by_cases c89 : x33_6 = true
                               ·
                                subst c89
                                have H1 : (some true) = some r := by rw [if_pos rfl] at H; exact H
                                clear H
                                have H := H1
                                clear H1
                                first
                                | exact absurd (H.trans (congrArg some ht_)) (by decide)
                                |
                                 obtain rfl := Option.some.inj H
                                 obtain ⟨Ao90, co90, eo90⟩ := Kd.R_slice HO_31.out
                                 subst eo90
                                 go_wp2
                                 go_ret
                                 exact ⟨by first | rfl | (simp [errW_none, errW_some] <;> rfl) | (simp [*, errW_none, errW_some] <;> rfl), by repeat (first | (with_reducible first | exact HB.out | apply below_alloc | apply pw_below_drewN | apply below_drew1) | exact HB.out)⟩
                               ·
                                replace c89 := Bool.eq_false_iff.mpr c89
                                subst c89
                                have H1 : (some (decide (t329 ≤ 0))) = some r := by rw [if_neg (show ¬ (false = true) by decide)] at H; exact H
                                clear H
                                have H := H1
                                clear H1
                                first
                                | exact absurd (H.trans (congrArg some ht_)) (by decide)
                                |
                                 obtain rfl := Option.some.inj H
                                 obtain ⟨Ao91, co91, eo91⟩ := Kd.R_slice HO_31.out
                                 subst eo91
                                 go_wp2
                                 go_ret
                                 exact ⟨by first | rfl | (simp [errW_none, errW_some] <;> rfl) | (simp [*, errW_none, errW_some] <;> rfl), by repeat (first | (with_reducible first | exact HB.out | apply below_alloc | apply pw_below_drewN | apply below_drew1) | exact HB.out)⟩
                              ·
                               rw [if_neg c88] at H
                               have c88b0 : decide (0 ≤ t329) = false := decide_eq_false c88
                               clear c88
                               first
                               | exact absurd (H.trans (congrArg some ht_)) (by decide)
                               |
                                obtain rfl := Option.some.inj H
                                obtain ⟨Ao92, co92, eo92⟩ := Kd.R_slice HO_31.out
                                subst eo92
                                go_wp2
                                go_ret
                                exact ⟨by first | rfl | (simp [errW_none, errW_some] <;> rfl) | (simp [*, errW_none, errW_some] <;> rfl), by repeat (first | (with_reducible first | exact HB.out | apply below_alloc | apply pw_below_drewN | apply below_drew1) | exact HB.out)⟩
                            ·
                             rw [if_neg c83] at H
                             have c83b0 : ((t335.length : Int) == (wrap64 ((t297.length : Int) - 1))) = false := beq_eq_false_iff_ne.mpr c83
                             have c83b1 : ((t335.length : Int) != (wrap64 ((t297.length : Int) - 1))) = true := bne_iff_ne.mpr c83
                             first
                             | exact absurd (H.trans (congrArg some ht_)) (by decide)
                             |
                              obtain rfl := Option.some.inj H
                              obtain ⟨Ao93, co93, eo93⟩ := Kd.R_slice HO_31.out
                              subst eo93
                              go_wp2
                              go_ret
                              exact ⟨by first | rfl | (simp [errW_none, errW_some] <;> rfl) | (simp [*, errW_none, errW_some] <;> rfl), by repeat (first | (with_reducible first | exact HB.out | apply below_alloc | apply pw_below_drewN | apply below_drew1) | exact HB.out)⟩
                           ·
                            replace c82 := Bool.eq_false_iff.mpr c82
                            subst c82
                            have H1 : (some true) = some r := by rw [if_neg (show ¬ (false = true) by decide)] at H; exact H
                            clear H
                            have H := H1
                            clear H1
                            first
                            | exact absurd (H.trans (congrArg some ht_)) (by decide)
                            |
                             obtain rfl := Option.some.inj H
                             obtain ⟨Ao94, co94, eo94⟩ := Kd.R_slice HO_31.out
                             subst eo94
                             go_wp2
                             go_ret
                             exact ⟨by first | rfl | (simp [errW_none, errW_some] <;> rfl) | (simp [*, errW_none, errW_some] <;> rfl), by repeat (first | (with_reducible first | exact HB.out | apply below_alloc | apply pw_below_drewN | apply below_drew1) | exact HB.out)⟩

/-- THE ONE PURE STATEMENT of laws_FnTrends: yours. -/
def laws_FnTrends.Pure : Prop := ∀ (l0 : List Int), l0.length ≤ maxLen → l0.length * 1 ≤ 140737488351232 → (∀ x ∈ l0, (Lit.int .u8 x).wf = true) → ∃ k, laws_FnTrends.f k l0 = some true
theorem laws_FnTrends.walk (P : laws_FnTrends.Pure) (a0 : Option Addr) (len0 cap0 : Nat) (z0 : List Int) (w : World) (w0 : (a0 = none ∧ len0 = 0 ∧ cap0 = 0 ∧ z0 = []) ∨ ∃ x, a0 = some x ∧ len0 ≤ cap0 ∧ cap0 ≤ maxLen ∧ z0.length = cap0 ∧ (∀ i, i < z0.length → w.cell? (x.add i) = some (.int .u8 (z0.getD i 0))) ∧ ∀ n ∈ z0, (Lit.int .u8 n).wf = true) (y0 : len0 * 1 ≤ 140737488351232) :
  Calls Try.prog 3 #[.slice a0 len0 cap0] w fun e w' => e = .returned (.bool true) ∧ Below w.heap.size w w' := by
 obtain ⟨l0, rfl, hr0, hm0, hw0, hc0⟩ := ReadsInt.ofRowC w0
 obtain ⟨k, h⟩ := P l0 hm0 y0 hw0
 refine (laws_FnTrends.calls k _ _ l0 true w (Kd.C_of_reads (d := (0 : Int)) (h1 := fun _ => rfl) hr0) hc0 h).mono ?_
 rintro e w' ⟨rfl, hd⟩
 exact ⟨rfl, hd⟩
theorem laws_FnTrends.j0.st {x3 : List Int} {x4 : Int} {x7 : List Int} {x9 : Int} {x10 : Int} {x11 : Bool} {x89 : Bool} {r : (Bool)} (H : Ev (fun k => if x89 = true then (some false) else (laws_FnTrends.l0 k x3 x4 x7 x9 x10 x11 0)) r) : Ev (fun k => laws_FnTrends.j0 k x3 x4 x7 x9 x10 x11 x89) r := Ev.step (fun k => laws_FnTrends.j0.eq_2 x3 x4 x7 x9 x10 x11 x89 k) H
theorem laws_FnTrends.l0.st {x3 : List Int} {x4 : Int} {x7 : List Int} {x9 : Int} {x10 : Int} {x11 : Bool} {x15 : Int} {r : (Bool)} (H : Ev (fun k => if x15 < (x7.length : Int) then (if 0 ≤ x15 then (if (rd x7 x15) < x9 then (some false) else (if (rd x7 x15) > x10 then (some false) else (laws_FnTrends.l0 k x3 x4 x7 x9 x10 x11 (wrap64 (x15 + 1))))) else (none)) else ((impl_MedianOf.f x3).bind fun bt318 => ((impl_PercentileOf.f x3 500).bind fun bt320 => (if (bt318.2 != bt320.2) = true then (laws_FnTrends.j2 k x3 x4 true) else (if bt318.1 = bt320.1 then (if (bt318.2 != x11) = true then (laws_FnTrends.j2 k x3 x4 true) else (if bt318.2 = true then (if bt318.1 < x9 then (laws_FnTrends.j2 k x3 x4 true) else (laws_FnTrends.j2 k x3 x4 (decide (bt318.1 > x10)))) else (laws_FnTrends.j2 k x3 x4 false))) else (laws_FnTrends.j2 k x3 x4 true)))))) r) : Ev (fun k => laws_FnTrends.l0 k x3 x4 x7 x9 x10 x11 x15) r := Ev.step (fun k => laws_FnTrends.l0.eq_2 x3 x4 x7 x9 x10 x11 x15 k) H
theorem laws_FnTrends.j2.st {x3 : List Int} {x4 : Int} {x145 : Bool} {r : (Bool)} (H : Ev (fun k => if x145 = true then (some false) else ((impl_ClipSpikes.f k x3 x4).bind fun bt322 => ((impl_PercentileOf.f x3 x4).bind fun bt326 => (if (bt322.2 != bt326.2) = true then (some false) else (laws_FnTrends.l1 k x3 bt322.1 bt326.1 0))))) r) : Ev (fun k => laws_FnTrends.j2 k x3 x4 x145) r := Ev.step (fun k => laws_FnTrends.j2.eq_2 x3 x4 x145 k) H
theorem laws_FnTrends.l1.st {x3 : List Int} {x20 : List Int} {x22 : Int} {x24 : Int} {r : (Bool)} (H : Ev (fun k => if x24 < (x20.length : Int) then (if 0 ≤ x24 then (if (rd x20 x24) > x22 then (some false) else (laws_FnTrends.l1 k x3 x20 x22 (wrap64 (x24 + 1)))) else (none)) else ((impl_SlopeOf.f k x3).bind fun bt329 => ((spec_SlopeOf.f k x3).bind fun bt332 => (if (bt329.2.2 != bt332.2.2) = true then (laws_FnTrends.j4 k x3 bt329.1 bt329.2.2 true) else (if bt329.1 = bt332.1 then (if bt329.2.1 = bt332.2.1 then (laws_FnTrends.j4 k x3 bt329.1 bt329.2.2 (decide (bt329.2.1 < 1))) else (laws_FnTrends.j4 k x3 bt329.1 bt329.2.2 true)) else (laws_FnTrends.j4 k x3 bt329.1 bt329.2.2 true)))))) r) : Ev (fun k => laws_FnTrends.l1 k x3 x20 x22 x24) r := Ev.step (fun k => laws_FnTrends.l1.eq_2 x3 x20 x22 x24 k) H
theorem laws_FnTrends.j4.st {x3 : List Int} {x25 : Int} {x27 : Bool} {x201 : Bool} {r : (Bool)} (H : Ev (fun k => if x201 = true then (some false) else ((impl_DiffsOf.f k x3).bind fun t335 => (laws_FnTrends.l2 k x3 x25 x27 t335 false false 0))) r) : Ev (fun k => laws_FnTrends.j4 k x3 x25 x27 x201) r := Ev.step (fun k => laws_FnTrends.j4.eq_2 x3 x25 x27 x201 k) H
theorem laws_FnTrends.l2.st {x3 : List Int} {x25 : Int} {x27 : Bool} {x31 : List Int} {x32 : Bool} {x33 : Bool} {x34 : Int} {r : (Bool)} (H : Ev (fun k => if x34 < (x31.length : Int) then (if x32 = true then (if x33 = true then (laws_FnTrends.l2 k x3 x25 x27 x31 true true (wrap64 (x34 + 1))) else (if 0 ≤ x34 then (laws_FnTrends.l2 k x3 x25 x27 x31 true (decide ((rd x31 x34) > 0)) (wrap64 (x34 + 1))) else (none))) else (if 0 ≤ x34 then (if x33 = true then (laws_FnTrends.l2 k x3 x25 x27 x31 (decide ((rd x31 x34) < 0)) true (wrap64 (x34 + 1))) else (laws_FnTrends.l2 k x3 x25 x27 x31 (decide ((rd x31 x34) < 0)) (decide ((rd x31 x34) > 0)) (wrap64 (x34 + 1)))) else (none))) else (if x27 = true then (if (x31.length : Int) = (wrap64 ((x3.length : Int) - 1)) then (if x32 = true then (if x33 = true then (some true) else (some (decide (x25 ≤ 0)))) else (if x25 ≥ 0 then (if x33 = true then (some true) else (some (decide (x25 ≤ 0)))) else (some false))) else (some false)) else (some true))) r) : Ev (fun k => laws_FnTrends.l2 k x3 x25 x27 x31 x32 x33 x34) r := Ev.step (fun k => laws_FnTrends.l2.eq_2 x3 x25 x27 x31 x32 x33 x34 k) H

end Go.Proofs.Ytclmebhdpdjpdaa.PA
