/- The plain statement of FnTrends: for every drawn list and part the smoothed list, the range and the slope are the reference's, the smoothed list and the median stay within the range, no clipped element exceeds its percentile, and the slope's sign is the movement's. No condition. -/
import Derived.Test.YtclmebhdpdjpdaaDrawTrends
import Derived.Test.YtclmebhdpdjpdaaTrendsSlope
import Derived.Test.YtclmebhdpdjpdaaPAx1
import Derived.Test.YtclmebhdpdjpdaaPAx2
import Derived.Test.YtclmebhdpdjpdaaPAx3
namespace Go.Proofs.Ytclmebhdpdjpdaa.PA
open Go.RowKit Go.Proofs.YtclmebhdpdjpdaaW.PrintWords Go.Proofs.YtclmebhdpdjpdaaW.PrintLast Go.Proofs.YtclmebhdpdjpdaaW.PrintMore Go.Proofs.Ytclmebhdpdjpdaa.Aid
set_option linter.unusedVariables false
set_option linter.unusedSimpArgs false

theorem same_self (l : List Int) (hl : l.length ≤ 1048576) : Ev (fun k => laws_same.f k l l) true := by
  unfold laws_same.f
  refine ev_pos rfl ?_
  have := ev_up (n := l.length) (fun i => Ev (fun k => laws_same.l0 k l l (i : Int)) true) (laws_same.l0.st (ev_neg (by omega) ev_now))
    (by
      intro i hi H
      refine laws_same.l0.st (ev_pos (by omega) (ev_pos (by omega) (ev_pos (by omega) (ev_pos rfl ?_))))
      rw [w64 (by omega) (by omega)]
      exact H) 0 (Nat.zero_le _)
  exact this

theorem trends_l2 (l D : List Int) (num : Int) (ok : Bool) (hl : l.length ≤ 301) (hD : D.length ≤ 301) (hok : ok = true → 1 ≤ l.length ∧ D.length = l.length - 1 ∧ ((∀ j, j < D.length → 0 ≤ rd D (j : Int)) → 0 ≤ num) ∧ ((∀ j, j < D.length → rd D (j : Int) ≤ 0) → num ≤ 0)) :
    Ev (fun k => laws_FnTrends.l2 k l num ok D false false 0) true := by
  have := ev_up (n := D.length) (fun i => ∀ f r : Bool, (f = false → ∀ j, j < i → 0 ≤ rd D (j : Int)) → (r = false → ∀ j, j < i → rd D (j : Int) ≤ 0) → Ev (fun k => laws_FnTrends.l2 k l num ok D f r (i : Int)) true)
    (by
      intro f r hf hr
      refine laws_FnTrends.l2.st (ev_neg (by omega) ?_)
      cases ok with
      | false => exact ev_neg (by simp) ev_now
      | true =>
        obtain ⟨h0, h1, h2, h3⟩ := hok rfl
        refine ev_pos rfl (ev_pos (by rw [w64 (by omega) (by omega)]; omega) ?_)
        have hlast : Ev (fun k => if r = true then some true else some (decide (num ≤ 0))) true := by
          cases r with
          | true => exact ev_pos rfl ev_now
          | false => exact ev_neg (by simp) (ev_val (by rw [decide_eq_true (h3 (hr rfl))]))
        cases f with
        | true => exact ev_pos rfl hlast
        | false => exact ev_neg (by simp) (ev_pos (h2 (hf rfl)) hlast))
    (by
      intro i hi H f r hf hr
      refine laws_FnTrends.l2.st (ev_pos (by omega) ?_)
      rw [w64 (x := (i : Int) + 1) (by omega) (by omega)]
      have nf : f = false → decide (rd D (i : Int) < 0) = false → ∀ j, j < i + 1 → 0 ≤ rd D (j : Int) := fun h1 h2 j hj => by
        have := of_decide_eq_false h2
        by_cases e : j = i
        · subst e; omega
        · exact hf h1 j (by omega)
      have nr : r = false → decide (rd D (i : Int) > 0) = false → ∀ j, j < i + 1 → rd D (j : Int) ≤ 0 := fun h1 h2 j hj => by
        have := of_decide_eq_false h2
        by_cases e : j = i
        · subst e; omega
        · exact hr h1 j (by omega)
      cases f with
      | true =>
        refine ev_pos rfl ?_
        cases r with
        | true => exact ev_pos rfl (H true true (fun h => by cases h) (fun h => by cases h))
        | false => exact ev_neg (by simp) (ev_pos (by omega) (H true _ (fun h => by cases h) (nr rfl)))
      | false =>
        refine ev_neg (by simp) (ev_pos (by omega) ?_)
        cases r with
        | true => exact ev_pos rfl (H _ true (nf rfl) (fun h => by cases h))
        | false => exact ev_neg (by simp) (H _ _ (nf rfl) (nr rfl))) 0 (Nat.zero_le _) false false (fun _ j hj => absurd hj (Nat.not_lt_zero _)) (fun _ j hj => absurd hj (Nat.not_lt_zero _))
  exact this

theorem sz_vals {l : List Int} (hn : (l.length : Int) ≤ 300) (h : l.all isSz = true) : areVals l = true := by
  unfold areVals
  rw [decide_eq_true hn, Bool.true_and, List.all_eq_true]
  intro x hx
  have := sz_iff.1 (List.all_eq_true.1 h x hx)
  exact val_iff.2 (by omega)

theorem diffs_at (l : List Int) (i : Nat) (h : i < l.length - 1) : rd (diffs l) (i : Int) = diffAt l i := by
  unfold diffs
  rw [rd_at (by simpa using h)]
  simp

theorem trends_j4 (l : List Int) (hl : l.length ≤ 301) : Ev (fun k => laws_FnTrends.j4 k l (slopeOf l).1 (slopeOf l).2.2 false) true := by
  refine laws_FnTrends.j4.st (ev_neg (by simp) (ev_bind (diffsI l (by omega)) ?_))
  have hdl : (diffsOf l).length ≤ 301 := by
    unfold diffsOf
    split
    · unfold diffs; rw [List.length_map, List.length_range]; omega
    · simp
  refine trends_l2 l _ _ _ hl hdl (fun hok => ?_)
  have hs : slopeOk l = true := by
    cases h : slopeOk l with
    | true => rfl
    | false => unfold slopeOf at hok; rw [if_neg (by rw [h]; simp)] at hok; cases hok
  have hs' := hs
  unfold slopeOk at hs'
  rw [Bool.and_eq_true] at hs'
  have hn := of_decide_eq_true hs'.1
  have hd : diffsOf l = diffs l := by unfold diffsOf; rw [if_pos (sz_vals (by omega) hs'.2)]
  have hsv : slopeOf l = slopeVal l := by unfold slopeOf; rw [if_pos hs]
  have hlen : (diffs l).length = l.length - 1 := by unfold diffs; rw [List.length_map, List.length_range]
  obtain ⟨_, f2, f3⟩ := slope_facts l hs
  rw [hd, hsv]
  refine ⟨by omega, hlen, fun h => f2 fun i hi => ?_, fun h => f3 fun i hi => ?_⟩
  · have := h i (by omega)
    rw [diffs_at l i (by omega)] at this
    unfold diffAt at this
    omega
  · have := h i (by omega)
    rw [diffs_at l i (by omega)] at this
    unfold diffAt at this
    omega

theorem trends_l1 (l : List Int) (p : Int) (hl : l.length ≤ 301) : Ev (fun k => laws_FnTrends.l1 k l (clipOf l p).1 (percOf l p).1 0) true := by
  have hc : (clipOf l p).1.length ≤ 301 ∧ ∀ i, i < (clipOf l p).1.length → rd (clipOf l p).1 (i : Int) ≤ (percOf l p).1 := by
    unfold clipOf
    split
    · refine ⟨by rw [List.length_map]; exact hl, fun i hi => ?_⟩
      rw [rd_at hi, List.getElem_map]
      exact (mn_le _ _).2.1
    · exact ⟨by simp, fun i hi => absurd hi (by simp)⟩
  generalize (clipOf l p).1 = c at hc
  generalize (percOf l p).1 = m at hc
  have := ev_up (n := c.length) (fun i => Ev (fun k => laws_FnTrends.l1 k l c m (i : Int)) true)
    (by
      refine laws_FnTrends.l1.st (ev_neg (by omega) (ev_bind (slopeI l (by omega)) (ev_bind (slopeS l (by omega)) ?_)))
      refine ev_neg (by simp) (ev_pos rfl (ev_pos rfl ?_))
      have hden : decide ((slopeOf l).2.1 < 1) = false := by
        refine decide_eq_false ?_
        cases h : slopeOk l with
        | true =>
          have := (slope_facts l h).1
          rw [show slopeOf l = slopeVal l from by unfold slopeOf; rw [if_pos h]]
          omega
        | false =>
          rw [show slopeOf l = (0, 1, false) from by unfold slopeOf; rw [if_neg (by rw [h]; simp)]]
          simp
      rw [hden]
      exact trends_j4 l hl)
    (by
      intro i hi H
      refine laws_FnTrends.l1.st (ev_pos (by omega) (ev_pos (by omega) (ev_neg (by have := hc.2 i hi; omega) ?_)))
      rw [w64 (by omega) (by omega)]
      exact H) 0 (Nat.zero_le _)
  exact this

theorem trends_j2 (l : List Int) (p : Int) (hl : l.length ≤ 301) : Ev (fun k => laws_FnTrends.j2 k l p false) true := by
  refine laws_FnTrends.j2.st (ev_neg (by simp) (ev_bind (clipI l p (by omega)) (ev_call (percI l p) (ev_neg ?_ (trends_l1 l p hl)))))
  unfold clipOf percOf
  split <;> simp

theorem trends_l0 (l : List Int) (p : Int) (hl : l.length ≤ 301) : Ev (fun k => laws_FnTrends.l0 k l p (smoothOf p l).1 (rangeOf l).1 (rangeOf l).2.1 (rangeOf l).2.2 0) true := by
  have hs : (smoothOf p l).1.length ≤ 301 ∧ ∀ i, i < (smoothOf p l).1.length → (rangeOf l).1 ≤ rd (smoothOf p l).1 (i : Int) ∧ rd (smoothOf p l).1 (i : Int) ≤ (rangeOf l).2.1 := by
    cases h : smoothOk p l with
    | false =>
      rw [show smoothOf p l = ([], false) from by unfold smoothOf; rw [if_neg (by rw [h]; simp)]]
      exact ⟨by simp, fun i hi => absurd hi (by simp)⟩
    | true =>
      rw [show smoothOf p l = (smooth p l, true) from by unfold smoothOf; rw [if_pos h]]
      unfold smoothOk at h
      rw [Bool.and_eq_true, Bool.and_eq_true] at h
      have hn := of_decide_eq_true h.1
      have hp := of_decide_eq_true h.2.2
      have hne : l ≠ [] := by intro e; rw [e] at hn; simp at hn
      have hr : rangeOk l = true := by unfold rangeOk; rw [sz_vals (by omega) h.2.1]; simp [hne]
      rw [show rangeOf l = (leastOf l, mostOf l, true) from by unfold rangeOf; rw [if_pos hr]]
      have hlen : (smooth p l).length = l.length := by unfold smooth; rw [List.length_map, List.length_range]
      refine ⟨by rw [hlen]; exact hl, fun i hi => ?_⟩
      have hi' : i < l.length := by rw [← hlen]; exact hi
      show leastOf l ≤ rd (smooth p l) (i : Int) ∧ rd (smooth p l) (i : Int) ≤ mostOf l
      unfold smooth
      rw [smooth_at p l l.length i hi']
      exact sm_between p l _ _ hp i fun j hj => ⟨(least_spec hne).2 _ (rd_mem (by omega)), (most_spec hne).2 _ (rd_mem (by omega))⟩
  generalize (smoothOf p l).1 = s at hs
  have := ev_up (n := s.length) (fun i => Ev (fun k => laws_FnTrends.l0 k l p s (rangeOf l).1 (rangeOf l).2.1 (rangeOf l).2.2 (i : Int)) true)
    (by
      refine laws_FnTrends.l0.st (ev_neg (by omega) (ev_call (b := percOf l 500) (by unfold impl_MedianOf.f; rw [percI]; rfl) (ev_call (percI l 500) (ev_neg (by simp) (ev_pos rfl ?_)))))
      have e1 : (percOf l 500).2 = rangeOk l := by
        unfold percOf percOk
        cases rangeOk l <;> simp
      have e2 : (rangeOf l).2.2 = rangeOk l := by
        unfold rangeOf
        cases rangeOk l <;> simp
      rw [e1, e2]
      refine ev_neg (by simp) ?_
      cases h : rangeOk l with
      | false => exact ev_neg (by simp) (trends_j2 l p hl)
      | true =>
        have hpo : percOk l 500 = true := by unfold percOk; rw [h]; rfl
        have hm := perc_mem l 500 hpo
        have hne : l ≠ [] := by intro e; rw [e] at hm; simp at hm
        have hlo := (least_spec hne).2 _ hm
        have hhi := (most_spec hne).2 _ hm
        rw [show rangeOf l = (leastOf l, mostOf l, true) from by unfold rangeOf; rw [if_pos h]]
        refine ev_pos rfl (ev_neg (by show ¬ (percOf l 500).1 < leastOf l; omega) ?_)
        rw [show decide ((percOf l 500).1 > (leastOf l, mostOf l, true).2.1) = false from decide_eq_false (by show ¬ (percOf l 500).1 > mostOf l; omega)]
        exact trends_j2 l p hl)
    (by
      intro i hi H
      have h2 := hs.2 i hi
      refine laws_FnTrends.l0.st (ev_pos (by omega) (ev_pos (by omega) (ev_neg (by omega) (ev_neg (by omega) ?_))))
      rw [w64 (by omega) (by omega)]
      exact H) 0 (Nat.zero_le _)
  exact this

theorem plainTrends (l0 : List Int) : Ev (fun k => laws_FnTrends.f k l0) true := by
  unfold laws_FnTrends.f
  refine ev_call (b := decide ((l0.length : Int) > 1048576)) rfl (ev_ite (fun _ => ev_now) (fun hb => ?_))
  have hb' : l0.length ≤ 1048576 := by
    have := of_decide_eq_false (Bool.eq_false_iff.2 hb)
    omega
  obtain ⟨l, p, hd, hl⟩ := drawSmooth l0 hb'
  have hsl : (smoothOf p l).1.length ≤ 1048576 := by
    unfold smoothOf
    split
    · unfold smooth; rw [List.length_map, List.length_range]; omega
    · simp
  refine ev_bind hd (ev_bind (smoothS p l (by omega)) (ev_bind (smoothI p l (by omega)) (ev_bind (rangeI l (by omega)) (ev_bind (rangeS l (by omega)) ?_))))
  refine ev_neg (by simp) (ev_bind (same_self _ hsl) (ev_pos rfl (ev_neg (by simp) (ev_pos rfl ?_))))
  refine laws_FnTrends.j0.st (ev_neg (by simp) ?_)
  exact trends_l0 l p hl
end Go.Proofs.Ytclmebhdpdjpdaa.PA
