/- What the slope and the differences answer. No condition but that the lists are short. -/
import Derived.Test.YtclmebhdpdjpdaaTrendsLoops
import Derived.Test.YtclmebhdpdjpdaaPAx1
import Derived.Test.YtclmebhdpdjpdaaPAx2
namespace Go.Proofs.Ytclmebhdpdjpdaa.PA
open Go.RowKit Go.Proofs.YtclmebhdpdjpdaaW.PrintWords Go.Proofs.YtclmebhdpdjpdaaW.PrintLast Go.Proofs.YtclmebhdpdjpdaaW.PrintMore Go.Proofs.Ytclmebhdpdjpdaa.Aid
set_option linter.unusedVariables false
set_option linter.unusedSimpArgs false

theorem gcd_next (a b : Int) : Int.gcd b (Int.tmod a b) = Int.gcd a b := by
  show Nat.gcd b.natAbs (Int.tmod a b).natAbs = Nat.gcd a.natAbs b.natAbs
  rw [Int.natAbs_tmod, Nat.gcd_comm, ← Nat.gcd_rec, Nat.gcd_comm]
theorem tmod_small (a b : Int) (h : b ≠ 0) : (Int.tmod a b).natAbs < b.natAbs := by
  rw [Int.natAbs_tmod]
  exact Nat.mod_lt _ (by omega)
theorem gcdI (n : Nat) : ∀ a b : Int, b.natAbs ≤ n → a.natAbs ≤ 4611686018427387904 → b.natAbs ≤ 4611686018427387904 → Ev (fun k => impl_gcd.l0 k a b) ((Int.gcd a b : Nat) : Int) := by
  induction n with
  | zero =>
    intro a b hb ha hb'
    obtain rfl : b = 0 := by omega
    refine impl_gcd.l0.st (ev_pos rfl (ev_val ?_))
    rw [w64 (by omega) (by omega), show Int.gcd a 0 = a.natAbs from Nat.gcd_zero_right _]
    congr 1
    rcases mx_cases a (-a) with ⟨h, e⟩ | ⟨h, e⟩ <;> omega
  | succ n ih =>
    intro a b hb ha hb'
    by_cases h : b = 0
    · exact ih a b (by omega) ha hb'
    · have h1 := tmod_small a b h
      refine impl_gcd.l0.st (ev_neg h ?_)
      rw [← gcd_next]
      exact ih b (Int.tmod a b) (by omega) hb' (by omega)
theorem gcdS (n : Nat) : ∀ a b : Int, b.natAbs ≤ n → 0 ≤ a → 0 ≤ b → Ev (fun k => spec_l11Gcd.l0 k a b) ((Int.gcd a b : Nat) : Int) := by
  induction n with
  | zero =>
    intro a b hb ha hb'
    obtain rfl : b = 0 := by omega
    refine spec_l11Gcd.l0.st (ev_pos rfl (ev_val ?_))
    rw [show Int.gcd a 0 = a.natAbs from Nat.gcd_zero_right _]
    congr 1
    omega
  | succ n ih =>
    intro a b hb ha hb'
    by_cases h : b = 0
    · exact ih a b (by omega) ha hb'
    · have h1 := tmod_small a b h
      refine spec_l11Gcd.l0.st (ev_neg h ?_)
      rw [← gcd_next]
      exact ih b (Int.tmod a b) (by omega) hb' (Int.tmod_nonneg b ha)
theorem gcdSf (a b : Int) (ha : a.natAbs ≤ 4611686018427387904) (hb : 0 ≤ b) : Ev (fun k => spec_l11Gcd.f k a b) ((Int.gcd a b : Nat) : Int) := by
  unfold spec_l11Gcd.f
  by_cases h : a < 0
  · refine ev_pos h (spec_l11Gcd.j0.st ?_)
    rw [w64 (by omega) (by omega), ← Int.neg_gcd]
    exact gcdS _ _ _ (Nat.le_refl _) (by omega) hb
  · exact ev_neg h (spec_l11Gcd.j0.st (gcdS _ _ _ (Nat.le_refl _) (by omega) hb))

def xs_ (l : List Int) (i : Nat) : Int := rd l (i : Int)
def slopeNum (l : List Int) : Int := (l.length : Int) * sumIX (xs_ l) l.length - sumI l.length * sumX (xs_ l) l.length
def slopeDen (l : List Int) : Int := (l.length : Int) * sumII l.length - sumI l.length * sumI l.length
def slopeGcd (l : List Int) : Int := ((Int.gcd (slopeNum l) (slopeDen l) : Nat) : Int)
def slopeVal (l : List Int) : Int × Int × Bool := (Int.tdiv (slopeNum l) (slopeGcd l), Int.tdiv (slopeDen l) (slopeGcd l), true)
def slopeOk (l : List Int) : Bool := decide (2 ≤ (l.length : Int) ∧ (l.length : Int) ≤ 100) && l.all isSz
def slopeOf (l : List Int) : Int × Int × Bool := if slopeOk l = true then slopeVal l else (0, 1, false)

/-- What the end of both loops reckons, and what it comes to. -/
theorem slope_end (l : List Int) (h1 : 2 ≤ l.length ∧ l.length ≤ 100) (h2 : ∀ i, i < l.length → 0 ≤ rd l (i : Int) ∧ rd l (i : Int) ≤ 1000000000) :
    (wrap64 (wrap64 ((l.length : Int) * sumIX (xs_ l) l.length) - wrap64 (sumI l.length * sumX (xs_ l) l.length)) = slopeNum l ∧ wrap64 (wrap64 ((l.length : Int) * sumII l.length) - wrap64 (sumI l.length * sumI l.length)) = slopeDen l) ∧
    ((slopeNum l).natAbs ≤ 4611686018427387904 ∧ 1 ≤ slopeDen l ∧ (slopeDen l).natAbs ≤ 4611686018427387904) ∧
    (slopeGcd l ≠ 0 ∧ wrap64 (Int.tdiv (slopeNum l) (slopeGcd l)) = Int.tdiv (slopeNum l) (slopeGcd l) ∧ wrap64 (Int.tdiv (slopeDen l) (slopeGcd l)) = Int.tdiv (slopeDen l) (slopeGcd l)) := by
  obtain ⟨s1, s2, s3, s4⟩ := sums_small (xs_ l) l.length h1.2 h2 l.length (Nat.le_refl _)
  have hd := den_pos l.length h1.1
  have m1 := mul_range (a := (l.length : Int)) (b := sumIX (xs_ l) l.length) (A := 100) (B := 10000000000000) (by omega) (by omega) s4.1 (by omega)
  have m2 := mul_range (a := sumI l.length) (b := sumX (xs_ l) l.length) (A := 10000) (B := 100000000000) s1.1 (by omega) s3.1 (by omega)
  have m3 := mul_range (a := (l.length : Int)) (b := sumII l.length) (A := 100) (B := 1000000) (by omega) (by omega) s2.1 (by omega)
  have m4 := mul_range (a := sumI l.length) (b := sumI l.length) (A := 10000) (B := 10000) s1.1 (by omega) s1.1 (by omega)
  have hn : (slopeNum l).natAbs ≤ 4611686018427387904 := by unfold slopeNum; omega
  have hd1 : 1 ≤ slopeDen l := hd
  have hd2 : (slopeDen l).natAbs ≤ 4611686018427387904 := by unfold slopeDen; omega
  have hg : slopeGcd l ≠ 0 := by
    unfold slopeGcd
    have : 0 < Int.gcd (slopeNum l) (slopeDen l) := Nat.gcd_pos_of_pos_right _ (by omega)
    omega
  have hq : ∀ a : Int, a.natAbs ≤ 4611686018427387904 → wrap64 (Int.tdiv a (slopeGcd l)) = Int.tdiv a (slopeGcd l) := fun a ha => by
    have h3 : (Int.tdiv a (slopeGcd l)).natAbs ≤ a.natAbs := by rw [Int.natAbs_tdiv]; exact Nat.div_le_self _ _
    exact w64 (by omega) (by omega)
  refine ⟨⟨?_, ?_⟩, ⟨hn, hd1, hd2⟩, hg, hq _ hn, hq _ hd2⟩
  · rw [w64 (x := (l.length : Int) * sumIX (xs_ l) l.length) (by omega) (by omega), w64 (x := sumI l.length * sumX (xs_ l) l.length) (by omega) (by omega)]
    exact w64 (by omega) (by omega)
  · rw [w64 (x := (l.length : Int) * sumII l.length) (by omega) (by omega), w64 (x := sumI l.length * sumI l.length) (by omega) (by omega)]
    exact w64 (by omega) (by omega)
/-- One round's sums do not wrap. -/
theorem slope_round (l : List Int) (i : Nat) (hi : i < 100) (hz : ∀ j, j < i + 1 → 0 ≤ rd l (j : Int) ∧ rd l (j : Int) ≤ 1000000000) :
    wrap64 (sumI i + (i : Int)) = sumI (i + 1) ∧ wrap64 (sumX (xs_ l) i + rd l (i : Int)) = sumX (xs_ l) (i + 1) ∧ wrap64 (sumII i + wrap64 ((i : Int) * (i : Int))) = sumII (i + 1) ∧ wrap64 (sumIX (xs_ l) i + wrap64 ((i : Int) * rd l (i : Int))) = sumIX (xs_ l) (i + 1) := by
  obtain ⟨s1, s2, s3, s4⟩ := sums_small (xs_ l) i (by omega) (fun j hj => hz j (by omega)) i (Nat.le_refl _)
  have hx := hz i (by omega)
  have m1 := mul_range (a := (i : Int)) (b := (i : Int)) (A := 100) (B := 100) (by omega) (by omega) (by omega) (by omega)
  have m2 := mul_range (a := (i : Int)) (b := rd l (i : Int)) (A := 100) (B := 1000000000) (by omega) (by omega) hx.1 hx.2
  rw [w64 (x := (i : Int) * (i : Int)) (by omega) (by omega), w64 (x := (i : Int) * rd l (i : Int)) (by omega) (by omega)]
  exact ⟨w64 (by omega) (by omega), w64 (by omega) (by omega), w64 (by omega) (by omega), w64 (by omega) (by omega)⟩
theorem slopeI (l : List Int) (hl : l.length ≤ 1048576) : Ev (fun k => impl_SlopeOf.f k l) (slopeOf l) := by
  unfold impl_SlopeOf.f slopeOf slopeOk
  refine ev_call (inI _ _ _) ?_
  cases h1 : decide (2 ≤ (l.length : Int) ∧ (l.length : Int) ≤ 100) with
  | false => exact ev_neg (by simp) ev_now
  | true =>
    have hn := of_decide_eq_true h1
    rw [Bool.true_and]
    refine ev_pos rfl ?_
    have := ev_up (n := l.length) (fun i => (∀ j, j < i → 0 ≤ rd l (j : Int) ∧ rd l (j : Int) ≤ 1000000000) → Ev (fun k => impl_SlopeOf.l0 k (l.length : Int) (sumI i) (sumX (xs_ l) i) (sumII i) (sumIX (xs_ l) i) l (l.length : Int) (i : Int)) (if (l.drop i).all isSz = true then slopeVal l else (0, 1, false)))
      (by
        intro hz
        rw [List.drop_length, List.all_nil, if_pos rfl]
        obtain ⟨⟨e1, e2⟩, ⟨b1, b2, b3⟩, hg, q1, q2⟩ := slope_end l ⟨by omega, by omega⟩ hz
        refine impl_SlopeOf.l0.st (ev_neg (by omega) ?_)
        rw [e1, e2]
        refine ev_bind (b := slopeGcd l) (gcdI _ _ _ (Nat.le_refl _) b1 b3) (ev_neg hg ?_)
        rw [q1, q2]
        exact ev_now)
      (by
        intro i hi H hz
        rw [drop_cons hi, List.all_cons]
        refine impl_SlopeOf.l0.st (ev_pos (by omega) (ev_pos (by omega) (ev_pos (by omega) (ev_call (sizeI _) ?_))))
        cases hb : isSz (rd l (i : Int)) with
        | false => exact ev_neg (by simp) ev_now
        | true =>
          have hx := sz_iff.1 hb
          have hz' : ∀ j, j < i + 1 → 0 ≤ rd l (j : Int) ∧ rd l (j : Int) ≤ 1000000000 := fun j hj => by
            by_cases e : j = i
            · subst e; exact hx
            · exact hz j (by omega)
          obtain ⟨r1, r2, r3, r4⟩ := slope_round l i (by omega) hz'
          rw [Bool.true_and]
          refine ev_pos rfl ?_
          rw [r1, r2, r3, r4, w64 (x := (i : Int) + 1) (by omega) (by omega)]
          exact H hz') 0 (Nat.zero_le _) (fun j hj => absurd hj (Nat.not_lt_zero _))
    exact this
theorem slopeS (l : List Int) (hl : l.length ≤ 1048576) : Ev (fun k => spec_SlopeOf.f k l) (slopeOf l) := by
  unfold spec_SlopeOf.f slopeOf slopeOk
  refine ev_call (inS _ _ _) ?_
  cases h1 : decide (2 ≤ (l.length : Int) ∧ (l.length : Int) ≤ 100) with
  | false => exact ev_neg (by simp) (spec_SlopeOf.j0.st (ev_pos rfl ev_now))
  | true =>
    have hn := of_decide_eq_true h1
    rw [Bool.true_and]
    refine ev_pos rfl (ev_bind (sizesS l hl) ?_)
    cases h2 : l.all isSz with
    | false => exact spec_SlopeOf.j0.st (ev_pos rfl ev_now)
    | true =>
      have hz : ∀ i, i < l.length → 0 ≤ rd l (i : Int) ∧ rd l (i : Int) ≤ 1000000000 := fun i hi => sz_iff.1 (all_at h2 hi)
      rw [if_pos rfl]
      refine spec_SlopeOf.j0.st (ev_neg (by simp) ?_)
      have := ev_up (n := l.length) (fun i => Ev (fun k => spec_SlopeOf.l0 k l (l.length : Int) (sumIX (xs_ l) i) (sumI i) (sumX (xs_ l) i) (sumII i) (i : Int)) (slopeVal l))
        (by
          obtain ⟨⟨e1, e2⟩, ⟨b1, b2, b3⟩, hg, q1, q2⟩ := slope_end l ⟨by omega, by omega⟩ hz
          refine spec_SlopeOf.l0.st (ev_neg (by omega) ?_)
          rw [e1, e2]
          refine ev_bind (b := slopeGcd l) (gcdSf _ _ b1 (by omega)) (ev_neg hg ?_)
          rw [q1, q2]
          exact ev_now)
        (by
          intro i hi H
          obtain ⟨r1, r2, r3, r4⟩ := slope_round l i (by omega) (fun j hj => hz j (by omega))
          refine spec_SlopeOf.l0.st (ev_pos (by omega) (ev_pos (by omega) (ev_pos (by omega) ?_)))
          rw [r1, r2, r3, r4, w64 (x := (i : Int) + 1) (by omega) (by omega)]
          exact H) 0 (Nat.zero_le _)
      exact this
/-- The slope's denominator is at least 1; its numerator has the sign of the list's movement. -/
theorem slope_facts (l : List Int) (h : slopeOk l = true) : 1 ≤ (slopeVal l).2.1 ∧ ((∀ i, i + 1 < l.length → rd l (i : Int) ≤ rd l ((i + 1 : Nat) : Int)) → 0 ≤ (slopeVal l).1) ∧ ((∀ i, i + 1 < l.length → rd l ((i + 1 : Nat) : Int) ≤ rd l (i : Int)) → (slopeVal l).1 ≤ 0) := by
  unfold slopeOk at h
  rw [Bool.and_eq_true] at h
  have hn := of_decide_eq_true h.1
  have hz : ∀ i, i < l.length → 0 ≤ rd l (i : Int) ∧ rd l (i : Int) ≤ 1000000000 := fun i hi => sz_iff.1 (all_at h.2 hi)
  obtain ⟨_, ⟨_, hd, _⟩, hg, _, _⟩ := slope_end l ⟨by omega, by omega⟩ hz
  have hg0 : 0 ≤ slopeGcd l := by unfold slopeGcd; omega
  refine ⟨?_, fun hu => ?_, fun hu => ?_⟩
  · show 1 ≤ Int.tdiv (slopeDen l) (slopeGcd l)
    rw [Int.tdiv_eq_ediv_of_nonneg (by omega)]
    have hdv : slopeGcd l ∣ slopeDen l := Int.gcd_dvd_right _ _
    have hle : slopeGcd l ≤ slopeDen l := Int.le_of_dvd (by omega) hdv
    exact Int.le_ediv_of_mul_le (by omega) (by omega)
  · have hm : ∀ d i, i + d < l.length → xs_ l i ≤ xs_ l (i + d) := by
      intro d
      induction d with
      | zero => intro i _; exact Int.le_refl _
      | succ d ih => intro i hi; exact Int.le_trans (ih i (by omega)) (hu (i + d) (by omega))
    have h0 := cheb (xs_ l) l.length (fun i j hij hj => by have := hm (j - i) i (by omega); rwa [show i + (j - i) = j by omega] at this)
    exact Int.tdiv_nonneg h0 hg0
  · have hm : ∀ d i, i + d < l.length → xs_ l (i + d) ≤ xs_ l i := by
      intro d
      induction d with
      | zero => intro i _; exact Int.le_refl _
      | succ d ih => intro i hi; exact Int.le_trans (hu (i + d) (by omega)) (ih i (by omega))
    have h0 := cheb_down (xs_ l) l.length (fun i j hij hj => by have := hm (j - i) i (by omega); rwa [show i + (j - i) = j by omega] at this)
    have h1 : 0 ≤ Int.tdiv (-slopeNum l) (slopeGcd l) := Int.tdiv_nonneg (by show 0 ≤ -slopeNum l; unfold slopeNum; omega) hg0
    rw [Int.neg_tdiv] at h1
    show Int.tdiv (slopeNum l) (slopeGcd l) ≤ 0
    omega

/-! the differences -/
def diffAt (l : List Int) (i : Nat) : Int := rd l ((i + 1 : Nat) : Int) - rd l (i : Int)
def diffs (l : List Int) : List Int := (List.range (l.length - 1)).map (diffAt l)
def diffsOf (l : List Int) : List Int := if areVals l = true then diffs l else []
theorem val_iff {x : Int} : isVal x = true ↔ -1000000000 ≤ x ∧ x ≤ 1000000000 := by unfold isVal; exact decide_eq_true_iff
theorem diffsI (l : List Int) (hl : l.length ≤ 1048576) : Ev (fun k => impl_DiffsOf.f k l) (diffsOf l) := by
  unfold impl_DiffsOf.f diffsOf
  refine ev_call (b := areVals l) rfl ?_
  cases h : areVals l with
  | false => exact ev_neg (by simp) ev_now
  | true =>
    have hv : l.all isVal = true := by unfold areVals at h; rw [Bool.and_eq_true] at h; exact h.2
    rw [if_pos rfl]
    refine ev_pos rfl ?_
    by_cases h0 : l.length = 0
    · have e : diffs l = [] := by unfold diffs; rw [h0]; rfl
      rw [e]
      exact impl_DiffsOf.l0.st (ev_neg (by omega) ev_now)
    · have := ev_up (n := l.length) (fun i => 1 ≤ i → Ev (fun k => impl_DiffsOf.l0 k l ((List.range (i - 1)).map (diffAt l)) (i : Int)) (diffs l))
        (fun _ => impl_DiffsOf.l0.st (ev_neg (by omega) ev_now))
        (by
          intro i hi H h1i
          obtain ⟨j, rfl⟩ : ∃ j, i = j + 1 := ⟨i - 1, by omega⟩
          have ej : ((j + 1 : Nat) : Int) - 1 = (j : Int) := by omega
          have v1 := val_iff.1 (all_at hv hi)
          have v2 := val_iff.1 (all_at hv (show j < l.length by omega))
          have H' := H (by omega)
          rw [show j + 1 + 1 - 1 = j + 1 by omega, List.range_succ, List.map_append] at H'
          refine impl_DiffsOf.l0.st (ev_pos (by omega) (ev_pos (by omega) (ev_pos (by rw [w64 (by omega) (by omega)]; omega) (ev_pos (by rw [w64 (by omega) (by omega)]; omega) (ev_pos (by rw [List.length_map, List.length_range]; omega) ?_)))))
          rw [w64 (x := ((j + 1 : Nat) : Int) - 1) (by omega) (by omega), w64 (x := ((j + 1 : Nat) : Int) + 1) (by omega) (by omega), ej, w64 (by omega) (by omega)]
          exact H') 1 (by omega) (Nat.le_refl _)
      exact this
end Go.Proofs.Ytclmebhdpdjpdaa.PA
