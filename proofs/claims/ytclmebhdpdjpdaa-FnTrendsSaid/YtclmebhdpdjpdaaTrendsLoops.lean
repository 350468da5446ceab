/- What the loops of the trend statistics answer: sizes and values, the smoothed list, the range, the sorted list, clipped spikes. No condition but that the lists are short. -/
import Derived.Test.YtclmebhdpdjpdaaTrendsBase
import Derived.Test.YtclmebhdpdjpdaaPAx1
import Derived.Test.YtclmebhdpdjpdaaPAx2
namespace Go.Proofs.Ytclmebhdpdjpdaa.PA
open Go.RowKit Go.Proofs.YtclmebhdpdjpdaaW.PrintWords Go.Proofs.YtclmebhdpdjpdaaW.PrintLast Go.Proofs.YtclmebhdpdjpdaaW.PrintMore Go.Proofs.Ytclmebhdpdjpdaa.Aid
set_option linter.unusedVariables false
set_option linter.unusedSimpArgs false

def isSz (x : Int) : Bool := decide (0 ≤ x ∧ x ≤ 1000000000)
theorem inS (a lo hi : Int) : spec_l01In.f a lo hi = some (decide (lo ≤ a ∧ a ≤ hi)) := by
  unfold spec_l01In.f
  by_cases h : lo ≤ a
  · rw [if_pos h]; simp [h]
  · rw [if_neg h]; simp [h]
theorem inI (a lo hi : Int) : impl_in.f a lo hi = some (decide (lo ≤ a ∧ a ≤ hi)) := by
  unfold impl_in.f
  by_cases h : lo ≤ a
  · rw [if_pos h]; simp [h]
  · rw [if_neg h]; simp [h]
theorem amtS (a : Int) : spec_l01Amt.f a = some (isSz a) := by unfold spec_l01Amt.f; rw [inS]; rfl
theorem sizeI (a : Int) : impl_isSize.f a = some (isSz a) := by unfold impl_isSize.f; rw [inI]; rfl
theorem valueS (a : Int) : spec_l01Value.f a = some (isVal a) := by unfold spec_l01Value.f; rw [inS]; rfl

theorem sizesS (l : List Int) (hl : l.length ≤ 1048576) : Ev (fun k => spec_l11Sizes.f k l) (l.all isSz) := by
  unfold spec_l11Sizes.f
  have := ev_up (n := l.length) (fun i => Ev (fun k => spec_l11Sizes.l0 k l (i : Int)) ((l.drop i).all isSz))
    (by rw [List.drop_length]; exact spec_l11Sizes.l0.st (ev_neg (by omega) ev_now))
    (by
      intro i hi H
      rw [drop_cons hi, List.all_cons]
      refine spec_l11Sizes.l0.st (ev_pos (by omega) (ev_pos (by omega) (ev_call (amtS _) ?_)))
      cases hb : isSz (rd l (i : Int)) with
      | false => exact ev_neg (by simp) ev_now
      | true =>
        refine ev_pos rfl ?_
        rw [w64 (by omega) (by omega), Bool.true_and]
        exact H) 0 (Nat.zero_le _)
  exact this
theorem valuesS (l : List Int) (hl : l.length ≤ 1048576) : Ev (fun k => spec_l11Values.f k l) (areVals l) := by
  unfold spec_l11Values.f
  have := ev_up (n := l.length) (fun i => Ev (fun k => spec_l11Values.l0 k l (i : Int)) (decide ((l.length : Int) ≤ 300) && (l.drop i).all isVal))
    (by rw [List.drop_length, List.all_nil, Bool.and_true]; exact spec_l11Values.l0.st (ev_neg (by omega) ev_now))
    (by
      intro i hi H
      rw [drop_cons hi, List.all_cons]
      refine spec_l11Values.l0.st (ev_pos (by omega) (ev_pos (by omega) (ev_call (valueS _) ?_)))
      cases hb : isVal (rd l (i : Int)) with
      | false => rw [Bool.false_and, Bool.and_false]; exact ev_neg (by simp) ev_now
      | true =>
        refine ev_pos rfl ?_
        rw [w64 (by omega) (by omega), Bool.true_and]
        exact H) 0 (Nat.zero_le _)
  exact this
theorem all_at {q : Int → Bool} {l : List Int} (h : l.all q = true) {i : Nat} (hi : i < l.length) : q (rd l (i : Int)) = true := List.all_eq_true.1 h _ (rd_mem hi)

/-! the smoothed list -/
def sm (p : Int) (l : List Int) : Nat → Int
  | 0 => rd l 0
  | i + 1 => (sm p l i * (1000 - p) + rd l ((i + 1 : Nat) : Int) * p) / 1000
def smooth (p : Int) (l : List Int) : List Int := (List.range l.length).map (sm p l)
theorem smooth_at (p : Int) (l : List Int) (n i : Nat) (h : i < n) : rd ((List.range n).map (sm p l)) (i : Int) = sm p l i := by
  rw [rd_at (by simpa using h)]
  simp
theorem smooth_push (p : Int) (l : List Int) (i : Nat) : (List.range (i + 1)).map (sm p l) = (List.range i).map (sm p l) ++ [sm p l i] := by
  rw [List.range_succ, List.map_append]
  rfl
theorem mean_between {y x p lo hi : Int} (hp : 0 ≤ p ∧ p ≤ 1000) (hy : lo ≤ y ∧ y ≤ hi) (hx : lo ≤ x ∧ x ≤ hi) : lo ≤ (y * (1000 - p) + x * p) / 1000 ∧ (y * (1000 - p) + x * p) / 1000 ≤ hi := by
  have a1 := Int.mul_le_mul_of_nonneg_right hy.1 (show 0 ≤ 1000 - p by omega)
  have a2 := Int.mul_le_mul_of_nonneg_right hy.2 (show 0 ≤ 1000 - p by omega)
  have b1 := Int.mul_le_mul_of_nonneg_right hx.1 hp.1
  have b2 := Int.mul_le_mul_of_nonneg_right hx.2 hp.1
  simp only [Int.mul_sub] at a1 a2 ⊢
  omega
theorem sm_between (p : Int) (l : List Int) (lo hi : Int) (hp : 0 ≤ p ∧ p ≤ 1000) : ∀ i : Nat, (∀ j : Nat, j ≤ i → lo ≤ rd l (j : Int) ∧ rd l (j : Int) ≤ hi) → lo ≤ sm p l i ∧ sm p l i ≤ hi := by
  intro i
  induction i with
  | zero => intro h; exact h 0 (Nat.le_refl _)
  | succ i ih => intro h; exact mean_between hp (ih fun j hj => h j (by omega)) (h (i + 1) (Nat.le_refl _))
theorem sz_iff {x : Int} : isSz x = true ↔ 0 ≤ x ∧ x ≤ 1000000000 := by unfold isSz; exact decide_eq_true_iff
theorem raw_mean {y x p : Int} (hp : 0 ≤ p ∧ p ≤ 1000) (hy : 0 ≤ y ∧ y ≤ 1000000000) (hx : 0 ≤ x ∧ x ≤ 1000000000) :
    (0 ≤ y * (1000 - p) + x * p ∧ y * (1000 - p) + x * p ≤ 2000000000000) ∧ wrap64 (wrap64 (y * wrap64 (1000 - p)) + wrap64 (x * p)) = y * (1000 - p) + x * p := by
  have a := mul_range (a := y) (b := 1000 - p) (A := 1000000000) (B := 1000) hy.1 hy.2 (by omega) (by omega)
  have b := mul_range (a := x) (b := p) (A := 1000000000) (B := 1000) hx.1 hx.2 hp.1 hp.2
  rw [w64 (x := 1000 - p) (by omega) (by omega), w64 (x := y * (1000 - p)) (by omega) (by omega), w64 (x := x * p) (by omega) (by omega), w64 (by omega) (by omega)]
  omega
theorem mean_spec {y x p : Int} (hp : 0 ≤ p ∧ p ≤ 1000) (hy : 0 ≤ y ∧ y ≤ 1000000000) (hx : 0 ≤ x ∧ x ≤ 1000000000) :
    wrap64 (Int.tdiv (wrap64 (wrap64 (y * wrap64 (1000 - p)) + wrap64 (x * p))) 1000) = (y * (1000 - p) + x * p) / 1000 := by
  obtain ⟨h1, h2⟩ := raw_mean hp hy hx
  rw [h2, Int.tdiv_eq_ediv_of_nonneg h1.1]
  exact w64 (by omega) (by omega)
theorem mean_impl {y x p : Int} (hp : 0 ≤ p ∧ p ≤ 1000) (hy : 0 ≤ y ∧ y ≤ 1000000000) (hx : 0 ≤ x ∧ x ≤ 1000000000) :
    impl_FloorDiv.f (wrap64 (wrap64 (y * wrap64 (1000 - p)) + wrap64 (x * p))) 1000 = some ((y * (1000 - p) + x * p) / 1000) := by
  obtain ⟨h1, h2⟩ := raw_mean hp hy hx
  rw [h2]
  unfold impl_FloorDiv.f
  rw [if_neg (by omega), if_neg (by omega), if_neg (by rw [Int.tmod_eq_emod_of_nonneg h1.1]; omega), Int.tdiv_eq_ediv_of_nonneg h1.1, w64 (by omega) (by omega)]
def smoothOk (p : Int) (l : List Int) : Bool := decide (1 ≤ (l.length : Int) ∧ (l.length : Int) ≤ 300) && (l.all isSz && decide (0 ≤ p ∧ p ≤ 1000))
def smoothOf (p : Int) (l : List Int) : List Int × Bool := if smoothOk p l = true then (smooth p l, true) else ([], false)
theorem smoothS (p : Int) (l : List Int) (hl : l.length ≤ 1048576) : Ev (fun k => spec_SmoothOf.f k l p) (smoothOf p l) := by
  unfold spec_SmoothOf.f smoothOf smoothOk
  refine ev_call (inS _ _ _) ?_
  cases h1 : decide (1 ≤ (l.length : Int) ∧ (l.length : Int) ≤ 300) with
  | false => exact ev_neg (by simp) (spec_SmoothOf.j0.st (ev_pos rfl ev_now))
  | true =>
    refine ev_pos rfl (ev_bind (sizesS l hl) ?_)
    cases h2 : l.all isSz with
    | false => exact ev_neg (by simp) (spec_SmoothOf.j0.st (ev_pos rfl ev_now))
    | true =>
      refine ev_pos rfl (ev_call (inS _ _ _) ?_)
      cases h3 : decide (0 ≤ p ∧ p ≤ 1000) with
      | false => exact spec_SmoothOf.j0.st (ev_pos rfl ev_now)
      | true =>
        have hn := of_decide_eq_true h1
        have hp := of_decide_eq_true h3
        have hz : ∀ i, i < l.length → 0 ≤ rd l (i : Int) ∧ rd l (i : Int) ≤ 1000000000 := fun i hi => sz_iff.1 (all_at h2 hi)
        rw [show (true && (true && true)) = true from rfl, if_pos rfl]
        refine spec_SmoothOf.j0.st (ev_neg (by simp) (ev_pos (by omega) ?_))
        have := ev_up (n := l.length) (fun i => 1 ≤ i → Ev (fun k => spec_SmoothOf.l0 k l p ((List.range i).map (sm p l)) (i : Int)) (smooth p l, true))
          (fun _ => spec_SmoothOf.l0.st (ev_neg (by omega) ev_now))
          (by
            intro i hi H h1i
            obtain ⟨j, rfl⟩ : ∃ j, i = j + 1 := ⟨i - 1, by omega⟩
            have ej : ((j + 1 : Nat) : Int) - 1 = (j : Int) := by omega
            refine spec_SmoothOf.l0.st (ev_pos (by omega) (ev_pos (by rw [w64 (by omega) (by omega)]; omega) (ev_pos (by rw [w64 (by omega) (by omega), List.length_map, List.length_range]; omega) (ev_pos (by omega) (ev_pos (by rw [List.length_map, List.length_range]; omega) ?_)))))
            rw [w64 (x := ((j + 1 : Nat) : Int) - 1) (by omega) (by omega), w64 (x := ((j + 1 : Nat) : Int) + 1) (by omega) (by omega), ej, smooth_at p l (j + 1) j (by omega),
              mean_spec hp (sm_between p l 0 1000000000 hp j fun (i : Nat) hi => hz i (by omega)) (hz (j + 1) hi)]
            have H' := H (by omega)
            rw [smooth_push] at H'
            exact H') 1 (by omega) (Nat.le_refl _)
        exact this
theorem smoothI (p : Int) (l : List Int) (hl : l.length ≤ 1048576) : Ev (fun k => impl_SmoothOf.f k l p) (smoothOf p l) := by
  unfold impl_SmoothOf.f smoothOf smoothOk
  refine ev_call (inI _ _ _) ?_
  cases h1 : decide (1 ≤ (l.length : Int) ∧ (l.length : Int) ≤ 300) with
  | false => exact ev_neg (by simp) (impl_SmoothOf.j0.st (ev_pos rfl ev_now))
  | true =>
    refine ev_pos rfl (ev_call (inI _ _ _) ?_)
    cases h3 : decide (0 ≤ p ∧ p ≤ 1000) with
    | false => rw [Bool.and_false]; exact impl_SmoothOf.j0.st (ev_pos rfl ev_now)
    | true =>
      have hn := of_decide_eq_true h1
      have hp := of_decide_eq_true h3
      rw [Bool.and_true, Bool.true_and]
      refine impl_SmoothOf.j0.st (ev_neg (by simp) ?_)
      have := ev_up (n := l.length) (fun i => (∀ j, j < i → 0 ≤ rd l (j : Int) ∧ rd l (j : Int) ≤ 1000000000) → Ev (fun k => impl_SmoothOf.l0 k p ((List.range i).map (sm p l)) l (l.length : Int) (i : Int)) (if (l.drop i).all isSz = true then (smooth p l, true) else ([], false)))
        (by intro _; rw [List.drop_length, List.all_nil, if_pos rfl]; exact impl_SmoothOf.l0.st (ev_neg (by omega) ev_now))
        (by
          intro i hi H hz
          rw [drop_cons hi, List.all_cons]
          refine impl_SmoothOf.l0.st (ev_pos (by omega) (ev_pos (by omega) (ev_pos (by omega) (ev_call (sizeI _) ?_))))
          cases hb : isSz (rd l (i : Int)) with
          | false => exact ev_neg (by simp) ev_now
          | true =>
            have hx := sz_iff.1 hb
            have hz' : ∀ j, j < i + 1 → 0 ≤ rd l (j : Int) ∧ rd l (j : Int) ≤ 1000000000 := fun j hj => by
              by_cases e : j = i
              · subst e; exact hx
              · exact hz j (by omega)
            have H' := H hz'
            rw [smooth_push] at H'
            rw [Bool.true_and]
            refine ev_pos rfl ?_
            cases i with
            | zero =>
              refine ev_neg (by omega) (ev_pos (by rw [List.length_map, List.length_range]; omega) ?_)
              rw [w64 (by omega) (by omega)]
              exact H'
            | succ j =>
              have ej : ((j + 1 : Nat) : Int) - 1 = (j : Int) := by omega
              refine ev_pos (by omega) (ev_pos (by rw [w64 (by omega) (by omega)]; omega) (ev_pos (by rw [w64 (by omega) (by omega), List.length_map, List.length_range]; omega) ?_))
              rw [w64 (x := ((j + 1 : Nat) : Int) - 1) (by omega) (by omega), w64 (x := ((j + 1 : Nat) : Int) + 1) (by omega) (by omega), ej, smooth_at p l (j + 1) j (by omega),
                mean_impl hp (sm_between p l 0 1000000000 hp j fun (i : Nat) hi => hz i (by omega)) hx]
              exact ev_pos (by rw [List.length_map, List.length_range]; omega) H') 0 (Nat.zero_le _) (fun j hj => absurd hj (Nat.not_lt_zero _))
      exact this

/-! the sorted list -/
theorem sorted_l1 (xs out : List Int) (i : Nat) (hi : i < xs.length) (hx : xs.length ≤ 1048576) (ho : out.length ≤ 1048576) (r : List Int) :
    ∀ d j next put, j + d = out.length → next.length ≤ j + (if put = true then 1 else 0) → Ev (fun k => spec_l11Sorted.l0 k xs (next ++ (if put = true then out.drop j else ins (rd xs (i : Int)) (out.drop j))) ((i + 1 : Nat) : Int)) r →
      Ev (fun k => spec_l11Sorted.l1 k xs out (i : Int) next put (j : Int)) r := by
  intro d
  induction d with
  | zero =>
    intro j next put hj hn H
    obtain rfl : j = out.length := by omega
    rw [List.drop_length] at H
    refine spec_l11Sorted.l1.st (ev_neg (by omega) ?_)
    rw [w64 (by omega) (by omega)]
    cases put with
    | true => rw [if_pos rfl, List.append_nil] at H; rw [if_pos rfl] at hn; exact ev_pos rfl H
    | false => rw [if_neg (by simp)] at H hn; exact ev_neg (by simp) (ev_pos (by omega) (ev_pos (by omega) (ev_pos (by omega) H)))
  | succ d ih =>
    intro j next put hj hn H
    rw [drop_cons (show j < out.length by omega)] at H
    refine spec_l11Sorted.l1.st (ev_pos (by omega) ?_)
    rw [w64 (x := (j : Int) + 1) (by omega) (by omega)]
    cases put with
    | true =>
      rw [if_pos rfl] at H hn
      refine ev_pos rfl (ev_pos (by omega) (ev_pos (by omega) (ih (j + 1) _ true (by omega) (by simp; omega) ?_)))
      rw [if_pos rfl, List.append_assoc]
      exact H
    | false =>
      rw [if_neg (by simp)] at H hn
      refine ev_neg (by simp) (ev_pos (by omega) (ev_pos (by omega) (ev_pos (by omega) ?_)))
      unfold ins at H
      by_cases hlt : rd xs (i : Int) < rd out (j : Int)
      · rw [if_pos hlt] at H
        refine ev_pos hlt (ev_pos (by omega) (ev_call rfl (ev_pos (by simp; omega) (ih (j + 1) _ true (by omega) (by simp; omega) ?_))))
        rw [if_pos rfl, List.append_assoc, List.append_assoc]
        exact H
      · rw [if_neg hlt] at H
        refine ev_neg hlt (ev_pos (by omega) (ih (j + 1) _ false (by omega) (by simp; omega) ?_))
        rw [if_neg (by simp), List.append_assoc]
        exact H
theorem sortedS (l : List Int) (hl : l.length ≤ 1048576) : Ev (fun k => spec_l11Sorted.f k l) (insAll [] l) := by
  unfold spec_l11Sorted.f
  have := ev_up (n := l.length) (fun i => ∀ out : List Int, out.length = i → Ev (fun k => spec_l11Sorted.l0 k l out (i : Int)) (insAll out (l.drop i)))
    (by intro out ho; rw [List.drop_length]; exact spec_l11Sorted.l0.st (ev_neg (by omega) ev_now))
    (by
      intro i hi H out ho
      rw [drop_cons hi]
      refine spec_l11Sorted.l0.st (ev_pos (by omega) ?_)
      refine sorted_l1 l out i hi hl (by omega) _ out.length 0 [] false (by omega) (by simp) ?_
      rw [if_neg (by simp), List.nil_append, List.drop_zero]
      exact H _ (by rw [ins_length, ho])) 0 (Nat.zero_le _) [] rfl
  exact this

/-! the range -/
def rangeOk (l : List Int) : Bool := !decide (l = []) && areVals l
def rangeOf (l : List Int) : Int × Int × Bool := if rangeOk l = true then (leastOf l, mostOf l, true) else (0, 0, false)
theorem rangeI (l : List Int) (hl : l.length ≤ 1048576) : Ev (fun k => impl_RangeOf.f k l) (rangeOf l) := by
  unfold impl_RangeOf.f rangeOf rangeOk
  by_cases h : l = []
  · subst h
    exact ev_pos rfl (impl_RangeOf.j0.st (ev_pos rfl ev_now))
  · have hpos : 0 < l.length := List.length_pos_iff.2 h
    refine ev_neg (by omega) (ev_call (b := areVals l) rfl ?_)
    simp only [h, decide_false, Bool.not_false, Bool.true_and]
    cases hv : areVals l with
    | false => exact impl_RangeOf.j0.st (ev_pos rfl ev_now)
    | true =>
      refine impl_RangeOf.j0.st (ev_neg (by simp) (ev_call (b := leastOf l) (by unfold slices_Min_int.f; rw [if_neg h]) (ev_call (b := mostOf l) (by unfold slices_Max_int.f; rw [if_neg h]) ?_)))
      exact ev_now
theorem rangeS (l : List Int) (hl : l.length ≤ 1048576) : Ev (fun k => spec_RangeOf.f k l) (rangeOf l) := by
  unfold spec_RangeOf.f rangeOf rangeOk
  by_cases h : l = []
  · subst h
    exact ev_pos rfl ev_now
  · have hpos : 0 < l.length := List.length_pos_iff.2 h
    refine ev_neg (by omega) (ev_bind (valuesS l hl) ?_)
    simp only [h, decide_false, Bool.not_false, Bool.true_and]
    cases hv : areVals l with
    | false => exact ev_neg (by simp) ev_now
    | true =>
      obtain ⟨e1, e2, e3⟩ := insAll_ends l h
      refine ev_pos rfl (ev_bind (sortedS l hl) ?_)
      simp only [e1]
      have ew : wrap64 ((l.length : Int) - 1) = ((l.length - 1 : Nat) : Int) := by rw [w64 (by omega) (by omega)]; omega
      rw [ew, e2, e3]
      exact ev_pos (by omega) (ev_pos (by omega) (ev_pos (by omega) ev_now))

/-! percentiles -/
def percOk (l : List Int) (p : Int) : Bool := rangeOk l && decide (0 ≤ p ∧ p ≤ 1000)
def percOf (l : List Int) (p : Int) : Int × Bool := if percOk l p = true then (rd (sortedList l) (Int.tdiv (((l.length : Int) - 1) * p) 1000), true) else (0, false)
theorem percI (l : List Int) (p : Int) : impl_PercentileOf.f l p = some (percOf l p) := by
  unfold impl_PercentileOf.f percOf percOk rangeOk
  by_cases h : l = []
  · subst h; rfl
  · rw [if_neg h]
    simp only [h, decide_false, Bool.not_false, Bool.true_and]
    by_cases hv : areVals l = true
    · rw [if_pos hv, hv, Bool.true_and]
      by_cases hp : 0 ≤ p ∧ p ≤ 1000
      · rw [if_pos hp, if_pos (decide_eq_true hp)]
      · rw [if_neg hp, if_neg (by simpa using hp)]
    · rw [if_neg hv, if_neg (by simp [hv])]
theorem perc_mem (l : List Int) (p : Int) (h : percOk l p = true) : (percOf l p).1 ∈ l := by
  unfold percOf
  rw [if_pos h]
  unfold percOk rangeOk at h
  simp only [Bool.and_eq_true, Bool.not_eq_true', decide_eq_false_iff_not, decide_eq_true_iff] at h
  have hpos : 0 < l.length := List.length_pos_iff.2 h.1.1
  have h1 := mul_range (a := (l.length : Int) - 1) (b := p) (A := (l.length : Int) - 1) (B := 1000) (by omega) (Int.le_refl _) h.2.1 h.2.2
  rw [Int.tdiv_eq_ediv_of_nonneg h1.1]
  obtain ⟨j, hj⟩ : ∃ j : Nat, (j : Int) = ((l.length : Int) - 1) * p / 1000 := ⟨(((l.length : Int) - 1) * p / 1000).toNat, by omega⟩
  rw [← hj, ← sortedList_mem]
  exact rd_mem (by rw [show (sortedList l).length = l.length from List.length_mergeSort _]; omega)

/-! clipped spikes -/
def clipOf (l : List Int) (p : Int) : List Int × Bool := if percOk l p = true then (l.map fun x => mn x (percOf l p).1, true) else ([], false)
theorem clipI (l : List Int) (p : Int) (hl : l.length ≤ 1048576) : Ev (fun k => impl_ClipSpikes.f k l p) (clipOf l p) := by
  unfold impl_ClipSpikes.f clipOf
  refine ev_call (percI l p) ?_
  have e2 : (percOf l p).2 = percOk l p := by unfold percOf; split <;> simp [*]
  rw [e2]
  cases h : percOk l p with
  | false => exact ev_neg (by simp) ev_now
  | true =>
    refine ev_pos rfl ?_
    rw [if_pos rfl]
    generalize (percOf l p).1 = m
    have := ev_up (n := l.length) (fun i => ∀ acc : List Int, acc.length = i → Ev (fun k => impl_ClipSpikes.l0 k m acc l (l.length : Int) (i : Int)) (acc ++ (l.drop i).map (fun x => mn x m), true))
      (by intro acc ha; rw [List.drop_length, List.map_nil, List.append_nil]; exact impl_ClipSpikes.l0.st (ev_neg (by omega) ev_now))
      (by
        intro i hi H acc ha
        rw [drop_cons hi, List.map_cons]
        refine impl_ClipSpikes.l0.st (ev_pos (by omega) (ev_pos (by omega) (ev_pos (by omega) (ev_pos (by omega) ?_))))
        have H' := H (acc ++ [mn (rd l (i : Int)) m]) (by simp [ha])
        rw [List.append_assoc] at H'
        rw [w64 (by omega) (by omega)]
        exact H') 0 (Nat.zero_le _) [] rfl
    exact this
end Go.Proofs.Ytclmebhdpdjpdaa.PA
