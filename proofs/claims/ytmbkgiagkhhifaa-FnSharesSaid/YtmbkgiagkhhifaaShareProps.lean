/- What ShareOut's shares are: each within Least and Want, nobody ahead of another by a unit that the other lacks, all of the budget or all that is wanted; what ShareFair and SumOfShares say of them. No condition but that texts fit into memory. -/
import Derived.Test.YtmbkgiagkhhifaaShareCore
import Derived.Test.YtmbkgiagkhhifaaPAx0
import Derived.Test.YtmbkgiagkhhifaaPAx2
import Derived.Test.YtmbkgiagkhhifaaPAx3
import Derived.Test.YtmbkgiagkhhifaaPAx4
namespace Go.Proofs.Ytmbkgiagkhhifaa.PA
open Go.RowKit Go.Proofs.YtmbkgiagkhhifaaW.PrintWords Go.Proofs.YtmbkgiagkhhifaaW.PrintLast Go.Proofs.YtmbkgiagkhhifaaW.PrintMore Go.Proofs.Ytmbkgiagkhhifaa.Aid
set_option linter.unusedVariables false

theorem rd_set (xs : List Int) (m i : Nat) (v : Int) (hm : m < xs.length) : rd (xs.set m v) (i : Int) = if i = m then v else rd xs (i : Int) := by
  unfold rd
  rw [Int.toNat_natCast, List.getD_eq_getElem?_getD, List.getD_eq_getElem?_getD]
  by_cases h : i = m
  · subst h
    rw [if_pos rfl, List.getElem?_set_self hm]
    rfl
  · rw [if_neg h, List.getElem?_set_ne (by omega)]

/-- The sum of the first places. -/
def sumTo (xs : List Int) : Nat → Int
  | 0 => 0
  | n + 1 => sumTo xs n + rd xs (n : Int)
theorem sumTo_set (xs : List Int) (m : Nat) (v : Int) (hm : m < xs.length) : ∀ n, sumTo (xs.set m v) n = sumTo xs n + (if m < n then v - rd xs (m : Int) else 0)
  | 0 => by simp [sumTo]
  | n + 1 => by
    simp only [sumTo]
    rw [sumTo_set xs m v hm n, rd_set xs m n v hm]
    by_cases h1 : n = m
    · subst h1
      rw [if_pos rfl, if_neg (by omega), if_pos (by omega)]
      omega
    · rw [if_neg h1]
      by_cases h2 : m < n
      · rw [if_pos h2, if_pos (by omega)]; omega
      · rw [if_neg h2, if_neg (by omega)]; omega

section
variable (l : List S44)
def wantAt (i : Nat) : Int := (rd_T44 l (i : Int)).f1
def leastAt (i : Nat) : Int := (rd_T44 l (i : Int)).f2
def weightAt (i : Nat) : Int := (rd_T44 l (i : Int)).f3
/-- Each share lies within Least and Want. -/
def Within (xs : List Int) : Prop := ∀ i, i < l.length → leastAt l i ≤ rd xs (i : Int) ∧ rd xs (i : Int) ≤ wantAt l i
/-- No unit could be moved to a claim with a smaller weighted share. -/
def FairAll (xs : List Int) : Prop := ∀ i k, i < l.length → k < l.length → rd xs (i : Int) < wantAt l i → leastAt l k < rd xs (k : Int) → (rd xs (k : Int) - 1) * weightAt l i ≤ rd xs (i : Int) * weightAt l k
/-- The place that is to be served, among the first i. -/
def Best (xs : List Int) (i : Nat) (b : Int) : Prop :=
  (b < 0 ∧ ∀ j, j < i → wantAt l j ≤ rd xs (j : Int)) ∨
  ∃ m : Nat, b = (m : Int) ∧ m < l.length ∧ rd xs (m : Int) < wantAt l m ∧ ∀ j, j < i → rd xs (j : Int) < wantAt l j → rd xs (m : Int) * weightAt l j ≤ rd xs (j : Int) * weightAt l m
end

theorem mul_fits {a b : Int} (h0 : 0 ≤ a) (h1 : a ≤ 1000) (h2 : 1 ≤ b) (h3 : b ≤ 100) : wrap64 (a * b) = a * b := by
  have h4 : a * b ≤ 1000 * 100 := Int.mul_le_mul h1 h3 (by omega) (by omega)
  have h5 : 0 ≤ a * b := Int.mul_nonneg h0 (by omega)
  exact w64 (by omega) (by omega)

/-- The smaller weighted share, by way of a third one. -/
theorem cross {a b c u v w : Int} (hv : 0 < v) (hu : 0 ≤ u) (hw : 0 ≤ w) (h1 : a * v ≤ b * u) (h2 : b * w ≤ c * v) : a * w ≤ c * u := by
  have e1 : a * v * w ≤ b * u * w := Int.mul_le_mul_of_nonneg_right h1 hw
  have e2 : b * w * u ≤ c * v * u := Int.mul_le_mul_of_nonneg_right h2 hu
  have e3 : (a * w) * v ≤ (c * u) * v := by
    have q1 : (a * w) * v = a * v * w := by rw [Int.mul_assoc, Int.mul_comm w v, ← Int.mul_assoc]
    have q2 : b * u * w = b * w * u := by rw [Int.mul_assoc, Int.mul_comm u w, ← Int.mul_assoc]
    have q3 : c * v * u = (c * u) * v := by rw [Int.mul_assoc, Int.mul_comm v u, ← Int.mul_assoc]
    rw [q1, ← q3]
    exact Int.le_trans e1 (by rw [q2]; exact e2)
  exact Int.le_of_mul_le_mul_right e3 hv

theorem best_next {l : List S44} (hok : claimsOk l = true) {xs : List Int} (hw : Within l xs) {i : Nat} (hi : i < l.length) {b : Int} (hb : Best l xs i b) :
    (rd xs (i : Int) < wantAt l i → b < 0 → Best l xs (i + 1) (i : Int)) ∧
    (rd xs (i : Int) < wantAt l i → ∀ m : Nat, b = (m : Int) → rd xs (i : Int) * weightAt l m < rd xs (m : Int) * weightAt l i → Best l xs (i + 1) (i : Int)) ∧
    (rd xs (i : Int) < wantAt l i → ∀ m : Nat, b = (m : Int) → ¬ rd xs (i : Int) * weightAt l m < rd xs (m : Int) * weightAt l i → Best l xs (i + 1) b) ∧
    (¬ rd xs (i : Int) < wantAt l i → Best l xs (i + 1) b) := by
  have hwt : ∀ j, j < l.length → 1 ≤ weightAt l j := fun j hj => (claimsOk_at hok j hj).2.2.1
  refine ⟨fun h1 h2 => ?_, fun h1 m hm h2 => ?_, fun h1 m hm h2 => ?_, fun h1 => ?_⟩
  · rcases hb with ⟨_, hall⟩ | ⟨m, rfl, _⟩
    · refine .inr ⟨i, rfl, hi, h1, fun j hj hj2 => ?_⟩
      by_cases hji : j = i
      · subst hji; exact Int.le_refl _
      · have := hall j (by omega); omega
    · omega
  · rcases hb with ⟨hb0, _⟩ | ⟨m', hm', hml, hmw, hall⟩
    · omega
    · obtain rfl : m = m' := by omega
      refine .inr ⟨i, rfl, hi, h1, fun j hj hj2 => ?_⟩
      by_cases hji : j = i
      · subst hji; exact Int.le_refl _
      · have hj3 : j < l.length := by omega
        have w1 := hwt m hml
        have w2 := hwt i hi
        have w3 := hwt j hj3
        exact cross (b := rd xs (m : Int)) (v := weightAt l m) (by omega) (by omega) (by omega) (Int.le_of_lt h2) (hall j (by omega) hj2)
  · rcases hb with ⟨hb0, _⟩ | ⟨m', hm', hml, hmw, hall⟩
    · omega
    · obtain rfl : m = m' := by omega
      refine .inr ⟨m, hm, hml, hmw, fun j hj hj2 => ?_⟩
      by_cases hji : j = i
      · subst hji; exact Int.not_lt.1 h2
      · exact hall j (by omega) hj2
  · rcases hb with ⟨hb0, hall⟩ | ⟨m, rfl, hml, hmw, hall⟩
    · refine .inl ⟨hb0, fun j hj => ?_⟩
      by_cases hji : j = i
      · subst hji; omega
      · exact hall j (by omega)
    · refine .inr ⟨m, rfl, hml, hmw, fun j hj hj2 => ?_⟩
      by_cases hji : j = i
      · subst hji; exact absurd hj2 h1
      · exact hall j (by omega) hj2

/-- One unit more for the best place keeps the shares within their bounds, and fair. -/
theorem give {l : List S44} (hok : claimsOk l = true) {xs : List Int} (hx : xs.length = l.length) (hw : Within l xs) (hf : FairAll l xs) {m : Nat} (hm : m < l.length) (hmw : rd xs (m : Int) < wantAt l m)
    (hall : ∀ j, j < l.length → rd xs (j : Int) < wantAt l j → rd xs (m : Int) * weightAt l j ≤ rd xs (j : Int) * weightAt l m) :
    Within l (xs.set m (rd xs (m : Int) + 1)) ∧ FairAll l (xs.set m (rd xs (m : Int) + 1)) := by
  have hwt : ∀ j, j < l.length → 1 ≤ weightAt l j := fun j hj => (claimsOk_at hok j hj).2.2.1
  have hr : ∀ i : Nat, rd (xs.set m (rd xs (m : Int) + 1)) (i : Int) = if i = m then rd xs (m : Int) + 1 else rd xs (i : Int) := fun i => rd_set xs m i _ (by omega)
  constructor
  · intro i hi
    rw [hr]
    by_cases h : i = m
    · subst h
      rw [if_pos rfl]
      have := (hw i hi).1
      omega
    · rw [if_neg h]; exact hw i hi
  · intro i k hi hk h1 h2
    rw [hr] at h1 h2
    rw [hr, hr]
    have wi := hwt i hi
    have wk := hwt k hk
    by_cases hkm : k = m
    · subst hkm
      rw [if_pos rfl]
      by_cases him : i = k
      · subst him
        rw [if_pos rfl]
        have : (rd xs (i : Int) + 1 - 1) ≤ rd xs (i : Int) + 1 := by omega
        exact Int.mul_le_mul_of_nonneg_right this (by omega)
      · rw [if_neg him] at h1 ⊢
        rw [Int.add_sub_cancel]
        exact hall i hi h1
    · rw [if_neg hkm] at h2 ⊢
      by_cases him : i = m
      · subst him
        rw [if_pos rfl] at h1 ⊢
        have h3 := hf i k hi hk hmw h2
        have h4 : rd xs (i : Int) * weightAt l k ≤ (rd xs (i : Int) + 1) * weightAt l k := Int.mul_le_mul_of_nonneg_right (by omega) (by omega)
        exact Int.le_trans h3 h4
      · rw [if_neg him] at h1 ⊢
        exact hf i k hi hk h1 h2

theorem share_l1 (l : List S44) (hok : claimsOk l = true) : ∀ (m : Nat) (xs : List Int), xs.length = l.length → (m : Int) ≤ 1000000 → Within l xs → FairAll l xs →
    ∃ ys, ys.length = l.length ∧ Within l ys ∧ FairAll l ys ∧ ((∀ i, i < l.length → wantAt l i ≤ rd ys (i : Int)) ∨ sumTo ys l.length = sumTo xs l.length + (m : Int)) ∧
      Ev (fun k => spec_ShareOut.l1 k l xs (m : Int)) (ys, true) ∧ Ev (fun k => impl_ShareOut.l1 k l xs (m : Int)) (ys, true) := by
  have hl := claimsOk_length hok
  intro m
  induction m with
  | zero => intro xs hx _ hw hf; exact ⟨xs, hx, hw, hf, .inr (by simp), spec_ShareOut.l1.st (ev_neg (by omega) ev_now), impl_ShareOut.l1.st (ev_neg (by omega) ev_now)⟩
  | succ m ih =>
    intro xs hx hm hw hf
    have key : ∀ d i (b : Int), i + d = l.length → Best l xs i b →
        ∃ ys, ys.length = l.length ∧ Within l ys ∧ FairAll l ys ∧ ((∀ i, i < l.length → wantAt l i ≤ rd ys (i : Int)) ∨ sumTo ys l.length = sumTo xs l.length + ((m + 1 : Nat) : Int)) ∧
          Ev (fun k => spec_ShareOut.l2 k l xs ((m + 1 : Nat) : Int) b (i : Int)) (ys, true) ∧ Ev (fun k => impl_ShareOut.l2 k l xs ((m + 1 : Nat) : Int) b l (l.length : Int) (i : Int)) (ys, true) := by
      intro d
      induction d with
      | zero =>
        intro i b hi hb
        obtain rfl : i = l.length := by omega
        rcases hb with ⟨hb0, hall⟩ | ⟨p, rfl, hpl, hpw, hall⟩
        · exact ⟨xs, hx, hw, hf, .inl hall, spec_ShareOut.l2.st (ev_neg (by omega) (ev_pos hb0 ev_now)), impl_ShareOut.l2.st (ev_neg (by omega) (ev_pos hb0 ev_now))⟩
        · obtain ⟨g1, g2⟩ := give hok hx hw hf hpl hpw hall
          obtain ⟨ys, h0, h1, h2, h3, h4, h5⟩ := ih (xs.set p (rd xs (p : Int) + 1)) (by rw [List.length_set]; exact hx) (by omega) g1 g2
          have hsum := sumTo_set xs p (rd xs (p : Int) + 1) (by omega) l.length
          rw [if_pos hpl] at hsum
          have hin := hw p hpl
          have hcl := claimsOk_at hok p hpl
          have e : wrap64 (((m + 1 : Nat) : Int) - 1) = (m : Int) := by rw [w64 (by omega) (by omega)]; omega
          have e2 : wrap64 (rd xs (p : Int) + 1) = rd xs (p : Int) + 1 := by unfold wantAt leastAt at *; exact w64 (by omega) (by omega)
          refine ⟨ys, h0, h1, h2, ?_, spec_ShareOut.l2.st (ev_neg (by omega) (ev_neg (by omega) (ev_pos (by omega) (ev_pos (by omega) ?_)))), impl_ShareOut.l2.st (ev_neg (by omega) (ev_neg (by omega) (ev_pos (by omega) (ev_pos (by omega) ?_))))⟩
          · rcases h3 with h3 | h3
            · exact .inl h3
            · exact .inr (by omega)
          · rw [e, e2, Int.toNat_natCast]; exact h4
          · rw [e, e2, Int.toNat_natCast]; exact h5
      | succ d ihd =>
        intro i b hi hb
        have hil : i < l.length := by omega
        obtain ⟨n1, n2, n3, n4⟩ := best_next hok hw hil hb
        have s1 : ∀ (c : Int) r, Ev (fun k => spec_ShareOut.l2 k l xs ((m + 1 : Nat) : Int) c ((i + 1 : Nat) : Int)) r → Ev (fun k => spec_ShareOut.l2 k l xs ((m + 1 : Nat) : Int) c (wrap64 ((i : Int) + 1))) r := by
          intro c r h; rw [w64 (by omega) (by omega)]; exact h
        have s2 : ∀ (c : Int) r, Ev (fun k => impl_ShareOut.l2 k l xs ((m + 1 : Nat) : Int) c l (l.length : Int) ((i + 1 : Nat) : Int)) r → Ev (fun k => impl_ShareOut.l2 k l xs ((m + 1 : Nat) : Int) c l (l.length : Int) (wrap64 ((i : Int) + 1))) r := by
          intro c r h; rw [w64 (by omega) (by omega)]; exact h
        by_cases c1 : rd xs (i : Int) < wantAt l i
        · rcases hb with ⟨hb0, _⟩ | ⟨p, rfl, hpl, _, _⟩
          · obtain ⟨ys, h0, h1, h2, h3, h4, h5⟩ := ihd (i + 1) (i : Int) (by omega) (n1 c1 hb0)
            exact ⟨ys, h0, h1, h2, h3, spec_ShareOut.l2.st (ev_pos (by omega) (ev_pos (by omega) (ev_pos (by omega) (ev_pos c1 (ev_pos hb0 (s1 _ _ h4)))))), impl_ShareOut.l2.st (ev_pos (by omega) (ev_pos (by omega) (ev_pos (by omega) (ev_pos (by omega) (ev_pos c1 (ev_pos hb0 (s2 _ _ h5)))))))⟩
          · have hi1 := hw i hil
            have hp1 := hw p hpl
            have ci := claimsOk_at hok i hil
            have cp := claimsOk_at hok p hpl
            have m1 : wrap64 ((rd xs (i : Int)) * ((rd_T44 l (p : Int)).f3)) = rd xs (i : Int) * weightAt l p := by unfold wantAt leastAt at *; exact mul_fits (by omega) (by omega) (by omega) (by omega)
            have m2 : wrap64 ((rd xs (p : Int)) * ((rd_T44 l (i : Int)).f3)) = rd xs (p : Int) * weightAt l i := by unfold wantAt leastAt at *; exact mul_fits (by omega) (by omega) (by omega) (by omega)
            have q1 : (0 : Int) ≤ (p : Int) := by omega
            have q2 : (p : Int) < (l.length : Int) := by omega
            have q3 : (p : Int) < (xs.length : Int) := by omega
            have q4 : ¬ (p : Int) < 0 := by omega
            have q5 : (i : Int) < (l.length : Int) := by omega
            have q6 : (0 : Int) ≤ (i : Int) := by omega
            have q7 : (i : Int) < (xs.length : Int) := by omega
            by_cases c2 : rd xs (i : Int) * weightAt l p < rd xs (p : Int) * weightAt l i
            · obtain ⟨ys, h0, h1, h2, h3, h4, h5⟩ := ihd (i + 1) (i : Int) (by omega) (n2 c1 p rfl c2)
              rw [← m1, ← m2] at c2
              exact ⟨ys, h0, h1, h2, h3, spec_ShareOut.l2.st (ev_pos q5 (ev_pos q6 (ev_pos q7 (ev_pos c1 (ev_neg q4 (ev_pos q1 (ev_pos q2 (ev_pos q3 (ev_pos c2 (s1 _ _ h4)))))))))), impl_ShareOut.l2.st (ev_pos q5 (ev_pos q6 (ev_pos q5 (ev_pos q7 (ev_pos c1 (ev_neg q4 (ev_pos q1 (ev_pos q2 (ev_pos q3 (ev_pos c2 (s2 _ _ h5)))))))))))⟩
            · obtain ⟨ys, h0, h1, h2, h3, h4, h5⟩ := ihd (i + 1) (p : Int) (by omega) (n3 c1 p rfl c2)
              rw [← m1, ← m2] at c2
              exact ⟨ys, h0, h1, h2, h3, spec_ShareOut.l2.st (ev_pos q5 (ev_pos q6 (ev_pos q7 (ev_pos c1 (ev_neg q4 (ev_pos q1 (ev_pos q2 (ev_pos q3 (ev_neg c2 (s1 _ _ h4)))))))))), impl_ShareOut.l2.st (ev_pos q5 (ev_pos q6 (ev_pos q5 (ev_pos q7 (ev_pos c1 (ev_neg q4 (ev_pos q1 (ev_pos q2 (ev_pos q3 (ev_neg c2 (s2 _ _ h5)))))))))))⟩
        · obtain ⟨ys, h0, h1, h2, h3, h4, h5⟩ := ihd (i + 1) b (by omega) (n4 c1)
          exact ⟨ys, h0, h1, h2, h3, spec_ShareOut.l2.st (ev_pos (by omega) (ev_pos (by omega) (ev_pos (by omega) (ev_neg c1 (s1 _ _ h4))))), impl_ShareOut.l2.st (ev_pos (by omega) (ev_pos (by omega) (ev_pos (by omega) (ev_pos (by omega) (ev_neg c1 (s2 _ _ h5))))))⟩
    obtain ⟨ys, h0, h1, h2, h3, h4, h5⟩ := key l.length 0 (-1) (by omega) (.inl ⟨by omega, fun j hj => absurd hj (Nat.not_lt_zero _)⟩)
    exact ⟨ys, h0, h1, h2, h3, spec_ShareOut.l1.st (ev_pos (by omega) h4), impl_ShareOut.l1.st (ev_pos (by omega) h5)⟩

theorem leasts_rd (l : List S44) (n i : Nat) (hi : i < n) : rd (leasts l n) (i : Int) = leastAt l i := by
  unfold rd leasts
  rw [Int.toNat_natCast, List.getD_eq_getElem?_getD, List.getElem?_map, List.getElem?_range hi]
  rfl
theorem leasts_sum (l : List S44) (n : Nat) : ∀ i, i ≤ n → sumTo (leasts l n) i = leastSum l i := by
  intro i
  induction i with
  | zero => intro _; rfl
  | succ i ih =>
    intro hi
    simp only [sumTo, leastSum]
    rw [ih (by omega), leasts_rd l n i (by omega)]
    rfl
theorem within_sums {l : List S44} {xs : List Int} (hw : Within l xs) : ∀ i, i ≤ l.length → leastSum l i ≤ sumTo xs i ∧ sumTo xs i ≤ wantSum l i := by
  intro i
  induction i with
  | zero => intro _; simp [sumTo, leastSum, wantSum]
  | succ i ih =>
    intro hi
    have h1 := ih (by omega)
    have h2 := hw i (by omega)
    unfold leastAt wantAt at h2
    simp only [sumTo, leastSum, wantSum]
    omega
theorem full_sum {l : List S44} {xs : List Int} (hw : Within l xs) (hall : ∀ i, i < l.length → wantAt l i ≤ rd xs (i : Int)) : ∀ i, i ≤ l.length → sumTo xs i = wantSum l i := by
  intro i
  induction i with
  | zero => intro _; rfl
  | succ i ih =>
    intro hi
    have h1 := ih (by omega)
    have h2 := (hw i (by omega)).2
    have h3 := hall i (by omega)
    unfold wantAt at h2 h3
    simp only [sumTo, wantSum]
    omega

/-- All that the statement asks of ShareOut. -/
theorem shareAll (b : Int) (l : List S44) (hf : Fits l) : ∃ (ys : List Int) (ok : Bool), ys.length ≤ 16 ∧ Ev (fun k => spec_ShareOut.f k b l) (ys, ok) ∧ Ev (fun k => impl_ShareOut.f k b l) (ys, ok) ∧
    (ok = true → claimsOk l = true ∧ (0 ≤ b ∧ b ≤ 1000) ∧ ys.length = l.length ∧ Within l ys ∧ FairAll l ys ∧ (sumTo ys l.length = b ∨ sumTo ys l.length = wantSum l l.length)) := by
  unfold spec_ShareOut.f impl_ShareOut.f
  cases hok : claimsOk l with
  | false =>
    have h1 := specClaims l hf
    rw [hok] at h1
    have h2 := specNeed l hf
    have h3 := implNeed l hf
    have hn : needOf l = (-1, -1) := by unfold needOf; rw [hok]; rfl
    rw [hn] at h2 h3
    exact ⟨[], false, by simp, ev_call rfl (ev_bind h2 (ev_bind h1 (ev_neg (by simp) (spec_ShareOut.j0.st (ev_pos rfl ev_now))))), ev_bind h3 (ev_pos (by simp) (impl_ShareOut.j0.st (ev_pos rfl ev_now))), by simp⟩
  | true =>
    have h1 := specClaims l hf
    rw [hok] at h1
    have h2 := specNeed l hf
    have h3 := implNeed l hf
    have hl := claimsOk_length hok
    have hr := sums_range hok l.length (Nat.le_refl _)
    have hn : needOf l = (leastSum l l.length, wantSum l l.length) := by unfold needOf; rw [if_pos hok]
    rw [hn] at h2 h3
    by_cases hc : 0 ≤ b ∧ b ≤ 1000
    · by_cases hd : leastSum l l.length > b
      · exact ⟨[], false, by simp, ev_call rfl (ev_bind h2 (ev_bind h1 (ev_pos rfl (ev_call (specCount _) (ev_pos (decide_eq_true hc) (spec_ShareOut.j0.st (ev_pos (decide_eq_true hd) ev_now))))))), ev_bind h3 (ev_neg (by show ¬ leastSum l l.length < 0; omega) (ev_call (implCount _) (ev_pos (decide_eq_true hc) (impl_ShareOut.j0.st (ev_pos (decide_eq_true hd) ev_now))))), by simp⟩
      · obtain ⟨m, hm⟩ : ∃ m : Nat, (m : Int) = b - leastSum l l.length := ⟨(b - leastSum l l.length).toNat, by omega⟩
        have hw0 : Within l (leasts l l.length) := by
          intro i hi
          rw [leasts_rd l _ i hi]
          have := claimsOk_at hok i hi
          unfold leastAt wantAt
          omega
        have hf0 : FairAll l (leasts l l.length) := by
          intro i k hi hk _ h2
          rw [leasts_rd l _ k hk] at h2
          omega
        obtain ⟨ys, g0, gw, gf, gs, g1, g2⟩ := share_l1 l hok m (leasts l l.length) (leasts_length l _) (by omega) hw0 hf0
        have key1 := ev_up (n := l.length) (fun i => Ev (fun k => spec_ShareOut.l0 k b l (leasts l i) (leastSum l l.length) (i : Int)) (ys, true))
          (by
            refine spec_ShareOut.l0.st (ev_neg (by omega) ?_)
            rw [w64 (by omega) (by omega), ← hm]
            exact g1)
          (by
            intro i hi H
            refine spec_ShareOut.l0.st (ev_pos (by omega) (ev_pos (by omega) (ev_pos (by rw [leasts_length]; omega) ?_)))
            rw [leasts_next, w64 (by omega) (by omega)]
            exact H) 0 (Nat.zero_le _)
        have key2 := ev_up (n := l.length) (fun i => Ev (fun k => impl_ShareOut.l0 k b l (leastSum l l.length) (leasts l i) l (l.length : Int) (i : Int)) (ys, true))
          (by
            refine impl_ShareOut.l0.st (ev_neg (by omega) ?_)
            rw [w64 (by omega) (by omega), ← hm]
            exact g2)
          (by
            intro i hi H
            refine impl_ShareOut.l0.st (ev_pos (by omega) (ev_pos (by omega) (ev_pos (by omega) (ev_pos (by rw [leasts_length]; omega) ?_))))
            rw [leasts_next, w64 (by omega) (by omega)]
            exact H) 0 (Nat.zero_le _)
        refine ⟨ys, true, by omega, ev_call rfl (ev_bind h2 (ev_bind h1 (ev_pos rfl (ev_call (specCount _) (ev_pos (decide_eq_true hc) (spec_ShareOut.j0.st (ev_neg (by rw [decide_eq_false hd]; simp) key1))))))), ev_bind h3 (ev_neg (by show ¬ leastSum l l.length < 0; omega) (ev_call (implCount _) (ev_pos (decide_eq_true hc) (impl_ShareOut.j0.st (ev_neg (by rw [decide_eq_false hd]; simp) key2))))), fun _ => ⟨rfl, hc, g0, gw, gf, ?_⟩⟩
        rcases gs with gs | gs
        · exact .inr (full_sum gw gs _ (Nat.le_refl _))
        · left
          rw [leasts_sum l l.length l.length (Nat.le_refl _)] at gs
          omega
    · exact ⟨[], false, by simp, ev_call rfl (ev_bind h2 (ev_bind h1 (ev_pos rfl (ev_call (specCount _) (ev_neg (by rw [decide_eq_false hc]; simp) (spec_ShareOut.j0.st (ev_pos rfl ev_now))))))), ev_bind h3 (ev_neg (by show ¬ leastSum l l.length < 0; omega) (ev_call (implCount _) (ev_neg (by rw [decide_eq_false hc]; simp) (impl_ShareOut.j0.st (ev_pos rfl ev_now))))), by simp⟩

/-- What SumOfShares says of shares within their bounds. -/
theorem sumShares (xs : List Int) (hl : xs.length ≤ 16) (hp : ∀ i, i < xs.length → 0 ≤ rd xs (i : Int) ∧ rd xs (i : Int) ≤ 1000) : Ev (fun k => impl_SumOfShares.f k xs) (sumTo xs xs.length) := by
  unfold impl_SumOfShares.f
  have hb : ∀ i, i ≤ xs.length → 0 ≤ sumTo xs i ∧ sumTo xs i ≤ 1000 * (i : Int) := by
    intro i
    induction i with
    | zero => intro _; simp [sumTo]
    | succ i ih =>
      intro hi
      have h1 := ih (by omega)
      have h2 := hp i (by omega)
      simp only [sumTo]
      omega
  have := ev_up (n := xs.length) (fun i => Ev (fun k => impl_SumOfShares.l0 k (sumTo xs i) xs (xs.length : Int) (i : Int)) (sumTo xs xs.length)) (impl_SumOfShares.l0.st (ev_neg (by omega) ev_now))
    (by
      intro i hi H
      have h1 := hb i (by omega)
      have h2 := hp i hi
      refine impl_SumOfShares.l0.st (ev_pos (by omega) (ev_pos (by omega) (ev_pos (by omega) (ev_neg (by omega) ?_))))
      have e1 : mn (rd xs (i : Int)) 1000000000 = rd xs (i : Int) := by rcases mn_cases (rd xs (i : Int)) 1000000000 with ⟨h, _⟩ | ⟨_, h⟩ <;> omega
      have e2 : mn (sumTo xs i + rd xs (i : Int)) 1000000000 = sumTo xs i + rd xs (i : Int) := by rcases mn_cases (sumTo xs i + rd xs (i : Int)) 1000000000 with ⟨h, _⟩ | ⟨_, h⟩ <;> omega
      rw [e1, w64 (x := sumTo xs i + rd xs (i : Int)) (by omega) (by omega), e2, w64 (by omega) (by omega)]
      exact H) 0 (Nat.zero_le _)
  exact ev_neg (by omega) this

/-- What ShareFair says of shares that are fair. -/
theorem fairTrue (l : List S44) (hok : claimsOk l = true) (hf : Fits l) (xs : List Int) (hx : xs.length = l.length) (hw : Within l xs) (hfa : FairAll l xs) : Ev (fun k => impl_ShareFair.f k l xs) true := by
  unfold impl_ShareFair.f
  have hl := claimsOk_length hok
  have h2 := implClaims l hf
  rw [hok] at h2
  refine ev_bind h2 (ev_pos rfl (impl_ShareFair.j0.st (ev_neg (by simp [hx]) ?_)))
  have pairs : Ev (fun k => impl_ShareFair.l1 k l xs l (l.length : Int) 0) true := by
    have outer := ev_up (n := l.length) (fun i => Ev (fun k => impl_ShareFair.l1 k l xs l (l.length : Int) (i : Int)) true) (impl_ShareFair.l1.st (ev_neg (by omega) ev_now))
      (by
        intro i hi H
        have inner := ev_up (n := l.length) (fun j => Ev (fun k => impl_ShareFair.l2 k l xs (i : Int) l (l.length : Int) (i : Int) l (l.length : Int) (j : Int) (rd_T44 l (i : Int)).f0 (rd_T44 l (i : Int)).f1 (rd_T44 l (i : Int)).f2 (rd_T44 l (i : Int)).f3) true)
          (by
            refine impl_ShareFair.l2.st (ev_neg (by omega) ?_)
            rw [w64 (by omega) (by omega)]
            exact H)
          (by
            intro j hj H2
            have next : Ev (fun k => impl_ShareFair.l2 k l xs (i : Int) l (l.length : Int) (i : Int) l (l.length : Int) (wrap64 ((j : Int) + 1)) (rd_T44 l (i : Int)).f0 (rd_T44 l (i : Int)).f1 (rd_T44 l (i : Int)).f2 (rd_T44 l (i : Int)).f3) true := by
              rw [w64 (by omega) (by omega)]
              exact H2
            refine impl_ShareFair.l2.st (ev_pos (by omega) (ev_pos (by omega) (ev_pos (by omega) (ev_pos (by omega) (ev_pos (by omega) (ev_ite (fun c1 => ev_pos (by omega) (ev_ite (fun c2 => ev_neg ?_ next) (fun _ => next))) (fun _ => next)))))))
            have hii := hw i hi
            have hjj := hw j hj
            have ci := claimsOk_at hok i hi
            have cj := claimsOk_at hok j hj
            have hp := hfa i j hi hj c1 c2
            have e0 : wrap64 (rd xs (j : Int) - 1) = rd xs (j : Int) - 1 := by unfold wantAt leastAt at *; exact w64 (by omega) (by omega)
            have e1 : wrap64 ((rd xs (j : Int) - 1) * ((rd_T44 l (i : Int)).f3)) = (rd xs (j : Int) - 1) * weightAt l i := by unfold wantAt leastAt at *; exact mul_fits (by omega) (by omega) (by omega) (by omega)
            have e2 : wrap64 ((rd xs (i : Int)) * ((rd_T44 l (j : Int)).f3)) = rd xs (i : Int) * weightAt l j := by unfold wantAt leastAt at *; exact mul_fits (by omega) (by omega) (by omega) (by omega)
            rw [e0, e1, e2]
            exact Int.not_lt.2 hp) 0 (Nat.zero_le _)
        exact impl_ShareFair.l1.st (ev_pos (by omega) (ev_pos (by omega) (ev_pos (by omega) inner)))) 0 (Nat.zero_le _)
    exact outer
  have := ev_up (n := l.length) (fun i => Ev (fun k => impl_ShareFair.l0 k l xs l (l.length : Int) (i : Int)) true) (impl_ShareFair.l0.st (ev_neg (by omega) pairs))
    (by
      intro i hi H
      refine impl_ShareFair.l0.st (ev_pos (by omega) (ev_pos (by omega) (ev_pos (by omega) (ev_pos (by omega) (ev_call (implIn _ _ _) (ev_pos (decide_eq_true (hw i hi)) ?_))))))
      rw [w64 (by omega) (by omega)]
      exact H) 0 (Nat.zero_le _)
  exact this
end Go.Proofs.Ytmbkgiagkhhifaa.PA
