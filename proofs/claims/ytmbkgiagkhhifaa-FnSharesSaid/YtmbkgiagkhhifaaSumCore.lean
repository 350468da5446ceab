/- What SumOfShares answers: the reference's and the program's give one answer on every list of whole numbers. No condition but that the lists are short. -/
import Derived.Test.YtmbkgiagkhhifaaAid
import Derived.Test.YtmbkgiagkhhifaaPAx3
namespace Go.Proofs.Ytmbkgiagkhhifaa.PA
open Go.RowKit Go.Proofs.YtmbkgiagkhhifaaW.PrintWords Go.Proofs.YtmbkgiagkhhifaaW.PrintLast Go.Proofs.YtmbkgiagkhhifaaW.PrintMore Go.Proofs.Ytmbkgiagkhhifaa.Aid
set_option linter.unusedVariables false

theorem rd_head {xs : List Int} {j : Nat} {x : Int} {t : List Int} (h : xs.drop j = x :: t) : rd xs (j : Int) = x := by
  have h1 : (xs.drop j)[0]? = some x := by rw [h]; rfl
  rw [List.getElem?_drop, Nat.add_zero] at h1
  unfold rd
  rw [Int.toNat_natCast, List.getD_eq_getElem?_getD, h1]
  rfl

theorem drop_lt {α : Type} {xs : List α} {j : Nat} {x : α} {t : List α} (h : xs.drop j = x :: t) : j < xs.length := by
  have h1 : (xs.drop j).length = t.length + 1 := by rw [h]; rfl
  rw [List.length_drop] at h1
  omega

theorem drop_next {α : Type} {xs : List α} {j : Nat} {x : α} {t : List α} (h : xs.drop j = x :: t) : xs.drop (j + 1) = t := by
  rw [← List.drop_drop, h]
  rfl

theorem drop_end {α : Type} {xs : List α} {j : Nat} (h : xs.drop j = []) : xs.length ≤ j := List.drop_eq_nil_iff.1 h

/-- What the reference adds up. -/
def addUp : List Int → Int → Int
  | [], s => s
  | x :: t, s => if x > 1000000000 - s then 1000000000 else addUp t (s + x)

/-- What the program adds up. -/
def addCut : List Int → Int → Int
  | [], s => s
  | x :: t, s => if x < 0 then 0 else addCut t (mn (s + mn x 1000000000) 1000000000)

theorem addUp_full (l : List Int) (h : ∀ x ∈ l, 0 ≤ x) : addUp l 1000000000 = 1000000000 := by
  induction l with
  | nil => rfl
  | cons x t ih =>
    have hx := h x (by simp)
    unfold addUp
    split
    · rfl
    · have : x = 0 := by omega
      subst this
      exact ih fun y hy => h y (by simp [hy])

theorem addCut_full (l : List Int) (h : ∀ x ∈ l, 0 ≤ x) : addCut l 1000000000 = 1000000000 := by
  induction l with
  | nil => rfl
  | cons x t ih =>
    have hx := h x (by simp)
    unfold addCut
    rw [if_neg (by omega)]
    have : mn (1000000000 + mn x 1000000000) 1000000000 = 1000000000 := by
      rcases mn_cases x 1000000000 with ⟨_, e⟩ | ⟨_, e⟩ <;> rcases mn_cases (1000000000 + mn x 1000000000) 1000000000 with ⟨_, e2⟩ | ⟨_, e2⟩ <;> omega
    rw [this]
    exact ih fun y hy => h y (by simp [hy])

theorem add_same (l : List Int) (h : ∀ x ∈ l, 0 ≤ x) : ∀ s : Int, 0 ≤ s → s ≤ 1000000000 → addCut l s = addUp l s := by
  induction l with
  | nil => intro s _ _; rfl
  | cons x t ih =>
    intro s h0 h1
    have hx := h x (by simp)
    have ht : ∀ y ∈ t, 0 ≤ y := fun y hy => h y (by simp [hy])
    unfold addCut addUp
    rw [if_neg (by omega)]
    by_cases hc : x > 1000000000 - s
    · rw [if_pos hc]
      have : mn (s + mn x 1000000000) 1000000000 = 1000000000 := by
        rcases mn_cases x 1000000000 with ⟨_, e⟩ | ⟨_, e⟩ <;> rcases mn_cases (s + mn x 1000000000) 1000000000 with ⟨_, e2⟩ | ⟨_, e2⟩ <;> omega
      rw [this]
      exact addCut_full t ht
    · rw [if_neg hc]
      have : mn (s + mn x 1000000000) 1000000000 = s + x := by
        rcases mn_cases x 1000000000 with ⟨_, e⟩ | ⟨_, e⟩ <;> rcases mn_cases (s + mn x 1000000000) 1000000000 with ⟨_, e2⟩ | ⟨_, e2⟩ <;> omega
      rw [this]
      exact ih ht _ (by omega) (by omega)

theorem addCut_neg (l : List Int) (h : ∃ x ∈ l, x < 0) : ∀ s, addCut l s = 0 := by
  induction l with
  | nil => obtain ⟨x, hx, _⟩ := h; cases hx
  | cons x t ih =>
    intro s
    unfold addCut
    by_cases hx : x < 0
    · rw [if_pos hx]
    · rw [if_neg hx]
      obtain ⟨y, hy, hy2⟩ := h
      rcases List.mem_cons.1 hy with rfl | hy
      · exact absurd hy2 hx
      · exact ih ⟨y, hy, hy2⟩ _

section walk
variable (xs : List Int)

theorem sumSpec_l1 (hl : xs.length ≤ 300) (hp : ∀ x ∈ xs, 0 ≤ x) (t : List Int) : ∀ (k j : Nat) (s : Int), xs.drop j = t → t.length < k → 0 ≤ s → s ≤ 1000000000 → spec_SumOfShares.l1 k xs s (j : Int) = some (addUp t s) := by
  induction t with
  | nil =>
    intro k j s hd hk h0 h1
    obtain ⟨k, rfl⟩ : ∃ m, k = m + 1 := ⟨k - 1, by simp at hk; omega⟩
    have := drop_end hd
    simp only [spec_SumOfShares.l1]
    rw [if_neg (by omega)]
    rfl
  | cons x t ih =>
    intro k j s hd hk h0 h1
    obtain ⟨k, rfl⟩ : ∃ m, k = m + 1 := ⟨k - 1, by simp at hk; omega⟩
    have hj := drop_lt hd
    have hx : 0 ≤ x := hp x (List.mem_of_mem_drop (i := j) (by rw [hd]; simp))
    simp only [spec_SumOfShares.l1]
    rw [if_pos (by omega), if_pos (by omega), rd_head hd, w64 (by omega) (by omega)]
    unfold addUp
    by_cases hc : x > 1000000000 - s
    · rw [if_pos hc, if_pos hc]
    · rw [if_neg hc, if_neg hc, w64 (by omega) (by omega), w64 (by omega) (by omega)]
      exact ih k (j + 1) (s + x) (drop_next hd) (by simp at hk; omega) (by omega) (by omega)

theorem sumSpec_l0 (hl : xs.length ≤ 300) (t : List Int) : ∀ (k j : Nat), xs.drop j = t → t.length + xs.length + 1 < k → (∀ x ∈ xs.take j, 0 ≤ x) →
    spec_SumOfShares.l0 k xs 0 (j : Int) = some (if ∃ x ∈ xs, x < 0 then 0 else addUp xs 0) := by
  induction t with
  | nil =>
    intro k j hd hk hp
    obtain ⟨k, rfl⟩ : ∃ m, k = m + 1 := ⟨k - 1, by simp at hk; omega⟩
    have hj := drop_end hd
    have hp' : ∀ x ∈ xs, 0 ≤ x := by rwa [List.take_of_length_le hj] at hp
    simp only [spec_SumOfShares.l0]
    rw [if_neg (by omega), if_neg (by rintro ⟨x, hx, hn⟩; have := hp' x hx; omega)]
    exact sumSpec_l1 xs hl hp' xs k 0 0 rfl (by simp at hk; omega) (by omega) (by omega)
  | cons x t ih =>
    intro k j hd hk hp
    obtain ⟨k, rfl⟩ : ∃ m, k = m + 1 := ⟨k - 1, by simp at hk; omega⟩
    have hj := drop_lt hd
    have hm : x ∈ xs := List.mem_of_mem_drop (i := j) (by rw [hd]; simp)
    simp only [spec_SumOfShares.l0]
    rw [if_pos (by omega), if_pos (by omega), rd_head hd]
    by_cases hx : x < 0
    · rw [if_pos hx, if_pos ⟨x, hm, hx⟩]
    · rw [if_neg hx, w64 (by omega) (by omega)]
      refine ih k (j + 1) (drop_next hd) (by simp at hk; omega) ?_
      intro y hy
      rw [List.take_add_one, show xs[j]? = some x by rw [← Nat.add_zero j, ← List.getElem?_drop, hd]; rfl] at hy
      rcases List.mem_append.1 hy with hy | hy
      · exact hp y hy
      · simp at hy; omega

theorem sumImpl_l0 (hl : xs.length ≤ 300) (t : List Int) : ∀ (k j : Nat) (s : Int), xs.drop j = t → t.length < k → 0 ≤ s → s ≤ 1000000000 → impl_SumOfShares.l0 k s xs (xs.length : Int) (j : Int) = some (addCut t s) := by
  induction t with
  | nil =>
    intro k j s hd hk h0 h1
    obtain ⟨k, rfl⟩ : ∃ m, k = m + 1 := ⟨k - 1, by simp at hk; omega⟩
    have := drop_end hd
    simp only [impl_SumOfShares.l0]
    rw [if_neg (by omega)]
    rfl
  | cons x t ih =>
    intro k j s hd hk h0 h1
    obtain ⟨k, rfl⟩ : ∃ m, k = m + 1 := ⟨k - 1, by simp at hk; omega⟩
    have hj := drop_lt hd
    simp only [impl_SumOfShares.l0]
    rw [if_pos (by omega), if_pos (by omega), if_pos (by omega), rd_head hd]
    unfold addCut
    by_cases hc : x < 0
    · rw [if_pos hc, if_pos hc]
    · have hb : 0 ≤ mn (s + mn x 1000000000) 1000000000 ∧ mn (s + mn x 1000000000) 1000000000 ≤ 1000000000 ∧ s + mn x 1000000000 ≤ 2000000000 ∧ 0 ≤ s + mn x 1000000000 := by
        rcases mn_cases x 1000000000 with ⟨_, e⟩ | ⟨_, e⟩ <;> rcases mn_cases (s + mn x 1000000000) 1000000000 with ⟨_, e2⟩ | ⟨_, e2⟩ <;> omega
      rw [if_neg hc, if_neg hc, w64 (x := s + mn x 1000000000) (by omega) (by omega), w64 (by omega) (by omega)]
      exact ih k (j + 1) _ (drop_next hd) (by simp at hk; omega) hb.1 hb.2.1

/-- Both give one answer. -/
theorem sumTwo : ∃ r, ∀ k, 2 * xs.length + 2 < k → spec_SumOfShares.f k xs = some r ∧ impl_SumOfShares.f k xs = some r := by
  by_cases hl : (xs.length : Int) > 300
  · exact ⟨0, fun k _ => ⟨by unfold spec_SumOfShares.f; rw [if_pos hl], by unfold impl_SumOfShares.f; rw [if_pos hl]⟩⟩
  · refine ⟨if ∃ x ∈ xs, x < 0 then 0 else addUp xs 0, fun k hk => ⟨?_, ?_⟩⟩
    · unfold spec_SumOfShares.f
      rw [if_neg hl]
      exact sumSpec_l0 xs (by omega) xs k 0 rfl (by omega) (by simp)
    · unfold impl_SumOfShares.f
      rw [if_neg hl]
      have := sumImpl_l0 xs (by omega) xs k 0 0 rfl (by omega) (by omega) (by omega)
      rw [show ((0 : Nat) : Int) = 0 from rfl] at this
      rw [this]
      by_cases hn : ∃ x ∈ xs, x < 0
      · rw [if_pos hn, addCut_neg xs hn]
      · rw [if_neg hn, add_same xs (fun x hx => Int.not_lt.1 fun hh => hn ⟨x, hx, hh⟩) 0 (by omega) (by omega)]

end walk


theorem sumBoth (xs : List Int) : ∃ r, Ev (fun k => spec_SumOfShares.f k xs) r ∧ Ev (fun k => impl_SumOfShares.f k xs) r := by
  obtain ⟨r, hr⟩ := sumTwo xs
  exact ⟨r, ⟨2 * xs.length + 3, fun k hk => (hr k (by omega)).1⟩, ⟨2 * xs.length + 3, fun k hk => (hr k (by omega)).2⟩⟩
end Go.Proofs.Ytmbkgiagkhhifaa.PA
