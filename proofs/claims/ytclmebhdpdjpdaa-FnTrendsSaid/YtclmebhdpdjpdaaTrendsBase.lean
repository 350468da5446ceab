/- Sorted lists, least and most, sums over a list's places, the common divisor: the mathematics of the trend statistics. No condition but that the lists are short. -/
import Derived.Test.YtclmebhdpdjpdaaAid
import Derived.Test.YtclmebhdpdjpdaaPAx1
import Derived.Test.YtclmebhdpdjpdaaPAx2
namespace Go.Proofs.Ytclmebhdpdjpdaa.PA
open Go.RowKit Go.Proofs.YtclmebhdpdjpdaaW.PrintWords Go.Proofs.YtclmebhdpdjpdaaW.PrintLast Go.Proofs.YtclmebhdpdjpdaaW.PrintMore Go.Proofs.Ytclmebhdpdjpdaa.Aid
set_option linter.unusedVariables false
set_option linter.unusedSimpArgs false

theorem rd_at {l : List Int} {i : Nat} (h : i < l.length) : rd l (i : Int) = l[i] := by
  unfold rd
  rw [Int.toNat_natCast, List.getD_eq_getElem?_getD, List.getElem?_eq_getElem h]
  rfl
theorem rd_mem {l : List Int} {i : Nat} (h : i < l.length) : rd l (i : Int) ∈ l := by
  rw [rd_at h]
  exact List.getElem_mem h
theorem drop_cons {l : List Int} {i : Nat} (h : i < l.length) : l.drop i = rd l (i : Int) :: l.drop (i + 1) := by
  rw [List.drop_eq_getElem_cons h, rd_at h]

/-! least and most -/
theorem mn_le (a b : Int) : mn a b ≤ a ∧ mn a b ≤ b ∧ (mn a b = a ∨ mn a b = b) := by
  rcases mn_cases a b with ⟨h, e⟩ | ⟨h, e⟩ <;> rw [e] <;> omega
theorem mx_le (a b : Int) : a ≤ mx a b ∧ b ≤ mx a b ∧ (mx a b = a ∨ mx a b = b) := by
  rcases mx_cases a b with ⟨h, e⟩ | ⟨h, e⟩ <;> rw [e] <;> omega
theorem least_fold (t : List Int) : ∀ x : Int, (t.foldl mn x = x ∨ t.foldl mn x ∈ t) ∧ t.foldl mn x ≤ x ∧ ∀ z ∈ t, t.foldl mn x ≤ z := by
  induction t with
  | nil => intro x; simp
  | cons y t ih =>
    intro x
    obtain ⟨h1, h2, h3⟩ := ih (mn x y)
    obtain ⟨m1, m2, m3⟩ := mn_le x y
    rw [List.foldl_cons]
    refine ⟨?_, by omega, ?_⟩
    · rcases h1 with h1 | h1
      · rcases m3 with m3 | m3
        · exact .inl (by omega)
        · exact .inr (by rw [h1, m3]; simp)
      · exact .inr (List.mem_cons_of_mem _ h1)
    · intro z hz
      rcases List.mem_cons.1 hz with rfl | hz
      · omega
      · exact h3 z hz
theorem most_fold (t : List Int) : ∀ x : Int, (t.foldl mx x = x ∨ t.foldl mx x ∈ t) ∧ x ≤ t.foldl mx x ∧ ∀ z ∈ t, z ≤ t.foldl mx x := by
  induction t with
  | nil => intro x; simp
  | cons y t ih =>
    intro x
    obtain ⟨h1, h2, h3⟩ := ih (mx x y)
    obtain ⟨m1, m2, m3⟩ := mx_le x y
    rw [List.foldl_cons]
    refine ⟨?_, by omega, ?_⟩
    · rcases h1 with h1 | h1
      · rcases m3 with m3 | m3
        · exact .inl (by omega)
        · exact .inr (by rw [h1, m3]; simp)
      · exact .inr (List.mem_cons_of_mem _ h1)
    · intro z hz
      rcases List.mem_cons.1 hz with rfl | hz
      · omega
      · exact h3 z hz
theorem least_spec {l : List Int} (h : l ≠ []) : leastOf l ∈ l ∧ ∀ z ∈ l, leastOf l ≤ z := by
  cases l with
  | nil => exact absurd rfl h
  | cons x t =>
    obtain ⟨h1, h2, h3⟩ := least_fold t x
    refine ⟨?_, fun z hz => ?_⟩
    · show t.foldl mn x ∈ x :: t
      rcases h1 with h1 | h1
      · rw [h1]; simp
      · exact List.mem_cons_of_mem _ h1
    · show t.foldl mn x ≤ z
      rcases List.mem_cons.1 hz with rfl | hz
      · exact h2
      · exact h3 z hz
theorem most_spec {l : List Int} (h : l ≠ []) : mostOf l ∈ l ∧ ∀ z ∈ l, z ≤ mostOf l := by
  cases l with
  | nil => exact absurd rfl h
  | cons x t =>
    obtain ⟨h1, h2, h3⟩ := most_fold t x
    refine ⟨?_, fun z hz => ?_⟩
    · show t.foldl mx x ∈ x :: t
      rcases h1 with h1 | h1
      · rw [h1]; simp
      · exact List.mem_cons_of_mem _ h1
    · show z ≤ t.foldl mx x
      rcases List.mem_cons.1 hz with rfl | hz
      · exact h2
      · exact h3 z hz

/-! the insertion -/
def ins (x : Int) : List Int → List Int
  | [] => [x]
  | y :: t => if x < y then x :: y :: t else y :: ins x t
def insAll (out : List Int) : List Int → List Int
  | [] => out
  | x :: t => insAll (ins x out) t
def Asc (l : List Int) : Prop := l.Pairwise fun a b => a ≤ b
theorem ins_mem (x z : Int) (l : List Int) : z ∈ ins x l ↔ z = x ∨ z ∈ l := by
  induction l with
  | nil => simp [ins]
  | cons y t ih =>
    unfold ins
    split
    · simp
    · rw [List.mem_cons, ih, List.mem_cons]
      constructor
      · rintro (h | h | h) <;> simp [h]
      · rintro (h | h | h) <;> simp [h]
theorem ins_length (x : Int) (l : List Int) : (ins x l).length = l.length + 1 := by
  induction l with
  | nil => rfl
  | cons y t ih => unfold ins; split <;> simp [ih]
theorem ins_asc (x : Int) (l : List Int) (h : Asc l) : Asc (ins x l) := by
  induction l with
  | nil => exact List.pairwise_cons.2 ⟨by simp, List.Pairwise.nil⟩
  | cons y t ih =>
    obtain ⟨h1, h2⟩ := List.pairwise_cons.1 h
    unfold ins
    split
    · rename_i hx
      refine List.pairwise_cons.2 ⟨fun z hz => ?_, h⟩
      rcases List.mem_cons.1 hz with rfl | hz
      · omega
      · have := h1 z hz; omega
    · rename_i hx
      refine List.pairwise_cons.2 ⟨fun z hz => ?_, ih h2⟩
      rcases (ins_mem x z t).1 hz with rfl | hz
      · omega
      · exact h1 z hz
theorem insAll_spec (l : List Int) : ∀ out : List Int, Asc out → Asc (insAll out l) ∧ (insAll out l).length = out.length + l.length ∧ ∀ z, z ∈ insAll out l ↔ z ∈ out ∨ z ∈ l := by
  induction l with
  | nil => intro out h; exact ⟨h, by simp [insAll], by simp [insAll]⟩
  | cons x t ih =>
    intro out h
    obtain ⟨h1, h2, h3⟩ := ih (ins x out) (ins_asc x out h)
    refine ⟨h1, ?_, fun z => ?_⟩
    · show (insAll (ins x out) t).length = _
      rw [h2, ins_length, List.length_cons]
      omega
    · show z ∈ insAll (ins x out) t ↔ _
      rw [h3, ins_mem, List.mem_cons]
      constructor
      · rintro ((h | h) | h) <;> simp [h]
      · rintro (h | h | h) <;> simp [h]
theorem asc_at {l : List Int} (h : Asc l) {i j : Nat} (hij : i ≤ j) (hj : j < l.length) : rd l (i : Int) ≤ rd l (j : Int) := by
  rw [rd_at (by omega), rd_at hj]
  by_cases e : i = j
  · subst e; exact Int.le_refl _
  · exact List.pairwise_iff_getElem.1 h i j (by omega) hj (by omega)
theorem asc_first {l : List Int} (h : Asc l) (hne : 0 < l.length) : ∀ z ∈ l, rd l 0 ≤ z := by
  intro z hz
  obtain ⟨i, hi, rfl⟩ := List.getElem_of_mem hz
  have := asc_at h (Nat.zero_le i) hi
  rw [rd_at hi] at this
  exact this
theorem asc_last {l : List Int} (h : Asc l) (hne : 0 < l.length) : ∀ z ∈ l, z ≤ rd l ((l.length - 1 : Nat) : Int) := by
  intro z hz
  obtain ⟨i, hi, rfl⟩ := List.getElem_of_mem hz
  have := asc_at h (show i ≤ l.length - 1 by omega) (by omega)
  rw [rd_at hi] at this
  exact this
/-- The insertion's first is the least, its last the most. -/
theorem insAll_ends (l : List Int) (hne : l ≠ []) : (insAll [] l).length = l.length ∧ rd (insAll [] l) 0 = leastOf l ∧ rd (insAll [] l) ((l.length - 1 : Nat) : Int) = mostOf l := by
  obtain ⟨h1, h2, h3⟩ := insAll_spec l [] List.Pairwise.nil
  have hl : (insAll [] l).length = l.length := by simpa using h2
  have hpos : 0 < l.length := List.length_pos_iff.2 hne
  have hm : ∀ z, z ∈ insAll [] l ↔ z ∈ l := fun z => by simpa using h3 z
  obtain ⟨a1, a2⟩ := least_spec hne
  obtain ⟨b1, b2⟩ := most_spec hne
  refine ⟨hl, ?_, ?_⟩
  · have h4 := asc_first h1 (by omega) (leastOf l) ((hm _).2 a1)
    have h5 := a2 (rd (insAll [] l) ((0 : Nat) : Int)) ((hm _).1 (rd_mem (by omega)))
    exact Int.le_antisymm h4 h5
  · have h4 := asc_last h1 (by omega) (mostOf l) ((hm _).2 b1)
    have h5 := b2 (rd (insAll [] l) ((l.length - 1 : Nat) : Int)) ((hm _).1 (rd_mem (by omega)))
    rw [hl] at h4
    exact Int.le_antisymm h5 h4
theorem sortedList_mem (l : List Int) (z : Int) : z ∈ sortedList l ↔ z ∈ l := (List.mergeSort_perm _ _).mem_iff

/-! sums over the places below i -/
def sumX (x : Nat → Int) : Nat → Int
  | 0 => 0
  | i + 1 => sumX x i + x i
def sumI : Nat → Int
  | 0 => 0
  | i + 1 => sumI i + (i : Int)
def sumII : Nat → Int
  | 0 => 0
  | i + 1 => sumII i + (i : Int) * (i : Int)
def sumIX (x : Nat → Int) : Nat → Int
  | 0 => 0
  | i + 1 => sumIX x i + (i : Int) * x i
theorem sumI_two (i : Nat) : 2 * sumI i = (i : Int) * ((i : Int) - 1) := by
  induction i with
  | zero => rfl
  | succ i ih =>
    show 2 * (sumI i + (i : Int)) = _
    rw [Int.mul_add, ih, show ((i + 1 : Nat) : Int) = (i : Int) + 1 by omega]
    simp only [Int.mul_sub, Int.add_mul, Int.mul_add, Int.mul_one, Int.one_mul, Int.sub_self, Int.add_sub_cancel]
    omega
theorem sumII_six (i : Nat) : 6 * sumII i = (i : Int) * ((i : Int) * (i : Int)) * 2 - 3 * ((i : Int) * (i : Int)) + (i : Int) := by
  induction i with
  | zero => rfl
  | succ i ih =>
    show 6 * (sumII i + (i : Int) * (i : Int)) = _
    rw [Int.mul_add, ih, show ((i + 1 : Nat) : Int) = (i : Int) + 1 by omega]
    simp only [Int.add_mul, Int.mul_add, Int.mul_one, Int.one_mul]
    omega
/-- n times the sum of squares less the square of the sum: 12 times it is n^4 - n^2. -/
theorem den_twelve (n : Nat) : 12 * ((n : Int) * sumII n - sumI n * sumI n) = (n : Int) * (n : Int) * ((n : Int) * (n : Int)) - (n : Int) * (n : Int) := by
  have h1 := sumI_two n
  have h2 := sumII_six n
  generalize sumI n = a at h1
  generalize sumII n = b at h2
  generalize (n : Int) = m at h1 h2
  have e1 : (2 * a) * (2 * a) = 4 * (a * a) := by
    rw [Int.mul_assoc, Int.mul_left_comm a 2 a]; omega
  have e2 : m * (6 * b) = 6 * (m * b) := Int.mul_left_comm m 6 b
  rw [h1] at e1
  rw [h2] at e2
  have e3 : m * (m * (m * m) * 2 - 3 * (m * m) + m) = 2 * (m * m * (m * m)) - 3 * (m * (m * m)) + m * m := by
    rw [Int.mul_add, Int.mul_sub, ← Int.mul_assoc m (m * (m * m)) 2, ← Int.mul_assoc m m (m * m), Int.mul_left_comm m 3 (m * m)]
    omega
  have e4 : m * (m - 1) * (m * (m - 1)) = m * m * (m * m) - 2 * (m * (m * m)) + m * m := by
    have : m * (m - 1) = m * m - m := by rw [Int.mul_sub, Int.mul_one]
    rw [this, Int.mul_sub, Int.sub_mul, Int.sub_mul, Int.mul_assoc m m m]
    omega
  rw [e3] at e2
  rw [e4] at e1
  omega
theorem den_pos (n : Nat) (hn : 2 ≤ n) : 1 ≤ (n : Int) * sumII n - sumI n * sumI n := by
  have h := den_twelve n
  have h1 : (2 : Int) ≤ (n : Int) := by omega
  generalize (n : Int) = m at h h1
  have h2 : 2 * m ≤ m * m := Int.mul_le_mul_of_nonneg_right h1 (by omega)
  have h3 : 2 * (m * m) ≤ m * m * (m * m) := Int.mul_le_mul_of_nonneg_right (show 2 ≤ m * m by omega) (by omega)
  omega
/-- The slope's numerator, as a sum: every term has the sign of a difference. -/
theorem cheb_step (x : Nat → Int) (n : Nat) (h : ∀ j, j < n → x j ≤ x n) : ∀ m, m ≤ n → 0 ≤ sumIX x m - (n : Int) * sumX x m + ((n : Int) * (m : Int) - sumI m) * x n := by
  intro m
  induction m with
  | zero => intro _; simp [sumIX, sumX, sumI]
  | succ m ih =>
    intro hm
    have h1 := ih (by omega)
    have h2 : 0 ≤ ((n : Int) - (m : Int)) * (x n - x m) := Int.mul_nonneg (by omega) (by have := h m (by omega); omega)
    show 0 ≤ sumIX x m + (m : Int) * x m - (n : Int) * (sumX x m + x m) + ((n : Int) * ((m + 1 : Nat) : Int) - (sumI m + (m : Int))) * x n
    rw [show ((m + 1 : Nat) : Int) = (m : Int) + 1 by omega]
    simp only [Int.mul_add, Int.add_mul, Int.sub_mul, Int.mul_sub, Int.mul_one] at h1 h2 ⊢
    omega
theorem cheb (x : Nat → Int) (n : Nat) (h : ∀ i j, i ≤ j → j < n → x i ≤ x j) : 0 ≤ (n : Int) * sumIX x n - sumI n * sumX x n := by
  induction n with
  | zero => simp [sumIX, sumX, sumI]
  | succ n ih =>
    have h1 := ih (fun i j hij hj => h i j hij (by omega))
    have h2 := cheb_step x n (fun j hj => h j n (by omega) (by omega)) n (Nat.le_refl n)
    show 0 ≤ ((n + 1 : Nat) : Int) * (sumIX x n + (n : Int) * x n) - (sumI n + (n : Int)) * (sumX x n + x n)
    rw [show ((n + 1 : Nat) : Int) = (n : Int) + 1 by omega]
    simp only [Int.mul_add, Int.add_mul, Int.sub_mul, Int.mul_sub, Int.mul_one, Int.one_mul, ← Int.mul_assoc] at h1 h2 ⊢
    omega
theorem sumX_neg (x : Nat → Int) (n : Nat) : sumX (fun i => -x i) n = -sumX x n := by
  induction n with
  | zero => rfl
  | succ n ih => show sumX (fun i => -x i) n + -x n = -(sumX x n + x n); rw [ih]; omega
theorem sumIX_neg (x : Nat → Int) (n : Nat) : sumIX (fun i => -x i) n = -sumIX x n := by
  induction n with
  | zero => rfl
  | succ n ih => show sumIX (fun i => -x i) n + (n : Int) * -x n = -(sumIX x n + (n : Int) * x n); rw [ih, Int.mul_neg]; omega
theorem cheb_down (x : Nat → Int) (n : Nat) (h : ∀ i j, i ≤ j → j < n → x j ≤ x i) : (n : Int) * sumIX x n - sumI n * sumX x n ≤ 0 := by
  have h1 := cheb (fun i => -x i) n (fun i j hij hj => by have := h i j hij hj; show -x i ≤ -x j; omega)
  rw [sumX_neg, sumIX_neg, Int.mul_neg, Int.mul_neg] at h1
  omega

/-! bounds -/
theorem mul_range {a b A B : Int} (ha : 0 ≤ a) (ha' : a ≤ A) (hb : 0 ≤ b) (hb' : b ≤ B) : 0 ≤ a * b ∧ a * b ≤ A * B :=
  ⟨Int.mul_nonneg ha hb, Int.le_trans (Int.mul_le_mul_of_nonneg_right ha' hb) (Int.mul_le_mul_of_nonneg_left hb' (Int.le_trans ha ha'))⟩
theorem sums_small (x : Nat → Int) (n : Nat) (hn : n ≤ 100) (h : ∀ i, i < n → 0 ≤ x i ∧ x i ≤ 1000000000) : ∀ i, i ≤ n →
    (0 ≤ sumI i ∧ sumI i ≤ 100 * (i : Int)) ∧ (0 ≤ sumII i ∧ sumII i ≤ 10000 * (i : Int)) ∧ (0 ≤ sumX x i ∧ sumX x i ≤ 1000000000 * (i : Int)) ∧ (0 ≤ sumIX x i ∧ sumIX x i ≤ 100000000000 * (i : Int)) := by
  intro i
  induction i with
  | zero => intro _; simp [sumI, sumII, sumX, sumIX]
  | succ i ih =>
    intro hi
    obtain ⟨h1, h2, h3, h4⟩ := ih (by omega)
    have hx := h i (by omega)
    have m1 := mul_range (a := (i : Int)) (b := (i : Int)) (A := 100) (B := 100) (by omega) (by omega) (by omega) (by omega)
    have m2 := mul_range (a := (i : Int)) (b := x i) (A := 100) (B := 1000000000) (by omega) (by omega) hx.1 hx.2
    show (0 ≤ sumI i + (i : Int) ∧ sumI i + (i : Int) ≤ _) ∧ (0 ≤ sumII i + (i : Int) * (i : Int) ∧ sumII i + (i : Int) * (i : Int) ≤ _) ∧ (0 ≤ sumX x i + x i ∧ sumX x i + x i ≤ _) ∧ (0 ≤ sumIX x i + (i : Int) * x i ∧ sumIX x i + (i : Int) * x i ≤ _)
    omega
end Go.Proofs.Ytclmebhdpdjpdaa.PA
