/- Texts parted at a byte, glued again; what the library's Split, Cut and Atoi say of them. No condition but the bounds of each. -/
import Derived.Lib.SplitLaws
import Derived.Lib.ItoaNum
import Derived.Lib.AtoiAll
namespace Go.Proofs.YtidkiabehmdofaaGreatDoor.PA
open Go
/-- A text parted at each byte of one kind; an empty text has one empty part. -/
def parts (c : UInt8) : List UInt8 → List (List UInt8)
  | [] => [[]]
  | b :: r => if b = c then [] :: parts c r else (b :: (parts c r).headD []) :: (parts c r).tail
theorem parts_ne (c : UInt8) : ∀ l, parts c l ≠ []
  | [] => by simp [parts]
  | b :: r => by unfold parts; split <;> simp
theorem parts_cons (c : UInt8) (l : List UInt8) : parts c l = (parts c l).headD [] :: (parts c l).tail := by
  have := parts_ne c l
  cases h : parts c l with
  | nil => exact absurd h this
  | cons p q => rfl
/-- A part without the byte, then the byte. -/
theorem parts_step (c : UInt8) : ∀ (p r : List UInt8), (∀ b ∈ p, b ≠ c) → parts c (p ++ c :: r) = p :: parts c r
  | [], r, _ => by simp [parts]
  | b :: p, r, h => by
    have hb : b ≠ c := h b (by simp)
    have ih := parts_step c p r (fun x hx => h x (by simp [hx]))
    rw [List.cons_append, parts, if_neg hb, ih]
    rfl
theorem parts_last (c : UInt8) : ∀ (p : List UInt8), (∀ b ∈ p, b ≠ c) → parts c p = [p]
  | [], _ => rfl
  | b :: p, h => by
    have hb : b ≠ c := h b (by simp)
    rw [parts, if_neg hb, parts_last c p (fun x hx => h x (by simp [hx]))]
    rfl
/-- Texts with a byte between. -/
def glue (c : UInt8) : List (List UInt8) → List UInt8
  | [] => []
  | [p] => p
  | p :: q :: r => p ++ c :: glue c (q :: r)
theorem glue_cons (c : UInt8) (p : List UInt8) (r : List (List UInt8)) (h : r ≠ []) : glue c (p :: r) = p ++ c :: glue c r := by
  cases r with
  | nil => exact absurd rfl h
  | cons q r => rfl
theorem glue_parts (c : UInt8) : ∀ l, glue c (parts c l) = l
  | [] => rfl
  | b :: r => by
    have ih := glue_parts c r
    have hn := parts_ne c r
    unfold parts
    split
    · rename_i h
      subst h
      rw [glue_cons b [] _ hn, ih]
      rfl
    · cases hp : parts c r with
      | nil => exact absurd hp hn
      | cons p q =>
        rw [hp] at ih
        cases q with
        | nil =>
          show b :: p = b :: r
          rw [show p = r from ih]
        | cons q1 q2 =>
          show (b :: p) ++ c :: glue c (q1 :: q2) = b :: r
          rw [← ih]
          rfl
theorem parts_glue (c : UInt8) : ∀ (ps : List (List UInt8)), ps ≠ [] → (∀ p ∈ ps, ∀ b ∈ p, b ≠ c) → parts c (glue c ps) = ps
  | [], h, _ => absurd rfl h
  | [p], _, h => parts_last c p (h p (by simp))
  | p :: q :: r, _, h => by
    rw [glue_cons c p (q :: r) (by simp), parts_step c p _ (h p (by simp)), parts_glue c (q :: r) (by simp) (fun x hx => h x (by simp [hx]))]
theorem parts_glue_len (c : UInt8) (l : List UInt8) : (parts c l).length ≤ l.length + 1 := by
  induction l with
  | nil => simp [parts]
  | cons b r ih =>
    unfold parts
    split
    · simp only [List.length_cons]; omega
    · simp only [List.length_cons, List.length_tail]; have := parts_ne c r; have : (parts c r).length ≠ 0 := by simpa using this
      omega
theorem index_one (c : UInt8) : ∀ l : List UInt8, (Lib.index l [c] = -1 ∧ ∀ b ∈ l, b ≠ c) ∨ ∃ p r, l = p ++ c :: r ∧ (∀ b ∈ p, b ≠ c) ∧ Lib.index l [c] = (p.length : Int)
  | [] => .inl ⟨by simp [Lib.index], by simp⟩
  | b :: l => by
    by_cases hb : b = c
    · subst hb
      exact .inr ⟨[], l, rfl, by simp, by simp [Lib.index, List.isPrefixOf]⟩
    · have hp : ([c] : List UInt8).isPrefixOf (b :: l) = false := by simp [List.isPrefixOf, Ne.symm hb]
      have hix : Lib.index (b :: l) [c] = if Lib.index l [c] == -1 then -1 else Lib.index l [c] + 1 := by rw [Lib.index, hp]; simp
      rcases index_one c l with ⟨h1, h2⟩ | ⟨p, r, h1, h2, h3⟩
      · refine .inl ⟨by rw [hix, h1]; rfl, ?_⟩
        intro x hx
        rcases List.mem_cons.1 hx with rfl | hx
        · exact hb
        · exact h2 x hx
      · refine .inr ⟨b :: p, r, by rw [h1]; rfl, ?_, ?_⟩
        · intro x hx
          rcases List.mem_cons.1 hx with rfl | hx
          · exact hb
          · exact h2 x hx
        · rw [hix, h3, if_neg (by rw [beq_iff_eq]; omega)]
          simp
theorem splitK_parts (c : UInt8) : ∀ (k : Nat) (l : List UInt8), Lib.count l [c] ≤ k → Lib.splitK [c] 0 k l = parts c l
  | 0, l, h => by
    rcases index_one c l with ⟨h1, h2⟩ | ⟨p, r, h1, h2, h3⟩
    · rw [parts_last c l h2]; rfl
    · have := Lib.count_hit (sub := [c]) (by simp) h3
      omega
  | k + 1, l, h => by
    rcases index_one c l with ⟨h1, h2⟩ | ⟨p, r, h1, h2, h3⟩
    · rw [parts_last c l h2]
      unfold Lib.splitK
      rw [h1]
      rfl
    · have hc := Lib.count_hit (sub := [c]) (by simp) h3
      have e : l.drop (p.length + 1) = r := by subst h1; simp
      unfold Lib.splitK
      rw [h3, if_neg (by rw [beq_iff_eq]; omega)]
      rw [Int.toNat_natCast]
      have ih := splitK_parts c k (l.drop (p.length + 1)) (by simp only [List.length_singleton] at hc; omega)
      rw [show ([c] : List UInt8).length = 1 from rfl, ih, e, h1, parts_step c p r h2]
      simp
theorem splitB_parts (c : UInt8) (s : ByteArray) : (Lib.splitB ⟨#[c]⟩ 0 (Lib.countB s ⟨#[c]⟩) s).map (·.data.toList) = parts c s.data.toList := by
  rw [Lib.splitB_data]
  exact splitK_parts c _ _ (Nat.le_refl _)
theorem cut_at (c : UInt8) (p r : List UInt8) (h : ∀ b ∈ p, b ≠ c) : Lib.cut (p ++ c :: r) [c] = (p, r, true) := by
  rcases index_one c (p ++ c :: r) with ⟨h1, h2⟩ | ⟨p', r', h1, h2, h3⟩
  · exact absurd rfl (h2 c (by simp))
  · have e := parts_step c p r h
    rw [h1, parts_step c p' r' h2] at e
    have e1 : p' = p := (List.cons.inj e).1
    subst e1
    unfold Lib.cut
    rw [h3, if_pos (by omega), Int.toNat_natCast]
    simp
theorem cut_not (c : UInt8) (p : List UInt8) (h : ∀ b ∈ p, b ≠ c) : Lib.cut p [c] = (p, [], false) := by
  rcases index_one c p with ⟨h1, h2⟩ | ⟨p', r', h1, h2, h3⟩
  · unfold Lib.cut
    rw [h1, if_neg (by decide)]
  · exact absurd rfl (h c (by rw [h1]; simp))
/-- A byte that is a digit. -/
def isDig (b : UInt8) : Prop := 48 ≤ b.toNat ∧ b.toNat ≤ 57
theorem digit_nat (d : Nat) (h : d < 10) : (UInt8.ofNat (48 + d)).toNat = 48 + d := by
  rw [UInt8.toNat_ofNat']
  omega
theorem dec_digits (u : Nat) : ∀ b ∈ Lib.decDigits u, isDig b := by
  induction u using Nat.strongRecOn with
  | ind u ih =>
    intro b hb
    rw [Lib.decDigits] at hb
    split at hb
    · rename_i h
      rw [List.mem_singleton] at hb
      subst hb
      unfold isDig
      rw [digit_nat u h]
      omega
    · rename_i h
      rcases List.mem_append.1 hb with hb | hb
      · exact ih (u / 10) (by omega) b hb
      · rw [List.mem_singleton] at hb
        subst hb
        unfold isDig
        rw [digit_nat (u % 10) (by omega)]
        omega
theorem dec_ne (u : Nat) : Lib.decDigits u ≠ [] := by
  rw [Lib.decDigits]
  split <;> simp
theorem pu_snoc (c : UInt8) (hc : isDig c) : ∀ (l : List UInt8) (acc v : Nat), Lib.parseUint10 acc l = .ok v → v < 100000000000000000 → Lib.parseUint10 acc (l ++ [c]) = .ok (v * 10 + (c.toNat - 48))
  | [], acc, v, h, hv => by
    simp only [Lib.parseUint10] at h
    injection h with h
    subst h
    unfold isDig at hc
    simp only [List.nil_append, Lib.parseUint10]
    rw [if_pos hc, if_neg (by omega), if_neg (by omega)]
  | b :: l, acc, v, h, hv => by
    simp only [Lib.parseUint10] at h
    rw [List.cons_append]
    simp only [Lib.parseUint10]
    split at h
    · rename_i h1
      rw [if_pos h1]
      split at h
      · cases h
      · rename_i h2
        rw [if_neg h2]
        split at h
        · cases h
        · rename_i h3
          rw [if_neg h3]
          exact pu_snoc c hc l _ v h hv
    · cases h
theorem pu_dec (u : Nat) : u < 1000000000000000000 → Lib.parseUint10 0 (Lib.decDigits u) = .ok u := by
  induction u using Nat.strongRecOn with
  | ind u ih =>
    intro hu
    rw [Lib.decDigits]
    split
    · rename_i h
      have := pu_snoc (UInt8.ofNat (48 + u)) (by unfold isDig; rw [digit_nat u h]; omega) [] 0 0 rfl (by omega)
      rw [digit_nat u h] at this
      simpa using this
    · rename_i h
      have := pu_snoc (UInt8.ofNat (48 + u % 10)) (by unfold isDig; rw [digit_nat (u % 10) (by omega)]; omega) (Lib.decDigits (u / 10)) 0 (u / 10) (ih (u / 10) (by omega) (by omega)) (by omega)
      rw [digit_nat (u % 10) (by omega)] at this
      rw [this]
      congr 1
      omega
theorem atoi_digits (l : List UInt8) (hl : l ≠ []) (hd : ∀ b ∈ l, isDig b) (u : Nat) (hu : u < 9223372036854775808) (h : Lib.parseUint10 0 l = .ok u) : Lib.atoiAll l = .ok (u : Int) := by
  cases l with
  | nil => exact absurd rfl hl
  | cons c r =>
    have hc := hd c (by simp)
    unfold isDig at hc
    unfold Lib.atoiAll Lib.parseMag
    simp only
    rw [if_neg (show ¬ (c.toNat = 43 ∨ c.toNat = 45) by omega), if_neg (by simp), h]
    simp only
    rw [if_neg (show ¬ (¬ c.toNat = 45 ∧ 9223372036854775808 ≤ u) by omega), if_neg (show ¬ (c.toNat = 45 ∧ 9223372036854775808 < u) by omega), if_neg (show ¬ c.toNat = 45 by omega)]
/-- Atoi reads a numeral back. -/
theorem atoi_dec (u : Nat) (hu : u < 1000000000000000000) : Lib.atoiAll (Lib.decDigits u) = .ok (u : Int) :=
  atoi_digits _ (dec_ne u) (dec_digits u) u (by omega) (pu_dec u hu)
/-- .. and a numeral with three digits behind it. -/
theorem atoi_dec3 (u d1 d2 d3 : Nat) (hu : u < 1000000) (h1 : d1 < 10) (h2 : d2 < 10) (h3 : d3 < 10) :
    Lib.atoiAll (Lib.decDigits u ++ [UInt8.ofNat (48 + d1), UInt8.ofNat (48 + d2), UInt8.ofNat (48 + d3)]) = .ok (((u * 1000 + d1 * 100 + d2 * 10 + d3 : Nat) : Int)) := by
  have dg : ∀ d, d < 10 → isDig (UInt8.ofNat (48 + d)) := fun d h => by unfold isDig; rw [digit_nat d h]; omega
  have a0 := pu_dec u (by omega)
  have a1 := pu_snoc _ (dg d1 h1) _ _ _ a0 (by omega)
  rw [digit_nat d1 h1] at a1
  have a2 := pu_snoc _ (dg d2 h2) _ _ _ a1 (by omega)
  rw [digit_nat d2 h2] at a2
  have a3 := pu_snoc _ (dg d3 h3) _ _ _ a2 (by omega)
  rw [digit_nat d3 h3] at a3
  simp only [List.append_assoc, List.cons_append, List.nil_append] at a3
  have e : ((u * 10 + (48 + d1 - 48)) * 10 + (48 + d2 - 48)) * 10 + (48 + d3 - 48) = u * 1000 + d1 * 100 + d2 * 10 + d3 := by omega
  rw [e] at a3
  refine atoi_digits _ (by simp) ?_ _ (by omega) a3
  intro b hb
  rcases List.mem_append.1 hb with hb | hb
  · exact dec_digits u b hb
  · simp only [List.mem_cons, List.not_mem_nil, or_false] at hb
    rcases hb with rfl | rfl | rfl
    · exact dg d1 h1
    · exact dg d2 h2
    · exact dg d3 h3
end Go.Proofs.YtidkiabehmdofaaGreatDoor.PA
