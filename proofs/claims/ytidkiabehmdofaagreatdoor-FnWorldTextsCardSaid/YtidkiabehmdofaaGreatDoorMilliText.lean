/- What MilliText answers: the reference's text of thousandths and the program's are one, for every number. No condition. -/
import Derived.Test.YtidkiabehmdofaaGreatDoorNumText
import Derived.Test.YtidkiabehmdofaaGreatDoorPAx4
import Derived.Test.YtidkiabehmdofaaGreatDoorPAx5
import Derived.Test.YtidkiabehmdofaaGreatDoorPAx6
namespace Go.Proofs.YtidkiabehmdofaaGreatDoor.PA
open Go.RowKit Go.Proofs.YtidkiabehmdofaaGreatDoorW.PrintWords Go.Proofs.YtidkiabehmdofaaGreatDoorW.PrintLast Go.Proofs.YtidkiabehmdofaaGreatDoorW.PrintMore Go.Proofs.YtidkiabehmdofaaGreatDoor.Aid
set_option linter.unusedVariables false

/-- Three digits; those behind the point, without zeros at the end. -/
def dA (d : Nat) : UInt8 := UInt8.ofNat (48 + d / 100)
def dB (d : Nat) : UInt8 := UInt8.ofNat (48 + d / 10 % 10)
def dC (d : Nat) : UInt8 := UInt8.ofNat (48 + d % 10)
def frac (d : Nat) : List UInt8 := if d % 10 ≠ 0 then [dA d, dB d, dC d] else if d / 10 % 10 ≠ 0 then [dA d, dB d] else [dA d]
def milliT (u : Nat) (acc : ByteArray) : ByteArray := if u % 1000 = 0 then acc ++ numText (u / 1000) else acc ++ numText (u / 1000) ++ (⟨#[46]⟩ : ByteArray) ++ ⟨(frac (u % 1000)).toArray⟩
def milliText (v : Int) : ByteArray := if -1000000000 ≤ v ∧ v ≤ 1000000000 then (if v < 0 then milliT v.natAbs ⟨#[45]⟩ else milliT v.toNat ⟨#[]⟩) else ⟨#[]⟩

theorem digit_zero (k : Nat) (hk : k < 10) : (UInt8.ofNat (48 + k) == 48) = decide (k = 0) := by
  have : ∀ k : Fin 10, (UInt8.ofNat (48 + k.1) == 48) = decide (k.1 = 0) := by decide
  exact this ⟨k, hk⟩
theorem frac_trim (d : Nat) (h : 1 ≤ d) (h2 : d < 1000) : Lib.trimRightB [dA d, dB d, dC d] 48 = frac d := by
  unfold Lib.trimRightB frac
  have a := digit_zero (d / 100) (by omega)
  have b := digit_zero (d / 10 % 10) (by omega)
  have c := digit_zero (d % 10) (by omega)
  show (([dC d, dB d, dA d] : List UInt8).dropWhile (· == 48)).reverse = _
  have a' : (dA d == 48) = decide (d / 100 = 0) := a
  have b' : (dB d == 48) = decide (d / 10 % 10 = 0) := b
  have c' : (dC d == 48) = decide (d % 10 = 0) := c
  by_cases hc : d % 10 = 0
  · rw [decide_eq_true hc] at c'
    rw [if_neg (by omega)]
    by_cases hb : d / 10 % 10 = 0
    · rw [decide_eq_true hb] at b'
      rw [decide_eq_false (by omega)] at a'
      rw [if_neg (by omega)]
      simp only [List.dropWhile_cons, c', b', a', if_true, Bool.false_eq_true, if_false]
      rfl
    · rw [decide_eq_false hb] at b'
      rw [if_pos hb]
      simp only [List.dropWhile_cons, c', b', if_true, Bool.false_eq_true, if_false]
      rfl
  · rw [decide_eq_false hc] at c'
    rw [if_pos hc]
    simp only [List.dropWhile_cons, c', Bool.false_eq_true, if_false]
    rfl
theorem frac_len (d : Nat) : (frac d).length ≤ 3 := by
  unfold frac
  by_cases h : d % 10 ≠ 0
  · rw [if_pos h]; simp
  · rw [if_neg h]
    by_cases h2 : d / 10 % 10 ≠ 0
    · rw [if_pos h2]; simp
    · rw [if_neg h2]; simp
theorem byte_at (k : Nat) (hk : k < 10) : (wrap64 (48 + (k : Int))) % 256 = ((48 + k : Nat) : Int) := by
  rw [w64 (by omega) (by omega)]
  omega
theorem str3 (a b c : Nat) : strOfNums [((48 + a : Nat) : Int), ((48 + b : Nat) : Int), ((48 + c : Nat) : Int)] = ⟨#[UInt8.ofNat (48 + a), UInt8.ofNat (48 + b), UInt8.ofNat (48 + c)]⟩ := rfl

theorem specFrac (d : Nat) (h : 1 ≤ d) (h2 : d < 1000) (x : ByteArray) (hx : x.size ≤ 1000) :
    Ev (fun k => spec_MilliText.l0 k x [((48 + d / 100 : Nat) : Int), ((48 + d / 10 % 10 : Nat) : Int), ((48 + d % 10 : Nat) : Int)] 3) (x ++ (⟨#[46]⟩ : ByteArray) ++ ⟨(frac d).toArray⟩) := by
  have l1 : (⟨#[46]⟩ : ByteArray).size = 1 := rfl
  have e3 : wrap64 ((3 : Int) - 1) = 2 := w64 (by omega) (by omega)
  have e2 : wrap64 ((2 : Int) - 1) = 1 := w64 (by omega) (by omega)
  have e1 : wrap64 ((1 : Int) - 1) = 0 := w64 (by omega) (by omega)
  have out : ∀ (m : Nat) (ys : List UInt8), m ≤ 3 → 1 ≤ m → strOfNums (([((48 + d / 100 : Nat) : Int), ((48 + d / 10 % 10 : Nat) : Int), ((48 + d % 10 : Nat) : Int)] : List Int).take m) = ⟨ys.toArray⟩ → ys.length = m →
      rd [((48 + d / 100 : Nat) : Int), ((48 + d / 10 % 10 : Nat) : Int), ((48 + d % 10 : Nat) : Int)] ((m : Int) - 1) ≠ 48 →
      Ev (fun k => spec_MilliText.l0 k x [((48 + d / 100 : Nat) : Int), ((48 + d / 10 % 10 : Nat) : Int), ((48 + d % 10 : Nat) : Int)] (m : Int)) (x ++ (⟨#[46]⟩ : ByteArray) ++ ⟨ys.toArray⟩) := by
    intro m ys hm hm1 he hl hr
    have hw : wrap64 ((m : Int) - 1) = (m : Int) - 1 := w64 (by omega) (by omega)
    refine spec_MilliText.l0.st ?_
    rw [hw]
    refine ev_pos (by omega) (ev_pos (by simp; omega) (ev_neg hr (ev_pos (by omega) (ev_pos (by omega) (ev_pos (by simp; omega) (ev_call rfl ?_))))))
    rw [Int.toNat_natCast, he]
    exact ev_pos (by rw [ByteArray.size_append, l1]; show x.size + 1 + ys.toArray.size ≤ _; rw [List.size_toArray]; omega) ev_now
  by_cases hc : d % 10 = 0
  · have s1 : ∀ r, Ev (fun k => spec_MilliText.l0 k x [((48 + d / 100 : Nat) : Int), ((48 + d / 10 % 10 : Nat) : Int), ((48 + d % 10 : Nat) : Int)] 2) r → Ev (fun k => spec_MilliText.l0 k x [((48 + d / 100 : Nat) : Int), ((48 + d / 10 % 10 : Nat) : Int), ((48 + d % 10 : Nat) : Int)] 3) r := by
      intro r H
      refine spec_MilliText.l0.st ?_
      rw [e3]
      exact ev_pos (by omega) (ev_pos (by simp) (ev_pos (by show ((48 + d % 10 : Nat) : Int) = 48; omega) H))
    by_cases hb : d / 10 % 10 = 0
    · have s2 : ∀ r, Ev (fun k => spec_MilliText.l0 k x [((48 + d / 100 : Nat) : Int), ((48 + d / 10 % 10 : Nat) : Int), ((48 + d % 10 : Nat) : Int)] 1) r → Ev (fun k => spec_MilliText.l0 k x [((48 + d / 100 : Nat) : Int), ((48 + d / 10 % 10 : Nat) : Int), ((48 + d % 10 : Nat) : Int)] 2) r := by
        intro r H
        refine spec_MilliText.l0.st ?_
        rw [e2]
        exact ev_pos (by omega) (ev_pos (by simp) (ev_pos (by show ((48 + d / 10 % 10 : Nat) : Int) = 48; omega) H))
      refine s1 _ (s2 _ ?_)
      have hf : frac d = [dA d] := by unfold frac; rw [if_neg (by omega), if_neg (by omega)]
      rw [hf]
      exact out 1 [dA d] (by omega) (by omega) rfl rfl (by show ((48 + d / 100 : Nat) : Int) ≠ 48; omega)
    · refine s1 _ ?_
      have hf : frac d = [dA d, dB d] := by unfold frac; rw [if_neg (by omega), if_pos hb]
      rw [hf]
      exact out 2 [dA d, dB d] (by omega) (by omega) rfl rfl (by show ((48 + d / 10 % 10 : Nat) : Int) ≠ 48; omega)
  · have hf : frac d = [dA d, dB d, dC d] := by unfold frac; rw [if_pos hc]
    rw [hf]
    exact out 3 [dA d, dB d, dC d] (by omega) (by omega) rfl rfl (by show ((48 + d % 10 : Nat) : Int) ≠ 48; omega)

theorem tdiv_nat (u : Nat) (m : Nat) : Int.tdiv (u : Int) (m : Int) = ((u / m : Nat) : Int) := by
  rw [Int.tdiv_eq_ediv_of_nonneg (by omega)]
  omega
theorem tmod_nat (u : Nat) (m : Nat) : Int.tmod (u : Int) (m : Int) = ((u % m : Nat) : Int) := by
  rw [Int.tmod_eq_emod_of_nonneg (by omega)]
  omega

theorem specMilliT (u : Nat) (hu : u ≤ 1000000000) (acc : ByteArray) (ha : acc.size ≤ 1) : Ev (fun k => spec_MilliText.j0 k (u : Int) acc) (milliT u acc) := by
  have z := numText_size (u / 1000) (by omega)
  have q : wrap64 (Int.tdiv (u : Int) 1000) = ((u / 1000 : Nat) : Int) := by rw [show (1000 : Int) = ((1000 : Nat) : Int) from rfl, tdiv_nat, w64 (by omega) (by omega)]
  have m : Int.tmod (u : Int) 1000 = ((u % 1000 : Nat) : Int) := tmod_nat u 1000
  unfold milliT
  refine spec_MilliText.j0.st ?_
  rw [q]
  refine ev_bind (specNum (u / 1000) (by omega)) (ev_pos (by omega) ?_)
  rw [m]
  by_cases h : u % 1000 = 0
  · rw [if_pos h]
    exact ev_pos (by omega) ev_now
  · rw [if_neg h]
    have f1 : 1 ≤ u % 1000 := by omega
    have f2 : u % 1000 < 1000 := by omega
    have f3 : (acc ++ numText (u / 1000)).size ≤ 1000 := by rw [ByteArray.size_append]; omega
    refine ev_neg (by omega) ?_
    have b1 : (wrap64 (48 + (wrap64 (Int.tdiv ((u % 1000 : Nat) : Int) 100)))) % 256 = ((48 + u % 1000 / 100 : Nat) : Int) := by
      rw [show (100 : Int) = ((100 : Nat) : Int) from rfl, tdiv_nat, w64 (x := ((u % 1000 / 100 : Nat) : Int)) (by omega) (by omega)]
      exact byte_at _ (by omega)
    have b2 : (wrap64 (48 + (wrap64 (Int.tdiv (Int.tmod (u : Int) 100) 10)))) % 256 = ((48 + u % 1000 / 10 % 10 : Nat) : Int) := by
      rw [show (100 : Int) = ((100 : Nat) : Int) from rfl, tmod_nat, show (10 : Int) = ((10 : Nat) : Int) from rfl, tdiv_nat, w64 (x := ((u % 100 / 10 : Nat) : Int)) (by omega) (by omega), show u % 100 / 10 = u % 1000 / 10 % 10 by omega]
      exact byte_at _ (by omega)
    have b3 : (wrap64 (48 + (Int.tmod (u : Int) 10))) % 256 = ((48 + u % 1000 % 10 : Nat) : Int) := by
      rw [show (10 : Int) = ((10 : Nat) : Int) from rfl, tmod_nat, show u % 10 = u % 1000 % 10 by omega]
      exact byte_at _ (by omega)
    rw [b1, b2, b3]
    exact specFrac (u % 1000) f1 f2 (acc ++ numText (u / 1000)) f3

theorem thousand (d : Nat) (hd : d < 1000) : numText (1000 + d) = ⟨#[49, dA d, dB d, dC d]⟩ := by
  have hi : Lib.itoa ((1000 + d : Nat) : Int) = Lib.decDigits (1000 + d) := by unfold Lib.itoa; rw [if_neg (by omega), Int.toNat_natCast]
  unfold numText
  rw [hi, Lib.decDigits, dif_neg (by omega), Lib.decDigits, dif_neg (by omega), Lib.decDigits, dif_neg (by omega), Lib.decDigits, dif_pos (by omega)]
  rw [show (1000 + d) / 10 / 10 / 10 = 1 by omega, show (1000 + d) / 10 / 10 % 10 = d / 100 by omega, show (1000 + d) / 10 % 10 = d / 10 % 10 by omega, show (1000 + d) % 10 = d % 10 by omega]
  rfl

theorem implMilliT (u : Nat) (hu : u ≤ 1000000000) (acc : ByteArray) (ha : acc.size ≤ 1) : Ev (fun k => impl_MilliText.j0 k (u : Int) acc) (milliT u acc) := by
  have z := numText_size (u / 1000) (by omega)
  have q : wrap64 (Int.tdiv (u : Int) 1000) = ((u / 1000 : Nat) : Int) := by rw [show (1000 : Int) = ((1000 : Nat) : Int) from rfl, tdiv_nat, w64 (by omega) (by omega)]
  have m : Int.tmod (u : Int) 1000 = ((u % 1000 : Nat) : Int) := tmod_nat u 1000
  have it : ∀ n : Nat, n < 9223372036854775808 → strconv_Itoa.f (n : Int) = some (numText n) := by
    intro n hn
    unfold strconv_Itoa.f
    rw [if_pos ⟨by omega, by omega⟩]
    rfl
  unfold milliT
  refine impl_MilliText.j0.st ?_
  rw [q]
  refine ev_call (it (u / 1000) (by omega)) (ev_pos (by omega) ?_)
  rw [m]
  by_cases h : u % 1000 = 0
  · rw [if_pos h]
    exact ev_pos (by omega) ev_now
  · rw [if_neg h]
    have w : wrap64 (1000 + ((u % 1000 : Nat) : Int)) = ((1000 + u % 1000 : Nat) : Int) := by rw [w64 (by omega) (by omega)]; omega
    rw [w]
    have l1 : (⟨#[46]⟩ : ByteArray).size = 1 := rfl
    have hs : (acc ++ numText (u / 1000)).size ≤ 20 := by rw [ByteArray.size_append]; omega
    refine ev_neg (by omega) (ev_pos (by omega) (ev_call (it (1000 + u % 1000) (by omega)) ?_))
    rw [thousand (u % 1000) (by omega)]
    have ex : (⟨#[49, dA (u % 1000), dB (u % 1000), dC (u % 1000)]⟩ : ByteArray).extract 1 (⟨#[49, dA (u % 1000), dB (u % 1000), dC (u % 1000)]⟩ : ByteArray).size = ⟨#[dA (u % 1000), dB (u % 1000), dC (u % 1000)]⟩ := by
      apply ByteArray.ext
      rw [ByteArray.data_extract]
      rfl
    refine ev_pos (by show (1 : Int) ≤ ((4 : Nat) : Int); omega) (ev_call (b := ⟨(frac (u % 1000)).toArray⟩) ?_ ?_)
    · rw [ex]
      unfold strings_TrimRight.f
      rw [if_pos ⟨rfl, by show 3 ≤ _; omega⟩, ← frac_trim (u % 1000) (by omega) (by omega)]
    · have hl := frac_len (u % 1000)
      exact ev_pos (by rw [ByteArray.size_append, l1]; show (acc ++ numText (u / 1000)).size + 1 + (frac (u % 1000)).toArray.size ≤ _; rw [List.size_toArray]; omega) ev_now

theorem milliT_size (u : Nat) (hu : u ≤ 1000000000) (acc : ByteArray) (ha : acc.size ≤ 1) : (milliT u acc).size ≤ 24 := by
  have z := numText_size (u / 1000) (by omega)
  unfold milliT
  by_cases h : u % 1000 = 0
  · rw [if_pos h, ByteArray.size_append]
    omega
  · rw [if_neg h, ByteArray.size_append, ByteArray.size_append, ByteArray.size_append]
    have hl := frac_len (u % 1000)
    have l1 : (⟨#[46]⟩ : ByteArray).size = 1 := rfl
    have l2 : (⟨(frac (u % 1000)).toArray⟩ : ByteArray).size = (frac (u % 1000)).length := List.size_toArray
    omega
theorem milliText_size (v : Int) : (milliText v).size ≤ 24 := by
  unfold milliText
  by_cases h : -1000000000 ≤ v ∧ v ≤ 1000000000
  · rw [if_pos h]
    by_cases h0 : v < 0
    · rw [if_pos h0]
      exact milliT_size _ (by omega) _ (Nat.le_refl 1)
    · rw [if_neg h0]
      exact milliT_size _ (by omega) _ (Nat.zero_le 1)
  · rw [if_neg h]
    exact Nat.zero_le 24

theorem inRange (a b c : Int) : spec_l01In.f a b c = some (decide (b ≤ a ∧ a ≤ c)) := by
  unfold spec_l01In.f
  by_cases h : b ≤ a <;> simp [h]
theorem inRangeI (a b c : Int) : impl_in.f a b c = some (decide (b ≤ a ∧ a ≤ c)) := by
  unfold impl_in.f
  by_cases h : b ≤ a <;> simp [h]

theorem specMilli (v : Int) : Ev (fun k => spec_MilliText.f k v) (milliText v) := by
  unfold spec_MilliText.f milliText
  refine ev_call (b := decide (-1000000000 ≤ v ∧ v ≤ 1000000000)) (by unfold spec_l01Value.f; rw [inRange]; rfl) ?_
  by_cases h : -1000000000 ≤ v ∧ v ≤ 1000000000
  · rw [decide_eq_true h, if_pos h]
    refine ev_pos rfl ?_
    by_cases h0 : v < 0
    · rw [if_pos h0]
      refine ev_pos h0 ?_
      have e : wrap64 (-v) = (v.natAbs : Int) := by rw [w64 (by omega) (by omega)]; omega
      rw [e]
      exact specMilliT v.natAbs (by omega) _ (Nat.le_refl 1)
    · rw [if_neg h0]
      refine ev_neg h0 ?_
      have := specMilliT v.toNat (by omega) ⟨#[]⟩ (Nat.zero_le 1)
      rw [Int.toNat_of_nonneg (by omega)] at this
      exact this
  · rw [decide_eq_false h, if_neg h]
    exact ev_neg (by simp) ev_now
theorem implMilli (v : Int) : Ev (fun k => impl_MilliText.f k v) (milliText v) := by
  unfold impl_MilliText.f milliText
  refine ev_call (b := decide (-1000000000 ≤ v ∧ v ≤ 1000000000)) (by unfold impl_isValue.f; rw [inRangeI]; rfl) ?_
  by_cases h : -1000000000 ≤ v ∧ v ≤ 1000000000
  · rw [decide_eq_true h, if_pos h]
    refine ev_pos rfl ?_
    by_cases h0 : v < 0
    · rw [if_pos h0]
      refine ev_pos h0 ?_
      have e : wrap64 (-v) = (v.natAbs : Int) := by rw [w64 (by omega) (by omega)]; omega
      rw [e]
      exact implMilliT v.natAbs (by omega) _ (Nat.le_refl 1)
    · rw [if_neg h0]
      refine ev_neg h0 ?_
      have := implMilliT v.toNat (by omega) ⟨#[]⟩ (Nat.zero_le 1)
      rw [Int.toNat_of_nonneg (by omega)] at this
      exact this
  · rw [decide_eq_false h, if_neg h]
    exact ev_neg (by simp) ev_now
end Go.Proofs.YtidkiabehmdofaaGreatDoor.PA
