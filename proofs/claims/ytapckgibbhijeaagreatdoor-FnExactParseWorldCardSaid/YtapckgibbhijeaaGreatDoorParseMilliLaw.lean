/- What ParseMilli answers, the reference's and the program's: where it says yes the text is the text of the number; and the text of a number from 0 to 100000 is read back. No condition but the size of the text. -/
import Derived.Test.YtapckgibbhijeaaGreatDoorMilliText
import Derived.Test.YtapckgibbhijeaaGreatDoorPartsText
import Derived.Test.YtapckgibbhijeaaGreatDoorPAx1
import Derived.Test.YtapckgibbhijeaaGreatDoorPAx3
import Derived.Test.YtapckgibbhijeaaGreatDoorPAx4
namespace Go.Proofs.YtapckgibbhijeaaGreatDoor.PA
open Go.RowKit Go.Proofs.YtapckgibbhijeaaGreatDoorW.PrintWords Go.Proofs.YtapckgibbhijeaaGreatDoorW.PrintLast Go.Proofs.YtapckgibbhijeaaGreatDoorW.PrintMore Go.Proofs.YtapckgibbhijeaaGreatDoor.Aid
set_option linter.unusedVariables false

/-! ### The program -/
theorem isVal (n : Int) : impl_isValue.f n = some (decide (-1000000000 ≤ n ∧ n ≤ 1000000000)) := by
  unfold impl_isValue.f
  rw [inRangeI]
  rfl
theorem implT (a0 : ByteArray) (n : Int) : ∃ r, Ev (fun k => impl_ParseMilli.t k a0 n) r ∧ (r.2 = true → milliText r.1 = a0) := by
  unfold impl_ParseMilli.t
  by_cases h : -1000000000 ≤ n ∧ n ≤ 1000000000
  · by_cases he : (milliText n).toList = a0.toList
    · exact ⟨(n, true), ev_call (isVal n) (ev_pos (by simpa using h) (ev_bind (implMilli n) (ev_pos he ev_now))), fun _ => toList_inj.1 he⟩
    · exact ⟨(0, false), ev_call (isVal n) (ev_pos (by simpa using h) (ev_bind (implMilli n) (ev_neg he ev_now))), fun h => by cases h⟩
  · exact ⟨(0, false), ev_call (isVal n) (ev_neg (by simpa using h) ev_now), fun h => by cases h⟩
theorem implTeq (n : Int) (h : -1000000000 ≤ n ∧ n ≤ 1000000000) : Ev (fun k => impl_ParseMilli.t k (milliText n) n) (n, true) := by
  unfold impl_ParseMilli.t
  exact ev_call (isVal n) (ev_pos (by simpa using h) (ev_bind (implMilli n) (ev_pos rfl ev_now)))
theorem implParse (a0 : ByteArray) (hs : a0.size ≤ 4294967280) : ∃ r, Ev (fun k => impl_ParseMilli.f k a0) r ∧ (r.2 = true → milliText r.1 = a0) := by
  unfold impl_ParseMilli.f
  simp only [if_pos hs]
  by_cases hl : 7 < (milliWhole a0).length ∨ 3 < (milliPart a0).length
  · exact ⟨(0, false), ev_pos hl ev_now, fun h => by cases h⟩
  · simp only [if_neg hl]
    cases hA : Lib.atoiAll (milliDigits a0) with
    | range => exact ⟨(0, false), ev_now, fun h => by cases h⟩
    | ok v =>
      by_cases hq : milliPlain a0 = a0.data.toList
      · simp only [if_pos hq]
        exact implT a0 v
      · simp only [if_neg hq]
        exact implT a0 _

    | _ => exact ⟨(0, false), ev_now, fun h => by cases h⟩
/-! ### The text of a load, byte by byte -/
theorem numBytes (u : Nat) : (numText u).data.toList = Lib.decDigits u := by
  unfold numText Lib.itoa
  rw [if_neg (by omega), Int.toNat_natCast]
theorem milliBytes (v : Nat) (hv : v ≤ 100000) : (milliText (v : Int)).data.toList = Lib.decDigits (v / 1000) ++ (if v % 1000 = 0 then [] else 46 :: frac (v % 1000)) := by
  unfold milliText milliT
  rw [if_pos (by omega), if_neg (by omega), Int.toNat_natCast]
  have e0 : ∀ x : ByteArray, (⟨#[]⟩ : ByteArray) ++ x = x := fun x => by
    apply ByteArray.ext
    rw [ByteArray.data_append]
    simp
  split
  · rw [e0, numBytes, List.append_nil]
  · rw [e0, ByteArray.data_append, ByteArray.data_append, Array.toList_append, Array.toList_append, numBytes, List.append_assoc]
    rfl
theorem dec_len3 (u : Nat) (hu : u < 1000) : (Lib.decDigits u).length ≤ 3 := by
  by_cases h : u = 0
  · subst h
    rw [Lib.decDigits_one (by omega)]
    simp
  · have := digs_len u 3 (by omega)
    unfold digs at this
    rw [if_neg h] at this
    exact this
theorem frac_digits (d : Nat) (hd : d < 1000) : ∀ b ∈ frac d, isDig b := by
  have dg : ∀ k, k < 10 → isDig (UInt8.ofNat (48 + k)) := fun k h => by unfold isDig; rw [digit_nat k h]; omega
  intro b hb
  unfold frac dA dB dC at hb
  split at hb
  · simp only [List.mem_cons, List.not_mem_nil, or_false] at hb
    rcases hb with rfl | rfl | rfl
    · exact dg _ (by omega)
    · exact dg _ (by omega)
    · exact dg _ (by omega)
  · split at hb
    · simp only [List.mem_cons, List.not_mem_nil, or_false] at hb
      rcases hb with rfl | rfl
      · exact dg _ (by omega)
      · exact dg _ (by omega)
    · simp only [List.mem_cons, List.not_mem_nil, or_false] at hb
      subst hb
      exact dg _ (by omega)
theorem frac_pad (d : Nat) (hd : d < 1000) : (frac d ++ [48, 48, 48]).take 3 = [dA d, dB d, dC d] := by
  unfold frac
  split
  · rfl
  · rename_i h1
    have e3 : dC d = 48 := by unfold dC; rw [show d % 10 = 0 by omega]; rfl
    split
    · show [dA d, dB d, 48] = _
      rw [e3]
    · rename_i h2
      have e2 : dB d = 48 := by unfold dB; rw [show d / 10 % 10 = 0 by omega]; rfl
      show [dA d, 48, 48] = _
      rw [e3, e2]
theorem dig_ne {b c : UInt8} (h : isDig b) (hc : c.toNat < 48) : b ≠ c := fun e => by
  unfold isDig at h
  rw [e] at h
  omega
/-- What the program reads of a load's text. -/
theorem milliSeen (v : Nat) (hv : v ≤ 100000) : milliPlain (milliText (v : Int)) = (milliText (v : Int)).data.toList ∧ milliWhole (milliText (v : Int)) = Lib.decDigits (v / 1000) ∧ milliPart (milliText (v : Int)) = (if v % 1000 = 0 then [] else frac (v % 1000)) := by
  have hb := milliBytes v hv
  have hp : milliPlain (milliText (v : Int)) = (milliText (v : Int)).data.toList := by
    unfold milliPlain Lib.trimPrefix
    rw [if_neg]
    rw [hb]
    cases hd : Lib.decDigits (v / 1000) with
    | nil => exact absurd hd (dec_ne _)
    | cons c r =>
      have hc : isDig c := dec_digits (v / 1000) c (by rw [hd]; simp)
      have := dig_ne (c := 45) hc (by decide)
      simp [Lib.hasPrefix, Ne.symm this]
  refine ⟨hp, ?_⟩
  unfold milliWhole milliPart
  rw [hp, hb]
  have hn : ∀ b ∈ Lib.decDigits (v / 1000), b ≠ 46 := fun b h => dig_ne (dec_digits _ b h) (by decide)
  split
  · rw [List.append_nil, cut_not 46 _ hn]
    exact ⟨rfl, rfl⟩
  · rw [cut_at 46 _ _ hn]
    exact ⟨rfl, rfl⟩
theorem milliSum (v : Nat) : v / 1000 * 1000 + v % 1000 / 100 * 100 + v % 1000 / 10 % 10 * 10 + v % 1000 % 10 = v := by omega
theorem milliRead (v : Nat) (hv : v ≤ 100000) : Lib.atoiAll (milliDigits (milliText (v : Int))) = .ok (v : Int) := by
  obtain ⟨_, h2, h3⟩ := milliSeen v hv
  unfold milliDigits
  rw [h2, h3]
  have hpad : ((if v % 1000 = 0 then [] else frac (v % 1000)) ++ [48, 48, 48] : List UInt8).take 3 = [dA (v % 1000), dB (v % 1000), dC (v % 1000)] := by
    split
    · rename_i h
      rw [h]
      rfl
    · exact frac_pad _ (by omega)
  rw [hpad]
  have := atoi_dec3 (v / 1000) (v % 1000 / 100) (v % 1000 / 10 % 10) (v % 1000 % 10) (by omega) (by omega) (by omega) (by omega)
  rw [milliSum] at this
  exact this
theorem implParseBack (v : Nat) (hv : v ≤ 100000) : Ev (fun k => impl_ParseMilli.f k (milliText (v : Int))) ((v : Int), true) := by
  obtain ⟨h1, h2, h3⟩ := milliSeen v hv
  have hz := milliText_size (v : Int)
  have l2 := dec_len3 (v / 1000) (by omega)
  have l3 := frac_len (v % 1000)
  unfold impl_ParseMilli.f
  refine ev_pos (by omega) (ev_neg ?_ ?_)
  · rw [h2, h3]
    split
    · simp; omega
    · omega
  · simp only [milliRead v hv, if_pos h1]
    exact implTeq (v : Int) (by omega)

/-! ### The reference -/
theorem bt_list (s : ByteArray) (i : Nat) (b : UInt8) (h : s.data.toList[i]? = some b) : bt s (i : Int) = (b.toNat : Int) ∧ i < s.size := by
  obtain ⟨h1, h2⟩ := List.getElem?_eq_some_iff.1 h
  have h3 : i < s.size := by
    have : s.data.toList.length = s.size := by rw [Array.length_toList]; rfl
    omega
  refine ⟨?_, h3⟩
  rw [← bt_at s (i : Int) (by rw [Int.toNat_natCast]; exact h3)]
  simp only [Int.toNat_natCast]
  rw [← h2]
  rfl
/-- The last comparison. -/
theorem specEnd (a0 : ByteArray) (x : Int) (b : Bool) (h0 : 0 ≤ x) (h1 : x < 100000000000000000) : ∃ r, Ev (fun k => spec_ParseMilli.j5 k a0 x b) r ∧ (r.2 = true → milliText r.1 = a0) := by
  have key : ∀ y : Int, ∃ r : Int × Bool, Ev (fun k => (spec_MilliText.f k y).bind fun t => if t.toList = a0.toList then (if a0.toList = ([] : List UInt8) then some (0, false) else some (y, true)) else some (0, false)) r ∧ (r.2 = true → milliText r.1 = a0) := by
    intro y
    by_cases he : (milliText y).toList = a0.toList
    · by_cases hn : a0.toList = ([] : List UInt8)
      · exact ⟨(0, false), ev_bind (specMilli y) (ev_pos he (ev_pos hn ev_now)), fun h => by cases h⟩
      · exact ⟨(y, true), ev_bind (specMilli y) (ev_pos he (ev_neg hn ev_now)), fun _ => toList_inj.1 he⟩
    · exact ⟨(0, false), ev_bind (specMilli y) (ev_neg he ev_now), fun h => by cases h⟩
  cases b with
  | true =>
    obtain ⟨r, h2, h3⟩ := key (wrap64 (-x))
    exact ⟨r, spec_ParseMilli.j5.st (ev_pos rfl h2), h3⟩
  | false =>
    obtain ⟨r, h2, h3⟩ := key x
    exact ⟨r, spec_ParseMilli.j5.st (ev_neg (by simp) h2), h3⟩
theorem specFirst (a0 : ByteArray) (x : Int) (h0 : 0 ≤ x) (h1 : x < 100000000000000000) : ∃ r, Ev (fun k => if (a0.size : Int) > 0 then (if 0 < (a0.size : Int) then (spec_ParseMilli.j5 k a0 x ((bt a0 0) == 45)) else none) else (spec_ParseMilli.j5 k a0 x false)) r ∧ (r.2 = true → milliText r.1 = a0) := by
  by_cases h : (a0.size : Int) > 0
  · obtain ⟨r, h2, h3⟩ := specEnd a0 x ((bt a0 0) == 45) h0 h1
    exact ⟨r, ev_pos h (ev_pos h h2), h3⟩
  · obtain ⟨r, h2, h3⟩ := specEnd a0 x false h0 h1
    exact ⟨r, ev_neg h h2, h3⟩
theorem specPad (a0 : ByteArray) : ∀ (d : Nat) (x : Int) (b : Int), 0 ≤ b → b + d = 3 → 0 ≤ x → x * 10 ^ d < 100000000000000000 → ∃ r, Ev (fun k => spec_ParseMilli.l1 k a0 x b) r ∧ (r.2 = true → milliText r.1 = a0) := by
  intro d
  induction d with
  | zero =>
    intro x b hb hd h0 h1
    obtain ⟨r, h2, h3⟩ := specFirst a0 x h0 (by simpa using h1)
    exact ⟨r, spec_ParseMilli.l1.st (ev_neg (by omega) h2), h3⟩
  | succ d ih =>
    intro x b hb hd h0 h1
    have hp : (1 : Int) ≤ 10 ^ d := Int.pow_pos (by decide)
    have hx : x * 10 * 10 ^ d < 100000000000000000 := by rw [Int.mul_assoc, Int.mul_comm 10, ← Int.pow_succ]; exact h1
    have hx2 : x * 10 ≤ x * 10 * 10 ^ d := by
      have := Int.mul_le_mul_of_nonneg_left hp (show 0 ≤ x * 10 by omega)
      omega
    obtain ⟨r, h2, h3⟩ := ih (x * 10) (b + 1) (by omega) (by omega) (by omega) hx
    refine ⟨r, spec_ParseMilli.l1.st (ev_pos (by omega) ?_), h3⟩
    rw [w64 (by omega) (by omega), w64 (by omega) (by omega), Int.mul_comm]
    exact h2
theorem specBehind (a0 : ByteArray) (x b : Int) (h0 : 0 ≤ x) (h1 : x < 100000000000000) (hb : 0 ≤ b) : ∃ r, Ev (fun k => spec_ParseMilli.j3 k a0 x b) r ∧ (r.2 = true → milliText r.1 = a0) := by
  by_cases h : b > 3
  · exact ⟨(0, false), spec_ParseMilli.j3.st (ev_pos h ev_now), fun h => by cases h⟩
  · have hd : (3 - b).toNat ≤ 3 := by omega
    obtain ⟨r, h2, h3⟩ := specPad a0 (3 - b).toNat x b hb (by omega) h0 (by
      have : (10 : Int) ^ (3 - b).toNat ≤ 1000 := by
        rcases (show (3 - b).toNat = 0 ∨ (3 - b).toNat = 1 ∨ (3 - b).toNat = 2 ∨ (3 - b).toNat = 3 by omega) with e | e | e | e <;> rw [e] <;> decide
      have h4 := Int.mul_le_mul_of_nonneg_left this h0
      omega)
    exact ⟨r, spec_ParseMilli.j3.st (ev_neg h h2), h3⟩
theorem specScan (a0 : ByteArray) (hs : a0.size ≤ 13) : ∀ (d i : Nat), i + d = a0.size → ∀ (x dot : Int), 0 ≤ x → x < 10 ^ i → -1 ≤ dot → dot < i → ∃ r, Ev (fun k => spec_ParseMilli.l0 k a0 x dot (i : Int)) r ∧ (r.2 = true → milliText r.1 = a0) := by
  have hpow : ∀ i : Nat, i ≤ 13 → (10 : Int) ^ i ≤ 10000000000000 := by
    intro i hi
    have h2 : ((10 ^ i : Nat) : Int) ≤ ((10 ^ 13 : Nat) : Int) := Int.ofNat_le.2 (Nat.pow_le_pow_right (n := 10) (by decide) hi)
    rw [Int.natCast_pow] at h2
    exact h2
  intro d
  induction d with
  | zero =>
    intro i hi x dot h0 h1 h2 h3
    have hp := hpow i (by omega)
    by_cases hd : dot ≥ 0
    · obtain ⟨r, h4, h5⟩ := specBehind a0 x ((a0.size : Int) - dot - 1) h0 (by omega) (by omega)
      refine ⟨r, spec_ParseMilli.l0.st (ev_neg (by omega) (ev_pos hd ?_)), h5⟩
      rw [show wrap64 ((a0.size : Int) - dot) = (a0.size : Int) - dot from w64 (by omega) (by omega), w64 (by omega) (by omega)]
      exact h4
    · obtain ⟨r, h4, h5⟩ := specBehind a0 x 0 h0 (by omega) (by omega)
      exact ⟨r, spec_ParseMilli.l0.st (ev_neg (by omega) (ev_neg hd h4)), h5⟩
  | succ d ih =>
    intro i hi x dot h0 h1 h2 h3
    have hp := hpow i (by omega)
    have hr := bt_range a0 (i : Int)
    have hpz : (10 : Int) ^ (i + 1) = 10 ^ i * 10 := Int.pow_succ _ _
    have hi1 : wrap64 ((i : Int) + 1) = ((i + 1 : Nat) : Int) := by rw [w64 (by omega) (by omega)]; omega
    have skip : ∀ (x dot : Int), 0 ≤ x → x < 10 ^ (i + 1) → -1 ≤ dot → dot < ((i + 1 : Nat) : Int) → ∃ r, Ev (fun k => spec_ParseMilli.l0 k a0 x dot (wrap64 ((i : Int) + 1))) r ∧ (r.2 = true → milliText r.1 = a0) := by
      intro x dot a b c e
      rw [hi1]
      exact ih (i + 1) (by omega) x dot a b c e
    have two : ∀ b : Bool, ∃ r, Ev (fun k => spec_ParseMilli.j2 k a0 x dot (i : Int) b) r ∧ (r.2 = true → milliText r.1 = a0) := by
      intro b
      cases b with
      | true =>
        obtain ⟨r, h4, h5⟩ := skip x (i : Int) h0 (by omega) (by omega) (by omega)
        exact ⟨r, spec_ParseMilli.j2.st (ev_pos rfl h4), h5⟩
      | false =>
        by_cases ha : bt a0 (i : Int) ≥ 48
        · by_cases hb : bt a0 (i : Int) ≤ 57
          · have e1 : wrap64 (10 * x) = 10 * x := w64 (by omega) (by omega)
            have e2 : wrap64 (bt a0 (i : Int)) = bt a0 (i : Int) := w64 (by omega) (by omega)
            have e3 : wrap64 (10 * x + bt a0 (i : Int)) = 10 * x + bt a0 (i : Int) := w64 (by omega) (by omega)
            have e4 : wrap64 (10 * x + bt a0 (i : Int) - 48) = 10 * x + bt a0 (i : Int) - 48 := w64 (by omega) (by omega)
            obtain ⟨r, h4, h5⟩ := skip (10 * x + bt a0 (i : Int) - 48) dot (by omega) (by omega) h2 (by omega)
            refine ⟨r, spec_ParseMilli.j2.st (ev_neg (by simp) (ev_pos (by omega) (ev_pos (by omega) (ev_pos ha (ev_pos hb ?_))))), h5⟩
            rw [e1, e2, e3, e4]
            exact h4
          · exact ⟨(0, false), spec_ParseMilli.j2.st (ev_neg (by simp) (ev_pos (by omega) (ev_pos (by omega) (ev_pos ha (ev_neg hb ev_now))))), fun h => by cases h⟩
        · exact ⟨(0, false), spec_ParseMilli.j2.st (ev_neg (by simp) (ev_pos (by omega) (ev_pos (by omega) (ev_neg ha ev_now)))), fun h => by cases h⟩
    have one : ∀ b : Bool, ∃ r, Ev (fun k => spec_ParseMilli.j1 k a0 x dot (i : Int) b) r ∧ (r.2 = true → milliText r.1 = a0) := by
      intro b
      cases b with
      | true =>
        obtain ⟨r, h4, h5⟩ := skip x dot h0 (by omega) h2 (by omega)
        exact ⟨r, spec_ParseMilli.j1.st (ev_pos rfl h4), h5⟩
      | false =>
        by_cases hd : bt a0 (i : Int) = 46
        · obtain ⟨r, h4, h5⟩ := two (decide (dot < 0))
          exact ⟨r, spec_ParseMilli.j1.st (ev_neg (by simp) (ev_pos (by omega) (ev_pos (by omega) (ev_pos hd h4)))), h5⟩
        · obtain ⟨r, h4, h5⟩ := two false
          exact ⟨r, spec_ParseMilli.j1.st (ev_neg (by simp) (ev_pos (by omega) (ev_pos (by omega) (ev_neg hd h4)))), h5⟩
    by_cases hm : bt a0 (i : Int) = 45
    · obtain ⟨r, h4, h5⟩ := one ((i : Int) == 0)
      exact ⟨r, spec_ParseMilli.l0.st (ev_pos (by omega) (ev_pos (by omega) (ev_pos hm h4))), h5⟩
    · obtain ⟨r, h4, h5⟩ := one false
      exact ⟨r, spec_ParseMilli.l0.st (ev_pos (by omega) (ev_pos (by omega) (ev_neg hm h4))), h5⟩
theorem specParse (a0 : ByteArray) : ∃ r, Ev (fun k => spec_ParseMilli.f k a0) r ∧ (r.2 = true → milliText r.1 = a0) := by
  unfold spec_ParseMilli.f
  by_cases h : (a0.size : Int) > 13
  · exact ⟨(0, false), ev_pos h ev_now, fun h => by cases h⟩
  · obtain ⟨r, h1, h2⟩ := specScan a0 (by omega) a0.size 0 (by omega) 0 (-1) (by omega) (by decide) (by omega) (by omega)
    exact ⟨r, ev_neg h h1, h2⟩
/-- A number from its digits. -/
def val (x : Nat) (l : List UInt8) : Nat := l.foldl (fun y b => 10 * y + (b.toNat - 48)) x
theorem val_dec (u : Nat) : val 0 (Lib.decDigits u) = u := by
  induction u using Nat.strongRecOn with
  | ind u ih =>
    rw [Lib.decDigits]
    split
    · rename_i h
      show 10 * 0 + ((UInt8.ofNat (48 + u)).toNat - 48) = u
      rw [digit_nat u h]
      omega
    · have := ih (u / 10) (by omega)
      unfold val at this ⊢
      rw [List.foldl_append, this]
      show 10 * (u / 10) + ((UInt8.ofNat (48 + u % 10)).toNat - 48) = u
      rw [digit_nat (u % 10) (by omega)]
      omega
theorem val_lt (x : Nat) (b : UInt8) (hb : isDig b) (n : Nat) (h : x < 10 ^ n) : 10 * x + (b.toNat - 48) < 10 ^ (n + 1) := by
  unfold isDig at hb
  have := Nat.pow_succ 10 n
  simp only [Nat.succ_eq_add_one] at this
  omega
theorem pow13 (i : Nat) (hi : i ≤ 13) : 10 ^ i ≤ 10000000000000 := Nat.pow_le_pow_right (n := 10) (by decide) hi
section
variable (a0 : ByteArray) (hs : a0.size ≤ 13)
include hs
theorem specDigits (dot : Int) (r : Int × Bool) (post : List UInt8) : ∀ (ds pre : List UInt8) (x : Nat), a0.data.toList = pre ++ (ds ++ post) → (∀ b ∈ ds, isDig b) → x < 10 ^ pre.length →
    Ev (fun k => spec_ParseMilli.l0 k a0 ((val x ds : Nat) : Int) dot ((pre.length + ds.length : Nat) : Int)) r → Ev (fun k => spec_ParseMilli.l0 k a0 (x : Int) dot ((pre.length : Nat) : Int)) r
  | [], pre, x, _, _, _, H => H
  | b :: ds, pre, x, he, hd, hx, H => by
    have hb : isDig b := hd b (by simp)
    obtain ⟨e1, e2⟩ := bt_list a0 pre.length b (by rw [he]; simp)
    have hp := pow13 pre.length (by omega)
    have hb' := hb
    unfold isDig at hb'
    have ih := specDigits dot r post ds (pre ++ [b]) (10 * x + (b.toNat - 48)) (by rw [he]; simp) (fun c hc => hd c (by simp [hc])) (by
      rw [List.length_append]
      exact val_lt x b hb pre.length hx) (by
      rw [List.length_append, show pre.length + [b].length + ds.length = pre.length + (b :: ds).length by simp; omega]
      exact H)
    rw [List.length_append] at ih
    have hx2 : x < 10000000000000 := Nat.lt_of_lt_of_le hx hp
    clear hp hx
    have g0 : (0 : Int) ≤ ((pre.length : Nat) : Int) := Int.natCast_nonneg _
    have g1 : ((pre.length : Nat) : Int) < (a0.size : Int) := by omega
    have g2 : ¬ bt a0 ((pre.length : Nat) : Int) = 45 := by omega
    have g3 : ¬ bt a0 ((pre.length : Nat) : Int) = 46 := by omega
    have g4 : bt a0 ((pre.length : Nat) : Int) ≥ 48 := by omega
    have g5 : bt a0 ((pre.length : Nat) : Int) ≤ 57 := by omega
    refine spec_ParseMilli.l0.st (ev_pos g1 (ev_pos g0 (ev_neg g2 ?_)))
    refine spec_ParseMilli.j1.st (ev_neg (by simp) (ev_pos g0 (ev_pos g1 (ev_neg g3 ?_))))
    refine spec_ParseMilli.j2.st (ev_neg (by simp) (ev_pos g0 (ev_pos g1 (ev_pos g4 (ev_pos g5 ?_)))))
    have f1 : wrap64 (10 * (x : Int)) = 10 * (x : Int) := w64 (by omega) (by omega)
    have f2 : wrap64 (b.toNat : Int) = (b.toNat : Int) := w64 (by omega) (by omega)
    have f3 : wrap64 (10 * (x : Int) + (b.toNat : Int)) = 10 * (x : Int) + (b.toNat : Int) := w64 (by omega) (by omega)
    have f4 : wrap64 (10 * (x : Int) + (b.toNat : Int) - 48) = ((10 * x + (b.toNat - 48) : Nat) : Int) := by rw [w64 (by omega) (by omega)]; omega
    have f5 : wrap64 ((pre.length : Int) + 1) = ((pre.length + [b].length : Nat) : Int) := by rw [w64 (by omega) (by omega)]; simp
    rw [e1, f1, f2, f3, f4, f5]
    exact ih
theorem specDot (pre post : List UInt8) (he : a0.data.toList = pre ++ 46 :: post) (x : Int) (r : Int × Bool)
    (H : Ev (fun k => spec_ParseMilli.l0 k a0 x ((pre.length : Nat) : Int) ((pre.length + 1 : Nat) : Int)) r) : Ev (fun k => spec_ParseMilli.l0 k a0 x (-1) ((pre.length : Nat) : Int)) r := by
  obtain ⟨e1, e2⟩ := bt_list a0 pre.length 46 (by rw [he]; simp)
  have e3 : bt a0 ((pre.length : Nat) : Int) = 46 := e1
  refine spec_ParseMilli.l0.st (ev_pos (by omega) (ev_pos (by omega) (ev_neg (by omega) ?_)))
  refine spec_ParseMilli.j1.st (ev_neg (by simp) (ev_pos (by omega) (ev_pos (by omega) (ev_pos (by omega) ?_))))
  refine spec_ParseMilli.j2.st (ev_pos (by simp) ?_)
  rw [show wrap64 (((pre.length : Nat) : Int) + 1) = ((pre.length + 1 : Nat) : Int) from w64 (by omega) (by omega)]
  exact H
end
theorem padBack (v : Nat) (hv : v ≤ 100000) (hn : (milliText (v : Int)).size > 0) (hm : bt (milliText (v : Int)) 0 ≠ 45) : ∀ (d x b : Nat), b + d = 3 → x * 10 ^ d = v → Ev (fun k => spec_ParseMilli.l1 k (milliText (v : Int)) (x : Int) (b : Int)) ((v : Int), true) := by
  intro d
  induction d with
  | zero =>
    intro x b hb hx
    have e : x = v := by simpa using hx
    subst e
    refine spec_ParseMilli.l1.st (ev_neg (by omega) (ev_pos (by omega) (ev_pos (by omega) ?_)))
    rw [show (bt (milliText (x : Int)) 0 == 45) = false from beq_false_of_ne hm]
    refine spec_ParseMilli.j5.st (ev_neg (by simp) (ev_bind (specMilli (x : Int)) (ev_pos rfl (ev_neg ?_ ev_now))))
    intro h
    rw [ByteArray.toList_eq] at h
    have e : (milliText (x : Int)).data.toList.length = (milliText (x : Int)).size := by rw [Array.length_toList]; rfl
    rw [h] at e
    have e2 : (0 : Nat) = (milliText (x : Int)).size := e
    omega
  | succ d ih =>
    intro x b hb hx
    have hle : x * 10 ^ 1 ≤ v := by
      rw [← hx]
      exact Nat.mul_le_mul_left x (Nat.pow_le_pow_right (by decide) (by omega))
    have H := ih (10 * x) (b + 1) (by omega) (by rw [← hx, Nat.pow_succ]; rw [Nat.mul_comm 10 x, Nat.mul_assoc, Nat.mul_comm 10])
    refine spec_ParseMilli.l1.st (ev_pos (by omega) ?_)
    rw [w64 (by omega) (by omega), w64 (by omega) (by omega)]
    exact H
theorem specParseBack (v : Nat) (hv : v ≤ 100000) : Ev (fun k => spec_ParseMilli.f k (milliText (v : Int))) ((v : Int), true) := by
  have hb := milliBytes v hv
  have hz : (milliText (v : Int)).data.toList.length = (milliText (v : Int)).size := by rw [Array.length_toList]; rfl
  have l2 := dec_len3 (v / 1000) (by omega)
  have l3 := frac_len (v % 1000)
  have l4 : 0 < (Lib.decDigits (v / 1000)).length := List.length_pos_iff.2 (dec_ne _)
  have hd := dec_digits (v / 1000)
  have hvd := val_dec (v / 1000)
  have hm : bt (milliText (v : Int)) 0 ≠ 45 := by
    obtain ⟨c, t, e⟩ : ∃ c t, Lib.decDigits (v / 1000) = c :: t := by
      cases h : Lib.decDigits (v / 1000) with
      | nil => exact absurd h (dec_ne _)
      | cons c t => exact ⟨c, t, rfl⟩
    have hc := hd c (by rw [e]; simp)
    have := (bt_list (milliText (v : Int)) 0 c (by rw [hb, e]; simp)).1
    unfold isDig at hc
    intro h2
    have h3 : bt (milliText (v : Int)) ((0 : Nat) : Int) = 45 := h2
    omega
  unfold spec_ParseMilli.f
  by_cases h0 : v % 1000 = 0
  · rw [if_pos h0, List.append_nil] at hb
    rw [hb] at hz
    refine ev_neg (by omega) ?_
    refine specDigits _ (by omega) (-1) _ [] (Lib.decDigits (v / 1000)) [] 0 (by rw [hb]; simp) hd (by simp) ?_
    rw [hvd]
    refine spec_ParseMilli.l0.st (ev_neg (by simp; omega) (ev_neg (by omega) (spec_ParseMilli.j3.st (ev_neg (by omega) ?_))))
    exact padBack v hv (by omega) hm 3 (v / 1000) 0 rfl (by omega)
  · rw [if_neg h0] at hb
    have hz2 := hz
    rw [hb, List.length_append, List.length_cons] at hz2
    refine ev_neg (by omega) ?_
    refine specDigits _ (by omega) (-1) _ (46 :: frac (v % 1000)) (Lib.decDigits (v / 1000)) [] 0 hb hd (by simp) ?_
    rw [hvd, List.length_nil, Nat.zero_add]
    refine specDot _ (by omega) (Lib.decDigits (v / 1000)) (frac (v % 1000)) hb _ _ ?_
    have hval : val (v / 1000) (frac (v % 1000)) * 10 ^ (3 - (frac (v % 1000)).length) = v ∧ 1 ≤ (frac (v % 1000)).length := by
      unfold frac
      have ga : (dA (v % 1000)).toNat = 48 + v % 1000 / 100 := digit_nat _ (by omega)
      have gb : (dB (v % 1000)).toNat = 48 + v % 1000 / 10 % 10 := digit_nat _ (by omega)
      have gc : (dC (v % 1000)).toNat = 48 + v % 1000 % 10 := digit_nat _ (by omega)
      split
      · simp only [val, List.foldl_cons, List.foldl_nil, ga, gb, gc, List.length_cons, List.length_nil]
        omega
      · split
        · simp only [val, List.foldl_cons, List.foldl_nil, ga, gb, List.length_cons, List.length_nil]
          omega
        · simp only [val, List.foldl_cons, List.foldl_nil, ga, List.length_cons, List.length_nil]
          omega
    have hpl : (Lib.decDigits (v / 1000) ++ [46]).length = (Lib.decDigits (v / 1000)).length + 1 := by simp
    have hx : v / 1000 < 10 ^ (Lib.decDigits (v / 1000) ++ [46]).length := by
      have := Nat.pow_le_pow_right (n := 10) (by decide) (show 2 ≤ (Lib.decDigits (v / 1000) ++ [46]).length by omega)
      omega
    have key := specDigits (milliText (v : Int)) (by omega) (((Lib.decDigits (v / 1000)).length : Nat) : Int) ((v : Int), true) [] (frac (v % 1000)) (Lib.decDigits (v / 1000) ++ [46]) (v / 1000) (by rw [hb]; simp) (frac_digits _ (by omega)) hx ?_
    · rw [hpl] at key
      exact key
    · rw [hpl]
      refine spec_ParseMilli.l0.st (ev_neg (by omega) (ev_pos (by omega) ?_))
      rw [show wrap64 (((milliText (v : Int)).size : Int) - (((Lib.decDigits (v / 1000)).length : Nat) : Int)) = ((milliText (v : Int)).size : Int) - (((Lib.decDigits (v / 1000)).length : Nat) : Int) from w64 (by omega) (by omega), w64 (by omega) (by omega),
        show ((milliText (v : Int)).size : Int) - (((Lib.decDigits (v / 1000)).length : Nat) : Int) - 1 = ((frac (v % 1000)).length : Int) by omega]
      exact spec_ParseMilli.j3.st (ev_neg (by omega) (padBack v hv (by omega) hm (3 - (frac (v % 1000)).length) _ _ (by omega) hval.1))
end Go.Proofs.YtapckgibbhijeaaGreatDoor.PA
