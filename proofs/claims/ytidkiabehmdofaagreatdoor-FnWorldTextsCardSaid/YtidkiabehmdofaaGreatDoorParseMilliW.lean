/- What the program's ParseMilli answers at the text of a number of thousandths that is small and not negative. No further condition. -/
import Derived.Test.YtidkiabehmdofaaGreatDoorMilliText
import Derived.Test.YtidkiabehmdofaaGreatDoorPartsText
import Derived.Test.YtidkiabehmdofaaGreatDoorPAx4
import Derived.Test.YtidkiabehmdofaaGreatDoorPAx7
namespace Go.Proofs.YtidkiabehmdofaaGreatDoor.PA
open Go.RowKit Go.Proofs.YtidkiabehmdofaaGreatDoorW.PrintWords Go.Proofs.YtidkiabehmdofaaGreatDoorW.PrintLast Go.Proofs.YtidkiabehmdofaaGreatDoorW.PrintMore Go.Proofs.YtidkiabehmdofaaGreatDoor.Aid
set_option linter.unusedVariables false

theorem isVal (n : Int) : impl_isValue.f n = some (decide (-1000000000 ≤ n ∧ n ≤ 1000000000)) := by
  unfold impl_isValue.f
  rw [inRangeI]
  rfl
theorem implTeq (n : Int) (h : -1000000000 ≤ n ∧ n ≤ 1000000000) : Ev (fun k => impl_ParseMilli.t k (milliText n) n) (n, true) := by
  unfold impl_ParseMilli.t
  exact ev_call (isVal n) (ev_pos (by simpa using h) (ev_bind (implMilli n) (ev_pos rfl ev_now)))
theorem numBytes (u : Nat) : (numText u).data.toList = Lib.decDigits u := by
  unfold numText Lib.itoa
  rw [if_neg (by omega), Int.toNat_natCast]
theorem milliBytes (v : Nat) (hv : v ≤ 100000) : (milliText (v : Int)).data.toList = Lib.decDigits (v / 1000) ++ (if v % 1000 = 0 then [] else 46 :: frac (v % 1000)) := by
  unfold milliText milliT
  rw [if_pos (by omega), if_neg (by omega), Int.toNat_natCast]
  have e0 : ∀ x : ByteArray, (⟨#[]⟩ : ByteArray) ++ x = x := fun x => by
    apply ByteArray.ext
    rw [ByteArray.data_append]
    simp
  split
  · rw [e0, numBytes, List.append_nil]
  · rw [e0, ByteArray.data_append, ByteArray.data_append, Array.toList_append, Array.toList_append, numBytes, List.append_assoc]
    rfl
theorem dec_len3 (u : Nat) (hu : u < 1000) : (Lib.decDigits u).length ≤ 3 := by
  by_cases h : u = 0
  · subst h
    rw [Lib.decDigits_one (by omega)]
    simp
  · have := digs_len u 3 (by omega)
    unfold digs at this
    rw [if_neg h] at this
    exact this
theorem frac_digits (d : Nat) (hd : d < 1000) : ∀ b ∈ frac d, isDig b := by
  have dg : ∀ k, k < 10 → isDig (UInt8.ofNat (48 + k)) := fun k h => by unfold isDig; rw [digit_nat k h]; omega
  intro b hb
  unfold frac dA dB dC at hb
  split at hb
  · simp only [List.mem_cons, List.not_mem_nil, or_false] at hb
    rcases hb with rfl | rfl | rfl
    · exact dg _ (by omega)
    · exact dg _ (by omega)
    · exact dg _ (by omega)
  · split at hb
    · simp only [List.mem_cons, List.not_mem_nil, or_false] at hb
      rcases hb with rfl | rfl
      · exact dg _ (by omega)
      · exact dg _ (by omega)
    · simp only [List.mem_cons, List.not_mem_nil, or_false] at hb
      subst hb
      exact dg _ (by omega)
theorem frac_pad (d : Nat) (hd : d < 1000) : (frac d ++ [48, 48, 48]).take 3 = [dA d, dB d, dC d] := by
  unfold frac
  split
  · rfl
  · rename_i h1
    have e3 : dC d = 48 := by unfold dC; rw [show d % 10 = 0 by omega]; rfl
    split
    · show [dA d, dB d, 48] = _
      rw [e3]
    · rename_i h2
      have e2 : dB d = 48 := by unfold dB; rw [show d / 10 % 10 = 0 by omega]; rfl
      show [dA d, 48, 48] = _
      rw [e3, e2]
theorem dig_ne {b c : UInt8} (h : isDig b) (hc : c.toNat < 48) : b ≠ c := fun e => by
  unfold isDig at h
  rw [e] at h
  omega
/-- What the program reads of a load's text. -/
theorem milliSeen (v : Nat) (hv : v ≤ 100000) : milliPlain (milliText (v : Int)) = (milliText (v : Int)).data.toList ∧ milliWhole (milliText (v : Int)) = Lib.decDigits (v / 1000) ∧ milliPart (milliText (v : Int)) = (if v % 1000 = 0 then [] else frac (v % 1000)) := by
  have hb := milliBytes v hv
  have hp : milliPlain (milliText (v : Int)) = (milliText (v : Int)).data.toList := by
    unfold milliPlain Lib.trimPrefix
    rw [if_neg]
    rw [hb]
    cases hd : Lib.decDigits (v / 1000) with
    | nil => exact absurd hd (dec_ne _)
    | cons c r =>
      have hc : isDig c := dec_digits (v / 1000) c (by rw [hd]; simp)
      have := dig_ne (c := 45) hc (by decide)
      simp [Lib.hasPrefix, Ne.symm this]
  refine ⟨hp, ?_⟩
  unfold milliWhole milliPart
  rw [hp, hb]
  have hn : ∀ b ∈ Lib.decDigits (v / 1000), b ≠ 46 := fun b h => dig_ne (dec_digits _ b h) (by decide)
  split
  · rw [List.append_nil, cut_not 46 _ hn]
    exact ⟨rfl, rfl⟩
  · rw [cut_at 46 _ _ hn]
    exact ⟨rfl, rfl⟩
theorem milliSum (v : Nat) : v / 1000 * 1000 + v % 1000 / 100 * 100 + v % 1000 / 10 % 10 * 10 + v % 1000 % 10 = v := by omega
theorem milliRead (v : Nat) (hv : v ≤ 100000) : Lib.atoiAll (milliDigits (milliText (v : Int))) = .ok (v : Int) := by
  obtain ⟨_, h2, h3⟩ := milliSeen v hv
  unfold milliDigits
  rw [h2, h3]
  have hpad : ((if v % 1000 = 0 then [] else frac (v % 1000)) ++ [48, 48, 48] : List UInt8).take 3 = [dA (v % 1000), dB (v % 1000), dC (v % 1000)] := by
    split
    · rename_i h
      rw [h]
      rfl
    · exact frac_pad _ (by omega)
  rw [hpad]
  have := atoi_dec3 (v / 1000) (v % 1000 / 100) (v % 1000 / 10 % 10) (v % 1000 % 10) (by omega) (by omega) (by omega) (by omega)
  rw [milliSum] at this
  exact this
theorem implParseBack (v : Nat) (hv : v ≤ 100000) : Ev (fun k => impl_ParseMilli.f k (milliText (v : Int))) ((v : Int), true) := by
  obtain ⟨h1, h2, h3⟩ := milliSeen v hv
  have hz := milliText_size (v : Int)
  have l2 := dec_len3 (v / 1000) (by omega)
  have l3 := frac_len (v % 1000)
  unfold impl_ParseMilli.f
  refine ev_pos (by omega) (ev_neg ?_ ?_)
  · rw [h2, h3]
    split
    · simp; omega
    · omega
  · simp only [milliRead v hv, if_pos h1]
    exact implTeq (v : Int) (by omega)

/-- A number from its digits. -/
def val (x : Nat) (l : List UInt8) : Nat := l.foldl (fun y b => 10 * y + (b.toNat - 48)) x
section
variable (a0 : ByteArray) (hs : a0.size ≤ 13)
include hs
end
end Go.Proofs.YtidkiabehmdofaaGreatDoor.PA
