/- The reference's text of a whole number that is not negative is the library's decimal numeral. No condition but that the number is an int. -/
import Derived.Test.YtidkiabehmdofaaGreatDoorAid
import Derived.Test.YtidkiabehmdofaaGreatDoorPAx4
import Derived.Test.YtidkiabehmdofaaGreatDoorPAx6
namespace Go.Proofs.YtidkiabehmdofaaGreatDoor.PA
open Go.RowKit Go.Proofs.YtidkiabehmdofaaGreatDoorW.PrintWords Go.Proofs.YtidkiabehmdofaaGreatDoorW.PrintLast Go.Proofs.YtidkiabehmdofaaGreatDoorW.PrintMore Go.Proofs.YtidkiabehmdofaaGreatDoor.Aid
set_option linter.unusedVariables false

/-- The digits; none of nothing. -/
def digs (u : Nat) : List UInt8 := if u = 0 then [] else Lib.decDigits u
theorem digs_step (u : Nat) (h : u ≠ 0) : digs u = digs (u / 10) ++ [UInt8.ofNat (48 + u % 10)] := by
  unfold digs
  rw [if_neg h]
  by_cases h10 : u < 10
  · rw [if_pos (by omega), Lib.decDigits_one h10, Nat.mod_eq_of_lt h10]
    rfl
  · rw [if_neg (by omega), Lib.decDigits, dif_neg h10]
theorem digs_len (u : Nat) : ∀ m, u < 10 ^ m → (digs u).length ≤ m := by
  induction u using Nat.strongRecOn with
  | ind u ih =>
    intro m hm
    by_cases h : u = 0
    · subst h
      simp [digs]
    · cases m with
      | zero => omega
      | succ m =>
        rw [digs_step u h, List.length_append, List.length_singleton]
        have := ih (u / 10) (by omega) m (by rw [Nat.pow_succ] at hm; omega)
        omega
theorem one_byte (u : Nat) : strOfNums [(wrap64 (48 + (Int.tmod (u : Int) 10))) % 256] = ⟨#[UInt8.ofNat (48 + u % 10)]⟩ := by
  have h0 : Int.tmod (u : Int) 10 = ((u % 10 : Nat) : Int) := by rw [Int.tmod_eq_emod_of_nonneg (by omega)]; omega
  have h1 : (wrap64 (48 + Int.tmod (u : Int) 10)) % 256 = ((48 + u % 10 : Nat) : Int) := by
    rw [h0, w64 (by omega) (by omega)]
    omega
  rw [h1]
  rfl
theorem num_l0 (u : Nat) : u < 9223372036854775808 → ∀ acc : ByteArray, acc.size + (digs u).length ≤ 9223372036854775807 → Ev (fun k => spec_l01Num.l0 k (u : Int) acc false) ((⟨(digs u).toArray⟩ : ByteArray) ++ acc) := by
  induction u using Nat.strongRecOn with
  | ind u ih =>
    intro hu acc hs
    by_cases h : u = 0
    · subst h
      have e : (⟨(digs 0).toArray⟩ : ByteArray) ++ acc = acc := by
        apply ByteArray.ext
        rw [ByteArray.data_append]
        simp [digs]
      rw [e]
      exact spec_l01Num.l0.st (ev_pos rfl (ev_neg (by simp) ev_now))
    · have hm : ¬ Int.tmod (u : Int) 10 < 0 := by rw [Int.tmod_eq_emod_of_nonneg (by omega)]; omega
      have hd : wrap64 (Int.tdiv (u : Int) 10) = ((u / 10 : Nat) : Int) := by
        rw [Int.tdiv_eq_ediv_of_nonneg (by omega), w64 (by omega) (by omega)]
        omega
      have hl := digs_step u h
      have hll : (digs u).length = (digs (u / 10)).length + 1 := by rw [hl, List.length_append, List.length_singleton]
      have hsz : (strOfNums [(wrap64 (48 + (Int.tmod (u : Int) 10))) % 256]).size = 1 := rfl
      refine spec_l01Num.l0.st (ev_neg (by omega) (ev_neg hm (ev_call rfl (ev_pos (by rw [hsz]; omega) ?_))))
      rw [hd]
      have := ih (u / 10) (by omega) (by omega) (strOfNums [(wrap64 (48 + (Int.tmod (u : Int) 10))) % 256] ++ acc) (by rw [ByteArray.size_append, hsz]; omega)
      have e : (⟨(digs u).toArray⟩ : ByteArray) ++ acc = (⟨(digs (u / 10)).toArray⟩ : ByteArray) ++ (strOfNums [(wrap64 (48 + (Int.tmod (u : Int) 10))) % 256] ++ acc) := by
        rw [one_byte, hl]
        apply ByteArray.ext
        simp only [ByteArray.data_append]
        simp
      rw [e]
      exact this

/-- The decimal numeral. -/
def numText (u : Nat) : ByteArray := ⟨(Lib.itoa (u : Int)).toArray⟩
theorem specNum (u : Nat) (hu : u < 9223372036854775808) : Ev (fun k => spec_l01Num.f k (u : Int)) (numText u) := by
  unfold spec_l01Num.f numText
  have hi : Lib.itoa (u : Int) = Lib.decDigits u := by unfold Lib.itoa; rw [if_neg (by omega), Int.toNat_natCast]
  rw [hi]
  by_cases h : u = 0
  · subst h
    have : Lib.decDigits 0 = [48] := by rw [Lib.decDigits_one (by omega)]; rfl
    rw [this]
    exact ev_pos rfl ev_now
  · refine ev_neg (by omega) ?_
    have hd : digs u = Lib.decDigits u := by unfold digs; rw [if_neg h]
    have := num_l0 u hu ⟨#[]⟩ (by
      have := digs_len u 19 (by omega)
      have h0 : (⟨#[]⟩ : ByteArray).size = 0 := rfl
      omega)
    rw [hd] at this
    have e : (⟨(Lib.decDigits u).toArray⟩ : ByteArray) ++ ⟨#[]⟩ = ⟨(Lib.decDigits u).toArray⟩ := by
      apply ByteArray.ext
      rw [ByteArray.data_append]
      simp
    rw [e] at this
    rw [show decide ((u : Int) < 0) = false from decide_eq_false (by omega)]
    exact this
theorem numText_size (u : Nat) (hu : u < 9223372036854775808) : (numText u).size ≤ 19 := by
  have hi : Lib.itoa (u : Int) = Lib.decDigits u := by unfold Lib.itoa; rw [if_neg (by omega), Int.toNat_natCast]
  show (Lib.itoa (u : Int)).toArray.size ≤ 19
  rw [List.size_toArray, hi]
  by_cases h : u = 0
  · subst h
    rw [Lib.decDigits_one (by omega)]
    simp
  · have := digs_len u 19 (by omega)
    unfold digs at this
    rw [if_neg h] at this
    exact this
theorem implNum (u : Nat) (hu : u < 9223372036854775808) : impl_number.f (u : Int) = some (numText u) := by
  unfold impl_number.f strconv_Itoa.f
  rw [if_pos ⟨by omega, by omega⟩]
  rfl
end Go.Proofs.YtidkiabehmdofaaGreatDoor.PA
