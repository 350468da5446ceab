/- The plain statement of FnExactClaimLine: for every claim that fits into memory the reference's line and the program's are one. No further condition. -/
import Derived.Test.YtipppogkphenpaaDoorClaimOne
import Derived.Test.YtipppogkphenpaaDoorNumText
import Derived.Test.YtipppogkphenpaaDoorPAx1
namespace Go.Proofs.YtipppogkphenpaaDoor.PA
open Go.RowKit Go.Proofs.YtipppogkphenpaaDoorW.PrintWords Go.Proofs.YtipppogkphenpaaDoorW.PrintLast Go.Proofs.YtipppogkphenpaaDoorW.PrintMore Go.Proofs.YtipppogkphenpaaDoor.Aid

/-- The line of a claim. -/
def lineOf (s : ByteArray) (a b c : Nat) : ByteArray := s ++ (⟨#[32]⟩ : ByteArray) ++ numText b ++ (⟨#[45]⟩ : ByteArray) ++ numText a ++ (⟨#[120]⟩ : ByteArray) ++ numText c
theorem name_short (s : ByteArray) (h : nameOk s = true) : s.size ≤ 12 := by
  simp only [nameOk, Bool.and_eq_true, decide_eq_true_eq] at h
  omega
theorem lineBoth (s : ByteArray) (a b c : Int) (hs : s.size ≤ 9223372036854775807) : ∃ t, Ev (fun k => spec_ClaimLine.f k s a b c) t ∧ Ev (fun k => impl_ClaimLine.f k s a b c) t := by
  unfold spec_ClaimLine.f impl_ClaimLine.f
  have h1 := specClaim s a b c hs
  have h2 := implClaim s a b c hs
  cases hok : claimOk s a b c with
  | false =>
    rw [hok] at h1 h2
    exact ⟨_, ev_bind h1 (ev_neg (by simp) ev_now), ev_bind h2 (ev_neg (by simp) ev_now)⟩
  | true =>
    rw [hok] at h1 h2
    simp only [claimOk, Bool.and_eq_true, decide_eq_true_eq] at hok
    obtain ⟨hn, ⟨ha, ha2⟩, ⟨hb, hb2⟩, hc, hc2⟩ := hok
    obtain ⟨a, rfl⟩ : ∃ n : Nat, a = (n : Int) := ⟨a.toNat, by omega⟩
    obtain ⟨b, rfl⟩ : ∃ n : Nat, b = (n : Int) := ⟨b.toNat, by omega⟩
    obtain ⟨c, rfl⟩ : ∃ n : Nat, c = (n : Int) := ⟨c.toNat, by omega⟩
    have hsz := name_short s hn
    have za := numText_size a (by omega)
    have zb := numText_size b (by omega)
    have zc := numText_size c (by omega)
    have l1 : ∀ x : UInt8, (⟨#[x]⟩ : ByteArray).size = 1 := fun _ => rfl
    refine ⟨lineOf s a b c, ev_bind h1 (ev_pos rfl (ev_pos (by omega) (ev_bind (specNum b (by omega)) ?_))), ev_bind h2 (ev_pos rfl (ev_pos (by omega) (ev_call (implNum b (by omega)) ?_)))⟩
    · refine ev_pos (by simp only [ByteArray.size_append, l1]; omega) (ev_pos (by simp only [ByteArray.size_append, l1]; omega) (ev_bind (specNum a (by omega)) ?_))
      refine ev_pos (by simp only [ByteArray.size_append, l1]; omega) (ev_pos (by simp only [ByteArray.size_append, l1]; omega) (ev_bind (specNum c (by omega)) ?_))
      exact ev_pos (by simp only [ByteArray.size_append, l1]; omega) ev_now
    · refine ev_pos (by simp only [ByteArray.size_append, l1]; omega) (ev_pos (by simp only [ByteArray.size_append, l1]; omega) (ev_call (implNum a (by omega)) ?_))
      refine ev_pos (by simp only [ByteArray.size_append, l1]; omega) (ev_pos (by simp only [ByteArray.size_append, l1]; omega) (ev_call (implNum c (by omega)) ?_))
      exact ev_pos (by simp only [ByteArray.size_append, l1]; omega) ev_now

theorem plainClaimLine (s : ByteArray) (a b c : Int) (hs : s.size ≤ 9223372036854775807) : Ev (fun k => laws_FnExactClaimLine.f k s a b c) true := by
  unfold laws_FnExactClaimLine.f
  have hz : ∃ r, laws_szClaim.f s a b c 1048576 = some r := by
    unfold laws_szClaim.f
    by_cases h : wrap64 (1048576 - (s.size : Int)) < 0
    · exact ⟨_, if_pos h⟩
    · exact ⟨_, if_neg h⟩
  obtain ⟨r, hr⟩ := hz
  obtain ⟨t, h1, h2⟩ := lineBoth s a b c hs
  exact ev_call hr (ev_ite (fun _ => ev_now) (fun _ => ev_call rfl (ev_bind h1 (ev_call rfl (ev_bind h2 (ev_pos rfl ev_now))))))
end Go.Proofs.YtipppogkphenpaaDoor.PA
