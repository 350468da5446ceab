/- What NeedOf answers, the reference's and the program's: the sums of Least and Want of a list of claims that is in order, else -1 and -1; and the plain statement of FnExactNeedOf: on every list of claims that fits into memory both give one answer, and the list that was handed over is as it was. No further condition. -/
import Derived.Test.YtmbkgiagkhhifaaClaimsCore
import Derived.Test.YtmbkgiagkhhifaaPAx0
import Derived.Test.YtmbkgiagkhhifaaPAx2
namespace Go.Proofs.Ytmbkgiagkhhifaa.PA
open Go.RowKit Go.Proofs.YtmbkgiagkhhifaaW.PrintWords Go.Proofs.YtmbkgiagkhhifaaW.PrintLast Go.Proofs.YtmbkgiagkhhifaaW.PrintMore Go.Proofs.Ytmbkgiagkhhifaa.Aid
set_option linter.unusedVariables false

theorem claimsOk_length {l : List S44} (h : claimsOk l = true) : l.length ≤ 16 := by
  simp only [claimsOk, Bool.and_eq_true, decide_eq_true_eq] at h
  omega
theorem claimsOk_at {l : List S44} (h : claimsOk l = true) (i : Nat) (hi : i < l.length) :
    (0 ≤ (rd_T44 l (i : Int)).f1 ∧ (rd_T44 l (i : Int)).f1 ≤ 1000) ∧ (0 ≤ (rd_T44 l (i : Int)).f2 ∧ (rd_T44 l (i : Int)).f2 ≤ (rd_T44 l (i : Int)).f1) ∧ 1 ≤ (rd_T44 l (i : Int)).f3 ∧ (rd_T44 l (i : Int)).f3 ≤ 100 := by
  simp only [claimsOk, Bool.and_eq_true, List.all_eq_true, List.mem_range] at h
  have := h.2 i hi
  simp only [placeOk, Bool.and_eq_true, okAt, claimOk, decide_eq_true_eq] at this
  exact this.1.2

/-- The sums of the first places. -/
def leastSum (l : List S44) : Nat → Int
  | 0 => 0
  | n + 1 => leastSum l n + (rd_T44 l (n : Int)).f2
def wantSum (l : List S44) : Nat → Int
  | 0 => 0
  | n + 1 => wantSum l n + (rd_T44 l (n : Int)).f1
theorem sums_range {l : List S44} (h : claimsOk l = true) : ∀ i, i ≤ l.length → 0 ≤ leastSum l i ∧ leastSum l i ≤ wantSum l i ∧ wantSum l i ≤ 1000 * (i : Int) := by
  intro i
  induction i with
  | zero => intro _; simp [leastSum, wantSum]
  | succ i ih =>
    intro hi
    have h1 := ih (by omega)
    have h2 := claimsOk_at h i (by omega)
    simp only [leastSum, wantSum]
    omega

def needOf (l : List S44) : Int × Int := if claimsOk l = true then (leastSum l l.length, wantSum l l.length) else (-1, -1)

theorem specNeed (l : List S44) (hf : Fits l) : Ev (fun k => spec_NeedOf.f k l) (needOf l) := by
  unfold spec_NeedOf.f needOf
  refine ev_bind (specClaims l hf) (ev_test (fun h => ?_) (fun h => ?_))
  · rw [if_pos h]
    have hl := claimsOk_length h
    have := ev_up (n := l.length) (fun i => Ev (fun k => spec_NeedOf.l0 k l (leastSum l i) (wantSum l i) (i : Int)) (leastSum l l.length, wantSum l l.length))
      (spec_NeedOf.l0.st (ev_neg (by omega) ev_now))
      (by
        intro i hi H
        have h1 := sums_range h i (by omega)
        have h2 := claimsOk_at h i hi
        refine spec_NeedOf.l0.st (ev_pos (by omega) (ev_pos (by omega) ?_))
        rw [w64 (by omega) (by omega), w64 (by omega) (by omega), w64 (by omega) (by omega)]
        exact H) 0 (Nat.zero_le _)
    exact this
  · rw [h]
    exact ev_now

theorem implNeed (l : List S44) (hf : Fits l) : Ev (fun k => impl_NeedOf.f k l) (needOf l) := by
  unfold impl_NeedOf.f needOf
  refine ev_bind (implClaims l hf) (ev_test (fun h => ?_) (fun h => ?_))
  · rw [if_pos h]
    have hl := claimsOk_length h
    have := ev_up (n := l.length) (fun i => Ev (fun k => impl_NeedOf.l0 k (leastSum l i) (wantSum l i) l (l.length : Int) (i : Int)) (leastSum l l.length, wantSum l l.length))
      (impl_NeedOf.l0.st (ev_neg (by omega) ev_now))
      (by
        intro i hi H
        have h1 := sums_range h i (by omega)
        have h2 := claimsOk_at h i hi
        refine impl_NeedOf.l0.st (ev_pos (by omega) (ev_pos (by omega) (ev_pos (by omega) ?_)))
        rw [w64 (by omega) (by omega), w64 (by omega) (by omega), w64 (by omega) (by omega)]
        exact H) 0 (Nat.zero_le _)
    exact this
  · rw [h]
    exact ev_now
end Go.Proofs.Ytmbkgiagkhhifaa.PA
