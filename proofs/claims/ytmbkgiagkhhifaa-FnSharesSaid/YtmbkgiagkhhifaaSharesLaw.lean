/- The plain statement of FnShares: for every drawn budget and list of claims the program's ShareOut and LeftOver answer as the reference's do, and where there are shares they are fair, add up with what is left, lie within NeedOf's two numbers, and leave nothing unless all is wanted. No condition. -/
import Derived.Test.YtmbkgiagkhhifaaDrawClaims
import Derived.Test.YtmbkgiagkhhifaaShareProps
import Derived.Test.YtmbkgiagkhhifaaPAx3
import Derived.Test.YtmbkgiagkhhifaaPAx4
namespace Go.Proofs.Ytmbkgiagkhhifaa.PA
open Go.RowKit Go.Proofs.YtmbkgiagkhhifaaW.PrintWords Go.Proofs.YtmbkgiagkhhifaaW.PrintLast Go.Proofs.YtmbkgiagkhhifaaW.PrintMore Go.Proofs.Ytmbkgiagkhhifaa.Aid
set_option linter.unusedVariables false

theorem same_self (l : List Int) (hl : l.length ≤ 1048576) : Ev (fun k => laws_same.f k l l) true := by
  unfold laws_same.f
  refine ev_pos rfl ?_
  have := ev_up (n := l.length) (fun i => Ev (fun k => laws_same.l0 k l l (i : Int)) true) (laws_same.l0.st (ev_neg (by omega) ev_now))
    (by
      intro i hi H
      refine laws_same.l0.st (ev_pos (by omega) (ev_pos (by omega) (ev_pos (by omega) (ev_pos rfl ?_))))
      rw [w64 (by omega) (by omega)]
      exact H) 0 (Nat.zero_le _)
  exact this

theorem plainShares (l0 : List Int) : Ev (fun k => laws_FnShares.f k l0) true := by
  unfold laws_FnShares.f
  refine ev_call (b := decide ((l0.length : Int) > 1048576)) rfl (ev_ite (fun _ => ev_now) (fun hb => ?_))
  have hb' : l0.length ≤ 1048576 := by
    have := of_decide_eq_false (Bool.eq_false_iff.2 hb)
    omega
  obtain ⟨b, l, hd, hs⟩ := drawShareOut l0 hb'
  obtain ⟨ys, ok, hy, e1, e2, hall⟩ := shareAll b l hs.fits
  refine ev_bind hd (ev_bind e1 (ev_bind e2 ?_))
  cases ok with
  | false =>
    have e3 : Ev (fun k => impl_LeftOver.f k b l) (-1) := by
      unfold impl_LeftOver.f
      exact ev_bind e2 (ev_neg (by simp) ev_now)
    have e4 : Ev (fun k => spec_LeftOver.f k b l) (-1) := by
      unfold spec_LeftOver.f
      exact ev_bind e1 (ev_neg (by simp) ev_now)
    exact ev_bind e3 (ev_neg (by simp) (ev_bind (same_self ys (by omega)) (ev_pos rfl (ev_bind e4 (laws_FnShares.j0.st (ev_neg (by simp) (ev_neg (by simp) ev_now)))))))
  | true =>
    obtain ⟨hok, hbb, hyl, hw, hf, hsum⟩ := hall rfl
    have hsum1 := within_sums hw l.length (Nat.le_refl _)
    have hr := sums_range hok l.length (Nat.le_refl _)
    have hl := claimsOk_length hok
    have hp : ∀ i, i < ys.length → 0 ≤ rd ys (i : Int) ∧ rd ys (i : Int) ≤ 1000 := by
      intro i hi
      have h1 := hw i (by omega)
      have h2 := claimsOk_at hok i (by omega)
      unfold wantAt leastAt at h1
      omega
    have s1 := sumShares ys hy hp
    obtain ⟨q, s2, s3⟩ := sumBoth ys
    obtain rfl := ev_unique s1 s3
    rw [hyl] at s1 s2
    have e3 : Ev (fun k => impl_LeftOver.f k b l) (wrap64 (b - sumTo ys l.length)) := by
      unfold impl_LeftOver.f
      exact ev_bind e2 (ev_pos rfl (ev_bind s1 ev_now))
    have e4 : Ev (fun k => spec_LeftOver.f k b l) (wrap64 (b - sumTo ys l.length)) := by
      unfold spec_LeftOver.f
      exact ev_bind e1 (ev_pos rfl (ev_bind s2 ev_now))
    have hn := implNeed l hs.fits
    have hn2 : needOf l = (leastSum l l.length, wantSum l l.length) := by unfold needOf; rw [if_pos hok]
    rw [hn2] at hn
    refine ev_bind e3 (ev_neg (by simp) (ev_bind (same_self ys (by omega)) (ev_pos rfl (ev_bind e4 (laws_FnShares.j0.st (ev_neg (by simp) (ev_pos rfl (ev_bind hn (ev_bind s1 (ev_bind (fairTrue l hok hs.fits ys hyl hw hf) (ev_pos rfl (ev_pos rfl (ev_pos hsum1.1 (ev_pos hsum1.2 (ev_ite (fun _ => ev_now) (fun h0 => ?_))))))))))))))))
    have h2 : sumTo ys l.length = wantSum l l.length := by
      rcases hsum with h | h
      · exfalso
        rw [h, Int.sub_self] at h0
        exact h0 (w64 (by omega) (by omega))
      · exact h
    show Ev (fun n => some (sumTo ys l.length == wantSum l l.length)) true
    rw [h2, beq_self_eq_true]
    exact ev_now
end Go.Proofs.Ytmbkgiagkhhifaa.PA
