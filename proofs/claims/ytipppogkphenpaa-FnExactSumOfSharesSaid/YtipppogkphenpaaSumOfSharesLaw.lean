/- The plain statement of FnExactSumOfShares: on every list of whole numbers that fits into memory the reference's SumOfShares and the program's give one answer, and the list that was handed over is as it was. No further condition. -/
import Derived.Test.YtipppogkphenpaaSumBase
import Derived.Test.YtipppogkphenpaaPAx1
namespace Go.Proofs.Ytipppogkphenpaa.PA
open Go.RowKit Go.Proofs.YtipppogkphenpaaW.PrintWords Go.Proofs.YtipppogkphenpaaW.PrintLast Go.Proofs.YtipppogkphenpaaW.PrintMore Go.Proofs.Ytipppogkphenpaa.Aid

theorem plainSumOfShares (xs : List Int) : Ev (fun k => laws_FnExactSumOfShares.f k xs) true := by
  unfold laws_FnExactSumOfShares.f
  refine ev_ite (fun _ => ev_now) (fun h => ?_)
  obtain ⟨r, h1, h2⟩ := sumBoth xs
  have hl : xs.length ≤ 1048576 := by omega
  exact ev_bind (toInts xs hl) (ev_bind h1 (ev_bind (toInts xs hl) (ev_bind h2 (ev_pos rfl (ev_bind (toInts xs hl) (ev_bind (eqInts xs hl) (ev_pos rfl ev_now)))))))
end Go.Proofs.Ytipppogkphenpaa.PA
