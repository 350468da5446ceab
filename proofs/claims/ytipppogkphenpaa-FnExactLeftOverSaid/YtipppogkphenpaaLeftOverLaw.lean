/- The plain statement of FnExactLeftOver: for every budget and every list of claims that fits into memory the reference's LeftOver and the program's give one answer, and the list that was handed over is as it was. No further condition. -/
import Derived.Test.YtipppogkphenpaaShareOut
import Derived.Test.YtipppogkphenpaaPAx0
import Derived.Test.YtipppogkphenpaaPAx13
namespace Go.Proofs.Ytipppogkphenpaa.PA
open Go.RowKit Go.Proofs.YtipppogkphenpaaW.PrintWords Go.Proofs.YtipppogkphenpaaW.PrintLast Go.Proofs.YtipppogkphenpaaW.PrintMore Go.Proofs.Ytipppogkphenpaa.Aid

theorem plainLeftOver (b : Int) (l : List S39) (hl : l.length ≤ 9223372036854775807) (hs : ∀ x ∈ l, x.f0.size ≤ 9223372036854775807) : Ev (fun k => laws_FnExactLeftOver.f k b l) true := by
  unfold laws_FnExactLeftOver.f
  obtain ⟨r, hr, hrl⟩ := szClaims l hl hs
  refine ev_bind hr (ev_ite (fun _ => ev_now) (fun h => ?_))
  have h1 := (hrl h).1
  obtain ⟨q, hq1, hq2⟩ := leftBoth b (l.map conv) (Fits.conv hs)
  exact ev_bind (toClaims l h1) (ev_bind hq1 (ev_bind (toClaims l h1) (ev_bind hq2 (ev_pos rfl (ev_bind (toClaims l h1) (ev_bind (eqClaims _ (by rw [List.length_map]; omega)) (ev_pos rfl ev_now)))))))
end Go.Proofs.Ytipppogkphenpaa.PA
