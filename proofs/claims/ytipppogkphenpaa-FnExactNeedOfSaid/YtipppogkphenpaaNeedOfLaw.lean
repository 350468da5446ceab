/- The plain statement of FnExactNeedOf: on every list of claims that fits into memory the reference's NeedOf and the program's give one answer, and the list that was handed over is as it was. No further condition. -/
import Derived.Test.YtipppogkphenpaaNeedOf
import Derived.Test.YtipppogkphenpaaPAx0
import Derived.Test.YtipppogkphenpaaStA5
namespace Go.Proofs.Ytipppogkphenpaa.PA
open Go.RowKit Go.Proofs.YtipppogkphenpaaW.PrintWords Go.Proofs.YtipppogkphenpaaW.PrintLast Go.Proofs.YtipppogkphenpaaW.PrintMore Go.Proofs.Ytipppogkphenpaa.Aid

theorem plainNeedOf (l : List S39) (hl : l.length ≤ 9223372036854775807) (hs : ∀ x ∈ l, x.f0.size ≤ 9223372036854775807) : Ev (fun k => laws_FnExactNeedOf.f k l) true := by
  obtain ⟨r, hr, hrl⟩ := szClaims l hl hs
  unfold laws_FnExactNeedOf.f
  refine ev_bind hr (ev_ite (fun _ => ev_now) (fun h => ?_))
  have h1 := (hrl h).1
  have hf := Fits.conv hs
  refine ev_bind (toClaims l h1) (ev_bind (specNeed _ hf) (ev_bind (toClaims l h1) (ev_bind (implNeed _ hf) (ev_pos rfl (laws_FnExactNeedOf.j0.st (ev_neg (by simp) (ev_bind (toClaims l h1) (ev_bind (eqClaims _ (by rw [List.length_map]; omega)) (ev_pos rfl ev_now)))))))))
end Go.Proofs.Ytipppogkphenpaa.PA
