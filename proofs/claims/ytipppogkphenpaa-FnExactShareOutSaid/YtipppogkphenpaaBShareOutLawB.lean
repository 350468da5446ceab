/- The plain statement of FnExactShareOut: for every budget and every list of claims that fits into memory the reference's ShareOut and the program's give one answer; the list that was handed over is as it was; what was handed back is new memory. No further condition. -/
import Derived.Test.YtipppogkphenpaaBShareOnly
import Derived.Test.YtipppogkphenpaaBMarks
import Derived.Test.YtipppogkphenpaaBMarksInts
import Derived.Test.YtipppogkphenpaaBIntsEq
import Derived.Test.YtipppogkphenpaaPBx0
import Derived.Test.YtipppogkphenpaaPBx2
namespace Go.Proofs.Ytipppogkphenpaa.PB
open Go.RowKit Go.Proofs.YtipppogkphenpaaW.PrintWords Go.Proofs.YtipppogkphenpaaW.PrintLast Go.Proofs.YtipppogkphenpaaW.PrintMore Go.Proofs.Ytipppogkphenpaa.Aid

theorem plainShareOut (b : Int) (l : List S39) (hl : l.length ≤ 9223372036854775807) (hs : ∀ x ∈ l, x.f0.size ≤ 9223372036854775807) : Ev (fun k => laws_FnExactShareOut.f k b l) true := by
  unfold laws_FnExactShareOut.f
  obtain ⟨r, hr, hrl⟩ := szClaims l hl hs
  refine ev_bind hr (ev_ite (fun _ => ev_now) (fun h => ?_))
  have h1 := (hrl h).1
  obtain ⟨ys, ok, hy, hq1, hq2⟩ := shareBoth b (l.map conv) (Fits.conv hs)
  have hc : (l.map conv).length ≤ 1048577 := by rw [List.length_map]; omega
  obtain ⟨m, zs, hm, hh, hm0⟩ := marksInts ys (by omega)
  obtain ⟨m2, zs2, hm2, hh2, hm20⟩ := marksClaims (l.map conv) hc
  have hey := eqInts ys (by omega)
  refine ev_bind (toClaims l h1) (ev_bind hq1 (ev_bind (toClaims l h1) (ev_bind hq2 (ev_bind hey (ev_pos rfl ?_)))))
  refine laws_FnExactShareOut.j0.st (ev_neg (by simp) (ev_bind (toClaims l h1) (ev_bind (eqClaims _ hc) (ev_pos rfl (ev_bind hm2 (ev_neg hm20 (ev_bind hey (ev_pos rfl ?_))))))))
  refine laws_FnExactShareOut.j1.st (ev_neg (by simp) (ev_bind hm (ev_bind hh (ev_neg hm0 (ev_pos rfl (ev_bind (toClaims l h1) (ev_bind hq2 (ev_bind hey (ev_pos rfl ?_)))))))))
  exact laws_FnExactShareOut.j2.st (ev_neg (by simp) (ev_bind hh (ev_neg hm0 (ev_pos rfl ev_now))))
end Go.Proofs.Ytipppogkphenpaa.PB
