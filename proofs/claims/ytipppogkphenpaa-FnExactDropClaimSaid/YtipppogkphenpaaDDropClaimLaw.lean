/- The plain statement of FnExactDropClaim: for every list of claims and every name that fit into memory the reference's DropClaim and the program's give one answer; the list that was handed over is as it was; what was handed back is new memory. No further condition. -/
import Derived.Test.YtipppogkphenpaaDDropClaim
import Derived.Test.YtipppogkphenpaaDMarks
import Derived.Test.YtipppogkphenpaaPDx0
import Derived.Test.YtipppogkphenpaaPDx2
namespace Go.Proofs.Ytipppogkphenpaa.PD
open Go.RowKit Go.Proofs.YtipppogkphenpaaW.PrintWords Go.Proofs.YtipppogkphenpaaW.PrintLast Go.Proofs.YtipppogkphenpaaW.PrintMore Go.Proofs.Ytipppogkphenpaa.Aid

theorem plainDropClaim (l : List S39) (nm : ByteArray) (hl : l.length ≤ 9223372036854775807) (hs : ∀ x ∈ l, x.f0.size ≤ 9223372036854775807) : Ev (fun k => laws_FnExactDropClaim.f k l nm) true := by
  unfold laws_FnExactDropClaim.f
  obtain ⟨r, hr, hrl⟩ := szClaims l hl hs
  refine ev_ite (fun _ => ev_now) (fun _ => ev_bind hr (ev_ite (fun _ => ev_now) (fun h => ?_)))
  have h1 := (hrl h).1
  obtain ⟨ys, ok, hy, hq1, hq2⟩ := dropBoth (l.map conv) nm (by rw [List.length_map]; omega) (Fits.conv hs)
  have hcl : (l.map conv).length ≤ 1048577 := by rw [List.length_map]; omega
  obtain ⟨m, zs, hm, hh, hm0⟩ := marksClaims ys hy
  obtain ⟨m2, zs2, hm2, hh2, hm20⟩ := marksClaims (l.map conv) hcl
  have hey := eqClaims ys hy
  refine ev_bind (toClaims l h1) (ev_bind hq1 (ev_bind (toClaims l h1) (ev_bind hq2 (ev_bind hey (ev_pos rfl ?_)))))
  refine laws_FnExactDropClaim.j0.st (ev_neg (by simp) (ev_bind (toClaims l h1) (ev_bind (eqClaims _ hcl) (ev_pos rfl (ev_bind hm2 (ev_neg hm20 (ev_bind hey (ev_pos rfl ?_))))))))
  refine laws_FnExactDropClaim.j1.st (ev_neg (by simp) (ev_bind hm (ev_bind hh (ev_neg hm0 (ev_pos rfl (ev_bind (toClaims l h1) (ev_bind hq2 (ev_bind hey (ev_pos rfl ?_)))))))))
  exact laws_FnExactDropClaim.j2.st (ev_neg (by simp) (ev_bind hh (ev_neg hm0 (ev_pos rfl ev_now))))
end Go.Proofs.Ytipppogkphenpaa.PD
