/- The plain statement of FnExactPutClaim: for every list of claims and every claim that fit into memory the reference's PutClaim and the program's give one answer; the list that was handed over is as it was; what was handed back is new memory. No further condition. -/
import Derived.Test.YtipppogkphenpaaBPutClaim
import Derived.Test.YtipppogkphenpaaBMarks
import Derived.Test.YtipppogkphenpaaPBx0
import Derived.Test.YtipppogkphenpaaPBx3
import Derived.Test.YtipppogkphenpaaPBx6
namespace Go.Proofs.Ytipppogkphenpaa.PB
open Go.RowKit Go.Proofs.YtipppogkphenpaaW.PrintWords Go.Proofs.YtipppogkphenpaaW.PrintLast Go.Proofs.YtipppogkphenpaaW.PrintMore Go.Proofs.Ytipppogkphenpaa.Aid

theorem plainPutClaim (l : List S39) (c : S39) (hl : l.length ≤ 9223372036854775807) (hs : ∀ x ∈ l, x.f0.size ≤ 9223372036854775807) (hc : c.f0.size ≤ 9223372036854775807) : Ev (fun k => laws_FnExactPutClaim.f k l c.f0 c.f1 c.f2 c.f3) true := by
  unfold laws_FnExactPutClaim.f
  obtain ⟨r, hr, hrl⟩ := szClaims l hl hs
  refine ev_bind hr (ev_ite (fun _ => ev_now) (fun h => ?_))
  have h1 := (hrl h).1
  refine ev_call (sz_claim c r (by omega) (hrl h).2 hc) (ev_ite (fun _ => ev_now) (fun h2 => ?_))
  obtain ⟨ys, ok, hy, hq1, hq2⟩ := putBoth (l.map conv) (conv c) (by rw [List.length_map]; omega) (Fits.conv hs) hc
  have hcl : (l.map conv).length ≤ 1048577 := by rw [List.length_map]; omega
  have hto : laws_toClaim.f c.f0 c.f1 c.f2 c.f3 = some (c.f0, c.f1, c.f2, c.f3) := rfl
  obtain ⟨m, zs, hm, hh, hm0⟩ := marksClaims ys hy
  obtain ⟨m2, zs2, hm2, hh2, hm20⟩ := marksClaims (l.map conv) hcl
  have hey := eqClaims ys hy
  refine ev_bind (toClaims l h1) (ev_call hto (ev_bind hq1 (ev_bind (toClaims l h1) (ev_call hto (ev_bind hq2 (ev_bind hey (ev_pos rfl ?_)))))))
  refine laws_FnExactPutClaim.j0.st (ev_neg (by simp) (ev_bind (toClaims l h1) (ev_bind (eqClaims _ hcl) (ev_pos rfl (ev_bind hm2 (ev_neg hm20 (ev_bind hey (ev_pos rfl ?_))))))))
  refine laws_FnExactPutClaim.j1.st (ev_neg (by simp) (ev_bind hm (ev_bind hh (ev_neg hm0 (ev_pos rfl (ev_bind (toClaims l h1) (ev_call hto (ev_bind hq2 (ev_bind hey (ev_pos rfl ?_))))))))))
  exact laws_FnExactPutClaim.j2.st (ev_neg (by simp) (ev_bind hh (ev_neg hm0 (ev_pos rfl ev_now))))
end Go.Proofs.Ytipppogkphenpaa.PB
