/- The plain statement of FnExactLatestOf: for every store, pod and metric that fit into memory the reference's LatestOf and the program's give one answer, and the store that was handed over is as it was. No further condition. -/
import Derived.Test.YtecjingcnaopdaaSeriesOf
import Derived.Test.YtecjingcnaopdaaPAx0
import Derived.Test.YtecjingcnaopdaaPAx3
import Derived.Test.YtecjingcnaopdaaPAx9
namespace Go.Proofs.Ytecjingcnaopdaa.PA
open Go.RowKit Go.Proofs.YtecjingcnaopdaaW.PrintWords Go.Proofs.YtecjingcnaopdaaW.PrintLast Go.Proofs.YtecjingcnaopdaaW.PrintMore Go.Proofs.Ytecjingcnaopdaa.Aid

theorem plainLatestOf (l : List S56) (a b : ByteArray) (hl : Came l) : Ev (fun k => laws_FnExactLatestOf.f k l a b) true := by
  unfold laws_FnExactLatestOf.f
  refine ev_ite (fun _ => ev_now) (fun _ => ev_ite (fun _ => ev_now) (fun _ => ?_))
  obtain ⟨r, hr, hrl⟩ := szStore l hl 1048576 (by omega) (by omega)
  refine ev_bind hr (ev_ite (fun _ => ev_now) (fun h => ?_))
  have h1 := (hrl h).1
  have hf := h1.fits
  have hn : (l.map convS).length ≤ 1048577 := by rw [List.length_map]; have := h1.1; omega
  obtain ⟨x, y, ok, q1, q2⟩ := latestBoth _ a b hn hf
  have he : laws_eqPoint.f x y x y = some true := by unfold laws_eqPoint.f; rw [if_pos rfl, if_pos rfl]
  refine ev_bind (toStore l h1) (ev_bind q1 (ev_bind (toStore l h1) (ev_bind q2 (ev_call he (ev_pos rfl ?_)))))
  exact laws_FnExactLatestOf.j0.st (ev_neg (by simp) (ev_bind (toStore l h1) (ev_bind (eqStore l h1) (ev_pos rfl ev_now))))
end Go.Proofs.Ytecjingcnaopdaa.PA
