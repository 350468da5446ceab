/- The plain statement of FnExactSeriesOf: for every store, pod and metric that fit into memory the reference's SeriesOf and the program's give one answer; the store that was handed over is as it was; what was handed back is new memory. No further condition. -/
import Derived.Test.YtecjingcnaopdaaSSeriesOnly
import Derived.Test.YtecjingcnaopdaaSMarksPoint
import Derived.Test.YtecjingcnaopdaaPSx0
import Derived.Test.YtecjingcnaopdaaPSx4
namespace Go.Proofs.Ytecjingcnaopdaa.PS
open Go.RowKit Go.Proofs.YtecjingcnaopdaaW.PrintWords Go.Proofs.YtecjingcnaopdaaW.PrintLast Go.Proofs.YtecjingcnaopdaaW.PrintMore Go.Proofs.Ytecjingcnaopdaa.Aid

theorem plainSeriesOf (l : List S56) (a b : ByteArray) (hl : Came l) : Ev (fun k => laws_FnExactSeriesOf.f k l a b) true := by
  unfold laws_FnExactSeriesOf.f
  refine ev_ite (fun _ => ev_now) (fun _ => ev_ite (fun _ => ev_now) (fun _ => ?_))
  obtain ⟨r, hr, hrl⟩ := szStore l hl 1048576 (by omega) (by omega)
  refine ev_bind hr (ev_ite (fun _ => ev_now) (fun h => ?_))
  have h1 := (hrl h).1
  have hf := h1.fits
  have hn : (l.map convS).length ≤ 1048577 := by rw [List.length_map]; have := h1.1; omega
  obtain ⟨ys, ok, hy, _, q1, q2⟩ := seriesBoth _ a b hn hf
  have hey := eqPoints ys (by omega)
  obtain ⟨m, zs, hm, hh, hm0⟩ := marksPoints ys (by omega)
  obtain ⟨m2, hm2, hm20⟩ := markSeries_l0 (l.map convS) hn (by
    intro i hi
    rw [List.length_map] at hi
    rw [rd58_mem _ i (by rw [List.length_map]; exact hi), List.getElem_map]
    show ((l[i]).f2.map convP).length ≤ 1048577
    rw [List.length_map]
    have := (h1.2 l[i] (List.getElem_mem hi)).2.2
    omega) (l.map convS).length 0 1 (by omega) (by omega) (by omega)
  refine ev_bind (toStore l h1) (ev_bind q1 (ev_bind (toStore l h1) (ev_bind q2 (ev_bind hey (ev_pos rfl ?_)))))
  refine laws_FnExactSeriesOf.j0.st (ev_neg (by simp) (ev_bind (toStore l h1) (ev_bind (eqStore l h1) (ev_pos rfl (ev_bind hm2 (ev_neg hm20 (ev_bind hey (ev_pos rfl ?_))))))))
  refine laws_FnExactSeriesOf.j1.st (ev_neg (by simp) (ev_bind hm (ev_bind hh (ev_neg hm0 (ev_pos rfl (ev_bind (toStore l h1) (ev_bind q2 (ev_bind hey (ev_pos rfl ?_)))))))))
  exact laws_FnExactSeriesOf.j2.st (ev_neg (by simp) (ev_bind hh (ev_neg hm0 (ev_pos rfl ev_now))))
end Go.Proofs.Ytecjingcnaopdaa.PS
