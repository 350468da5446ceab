/- The plain statement of FnExactStoreOk: on every store that fits into memory the reference's StoreOk and the program's give one answer, and the store that was handed over is as it was. No further condition. -/
import Derived.Test.YtecjingcnaopdaaStoreCopies
import Derived.Test.YtecjingcnaopdaaPAx0
import Derived.Test.YtecjingcnaopdaaPAx5
namespace Go.Proofs.Ytecjingcnaopdaa.PA
open Go.RowKit Go.Proofs.YtecjingcnaopdaaW.PrintWords Go.Proofs.YtecjingcnaopdaaW.PrintLast Go.Proofs.YtecjingcnaopdaaW.PrintMore Go.Proofs.Ytecjingcnaopdaa.Aid

theorem plainStoreOk (l : List S56) (hl : Came l) : Ev (fun k => laws_FnExactStoreOk.f k l) true := by
  unfold laws_FnExactStoreOk.f
  obtain ⟨r, hr, hrl⟩ := szStore l hl 1048576 (by omega) (by omega)
  refine ev_bind hr (ev_ite (fun _ => ev_now) (fun h => ?_))
  have h1 := (hrl h).1
  have hf := h1.fits
  have hn : (l.map convS).length ≤ 1048577 := by rw [List.length_map]; have := h1.1; omega
  exact ev_bind (toStore l h1) (ev_bind (specStore _ hf) (ev_bind (toStore l h1) (ev_bind (implStore _ hn hf) (ev_neg (by simp) (ev_bind (toStore l h1) (ev_bind (eqStore l h1) (ev_pos rfl ev_now)))))))
end Go.Proofs.Ytecjingcnaopdaa.PA
