/- The plain statement of FnExactCountPoints: on every store that fits into memory the reference's CountPoints and the program's give one answer, and the store that was handed over is as it was. No further condition. -/
import Derived.Test.YtecjingcnaopdaaStoreCopies
import Derived.Test.YtecjingcnaopdaaPAx0
import Derived.Test.YtecjingcnaopdaaPAx6
namespace Go.Proofs.Ytecjingcnaopdaa.PA
open Go.RowKit Go.Proofs.YtecjingcnaopdaaW.PrintWords Go.Proofs.YtecjingcnaopdaaW.PrintLast Go.Proofs.YtecjingcnaopdaaW.PrintMore Go.Proofs.Ytecjingcnaopdaa.Aid
set_option linter.unusedVariables false

theorem countLoop (l : List S58) (hl : l.length ≤ 1048577) : ∀ d i, i + d = l.length → ∀ s : Int, ∃ r, Ev (fun k => spec_CountPoints.l0 k l s (i : Int)) r ∧ Ev (fun k => impl_CountPoints.l0 k s l (l.length : Int) (i : Int)) r := by
  intro d
  induction d with
  | zero => intro i hi s; exact ⟨s, spec_CountPoints.l0.st (ev_neg (by omega) ev_now), impl_CountPoints.l0.st (ev_neg (by omega) ev_now)⟩
  | succ d ih =>
    intro i hi s
    obtain ⟨r, h1, h2⟩ := ih (i + 1) (by omega) (wrap64 (s + (((rd_T58 l (i : Int)).f2).length : Int)))
    refine ⟨r, spec_CountPoints.l0.st (ev_pos (by omega) (ev_pos (by omega) ?_)), impl_CountPoints.l0.st (ev_pos (by omega) (ev_pos (by omega) (ev_pos (by omega) ?_)))⟩
    · rw [w64 (x := (i : Int) + 1) (by omega) (by omega)]; exact h1
    · rw [w64 (x := (i : Int) + 1) (by omega) (by omega)]; exact h2

theorem plainCountPoints (l : List S56) (hl : Came l) : Ev (fun k => laws_FnExactCountPoints.f k l) true := by
  unfold laws_FnExactCountPoints.f
  obtain ⟨r, hr, hrl⟩ := szStore l hl 1048576 (by omega) (by omega)
  refine ev_bind hr (ev_ite (fun _ => ev_now) (fun h => ?_))
  have h1 := (hrl h).1
  have hf := h1.fits
  have hn : (l.map convS).length ≤ 1048577 := by rw [List.length_map]; have := h1.1; omega
  have hboth : ∃ q, Ev (fun k => spec_CountPoints.f k (l.map convS)) q ∧ Ev (fun k => impl_CountPoints.f k (l.map convS)) q := by
    unfold spec_CountPoints.f impl_CountPoints.f
    have s1 := specStore _ hf
    have s2 := implStore _ hn hf
    cases hok : storeOk (l.map convS) with
    | true =>
      rw [hok] at s1 s2
      obtain ⟨q, q1, q2⟩ := countLoop (l.map convS) hn (l.map convS).length 0 (by omega) 0
      exact ⟨q, ev_bind s1 (ev_pos rfl q1), ev_bind s2 (ev_pos rfl q2)⟩
    | false =>
      rw [hok] at s1 s2
      exact ⟨-1, ev_bind s1 (ev_neg (by simp) ev_now), ev_bind s2 (ev_neg (by simp) ev_now)⟩
  obtain ⟨q, q1, q2⟩ := hboth
  exact ev_bind (toStore l h1) (ev_bind q1 (ev_bind (toStore l h1) (ev_bind q2 (ev_pos rfl (ev_bind (toStore l h1) (ev_bind (eqStore l h1) (ev_pos rfl ev_now)))))))
end Go.Proofs.Ytecjingcnaopdaa.PA
