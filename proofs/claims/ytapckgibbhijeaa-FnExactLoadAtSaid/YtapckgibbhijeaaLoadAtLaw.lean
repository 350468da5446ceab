/- The plain statement of FnExactLoadAt: for every world that fits into memory and every tick the reference's LoadAt and the program's give one answer, and the world that was handed over is as it was. No further condition. -/
import Derived.Test.YtapckgibbhijeaaLoadAtBase
import Derived.Test.YtapckgibbhijeaaPAx0
import Derived.Test.YtapckgibbhijeaaPAx8
namespace Go.Proofs.Ytapckgibbhijeaa.PA
open Go.RowKit Go.Proofs.YtapckgibbhijeaaW.PrintWords Go.Proofs.YtapckgibbhijeaaW.PrintLast Go.Proofs.YtapckgibbhijeaaW.PrintMore Go.Proofs.Ytapckgibbhijeaa.Aid
set_option linter.unusedVariables false

theorem plainLoadAt (a b c : Int) (gs : List S78) (p1 : List S93) (u v : Int) (p2 : List S93) (d e m x : Int) (L : List Int) (w s n t : Int)
    (hg : gs.length ≤ 9223372036854775807 ∧ ∀ x ∈ gs, x.f0.size ≤ 9223372036854775807) (h1 : p1.length ≤ 9223372036854775807) (h2 : p2.length ≤ 9223372036854775807) (hL : L.length ≤ 9223372036854775807) (ht : t ≤ 9223372036854775807) :
    Ev (fun k => laws_FnExactLoadAt.f k a b c gs p1 u v p2 d e m x L w s n t) true := by
  unfold laws_FnExactLoadAt.f
  obtain ⟨r, hr, hrl⟩ := szWorld a b c gs p1 u v p2 d e m x L w s n hg h1 h2 hL
  refine ev_bind hr (ev_ite (fun _ => ev_now) (fun h => ?_))
  obtain ⟨q1, q2, q3, q4⟩ := hrl h
  have y := toWorld a b c gs p1 u v p2 d e m x L w s n q1 q2 q3 q4
  have l1 : (gs.map convG).length ≤ 1048577 := by rw [List.length_map]; omega
  have l2 : (p1.map convP).length ≤ 1048577 := by rw [List.length_map]; omega
  have l3 : (p2.map convP).length ≤ 1048577 := by rw [List.length_map]; omega
  exact ev_bind y (ev_bind (specLoadAt a b c (gs.map convG) (p1.map convP) u v (p2.map convP) d e m x L w s n t (FitsG.conv hg.2) l1 l2 l3 (by omega) ht) (ev_bind y (ev_bind (implLoadAt a b c (gs.map convG) (p1.map convP) u v (p2.map convP) d e m x L w s n t (FitsG.conv hg.2) l1 l2 l3 (by omega) ht)
    (ev_pos rfl (ev_bind y (ev_bind (eqWorld a b c (gs.map convG) (p1.map convP) u v (p2.map convP) d e m x L w s n l1 l2 l3 (by omega)) (ev_pos rfl ev_now)))))))
end Go.Proofs.Ytapckgibbhijeaa.PA
