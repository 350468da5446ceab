/- What the reference's LoadAt and the program's answer. No condition but that texts fit into memory, lists are of a length that a statement lets pass, and the tick is a whole number of the machine. -/
import Derived.Test.YtidkiabehmdofaaGreatDoorWorldOkBase
import Derived.Test.YtidkiabehmdofaaGreatDoorPAx0
import Derived.Test.YtidkiabehmdofaaGreatDoorPAx7
namespace Go.Proofs.YtidkiabehmdofaaGreatDoor.PA
open Go.RowKit Go.Proofs.YtidkiabehmdofaaGreatDoorW.PrintWords Go.Proofs.YtidkiabehmdofaaGreatDoorW.PrintLast Go.Proofs.YtidkiabehmdofaaGreatDoorW.PrintMore Go.Proofs.YtidkiabehmdofaaGreatDoor.Aid
set_option linter.unusedVariables false

/-- The load of a tick. -/
def loadAt (ok : Bool) (L : List Int) (s t : Int) : Int := if ok = true then (if t < 0 then 0 else rd L (if Int.tdiv t s ≥ (L.length : Int) then (L.length : Int) - 1 else Int.tdiv t s)) else 0

theorem world_parts {a b c : Int} {gs : List S48} {p1 : List S101} {u v : Int} {p2 : List S101} {d e m x : Int} {L : List Int} {w s n : Int} (h : worldOk a b c gs p1 u v p2 d e m x L w s n = true) :
    setupOk a b c gs p1 u v p2 d e m x = true ∧ (gs.length : Int) = 1 ∧ (1 ≤ (L.length : Int) ∧ (L.length : Int) ≤ 20) ∧ (1 ≤ s ∧ s ≤ 50) := by
  unfold worldOk worldTail at h
  simp only [Bool.and_eq_true, decide_eq_true_eq] at h
  exact ⟨h.2.1, h.2.2.1, inb_true h.2.2.2.2.1, inb_true h.2.2.2.2.2.2.1⟩

theorem div_range (t s : Int) (h0 : 0 ≤ t) (hs : 1 ≤ s) : 0 ≤ Int.tdiv t s ∧ Int.tdiv t s ≤ t := by
  rw [Int.tdiv_eq_ediv_of_nonneg h0]
  exact ⟨Int.ediv_nonneg h0 (by omega), Int.ediv_le_self _ h0⟩

section
variable (a b c : Int) (gs : List S48) (p1 : List S101) (u v : Int) (p2 : List S101) (d e m x : Int) (L : List Int) (w s n t : Int)
variable (hf : FitsG gs) (hl : gs.length ≤ 1048577) (h1 : p1.length ≤ 1048577) (h2 : p2.length ≤ 1048577) (hL : L.length ≤ 1048577) (ht : t ≤ 9223372036854775807)
include hf hl h1 h2 hL ht

theorem specLoadAt : Ev (fun k => spec_LoadAt.f k a b c gs p1 u v p2 d e m x L w s n t) (loadAt (worldOk a b c gs p1 u v p2 d e m x L w s n) L s t) := by
  unfold spec_LoadAt.f loadAt
  refine ev_bind (specWorld a b c gs p1 u v p2 d e m x L w s n hf hl h1 h2 hL) (ev_test (fun h => ?_) (fun h => ?_))
  · obtain ⟨_, _, hL2, hs⟩ := world_parts h
    rw [if_pos h]
    by_cases c0 : t < 0
    · rw [if_pos c0, decide_eq_true c0]
      exact spec_LoadAt.j0.st (ev_pos rfl ev_now)
    · rw [if_neg c0, decide_eq_false c0]
      have hd := div_range t s (by omega) hs.1
      have e1 : wrap64 (Int.tdiv t s) = Int.tdiv t s := w64 (by omega) (by omega)
      have e2 : wrap64 ((L.length : Int) - 1) = (L.length : Int) - 1 := w64 (by omega) (by omega)
      refine spec_LoadAt.j0.st (ev_neg (by simp) (ev_neg (by omega) ?_))
      rw [e1, e2]
      by_cases c1 : Int.tdiv t s ≥ (L.length : Int)
      · have hv : (if Int.tdiv t s ≥ (L.length : Int) then (L.length : Int) - 1 else Int.tdiv t s) = (L.length : Int) - 1 := if_pos c1
        rw [hv]
        exact ev_pos c1 (ev_pos (by omega) (ev_pos (by omega) ev_now))
      · have hv : (if Int.tdiv t s ≥ (L.length : Int) then (L.length : Int) - 1 else Int.tdiv t s) = Int.tdiv t s := if_neg c1
        rw [hv]
        exact ev_neg c1 (ev_pos (by omega) (ev_pos (by omega) ev_now))
  · rw [if_neg (by rw [h]; simp)]
    exact spec_LoadAt.j0.st (ev_pos rfl ev_now)

theorem implLoadAt : Ev (fun k => impl_LoadAt.f k a b c gs p1 u v p2 d e m x L w s n t) (loadAt (worldOk a b c gs p1 u v p2 d e m x L w s n) L s t) := by
  unfold impl_LoadAt.f loadAt
  refine ev_bind (implWorld a b c gs p1 u v p2 d e m x L w s n hf hl h1 h2 hL) (ev_test (fun h => ?_) (fun h => ?_))
  · obtain ⟨_, _, hL2, hs⟩ := world_parts h
    rw [if_pos h]
    by_cases c0 : t < 0
    · have hv : (if t < 0 then (0 : Int) else rd L (if Int.tdiv t s ≥ (L.length : Int) then (L.length : Int) - 1 else Int.tdiv t s)) = 0 := if_pos c0
      rw [hv]
      exact ev_pos c0 ev_now
    · have hv : (if t < 0 then (0 : Int) else rd L (if Int.tdiv t s ≥ (L.length : Int) then (L.length : Int) - 1 else Int.tdiv t s)) = rd L (if Int.tdiv t s ≥ (L.length : Int) then (L.length : Int) - 1 else Int.tdiv t s) := if_neg c0
      rw [hv]
      have hd := div_range t s (by omega) hs.1
      have e1 : wrap64 (Int.tdiv t s) = Int.tdiv t s := w64 (by omega) (by omega)
      have e2 : wrap64 ((L.length : Int) - 1) = (L.length : Int) - 1 := w64 (by omega) (by omega)
      have e3 : mn (Int.tdiv t s) ((L.length : Int) - 1) = if Int.tdiv t s ≥ (L.length : Int) then (L.length : Int) - 1 else Int.tdiv t s := by
        rcases mn_cases (Int.tdiv t s) ((L.length : Int) - 1) with ⟨g1, g2⟩ | ⟨g1, g2⟩
        · rw [g2]
          split <;> omega
        · rw [g2]
          split <;> omega
      refine ev_neg c0 (ev_neg (by omega) ?_)
      rw [e1, e2, e3]
      refine ev_pos ?_ (ev_pos ?_ ev_now)
      · split <;> omega
      · split <;> omega
  · rw [if_neg (by rw [h]; simp)]
    exact ev_now
end
end Go.Proofs.YtidkiabehmdofaaGreatDoor.PA
