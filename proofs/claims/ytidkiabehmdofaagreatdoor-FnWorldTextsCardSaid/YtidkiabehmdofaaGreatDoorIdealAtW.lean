/- What the reference's IdealAt and the program's answer: one number, and for a good world it lies within Min and Max or is the model's most. No condition but that texts fit into memory, lists are of a length that a statement lets pass, and the tick is a whole number of the machine. -/
import Derived.Test.YtidkiabehmdofaaGreatDoorLoadAtW
import Derived.Test.YtidkiabehmdofaaGreatDoorPAx0
import Derived.Test.YtidkiabehmdofaaGreatDoorPAx7
namespace Go.Proofs.YtidkiabehmdofaaGreatDoor.PA
open Go.RowKit Go.Proofs.YtidkiabehmdofaaGreatDoorW.PrintWords Go.Proofs.YtidkiabehmdofaaGreatDoorW.PrintLast Go.Proofs.YtidkiabehmdofaaGreatDoorW.PrintMore Go.Proofs.YtidkiabehmdofaaGreatDoor.Aid
set_option linter.unusedVariables false

theorem ceilBoth (x y : Int) : ∃ r, spec_CeilDiv.f x y = some r ∧ impl_CeilDiv.f x y = some r := by
  unfold spec_CeilDiv.f impl_CeilDiv.f
  by_cases h : y < 1
  · exact ⟨0, by rw [if_pos h], by rw [if_pos h]⟩
  · rw [if_neg h, if_neg (show ¬ y = 0 by omega)]
    by_cases h2 : Int.tmod x y > 0
    · exact ⟨_, by rw [if_pos h2], by rw [if_pos h2]⟩
    · exact ⟨_, by rw [if_neg h2], by rw [if_neg h2]⟩

theorem idealBoth (a b c : Int) (gs : List S48) (p1 : List S101) (u v : Int) (p2 : List S101) (d e m x : Int) (L : List Int) (w s n t : Int)
    (hf : FitsG gs) (hl : gs.length ≤ 1048577) (h1 : p1.length ≤ 1048577) (h2 : p2.length ≤ 1048577) (hL : L.length ≤ 1048577) (ht : t ≤ 9223372036854775807) :
    ∃ r, Ev (fun k => spec_IdealAt.f k a b c gs p1 u v p2 d e m x L w s n t) r ∧ Ev (fun k => impl_IdealAt.f k a b c gs p1 u v p2 d e m x L w s n t) r ∧ (worldOk a b c gs p1 u v p2 d e m x L w s n = true → r ≤ x ∧ (m ≤ r ∨ r = 12)) := by
  unfold spec_IdealAt.f impl_IdealAt.f
  have w1 := specWorld a b c gs p1 u v p2 d e m x L w s n hf hl h1 h2 hL
  have w2 := implWorld a b c gs p1 u v p2 d e m x L w s n hf hl h1 h2 hL
  have y1 := specLoadAt a b c gs p1 u v p2 d e m x L w s n t hf hl h1 h2 hL ht
  have y2 := implLoadAt a b c gs p1 u v p2 d e m x L w s n t hf hl h1 h2 hL ht
  cases h : worldOk a b c gs p1 u v p2 d e m x L w s n with
  | false =>
    rw [h] at w1 w2
    exact ⟨-1, ev_bind w1 (ev_neg (by simp) ev_now), ev_bind w2 (ev_neg (by simp) ev_now), fun h_ => absurd h_ (by simp)⟩
  | true =>
    obtain ⟨hset, hg1, hL2, hs⟩ := world_parts h
    rw [h] at w1 w2 y1 y2
    obtain ⟨q, q1, q2⟩ := ceilBoth (loadAt true L s t) (rd_T48 gs 0).f1
    have hmx : m ≤ x := by
      unfold setupOk behaveOk at hset
      simp only [Bool.and_eq_true, decide_eq_true_eq] at hset
      exact hset.2.2.1.2.2.2.1
    have hcut : spec_l06Cut.f q m x = some (mn (mx q m) x) := by
      unfold spec_l06Cut.f
      by_cases c1 : q < m
      · rw [if_pos c1]
        rcases mx_cases q m with ⟨g1, g2⟩ | ⟨g1, g2⟩
        · rw [g2]
          rcases mn_cases m x with ⟨g3, g4⟩ | ⟨g3, g4⟩
          · omega
          · rw [g4]
        · omega
      · rw [if_neg c1]
        rcases mx_cases q m with ⟨g1, g2⟩ | ⟨g1, g2⟩
        · omega
        · rw [g2]
          by_cases c2 : q > x
          · rw [if_pos c2]
            rcases mn_cases q x with ⟨g3, g4⟩ | ⟨g3, g4⟩
            · rw [g4]
            · omega
          · rw [if_neg c2]
            rcases mn_cases q x with ⟨g3, g4⟩ | ⟨g3, g4⟩
            · omega
            · rw [g4]
    refine ⟨mn (mn (mx q m) x) 12, ev_bind w1 (ev_pos rfl (ev_bind y1 (ev_pos (by omega) (ev_call q1 (ev_call hcut (ev_ite (fun c3 => ev_val ?_) (fun c3 => ev_val ?_))))))), ev_bind w2 (ev_pos rfl (ev_bind y2 (ev_pos (by omega) (ev_call q2 ev_now)))), fun _ => ?_⟩
    · rcases mn_cases (mn (mx q m) x) 12 with ⟨g3, g4⟩ | ⟨g3, g4⟩
      · rw [g4]
      · omega
    · rcases mn_cases (mn (mx q m) x) 12 with ⟨g3, g4⟩ | ⟨g3, g4⟩
      · omega
      · rw [g4]
    · rcases mn_cases (mn (mx q m) x) 12 with ⟨g3, g4⟩ | ⟨g3, g4⟩ <;> rcases mn_cases (mx q m) x with ⟨g5, g6⟩ | ⟨g5, g6⟩ <;> rcases mx_cases q m with ⟨g7, g8⟩ | ⟨g7, g8⟩ <;> omega

end Go.Proofs.YtidkiabehmdofaaGreatDoor.PA
