/- The plain statement of FnWorldTexts, for a world whose texts fit into memory and whose lists are of a length that a statement lets pass, and a tick that is a whole number of the machine: both texts are one; it is empty just where the world is not good; else ParseWorld gives the world back, and IdealAt and LoadAt answer as the reference's, the ideal count within Min and Max or the model's most. No further condition. -/
import Derived.Test.YtidkiabehmdofaaGreatDoorWorldTextW
import Derived.Test.YtidkiabehmdofaaGreatDoorIdealAtW
import Derived.Test.YtidkiabehmdofaaGreatDoorParseWorldW
import Derived.Test.YtidkiabehmdofaaGreatDoorPAx0
import Derived.Test.YtidkiabehmdofaaGreatDoorPAx5
import Derived.Test.YtidkiabehmdofaaGreatDoorPAx6
import Derived.Test.YtidkiabehmdofaaGreatDoorPAx7
namespace Go.Proofs.YtidkiabehmdofaaGreatDoor.PA
open Go.RowKit Go.Proofs.YtidkiabehmdofaaGreatDoorW.PrintWords Go.Proofs.YtidkiabehmdofaaGreatDoorW.PrintLast Go.Proofs.YtidkiabehmdofaaGreatDoorW.PrintMore Go.Proofs.YtidkiabehmdofaaGreatDoor.Aid
set_option linter.unusedVariables false

theorem ev_one {α : Type} {f : Nat → Option α} {x y : α} (h1 : Ev f x) (h2 : Ev f y) : x = y := by
  obtain ⟨k1, e1⟩ := h1
  obtain ⟨k2, e2⟩ := h2
  exact Option.some.inj ((e1 (k1 + k2) (by omega)).symm.trans (e2 (k1 + k2) (by omega)))
theorem text_full (n w s : Nat) (L : List Int) : (worldText n w s L).toList.isEmpty = false := by
  have h : (worldText n w s L).data.toList ≠ [] := by
    rw [line_glue]
    unfold lineB
    simp only [List.map_cons]
    rw [glue_cons _ _ _ (by simp)]
    simp
  rw [ByteArray.toList_eq]
  exact List.isEmpty_eq_false_iff.2 h
theorem text_none : (⟨#[]⟩ : ByteArray).toList.isEmpty = true := by rw [ByteArray.toList_eq]; rfl

theorem textsLaw (a b c : Int) (gs : List S48) (p1 : List S101) (u v : Int) (p2 : List S101) (d e m x : Int) (L : List Int) (w s n t : Int)
    (hf : FitsG gs) (hl : gs.length ≤ 1048577) (h1 : p1.length ≤ 1048577) (h2 : p2.length ≤ 1048577) (hL : L.length ≤ 1048577) (ht : t ≤ 9223372036854775807) :
    ∃ (k : Nat) (good : Bool) (T : ByteArray), impl_WorldText.f k a b c gs p1 u v p2 d e m x L w s n = some T ∧ spec_WorldText.f k a b c gs p1 u v p2 d e m x L w s n = some T ∧
      spec_WorldOk.f k a b c gs p1 u v p2 d e m x L w s n = some good ∧ T.toList.isEmpty = !good ∧
      (good = true → impl_ParseWorld.f k T a b c gs p1 u v p2 d e m x = some (a, b, c, gs, p1, u, v, p2, d, e, m, x, L, w, s, n, true) ∧
        ∃ r q, impl_IdealAt.f k a b c gs p1 u v p2 d e m x L w s n t = some r ∧ spec_IdealAt.f k a b c gs p1 u v p2 d e m x L w s n t = some r ∧ (r ≤ x ∧ (m ≤ r ∨ r = 12)) ∧
          impl_LoadAt.f k a b c gs p1 u v p2 d e m x L w s n t = some q ∧ spec_LoadAt.f k a b c gs p1 u v p2 d e m x L w s n t = some q) := by
  obtain ⟨k1, e1⟩ := implWorldText a b c gs p1 u v p2 d e m x L w s n hf hl h1 h2 hL
  obtain ⟨k2, e2⟩ := specWorldText a b c gs p1 u v p2 d e m x L w s n hf hl h1 h2 hL
  obtain ⟨k3, e3⟩ := specWorld a b c gs p1 u v p2 d e m x L w s n hf hl h1 h2 hL
  cases hok : worldOk a b c gs p1 u v p2 d e m x L w s n with
  | false =>
    rw [hok] at e1 e2 e3
    exact ⟨k1 + k2 + k3, false, ⟨#[]⟩, e1 _ (by omega), e2 _ (by omega), e3 _ (by omega), text_none, fun h => absurd h (by simp)⟩
  | true =>
    rw [hok, if_pos rfl] at e1 e2
    rw [hok] at e3
    obtain ⟨k4, e4⟩ := implBack a b c gs p1 u v p2 d e m x hf hl h1 h2 L w s n hok
    obtain ⟨r, ⟨k5, e5⟩, ⟨k6, e6⟩, hr⟩ := idealBoth a b c gs p1 u v p2 d e m x L w s n t hf hl h1 h2 hL ht
    obtain ⟨k7, e7⟩ := implLoadAt a b c gs p1 u v p2 d e m x L w s n t hf hl h1 h2 hL ht
    obtain ⟨k8, e8⟩ := specLoadAt a b c gs p1 u v p2 d e m x L w s n t hf hl h1 h2 hL ht
    exact ⟨k1 + k2 + k3 + k4 + k5 + k6 + k7 + k8, true, worldText n.toNat w.toNat s.toNat L, e1 _ (by omega), e2 _ (by omega), e3 _ (by omega), text_full _ _ _ _, fun _ => ⟨e4 _ (by omega), r, _, e6 _ (by omega), e5 _ (by omega), hr hok, e7 _ (by omega), e8 _ (by omega)⟩⟩
end Go.Proofs.YtidkiabehmdofaaGreatDoor.PA
