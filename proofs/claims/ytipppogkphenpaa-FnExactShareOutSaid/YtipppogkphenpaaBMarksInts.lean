/- The marks of a list of whole numbers are found again as they were written. No condition but that the list is short. -/
import Derived.Test.YtipppogkphenpaaAid
import Derived.Test.YtipppogkphenpaaPBx2
namespace Go.Proofs.Ytipppogkphenpaa.PB
open Go.RowKit Go.Proofs.YtipppogkphenpaaW.PrintWords Go.Proofs.YtipppogkphenpaaW.PrintLast Go.Proofs.YtipppogkphenpaaW.PrintMore Go.Proofs.Ytipppogkphenpaa.Aid
set_option linter.unusedVariables false
theorem markInts_l0 (n : Nat) (hn : n ≤ 1048577) : ∀ (d i : Nat) (ys : List Int), i + d = n → ys.length = n →
    ∃ zs : List Int, Ev (fun k => laws_markIntS.l0 k ys (1 + (i : Int)) (i : Int)) (1 + (n : Int), zs) ∧ zs.length = n ∧ (∀ j, j < i → zs[j]? = ys[j]?) ∧ ∀ j, i ≤ j → j < n → zs[j]? = some (1 + (j : Int)) := by
  intro d
  induction d with
  | zero =>
    intro i ys hi hy
    obtain rfl : i = n := by omega
    exact ⟨ys, laws_markIntS.l0.st (ev_neg (by omega) ev_now), hy, fun _ _ => rfl, fun j h1 h2 => absurd h1 (by omega)⟩
  | succ d ih =>
    intro i ys hi hy
    obtain ⟨zs, he, hl, h1, h2⟩ := ih (i + 1) (ys.set i (1 + (i : Int))) (by omega) (by rw [List.length_set]; exact hy)
    have e1 : wrap64 ((1 + (i : Int)) + 1) = 1 + ((i + 1 : Nat) : Int) := by rw [w64 (by omega) (by omega)]; omega
    have e5 : wrap64 ((i : Int) + 1) = ((i + 1 : Nat) : Int) := w64 (by omega) (by omega)
    refine ⟨zs, laws_markIntS.l0.st (ev_pos (by omega) (ev_pos (by omega) ?_)), hl, ?_, ?_⟩
    · simp only [Int.toNat_natCast, e1, e5]
      exact he
    · intro j hj
      rw [h1 j (by omega), List.getElem?_set_ne (by omega)]
    · intro j hj hjn
      by_cases hji : j = i
      · subst hji
        rw [h1 j (by omega), List.getElem?_set_self (by omega)]
      · exact h2 j (by omega) hjn

theorem heldInts_l0 (n : Nat) (hn : n ≤ 1048577) (zs : List Int) (hl : zs.length = n) (h : ∀ j, j < n → zs[j]? = some (1 + (j : Int))) : ∀ (d i : Nat), i + d = n →
    Ev (fun k => laws_heldIntS.l0 k zs (1 + (i : Int)) (i : Int)) (1 + (n : Int)) := by
  intro d
  induction d with
  | zero =>
    intro i hi
    obtain rfl : i = n := by omega
    exact laws_heldIntS.l0.st (ev_neg (by omega) ev_now)
  | succ d ih =>
    intro i hi
    have e1 : wrap64 ((1 + (i : Int)) + 1) = 1 + ((i + 1 : Nat) : Int) := by rw [w64 (by omega) (by omega)]; omega
    have e5 : wrap64 ((i : Int) + 1) = ((i + 1 : Nat) : Int) := w64 (by omega) (by omega)
    have hat : rd zs (i : Int) = 1 + (i : Int) := by
      have h1 := h i (by omega)
      unfold rd
      rw [Int.toNat_natCast, List.getD_eq_getElem?_getD, h1]
      rfl
    refine laws_heldIntS.l0.st (ev_pos (by omega) (ev_pos (by omega) (ev_pos hat ?_)))
    simp only [e1, e5]
    exact ih (i + 1) (by omega)

theorem marksInts (ys : List Int) (hn : ys.length ≤ 1048577) : ∃ (m : Int) (zs : List Int), Ev (fun k => laws_markIntS.f k ys 1) (m, zs) ∧ Ev (fun k => laws_heldIntS.f k zs 1) m ∧ ¬ m < 0 := by
  obtain ⟨zs, he, hl, _, h2⟩ := markInts_l0 ys.length hn ys.length 0 ys (by omega) rfl
  refine ⟨1 + (ys.length : Int), zs, ?_, ?_, by omega⟩
  · unfold laws_markIntS.f
    exact he
  · unfold laws_heldIntS.f
    exact heldInts_l0 ys.length hn zs hl (fun j hj => h2 j (Nat.zero_le _) hj) ys.length 0 (by omega)
end Go.Proofs.Ytipppogkphenpaa.PB
