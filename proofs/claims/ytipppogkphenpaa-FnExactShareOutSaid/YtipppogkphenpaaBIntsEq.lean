/- Comparisons of lists of whole numbers. No condition but that the lists are short. -/
import Derived.Test.YtipppogkphenpaaAid
import Derived.Test.YtipppogkphenpaaPBx1
namespace Go.Proofs.Ytipppogkphenpaa.PB
open Go.RowKit Go.Proofs.YtipppogkphenpaaW.PrintWords Go.Proofs.YtipppogkphenpaaW.PrintLast Go.Proofs.YtipppogkphenpaaW.PrintMore Go.Proofs.Ytipppogkphenpaa.Aid
set_option linter.unusedVariables false

theorem rd_head {xs : List Int} {j : Nat} {x : Int} {t : List Int} (h : xs.drop j = x :: t) : rd xs (j : Int) = x := by
  have h1 : (xs.drop j)[0]? = some x := by rw [h]; rfl
  rw [List.getElem?_drop, Nat.add_zero] at h1
  unfold rd
  rw [Int.toNat_natCast, List.getD_eq_getElem?_getD, h1]
  rfl

theorem drop_lt {α : Type} {xs : List α} {j : Nat} {x : α} {t : List α} (h : xs.drop j = x :: t) : j < xs.length := by
  have h1 : (xs.drop j).length = t.length + 1 := by rw [h]; rfl
  rw [List.length_drop] at h1
  omega

theorem drop_next {α : Type} {xs : List α} {j : Nat} {x : α} {t : List α} (h : xs.drop j = x :: t) : xs.drop (j + 1) = t := by
  rw [← List.drop_drop, h]
  rfl

theorem drop_end {α : Type} {xs : List α} {j : Nat} (h : xs.drop j = []) : xs.length ≤ j := List.drop_eq_nil_iff.1 h


section walk
variable (xs : List Int)
theorem eq_l0 (hl : xs.length ≤ 1048576) (t : List Int) : ∀ (k j : Nat), xs.drop j = t → t.length < k → laws_eqIntS.l0 k xs xs (j : Int) = some true := by
  induction t with
  | nil =>
    intro k j hd hk
    obtain ⟨k, rfl⟩ : ∃ m, k = m + 1 := ⟨k - 1, by simp at hk; omega⟩
    have := drop_end hd
    simp only [laws_eqIntS.l0]
    rw [if_neg (by omega)]
  | cons x t ih =>
    intro k j hd hk
    obtain ⟨k, rfl⟩ : ∃ m, k = m + 1 := ⟨k - 1, by simp at hk; omega⟩
    have hj := drop_lt hd
    simp only [laws_eqIntS.l0]
    rw [if_pos (by omega), if_pos (by omega), if_pos (by omega), if_pos trivial, w64 (by omega) (by omega)]
    exact ih k (j + 1) (drop_next hd) (by simp at hk; omega)

theorem eq_f (hl : xs.length ≤ 1048576) (k : Nat) (hk : xs.length < k) : laws_eqIntS.f k xs xs = some true := by
  unfold laws_eqIntS.f
  rw [if_pos rfl]
  exact eq_l0 xs hl xs k 0 rfl hk
end walk
theorem eqInts (xs : List Int) (hl : xs.length ≤ 1048576) : Ev (fun k => laws_eqIntS.f k xs xs) true := ⟨xs.length + 1, fun k hk => eq_f xs hl k (by omega)⟩
end Go.Proofs.Ytipppogkphenpaa.PB
