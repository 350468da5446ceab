/- What the statements write into results that were handed back, and look for afterwards: the marks of a list of whole numbers and of a list of claims are found again as they were written. No condition but that the lists are short. -/
import Derived.Test.YtipppogkphenpaaDClaimsBase
import Derived.Test.YtipppogkphenpaaPDx0
import Derived.Test.YtipppogkphenpaaPDx1
namespace Go.Proofs.Ytipppogkphenpaa.PD
open Go.RowKit Go.Proofs.YtipppogkphenpaaW.PrintWords Go.Proofs.YtipppogkphenpaaW.PrintLast Go.Proofs.YtipppogkphenpaaW.PrintMore Go.Proofs.Ytipppogkphenpaa.Aid
set_option linter.unusedVariables false

theorem one_size (x : Int) : (strOfNums [x]).size = 1 := rfl

theorem markText_l0 : ∀ (m : Nat) (x : Int) (s : ByteArray), 0 ≤ x → x.toNat ≤ m → (s.size : Int) + x ≤ 4611686018427387904 → ∃ t, Ev (fun k => laws_markText.l0 k x s) t := by
  intro m
  induction m with
  | zero =>
    intro x s h0 h1 h2
    exact ⟨_, laws_markText.l0.st (ev_neg (by omega) (ev_pos (by omega) ev_now))⟩
  | succ m ih =>
    intro x s h0 h1 h2
    by_cases hx : x > 0
    · have hd : Int.tdiv x 10 = x / 10 := Int.tdiv_eq_ediv_of_nonneg h0
      have hq : 0 ≤ x / 10 ∧ x / 10 < x := by omega
      have hsz : ((strOfNums [(wrap64 (48 + (Int.tmod x 10))) % 256]) ++ s).size = 1 + s.size := by
        rw [ByteArray.size_append, one_size]
      obtain ⟨t, ht⟩ := ih (x / 10) ((strOfNums [(wrap64 (48 + (Int.tmod x 10))) % 256]) ++ s) hq.1 (by omega) (by rw [hsz]; omega)
      refine ⟨t, laws_markText.l0.st (ev_pos hx (ev_call (b := [(wrap64 (48 + (Int.tmod x 10))) % 256]) rfl (ev_pos (by rw [one_size]; omega) ?_)))⟩
      rw [hd, w64 (by omega) (by omega)]
      exact ht
    · exact ⟨_, laws_markText.l0.st (ev_neg hx (ev_pos (by omega) ev_now))⟩

theorem markText (x : Int) (h1 : x ≤ 1000000000000) : ∃ t, Ev (fun k => laws_markText.f k x) t := by
  unfold laws_markText.f
  by_cases h : x ≤ 0
  · exact ⟨_, ev_pos h ev_now⟩
  · obtain ⟨t, ht⟩ := markText_l0 x.toNat x ⟨#[]⟩ (by omega) (Nat.le_refl _) (by have : (⟨#[]⟩ : ByteArray).size = 0 := rfl; omega)
    exact ⟨t, ev_neg h ht⟩
open Classical in
/-- The text for a number. -/
noncomputable def mt (x : Int) : ByteArray := if h : x ≤ 1000000000000 then (markText x h).choose else ⟨#[]⟩
theorem mt_ev (x : Int) (h : x ≤ 1000000000000) : Ev (fun k => laws_markText.f k x) (mt x) := by
  unfold mt
  rw [dif_pos h]
  exact (markText x h).choose_spec

/-- What is marked at a count. -/
noncomputable def mk43 (c : Int) : S43 := ⟨mt c, c + 1, c + 2, c + 3⟩

theorem markClaims_l0 (n : Nat) (hn : n ≤ 1048577) : ∀ (d i : Nat) (ys : List S43), i + d = n → ys.length = n →
    ∃ zs : List S43, Ev (fun k => laws_markClaimS.l0 k ys (1 + 4 * (i : Int)) (i : Int)) (1 + 4 * (n : Int), zs) ∧ zs.length = n ∧ (∀ j, j < i → zs[j]? = ys[j]?) ∧ ∀ j, i ≤ j → j < n → zs[j]? = some (mk43 (1 + 4 * (j : Int))) := by
  intro d
  induction d with
  | zero =>
    intro i ys hi hy
    obtain rfl : i = n := by omega
    exact ⟨ys, laws_markClaimS.l0.st (ev_neg (by omega) ev_now), hy, fun _ _ => rfl, fun j h1 h2 => absurd h1 (by omega)⟩
  | succ d ih =>
    intro i ys hi hy
    obtain ⟨zs, he, hl, h1, h2⟩ := ih (i + 1) (ys.set i (mk43 (1 + 4 * (i : Int)))) (by omega) (by rw [List.length_set]; exact hy)
    have e1 : wrap64 ((1 + 4 * (i : Int)) + 1) = 1 + 4 * (i : Int) + 1 := w64 (by omega) (by omega)
    have e2 : wrap64 ((1 + 4 * (i : Int) + 1) + 1) = 1 + 4 * (i : Int) + 2 := by rw [w64 (by omega) (by omega)]; omega
    have e3 : wrap64 ((1 + 4 * (i : Int) + 2) + 1) = 1 + 4 * (i : Int) + 3 := by rw [w64 (by omega) (by omega)]; omega
    have e4 : wrap64 ((1 + 4 * (i : Int) + 3) + 1) = 1 + 4 * ((i + 1 : Nat) : Int) := by rw [w64 (by omega) (by omega)]; omega
    have e5 : wrap64 ((i : Int) + 1) = ((i + 1 : Nat) : Int) := w64 (by omega) (by omega)
    have hat : ∀ (zs : List S43) (v : S43), zs.length = n → rd_T43 (zs.set i v) (i : Int) = v := by
      intro zs v hz
      rw [rd_mem _ i (by rw [List.length_set]; omega), List.getElem_set_self]
    refine ⟨zs, laws_markClaimS.l0.st (ev_pos (by omega) (ev_bind (mt_ev _ (by omega)) (ev_pos (by omega) (ev_call rfl (ev_call rfl (ev_call rfl ?_)))))), hl, ?_, ?_⟩
    · simp only [Int.toNat_natCast, hat _ _ hy, List.set_set, e1, e2, e3, e4, e5]
      exact he
    · intro j hj
      rw [h1 j (by omega), List.getElem?_set_ne (by omega)]
    · intro j hj hjn
      by_cases hji : j = i
      · subst hji
        rw [h1 j (by omega), List.getElem?_set_self (by omega)]
      · exact h2 j (by omega) hjn

theorem heldClaims_l0 (n : Nat) (hn : n ≤ 1048577) (zs : List S43) (hl : zs.length = n) (h : ∀ j, j < n → zs[j]? = some (mk43 (1 + 4 * (j : Int)))) : ∀ (d i : Nat), i + d = n →
    Ev (fun k => laws_heldClaimS.l0 k zs (1 + 4 * (i : Int)) (i : Int)) (1 + 4 * (n : Int)) := by
  intro d
  induction d with
  | zero =>
    intro i hi
    obtain rfl : i = n := by omega
    exact laws_heldClaimS.l0.st (ev_neg (by omega) ev_now)
  | succ d ih =>
    intro i hi
    have e1 : wrap64 ((1 + 4 * (i : Int)) + 1) = 1 + 4 * (i : Int) + 1 := w64 (by omega) (by omega)
    have e2 : wrap64 ((1 + 4 * (i : Int) + 1) + 1) = 1 + 4 * (i : Int) + 2 := by rw [w64 (by omega) (by omega)]; omega
    have e3 : wrap64 ((1 + 4 * (i : Int) + 2) + 1) = 1 + 4 * (i : Int) + 3 := by rw [w64 (by omega) (by omega)]; omega
    have e4 : wrap64 ((1 + 4 * (i : Int) + 3) + 1) = 1 + 4 * ((i + 1 : Nat) : Int) := by rw [w64 (by omega) (by omega)]; omega
    have e5 : wrap64 ((i : Int) + 1) = ((i + 1 : Nat) : Int) := w64 (by omega) (by omega)
    have hat : rd_T43 zs (i : Int) = mk43 (1 + 4 * (i : Int)) := by
      have h1 := h i (by omega)
      rw [List.getElem?_eq_getElem (by omega)] at h1
      rw [rd_mem _ i (by omega)]
      exact Option.some.inj h1
    refine laws_heldClaimS.l0.st (ev_pos (by omega) (ev_pos (by omega) (ev_bind (mt_ev _ (by omega)) ?_)))
    simp only [hat, e1, e2, e3, e4, e5]
    refine ev_pos rfl (ev_pos rfl (ev_pos rfl (ev_pos rfl (ih (i + 1) (by omega)))))

/-- Marks are found again. -/
theorem marksClaims (ys : List S43) (hn : ys.length ≤ 1048577) : ∃ (m : Int) (zs : List S43), Ev (fun k => laws_markClaimS.f k ys 1) (m, zs) ∧ Ev (fun k => laws_heldClaimS.f k zs 1) m ∧ ¬ m < 0 := by
  obtain ⟨zs, he, hl, _, h2⟩ := markClaims_l0 ys.length hn ys.length 0 ys (by omega) rfl
  refine ⟨1 + 4 * (ys.length : Int), zs, ?_, ?_, by omega⟩
  · unfold laws_markClaimS.f
    exact he
  · unfold laws_heldClaimS.f
    exact heldClaims_l0 ys.length hn zs hl (fun j hj => h2 j (Nat.zero_le _) hj) ys.length 0 (by omega)
end Go.Proofs.Ytipppogkphenpaa.PD
