/- What the statement on series writes into results that were handed back, and looks for afterwards: the marks of a list of points are found again as they were written; the marks of a store are counted. No condition but that the lists are short. -/
import Derived.Test.YtecjingcnaopdaaSStoreCopies
import Derived.Test.YtecjingcnaopdaaPSx0
import Derived.Test.YtecjingcnaopdaaPSx4
namespace Go.Proofs.Ytecjingcnaopdaa.PS
open Go.RowKit Go.Proofs.YtecjingcnaopdaaW.PrintWords Go.Proofs.YtecjingcnaopdaaW.PrintLast Go.Proofs.YtecjingcnaopdaaW.PrintMore Go.Proofs.Ytecjingcnaopdaa.Aid
set_option linter.unusedVariables false

theorem one_size (x : Int) : (strOfNums [x]).size = 1 := rfl

theorem markText_l0 : ∀ (m : Nat) (x : Int) (s : ByteArray), 0 ≤ x → x.toNat ≤ m → (s.size : Int) + x ≤ 4611686018427387904 → ∃ t, Ev (fun k => laws_markText.l0 k x s) t := by
  intro m
  induction m with
  | zero =>
    intro x s h0 h1 h2
    exact ⟨_, laws_markText.l0.st (ev_neg (by omega) (ev_pos (by omega) ev_now))⟩
  | succ m ih =>
    intro x s h0 h1 h2
    by_cases hx : x > 0
    · have hd : Int.tdiv x 10 = x / 10 := Int.tdiv_eq_ediv_of_nonneg h0
      have hq : 0 ≤ x / 10 ∧ x / 10 < x := by omega
      have hsz : ((strOfNums [(wrap64 (48 + (Int.tmod x 10))) % 256]) ++ s).size = 1 + s.size := by
        rw [ByteArray.size_append, one_size]
      obtain ⟨t, ht⟩ := ih (x / 10) ((strOfNums [(wrap64 (48 + (Int.tmod x 10))) % 256]) ++ s) hq.1 (by omega) (by rw [hsz]; omega)
      refine ⟨t, laws_markText.l0.st (ev_pos hx (ev_call (b := [(wrap64 (48 + (Int.tmod x 10))) % 256]) rfl (ev_pos (by rw [one_size]; omega) ?_)))⟩
      rw [hd, w64 (by omega) (by omega)]
      exact ht
    · exact ⟨_, laws_markText.l0.st (ev_neg hx (ev_pos (by omega) ev_now))⟩

theorem markText (x : Int) (h1 : x ≤ 4611686018427387904) : ∃ t, Ev (fun k => laws_markText.f k x) t := by
  unfold laws_markText.f
  by_cases h : x ≤ 0
  · exact ⟨_, ev_pos h ev_now⟩
  · obtain ⟨t, ht⟩ := markText_l0 x.toNat x ⟨#[]⟩ (by omega) (Nat.le_refl _) (by have : (⟨#[]⟩ : ByteArray).size = 0 := rfl; omega)
    exact ⟨t, ev_neg h ht⟩

theorem markPoints_l0 (c : Int) (hc : 0 ≤ c ∧ c ≤ 1152921504606846976) (n : Nat) (hn : n ≤ 1048577) : ∀ (d i : Nat) (ys : List S31), i + d = n → ys.length = n →
    ∃ zs : List S31, Ev (fun k => laws_markPointS.l0 k ys (c + 2 * (i : Int)) (i : Int)) (c + 2 * (n : Int), zs) ∧ zs.length = n ∧ (∀ j, j < i → zs[j]? = ys[j]?) ∧ ∀ j : Nat, i ≤ j → j < n → zs[j]? = some ⟨c + 2 * (j : Int), c + 2 * (j : Int) + 1⟩ := by
  intro d
  induction d with
  | zero =>
    intro i ys hi hy
    obtain rfl : i = n := by omega
    exact ⟨ys, laws_markPointS.l0.st (ev_neg (by omega) ev_now), hy, fun _ _ => rfl, fun j h1 h2 => absurd h1 (by omega)⟩
  | succ d ih =>
    intro i ys hi hy
    obtain ⟨zs, he, hl, h1, h2⟩ := ih (i + 1) (ys.set i (⟨c + 2 * (i : Int), c + 2 * (i : Int) + 1⟩ : S31)) (by omega) (by rw [List.length_set]; exact hy)
    have e1 : wrap64 ((c + 2 * (i : Int)) + 1) = c + 2 * (i : Int) + 1 := w64 (by omega) (by omega)
    have e2 : wrap64 ((c + 2 * (i : Int) + 1) + 1) = c + 2 * ((i + 1 : Nat) : Int) := by rw [w64 (by omega) (by omega)]; omega
    have e5 : wrap64 ((i : Int) + 1) = ((i + 1 : Nat) : Int) := w64 (by omega) (by omega)
    have hat : ∀ (zs : List S31) (v : S31), zs.length = n → rd_T31 (zs.set i v) (i : Int) = v := by
      intro zs v hz
      rw [rd31_mem _ i (by rw [List.length_set]; omega), List.getElem_set_self]
    refine ⟨zs, laws_markPointS.l0.st (ev_pos (by omega) (ev_pos (by omega) (ev_call rfl ?_))), hl, ?_, ?_⟩
    · simp only [Int.toNat_natCast, hat _ _ hy, List.set_set, e1, e2, e5]
      exact he
    · intro j hj
      rw [h1 j (by omega), List.getElem?_set_ne (by omega)]
    · intro j hj hjn
      by_cases hji : j = i
      · subst hji
        rw [h1 j (by omega), List.getElem?_set_self (by omega)]
      · exact h2 j (by omega) hjn

theorem markPoints (c : Int) (hc : 0 ≤ c ∧ c ≤ 1152921504606846976) (ys : List S31) (hn : ys.length ≤ 1048577) : ∃ zs : List S31, Ev (fun k => laws_markPointS.f k ys c) (c + 2 * (ys.length : Int), zs) ∧ zs.length = ys.length ∧ ∀ j : Nat, j < ys.length → zs[j]? = some ⟨c + 2 * (j : Int), c + 2 * (j : Int) + 1⟩ := by
  obtain ⟨zs, he, hl, _, h2⟩ := markPoints_l0 c hc ys.length hn ys.length 0 ys (by omega) rfl
  refine ⟨zs, ?_, hl, fun j hj => h2 j (Nat.zero_le _) hj⟩
  unfold laws_markPointS.f
  have : c + 2 * ((0 : Nat) : Int) = c := by omega
  rw [this] at he
  exact he

theorem heldPoints_l0 (n : Nat) (hn : n ≤ 1048577) (zs : List S31) (hl : zs.length = n) (h : ∀ j : Nat, j < n → zs[j]? = some ⟨1 + 2 * (j : Int), 1 + 2 * (j : Int) + 1⟩) : ∀ (d i : Nat), i + d = n →
    Ev (fun k => laws_heldPointS.l0 k zs (1 + 2 * (i : Int)) (i : Int)) (1 + 2 * (n : Int)) := by
  intro d
  induction d with
  | zero =>
    intro i hi
    obtain rfl : i = n := by omega
    exact laws_heldPointS.l0.st (ev_neg (by omega) ev_now)
  | succ d ih =>
    intro i hi
    have e1 : wrap64 ((1 + 2 * (i : Int)) + 1) = 1 + 2 * (i : Int) + 1 := w64 (by omega) (by omega)
    have e2 : wrap64 ((1 + 2 * (i : Int) + 1) + 1) = 1 + 2 * ((i + 1 : Nat) : Int) := by rw [w64 (by omega) (by omega)]; omega
    have e5 : wrap64 ((i : Int) + 1) = ((i + 1 : Nat) : Int) := w64 (by omega) (by omega)
    have hat : rd_T31 zs (i : Int) = ⟨1 + 2 * (i : Int), 1 + 2 * (i : Int) + 1⟩ := by
      have h1 := h i (by omega)
      rw [List.getElem?_eq_getElem (by omega)] at h1
      rw [rd31_mem _ i (by omega)]
      exact Option.some.inj h1
    have hn := ih (i + 1) (by omega)
    refine laws_heldPointS.l0.st (ev_pos (by omega) (ev_pos (by omega) ?_))
    rw [hat, e1, e2, e5]
    exact ev_pos rfl (ev_pos rfl hn)

theorem marksPoints (ys : List S31) (hn : ys.length ≤ 1048577) : ∃ (m : Int) (zs : List S31), Ev (fun k => laws_markPointS.f k ys 1) (m, zs) ∧ Ev (fun k => laws_heldPointS.f k zs 1) m ∧ ¬ m < 0 := by
  obtain ⟨zs, he, hl, h2⟩ := markPoints 1 ⟨by omega, by omega⟩ ys hn
  refine ⟨_, zs, he, ?_, by omega⟩
  unfold laws_heldPointS.f
  have := heldPoints_l0 ys.length hn zs hl h2 ys.length 0 (by omega)
  have e : (1 : Int) + 2 * ((0 : Nat) : Int) = 1 := by omega
  rw [e] at this
  exact this

theorem markSeries_l0 (l : List S58) (hl : l.length ≤ 1048577) (hs : ∀ i : Nat, i < l.length → (rd_T58 l (i : Int)).f2.length ≤ 1048577) : ∀ (d i : Nat) (c : Int), i + d = l.length → 0 ≤ c → c ≤ 1 + 2097156 * (i : Int) → ∃ m, Ev (fun k => laws_markSeriesS.l0 k l c (i : Int)) m ∧ ¬ m < 0 := by
  intro d
  induction d with
  | zero =>
    intro i c hi h0 h1
    exact ⟨c, laws_markSeriesS.l0.st (ev_neg (by omega) ev_now), by omega⟩
  | succ d ih =>
    intro i c hi h0 h1
    have hsi := hs i (by omega)
    have e1 : wrap64 (c + 1) = c + 1 := w64 (by omega) (by omega)
    have e2 : wrap64 (c + 1 + 1) = c + 2 := by rw [w64 (by omega) (by omega)]; omega
    have e5 : wrap64 ((i : Int) + 1) = ((i + 1 : Nat) : Int) := w64 (by omega) (by omega)
    obtain ⟨zs, hz, _⟩ := markPoints (c + 2) ⟨by omega, by omega⟩ (rd_T58 l (i : Int)).f2 hsi
    obtain ⟨m, hm, hm0⟩ := ih (i + 1) (c + 2 + 2 * ((rd_T58 l (i : Int)).f2.length : Int)) (by omega) (by omega) (by omega)
    obtain ⟨t1, ht1⟩ := markText c (by omega)
    obtain ⟨t2, ht2⟩ := markText (c + 1) (by omega)
    refine ⟨m, laws_markSeriesS.l0.st (ev_pos (by omega) (ev_pos (by omega) ?_)), hm0⟩
    rw [e1, e2, e5]
    exact ev_bind ht1 (ev_bind ht2 (ev_bind hz hm))
end Go.Proofs.Ytecjingcnaopdaa.PS
