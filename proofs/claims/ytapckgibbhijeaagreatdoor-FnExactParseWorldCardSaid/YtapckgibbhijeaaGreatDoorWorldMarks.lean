/- What the statement writes into a setup and a world, and looks for afterwards: the marks are found again as they were written; then the statement's law. No condition but that texts fit into memory and that the lists are short. -/
import Derived.Test.YtapckgibbhijeaaGreatDoorParseWorldLaw
import Derived.Test.YtapckgibbhijeaaGreatDoorPAx0
import Derived.Test.YtapckgibbhijeaaGreatDoorPAx6
import Derived.Test.YtapckgibbhijeaaGreatDoorPAx7
namespace Go.Proofs.YtapckgibbhijeaaGreatDoor.PA
open Go.RowKit Go.Proofs.YtapckgibbhijeaaGreatDoorW.PrintWords Go.Proofs.YtapckgibbhijeaaGreatDoorW.PrintLast Go.Proofs.YtapckgibbhijeaaGreatDoorW.PrintMore Go.Proofs.YtapckgibbhijeaaGreatDoor.Aid
set_option linter.unusedVariables false

theorem one_size (x : Int) : (strOfNums [x]).size = 1 := rfl

theorem markText_l0 : ∀ (m : Nat) (x : Int) (s : ByteArray), 0 ≤ x → x.toNat ≤ m → (s.size : Int) + x ≤ 4611686018427387904 → ∃ t, Ev (fun k => laws_markText.l0 k x s) t := by
  intro m
  induction m with
  | zero =>
    intro x s h0 h1 h2
    exact ⟨_, laws_markText.l0.st (ev_neg (by omega) (ev_pos (by omega) ev_now))⟩
  | succ m ih =>
    intro x s h0 h1 h2
    by_cases hx : x > 0
    · have hd : Int.tdiv x 10 = x / 10 := Int.tdiv_eq_ediv_of_nonneg h0
      have hq : 0 ≤ x / 10 ∧ x / 10 < x := by omega
      have hsz : ((strOfNums [(wrap64 (48 + (Int.tmod x 10))) % 256]) ++ s).size = 1 + s.size := by
        rw [ByteArray.size_append, one_size]
      obtain ⟨t, ht⟩ := ih (x / 10) ((strOfNums [(wrap64 (48 + (Int.tmod x 10))) % 256]) ++ s) hq.1 (by omega) (by rw [hsz]; omega)
      refine ⟨t, laws_markText.l0.st (ev_pos hx (ev_call (b := [(wrap64 (48 + (Int.tmod x 10))) % 256]) rfl (ev_pos (by rw [one_size]; omega) ?_)))⟩
      rw [hd, w64 (by omega) (by omega)]
      exact ht
    · exact ⟨_, laws_markText.l0.st (ev_neg hx (ev_pos (by omega) ev_now))⟩

theorem markText (x : Int) (h1 : x ≤ 1000000000000) : ∃ t, Ev (fun k => laws_markText.f k x) t := by
  unfold laws_markText.f
  by_cases h : x ≤ 0
  · exact ⟨_, ev_pos h ev_now⟩
  · obtain ⟨t, ht⟩ := markText_l0 x.toNat x ⟨#[]⟩ (by omega) (Nat.le_refl _) (by have : (⟨#[]⟩ : ByteArray).size = 0 := rfl; omega)
    exact ⟨t, ev_neg h ht⟩
open Classical in
/-- The text for a number. -/
noncomputable def mt (x : Int) : ByteArray := if h : x ≤ 1000000000000 then (markText x h).choose else ⟨#[]⟩
theorem mt_ev (x : Int) (h : x ≤ 1000000000000) : Ev (fun k => laws_markText.f k x) (mt x) := by
  unfold mt
  rw [dif_pos h]
  exact (markText x h).choose_spec

/-- What is marked at a count. -/
noncomputable def mkGoals (c : Int) : S82 := ⟨mt c, c + 1, c + 2⟩
theorem markGoals_l0 (a : Int) (ha : 0 ≤ a ∧ a ≤ 100000000) (n : Nat) (hn : n ≤ 1048577) : ∀ (d i : Nat) (ys : List S82), i + d = n → ys.length = n →
    ∃ zs : List S82, Ev (fun k => laws_markGoalS.l0 k ys (a + 3 * (i : Int)) (i : Int)) (a + 3 * (n : Int), zs) ∧ zs.length = n ∧ (∀ j, j < i → zs[j]? = ys[j]?) ∧ ∀ j, i ≤ j → j < n → zs[j]? = some (mkGoals (a + 3 * (j : Int))) := by
  intro d
  induction d with
  | zero =>
    intro i ys hi hy
    obtain rfl : i = n := by omega
    exact ⟨ys, laws_markGoalS.l0.st (ev_neg (by omega) ev_now), hy, fun _ _ => rfl, fun j h1 h2 => absurd h1 (by omega)⟩
  | succ d ih =>
    intro i ys hi hy
    obtain ⟨zs, he, hl, h1, h2⟩ := ih (i + 1) (ys.set i (mkGoals (a + 3 * (i : Int)))) (by omega) (by rw [List.length_set]; exact hy)
    have e1 : wrap64 ((a + 3 * (i : Int)) + 1) = a + 3 * (i : Int) + 1 := w64 (by omega) (by omega)
    have e2 : wrap64 ((a + 3 * (i : Int) + 1) + 1) = a + 3 * (i : Int) + 2 := by rw [w64 (by omega) (by omega)]; omega
    have e3 : wrap64 ((a + 3 * (i : Int) + 2) + 1) = a + 3 * ((i + 1 : Nat) : Int) := by rw [w64 (by omega) (by omega)]; omega
    have e5 : wrap64 ((i : Int) + 1) = ((i + 1 : Nat) : Int) := w64 (by omega) (by omega)
    have hat : ∀ (zs : List S82) (v : S82), zs.length = n → rd_T82 (zs.set i v) (i : Int) = v := by
      intro zs v hz
      rw [rdG_mem _ i (by rw [List.length_set]; omega), List.getElem_set_self]
    refine ⟨zs, laws_markGoalS.l0.st (ev_pos (by omega) (ev_bind (mt_ev _ (by omega)) (ev_pos (by omega) (ev_call rfl (ev_call rfl ?_))))), hl, ?_, ?_⟩
    · simp only [Int.toNat_natCast, hat _ _ hy, List.set_set, e1, e2, e3, e5]
      exact he
    · intro j hj
      rw [h1 j (by omega), List.getElem?_set_ne (by omega)]
    · intro j hj hjn
      by_cases hji : j = i
      · subst hji
        rw [h1 j (by omega), List.getElem?_set_self (by omega)]
      · exact h2 j (by omega) hjn
theorem heldGoals_l0 (a : Int) (ha : 0 ≤ a ∧ a ≤ 100000000) (n : Nat) (hn : n ≤ 1048577) (zs : List S82) (hl : zs.length = n) (h : ∀ j, j < n → zs[j]? = some (mkGoals (a + 3 * (j : Int)))) : ∀ (d i : Nat), i + d = n →
    Ev (fun k => laws_heldGoalS.l0 k zs (a + 3 * (i : Int)) (i : Int)) (a + 3 * (n : Int)) := by
  intro d
  induction d with
  | zero =>
    intro i hi
    obtain rfl : i = n := by omega
    exact laws_heldGoalS.l0.st (ev_neg (by omega) ev_now)
  | succ d ih =>
    intro i hi
    have e1 : wrap64 ((a + 3 * (i : Int)) + 1) = a + 3 * (i : Int) + 1 := w64 (by omega) (by omega)
    have e2 : wrap64 ((a + 3 * (i : Int) + 1) + 1) = a + 3 * (i : Int) + 2 := by rw [w64 (by omega) (by omega)]; omega
    have e3 : wrap64 ((a + 3 * (i : Int) + 2) + 1) = a + 3 * ((i + 1 : Nat) : Int) := by rw [w64 (by omega) (by omega)]; omega
    have e5 : wrap64 ((i : Int) + 1) = ((i + 1 : Nat) : Int) := w64 (by omega) (by omega)
    have hat : rd_T82 zs (i : Int) = mkGoals (a + 3 * (i : Int)) := by
      have h1 := h i (by omega)
      rw [List.getElem?_eq_getElem (by omega)] at h1
      rw [rdG_mem _ i (by omega)]
      exact Option.some.inj h1
    refine laws_heldGoalS.l0.st (ev_pos (by omega) (ev_pos (by omega) (ev_bind (mt_ev _ (by omega)) ?_)))
    simp only [hat, e1, e2, e3, e5]
    exact ev_pos rfl (ev_pos rfl (ev_pos rfl (ih (i + 1) (by omega))))
theorem marksGoals (a : Int) (ha : 0 ≤ a ∧ a ≤ 100000000) (ys : List S82) (hn : ys.length ≤ 1048577) : ∃ zs : List S82, Ev (fun k => laws_markGoalS.f k ys a) (a + 3 * (ys.length : Int), zs) ∧ Ev (fun k => laws_heldGoalS.f k zs a) (a + 3 * (ys.length : Int)) := by
  obtain ⟨zs, he, hl, _, h2⟩ := markGoals_l0 a ha ys.length hn ys.length 0 ys (by omega) rfl
  have hh := heldGoals_l0 a ha ys.length hn zs hl (fun j hj => h2 j (Nat.zero_le _) hj) ys.length 0 (by omega)
  have e : a + 3 * ((0 : Nat) : Int) = a := by omega
  rw [e] at he hh
  exact ⟨zs, he, hh⟩

/-- What is marked at a count. -/
def mkPols (c : Int) : S102 := ⟨c, c + 1, c + 2⟩
theorem markPols_l0 (a : Int) (ha : 0 ≤ a ∧ a ≤ 100000000) (n : Nat) (hn : n ≤ 1048577) : ∀ (d i : Nat) (ys : List S102), i + d = n → ys.length = n →
    ∃ zs : List S102, Ev (fun k => laws_markPolicyS.l0 k ys (a + 3 * (i : Int)) (i : Int)) (a + 3 * (n : Int), zs) ∧ zs.length = n ∧ (∀ j, j < i → zs[j]? = ys[j]?) ∧ ∀ j, i ≤ j → j < n → zs[j]? = some (mkPols (a + 3 * (j : Int))) := by
  intro d
  induction d with
  | zero =>
    intro i ys hi hy
    obtain rfl : i = n := by omega
    exact ⟨ys, laws_markPolicyS.l0.st (ev_neg (by omega) ev_now), hy, fun _ _ => rfl, fun j h1 h2 => absurd h1 (by omega)⟩
  | succ d ih =>
    intro i ys hi hy
    obtain ⟨zs, he, hl, h1, h2⟩ := ih (i + 1) (ys.set i (mkPols (a + 3 * (i : Int)))) (by omega) (by rw [List.length_set]; exact hy)
    have e1 : wrap64 ((a + 3 * (i : Int)) + 1) = a + 3 * (i : Int) + 1 := w64 (by omega) (by omega)
    have e2 : wrap64 ((a + 3 * (i : Int) + 1) + 1) = a + 3 * (i : Int) + 2 := by rw [w64 (by omega) (by omega)]; omega
    have e3 : wrap64 ((a + 3 * (i : Int) + 2) + 1) = a + 3 * ((i + 1 : Nat) : Int) := by rw [w64 (by omega) (by omega)]; omega
    have e5 : wrap64 ((i : Int) + 1) = ((i + 1 : Nat) : Int) := w64 (by omega) (by omega)
    have hat : ∀ (zs : List S102) (v : S102), zs.length = n → rd_T102 (zs.set i v) (i : Int) = v := by
      intro zs v hz
      rw [rdP_mem _ i (by rw [List.length_set]; omega), List.getElem_set_self]
    refine ⟨zs, laws_markPolicyS.l0.st (ev_pos (by omega) (ev_pos (by omega) (ev_call rfl (ev_call rfl ?_)))), hl, ?_, ?_⟩
    · simp only [Int.toNat_natCast, hat _ _ hy, List.set_set, e1, e2, e3, e5]
      exact he
    · intro j hj
      rw [h1 j (by omega), List.getElem?_set_ne (by omega)]
    · intro j hj hjn
      by_cases hji : j = i
      · subst hji
        rw [h1 j (by omega), List.getElem?_set_self (by omega)]
      · exact h2 j (by omega) hjn
theorem heldPols_l0 (a : Int) (ha : 0 ≤ a ∧ a ≤ 100000000) (n : Nat) (hn : n ≤ 1048577) (zs : List S102) (hl : zs.length = n) (h : ∀ j, j < n → zs[j]? = some (mkPols (a + 3 * (j : Int)))) : ∀ (d i : Nat), i + d = n →
    Ev (fun k => laws_heldPolicyS.l0 k zs (a + 3 * (i : Int)) (i : Int)) (a + 3 * (n : Int)) := by
  intro d
  induction d with
  | zero =>
    intro i hi
    obtain rfl : i = n := by omega
    exact laws_heldPolicyS.l0.st (ev_neg (by omega) ev_now)
  | succ d ih =>
    intro i hi
    have e1 : wrap64 ((a + 3 * (i : Int)) + 1) = a + 3 * (i : Int) + 1 := w64 (by omega) (by omega)
    have e2 : wrap64 ((a + 3 * (i : Int) + 1) + 1) = a + 3 * (i : Int) + 2 := by rw [w64 (by omega) (by omega)]; omega
    have e3 : wrap64 ((a + 3 * (i : Int) + 2) + 1) = a + 3 * ((i + 1 : Nat) : Int) := by rw [w64 (by omega) (by omega)]; omega
    have e5 : wrap64 ((i : Int) + 1) = ((i + 1 : Nat) : Int) := w64 (by omega) (by omega)
    have hat : rd_T102 zs (i : Int) = mkPols (a + 3 * (i : Int)) := by
      have h1 := h i (by omega)
      rw [List.getElem?_eq_getElem (by omega)] at h1
      rw [rdP_mem _ i (by omega)]
      exact Option.some.inj h1
    refine laws_heldPolicyS.l0.st (ev_pos (by omega) (ev_pos (by omega) ?_))
    simp only [hat, e1, e2, e3, e5]
    exact ev_pos rfl (ev_pos rfl (ev_pos rfl (ih (i + 1) (by omega))))
theorem marksPols (a : Int) (ha : 0 ≤ a ∧ a ≤ 100000000) (ys : List S102) (hn : ys.length ≤ 1048577) : ∃ zs : List S102, Ev (fun k => laws_markPolicyS.f k ys a) (a + 3 * (ys.length : Int), zs) ∧ Ev (fun k => laws_heldPolicyS.f k zs a) (a + 3 * (ys.length : Int)) := by
  obtain ⟨zs, he, hl, _, h2⟩ := markPols_l0 a ha ys.length hn ys.length 0 ys (by omega) rfl
  have hh := heldPols_l0 a ha ys.length hn zs hl (fun j hj => h2 j (Nat.zero_le _) hj) ys.length 0 (by omega)
  have e : a + 3 * ((0 : Nat) : Int) = a := by omega
  rw [e] at he hh
  exact ⟨zs, he, hh⟩

theorem markInts_l0 (a : Int) (ha : 0 ≤ a ∧ a ≤ 100000000) (n : Nat) (hn : n ≤ 1048577) : ∀ (d i : Nat) (ys : List Int), i + d = n → ys.length = n →
    ∃ zs : List Int, Ev (fun k => laws_markIntS.l0 k ys (a + (i : Int)) (i : Int)) (a + (n : Int), zs) ∧ zs.length = n ∧ (∀ j, j < i → zs[j]? = ys[j]?) ∧ ∀ j, i ≤ j → j < n → zs[j]? = some (a + (j : Int)) := by
  intro d
  induction d with
  | zero =>
    intro i ys hi hy
    obtain rfl : i = n := by omega
    exact ⟨ys, laws_markIntS.l0.st (ev_neg (by omega) ev_now), hy, fun _ _ => rfl, fun j h1 h2 => absurd h1 (by omega)⟩
  | succ d ih =>
    intro i ys hi hy
    obtain ⟨zs, he, hl, h1, h2⟩ := ih (i + 1) (ys.set i (a + (i : Int))) (by omega) (by rw [List.length_set]; exact hy)
    have e1 : wrap64 ((a + (i : Int)) + 1) = a + ((i + 1 : Nat) : Int) := by rw [w64 (by omega) (by omega)]; omega
    have e5 : wrap64 ((i : Int) + 1) = ((i + 1 : Nat) : Int) := w64 (by omega) (by omega)
    refine ⟨zs, laws_markIntS.l0.st (ev_pos (by omega) (ev_pos (by omega) ?_)), hl, ?_, ?_⟩
    · simp only [Int.toNat_natCast, e1, e5]
      exact he
    · intro j hj
      rw [h1 j (by omega), List.getElem?_set_ne (by omega)]
    · intro j hj hjn
      by_cases hji : j = i
      · subst hji
        rw [h1 j (by omega), List.getElem?_set_self (by omega)]
      · exact h2 j (by omega) hjn
theorem heldInts_l0 (a : Int) (ha : 0 ≤ a ∧ a ≤ 100000000) (n : Nat) (hn : n ≤ 1048577) (zs : List Int) (hl : zs.length = n) (h : ∀ j, j < n → zs[j]? = some (a + (j : Int))) : ∀ (d i : Nat), i + d = n →
    Ev (fun k => laws_heldIntS.l0 k zs (a + (i : Int)) (i : Int)) (a + (n : Int)) := by
  intro d
  induction d with
  | zero =>
    intro i hi
    obtain rfl : i = n := by omega
    exact laws_heldIntS.l0.st (ev_neg (by omega) ev_now)
  | succ d ih =>
    intro i hi
    have e1 : wrap64 ((a + (i : Int)) + 1) = a + ((i + 1 : Nat) : Int) := by rw [w64 (by omega) (by omega)]; omega
    have e5 : wrap64 ((i : Int) + 1) = ((i + 1 : Nat) : Int) := w64 (by omega) (by omega)
    have hat : rd zs (i : Int) = a + (i : Int) := by
      have h1 := h i (by omega)
      unfold rd
      rw [Int.toNat_natCast, List.getD_eq_getElem?_getD, h1]
      rfl
    refine laws_heldIntS.l0.st (ev_pos (by omega) (ev_pos (by omega) (ev_pos hat ?_)))
    simp only [e1, e5]
    exact ih (i + 1) (by omega)
theorem marksInts (a : Int) (ha : 0 ≤ a ∧ a ≤ 100000000) (ys : List Int) (hn : ys.length ≤ 1048577) : ∃ zs : List Int, Ev (fun k => laws_markIntS.f k ys a) (a + (ys.length : Int), zs) ∧ Ev (fun k => laws_heldIntS.f k zs a) (a + (ys.length : Int)) := by
  obtain ⟨zs, he, hl, _, h2⟩ := markInts_l0 a ha ys.length hn ys.length 0 ys (by omega) rfl
  have hh := heldInts_l0 a ha ys.length hn zs hl (fun j hj => h2 j (Nat.zero_le _) hj) ys.length 0 (by omega)
  have e : a + ((0 : Nat) : Int) = a := by omega
  rw [e] at he hh
  exact ⟨zs, he, hh⟩

/-! ### A setup, a world -/
theorem marksSetup (a b c : Int) (gs : List S82) (p1 : List S102) (u v : Int) (p2 : List S102) (d e m x : Int) (hl : gs.length ≤ 1048577) (h1 : p1.length ≤ 1048577) (h2 : p2.length ≤ 1048577) :
    ∃ q g' p' r', 0 ≤ q ∧ q ≤ 10000000 ∧ Ev (fun k => laws_markSetup.f k a b c gs p1 u v p2 d e m x 1) (q, g', p', r') ∧ Ev (fun k => laws_heldSetup.f k a b c g' p' u v r' d e m x 1) q := by
  obtain ⟨g', g1, g2⟩ := marksGoals 1 (by omega) gs hl
  obtain ⟨p', q1, q2⟩ := marksPols (1 + 3 * (gs.length : Int)) (by omega) p1 h1
  obtain ⟨r', r1, r2⟩ := marksPols (1 + 3 * (gs.length : Int) + 3 * (p1.length : Int)) (by omega) p2 h2
  refine ⟨1 + 3 * (gs.length : Int) + 3 * (p1.length : Int) + 3 * (p2.length : Int), g', p', r', by omega, by omega, ?_, ?_⟩
  · unfold laws_markSetup.f laws_markBehave.f laws_markSide.f
    exact ev_bind g1 (ev_bind (ev_bind (ev_bind q1 ev_now) (ev_bind (ev_bind r1 ev_now) ev_now)) ev_now)
  · unfold laws_heldSetup.f laws_heldBehave.f laws_heldSide.f
    exact ev_bind g2 (ev_neg (by omega) (ev_bind (ev_bind (ev_bind q2 (ev_neg (by omega) ev_now)) (ev_neg (by omega) (ev_bind (ev_bind r2 (ev_neg (by omega) ev_now)) (ev_neg (by omega) ev_now)))) (ev_neg (by omega) ev_now)))
theorem marksWorld (a b c : Int) (gs : List S82) (p1 : List S102) (u v : Int) (p2 : List S102) (d e m x : Int) (L : List Int) (w s n : Int) (hl : gs.length ≤ 1048577) (h1 : p1.length ≤ 1048577) (h2 : p2.length ≤ 1048577) (hL : L.length ≤ 1048577) :
    ∃ q g' p' r' L', 0 ≤ q ∧ Ev (fun k => laws_markWorld.f k a b c gs p1 u v p2 d e m x L w s n 1) (q, g', p', r', L') ∧ Ev (fun k => laws_heldWorld.f k a b c g' p' u v r' d e m x L' w s n 1) q := by
  obtain ⟨q, g', p', r', q0, q1, s1, s2⟩ := marksSetup a b c gs p1 u v p2 d e m x hl h1 h2
  obtain ⟨L', l1, l2⟩ := marksInts q (by omega) L hL
  refine ⟨q + (L.length : Int), g', p', r', L', by omega, ?_, ?_⟩
  · unfold laws_markWorld.f
    exact ev_bind s1 (ev_bind l1 ev_now)
  · unfold laws_heldWorld.f
    exact ev_bind s2 (ev_neg (by omega) (ev_bind l2 (ev_neg (by omega) ev_now)))
theorem lawTail (a b c : Int) (gs : List S82) (p1 : List S102) (u v : Int) (p2 : List S102) (d e m x : Int) (hl : gs.length ≤ 1048577) (h1 : p1.length ≤ 1048577) (h2 : p2.length ≤ 1048577)
    (a' b' c' : Int) (gs' : List S82) (p1' : List S102) (u' v' : Int) (p2' : List S102) (d' e' m' x' : Int) (L : List Int) (w s n : Int) (hl' : gs'.length ≤ 1048577) (h1' : p1'.length ≤ 1048577) (h2' : p2'.length ≤ 1048577) (hL : L.length ≤ 1048577) :
    Ev (fun k => laws_FnExactParseWorld.g k a b c gs p1 u v p2 d e m x a' b' c' gs' p1' u' v' p2' d' e' m' x' L w s n) true := by
  obtain ⟨q, g', p', r', q0, q1, s1, s2⟩ := marksSetup a b c gs p1 u v p2 d e m x hl h1 h2
  obtain ⟨y, y1, y2, y3, y4, y0, t1, t2⟩ := marksWorld a' b' c' gs' p1' u' v' p2' d' e' m' x' L w s n hl' h1' h2' hL
  unfold laws_FnExactParseWorld.g
  exact ev_pos ⟨⟨hl, h1, h2⟩, hl', h1', h2', hL⟩ (ev_bind s1 (ev_pos q0 (ev_bind t1 (ev_bind t2 (ev_pos ⟨y0, rfl⟩ ev_now)))))
/-- The statement's function answers yes, whatever comes in. -/
theorem plainParseWorld (a0 : ByteArray) (a b c : Int) (gs : List S78) (p1 : List S119) (u v : Int) (p2 : List S119) (d e m x : Int)
    (hg : gs.length ≤ 9223372036854775807 ∧ ∀ x ∈ gs, x.f0.size ≤ 9223372036854775807) (h1 : p1.length ≤ 9223372036854775807) (h2 : p2.length ≤ 9223372036854775807) :
    Ev (fun k => laws_FnExactParseWorld.f k a0 a b c gs p1 u v p2 d e m x) true := by
  unfold laws_FnExactParseWorld.f
  by_cases hz : 1048576 < a0.size
  · exact ev_pos hz ev_now
  · obtain ⟨t, t1, t2⟩ := szSetup a b c gs p1 u v p2 d e m x hg h1 h2
    by_cases ht : t < 0
    · exact ev_neg hz (ev_bind t1 (ev_pos ht ev_now))
    · obtain ⟨k0, k1, k2⟩ := t2 ht
      have l0 : (gs.map convG).length ≤ 1048577 := by rw [List.length_map]; omega
      have l1 : (p1.map convP).length ≤ 1048577 := by rw [List.length_map]; omega
      have l2 : (p2.map convP).length ≤ 1048577 := by rw [List.length_map]; omega
      obtain ⟨r, r1, r2, r3⟩ := parseSame a b c (gs.map convG) (p1.map convP) u v (p2.map convP) d e m x (FitsG.conv hg.2) l0 l1 l2 a0 (by omega)
      refine ev_neg hz (ev_bind t1 (ev_neg ht (ev_bind (toSetup a b c gs p1 u v p2 d e m x k0 k1 k2) (ev_bind r1 (ev_bind r2 (ev_pos rfl ?_))))))
      rcases r3 with rfl | ⟨L, w, s, n, hok, _, rfl⟩
      · exact lawTail _ _ _ _ _ _ _ _ _ _ _ _ l0 l1 l2 _ _ _ _ _ _ _ _ _ _ _ _ _ _ _ _ (Nat.zero_le _) (Nat.zero_le _) (Nat.zero_le _) (Nat.zero_le _)
      · obtain ⟨hL, _⟩ := good_parts _ _ _ _ _ _ _ _ _ _ _ _ _ _ _ _ hok
        exact lawTail _ _ _ _ _ _ _ _ _ _ _ _ l0 l1 l2 _ _ _ _ _ _ _ _ _ _ _ _ _ _ _ _ l0 l1 l2 (Nat.le_trans hL.2 (by decide))
end Go.Proofs.YtapckgibbhijeaaGreatDoor.PA
