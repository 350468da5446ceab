/- What the reference's l01Parts and l01Read answer, and its l08Setup and the program's ownSetup (the setup, unchanged). No condition but the bounds of each. -/
import Derived.Test.YtapckgibbhijeaaGreatDoorParseMilliLaw
import Derived.Test.YtapckgibbhijeaaGreatDoorSetupIn
import Derived.Test.YtapckgibbhijeaaGreatDoorPAx0
import Derived.Test.YtapckgibbhijeaaGreatDoorPAx1
import Derived.Test.YtapckgibbhijeaaGreatDoorPAx2
import Derived.Test.YtapckgibbhijeaaGreatDoorPAx3
namespace Go.Proofs.YtapckgibbhijeaaGreatDoor.PA
open Go.RowKit Go.Proofs.YtapckgibbhijeaaGreatDoorW.PrintWords Go.Proofs.YtapckgibbhijeaaGreatDoorW.PrintLast Go.Proofs.YtapckgibbhijeaaGreatDoorW.PrintMore Go.Proofs.YtapckgibbhijeaaGreatDoor.Aid
set_option linter.unusedVariables false

theorem size_list (s : ByteArray) : s.data.toList.length = s.size := by rw [Array.length_toList]; rfl
theorem cut_out (s : ByteArray) (pre mid rest : List UInt8) (he : s.data.toList = pre ++ (mid ++ rest)) : (s.extract pre.length (pre.length + mid.length)).data.toList = mid := by
  rw [ByteArray.data_extract, Array.toList_extract, List.extract_eq_take_drop, he]
  simp
/-! ### l01Parts -/
theorem specParts_l0 (s : ByteArray) (hs : s.size ≤ 1000000) : ∀ (rest pre mid : List UInt8) (acc : List ByteArray), s.data.toList = pre ++ (mid ++ rest) → (∀ b ∈ mid, b ≠ 32) → acc.length ≤ pre.length →
    ∃ P, Ev (fun k => spec_l01Parts.l0 k s 32 acc ((pre.length : Nat) : Int) ((pre.length + mid.length : Nat) : Int)) P ∧ P.map (·.data.toList) = acc.map (·.data.toList) ++ parts 32 (mid ++ rest)
  | [], pre, mid, acc, he, hm, ha => by
    have hz := size_list s
    rw [he] at hz
    simp only [List.length_append, List.length_nil] at hz
    have hw : wrap64 (((pre.length + mid.length : Nat) : Int) + 1) = ((pre.length + mid.length : Nat) : Int) + 1 := w64 (by omega) (by omega)
    refine ⟨acc ++ [s.extract pre.length (pre.length + mid.length)], spec_l01Parts.l0.st (ev_pos (by omega) (ev_pos (by omega) (ev_pos (by omega) (ev_pos (by omega) (ev_pos (by omega) ?_))))), ?_⟩
    · rw [Int.toNat_natCast, Int.toNat_natCast, hw]
      exact spec_l01Parts.l0.st (ev_neg (by omega) ev_now)
    · rw [List.append_nil, parts_last 32 mid hm, List.map_append, List.map_cons, List.map_nil, cut_out s pre mid [] he]
  | b :: t, pre, mid, acc, he, hm, ha => by
    have hz := size_list s
    rw [he] at hz
    simp only [List.length_append, List.length_cons] at hz
    obtain ⟨e1, e2⟩ := bt_list s (pre.length + mid.length) b (by rw [he, ← List.append_assoc, ← List.length_append]; simp)
    have hw : wrap64 (((pre.length + mid.length : Nat) : Int) + 1) = ((pre.length + mid.length + 1 : Nat) : Int) := by rw [w64 (by omega) (by omega)]; omega
    by_cases hb : b = 32
    · subst hb
      obtain ⟨P, h1, h2⟩ := specParts_l0 s hs t (pre ++ (mid ++ [32])) [] (acc ++ [s.extract pre.length (pre.length + mid.length)]) (by rw [he]; simp) (by simp) (by simp; omega)
      have hl : (pre ++ (mid ++ [32])).length = pre.length + mid.length + 1 := by simp; omega
      rw [hl, List.length_nil, Nat.add_zero] at h1
      refine ⟨P, spec_l01Parts.l0.st (ev_pos (by omega) (ev_neg (by omega) (ev_pos (by omega) (ev_pos (by omega) (ev_pos e1 (ev_pos (by omega) (ev_pos (by omega) (ev_pos (by omega) ?_)))))))), ?_⟩
      · rw [Int.toNat_natCast, Int.toNat_natCast, hw]
        exact h1
      · rw [h2, parts_step 32 mid t hm, List.map_append, List.map_cons, List.map_nil, cut_out s pre mid (32 :: t) he]
        simp
    · obtain ⟨P, h1, h2⟩ := specParts_l0 s hs t pre (mid ++ [b]) acc (by rw [he]; simp) (by
        intro c hc
        rcases List.mem_append.1 hc with hc | hc
        · exact hm c hc
        · rw [List.mem_singleton] at hc
          rw [hc]
          exact hb) ha
      have hl : pre.length + (mid ++ [b]).length = pre.length + mid.length + 1 := by simp; omega
      rw [hl] at h1
      have hn : ¬ bt s ((pre.length + mid.length : Nat) : Int) = 32 := by
        rw [e1]
        intro h
        apply hb
        apply UInt8.toNat_inj.1
        have : (b.toNat : Int) = ((32 : UInt8).toNat : Int) := h
        omega
      refine ⟨P, spec_l01Parts.l0.st (ev_pos (by omega) (ev_neg (by omega) (ev_pos (by omega) (ev_pos (by omega) (ev_neg hn ?_))))), ?_⟩
      · rw [hw]
        exact h1
      · rw [h2]
        simp
theorem specParts (s : ByteArray) (hs : s.size ≤ 1000000) : ∃ P, Ev (fun k => spec_l01Parts.f k s 32) P ∧ P.map (·.data.toList) = parts 32 s.data.toList := by
  obtain ⟨P, h1, h2⟩ := specParts_l0 s hs s.data.toList [] [] [] (by simp) (by simp) (by simp)
  exact ⟨P, h1, by rw [h2]; simp⟩
theorem parts_size (c : UInt8) : ∀ (l : List UInt8), ∀ p ∈ parts c l, p.length ≤ l.length
  | [], p, h => by
    simp only [parts, List.mem_singleton] at h
    subst h
    simp
  | b :: r, p, h => by
    have ih := parts_size c r
    unfold parts at h
    split at h
    · rcases List.mem_cons.1 h with rfl | h
      · simp
      · have := ih p h
        simp only [List.length_cons]; omega
    · have hh := parts_cons c r
      rcases List.mem_cons.1 h with rfl | h
      · have := ih ((parts c r).headD []) (by rw [hh]; simp)
        simp only [List.length_cons]; omega
      · have := ih p (List.mem_of_mem_tail h)
        simp only [List.length_cons]; omega
theorem parts_small (s : ByteArray) (P : List ByteArray) (h : P.map (·.data.toList) = parts 32 s.data.toList) : ∀ x ∈ P, x.size ≤ s.size := by
  intro x hx
  have : x.data.toList ∈ parts 32 s.data.toList := by rw [← h]; exact List.mem_map_of_mem hx
  have := parts_size 32 _ _ this
  rw [size_list, size_list] at this
  exact this
theorem parts_many (s : ByteArray) (P : List ByteArray) (h : P.map (·.data.toList) = parts 32 s.data.toList) : P.length ≤ s.size + 1 := by
  have := parts_glue_len 32 s.data.toList
  rw [← h, List.length_map, size_list] at this
  exact this

/-! ### l01Num of any number, l01Read -/
theorem numAny_l0 (m : Nat) : ∀ (x : Int) (acc : ByteArray) (b : Bool), x.natAbs < 10 ^ m → x.natAbs ≤ 1000000000000 → acc.size + m + 1 ≤ 9223372036854775807 → ∃ t, Ev (fun k => spec_l01Num.l0 k x acc b) t := by
  induction m with
  | zero =>
    intro x acc b hx _ hs
    have h0 : x = 0 := by simp at hx; omega
    cases b with
    | true => exact ⟨_, spec_l01Num.l0.st (ev_pos h0 (ev_pos rfl (ev_pos (by omega) ev_now)))⟩
    | false => exact ⟨_, spec_l01Num.l0.st (ev_pos h0 (ev_neg (by simp) ev_now))⟩
  | succ m ih =>
    intro x acc b hx hx2 hs
    by_cases h0 : x = 0
    · cases b with
      | true => exact ⟨_, spec_l01Num.l0.st (ev_pos h0 (ev_pos rfl (ev_pos (by omega) ev_now)))⟩
      | false => exact ⟨_, spec_l01Num.l0.st (ev_pos h0 (ev_neg (by simp) ev_now))⟩
    · have hd : (Int.tdiv x 10).natAbs = x.natAbs / 10 := by rw [Int.natAbs_tdiv]; rfl
      have hw : wrap64 (Int.tdiv x 10) = Int.tdiv x 10 := w64 (by omega) (by omega)
      have hz : ∀ y : Int, (strOfNums [y]).size = 1 := fun _ => rfl
      have hp := Nat.pow_succ 10 m
      simp only [Nat.succ_eq_add_one] at hp
      have hlt : (Int.tdiv x 10).natAbs < 10 ^ m := by omega
      by_cases hm : Int.tmod x 10 < 0
      · obtain ⟨t, h1⟩ := ih (Int.tdiv x 10) (strOfNums [(wrap64 (48 + (wrap64 (-(Int.tmod x 10))))) % 256] ++ acc) b hlt (by omega) (by rw [ByteArray.size_append, hz]; omega)
        refine ⟨t, spec_l01Num.l0.st (ev_neg h0 (ev_pos hm (ev_call rfl (ev_pos (by rw [hz]; omega) ?_))))⟩
        rw [hw]
        exact h1
      · obtain ⟨t, h1⟩ := ih (Int.tdiv x 10) (strOfNums [(wrap64 (48 + (Int.tmod x 10))) % 256] ++ acc) b hlt (by omega) (by rw [ByteArray.size_append, hz]; omega)
        refine ⟨t, spec_l01Num.l0.st (ev_neg h0 (ev_neg hm (ev_call rfl (ev_pos (by rw [hz]; omega) ?_))))⟩
        rw [hw]
        exact h1
theorem numAny (y : Int) (h : y.natAbs ≤ 1000000000000) : ∃ t, Ev (fun k => spec_l01Num.f k y) t ∧ (0 ≤ y → t = numText y.toNat) := by
  by_cases h0 : 0 ≤ y
  · obtain ⟨u, rfl⟩ : ∃ u : Nat, y = (u : Int) := ⟨y.toNat, by omega⟩
    exact ⟨_, specNum u (by omega), fun _ => by rw [Int.toNat_natCast]⟩
  · obtain ⟨t, h1⟩ := numAny_l0 13 y ⟨#[]⟩ (decide (y < 0)) (by omega) h (by
      have h0 : (⟨#[]⟩ : ByteArray).size = 0 := rfl
      omega)
    refine ⟨t, ?_, fun h2 => absurd h2 h0⟩
    unfold spec_l01Num.f
    exact ev_neg (by omega) h1
theorem readEnd (x0 x4 : ByteArray) (x : Int) (h0 : 0 ≤ x) (h1 : x ≤ 1000000000000) : ∃ r : Int × Bool, Ev (fun k => if (x4.size : Int) < (x0.size : Int) then ((spec_l01Num.f k (wrap64 (-x))).bind fun t => (some (wrap64 (-x), (t.toList == x0.toList)))) else ((spec_l01Num.f k x).bind fun t => (some (x, (t.toList == x0.toList))))) r ∧ (r.2 = true → 0 ≤ r.1 → x0 = numText r.1.toNat) := by
  by_cases h : (x4.size : Int) < (x0.size : Int)
  · have hw : wrap64 (-x) = -x := w64 (by omega) (by omega)
    obtain ⟨t, h2, h3⟩ := numAny (-x) (by omega)
    refine ⟨_, ev_pos h (ev_bind (by rw [hw]; exact h2) ev_now), fun a b => ?_⟩
    rw [hw] at b ⊢
    rw [← h3 b]
    exact (toList_inj.1 (beq_iff_eq.1 a)).symm
  · obtain ⟨t, h2, h3⟩ := numAny x (by omega)
    refine ⟨_, ev_neg h (ev_bind h2 ev_now), fun a b => ?_⟩
    rw [← h3 b]
    exact (toList_inj.1 (beq_iff_eq.1 a)).symm
theorem readScan (x0 x4 : ByteArray) (hs : x4.size ≤ 10) : ∀ (d i : Nat), i + d = x4.size → ∀ x : Int, 0 ≤ x → x < ((10 ^ i : Nat) : Int) → ∃ r, Ev (fun k => spec_l01Read.l0 k x0 x4 x (i : Int)) r ∧ (r.2 = true → 0 ≤ r.1 → x0 = numText r.1.toNat) := by
  intro d
  induction d with
  | zero =>
    intro i hi x h0 h1
    have := pow13 i (by omega)
    obtain ⟨r, h2, h3⟩ := readEnd x0 x4 x h0 (by have := Nat.pow_le_pow_right (n := 10) (by decide) (show i ≤ 10 by omega); omega)
    exact ⟨r, spec_l01Read.l0.st (ev_neg (by omega) h2), h3⟩
  | succ d ih =>
    intro i hi x h0 h1
    have hp := pow13 i (by omega)
    have hr := bt_range x4 (i : Int)
    have hps := Nat.pow_succ 10 i
    simp only [Nat.succ_eq_add_one] at hps
    have hx : x < 10000000000000 := by omega
    have nx : ∀ y : Int, x < 10000000000000 → 48 ≤ bt x4 (i : Int) → bt x4 (i : Int) ≤ 57 → y = 10 * x + bt x4 (i : Int) - 48 → ∃ r, Ev (fun k => spec_l01Read.l0 k x0 x4 y ((i + 1 : Nat) : Int)) r ∧ (r.2 = true → 0 ≤ r.1 → x0 = numText r.1.toNat) := fun y _ _ _ hy => ih (i + 1) (by omega) y (by omega) (by omega)
    clear hp hps h1 ih
    have g0 : (0 : Int) ≤ (i : Int) := by omega
    have g1 : (i : Int) < (x4.size : Int) := by omega
    by_cases ha : bt x4 (i : Int) < 48
    · exact ⟨(0, false), spec_l01Read.l0.st (ev_pos g1 (ev_pos g0 (ev_pos ha ev_now))), fun h => by cases h⟩
    · by_cases hb : bt x4 (i : Int) > 57
      · exact ⟨(0, false), spec_l01Read.l0.st (ev_pos g1 (ev_pos g0 (ev_neg ha (ev_pos hb ev_now)))), fun h => by cases h⟩
      · obtain ⟨r, h2, h3⟩ := nx (10 * x + bt x4 (i : Int) - 48) hx (by omega) (by omega) rfl
        have e1 : wrap64 (10 * x) = 10 * x := w64 (by omega) (by omega)
        have e2 : wrap64 (bt x4 (i : Int)) = bt x4 (i : Int) := w64 (by omega) (by omega)
        have e3 : wrap64 (10 * x + bt x4 (i : Int)) = 10 * x + bt x4 (i : Int) := w64 (by omega) (by omega)
        have e4 : wrap64 (10 * x + bt x4 (i : Int) - 48) = 10 * x + bt x4 (i : Int) - 48 := w64 (by omega) (by omega)
        have e5 : wrap64 ((i : Int) + 1) = ((i + 1 : Nat) : Int) := by rw [w64 (by omega) (by omega)]; omega
        refine ⟨r, spec_l01Read.l0.st (ev_pos g1 (ev_pos g0 (ev_neg ha (ev_neg hb ?_)))), h3⟩
        rw [e1, e2, e3, e4, e5]
        exact h2
theorem readJ1 (x0 x4 : ByteArray) : ∃ r, Ev (fun k => spec_l01Read.j1 k x0 x4) r ∧ (r.2 = true → 0 ≤ r.1 → x0 = numText r.1.toNat) := by
  by_cases h : 1 ≤ (x4.size : Int) ∧ (x4.size : Int) ≤ 10
  · obtain ⟨r, h1, h2⟩ := readScan x0 x4 (by omega) x4.size 0 (by omega) 0 (by omega) (by decide)
    exact ⟨r, spec_l01Read.j1.st (ev_call (specIn _ _ _) (ev_pos (by simpa using h) h1)), h2⟩
  · exact ⟨(0, false), spec_l01Read.j1.st (ev_call (specIn _ _ _) (ev_neg (by simpa using h) ev_now)), fun h => by cases h⟩
theorem specRead (x0 : ByteArray) : ∃ r, Ev (fun k => spec_l01Read.f k x0) r ∧ (r.2 = true → 0 ≤ r.1 → x0 = numText r.1.toNat) := by
  unfold spec_l01Read.f
  by_cases h : (x0.size : Int) > 0
  · cases hb : bt x0 0 == 45 with
    | true =>
      obtain ⟨r, h1, h2⟩ := readJ1 x0 (x0.extract 1 x0.size)
      exact ⟨r, ev_pos h (ev_pos h (spec_l01Read.j0.st (ev_pos rfl (ev_pos (by omega) h1)))), h2⟩
    | false =>
      obtain ⟨r, h1, h2⟩ := readJ1 x0 x0
      exact ⟨r, ev_pos h (ev_pos h (spec_l01Read.j0.st (ev_neg (by simp) h1))), h2⟩
  · obtain ⟨r, h1, h2⟩ := readJ1 x0 x0
    exact ⟨r, ev_neg h (spec_l01Read.j0.st (ev_neg (by simp) h1)), h2⟩
/-- A numeral is read back. -/
theorem readDigits (x0 x4 : ByteArray) (hs : x4.size ≤ 10) (r : Int × Bool) : ∀ (ds pre : List UInt8) (x : Nat), x4.data.toList = pre ++ ds → (∀ b ∈ ds, isDig b) → x < 10 ^ pre.length →
    Ev (fun k => spec_l01Read.l0 k x0 x4 ((val x ds : Nat) : Int) ((pre.length + ds.length : Nat) : Int)) r → Ev (fun k => spec_l01Read.l0 k x0 x4 (x : Int) ((pre.length : Nat) : Int)) r
  | [], pre, x, _, _, _, H => H
  | b :: ds, pre, x, he, hd, hx, H => by
    have hb : isDig b := hd b (by simp)
    obtain ⟨e1, e2⟩ := bt_list x4 pre.length b (by rw [he]; simp)
    have hp := pow13 pre.length (by omega)
    have hb' := hb
    unfold isDig at hb'
    have ih := readDigits x0 x4 hs r ds (pre ++ [b]) (10 * x + (b.toNat - 48)) (by rw [he]; simp) (fun c hc => hd c (by simp [hc])) (by
      rw [List.length_append]
      exact val_lt x b hb pre.length hx) (by
      rw [List.length_append, show pre.length + [b].length + ds.length = pre.length + (b :: ds).length by simp; omega]
      exact H)
    rw [List.length_append] at ih
    have hx2 : x < 10000000000000 := Nat.lt_of_lt_of_le hx hp
    clear hp hx
    have g0 : (0 : Int) ≤ ((pre.length : Nat) : Int) := Int.natCast_nonneg _
    have g1 : ((pre.length : Nat) : Int) < (x4.size : Int) := by omega
    have g4 : ¬ bt x4 ((pre.length : Nat) : Int) < 48 := by omega
    have g5 : ¬ bt x4 ((pre.length : Nat) : Int) > 57 := by omega
    refine spec_l01Read.l0.st (ev_pos g1 (ev_pos g0 (ev_neg g4 (ev_neg g5 ?_))))
    have f1 : wrap64 (10 * (x : Int)) = 10 * (x : Int) := w64 (by omega) (by omega)
    have f2 : wrap64 (b.toNat : Int) = (b.toNat : Int) := w64 (by omega) (by omega)
    have f3 : wrap64 (10 * (x : Int) + (b.toNat : Int)) = 10 * (x : Int) + (b.toNat : Int) := w64 (by omega) (by omega)
    have f4 : wrap64 (10 * (x : Int) + (b.toNat : Int) - 48) = ((10 * x + (b.toNat - 48) : Nat) : Int) := by rw [w64 (by omega) (by omega)]; omega
    have f5 : wrap64 ((pre.length : Int) + 1) = ((pre.length + [b].length : Nat) : Int) := by rw [w64 (by omega) (by omega)]; simp
    rw [e1, f1, f2, f3, f4, f5]
    exact ih
theorem specReadBack (u : Nat) (hu : u < 1000000000) : Ev (fun k => spec_l01Read.f k (numText u)) ((u : Int), true) := by
  have hb := numBytes u
  have hz := size_list (numText u)
  rw [hb] at hz
  have hd := dec_digits u
  have l0 : 0 < (Lib.decDigits u).length := List.length_pos_iff.2 (dec_ne _)
  have l1 : (Lib.decDigits u).length ≤ 9 := by
    by_cases h : u = 0
    · subst h
      rw [Lib.decDigits_one (by omega)]
      simp
    · have := digs_len u 9 (by omega)
      unfold digs at this
      rw [if_neg h] at this
      exact this
  have hm : (bt (numText u) 0 == 45) = false := by
    apply beq_false_of_ne
    obtain ⟨c, t, e⟩ : ∃ c t, Lib.decDigits u = c :: t := by
      cases h : Lib.decDigits u with
      | nil => exact absurd h (dec_ne _)
      | cons c t => exact ⟨c, t, rfl⟩
    have hc := hd c (by rw [e]; simp)
    have := (bt_list (numText u) 0 c (by rw [hb, e]; simp)).1
    unfold isDig at hc
    intro h2
    have h3 : bt (numText u) ((0 : Nat) : Int) = 45 := h2
    omega
  unfold spec_l01Read.f
  refine ev_pos (by omega) (ev_pos (by omega) ?_)
  rw [hm]
  refine spec_l01Read.j0.st (ev_neg (by simp) (spec_l01Read.j1.st (ev_call (specIn _ _ _) (ev_pos (by simp; omega) ?_))))
  refine readDigits _ _ (by omega) _ (Lib.decDigits u) [] 0 hb hd (by simp) ?_
  rw [val_dec, List.length_nil, Nat.zero_add]
  refine spec_l01Read.l0.st (ev_neg (by omega) (ev_neg (by omega) (ev_bind (specNum u (by omega)) ?_)))
  rw [show ((numText u).toList == (numText u).toList) = true from beq_self_eq_true _]
  exact ev_now
theorem atoi_num (u : Nat) (hu : u < 1000000000) : atoiOr (numText u).data.toList = (u : Int) := by
  unfold atoiOr
  rw [numBytes, atoi_dec u (by omega)]

/-! ### The setup, copied -/
theorem rdP_mem (l : List S102) (i : Nat) (h : i < l.length) : rd_T102 l (i : Int) = l[i] := by
  unfold rd_T102
  rw [Int.toNat_natCast, List.getD_eq_getElem?_getD, List.getElem?_eq_getElem h]
  rfl
theorem specCopySide (l : List S102) (a b : Int) (hl : l.length ≤ 1048577) : Ev (fun k => spec_l08Side.f k l a b) (l, a, b) := by
  unfold spec_l08Side.f
  have key : ∀ d i, i + d = l.length → Ev (fun k => spec_l08Side.l0 k (i : Int) l a b (l.take i) a b) (l, a, b) := by
    intro d
    induction d with
    | zero =>
      intro i hi
      rw [show i = l.length by omega, List.take_length]
      exact spec_l08Side.l0.st (ev_neg (by omega) ev_now)
    | succ d ih =>
      intro i hi
      have hw : wrap64 ((i : Int) + 1) = ((i + 1 : Nat) : Int) := by rw [w64 (by omega) (by omega)]; omega
      refine spec_l08Side.l0.st (ev_pos (by omega) (ev_pos (by omega) (ev_pos (by rw [List.length_take]; omega) ?_)))
      rw [hw]
      have := ih (i + 1) (by omega)
      rw [List.take_succ_eq_append_getElem (by omega)] at this
      rw [rdP_mem l i (by omega)]
      exact this
  exact key l.length 0 (by omega)
theorem specCopy (a b c : Int) (gs : List S82) (p1 : List S102) (u v : Int) (p2 : List S102) (d e m x : Int) (hl : gs.length ≤ 1048577) (h1 : p1.length ≤ 1048577) (h2 : p2.length ≤ 1048577) :
    Ev (fun k => spec_l08Setup.f k a b c gs p1 u v p2 d e m x) (a, b, c, gs, p1, u, v, p2, d, e, m, x) := by
  unfold spec_l08Setup.f
  refine ev_bind (specCopySide p1 u v h1) (ev_bind (specCopySide p2 d e h2) ?_)
  have key : ∀ t i, i + t = gs.length → Ev (fun k => spec_l08Setup.l0 k (i : Int) a b c gs p1 u v p2 d e m x a b c (gs.take i) p1 u v p2 d e m x) (a, b, c, gs, p1, u, v, p2, d, e, m, x) := by
    intro t
    induction t with
    | zero =>
      intro i hi
      rw [show i = gs.length by omega, List.take_length]
      exact spec_l08Setup.l0.st (ev_neg (by omega) ev_now)
    | succ t ih =>
      intro i hi
      have hw : wrap64 ((i : Int) + 1) = ((i + 1 : Nat) : Int) := by rw [w64 (by omega) (by omega)]; omega
      refine spec_l08Setup.l0.st (ev_pos (by omega) (ev_pos (by omega) (ev_pos (by rw [List.length_take]; omega) ?_)))
      rw [hw]
      have := ih (i + 1) (by omega)
      rw [List.take_succ_eq_append_getElem (by omega)] at this
      rw [rdG_mem gs i (by omega)]
      exact this
  exact key gs.length 0 (by omega)
theorem implCopy (a b c : Int) (gs : List S82) (p1 : List S102) (u v : Int) (p2 : List S102) (d e m x : Int) (hl : gs.length ≤ 1048577) (h1 : p1.length ≤ 1048577) (h2 : p2.length ≤ 1048577) :
    impl_ownSetup.f a b c gs p1 u v p2 d e m x = some (a, b, c, gs, p1, u, v, p2, d, e, m, x) := by
  unfold impl_ownSetup.f impl_ownSide.f slices_Clone_Goal.f slices_Clone_Policy.f
  rw [if_pos (by omega), if_pos (by omega), if_pos (by omega)]
  rfl
end Go.Proofs.YtapckgibbhijeaaGreatDoor.PA
