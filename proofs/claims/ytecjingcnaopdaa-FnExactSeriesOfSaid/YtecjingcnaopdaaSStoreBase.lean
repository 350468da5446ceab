/- Stores of series: what the reference's StoreOk and the program's answer, in one form; the order of texts; the copies and comparisons that the statements make. No condition but that texts and lists fit into memory. -/
import Derived.Test.YtecjingcnaopdaaSNamesBase
import Derived.Test.YtecjingcnaopdaaPSx0
import Derived.Test.YtecjingcnaopdaaPSx1
import Derived.Test.YtecjingcnaopdaaPSx2
import Derived.Test.YtecjingcnaopdaaPSx3
namespace Go.Proofs.Ytecjingcnaopdaa.PS
open Go.RowKit Go.Proofs.YtecjingcnaopdaaW.PrintWords Go.Proofs.YtecjingcnaopdaaW.PrintLast Go.Proofs.YtecjingcnaopdaaW.PrintMore Go.Proofs.Ytecjingcnaopdaa.Aid
set_option linter.unusedVariables false

/-! ### The order of texts -/
theorem less_irrefl : ∀ x : List UInt8, Op.bytesLess x x = false
  | [] => rfl
  | a :: x => by simp [Op.bytesLess, less_irrefl x]
theorem toList_length (s : ByteArray) : s.toList.length = s.size := by
  rw [ByteArray.toList_eq, Array.length_toList]
  rfl
theorem toList_drop (s : ByteArray) (i : Nat) (h : i < s.size) : ∃ b : UInt8, s.toList.drop i = b :: s.toList.drop (i + 1) ∧ bt s (i : Int) = (b.toNat : Int) := by
  have hl : i < s.toList.length := by rw [toList_length]; exact h
  refine ⟨s.toList[i], List.drop_eq_getElem_cons hl, ?_⟩
  unfold bt
  have h2 : (i : Int).toNat < s.size := by omega
  rw [dif_pos h2]
  congr 2
  simp only [Int.toNat_natCast]
  have h3 : s.toList[i] = s.data.toList[i]'(by rw [← ByteArray.toList_eq]; exact hl) := by
    congr 1
    exact ByteArray.toList_eq s
  rw [h3]
  rfl

theorem specLess (a b : ByteArray) (ha : a.size ≤ 9223372036854775807) : Ev (fun k => spec_l02Less.f k a b) (Op.bytesLess a.toList b.toList) := by
  unfold spec_l02Less.f
  have key : ∀ d i, i + d = a.size → i ≤ b.size → Ev (fun k => spec_l02Less.l0 k a b (i : Int)) (Op.bytesLess (a.toList.drop i) (b.toList.drop i)) := by
    intro d
    induction d with
    | zero =>
      intro i hi hb
      rw [List.drop_eq_nil_iff.2 (by rw [toList_length]; omega)]
      refine spec_l02Less.l0.st (ev_neg (by omega) (spec_l02Less.j1.st (ev_neg (by simp) (ev_val ?_))))
      by_cases h : i < b.size
      · obtain ⟨y, hy, _⟩ := toList_drop b i h
        rw [hy, decide_eq_true (by omega)]
        rfl
      · rw [List.drop_eq_nil_iff.2 (by rw [toList_length]; omega), decide_eq_false (by omega)]
        rfl
    | succ d ih =>
      intro i hi hb
      obtain ⟨x, hx, hx2⟩ := toList_drop a i (by omega)
      refine spec_l02Less.l0.st (ev_pos (by omega) (spec_l02Less.j1.st ?_))
      by_cases h : i < b.size
      · obtain ⟨y, hy, hy2⟩ := toList_drop b i h
        refine ev_pos (decide_eq_true (by omega)) (ev_pos (by omega) (ev_pos (by omega) (ev_pos (by omega) ?_)))
        rw [hx, hy, hx2, hy2]
        by_cases he : x = y
        · subst he
          refine ev_pos rfl ?_
          rw [w64 (by omega) (by omega)]
          have := ih (i + 1) (by omega) (by omega)
          simpa [Op.bytesLess] using this
        · have hn : ¬ (x.toNat : Int) = (y.toNat : Int) := fun h => he (UInt8.toNat_inj.1 (by omega))
          refine ev_neg hn (ev_val ?_)
          simp only [Op.bytesLess, UInt8.lt_iff_toNat_lt]
          simp [he]
      · refine ev_neg (by simp; omega) (ev_val ?_)
        rw [List.drop_eq_nil_iff.2 (show b.toList.length ≤ i by rw [toList_length]; omega), hx, decide_eq_false (by omega)]
        rfl
  have := key a.size 0 (by omega) (Nat.zero_le _)
  rw [List.drop_zero, List.drop_zero] at this
  exact this

/-- A pod and a metric ahead of others. -/
def before (a b c d : ByteArray) : Bool := if a.toList = c.toList then Op.bytesLess b.toList d.toList else Op.bytesLess a.toList c.toList
theorem specBefore (a b c d : ByteArray) (ha : a.size ≤ 9223372036854775807) (hb : b.size ≤ 9223372036854775807) : Ev (fun k => spec_l03Before.f k a b c d) (before a b c d) := by
  unfold spec_l03Before.f before
  by_cases h : a.toList = c.toList
  · rw [if_pos h]
    exact ev_pos h (ev_bind (specLess b d hb) ev_now)
  · rw [if_neg h]
    exact ev_neg h (ev_bind (specLess a c ha) ev_now)

def cmpText (a b : ByteArray) : Int := if Op.bytesLess a.toList b.toList = true then -1 else if (a.toList == b.toList) = true then 0 else 1
theorem implCmp (a b : ByteArray) : cmp_Compare_string.f a b = some (cmpText a b) := rfl

theorem implOr (x y : Int) : Ev (fun k => cmp_Or_int.f k [x, y]) (if x = 0 then y else x) := by
  unfold cmp_Or_int.f
  have e0 : rd [x, y] 0 = x := rfl
  have e1 : rd [x, y] 1 = y := rfl
  have w1 : wrap64 (0 + 1) = 1 := w64 (by omega) (by omega)
  have w2 : wrap64 (1 + 1) = 2 := w64 (by omega) (by omega)
  have hl : (([x, y] : List Int).length : Int) = 2 := rfl
  rw [hl]
  refine cmp_Or_int.l0.st (ev_pos (by omega) (ev_pos (by omega) (ev_pos (by rw [hl]; omega) ?_)))
  rw [e0, w1]
  by_cases hx : x = 0
  · rw [if_pos hx]
    refine ev_pos hx (cmp_Or_int.l0.st (ev_pos (by omega) (ev_pos (by omega) (ev_pos (by rw [hl]; omega) ?_))))
    rw [e1, w2]
    by_cases hy : y = 0
    · refine ev_pos hy (cmp_Or_int.l0.st (ev_neg (by omega) (ev_val ?_)))
      rw [hy]
    · exact ev_neg hy ev_now
  · rw [if_neg hx]
    exact ev_neg hx ev_now

def cmpKey (a b c d : ByteArray) : Int := if cmpText a c = 0 then cmpText b d else cmpText a c
theorem implCompare (a b : ByteArray) (ps : List S31) (c d : ByteArray) : Ev (fun k => impl_Series_compare.f k a b ps c d) (cmpKey a b c d) := by
  unfold impl_Series_compare.f cmpKey
  exact ev_call (implCmp _ _) (ev_call (implCmp _ _) (ev_bind (implOr _ _) ev_now))

theorem cmpText_self {a b : ByteArray} (h : a.toList = b.toList) : cmpText a b = 0 := by
  unfold cmpText
  rw [h, less_irrefl, if_neg (by simp), if_pos (by simp)]
theorem cmpText_ne {a b : ByteArray} (h : a.toList ≠ b.toList) : cmpText a b ≠ 0 := by
  unfold cmpText
  by_cases h1 : Op.bytesLess a.toList b.toList = true
  · rw [if_pos h1]; omega
  · rw [if_neg h1, if_neg (by simpa using h)]; omega
theorem cmpText_neg (a b : ByteArray) : ¬ cmpText a b ≥ 0 ↔ Op.bytesLess a.toList b.toList = true := by
  unfold cmpText
  by_cases h1 : Op.bytesLess a.toList b.toList = true
  · rw [if_pos h1]; simp [h1]
  · rw [if_neg h1]
    by_cases h2 : (a.toList == b.toList) = true
    · rw [if_pos h2]; simp [h1]
    · rw [if_neg h2]; simp [h1]
theorem cmpKey_neg (a b c d : ByteArray) : ¬ cmpKey a b c d ≥ 0 ↔ before a b c d = true := by
  unfold cmpKey before
  by_cases h : a.toList = c.toList
  · rw [if_pos h, if_pos (cmpText_self h)]
    exact cmpText_neg _ _
  · rw [if_neg h, if_neg (cmpText_ne h)]
    exact cmpText_neg _ _

/-! ### Bounds -/
theorem specTick (a : Int) : spec_l02Tick.f a = some (decide (0 ≤ a ∧ a ≤ 1000000000)) := by
  unfold spec_l02Tick.f
  rw [specIn]
  rfl
theorem specAmt (a : Int) : spec_l01Amt.f a = some (decide (0 ≤ a ∧ a ≤ 1000000000)) := by
  unfold spec_l01Amt.f
  rw [specIn]
  rfl
theorem implTick (a : Int) : impl_isTick.f a = some (decide (0 ≤ a ∧ a ≤ 1000000000)) := by
  unfold impl_isTick.f
  rw [implIn]
  rfl
theorem implSize (a : Int) : impl_isSize.f a = some (decide (0 ≤ a ∧ a ≤ 1000000000)) := by
  unfold impl_isSize.f
  rw [implIn]
  rfl

/-! ### A store -/
theorem rd31_mem (l : List S31) (i : Nat) (h : i < l.length) : rd_T31 l (i : Int) = l[i] := by
  unfold rd_T31
  rw [Int.toNat_natCast, List.getD_eq_getElem?_getD, List.getElem?_eq_getElem h]
  rfl
theorem rd58_mem (l : List S58) (i : Nat) (h : i < l.length) : rd_T58 l (i : Int) = l[i] := by
  unfold rd_T58
  rw [Int.toNat_natCast, List.getD_eq_getElem?_getD, List.getElem?_eq_getElem h]
  rfl
/-- A point in its place. -/
def pointOk (ps : List S31) (i : Nat) : Bool :=
  decide (0 ≤ (rd_T31 ps (i : Int)).f0 ∧ (rd_T31 ps (i : Int)).f0 ≤ 1000000000) && (decide (0 ≤ (rd_T31 ps (i : Int)).f1 ∧ (rd_T31 ps (i : Int)).f1 ≤ 1000000000) &&
    (decide (i = 0) || decide ((rd_T31 ps ((i : Int) - 1)).f0 < (rd_T31 ps (i : Int)).f0)))
def seriesOk (s : S58) : Bool := nameOk s.f0 && (nameOk s.f1 && (decide (1 ≤ (s.f2.length : Int) ∧ (s.f2.length : Int) ≤ 12) && (List.range s.f2.length).all (pointOk s.f2)))
def orderOk (l : List S58) (i : Nat) : Bool := decide (i = 0) || before (rd_T58 l ((i : Int) - 1)).f0 (rd_T58 l ((i : Int) - 1)).f1 (rd_T58 l (i : Int)).f0 (rd_T58 l (i : Int)).f1
def storeAt (l : List S58) (i : Nat) : Bool := seriesOk (rd_T58 l (i : Int)) && orderOk l i
def storeOk (l : List S58) : Bool := decide ((l.length : Int) ≤ 24) && (List.range l.length).all (storeAt l)
/-- Nothing is longer than memory allows. -/
def FitsStore (l : List S58) : Prop := ∀ s ∈ l, s.f0.size ≤ 9223372036854775807 ∧ s.f1.size ≤ 9223372036854775807 ∧ s.f2.length ≤ 9223372036854775806
theorem FitsStore.at {l : List S58} (h : FitsStore l) (i : Nat) (hi : i < l.length) : (rd_T58 l (i : Int)).f0.size ≤ 9223372036854775807 ∧ (rd_T58 l (i : Int)).f1.size ≤ 9223372036854775807 ∧ (rd_T58 l (i : Int)).f2.length ≤ 9223372036854775806 := by
  rw [rd58_mem l i hi]
  exact h _ (List.getElem_mem hi)

/-- The reference's inner loop, over a series' points. -/
theorem store_l1 (l : List S58) (i : Nat) (hl : l.length ≤ 24) (hi : i < l.length) (a b : ByteArray) (ps : List S31) (hp : ps.length ≤ 12) (r : Bool) (hn : Ev (fun k => spec_StoreOk.l0 k l (((i + 1 : Nat)) : Int)) r) :
    Ev (fun k => spec_StoreOk.l1 k l (i : Int) 0 a b ps) ((List.range ps.length).all (pointOk ps) && r) := by
  have key : ∀ d j, j + d = ps.length → Ev (fun k => spec_StoreOk.l1 k l (i : Int) (j : Int) a b ps) ((List.range' j d).all (pointOk ps) && r) := by
    intro d
    induction d with
    | zero =>
      intro j hj
      refine spec_StoreOk.l1.st (ev_neg (by omega) ?_)
      rw [w64 (by omega) (by omega)]
      exact hn
    | succ d ih =>
      intro j hj
      rw [List.range'_succ, List.all_cons]
      refine spec_StoreOk.l1.st (ev_pos (by omega) (ev_pos (by omega) (ev_call (specTick _) ?_)))
      by_cases h1 : 0 ≤ (rd_T31 ps (j : Int)).f0 ∧ (rd_T31 ps (j : Int)).f0 ≤ 1000000000
      · refine ev_pos (decide_eq_true h1) (ev_call (specAmt _) ?_)
        by_cases h2 : 0 ≤ (rd_T31 ps (j : Int)).f1 ∧ (rd_T31 ps (j : Int)).f1 ≤ 1000000000
        · refine ev_pos (decide_eq_true h2) ?_
          by_cases h3 : j = 0
          · subst h3
            rw [show pointOk ps 0 = true by unfold pointOk; rw [decide_eq_true h1, decide_eq_true h2]; rfl]
            refine ev_neg (by omega) ?_
            rw [w64 (by omega) (by omega)]
            exact ih 1 (by omega)
          · refine ev_pos (by omega) ?_
            rw [w64 (x := (j : Int) - 1) (by omega) (by omega), w64 (x := (j : Int) + 1) (by omega) (by omega)]
            refine ev_pos (by omega) (ev_pos (by omega) ?_)
            by_cases h4 : (rd_T31 ps ((j : Int) - 1)).f0 ≥ (rd_T31 ps (j : Int)).f0
            · rw [show pointOk ps j = false by unfold pointOk; rw [decide_eq_false h3, decide_eq_false (show ¬ (rd_T31 ps ((j : Int) - 1)).f0 < (rd_T31 ps (j : Int)).f0 from Int.not_lt.2 h4)]; simp]
              exact ev_pos h4 ev_now
            · rw [show pointOk ps j = true by unfold pointOk; rw [decide_eq_true h1, decide_eq_true h2, decide_eq_true (Int.not_le.1 h4)]; simp]
              exact ev_neg h4 (ih (j + 1) (by omega))
        · rw [show pointOk ps j = false by unfold pointOk; rw [decide_eq_false h2]; simp]
          exact ev_neg (by rw [decide_eq_false h2]; simp) ev_now
      · rw [show pointOk ps j = false by unfold pointOk; rw [decide_eq_false h1]; simp]
        exact ev_neg (by rw [decide_eq_false h1]; simp) ev_now
  rw [List.range_eq_range']
  exact key ps.length 0 (by omega)

theorem specStore (l : List S58) (hf : FitsStore l) : Ev (fun k => spec_StoreOk.f k l) (storeOk l) := by
  unfold spec_StoreOk.f storeOk
  refine ev_ite (fun h => ?_) (fun h => ?_)
  · rw [decide_eq_false (by omega), Bool.false_and]
    exact ev_now
  · rw [decide_eq_true (by omega), Bool.true_and]
    have key : ∀ d i, i + d = l.length → Ev (fun k => spec_StoreOk.l0 k l (i : Int)) ((List.range' i d).all (storeAt l)) := by
      intro d
      induction d with
      | zero => intro i hi; exact spec_StoreOk.l0.st (ev_neg (by omega) ev_now)
      | succ d ih =>
        intro i hi
        rw [List.range'_succ, List.all_cons]
        have hfi := hf.at i (by omega)
        refine spec_StoreOk.l0.st (ev_pos (by omega) (ev_pos (by omega) (ev_bind (specName _ hfi.1) ?_)))
        cases h1 : nameOk (rd_T58 l (i : Int)).f0 with
        | false =>
          rw [show storeAt l i = false by unfold storeAt seriesOk; rw [h1]; simp]
          exact ev_neg (by simp) (spec_StoreOk.j1.st (ev_pos rfl ev_now))
        | true =>
          refine ev_pos rfl (ev_bind (specName _ hfi.2.1) ?_)
          cases h2 : nameOk (rd_T58 l (i : Int)).f1 with
          | false =>
            rw [show storeAt l i = false by unfold storeAt seriesOk; rw [h2]; simp]
            exact ev_neg (by simp) (spec_StoreOk.j1.st (ev_pos rfl ev_now))
          | true =>
            refine ev_pos rfl (ev_call (specIn _ _ _) ?_)
            by_cases h3 : 1 ≤ ((rd_T58 l (i : Int)).f2.length : Int) ∧ ((rd_T58 l (i : Int)).f2.length : Int) ≤ 12
            · refine ev_pos (decide_eq_true h3) ?_
              have inner := store_l1 l i (by omega) (by omega) (rd_T58 l (i : Int)).f0 (rd_T58 l (i : Int)).f1 (rd_T58 l (i : Int)).f2 (by omega) _ (ih (i + 1) (by omega))
              have hsa : storeAt l i = ((List.range (rd_T58 l (i : Int)).f2.length).all (pointOk (rd_T58 l (i : Int)).f2) && orderOk l i) := by
                unfold storeAt seriesOk
                rw [h1, h2, decide_eq_true h3]
                simp only [Bool.true_and]
              by_cases h4 : i = 0
              · have ho : orderOk l i = true := by unfold orderOk; rw [decide_eq_true h4]; rfl
                rw [hsa, ho, Bool.and_true]
                refine ev_neg (by omega) (spec_StoreOk.j1.st (ev_neg (by simp) inner))
              · have hfj := hf.at (i - 1) (by omega)
                rw [show ((i - 1 : Nat) : Int) = (i : Int) - 1 by omega] at hfj
                refine ev_pos (by omega) ?_
                rw [w64 (x := (i : Int) - 1) (by omega) (by omega)]
                refine ev_pos (by omega) (ev_pos (by omega) (ev_bind (specBefore _ _ _ _ hfj.1 hfj.2.1) ?_))
                have ho : orderOk l i = before (rd_T58 l ((i : Int) - 1)).f0 (rd_T58 l ((i : Int) - 1)).f1 (rd_T58 l (i : Int)).f0 (rd_T58 l (i : Int)).f1 := by unfold orderOk; rw [decide_eq_false h4, Bool.false_or]
                rw [hsa, ho]
                cases hb : before (rd_T58 l ((i : Int) - 1)).f0 (rd_T58 l ((i : Int) - 1)).f1 (rd_T58 l (i : Int)).f0 (rd_T58 l (i : Int)).f1 with
                | true => rw [Bool.and_true]; exact spec_StoreOk.j1.st (ev_neg (by simp) inner)
                | false => rw [Bool.and_false, Bool.false_and]; exact spec_StoreOk.j1.st (ev_pos rfl ev_now)
            · rw [show storeAt l i = false by unfold storeAt seriesOk; rw [decide_eq_false h3]; simp]
              exact ev_neg (by rw [decide_eq_false h3]; simp) (spec_StoreOk.j1.st (ev_pos rfl ev_now))
    rw [List.range_eq_range']
    exact key l.length 0 (by omega)

theorem implSeries (s : S58) (h0 : s.f0.size ≤ 9223372036854775807) (h1 : s.f1.size ≤ 9223372036854775807) (h2 : s.f2.length ≤ 9223372036854775806) : Ev (fun k => impl_Series_ok.f k s.f0 s.f1 s.f2) (seriesOk s) := by
  unfold impl_Series_ok.f
  have hend : Ev (fun k => (impl_NameOk.f k s.f0).bind fun t154 => (if t154 = true then ((impl_NameOk.f k s.f1).bind fun t155 => (if t155 = true then ((impl_in.f (s.f2.length : Int) 1 12).bind fun t156 => (some t156)) else (some false))) else (some false))) (nameOk s.f0 && (nameOk s.f1 && decide (1 ≤ (s.f2.length : Int) ∧ (s.f2.length : Int) ≤ 12))) := by
    refine ev_bind (implName _ h0) (ev_test (fun h => ?_) (fun h => ?_))
    · rw [h, Bool.true_and]
      refine ev_bind (implName _ h1) (ev_test (fun h => ?_) (fun h => ?_))
      · rw [h, Bool.true_and]
        exact ev_call (implIn _ _ _) ev_now
      · rw [h, Bool.false_and]; exact ev_now
    · rw [h, Bool.false_and]; exact ev_now
  have key : ∀ d j, j + d = s.f2.length → Ev (fun k => impl_Series_ok.l0 k s.f2 (s.f2.length : Int) (j : Int) s.f0 s.f1 s.f2) ((List.range' j d).all (pointOk s.f2) && (nameOk s.f0 && (nameOk s.f1 && decide (1 ≤ (s.f2.length : Int) ∧ (s.f2.length : Int) ≤ 12)))) := by
    intro d
    induction d with
    | zero =>
      intro j hj
      exact impl_Series_ok.l0.st (ev_neg (by omega) hend)
    | succ d ih =>
      intro j hj
      rw [List.range'_succ, List.all_cons]
      generalize s.f2 = ps at *
      refine impl_Series_ok.l0.st (ev_pos (by omega) (ev_pos (by omega) (ev_pos (by omega) (ev_call (implTick _) ?_))))
      by_cases h1 : 0 ≤ (rd_T31 ps (j : Int)).f0 ∧ (rd_T31 ps (j : Int)).f0 ≤ 1000000000
      · refine ev_pos (decide_eq_true h1) (ev_call (implSize _) ?_)
        by_cases h2 : 0 ≤ (rd_T31 ps (j : Int)).f1 ∧ (rd_T31 ps (j : Int)).f1 ≤ 1000000000
        · refine ev_pos (decide_eq_true h2) ?_
          by_cases h3 : j = 0
          · subst h3
            rw [show pointOk ps 0 = true by unfold pointOk; rw [decide_eq_true h1, decide_eq_true h2]; rfl]
            refine ev_neg (by omega) ?_
            rw [w64 (by omega) (by omega)]
            exact ih 1 (by omega)
          · refine ev_pos (by omega) ?_
            rw [w64 (x := (j : Int) - 1) (by omega) (by omega), w64 (x := (j : Int) + 1) (by omega) (by omega)]
            refine ev_pos (by omega) (ev_pos (by omega) ?_)
            by_cases h4 : (rd_T31 ps ((j : Int) - 1)).f0 ≥ (rd_T31 ps (j : Int)).f0
            · rw [show pointOk ps j = false by unfold pointOk; rw [decide_eq_false h3, decide_eq_false (show ¬ (rd_T31 ps ((j : Int) - 1)).f0 < (rd_T31 ps (j : Int)).f0 from Int.not_lt.2 h4)]; simp]
              exact ev_pos h4 ev_now
            · rw [show pointOk ps j = true by unfold pointOk; rw [decide_eq_true h1, decide_eq_true h2, decide_eq_true (Int.not_le.1 h4)]; simp]
              exact ev_neg h4 (ih (j + 1) (by omega))
        · rw [show pointOk ps j = false by unfold pointOk; rw [decide_eq_false h2]; simp]
          exact ev_neg (by rw [decide_eq_false h2]; simp) ev_now
      · rw [show pointOk ps j = false by unfold pointOk; rw [decide_eq_false h1]; simp]
        exact ev_neg (by rw [decide_eq_false h1]; simp) ev_now
  have e : seriesOk s = ((List.range' 0 s.f2.length).all (pointOk s.f2) && (nameOk s.f0 && (nameOk s.f1 && decide (1 ≤ (s.f2.length : Int) ∧ (s.f2.length : Int) ≤ 12)))) := by
    unfold seriesOk
    rw [List.range_eq_range', Bool.and_comm (List.all _ _), Bool.and_assoc, Bool.and_assoc]
  rw [e]
  exact key s.f2.length 0 (by omega)

theorem implStore (l : List S58) (hl : l.length ≤ 1048577) (hf : FitsStore l) : Ev (fun k => impl_StoreOk.f k l) (storeOk l) := by
  unfold impl_StoreOk.f storeOk
  have key : ∀ d i, i + d = l.length → Ev (fun k => impl_StoreOk.l0 k l l (l.length : Int) (i : Int)) ((List.range' i d).all (storeAt l) && decide ((l.length : Int) ≤ 24)) := by
    intro d
    induction d with
    | zero =>
      intro i hi
      exact impl_StoreOk.l0.st (ev_neg (by omega) ev_now)
    | succ d ih =>
      intro i hi
      rw [List.range'_succ, List.all_cons]
      have hfi := hf.at i (by omega)
      refine impl_StoreOk.l0.st (ev_pos (by omega) (ev_pos (by omega) (ev_pos (by omega) (ev_bind (implSeries _ hfi.1 hfi.2.1 hfi.2.2) ?_))))
      cases h1 : seriesOk (rd_T58 l (i : Int)) with
      | false =>
        rw [show storeAt l i = false by unfold storeAt; rw [h1]; rfl]
        exact ev_neg (by simp) ev_now
      | true =>
        refine ev_pos rfl ?_
        by_cases h4 : i = 0
        · rw [show storeAt l i = true by unfold storeAt orderOk; rw [h1, decide_eq_true h4]; rfl, Bool.true_and]
          refine ev_neg (by omega) ?_
          rw [w64 (by omega) (by omega)]
          exact ih (i + 1) (by omega)
        · refine ev_pos (by omega) ?_
          rw [w64 (x := (i : Int) - 1) (by omega) (by omega), w64 (x := (i : Int) + 1) (by omega) (by omega)]
          refine ev_pos (by omega) (ev_pos (by omega) (ev_bind (implCompare _ _ _ _ _) ?_))
          have ho : storeAt l i = before (rd_T58 l ((i : Int) - 1)).f0 (rd_T58 l ((i : Int) - 1)).f1 (rd_T58 l (i : Int)).f0 (rd_T58 l (i : Int)).f1 := by unfold storeAt orderOk; rw [h1, decide_eq_false h4, Bool.false_or, Bool.true_and]
          rw [ho]
          cases hb : before (rd_T58 l ((i : Int) - 1)).f0 (rd_T58 l ((i : Int) - 1)).f1 (rd_T58 l (i : Int)).f0 (rd_T58 l (i : Int)).f1 with
          | true =>
            rw [Bool.true_and]
            exact ev_neg ((cmpKey_neg _ _ _ _).2 hb) (ih (i + 1) (by omega))
          | false =>
            rw [Bool.false_and, Bool.false_and]
            refine ev_pos (Decidable.byContradiction fun hc => ?_) ev_now
            have := (cmpKey_neg _ _ _ _).1 hc
            rw [hb] at this
            cases this
  rw [Bool.and_comm, List.range_eq_range']
  exact key l.length 0 (by omega)
end Go.Proofs.Ytecjingcnaopdaa.PS
