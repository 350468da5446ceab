/- Worlds: what the reference's WorldOk, LoadAt and IdealAt and the program's answer. No condition but that texts fit into memory and lists are of a length that a statement lets pass. -/
import Derived.Test.YtapckgibbhijeaaDoorSetupBase
import Derived.Test.YtapckgibbhijeaaDoorPAx0
import Derived.Test.YtapckgibbhijeaaDoorPAx1
import Derived.Test.YtapckgibbhijeaaDoorPAx2
import Derived.Test.YtapckgibbhijeaaDoorPAx3
import Derived.Test.YtapckgibbhijeaaDoorPAx4
import Derived.Test.YtapckgibbhijeaaDoorPAx5
namespace Go.Proofs.YtapckgibbhijeaaDoor.PA
open Go.RowKit Go.Proofs.YtapckgibbhijeaaDoorW.PrintWords Go.Proofs.YtapckgibbhijeaaDoorW.PrintLast Go.Proofs.YtapckgibbhijeaaDoorW.PrintMore Go.Proofs.YtapckgibbhijeaaDoor.Aid
set_option linter.unusedVariables false

def loadsOk (L : List Int) : Bool := (List.range L.length).all fun i => inb (rd L (i : Int)) 0 100000
def cpu (gs : List S64) : Bool := (rd_T64 gs 0).f0.toList == ([99, 112, 117] : List UInt8)
def worldTail (gs : List S64) (L : List Int) (w s n : Int) : Bool := decide ((gs.length : Int) = 1) && (cpu gs && (inb (L.length : Int) 1 20 && (inb w 0 50 && (inb s 1 50 && inb n 1 12))))
def worldOk (a b c : Int) (gs : List S64) (p1 : List S117) (u v : Int) (p2 : List S117) (d e m x : Int) (L : List Int) (w s n : Int) : Bool :=
  loadsOk L && (setupOk a b c gs p1 u v p2 d e m x && worldTail gs L w s n)

section
variable (a b c : Int) (gs : List S64) (p1 : List S117) (u v : Int) (p2 : List S117) (d e m x : Int) (L : List Int) (w s n : Int)
variable (hf : FitsG gs) (hl : gs.length ≤ 1048577) (h1 : p1.length ≤ 1048577) (h2 : p2.length ≤ 1048577) (hL : L.length ≤ 1048577)

include hL in
theorem specLoads : Ev (fun k => spec_WorldOk.l0 k 0 a b c gs p1 u v p2 d e m x L w s n) (loadsOk L) := by
  refine ev_all (fun k i => spec_WorldOk.l0 k i a b c gs p1 u v p2 d e m x L w s n) _ (spec_WorldOk.l0.st (ev_neg (by omega) ev_now)) ?_ ?_
  · intro i hi hg r H
    refine spec_WorldOk.l0.st (ev_pos (by omega) (ev_pos (by omega) (ev_call (sIn _ _ _) (ev_pos hg ?_))))
    rw [w64 (by omega) (by omega)]
    exact H
  · intro i hi hg
    exact spec_WorldOk.l0.st (ev_pos (by omega) (ev_pos (by omega) (ev_call (sIn _ _ _) (ev_neg (by rw [hg]; simp) ev_now))))

include hf hl h1 h2 hL in
theorem specWorld : Ev (fun k => spec_WorldOk.f k a b c gs p1 u v p2 d e m x L w s n) (worldOk a b c gs p1 u v p2 d e m x L w s n) := by
  have hp := specLoads a b c gs p1 u v p2 d e m x L w s n hL
  have j : ∀ y : Bool, Ev (fun k => spec_WorldOk.j0 k y a b c gs p1 u v p2 d e m x L w s n) (loadsOk L && !y) := by
    intro y
    cases y with
    | true => rw [Bool.not_true, Bool.and_false]; exact spec_WorldOk.j0.st (ev_pos rfl ev_now)
    | false => rw [Bool.not_false, Bool.and_true]; exact spec_WorldOk.j0.st (ev_neg (by simp) hp)
  unfold spec_WorldOk.f worldOk worldTail cpu
  refine ev_bind (specSetup a b c gs p1 u v p2 d e m x hf hl h1 h2) (ev_test (fun h => ?_) (fun h => ?_))
  · rw [h, Bool.true_and]
    refine ev_ite (fun h => ?_) (fun h => ?_)
    · rw [decide_eq_true h, Bool.true_and]
      refine ev_pos (by omega) (ev_ite (fun h => ?_) (fun h => ?_))
      · rw [beq_iff_eq.2 h, Bool.true_and]
        refine ev_call (sIn _ _ _) (ev_test (fun h => ?_) (fun h => ?_))
        · rw [h, Bool.true_and]
          refine ev_call (sIn _ _ _) (ev_test (fun h => ?_) (fun h => ?_))
          · rw [h, Bool.true_and]
            refine ev_call (sIn _ _ _) (ev_test (fun h => ?_) (fun h => ?_))
            · rw [h, Bool.true_and]
              refine ev_call (sIn _ _ _) ?_
              have := j (!inb n 1 12)
              rw [Bool.not_not] at this
              exact this
            · rw [h, Bool.false_and]
              exact j true
          · rw [h, Bool.false_and]
            exact j true
        · rw [h, Bool.false_and]
          exact j true
      · rw [beq_eq_false_iff_ne.2 h, Bool.false_and]
        exact j true
    · rw [decide_eq_false h, Bool.false_and]
      exact j true
  · rw [h, Bool.false_and]
    exact j true

theorem implTail (y : Bool) : Ev (fun k => impl_WorldOk.j1 k y a b c gs p1 u v p2 d e m x L w s n) (y && (inb (L.length : Int) 1 20 && (inb w 0 50 && (inb s 1 50 && inb n 1 12)))) := by
  refine impl_WorldOk.j1.st (ev_test (fun h => ?_) (fun h => ?_))
  · rw [h, Bool.true_and]
    refine ev_call (iIn _ _ _) (ev_test (fun h => ?_) (fun h => ?_))
    · rw [h, Bool.true_and]
      refine ev_call (iIn _ _ _) (ev_test (fun h => ?_) (fun h => ?_))
      · rw [h, Bool.true_and]
        refine ev_call (iIn _ _ _) (ev_test (fun h => ?_) (fun h => ?_))
        · rw [h, Bool.true_and]
          exact ev_call (iIn _ _ _) ev_now
        · rw [h, Bool.false_and]
          exact ev_now
      · rw [h, Bool.false_and]
        exact ev_now
    · rw [h, Bool.false_and]
      exact ev_now
  · rw [h, Bool.false_and]
    exact ev_now

include hf hl h1 h2 hL in
theorem implWorld : Ev (fun k => impl_WorldOk.f k a b c gs p1 u v p2 d e m x L w s n) (worldOk a b c gs p1 u v p2 d e m x L w s n) := by
  unfold impl_WorldOk.f worldOk worldTail cpu loadsOk
  have j := implTail a b c gs p1 u v p2 d e m x L w s n
  refine ev_allThen (fun k i => impl_WorldOk.l0 k L (L.length : Int) i a b c gs p1 u v p2 d e m x L w s n) _ _ ?_ ?_ ?_
  · refine impl_WorldOk.l0.st (ev_neg (by omega) (ev_bind (implSetup a b c gs p1 u v p2 d e m x hf hl h1 h2) (ev_test (fun h => ?_) (fun h => ?_))))
    · rw [h, Bool.true_and]
      refine ev_ite (fun h => ?_) (fun h => ?_)
      · rw [decide_eq_true h, Bool.true_and]
        exact ev_pos (by omega) (j _)
      · rw [decide_eq_false h, Bool.false_and]
        exact j false
    · rw [h, Bool.false_and]
      exact j false
  · intro i hi hg r H
    refine impl_WorldOk.l0.st (ev_pos (by omega) (ev_pos (by omega) (ev_pos (by omega) (ev_call (iIn _ _ _) (ev_pos hg ?_)))))
    rw [w64 (by omega) (by omega)]
    exact H
  · intro i hi hg
    exact impl_WorldOk.l0.st (ev_pos (by omega) (ev_pos (by omega) (ev_pos (by omega) (ev_call (iIn _ _ _) (ev_neg (by rw [hg]; simp) ev_now)))))
end

/-! ### What the statements do with a world that came in -/
def convG (x : S78) : S64 := ⟨x.f0, x.f1, x.f2⟩
def convP (x : S119) : S117 := ⟨x.f0, x.f1, x.f2⟩
theorem rd78_mem (l : List S78) (i : Nat) (h : i < l.length) : rd_T78 l (i : Int) = l[i] := by
  unfold rd_T78
  rw [Int.toNat_natCast, List.getD_eq_getElem?_getD, List.getElem?_eq_getElem h]
  rfl
theorem rd93_mem (l : List S119) (i : Nat) (h : i < l.length) : rd_T119 l (i : Int) = l[i] := by
  unfold rd_T119
  rw [Int.toNat_natCast, List.getD_eq_getElem?_getD, List.getElem?_eq_getElem h]
  rfl
theorem sz_goal (x : S78) (a : Int) (h0 : 0 ≤ a) (h1 : a ≤ 1048576) (hs : x.f0.size ≤ 9223372036854775807) :
    laws_szGoal.f x.f0 x.f1 x.f2 a = some (if a - (x.f0.size : Int) < 0 then -1 else a - (x.f0.size : Int)) := by
  unfold laws_szGoal.f
  rw [w64 (by omega) (by omega)]
  split <;> rfl
/-- The count of places and letters ends below 0, or the list is small. -/
theorem szGoals (l : List S78) (hl : l.length ≤ 9223372036854775807) (hs : ∀ x ∈ l, x.f0.size ≤ 9223372036854775807) :
    ∃ r, Ev (fun k => laws_szGoalS.f k l 1048576) r ∧ (¬ r < 0 → l.length ≤ 1048576 ∧ r ≤ 1048576) := by
  unfold laws_szGoalS.f
  rw [w64 (by omega) (by omega)]
  by_cases h : (1048576 : Int) - (l.length : Int) < 0
  · exact ⟨-1, ev_pos h ev_now, fun h => absurd (by omega) h⟩
  · have key : ∀ d i, i + d = l.length → ∀ a : Int, 0 ≤ a → a ≤ 1048576 → ∃ r, Ev (fun k => laws_szGoalS.l0 k l a (i : Int)) r ∧ r ≤ 1048576 := by
      intro d
      induction d with
      | zero => intro i hi a h0 h1; exact ⟨a, laws_szGoalS.l0.st (ev_neg (by omega) ev_now), h1⟩
      | succ d ih =>
        intro i hi a h0 h1
        have hsz : (rd_T78 l (i : Int)).f0.size ≤ 9223372036854775807 := by rw [rd78_mem l i (by omega)]; exact hs _ (List.getElem_mem _)
        by_cases hn : a - ((rd_T78 l (i : Int)).f0.size : Int) < 0
        · exact ⟨-1, laws_szGoalS.l0.st (ev_pos (by omega) (ev_pos (by omega) (ev_call (sz_goal _ a h0 h1 hsz) (by rw [if_pos hn]; exact ev_pos (by omega) ev_now)))), by omega⟩
        · obtain ⟨r, hr, hr1⟩ := ih (i + 1) (by omega) (a - ((rd_T78 l (i : Int)).f0.size : Int)) (by omega) (by omega)
          refine ⟨r, laws_szGoalS.l0.st (ev_pos (by omega) (ev_pos (by omega) (ev_call (sz_goal _ a h0 h1 hsz) ?_))), hr1⟩
          rw [if_neg hn]
          refine ev_neg hn ?_
          rw [w64 (by omega) (by omega)]
          exact hr
    obtain ⟨r, hr, hr1⟩ := key l.length 0 (by omega) (1048576 - (l.length : Int)) (by omega) (by omega)
    exact ⟨r, ev_neg h hr, fun _ => ⟨by omega, hr1⟩⟩

theorem szSide (l : List S119) (a b t : Int) (h0 : 0 ≤ t) (h1 : t ≤ 1048576) (hl : l.length ≤ 9223372036854775807) :
    ∃ r, laws_szSide.f l a b t = some r ∧ (¬ r < 0 → l.length ≤ 1048576 ∧ r ≤ 1048576) := by
  unfold laws_szSide.f laws_szPolicyS.f
  rw [w64 (by omega) (by omega)]
  by_cases h : t - (l.length : Int) < 0
  · rw [if_pos h]
    exact ⟨-1, rfl, fun h => absurd (by omega) h⟩
  · rw [if_neg h]
    refine ⟨t - (l.length : Int), ?_, fun _ => by omega⟩
    rw [Option.bind_some, if_neg h]

theorem szWorld (a b c : Int) (gs : List S78) (p1 : List S119) (u v : Int) (p2 : List S119) (d e m x : Int) (L : List Int) (w s n : Int)
    (hg : gs.length ≤ 9223372036854775807 ∧ ∀ x ∈ gs, x.f0.size ≤ 9223372036854775807) (h1 : p1.length ≤ 9223372036854775807) (h2 : p2.length ≤ 9223372036854775807) (hL : L.length ≤ 9223372036854775807) :
    ∃ r, Ev (fun k => laws_szWorld.f k a b c gs p1 u v p2 d e m x L w s n 1048576) r ∧ (¬ r < 0 → gs.length ≤ 1048576 ∧ p1.length ≤ 1048576 ∧ p2.length ≤ 1048576 ∧ L.length ≤ 1048576) := by
  unfold laws_szWorld.f laws_szSetup.f laws_szBehave.f
  obtain ⟨r, e1, f1⟩ := szGoals gs hg.1 hg.2
  by_cases c1 : r < 0
  · exact ⟨-1, ev_bind (ev_bind e1 (ev_pos c1 ev_now)) (ev_pos (by omega) ev_now), fun h => absurd (by omega) h⟩
  · have f1 := f1 c1
    obtain ⟨r2, e2, f2⟩ := szSide p1 u v r (by omega) (by omega) h1
    by_cases c2 : r2 < 0
    · exact ⟨-1, ev_bind (ev_bind e1 (ev_neg c1 (ev_bind (b := -1) (ev_call e2 (ev_pos c2 ev_now)) (ev_pos (by omega) ev_now)))) (ev_pos (by omega) ev_now), fun h => absurd (by omega) h⟩
    · have f2 := f2 c2
      obtain ⟨r3, e3, f3⟩ := szSide p2 d e r2 (by omega) (by omega) h2
      by_cases c3 : r3 < 0
      · exact ⟨-1, ev_bind (ev_bind e1 (ev_neg c1 (ev_bind (b := -1) (ev_call e2 (ev_neg c2 (ev_call e3 (ev_pos c3 ev_now)))) (ev_pos (by omega) ev_now)))) (ev_pos (by omega) ev_now), fun h => absurd (by omega) h⟩
      · have f3 := f3 c3
        have e4 : laws_szIntS.f L r3 = some (if r3 - (L.length : Int) < 0 then -1 else r3 - (L.length : Int)) := by
          unfold laws_szIntS.f
          rw [w64 (by omega) (by omega)]
          split <;> rfl
        by_cases c4 : r3 - (L.length : Int) < 0
        · rw [if_pos c4] at e4
          exact ⟨-1, ev_bind (ev_bind e1 (ev_neg c1 (ev_bind (b := r3) (ev_call e2 (ev_neg c2 (ev_call e3 (ev_neg c3 ev_now)))) (ev_neg c3 ev_now)))) (ev_neg c3 (ev_call e4 (ev_pos (by omega) ev_now))), fun h => absurd (by omega) h⟩
        · rw [if_neg c4] at e4
          exact ⟨r3 - (L.length : Int), ev_bind (ev_bind e1 (ev_neg c1 (ev_bind (b := r3) (ev_call e2 (ev_neg c2 (ev_call e3 (ev_neg c3 ev_now)))) (ev_neg c3 ev_now)))) (ev_neg c3 (ev_call e4 (ev_neg c4 ev_now))), fun _ => by omega⟩

theorem toGoals (l : List S78) (hl : l.length ≤ 1048576) : Ev (fun k => laws_toGoalS.f k l) (l.map convG) := by
  unfold laws_toGoalS.f
  refine ev_pos (by omega) (ev_pos (by omega) ?_)
  have key : ∀ d i (ys : List S64), i + d = l.length → ys.length = l.length → ys.take i = (l.map convG).take i → Ev (fun k => laws_toGoalS.l0 k l ys (i : Int)) (l.map convG) := by
    intro d
    induction d with
    | zero =>
      intro i ys hi hy he
      rw [List.take_of_length_le (by omega), List.take_of_length_le (by rw [List.length_map]; omega)] at he
      rw [← he]
      exact laws_toGoalS.l0.st (ev_neg (by omega) ev_now)
    | succ d ih =>
      intro i ys hi hy he
      refine laws_toGoalS.l0.st (ev_pos (by omega) (ev_pos (by omega) (ev_call (b := ((rd_T78 l (i : Int)).f0, (rd_T78 l (i : Int)).f1, (rd_T78 l (i : Int)).f2)) rfl (ev_pos (by omega) ?_))))
      rw [w64 (by omega) (by omega)]
      refine ih (i + 1) _ (by omega) (by rw [List.length_set]; exact hy) ?_
      rw [Int.toNat_natCast, rd78_mem l i (by omega), List.take_add_one, List.take_add_one, List.getElem?_set_self (by omega), List.getElem?_map, List.getElem?_eq_getElem (by omega), List.take_set_of_le (by omega), he]
      rfl
  exact key l.length 0 _ (by omega) (by simp) (by simp)
theorem toPols (l : List S119) (hl : l.length ≤ 1048576) : Ev (fun k => laws_toPolicyS.f k l) (l.map convP) := by
  unfold laws_toPolicyS.f
  refine ev_pos (by omega) (ev_pos (by omega) ?_)
  have key : ∀ d i (ys : List S117), i + d = l.length → ys.length = l.length → ys.take i = (l.map convP).take i → Ev (fun k => laws_toPolicyS.l0 k l ys (i : Int)) (l.map convP) := by
    intro d
    induction d with
    | zero =>
      intro i ys hi hy he
      rw [List.take_of_length_le (by omega), List.take_of_length_le (by rw [List.length_map]; omega)] at he
      rw [← he]
      exact laws_toPolicyS.l0.st (ev_neg (by omega) ev_now)
    | succ d ih =>
      intro i ys hi hy he
      refine laws_toPolicyS.l0.st (ev_pos (by omega) (ev_pos (by omega) (ev_call (b := ((rd_T119 l (i : Int)).f0, (rd_T119 l (i : Int)).f1, (rd_T119 l (i : Int)).f2)) rfl (ev_pos (by omega) ?_))))
      rw [w64 (by omega) (by omega)]
      refine ih (i + 1) _ (by omega) (by rw [List.length_set]; exact hy) ?_
      rw [Int.toNat_natCast, rd93_mem l i (by omega), List.take_add_one, List.take_add_one, List.getElem?_set_self (by omega), List.getElem?_map, List.getElem?_eq_getElem (by omega), List.take_set_of_le (by omega), he]
      rfl
  exact key l.length 0 _ (by omega) (by simp) (by simp)
theorem toLoads (l : List Int) (hl : l.length ≤ 1048576) : Ev (fun k => laws_toIntS.f k l) l := by
  unfold laws_toIntS.f
  refine ev_pos (by omega) (ev_pos (by omega) ?_)
  have key : ∀ d i (ys : List Int), i + d = l.length → ys.length = l.length → ys.take i = l.take i → Ev (fun k => laws_toIntS.l0 k l ys (i : Int)) l := by
    intro d
    induction d with
    | zero =>
      intro i ys hi hy he
      rw [List.take_of_length_le (by omega), List.take_of_length_le (by omega)] at he
      rw [he]
      exact laws_toIntS.l0.st (ev_neg (by omega) ev_now)
    | succ d ih =>
      intro i ys hi hy he
      refine laws_toIntS.l0.st (ev_pos (by omega) (ev_pos (by omega) (ev_pos (by omega) ?_)))
      rw [w64 (by omega) (by omega)]
      refine ih (i + 1) _ (by omega) (by rw [List.length_set]; exact hy) ?_
      have hr : rd l (i : Int) = l[i]'(by omega) := by
        unfold rd
        rw [Int.toNat_natCast, List.getD_eq_getElem?_getD, List.getElem?_eq_getElem (by omega)]
        rfl
      rw [Int.toNat_natCast, hr, List.take_add_one, List.take_add_one, List.getElem?_set_self (by omega), List.getElem?_eq_getElem (by omega), List.take_set_of_le (by omega), he]
  exact key l.length 0 _ (by omega) (by simp) (by simp)

theorem toWorld (a b c : Int) (gs : List S78) (p1 : List S119) (u v : Int) (p2 : List S119) (d e m x : Int) (L : List Int) (w s n : Int)
    (hg : gs.length ≤ 1048576) (h1 : p1.length ≤ 1048576) (h2 : p2.length ≤ 1048576) (hL : L.length ≤ 1048576) :
    Ev (fun k => laws_toWorld.f k a b c gs p1 u v p2 d e m x L w s n) (a, b, c, gs.map convG, p1.map convP, u, v, p2.map convP, d, e, m, x, L, w, s, n) := by
  unfold laws_toWorld.f laws_toSetup.f laws_toBehave.f laws_toSide.f
  exact ev_bind (b := (a, b, c, gs.map convG, p1.map convP, u, v, p2.map convP, d, e, m, x)) (ev_call (b := (a, b, c)) rfl (ev_bind (toGoals gs hg) (ev_bind (b := (p1.map convP, u, v, p2.map convP, d, e, m, x)) (ev_bind (b := (p1.map convP, u, v)) (ev_bind (toPols p1 h1) ev_now) (ev_bind (b := (p2.map convP, d, e)) (ev_bind (toPols p2 h2) ev_now) ev_now)) ev_now))) (ev_bind (toLoads L hL) ev_now)

theorem FitsG.conv {l : List S78} (hs : ∀ x ∈ l, x.f0.size ≤ 9223372036854775807) : FitsG (l.map convG) := by
  intro x hx
  obtain ⟨y, hy, rfl⟩ := List.mem_map.1 hx
  exact hs y hy

theorem eqGoals (l : List S64) (hl : l.length ≤ 1048577) : Ev (fun k => laws_eqGoalS.f k l l) true := by
  unfold laws_eqGoalS.f
  refine ev_pos rfl ?_
  have := ev_up (n := l.length) (fun i => Ev (fun k => laws_eqGoalS.l0 k l l (i : Int)) true) (laws_eqGoalS.l0.st (ev_neg (by omega) ev_now))
    (by
      intro i hi H
      refine laws_eqGoalS.l0.st (ev_pos (by omega) (ev_pos (by omega) (ev_pos (by omega) (ev_call (b := true) ?_ (ev_pos rfl ?_)))))
      · unfold laws_eqGoal.f
        rw [if_pos rfl, if_pos rfl, if_pos rfl]
      · rw [w64 (by omega) (by omega)]
        exact H) 0 (Nat.zero_le _)
  exact this
theorem eqPols (l : List S117) (hl : l.length ≤ 1048577) : Ev (fun k => laws_eqPolicyS.f k l l) true := by
  unfold laws_eqPolicyS.f
  refine ev_pos rfl ?_
  have := ev_up (n := l.length) (fun i => Ev (fun k => laws_eqPolicyS.l0 k l l (i : Int)) true) (laws_eqPolicyS.l0.st (ev_neg (by omega) ev_now))
    (by
      intro i hi H
      refine laws_eqPolicyS.l0.st (ev_pos (by omega) (ev_pos (by omega) (ev_pos (by omega) (ev_call (b := true) ?_ (ev_pos rfl ?_)))))
      · unfold laws_eqPolicy.f
        rw [if_pos rfl, if_pos rfl, if_pos rfl]
      · rw [w64 (by omega) (by omega)]
        exact H) 0 (Nat.zero_le _)
  exact this
theorem eqLoads (l : List Int) (hl : l.length ≤ 1048577) : Ev (fun k => laws_eqIntS.f k l l) true := by
  unfold laws_eqIntS.f
  refine ev_pos rfl ?_
  have := ev_up (n := l.length) (fun i => Ev (fun k => laws_eqIntS.l0 k l l (i : Int)) true) (laws_eqIntS.l0.st (ev_neg (by omega) ev_now))
    (by
      intro i hi H
      refine laws_eqIntS.l0.st (ev_pos (by omega) (ev_pos (by omega) (ev_pos (by omega) (ev_pos rfl ?_))))
      rw [w64 (by omega) (by omega)]
      exact H) 0 (Nat.zero_le _)
  exact this
theorem eqWorld (a b c : Int) (gs : List S64) (p1 : List S117) (u v : Int) (p2 : List S117) (d e m x : Int) (L : List Int) (w s n : Int)
    (hl : gs.length ≤ 1048577) (h1 : p1.length ≤ 1048577) (h2 : p2.length ≤ 1048577) (hL : L.length ≤ 1048577) :
    Ev (fun k => laws_eqWorld.f k a b c gs p1 u v p2 d e m x L w s n a b c gs p1 u v p2 d e m x L w s n) true := by
  unfold laws_eqWorld.f laws_eqSetup.f laws_eqBehave.f laws_eqSide.f
  refine ev_bind (b := true) (ev_call (b := true) (by unfold laws_eqRules.f; rw [if_pos rfl, if_pos rfl, if_pos rfl]) (ev_pos rfl (ev_bind (eqGoals gs hl) (ev_pos rfl (ev_bind (b := true) (ev_bind (b := true) (ev_bind (eqPols p1 h1) (ev_pos rfl (ev_pos rfl (ev_pos rfl ev_now)))) (ev_pos rfl (ev_bind (b := true) (ev_bind (eqPols p2 h2) (ev_pos rfl (ev_pos rfl (ev_pos rfl ev_now)))) (ev_pos rfl (ev_pos rfl (ev_pos rfl ev_now)))))) (ev_pos rfl ev_now)))))) (ev_pos rfl (ev_bind (eqLoads L hL) (ev_pos rfl (ev_pos rfl (ev_pos rfl (ev_pos rfl ev_now))))))
end Go.Proofs.YtapckgibbhijeaaDoor.PA
