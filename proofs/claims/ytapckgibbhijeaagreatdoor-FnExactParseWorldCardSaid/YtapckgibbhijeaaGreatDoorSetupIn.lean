/- What the statements do with a setup that came in: its size is counted, it is laid out anew. No condition but the sizes of each list. -/
import Derived.Test.YtapckgibbhijeaaGreatDoorWorldOkBase
import Derived.Test.YtapckgibbhijeaaGreatDoorPAx0
import Derived.Test.YtapckgibbhijeaaGreatDoorPAx1
import Derived.Test.YtapckgibbhijeaaGreatDoorPAx6
namespace Go.Proofs.YtapckgibbhijeaaGreatDoor.PA
open Go.RowKit Go.Proofs.YtapckgibbhijeaaGreatDoorW.PrintWords Go.Proofs.YtapckgibbhijeaaGreatDoorW.PrintLast Go.Proofs.YtapckgibbhijeaaGreatDoorW.PrintMore Go.Proofs.YtapckgibbhijeaaGreatDoor.Aid
set_option linter.unusedVariables false
/-! ### What the statements do with a world that came in -/
def convG (x : S78) : S82 := ⟨x.f0, x.f1, x.f2⟩
def convP (x : S119) : S102 := ⟨x.f0, x.f1, x.f2⟩
theorem rd78_mem (l : List S78) (i : Nat) (h : i < l.length) : rd_T78 l (i : Int) = l[i] := by
  unfold rd_T78
  rw [Int.toNat_natCast, List.getD_eq_getElem?_getD, List.getElem?_eq_getElem h]
  rfl
theorem rd93_mem (l : List S119) (i : Nat) (h : i < l.length) : rd_T119 l (i : Int) = l[i] := by
  unfold rd_T119
  rw [Int.toNat_natCast, List.getD_eq_getElem?_getD, List.getElem?_eq_getElem h]
  rfl
theorem sz_goal (x : S78) (a : Int) (h0 : 0 ≤ a) (h1 : a ≤ 1048576) (hs : x.f0.size ≤ 9223372036854775807) :
    laws_szGoal.f x.f0 x.f1 x.f2 a = some (if a - (x.f0.size : Int) < 0 then -1 else a - (x.f0.size : Int)) := by
  unfold laws_szGoal.f
  rw [w64 (by omega) (by omega)]
  split <;> rfl
/-- The count of places and letters ends below 0, or the list is small. -/
theorem szGoals (l : List S78) (hl : l.length ≤ 9223372036854775807) (hs : ∀ x ∈ l, x.f0.size ≤ 9223372036854775807) :
    ∃ r, Ev (fun k => laws_szGoalS.f k l 1048576) r ∧ (¬ r < 0 → l.length ≤ 1048576 ∧ r ≤ 1048576) := by
  unfold laws_szGoalS.f
  rw [w64 (by omega) (by omega)]
  by_cases h : (1048576 : Int) - (l.length : Int) < 0
  · exact ⟨-1, ev_pos h ev_now, fun h => absurd (by omega) h⟩
  · have key : ∀ d i, i + d = l.length → ∀ a : Int, 0 ≤ a → a ≤ 1048576 → ∃ r, Ev (fun k => laws_szGoalS.l0 k l a (i : Int)) r ∧ r ≤ 1048576 := by
      intro d
      induction d with
      | zero => intro i hi a h0 h1; exact ⟨a, laws_szGoalS.l0.st (ev_neg (by omega) ev_now), h1⟩
      | succ d ih =>
        intro i hi a h0 h1
        have hsz : (rd_T78 l (i : Int)).f0.size ≤ 9223372036854775807 := by rw [rd78_mem l i (by omega)]; exact hs _ (List.getElem_mem _)
        by_cases hn : a - ((rd_T78 l (i : Int)).f0.size : Int) < 0
        · exact ⟨-1, laws_szGoalS.l0.st (ev_pos (by omega) (ev_pos (by omega) (ev_call (sz_goal _ a h0 h1 hsz) (by rw [if_pos hn]; exact ev_pos (by omega) ev_now)))), by omega⟩
        · obtain ⟨r, hr, hr1⟩ := ih (i + 1) (by omega) (a - ((rd_T78 l (i : Int)).f0.size : Int)) (by omega) (by omega)
          refine ⟨r, laws_szGoalS.l0.st (ev_pos (by omega) (ev_pos (by omega) (ev_call (sz_goal _ a h0 h1 hsz) ?_))), hr1⟩
          rw [if_neg hn]
          refine ev_neg hn ?_
          rw [w64 (by omega) (by omega)]
          exact hr
    obtain ⟨r, hr, hr1⟩ := key l.length 0 (by omega) (1048576 - (l.length : Int)) (by omega) (by omega)
    exact ⟨r, ev_neg h hr, fun _ => ⟨by omega, hr1⟩⟩

theorem szSide (l : List S119) (a b t : Int) (h0 : 0 ≤ t) (h1 : t ≤ 1048576) (hl : l.length ≤ 9223372036854775807) :
    ∃ r, laws_szSide.f l a b t = some r ∧ (¬ r < 0 → l.length ≤ 1048576 ∧ r ≤ 1048576) := by
  unfold laws_szSide.f laws_szPolicyS.f
  rw [w64 (by omega) (by omega)]
  by_cases h : t - (l.length : Int) < 0
  · rw [if_pos h]
    exact ⟨-1, rfl, fun h => absurd (by omega) h⟩
  · rw [if_neg h]
    refine ⟨t - (l.length : Int), ?_, fun _ => by omega⟩
    rw [Option.bind_some, if_neg h]

theorem szSetup (a b c : Int) (gs : List S78) (p1 : List S119) (u v : Int) (p2 : List S119) (d e m x : Int)
    (hg : gs.length ≤ 9223372036854775807 ∧ ∀ x ∈ gs, x.f0.size ≤ 9223372036854775807) (h1 : p1.length ≤ 9223372036854775807) (h2 : p2.length ≤ 9223372036854775807) :
    ∃ r, Ev (fun k => laws_szSetup.f k a b c gs p1 u v p2 d e m x 1048576) r ∧ (¬ r < 0 → gs.length ≤ 1048576 ∧ p1.length ≤ 1048576 ∧ p2.length ≤ 1048576) := by
  unfold laws_szSetup.f laws_szBehave.f
  obtain ⟨r, e1, f1⟩ := szGoals gs hg.1 hg.2
  by_cases c1 : r < 0
  · exact ⟨-1, ev_bind e1 (ev_pos c1 ev_now), fun h => absurd (by omega) h⟩
  · have f1 := f1 c1
    obtain ⟨r2, e2, f2⟩ := szSide p1 u v r (by omega) (by omega) h1
    by_cases c2 : r2 < 0
    · exact ⟨-1, ev_bind e1 (ev_neg c1 (ev_bind (b := -1) (ev_call e2 (ev_pos c2 ev_now)) (ev_pos (by omega) ev_now))), fun h => absurd (by omega) h⟩
    · have f2 := f2 c2
      obtain ⟨r3, e3, f3⟩ := szSide p2 d e r2 (by omega) (by omega) h2
      by_cases c3 : r3 < 0
      · exact ⟨-1, ev_bind e1 (ev_neg c1 (ev_bind (b := -1) (ev_call e2 (ev_neg c2 (ev_call e3 (ev_pos c3 ev_now)))) (ev_pos (by omega) ev_now))), fun h => absurd (by omega) h⟩
      · have f3 := f3 c3
        exact ⟨r3, ev_bind e1 (ev_neg c1 (ev_bind (b := r3) (ev_call e2 (ev_neg c2 (ev_call e3 (ev_neg c3 ev_now)))) (ev_neg c3 ev_now))), fun _ => by omega⟩
theorem toGoals (l : List S78) (hl : l.length ≤ 1048576) : Ev (fun k => laws_toGoalS.f k l) (l.map convG) := by
  unfold laws_toGoalS.f
  refine ev_pos (by omega) (ev_pos (by omega) ?_)
  have key : ∀ d i (ys : List S82), i + d = l.length → ys.length = l.length → ys.take i = (l.map convG).take i → Ev (fun k => laws_toGoalS.l0 k l ys (i : Int)) (l.map convG) := by
    intro d
    induction d with
    | zero =>
      intro i ys hi hy he
      rw [List.take_of_length_le (by omega), List.take_of_length_le (by rw [List.length_map]; omega)] at he
      rw [← he]
      exact laws_toGoalS.l0.st (ev_neg (by omega) ev_now)
    | succ d ih =>
      intro i ys hi hy he
      refine laws_toGoalS.l0.st (ev_pos (by omega) (ev_pos (by omega) (ev_call (b := ((rd_T78 l (i : Int)).f0, (rd_T78 l (i : Int)).f1, (rd_T78 l (i : Int)).f2)) rfl (ev_pos (by omega) ?_))))
      rw [w64 (by omega) (by omega)]
      refine ih (i + 1) _ (by omega) (by rw [List.length_set]; exact hy) ?_
      rw [Int.toNat_natCast, rd78_mem l i (by omega), List.take_add_one, List.take_add_one, List.getElem?_set_self (by omega), List.getElem?_map, List.getElem?_eq_getElem (by omega), List.take_set_of_le (by omega), he]
      rfl
  exact key l.length 0 _ (by omega) (by simp) (by simp)
theorem toPols (l : List S119) (hl : l.length ≤ 1048576) : Ev (fun k => laws_toPolicyS.f k l) (l.map convP) := by
  unfold laws_toPolicyS.f
  refine ev_pos (by omega) (ev_pos (by omega) ?_)
  have key : ∀ d i (ys : List S102), i + d = l.length → ys.length = l.length → ys.take i = (l.map convP).take i → Ev (fun k => laws_toPolicyS.l0 k l ys (i : Int)) (l.map convP) := by
    intro d
    induction d with
    | zero =>
      intro i ys hi hy he
      rw [List.take_of_length_le (by omega), List.take_of_length_le (by rw [List.length_map]; omega)] at he
      rw [← he]
      exact laws_toPolicyS.l0.st (ev_neg (by omega) ev_now)
    | succ d ih =>
      intro i ys hi hy he
      refine laws_toPolicyS.l0.st (ev_pos (by omega) (ev_pos (by omega) (ev_call (b := ((rd_T119 l (i : Int)).f0, (rd_T119 l (i : Int)).f1, (rd_T119 l (i : Int)).f2)) rfl (ev_pos (by omega) ?_))))
      rw [w64 (by omega) (by omega)]
      refine ih (i + 1) _ (by omega) (by rw [List.length_set]; exact hy) ?_
      rw [Int.toNat_natCast, rd93_mem l i (by omega), List.take_add_one, List.take_add_one, List.getElem?_set_self (by omega), List.getElem?_map, List.getElem?_eq_getElem (by omega), List.take_set_of_le (by omega), he]
      rfl
  exact key l.length 0 _ (by omega) (by simp) (by simp)
theorem toSetup (a b c : Int) (gs : List S78) (p1 : List S119) (u v : Int) (p2 : List S119) (d e m x : Int)
    (hg : gs.length ≤ 1048576) (h1 : p1.length ≤ 1048576) (h2 : p2.length ≤ 1048576) :
    Ev (fun k => laws_toSetup.f k a b c gs p1 u v p2 d e m x) (a, b, c, gs.map convG, p1.map convP, u, v, p2.map convP, d, e, m, x) := by
  unfold laws_toSetup.f laws_toBehave.f laws_toSide.f
  exact ev_call (b := (a, b, c)) rfl (ev_bind (toGoals gs hg) (ev_bind (b := (p1.map convP, u, v, p2.map convP, d, e, m, x)) (ev_bind (b := (p1.map convP, u, v)) (ev_bind (toPols p1 h1) ev_now) (ev_bind (b := (p2.map convP, d, e)) (ev_bind (toPols p2 h2) ev_now) ev_now)) ev_now))
theorem FitsG.conv {l : List S78} (hs : ∀ x ∈ l, x.f0.size ≤ 9223372036854775807) : FitsG (l.map convG) := by
  intro x hx
  obtain ⟨y, hy, rfl⟩ := List.mem_map.1 hx
  exact hs y hy
end Go.Proofs.YtapckgibbhijeaaGreatDoor.PA
