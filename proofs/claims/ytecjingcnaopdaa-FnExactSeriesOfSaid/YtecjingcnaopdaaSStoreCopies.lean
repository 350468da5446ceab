/- Stores of series: the counts, copies and comparisons that the statements make. No condition but that texts and lists fit into memory. -/
import Derived.Test.YtecjingcnaopdaaSStoreBase
import Derived.Test.YtecjingcnaopdaaPSx0
import Derived.Test.YtecjingcnaopdaaPSx1
namespace Go.Proofs.Ytecjingcnaopdaa.PS
open Go.RowKit Go.Proofs.YtecjingcnaopdaaW.PrintWords Go.Proofs.YtecjingcnaopdaaW.PrintLast Go.Proofs.YtecjingcnaopdaaW.PrintMore Go.Proofs.Ytecjingcnaopdaa.Aid
set_option linter.unusedVariables false

theorem rd79_mem (l : List S79) (i : Nat) (h : i < l.length) : rd_T79 l (i : Int) = l[i] := by
  unfold rd_T79
  rw [Int.toNat_natCast, List.getD_eq_getElem?_getD, List.getElem?_eq_getElem h]
  rfl
theorem rd56_mem (l : List S56) (i : Nat) (h : i < l.length) : rd_T56 l (i : Int) = l[i] := by
  unfold rd_T56
  rw [Int.toNat_natCast, List.getD_eq_getElem?_getD, List.getElem?_eq_getElem h]
  rfl
def convP (p : S79) : S31 := ⟨p.f0, p.f1⟩
def convS (s : S56) : S58 := ⟨s.f0, s.f1, s.f2.map convP⟩
/-- What is read of an argument. -/
def Came (l : List S56) : Prop := l.length ≤ 9223372036854775807 ∧ ∀ s ∈ l, s.f0.size ≤ 9223372036854775807 ∧ s.f1.size ≤ 9223372036854775807 ∧ s.f2.length ≤ 9223372036854775807
/-- All of it is small. -/
def Small (l : List S56) : Prop := l.length ≤ 1048576 ∧ ∀ s ∈ l, s.f0.size ≤ 1048576 ∧ s.f1.size ≤ 1048576 ∧ s.f2.length ≤ 1048576

theorem sz_series (s : S56) (a : Int) (h0 : 0 ≤ a) (h1 : a ≤ 1048576) (hs : s.f0.size ≤ 9223372036854775807 ∧ s.f1.size ≤ 9223372036854775807 ∧ s.f2.length ≤ 9223372036854775807) :
    ∃ r, laws_szSeries.f s.f0 s.f1 s.f2 a = some r ∧ r ≤ 1048576 ∧ (¬ r < 0 → s.f0.size ≤ 1048576 ∧ s.f1.size ≤ 1048576 ∧ s.f2.length ≤ 1048576) := by
  unfold laws_szSeries.f laws_szPointS.f
  rw [w64 (x := a - (s.f0.size : Int)) (by omega) (by omega)]
  by_cases c1 : a - (s.f0.size : Int) < 0
  · exact ⟨-1, by rw [if_pos c1], by omega, fun h => absurd (by omega) h⟩
  · rw [if_neg c1, w64 (x := a - (s.f0.size : Int) - (s.f1.size : Int)) (by omega) (by omega)]
    by_cases c2 : a - (s.f0.size : Int) - (s.f1.size : Int) < 0
    · exact ⟨-1, by rw [if_pos c2], by omega, fun h => absurd (by omega) h⟩
    · rw [if_neg c2, w64 (x := a - (s.f0.size : Int) - (s.f1.size : Int) - (s.f2.length : Int)) (by omega) (by omega)]
      by_cases c3 : a - (s.f0.size : Int) - (s.f1.size : Int) - (s.f2.length : Int) < 0
      · exact ⟨-1, by rw [if_pos c3]; rfl, by omega, fun h => absurd (by omega) h⟩
      · refine ⟨a - (s.f0.size : Int) - (s.f1.size : Int) - (s.f2.length : Int), ?_, by omega, fun _ => by omega⟩
        rw [if_neg c3]
        simp only [Option.bind_some]
        rw [if_neg c3]

theorem szStore (l : List S56) (hl : Came l) (a : Int) (h0 : 0 ≤ a) (h1 : a ≤ 1048576) : ∃ r, Ev (fun k => laws_szSeriesS.f k l a) r ∧ (¬ r < 0 → Small l ∧ r ≤ 1048576) := by
  unfold laws_szSeriesS.f
  have hll := hl.1
  rw [w64 (x := a - (l.length : Int)) (by omega) (by omega)]
  by_cases h : a - (l.length : Int) < 0
  · exact ⟨-1, ev_pos h ev_now, fun h => absurd (by omega) h⟩
  · have key : ∀ d i, i + d = l.length → ∀ a : Int, 0 ≤ a → a ≤ 1048576 → ∃ r, Ev (fun k => laws_szSeriesS.l0 k l a (i : Int)) r ∧ r ≤ 1048576 ∧ (¬ r < 0 → ∀ j, i ≤ j → (hj : j < l.length) → l[j].f0.size ≤ 1048576 ∧ l[j].f1.size ≤ 1048576 ∧ l[j].f2.length ≤ 1048576) := by
      intro d
      induction d with
      | zero => intro i hi a h0 h1; exact ⟨a, laws_szSeriesS.l0.st (ev_neg (by omega) ev_now), h1, fun _ j hj hjl => absurd hj (by omega)⟩
      | succ d ih =>
        intro i hi a h0 h1
        have hil : i < l.length := by omega
        obtain ⟨q, hq, hq1, hq2⟩ := sz_series l[i] a h0 h1 (hl.2 _ (List.getElem_mem hil))
        by_cases hn : q < 0
        · refine ⟨-1, laws_szSeriesS.l0.st (ev_pos (by omega) (ev_pos (by omega) ?_)), by omega, fun h => absurd (by omega) h⟩
          rw [rd56_mem l i hil]
          exact ev_call hq (ev_pos hn ev_now)
        · obtain ⟨r, hr, hr1, hr2⟩ := ih (i + 1) (by omega) q (by omega) hq1
          refine ⟨r, laws_szSeriesS.l0.st (ev_pos (by omega) (ev_pos (by omega) ?_)), hr1, ?_⟩
          · rw [rd56_mem l i hil]
            refine ev_call hq (ev_neg hn ?_)
            rw [w64 (by omega) (by omega)]
            exact hr
          · intro hrn j hj hjl
            by_cases hji : j = i
            · subst hji; exact hq2 hn
            · exact hr2 hrn j (by omega) hjl
    obtain ⟨r, hr, hr1, hr2⟩ := key l.length 0 (by omega) (a - (l.length : Int)) (by omega) (by omega)
    refine ⟨r, ev_neg h hr, fun hn => ⟨⟨by omega, fun s hs => ?_⟩, hr1⟩⟩
    obtain ⟨j, hj, rfl⟩ := List.getElem_of_mem hs
    exact hr2 hn j (Nat.zero_le _) hj

theorem toPoints (l : List S79) (hl : l.length ≤ 1048576) : Ev (fun k => laws_toPointS.f k l) (l.map convP) := by
  unfold laws_toPointS.f
  refine ev_pos (by omega) (ev_pos (by omega) ?_)
  have key : ∀ d i (ys : List S31), i + d = l.length → ys.length = l.length → ys.take i = (l.map convP).take i → Ev (fun k => laws_toPointS.l0 k l ys (i : Int)) (l.map convP) := by
    intro d
    induction d with
    | zero =>
      intro i ys hi hy he
      rw [List.take_of_length_le (by omega), List.take_of_length_le (by rw [List.length_map]; omega)] at he
      rw [← he]
      exact laws_toPointS.l0.st (ev_neg (by omega) ev_now)
    | succ d ih =>
      intro i ys hi hy he
      refine laws_toPointS.l0.st (ev_pos (by omega) (ev_pos (by omega) (ev_call (b := ((rd_T79 l (i : Int)).f0, (rd_T79 l (i : Int)).f1)) rfl (ev_pos (by omega) ?_))))
      rw [w64 (by omega) (by omega)]
      refine ih (i + 1) _ (by omega) (by rw [List.length_set]; exact hy) ?_
      rw [Int.toNat_natCast, rd79_mem l i (by omega), List.take_add_one, List.take_add_one, List.getElem?_set_self (by omega), List.getElem?_map, List.getElem?_eq_getElem (by omega), List.take_set_of_le (by omega), he]
      rfl
  exact key l.length 0 _ (by omega) (by simp) (by simp)

theorem toStore (l : List S56) (hl : Small l) : Ev (fun k => laws_toSeriesS.f k l) (l.map convS) := by
  unfold laws_toSeriesS.f
  have h1 := hl.1
  refine ev_pos (by omega) (ev_pos (by omega) ?_)
  have key : ∀ d i (ys : List S58), i + d = l.length → ys.length = l.length → ys.take i = (l.map convS).take i → Ev (fun k => laws_toSeriesS.l0 k l ys (i : Int)) (l.map convS) := by
    intro d
    induction d with
    | zero =>
      intro i ys hi hy he
      rw [List.take_of_length_le (by omega), List.take_of_length_le (by rw [List.length_map]; omega)] at he
      rw [← he]
      exact laws_toSeriesS.l0.st (ev_neg (by omega) ev_now)
    | succ d ih =>
      intro i ys hi hy he
      have hil : i < l.length := by omega
      have hto : Ev (fun k => laws_toSeries.f k (rd_T56 l (i : Int)).f0 (rd_T56 l (i : Int)).f1 (rd_T56 l (i : Int)).f2) ((rd_T56 l (i : Int)).f0, (rd_T56 l (i : Int)).f1, (rd_T56 l (i : Int)).f2.map convP) := by
        unfold laws_toSeries.f
        refine ev_bind (toPoints _ ?_) ev_now
        rw [rd56_mem l i hil]
        exact (hl.2 _ (List.getElem_mem hil)).2.2
      refine laws_toSeriesS.l0.st (ev_pos (by omega) (ev_pos (by omega) (ev_bind hto (ev_pos (by omega) ?_))))
      rw [w64 (by omega) (by omega)]
      refine ih (i + 1) _ (by omega) (by rw [List.length_set]; exact hy) ?_
      rw [Int.toNat_natCast, rd56_mem l i hil, List.take_add_one, List.take_add_one, List.getElem?_set_self (by omega), List.getElem?_map, List.getElem?_eq_getElem (by omega), List.take_set_of_le (by omega), he]
      rfl
  exact key l.length 0 _ (by omega) (by simp) (by simp)

theorem Small.fits {l : List S56} (h : Small l) : FitsStore (l.map convS) := by
  intro s hs
  obtain ⟨y, hy, rfl⟩ := List.mem_map.1 hs
  have := h.2 y hy
  refine ⟨?_, ?_, ?_⟩
  · show y.f0.size ≤ _; omega
  · show y.f1.size ≤ _; omega
  · show (y.f2.map convP).length ≤ _; rw [List.length_map]; omega

theorem eqPoints (l : List S31) (hl : l.length ≤ 1048577) : Ev (fun k => laws_eqPointS.f k l l) true := by
  unfold laws_eqPointS.f
  refine ev_pos rfl ?_
  have := ev_up (n := l.length) (fun i => Ev (fun k => laws_eqPointS.l0 k l l (i : Int)) true) (laws_eqPointS.l0.st (ev_neg (by omega) ev_now))
    (by
      intro i hi H
      refine laws_eqPointS.l0.st (ev_pos (by omega) (ev_pos (by omega) (ev_pos (by omega) (ev_call (b := true) ?_ (ev_pos rfl ?_)))))
      · unfold laws_eqPoint.f
        rw [if_pos rfl, if_pos rfl]
      · rw [w64 (by omega) (by omega)]
        exact H) 0 (Nat.zero_le _)
  exact this

/-- A store is equal to itself. -/
theorem eqStore (l : List S56) (hl : Small l) : Ev (fun k => laws_eqSeriesS.f k (l.map convS) (l.map convS)) true := by
  unfold laws_eqSeriesS.f
  refine ev_pos rfl ?_
  have h1 := hl.1
  have hlen : (l.map convS).length = l.length := List.length_map ..
  have := ev_up (n := l.length) (fun i => Ev (fun k => laws_eqSeriesS.l0 k (l.map convS) (l.map convS) (i : Int)) true) (laws_eqSeriesS.l0.st (ev_neg (by omega) ev_now))
    (by
      intro i hi H
      refine laws_eqSeriesS.l0.st (ev_pos (by omega) (ev_pos (by omega) (ev_pos (by omega) (ev_bind (b := true) ?_ (ev_pos rfl ?_)))))
      · unfold laws_eqSeries.f
        refine ev_pos rfl (ev_pos rfl (ev_bind (eqPoints _ ?_) (ev_pos rfl ev_now)))
        rw [rd58_mem _ i (by omega), List.getElem_map]
        show (l[i].f2.map convP).length ≤ _
        rw [List.length_map]
        have := (hl.2 _ (List.getElem_mem hi)).2.2
        omega
      · rw [w64 (by omega) (by omega)]
        exact H) 0 (Nat.zero_le _)
  exact this
end Go.Proofs.Ytecjingcnaopdaa.PS
