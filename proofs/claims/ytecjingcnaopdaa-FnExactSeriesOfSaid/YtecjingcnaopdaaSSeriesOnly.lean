/- What SeriesOf answers: the reference's and the program's give one answer. No condition but that texts and lists fit into memory. -/
import Derived.Test.YtecjingcnaopdaaSStoreCopies
import Derived.Test.YtecjingcnaopdaaPSx0
import Derived.Test.YtecjingcnaopdaaPSx3
import Derived.Test.YtecjingcnaopdaaPSx4
namespace Go.Proofs.Ytecjingcnaopdaa.PS
open Go.RowKit Go.Proofs.YtecjingcnaopdaaW.PrintWords Go.Proofs.YtecjingcnaopdaaW.PrintLast Go.Proofs.YtecjingcnaopdaaW.PrintMore Go.Proofs.Ytecjingcnaopdaa.Aid
set_option linter.unusedVariables false

/-- The first series of a pod and a metric: both look for it in one order. -/
theorem findLoop (l : List S58) (hl : l.length ≤ 1048577) (a b : ByteArray) : ∀ d i, i + d = l.length →
    (∃ m : Nat, m < l.length ∧ Ev (fun k => spec_l03At.l0 k l a b (i : Int)) (m : Int) ∧ Ev (fun k => impl_pointsOf.l0 k a b l (l.length : Int) (i : Int)) (rd_T58 l (m : Int)).f2) ∨
      (Ev (fun k => spec_l03At.l0 k l a b (i : Int)) (-1) ∧ Ev (fun k => impl_pointsOf.l0 k a b l (l.length : Int) (i : Int)) []) := by
  intro d
  induction d with
  | zero => intro i hi; exact .inr ⟨spec_l03At.l0.st (ev_neg (by omega) ev_now), impl_pointsOf.l0.st (ev_neg (by omega) ev_now)⟩
  | succ d ih =>
    intro i hi
    by_cases h1 : (rd_T58 l (i : Int)).f0.toList = a.toList
    · by_cases h2 : (rd_T58 l (i : Int)).f1.toList = b.toList
      · exact .inl ⟨i, by omega, spec_l03At.l0.st (ev_pos (by omega) (ev_pos (by omega) (ev_pos h1 (ev_pos h2 ev_now)))), impl_pointsOf.l0.st (ev_pos (by omega) (ev_pos (by omega) (ev_pos (by omega) (ev_pos h1 (ev_pos h2 ev_now)))))⟩
      · have s1 : ∀ r, Ev (fun k => spec_l03At.l0 k l a b ((i + 1 : Nat) : Int)) r → Ev (fun k => spec_l03At.l0 k l a b (i : Int)) r := by
          intro r h
          refine spec_l03At.l0.st (ev_pos (by omega) (ev_pos (by omega) (ev_pos h1 (ev_neg h2 ?_))))
          rw [w64 (x := (i : Int) + 1) (by omega) (by omega)]; exact h
        have s2 : ∀ r, Ev (fun k => impl_pointsOf.l0 k a b l (l.length : Int) ((i + 1 : Nat) : Int)) r → Ev (fun k => impl_pointsOf.l0 k a b l (l.length : Int) (i : Int)) r := by
          intro r h
          refine impl_pointsOf.l0.st (ev_pos (by omega) (ev_pos (by omega) (ev_pos (by omega) (ev_pos h1 (ev_neg h2 ?_)))))
          rw [w64 (x := (i : Int) + 1) (by omega) (by omega)]; exact h
        rcases ih (i + 1) (by omega) with ⟨m, hm, g1, g2⟩ | ⟨g1, g2⟩
        · exact .inl ⟨m, hm, s1 _ g1, s2 _ g2⟩
        · exact .inr ⟨s1 _ g1, s2 _ g2⟩
    · have s1 : ∀ r, Ev (fun k => spec_l03At.l0 k l a b ((i + 1 : Nat) : Int)) r → Ev (fun k => spec_l03At.l0 k l a b (i : Int)) r := by
        intro r h
        refine spec_l03At.l0.st (ev_pos (by omega) (ev_pos (by omega) (ev_neg h1 ?_)))
        rw [w64 (x := (i : Int) + 1) (by omega) (by omega)]; exact h
      have s2 : ∀ r, Ev (fun k => impl_pointsOf.l0 k a b l (l.length : Int) ((i + 1 : Nat) : Int)) r → Ev (fun k => impl_pointsOf.l0 k a b l (l.length : Int) (i : Int)) r := by
        intro r h
        refine impl_pointsOf.l0.st (ev_pos (by omega) (ev_pos (by omega) (ev_pos (by omega) (ev_neg h1 ?_))))
        rw [w64 (x := (i : Int) + 1) (by omega) (by omega)]; exact h
      rcases ih (i + 1) (by omega) with ⟨m, hm, g1, g2⟩ | ⟨g1, g2⟩
      · exact .inl ⟨m, hm, s1 _ g1, s2 _ g2⟩
      · exact .inr ⟨s1 _ g1, s2 _ g2⟩

theorem copyPoints (l : List S31) (hl : l.length ≤ 1048577) : Ev (fun k => spec_l03Points.f k l) l := by
  unfold spec_l03Points.f
  have := ev_up (n := l.length) (fun i => Ev (fun k => spec_l03Points.l0 k l (l.take i) (i : Int)) l)
    (by
      refine spec_l03Points.l0.st (ev_neg (by omega) ?_)
      rw [List.take_length]
      exact ev_now)
    (by
      intro i hi H
      have e : l.take i ++ [(⟨(rd_T31 l (i : Int)).f0, (rd_T31 l (i : Int)).f1⟩ : S31)] = l.take (i + 1) := by
        rw [List.take_add_one, List.getElem?_eq_getElem hi, rd31_mem l i hi]
        rfl
      refine spec_l03Points.l0.st (ev_pos (by omega) (ev_pos (by omega) (ev_pos (by rw [List.length_take]; omega) ?_)))
      rw [e, w64 (by omega) (by omega)]
      exact H) 0 (Nat.zero_le _)
  exact this

theorem storeOk_at {l : List S58} (h : storeOk l = true) (i : Nat) (hi : i < l.length) : 1 ≤ (rd_T58 l (i : Int)).f2.length ∧ (rd_T58 l (i : Int)).f2.length ≤ 12 := by
  simp only [storeOk, Bool.and_eq_true, List.all_eq_true, List.mem_range] at h
  have := h.2 i hi
  simp only [storeAt, seriesOk, Bool.and_eq_true, decide_eq_true_eq] at this
  omega

theorem seriesBoth (l : List S58) (a b : ByteArray) (hn : l.length ≤ 1048577) (hf : FitsStore l) : ∃ (ys : List S31) (ok : Bool), ys.length ≤ 12 ∧ (ok = true → 1 ≤ ys.length) ∧
    Ev (fun k => spec_SeriesOf.f k l a b) (ys, ok) ∧ Ev (fun k => impl_SeriesOf.f k l a b) (ys, ok) := by
  unfold spec_SeriesOf.f impl_SeriesOf.f
  have s1 := specStore l hf
  have s2 := implStore l hn hf
  have hfind := findLoop l hn a b l.length 0 (by omega)
  cases hok : storeOk l with
  | false =>
    rw [hok] at s1 s2
    have : ∃ t, Ev (fun k => spec_l03At.f k l a b) t := by
      unfold spec_l03At.f
      rcases hfind with ⟨m, _, g1, _⟩ | ⟨g1, _⟩
      · exact ⟨_, g1⟩
      · exact ⟨_, g1⟩
    obtain ⟨t, ht⟩ := this
    exact ⟨[], false, by simp, by simp, ev_bind ht (ev_bind s1 (ev_neg (by simp) ev_now)), ev_bind s2 (ev_neg (by simp) ev_now)⟩
  | true =>
    rw [hok] at s1 s2
    rcases hfind with ⟨m, hm, g1, g2⟩ | ⟨g1, g2⟩
    · have hp := storeOk_at hok m hm
      have hc : slices_Clone_Point.f (rd_T58 l (m : Int)).f2 = some (rd_T58 l (m : Int)).f2 := by
        unfold slices_Clone_Point.f
        rw [if_pos (by omega)]
      refine ⟨(rd_T58 l (m : Int)).f2, true, hp.2, fun _ => hp.1, ev_bind g1 (ev_bind s1 (ev_pos rfl (ev_neg (by omega) (ev_pos (by omega) (ev_pos (by omega) (ev_bind (copyPoints _ (by omega)) ev_now)))))), ev_bind s2 (ev_pos rfl (ev_bind g2 (ev_call hc (ev_val ?_))))⟩
      rw [decide_eq_true (by omega)]
    · have hc : slices_Clone_Point.f [] = some [] := rfl
      exact ⟨[], false, by simp, by simp, ev_bind g1 (ev_bind s1 (ev_pos rfl (ev_pos (by omega) ev_now))), ev_bind s2 (ev_pos rfl (ev_bind g2 (ev_call hc ev_now)))⟩
end Go.Proofs.Ytecjingcnaopdaa.PS
