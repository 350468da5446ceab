/- The draw of a setup: it ends, with one goal or two of short names and no more than three rules a side. No condition. -/
import Derived.Test.YtidkiabehmdofaaGreatDoorDrawCur
import Derived.Test.YtidkiabehmdofaaGreatDoorPAx0
import Derived.Test.YtidkiabehmdofaaGreatDoorPAx1
import Derived.Test.YtidkiabehmdofaaGreatDoorPAx2
namespace Go.Proofs.YtidkiabehmdofaaGreatDoor.PA
open Go.RowKit Go.Proofs.YtidkiabehmdofaaGreatDoorW.PrintWords Go.Proofs.YtidkiabehmdofaaGreatDoorW.PrintLast Go.Proofs.YtidkiabehmdofaaGreatDoorW.PrintMore Go.Proofs.YtidkiabehmdofaaGreatDoor.Aid
set_option linter.unusedVariables false

theorem drawPols (b : List Int) (u v : Int) : ∀ (n : Nat) (i h : Int) (acc : List S101), n ≤ 1000 → CurOk b i → acc.length + n ≤ 1000 →
    ∃ l i' h', Ev (fun k => spec_l06DrawSide.l0 k (n : Int) b i h acc u v) (l, u, v, i', h') ∧ l.length ≤ acc.length + n ∧ CurOk b i' := by
  intro n
  induction n with
  | zero => intro i h acc _ hc hn; exact ⟨acc, i, h, spec_l06DrawSide.l0.st (ev_neg (by omega) ev_now), by omega, hc⟩
  | succ n ih =>
    intro i h acc h1000 hc hn
    obtain ⟨x1, i1, g1, e1, _, _, _, c1⟩ := drawBelow b i h 2 hc
    obtain ⟨x2, i2, g2, e2, _, _, _, c2⟩ := drawBelow b i1 g1 20 c1
    obtain ⟨x3, i3, g3, e3, _, _, _, c3⟩ := drawBelow b i2 g2 4 c2
    have hw : wrap64 (((n + 1 : Nat) : Int) - 1) = (n : Int) := by rw [w64 (by omega) (by omega)]; omega
    by_cases hx : x1 = 1
    · obtain ⟨x4, i4, g4, e4, _, c4⟩ := drawPickInt b i3 g3 [10, 50, 100, 200] c3 (by decide)
      obtain ⟨l, i', h', ev, hl, hc'⟩ := ih i4 g4 (acc ++ [⟨x1, x4, wrap64 (1 + x2)⟩]) (by omega) c4 (by rw [List.length_append, List.length_singleton]; omega)
      refine ⟨l, i', h', spec_l06DrawSide.l0.st (ev_pos (by omega) ?_), by rw [List.length_append, List.length_singleton] at hl; omega, hc'⟩
      simp only [e1, e2, e3, e4, Option.bind_some, hw]
      exact ev_pos hx (ev_pos (by omega) ev)
    · obtain ⟨l, i', h', ev, hl, hc'⟩ := ih i3 g3 (acc ++ [⟨x1, wrap64 (1 + x3), wrap64 (1 + x2)⟩]) (by omega) c3 (by rw [List.length_append, List.length_singleton]; omega)
      refine ⟨l, i', h', spec_l06DrawSide.l0.st (ev_pos (by omega) ?_), by rw [List.length_append, List.length_singleton] at hl; omega, hc'⟩
      simp only [e1, e2, e3, Option.bind_some, hw]
      exact ev_neg hx (ev_pos (by omega) ev)

theorem drawSide (b : List Int) (i h : Int) (hc : CurOk b i) : ∃ l u v i' h', Ev (fun k => spec_l06DrawSide.f k b i h) (l, u, v, i', h') ∧ l.length ≤ 3 ∧ CurOk b i' := by
  obtain ⟨x1, i1, g1, e1, _, c1⟩ := drawPickInt b i h [0, 0, 1, 1, 2] hc (by decide)
  obtain ⟨x2, i2, g2, e2, _, c2⟩ := drawPickInt b i1 g1 [0, 0, 5, 20] c1 (by decide)
  obtain ⟨x3, i3, g3, e3, n0, n1, _, c3⟩ := drawBelow b i2 g2 4 c2
  have n2 := n1 (by omega)
  obtain ⟨l, i', h', ev, hl, hc'⟩ := drawPols b x1 x2 x3.toNat i3 g3 [] (by omega) c3 (by simp only [List.length_nil]; omega)
  refine ⟨l, x1, x2, i', h', ?_, by simp only [List.length_nil] at hl; omega, hc'⟩
  rw [Int.toNat_of_nonneg n0] at ev
  unfold spec_l06DrawSide.f
  simp only [e1, e2, e3, Option.bind_some]
  exact ev

theorem drawBehave (b : List Int) (i h : Int) (hc : CurOk b i) : ∃ l u v m s t d e i' h', Ev (fun k => spec_l06DrawBehave.f k b i h) (l, u, v, m, s, t, d, e, i', h') ∧ l.length ≤ 3 ∧ m.length ≤ 3 ∧ CurOk b i' := by
  obtain ⟨l, u, v, i1, g1, e1, hl, c1⟩ := drawSide b i h hc
  obtain ⟨m, s, t, i2, g2, e2, hm, c2⟩ := drawSide b i1 g1 c1
  obtain ⟨x3, i3, g3, e3, _, _, _, c3⟩ := drawBelow b i2 g2 4 c2
  obtain ⟨x4, i4, g4, e4, _, c4⟩ := drawPickInt b i3 g3 [4, 10, 20, 0] c3 (by decide)
  refine ⟨l, u, v, m, s, t, x3, wrap64 (x3 + x4), i4, g4, ?_, hl, hm, c4⟩
  unfold spec_l06DrawBehave.f
  refine ev_bind e1 (ev_bind e2 ?_)
  simp only [e3, e4, Option.bind_some]
  exact ev_now

/-- A drawn setup. -/
theorem drawSetup (b : List Int) (i h : Int) (hc : CurOk b i) : ∃ k r1 r2 r3 r4 r5 r6 r7 r8 r9 r10 r11 r12 i' h', spec_l07DrawSetup.f k b i h = some (r1, r2, r3, r4, r5, r6, r7, r8, r9, r10, r11, r12, i', h') ∧
    1 ≤ r4.length ∧ r4.length ≤ 2 ∧ (∀ x ∈ r4, x.f0.size ≤ 3) ∧ r5.length ≤ 3 ∧ r8.length ≤ 3 ∧ CurOk b i' := by
  obtain ⟨x1, i1, g1, e1, _, _, _, c1⟩ := drawBelow b i h 10 hc
  obtain ⟨x2, i2, g2, e2, _, c2⟩ := drawPickInt b i1 g1 [10, 30, 60] c1 (by decide)
  obtain ⟨x3, i3, g3, e3, _, c3⟩ := drawPickInt b i2 g2 [0, 5, 20] c2 (by decide)
  obtain ⟨l, u, v, m, s, t, d, e, i4, g4, ⟨k0, e4⟩, hl, hm, c4⟩ := drawBehave b i3 g3 c3
  obtain ⟨x5, i5, g5, e5, _, c5⟩ := drawPickInt b i4 g4 [500, 1000] c4 (by decide)
  obtain ⟨x6, i6, g6, e6, _, c6⟩ := drawPickInt b i5 g5 [0, 100] c5 (by decide)
  obtain ⟨x7, i7, g7, e7, c7⟩ := drawOnce b i6 g6 4 c6
  have hk := e4 k0 (Nat.le_refl _)
  have s1 : ∀ (q : S48), q ∈ [(⟨(⟨#[99, 112, 117]⟩ : ByteArray), x5, x6⟩ : S48)] → q.f0.size ≤ 3 := fun q hq => by rw [List.mem_singleton] at hq; subst hq; show (⟨#[99, 112, 117]⟩ : ByteArray).size ≤ 3; decide
  refine ⟨k0, x1, x2, x3, if x7 = true then [(⟨(⟨#[99, 112, 117]⟩ : ByteArray), x5, x6⟩ : S48)] ++ [(⟨(⟨#[114, 112, 115]⟩ : ByteArray), 800, 50⟩ : S48)] else [(⟨(⟨#[99, 112, 117]⟩ : ByteArray), x5, x6⟩ : S48)], l, u, v, m, s, t, d, e, i7, g7, ?_, ?_, ?_, ?_, hl, hm, c7⟩
  · unfold spec_l07DrawSetup.f
    simp only [e1, e2, e3, hk, e5, e6, e7, Option.bind_some]
    split
    · rw [if_pos (by simp)]
    · rfl
  · split <;> simp
  · split <;> simp
  · split
    · intro q hq
      rw [List.mem_append] at hq
      rcases hq with hq | hq
      · exact s1 q hq
      · rw [List.mem_singleton] at hq
        subst hq
        decide
    · exact s1
end Go.Proofs.YtidkiabehmdofaaGreatDoor.PA
