/- The draws of the trend statements: a list of at most 301 elements and a part. No condition. -/
import Derived.Test.YtclmebhdpdjpdaaDrawInts
import Derived.Test.YtclmebhdpdjpdaaPAx1
namespace Go.Proofs.Ytclmebhdpdjpdaa.PA
open Go.RowKit Go.Proofs.YtclmebhdpdjpdaaW.PrintWords Go.Proofs.YtclmebhdpdjpdaaW.PrintLast Go.Proofs.YtclmebhdpdjpdaaW.PrintMore Go.Proofs.Ytclmebhdpdjpdaa.Aid
set_option linter.unusedVariables false

theorem drawSizeT (b : List Int) (i h : Int) (hc : CurOk b i) : ∃ x i' h', spec_l01DrawSize.f b i h = some (x, i', h') ∧ CurOk b i' := by
  unfold spec_l01DrawSize.f
  obtain ⟨x1, i1, g1, e1, _, _, _, c1⟩ := drawBelow b i h 100 hc
  rw [e1]
  simp only [Option.bind_some]
  obtain ⟨x2, i2, g2, e2, _, _, _, c2⟩ := drawBelow b i1 g1 100 c1
  rw [e2]
  simp only [Option.bind_some]
  obtain ⟨x3, i3, g3, e3, _, _, _, c3⟩ := drawBelow b i2 g2 16777216 c2
  rw [e3]
  simp only [Option.bind_some]
  obtain ⟨x4, i4, g4, e4, _, c4⟩ := drawPickInt b i3 g3 _ c3 (show 0 < ([0, 1, x1, wrap64 (x2 * 1000), x3, 1000000000, 999999999, 1000000001, (-1)] : List Int).length by simp)
  rw [e4]
  exact ⟨_, _, _, rfl, c4⟩
theorem drawValueT (b : List Int) (i h : Int) (hc : CurOk b i) : ∃ x i' h', spec_l01DrawValue.f b i h = some (x, i', h') ∧ CurOk b i' := by
  unfold spec_l01DrawValue.f
  obtain ⟨x1, i1, g1, e1, c1⟩ := drawSizeT b i h hc
  rw [e1]
  simp only [Option.bind_some]
  obtain ⟨x2, i2, g2, e2, c2⟩ := drawOnce b i1 g1 3 c1
  rw [e2]
  simp only [Option.bind_some]
  cases x2 with
  | true => exact ⟨_, _, _, rfl, c2⟩
  | false => exact ⟨_, _, _, rfl, c2⟩
theorem drawPartT (b : List Int) (i h : Int) (hc : CurOk b i) : ∃ x i' h', spec_l11DrawPart.f b i h = some (x, i', h') ∧ CurOk b i' := by
  unfold spec_l11DrawPart.f
  obtain ⟨x1, i1, g1, e1, _, _, _, c1⟩ := drawBelow b i h 1000 hc
  rw [e1]
  simp only [Option.bind_some]
  obtain ⟨x4, i4, g4, e4, _, c4⟩ := drawPickInt b i1 g1 ([0, 500, 1000, x1, 1001, (-1)] : List Int) c1 (by simp)
  rw [e4]
  exact ⟨_, _, _, rfl, c4⟩
theorem drawTrend_l0 (b : List Int) (n base step : Int) (hn : n ≤ 301) : ∀ (d : Nat) (out : List Int) (i h : Int), out.length + d = 301 → CurOk b i →
    ∃ r i' h', Ev (fun k => spec_l11DrawList.l0 k out n base step (out.length : Int) b i h) (r, i', h') ∧ r.length ≤ 301 ∧ CurOk b i' := by
  intro d
  induction d with
  | zero =>
    intro out i h hl hc
    exact ⟨out, i, h, spec_l11DrawList.l0.st (ev_neg (by omega) ev_now), by omega, hc⟩
  | succ d ih =>
    intro out i h hl hc
    by_cases hlt : (out.length : Int) < n
    · obtain ⟨x1, i1, g1, e1, _, _, _, c1⟩ := drawBelow b i h 100 hc
      obtain ⟨x2, i2, g2, e2, c2⟩ := drawOnce b i1 g1 30 c1
      cases x2 with
      | true =>
        obtain ⟨x3, i3, g3, e3, c3⟩ := drawValueT b i2 g2 c2
        obtain ⟨r, i', h', H, hr, hc'⟩ := ih (out ++ [x3]) i3 g3 (by simp; omega) c3
        refine ⟨r, i', h', spec_l11DrawList.l0.st (ev_pos hlt (ev_call e1 (ev_call e2 (ev_pos rfl (ev_call e3 (ev_pos (by omega) ?_)))))), hr, hc'⟩
        rw [w64 (by omega) (by omega)]
        rw [List.length_append] at H
        exact H
      | false =>
        obtain ⟨r, i', h', H, hr, hc'⟩ := ih (out ++ [wrap64 (wrap64 (base + wrap64 ((out.length : Int) * step)) + x1)]) i2 g2 (by simp; omega) c2
        refine ⟨r, i', h', spec_l11DrawList.l0.st (ev_pos hlt (ev_call e1 (ev_call e2 (ev_neg (by simp) (ev_pos (by omega) ?_))))), hr, hc'⟩
        rw [w64 (x := (out.length : Int) + 1) (by omega) (by omega)]
        rw [List.length_append] at H
        exact H
    · exact ⟨out, i, h, spec_l11DrawList.l0.st (ev_neg hlt ev_now), by omega, hc⟩
theorem drawTrend_j0 (b : List Int) (n i h : Int) (hn : n ≤ 301) (hc : CurOk b i) : ∃ r i' h', Ev (fun k => spec_l11DrawList.j0 k [] n b i h) (r, i', h') ∧ r.length ≤ 301 ∧ CurOk b i' := by
  obtain ⟨x1, i1, g1, e1, _, _, _, c1⟩ := drawBelow b i h 1000 hc
  obtain ⟨x2, i2, g2, e2, _, _, _, c2⟩ := drawBelow b i1 g1 40 c1
  obtain ⟨r, i', h', H, hr, hc'⟩ := drawTrend_l0 b n x1 x2 hn 301 [] i2 g2 (by simp) c2
  exact ⟨r, i', h', spec_l11DrawList.j0.st (ev_call e1 (ev_call e2 H)), hr, hc'⟩
theorem drawTrendList (b l : List Int) (i h : Int) (hc : CurOk b i) (hl : l.length ≤ 1048576) : ∃ r i' h', Ev (fun k => spec_l11DrawList.f k b i h l) (r, i', h') ∧ r.length ≤ 301 ∧ CurOk b i' := by
  unfold spec_l11DrawList.f
  have hs : ∃ n, spec_l01Size.f l 20 = some n ∧ n ≤ 20 := by
    unfold spec_l01Size.f
    split
    · exact ⟨20, rfl, Int.le_refl _⟩
    · rename_i h1; exact ⟨_, rfl, by omega⟩
  obtain ⟨n, en, hn⟩ := hs
  obtain ⟨x1, i1, g1, e1, y0, y1, y2, c1⟩ := drawBelow b i h n hc
  obtain ⟨x2, i2, g2, e2, c2⟩ := drawOnce b i1 g1 30 c1
  have hx : x1 ≤ 301 := by
    by_cases h0 : 0 < n
    · have := y1 h0; omega
    · have := y2 (by omega); omega
  cases x2 with
  | true =>
    obtain ⟨x3, i3, g3, e3, hm, c3⟩ := drawPickInt b i2 g2 ([100, 101, 300, 301] : List Int) c2 (by simp)
    have hx3 : x3 ≤ 301 := by
      simp only [List.mem_cons, List.not_mem_nil, or_false] at hm
      omega
    obtain ⟨r, i', h', H, hr, hc'⟩ := drawTrend_j0 b x3 i3 g3 hx3 c3
    exact ⟨r, i', h', ev_call rfl (ev_call en (ev_call e1 (ev_call e2 (ev_pos rfl (ev_call e3 H))))), hr, hc'⟩
  | false =>
    obtain ⟨r, i', h', H, hr, hc'⟩ := drawTrend_j0 b x1 i2 g2 hx c2
    exact ⟨r, i', h', ev_call rfl (ev_call en (ev_call e1 (ev_call e2 (ev_neg (by simp) H)))), hr, hc'⟩
theorem drawSmooth (l0 : List Int) (hl : l0.length ≤ 1048576) : ∃ l p, Ev (fun k => spec_DrawSmoothOf.f k l0) (l, p) ∧ l.length ≤ 301 := by
  unfold spec_DrawSmoothOf.f
  obtain ⟨h, e1⟩ := drawNew l0 hl
  obtain ⟨r, i', h', H, hr, hc'⟩ := drawTrendList l0 l0 0 h ⟨Int.le_refl _, by omega, hl⟩ hl
  obtain ⟨p, i2, g2, e2, c2⟩ := drawPartT l0 i' h' hc'
  exact ⟨r, p, ev_bind e1 (ev_bind H (ev_call e2 ev_now)), hr⟩
end Go.Proofs.Ytclmebhdpdjpdaa.PA
