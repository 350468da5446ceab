/- The lists of claims that the statements draw: at most 17, with names of at most 100 bytes. No condition. -/
import Derived.Test.YtmbkgiagkhhifaaDrawBase
import Derived.Test.YtmbkgiagkhhifaaClaimsCore
import Derived.Test.YtmbkgiagkhhifaaPAx0
import Derived.Test.YtmbkgiagkhhifaaPAx1
namespace Go.Proofs.Ytmbkgiagkhhifaa.PA
open Go.RowKit Go.Proofs.YtmbkgiagkhhifaaW.PrintWords Go.Proofs.YtmbkgiagkhhifaaW.PrintLast Go.Proofs.YtmbkgiagkhhifaaW.PrintMore Go.Proofs.Ytmbkgiagkhhifaa.Aid
set_option linter.unusedVariables false

theorem num_l0 : ∀ (m : Nat) (x : Int) (s : ByteArray), 0 ≤ x → x.toNat ≤ m → (s.size : Int) + x ≤ 100 → ∃ t, Ev (fun k => spec_l01Num.l0 k x s false) t ∧ t.size ≤ 100 := by
  intro m
  induction m with
  | zero =>
    intro x s h0 h1 h2
    exact ⟨_, spec_l01Num.l0.st (ev_pos (by omega) (ev_neg (by simp) ev_now)), by omega⟩
  | succ m ih =>
    intro x s h0 h1 h2
    by_cases hx : x = 0
    · exact ⟨_, spec_l01Num.l0.st (ev_pos hx (ev_neg (by simp) ev_now)), by omega⟩
    · have hd : Int.tdiv x 10 = x / 10 := Int.tdiv_eq_ediv_of_nonneg h0
      have hm : ¬ Int.tmod x 10 < 0 := by rw [Int.tmod_eq_emod_of_nonneg h0]; omega
      have hq : 0 ≤ x / 10 ∧ x / 10 < x := by omega
      have h1s : (strOfNums [(wrap64 (48 + (Int.tmod x 10))) % 256]).size = 1 := rfl
      have hsz : ((strOfNums [(wrap64 (48 + (Int.tmod x 10))) % 256]) ++ s).size = 1 + s.size := by
        rw [ByteArray.size_append, h1s]
      obtain ⟨t, ht, hts⟩ := ih (x / 10) ((strOfNums [(wrap64 (48 + (Int.tmod x 10))) % 256]) ++ s) hq.1 (by omega) (by rw [hsz]; omega)
      refine ⟨t, spec_l01Num.l0.st (ev_neg hx (ev_neg hm (ev_call (b := [(wrap64 (48 + (Int.tmod x 10))) % 256]) rfl (ev_pos (by rw [h1s]; omega) ?_)))), hts⟩
      rw [hd, w64 (by omega) (by omega)]
      exact ht

theorem num (x : Int) (h0 : 0 ≤ x) (h1 : x ≤ 100) : ∃ t, Ev (fun k => spec_l01Num.f k x) t ∧ t.size ≤ 100 := by
  unfold spec_l01Num.f
  by_cases h : x = 0
  · exact ⟨_, ev_pos h ev_now, by decide⟩
  · obtain ⟨t, ht, hs⟩ := num_l0 x.toNat x ⟨#[]⟩ h0 (Nat.le_refl _) (by have : (⟨#[]⟩ : ByteArray).size = 0 := rfl; omega)
    refine ⟨t, ev_neg h ?_, hs⟩
    rw [decide_eq_false (by omega)]
    exact ht

/-- Few claims with short names. -/
def Small (l : List S44) : Prop := l.length ≤ 17 ∧ ∀ x ∈ l, x.f0.size ≤ 1000
theorem Small.fits {l : List S44} (h : Small l) : Fits l := fun x hx => Nat.le_trans (h.2 x hx) (by omega)
theorem Small.push {l : List S44} (h : Small l) (hl : l.length ≤ 16) (x : S44) (hx : x.f0.size ≤ 1000) : Small (l ++ [x]) := by
  refine ⟨by rw [List.length_append, List.length_singleton]; omega, fun y hy => ?_⟩
  rcases List.mem_append.1 hy with hy | hy
  · exact h.2 y hy
  · rw [List.mem_singleton.1 hy]; exact hx
theorem Small.put {l : List S44} (h : Small l) (i : Nat) (x : S44) (hx : x.f0.size ≤ 1000) : Small (l.set i x) := by
  refine ⟨by rw [List.length_set]; exact h.1, fun y hy => ?_⟩
  rcases List.mem_or_eq_of_mem_set hy with hy | hy
  · exact h.2 y hy
  · rw [hy]; exact hx
theorem Small.nameAt {l : List S44} (h : Small l) (i : Int) (h0 : 0 ≤ i) (h1 : i < (l.length : Int)) : (rd_T44 l i).f0.size ≤ 1000 := by
  obtain ⟨n, rfl⟩ : ∃ n : Nat, i = (n : Int) := ⟨i.toNat, by omega⟩
  rw [rd_mem l n (by omega)]
  exact h.2 _ (List.getElem_mem _)

theorem drawClaims_l1 (b : List Int) : ∀ (d : Nat) (l : List S44) (i h : Int), l.length + d = 17 → Small l → CurOk b i →
    ∃ l' i' h', Ev (fun k => spec_l13DrawClaims.l1 k l b i h) (l', i', h') ∧ Small l' := by
  intro d
  induction d with
  | zero =>
    intro l i h hd hs hc
    obtain ⟨x, i1, g1, e1, x0, x1, _, c1⟩ := drawBelow b i h 2 hc
    have := x1 (by omega)
    exact ⟨l, i1, g1, spec_l13DrawClaims.l1.st (ev_call e1 (ev_neg (by show ¬ (l.length : Int) < wrap64 (16 + x); rw [w64 (by omega) (by omega)]; omega) ev_now)), hs⟩
  | succ d ih =>
    intro l i h hd hs hc
    obtain ⟨x, i1, g1, e1, x0, x1, _, c1⟩ := drawBelow b i h 2 hc
    by_cases hl : (l.length : Int) < wrap64 (16 + x)
    · obtain ⟨t, ht, hts⟩ := num (l.length : Int) (by omega) (by omega)
      have h122 : (⟨#[122]⟩ : ByteArray).size = 1 := rfl
      obtain ⟨l', i', h', he, hs'⟩ := ih (l ++ [(⟨(⟨#[122]⟩ : ByteArray) ++ t, 1, 0, 1⟩ : S44)]) i1 g1 (by rw [List.length_append, List.length_singleton]; omega)
        (hs.push (by omega) _ (by show ((⟨#[122]⟩ : ByteArray) ++ t).size ≤ 1000; rw [ByteArray.size_append, h122]; omega)) c1
      exact ⟨l', i', h', spec_l13DrawClaims.l1.st (ev_call e1 (ev_pos hl (ev_bind ht (ev_pos (by omega) (ev_pos (by omega) he))))), hs'⟩
    · exact ⟨l, i1, g1, spec_l13DrawClaims.l1.st (ev_call e1 (ev_neg hl ev_now)), hs⟩

theorem drawClaims_j1 (b : List Int) (l : List S44) (y : Bool) (i h : Int) (hs : Small l) (hc : CurOk b i) (hy : y = true → 0 < l.length) :
    ∃ l' i' h', Ev (fun k => spec_l13DrawClaims.j1 k l y b i h) (l', i', h') ∧ Small l' := by
  cases y with
  | false => exact ⟨l, i, h, spec_l13DrawClaims.j1.st (ev_neg (by simp) ev_now), hs⟩
  | true =>
    have hl := hy rfl
    obtain ⟨p, i1, g1, e1, p0, p1, _, c1⟩ := drawBelow b i h (l.length : Int) hc
    have p2 := p1 (by omega)
    obtain ⟨q, i2, g2, e2, q0, q1, _, c2⟩ := drawBelow b i1 g1 4 c1
    by_cases q2 : q = 0
    · obtain ⟨t, i3, g3, e3, ht, c3⟩ := drawPickText b i2 g2 ([(⟨#[]⟩ : ByteArray), (⟨#[97]⟩ : ByteArray), (⟨#[65]⟩ : ByteArray)] : List ByteArray) c2 (by simp)
      refine ⟨_, _, _, spec_l13DrawClaims.j1.st (ev_pos rfl (ev_call e1 (ev_call e2 (ev_pos q2 (ev_call e3 (ev_pos p0 (ev_pos p2 ev_now))))))), hs.put _ _ ?_⟩
      show t.size ≤ 1000
      simp only [List.mem_cons, List.not_mem_nil, or_false] at ht
      rcases ht with rfl | rfl | rfl <;> decide
    · by_cases q3 : q = 1
      · obtain ⟨t, i3, g3, e3, ht, c3⟩ := drawPickInt b i2 g2 ([(-1), wrap64 (((rd_T44 l p).f1) + 1)] : List Int) c2 (by simp)
        exact ⟨_, _, _, spec_l13DrawClaims.j1.st (ev_pos rfl (ev_call e1 (ev_call e2 (ev_neg q2 (ev_pos q3 (ev_pos p0 (ev_pos p2 (ev_call e3 ev_now)))))))), hs.put _ _ (hs.nameAt p p0 p2)⟩
      · by_cases q4 : q = 2
        · obtain ⟨t, i3, g3, e3, ht, c3⟩ := drawPickInt b i2 g2 ([0, 100, 101] : List Int) c2 (by simp)
          exact ⟨_, _, _, spec_l13DrawClaims.j1.st (ev_pos rfl (ev_call e1 (ev_call e2 (ev_neg q2 (ev_neg q3 (ev_pos q4 (ev_call e3 (ev_pos p0 (ev_pos p2 ev_now))))))))), hs.put _ _ (hs.nameAt p p0 p2)⟩
        · by_cases q5 : q = 3
          · obtain ⟨l', i', h', he, hs'⟩ := drawClaims_l1 b (17 - l.length) l i2 g2 (by have := hs.1; omega) hs c2
            exact ⟨l', i', h', spec_l13DrawClaims.j1.st (ev_pos rfl (ev_call e1 (ev_call e2 (ev_neg q2 (ev_neg q3 (ev_neg q4 (ev_pos q5 he))))))), hs'⟩
          · exact ⟨_, _, _, spec_l13DrawClaims.j1.st (ev_pos rfl (ev_call e1 (ev_call e2 (ev_neg q2 (ev_neg q3 (ev_neg q4 (ev_neg q5 ev_now))))))), hs⟩

theorem drawClaim (b : List Int) (i h : Int) (nm : ByteArray) (hc : CurOk b i) : ∃ a1 a2 a3 i' h', spec_l13DrawClaim.f b i h nm = some (nm, a1, a2, a3, i', h') ∧ CurOk b i' := by
  unfold spec_l13DrawClaim.f
  obtain ⟨x, i1, g1, e1, x0, x1, _, c1⟩ := drawBelow b i h 12 hc
  obtain ⟨y, i2, g2, e2, y0, y1, _, c2⟩ := drawBelow b i1 g1 5 c1
  obtain ⟨z, i3, g3, e3, z0, z1, _, c3⟩ := drawBelow b i2 g2 (wrap64 (x + 1)) c2
  rw [e1]
  simp only [Option.bind_some]
  rw [e2]
  simp only [Option.bind_some]
  rw [e3]
  exact ⟨_, _, _, _, _, rfl, c3⟩

def fiveNames : List ByteArray := [(⟨#[97]⟩ : ByteArray), (⟨#[98]⟩ : ByteArray), (⟨#[99]⟩ : ByteArray), (⟨#[100]⟩ : ByteArray), (⟨#[101]⟩ : ByteArray)]
theorem fiveNames_size : ∀ n ∈ fiveNames, n.size ≤ 1000 := by decide

theorem drawClaims_l0 (b : List Int) : ∀ (d j : Nat) (l : List S44) (i h : Int), j + d = 5 → l.length ≤ j → Small l → CurOk b i →
    ∃ l' i' h', Ev (fun k => spec_l13DrawClaims.l0 k l fiveNames (j : Int) b i h) (l', i', h') ∧ Small l' := by
  have h5 : fiveNames.length = 5 := rfl
  intro d
  induction d with
  | zero =>
    intro j l i h hj hl hs hc
    obtain ⟨x, i1, g1, e1, c1⟩ := drawOnce b i h 10 hc
    cases x with
    | true =>
      obtain ⟨l', i', h', he, hs'⟩ := drawClaims_j1 b l (decide ((l.length : Int) > 0)) i1 g1 hs c1 (fun h => by have := of_decide_eq_true h; omega)
      exact ⟨l', i', h', spec_l13DrawClaims.l0.st (ev_neg (by omega) (ev_call e1 (ev_pos rfl he))), hs'⟩
    | false =>
      obtain ⟨l', i', h', he, hs'⟩ := drawClaims_j1 b l false i1 g1 hs c1 (fun h => absurd h (by simp))
      exact ⟨l', i', h', spec_l13DrawClaims.l0.st (ev_neg (by omega) (ev_call e1 (ev_neg (by simp) he))), hs'⟩
  | succ d ih =>
    intro j l i h hj hl hs hc
    obtain ⟨x, i1, g1, e1, x0, x1, _, c1⟩ := drawBelow b i h 3 hc
    have e : wrap64 ((j : Int) + 1) = ((j + 1 : Nat) : Int) := by rw [w64 (by omega) (by omega)]; omega
    by_cases hx : x > 0
    · have hn : (rdOf ByteArray.empty fiveNames (j : Int)).size ≤ 1000 := by
        unfold rdOf
        rw [Int.toNat_natCast, List.getD_eq_getElem?_getD, List.getElem?_eq_getElem (by omega)]
        exact fiveNames_size _ (List.getElem_mem _)
      obtain ⟨a1, a2, a3, i2, g2, e2, c2⟩ := drawClaim b i1 g1 (rdOf ByteArray.empty fiveNames (j : Int)) c1
      obtain ⟨l', i', h', he, hs'⟩ := ih (j + 1) (l ++ [(⟨rdOf ByteArray.empty fiveNames (j : Int), a1, a2, a3⟩ : S44)]) i2 g2 (by omega) (by rw [List.length_append, List.length_singleton]; omega) (hs.push (by omega) _ hn) c2
      refine ⟨l', i', h', spec_l13DrawClaims.l0.st (ev_pos (by omega) (ev_call e1 (ev_pos hx (ev_pos (by omega) (ev_call e2 (ev_pos (by omega) ?_)))))), hs'⟩
      rw [e]
      exact he
    · obtain ⟨l', i', h', he, hs'⟩ := ih (j + 1) l i1 g1 (by omega) (by omega) hs c1
      refine ⟨l', i', h', spec_l13DrawClaims.l0.st (ev_pos (by omega) (ev_call e1 (ev_neg hx ?_))), hs'⟩
      rw [e]
      exact he

theorem drawClaims (b : List Int) (i h : Int) (hc : CurOk b i) : ∃ l i' h', Ev (fun k => spec_l13DrawClaims.f k b i h) (l, i', h') ∧ Small l := by
  unfold spec_l13DrawClaims.f
  exact drawClaims_l0 b 5 0 [] i h (by omega) (by simp) ⟨by simp, by simp⟩ hc

theorem drawShareOut (b : List Int) (hb : b.length ≤ 1048576) : ∃ n l, Ev (fun k => spec_DrawShareOut.f k b) (n, l) ∧ Small l := by
  unfold spec_DrawShareOut.f
  obtain ⟨h, h0⟩ := drawNew b hb
  have c0 : CurOk b 0 := by unfold CurOk; omega
  obtain ⟨x, i1, g1, e1, x0, x1, _, c1⟩ := drawBelow b 0 h 40 c0
  obtain ⟨y, i2, g2, e2, y0, y1, _, c2⟩ := drawBelow b i1 g1 20 c1
  obtain ⟨z, i3, g3, e3, _, c3⟩ := drawPickInt b i2 g2 ([x, y, 0, 1000, 1001, (-1)] : List Int) c2 (by simp)
  obtain ⟨l, i4, g4, e4, hs⟩ := drawClaims b i3 g3 c3
  exact ⟨z, l, ev_bind h0 (ev_call e1 (ev_call e2 (ev_call e3 (ev_bind e4 ev_now)))), hs⟩
end Go.Proofs.Ytmbkgiagkhhifaa.PA
