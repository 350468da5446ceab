/- The draws of the statements: a cursor's bytes, numbers below a bound, picks out of a list: each ends, and lies within its bounds. No condition. -/
import Derived.Test.YtidkiabehmdofaaGreatDoorAid
import Derived.Test.YtidkiabehmdofaaGreatDoorPAx1
import Derived.Test.YtidkiabehmdofaaGreatDoorPAx4
namespace Go.Proofs.YtidkiabehmdofaaGreatDoor.PA
open Go.RowKit Go.Proofs.YtidkiabehmdofaaGreatDoorW.PrintWords Go.Proofs.YtidkiabehmdofaaGreatDoorW.PrintLast Go.Proofs.YtidkiabehmdofaaGreatDoorW.PrintMore Go.Proofs.YtidkiabehmdofaaGreatDoor.Aid
set_option linter.unusedVariables false

/-- A cursor whose place is no less than 0, and within the list or at its end. -/
def CurOk (b : List Int) (i : Int) : Prop := 0 ≤ i ∧ i ≤ (b.length : Int) ∧ b.length ≤ 1048576

theorem and255 (x : Int) : 0 ≤ Go.bits .and .i64 x 255 ∧ Go.bits .and .i64 x 255 ≤ 255 := by
  have h255 : (BitVec.ofInt 64 255).toNat = 2 ^ 8 - 1 := by decide
  have key : (BitVec.ofInt 64 x &&& BitVec.ofInt 64 255).toNat = (x % ((2 ^ 64 : Nat) : Int)).toNat % 2 ^ 8 := by
    rw [BitVec.toNat_and, BitVec.toNat_ofInt, h255, Nat.and_two_pow_sub_one_eq_mod]
  have e : Go.bits .and .i64 x 255 = x % 256 := by
    show IntKind.i64.wrap ((BitVec.ofInt 64 x &&& BitVec.ofInt 64 255).toNat : Nat) = x % 256
    rw [key, IntKind.wrap_i64]
    omega
  rw [e]
  omega

theorem drawNew (b : List Int) (hb : b.length ≤ 1048576) : ∃ h, Ev (fun k => spec_l01New.f k b) (b, 0, h) := by
  unfold spec_l01New.f
  have key : ∀ d i, i + d = b.length → ∀ h : Int, ∃ h', Ev (fun k => spec_l01New.l0 k b h (i : Int)) (b, 0, h') := by
    intro d
    induction d with
    | zero => intro i hi h; exact ⟨h, spec_l01New.l0.st (ev_neg (by omega) ev_now)⟩
    | succ d ih =>
      intro i hi h
      by_cases h4 : (i : Int) < 4000
      · obtain ⟨h', hh⟩ := ih (i + 1) (by omega) (Go.bits .and .i64 (wrap64 ((wrap64 ((wrap64 (h * 149)) + (wrap64 (rd b (i : Int))))) + 11)) 1073741823)
        refine ⟨h', spec_l01New.l0.st (ev_pos (by omega) (ev_pos h4 (ev_pos (by omega) ?_)))⟩
        rw [w64 (x := (i : Int) + 1) (by omega) (by omega)]
        exact hh
      · exact ⟨h, spec_l01New.l0.st (ev_pos (by omega) (ev_neg h4 ev_now))⟩
  exact key b.length 0 (by omega) _

theorem drawByte (b : List Int) (i h : Int) (hc : CurOk b i) : ∃ x i' h', spec_l01Byte.f b i h = some (x, i', h') ∧ 0 ≤ x ∧ x ≤ 255 ∧ CurOk b i' := by
  unfold spec_l01Byte.f
  unfold CurOk at hc
  by_cases h1 : i < (b.length : Int)
  · rw [if_pos h1, if_pos hc.1]
    refine ⟨_, _, _, rfl, (and255 _).1, (and255 _).2, ?_⟩
    unfold CurOk
    rw [w64 (by omega) (by omega)]
    omega
  · rw [if_neg h1]
    exact ⟨_, _, _, rfl, (and255 _).1, (and255 _).2, hc⟩

theorem tmod_range (x n : Int) (h0 : 0 ≤ x) (hn : 0 < n) : 0 ≤ Int.tmod x n ∧ Int.tmod x n < n := by
  rw [Int.tmod_eq_emod_of_nonneg h0]
  exact ⟨Int.emod_nonneg _ (by omega), Int.emod_lt_of_pos _ hn⟩

/-- A number below n: 0 where n is not above 0. -/
theorem drawBelow (b : List Int) (i h n : Int) (hc : CurOk b i) : ∃ x i' h', spec_l01Below.f b i h n = some (x, i', h') ∧ 0 ≤ x ∧ (0 < n → x < n) ∧ (n ≤ 0 → x = 0) ∧ CurOk b i' := by
  unfold spec_l01Below.f
  by_cases h1 : n ≤ 0
  · rw [if_pos h1]
    exact ⟨_, _, _, rfl, Int.le_refl _, fun h => absurd h (by omega), fun _ => rfl, hc⟩
  · rw [if_neg h1]
    obtain ⟨x, i1, g1, e1, x0, x1, c1⟩ := drawByte b i h hc
    by_cases h2 : n ≤ 256
    · rw [if_pos h2, e1]
      simp only [Option.bind_some]
      rw [if_neg (by omega)]
      exact ⟨_, _, _, rfl, (tmod_range x n x0 (by omega)).1, fun _ => (tmod_range x n x0 (by omega)).2, fun h => absurd h h1, c1⟩
    · rw [if_neg h2, e1]
      simp only [Option.bind_some]
      obtain ⟨y, i2, g2, e2, y0, y1, c2⟩ := drawByte b i1 g1 c1
      rw [e2]
      simp only [Option.bind_some]
      obtain ⟨z, i3, g3, e3, z0, z1, c3⟩ := drawByte b i2 g2 c2
      rw [e3]
      simp only [Option.bind_some]
      rw [if_neg (by omega), w64 (x := x * 65536) (by omega) (by omega), w64 (x := y * 256) (by omega) (by omega), w64 (x := x * 65536 + y * 256) (by omega) (by omega), w64 (x := x * 65536 + y * 256 + z) (by omega) (by omega)]
      have h5 : 0 ≤ x * 65536 + y * 256 + z := by omega
      exact ⟨_, _, _, rfl, (tmod_range _ n h5 (by omega)).1, fun _ => (tmod_range _ n h5 (by omega)).2, fun h => absurd h h1, c3⟩

theorem drawPickInt (b : List Int) (i h : Int) (l : List Int) (hc : CurOk b i) (hl : 0 < l.length) : ∃ x i' h', spec_l01PickInt.f b i h l = some (x, i', h') ∧ x ∈ l ∧ CurOk b i' := by
  unfold spec_l01PickInt.f
  obtain ⟨x, i1, g1, e1, x0, x1, _, c1⟩ := drawBelow b i h (l.length : Int) hc
  have h2 := x1 (by omega)
  rw [e1]
  simp only [Option.bind_some]
  rw [if_pos x0, if_pos h2]
  refine ⟨_, _, _, rfl, ?_, c1⟩
  unfold rd
  rw [List.getD_eq_getElem?_getD, List.getElem?_eq_getElem (by omega)]
  exact List.getElem_mem _

theorem drawOnce (b : List Int) (i h n : Int) (hc : CurOk b i) : ∃ x i' h', spec_l01Once.f b i h n = some (x, i', h') ∧ CurOk b i' := by
  unfold spec_l01Once.f
  obtain ⟨x, i1, g1, e1, _, _, _, c1⟩ := drawBelow b i h n hc
  rw [e1]
  exact ⟨_, _, _, rfl, c1⟩
end Go.Proofs.YtidkiabehmdofaaGreatDoor.PA
