/- The row of FnExactIdealAt: called with any arguments that can be read as data, in whatever memory, it answers true and leaves its arguments as they were. No further condition. -/
import Derived.Test.YtapckgibbhijeaaRows
import Derived.Test.YtapckgibbhijeaaOpen
import Derived.Test.YtapckgibbhijeaaPAx9
import Derived.Test.YtapckgibbhijeaaIdealAtLaw
import Derived.WalkKit
import Derived.ProofKit
import Derived.OpenShut
import Derived.ShutString
import Derived.ChangeOld
import Derived.Below
import Derived.SizedLaws
namespace Go.Proofs.Ytapckgibbhijeaa.fnExactIdealAt
open Go.ChangeShapes Go.WideShapes Go.ChangeAt Go.RowKit Go.Proofs.Ytapckgibbhijeaa.Opening Go.Proofs.Ytapckgibbhijeaa.PA Go.Proofs.YtapckgibbhijeaaW.PrintWords
open Go.ChangeMaps (open_string shut_string)
set_option linter.unusedVariables false
theorem own : ownKnob Try.prog.godebug = none := by kernel_rfl
theorem laidOut : laidOutB Try.prog = true := by kernel_rfl
theorem opens78 : Opens Try.prog k78 78 (fun x => (x.f0.size ≤ maxLen ∧ (Lit.int .i64 x.f1).wf = true ∧ (Lit.int .i64 x.f2).wf = true)) := Opens.iso (fun x : S78 => (x.f0, x.f1, x.f2)) (fun p => (⟨p.1, p.2.1, p.2.2⟩ : S78)) (fun _ => rfl) (Opens.struct Try.underlying78 (by kernel_rfl) (OpensF.cons (Opens.string Try.underlying9) rfl (by kernel_rfl) (OpensF.cons (Opens.int Try.underlying3) rfl (by kernel_rfl) (OpensF.last (Opens.int Try.underlying3) rfl (by kernel_rfl)))))
theorem opens93 : Opens Try.prog k93 93 (fun x => ((Lit.int .i64 x.f0).wf = true ∧ (Lit.int .i64 x.f1).wf = true ∧ (Lit.int .i64 x.f2).wf = true)) := Opens.iso (fun x : S93 => (x.f0, x.f1, x.f2)) (fun p => (⟨p.1, p.2.1, p.2.2⟩ : S93)) (fun _ => rfl) (Opens.struct Try.underlying93 (by kernel_rfl) (OpensF.cons (Opens.int Try.underlying3) rfl (by kernel_rfl) (OpensF.cons (Opens.int Try.underlying3) rfl (by kernel_rfl) (OpensF.last (Opens.int Try.underlying3) rfl (by kernel_rfl)))))
set_option maxRecDepth 100000 in
theorem lifted (os : Os) (started : os.Started) (H : Type) (enc : TypeId × Value → H) :
    ReturnsInHanded {} Try.checked os 5 .any (Rows.fnExactIdealAtSpec.pre6 enc Try.prog Try.f5 Rows.fnExactIdealAtRow.domain false) (Rows.fnExactIdealAtSpec.post enc Try.prog Try.f5 false true false false) := by
  refine returnsInHanded_of_change_sized (C := Try.checked) own started (by kernel_rfl) Try.func5
    (ChangeSpec.witness6 (enc := enc) (C := Try.checked) false ⟨#[], #[.agg #[.int .i64 0, .int .i64 0, .int .i64 0, .slice none 0 0, .slice none 0 0, .int .i64 0, .int .i64 0, .slice none 0 0, .int .i64 0, .int .i64 0, .int .i64 0, .int .i64 0, .slice none 0 0, .int .i64 0, .int .i64 0, .int .i64 0], .int .i64 0], []⟩ 8 (by kernel_rfl) (by kernel_rfl) (by kernel_rfl) (by kernel_rfl)) ?_
  intro W base args ds gs before hval0 hW hcnd hsz0 _
  have hval : ∀ (j : Nat) t v, Try.f5.params[j]? = some t → args[j]? = some v → Value.okWide Try.prog W .any base t v := hval0
  have hW' := hW
  obtain ⟨p, q, hA0, hV, rfl, hfz, hnd⟩ := hW
  have hA : DataW.TrodAll enc Try.prog W 0 (fun _ => true) true Try.f5.params.toList args.toList ds p := hA0
  rw [Try.params5] at hA hval
  obtain ⟨v0, vs0, d0, ds0, p0, q0, hargs, rfl, rfl, h0, r0⟩ := trodAll_cons hA
  obtain ⟨v1, vs1, d1, ds1, p1, q1, rfl, rfl, rfl, h1, r1⟩ := trodAll_cons r0
  obtain ⟨rfl, rfl, rfl⟩ := trodAll_nil r1
  obtain rfl : args = #[v0, v1] := by cases args; simp_all
  obtain ⟨rfl, rfl⟩ := trodVars_none hV
  obtain ⟨cs0, rfl, _⟩ := okWide_struct Try.underlying34 (hval 0 34 v0 rfl rfl)
  have k0_ := h0
  have lt0 : ∀ x ∈ p0, x.block < W.heap.size := by obtain ⟨m, hm⟩ := k0_; exact DataW.trod_lt m _ _ _ hm
  obtain ⟨x0, hK0, g0⟩ := Opens.agg (d := (Kd.pair (Kd.pair (Kd.pair (Kd.int .i64) (Kd.pair (Kd.int .i64) (Kd.int .i64))) (Kd.pair (Kd.slice 78 k78) (Kd.pair (Kd.pair (Kd.slice 93 k93) (Kd.pair (Kd.int .i64) (Kd.int .i64))) (Kd.pair (Kd.pair (Kd.slice 93 k93) (Kd.pair (Kd.int .i64) (Kd.int .i64))) (Kd.pair (Kd.int .i64) (Kd.int .i64)))))) (Kd.pair (Kd.slice 3 (Kd.int .i64)) (Kd.pair (Kd.int .i64) (Kd.pair (Kd.int .i64) (Kd.int .i64)))))) (Opens.struct Try.underlying34 (by kernel_rfl) (OpensF.cons (Opens.struct Try.underlying31 (by kernel_rfl) (OpensF.cons (Opens.struct Try.underlying23 (by kernel_rfl) (OpensF.cons (Opens.int Try.underlying3) rfl (by kernel_rfl) (OpensF.cons (Opens.int Try.underlying3) rfl (by kernel_rfl) (OpensF.last (Opens.int Try.underlying3) rfl (by kernel_rfl))))) rfl (by kernel_rfl) (OpensF.cons (@Opens.slice Try.prog _ ⟨z78⟩ _ 24 78 _ Try.underlying24 (by kernel_rfl) opens78) rfl (by kernel_rfl) (OpensF.last (Opens.struct Try.underlying29 (by kernel_rfl) (OpensF.cons (Opens.struct Try.underlying27 (by kernel_rfl) (OpensF.cons (@Opens.slice Try.prog _ ⟨z93⟩ _ 25 93 _ Try.underlying25 (by kernel_rfl) opens93) rfl (by kernel_rfl) (OpensF.cons (Opens.int Try.underlying3) rfl (by kernel_rfl) (OpensF.last (Opens.int Try.underlying3) rfl (by kernel_rfl))))) rfl (by kernel_rfl) (OpensF.cons (Opens.struct Try.underlying27 (by kernel_rfl) (OpensF.cons (@Opens.slice Try.prog _ ⟨z93⟩ _ 25 93 _ Try.underlying25 (by kernel_rfl) opens93) rfl (by kernel_rfl) (OpensF.cons (Opens.int Try.underlying3) rfl (by kernel_rfl) (OpensF.last (Opens.int Try.underlying3) rfl (by kernel_rfl))))) rfl (by kernel_rfl) (OpensF.cons (Opens.int Try.underlying3) rfl (by kernel_rfl) (OpensF.last (Opens.int Try.underlying3) rfl (by kernel_rfl)))))) rfl (by kernel_rfl))))) rfl (by kernel_rfl) (OpensF.cons (@Opens.slice Try.prog _ ⟨(0 : Int)⟩ _ 32 3 _ Try.underlying32 (by kernel_rfl) (Opens.int Try.underlying3)) rfl (by kernel_rfl) (OpensF.cons (Opens.int Try.underlying3) rfl (by kernel_rfl) (OpensF.cons (Opens.int Try.underlying3) rfl (by kernel_rfl) (OpensF.last (Opens.int Try.underlying3) rfl (by kernel_rfl))))))) h0
  obtain ⟨csl0, hcs0⟩ : ∃ l, l = cs0.toList := ⟨_, rfl⟩
  rw [← hcs0] at hK0
  obtain ⟨_, _, rfl, ⟨_, _, rfl, ⟨_, _, rfl, rfl, ⟨_, _, rfl, rfl, rfl⟩⟩, ⟨_, _, rfl, ⟨A0_1, c0_1, rfl, hc0_1, hr0_1⟩, ⟨_, _, rfl, ⟨_, _, rfl, ⟨A0_2, c0_2, rfl, hc0_2, hr0_2⟩, ⟨_, _, rfl, rfl, rfl⟩⟩, ⟨_, _, rfl, ⟨_, _, rfl, ⟨A0_3, c0_3, rfl, hc0_3, hr0_3⟩, ⟨_, _, rfl, rfl, rfl⟩⟩, ⟨_, _, rfl, rfl, rfl⟩⟩⟩⟩⟩, ⟨_, _, rfl, ⟨A0_4, c0_4, rfl, hc0_4, hr0_4⟩, ⟨_, _, rfl, rfl, ⟨_, _, rfl, rfl, rfl⟩⟩⟩⟩ := hK0
  obtain rfl : cs0 = #[.int .i64 x0.1.1.1, .int .i64 x0.1.1.2.1, .int .i64 x0.1.1.2.2, .slice A0_1 x0.1.2.1.length c0_1, .slice A0_2 x0.1.2.2.1.1.length c0_2, .int .i64 x0.1.2.2.1.2.1, .int .i64 x0.1.2.2.1.2.2, .slice A0_3 x0.1.2.2.2.1.1.length c0_3, .int .i64 x0.1.2.2.2.1.2.1, .int .i64 x0.1.2.2.2.1.2.2, .int .i64 x0.1.2.2.2.2.1, .int .i64 x0.1.2.2.2.2.2, .slice A0_4 x0.2.1.length c0_4, .int .i64 x0.2.2.1, .int .i64 x0.2.2.2.1, .int .i64 x0.2.2.2.2] := by apply Array.toList_inj.1; rw [← hcs0]; rfl
  clear hcs0
  obtain ⟨a1, rfl, rfl, rfl, w1⟩ := open_int Try.underlying3 (hval 1 3 v1 rfl rfl) h1
  have b1 := wf_i64 w1
  clear hA0 hval0 hsz0
  obtain ⟨k, hk⟩ := (plainIdealAt x0.1.1.1 x0.1.1.2.1 x0.1.1.2.2 x0.1.2.1 x0.1.2.2.1.1 x0.1.2.2.1.2.1 x0.1.2.2.1.2.2 x0.1.2.2.2.1.1 x0.1.2.2.2.1.2.1 x0.1.2.2.2.1.2.2 x0.1.2.2.2.2.1 x0.1.2.2.2.2.2 x0.2.1 x0.2.2.1 x0.2.2.2.1 x0.2.2.2.2 a1 ⟨g0.1.2.1.1, fun x hx => (g0.1.2.1.2 x hx).1⟩ g0.1.2.2.1.1.1 g0.1.2.2.2.1.1.1 g0.2.1.1 b1.2).rounds
  refine (laws_FnExactIdealAt.calls k x0.1.1.1 x0.1.1.2.1 x0.1.1.2.2 A0_1 c0_1 x0.1.2.1 A0_2 c0_2 x0.1.2.2.1.1 x0.1.2.2.1.2.1 x0.1.2.2.1.2.2 A0_3 c0_3 x0.1.2.2.2.1.1 x0.1.2.2.2.1.2.1 x0.1.2.2.2.1.2.2 x0.1.2.2.2.2.1 x0.1.2.2.2.2.2 A0_4 c0_4 x0.2.1 x0.2.2.1 x0.2.2.2.1 x0.2.2.2.2 a1 true W hr0_1 hc0_1 hr0_2 hc0_2 hr0_3 hc0_3 hr0_4 hc0_4 hk).mono fun e W' ⟨he, bel0⟩ => ?_
  subst he
  have bel : Below W.heap.size W W' := bel0
  exact ⟨_, rfl, _, _, _, [], _, [], hW', trodAll_mk1 (shut_bool Try.underlying4 _), (trodAll_cons_mk (Below.trod laidOut (by kernel_rfl) (of_decide_eq_true (by kernel_rfl)) k0_ bel lt0) (trodAll_cons_mk (shut_int Try.underlying3 w1) trodAll_mk0)), rfl, bel.frame _, fun h => by cases h⟩
theorem over : Rows.fnExactIdealAtRow.holds Try.pinned (OpenSpec.ofChange Rows.fnExactIdealAtSpec) :=
  OpenClaim.holds_of_wide 5 Try.f5 rfl rfl rfl rfl rfl rfl rfl ⟨rfl, rfl, rfl, rfl, rfl⟩ rfl rfl rfl rfl rfl (by kernel_rfl) Try.func5 (by kernel_rfl)
    (of_decide_eq_true (by kernel_rfl)) (by unfold Func.isWrapper; first | (rw [if_pos (by decide +kernel)]; kernel_rfl) | (rw [if_neg (by decide +kernel)]; exact ⟨rfl, rfl⟩))
    (fun os started H enc _ => lifted os started H enc)
theorem proved : Rows.FnExactIdealAtSaid := over
end Go.Proofs.Ytapckgibbhijeaa.fnExactIdealAt
namespace Go.Proofs.Ytapckgibbhijeaa
/-- The row, under a short name, for the claim. -/
theorem fnExactIdealAt_holds : Rows.FnExactIdealAtSaid := fnExactIdealAt.proved
#print axioms fnExactIdealAt_holds
end Go.Proofs.Ytapckgibbhijeaa
