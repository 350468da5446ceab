/- The row of FnExactClassOf: called with any arguments that can be read as data, in whatever memory, it answers true and leaves its arguments as they were. No further condition. -/
import Derived.Test.YtecjingcnaopdaaRows
import Derived.Test.YtecjingcnaopdaaOpen
import Derived.Test.YtecjingcnaopdaaPAx13
import Derived.Test.YtecjingcnaopdaaClassOfLaw
import Derived.WalkKit
import Derived.ProofKit
import Derived.OpenShut
import Derived.ShutString
import Derived.ChangeOld
import Derived.Below
import Derived.SizedLaws
namespace Go.Proofs.Ytecjingcnaopdaa.fnExactClassOf
open Go.ChangeShapes Go.WideShapes Go.ChangeAt Go.RowKit Go.Proofs.Ytecjingcnaopdaa.Opening Go.Proofs.Ytecjingcnaopdaa.PA Go.Proofs.YtecjingcnaopdaaW.PrintWords
open Go.ChangeMaps (open_string shut_string)
set_option linter.unusedVariables false
theorem own : ownKnob Try.prog.godebug = none := by kernel_rfl
theorem laidOut : laidOutB Try.prog = true := by kernel_rfl
theorem opens79 : Opens Try.prog k79 79 (fun x => ((Lit.int .i64 x.f0).wf = true ∧ (Lit.int .i64 x.f1).wf = true)) := Opens.iso (fun x : S79 => (x.f0, x.f1)) (fun p => (⟨p.1, p.2⟩ : S79)) (fun _ => rfl) (Opens.struct Try.underlying79 (by kernel_rfl) (OpensF.cons (Opens.int Try.underlying3) rfl (by kernel_rfl) (OpensF.last (Opens.int Try.underlying3) rfl (by kernel_rfl))))
theorem opens56 : Opens Try.prog k56 56 (fun x => (x.f0.size ≤ maxLen ∧ x.f1.size ≤ maxLen ∧ (x.f2.length ≤ maxLen ∧ ∀ x79 ∈ x.f2, ((Lit.int .i64 x79.f0).wf = true ∧ (Lit.int .i64 x79.f1).wf = true)))) := Opens.iso (fun x : S56 => (x.f0, x.f1, x.f2)) (fun p => (⟨p.1, p.2.1, p.2.2⟩ : S56)) (fun _ => rfl) (Opens.struct Try.underlying56 (by kernel_rfl) (OpensF.cons (Opens.string Try.underlying9) rfl (by kernel_rfl) (OpensF.cons (Opens.string Try.underlying9) rfl (by kernel_rfl) (OpensF.last (@Opens.slice Try.prog _ ⟨z79⟩ _ 54 79 _ Try.underlying54 (by kernel_rfl) opens79) rfl (by kernel_rfl)))))
set_option maxRecDepth 100000 in
theorem lifted (os : Os) (started : os.Started) (H : Type) (enc : TypeId × Value → H) :
    ReturnsInHanded {} Try.checked os 7 .any (Rows.fnExactClassOfSpec.pre6 enc Try.prog Try.f7 Rows.fnExactClassOfRow.domain false) (Rows.fnExactClassOfSpec.post enc Try.prog Try.f7 false true false false) := by
  refine returnsInHanded_of_change_sized (C := Try.checked) own started (by kernel_rfl) Try.func7
    (ChangeSpec.witness6 (enc := enc) (C := Try.checked) false ⟨#[], #[.agg #[.string ByteArray.empty, .int .i64 0, .int .i64 0, .bool false], .slice none 0 0, .string ByteArray.empty, .int .i64 0, .agg #[.int .i64 0, .int .i64 0, .int .i64 0]], []⟩ 8 (by kernel_rfl) (by kernel_rfl) (by kernel_rfl) (by kernel_rfl)) ?_
  intro W base args ds gs before hval0 hW hcnd hsz0 _
  have hval : ∀ (j : Nat) t v, Try.f7.params[j]? = some t → args[j]? = some v → Value.okWide Try.prog W .any base t v := hval0
  have hW' := hW
  obtain ⟨p, q, hA0, hV, rfl, hfz, hnd⟩ := hW
  have hA : DataW.TrodAll enc Try.prog W 0 (fun _ => true) true Try.f7.params.toList args.toList ds p := hA0
  rw [Try.params7] at hA hval
  obtain ⟨v0, vs0, d0, ds0, p0, q0, hargs, rfl, rfl, h0, r0⟩ := trodAll_cons hA
  obtain ⟨v1, vs1, d1, ds1, p1, q1, rfl, rfl, rfl, h1, r1⟩ := trodAll_cons r0
  obtain ⟨v2, vs2, d2, ds2, p2, q2, rfl, rfl, rfl, h2, r2⟩ := trodAll_cons r1
  obtain ⟨v3, vs3, d3, ds3, p3, q3, rfl, rfl, rfl, h3, r3⟩ := trodAll_cons r2
  obtain ⟨v4, vs4, d4, ds4, p4, q4, rfl, rfl, rfl, h4, r4⟩ := trodAll_cons r3
  obtain ⟨rfl, rfl, rfl⟩ := trodAll_nil r4
  obtain rfl : args = #[v0, v1, v2, v3, v4] := by cases args; simp_all
  obtain ⟨rfl, rfl⟩ := trodVars_none hV
  obtain ⟨cs0, rfl, _⟩ := okWide_struct Try.underlying43 (hval 0 43 v0 rfl rfl)
  have k0_ := h0
  have lt0 : ∀ x ∈ p0, x.block < W.heap.size := by obtain ⟨m, hm⟩ := k0_; exact DataW.trod_lt m _ _ _ hm
  obtain ⟨x0, hK0, g0⟩ := Opens.agg (d := (Kd.pair Kd.string (Kd.pair (Kd.int .i64) (Kd.pair (Kd.int .i64) Kd.bool)))) (Opens.struct Try.underlying43 (by kernel_rfl) (OpensF.cons (Opens.string Try.underlying9) rfl (by kernel_rfl) (OpensF.cons (Opens.int Try.underlying3) rfl (by kernel_rfl) (OpensF.cons (Opens.int Try.underlying3) rfl (by kernel_rfl) (OpensF.last (Opens.bool Try.underlying4) rfl (by kernel_rfl)))))) h0
  obtain ⟨csl0, hcs0⟩ : ∃ l, l = cs0.toList := ⟨_, rfl⟩
  rw [← hcs0] at hK0
  obtain ⟨_, _, rfl, rfl, ⟨_, _, rfl, rfl, ⟨_, _, rfl, rfl, rfl⟩⟩⟩ := hK0
  obtain rfl : cs0 = #[.string x0.1, .int .i64 x0.2.1, .int .i64 x0.2.2.1, .bool x0.2.2.2] := by apply Array.toList_inj.1; rw [← hcs0]; rfl
  clear hcs0
  obtain ⟨A1, len1, c1, rfl⟩ := okWide_slice Try.underlying22 (hval 1 22 v1 rfl rfl)
  have k1_ := h1
  have lt1 : ∀ x ∈ p1, x.block < W.heap.size := by obtain ⟨m, hm⟩ := k1_; exact DataW.trod_lt m _ _ _ hm
  obtain ⟨l1, rfl, hc1, hr1, g1⟩ := Opens.row (@Opens.slice Try.prog _ ⟨z56⟩ _ 22 56 _ Try.underlying22 (by kernel_rfl) opens56) h1
  obtain ⟨a2, rfl, rfl, rfl, w2⟩ := open_string Try.underlying9 (hval 2 9 v2 rfl rfl) h2
  obtain ⟨a3, rfl, rfl, rfl, w3⟩ := open_int Try.underlying3 (hval 3 3 v3 rfl rfl) h3
  have b3 := wf_i64 w3
  obtain ⟨cs4, rfl, _⟩ := okWide_struct Try.underlying45 (hval 4 45 v4 rfl rfl)
  have k4_ := h4
  have lt4 : ∀ x ∈ p4, x.block < W.heap.size := by obtain ⟨m, hm⟩ := k4_; exact DataW.trod_lt m _ _ _ hm
  obtain ⟨x4, hK4, g4⟩ := Opens.agg (d := (Kd.pair (Kd.int .i64) (Kd.pair (Kd.int .i64) (Kd.int .i64)))) (Opens.struct Try.underlying45 (by kernel_rfl) (OpensF.cons (Opens.int Try.underlying3) rfl (by kernel_rfl) (OpensF.cons (Opens.int Try.underlying3) rfl (by kernel_rfl) (OpensF.last (Opens.int Try.underlying3) rfl (by kernel_rfl))))) h4
  obtain ⟨csl4, hcs4⟩ : ∃ l, l = cs4.toList := ⟨_, rfl⟩
  rw [← hcs4] at hK4
  obtain ⟨_, _, rfl, rfl, ⟨_, _, rfl, rfl, rfl⟩⟩ := hK4
  obtain rfl : cs4 = #[.int .i64 x4.1, .int .i64 x4.2.1, .int .i64 x4.2.2] := by apply Array.toList_inj.1; rw [← hcs4]; rfl
  clear hcs4
  clear hA0 hval0 hsz0
  obtain ⟨k, hk⟩ := (plainClassOf x0.1 x0.2.1 x0.2.2.1 x0.2.2.2 l1 a2 a3 x4.1 x4.2.1 x4.2.2 g0.1 ⟨g1.1, fun x hx => ⟨(g1.2 x hx).1, (g1.2 x hx).2.1, (g1.2 x hx).2.2.1⟩⟩).rounds
  refine (laws_FnExactClassOf.calls k x0.1 x0.2.1 x0.2.2.1 x0.2.2.2 A1 c1 l1 a2 a3 x4.1 x4.2.1 x4.2.2 true W hr1 hc1 hk).mono fun e W' ⟨he, bel0⟩ => ?_
  subst he
  have bel : Below W.heap.size W W' := bel0
  exact ⟨_, rfl, _, _, _, [], _, [], hW', trodAll_mk1 (shut_bool Try.underlying4 _), (trodAll_cons_mk (Below.trod laidOut (by kernel_rfl) (of_decide_eq_true (by kernel_rfl)) k0_ bel lt0) (trodAll_cons_mk (Below.trod laidOut (by kernel_rfl) (of_decide_eq_true (by kernel_rfl)) k1_ bel lt1) (trodAll_cons_mk (shut_string Try.underlying9 w2) (trodAll_cons_mk (shut_int Try.underlying3 w3) (trodAll_cons_mk (Below.trod laidOut (by kernel_rfl) (of_decide_eq_true (by kernel_rfl)) k4_ bel lt4) trodAll_mk0))))), rfl, bel.frame _, fun h => by cases h⟩
theorem over : Rows.fnExactClassOfRow.holds Try.pinned (OpenSpec.ofChange Rows.fnExactClassOfSpec) :=
  OpenClaim.holds_of_wide 7 Try.f7 rfl rfl rfl rfl rfl rfl rfl ⟨rfl, rfl, rfl, rfl, rfl⟩ rfl rfl rfl rfl rfl (by kernel_rfl) Try.func7 (by kernel_rfl)
    (of_decide_eq_true (by kernel_rfl)) (by unfold Func.isWrapper; first | (rw [if_pos (by decide +kernel)]; kernel_rfl) | (rw [if_neg (by decide +kernel)]; exact ⟨rfl, rfl⟩))
    (fun os started H enc _ => lifted os started H enc)
theorem proved : Rows.FnExactClassOfSaid := over
end Go.Proofs.Ytecjingcnaopdaa.fnExactClassOf
namespace Go.Proofs.Ytecjingcnaopdaa
/-- The row, under a short name, for the claim. -/
theorem fnExactClassOf_holds : Rows.FnExactClassOfSaid := fnExactClassOf.proved
#print axioms fnExactClassOf_holds
end Go.Proofs.Ytecjingcnaopdaa
