/- The row of FnExactWorldText: called with any arguments that can be read as data, in whatever memory, it answers true and leaves its arguments as they were. The library's tables that its code reads hold what the program's text lays in them. No further condition. -/
import Derived.Test.YtapckgibbhijeaaDoorRows
import Derived.Test.YtapckgibbhijeaaDoorCards
import Derived.Test.YtapckgibbhijeaaDoorTie
import Derived.LaidMore
import Derived.Lay
import Derived.Stop.Joined
import Derived.Stop.LaidErr
import Derived.SevenTiedAt
import Derived.Lib.LaidTab
import Derived.Test.YtapckgibbhijeaaDoorOpen
import Derived.Test.YtapckgibbhijeaaDoorPAx5
import Derived.Test.YtapckgibbhijeaaDoorWorldTextLaw
import Derived.WalkKit
import Derived.ProofKit
import Derived.OpenShut
import Derived.ShutString
import Derived.ChangeOld
import Derived.Below
import Derived.SizedLaws
namespace Go.Proofs.YtapckgibbhijeaaDoor.fnExactWorldText
open Go.ChangeShapes Go.WideShapes Go.ChangeAt Go.RowKit Go.Proofs.YtapckgibbhijeaaDoor.Opening Go.Proofs.YtapckgibbhijeaaDoor.PA Go.Proofs.YtapckgibbhijeaaDoorW.PrintWords
open Go.ChangeMaps (open_string shut_string)
set_option linter.unusedVariables false
theorem own : ownKnob Tryd.prog.godebug = none := by kernel_rfl
theorem laidOut : laidOutB Tryd.prog = true := by kernel_rfl
theorem opens78 : Opens Tryd.prog k78 78 (fun x => (x.f0.size ≤ maxLen ∧ (Lit.int .i64 x.f1).wf = true ∧ (Lit.int .i64 x.f2).wf = true)) := Opens.iso (fun x : S78 => (x.f0, x.f1, x.f2)) (fun p => (⟨p.1, p.2.1, p.2.2⟩ : S78)) (fun _ => rfl) (Opens.struct Tryd.underlying78 (by kernel_rfl) (OpensF.cons (Opens.string Tryd.underlying9) rfl (by kernel_rfl) (OpensF.cons (Opens.int Tryd.underlying3) rfl (by kernel_rfl) (OpensF.last (Opens.int Tryd.underlying3) rfl (by kernel_rfl)))))
theorem opens119 : Opens Tryd.prog k119 119 (fun x => ((Lit.int .i64 x.f0).wf = true ∧ (Lit.int .i64 x.f1).wf = true ∧ (Lit.int .i64 x.f2).wf = true)) := Opens.iso (fun x : S119 => (x.f0, x.f1, x.f2)) (fun p => (⟨p.1, p.2.1, p.2.2⟩ : S119)) (fun _ => rfl) (Opens.struct Tryd.underlying119 (by kernel_rfl) (OpensF.cons (Opens.int Tryd.underlying3) rfl (by kernel_rfl) (OpensF.cons (Opens.int Tryd.underlying3) rfl (by kernel_rfl) (OpensF.last (Opens.int Tryd.underlying3) rfl (by kernel_rfl)))))
/-- A heap in which the listed variables are laid meets the condition on them. -/
theorem door_met (os : Os) (args : Array Value) : laidMetH Tryd.prog Rows.fnExactWorldTextRow.laid ((World.laidAll Tryd.prog os Rows.fnExactWorldTextRow.laid).forCall (fun _ _ => 0) ⟨#[], args, []⟩).memory := by
  rw [MakeChecks.laidMetH_plain _ _ _ (by kernel_rfl)]
  exact laidMet_laidAll _ (by kernel_rfl) (by kernel_rfl)
theorem gTab : Tryd.prog.globalNamed "internal/strconv.uint64pow10" = some 1 := by kernel_rfl
theorem tTab : (Tryd.prog.globals[1]?).map (·.type) = some 133 := by kernel_rfl
theorem tab_of_laid {W : World} (h : laidMetH Tryd.prog Rows.fnExactWorldTextRow.laid W) : Tab W := by
  rw [MakeChecks.laidMetH_plain _ _ _ (by kernel_rfl)] at h
  exact Lib.tabIs_of_head gTab tTab Tryd.underlying133 Tryd.underlying124 (by kernel_rfl) (by kernel_rfl) (laidMet.tail (laidMet.tail h))
set_option maxRecDepth 100000 in
theorem lifted (os : Os) (started : os.Started) (H : Type) (enc : TypeId × Value → H) :
    ReturnsInHanded {} Tryd.checked os 3 .any (fun w args => (Rows.fnExactWorldTextSpec.pre enc Tryd.prog Tryd.f3 [] false w args ∧ laidMetH Tryd.prog Rows.fnExactWorldTextRow.laid w) ∧ sizedMet enc Tryd.prog Tryd.f3 (OpenSpec.ofChange Rows.fnExactWorldTextSpec) false w args) (Rows.fnExactWorldTextSpec.post enc Tryd.prog Tryd.f3 false true false false) := by
  refine returnsInHanded_of_change_and (C := Tryd.checked) (X := fun w _ => laidMetH Tryd.prog Rows.fnExactWorldTextRow.laid w) (fun _ _ _ hh h => h.of_heap hh) own started (by kernel_rfl) Tryd.func3
    (ChangeSpec.witness_shaped (enc := enc) (C := Tryd.checked) (os := os) (X := fun w _ => laidMetH Tryd.prog Rows.fnExactWorldTextRow.laid w) false (World.laidAll Tryd.prog os Rows.fnExactWorldTextRow.laid) #[.agg #[.int .i64 0, .int .i64 0, .int .i64 0, .slice none 0 0, .slice none 0 0, .int .i64 0, .int .i64 0, .slice none 0 0, .int .i64 0, .int .i64 0, .int .i64 0, .int .i64 0, .slice none 0 0, .int .i64 0, .int .i64 0, .int .i64 0]] 8 (World.laidAll_os _ _ _) (World.shaped_of_ZipB (by kernel_rfl) (by kernel_rfl)) (by kernel_rfl) (by kernel_rfl) (by kernel_rfl) (door_met os _)) ?_
  intro W base args ds gs before hval0 hW hcnd hsz0 hL _
  have htab := tab_of_laid hL
  have hval : ∀ (j : Nat) t v, Tryd.f3.params[j]? = some t → args[j]? = some v → Value.okWide Tryd.prog W .any base t v := hval0
  have hW' := hW
  obtain ⟨p, q, hA0, hV, rfl, hfz, hnd⟩ := hW
  have hA : DataW.TrodAll enc Tryd.prog W 0 (fun _ => true) true Tryd.f3.params.toList args.toList ds p := hA0
  rw [Tryd.params3] at hA hval
  obtain ⟨v0, vs0, d0, ds0, p0, q0, hargs, rfl, rfl, h0, r0⟩ := trodAll_cons hA
  obtain ⟨rfl, rfl, rfl⟩ := trodAll_nil r0
  obtain rfl : args = #[v0] := by cases args; simp_all
  obtain ⟨rfl, rfl⟩ := trodVars_none hV
  obtain ⟨cs0, rfl, _⟩ := okWide_struct Tryd.underlying34 (hval 0 34 v0 rfl rfl)
  have k0_ := h0
  have lt0 : ∀ x ∈ p0, x.block < W.heap.size := by obtain ⟨m, hm⟩ := k0_; exact DataW.trod_lt m _ _ _ hm
  obtain ⟨x0, hK0, g0⟩ := Opens.agg (d := (Kd.pair (Kd.pair (Kd.pair (Kd.int .i64) (Kd.pair (Kd.int .i64) (Kd.int .i64))) (Kd.pair (Kd.slice 78 k78) (Kd.pair (Kd.pair (Kd.slice 119 k119) (Kd.pair (Kd.int .i64) (Kd.int .i64))) (Kd.pair (Kd.pair (Kd.slice 119 k119) (Kd.pair (Kd.int .i64) (Kd.int .i64))) (Kd.pair (Kd.int .i64) (Kd.int .i64)))))) (Kd.pair (Kd.slice 3 (Kd.int .i64)) (Kd.pair (Kd.int .i64) (Kd.pair (Kd.int .i64) (Kd.int .i64)))))) (Opens.struct Tryd.underlying34 (by kernel_rfl) (OpensF.cons (Opens.struct Tryd.underlying31 (by kernel_rfl) (OpensF.cons (Opens.struct Tryd.underlying23 (by kernel_rfl) (OpensF.cons (Opens.int Tryd.underlying3) rfl (by kernel_rfl) (OpensF.cons (Opens.int Tryd.underlying3) rfl (by kernel_rfl) (OpensF.last (Opens.int Tryd.underlying3) rfl (by kernel_rfl))))) rfl (by kernel_rfl) (OpensF.cons (@Opens.slice Tryd.prog _ ⟨z78⟩ _ 24 78 _ Tryd.underlying24 (by kernel_rfl) opens78) rfl (by kernel_rfl) (OpensF.last (Opens.struct Tryd.underlying29 (by kernel_rfl) (OpensF.cons (Opens.struct Tryd.underlying27 (by kernel_rfl) (OpensF.cons (@Opens.slice Tryd.prog _ ⟨z119⟩ _ 25 119 _ Tryd.underlying25 (by kernel_rfl) opens119) rfl (by kernel_rfl) (OpensF.cons (Opens.int Tryd.underlying3) rfl (by kernel_rfl) (OpensF.last (Opens.int Tryd.underlying3) rfl (by kernel_rfl))))) rfl (by kernel_rfl) (OpensF.cons (Opens.struct Tryd.underlying27 (by kernel_rfl) (OpensF.cons (@Opens.slice Tryd.prog _ ⟨z119⟩ _ 25 119 _ Tryd.underlying25 (by kernel_rfl) opens119) rfl (by kernel_rfl) (OpensF.cons (Opens.int Tryd.underlying3) rfl (by kernel_rfl) (OpensF.last (Opens.int Tryd.underlying3) rfl (by kernel_rfl))))) rfl (by kernel_rfl) (OpensF.cons (Opens.int Tryd.underlying3) rfl (by kernel_rfl) (OpensF.last (Opens.int Tryd.underlying3) rfl (by kernel_rfl)))))) rfl (by kernel_rfl))))) rfl (by kernel_rfl) (OpensF.cons (@Opens.slice Tryd.prog _ ⟨(0 : Int)⟩ _ 32 3 _ Tryd.underlying32 (by kernel_rfl) (Opens.int Tryd.underlying3)) rfl (by kernel_rfl) (OpensF.cons (Opens.int Tryd.underlying3) rfl (by kernel_rfl) (OpensF.cons (Opens.int Tryd.underlying3) rfl (by kernel_rfl) (OpensF.last (Opens.int Tryd.underlying3) rfl (by kernel_rfl))))))) h0
  obtain ⟨csl0, hcs0⟩ : ∃ l, l = cs0.toList := ⟨_, rfl⟩
  rw [← hcs0] at hK0
  obtain ⟨_, _, rfl, ⟨_, _, rfl, ⟨_, _, rfl, rfl, ⟨_, _, rfl, rfl, rfl⟩⟩, ⟨_, _, rfl, ⟨A0_1, c0_1, rfl, hc0_1, hr0_1⟩, ⟨_, _, rfl, ⟨_, _, rfl, ⟨A0_2, c0_2, rfl, hc0_2, hr0_2⟩, ⟨_, _, rfl, rfl, rfl⟩⟩, ⟨_, _, rfl, ⟨_, _, rfl, ⟨A0_3, c0_3, rfl, hc0_3, hr0_3⟩, ⟨_, _, rfl, rfl, rfl⟩⟩, ⟨_, _, rfl, rfl, rfl⟩⟩⟩⟩⟩, ⟨_, _, rfl, ⟨A0_4, c0_4, rfl, hc0_4, hr0_4⟩, ⟨_, _, rfl, rfl, ⟨_, _, rfl, rfl, rfl⟩⟩⟩⟩ := hK0
  obtain rfl : cs0 = #[.int .i64 x0.1.1.1, .int .i64 x0.1.1.2.1, .int .i64 x0.1.1.2.2, .slice A0_1 x0.1.2.1.length c0_1, .slice A0_2 x0.1.2.2.1.1.length c0_2, .int .i64 x0.1.2.2.1.2.1, .int .i64 x0.1.2.2.1.2.2, .slice A0_3 x0.1.2.2.2.1.1.length c0_3, .int .i64 x0.1.2.2.2.1.2.1, .int .i64 x0.1.2.2.2.1.2.2, .int .i64 x0.1.2.2.2.2.1, .int .i64 x0.1.2.2.2.2.2, .slice A0_4 x0.2.1.length c0_4, .int .i64 x0.2.2.1, .int .i64 x0.2.2.2.1, .int .i64 x0.2.2.2.2] := by apply Array.toList_inj.1; rw [← hcs0]; rfl
  clear hcs0
  clear hA0 hval0 hsz0
  obtain ⟨k, hk⟩ := (plainWorldText x0.1.1.1 x0.1.1.2.1 x0.1.1.2.2 x0.1.2.1 x0.1.2.2.1.1 x0.1.2.2.1.2.1 x0.1.2.2.1.2.2 x0.1.2.2.2.1.1 x0.1.2.2.2.1.2.1 x0.1.2.2.2.1.2.2 x0.1.2.2.2.2.1 x0.1.2.2.2.2.2 x0.2.1 x0.2.2.1 x0.2.2.2.1 x0.2.2.2.2 ⟨g0.1.2.1.1, fun x hx => (g0.1.2.1.2 x hx).1⟩ g0.1.2.2.1.1.1 g0.1.2.2.2.1.1.1 g0.2.1.1).rounds
  refine (laws_FnExactWorldText.calls k x0.1.1.1 x0.1.1.2.1 x0.1.1.2.2 A0_1 c0_1 x0.1.2.1 A0_2 c0_2 x0.1.2.2.1.1 x0.1.2.2.1.2.1 x0.1.2.2.1.2.2 A0_3 c0_3 x0.1.2.2.2.1.1 x0.1.2.2.2.1.2.1 x0.1.2.2.2.1.2.2 x0.1.2.2.2.2.1 x0.1.2.2.2.2.2 A0_4 c0_4 x0.2.1 x0.2.2.1 x0.2.2.2.1 x0.2.2.2.2 true W hr0_1 hc0_1 hr0_2 hc0_2 hr0_3 hc0_3 hr0_4 hc0_4 hk (tab_ := htab)).mono fun e W' ⟨he, bel0⟩ => ?_
  subst he
  have bel : Below W.heap.size W W' := bel0
  exact ⟨_, rfl, _, _, _, [], _, [], hW', trodAll_mk1 (shut_bool Tryd.underlying4 _), (trodAll_cons_mk (Below.trod laidOut (by kernel_rfl) (of_decide_eq_true (by kernel_rfl)) k0_ bel lt0) trodAll_mk0), rfl, bel.frame _, fun h => by cases h⟩
theorem over : Rows.fnExactWorldTextRow.holds Tryd.pinned (OpenSpec.ofChange Rows.fnExactWorldTextSpec) :=
  OpenClaim.holds_of_wide 3 Tryd.f3 rfl rfl rfl rfl rfl rfl rfl ⟨rfl, rfl, rfl, rfl, rfl⟩ rfl rfl rfl rfl rfl (by kernel_rfl) Tryd.func3 (by kernel_rfl)
    (of_decide_eq_true (by kernel_rfl)) (by unfold Func.isWrapper; first | (rw [if_pos (by decide +kernel)]; kernel_rfl) | (rw [if_neg (by decide +kernel)]; exact ⟨rfl, rfl⟩))
    (fun os started H enc _ => lifted os started H enc)
theorem proved : Rows.FnExactWorldTextCardSaid :=
  Claim7.holds_tied_plain_at .later [] [.data, .data, .data, .data, .pinned] true (true, "2354f304a1453f8fa9bfebe495fe2beca2deadfb3c9532f34a64a7a280438313") false
    over (fun _ h => by cases h) (by kernel_rfl) (fun _ h => by cases h) fnExactWorldText_row_tie rfl ⟨rfl, rfl⟩ (by kernel_rfl) rfl
    (fun f fn hf hfn => by
      obtain rfl : f = 3 := Option.some.inj ((show Tryd.prog.funcNamed "loop.example/g00808/laws.FnExactWorldText" = some 3 by kernel_rfl).symm.trans hf) |>.symm
      obtain rfl : fn = Tryd.f3 := (Option.some.inj (Tryd.func3.symm.trans hfn)).symm
      exact ⟨by kernel_rfl, fun j t ht => by
        rw [Tryd.params3] at ht
        have hm : t ∈ [34] := by simpa using Array.mem_of_getElem? ht
        have hall : ([34].all fun u => !Tryd.prog.wantsStandIn u) = true := by kernel_rfl
        exact (show Tryd.prog.wantsStandIn t = false by simpa using List.all_eq_true.1 hall t hm)⟩)
    (by kernel_rfl)
end Go.Proofs.YtapckgibbhijeaaDoor.fnExactWorldText
namespace Go.Proofs.YtapckgibbhijeaaDoor
/-- The row, under a short name, for the claim. -/
theorem fnExactWorldText_holds : Rows.FnExactWorldTextCardSaid := fnExactWorldText.proved
#print axioms fnExactWorldText_holds
end Go.Proofs.YtapckgibbhijeaaDoor
