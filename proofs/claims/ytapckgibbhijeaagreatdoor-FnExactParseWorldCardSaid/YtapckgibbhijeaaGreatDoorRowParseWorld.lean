/- The row of FnExactParseWorld: called with any arguments that can be read as data, in whatever memory, it answers true and leaves its arguments as they were. The library's tables that its code reads hold what the program's text lays in them. No further condition. -/
import Derived.Test.YtapckgibbhijeaaGreatDoorRows
import Derived.Test.YtapckgibbhijeaaGreatDoorCards
import Derived.Test.YtapckgibbhijeaaGreatDoorTie
import Derived.LaidMore
import Derived.Shelf.Vars
import Derived.Lay
import Derived.Stop.Joined
import Derived.Stop.LaidErr
import Derived.SevenTiedAt
import Derived.Lib.LaidTab
import Derived.Test.YtapckgibbhijeaaGreatDoorOpen
import Derived.Test.YtapckgibbhijeaaGreatDoorPAx7
import Derived.Test.YtapckgibbhijeaaGreatDoorWorldMarks
import Derived.WalkKit
import Derived.ProofKit
import Derived.OpenShut
import Derived.ShutString
import Derived.ChangeOld
import Derived.Below
import Derived.SizedLaws
namespace Go.Proofs.YtapckgibbhijeaaGreatDoor.fnExactParseWorld
open Go.ChangeShapes Go.WideShapes Go.ChangeAt Go.RowKit Go.Proofs.YtapckgibbhijeaaGreatDoor.Opening Go.Proofs.YtapckgibbhijeaaGreatDoor.PA Go.Proofs.YtapckgibbhijeaaGreatDoorW.PrintWords
open Go.ChangeMaps (open_string shut_string)
set_option linter.unusedVariables false
theorem own : ownKnob Tryz.prog.godebug = none := by kernel_rfl
/-- The wrap for a row with listed variables that hands on the world's shape. -/
theorem wrap {H : Type} {enc : TypeId × Value → H} {a : Assume} {C : Checked} {os : Os} {f : FuncId} {fn : Func} {s : ChangeSpec} {conds : List PathCond} {apart fresh handsOn again : Bool} {laid : List (String × DataW Unit)}
    (own : ownKnob C.prog.godebug = none) (started : os.Started) (noInit : C.prog.inits.idxOf? f = none) (hfn : C.prog.funcs[f]? = some fn)
    (witness : ∃ (w : World) (tape : Tape) (i : Input), w.os = os ∧ (w.forCall tape i).Shaped C.prog ∧ i.vars = [] ∧ Input.okWide C.prog (w.forCall tape i) .any w.heap.size f i ∧
      ((s.pre enc C.prog fn conds apart (w.forCall tape i).memory i.args ∧ laidMetH C.prog laid (w.forCall tape i).memory) ∧ sizedMet enc C.prog fn (OpenSpec.ofChange s) apart (w.forCall tape i).memory i.args) ∧ a.holds C.prog (lone (Frame.enter C.prog f i.args .normal) [] (w.forCall tape i)))
    (told : ∀ (W : World) (base : Nat) (args : Array Value) (ds gs : List (DataW H)) (before : List MemPlace),
      (∀ (j : Nat) t v, fn.params[j]? = some t → args[j]? = some v → Value.okWide C.prog W .any base t v) → DataW.Whole enc C.prog fn.params.toList s.vars apart W args.toList ds gs before →
      laidMetH C.prog laid W → W.ShapedOpen C.prog → Calls C.prog f args W fun e W' => ∃ v, e = .returned v ∧ s.post enc C.prog fn apart fresh handsOn again W args v W') :
    ReturnsInHanded a C os f .any (fun w args => (s.pre enc C.prog fn conds apart w args ∧ laidMetH C.prog laid w) ∧ sizedMet enc C.prog fn (OpenSpec.ofChange s) apart w args) (s.post enc C.prog fn apart fresh handsOn again) := by
  refine returnsInHanded_of_calls own started noInit witness ?_
  intro w tape i _ hsh _ hok hpre _
  obtain ⟨_, _, _, fn', hfn', _, _, _, _, hval⟩ := hok
  obtain rfl : fn' = fn := Option.some.inj (hfn'.symm.trans hfn)
  obtain ⟨⟨⟨ds, gs, before, hw, _⟩, hl⟩, _⟩ := hpre
  refine (told (w.forCall tape i) w.heap.size i.args ds gs before hval (DataW.Whole.of_heap (w' := w.forCall tape i) (by rfl) hw) (hl.of_heap (by rfl)) hsh).mono fun e W' ⟨v, he, hp⟩ => ?_
  subst he
  exact ChangeSpec.post_blind hp
theorem laidOut : laidOutB Tryz.prog = true := by kernel_rfl
theorem opens78 : Opens Tryz.prog k78 78 (fun x => (x.f0.size ≤ maxLen ∧ (Lit.int .i64 x.f1).wf = true ∧ (Lit.int .i64 x.f2).wf = true)) := Opens.iso (fun x : S78 => (x.f0, x.f1, x.f2)) (fun p => (⟨p.1, p.2.1, p.2.2⟩ : S78)) (fun _ => rfl) (Opens.struct Tryz.underlying78 (by kernel_rfl) (OpensF.cons (Opens.string Tryz.underlying9) rfl (by kernel_rfl) (OpensF.cons (Opens.int Tryz.underlying3) rfl (by kernel_rfl) (OpensF.last (Opens.int Tryz.underlying3) rfl (by kernel_rfl)))))
theorem opens119 : Opens Tryz.prog k119 119 (fun x => ((Lit.int .i64 x.f0).wf = true ∧ (Lit.int .i64 x.f1).wf = true ∧ (Lit.int .i64 x.f2).wf = true)) := Opens.iso (fun x : S119 => (x.f0, x.f1, x.f2)) (fun p => (⟨p.1, p.2.1, p.2.2⟩ : S119)) (fun _ => rfl) (Opens.struct Tryz.underlying119 (by kernel_rfl) (OpensF.cons (Opens.int Tryz.underlying3) rfl (by kernel_rfl) (OpensF.cons (Opens.int Tryz.underlying3) rfl (by kernel_rfl) (OpensF.last (Opens.int Tryz.underlying3) rfl (by kernel_rfl)))))
/-- A heap in which the listed variables are laid meets the condition on them. -/
theorem door_met (os : Os) (args : Array Value) : laidMetH Tryz.prog Rows.fnExactParseWorldRow.laid ((World.laidAll Tryz.prog os Rows.fnExactParseWorldRow.laid).forCall (fun _ _ => 0) ⟨#[], args, []⟩).memory := by
  rw [MakeChecks.laidMetH_plain _ _ _ (by kernel_rfl)]
  exact laidMet_laidAll _ (by kernel_rfl) (by kernel_rfl)
theorem gTab : Tryz.prog.globalNamed "internal/strconv.uint64pow10" = some 5 := by kernel_rfl
theorem tTab : (Tryz.prog.globals[5]?).map (·.type) = some 177 := by kernel_rfl
theorem errRow (u : TypeId) (h : Tryz.prog.typeName? 3 u = some "*errors.errorString") : u = 164 :=
  typeName_ptr_named (nm := "errors.errorString") (by rw [show "*" ++ "errors.errorString" = "*errors.errorString" by decide]; kernel_rfl) (by kernel_rfl) (by decide) u (by rw [show "*" ++ "errors.errorString" = "*errors.errorString" by decide]; exact h)
theorem gSyn : Tryz.prog.globalNamed "strconv.ErrSyntax" = some 1 := by kernel_rfl
theorem gRng : Tryz.prog.globalNamed "strconv.ErrRange" = some 2 := by kernel_rfl
theorem tab_of_laid {W : World} (h : laidMetH Tryz.prog Rows.fnExactParseWorldRow.laid W) (hsh : W.ShapedOpen Tryz.prog) : Tab W := by
  rw [MakeChecks.laidMetH_plain _ _ _ (by kernel_rfl)] at h
  obtain ⟨ar, _, hr, _, _, _⟩ := laid_sentinel h.tail.tail.tail.tail gRng (by kernel_rfl) Tryz.underlying89 errRow Tryz.underlying164 Tryz.underlying166 rfl rfl Tryz.underlying9 (by kernel_rfl) (by kernel_rfl)
  obtain ⟨aS, _, hs, _, _, _⟩ := laid_sentinel h.tail.tail.tail.tail.tail gSyn (by kernel_rfl) Tryz.underlying89 errRow Tryz.underlying164 Tryz.underlying166 rfl rfl Tryz.underlying9 (by kernel_rfl) (by kernel_rfl)
  refine ⟨Lib.tabIs_of_head gTab tTab Tryz.underlying177 Tryz.underlying145 (by kernel_rfl) (by kernel_rfl) (laidMet.tail (laidMet.tail h)), ?_, ?_, ?_⟩
  · exact cell_of_shapedOpen_int (P := Tryz.prog) (g := 0) (t := 3) (zero := #[.int .i64 0]) hsh (of_decide_eq_true (by kernel_rfl)) (by kernel_rfl) rfl (by kernel_rfl) (by kernel_rfl) Tryz.underlying3
  · exact ⟨_, by simpa using World.var?_cell gSyn hs 0, .inr ⟨_, _, rfl⟩⟩
  · exact ⟨_, by simpa using World.var?_cell gRng hr 0, .inr ⟨_, _, rfl⟩⟩
set_option maxRecDepth 100000 in
theorem lifted (os : Os) (started : os.Started) (H : Type) (enc : TypeId × Value → H) :
    ReturnsInHanded {} Tryz.checked os 3 .any (fun w args => (Rows.fnExactParseWorldSpec.pre enc Tryz.prog Tryz.f3 [] false w args ∧ laidMetH Tryz.prog Rows.fnExactParseWorldRow.laid w) ∧ sizedMet enc Tryz.prog Tryz.f3 (OpenSpec.ofChange Rows.fnExactParseWorldSpec) false w args) (Rows.fnExactParseWorldSpec.post enc Tryz.prog Tryz.f3 false true false false) := by
  refine wrap (C := Tryz.checked) own started (by kernel_rfl) Tryz.func3
    (ChangeSpec.witness_shaped (enc := enc) (C := Tryz.checked) (os := os) (X := fun w _ => laidMetH Tryz.prog Rows.fnExactParseWorldRow.laid w) false (World.laidAll Tryz.prog os Rows.fnExactParseWorldRow.laid) #[.string ByteArray.empty, .agg #[.int .i64 0, .int .i64 0, .int .i64 0, .slice none 0 0, .slice none 0 0, .int .i64 0, .int .i64 0, .slice none 0 0, .int .i64 0, .int .i64 0, .int .i64 0, .int .i64 0]] 8 (World.laidAll_os _ _ _) (World.shaped_of_ZipB (by kernel_rfl) (by kernel_rfl)) (by kernel_rfl) (by kernel_rfl) (by kernel_rfl) (door_met os _)) ?_
  intro W base args ds gs before hval0 hW hL hsh
  have htab := tab_of_laid hL hsh
  have hval : ∀ (j : Nat) t v, Tryz.f3.params[j]? = some t → args[j]? = some v → Value.okWide Tryz.prog W .any base t v := hval0
  have hW' := hW
  obtain ⟨p, q, hA0, hV, rfl, hfz, hnd⟩ := hW
  have hA : DataW.TrodAll enc Tryz.prog W 0 (fun _ => true) true Tryz.f3.params.toList args.toList ds p := hA0
  rw [Tryz.params3] at hA hval
  obtain ⟨v0, vs0, d0, ds0, p0, q0, hargs, rfl, rfl, h0, r0⟩ := trodAll_cons hA
  obtain ⟨v1, vs1, d1, ds1, p1, q1, rfl, rfl, rfl, h1, r1⟩ := trodAll_cons r0
  obtain ⟨rfl, rfl, rfl⟩ := trodAll_nil r1
  obtain rfl : args = #[v0, v1] := by cases args; simp_all
  obtain ⟨rfl, rfl⟩ := trodVars_none hV
  obtain ⟨a0, rfl, rfl, rfl, w0⟩ := open_string Tryz.underlying9 (hval 0 9 v0 rfl rfl) h0
  obtain ⟨cs1, rfl, _⟩ := okWide_struct Tryz.underlying31 (hval 1 31 v1 rfl rfl)
  have k1_ := h1
  have lt1 : ∀ x ∈ p1, x.block < W.heap.size := by obtain ⟨m, hm⟩ := k1_; exact DataW.trod_lt m _ _ _ hm
  obtain ⟨x1, hK1, g1⟩ := Opens.agg (d := (Kd.pair (Kd.pair (Kd.int .i64) (Kd.pair (Kd.int .i64) (Kd.int .i64))) (Kd.pair (Kd.slice 78 k78) (Kd.pair (Kd.pair (Kd.slice 119 k119) (Kd.pair (Kd.int .i64) (Kd.int .i64))) (Kd.pair (Kd.pair (Kd.slice 119 k119) (Kd.pair (Kd.int .i64) (Kd.int .i64))) (Kd.pair (Kd.int .i64) (Kd.int .i64))))))) (Opens.struct Tryz.underlying31 (by kernel_rfl) (OpensF.cons (Opens.struct Tryz.underlying23 (by kernel_rfl) (OpensF.cons (Opens.int Tryz.underlying3) rfl (by kernel_rfl) (OpensF.cons (Opens.int Tryz.underlying3) rfl (by kernel_rfl) (OpensF.last (Opens.int Tryz.underlying3) rfl (by kernel_rfl))))) rfl (by kernel_rfl) (OpensF.cons (@Opens.slice Tryz.prog _ ⟨z78⟩ _ 24 78 _ Tryz.underlying24 (by kernel_rfl) opens78) rfl (by kernel_rfl) (OpensF.last (Opens.struct Tryz.underlying29 (by kernel_rfl) (OpensF.cons (Opens.struct Tryz.underlying27 (by kernel_rfl) (OpensF.cons (@Opens.slice Tryz.prog _ ⟨z119⟩ _ 25 119 _ Tryz.underlying25 (by kernel_rfl) opens119) rfl (by kernel_rfl) (OpensF.cons (Opens.int Tryz.underlying3) rfl (by kernel_rfl) (OpensF.last (Opens.int Tryz.underlying3) rfl (by kernel_rfl))))) rfl (by kernel_rfl) (OpensF.cons (Opens.struct Tryz.underlying27 (by kernel_rfl) (OpensF.cons (@Opens.slice Tryz.prog _ ⟨z119⟩ _ 25 119 _ Tryz.underlying25 (by kernel_rfl) opens119) rfl (by kernel_rfl) (OpensF.cons (Opens.int Tryz.underlying3) rfl (by kernel_rfl) (OpensF.last (Opens.int Tryz.underlying3) rfl (by kernel_rfl))))) rfl (by kernel_rfl) (OpensF.cons (Opens.int Tryz.underlying3) rfl (by kernel_rfl) (OpensF.last (Opens.int Tryz.underlying3) rfl (by kernel_rfl)))))) rfl (by kernel_rfl))))) h1
  obtain ⟨csl1, hcs1⟩ : ∃ l, l = cs1.toList := ⟨_, rfl⟩
  rw [← hcs1] at hK1
  obtain ⟨_, _, rfl, ⟨_, _, rfl, rfl, ⟨_, _, rfl, rfl, rfl⟩⟩, ⟨_, _, rfl, ⟨A1_1, c1_1, rfl, hc1_1, hr1_1⟩, ⟨_, _, rfl, ⟨_, _, rfl, ⟨A1_2, c1_2, rfl, hc1_2, hr1_2⟩, ⟨_, _, rfl, rfl, rfl⟩⟩, ⟨_, _, rfl, ⟨_, _, rfl, ⟨A1_3, c1_3, rfl, hc1_3, hr1_3⟩, ⟨_, _, rfl, rfl, rfl⟩⟩, ⟨_, _, rfl, rfl, rfl⟩⟩⟩⟩⟩ := hK1
  obtain rfl : cs1 = #[.int .i64 x1.1.1, .int .i64 x1.1.2.1, .int .i64 x1.1.2.2, .slice A1_1 x1.2.1.length c1_1, .slice A1_2 x1.2.2.1.1.length c1_2, .int .i64 x1.2.2.1.2.1, .int .i64 x1.2.2.1.2.2, .slice A1_3 x1.2.2.2.1.1.length c1_3, .int .i64 x1.2.2.2.1.2.1, .int .i64 x1.2.2.2.1.2.2, .int .i64 x1.2.2.2.2.1, .int .i64 x1.2.2.2.2.2] := by apply Array.toList_inj.1; rw [← hcs1]; rfl
  clear hcs1
  clear hA0 hval0
  obtain ⟨k, hk⟩ := (plainParseWorld a0 x1.1.1 x1.1.2.1 x1.1.2.2 x1.2.1 x1.2.2.1.1 x1.2.2.1.2.1 x1.2.2.1.2.2 x1.2.2.2.1.1 x1.2.2.2.1.2.1 x1.2.2.2.1.2.2 x1.2.2.2.2.1 x1.2.2.2.2.2 ⟨g1.2.1.1, fun x hx => (g1.2.1.2 x hx).1⟩ g1.2.2.1.1.1 g1.2.2.2.1.1.1).rounds
  refine (laws_FnExactParseWorld.calls k a0 x1.1.1 x1.1.2.1 x1.1.2.2 A1_1 c1_1 x1.2.1 A1_2 c1_2 x1.2.2.1.1 x1.2.2.1.2.1 x1.2.2.1.2.2 A1_3 c1_3 x1.2.2.2.1.1 x1.2.2.2.1.2.1 x1.2.2.2.1.2.2 x1.2.2.2.2.1 x1.2.2.2.2.2 true W hr1_1 hc1_1 hr1_2 hc1_2 hr1_3 hc1_3 hk (tab_ := htab)).mono fun e W' ⟨he, bel0⟩ => ?_
  subst he
  have bel : Below W.heap.size W W' := bel0
  exact ⟨_, rfl, _, _, _, [], _, [], hW', trodAll_mk1 (shut_bool Tryz.underlying4 _), (trodAll_cons_mk (shut_string Tryz.underlying9 w0) (trodAll_cons_mk (Below.trod laidOut (by kernel_rfl) (of_decide_eq_true (by kernel_rfl)) k1_ bel lt1) trodAll_mk0)), rfl, bel.frame _, fun h => by cases h⟩
theorem over : Rows.fnExactParseWorldRow.holds Tryz.pinned (OpenSpec.ofChange Rows.fnExactParseWorldSpec) :=
  OpenClaim.holds_of_wide 3 Tryz.f3 rfl rfl rfl rfl rfl rfl rfl ⟨rfl, rfl, rfl, rfl, rfl⟩ rfl rfl rfl rfl rfl (by kernel_rfl) Tryz.func3 (by kernel_rfl)
    (of_decide_eq_true (by kernel_rfl)) (by unfold Func.isWrapper; first | (rw [if_pos (by decide +kernel)]; kernel_rfl) | (rw [if_neg (by decide +kernel)]; exact ⟨rfl, rfl⟩))
    (fun os started H enc _ => lifted os started H enc)
theorem proved : Rows.FnExactParseWorldCardSaid :=
  Claim7.holds_tied_plain_at .later [] [.data, .data, .data, .data, .sentinel, .sentinel, .pinned] true (true, "dda0404451b4c4065841689958666e89fd30b9fce50b9cf5dd096fc10006a240") true
    over (fun _ h => by cases h) (by kernel_rfl) (fun _ h => by cases h) fnExactParseWorld_row_tie rfl ⟨rfl, rfl⟩ (by kernel_rfl) rfl
    (fun f fn hf hfn => by
      obtain rfl : f = 3 := Option.some.inj ((show Tryz.prog.funcNamed "loop.example/g00808/laws.FnExactParseWorld" = some 3 by kernel_rfl).symm.trans hf) |>.symm
      obtain rfl : fn = Tryz.f3 := (Option.some.inj (Tryz.func3.symm.trans hfn)).symm
      exact ⟨by kernel_rfl, fun j t ht => by
        rw [Tryz.params3] at ht
        have hm : t ∈ [9, 31] := by simpa using Array.mem_of_getElem? ht
        have hall : ([9, 31].all fun u => !Tryz.prog.wantsStandIn u) = true := by kernel_rfl
        exact (show Tryz.prog.wantsStandIn t = false by simpa using List.all_eq_true.1 hall t hm)⟩)
    (by kernel_rfl)
end Go.Proofs.YtapckgibbhijeaaGreatDoor.fnExactParseWorld
namespace Go.Proofs.YtapckgibbhijeaaGreatDoor
/-- The row, under a short name, for the claim. -/
theorem fnExactParseWorld_holds : Rows.FnExactParseWorldCardSaid := fnExactParseWorld.proved
#print axioms fnExactParseWorld_holds
end Go.Proofs.YtapckgibbhijeaaGreatDoor
