/-
  No cell of these rows narrows 'for every input' (looked for: loops, veiled, ifaces, maps, wideKeys, modest, calm, conditions, laid).
  DERIVED. THE GIVEN ROWS OF THIS SEAT. 5 by the template 'for every input the law returns true; each argument reads behind the call as it read before'; 0 by the template 'total and deterministic' (their statements: YtecjingcnaopdaaTotals.lean).
  GIVEN WITH THE SEED: the statements are not yours to turn. If you find one false, say at which input.
  Laid BY PROGRAM, IN A SANDBOX (cutbox-rows.mjs): the forced cells as the released guide's own fill.sh prints them over the translation 0f61a8d1276bf6c7… (all of the seat's roots in one cut). By AI agents, Wed Nov 11 2026. No macro, syntax, notation, axiom, sorry.
-/
import Derived.Test.YtecjingcnaopdaaChecked
import GoSem.Claim
import GoSem.ClaimJoined
import GoSem.ClaimMapViews
import Derived.JoinedTies
import Derived.KernelRfl
namespace Go.Proofs.Ytecjingcnaopdaa
/- THE CELL 'sum', in the pinned program and in every row, IS THE sha256 OF THE DUMP (.gsa) THAT YtecjingcnaopdaaProg.lean LOADS. Nothing in Lean hashes anything: it is a label: what it is worth is what the hold of that sum in a sandbox is worth. -/
noncomputable def Try.pinned : Pinned := { name := "ytecjingcnaopdaa", sum := "0f61a8d1276bf6c7ed8e5954c085ee8e96732d510f8425dfe64ff6b0ea520a0c", checked := Try.checked }
namespace Rows
def none {H : Type} : Left H := { results := [], args := [] }

/-- 'laws.FnExactStoreOk': WHATEVER THE INPUT: true; the input reads as it did. -/
def fnExactStoreOkSpec : ChangeSpec := { name := "fnExactStoreOk", fn := fun _ => fun
  | [d] => { results := [.lit (.bool true)], args := [d] }
  | _ => none }
def fnExactStoreOkRow : OpenClaim := { program := "ytecjingcnaopdaa", sum := "0f61a8d1276bf6c7ed8e5954c085ee8e96732d510f8425dfe64ff6b0ea520a0c", func := "loop.example/g00808/laws.FnExactStoreOk", spec := "fnExactStoreOk", apart := false }
def FnExactStoreOkSaid : Prop := fnExactStoreOkRow.holds Try.pinned (OpenSpec.ofChange fnExactStoreOkSpec)

/-- ITS FALSE NEIGHBOUR: 'it returns false'. Refute it at one input. -/
def fnExactStoreOkWrong : ChangeSpec := { name := "fnExactStoreOk", fn := fun _ => fun
  | [d] => { results := [.lit (.bool false)], args := [d] }
  | _ => none }
def FnExactStoreOkWrongFalsely : Prop := fnExactStoreOkRow.holds Try.pinned (OpenSpec.ofChange fnExactStoreOkWrong)

/-- 'laws.FnExactCountPoints': WHATEVER THE INPUT: true; the input reads as it did. -/
def fnExactCountPointsSpec : ChangeSpec := { name := "fnExactCountPoints", fn := fun _ => fun
  | [d] => { results := [.lit (.bool true)], args := [d] }
  | _ => none }
def fnExactCountPointsRow : OpenClaim := { program := "ytecjingcnaopdaa", sum := "0f61a8d1276bf6c7ed8e5954c085ee8e96732d510f8425dfe64ff6b0ea520a0c", func := "loop.example/g00808/laws.FnExactCountPoints", spec := "fnExactCountPoints", apart := false }
def FnExactCountPointsSaid : Prop := fnExactCountPointsRow.holds Try.pinned (OpenSpec.ofChange fnExactCountPointsSpec)

/-- ITS FALSE NEIGHBOUR: 'it returns false'. Refute it at one input. -/
def fnExactCountPointsWrong : ChangeSpec := { name := "fnExactCountPoints", fn := fun _ => fun
  | [d] => { results := [.lit (.bool false)], args := [d] }
  | _ => none }
def FnExactCountPointsWrongFalsely : Prop := fnExactCountPointsRow.holds Try.pinned (OpenSpec.ofChange fnExactCountPointsWrong)

/-- 'laws.FnExactLatestOf': WHATEVER THE INPUT: true; the input reads as it did. -/
def fnExactLatestOfSpec : ChangeSpec := { name := "fnExactLatestOf", fn := fun _ => fun
  | [d1, d2, d3] => { results := [.lit (.bool true)], args := [d1, d2, d3] }
  | _ => none }
def fnExactLatestOfRow : OpenClaim := { program := "ytecjingcnaopdaa", sum := "0f61a8d1276bf6c7ed8e5954c085ee8e96732d510f8425dfe64ff6b0ea520a0c", func := "loop.example/g00808/laws.FnExactLatestOf", spec := "fnExactLatestOf", apart := false }
def FnExactLatestOfSaid : Prop := fnExactLatestOfRow.holds Try.pinned (OpenSpec.ofChange fnExactLatestOfSpec)

/-- ITS FALSE NEIGHBOUR: 'it returns false'. Refute it at one input. -/
def fnExactLatestOfWrong : ChangeSpec := { name := "fnExactLatestOf", fn := fun _ => fun
  | [d1, d2, d3] => { results := [.lit (.bool false)], args := [d1, d2, d3] }
  | _ => none }
def FnExactLatestOfWrongFalsely : Prop := fnExactLatestOfRow.holds Try.pinned (OpenSpec.ofChange fnExactLatestOfWrong)

/-- 'laws.FnExactSeriesOf': WHATEVER THE INPUT: true; the input reads as it did. -/
def fnExactSeriesOfSpec : ChangeSpec := { name := "fnExactSeriesOf", fn := fun _ => fun
  | [d1, d2, d3] => { results := [.lit (.bool true)], args := [d1, d2, d3] }
  | _ => none }
def fnExactSeriesOfRow : OpenClaim := { program := "ytecjingcnaopdaa", sum := "0f61a8d1276bf6c7ed8e5954c085ee8e96732d510f8425dfe64ff6b0ea520a0c", func := "loop.example/g00808/laws.FnExactSeriesOf", spec := "fnExactSeriesOf", apart := false }
def FnExactSeriesOfSaid : Prop := fnExactSeriesOfRow.holds Try.pinned (OpenSpec.ofChange fnExactSeriesOfSpec)

/-- ITS FALSE NEIGHBOUR: 'it returns false'. Refute it at one input. -/
def fnExactSeriesOfWrong : ChangeSpec := { name := "fnExactSeriesOf", fn := fun _ => fun
  | [d1, d2, d3] => { results := [.lit (.bool false)], args := [d1, d2, d3] }
  | _ => none }
def FnExactSeriesOfWrongFalsely : Prop := fnExactSeriesOfRow.holds Try.pinned (OpenSpec.ofChange fnExactSeriesOfWrong)

/-- 'laws.FnExactClassOf': WHATEVER THE INPUT: true; the input reads as it did. -/
def fnExactClassOfSpec : ChangeSpec := { name := "fnExactClassOf", fn := fun _ => fun
  | [d1, d2, d3, d4, d5] => { results := [.lit (.bool true)], args := [d1, d2, d3, d4, d5] }
  | _ => none }
def fnExactClassOfRow : OpenClaim := { program := "ytecjingcnaopdaa", sum := "0f61a8d1276bf6c7ed8e5954c085ee8e96732d510f8425dfe64ff6b0ea520a0c", func := "loop.example/g00808/laws.FnExactClassOf", spec := "fnExactClassOf", apart := false }
def FnExactClassOfSaid : Prop := fnExactClassOfRow.holds Try.pinned (OpenSpec.ofChange fnExactClassOfSpec)

/-- ITS FALSE NEIGHBOUR: 'it returns false'. Refute it at one input. -/
def fnExactClassOfWrong : ChangeSpec := { name := "fnExactClassOf", fn := fun _ => fun
  | [d1, d2, d3, d4, d5] => { results := [.lit (.bool false)], args := [d1, d2, d3, d4, d5] }
  | _ => none }
def FnExactClassOfWrongFalsely : Prop := fnExactClassOfRow.holds Try.pinned (OpenSpec.ofChange fnExactClassOfWrong)

/- THE SECOND FORM. 'bulk': how many values and letters a reading holds, each counted each time it is reached (what is shared counts as often as it is met; a slice's spare places count too). A statement '..UptoSaid' is the law's where the arguments, and the package variables that the reading takes, are together of bulk at most 1048576: NARROWER than '..Said'. Prove '..Said' where nothing that the law and all that it calls make is longer than what came in: it says more and counts as full. Else prove '..UptoSaid'. A law counts once. -/
mutual
def uptoBulk {H : Type} : DataW H → Nat
  | .lit (.string bytes) => bytes.length + 1
  | .lit _ => 1
  | .nil => 1
  | .ptr d => uptoBulk d + 1
  | .slice elems spare => uptoBulkAll elems + uptoBulkAll spare + 1
  | .agg parts => uptoBulkAll parts + 1
  | .iface _ d => uptoBulk d + 1
  | .map entries => uptoBulkEntries entries + 1
  | .held _ => 1
def uptoBulkAll {H : Type} : List (DataW H) → Nat
  | [] => 0
  | d :: r => uptoBulk d + uptoBulkAll r
def uptoBulkEntries {H : Type} : List (Lit × DataW H) → Nat
  | [] => 0
  | x :: r => uptoBulkEntry x + uptoBulkEntries r
def uptoBulkEntry {H : Type} : Lit × DataW H → Nat
  | (.string bytes, d) => bytes.length + uptoBulk d + 1
  | (_, d) => uptoBulk d + 1
 end
def uptoSmall : (H : Type) → List (DataW H) → Bool := fun _ ds => decide (uptoBulkAll ds ≤ 1048576)
def OpenSpec.upto (s : _root_.Go.ChangeSpec) : _root_.Go.OpenSpec := { _root_.Go.OpenSpec.ofChange s with cond := some uptoSmall }

/-- 'laws.FnExactStoreOk', WHERE WHAT IT READS IS OF BULK AT MOST 1048576: true; the input reads as it did. -/
def fnExactStoreOkUptoRow : OpenClaim := { program := "ytecjingcnaopdaa", sum := "0f61a8d1276bf6c7ed8e5954c085ee8e96732d510f8425dfe64ff6b0ea520a0c", func := "loop.example/g00808/laws.FnExactStoreOk", spec := "fnExactStoreOk", apart := false, narrowed := true }
def FnExactStoreOkUptoSaid : Prop := fnExactStoreOkUptoRow.holds Try.pinned (OpenSpec.upto fnExactStoreOkSpec)

/-- 'laws.FnExactCountPoints', WHERE WHAT IT READS IS OF BULK AT MOST 1048576: true; the input reads as it did. -/
def fnExactCountPointsUptoRow : OpenClaim := { program := "ytecjingcnaopdaa", sum := "0f61a8d1276bf6c7ed8e5954c085ee8e96732d510f8425dfe64ff6b0ea520a0c", func := "loop.example/g00808/laws.FnExactCountPoints", spec := "fnExactCountPoints", apart := false, narrowed := true }
def FnExactCountPointsUptoSaid : Prop := fnExactCountPointsUptoRow.holds Try.pinned (OpenSpec.upto fnExactCountPointsSpec)

/-- 'laws.FnExactLatestOf', WHERE WHAT IT READS IS OF BULK AT MOST 1048576: true; the input reads as it did. -/
def fnExactLatestOfUptoRow : OpenClaim := { program := "ytecjingcnaopdaa", sum := "0f61a8d1276bf6c7ed8e5954c085ee8e96732d510f8425dfe64ff6b0ea520a0c", func := "loop.example/g00808/laws.FnExactLatestOf", spec := "fnExactLatestOf", apart := false, narrowed := true }
def FnExactLatestOfUptoSaid : Prop := fnExactLatestOfUptoRow.holds Try.pinned (OpenSpec.upto fnExactLatestOfSpec)

/-- 'laws.FnExactSeriesOf', WHERE WHAT IT READS IS OF BULK AT MOST 1048576: true; the input reads as it did. -/
def fnExactSeriesOfUptoRow : OpenClaim := { program := "ytecjingcnaopdaa", sum := "0f61a8d1276bf6c7ed8e5954c085ee8e96732d510f8425dfe64ff6b0ea520a0c", func := "loop.example/g00808/laws.FnExactSeriesOf", spec := "fnExactSeriesOf", apart := false, narrowed := true }
def FnExactSeriesOfUptoSaid : Prop := fnExactSeriesOfUptoRow.holds Try.pinned (OpenSpec.upto fnExactSeriesOfSpec)

/-- 'laws.FnExactClassOf', WHERE WHAT IT READS IS OF BULK AT MOST 1048576: true; the input reads as it did. -/
def fnExactClassOfUptoRow : OpenClaim := { program := "ytecjingcnaopdaa", sum := "0f61a8d1276bf6c7ed8e5954c085ee8e96732d510f8425dfe64ff6b0ea520a0c", func := "loop.example/g00808/laws.FnExactClassOf", spec := "fnExactClassOf", apart := false, narrowed := true }
def FnExactClassOfUptoSaid : Prop := fnExactClassOfUptoRow.holds Try.pinned (OpenSpec.upto fnExactClassOfSpec)

end Rows
end Go.Proofs.Ytecjingcnaopdaa
