/-
  No cell of these rows narrows 'for every input' (looked for: loops, veiled, ifaces, maps, wideKeys, modest, calm, conditions, laid).
  DERIVED. THE GIVEN ROWS OF THIS SEAT. 3 by the template 'for every input the law returns true; each argument reads behind the call as it read before'; 0 by the template 'total and deterministic' (their statements: YtapckgibbhijeaaTotals.lean).
  GIVEN WITH THE SEED: the statements are not yours to turn. If you find one false, say at which input.
  Laid BY PROGRAM, IN A SANDBOX (cutbox-rows.mjs): the forced cells as the released guide's own fill.sh prints them over the translation d948d8a9b343d545… (all of the seat's roots in one cut). By AI agents, Wed Nov 11 2026. No macro, syntax, notation, axiom, sorry.
-/
import Derived.Test.YtapckgibbhijeaaChecked
import GoSem.Claim
import GoSem.ClaimJoined
import GoSem.ClaimMapViews
import Derived.JoinedTies
import Derived.KernelRfl
namespace Go.Proofs.Ytapckgibbhijeaa
/- THE CELL 'sum', in the pinned program and in every row, IS THE sha256 OF THE DUMP (.gsa) THAT YtapckgibbhijeaaProg.lean LOADS. Nothing in Lean hashes anything: it is a label: what it is worth is what the hold of that sum in a sandbox is worth. -/
noncomputable def Try.pinned : Pinned := { name := "ytapckgibbhijeaa", sum := "d948d8a9b343d545b327b2321d179a66df0a4f01bbf8c1b94894a03850a43bbc", checked := Try.checked }
namespace Rows
def none {H : Type} : Left H := { results := [], args := [] }

/-- 'laws.FnExactWorldOk': WHATEVER THE INPUT: true; the input reads as it did. -/
def fnExactWorldOkSpec : ChangeSpec := { name := "fnExactWorldOk", fn := fun _ => fun
  | [d] => { results := [.lit (.bool true)], args := [d] }
  | _ => none }
def fnExactWorldOkRow : OpenClaim := { program := "ytapckgibbhijeaa", sum := "d948d8a9b343d545b327b2321d179a66df0a4f01bbf8c1b94894a03850a43bbc", func := "loop.example/g00808/laws.FnExactWorldOk", spec := "fnExactWorldOk", unfollowed := true, recurses := true, apart := false }
def FnExactWorldOkSaid : Prop := fnExactWorldOkRow.holds Try.pinned (OpenSpec.ofChange fnExactWorldOkSpec)

/-- ITS FALSE NEIGHBOUR: 'it returns false'. Refute it at one input. -/
def fnExactWorldOkWrong : ChangeSpec := { name := "fnExactWorldOk", fn := fun _ => fun
  | [d] => { results := [.lit (.bool false)], args := [d] }
  | _ => none }
def FnExactWorldOkWrongFalsely : Prop := fnExactWorldOkRow.holds Try.pinned (OpenSpec.ofChange fnExactWorldOkWrong)

/-- 'laws.FnExactLoadAt': WHATEVER THE INPUT: true; the input reads as it did. -/
def fnExactLoadAtSpec : ChangeSpec := { name := "fnExactLoadAt", fn := fun _ => fun
  | [d1, d2] => { results := [.lit (.bool true)], args := [d1, d2] }
  | _ => none }
def fnExactLoadAtRow : OpenClaim := { program := "ytapckgibbhijeaa", sum := "d948d8a9b343d545b327b2321d179a66df0a4f01bbf8c1b94894a03850a43bbc", func := "loop.example/g00808/laws.FnExactLoadAt", spec := "fnExactLoadAt", unfollowed := true, recurses := true, apart := false }
def FnExactLoadAtSaid : Prop := fnExactLoadAtRow.holds Try.pinned (OpenSpec.ofChange fnExactLoadAtSpec)

/-- ITS FALSE NEIGHBOUR: 'it returns false'. Refute it at one input. -/
def fnExactLoadAtWrong : ChangeSpec := { name := "fnExactLoadAt", fn := fun _ => fun
  | [d1, d2] => { results := [.lit (.bool false)], args := [d1, d2] }
  | _ => none }
def FnExactLoadAtWrongFalsely : Prop := fnExactLoadAtRow.holds Try.pinned (OpenSpec.ofChange fnExactLoadAtWrong)

/-- 'laws.FnExactIdealAt': WHATEVER THE INPUT: true; the input reads as it did. -/
def fnExactIdealAtSpec : ChangeSpec := { name := "fnExactIdealAt", fn := fun _ => fun
  | [d1, d2] => { results := [.lit (.bool true)], args := [d1, d2] }
  | _ => none }
def fnExactIdealAtRow : OpenClaim := { program := "ytapckgibbhijeaa", sum := "d948d8a9b343d545b327b2321d179a66df0a4f01bbf8c1b94894a03850a43bbc", func := "loop.example/g00808/laws.FnExactIdealAt", spec := "fnExactIdealAt", unfollowed := true, recurses := true, apart := false }
def FnExactIdealAtSaid : Prop := fnExactIdealAtRow.holds Try.pinned (OpenSpec.ofChange fnExactIdealAtSpec)

/-- ITS FALSE NEIGHBOUR: 'it returns false'. Refute it at one input. -/
def fnExactIdealAtWrong : ChangeSpec := { name := "fnExactIdealAt", fn := fun _ => fun
  | [d1, d2] => { results := [.lit (.bool false)], args := [d1, d2] }
  | _ => none }
def FnExactIdealAtWrongFalsely : Prop := fnExactIdealAtRow.holds Try.pinned (OpenSpec.ofChange fnExactIdealAtWrong)

/- THE SECOND FORM. 'bulk': how many values and letters a reading holds, each counted each time it is reached (what is shared counts as often as it is met; a slice's spare places count too). A statement '..UptoSaid' is the law's where the arguments, and the package variables that the reading takes, are together of bulk at most 1048576: NARROWER than '..Said'. Prove '..Said' where nothing that the law and all that it calls make is longer than what came in: it says more and counts as full. Else prove '..UptoSaid'. A law counts once. -/
mutual
def uptoBulk {H : Type} : DataW H → Nat
  | .lit (.string bytes) => bytes.length + 1
  | .lit _ => 1
  | .nil => 1
  | .ptr d => uptoBulk d + 1
  | .slice elems spare => uptoBulkAll elems + uptoBulkAll spare + 1
  | .agg parts => uptoBulkAll parts + 1
  | .iface _ d => uptoBulk d + 1
  | .map entries => uptoBulkEntries entries + 1
  | .held _ => 1
def uptoBulkAll {H : Type} : List (DataW H) → Nat
  | [] => 0
  | d :: r => uptoBulk d + uptoBulkAll r
def uptoBulkEntries {H : Type} : List (Lit × DataW H) → Nat
  | [] => 0
  | x :: r => uptoBulkEntry x + uptoBulkEntries r
def uptoBulkEntry {H : Type} : Lit × DataW H → Nat
  | (.string bytes, d) => bytes.length + uptoBulk d + 1
  | (_, d) => uptoBulk d + 1
 end
def uptoSmall : (H : Type) → List (DataW H) → Bool := fun _ ds => decide (uptoBulkAll ds ≤ 1048576)
def OpenSpec.upto (s : _root_.Go.ChangeSpec) : _root_.Go.OpenSpec := { _root_.Go.OpenSpec.ofChange s with cond := some uptoSmall }

/-- 'laws.FnExactWorldOk', WHERE WHAT IT READS IS OF BULK AT MOST 1048576: true; the input reads as it did. -/
def fnExactWorldOkUptoRow : OpenClaim := { program := "ytapckgibbhijeaa", sum := "d948d8a9b343d545b327b2321d179a66df0a4f01bbf8c1b94894a03850a43bbc", func := "loop.example/g00808/laws.FnExactWorldOk", spec := "fnExactWorldOk", unfollowed := true, recurses := true, apart := false, narrowed := true }
def FnExactWorldOkUptoSaid : Prop := fnExactWorldOkUptoRow.holds Try.pinned (OpenSpec.upto fnExactWorldOkSpec)

/-- 'laws.FnExactLoadAt', WHERE WHAT IT READS IS OF BULK AT MOST 1048576: true; the input reads as it did. -/
def fnExactLoadAtUptoRow : OpenClaim := { program := "ytapckgibbhijeaa", sum := "d948d8a9b343d545b327b2321d179a66df0a4f01bbf8c1b94894a03850a43bbc", func := "loop.example/g00808/laws.FnExactLoadAt", spec := "fnExactLoadAt", unfollowed := true, recurses := true, apart := false, narrowed := true }
def FnExactLoadAtUptoSaid : Prop := fnExactLoadAtUptoRow.holds Try.pinned (OpenSpec.upto fnExactLoadAtSpec)

/-- 'laws.FnExactIdealAt', WHERE WHAT IT READS IS OF BULK AT MOST 1048576: true; the input reads as it did. -/
def fnExactIdealAtUptoRow : OpenClaim := { program := "ytapckgibbhijeaa", sum := "d948d8a9b343d545b327b2321d179a66df0a4f01bbf8c1b94894a03850a43bbc", func := "loop.example/g00808/laws.FnExactIdealAt", spec := "fnExactIdealAt", unfollowed := true, recurses := true, apart := false, narrowed := true }
def FnExactIdealAtUptoSaid : Prop := fnExactIdealAtUptoRow.holds Try.pinned (OpenSpec.upto fnExactIdealAtSpec)

end Rows
end Go.Proofs.Ytapckgibbhijeaa
