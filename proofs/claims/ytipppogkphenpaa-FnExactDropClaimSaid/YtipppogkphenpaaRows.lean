/-
  No cell of these rows narrows 'for every input' (looked for: loops, veiled, ifaces, maps, wideKeys, modest, calm, conditions, laid).
  DERIVED. THE GIVEN ROWS OF THIS SEAT. 9 by the template 'for every input the law returns true; each argument reads behind the call as it read before'; 0 by the template 'total and deterministic' (their statements: YtipppogkphenpaaTotals.lean).
  GIVEN WITH THE SEED: the statements are not yours to turn. If you find one false, say at which input.
  Laid BY PROGRAM, IN A SANDBOX (cutbox-rows.mjs): the forced cells as the released guide's own fill.sh prints them over the translation 816284a320f6093e… (all of the seat's roots in one cut). By AI agents, Wed Nov 11 2026. No macro, syntax, notation, axiom, sorry.
-/
import Derived.Test.YtipppogkphenpaaChecked
import GoSem.Claim
import GoSem.ClaimJoined
import GoSem.ClaimMapViews
import Derived.JoinedTies
import Derived.KernelRfl
namespace Go.Proofs.Ytipppogkphenpaa
/- THE CELL 'sum', in the pinned program and in every row, IS THE sha256 OF THE DUMP (.gsa) THAT YtipppogkphenpaaProg.lean LOADS. Nothing in Lean hashes anything: it is a label: what it is worth is what the hold of that sum in a sandbox is worth. -/
noncomputable def Try.pinned : Pinned := { name := "ytipppogkphenpaa", sum := "816284a320f6093e3f592ca39b233f798354f8966658a29903d902fbcb5a6318", checked := Try.checked }
namespace Rows
def none {H : Type} : Left H := { results := [], args := [] }

/-- 'laws.FnExactSumOfShares': WHATEVER THE INPUT: true; the input reads as it did. -/
def fnExactSumOfSharesSpec : ChangeSpec := { name := "fnExactSumOfShares", fn := fun _ => fun
  | [d] => { results := [.lit (.bool true)], args := [d] }
  | _ => none }
def fnExactSumOfSharesRow : OpenClaim := { program := "ytipppogkphenpaa", sum := "816284a320f6093e3f592ca39b233f798354f8966658a29903d902fbcb5a6318", func := "loop.example/g00808/laws.FnExactSumOfShares", spec := "fnExactSumOfShares", apart := false }
def FnExactSumOfSharesSaid : Prop := fnExactSumOfSharesRow.holds Try.pinned (OpenSpec.ofChange fnExactSumOfSharesSpec)

/-- ITS FALSE NEIGHBOUR: 'it returns false'. Refute it at one input. -/
def fnExactSumOfSharesWrong : ChangeSpec := { name := "fnExactSumOfShares", fn := fun _ => fun
  | [d] => { results := [.lit (.bool false)], args := [d] }
  | _ => none }
def FnExactSumOfSharesWrongFalsely : Prop := fnExactSumOfSharesRow.holds Try.pinned (OpenSpec.ofChange fnExactSumOfSharesWrong)

/-- 'laws.FnExactClaimsOk': WHATEVER THE INPUT: true; the input reads as it did. -/
def fnExactClaimsOkSpec : ChangeSpec := { name := "fnExactClaimsOk", fn := fun _ => fun
  | [d] => { results := [.lit (.bool true)], args := [d] }
  | _ => none }
def fnExactClaimsOkRow : OpenClaim := { program := "ytipppogkphenpaa", sum := "816284a320f6093e3f592ca39b233f798354f8966658a29903d902fbcb5a6318", func := "loop.example/g00808/laws.FnExactClaimsOk", spec := "fnExactClaimsOk", unfollowed := true, recurses := true, apart := false }
def FnExactClaimsOkSaid : Prop := fnExactClaimsOkRow.holds Try.pinned (OpenSpec.ofChange fnExactClaimsOkSpec)

/-- ITS FALSE NEIGHBOUR: 'it returns false'. Refute it at one input. -/
def fnExactClaimsOkWrong : ChangeSpec := { name := "fnExactClaimsOk", fn := fun _ => fun
  | [d] => { results := [.lit (.bool false)], args := [d] }
  | _ => none }
def FnExactClaimsOkWrongFalsely : Prop := fnExactClaimsOkRow.holds Try.pinned (OpenSpec.ofChange fnExactClaimsOkWrong)

/-- 'laws.FnExactNeedOf': WHATEVER THE INPUT: true; the input reads as it did. -/
def fnExactNeedOfSpec : ChangeSpec := { name := "fnExactNeedOf", fn := fun _ => fun
  | [d] => { results := [.lit (.bool true)], args := [d] }
  | _ => none }
def fnExactNeedOfRow : OpenClaim := { program := "ytipppogkphenpaa", sum := "816284a320f6093e3f592ca39b233f798354f8966658a29903d902fbcb5a6318", func := "loop.example/g00808/laws.FnExactNeedOf", spec := "fnExactNeedOf", unfollowed := true, recurses := true, apart := false }
def FnExactNeedOfSaid : Prop := fnExactNeedOfRow.holds Try.pinned (OpenSpec.ofChange fnExactNeedOfSpec)

/-- ITS FALSE NEIGHBOUR: 'it returns false'. Refute it at one input. -/
def fnExactNeedOfWrong : ChangeSpec := { name := "fnExactNeedOf", fn := fun _ => fun
  | [d] => { results := [.lit (.bool false)], args := [d] }
  | _ => none }
def FnExactNeedOfWrongFalsely : Prop := fnExactNeedOfRow.holds Try.pinned (OpenSpec.ofChange fnExactNeedOfWrong)

/-- 'laws.FnExactShareFair': WHATEVER THE INPUT: true; the input reads as it did. -/
def fnExactShareFairSpec : ChangeSpec := { name := "fnExactShareFair", fn := fun _ => fun
  | [d1, d2] => { results := [.lit (.bool true)], args := [d1, d2] }
  | _ => none }
def fnExactShareFairRow : OpenClaim := { program := "ytipppogkphenpaa", sum := "816284a320f6093e3f592ca39b233f798354f8966658a29903d902fbcb5a6318", func := "loop.example/g00808/laws.FnExactShareFair", spec := "fnExactShareFair", unfollowed := true, recurses := true, apart := false }
def FnExactShareFairSaid : Prop := fnExactShareFairRow.holds Try.pinned (OpenSpec.ofChange fnExactShareFairSpec)

/-- ITS FALSE NEIGHBOUR: 'it returns false'. Refute it at one input. -/
def fnExactShareFairWrong : ChangeSpec := { name := "fnExactShareFair", fn := fun _ => fun
  | [d1, d2] => { results := [.lit (.bool false)], args := [d1, d2] }
  | _ => none }
def FnExactShareFairWrongFalsely : Prop := fnExactShareFairRow.holds Try.pinned (OpenSpec.ofChange fnExactShareFairWrong)

/-- 'laws.FnExactPutClaim': WHATEVER THE INPUT: true; the input reads as it did. -/
def fnExactPutClaimSpec : ChangeSpec := { name := "fnExactPutClaim", fn := fun _ => fun
  | [d1, d2] => { results := [.lit (.bool true)], args := [d1, d2] }
  | _ => none }
def fnExactPutClaimRow : OpenClaim := { program := "ytipppogkphenpaa", sum := "816284a320f6093e3f592ca39b233f798354f8966658a29903d902fbcb5a6318", func := "loop.example/g00808/laws.FnExactPutClaim", spec := "fnExactPutClaim", unfollowed := true, recurses := true, apart := false }
def FnExactPutClaimSaid : Prop := fnExactPutClaimRow.holds Try.pinned (OpenSpec.ofChange fnExactPutClaimSpec)

/-- ITS FALSE NEIGHBOUR: 'it returns false'. Refute it at one input. -/
def fnExactPutClaimWrong : ChangeSpec := { name := "fnExactPutClaim", fn := fun _ => fun
  | [d1, d2] => { results := [.lit (.bool false)], args := [d1, d2] }
  | _ => none }
def FnExactPutClaimWrongFalsely : Prop := fnExactPutClaimRow.holds Try.pinned (OpenSpec.ofChange fnExactPutClaimWrong)

/-- 'laws.FnExactDropClaim': WHATEVER THE INPUT: true; the input reads as it did. -/
def fnExactDropClaimSpec : ChangeSpec := { name := "fnExactDropClaim", fn := fun _ => fun
  | [d1, d2] => { results := [.lit (.bool true)], args := [d1, d2] }
  | _ => none }
def fnExactDropClaimRow : OpenClaim := { program := "ytipppogkphenpaa", sum := "816284a320f6093e3f592ca39b233f798354f8966658a29903d902fbcb5a6318", func := "loop.example/g00808/laws.FnExactDropClaim", spec := "fnExactDropClaim", unfollowed := true, recurses := true, apart := false }
def FnExactDropClaimSaid : Prop := fnExactDropClaimRow.holds Try.pinned (OpenSpec.ofChange fnExactDropClaimSpec)

/-- ITS FALSE NEIGHBOUR: 'it returns false'. Refute it at one input. -/
def fnExactDropClaimWrong : ChangeSpec := { name := "fnExactDropClaim", fn := fun _ => fun
  | [d1, d2] => { results := [.lit (.bool false)], args := [d1, d2] }
  | _ => none }
def FnExactDropClaimWrongFalsely : Prop := fnExactDropClaimRow.holds Try.pinned (OpenSpec.ofChange fnExactDropClaimWrong)

/-- 'laws.FnExactLeftOver': WHATEVER THE INPUT: true; the input reads as it did. -/
def fnExactLeftOverSpec : ChangeSpec := { name := "fnExactLeftOver", fn := fun _ => fun
  | [d1, d2] => { results := [.lit (.bool true)], args := [d1, d2] }
  | _ => none }
def fnExactLeftOverRow : OpenClaim := { program := "ytipppogkphenpaa", sum := "816284a320f6093e3f592ca39b233f798354f8966658a29903d902fbcb5a6318", func := "loop.example/g00808/laws.FnExactLeftOver", spec := "fnExactLeftOver", unfollowed := true, recurses := true, apart := false }
def FnExactLeftOverSaid : Prop := fnExactLeftOverRow.holds Try.pinned (OpenSpec.ofChange fnExactLeftOverSpec)

/-- ITS FALSE NEIGHBOUR: 'it returns false'. Refute it at one input. -/
def fnExactLeftOverWrong : ChangeSpec := { name := "fnExactLeftOver", fn := fun _ => fun
  | [d1, d2] => { results := [.lit (.bool false)], args := [d1, d2] }
  | _ => none }
def FnExactLeftOverWrongFalsely : Prop := fnExactLeftOverRow.holds Try.pinned (OpenSpec.ofChange fnExactLeftOverWrong)

/-- 'laws.FnExactShareOut': WHATEVER THE INPUT: true; the input reads as it did. -/
def fnExactShareOutSpec : ChangeSpec := { name := "fnExactShareOut", fn := fun _ => fun
  | [d1, d2] => { results := [.lit (.bool true)], args := [d1, d2] }
  | _ => none }
def fnExactShareOutRow : OpenClaim := { program := "ytipppogkphenpaa", sum := "816284a320f6093e3f592ca39b233f798354f8966658a29903d902fbcb5a6318", func := "loop.example/g00808/laws.FnExactShareOut", spec := "fnExactShareOut", unfollowed := true, recurses := true, apart := false }
def FnExactShareOutSaid : Prop := fnExactShareOutRow.holds Try.pinned (OpenSpec.ofChange fnExactShareOutSpec)

/-- ITS FALSE NEIGHBOUR: 'it returns false'. Refute it at one input. -/
def fnExactShareOutWrong : ChangeSpec := { name := "fnExactShareOut", fn := fun _ => fun
  | [d1, d2] => { results := [.lit (.bool false)], args := [d1, d2] }
  | _ => none }
def FnExactShareOutWrongFalsely : Prop := fnExactShareOutRow.holds Try.pinned (OpenSpec.ofChange fnExactShareOutWrong)

/-- 'laws.FnExactScaleClaims': WHATEVER THE INPUT: true; the input reads as it did. -/
def fnExactScaleClaimsSpec : ChangeSpec := { name := "fnExactScaleClaims", fn := fun _ => fun
  | [d1, d2, d3] => { results := [.lit (.bool true)], args := [d1, d2, d3] }
  | _ => none }
def fnExactScaleClaimsRow : OpenClaim := { program := "ytipppogkphenpaa", sum := "816284a320f6093e3f592ca39b233f798354f8966658a29903d902fbcb5a6318", func := "loop.example/g00808/laws.FnExactScaleClaims", spec := "fnExactScaleClaims", unfollowed := true, recurses := true, apart := false }
def FnExactScaleClaimsSaid : Prop := fnExactScaleClaimsRow.holds Try.pinned (OpenSpec.ofChange fnExactScaleClaimsSpec)

/-- ITS FALSE NEIGHBOUR: 'it returns false'. Refute it at one input. -/
def fnExactScaleClaimsWrong : ChangeSpec := { name := "fnExactScaleClaims", fn := fun _ => fun
  | [d1, d2, d3] => { results := [.lit (.bool false)], args := [d1, d2, d3] }
  | _ => none }
def FnExactScaleClaimsWrongFalsely : Prop := fnExactScaleClaimsRow.holds Try.pinned (OpenSpec.ofChange fnExactScaleClaimsWrong)

/- THE SECOND FORM. 'bulk': how many values and letters a reading holds, each counted each time it is reached (what is shared counts as often as it is met; a slice's spare places count too). A statement '..UptoSaid' is the law's where the arguments, and the package variables that the reading takes, are together of bulk at most 1048576: NARROWER than '..Said'. Prove '..Said' where nothing that the law and all that it calls make is longer than what came in: it says more and counts as full. Else prove '..UptoSaid'. A law counts once. -/
mutual
def uptoBulk {H : Type} : DataW H → Nat
  | .lit (.string bytes) => bytes.length + 1
  | .lit _ => 1
  | .nil => 1
  | .ptr d => uptoBulk d + 1
  | .slice elems spare => uptoBulkAll elems + uptoBulkAll spare + 1
  | .agg parts => uptoBulkAll parts + 1
  | .iface _ d => uptoBulk d + 1
  | .map entries => uptoBulkEntries entries + 1
  | .held _ => 1
def uptoBulkAll {H : Type} : List (DataW H) → Nat
  | [] => 0
  | d :: r => uptoBulk d + uptoBulkAll r
def uptoBulkEntries {H : Type} : List (Lit × DataW H) → Nat
  | [] => 0
  | x :: r => uptoBulkEntry x + uptoBulkEntries r
def uptoBulkEntry {H : Type} : Lit × DataW H → Nat
  | (.string bytes, d) => bytes.length + uptoBulk d + 1
  | (_, d) => uptoBulk d + 1
 end
def uptoSmall : (H : Type) → List (DataW H) → Bool := fun _ ds => decide (uptoBulkAll ds ≤ 1048576)
def OpenSpec.upto (s : _root_.Go.ChangeSpec) : _root_.Go.OpenSpec := { _root_.Go.OpenSpec.ofChange s with cond := some uptoSmall }

/-- 'laws.FnExactSumOfShares', WHERE WHAT IT READS IS OF BULK AT MOST 1048576: true; the input reads as it did. -/
def fnExactSumOfSharesUptoRow : OpenClaim := { program := "ytipppogkphenpaa", sum := "816284a320f6093e3f592ca39b233f798354f8966658a29903d902fbcb5a6318", func := "loop.example/g00808/laws.FnExactSumOfShares", spec := "fnExactSumOfShares", apart := false, narrowed := true }
def FnExactSumOfSharesUptoSaid : Prop := fnExactSumOfSharesUptoRow.holds Try.pinned (OpenSpec.upto fnExactSumOfSharesSpec)

/-- 'laws.FnExactClaimsOk', WHERE WHAT IT READS IS OF BULK AT MOST 1048576: true; the input reads as it did. -/
def fnExactClaimsOkUptoRow : OpenClaim := { program := "ytipppogkphenpaa", sum := "816284a320f6093e3f592ca39b233f798354f8966658a29903d902fbcb5a6318", func := "loop.example/g00808/laws.FnExactClaimsOk", spec := "fnExactClaimsOk", unfollowed := true, recurses := true, apart := false, narrowed := true }
def FnExactClaimsOkUptoSaid : Prop := fnExactClaimsOkUptoRow.holds Try.pinned (OpenSpec.upto fnExactClaimsOkSpec)

/-- 'laws.FnExactNeedOf', WHERE WHAT IT READS IS OF BULK AT MOST 1048576: true; the input reads as it did. -/
def fnExactNeedOfUptoRow : OpenClaim := { program := "ytipppogkphenpaa", sum := "816284a320f6093e3f592ca39b233f798354f8966658a29903d902fbcb5a6318", func := "loop.example/g00808/laws.FnExactNeedOf", spec := "fnExactNeedOf", unfollowed := true, recurses := true, apart := false, narrowed := true }
def FnExactNeedOfUptoSaid : Prop := fnExactNeedOfUptoRow.holds Try.pinned (OpenSpec.upto fnExactNeedOfSpec)

/-- 'laws.FnExactShareFair', WHERE WHAT IT READS IS OF BULK AT MOST 1048576: true; the input reads as it did. -/
def fnExactShareFairUptoRow : OpenClaim := { program := "ytipppogkphenpaa", sum := "816284a320f6093e3f592ca39b233f798354f8966658a29903d902fbcb5a6318", func := "loop.example/g00808/laws.FnExactShareFair", spec := "fnExactShareFair", unfollowed := true, recurses := true, apart := false, narrowed := true }
def FnExactShareFairUptoSaid : Prop := fnExactShareFairUptoRow.holds Try.pinned (OpenSpec.upto fnExactShareFairSpec)

/-- 'laws.FnExactPutClaim', WHERE WHAT IT READS IS OF BULK AT MOST 1048576: true; the input reads as it did. -/
def fnExactPutClaimUptoRow : OpenClaim := { program := "ytipppogkphenpaa", sum := "816284a320f6093e3f592ca39b233f798354f8966658a29903d902fbcb5a6318", func := "loop.example/g00808/laws.FnExactPutClaim", spec := "fnExactPutClaim", unfollowed := true, recurses := true, apart := false, narrowed := true }
def FnExactPutClaimUptoSaid : Prop := fnExactPutClaimUptoRow.holds Try.pinned (OpenSpec.upto fnExactPutClaimSpec)

/-- 'laws.FnExactDropClaim', WHERE WHAT IT READS IS OF BULK AT MOST 1048576: true; the input reads as it did. -/
def fnExactDropClaimUptoRow : OpenClaim := { program := "ytipppogkphenpaa", sum := "816284a320f6093e3f592ca39b233f798354f8966658a29903d902fbcb5a6318", func := "loop.example/g00808/laws.FnExactDropClaim", spec := "fnExactDropClaim", unfollowed := true, recurses := true, apart := false, narrowed := true }
def FnExactDropClaimUptoSaid : Prop := fnExactDropClaimUptoRow.holds Try.pinned (OpenSpec.upto fnExactDropClaimSpec)

/-- 'laws.FnExactLeftOver', WHERE WHAT IT READS IS OF BULK AT MOST 1048576: true; the input reads as it did. -/
def fnExactLeftOverUptoRow : OpenClaim := { program := "ytipppogkphenpaa", sum := "816284a320f6093e3f592ca39b233f798354f8966658a29903d902fbcb5a6318", func := "loop.example/g00808/laws.FnExactLeftOver", spec := "fnExactLeftOver", unfollowed := true, recurses := true, apart := false, narrowed := true }
def FnExactLeftOverUptoSaid : Prop := fnExactLeftOverUptoRow.holds Try.pinned (OpenSpec.upto fnExactLeftOverSpec)

/-- 'laws.FnExactShareOut', WHERE WHAT IT READS IS OF BULK AT MOST 1048576: true; the input reads as it did. -/
def fnExactShareOutUptoRow : OpenClaim := { program := "ytipppogkphenpaa", sum := "816284a320f6093e3f592ca39b233f798354f8966658a29903d902fbcb5a6318", func := "loop.example/g00808/laws.FnExactShareOut", spec := "fnExactShareOut", unfollowed := true, recurses := true, apart := false, narrowed := true }
def FnExactShareOutUptoSaid : Prop := fnExactShareOutUptoRow.holds Try.pinned (OpenSpec.upto fnExactShareOutSpec)

/-- 'laws.FnExactScaleClaims', WHERE WHAT IT READS IS OF BULK AT MOST 1048576: true; the input reads as it did. -/
def fnExactScaleClaimsUptoRow : OpenClaim := { program := "ytipppogkphenpaa", sum := "816284a320f6093e3f592ca39b233f798354f8966658a29903d902fbcb5a6318", func := "loop.example/g00808/laws.FnExactScaleClaims", spec := "fnExactScaleClaims", unfollowed := true, recurses := true, apart := false, narrowed := true }
def FnExactScaleClaimsUptoSaid : Prop := fnExactScaleClaimsUptoRow.holds Try.pinned (OpenSpec.upto fnExactScaleClaimsSpec)

end Rows
end Go.Proofs.Ytipppogkphenpaa
