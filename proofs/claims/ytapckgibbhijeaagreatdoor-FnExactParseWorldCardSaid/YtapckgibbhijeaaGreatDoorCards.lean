/-
  DERIVED. GIVEN WITH THE SEED: THE CARDS: each row of YtapckgibbhijeaaGreatDoorRows.lean that lists a variable, with what it lists TIED to the program's text (the seventh form; the later family's looks); each row that meets fmt, with fmt's text TOLD by the authors' own Lean function (tested against real Go, not proved from fmt's source: count such statements apart). THE CARD IS WHAT COUNTS. Prove the row's statement (the work); the ties are given (YtapckgibbhijeaaGreatDoorTie.lean); close each card by the builder's one call (the guide's Derived/Test/ToyasCard.lean, 'card_holds'). Laid BY PROGRAM, IN A SANDBOX (cutbox-door.mjs). By AI agents, Wed Nov 11 2026. No macro, syntax, notation, axiom, sorry.
-/
import Derived.Test.YtapckgibbhijeaaGreatDoorRows
import GoSem.ClaimSeven
namespace Go.Proofs.YtapckgibbhijeaaGreatDoor
namespace Rows

/-- THE TIED CARD OF 'laws.FnExactParseWorld'. -/
def fnExactParseWorldCard : Claim7 := { stood := { row := fnExactParseWorldRow, standIns := [], harness := (true, "dda0404451b4c4065841689958666e89fd30b9fce50b9cf5dd096fc10006a240"), looks := true }, kinds := [], alts := [], laidByText := true, laidKinds := [.data, .data, .data, .data, .sentinel, .sentinel, .pinned], laidTests := true, laidLooks := .later }
def FnExactParseWorldCardSaid : Prop := Claim7.holds Tryz.pinned (.plain (OpenSpec.ofChange fnExactParseWorldSpec)) fnExactParseWorldCard

/-- THE SECOND FORM's CARD OF 'laws.FnExactParseWorld'. -/
def fnExactParseWorldUptoCard : Claim7 := { stood := { row := fnExactParseWorldUptoRow, standIns := [], harness := (true, "dda0404451b4c4065841689958666e89fd30b9fce50b9cf5dd096fc10006a240"), looks := true }, kinds := [], alts := [], laidByText := true, laidKinds := [.data, .data, .data, .data, .sentinel, .sentinel, .pinned], laidTests := true, laidLooks := .later }
def FnExactParseWorldUptoCardSaid : Prop := Claim7.holds Tryz.pinned (.plain (OpenSpec.upto fnExactParseWorldSpec)) fnExactParseWorldUptoCard
end Rows
end Go.Proofs.YtapckgibbhijeaaGreatDoor
