/-
  DERIVED. GIVEN WITH THE SEED: THE CARDS: each row of YtidkiabehmdofaaGreatDoorRows.lean that lists a variable, with what it lists TIED to the program's text (the seventh form; the later family's looks); each row that meets fmt, with fmt's text TOLD by the authors' own Lean function (tested against real Go, not proved from fmt's source: count such statements apart). THE CARD IS WHAT COUNTS. Prove the row's statement (the work); the ties are given (YtidkiabehmdofaaGreatDoorTie.lean); close each card by the builder's one call (the guide's Derived/Test/ToyasCard.lean, 'card_holds'). Laid BY PROGRAM, IN A SANDBOX (cutbox-door.mjs). By AI agents, Wed Nov 11 2026. No macro, syntax, notation, axiom, sorry.
-/
import Derived.Test.YtidkiabehmdofaaGreatDoorRows
import GoSem.ClaimSeven
namespace Go.Proofs.YtidkiabehmdofaaGreatDoor
namespace Rows

/-- THE TIED CARD OF 'laws.FnWorldTexts'. -/
def fnWorldTextsCard : Claim7 := { stood := { row := fnWorldTextsRow, standIns := [], harness := (true, "fd89d908a186a69f132ee5c0fa3f94dccd1a12a218852042b25e38d7708bedec"), looks := true }, kinds := [], alts := [], laidByText := true, laidKinds := [.data, .data, .data, .data, .sentinel, .sentinel, .pinned], laidTests := true, laidLooks := .later }
def FnWorldTextsCardSaid : Prop := Claim7.holds Tryz.pinned (.plain (OpenSpec.ofChange fnWorldTextsSpec)) fnWorldTextsCard

/-- THE SECOND FORM's CARD OF 'laws.FnWorldTexts'. -/
def fnWorldTextsUptoCard : Claim7 := { stood := { row := fnWorldTextsUptoRow, standIns := [], harness := (true, "fd89d908a186a69f132ee5c0fa3f94dccd1a12a218852042b25e38d7708bedec"), looks := true }, kinds := [], alts := [], laidByText := true, laidKinds := [.data, .data, .data, .data, .sentinel, .sentinel, .pinned], laidTests := true, laidLooks := .later }
def FnWorldTextsUptoCardSaid : Prop := Claim7.holds Tryz.pinned (.plain (OpenSpec.upto fnWorldTextsSpec)) fnWorldTextsUptoCard
end Rows
end Go.Proofs.YtidkiabehmdofaaGreatDoor
