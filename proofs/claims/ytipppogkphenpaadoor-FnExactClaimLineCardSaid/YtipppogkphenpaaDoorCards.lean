/-
  DERIVED. GIVEN WITH THE SEED: THE CARDS: each row of YtipppogkphenpaaDoorRows.lean that lists a variable, with what it lists TIED to the program's text (the seventh form; the later family's looks); each row that meets fmt, with fmt's text TOLD by the authors' own Lean function (tested against real Go, not proved from fmt's source: count such statements apart). THE CARD IS WHAT COUNTS. Prove the row's statement (the work); the ties are given (YtipppogkphenpaaDoorTie.lean); close each card by the builder's one call (the guide's Derived/Test/ToyasCard.lean, 'card_holds'). Laid BY PROGRAM, IN A SANDBOX (cutbox-door.mjs). By AI agents, Wed Nov 11 2026. No macro, syntax, notation, axiom, sorry.
-/
import Derived.Test.YtipppogkphenpaaDoorRows
import GoSem.ClaimSeven
namespace Go.Proofs.YtipppogkphenpaaDoor
namespace Rows

/-- THE TIED CARD OF 'laws.FnExactClaimLine'. -/
def fnExactClaimLineCard : Claim7 := { stood := { row := fnExactClaimLineRow, standIns := [], harness := (true, "819fe1424fdf2818b4785562d7cd29dd3f3322ad7a04195b45542465de4a2904"), looks := false }, kinds := [], alts := [], laidByText := true, laidKinds := [.data, .data, .data], laidTests := true, laidLooks := .later }
def FnExactClaimLineCardSaid : Prop := Claim7.holds Tryd.pinned (.plain (OpenSpec.ofChange fnExactClaimLineSpec)) fnExactClaimLineCard

/-- THE SECOND FORM's CARD OF 'laws.FnExactClaimLine'. -/
def fnExactClaimLineUptoCard : Claim7 := { stood := { row := fnExactClaimLineUptoRow, standIns := [], harness := (true, "819fe1424fdf2818b4785562d7cd29dd3f3322ad7a04195b45542465de4a2904"), looks := false }, kinds := [], alts := [], laidByText := true, laidKinds := [.data, .data, .data], laidTests := true, laidLooks := .later }
def FnExactClaimLineUptoCardSaid : Prop := Claim7.holds Tryd.pinned (.plain (OpenSpec.upto fnExactClaimLineSpec)) fnExactClaimLineUptoCard
end Rows
end Go.Proofs.YtipppogkphenpaaDoor
