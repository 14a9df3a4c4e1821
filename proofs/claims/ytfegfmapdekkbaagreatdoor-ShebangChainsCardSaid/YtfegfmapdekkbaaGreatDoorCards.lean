/-
  DERIVED. GIVEN WITH THE SEED: THE CARDS: each row of YtfegfmapdekkbaaGreatDoorRows.lean that lists a variable, with what it lists TIED to the program's text (the seventh form; the later family's looks); each row that meets fmt, with fmt's text TOLD by the authors' own Lean function (tested against real Go, not proved from fmt's source: count such statements apart). THE CARD IS WHAT COUNTS. Prove the row's statement (the work); the ties are given (YtfegfmapdekkbaaGreatDoorTie.lean); close each card by the builder's one call (the guide's Derived/Test/ToyasCard.lean, 'card_holds'). Laid BY PROGRAM, IN A SANDBOX (cutbox-door.mjs). By AI agents, Wed Nov 11 2026. No macro, syntax, notation, axiom, sorry.
-/
import Derived.Test.YtfegfmapdekkbaaGreatDoorRows
import GoSem.ClaimSeven
namespace Go.Proofs.YtfegfmapdekkbaaGreatDoor
namespace Rows

/-- THE TIED CARD OF 'hostellaw21.ShebangChains'. -/
def shebangChainsCard : Claim7 := { stood := { row := shebangChainsRow, standIns := [], harness := (true, "578925ea2eb5d276e5fde605e7c85b06c992c32fa69cb6cabe9f3165661cc442"), looks := true }, kinds := [], alts := [], laidByText := true, laidKinds := [.data, .pinned], laidTests := true, laidLooks := .later }
def ShebangChainsCardSaid : Prop := Claim7.holds Tryz.pinned (.plain (OpenSpec.ofChange shebangChainsSpec)) shebangChainsCard

/-- THE SECOND FORM's CARD OF 'hostellaw21.ShebangChains'. -/
def shebangChainsUptoCard : Claim7 := { stood := { row := shebangChainsUptoRow, standIns := [], harness := (true, "578925ea2eb5d276e5fde605e7c85b06c992c32fa69cb6cabe9f3165661cc442"), looks := true }, kinds := [], alts := [], laidByText := true, laidKinds := [.data, .pinned], laidTests := true, laidLooks := .later }
def ShebangChainsUptoCardSaid : Prop := Claim7.holds Tryz.pinned (.plain (OpenSpec.upto shebangChainsSpec)) shebangChainsUptoCard
end Rows
end Go.Proofs.YtfegfmapdekkbaaGreatDoor
