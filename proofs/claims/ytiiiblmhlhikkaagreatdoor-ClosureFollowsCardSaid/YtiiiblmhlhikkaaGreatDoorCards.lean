/-
  DERIVED. GIVEN WITH THE SEED: THE CARDS: each row of YtiiiblmhlhikkaaGreatDoorRows.lean that lists a variable, with what it lists TIED to the program's text (the seventh form; the later family's looks); each row that meets fmt, with fmt's text TOLD by the authors' own Lean function (tested against real Go, not proved from fmt's source: count such statements apart). THE CARD IS WHAT COUNTS. Prove the row's statement (the work); the ties are given (YtiiiblmhlhikkaaGreatDoorTie.lean); close each card by the builder's one call (the guide's Derived/Test/ToyasCard.lean, 'card_holds'). Laid BY PROGRAM, IN A SANDBOX (cutbox-door.mjs). By AI agents, Wed Nov 11 2026. No macro, syntax, notation, axiom, sorry.
-/
import Derived.Test.YtiiiblmhlhikkaaGreatDoorRows
import GoSem.ClaimSeven
namespace Go.Proofs.YtiiiblmhlhikkaaGreatDoor
namespace Rows

/-- THE TIED CARD OF 'hostellaw16.ClosureLoads'. -/
def closureLoadsCard : Claim7 := { stood := { row := closureLoadsRow, standIns := [], harness := (true, "43ff0e5b9b8ae2d3f94cb4c249f9a4d673d088768ce0fbf3746676205247c9a2"), looks := true }, kinds := [], alts := [], laidByText := true, laidKinds := [.data, .pinned], laidTests := true, laidLooks := .later }
def ClosureLoadsCardSaid : Prop := Claim7.holds Tryz.pinned (.plain (OpenSpec.ofChange closureLoadsSpec)) closureLoadsCard

/-- THE TIED CARD OF 'hostellaw16.ClosureFollows'. -/
def closureFollowsCard : Claim7 := { stood := { row := closureFollowsRow, standIns := [], harness := (true, "43ff0e5b9b8ae2d3f94cb4c249f9a4d673d088768ce0fbf3746676205247c9a2"), looks := true }, kinds := [], alts := [], laidByText := true, laidKinds := [.data, .pinned], laidTests := true, laidLooks := .later }
def ClosureFollowsCardSaid : Prop := Claim7.holds Tryz.pinned (.plain (OpenSpec.ofChange closureFollowsSpec)) closureFollowsCard

/-- THE TIED CARD OF 'hostellaw16.ClosureSecure'. -/
def closureSecureCard : Claim7 := { stood := { row := closureSecureRow, standIns := [], harness := (true, "43ff0e5b9b8ae2d3f94cb4c249f9a4d673d088768ce0fbf3746676205247c9a2"), looks := true }, kinds := [], alts := [], laidByText := true, laidKinds := [.data, .pinned], laidTests := true, laidLooks := .later }
def ClosureSecureCardSaid : Prop := Claim7.holds Tryz.pinned (.plain (OpenSpec.ofChange closureSecureSpec)) closureSecureCard

/-- THE TIED CARD OF 'hostellaw16.ClosureNil'. -/
def closureNilCard : Claim7 := { stood := { row := closureNilRow, standIns := [], harness := (true, "43ff0e5b9b8ae2d3f94cb4c249f9a4d673d088768ce0fbf3746676205247c9a2"), looks := true }, kinds := [], alts := [], laidByText := true, laidKinds := [.data, .pinned], laidTests := true, laidLooks := .later }
def ClosureNilCardSaid : Prop := Claim7.holds Tryz.pinned (.plain (OpenSpec.ofChange closureNilSpec)) closureNilCard

/-- THE SECOND FORM's CARD OF 'hostellaw16.ClosureLoads'. -/
def closureLoadsUptoCard : Claim7 := { stood := { row := closureLoadsUptoRow, standIns := [], harness := (true, "43ff0e5b9b8ae2d3f94cb4c249f9a4d673d088768ce0fbf3746676205247c9a2"), looks := true }, kinds := [], alts := [], laidByText := true, laidKinds := [.data, .pinned], laidTests := true, laidLooks := .later }
def ClosureLoadsUptoCardSaid : Prop := Claim7.holds Tryz.pinned (.plain (OpenSpec.upto closureLoadsSpec)) closureLoadsUptoCard

/-- THE SECOND FORM's CARD OF 'hostellaw16.ClosureFollows'. -/
def closureFollowsUptoCard : Claim7 := { stood := { row := closureFollowsUptoRow, standIns := [], harness := (true, "43ff0e5b9b8ae2d3f94cb4c249f9a4d673d088768ce0fbf3746676205247c9a2"), looks := true }, kinds := [], alts := [], laidByText := true, laidKinds := [.data, .pinned], laidTests := true, laidLooks := .later }
def ClosureFollowsUptoCardSaid : Prop := Claim7.holds Tryz.pinned (.plain (OpenSpec.upto closureFollowsSpec)) closureFollowsUptoCard

/-- THE SECOND FORM's CARD OF 'hostellaw16.ClosureSecure'. -/
def closureSecureUptoCard : Claim7 := { stood := { row := closureSecureUptoRow, standIns := [], harness := (true, "43ff0e5b9b8ae2d3f94cb4c249f9a4d673d088768ce0fbf3746676205247c9a2"), looks := true }, kinds := [], alts := [], laidByText := true, laidKinds := [.data, .pinned], laidTests := true, laidLooks := .later }
def ClosureSecureUptoCardSaid : Prop := Claim7.holds Tryz.pinned (.plain (OpenSpec.upto closureSecureSpec)) closureSecureUptoCard

/-- THE SECOND FORM's CARD OF 'hostellaw16.ClosureNil'. -/
def closureNilUptoCard : Claim7 := { stood := { row := closureNilUptoRow, standIns := [], harness := (true, "43ff0e5b9b8ae2d3f94cb4c249f9a4d673d088768ce0fbf3746676205247c9a2"), looks := true }, kinds := [], alts := [], laidByText := true, laidKinds := [.data, .pinned], laidTests := true, laidLooks := .later }
def ClosureNilUptoCardSaid : Prop := Claim7.holds Tryz.pinned (.plain (OpenSpec.upto closureNilSpec)) closureNilUptoCard
end Rows
end Go.Proofs.YtiiiblmhlhikkaaGreatDoor
