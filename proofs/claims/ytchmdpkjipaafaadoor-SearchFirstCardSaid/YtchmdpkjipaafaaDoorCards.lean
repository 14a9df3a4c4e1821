/-
  DERIVED. GIVEN WITH THE SEED: THE CARDS: each row of YtchmdpkjipaafaaDoorRows.lean that lists a variable, with what it lists TIED to the program's text (the seventh form; the later family's looks); each row that meets fmt, with fmt's text TOLD by the authors' own Lean function (tested against real Go, not proved from fmt's source: count such statements apart). THE CARD IS WHAT COUNTS. Prove the row's statement (the work); the ties are given (YtchmdpkjipaafaaDoorTie.lean); close each card by the builder's one call (the guide's Derived/Test/ToyasCard.lean, 'card_holds'). Laid BY PROGRAM, IN A SANDBOX (cutbox-door.mjs). By AI agents, Wed Nov 11 2026. No macro, syntax, notation, axiom, sorry.
-/
import Derived.Test.YtchmdpkjipaafaaDoorRows
import GoSem.ClaimSeven
namespace Go.Proofs.YtchmdpkjipaafaaDoor
namespace Rows

/-- THE TIED CARD OF 'hostellaw15.SearchPaths'. -/
def searchPathsCard : Claim7 := { stood := { row := searchPathsRow, standIns := [], harness := (true, "e121fb38c225a682eaac3452cc124cacb65838ff4cd48d9dc123b86307e4e9a5"), looks := true }, kinds := [], alts := [], laidByText := true, laidKinds := [.data, .pinned], laidTests := true, laidLooks := .later }
def SearchPathsCardSaid : Prop := Claim7.holds Tryd.pinned (.plain (OpenSpec.ofChange searchPathsSpec)) searchPathsCard

/-- THE TIED CARD OF 'hostellaw15.SearchFinds'. -/
def searchFindsCard : Claim7 := { stood := { row := searchFindsRow, standIns := [], harness := (true, "e121fb38c225a682eaac3452cc124cacb65838ff4cd48d9dc123b86307e4e9a5"), looks := true }, kinds := [], alts := [], laidByText := true, laidKinds := [.data, .pinned], laidTests := true, laidLooks := .later }
def SearchFindsCardSaid : Prop := Claim7.holds Tryd.pinned (.plain (OpenSpec.ofChange searchFindsSpec)) searchFindsCard

/-- THE TIED CARD OF 'hostellaw15.SearchFirst'. -/
def searchFirstCard : Claim7 := { stood := { row := searchFirstRow, standIns := [], harness := (true, "e121fb38c225a682eaac3452cc124cacb65838ff4cd48d9dc123b86307e4e9a5"), looks := true }, kinds := [], alts := [], laidByText := true, laidKinds := [.data, .pinned], laidTests := true, laidLooks := .later }
def SearchFirstCardSaid : Prop := Claim7.holds Tryd.pinned (.plain (OpenSpec.ofChange searchFirstSpec)) searchFirstCard

/-- THE TIED CARD OF 'hostellaw15.SearchSecure'. -/
def searchSecureCard : Claim7 := { stood := { row := searchSecureRow, standIns := [], harness := (true, "e121fb38c225a682eaac3452cc124cacb65838ff4cd48d9dc123b86307e4e9a5"), looks := true }, kinds := [], alts := [], laidByText := true, laidKinds := [.data, .pinned], laidTests := true, laidLooks := .later }
def SearchSecureCardSaid : Prop := Claim7.holds Tryd.pinned (.plain (OpenSpec.ofChange searchSecureSpec)) searchSecureCard

/-- THE TIED CARD OF 'hostellaw15.SearchNil'. -/
def searchNilCard : Claim7 := { stood := { row := searchNilRow, standIns := [], harness := (true, "e121fb38c225a682eaac3452cc124cacb65838ff4cd48d9dc123b86307e4e9a5"), looks := true }, kinds := [], alts := [], laidByText := true, laidKinds := [.data, .pinned], laidTests := true, laidLooks := .later }
def SearchNilCardSaid : Prop := Claim7.holds Tryd.pinned (.plain (OpenSpec.ofChange searchNilSpec)) searchNilCard

/-- THE SECOND FORM's CARD OF 'hostellaw15.SearchPaths'. -/
def searchPathsUptoCard : Claim7 := { stood := { row := searchPathsUptoRow, standIns := [], harness := (true, "e121fb38c225a682eaac3452cc124cacb65838ff4cd48d9dc123b86307e4e9a5"), looks := true }, kinds := [], alts := [], laidByText := true, laidKinds := [.data, .pinned], laidTests := true, laidLooks := .later }
def SearchPathsUptoCardSaid : Prop := Claim7.holds Tryd.pinned (.plain (OpenSpec.upto searchPathsSpec)) searchPathsUptoCard

/-- THE SECOND FORM's CARD OF 'hostellaw15.SearchFinds'. -/
def searchFindsUptoCard : Claim7 := { stood := { row := searchFindsUptoRow, standIns := [], harness := (true, "e121fb38c225a682eaac3452cc124cacb65838ff4cd48d9dc123b86307e4e9a5"), looks := true }, kinds := [], alts := [], laidByText := true, laidKinds := [.data, .pinned], laidTests := true, laidLooks := .later }
def SearchFindsUptoCardSaid : Prop := Claim7.holds Tryd.pinned (.plain (OpenSpec.upto searchFindsSpec)) searchFindsUptoCard

/-- THE SECOND FORM's CARD OF 'hostellaw15.SearchFirst'. -/
def searchFirstUptoCard : Claim7 := { stood := { row := searchFirstUptoRow, standIns := [], harness := (true, "e121fb38c225a682eaac3452cc124cacb65838ff4cd48d9dc123b86307e4e9a5"), looks := true }, kinds := [], alts := [], laidByText := true, laidKinds := [.data, .pinned], laidTests := true, laidLooks := .later }
def SearchFirstUptoCardSaid : Prop := Claim7.holds Tryd.pinned (.plain (OpenSpec.upto searchFirstSpec)) searchFirstUptoCard

/-- THE SECOND FORM's CARD OF 'hostellaw15.SearchSecure'. -/
def searchSecureUptoCard : Claim7 := { stood := { row := searchSecureUptoRow, standIns := [], harness := (true, "e121fb38c225a682eaac3452cc124cacb65838ff4cd48d9dc123b86307e4e9a5"), looks := true }, kinds := [], alts := [], laidByText := true, laidKinds := [.data, .pinned], laidTests := true, laidLooks := .later }
def SearchSecureUptoCardSaid : Prop := Claim7.holds Tryd.pinned (.plain (OpenSpec.upto searchSecureSpec)) searchSecureUptoCard

/-- THE SECOND FORM's CARD OF 'hostellaw15.SearchNil'. -/
def searchNilUptoCard : Claim7 := { stood := { row := searchNilUptoRow, standIns := [], harness := (true, "e121fb38c225a682eaac3452cc124cacb65838ff4cd48d9dc123b86307e4e9a5"), looks := true }, kinds := [], alts := [], laidByText := true, laidKinds := [.data, .pinned], laidTests := true, laidLooks := .later }
def SearchNilUptoCardSaid : Prop := Claim7.holds Tryd.pinned (.plain (OpenSpec.upto searchNilSpec)) searchNilUptoCard
end Rows
end Go.Proofs.YtchmdpkjipaafaaDoor
