/-
  DERIVED. GIVEN WITH THE SEED: THE CARDS: each row of YtfegfmapdekkbaaDoorRows.lean that lists a variable, with what it lists TIED to the program's text (the seventh form; the later family's looks); each row that meets fmt, with fmt's text TOLD by the authors' own Lean function (tested against real Go, not proved from fmt's source: count such statements apart). THE CARD IS WHAT COUNTS. Prove the row's statement (the work); the ties are given (YtfegfmapdekkbaaDoorTie.lean); close each card by the builder's one call (the guide's Derived/Test/ToyasCard.lean, 'card_holds'). Laid BY PROGRAM, IN A SANDBOX (cutbox-door.mjs). By AI agents, Wed Nov 11 2026. No macro, syntax, notation, axiom, sorry.
-/
import Derived.Test.YtfegfmapdekkbaaDoorRows
import GoSem.ClaimSeven
namespace Go.Proofs.YtfegfmapdekkbaaDoor
namespace Rows

/-- THE TIED CARD OF 'hostellaw21.ShebangParses'. -/
def shebangParsesCard : Claim7 := { stood := { row := shebangParsesRow, standIns := [], harness := (true, "edf0cad37292d09d6750cf0647e1f6cee857201313b6531fd9741632d8e1fa07"), looks := true }, kinds := [], alts := [], laidByText := true, laidKinds := [.data, .pinned], laidTests := true, laidLooks := .later }
def ShebangParsesCardSaid : Prop := Claim7.holds Tryd.pinned (.plain (OpenSpec.ofChange shebangParsesSpec)) shebangParsesCard

/-- THE TIED CARD OF 'hostellaw21.ShebangArgs'. -/
def shebangArgsCard : Claim7 := { stood := { row := shebangArgsRow, standIns := [], harness := (true, "edf0cad37292d09d6750cf0647e1f6cee857201313b6531fd9741632d8e1fa07"), looks := true }, kinds := [], alts := [], laidByText := true, laidKinds := [.data, .pinned], laidTests := true, laidLooks := .later }
def ShebangArgsCardSaid : Prop := Claim7.holds Tryd.pinned (.plain (OpenSpec.ofChange shebangArgsSpec)) shebangArgsCard

/-- THE TIED CARD OF 'hostellaw21.ShebangSteps'. -/
def shebangStepsCard : Claim7 := { stood := { row := shebangStepsRow, standIns := [], harness := (true, "edf0cad37292d09d6750cf0647e1f6cee857201313b6531fd9741632d8e1fa07"), looks := true }, kinds := [], alts := [], laidByText := true, laidKinds := [.data, .pinned], laidTests := true, laidLooks := .later }
def ShebangStepsCardSaid : Prop := Claim7.holds Tryd.pinned (.plain (OpenSpec.ofChange shebangStepsSpec)) shebangStepsCard

/-- THE TIED CARD OF 'hostellaw21.ShebangLines'. -/
def shebangLinesCard : Claim7 := { stood := { row := shebangLinesRow, standIns := [], harness := (true, "edf0cad37292d09d6750cf0647e1f6cee857201313b6531fd9741632d8e1fa07"), looks := true }, kinds := [], alts := [], laidByText := true, laidKinds := [.data, .pinned], laidTests := true, laidLooks := .later }
def ShebangLinesCardSaid : Prop := Claim7.holds Tryd.pinned (.plain (OpenSpec.ofChange shebangLinesSpec)) shebangLinesCard

/-- THE TIED CARD OF 'hostellaw21.ShebangNil'. -/
def shebangNilCard : Claim7 := { stood := { row := shebangNilRow, standIns := [], harness := (true, "edf0cad37292d09d6750cf0647e1f6cee857201313b6531fd9741632d8e1fa07"), looks := true }, kinds := [], alts := [], laidByText := true, laidKinds := [.data, .pinned], laidTests := true, laidLooks := .later }
def ShebangNilCardSaid : Prop := Claim7.holds Tryd.pinned (.plain (OpenSpec.ofChange shebangNilSpec)) shebangNilCard

/-- THE SECOND FORM's CARD OF 'hostellaw21.ShebangParses'. -/
def shebangParsesUptoCard : Claim7 := { stood := { row := shebangParsesUptoRow, standIns := [], harness := (true, "edf0cad37292d09d6750cf0647e1f6cee857201313b6531fd9741632d8e1fa07"), looks := true }, kinds := [], alts := [], laidByText := true, laidKinds := [.data, .pinned], laidTests := true, laidLooks := .later }
def ShebangParsesUptoCardSaid : Prop := Claim7.holds Tryd.pinned (.plain (OpenSpec.upto shebangParsesSpec)) shebangParsesUptoCard

/-- THE SECOND FORM's CARD OF 'hostellaw21.ShebangArgs'. -/
def shebangArgsUptoCard : Claim7 := { stood := { row := shebangArgsUptoRow, standIns := [], harness := (true, "edf0cad37292d09d6750cf0647e1f6cee857201313b6531fd9741632d8e1fa07"), looks := true }, kinds := [], alts := [], laidByText := true, laidKinds := [.data, .pinned], laidTests := true, laidLooks := .later }
def ShebangArgsUptoCardSaid : Prop := Claim7.holds Tryd.pinned (.plain (OpenSpec.upto shebangArgsSpec)) shebangArgsUptoCard

/-- THE SECOND FORM's CARD OF 'hostellaw21.ShebangSteps'. -/
def shebangStepsUptoCard : Claim7 := { stood := { row := shebangStepsUptoRow, standIns := [], harness := (true, "edf0cad37292d09d6750cf0647e1f6cee857201313b6531fd9741632d8e1fa07"), looks := true }, kinds := [], alts := [], laidByText := true, laidKinds := [.data, .pinned], laidTests := true, laidLooks := .later }
def ShebangStepsUptoCardSaid : Prop := Claim7.holds Tryd.pinned (.plain (OpenSpec.upto shebangStepsSpec)) shebangStepsUptoCard

/-- THE SECOND FORM's CARD OF 'hostellaw21.ShebangLines'. -/
def shebangLinesUptoCard : Claim7 := { stood := { row := shebangLinesUptoRow, standIns := [], harness := (true, "edf0cad37292d09d6750cf0647e1f6cee857201313b6531fd9741632d8e1fa07"), looks := true }, kinds := [], alts := [], laidByText := true, laidKinds := [.data, .pinned], laidTests := true, laidLooks := .later }
def ShebangLinesUptoCardSaid : Prop := Claim7.holds Tryd.pinned (.plain (OpenSpec.upto shebangLinesSpec)) shebangLinesUptoCard

/-- THE SECOND FORM's CARD OF 'hostellaw21.ShebangNil'. -/
def shebangNilUptoCard : Claim7 := { stood := { row := shebangNilUptoRow, standIns := [], harness := (true, "edf0cad37292d09d6750cf0647e1f6cee857201313b6531fd9741632d8e1fa07"), looks := true }, kinds := [], alts := [], laidByText := true, laidKinds := [.data, .pinned], laidTests := true, laidLooks := .later }
def ShebangNilUptoCardSaid : Prop := Claim7.holds Tryd.pinned (.plain (OpenSpec.upto shebangNilSpec)) shebangNilUptoCard
end Rows
end Go.Proofs.YtfegfmapdekkbaaDoor
