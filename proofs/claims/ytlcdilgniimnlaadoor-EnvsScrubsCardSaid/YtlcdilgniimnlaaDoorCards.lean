/-
  DERIVED. GIVEN WITH THE SEED: THE CARDS: each row of YtlcdilgniimnlaaDoorRows.lean that lists a variable, with what it lists TIED to the program's text (the seventh form; the later family's looks); each row that meets fmt, with fmt's text TOLD by the authors' own Lean function (tested against real Go, not proved from fmt's source: count such statements apart). THE CARD IS WHAT COUNTS. Prove the row's statement (the work); the ties are given (YtlcdilgniimnlaaDoorTie.lean); close each card by the builder's one call (the guide's Derived/Test/ToyasCard.lean, 'card_holds'). Laid BY PROGRAM, IN A SANDBOX (cutbox-door.mjs). By AI agents, Wed Nov 11 2026. No macro, syntax, notation, axiom, sorry.
-/
import Derived.Test.YtlcdilgniimnlaaDoorRows
import GoSem.ClaimSeven
namespace Go.Proofs.YtlcdilgniimnlaaDoor
namespace Rows

/-- THE TIED CARD OF 'hostellaw03.EnvsChecks'. -/
def envsChecksCard : Claim7 := { stood := { row := envsChecksRow, standIns := [], harness := (true, "78a5e266d567785072bac6cc5620e1871e8e96e7919f6aa008ff8b2cc2421213"), looks := false }, kinds := [], alts := [], laidByText := true, laidKinds := [.data, .pinned], laidTests := true, laidLooks := .later }
def EnvsChecksCardSaid : Prop := Claim7.holds Tryd.pinned (.plain (OpenSpec.ofChange envsChecksSpec)) envsChecksCard

/-- THE TIED CARD OF 'hostellaw03.EnvsSets'. -/
def envsSetsCard : Claim7 := { stood := { row := envsSetsRow, standIns := [], harness := (true, "78a5e266d567785072bac6cc5620e1871e8e96e7919f6aa008ff8b2cc2421213"), looks := false }, kinds := [], alts := [], laidByText := true, laidKinds := [.data, .pinned], laidTests := true, laidLooks := .later }
def EnvsSetsCardSaid : Prop := Claim7.holds Tryd.pinned (.plain (OpenSpec.ofChange envsSetsSpec)) envsSetsCard

/-- THE TIED CARD OF 'hostellaw03.EnvsBack'. -/
def envsBackCard : Claim7 := { stood := { row := envsBackRow, standIns := [], harness := (true, "78a5e266d567785072bac6cc5620e1871e8e96e7919f6aa008ff8b2cc2421213"), looks := false }, kinds := [], alts := [], laidByText := true, laidKinds := [.data, .pinned], laidTests := true, laidLooks := .later }
def EnvsBackCardSaid : Prop := Claim7.holds Tryd.pinned (.plain (OpenSpec.ofChange envsBackSpec)) envsBackCard

/-- THE TIED CARD OF 'hostellaw03.EnvsScrubs'. -/
def envsScrubsCard : Claim7 := { stood := { row := envsScrubsRow, standIns := [], harness := (true, "78a5e266d567785072bac6cc5620e1871e8e96e7919f6aa008ff8b2cc2421213"), looks := false }, kinds := [], alts := [], laidByText := true, laidKinds := [.data, .pinned], laidTests := true, laidLooks := .later }
def EnvsScrubsCardSaid : Prop := Claim7.holds Tryd.pinned (.plain (OpenSpec.ofChange envsScrubsSpec)) envsScrubsCard

/-- THE TIED CARD OF 'hostellaw03.EnvsPieces'. -/
def envsPiecesCard : Claim7 := { stood := { row := envsPiecesRow, standIns := [], harness := (true, "78a5e266d567785072bac6cc5620e1871e8e96e7919f6aa008ff8b2cc2421213"), looks := false }, kinds := [], alts := [], laidByText := true, laidKinds := [.data, .pinned], laidTests := true, laidLooks := .later }
def EnvsPiecesCardSaid : Prop := Claim7.holds Tryd.pinned (.plain (OpenSpec.ofChange envsPiecesSpec)) envsPiecesCard

/-- THE SECOND FORM's CARD OF 'hostellaw03.EnvsChecks'. -/
def envsChecksUptoCard : Claim7 := { stood := { row := envsChecksUptoRow, standIns := [], harness := (true, "78a5e266d567785072bac6cc5620e1871e8e96e7919f6aa008ff8b2cc2421213"), looks := false }, kinds := [], alts := [], laidByText := true, laidKinds := [.data, .pinned], laidTests := true, laidLooks := .later }
def EnvsChecksUptoCardSaid : Prop := Claim7.holds Tryd.pinned (.plain (OpenSpec.upto envsChecksSpec)) envsChecksUptoCard

/-- THE SECOND FORM's CARD OF 'hostellaw03.EnvsSets'. -/
def envsSetsUptoCard : Claim7 := { stood := { row := envsSetsUptoRow, standIns := [], harness := (true, "78a5e266d567785072bac6cc5620e1871e8e96e7919f6aa008ff8b2cc2421213"), looks := false }, kinds := [], alts := [], laidByText := true, laidKinds := [.data, .pinned], laidTests := true, laidLooks := .later }
def EnvsSetsUptoCardSaid : Prop := Claim7.holds Tryd.pinned (.plain (OpenSpec.upto envsSetsSpec)) envsSetsUptoCard

/-- THE SECOND FORM's CARD OF 'hostellaw03.EnvsBack'. -/
def envsBackUptoCard : Claim7 := { stood := { row := envsBackUptoRow, standIns := [], harness := (true, "78a5e266d567785072bac6cc5620e1871e8e96e7919f6aa008ff8b2cc2421213"), looks := false }, kinds := [], alts := [], laidByText := true, laidKinds := [.data, .pinned], laidTests := true, laidLooks := .later }
def EnvsBackUptoCardSaid : Prop := Claim7.holds Tryd.pinned (.plain (OpenSpec.upto envsBackSpec)) envsBackUptoCard

/-- THE SECOND FORM's CARD OF 'hostellaw03.EnvsScrubs'. -/
def envsScrubsUptoCard : Claim7 := { stood := { row := envsScrubsUptoRow, standIns := [], harness := (true, "78a5e266d567785072bac6cc5620e1871e8e96e7919f6aa008ff8b2cc2421213"), looks := false }, kinds := [], alts := [], laidByText := true, laidKinds := [.data, .pinned], laidTests := true, laidLooks := .later }
def EnvsScrubsUptoCardSaid : Prop := Claim7.holds Tryd.pinned (.plain (OpenSpec.upto envsScrubsSpec)) envsScrubsUptoCard

/-- THE SECOND FORM's CARD OF 'hostellaw03.EnvsPieces'. -/
def envsPiecesUptoCard : Claim7 := { stood := { row := envsPiecesUptoRow, standIns := [], harness := (true, "78a5e266d567785072bac6cc5620e1871e8e96e7919f6aa008ff8b2cc2421213"), looks := false }, kinds := [], alts := [], laidByText := true, laidKinds := [.data, .pinned], laidTests := true, laidLooks := .later }
def EnvsPiecesUptoCardSaid : Prop := Claim7.holds Tryd.pinned (.plain (OpenSpec.upto envsPiecesSpec)) envsPiecesUptoCard
end Rows
end Go.Proofs.YtlcdilgniimnlaaDoor
