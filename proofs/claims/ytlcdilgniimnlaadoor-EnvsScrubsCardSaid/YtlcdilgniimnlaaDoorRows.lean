/-
  NARROWER THAN 'FOR EVERY INPUT', by the rows' own cells (each row's printed sentence says how): EnvsChecks: laid · EnvsSets: laid · EnvsBack: laid · EnvsScrubs: laid · EnvsPieces: laid.
  DERIVED. THE GIVEN ROWS OF THIS SEAT. 5 by the template 'for every input the law returns true; each argument reads behind the call as it read before'; 0 by the template 'total and deterministic' (their statements: YtlcdilgniimnlaaDoorTotals.lean).
  GIVEN WITH THE SEED: the statements are not yours to turn. If you find one false, say at which input.
  Laid BY PROGRAM, IN A SANDBOX (cutbox-rows.mjs): the forced cells as the released guide's own fill.sh prints them over the translation d5409478b5ceb647… (all of the seat's roots in one cut). By AI agents, Wed Nov 11 2026. No macro, syntax, notation, axiom, sorry.
-/
import Derived.Test.YtlcdilgniimnlaaDoorChecked
import GoSem.PinnedTables
import GoSem.Claim
import GoSem.ClaimJoined
import GoSem.ClaimMapViews
import Derived.JoinedTies
import Derived.KernelRfl
namespace Go.Proofs.YtlcdilgniimnlaaDoor
/- THE CELL 'sum', in the pinned program and in every row, IS THE sha256 OF THE DUMP (.gsa) THAT YtlcdilgniimnlaaDoorProg.lean LOADS. Nothing in Lean hashes anything: it is a label: what it is worth is what the hold of that sum in a sandbox is worth. -/
noncomputable def Tryd.pinned : Pinned := { name := "ytlcdilgniimnlaadoor", sum := "d5409478b5ceb6473d0a1c0360f24c4a50c533b95012529ab5380cd98f642d41", checked := Tryd.checked }
namespace Rows
def none {H : Type} : Left H := { results := [], args := [] }

/- WHAT THE LISTED PACKAGE-LEVEL VARIABLES READ AS WHEN THE CALL BEGINS. Each datum BY PROGRAM (the guide's laid-datum.mjs) off the statement by which the dump's own 'gosem.cut.vars' lays the variable. In a bare row this is a premise. The card (YtlcdilgniimnlaaDoorCards.lean) ties it to the program's text. -/
def laid_unicode_utf8_acceptRanges {H : Type} : DataW H := .agg [.agg [.lit (.int .u8 128), .lit (.int .u8 191)], .agg [.lit (.int .u8 160), .lit (.int .u8 191)], .agg [.lit (.int .u8 128), .lit (.int .u8 159)], .agg [.lit (.int .u8 144), .lit (.int .u8 191)], .agg [.lit (.int .u8 128), .lit (.int .u8 143)], .agg [.lit (.int .u8 0), .lit (.int .u8 0)], .agg [.lit (.int .u8 0), .lit (.int .u8 0)], .agg [.lit (.int .u8 0), .lit (.int .u8 0)], .agg [.lit (.int .u8 0), .lit (.int .u8 0)], .agg [.lit (.int .u8 0), .lit (.int .u8 0)], .agg [.lit (.int .u8 0), .lit (.int .u8 0)], .agg [.lit (.int .u8 0), .lit (.int .u8 0)], .agg [.lit (.int .u8 0), .lit (.int .u8 0)], .agg [.lit (.int .u8 0), .lit (.int .u8 0)], .agg [.lit (.int .u8 0), .lit (.int .u8 0)], .agg [.lit (.int .u8 0), .lit (.int .u8 0)]]
/-- One of Go's own tables, pinned by name: the form's constant. -/
def laid_unicode_utf8_first : DataW Unit := Go.Pinned.utf8First

/-- 'hostellaw03.EnvsChecks': WHATEVER THE INPUT: true; the input reads as it did. -/
def envsChecksSpec : ChangeSpec := { name := "envsChecks", fn := fun _ => fun
  | [d1, d2] => { results := [.lit (.bool true)], args := [d1, d2] }
  | _ => none }
def envsChecksRow : OpenClaim := { program := "ytlcdilgniimnlaadoor", sum := "d5409478b5ceb6473d0a1c0360f24c4a50c533b95012529ab5380cd98f642d41", func := "hostel/hostellaw03.EnvsChecks", spec := "envsChecks", inPlace := ["internal/bytealg.IndexByteString", "internal/bytealg.IndexString"], unfollowed := true, recurses := true, named := ["internal/bytealg.MaxLen", "unicode/utf8.first", "unicode/utf8.acceptRanges"], apart := false, laid := [("unicode/utf8.acceptRanges", laid_unicode_utf8_acceptRanges), ("unicode/utf8.first", laid_unicode_utf8_first)] }
def EnvsChecksSaid : Prop := envsChecksRow.holds Tryd.pinned (OpenSpec.ofChange envsChecksSpec)

/-- ITS FALSE NEIGHBOUR: 'it returns false'. Refute it at one input. -/
def envsChecksWrong : ChangeSpec := { name := "envsChecks", fn := fun _ => fun
  | [d1, d2] => { results := [.lit (.bool false)], args := [d1, d2] }
  | _ => none }
def EnvsChecksWrongFalsely : Prop := envsChecksRow.holds Tryd.pinned (OpenSpec.ofChange envsChecksWrong)

/-- 'hostellaw03.EnvsSets': WHATEVER THE INPUT: true; the input reads as it did. -/
def envsSetsSpec : ChangeSpec := { name := "envsSets", fn := fun _ => fun
  | [d1, d2, d3] => { results := [.lit (.bool true)], args := [d1, d2, d3] }
  | _ => none }
def envsSetsRow : OpenClaim := { program := "ytlcdilgniimnlaadoor", sum := "d5409478b5ceb6473d0a1c0360f24c4a50c533b95012529ab5380cd98f642d41", func := "hostel/hostellaw03.EnvsSets", spec := "envsSets", inPlace := ["internal/bytealg.IndexByteString", "internal/bytealg.IndexString"], unfollowed := true, recurses := true, named := ["internal/bytealg.MaxLen", "unicode/utf8.first", "unicode/utf8.acceptRanges"], apart := false, laid := [("unicode/utf8.acceptRanges", laid_unicode_utf8_acceptRanges), ("unicode/utf8.first", laid_unicode_utf8_first)] }
def EnvsSetsSaid : Prop := envsSetsRow.holds Tryd.pinned (OpenSpec.ofChange envsSetsSpec)

/-- ITS FALSE NEIGHBOUR: 'it returns false'. Refute it at one input. -/
def envsSetsWrong : ChangeSpec := { name := "envsSets", fn := fun _ => fun
  | [d1, d2, d3] => { results := [.lit (.bool false)], args := [d1, d2, d3] }
  | _ => none }
def EnvsSetsWrongFalsely : Prop := envsSetsRow.holds Tryd.pinned (OpenSpec.ofChange envsSetsWrong)

/-- 'hostellaw03.EnvsBack': WHATEVER THE INPUT: true; the input reads as it did. -/
def envsBackSpec : ChangeSpec := { name := "envsBack", fn := fun _ => fun
  | [d1, d2, d3] => { results := [.lit (.bool true)], args := [d1, d2, d3] }
  | _ => none }
def envsBackRow : OpenClaim := { program := "ytlcdilgniimnlaadoor", sum := "d5409478b5ceb6473d0a1c0360f24c4a50c533b95012529ab5380cd98f642d41", func := "hostel/hostellaw03.EnvsBack", spec := "envsBack", inPlace := ["internal/bytealg.IndexByteString", "internal/bytealg.IndexString"], unfollowed := true, recurses := true, named := ["internal/bytealg.MaxLen", "unicode/utf8.first", "unicode/utf8.acceptRanges"], apart := false, laid := [("unicode/utf8.acceptRanges", laid_unicode_utf8_acceptRanges), ("unicode/utf8.first", laid_unicode_utf8_first)] }
def EnvsBackSaid : Prop := envsBackRow.holds Tryd.pinned (OpenSpec.ofChange envsBackSpec)

/-- ITS FALSE NEIGHBOUR: 'it returns false'. Refute it at one input. -/
def envsBackWrong : ChangeSpec := { name := "envsBack", fn := fun _ => fun
  | [d1, d2, d3] => { results := [.lit (.bool false)], args := [d1, d2, d3] }
  | _ => none }
def EnvsBackWrongFalsely : Prop := envsBackRow.holds Tryd.pinned (OpenSpec.ofChange envsBackWrong)

/-- 'hostellaw03.EnvsScrubs': WHATEVER THE INPUT: true; the input reads as it did. -/
def envsScrubsSpec : ChangeSpec := { name := "envsScrubs", fn := fun _ => fun
  | [d] => { results := [.lit (.bool true)], args := [d] }
  | _ => none }
def envsScrubsRow : OpenClaim := { program := "ytlcdilgniimnlaadoor", sum := "d5409478b5ceb6473d0a1c0360f24c4a50c533b95012529ab5380cd98f642d41", func := "hostel/hostellaw03.EnvsScrubs", spec := "envsScrubs", inPlace := ["internal/bytealg.IndexByteString", "internal/bytealg.IndexString"], unfollowed := true, recurses := true, named := ["internal/bytealg.MaxLen", "unicode/utf8.first", "unicode/utf8.acceptRanges"], apart := false, laid := [("unicode/utf8.acceptRanges", laid_unicode_utf8_acceptRanges), ("unicode/utf8.first", laid_unicode_utf8_first)] }
def EnvsScrubsSaid : Prop := envsScrubsRow.holds Tryd.pinned (OpenSpec.ofChange envsScrubsSpec)

/-- ITS FALSE NEIGHBOUR: 'it returns false'. Refute it at one input. -/
def envsScrubsWrong : ChangeSpec := { name := "envsScrubs", fn := fun _ => fun
  | [d] => { results := [.lit (.bool false)], args := [d] }
  | _ => none }
def EnvsScrubsWrongFalsely : Prop := envsScrubsRow.holds Tryd.pinned (OpenSpec.ofChange envsScrubsWrong)

/-- 'hostellaw03.EnvsPieces': WHATEVER THE INPUT: true; the input reads as it did. -/
def envsPiecesSpec : ChangeSpec := { name := "envsPieces", fn := fun _ => fun
  | [d] => { results := [.lit (.bool true)], args := [d] }
  | _ => none }
def envsPiecesRow : OpenClaim := { program := "ytlcdilgniimnlaadoor", sum := "d5409478b5ceb6473d0a1c0360f24c4a50c533b95012529ab5380cd98f642d41", func := "hostel/hostellaw03.EnvsPieces", spec := "envsPieces", inPlace := ["internal/bytealg.IndexByteString", "internal/bytealg.IndexString"], unfollowed := true, recurses := true, named := ["internal/bytealg.MaxLen", "unicode/utf8.first", "unicode/utf8.acceptRanges"], apart := false, laid := [("unicode/utf8.acceptRanges", laid_unicode_utf8_acceptRanges), ("unicode/utf8.first", laid_unicode_utf8_first)] }
def EnvsPiecesSaid : Prop := envsPiecesRow.holds Tryd.pinned (OpenSpec.ofChange envsPiecesSpec)

/-- ITS FALSE NEIGHBOUR: 'it returns false'. Refute it at one input. -/
def envsPiecesWrong : ChangeSpec := { name := "envsPieces", fn := fun _ => fun
  | [d] => { results := [.lit (.bool false)], args := [d] }
  | _ => none }
def EnvsPiecesWrongFalsely : Prop := envsPiecesRow.holds Tryd.pinned (OpenSpec.ofChange envsPiecesWrong)

/- THE SECOND FORM. 'bulk': how many values and letters a reading holds, each counted each time it is reached (what is shared counts as often as it is met; a slice's spare places count too). A statement '..UptoSaid' is the law's where the arguments, and the package variables that the reading takes, are together of bulk at most 1048576: NARROWER than '..Said'. Prove '..Said' where nothing that the law and all that it calls make is longer than what came in: it says more and counts as full. Else prove '..UptoSaid'. A law counts once. -/
mutual
def uptoBulk {H : Type} : DataW H → Nat
  | .lit (.string bytes) => bytes.length + 1
  | .lit _ => 1
  | .nil => 1
  | .ptr d => uptoBulk d + 1
  | .slice elems spare => uptoBulkAll elems + uptoBulkAll spare + 1
  | .agg parts => uptoBulkAll parts + 1
  | .iface _ d => uptoBulk d + 1
  | .map entries => uptoBulkEntries entries + 1
  | .held _ => 1
def uptoBulkAll {H : Type} : List (DataW H) → Nat
  | [] => 0
  | d :: r => uptoBulk d + uptoBulkAll r
def uptoBulkEntries {H : Type} : List (Lit × DataW H) → Nat
  | [] => 0
  | x :: r => uptoBulkEntry x + uptoBulkEntries r
def uptoBulkEntry {H : Type} : Lit × DataW H → Nat
  | (.string bytes, d) => bytes.length + uptoBulk d + 1
  | (_, d) => uptoBulk d + 1
 end
def uptoSmall : (H : Type) → List (DataW H) → Bool := fun _ ds => decide (uptoBulkAll ds ≤ 1048576)
def OpenSpec.upto (s : _root_.Go.ChangeSpec) : _root_.Go.OpenSpec := { _root_.Go.OpenSpec.ofChange s with cond := some uptoSmall }

/-- 'hostellaw03.EnvsChecks', WHERE WHAT IT READS IS OF BULK AT MOST 1048576: true; the input reads as it did. -/
def envsChecksUptoRow : OpenClaim := { program := "ytlcdilgniimnlaadoor", sum := "d5409478b5ceb6473d0a1c0360f24c4a50c533b95012529ab5380cd98f642d41", func := "hostel/hostellaw03.EnvsChecks", spec := "envsChecks", inPlace := ["internal/bytealg.IndexByteString", "internal/bytealg.IndexString"], unfollowed := true, recurses := true, named := ["internal/bytealg.MaxLen", "unicode/utf8.first", "unicode/utf8.acceptRanges"], apart := false, laid := [("unicode/utf8.acceptRanges", laid_unicode_utf8_acceptRanges), ("unicode/utf8.first", laid_unicode_utf8_first)], narrowed := true }
def EnvsChecksUptoSaid : Prop := envsChecksUptoRow.holds Tryd.pinned (OpenSpec.upto envsChecksSpec)

/-- 'hostellaw03.EnvsSets', WHERE WHAT IT READS IS OF BULK AT MOST 1048576: true; the input reads as it did. -/
def envsSetsUptoRow : OpenClaim := { program := "ytlcdilgniimnlaadoor", sum := "d5409478b5ceb6473d0a1c0360f24c4a50c533b95012529ab5380cd98f642d41", func := "hostel/hostellaw03.EnvsSets", spec := "envsSets", inPlace := ["internal/bytealg.IndexByteString", "internal/bytealg.IndexString"], unfollowed := true, recurses := true, named := ["internal/bytealg.MaxLen", "unicode/utf8.first", "unicode/utf8.acceptRanges"], apart := false, laid := [("unicode/utf8.acceptRanges", laid_unicode_utf8_acceptRanges), ("unicode/utf8.first", laid_unicode_utf8_first)], narrowed := true }
def EnvsSetsUptoSaid : Prop := envsSetsUptoRow.holds Tryd.pinned (OpenSpec.upto envsSetsSpec)

/-- 'hostellaw03.EnvsBack', WHERE WHAT IT READS IS OF BULK AT MOST 1048576: true; the input reads as it did. -/
def envsBackUptoRow : OpenClaim := { program := "ytlcdilgniimnlaadoor", sum := "d5409478b5ceb6473d0a1c0360f24c4a50c533b95012529ab5380cd98f642d41", func := "hostel/hostellaw03.EnvsBack", spec := "envsBack", inPlace := ["internal/bytealg.IndexByteString", "internal/bytealg.IndexString"], unfollowed := true, recurses := true, named := ["internal/bytealg.MaxLen", "unicode/utf8.first", "unicode/utf8.acceptRanges"], apart := false, laid := [("unicode/utf8.acceptRanges", laid_unicode_utf8_acceptRanges), ("unicode/utf8.first", laid_unicode_utf8_first)], narrowed := true }
def EnvsBackUptoSaid : Prop := envsBackUptoRow.holds Tryd.pinned (OpenSpec.upto envsBackSpec)

/-- 'hostellaw03.EnvsScrubs', WHERE WHAT IT READS IS OF BULK AT MOST 1048576: true; the input reads as it did. -/
def envsScrubsUptoRow : OpenClaim := { program := "ytlcdilgniimnlaadoor", sum := "d5409478b5ceb6473d0a1c0360f24c4a50c533b95012529ab5380cd98f642d41", func := "hostel/hostellaw03.EnvsScrubs", spec := "envsScrubs", inPlace := ["internal/bytealg.IndexByteString", "internal/bytealg.IndexString"], unfollowed := true, recurses := true, named := ["internal/bytealg.MaxLen", "unicode/utf8.first", "unicode/utf8.acceptRanges"], apart := false, laid := [("unicode/utf8.acceptRanges", laid_unicode_utf8_acceptRanges), ("unicode/utf8.first", laid_unicode_utf8_first)], narrowed := true }
def EnvsScrubsUptoSaid : Prop := envsScrubsUptoRow.holds Tryd.pinned (OpenSpec.upto envsScrubsSpec)

/-- 'hostellaw03.EnvsPieces', WHERE WHAT IT READS IS OF BULK AT MOST 1048576: true; the input reads as it did. -/
def envsPiecesUptoRow : OpenClaim := { program := "ytlcdilgniimnlaadoor", sum := "d5409478b5ceb6473d0a1c0360f24c4a50c533b95012529ab5380cd98f642d41", func := "hostel/hostellaw03.EnvsPieces", spec := "envsPieces", inPlace := ["internal/bytealg.IndexByteString", "internal/bytealg.IndexString"], unfollowed := true, recurses := true, named := ["internal/bytealg.MaxLen", "unicode/utf8.first", "unicode/utf8.acceptRanges"], apart := false, laid := [("unicode/utf8.acceptRanges", laid_unicode_utf8_acceptRanges), ("unicode/utf8.first", laid_unicode_utf8_first)], narrowed := true }
def EnvsPiecesUptoSaid : Prop := envsPiecesUptoRow.holds Tryd.pinned (OpenSpec.upto envsPiecesSpec)

end Rows
end Go.Proofs.YtlcdilgniimnlaaDoor
