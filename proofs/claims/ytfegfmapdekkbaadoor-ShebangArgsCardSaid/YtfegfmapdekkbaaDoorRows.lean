/-
  NARROWER THAN 'FOR EVERY INPUT', by the rows' own cells (each row's printed sentence says how): ShebangParses: laid · ShebangArgs: laid · ShebangSteps: laid · ShebangLines: laid · ShebangNil: laid.
  DERIVED. THE GIVEN ROWS OF THIS SEAT. 5 by the template 'for every input the law returns true; each argument reads behind the call as it read before'; 0 by the template 'total and deterministic' (their statements: YtfegfmapdekkbaaDoorTotals.lean).
  GIVEN WITH THE SEED: the statements are not yours to turn. If you find one false, say at which input.
  Laid BY PROGRAM, IN A SANDBOX (cutbox-rows.mjs): the forced cells as the released guide's own fill.sh prints them over the translation ca031e0d786085e1… (all of the seat's roots in one cut). By AI agents, Wed Nov 11 2026. No macro, syntax, notation, axiom, sorry.
-/
import Derived.Test.YtfegfmapdekkbaaDoorChecked
import GoSem.PinnedTables
import GoSem.Claim
import GoSem.ClaimJoined
import GoSem.ClaimMapViews
import Derived.JoinedTies
import Derived.KernelRfl
namespace Go.Proofs.YtfegfmapdekkbaaDoor
/- THE CELL 'sum', in the pinned program and in every row, IS THE sha256 OF THE DUMP (.gsa) THAT YtfegfmapdekkbaaDoorProg.lean LOADS. Nothing in Lean hashes anything: it is a label: what it is worth is what the hold of that sum in a sandbox is worth. -/
noncomputable def Tryd.pinned : Pinned := { name := "ytfegfmapdekkbaadoor", sum := "ca031e0d786085e140f0cda3fe22a4bf97199206ef77d6cbc2e70ed0472ba734", checked := Tryd.checked }
namespace Rows
def none {H : Type} : Left H := { results := [], args := [] }

/- WHAT THE LISTED PACKAGE-LEVEL VARIABLES READ AS WHEN THE CALL BEGINS. Each datum BY PROGRAM (the guide's laid-datum.mjs) off the statement by which the dump's own 'gosem.cut.vars' lays the variable. In a bare row this is a premise. The card (YtfegfmapdekkbaaDoorCards.lean) ties it to the program's text. -/
def laid_unicode_utf8_acceptRanges {H : Type} : DataW H := .agg [.agg [.lit (.int .u8 128), .lit (.int .u8 191)], .agg [.lit (.int .u8 160), .lit (.int .u8 191)], .agg [.lit (.int .u8 128), .lit (.int .u8 159)], .agg [.lit (.int .u8 144), .lit (.int .u8 191)], .agg [.lit (.int .u8 128), .lit (.int .u8 143)], .agg [.lit (.int .u8 0), .lit (.int .u8 0)], .agg [.lit (.int .u8 0), .lit (.int .u8 0)], .agg [.lit (.int .u8 0), .lit (.int .u8 0)], .agg [.lit (.int .u8 0), .lit (.int .u8 0)], .agg [.lit (.int .u8 0), .lit (.int .u8 0)], .agg [.lit (.int .u8 0), .lit (.int .u8 0)], .agg [.lit (.int .u8 0), .lit (.int .u8 0)], .agg [.lit (.int .u8 0), .lit (.int .u8 0)], .agg [.lit (.int .u8 0), .lit (.int .u8 0)], .agg [.lit (.int .u8 0), .lit (.int .u8 0)], .agg [.lit (.int .u8 0), .lit (.int .u8 0)]]
/-- One of Go's own tables, pinned by name: the form's constant. -/
def laid_unicode_utf8_first : DataW Unit := Go.Pinned.utf8First

/-- 'hostellaw21.ShebangParses': WHATEVER THE INPUT: true; the input reads as it did. -/
def shebangParsesSpec : ChangeSpec := { name := "shebangParses", fn := fun _ => fun
  | [d] => { results := [.lit (.bool true)], args := [d] }
  | _ => none }
def shebangParsesRow : OpenClaim := { program := "ytfegfmapdekkbaadoor", sum := "ca031e0d786085e140f0cda3fe22a4bf97199206ef77d6cbc2e70ed0472ba734", func := "hostel/hostellaw21.ShebangParses", spec := "shebangParses", inPlace := ["internal/bytealg.IndexByteString", "internal/bytealg.IndexString", "internal/bytealg.IndexByte", "internal/bytealg.Index"], unfollowed := true, recurses := true, named := ["internal/bytealg.MaxLen", "unicode/utf8.first", "unicode/utf8.acceptRanges"], apart := false, laid := [("unicode/utf8.acceptRanges", laid_unicode_utf8_acceptRanges), ("unicode/utf8.first", laid_unicode_utf8_first)] }
def ShebangParsesSaid : Prop := shebangParsesRow.holds Tryd.pinned (OpenSpec.ofChange shebangParsesSpec)

/-- ITS FALSE NEIGHBOUR: 'it returns false'. Refute it at one input. -/
def shebangParsesWrong : ChangeSpec := { name := "shebangParses", fn := fun _ => fun
  | [d] => { results := [.lit (.bool false)], args := [d] }
  | _ => none }
def ShebangParsesWrongFalsely : Prop := shebangParsesRow.holds Tryd.pinned (OpenSpec.ofChange shebangParsesWrong)

/-- 'hostellaw21.ShebangArgs': WHATEVER THE INPUT: true; the input reads as it did. -/
def shebangArgsSpec : ChangeSpec := { name := "shebangArgs", fn := fun _ => fun
  | [d1, d2] => { results := [.lit (.bool true)], args := [d1, d2] }
  | _ => none }
def shebangArgsRow : OpenClaim := { program := "ytfegfmapdekkbaadoor", sum := "ca031e0d786085e140f0cda3fe22a4bf97199206ef77d6cbc2e70ed0472ba734", func := "hostel/hostellaw21.ShebangArgs", spec := "shebangArgs", inPlace := ["internal/bytealg.IndexByteString", "internal/bytealg.IndexString", "internal/bytealg.IndexByte", "internal/bytealg.Index"], unfollowed := true, recurses := true, named := ["internal/bytealg.MaxLen", "unicode/utf8.first", "unicode/utf8.acceptRanges"], apart := false, laid := [("unicode/utf8.acceptRanges", laid_unicode_utf8_acceptRanges), ("unicode/utf8.first", laid_unicode_utf8_first)] }
def ShebangArgsSaid : Prop := shebangArgsRow.holds Tryd.pinned (OpenSpec.ofChange shebangArgsSpec)

/-- ITS FALSE NEIGHBOUR: 'it returns false'. Refute it at one input. -/
def shebangArgsWrong : ChangeSpec := { name := "shebangArgs", fn := fun _ => fun
  | [d1, d2] => { results := [.lit (.bool false)], args := [d1, d2] }
  | _ => none }
def ShebangArgsWrongFalsely : Prop := shebangArgsRow.holds Tryd.pinned (OpenSpec.ofChange shebangArgsWrong)

/-- 'hostellaw21.ShebangSteps': WHATEVER THE INPUT: true; the input reads as it did. -/
def shebangStepsSpec : ChangeSpec := { name := "shebangSteps", fn := fun _ => fun
  | [d1, d2, d3] => { results := [.lit (.bool true)], args := [d1, d2, d3] }
  | _ => none }
def shebangStepsRow : OpenClaim := { program := "ytfegfmapdekkbaadoor", sum := "ca031e0d786085e140f0cda3fe22a4bf97199206ef77d6cbc2e70ed0472ba734", func := "hostel/hostellaw21.ShebangSteps", spec := "shebangSteps", inPlace := ["internal/bytealg.IndexByteString", "internal/bytealg.IndexString", "internal/bytealg.IndexByte", "internal/bytealg.Index"], unfollowed := true, recurses := true, named := ["internal/bytealg.MaxLen", "unicode/utf8.first", "unicode/utf8.acceptRanges"], apart := false, laid := [("unicode/utf8.acceptRanges", laid_unicode_utf8_acceptRanges), ("unicode/utf8.first", laid_unicode_utf8_first)] }
def ShebangStepsSaid : Prop := shebangStepsRow.holds Tryd.pinned (OpenSpec.ofChange shebangStepsSpec)

/-- ITS FALSE NEIGHBOUR: 'it returns false'. Refute it at one input. -/
def shebangStepsWrong : ChangeSpec := { name := "shebangSteps", fn := fun _ => fun
  | [d1, d2, d3] => { results := [.lit (.bool false)], args := [d1, d2, d3] }
  | _ => none }
def ShebangStepsWrongFalsely : Prop := shebangStepsRow.holds Tryd.pinned (OpenSpec.ofChange shebangStepsWrong)

/-- 'hostellaw21.ShebangLines': WHATEVER THE INPUT: true; the input reads as it did. -/
def shebangLinesSpec : ChangeSpec := { name := "shebangLines", fn := fun _ => fun
  | [d1, d2, d3] => { results := [.lit (.bool true)], args := [d1, d2, d3] }
  | _ => none }
def shebangLinesRow : OpenClaim := { program := "ytfegfmapdekkbaadoor", sum := "ca031e0d786085e140f0cda3fe22a4bf97199206ef77d6cbc2e70ed0472ba734", func := "hostel/hostellaw21.ShebangLines", spec := "shebangLines", inPlace := ["internal/bytealg.IndexByteString", "internal/bytealg.IndexString", "internal/bytealg.IndexByte", "internal/bytealg.Index"], unfollowed := true, recurses := true, named := ["internal/bytealg.MaxLen", "unicode/utf8.first", "unicode/utf8.acceptRanges"], apart := false, laid := [("unicode/utf8.acceptRanges", laid_unicode_utf8_acceptRanges), ("unicode/utf8.first", laid_unicode_utf8_first)] }
def ShebangLinesSaid : Prop := shebangLinesRow.holds Tryd.pinned (OpenSpec.ofChange shebangLinesSpec)

/-- ITS FALSE NEIGHBOUR: 'it returns false'. Refute it at one input. -/
def shebangLinesWrong : ChangeSpec := { name := "shebangLines", fn := fun _ => fun
  | [d1, d2, d3] => { results := [.lit (.bool false)], args := [d1, d2, d3] }
  | _ => none }
def ShebangLinesWrongFalsely : Prop := shebangLinesRow.holds Tryd.pinned (OpenSpec.ofChange shebangLinesWrong)

/-- 'hostellaw21.ShebangNil': WHATEVER THE INPUT: true; the input reads as it did. -/
def shebangNilSpec : ChangeSpec := { name := "shebangNil", fn := fun _ => fun
  | [d1, d2] => { results := [.lit (.bool true)], args := [d1, d2] }
  | _ => none }
def shebangNilRow : OpenClaim := { program := "ytfegfmapdekkbaadoor", sum := "ca031e0d786085e140f0cda3fe22a4bf97199206ef77d6cbc2e70ed0472ba734", func := "hostel/hostellaw21.ShebangNil", spec := "shebangNil", inPlace := ["internal/bytealg.IndexByteString", "internal/bytealg.IndexString", "internal/bytealg.IndexByte", "internal/bytealg.Index"], unfollowed := true, recurses := true, named := ["internal/bytealg.MaxLen", "unicode/utf8.first", "unicode/utf8.acceptRanges"], apart := false, laid := [("unicode/utf8.acceptRanges", laid_unicode_utf8_acceptRanges), ("unicode/utf8.first", laid_unicode_utf8_first)] }
def ShebangNilSaid : Prop := shebangNilRow.holds Tryd.pinned (OpenSpec.ofChange shebangNilSpec)

/-- ITS FALSE NEIGHBOUR: 'it returns false'. Refute it at one input. -/
def shebangNilWrong : ChangeSpec := { name := "shebangNil", fn := fun _ => fun
  | [d1, d2] => { results := [.lit (.bool false)], args := [d1, d2] }
  | _ => none }
def ShebangNilWrongFalsely : Prop := shebangNilRow.holds Tryd.pinned (OpenSpec.ofChange shebangNilWrong)

/- THE SECOND FORM. 'bulk': how many values and letters a reading holds, each counted each time it is reached (what is shared counts as often as it is met; a slice's spare places count too). A statement '..UptoSaid' is the law's where the arguments, and the package variables that the reading takes, are together of bulk at most 1048576: NARROWER than '..Said'. Prove '..Said' where nothing that the law and all that it calls make is longer than what came in: it says more and counts as full. Else prove '..UptoSaid'. A law counts once. -/
mutual
def uptoBulk {H : Type} : DataW H → Nat
  | .lit (.string bytes) => bytes.length + 1
  | .lit _ => 1
  | .nil => 1
  | .ptr d => uptoBulk d + 1
  | .slice elems spare => uptoBulkAll elems + uptoBulkAll spare + 1
  | .agg parts => uptoBulkAll parts + 1
  | .iface _ d => uptoBulk d + 1
  | .map entries => uptoBulkEntries entries + 1
  | .held _ => 1
def uptoBulkAll {H : Type} : List (DataW H) → Nat
  | [] => 0
  | d :: r => uptoBulk d + uptoBulkAll r
def uptoBulkEntries {H : Type} : List (Lit × DataW H) → Nat
  | [] => 0
  | x :: r => uptoBulkEntry x + uptoBulkEntries r
def uptoBulkEntry {H : Type} : Lit × DataW H → Nat
  | (.string bytes, d) => bytes.length + uptoBulk d + 1
  | (_, d) => uptoBulk d + 1
 end
def uptoSmall : (H : Type) → List (DataW H) → Bool := fun _ ds => decide (uptoBulkAll ds ≤ 1048576)
def OpenSpec.upto (s : _root_.Go.ChangeSpec) : _root_.Go.OpenSpec := { _root_.Go.OpenSpec.ofChange s with cond := some uptoSmall }

/-- 'hostellaw21.ShebangParses', WHERE WHAT IT READS IS OF BULK AT MOST 1048576: true; the input reads as it did. -/
def shebangParsesUptoRow : OpenClaim := { program := "ytfegfmapdekkbaadoor", sum := "ca031e0d786085e140f0cda3fe22a4bf97199206ef77d6cbc2e70ed0472ba734", func := "hostel/hostellaw21.ShebangParses", spec := "shebangParses", inPlace := ["internal/bytealg.IndexByteString", "internal/bytealg.IndexString", "internal/bytealg.IndexByte", "internal/bytealg.Index"], unfollowed := true, recurses := true, named := ["internal/bytealg.MaxLen", "unicode/utf8.first", "unicode/utf8.acceptRanges"], apart := false, laid := [("unicode/utf8.acceptRanges", laid_unicode_utf8_acceptRanges), ("unicode/utf8.first", laid_unicode_utf8_first)], narrowed := true }
def ShebangParsesUptoSaid : Prop := shebangParsesUptoRow.holds Tryd.pinned (OpenSpec.upto shebangParsesSpec)

/-- 'hostellaw21.ShebangArgs', WHERE WHAT IT READS IS OF BULK AT MOST 1048576: true; the input reads as it did. -/
def shebangArgsUptoRow : OpenClaim := { program := "ytfegfmapdekkbaadoor", sum := "ca031e0d786085e140f0cda3fe22a4bf97199206ef77d6cbc2e70ed0472ba734", func := "hostel/hostellaw21.ShebangArgs", spec := "shebangArgs", inPlace := ["internal/bytealg.IndexByteString", "internal/bytealg.IndexString", "internal/bytealg.IndexByte", "internal/bytealg.Index"], unfollowed := true, recurses := true, named := ["internal/bytealg.MaxLen", "unicode/utf8.first", "unicode/utf8.acceptRanges"], apart := false, laid := [("unicode/utf8.acceptRanges", laid_unicode_utf8_acceptRanges), ("unicode/utf8.first", laid_unicode_utf8_first)], narrowed := true }
def ShebangArgsUptoSaid : Prop := shebangArgsUptoRow.holds Tryd.pinned (OpenSpec.upto shebangArgsSpec)

/-- 'hostellaw21.ShebangSteps', WHERE WHAT IT READS IS OF BULK AT MOST 1048576: true; the input reads as it did. -/
def shebangStepsUptoRow : OpenClaim := { program := "ytfegfmapdekkbaadoor", sum := "ca031e0d786085e140f0cda3fe22a4bf97199206ef77d6cbc2e70ed0472ba734", func := "hostel/hostellaw21.ShebangSteps", spec := "shebangSteps", inPlace := ["internal/bytealg.IndexByteString", "internal/bytealg.IndexString", "internal/bytealg.IndexByte", "internal/bytealg.Index"], unfollowed := true, recurses := true, named := ["internal/bytealg.MaxLen", "unicode/utf8.first", "unicode/utf8.acceptRanges"], apart := false, laid := [("unicode/utf8.acceptRanges", laid_unicode_utf8_acceptRanges), ("unicode/utf8.first", laid_unicode_utf8_first)], narrowed := true }
def ShebangStepsUptoSaid : Prop := shebangStepsUptoRow.holds Tryd.pinned (OpenSpec.upto shebangStepsSpec)

/-- 'hostellaw21.ShebangLines', WHERE WHAT IT READS IS OF BULK AT MOST 1048576: true; the input reads as it did. -/
def shebangLinesUptoRow : OpenClaim := { program := "ytfegfmapdekkbaadoor", sum := "ca031e0d786085e140f0cda3fe22a4bf97199206ef77d6cbc2e70ed0472ba734", func := "hostel/hostellaw21.ShebangLines", spec := "shebangLines", inPlace := ["internal/bytealg.IndexByteString", "internal/bytealg.IndexString", "internal/bytealg.IndexByte", "internal/bytealg.Index"], unfollowed := true, recurses := true, named := ["internal/bytealg.MaxLen", "unicode/utf8.first", "unicode/utf8.acceptRanges"], apart := false, laid := [("unicode/utf8.acceptRanges", laid_unicode_utf8_acceptRanges), ("unicode/utf8.first", laid_unicode_utf8_first)], narrowed := true }
def ShebangLinesUptoSaid : Prop := shebangLinesUptoRow.holds Tryd.pinned (OpenSpec.upto shebangLinesSpec)

/-- 'hostellaw21.ShebangNil', WHERE WHAT IT READS IS OF BULK AT MOST 1048576: true; the input reads as it did. -/
def shebangNilUptoRow : OpenClaim := { program := "ytfegfmapdekkbaadoor", sum := "ca031e0d786085e140f0cda3fe22a4bf97199206ef77d6cbc2e70ed0472ba734", func := "hostel/hostellaw21.ShebangNil", spec := "shebangNil", inPlace := ["internal/bytealg.IndexByteString", "internal/bytealg.IndexString", "internal/bytealg.IndexByte", "internal/bytealg.Index"], unfollowed := true, recurses := true, named := ["internal/bytealg.MaxLen", "unicode/utf8.first", "unicode/utf8.acceptRanges"], apart := false, laid := [("unicode/utf8.acceptRanges", laid_unicode_utf8_acceptRanges), ("unicode/utf8.first", laid_unicode_utf8_first)], narrowed := true }
def ShebangNilUptoSaid : Prop := shebangNilUptoRow.holds Tryd.pinned (OpenSpec.upto shebangNilSpec)

end Rows
end Go.Proofs.YtfegfmapdekkbaaDoor
