/-
  NARROWER THAN 'FOR EVERY INPUT', by the rows' own cells (each row's printed sentence says how): ClosureLoads: laid · ClosureFollows: laid · ClosureSecure: laid · ClosureNil: laid.
  DERIVED. THE GIVEN ROWS OF THIS SEAT. 4 by the template 'for every input the law returns true; each argument reads behind the call as it read before'; 0 by the template 'total and deterministic' (their statements: YtiiiblmhlhikkaaGreatDoorTotals.lean).
  GIVEN WITH THE SEED: the statements are not yours to turn. If you find one false, say at which input.
  Laid BY PROGRAM, IN A SANDBOX (cutbox-rows.mjs): the forced cells as the released guide's own fill.sh prints them over the translation eff068af42a25e30… (all of the seat's roots in one cut). By AI agents, Wed Nov 11 2026. No macro, syntax, notation, axiom, sorry.
-/
import Derived.Test.YtiiiblmhlhikkaaGreatDoorChecked
import GoSem.PinnedTables
import GoSem.Claim
import GoSem.ClaimJoined
import GoSem.ClaimMapViews
import Derived.JoinedTies
import Derived.KernelRfl
namespace Go.Proofs.YtiiiblmhlhikkaaGreatDoor
/- THE CELL 'sum', in the pinned program and in every row, IS THE sha256 OF THE DUMP (.gsa) THAT YtiiiblmhlhikkaaGreatDoorProg.lean LOADS. Nothing in Lean hashes anything: it is a label: what it is worth is what the hold of that sum in a sandbox is worth. -/
noncomputable def Tryz.pinned : Pinned := { name := "ytiiiblmhlhikkaagreatdoor", sum := "eff068af42a25e30df38e307fc4e0888666e7bc053f0cf97d32d2701528acde0", checked := Tryz.checked }
namespace Rows
def none {H : Type} : Left H := { results := [], args := [] }

/- WHAT THE LISTED PACKAGE-LEVEL VARIABLES READ AS WHEN THE CALL BEGINS. Each datum BY PROGRAM (the guide's laid-datum.mjs) off the statement by which the dump's own 'gosem.cut.vars' lays the variable. In a bare row this is a premise. The card (YtiiiblmhlhikkaaGreatDoorCards.lean) ties it to the program's text. -/
def laid_unicode_utf8_acceptRanges {H : Type} : DataW H := .agg [.agg [.lit (.int .u8 128), .lit (.int .u8 191)], .agg [.lit (.int .u8 160), .lit (.int .u8 191)], .agg [.lit (.int .u8 128), .lit (.int .u8 159)], .agg [.lit (.int .u8 144), .lit (.int .u8 191)], .agg [.lit (.int .u8 128), .lit (.int .u8 143)], .agg [.lit (.int .u8 0), .lit (.int .u8 0)], .agg [.lit (.int .u8 0), .lit (.int .u8 0)], .agg [.lit (.int .u8 0), .lit (.int .u8 0)], .agg [.lit (.int .u8 0), .lit (.int .u8 0)], .agg [.lit (.int .u8 0), .lit (.int .u8 0)], .agg [.lit (.int .u8 0), .lit (.int .u8 0)], .agg [.lit (.int .u8 0), .lit (.int .u8 0)], .agg [.lit (.int .u8 0), .lit (.int .u8 0)], .agg [.lit (.int .u8 0), .lit (.int .u8 0)], .agg [.lit (.int .u8 0), .lit (.int .u8 0)], .agg [.lit (.int .u8 0), .lit (.int .u8 0)]]
/-- One of Go's own tables, pinned by name: the form's constant. -/
def laid_unicode_utf8_first : DataW Unit := Go.Pinned.utf8First

/-- 'hostellaw16.ClosureLoads': WHATEVER THE INPUT: true; the input reads as it did. -/
def closureLoadsSpec : ChangeSpec := { name := "closureLoads", fn := fun _ => fun
  | [d1, d2, d3] => { results := [.lit (.bool true)], args := [d1, d2, d3] }
  | _ => none }
def closureLoadsRow : OpenClaim := { program := "ytiiiblmhlhikkaagreatdoor", sum := "eff068af42a25e30df38e307fc4e0888666e7bc053f0cf97d32d2701528acde0", func := "hostel/hostellaw16.ClosureLoads", spec := "closureLoads", inPlace := ["internal/bytealg.IndexByteString", "internal/bytealg.IndexString", "internal/bytealg.IndexByte", "internal/bytealg.Index"], unfollowed := true, recurses := true, named := ["internal/bytealg.MaxLen", "unicode/utf8.first", "unicode/utf8.acceptRanges"], apart := false, laid := [("unicode/utf8.acceptRanges", laid_unicode_utf8_acceptRanges), ("unicode/utf8.first", laid_unicode_utf8_first)] }
def ClosureLoadsSaid : Prop := closureLoadsRow.holds Tryz.pinned (OpenSpec.ofChange closureLoadsSpec)

/-- ITS FALSE NEIGHBOUR: 'it returns false'. Refute it at one input. -/
def closureLoadsWrong : ChangeSpec := { name := "closureLoads", fn := fun _ => fun
  | [d1, d2, d3] => { results := [.lit (.bool false)], args := [d1, d2, d3] }
  | _ => none }
def ClosureLoadsWrongFalsely : Prop := closureLoadsRow.holds Tryz.pinned (OpenSpec.ofChange closureLoadsWrong)

/-- 'hostellaw16.ClosureFollows': WHATEVER THE INPUT: true; the input reads as it did. -/
def closureFollowsSpec : ChangeSpec := { name := "closureFollows", fn := fun _ => fun
  | [d1, d2, d3] => { results := [.lit (.bool true)], args := [d1, d2, d3] }
  | _ => none }
def closureFollowsRow : OpenClaim := { program := "ytiiiblmhlhikkaagreatdoor", sum := "eff068af42a25e30df38e307fc4e0888666e7bc053f0cf97d32d2701528acde0", func := "hostel/hostellaw16.ClosureFollows", spec := "closureFollows", inPlace := ["internal/bytealg.IndexByteString", "internal/bytealg.IndexString", "internal/bytealg.IndexByte", "internal/bytealg.Index"], unfollowed := true, recurses := true, named := ["internal/bytealg.MaxLen", "unicode/utf8.first", "unicode/utf8.acceptRanges"], apart := false, laid := [("unicode/utf8.acceptRanges", laid_unicode_utf8_acceptRanges), ("unicode/utf8.first", laid_unicode_utf8_first)] }
def ClosureFollowsSaid : Prop := closureFollowsRow.holds Tryz.pinned (OpenSpec.ofChange closureFollowsSpec)

/-- ITS FALSE NEIGHBOUR: 'it returns false'. Refute it at one input. -/
def closureFollowsWrong : ChangeSpec := { name := "closureFollows", fn := fun _ => fun
  | [d1, d2, d3] => { results := [.lit (.bool false)], args := [d1, d2, d3] }
  | _ => none }
def ClosureFollowsWrongFalsely : Prop := closureFollowsRow.holds Tryz.pinned (OpenSpec.ofChange closureFollowsWrong)

/-- 'hostellaw16.ClosureSecure': WHATEVER THE INPUT: true; the input reads as it did. -/
def closureSecureSpec : ChangeSpec := { name := "closureSecure", fn := fun _ => fun
  | [d1, d2, d3] => { results := [.lit (.bool true)], args := [d1, d2, d3] }
  | _ => none }
def closureSecureRow : OpenClaim := { program := "ytiiiblmhlhikkaagreatdoor", sum := "eff068af42a25e30df38e307fc4e0888666e7bc053f0cf97d32d2701528acde0", func := "hostel/hostellaw16.ClosureSecure", spec := "closureSecure", inPlace := ["internal/bytealg.IndexByteString", "internal/bytealg.IndexString", "internal/bytealg.IndexByte", "internal/bytealg.Index"], unfollowed := true, recurses := true, named := ["internal/bytealg.MaxLen", "unicode/utf8.first", "unicode/utf8.acceptRanges"], apart := false, laid := [("unicode/utf8.acceptRanges", laid_unicode_utf8_acceptRanges), ("unicode/utf8.first", laid_unicode_utf8_first)] }
def ClosureSecureSaid : Prop := closureSecureRow.holds Tryz.pinned (OpenSpec.ofChange closureSecureSpec)

/-- ITS FALSE NEIGHBOUR: 'it returns false'. Refute it at one input. -/
def closureSecureWrong : ChangeSpec := { name := "closureSecure", fn := fun _ => fun
  | [d1, d2, d3] => { results := [.lit (.bool false)], args := [d1, d2, d3] }
  | _ => none }
def ClosureSecureWrongFalsely : Prop := closureSecureRow.holds Tryz.pinned (OpenSpec.ofChange closureSecureWrong)

/-- 'hostellaw16.ClosureNil': WHATEVER THE INPUT: true; the input reads as it did. -/
def closureNilSpec : ChangeSpec := { name := "closureNil", fn := fun _ => fun
  | [d1, d2] => { results := [.lit (.bool true)], args := [d1, d2] }
  | _ => none }
def closureNilRow : OpenClaim := { program := "ytiiiblmhlhikkaagreatdoor", sum := "eff068af42a25e30df38e307fc4e0888666e7bc053f0cf97d32d2701528acde0", func := "hostel/hostellaw16.ClosureNil", spec := "closureNil", inPlace := ["internal/bytealg.IndexByte", "internal/bytealg.Index", "internal/bytealg.IndexByteString", "internal/bytealg.IndexString"], unfollowed := true, recurses := true, named := ["internal/bytealg.MaxLen", "unicode/utf8.first", "unicode/utf8.acceptRanges"], apart := false, laid := [("unicode/utf8.acceptRanges", laid_unicode_utf8_acceptRanges), ("unicode/utf8.first", laid_unicode_utf8_first)] }
def ClosureNilSaid : Prop := closureNilRow.holds Tryz.pinned (OpenSpec.ofChange closureNilSpec)

/-- ITS FALSE NEIGHBOUR: 'it returns false'. Refute it at one input. -/
def closureNilWrong : ChangeSpec := { name := "closureNil", fn := fun _ => fun
  | [d1, d2] => { results := [.lit (.bool false)], args := [d1, d2] }
  | _ => none }
def ClosureNilWrongFalsely : Prop := closureNilRow.holds Tryz.pinned (OpenSpec.ofChange closureNilWrong)

/- THE SECOND FORM. 'bulk': how many values and letters a reading holds, each counted each time it is reached (what is shared counts as often as it is met; a slice's spare places count too). A statement '..UptoSaid' is the law's where the arguments, and the package variables that the reading takes, are together of bulk at most 1048576: NARROWER than '..Said'. Prove '..Said' where nothing that the law and all that it calls make is longer than what came in: it says more and counts as full. Else prove '..UptoSaid'. A law counts once. -/
mutual
def uptoBulk {H : Type} : DataW H → Nat
  | .lit (.string bytes) => bytes.length + 1
  | .lit _ => 1
  | .nil => 1
  | .ptr d => uptoBulk d + 1
  | .slice elems spare => uptoBulkAll elems + uptoBulkAll spare + 1
  | .agg parts => uptoBulkAll parts + 1
  | .iface _ d => uptoBulk d + 1
  | .map entries => uptoBulkEntries entries + 1
  | .held _ => 1
def uptoBulkAll {H : Type} : List (DataW H) → Nat
  | [] => 0
  | d :: r => uptoBulk d + uptoBulkAll r
def uptoBulkEntries {H : Type} : List (Lit × DataW H) → Nat
  | [] => 0
  | x :: r => uptoBulkEntry x + uptoBulkEntries r
def uptoBulkEntry {H : Type} : Lit × DataW H → Nat
  | (.string bytes, d) => bytes.length + uptoBulk d + 1
  | (_, d) => uptoBulk d + 1
 end
def uptoSmall : (H : Type) → List (DataW H) → Bool := fun _ ds => decide (uptoBulkAll ds ≤ 1048576)
def OpenSpec.upto (s : _root_.Go.ChangeSpec) : _root_.Go.OpenSpec := { _root_.Go.OpenSpec.ofChange s with cond := some uptoSmall }

/-- 'hostellaw16.ClosureLoads', WHERE WHAT IT READS IS OF BULK AT MOST 1048576: true; the input reads as it did. -/
def closureLoadsUptoRow : OpenClaim := { program := "ytiiiblmhlhikkaagreatdoor", sum := "eff068af42a25e30df38e307fc4e0888666e7bc053f0cf97d32d2701528acde0", func := "hostel/hostellaw16.ClosureLoads", spec := "closureLoads", inPlace := ["internal/bytealg.IndexByteString", "internal/bytealg.IndexString", "internal/bytealg.IndexByte", "internal/bytealg.Index"], unfollowed := true, recurses := true, named := ["internal/bytealg.MaxLen", "unicode/utf8.first", "unicode/utf8.acceptRanges"], apart := false, laid := [("unicode/utf8.acceptRanges", laid_unicode_utf8_acceptRanges), ("unicode/utf8.first", laid_unicode_utf8_first)], narrowed := true }
def ClosureLoadsUptoSaid : Prop := closureLoadsUptoRow.holds Tryz.pinned (OpenSpec.upto closureLoadsSpec)

/-- 'hostellaw16.ClosureFollows', WHERE WHAT IT READS IS OF BULK AT MOST 1048576: true; the input reads as it did. -/
def closureFollowsUptoRow : OpenClaim := { program := "ytiiiblmhlhikkaagreatdoor", sum := "eff068af42a25e30df38e307fc4e0888666e7bc053f0cf97d32d2701528acde0", func := "hostel/hostellaw16.ClosureFollows", spec := "closureFollows", inPlace := ["internal/bytealg.IndexByteString", "internal/bytealg.IndexString", "internal/bytealg.IndexByte", "internal/bytealg.Index"], unfollowed := true, recurses := true, named := ["internal/bytealg.MaxLen", "unicode/utf8.first", "unicode/utf8.acceptRanges"], apart := false, laid := [("unicode/utf8.acceptRanges", laid_unicode_utf8_acceptRanges), ("unicode/utf8.first", laid_unicode_utf8_first)], narrowed := true }
def ClosureFollowsUptoSaid : Prop := closureFollowsUptoRow.holds Tryz.pinned (OpenSpec.upto closureFollowsSpec)

/-- 'hostellaw16.ClosureSecure', WHERE WHAT IT READS IS OF BULK AT MOST 1048576: true; the input reads as it did. -/
def closureSecureUptoRow : OpenClaim := { program := "ytiiiblmhlhikkaagreatdoor", sum := "eff068af42a25e30df38e307fc4e0888666e7bc053f0cf97d32d2701528acde0", func := "hostel/hostellaw16.ClosureSecure", spec := "closureSecure", inPlace := ["internal/bytealg.IndexByteString", "internal/bytealg.IndexString", "internal/bytealg.IndexByte", "internal/bytealg.Index"], unfollowed := true, recurses := true, named := ["internal/bytealg.MaxLen", "unicode/utf8.first", "unicode/utf8.acceptRanges"], apart := false, laid := [("unicode/utf8.acceptRanges", laid_unicode_utf8_acceptRanges), ("unicode/utf8.first", laid_unicode_utf8_first)], narrowed := true }
def ClosureSecureUptoSaid : Prop := closureSecureUptoRow.holds Tryz.pinned (OpenSpec.upto closureSecureSpec)

/-- 'hostellaw16.ClosureNil', WHERE WHAT IT READS IS OF BULK AT MOST 1048576: true; the input reads as it did. -/
def closureNilUptoRow : OpenClaim := { program := "ytiiiblmhlhikkaagreatdoor", sum := "eff068af42a25e30df38e307fc4e0888666e7bc053f0cf97d32d2701528acde0", func := "hostel/hostellaw16.ClosureNil", spec := "closureNil", inPlace := ["internal/bytealg.IndexByte", "internal/bytealg.Index", "internal/bytealg.IndexByteString", "internal/bytealg.IndexString"], unfollowed := true, recurses := true, named := ["internal/bytealg.MaxLen", "unicode/utf8.first", "unicode/utf8.acceptRanges"], apart := false, laid := [("unicode/utf8.acceptRanges", laid_unicode_utf8_acceptRanges), ("unicode/utf8.first", laid_unicode_utf8_first)], narrowed := true }
def ClosureNilUptoSaid : Prop := closureNilUptoRow.holds Tryz.pinned (OpenSpec.upto closureNilSpec)

end Rows
end Go.Proofs.YtiiiblmhlhikkaaGreatDoor
