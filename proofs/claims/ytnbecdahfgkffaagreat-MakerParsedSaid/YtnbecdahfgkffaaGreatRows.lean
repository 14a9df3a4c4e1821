/-
  No cell of these rows narrows 'for every input' (looked for: loops, veiled, ifaces, maps, wideKeys, modest, calm, conditions, laid).
  DERIVED. THE GIVEN ROWS OF THIS SEAT. 3 by the template 'for every input the law returns true; each argument reads behind the call as it read before'; 0 by the template 'total and deterministic' (their statements: YtnbecdahfgkffaaGreatTotals.lean).
  GIVEN WITH THE SEED: the statements are not yours to turn. If you find one false, say at which input.
  Laid BY PROGRAM, IN A SANDBOX (cutbox-rows.mjs): the forced cells as the released guide's own fill.sh prints them over the translation 838cd4c6485476cd… (all of the seat's roots in one cut). By AI agents, Wed Nov 11 2026. No macro, syntax, notation, axiom, sorry.
-/
import Derived.Test.YtnbecdahfgkffaaGreatChecked
import GoSem.Claim
import GoSem.ClaimJoined
import GoSem.ClaimMapViews
import Derived.JoinedTies
import Derived.KernelRfl
namespace Go.Proofs.YtnbecdahfgkffaaGreat
/- THE CELL 'sum', in the pinned program and in every row, IS THE sha256 OF THE DUMP (.gsa) THAT YtnbecdahfgkffaaGreatProg.lean LOADS. Nothing in Lean hashes anything: it is a label: what it is worth is what the hold of that sum in a sandbox is worth. -/
noncomputable def Tryz.pinned : Pinned := { name := "ytnbecdahfgkffaagreat", sum := "838cd4c6485476cd721009d592e66ccd08e2c0b604fb67893e76cc1f4c61e61f", checked := Tryz.checked }
namespace Rows
def none {H : Type} : Left H := { results := [], args := [] }

/-- 'hostellaw14.MakerMakes': WHATEVER THE INPUT: true; the input reads as it did. -/
def makerMakesSpec : ChangeSpec := { name := "makerMakes", fn := fun _ => fun
  | [d] => { results := [.lit (.bool true)], args := [d] }
  | _ => none }
def makerMakesRow : OpenClaim := { program := "ytnbecdahfgkffaagreat", sum := "838cd4c6485476cd721009d592e66ccd08e2c0b604fb67893e76cc1f4c61e61f", func := "hostel/hostellaw14.MakerMakes", spec := "makerMakes", inPlace := ["internal/bytealg.IndexByteString", "internal/bytealg.IndexString", "internal/abi.NoEscape", "internal/bytealg.MakeNoZero"], unfollowed := true, recurses := true, named := ["internal/bytealg.MaxLen"], apart := false }
def MakerMakesSaid : Prop := makerMakesRow.holds Tryz.pinned (OpenSpec.ofChange makerMakesSpec)

/-- ITS FALSE NEIGHBOUR: 'it returns false'. Refute it at one input. -/
def makerMakesWrong : ChangeSpec := { name := "makerMakes", fn := fun _ => fun
  | [d] => { results := [.lit (.bool false)], args := [d] }
  | _ => none }
def MakerMakesWrongFalsely : Prop := makerMakesRow.holds Tryz.pinned (OpenSpec.ofChange makerMakesWrong)

/-- 'hostellaw14.MakerSymbols': WHATEVER THE INPUT: true; the input reads as it did. -/
def makerSymbolsSpec : ChangeSpec := { name := "makerSymbols", fn := fun _ => fun
  | [d1, d2] => { results := [.lit (.bool true)], args := [d1, d2] }
  | _ => none }
def makerSymbolsRow : OpenClaim := { program := "ytnbecdahfgkffaagreat", sum := "838cd4c6485476cd721009d592e66ccd08e2c0b604fb67893e76cc1f4c61e61f", func := "hostel/hostellaw14.MakerSymbols", spec := "makerSymbols", inPlace := ["internal/bytealg.IndexByteString", "internal/bytealg.IndexString", "internal/abi.NoEscape", "internal/bytealg.MakeNoZero", "internal/bytealg.IndexByte", "internal/bytealg.Index"], unfollowed := true, recurses := true, named := ["internal/bytealg.MaxLen"], apart := false }
def MakerSymbolsSaid : Prop := makerSymbolsRow.holds Tryz.pinned (OpenSpec.ofChange makerSymbolsSpec)

/-- ITS FALSE NEIGHBOUR: 'it returns false'. Refute it at one input. -/
def makerSymbolsWrong : ChangeSpec := { name := "makerSymbols", fn := fun _ => fun
  | [d1, d2] => { results := [.lit (.bool false)], args := [d1, d2] }
  | _ => none }
def MakerSymbolsWrongFalsely : Prop := makerSymbolsRow.holds Tryz.pinned (OpenSpec.ofChange makerSymbolsWrong)

/-- 'hostellaw14.MakerParsed': WHATEVER THE INPUT: true; the input reads as it did. -/
def makerParsedSpec : ChangeSpec := { name := "makerParsed", fn := fun _ => fun
  | [d] => { results := [.lit (.bool true)], args := [d] }
  | _ => none }
def makerParsedRow : OpenClaim := { program := "ytnbecdahfgkffaagreat", sum := "838cd4c6485476cd721009d592e66ccd08e2c0b604fb67893e76cc1f4c61e61f", func := "hostel/hostellaw14.MakerParsed", spec := "makerParsed", inPlace := ["internal/bytealg.IndexByteString", "internal/bytealg.IndexString", "internal/abi.NoEscape", "internal/bytealg.MakeNoZero", "internal/bytealg.IndexByte", "internal/bytealg.Index"], unfollowed := true, recurses := true, named := ["internal/bytealg.MaxLen"], apart := false }
def MakerParsedSaid : Prop := makerParsedRow.holds Tryz.pinned (OpenSpec.ofChange makerParsedSpec)

/-- ITS FALSE NEIGHBOUR: 'it returns false'. Refute it at one input. -/
def makerParsedWrong : ChangeSpec := { name := "makerParsed", fn := fun _ => fun
  | [d] => { results := [.lit (.bool false)], args := [d] }
  | _ => none }
def MakerParsedWrongFalsely : Prop := makerParsedRow.holds Tryz.pinned (OpenSpec.ofChange makerParsedWrong)

/- THE SECOND FORM. 'bulk': how many values and letters a reading holds, each counted each time it is reached (what is shared counts as often as it is met; a slice's spare places count too). A statement '..UptoSaid' is the law's where the arguments, and the package variables that the reading takes, are together of bulk at most 1048576: NARROWER than '..Said'. Prove '..Said' where nothing that the law and all that it calls make is longer than what came in: it says more and counts as full. Else prove '..UptoSaid'. A law counts once. -/
mutual
def uptoBulk {H : Type} : DataW H → Nat
  | .lit (.string bytes) => bytes.length + 1
  | .lit _ => 1
  | .nil => 1
  | .ptr d => uptoBulk d + 1
  | .slice elems spare => uptoBulkAll elems + uptoBulkAll spare + 1
  | .agg parts => uptoBulkAll parts + 1
  | .iface _ d => uptoBulk d + 1
  | .map entries => uptoBulkEntries entries + 1
  | .held _ => 1
def uptoBulkAll {H : Type} : List (DataW H) → Nat
  | [] => 0
  | d :: r => uptoBulk d + uptoBulkAll r
def uptoBulkEntries {H : Type} : List (Lit × DataW H) → Nat
  | [] => 0
  | x :: r => uptoBulkEntry x + uptoBulkEntries r
def uptoBulkEntry {H : Type} : Lit × DataW H → Nat
  | (.string bytes, d) => bytes.length + uptoBulk d + 1
  | (_, d) => uptoBulk d + 1
 end
def uptoSmall : (H : Type) → List (DataW H) → Bool := fun _ ds => decide (uptoBulkAll ds ≤ 1048576)
def OpenSpec.upto (s : _root_.Go.ChangeSpec) : _root_.Go.OpenSpec := { _root_.Go.OpenSpec.ofChange s with cond := some uptoSmall }

/-- 'hostellaw14.MakerMakes', WHERE WHAT IT READS IS OF BULK AT MOST 1048576: true; the input reads as it did. -/
def makerMakesUptoRow : OpenClaim := { program := "ytnbecdahfgkffaagreat", sum := "838cd4c6485476cd721009d592e66ccd08e2c0b604fb67893e76cc1f4c61e61f", func := "hostel/hostellaw14.MakerMakes", spec := "makerMakes", inPlace := ["internal/bytealg.IndexByteString", "internal/bytealg.IndexString", "internal/abi.NoEscape", "internal/bytealg.MakeNoZero"], unfollowed := true, recurses := true, named := ["internal/bytealg.MaxLen"], apart := false, narrowed := true }
def MakerMakesUptoSaid : Prop := makerMakesUptoRow.holds Tryz.pinned (OpenSpec.upto makerMakesSpec)

/-- 'hostellaw14.MakerSymbols', WHERE WHAT IT READS IS OF BULK AT MOST 1048576: true; the input reads as it did. -/
def makerSymbolsUptoRow : OpenClaim := { program := "ytnbecdahfgkffaagreat", sum := "838cd4c6485476cd721009d592e66ccd08e2c0b604fb67893e76cc1f4c61e61f", func := "hostel/hostellaw14.MakerSymbols", spec := "makerSymbols", inPlace := ["internal/bytealg.IndexByteString", "internal/bytealg.IndexString", "internal/abi.NoEscape", "internal/bytealg.MakeNoZero", "internal/bytealg.IndexByte", "internal/bytealg.Index"], unfollowed := true, recurses := true, named := ["internal/bytealg.MaxLen"], apart := false, narrowed := true }
def MakerSymbolsUptoSaid : Prop := makerSymbolsUptoRow.holds Tryz.pinned (OpenSpec.upto makerSymbolsSpec)

/-- 'hostellaw14.MakerParsed', WHERE WHAT IT READS IS OF BULK AT MOST 1048576: true; the input reads as it did. -/
def makerParsedUptoRow : OpenClaim := { program := "ytnbecdahfgkffaagreat", sum := "838cd4c6485476cd721009d592e66ccd08e2c0b604fb67893e76cc1f4c61e61f", func := "hostel/hostellaw14.MakerParsed", spec := "makerParsed", inPlace := ["internal/bytealg.IndexByteString", "internal/bytealg.IndexString", "internal/abi.NoEscape", "internal/bytealg.MakeNoZero", "internal/bytealg.IndexByte", "internal/bytealg.Index"], unfollowed := true, recurses := true, named := ["internal/bytealg.MaxLen"], apart := false, narrowed := true }
def MakerParsedUptoSaid : Prop := makerParsedUptoRow.holds Tryz.pinned (OpenSpec.upto makerParsedSpec)

end Rows
end Go.Proofs.YtnbecdahfgkffaaGreat
