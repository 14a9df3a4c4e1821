/-
  No cell of these rows narrows 'for every input' (looked for: loops, veiled, ifaces, maps, wideKeys, modest, calm, conditions, laid).
  DERIVED. THE GIVEN ROWS OF THIS SEAT. 7 by the template 'for every input the law returns true; each argument reads behind the call as it read before'; 0 by the template 'total and deterministic' (their statements: YteiciabhfjakgaaTotals.lean).
  GIVEN WITH THE SEED: the statements are not yours to turn. If you find one false, say at which input.
  Laid BY PROGRAM, IN A SANDBOX (cutbox-rows.mjs): the forced cells as the released guide's own fill.sh prints them over the translation 37352f40c04c82b1… (all of the seat's roots in one cut). By AI agents, Wed Nov 11 2026. No macro, syntax, notation, axiom, sorry.
-/
import Derived.Test.YteiciabhfjakgaaChecked
import GoSem.Claim
import GoSem.ClaimJoined
import GoSem.ClaimMapViews
import Derived.JoinedTies
import Derived.KernelRfl
namespace Go.Proofs.Yteiciabhfjakgaa
/- THE CELL 'sum', in the pinned program and in every row, IS THE sha256 OF THE DUMP (.gsa) THAT YteiciabhfjakgaaProg.lean LOADS. Nothing in Lean hashes anything: it is a label: what it is worth is what the hold of that sum in a sandbox is worth. -/
noncomputable def Try.pinned : Pinned := { name := "yteiciabhfjakgaa", sum := "37352f40c04c82b1dde5fab3ae4d88429b76991000c24d50005f4003a2bf9789", checked := Try.checked }
namespace Rows
def none {H : Type} : Left H := { results := [], args := [] }

/-- 'hostellaw06.VfsNews': WHATEVER THE INPUT: true; the input reads as it did. -/
def vfsNewsSpec : ChangeSpec := { name := "vfsNews", fn := fun _ => fun
  | [d1, d2] => { results := [.lit (.bool true)], args := [d1, d2] }
  | _ => none }
def vfsNewsRow : OpenClaim := { program := "yteiciabhfjakgaa", sum := "37352f40c04c82b1dde5fab3ae4d88429b76991000c24d50005f4003a2bf9789", func := "hostel/hostellaw06.VfsNews", spec := "vfsNews", inPlace := ["internal/bytealg.IndexByteString", "internal/bytealg.IndexString", "internal/abi.NoEscape", "internal/bytealg.MakeNoZero"], unfollowed := true, recurses := true, named := ["internal/bytealg.MaxLen"], apart := false }
def VfsNewsSaid : Prop := vfsNewsRow.holds Try.pinned (OpenSpec.ofChange vfsNewsSpec)

/-- ITS FALSE NEIGHBOUR: 'it returns false'. Refute it at one input. -/
def vfsNewsWrong : ChangeSpec := { name := "vfsNews", fn := fun _ => fun
  | [d1, d2] => { results := [.lit (.bool false)], args := [d1, d2] }
  | _ => none }
def VfsNewsWrongFalsely : Prop := vfsNewsRow.holds Try.pinned (OpenSpec.ofChange vfsNewsWrong)

/-- 'hostellaw06.VfsWalks': WHATEVER THE INPUT: true; the input reads as it did. -/
def vfsWalksSpec : ChangeSpec := { name := "vfsWalks", fn := fun _ => fun
  | [d1, d2, d3] => { results := [.lit (.bool true)], args := [d1, d2, d3] }
  | _ => none }
def vfsWalksRow : OpenClaim := { program := "yteiciabhfjakgaa", sum := "37352f40c04c82b1dde5fab3ae4d88429b76991000c24d50005f4003a2bf9789", func := "hostel/hostellaw06.VfsWalks", spec := "vfsWalks", inPlace := ["internal/bytealg.IndexByteString", "internal/bytealg.IndexString", "internal/abi.NoEscape", "internal/bytealg.MakeNoZero"], unfollowed := true, recurses := true, named := ["internal/bytealg.MaxLen"], apart := false }
def VfsWalksSaid : Prop := vfsWalksRow.holds Try.pinned (OpenSpec.ofChange vfsWalksSpec)

/-- ITS FALSE NEIGHBOUR: 'it returns false'. Refute it at one input. -/
def vfsWalksWrong : ChangeSpec := { name := "vfsWalks", fn := fun _ => fun
  | [d1, d2, d3] => { results := [.lit (.bool false)], args := [d1, d2, d3] }
  | _ => none }
def VfsWalksWrongFalsely : Prop := vfsWalksRow.holds Try.pinned (OpenSpec.ofChange vfsWalksWrong)

/-- 'hostellaw06.VfsReads': WHATEVER THE INPUT: true; the input reads as it did. -/
def vfsReadsSpec : ChangeSpec := { name := "vfsReads", fn := fun _ => fun
  | [d1, d2, d3] => { results := [.lit (.bool true)], args := [d1, d2, d3] }
  | _ => none }
def vfsReadsRow : OpenClaim := { program := "yteiciabhfjakgaa", sum := "37352f40c04c82b1dde5fab3ae4d88429b76991000c24d50005f4003a2bf9789", func := "hostel/hostellaw06.VfsReads", spec := "vfsReads", inPlace := ["internal/bytealg.IndexByteString", "internal/bytealg.IndexString", "internal/abi.NoEscape", "internal/bytealg.MakeNoZero"], unfollowed := true, recurses := true, named := ["internal/bytealg.MaxLen"], apart := false }
def VfsReadsSaid : Prop := vfsReadsRow.holds Try.pinned (OpenSpec.ofChange vfsReadsSpec)

/-- ITS FALSE NEIGHBOUR: 'it returns false'. Refute it at one input. -/
def vfsReadsWrong : ChangeSpec := { name := "vfsReads", fn := fun _ => fun
  | [d1, d2, d3] => { results := [.lit (.bool false)], args := [d1, d2, d3] }
  | _ => none }
def VfsReadsWrongFalsely : Prop := vfsReadsRow.holds Try.pinned (OpenSpec.ofChange vfsReadsWrong)

/-- 'hostellaw06.VfsPaths': WHATEVER THE INPUT: true; the input reads as it did. -/
def vfsPathsSpec : ChangeSpec := { name := "vfsPaths", fn := fun _ => fun
  | [d1, d2] => { results := [.lit (.bool true)], args := [d1, d2] }
  | _ => none }
def vfsPathsRow : OpenClaim := { program := "yteiciabhfjakgaa", sum := "37352f40c04c82b1dde5fab3ae4d88429b76991000c24d50005f4003a2bf9789", func := "hostel/hostellaw06.VfsPaths", spec := "vfsPaths", inPlace := ["internal/bytealg.IndexByteString", "internal/bytealg.IndexString", "internal/abi.NoEscape", "internal/bytealg.MakeNoZero"], unfollowed := true, recurses := true, named := ["internal/bytealg.MaxLen"], apart := false }
def VfsPathsSaid : Prop := vfsPathsRow.holds Try.pinned (OpenSpec.ofChange vfsPathsSpec)

/-- ITS FALSE NEIGHBOUR: 'it returns false'. Refute it at one input. -/
def vfsPathsWrong : ChangeSpec := { name := "vfsPaths", fn := fun _ => fun
  | [d1, d2] => { results := [.lit (.bool false)], args := [d1, d2] }
  | _ => none }
def VfsPathsWrongFalsely : Prop := vfsPathsRow.holds Try.pinned (OpenSpec.ofChange vfsPathsWrong)

/-- 'hostellaw06.VfsRights': WHATEVER THE INPUT: true; the input reads as it did. -/
def vfsRightsSpec : ChangeSpec := { name := "vfsRights", fn := fun _ => fun
  | [d1, d2, d3] => { results := [.lit (.bool true)], args := [d1, d2, d3] }
  | _ => none }
def vfsRightsRow : OpenClaim := { program := "yteiciabhfjakgaa", sum := "37352f40c04c82b1dde5fab3ae4d88429b76991000c24d50005f4003a2bf9789", func := "hostel/hostellaw06.VfsRights", spec := "vfsRights", inPlace := ["internal/bytealg.IndexByteString", "internal/bytealg.IndexString", "internal/abi.NoEscape", "internal/bytealg.MakeNoZero"], unfollowed := true, recurses := true, named := ["internal/bytealg.MaxLen"], apart := false }
def VfsRightsSaid : Prop := vfsRightsRow.holds Try.pinned (OpenSpec.ofChange vfsRightsSpec)

/-- ITS FALSE NEIGHBOUR: 'it returns false'. Refute it at one input. -/
def vfsRightsWrong : ChangeSpec := { name := "vfsRights", fn := fun _ => fun
  | [d1, d2, d3] => { results := [.lit (.bool false)], args := [d1, d2, d3] }
  | _ => none }
def VfsRightsWrongFalsely : Prop := vfsRightsRow.holds Try.pinned (OpenSpec.ofChange vfsRightsWrong)

/-- 'hostellaw06.VfsLinks': WHATEVER THE INPUT: true; the input reads as it did. -/
def vfsLinksSpec : ChangeSpec := { name := "vfsLinks", fn := fun _ => fun
  | [d1, d2] => { results := [.lit (.bool true)], args := [d1, d2] }
  | _ => none }
def vfsLinksRow : OpenClaim := { program := "yteiciabhfjakgaa", sum := "37352f40c04c82b1dde5fab3ae4d88429b76991000c24d50005f4003a2bf9789", func := "hostel/hostellaw06.VfsLinks", spec := "vfsLinks", inPlace := ["internal/bytealg.IndexByteString", "internal/bytealg.IndexString", "internal/abi.NoEscape", "internal/bytealg.MakeNoZero"], unfollowed := true, recurses := true, named := ["internal/bytealg.MaxLen"], apart := false }
def VfsLinksSaid : Prop := vfsLinksRow.holds Try.pinned (OpenSpec.ofChange vfsLinksSpec)

/-- ITS FALSE NEIGHBOUR: 'it returns false'. Refute it at one input. -/
def vfsLinksWrong : ChangeSpec := { name := "vfsLinks", fn := fun _ => fun
  | [d1, d2] => { results := [.lit (.bool false)], args := [d1, d2] }
  | _ => none }
def VfsLinksWrongFalsely : Prop := vfsLinksRow.holds Try.pinned (OpenSpec.ofChange vfsLinksWrong)

/-- 'hostellaw06.VfsNil': WHATEVER THE INPUT: true; the input reads as it did. -/
def vfsNilSpec : ChangeSpec := { name := "vfsNil", fn := fun _ => fun
  | [d1, d2, d3] => { results := [.lit (.bool true)], args := [d1, d2, d3] }
  | _ => none }
def vfsNilRow : OpenClaim := { program := "yteiciabhfjakgaa", sum := "37352f40c04c82b1dde5fab3ae4d88429b76991000c24d50005f4003a2bf9789", func := "hostel/hostellaw06.VfsNil", spec := "vfsNil", inPlace := ["internal/bytealg.IndexByteString", "internal/bytealg.IndexString", "internal/abi.NoEscape", "internal/bytealg.MakeNoZero"], unfollowed := true, recurses := true, named := ["internal/bytealg.MaxLen"], apart := false }
def VfsNilSaid : Prop := vfsNilRow.holds Try.pinned (OpenSpec.ofChange vfsNilSpec)

/-- ITS FALSE NEIGHBOUR: 'it returns false'. Refute it at one input. -/
def vfsNilWrong : ChangeSpec := { name := "vfsNil", fn := fun _ => fun
  | [d1, d2, d3] => { results := [.lit (.bool false)], args := [d1, d2, d3] }
  | _ => none }
def VfsNilWrongFalsely : Prop := vfsNilRow.holds Try.pinned (OpenSpec.ofChange vfsNilWrong)

/- THE SECOND FORM. 'bulk': how many values and letters a reading holds, each counted each time it is reached (what is shared counts as often as it is met; a slice's spare places count too). A statement '..UptoSaid' is the law's where the arguments, and the package variables that the reading takes, are together of bulk at most 1048576: NARROWER than '..Said'. Prove '..Said' where nothing that the law and all that it calls make is longer than what came in: it says more and counts as full. Else prove '..UptoSaid'. A law counts once. -/
mutual
def uptoBulk {H : Type} : DataW H → Nat
  | .lit (.string bytes) => bytes.length + 1
  | .lit _ => 1
  | .nil => 1
  | .ptr d => uptoBulk d + 1
  | .slice elems spare => uptoBulkAll elems + uptoBulkAll spare + 1
  | .agg parts => uptoBulkAll parts + 1
  | .iface _ d => uptoBulk d + 1
  | .map entries => uptoBulkEntries entries + 1
  | .held _ => 1
def uptoBulkAll {H : Type} : List (DataW H) → Nat
  | [] => 0
  | d :: r => uptoBulk d + uptoBulkAll r
def uptoBulkEntries {H : Type} : List (Lit × DataW H) → Nat
  | [] => 0
  | x :: r => uptoBulkEntry x + uptoBulkEntries r
def uptoBulkEntry {H : Type} : Lit × DataW H → Nat
  | (.string bytes, d) => bytes.length + uptoBulk d + 1
  | (_, d) => uptoBulk d + 1
 end
def uptoSmall : (H : Type) → List (DataW H) → Bool := fun _ ds => decide (uptoBulkAll ds ≤ 1048576)
def OpenSpec.upto (s : _root_.Go.ChangeSpec) : _root_.Go.OpenSpec := { _root_.Go.OpenSpec.ofChange s with cond := some uptoSmall }

/-- 'hostellaw06.VfsNews', WHERE WHAT IT READS IS OF BULK AT MOST 1048576: true; the input reads as it did. -/
def vfsNewsUptoRow : OpenClaim := { program := "yteiciabhfjakgaa", sum := "37352f40c04c82b1dde5fab3ae4d88429b76991000c24d50005f4003a2bf9789", func := "hostel/hostellaw06.VfsNews", spec := "vfsNews", inPlace := ["internal/bytealg.IndexByteString", "internal/bytealg.IndexString", "internal/abi.NoEscape", "internal/bytealg.MakeNoZero"], unfollowed := true, recurses := true, named := ["internal/bytealg.MaxLen"], apart := false, narrowed := true }
def VfsNewsUptoSaid : Prop := vfsNewsUptoRow.holds Try.pinned (OpenSpec.upto vfsNewsSpec)

/-- 'hostellaw06.VfsWalks', WHERE WHAT IT READS IS OF BULK AT MOST 1048576: true; the input reads as it did. -/
def vfsWalksUptoRow : OpenClaim := { program := "yteiciabhfjakgaa", sum := "37352f40c04c82b1dde5fab3ae4d88429b76991000c24d50005f4003a2bf9789", func := "hostel/hostellaw06.VfsWalks", spec := "vfsWalks", inPlace := ["internal/bytealg.IndexByteString", "internal/bytealg.IndexString", "internal/abi.NoEscape", "internal/bytealg.MakeNoZero"], unfollowed := true, recurses := true, named := ["internal/bytealg.MaxLen"], apart := false, narrowed := true }
def VfsWalksUptoSaid : Prop := vfsWalksUptoRow.holds Try.pinned (OpenSpec.upto vfsWalksSpec)

/-- 'hostellaw06.VfsReads', WHERE WHAT IT READS IS OF BULK AT MOST 1048576: true; the input reads as it did. -/
def vfsReadsUptoRow : OpenClaim := { program := "yteiciabhfjakgaa", sum := "37352f40c04c82b1dde5fab3ae4d88429b76991000c24d50005f4003a2bf9789", func := "hostel/hostellaw06.VfsReads", spec := "vfsReads", inPlace := ["internal/bytealg.IndexByteString", "internal/bytealg.IndexString", "internal/abi.NoEscape", "internal/bytealg.MakeNoZero"], unfollowed := true, recurses := true, named := ["internal/bytealg.MaxLen"], apart := false, narrowed := true }
def VfsReadsUptoSaid : Prop := vfsReadsUptoRow.holds Try.pinned (OpenSpec.upto vfsReadsSpec)

/-- 'hostellaw06.VfsPaths', WHERE WHAT IT READS IS OF BULK AT MOST 1048576: true; the input reads as it did. -/
def vfsPathsUptoRow : OpenClaim := { program := "yteiciabhfjakgaa", sum := "37352f40c04c82b1dde5fab3ae4d88429b76991000c24d50005f4003a2bf9789", func := "hostel/hostellaw06.VfsPaths", spec := "vfsPaths", inPlace := ["internal/bytealg.IndexByteString", "internal/bytealg.IndexString", "internal/abi.NoEscape", "internal/bytealg.MakeNoZero"], unfollowed := true, recurses := true, named := ["internal/bytealg.MaxLen"], apart := false, narrowed := true }
def VfsPathsUptoSaid : Prop := vfsPathsUptoRow.holds Try.pinned (OpenSpec.upto vfsPathsSpec)

/-- 'hostellaw06.VfsRights', WHERE WHAT IT READS IS OF BULK AT MOST 1048576: true; the input reads as it did. -/
def vfsRightsUptoRow : OpenClaim := { program := "yteiciabhfjakgaa", sum := "37352f40c04c82b1dde5fab3ae4d88429b76991000c24d50005f4003a2bf9789", func := "hostel/hostellaw06.VfsRights", spec := "vfsRights", inPlace := ["internal/bytealg.IndexByteString", "internal/bytealg.IndexString", "internal/abi.NoEscape", "internal/bytealg.MakeNoZero"], unfollowed := true, recurses := true, named := ["internal/bytealg.MaxLen"], apart := false, narrowed := true }
def VfsRightsUptoSaid : Prop := vfsRightsUptoRow.holds Try.pinned (OpenSpec.upto vfsRightsSpec)

/-- 'hostellaw06.VfsLinks', WHERE WHAT IT READS IS OF BULK AT MOST 1048576: true; the input reads as it did. -/
def vfsLinksUptoRow : OpenClaim := { program := "yteiciabhfjakgaa", sum := "37352f40c04c82b1dde5fab3ae4d88429b76991000c24d50005f4003a2bf9789", func := "hostel/hostellaw06.VfsLinks", spec := "vfsLinks", inPlace := ["internal/bytealg.IndexByteString", "internal/bytealg.IndexString", "internal/abi.NoEscape", "internal/bytealg.MakeNoZero"], unfollowed := true, recurses := true, named := ["internal/bytealg.MaxLen"], apart := false, narrowed := true }
def VfsLinksUptoSaid : Prop := vfsLinksUptoRow.holds Try.pinned (OpenSpec.upto vfsLinksSpec)

/-- 'hostellaw06.VfsNil', WHERE WHAT IT READS IS OF BULK AT MOST 1048576: true; the input reads as it did. -/
def vfsNilUptoRow : OpenClaim := { program := "yteiciabhfjakgaa", sum := "37352f40c04c82b1dde5fab3ae4d88429b76991000c24d50005f4003a2bf9789", func := "hostel/hostellaw06.VfsNil", spec := "vfsNil", inPlace := ["internal/bytealg.IndexByteString", "internal/bytealg.IndexString", "internal/abi.NoEscape", "internal/bytealg.MakeNoZero"], unfollowed := true, recurses := true, named := ["internal/bytealg.MaxLen"], apart := false, narrowed := true }
def VfsNilUptoSaid : Prop := vfsNilUptoRow.holds Try.pinned (OpenSpec.upto vfsNilSpec)

end Rows
end Go.Proofs.Yteiciabhfjakgaa
