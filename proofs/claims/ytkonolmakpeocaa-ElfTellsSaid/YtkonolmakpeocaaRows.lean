/-
  No cell of these rows narrows 'for every input' (looked for: loops, veiled, ifaces, maps, wideKeys, modest, calm, conditions, laid).
  DERIVED. THE GIVEN ROWS OF THIS SEAT. 4 by the template 'for every input the law returns true; each argument reads behind the call as it read before'; 0 by the template 'total and deterministic' (their statements: YtkonolmakpeocaaTotals.lean).
  GIVEN WITH THE SEED: the statements are not yours to turn. If you find one false, say at which input.
  Laid BY PROGRAM, IN A SANDBOX (cutbox-rows.mjs): the forced cells as the released guide's own fill.sh prints them over the translation 0c3096d50e3583ba… (all of the seat's roots in one cut). By AI agents, Wed Nov 11 2026. No macro, syntax, notation, axiom, sorry.
-/
import Derived.Test.YtkonolmakpeocaaChecked
import GoSem.Claim
import GoSem.ClaimJoined
import GoSem.ClaimMapViews
import Derived.JoinedTies
import Derived.KernelRfl
namespace Go.Proofs.Ytkonolmakpeocaa
/- THE CELL 'sum', in the pinned program and in every row, IS THE sha256 OF THE DUMP (.gsa) THAT YtkonolmakpeocaaProg.lean LOADS. Nothing in Lean hashes anything: it is a label: what it is worth is what the hold of that sum in a sandbox is worth. -/
noncomputable def Try.pinned : Pinned := { name := "ytkonolmakpeocaa", sum := "0c3096d50e3583baea53368f84b5d1f6baaaa8d8c04a22d0a1bed067a49ed986", checked := Try.checked }
namespace Rows
def none {H : Type} : Left H := { results := [], args := [] }

/-- 'hostellaw12.ElfHolds': WHATEVER THE INPUT: true; the input reads as it did. -/
def elfHoldsSpec : ChangeSpec := { name := "elfHolds", fn := fun _ => fun
  | [d] => { results := [.lit (.bool true)], args := [d] }
  | _ => none }
def elfHoldsRow : OpenClaim := { program := "ytkonolmakpeocaa", sum := "0c3096d50e3583baea53368f84b5d1f6baaaa8d8c04a22d0a1bed067a49ed986", func := "hostel/hostellaw12.ElfHolds", spec := "elfHolds", unfollowed := true, recurses := true, apart := false }
def ElfHoldsSaid : Prop := elfHoldsRow.holds Try.pinned (OpenSpec.ofChange elfHoldsSpec)

/-- ITS FALSE NEIGHBOUR: 'it returns false'. Refute it at one input. -/
def elfHoldsWrong : ChangeSpec := { name := "elfHolds", fn := fun _ => fun
  | [d] => { results := [.lit (.bool false)], args := [d] }
  | _ => none }
def ElfHoldsWrongFalsely : Prop := elfHoldsRow.holds Try.pinned (OpenSpec.ofChange elfHoldsWrong)

/-- 'hostellaw12.ElfFree': WHATEVER THE INPUT: true; the input reads as it did. -/
def elfFreeSpec : ChangeSpec := { name := "elfFree", fn := fun _ => fun
  | [d1, d2, d3] => { results := [.lit (.bool true)], args := [d1, d2, d3] }
  | _ => none }
def elfFreeRow : OpenClaim := { program := "ytkonolmakpeocaa", sum := "0c3096d50e3583baea53368f84b5d1f6baaaa8d8c04a22d0a1bed067a49ed986", func := "hostel/hostellaw12.ElfFree", spec := "elfFree", unfollowed := true, recurses := true, apart := false }
def ElfFreeSaid : Prop := elfFreeRow.holds Try.pinned (OpenSpec.ofChange elfFreeSpec)

/-- ITS FALSE NEIGHBOUR: 'it returns false'. Refute it at one input. -/
def elfFreeWrong : ChangeSpec := { name := "elfFree", fn := fun _ => fun
  | [d1, d2, d3] => { results := [.lit (.bool false)], args := [d1, d2, d3] }
  | _ => none }
def ElfFreeWrongFalsely : Prop := elfFreeRow.holds Try.pinned (OpenSpec.ofChange elfFreeWrong)

/-- 'hostellaw12.ElfCut': WHATEVER THE INPUT: true; the input reads as it did. -/
def elfCutSpec : ChangeSpec := { name := "elfCut", fn := fun _ => fun
  | [d1, d2] => { results := [.lit (.bool true)], args := [d1, d2] }
  | _ => none }
def elfCutRow : OpenClaim := { program := "ytkonolmakpeocaa", sum := "0c3096d50e3583baea53368f84b5d1f6baaaa8d8c04a22d0a1bed067a49ed986", func := "hostel/hostellaw12.ElfCut", spec := "elfCut", unfollowed := true, recurses := true, apart := false }
def ElfCutSaid : Prop := elfCutRow.holds Try.pinned (OpenSpec.ofChange elfCutSpec)

/-- ITS FALSE NEIGHBOUR: 'it returns false'. Refute it at one input. -/
def elfCutWrong : ChangeSpec := { name := "elfCut", fn := fun _ => fun
  | [d1, d2] => { results := [.lit (.bool false)], args := [d1, d2] }
  | _ => none }
def ElfCutWrongFalsely : Prop := elfCutRow.holds Try.pinned (OpenSpec.ofChange elfCutWrong)

/-- 'hostellaw12.ElfTells': WHATEVER THE INPUT: true; the input reads as it did. -/
def elfTellsSpec : ChangeSpec := { name := "elfTells", fn := fun _ => fun
  | [d1, d2] => { results := [.lit (.bool true)], args := [d1, d2] }
  | _ => none }
def elfTellsRow : OpenClaim := { program := "ytkonolmakpeocaa", sum := "0c3096d50e3583baea53368f84b5d1f6baaaa8d8c04a22d0a1bed067a49ed986", func := "hostel/hostellaw12.ElfTells", spec := "elfTells", inPlace := ["internal/bytealg.IndexByteString", "internal/bytealg.IndexString"], unfollowed := true, recurses := true, named := ["internal/bytealg.MaxLen"], apart := false }
def ElfTellsSaid : Prop := elfTellsRow.holds Try.pinned (OpenSpec.ofChange elfTellsSpec)

/-- ITS FALSE NEIGHBOUR: 'it returns false'. Refute it at one input. -/
def elfTellsWrong : ChangeSpec := { name := "elfTells", fn := fun _ => fun
  | [d1, d2] => { results := [.lit (.bool false)], args := [d1, d2] }
  | _ => none }
def ElfTellsWrongFalsely : Prop := elfTellsRow.holds Try.pinned (OpenSpec.ofChange elfTellsWrong)

/- THE SECOND FORM. 'bulk': how many values and letters a reading holds, each counted each time it is reached (what is shared counts as often as it is met; a slice's spare places count too). A statement '..UptoSaid' is the law's where the arguments, and the package variables that the reading takes, are together of bulk at most 1048576: NARROWER than '..Said'. Prove '..Said' where nothing that the law and all that it calls make is longer than what came in: it says more and counts as full. Else prove '..UptoSaid'. A law counts once. -/
mutual
def uptoBulk {H : Type} : DataW H → Nat
  | .lit (.string bytes) => bytes.length + 1
  | .lit _ => 1
  | .nil => 1
  | .ptr d => uptoBulk d + 1
  | .slice elems spare => uptoBulkAll elems + uptoBulkAll spare + 1
  | .agg parts => uptoBulkAll parts + 1
  | .iface _ d => uptoBulk d + 1
  | .map entries => uptoBulkEntries entries + 1
  | .held _ => 1
def uptoBulkAll {H : Type} : List (DataW H) → Nat
  | [] => 0
  | d :: r => uptoBulk d + uptoBulkAll r
def uptoBulkEntries {H : Type} : List (Lit × DataW H) → Nat
  | [] => 0
  | x :: r => uptoBulkEntry x + uptoBulkEntries r
def uptoBulkEntry {H : Type} : Lit × DataW H → Nat
  | (.string bytes, d) => bytes.length + uptoBulk d + 1
  | (_, d) => uptoBulk d + 1
 end
def uptoSmall : (H : Type) → List (DataW H) → Bool := fun _ ds => decide (uptoBulkAll ds ≤ 1048576)
def OpenSpec.upto (s : _root_.Go.ChangeSpec) : _root_.Go.OpenSpec := { _root_.Go.OpenSpec.ofChange s with cond := some uptoSmall }

/-- 'hostellaw12.ElfHolds', WHERE WHAT IT READS IS OF BULK AT MOST 1048576: true; the input reads as it did. -/
def elfHoldsUptoRow : OpenClaim := { program := "ytkonolmakpeocaa", sum := "0c3096d50e3583baea53368f84b5d1f6baaaa8d8c04a22d0a1bed067a49ed986", func := "hostel/hostellaw12.ElfHolds", spec := "elfHolds", unfollowed := true, recurses := true, apart := false, narrowed := true }
def ElfHoldsUptoSaid : Prop := elfHoldsUptoRow.holds Try.pinned (OpenSpec.upto elfHoldsSpec)

/-- 'hostellaw12.ElfFree', WHERE WHAT IT READS IS OF BULK AT MOST 1048576: true; the input reads as it did. -/
def elfFreeUptoRow : OpenClaim := { program := "ytkonolmakpeocaa", sum := "0c3096d50e3583baea53368f84b5d1f6baaaa8d8c04a22d0a1bed067a49ed986", func := "hostel/hostellaw12.ElfFree", spec := "elfFree", unfollowed := true, recurses := true, apart := false, narrowed := true }
def ElfFreeUptoSaid : Prop := elfFreeUptoRow.holds Try.pinned (OpenSpec.upto elfFreeSpec)

/-- 'hostellaw12.ElfCut', WHERE WHAT IT READS IS OF BULK AT MOST 1048576: true; the input reads as it did. -/
def elfCutUptoRow : OpenClaim := { program := "ytkonolmakpeocaa", sum := "0c3096d50e3583baea53368f84b5d1f6baaaa8d8c04a22d0a1bed067a49ed986", func := "hostel/hostellaw12.ElfCut", spec := "elfCut", unfollowed := true, recurses := true, apart := false, narrowed := true }
def ElfCutUptoSaid : Prop := elfCutUptoRow.holds Try.pinned (OpenSpec.upto elfCutSpec)

/-- 'hostellaw12.ElfTells', WHERE WHAT IT READS IS OF BULK AT MOST 1048576: true; the input reads as it did. -/
def elfTellsUptoRow : OpenClaim := { program := "ytkonolmakpeocaa", sum := "0c3096d50e3583baea53368f84b5d1f6baaaa8d8c04a22d0a1bed067a49ed986", func := "hostel/hostellaw12.ElfTells", spec := "elfTells", inPlace := ["internal/bytealg.IndexByteString", "internal/bytealg.IndexString"], unfollowed := true, recurses := true, named := ["internal/bytealg.MaxLen"], apart := false, narrowed := true }
def ElfTellsUptoSaid : Prop := elfTellsUptoRow.holds Try.pinned (OpenSpec.upto elfTellsSpec)

end Rows
end Go.Proofs.Ytkonolmakpeocaa
