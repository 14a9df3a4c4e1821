/- The walk of elf's reader.segment: which program header it reads, or that it gives up. Conditions: the header lies within the bytes. Printed by wip/gen_elf2.py. -/
import Derived.Test.YtkonolmakpeocaaElf1
import Derived.Handy
import Derived.Laws.CopyOwn
namespace Go.Proofs.Ytkonolmakpeocaa
set_option linter.unusedVariables false
set_option linter.unusedSimpArgs false
open Go.RowKit

/-- A program header as a value. -/
def segVal (s : El.Sg) : Value := .agg #[.int .u32 s.kind, .int .u8 s.flags, .int .u64 s.off, .int .u64 s.addr, .int .u64 s.fsz, .int .u64 s.msz]

theorem segInfo : (Try.prog.info? 37).map (·.size) = some 6 := by kernel_rfl

theorem segOne (k fl o a f z : Int) : (#[.int .u32 k, .int .u8 fl, .int .u64 o, .int .u64 a, .int .u64 f, .int .u64 z] : Array Value).all (·.oneCell') = true := by simp [Value.oneCell']

theorem at_off (A : Option Addr) (m c : Nat) (B : Nat) (b : List UInt8) (p o s : Nat) (oi si : Int) (ho : (o : Int) = oi) (hsi : (s : Int) = si) (w : World) (hB : B ≤ w.heap.size) (hb : Rd w B 1 A m (u8s b)) (hm : m ≤ maxLen) (hs : s = 1 ∨ s = 2 ∨ s = 4 ∨ s = 8) (hin : p + o + s ≤ m) :
    Calls Try.prog 27 #[.slice A m c, .int .u64 ((p : Int) + oi), .int .i64 si] w fun e w' => e = .returned (.int .u64 (Wd.num b (p + o) s)) ∧ Below w.heap.size w w' := by
  subst ho
  subst hsi
  have h := at_yes A m c B b (p + o) s w hB hb hm hs hin
  rwa [show (((p + o : Nat)) : Int) = (p : Int) + (o : Int) from by omega] at h

theorem at_lit (A : Option Addr) (m c : Nat) (B : Nat) (b : List UInt8) (p s : Nat) (si : Int) (hsi : (s : Int) = si) (w : World) (hB : B ≤ w.heap.size) (hb : Rd w B 1 A m (u8s b)) (hm : m ≤ maxLen) (hs : s = 1 ∨ s = 2 ∨ s = 4 ∨ s = 8) (hin : p + s ≤ m) :
    Calls Try.prog 27 #[.slice A m c, .int .u64 (p : Int), .int .i64 si] w fun e w' => e = .returned (.int .u64 (Wd.num b p s)) ∧ Below w.heap.size w w' := by
  subst hsi
  exact at_yes A m c B b p s w hB hb hm hs hin


end Go.Proofs.Ytkonolmakpeocaa
