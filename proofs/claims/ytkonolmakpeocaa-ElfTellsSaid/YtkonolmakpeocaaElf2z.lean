/- What elf's reader.segment does of any header within the bytes. Conditions: the header lies within the bytes. -/
import Derived.Test.YtkonolmakpeocaaElf2a
import Derived.Test.YtkonolmakpeocaaElf2b
import Derived.Test.YtkonolmakpeocaaElf2c
import Derived.Test.YtkonolmakpeocaaElf2d
namespace Go.Proofs.Ytkonolmakpeocaa
set_option linter.unusedVariables false
set_option linter.unusedSimpArgs false
open Go.RowKit

theorem segment_any (A : Option Addr) (m c : Nat) (B : Nat) (b : List UInt8) (p ty : Nat) (w : World) (hB : B ≤ w.heap.size) (hb : Rd w B 1 A m (u8s b)) (hm : m ≤ maxLen) (hin : p + 56 ≤ m) (hp : p ≤ 4294967296) (hty : ty < 65536) :
    Calls Try.prog 30 #[.slice A m c, .int .u64 p, .int .u16 ty] w fun e w' => e = (if El.segOk b p ty then .returned (segVal (El.segAt b p)) else wrongs 25) ∧ Below w.heap.size w w' := by
  have hbl : b.length = m := by simpa using hb.len1
  have yes : El.segOk b p ty = true → Calls Try.prog 30 #[.slice A m c, .int .u64 p, .int .u16 ty] w (fun e w' => e = .returned (segVal (El.segAt b p)) ∧ Below w.heap.size w w') → Calls Try.prog 30 #[.slice A m c, .int .u64 p, .int .u16 ty] w fun e w' => e = (if El.segOk b p ty then .returned (segVal (El.segAt b p)) else wrongs 25) ∧ Below w.heap.size w w' := fun h c => by rw [h]; exact c
  have no : El.segOk b p ty = false → Calls Try.prog 30 #[.slice A m c, .int .u64 p, .int .u16 ty] w (fun e w' => e = wrongs 25 ∧ Below w.heap.size w w') → Calls Try.prog 30 #[.slice A m c, .int .u64 p, .int .u16 ty] w fun e w' => e = (if El.segOk b p ty then .returned (segVal (El.segAt b p)) else wrongs 25) ∧ Below w.heap.size w w' := fun h c => by rw [h]; exact c
  by_cases h1 : Wd.num b (p + 4) 4 ≤ 7
  case neg => exact no (by simp [El.segOk, El.flagsB, El.insideB, El.endB, El.alignB, El.knownB, El.endOf, El.segAt, *] <;> omega) (seg_b1 A m c B b p ty w hB hb hm hin hp hty h1)
  by_cases h2 : Wd.num b (p + 32) 8 ≤ Wd.num b (p + 40) 8
  case neg => exact no (by simp [El.segOk, El.flagsB, El.insideB, El.endB, El.alignB, El.knownB, El.endOf, El.segAt, *] <;> omega) (seg_b2 A m c B b p ty w hB hb hm hin hp hty h1 h2)
  by_cases h3 : Wd.num b (p + 8) 8 + Wd.num b (p + 32) 8 ≤ m
  case neg => exact no (by simp [El.segOk, El.flagsB, El.insideB, El.endB, El.alignB, El.knownB, El.endOf, El.segAt, *] <;> omega) (seg_b3 A m c B b p ty w hB hb hm hin hp hty h1 h2 h3)
  by_cases h5 : ¬ Wd.num b p 4 = 1 ∧ ¬ Wd.num b p 4 = 2 ∧ ¬ Wd.num b p 4 = 3 ∧ ¬ Wd.num b p 4 = 6
  · exact yes (by simp [El.segOk, El.flagsB, El.insideB, El.endB, El.alignB, El.knownB, El.endOf, El.segAt, *] <;> omega) (seg_ok0 A m c B b p ty w hB hb hm hin hp hty h1 h2 h3 h5)
  have h5' : Wd.num b p 4 = 1 ∨ Wd.num b p 4 = 2 ∨ Wd.num b p 4 = 3 ∨ Wd.num b p 4 = 6 := by omega
  clear h5
  by_cases h4 : ty = 3
  · by_cases h6 : Wd.num b (p + 16) 8 + Wd.num b (p + 40) 8 ≤ 4294967296
    · rcases h5' with h5 | h5 | h5 | h5
      · by_cases h7 : Wd.num b (p + 48) 8 = 4096
        · by_cases h8 : Wd.num b (p + 8) 8 % 4096 = Wd.num b (p + 16) 8 % 4096
          · by_cases h9 : 0 < Wd.num b (p + 40) 8
            · exact yes (by simp [El.segOk, El.flagsB, El.insideB, El.endB, El.alignB, El.knownB, El.endOf, El.segAt, *] <;> omega) (seg_ok13 A m c B b p ty w hB hb hm hin hp hty h1 h2 h3 h4 h5 h6 h7 h8 h9)
            · exact no (by simp [El.segOk, El.flagsB, El.insideB, El.endB, El.alignB, El.knownB, El.endOf, El.segAt, *] <;> omega) (seg_z3 A m c B b p ty w hB hb hm hin hp hty h1 h2 h3 h4 h5 h6 h7 h8 h9)
          · exact no (by simp [El.segOk, El.flagsB, El.insideB, El.endB, El.alignB, El.knownB, El.endOf, El.segAt, *] <;> omega) (seg_md3 A m c B b p ty w hB hb hm hin hp hty h1 h2 h3 h4 h5 h6 h7 h8)
        · exact no (by simp [El.segOk, El.flagsB, El.insideB, El.endB, El.alignB, El.knownB, El.endOf, El.segAt, *] <;> omega) (seg_al3 A m c B b p ty w hB hb hm hin hp hty h1 h2 h3 h4 h5 h6 h7)
      · exact yes (by simp [El.segOk, El.flagsB, El.insideB, El.endB, El.alignB, El.knownB, El.endOf, El.segAt, *] <;> omega) (seg_ok23 A m c B b p ty w hB hb hm hin hp hty h1 h2 h3 h4 h5 h6)
      · exact yes (by simp [El.segOk, El.flagsB, El.insideB, El.endB, El.alignB, El.knownB, El.endOf, El.segAt, *] <;> omega) (seg_ok33 A m c B b p ty w hB hb hm hin hp hty h1 h2 h3 h4 h5 h6)
      · exact yes (by simp [El.segOk, El.flagsB, El.insideB, El.endB, El.alignB, El.knownB, El.endOf, El.segAt, *] <;> omega) (seg_ok63 A m c B b p ty w hB hb hm hin hp hty h1 h2 h3 h4 h5 h6)
    · rcases h5' with h5 | h5 | h5 | h5
      · exact no (by simp [El.segOk, El.flagsB, El.insideB, El.endB, El.alignB, El.knownB, El.endOf, El.segAt, *] <;> omega) (seg_e13 A m c B b p ty w hB hb hm hin hp hty h1 h2 h3 h4 h5 h6)
      · exact no (by simp [El.segOk, El.flagsB, El.insideB, El.endB, El.alignB, El.knownB, El.endOf, El.segAt, *] <;> omega) (seg_e23 A m c B b p ty w hB hb hm hin hp hty h1 h2 h3 h4 h5 h6)
      · exact no (by simp [El.segOk, El.flagsB, El.insideB, El.endB, El.alignB, El.knownB, El.endOf, El.segAt, *] <;> omega) (seg_e33 A m c B b p ty w hB hb hm hin hp hty h1 h2 h3 h4 h5 h6)
      · exact no (by simp [El.segOk, El.flagsB, El.insideB, El.endB, El.alignB, El.knownB, El.endOf, El.segAt, *] <;> omega) (seg_e63 A m c B b p ty w hB hb hm hin hp hty h1 h2 h3 h4 h5 h6)
  · by_cases h6 : Wd.num b (p + 16) 8 + Wd.num b (p + 40) 8 ≤ 140737488355328
    · rcases h5' with h5 | h5 | h5 | h5
      · by_cases h7 : Wd.num b (p + 48) 8 = 4096
        · by_cases h8 : Wd.num b (p + 8) 8 % 4096 = Wd.num b (p + 16) 8 % 4096
          · by_cases h9 : 0 < Wd.num b (p + 40) 8
            · exact yes (by simp [El.segOk, El.flagsB, El.insideB, El.endB, El.alignB, El.knownB, El.endOf, El.segAt, *] <;> omega) (seg_ok1n A m c B b p ty w hB hb hm hin hp hty h1 h2 h3 h4 h5 h6 h7 h8 h9)
            · exact no (by simp [El.segOk, El.flagsB, El.insideB, El.endB, El.alignB, El.knownB, El.endOf, El.segAt, *] <;> omega) (seg_zn A m c B b p ty w hB hb hm hin hp hty h1 h2 h3 h4 h5 h6 h7 h8 h9)
          · exact no (by simp [El.segOk, El.flagsB, El.insideB, El.endB, El.alignB, El.knownB, El.endOf, El.segAt, *] <;> omega) (seg_mdn A m c B b p ty w hB hb hm hin hp hty h1 h2 h3 h4 h5 h6 h7 h8)
        · exact no (by simp [El.segOk, El.flagsB, El.insideB, El.endB, El.alignB, El.knownB, El.endOf, El.segAt, *] <;> omega) (seg_aln A m c B b p ty w hB hb hm hin hp hty h1 h2 h3 h4 h5 h6 h7)
      · exact yes (by simp [El.segOk, El.flagsB, El.insideB, El.endB, El.alignB, El.knownB, El.endOf, El.segAt, *] <;> omega) (seg_ok2n A m c B b p ty w hB hb hm hin hp hty h1 h2 h3 h4 h5 h6)
      · exact yes (by simp [El.segOk, El.flagsB, El.insideB, El.endB, El.alignB, El.knownB, El.endOf, El.segAt, *] <;> omega) (seg_ok3n A m c B b p ty w hB hb hm hin hp hty h1 h2 h3 h4 h5 h6)
      · exact yes (by simp [El.segOk, El.flagsB, El.insideB, El.endB, El.alignB, El.knownB, El.endOf, El.segAt, *] <;> omega) (seg_ok6n A m c B b p ty w hB hb hm hin hp hty h1 h2 h3 h4 h5 h6)
    · rcases h5' with h5 | h5 | h5 | h5
      · exact no (by simp [El.segOk, El.flagsB, El.insideB, El.endB, El.alignB, El.knownB, El.endOf, El.segAt, *] <;> omega) (seg_e1n A m c B b p ty w hB hb hm hin hp hty h1 h2 h3 h4 h5 h6)
      · exact no (by simp [El.segOk, El.flagsB, El.insideB, El.endB, El.alignB, El.knownB, El.endOf, El.segAt, *] <;> omega) (seg_e2n A m c B b p ty w hB hb hm hin hp hty h1 h2 h3 h4 h5 h6)
      · exact no (by simp [El.segOk, El.flagsB, El.insideB, El.endB, El.alignB, El.knownB, El.endOf, El.segAt, *] <;> omega) (seg_e3n A m c B b p ty w hB hb hm hin hp hty h1 h2 h3 h4 h5 h6)
      · exact no (by simp [El.segOk, El.flagsB, El.insideB, El.endB, El.alignB, El.knownB, El.endOf, El.segAt, *] <;> omega) (seg_e6n A m c B b p ty w hB hb hm hin hp hty h1 h2 h3 h4 h5 h6)

end Go.Proofs.Ytkonolmakpeocaa
