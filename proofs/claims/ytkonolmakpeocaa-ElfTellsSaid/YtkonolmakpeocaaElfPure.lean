/- The plain mathematics of elf: what Parse computes of any bytes. No program in sight. No conditions. -/
import Derived.Test.YtkonolmakpeocaaWordsPure
import Derived.Lib.Strings
namespace Go.Proofs.Ytkonolmakpeocaa.El
set_option linter.unusedVariables false
set_option linter.unusedSimpArgs false
open Wd (num)

/-- A program header. -/
structure Sg where
  kind : Nat
  flags : Nat
  off : Nat
  addr : Nat
  fsz : Nat
  msz : Nat
/-- A head. -/
structure Hd where
  type : Nat
  entry : Nat
  phoff : Nat
  segs : List Sg

def segAt (b : List UInt8) (p : Nat) : Sg := ⟨num b p 4, num b (p + 4) 4, num b (p + 8) 8, num b (p + 16) 8, num b (p + 32) 8, num b (p + 40) 8⟩
def knownB (k : Nat) : Bool := k == 1 || k == 2 || k == 3 || k == 6
def endOf (ty : Nat) : Nat := if ty = 3 then 4294967296 else 140737488355328
/-- may a segment be, by itself? -/
def flagsB (s : Sg) : Bool := decide (s.flags ≤ 7)
def insideB (n : Nat) (s : Sg) : Bool := decide (s.fsz ≤ s.msz) && decide (s.off + s.fsz ≤ n)
def endB (ty : Nat) (s : Sg) : Bool := !knownB s.kind || decide (s.addr + s.msz ≤ endOf ty)
def alignB (al : Nat) (s : Sg) : Bool := !(s.kind == 1) || (al == 4096 && s.off % 4096 == s.addr % 4096 && decide (0 < s.msz))
def segOk (b : List UInt8) (p ty : Nat) : Bool := flagsB (segAt b p) && insideB b.length (segAt b p) && endB ty (segAt b p) && alignB (num b (p + 48) 8) (segAt b p)

def magic : List UInt8 := [127, 69, 76, 70, 2, 1, 1]
def hdrOk (b : List UInt8) : Bool :=
  decide (64 ≤ b.length) && Lib.hasPrefix b magic && (num b 16 2 == 2 || num b 16 2 == 3) && (num b 18 2 == 62 && num b 20 4 == 1 && num b 54 2 == 56) && (decide (0 < num b 56 2) && decide (num b 56 2 ≤ 8))

def isLoad (s : Sg) : Bool := s.kind == 1
def loads (l : List Sg) : List Sg := l.filter isLoad
/-- what is up of an address. -/
def up (a : Nat) : Nat := a + 4095 - (a + 4095) % 4096
/-- the loads rise, from 't' on. -/
def rises : List Sg → Nat → Bool
  | [], _ => true
  | s :: r, t => if isLoad s then decide (t ≤ s.addr) && rises r (up (s.addr + s.msz)) else rises r t
def holds (s l : Sg) : Bool := decide (l.addr ≤ s.addr) && decide (s.addr - l.addr + s.fsz ≤ l.fsz)
def w64 (a b : Nat) : Nat := (a + 18446744073709551616 - b) % 18446744073709551616
def filled (h : Hd) (s : Sg) : Bool :=
  match (loads h.segs).find? (holds s) with
  | some l => w64 s.off l.off == s.addr - l.addr
  | none => false
def entersBy (h : Hd) (s : Sg) : Bool := isLoad s && (s.flags % 2 == 1 && decide (w64 h.entry s.addr < s.msz))
def enters (h : Hd) : Bool := (h.type == 3 && h.entry == 0) || h.segs.any (entersBy h)
def countK (l : List Sg) (k : Nat) : Nat := (l.filter fun s => s.kind == k).length
def segWhole (h : Hd) (s : Sg) : Bool :=
  if s.kind == 2 || s.kind == 6 then filled h s else if s.kind == 3 then decide (0 < s.fsz) && decide (s.fsz ≤ 201) else true
def wholeOk (h : Hd) : Bool := h.segs.all (segWhole h) && (decide (0 < countK h.segs 1) && decide (countK h.segs 2 < 2) && decide (countK h.segs 3 < 2) && decide (countK h.segs 6 < 2) && enters h)

def segsOf (b : List UInt8) (n : Nat) : List Sg := (List.range n).map fun i => segAt b (num b 32 8 + i * 56)
def headOf (b : List UInt8) : Hd := ⟨num b 16 2, num b 24 8, num b 32 8, segsOf b (num b 56 2)⟩
def formOk (b : List UInt8) : Bool :=
  decide (num b 32 8 + num b 56 2 * 56 ≤ b.length) && (List.range (num b 56 2)).all (fun i => segOk b (num b 32 8 + i * 56) (num b 16 2)) && rises (segsOf b (num b 56 2)) 0 && wholeOk (headOf b)
/-- What Parse answers. -/
def parse (b : List UInt8) : Int × Hd := if hdrOk b then (if formOk b then (0, headOf b) else (25, ⟨0, 0, 0, []⟩)) else (13, ⟨0, 0, 0, []⟩)

end Go.Proofs.Ytkonolmakpeocaa.El
