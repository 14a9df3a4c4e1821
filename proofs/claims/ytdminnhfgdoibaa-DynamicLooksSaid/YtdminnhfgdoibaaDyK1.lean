/- The plain mathematics of words: numbers of bytes, sums below 2^64, pages. No program in sight. No conditions. The plain mathematics of elf: what Parse computes of any bytes. No program in sight. No conditions. What a dynamic section says: the plain answers. No program in sight. No conditions. Plain lemmas on worlds that every walk of this seat uses: slices that read as lists of cells, what stays below a block. No conditions. Laws of the walk for append onto a slice that the call itself owns, the source read by 'Rd' or one new element. No conditions. The walks of the package words: Add, Down, Up, Inside, sized, check, Get. Conditions: the numbers fit their kinds. A row of the call's own that is written element by element. No conditions. Results that lie in memory beside one that does not. No conditions. The walks of the references that hold bytes: EqBytes, Roomy, Kept. Conditions: there are fewer than 2^32 bytes. What it is to have grown a row of bytes of the call's own. No conditions. Rows of bytes that a conversion of a text has laid (they bear a mark behind their last cell): read, kept, appended to. No conditions. Numbers and hashes: plain facts, and the walks of number and Hash, the program's and the reference's. Conditions: as each says. The rest of a slice, s[1:], told by one address whatever its capacity. No conditions. Free of any chapter. Sub-slices with bounds of any integer kind. No conditions. Free of any chapter. string(b) of bytes that are read; parts of what is read. No conditions. Texts of a table: the walks of text, the program's and the reference's. Conditions: there are fewer than 2^32 bytes. The walks of Down and Up of the package words. Conditions: the numbers fit their kinds. The walks of elf.must, reader.at, reader.header and reader.segment: what they return, and with which error they give up. Conditions: the bytes are no more than the model's greatest length. The walk of elf's reader.segment: which program header it reads, or that it gives up. Conditions: the header lies within the bytes. Printed by wip/gen_elf2.py. One more law for append: the new element's block spelt by a number that is the heap's size. No conditions. The walks of elf.Loads, Span and first over any list of program headers. Conditions: the numbers fit their kinds; there are fewer than 2^32 headers. A map with whatever keys, its entries in their order: a new key put in, a key looked up. No conditions. Free of any chapter. A map that a call fills with new keys and ranges over: its entries in their order, and their stamps. No conditions. Free of any chapter. A block of the call's own, by its cells: read, written, kept. No conditions. The plain lemma on the capacity of a row of the call's own. No conditions. A dynamic section in memory; where addresses are laid: the walks of laid and table. Conditions: as each says. The walk of table. Conditions: as each says. What the check of entries says, step by step: plain facts. No program in sight. No conditions. The walk of known; a section whose tags grow. No conditions. -/
import Derived.Laws.BitsAllLaws
import Derived.Laws.Entries
import Derived.Lib.Strings
import Derived.WalkKit
import Derived.Below
import Derived.Lib.Hide
import Derived.Lib.OthersKept
import Derived.Deep.Draws
import Derived.Laws.OwnMore
import Derived.WalkSmall
import Derived.OneCell
import Derived.Maps.AppendAt
import Derived.OwnWalk
import Derived.Test.YtdminnhfgdoibaaProg
import Derived.WalkSpells
import Derived.WalkLawsBesides
import Derived.BigQuiet
import Derived.Deep.QuietTactic
import Derived.Laws.Rows
import Derived.Laws.Tables
import Derived.Laws.ResultCell
import Derived.Deep.LoopGhost
import Derived.Laws.IdiomStrings
import Derived.Laws.CopyRow
import Derived.Laws.BytesArg
import Derived.Test.YtdminnhfgdoibaaShelf
import Derived.Lib.IndexLaws
import Derived.Lib.SlBytesConst
import Derived.Handy
import Derived.Laws.CopyOwn
import Derived.Maps.Own
import Derived.Laws.IdiomRangeMap
namespace Go.Proofs.Ytdminnhfgdoibaa.Wd
set_option linter.unusedVariables false
set_option linter.unusedSimpArgs false

/-- The greatest uint64. -/
def top : Int := 18446744073709551615
theorem top_def : top = 18446744073709551615 := rfl

theorem xor_top (b : Int) (h0 : 0 ≤ b) (h1 : b ≤ 18446744073709551615) : bits .xor .u64 IntKind.u64.max b = 18446744073709551615 - b := by
  obtain ⟨n, rfl⟩ := Int.eq_ofNat_of_zero_le h0
  have e : IntKind.u64.max = ((18446744073709551615 : Nat) : Int) := rfl
  rw [e, u64_xor_nat _ _ (by omega) (by omega)]
  have h2 : n < 2 ^ 64 := by omega
  have h3 : (18446744073709551615 : Nat) ^^^ n = 2 ^ 64 - 1 - n := by
    have h4 := BitVec.toNat_not (x := BitVec.ofNat 64 n)
    rw [← BitVec.xor_allOnes, BitVec.toNat_xor, BitVec.toNat_ofNat, BitVec.toNat_allOnes, Nat.mod_eq_of_lt h2, Nat.xor_comm] at h4
    exact h4
  rw [h3]
  omega

theorem andNot_page (a : Int) (h0 : 0 ≤ a) (h1 : a ≤ 18446744073709551615) : bits .andNot .u64 a 4095 = a - a % 4096 := by
  obtain ⟨n, rfl⟩ := Int.eq_ofNat_of_zero_le h0
  have e : (4095 : Int) = ((4095 : Nat) : Int) := rfl
  rw [e, u64_andNot_nat _ _ (by omega) (by omega)]
  have h2 : n < 2 ^ 64 := by omega
  have h3 : n &&& (18446744073709551615 - 4095) = n - n % 4096 := by
    have h5 : (18446744073709551615 - 4095 : Nat) ^^^ 4095 = 2 ^ 64 - 1 := by decide
    have h6 : n &&& (2 ^ 64 - 1) = n := by rw [Nat.and_two_pow_sub_one_eq_mod]; exact Nat.mod_eq_of_lt h2
    have h7 : n &&& 4095 = n % 4096 := Nat.and_two_pow_sub_one_eq_mod n 12
    have h8 : (n &&& (18446744073709551615 - 4095)) + (n &&& 4095) = n := by
      have h9 : (n &&& (18446744073709551615 - 4095)) ||| (n &&& 4095) = n := by
        rw [← Nat.and_or_distrib_left]
        have : (18446744073709551615 - 4095 : Nat) ||| 4095 = 2 ^ 64 - 1 := by decide
        rw [this, h6]
      have h10 : (n &&& (18446744073709551615 - 4095)) ||| (n &&& 4095) = (n &&& (18446744073709551615 - 4095)) + (n &&& 4095) := by
        refine nat_join 12 _ _ ?_ ?_
        · have e2 : (18446744073709551615 - 4095 : Nat) = (2 ^ 52 - 1) <<< 12 := by decide
          rw [e2, ← Nat.and_two_pow_sub_one_eq_mod, Nat.and_assoc]
          have : ((2 ^ 52 - 1 : Nat) <<< 12) &&& (2 ^ 12 - 1) = 0 := by decide
          rw [this, Nat.and_zero]
        · rw [h7]
          exact Nat.mod_lt _ (by decide)
      omega
    omega
  rw [h3]
  omega

/-- Numbers of bytes, the lowest first. -/
def le : List UInt8 → Nat
  | [] => 0
  | c :: r => c.toNat + 256 * le r
def num (b : List UInt8) (p n : Nat) : Nat := le ((b.drop p).take n)

theorem le_snoc (l : List UInt8) (c : UInt8) : le (l ++ [c]) = le l + 256 ^ l.length * c.toNat := by
  induction l with
  | nil => simp [le]
  | cons a r ih =>
    simp only [List.cons_append, le, ih, List.length_cons, Nat.pow_succ, Nat.mul_add]
    rw [Nat.add_assoc, ← Nat.mul_assoc, Nat.mul_comm 256 (256 ^ r.length)]
theorem le_lt (l : List UInt8) : le l < 256 ^ l.length := by
  induction l with
  | nil => simp [le]
  | cons a r ih =>
    have := a.toNat_lt
    simp only [le, List.length_cons, Nat.pow_succ]
    omega
theorem num_zero (b : List UInt8) (p : Nat) : num b p 0 = 0 := by simp [num, le]
theorem num_succ (b : List UInt8) (p n : Nat) (c : UInt8) (h : b[p + n]? = some c) : num b p (n + 1) = num b p n + 256 ^ n * c.toNat := by
  unfold num
  have hl : p + n < b.length := by
    rcases Nat.lt_or_ge (p + n) b.length with h1 | h1
    · exact h1
    · rw [List.getElem?_eq_none h1] at h; cases h
  rw [List.take_add_one, List.getElem?_drop, h]
  simp only [Option.toList_some]
  rw [le_snoc, List.length_take, List.length_drop, Nat.min_eq_left (by omega)]
theorem num_lt (b : List UInt8) (p n : Nat) : num b p n < 256 ^ n := by
  unfold num
  refine Nat.lt_of_lt_of_le (le_lt _) (Nat.pow_le_pow_right (by omega) (List.length_take_le _ _))
theorem or_step (x c i : Nat) (h : x < 256 ^ i) : x ||| (c * 2 ^ (8 * i)) = x + 256 ^ i * c := by
  have e : 2 ^ (8 * i) = 256 ^ i := by rw [Nat.pow_mul]
  rw [Nat.or_comm, e, nat_join (8 * i) (c * 256 ^ i) x (by rw [e]; exact Nat.mul_mod_left _ _) (by rw [e]; exact h)]
  rw [Nat.mul_comm, Nat.add_comm]

def memB (v : Int) (xs : List Int) : Bool := decide (v ∈ xs)
def sizedB (n : Int) : Bool := memB n [1, 2, 4, 8]
theorem sizedB_yes {n : Int} (h : n = 1 ∨ n = 2 ∨ n = 4 ∨ n = 8) : sizedB n = true := by simpa [sizedB, memB] using h

theorem or_val (N x k : Nat) (h : N < 256 ^ k) (hx : x < 256) (hk : k < 8) :
    bits .or .u64 (N : Int) (IntKind.u64.wrap (IntKind.u64.wrap (x : Int) * 2 ^ (8 * k))) = ((N + 256 ^ k * x : Nat) : Int) := by
  have e1 : IntKind.u64.wrap (x : Int) = (x : Int) := by rw [IntKind.wrap_u64]; omega
  have hle : 2 ^ (8 * k) ≤ 2 ^ 56 := Nat.pow_le_pow_right (by omega) (by omega)
  have hp : x * 2 ^ (8 * k) < 18446744073709551616 := by
    have h1 : x * 2 ^ (8 * k) ≤ 255 * 2 ^ 56 := Nat.mul_le_mul (by omega) hle
    omega
  have e2 : ((x : Int) * 2 ^ (8 * k)) = ((x * 2 ^ (8 * k) : Nat) : Int) := by push_cast; rfl
  have e3 : IntKind.u64.wrap ((x * 2 ^ (8 * k) : Nat) : Int) = ((x * 2 ^ (8 * k) : Nat) : Int) := by rw [IntKind.wrap_u64]; omega
  have hN : N < 18446744073709551616 := by
    have h1 : (256 : Nat) ^ k ≤ 256 ^ 8 := Nat.pow_le_pow_right (by omega) (by omega)
    omega
  rw [e1, e2, e3, u64_or_nat _ _ hN hp, or_step N x k h]

end Go.Proofs.Ytdminnhfgdoibaa.Wd
namespace Go.Proofs.Ytdminnhfgdoibaa.El
set_option linter.unusedVariables false
set_option linter.unusedSimpArgs false
open Wd (num)

/-- A program header. -/
structure Sg where
  kind : Nat
  flags : Nat
  off : Nat
  addr : Nat
  fsz : Nat
  msz : Nat
/-- A head. -/
structure Hd where
  type : Nat
  entry : Nat
  phoff : Nat
  segs : List Sg

def segAt (b : List UInt8) (p : Nat) : Sg := ⟨num b p 4, num b (p + 4) 4, num b (p + 8) 8, num b (p + 16) 8, num b (p + 32) 8, num b (p + 40) 8⟩
def knownB (k : Nat) : Bool := k == 1 || k == 2 || k == 3 || k == 6
def endOf (ty : Nat) : Nat := if ty = 3 then 4294967296 else 140737488355328
/-- may a segment be, by itself? -/
def flagsB (s : Sg) : Bool := decide (s.flags ≤ 7)
def insideB (n : Nat) (s : Sg) : Bool := decide (s.fsz ≤ s.msz) && decide (s.off + s.fsz ≤ n)
def endB (ty : Nat) (s : Sg) : Bool := !knownB s.kind || decide (s.addr + s.msz ≤ endOf ty)
def alignB (al : Nat) (s : Sg) : Bool := !(s.kind == 1) || (al == 4096 && s.off % 4096 == s.addr % 4096 && decide (0 < s.msz))
def segOk (b : List UInt8) (p ty : Nat) : Bool := flagsB (segAt b p) && insideB b.length (segAt b p) && endB ty (segAt b p) && alignB (num b (p + 48) 8) (segAt b p)

def magic : List UInt8 := [127, 69, 76, 70, 2, 1, 1]
def hdrOk (b : List UInt8) : Bool :=
  decide (64 ≤ b.length) && Lib.hasPrefix b magic && (num b 16 2 == 2 || num b 16 2 == 3) && (num b 18 2 == 62 && num b 20 4 == 1 && num b 54 2 == 56) && (decide (0 < num b 56 2) && decide (num b 56 2 ≤ 8))

def isLoad (s : Sg) : Bool := s.kind == 1
def loads (l : List Sg) : List Sg := l.filter isLoad
/-- what is up of an address. -/
def up (a : Nat) : Nat := a + 4095 - (a + 4095) % 4096
/-- the loads rise, from 't' on. -/
def rises : List Sg → Nat → Bool
  | [], _ => true
  | s :: r, t => if isLoad s then decide (t ≤ s.addr) && rises r (up (s.addr + s.msz)) else rises r t
def holds (s l : Sg) : Bool := decide (l.addr ≤ s.addr) && decide (s.addr - l.addr + s.fsz ≤ l.fsz)
def w64 (a b : Nat) : Nat := (a + 18446744073709551616 - b) % 18446744073709551616
def filled (h : Hd) (s : Sg) : Bool :=
  match (loads h.segs).find? (holds s) with
  | some l => w64 s.off l.off == s.addr - l.addr
  | none => false
def entersBy (h : Hd) (s : Sg) : Bool := isLoad s && (s.flags % 2 == 1 && decide (w64 h.entry s.addr < s.msz))
def enters (h : Hd) : Bool := (h.type == 3 && h.entry == 0) || h.segs.any (entersBy h)
def countK (l : List Sg) (k : Nat) : Nat := (l.filter fun s => s.kind == k).length
def segWhole (h : Hd) (s : Sg) : Bool :=
  if s.kind == 2 || s.kind == 6 then filled h s else if s.kind == 3 then decide (0 < s.fsz) && decide (s.fsz ≤ 201) else true
def wholeOk (h : Hd) : Bool := h.segs.all (segWhole h) && (decide (0 < countK h.segs 1) && decide (countK h.segs 2 < 2) && decide (countK h.segs 3 < 2) && decide (countK h.segs 6 < 2) && enters h)

def segsOf (b : List UInt8) (n : Nat) : List Sg := (List.range n).map fun i => segAt b (num b 32 8 + i * 56)
def headOf (b : List UInt8) : Hd := ⟨num b 16 2, num b 24 8, num b 32 8, segsOf b (num b 56 2)⟩
def formOk (b : List UInt8) : Bool :=
  decide (num b 32 8 + num b 56 2 * 56 ≤ b.length) && (List.range (num b 56 2)).all (fun i => segOk b (num b 32 8 + i * 56) (num b 16 2)) && rises (segsOf b (num b 56 2)) 0 && wholeOk (headOf b)
/-- What Parse answers. -/
def parse (b : List UInt8) : Int × Hd := if hdrOk b then (if formOk b then (0, headOf b) else (25, ⟨0, 0, 0, []⟩)) else (13, ⟨0, 0, 0, []⟩)

end Go.Proofs.Ytdminnhfgdoibaa.El
namespace Go.Proofs.Ytdminnhfgdoibaa.Dy
set_option linter.unusedVariables false
set_option linter.unusedSimpArgs false
open Wd (num)
open El (Sg)

structure Sym where
  name : ByteArray
  value : Nat
  size : Nat
  bind : Nat
  isdef : Bool
structure Rel where
  off : Nat
  type : Nat
  sym : Nat
  add : Nat
structure Dyn where
  needed : List ByteArray
  soname : ByteArray
  run : ByteArray
  syms : List Sym
  relas : List Rel
def zero : Dyn := ⟨[], ⟨#[]⟩, ⟨#[]⟩, [], []⟩

/-- The entries ahead of the first one with the tag 0, of so many from a place on. -/
def ents (b : List UInt8) : Nat → Nat → Option (List (Nat × Nat))
  | 0, _ => none
  | k + 1, p => if num b p 8 = 0 then some [] else (ents b k (p + 16)).map ((num b p 8, num b (p + 8) 8) :: ·)
def once (t : Nat) : Bool := [2, 4, 5, 6, 7, 8, 9, 10, 11, 14, 15, 20, 23, 29].contains t
/-- The value of the first entry of a tag. -/
def val : List (Nat × Nat) → Nat → Option Nat
  | [], _ => none
  | e :: r, t => if e.1 = t then some e.2 else val r t
def twice : List (Nat × Nat) → Bool
  | [] => false
  | e :: r => (once e.1 && (val r e.1).isSome) || twice r
def isV (o : Option Nat) (v : Nat) : Bool := match o with
  | none => true
  | some x => decide (x = v)
def pair (L : List (Nat × Nat)) (a b : Nat) : Bool := (val L a).isSome == (val L b).isSome
def fits (L : List (Nat × Nat)) : Bool := !twice L && (isV (val L 11) 24 && isV (val L 9) 24 && isV (val L 20) 7) && (pair L 5 10 && pair L 4 6 && pair L 7 8 && pair L 23 2)
def many (L : List (Nat × Nat)) : Nat := (L.filter fun e => e.1 == 1).length
def may (L : List (Nat × Nat)) : Int := if fits L = false then 25 else if 8 < many L then 12 else 0

/-- Where a stretch of addresses is laid. -/
def laid (n : Nat) (l : List Sg) (addr size : Nat) : Option Nat :=
  match l.find? (fun s => decide (s.addr ≤ addr) && decide (addr - s.addr + size ≤ s.fsz)) with
  | none => none
  | some s => if s.off + (addr - s.addr) < 18446744073709551616 ∧ s.off + (addr - s.addr) + size ≤ n then some (s.off + (addr - s.addr)) else none
def cut (b : List UInt8) (off size : Nat) : List UInt8 := (b.drop off).take size
/-- A table that is told by two tags: where it lies and how long it is; none where it is not laid. -/
def table (n : Nat) (l : List Sg) (L : List (Nat × Nat)) (at_ size : Nat) : Option (Nat × Nat) :=
  match val L at_ with
  | none => some (0, 0)
  | some a => (laid n l a ((val L size).getD 0)).map fun o => (o, (val L size).getD 0)
def text (t : List UInt8) (p : Nat) : Option ByteArray :=
  if t.length ≤ p then none else if (t.drop p).contains 0 = true then some ⟨((t.drop p).takeWhile fun c => c != 0).toArray⟩ else none
/-- The hash table and the symbols: buckets, chain, where each lies. -/
structure Names where
  buckets : Nat
  chain : Nat
  hash : Nat
  syms : Nat
def names (b : List UInt8) (l : List Sg) (L : List (Nat × Nat)) : Int × Names :=
  match val L 4 with
  | none => (0, ⟨0, 0, 0, 0⟩)
  | some at_ =>
    match laid b.length l at_ 8 with
    | none => (25, ⟨0, 0, 0, 0⟩)
    | some p =>
      if 65 < num b (p + 4) 4 then (12, ⟨0, 0, 0, 0⟩)
      else match laid b.length l at_ (8 + 4 * num b p 4 + 4 * num b (p + 4) 4), laid b.length l ((val L 6).getD 0) (24 * num b (p + 4) 4) with
        | some h, some s => (0, ⟨num b p 4, num b (p + 4) 4, h, s⟩)
        | _, _ => (25, ⟨0, 0, 0, 0⟩)
def relaB (b : List UInt8) (l : List Sg) (L : List (Nat × Nat)) : Int × List UInt8 :=
  if ((val L 8).getD 0) % 24 ≠ 0 ∨ ((val L 2).getD 0) % 24 ≠ 0 then (25, [])
  else if 1536 < (val L 8).getD 0 + (val L 2).getD 0 then (12, [])
  else match table b.length l L 7 8, table b.length l L 23 2 with
    | some x, some y => (0, cut b x.1 x.2 ++ cut b y.1 y.2)
    | _, _ => (25, [])
/-- The texts, entry by entry. -/
def texts (t : List UInt8) (run : Bool) : List (Nat × Nat) → Dyn → Option Dyn
  | [], d => some d
  | e :: r, d =>
    if e.1 = 1 ∨ e.1 = 14 ∨ e.1 = 15 ∨ e.1 = 29 then
      match text t e.2 with
      | none => none
      | some s => texts t run r (if e.1 = 1 then { d with needed := d.needed ++ [s] } else if e.1 = 14 then { d with soname := s } else if e.1 = 29 ∨ run = false then { d with run := s } else d)
    else texts t run r d
def symAt (t : List UInt8) (b : List UInt8) (p : Nat) : Option Sym :=
  match text t (num b p 4) with
  | none => none
  | some s => if 2 < num b (p + 4) 1 / 16 then none else some ⟨s, num b (p + 8) 8, num b (p + 16) 8, num b (p + 4) 1 / 16, decide (num b (p + 6) 2 ≠ 0)⟩
def symsFrom (t : List UInt8) (b : List UInt8) : Nat → Nat → Option (List Sym)
  | 0, _ => some []
  | k + 1, p => match symAt t b p with
    | none => none
    | some s => (symsFrom t b k (p + 24)).map (s :: ·)
def relAt (b : List UInt8) (p : Nat) : Rel := ⟨num b p 8, num b (p + 8) 4, num b (p + 12) 4, num b (p + 16) 8⟩
def relsFrom (m : Nat) (b : List UInt8) : Nat → Nat → Option (List Rel)
  | 0, _ => some []
  | k + 1, p => if m < num b (p + 12) 4 then none else (relsFrom m b k (p + 24)).map (relAt b p :: ·)
/-- The entries of the first dynamic segment: nothing where there is none. -/
def open_ (b : List UInt8) (segs : List Sg) : Int × Option (List (Nat × Nat)) :=
  match segs.find? (fun s => s.kind == 2) with
  | none => (0, none)
  | some s =>
    if s.fsz % 16 ≠ 0 ∨ b.length < s.off + s.fsz then (25, none)
    else match ents b (s.fsz / 16) s.off with
      | none => (25, none)
      | some L => if may L = 0 then (0, some L) else (may L, none)
def parse (b : List UInt8) (segs : List Sg) : Dyn × Int :=
  match open_ b segs with
  | (e, none) => (zero, e)
  | (_, some L) =>
    match table b.length (El.loads segs) L 5 10 with
    | none => (zero, 25)
    | some t =>
      if (names b (El.loads segs) L).1 ≠ 0 then (zero, (names b (El.loads segs) L).1)
      else if (relaB b (El.loads segs) L).1 ≠ 0 then (zero, (relaB b (El.loads segs) L).1)
      else match texts (cut b t.1 t.2) (val L 29).isSome L zero with
        | none => (zero, 25)
        | some d =>
          match symsFrom (cut b t.1 t.2) b ((names b (El.loads segs) L).2.chain - 1) ((names b (El.loads segs) L).2.syms + 24) with
          | none => (zero, 25)
          | some ss =>
            match relsFrom ss.length (relaB b (El.loads segs) L).2 ((relaB b (El.loads segs) L).2.length / 24) 0 with
            | none => (zero, 25)
            | some rs => ({ d with syms := ss, relas := rs }, 0)
/-- The number of a name. -/
def hashStep (h : Nat) (c : UInt8) : Nat :=
  let x := (h * 16 + c.toNat) % 4294967296
  (x ^^^ (x / 268435456 * 16)) % 268435456
def hash (s : List UInt8) : Nat := s.foldl hashStep 0
/-- The links of a bucket: those that are gone, and whether they end. -/
def linksFrom (b : List UInt8) (n : Names) : Nat → Nat → List Nat × Bool
  | 0, i => ([], decide (i = 0))
  | k + 1, i => if i = 0 then ([], true) else if n.chain ≤ i then ([], false)
    else (i :: (linksFrom b n k (num b (n.hash + 8 + 4 * n.buckets + 4 * i) 4)).1, (linksFrom b n k (num b (n.hash + 8 + 4 * n.buckets + 4 * i) 4)).2)
def links (b : List UInt8) (n : Names) (name : List UInt8) : List Nat × Bool :=
  if n.buckets = 0 then ([], true) else linksFrom b n n.chain (num b (n.hash + 8 + 4 * (hash name % n.buckets)) 4)
def lookIn (d : Dyn) (name : ByteArray) : List Nat → Nat × Bool
  | [] => (0, false)
  | i :: r => if (d.syms[i - 1]?.map (·.name)) = some name then (i - 1, true) else lookIn d name r
def look (b : List UInt8) (segs : List Sg) (name : ByteArray) : Nat × Bool :=
  if (parse b segs).2 ≠ 0 then (0, false)
  else match (open_ b segs).2 with
    | none => (0, false)
    | some L => lookIn (parse b segs).1 name (links b (names b (El.loads segs) L).2 name.data.toList).1
def rightFrom (b : List UInt8) (n : Names) : List Sym → Nat → Bool
  | [], _ => true
  | s :: r, k => (decide (s.name.size = 0) || ((links b n s.name.data.toList).2 && (links b n s.name.data.toList).1.contains (k + 1))) && rightFrom b n r (k + 1)
def right (b : List UInt8) (segs : List Sg) : Bool :=
  if (parse b segs).2 ≠ 0 then false
  else match (open_ b segs).2 with
    | none => true
    | some L => rightFrom b (names b (El.loads segs) L).2 (parse b segs).1.syms 0
end Go.Proofs.Ytdminnhfgdoibaa.Dy
namespace Go.Proofs.Ytdminnhfgdoibaa
set_option linter.unusedVariables false
set_option linter.unusedSimpArgs false
open Go.RowKit

/-- A contract that leaves the world alone, said so that the caller's name of the world stays. -/
theorem flipw {P : Program} {f : FuncId} {args : Array Value} {w : World} {r : Ending} (h : Calls P f args w fun e w' => e = r ∧ w' = w) : Calls P f args w fun e w' => e = r ∧ w = w' :=
  h.mono fun _ _ ⟨a, b⟩ => ⟨a, b.symm⟩

theorem hide {p : Prop} (h : p) : Hid p := h
theorem unhide {p : Prop} (h : Hid p) : p := h

theorem ret_int {k : IntKind} {a b : Int} (h : a = b) : Ending.returned (.int k a) = .returned (.int k b) := by rw [h]
theorem ret_bool {a b : Bool} (h : a = b) : Ending.returned (.bool a) = .returned (.bool b) := by rw [h]
theorem ret_val {a b : Value} (h : a = b) : Ending.returned a = .returned b := by rw [h]

theorem bcell {W w1 : World} (hb : Below W.heap.size W w1) : (∀ b o, b < W.heap.size → w1.cell? ⟨b, o, none⟩ = W.cell? ⟨b, o, none⟩) ∧ (∀ b o, b < W.heap.size → w1.frozen? ⟨b, o, none⟩ = W.frozen? ⟨b, o, none⟩) :=
  ⟨fun b o h => hb.cell (p := ⟨b, o, none⟩) h, fun b o h => hb.frozen (p := ⟨b, o, none⟩) h⟩

/-- The newest block of the call's own stands behind a call that keeps what was there. -/
theorem newblk {w w1 : World} {o : Obj} (hb : Below (w.alloc o).heap.size (w.alloc o) w1) : w1.heap[w.heap.size]? = some o :=
  (hb.block _ (by simp)).trans (heap_alloc_new _ _)
theorem below_new {w w1 : World} {o : Obj} (hb : Below (w.alloc o).heap.size (w.alloc o) w1) : Below w.heap.size w w1 :=
  ((Below.refl _ _).alloc (Nat.le_refl _) _).trans (hb.mono (by simp))

theorem below_sz {W w1 : World} (hb : Below W.heap.size W w1) : W.heap.size ≤ w1.heap.size := hb.size

theorem below_drewN' {B : Nat} {a w : World} (h : Below B a w) (n : Nat) : Below B a (w.drewN n) := ⟨h.os, h.tape, h.output, h.size, h.block⟩

theorem byte_eq (c d : UInt8) : (((c.toNat : Nat) : Int) == ((d.toNat : Nat) : Int)) = decide (c = d) := by
  rw [Bool.eq_iff_iff, beq_iff_eq, decide_eq_true_eq]
  exact ⟨fun h => UInt8.toNat_inj.1 (by omega), fun h => by rw [h]⟩
theorem byte_47 (c : UInt8) : (((c.toNat : Nat) : Int) == 47) = decide (c = 47) := byte_eq c 47
theorem byte_0 (c : UInt8) : (((c.toNat : Nat) : Int) == 0) = decide (c = 0) := byte_eq c 0
theorem byte_58 (c : UInt8) : (((c.toNat : Nat) : Int) == 58) = decide (c = 58) := byte_eq c 58
theorem byte_61 (c : UInt8) : (((c.toNat : Nat) : Int) == 61) = decide (c = 61) := byte_eq c 61

theorem isEmpty_toList (p : ByteArray) : p.toList.isEmpty = decide (p.size = 0) := by
  rw [Lib.toList_data, Bool.eq_iff_iff, List.isEmpty_iff_length_eq_zero, decide_eq_true_eq]
  exact Iff.rfl
theorem beq_toList (p q : ByteArray) : (p.toList == q.toList) = decide (p = q) := by
  rw [Lib.toList_data, Lib.toList_data, Bool.eq_iff_iff, beq_iff_eq, decide_eq_true_eq]
  exact ⟨fun h => ByteArray.ext (Array.toList_inj.1 h), fun h => by rw [h]⟩

/-- The slice value '.slice A n c' holds the cells xs, one behind the other, 'size' cells an element, in a block below B. -/
def Rd (w : World) (B size : Nat) (A : Option Addr) (n : Nat) (xs : List Value) : Prop :=
  xs.length = n * size ∧ (xs = [] ∨ ∃ b off, A = some ⟨b, off, none⟩ ∧ b < B ∧ ∀ j u, xs[j]? = some u → w.cell? ⟨b, off + j, none⟩ = some u)

section
variable {w w' : World} {B B' size n : Nat} {A : Option Addr} {xs : List Value}
theorem Rd.none_ (w : World) (B size : Nat) (A : Option Addr) : Rd w B size A 0 [] := ⟨by simp, .inl rfl⟩
theorem Rd.len1 (h : Rd w B 1 A n xs) : xs.length = n := by have := h.1; omega
theorem Rd.at_ {k : Nat} {u : Value} (h : Rd w B 1 A n xs) (hk : xs[k]? = some u) : ∃ b off, A = some ⟨b, off, none⟩ ∧ b < B ∧ w.cell? ⟨b, off + k, none⟩ = some u := by
  rcases h.2 with rfl | ⟨b, off, e, hb, hc⟩
  · simp at hk
  · exact ⟨b, off, e, hb, hc _ _ hk⟩
theorem Rd.open_ (h : Rd w B size A n xs) (hn : xs ≠ []) : ∃ b off, A = some ⟨b, off, none⟩ ∧ b < B ∧ ∀ j u, xs[j]? = some u → w.cell? ⟨b, off + j, none⟩ = some u := by
  rcases h.2 with h0 | h1
  · exact absurd h0 hn
  · exact h1
theorem Rd.keep (h : Rd w B size A n xs) (hk : ∀ p : Addr, p.block < B → w'.cell? p = w.cell? p) : Rd w' B size A n xs :=
  ⟨h.1, h.2.imp id fun ⟨b, off, e, hb, hc⟩ => ⟨b, off, e, hb, fun j u hu => (hk _ hb).trans (hc j u hu)⟩⟩
theorem Rd.more (h : Rd w B size A n xs) (hB : B ≤ B') : Rd w B' size A n xs :=
  ⟨h.1, h.2.imp id fun ⟨b, off, e, hb, hc⟩ => ⟨b, off, e, by omega, hc⟩⟩
theorem Rd.below (h : Rd w B size A n xs) (hb : Below B w w') : Rd w' B size A n xs := h.keep fun _ hp => hb.cell hp
theorem Rd.belowSz (h : Rd w w.heap.size size A n xs) (hb : Below w.heap.size w w') : Rd w' w'.heap.size size A n xs := (h.below hb).more hb.size
theorem Rd.drew (h : Rd w B size A n xs) : Rd w.drew B size A n xs := h
theorem Rd.drewN (h : Rd w B size A n xs) (k : Nat) : Rd (w.drewN k) B size A n xs := h
theorem Rd.alloc (h : Rd w B size A n xs) (hB : B ≤ w.heap.size) (o : Obj) : Rd (w.alloc o) B size A n xs := h.keep fun p hp => World.cell?_alloc_lt w o p (by omega)
theorem Rd.setCell (h : Rd w B size A n xs) {p : Addr} (hB : B ≤ p.block) (u : Value) : Rd (w.setCell p u) B size A n xs :=
  h.keep fun q hq => World.cell?_setCell_other w p q u (fun e => by subst e; omega)
theorem Rd.of_own {base : Nat} {e : TypeId} {c : Nat} (h : w.ownsRow base e size (.slice A n c) n xs) : Rd w w.heap.size size A n xs := by
  refine ⟨h.1, ?_⟩
  by_cases h0 : xs = []
  · exact .inl h0
  · have h2 := h.2
    rcases h2 with ⟨_, h3⟩ | ⟨g, cap, cur, hv, hbg, hh, hcap, hcm, hsz, htk⟩
    · subst h3
      exact absurd (List.eq_nil_of_length_eq_zero (by simpa using h.1)) h0
    · have hA : A = some ⟨g, 0, none⟩ := by injection hv
      refine .inr ⟨g, 0, hA, (Array.getElem?_eq_some_iff.1 hh).1, fun j u hu => ?_⟩
      rw [cell_of_row w g (0 + j) cur e (0, 0) hh, Nat.zero_add]
      rw [← htk, List.getElem?_take] at hu
      split at hu
      · simpa using hu
      · cases hu
theorem own_form {base : Nat} {e : TypeId} {v : Value} (h : w.ownsRow base e size v n xs) : ∃ A c, v = .slice A n c := by
  rcases h.2 with ⟨rfl, rfl⟩ | ⟨g, cap, cur, rfl, _⟩
  · exact ⟨_, _, rfl⟩
  · exact ⟨_, _, rfl⟩
end

theorem own_base {w : World} {base base' : Nat} {e : TypeId} {size n : Nat} {v : Value} {xs : List Value} (h : w.ownsRow base e size v n xs) (hb : base' ≤ base) : w.ownsRow base' e size v n xs :=
  ⟨h.1, h.2.imp id fun ⟨g, cap, cur, e1, e2, r⟩ => ⟨g, cap, cur, e1, Nat.le_trans hb e2, r⟩⟩

theorem own_below {w w' : World} {base : Nat} {e : TypeId} {size n : Nat} {v : Value} {xs : List Value} (h : w.ownsRow base e size v n xs) (hb : Below w.heap.size w w') : w'.ownsRow base e size v n xs :=
  ⟨h.1, h.2.imp id fun ⟨g, cap, cur, e1, e2, e3, r⟩ => ⟨g, cap, cur, e1, e2, (hb.block g (Array.getElem?_eq_some_iff.1 e3).1).trans e3, r⟩⟩
theorem own_drewN {w : World} {base : Nat} {e : TypeId} {size n : Nat} {v : Value} {xs : List Value} (h : w.ownsRow base e size v n xs) (j : Nat) : (w.drewN j).ownsRow base e size v n xs := h
theorem own_some {w : World} {base : Nat} {e : TypeId} {size n c : Nat} {A : Option Addr} {xs : List Value} (h : w.ownsRow base e size (.slice A n c) n xs) (hn : 0 < n) : ∃ g, A = some ⟨g, 0, none⟩ ∧ base ≤ g ∧ g < w.heap.size := by
  rcases h.2 with ⟨_, h0⟩ | ⟨g, cap, cur, e1, e2, e3, _⟩
  · omega
  · injection e1 with e1
    exact ⟨g, e1, e2, (Array.getElem?_eq_some_iff.1 e3).1⟩
/-- A row that was made later lies elsewhere. -/
theorem own_ne {w w2 : World} {base base2 : Nat} {e e2 : TypeId} {size size2 n n2 : Nat} {v v2 : Value} {xs xs2 : List Value} (h : w.ownsRow base e size v n xs) (h2 : w2.ownsRow base2 e2 size2 v2 n2 xs2) (hle : w.heap.size ≤ base2) :
    v2.ownBlock = none ∨ v2.ownBlock ≠ v.ownBlock := by
  cases hv : v2.ownBlock with
  | none => exact .inl rfl
  | some k =>
    refine .inr fun e => ?_
    have := (h2.lt k hv).1
    have := (h.lt k e.symm).2
    omega

/-- Only block 'row', and what is new, has turned between the two worlds: 'grownBy' chains. -/
theorem grown_trans {a b c : World} {row : Option Nat} (h : a.grownBy b row) (k : b.grownBy c row) : a.grownBy c row :=
  ⟨k.os.trans h.os, k.tape.trans h.tape, k.output.trans h.output, Nat.le_trans h.size k.size, fun i hi hr => (k.block i (Nat.lt_of_lt_of_le hi h.size) hr).trans (h.block i hi hr)⟩

end Go.Proofs.Ytdminnhfgdoibaa
namespace Go.Proofs.Ytdminnhfgdoibaa
set_option linter.unusedVariables false
set_option linter.unusedSimpArgs false
open Go.RowKit

/-- What a slice type t of elements e is known by: 'size' cells, 'bytes' bytes an element. -/
structure SlTy (P : Program) (t e : TypeId) (size bytes : Nat) : Prop where
  ht : P.underlying t = some (.slice e)
  hi : ∃ i z, P.info? e = some i ∧ i.zero = some z ∧ i.size = size ∧ i.bytes = bytes ∧ z.cells.size = size
  hsz : 0 < size
  hby : 0 < bytes

theorem slTy_mk {P : Program} {t e : TypeId} {size bytes : Nat} {z : Value} (ht : P.underlying t = some (.slice e)) (h : (P.info? e).map (fun i => (i.zero, i.size, i.bytes)) = some (some z, size, bytes))
    (hz : z.cells.size = size) (hsz : 0 < size) (hby : 0 < bytes) : SlTy P t e size bytes := by
  refine ⟨ht, ?_, hsz, hby⟩
  cases hi : P.info? e with
  | none => simp [hi] at h
  | some i =>
    simp [hi] at h
    exact ⟨i, z, rfl, h.1, h.2.1, h.2.2, hz⟩

theorem Rd.row {w : World} {cs : Array Value} {e : TypeId} {size : Nat} (hc : cs.size = size) : Rd (w.alloc (.cells cs e)) (w.heap.size + 1) size (some ⟨w.heap.size, 0, none⟩) 1 cs.toList := by
  refine ⟨by simp [hc], .inr ⟨w.heap.size, 0, rfl, by omega, fun j u hu => ?_⟩⟩
  rw [cell_of_row _ w.heap.size (0 + j) cs e (0, 0) (heap_alloc_new _ _), Nat.zero_add]
  simpa using hu

theorem Rd.rowF {w : World} {cs : Array Value} {e : TypeId} {size n : Nat} {fz : Nat × Nat} (hc : cs.size = n * size) : Rd (w.alloc (.cells cs e fz)) (w.heap.size + 1) size (some ⟨w.heap.size, 0, none⟩) n cs.toList := by
  refine ⟨by simp [hc], .inr ⟨w.heap.size, 0, rfl, by omega, fun j u hu => ?_⟩⟩
  rw [cell_of_row _ w.heap.size (0 + j) cs e fz (heap_alloc_new _ _), Nat.zero_add]
  simpa using hu

section
variable {P : Program} {t e : TypeId} {size bytes : Nat}

theorem run_app (T : SlTy P t e size bytes) (w : World) (base : Nat) (ty : TypeId) (v : Value) (n : Nat) (xs : List Value) (hown : w.ownsRow base e size v n xs)
    (B : Nat) (A : Option Addr) (m c : Nat) (news : List Value) (hr : Rd w B size A m news) (h1 : ∀ u ∈ news, u.oneCell' = true)
    (hb : (n + m) * bytes ≤ 140737488355328) (hbase : base ≤ w.heap.size) :
    ∃ v' w', (Builtin.append_ #[t, t] ty #[v, .slice A m c]).run P w = .ok v' w' ∧ w'.ownsRow base e size v' (n + m) (xs ++ news) ∧ w.grownBy w' v.ownBlock ∧
      (∀ k, v'.ownBlock = some k → v.ownBlock = some k ∨ w.heap.size ≤ k) := by
  obtain ⟨ht, ⟨i, z, hi, hz, hs, hby, hzs⟩, hsz, hbp⟩ := T
  have h63 : n + m ≤ maxLen := by
    have : (n + m) * 1 ≤ (n + m) * bytes := Nat.mul_le_mul_left _ hbp
    unfold maxLen
    omega
  by_cases hn0 : m = 0 ∧ A = none
  · obtain ⟨rfl, rfl⟩ := hn0
    have hn : news = [] := List.eq_nil_of_length_eq_zero (by simpa using hr.1)
    subst hn
    refine ⟨v, w, ?_, by simpa using hown, World.grownBy.refl w _, fun k hk => .inl hk⟩
    rcases hown.2 with ⟨rfl, rfl⟩ | ⟨g, cap, cur, rfl, _, _, hnc, _⟩
    · simp [Builtin.append_, run_underlying ht, sizeOf, typeInfo, hi, Builtin.lenOf, Builtin.firstCells]
    · simp [Builtin.append_, run_underlying ht, sizeOf, typeInfo, hi, Builtin.lenOf, Builtin.firstCells, hnc, storeCells]
  · obtain ⟨ad, rfl, hcells⟩ : ∃ ad, A = some ad ∧ ∀ j u, news[j]? = some u → w.cell? (ad.add j) = some u := by
      rcases hr.2 with rfl | ⟨b, off, rfl, _, hc⟩
      · have hm : m = 0 := by
          have := hr.1
          simp only [List.length_nil] at this
          rcases Nat.eq_zero_or_pos m with h | h
          · exact h
          · have := Nat.mul_pos h hsz
            omega
        cases A with
        | none => exact absurd ⟨hm, rfl⟩ hn0
        | some ad => exact ⟨ad, rfl, fun j u hu => by simp at hu⟩
      · exact ⟨_, rfl, fun j u hu => by rw [Addr.add_lit]; exact hc j u hu⟩
    obtain ⟨v', w', hrun, h2, h3, h4, h5⟩ := run_append_own_at (P := P) w base t ty e i z size bytes ht hi hz hs hby hzs hsz v n xs hown ad m c news hr.1 hcells h1 h63 hb hbase
    refine ⟨v', w', hrun, h2, h3, fun k hk => ?_⟩
    rcases h5 with h5 | h5
    · exact .inl (h5 ▸ hk)
    · rw [h5] at hk
      injection hk with hk
      exact .inr (by omega)

theorem wp_app (T : SlTy P t e size bytes) {w : World} {o : Oper} {a : Act} {K : Act → World → Prop} {Q : Exit → Act → World → Prop} (s x : Operand)
    (ho : o.op = .call { callee := .builtin .append, args := #[s, x], argTypes := #[t, t] })
    (base : Nat) (v : Value) (n : Nat) (xs : List Value) (hs : a.eval s = v) (hown : w.ownsRow base e size v n xs)
    (B : Nat) (A : Option Addr) (m c : Nat) (news : List Value) (hx : a.eval x = .slice A m c) (hr : Rd w B size A m news) (h1 : ∀ u ∈ news, u.oneCell' = true)
    (hb : (n + m) * bytes ≤ 140737488355328) (hbase : base ≤ w.heap.size)
    (h : ∀ v' w', w'.ownsRow base e size v' (n + m) (xs ++ news) → w.grownBy w' v.ownBlock → (∀ k, v'.ownBlock = some k → v.ownBlock = some k ∨ w.heap.size ≤ k) → K (a.put o.dst v') w') : o.wp P a w K Q := by
  obtain ⟨v', w', hrun, h2, h3, h4⟩ := run_app T w base o.type v n xs hown B A m c news hr h1 hb hbase
  unfold Oper.wp execOp
  simp only [ho, resolve, invoke, builtin, Sem.run_bind, Sem.run_pure, Result.andThen_ok, List.map_toArray, List.map_cons, List.map_nil, hs, hx, hrun]
  exact h v' w' h2 h3 h4

/-- 'append(s, x...)', x a slice that reads as 'news'. -/
theorem wpList_app (T : SlTy P t e size bytes) {w : World} {ops : Array Oper} {rest : List Oper} {o : Oper} {a : Act} {Q : Exit → Act → World → Prop} (hgd : o.guard = none) (s x : Operand)
    (ho : o.op = .call { callee := .builtin .append, args := #[s, x], argTypes := #[t, t] })
    (base : Nat) (v : Value) (n : Nat) (xs : List Value) (hs : a.eval s = v) (hown : w.ownsRow base e size v n xs)
    (B : Nat) (A : Option Addr) (m c : Nat) (news : List Value) (hx : a.eval x = .slice A m c) (hr : Rd w B size A m news) (h1 : ∀ u ∈ news, u.oneCell' = true)
    (hb : (n + m) * bytes ≤ 140737488355328) (hbase : base ≤ w.heap.size)
    (h : ∀ A' c' w', w'.ownsRow base e size (.slice A' (n + m) c') (n + m) (xs ++ news) → w.grownBy w' v.ownBlock → (∀ k, (Value.slice A' (n + m) c').ownBlock = some k → v.ownBlock = some k ∨ w.heap.size ≤ k) → wpList P ops Q rest (a.put o.dst (.slice A' (n + m) c')) w') : wpList P ops Q (o :: rest) a w :=
  wpList_plain hgd fun _ hK => wp_app T s x ho base v n xs hs hown B A m c news hx hr h1 hb hbase fun v' w' h2 h3 h4 => by
    obtain ⟨A', c', rfl⟩ := own_form h2
    exact hK _ _ (h A' c' w' h2 h3 h4)

/-- 'append(s, x)': the one element's cells have just been laid in a block of their own. -/
theorem wpList_app1 (T : SlTy P t e size bytes) {W : World} {ops : Array Oper} {rest : List Oper} {o : Oper} {a : Act} {Q : Exit → Act → World → Prop} (hgd : o.guard = none) (s x : Operand)
    (ho : o.op = .call { callee := .builtin .append, args := #[s, x], argTypes := #[t, t] })
    (base : Nat) (v : Value) (n : Nat) (xs : List Value) (hs : a.eval s = v) (hown : W.ownsRow base e size v n xs)
    (cs : Array Value) (hx : a.eval x = .slice (some ⟨W.heap.size, 0, none⟩) 1 1) (hcs : cs.size = size) (h1 : ∀ u ∈ cs.toList, u.oneCell' = true)
    (hb : (n + 1) * bytes ≤ 140737488355328) (hbase : base ≤ W.heap.size)
    (h : ∀ A' c' w', w'.ownsRow base e size (.slice A' (n + 1) c') (n + 1) (xs ++ cs.toList) → W.grownBy w' v.ownBlock → (∀ k, (Value.slice A' (n + 1) c').ownBlock = some k → v.ownBlock = some k ∨ W.heap.size ≤ k) → wpList P ops Q rest (a.put o.dst (.slice A' (n + 1) c')) w') : wpList P ops Q (o :: rest) a (W.alloc (.cells cs e)) :=
  wpList_app T hgd s x ho base v n xs hs (hown.alloc _) (W.heap.size + 1) (some ⟨W.heap.size, 0, none⟩) 1 1 cs.toList hx (Rd.row hcs) h1 hb (by simp; omega)
    fun A' c' w' h2 h3 h4 => h A' c' w' h2 (grown_trans (World.grownBy_alloc W _ _) h3) fun k hk => (h4 k hk).imp id fun h5 => by simp at h5; omega
end
end Go.Proofs.Ytdminnhfgdoibaa
namespace Go.Proofs.Ytdminnhfgdoibaa
set_option linter.unusedVariables false
set_option linter.unusedSimpArgs false
open Go.RowKit

theorem add_yes (a b : Int) (w : World) (h0 : 0 ≤ a) (h2 : 0 ≤ b) (h : a + b ≤ 18446744073709551615) :
    Calls Try.prog 69 #[.int .u64 a, .int .u64 b] w fun e w' => e = .returned (.tuple #[.int .u64 (a + b), .bool true]) ∧ w = w' := by
  obtain ⟨c, hc, hcb⟩ : ∃ c, bits .xor .u64 IntKind.u64.max b = c ∧ c = 18446744073709551615 - b := ⟨_, rfl, Wd.xor_top b h2 (by omega)⟩
  have hc2 : ¬ c < a := by omega
  have hs : IntKind.u64.signed = false := rfl
  clear hcb
  go_enter Try.func69, Try.ntmps69
  go_wp2
  go_ret2
  exact ⟨rfl, rfl⟩
theorem add_no (a b : Int) (w : World) (h1 : a ≤ 18446744073709551615) (h2 : 0 ≤ b) (h3 : b ≤ 18446744073709551615) (h : 18446744073709551615 < a + b) :
    Calls Try.prog 69 #[.int .u64 a, .int .u64 b] w fun e w' => e = .returned (.tuple #[.int .u64 0, .bool false]) ∧ w = w' := by
  obtain ⟨c, hc, hcb⟩ : ∃ c, bits .xor .u64 IntKind.u64.max b = c ∧ c = 18446744073709551615 - b := ⟨_, rfl, Wd.xor_top b h2 (by omega)⟩
  have hc2 : c < a := by omega
  have hs : IntKind.u64.signed = false := rfl
  clear hcb
  go_enter Try.func69, Try.ntmps69
  go_wp2
  go_ret2
  exact ⟨rfl, rfl⟩

theorem inside_any (a b c : Int) (w : World) (h0 : 0 ≤ a) (h1 : a ≤ 18446744073709551615) (h2 : 0 ≤ b) (h3 : b ≤ 18446744073709551615) (h5 : c ≤ 18446744073709551615) :
    Calls Try.prog 50 #[.int .u64 a, .int .u64 b, .int .u64 c] w fun e w' => e = .returned (.bool (decide (a + b ≤ c))) ∧ w = w' := by
  by_cases h : a + b ≤ 18446744073709551615
  · go_enter Try.func50, Try.ntmps50
    go_wp2_with (go_at_call 69; refine (add_yes _ _ _ h0 h2 h).mono ?_; rintro e w' ⟨rfl, rfl⟩)
    go_ret
    exact ⟨rfl, rfl⟩
  · have h' : 18446744073709551615 < a + b := by omega
    have hr : decide (a + b ≤ c) = false := decide_eq_false (by omega)
    rw [hr]
    clear hr
    go_enter Try.func50, Try.ntmps50
    go_wp2_with (go_at_call 69; refine (add_no _ _ _ h1 h2 h3 h').mono ?_; rintro e w' ⟨rfl, rfl⟩)
    go_ret
    exact ⟨rfl, rfl⟩

def IdxInt (xs : List Int) (v : Int) (w : World) (e : Ending) (w' : World) : Prop := ∃ r : Int, e = .returned (.int .i64 r) ∧ (0 ≤ r ↔ v ∈ xs) ∧ w = w'
theorem indexInt_any (A : Option Addr) (n c B : Nat) (xs : List Int) (v : Int) (w : World) (hx : Rd w B 1 A n (xs.map (Value.int .i64))) (hn : n ≤ maxLen) :
    Calls Try.prog 85 #[.slice A n c, .int .i64 v] w (IdxInt xs v w) := by
  have hxl : xs.length = n := by simpa using hx.len1
  unfold maxLen at hn
  have Hx := hide hx
  have Hxl := hide hxl
  clear hx hxl
  go_enter Try.func85, Try.ntmps85
  go_wp2
  go_loop [8] (fun i => ∃ k : Nat, k ≤ n ∧ i = .int .i64 k ∧ v ∉ xs.take k) (fun i => n - (intOf i).toNat)
  case atStart => exact ⟨0, Nat.zero_le _, rfl, by simp⟩
  case round =>
    obtain ⟨k, hk, rfl, hv⟩ := hrel
    have Hv := hide hv
    clear hv
    by_cases hlt : k < n
    · obtain ⟨x, hxk⟩ : ∃ x, xs[k]? = some x := ⟨_, List.getElem?_eq_getElem (by rw [unhide Hxl]; exact hlt)⟩
      obtain ⟨b1, o1, rfl, _, c1⟩ := (unhide Hx).at_ (k := k) (u := .int .i64 x) (by simp [hxk])
      by_cases he : v = x
      · have hb : (v == x) = true := by simpa using he
        have hm : v ∈ xs := by rw [he]; exact List.mem_of_getElem? hxk
        have Hm := hide hm
        clear he hxk hm
        go_wp2
        go_ret
        exact ⟨k, rfl, ⟨fun _ => unhide Hm, fun _ => by omega⟩, rfl⟩
      · have hb : (v == x) = false := by simpa using he
        have hm : v ∉ xs.take (k + 1) := by
          rw [List.take_add_one, hxk, List.mem_append]
          simp [he, unhide Hv]
        have Hm := hide hm
        clear he hxk hm
        go_wp2
        go_round
        case rel => exact ⟨k + 1, by omega, by go_num, unhide Hm⟩
        case measure => simp [intOf]; omega
    · have hm : v ∉ xs := by
        have := unhide Hv
        rwa [List.take_of_length_le (by have := unhide Hxl; omega)] at this
      have Hm := hide hm
      clear hm
      go_wp2
      go_ret
      exact ⟨-1, rfl, ⟨fun h => by omega, fun h => absurd h (unhide Hm)⟩, rfl⟩

theorem containsInt_any (A : Option Addr) (n c B : Nat) (xs : List Int) (v : Int) (w : World) (hx : Rd w B 1 A n (xs.map (Value.int .i64))) (hn : n ≤ maxLen) :
    Calls Try.prog 84 #[.slice A n c, .int .i64 v] w fun e w' => e = .returned (.bool (Wd.memB v xs)) ∧ w = w' := by
  have Hx := hide hx
  clear hx
  go_enter Try.func84, Try.ntmps84
  go_wp2_with (go_at_call 85; refine (indexInt_any _ _ _ _ _ _ _ (unhide Hx) hn).mono ?_; rintro e w1 ⟨r, rfl, hr, rfl⟩; have Hr := hide hr; clear hr)
  go_ret
  refine ⟨ret_bool ?_, rfl⟩
  unfold Wd.memB
  rw [Bool.eq_iff_iff, decide_eq_true_eq, decide_eq_true_eq]
  exact unhide Hr

theorem sized_any (n : Int) (w : World) :
    Calls Try.prog 81 #[.int .i64 n] w fun e w' => e = .returned (.bool (Wd.sizedB n)) ∧ Below w.heap.size w w' := by
  have hr := Rd.row (w := w) (cs := #[.int .i64 1, .int .i64 2, .int .i64 4, .int .i64 8]) (e := 138) (size := 4) rfl
  have hr2 : Rd (w.alloc (.cells #[.int .i64 1, .int .i64 2, .int .i64 4, .int .i64 8] 138)) (w.heap.size + 1) 1 (some ⟨w.heap.size, 0, none⟩) 4 (([1, 2, 4, 8] : List Int).map (Value.int .i64)) := ⟨rfl, hr.2⟩
  have Hr := hide hr2
  clear hr hr2
  go_enter Try.func81, Try.ntmps81
  go_wp2_with (go_at_call 84; refine (containsInt_any _ _ _ _ _ _ _ (unhide Hr) (by unfold maxLen; omega)).mono ?_; rintro e w1 ⟨rfl, rfl⟩)
  go_ret
  exact ⟨rfl, (Below.refl _ _).alloc (Nat.le_refl _) _⟩

/-- check, where so many bytes are there. -/
theorem check_yes (A : Option Addr) (m c : Nat) (p s : Int) (w : World) (hm : m ≤ maxLen) (hs : s = 1 ∨ s = 2 ∨ s = 4 ∨ s = 8) (h0 : 0 ≤ p) (hp : p ≤ 18446744073709551615) (hin : p + s ≤ m) :
    Calls Try.prog 73 #[.slice A m c, .int .u64 p, .int .i64 s] w fun e w' => e = .returned (.int .i64 0) ∧ Below w.heap.size w w' := by
  unfold maxLen at hm
  have hd : Wd.sizedB s = true := Wd.sizedB_yes hs
  have hd2 : decide (p + s ≤ (m : Int)) = true := by simpa using hin
  have hs1 : 1 ≤ s := by omega
  have hs8 : s ≤ 8 := by omega
  clear hs
  go_enter Try.func73, Try.ntmps73
  go_wp2_with (first
    | (go_at_call 81; refine (sized_any _ _).mono ?_; rintro e w1 ⟨rfl, hb1⟩)
    | (go_at_call 50; refine (inside_any _ _ _ _ h0 hp (by omega) (by omega) (by omega)).mono ?_; rintro e w2 ⟨rfl, rfl⟩))
  go_ret
  exact ⟨rfl, hb1⟩
/-- check, where they are not. -/
theorem check_no (A : Option Addr) (m c : Nat) (p s : Int) (w : World) (hm : m ≤ maxLen) (hs : s = 1 ∨ s = 2 ∨ s = 4 ∨ s = 8) (h0 : 0 ≤ p) (hp : p ≤ 18446744073709551615) (hin : m < p + s) :
    Calls Try.prog 73 #[.slice A m c, .int .u64 p, .int .i64 s] w fun e w' => e = .returned (.int .i64 24) ∧ Below w.heap.size w w' := by
  unfold maxLen at hm
  have hd : Wd.sizedB s = true := Wd.sizedB_yes hs
  have hd2 : decide (p + s ≤ (m : Int)) = false := by simpa using hin
  have hs1 : 1 ≤ s := by omega
  have hs8 : s ≤ 8 := by omega
  clear hs
  go_enter Try.func73, Try.ntmps73
  go_wp2_with (first
    | (go_at_call 81; refine (sized_any _ _).mono ?_; rintro e w1 ⟨rfl, hb1⟩)
    | (go_at_call 50; refine (inside_any _ _ _ _ h0 hp (by omega) (by omega) (by omega)).mono ?_; rintro e w2 ⟨rfl, rfl⟩))
  go_ret
  exact ⟨rfl, hb1⟩

set_option maxHeartbeats 800000 in
theorem get_loop (A : Option Addr) (m c : Nat) (B : Nat) (b : List UInt8) (p s : Nat) (w : World) (hB : B ≤ w.heap.size) (hb : Rd w B 1 A m (b.map fun c => .int .u8 c.toNat)) (hm : m ≤ maxLen) (hs : s = 1 ∨ s = 2 ∨ s = 4 ∨ s = 8) (hin : p + s ≤ m)
    (hck : ∀ w, Calls Try.prog 73 #[.slice A m c, .int .u64 p, .int .i64 s] w fun e w' => e = .returned (.int .i64 0) ∧ Below w.heap.size w w') :
    Calls Try.prog 61 #[.slice A m c, .int .u64 p, .int .i64 s] w fun e w' => e = .returned (.tuple #[.int .u64 (Wd.num b p s), .int .i64 0]) ∧ Below w.heap.size w w' := by
  have hs8 : s ≤ 8 := by omega
  have hbl : b.length = m := by simpa using hb.len1
  unfold maxLen at hm
  have Hb := hide hb
  have Hck := hide hck
  have Hbl := hide hbl
  clear hb hck hs hbl
  go_enter Try.func61, Try.ntmps61
  go_wp2_with (go_at_call 73; refine ((unhide Hck) _).mono ?_; rintro e w1 ⟨rfl, hb1⟩)
  go_loop [6, 18] (fun x i => ∃ k : Nat, k ≤ s ∧ i = .int .i64 k ∧ x = .int .u64 (Wd.num b p k)) (fun _ i => s - (intOf i).toNat)
  case atStart => exact ⟨0, Nat.zero_le _, rfl, by rw [Wd.num_zero]; rfl⟩
  case round =>
    obtain ⟨k, hk, rfl, rfl⟩ := hrel
    by_cases hlt : k < s
    · obtain ⟨x, hx⟩ : ∃ x, b[p + k]? = some x := ⟨_, List.getElem?_eq_getElem (by rw [unhide Hbl]; omega)⟩
      obtain ⟨b1, o1, rfl, _, c1⟩ := ((unhide Hb).below (hb1.mono hB)).at_ (k := p + k) (u := .int .u8 x.toNat) (by simp [hx])
      have hst := Wd.num_succ b p k x hx
      have hlt2 := Wd.num_lt b p s
      have Hst := hide hst
      have hval := Wd.or_val (Wd.num b p k) x.toNat k (Wd.num_lt b p k) x.toNat_lt (by omega)
      rw [← hst] at hval
      have Hval := hide hval
      clear hst hx hlt2 hval
      go_wp2
      go_round
      case rel => exact ⟨k + 1, by omega, by go_num, by rw [unhide Hval]⟩
      case measure => simp [intOf]; omega
    · obtain rfl : k = s := by omega
      go_wp2
      go_ret2
      exact ⟨rfl, hb1⟩

theorem get_yes (A : Option Addr) (m c : Nat) (B : Nat) (b : List UInt8) (p s : Nat) (w : World) (hB : B ≤ w.heap.size) (hb : Rd w B 1 A m (b.map fun c => .int .u8 c.toNat)) (hm : m ≤ maxLen) (hs : s = 1 ∨ s = 2 ∨ s = 4 ∨ s = 8) (hin : p + s ≤ m) :
    Calls Try.prog 61 #[.slice A m c, .int .u64 p, .int .i64 s] w fun e w' => e = .returned (.tuple #[.int .u64 (Wd.num b p s), .int .i64 0]) ∧ Below w.heap.size w w' :=
  get_loop A m c B b p s w hB hb hm hs hin fun w => check_yes A m c p s w hm (by omega) (by omega) (by unfold maxLen at hm; omega) (by omega)

theorem get_no (A : Option Addr) (m c : Nat) (p s : Int) (w : World) (hm : m ≤ maxLen) (hs : s = 1 ∨ s = 2 ∨ s = 4 ∨ s = 8) (h0 : 0 ≤ p) (hp : p ≤ 18446744073709551615) (hin : m < p + s) :
    Calls Try.prog 61 #[.slice A m c, .int .u64 p, .int .i64 s] w fun e w' => e = .returned (.tuple #[.int .u64 0, .int .i64 24]) ∧ Below w.heap.size w w' := by
  go_enter Try.func61, Try.ntmps61
  go_wp2_with (go_at_call 73; refine (check_no A m c p s _ hm hs h0 hp hin).mono ?_; rintro e w1 ⟨rfl, hb1⟩)
  go_ret2
  exact ⟨rfl, hb1⟩

end Go.Proofs.Ytdminnhfgdoibaa
namespace Go.Proofs.Ytdminnhfgdoibaa
set_option linter.unusedVariables false
set_option linter.unusedSimpArgs false
open Go.RowKit

theorem own_set {w : World} {base g n c i : Nat} {e : TypeId} {xs : List Value} (h : w.ownsRow base e 1 (.slice (some ⟨g, 0, none⟩) n c) n xs) (u : Value) :
    (w.setCell ⟨g, i, none⟩ u).ownsRow base e 1 (.slice (some ⟨g, 0, none⟩) n c) n (xs.set i u) := by
  obtain ⟨hl, hn | ⟨g', cap, cur, hv, hb, hg, h1, h2, h3, h4⟩⟩ := h
  · exact absurd hn.1 (by simp)
  · obtain ⟨rfl, rfl⟩ : g = g' ∧ c = cap := by simpa using hv
    refine ⟨by simpa using hl, .inr ⟨g, c, cur.setIfInBounds i u, rfl, hb, heap_setCell_same _ _ _ _ _ _ hg, h1, h2, by simpa using h3, ?_⟩⟩
    rw [Array.toList_setIfInBounds, List.take_set, h4]
theorem own_cell {w : World} {base g n c i : Nat} {e : TypeId} {xs : List Value} (h : w.ownsRow base e 1 (.slice (some ⟨g, 0, none⟩) n c) n xs) {u : Value} (hi : xs[i]? = some u) : w.cell? ⟨g, i, none⟩ = some u := by
  obtain ⟨b, off, ha, _, hc⟩ := (Rd.of_own h).at_ hi
  obtain ⟨rfl, rfl⟩ : g = b ∧ 0 = off := by simpa using ha
  simpa using hc
theorem own_free {w : World} {base g n c : Nat} {e : TypeId} {xs : List Value} (h : w.ownsRow base e 1 (.slice (some ⟨g, 0, none⟩) n c) n xs) (i : Nat) : w.frozen? ⟨g, i, none⟩ = false := by
  obtain ⟨hl, hn | ⟨g', cap, cur, hv, hb, hg, h1, h2, h3, h4⟩⟩ := h
  · exact absurd hn.1 (by simp)
  · obtain ⟨rfl, rfl⟩ : g = g' ∧ c = cap := by simpa using hv
    exact frozen_of_row _ _ _ _ _ hg
theorem own_at {w : World} {base g n c : Nat} {e : TypeId} {xs : List Value} (h : w.ownsRow base e 1 (.slice (some ⟨g, 0, none⟩) n c) n xs) : base ≤ g ∧ g < w.heap.size ∧ n ≤ c := by
  obtain ⟨hl, hn | ⟨g', cap, cur, hv, hb, hg, h1, h2, h3, h4⟩⟩ := h
  · exact absurd hn.1 (by simp)
  · obtain ⟨rfl, rfl⟩ : g = g' ∧ c = cap := by simpa using hv
    exact ⟨hb, lt_of_block hg, h1⟩

end Go.Proofs.Ytdminnhfgdoibaa
namespace Go.Proofs.Ytdminnhfgdoibaa
set_option linter.unusedVariables false
set_option linter.unusedSimpArgs false
open Go.RowKit
theorem results_cell_tmp {P : Program} {fn : Func} {p q : Tmp} {ty : TypeId} (h : fn.results = #[.cell p ty, .tmp q]) (tmps : Array Value) (w : World) (g : Nat) (t : TypeId) (cs : Array Value) (fr : Nat × Nat) (d : TypeDesc)
    (hp : tmps.getD p undef = .pointer (some ⟨g, 0, none⟩)) (hg : w.heap[g]? = some (.cells cs t fr))
    (hu : P.underlying ty = some d) (hd : (match d with | .struct _ | .array _ _ => true | _ => false) = true) (hi : (P.info? ty).map (·.size) = some cs.size) :
    (results fn tmps).run P w = .ok (.tuple #[.agg cs, tmps.getD q undef]) w := by
  have hp' : tmps[p]?.getD undef = .pointer (some ⟨g, 0, none⟩) := by simpa using hp
  simp [results, h, hp', asAddr, run_loadVar_row w g t ty cs fr d hg hu hd hi]

theorem below_drew' {B : Nat} {a w : World} (h : Below B a w) : Below B a w.drew := ⟨h.os, h.tape, h.output, h.size, h.block⟩
end Go.Proofs.Ytdminnhfgdoibaa
namespace Go.Proofs.Ytdminnhfgdoibaa
set_option linter.unusedVariables false
set_option linter.unusedSimpArgs false
open Go.RowKit

def bys (b : List UInt8) : List Value := b.map fun c => .int .u8 c.toNat
theorem bys_len (b : List UInt8) : (bys b).length = b.length := by simp [bys]
theorem bys_at {b : List UInt8} {i : Nat} {x : UInt8} (h : b[i]? = some x) : (bys b)[i]? = some (.int .u8 x.toNat) := by simp [bys, h]
theorem bys_set (b : List UInt8) (i : Nat) (x : UInt8) : (bys b).set i (.int .u8 x.toNat) = bys (b.set i x) := by simp [bys, List.map_set]
theorem bys_take (b : List UInt8) (k : Nat) : (bys b).take k = bys (b.take k) := by simp [bys]
theorem bys_app (a b : List UInt8) : bys (a ++ b) = bys a ++ bys b := by simp [bys]
theorem bInfo : (Try.prog.info? 5).map (fun i => (i.zero, i.size, i.bytes)) = some (some (.int .u8 0), 1, 1) := by kernel_rfl
theorem take_ext' {α : Type} {xs ys : List α} {k : Nat} {x : α} (h : xs.take k = ys.take k) (hx : xs[k]? = some x) (hy : ys[k]? = some x) : xs.take (k + 1) = ys.take (k + 1) := by
  rw [List.take_add_one, List.take_add_one, h, hx, hy]

theorem Rd.cutN {w : World} {B n k : Nat} {A : Option Addr} {xs : List Value} (h : Rd w B 1 A n xs) (hk : k ≤ n) : Rd w B 1 A k (xs.take k) := by
  have hl := h.len1
  refine ⟨by simp; omega, ?_⟩
  rcases h.2 with h0 | ⟨b, off, e, hb, hc⟩
  · exact .inl (by simp [h0])
  · refine .inr ⟨b, off, e, hb, fun j u hu => hc j u ?_⟩
    by_cases hj : j < k
    · rwa [List.getElem?_take_of_lt hj] at hu
    · rw [List.getElem?_take_eq_none (by omega)] at hu
      cases hu

set_option maxRecDepth 100000 in
set_option maxHeartbeats 2000000 in
theorem eqBytes_any (A B : Option Addr) (n m c d K : Nat) (xs ys : List UInt8) (w : World) (ha : Rd w K 1 A n (bys xs)) (hb : Rd w K 1 B m (bys ys)) (hn : n ≤ maxLen) (hm : m ≤ maxLen) :
    Calls Try.prog 27 #[.slice A n c, .slice B m d] w fun e w' => e = .returned (.bool (decide (xs = ys))) ∧ ∃ j, w' = w.drewN j := by
  have hxl : xs.length = n := by simpa [bys] using ha.len1
  have hyl : ys.length = m := by simpa [bys] using hb.len1
  unfold maxLen at hn hm
  have Hxl := hide hxl
  have Hyl := hide hyl
  have Ha := hide ha
  have Hb := hide hb
  clear hxl hyl ha hb
  go_enter Try.func27, Try.ntmps27
  go_wp2
  go_loopw [5] (fun at_ wr => ∃ k j : Nat, at_ = .int .i64 k ∧ k ≤ n ∧ k ≤ m ∧ xs.take k = ys.take k ∧ wr = w.drewN j) (fun at_ _ => n - (intOf at_).toNat)
  case atStart => exact ⟨0, 0, rfl, Nat.zero_le _, Nat.zero_le _, rfl, rfl⟩
  case round =>
    obtain ⟨k, j, rfl, hkn, hkm, htk, rfl⟩ := hrel
    have Htk := hide htk
    clear htk
    by_cases h1 : k < n
    · have d1 : decide (k < n) = true := by simpa using h1
      have i1 : (k : Int) < (n : Int) := by omega
      by_cases h2 : k < m
      · have d2 : decide (k < m) = true := by simpa using h2
        have i2 : (k : Int) < (m : Int) := by omega
        obtain ⟨x, hx⟩ : ∃ x, xs[k]? = some x := ⟨_, List.getElem?_eq_getElem (by rw [unhide Hxl]; exact h1)⟩
        obtain ⟨y, hy⟩ : ∃ y, ys[k]? = some y := ⟨_, List.getElem?_eq_getElem (by rw [unhide Hyl]; exact h2)⟩
        obtain ⟨b1, o1, rfl, _, c1⟩ := (unhide Ha).at_ (k := k) (u := .int .u8 x.toNat) (bys_at hx)
        obtain ⟨b2, o2, rfl, _, c2⟩ := (unhide Hb).at_ (k := k) (u := .int .u8 y.toNat) (bys_at hy)
        have Hx := hide hx
        have Hy := hide hy
        have hbq := byte_eq x y
        clear hx hy
        by_cases he : x = y
        · have q : (((x.toNat : Nat) : Int) == ((y.toNat : Nat) : Int)) = true := by rw [hbq]; simpa using he
          subst he
          clear hbq
          go_wp2
          go_quiet (fail)
          go_wp2
          go_round
          case rel => exact ⟨k + 1, j + nq, by go_num, by omega, by omega, take_ext' (unhide Htk) (unhide Hx) (unhide Hy), rfl⟩
          case measure => simp [intOf]; omega
        · have q : (((x.toNat : Nat) : Int) == ((y.toNat : Nat) : Int)) = false := by rw [hbq]; simpa using he
          have He := hide he
          clear hbq he
          generalize hxn : ((x.toNat : Nat) : Int) = xn at *
          generalize hyn : ((y.toNat : Nat) : Int) = yn at *
          clear hxn hyn
          go_wp2
          go_quiet (fail)
          go_wp2
          go_ret
          refine ⟨ret_bool ?_, _, rfl⟩
          symm
          simp only [decide_eq_false_iff_not]
          rintro rfl
          exact unhide He (Option.some.inj ((unhide Hx).symm.trans (unhide Hy)))
      · have d2 : decide (k < m) = false := by simpa using h2
        go_wp2
        go_quiet (fail)
        go_wp2
        go_ret
        refine ⟨ret_bool ?_, _, rfl⟩
        symm
        simp only [decide_eq_false_iff_not]
        rintro rfl
        have := unhide Hxl
        have := unhide Hyl
        omega
    · have d1 : decide (k < n) = false := by simpa using h1
      go_wp2
      go_quiet (fail)
      go_wp2
      go_ret
      refine ⟨ret_bool ?_, _, rfl⟩
      have hl1 := unhide Hxl
      have hl2 := unhide Hyl
      rw [Bool.eq_iff_iff, beq_iff_eq, decide_eq_true_eq]
      constructor
      · intro e
        have e' := unhide Htk
        rwa [List.take_of_length_le (by omega), List.take_of_length_le (by omega)] at e'
      · rintro rfl
        omega

/-- What stands behind what Roomy gives. -/
def spare : List UInt8 := [99, 98, 97, 96, 95, 94, 93]
theorem spare_at {j : Nat} (h : j < 7) : spare[j]? = some (UInt8.ofNat (99 - j)) := by
  match j, h with
  | 0, _ => rfl
  | 1, _ => rfl
  | 2, _ => rfl
  | 3, _ => rfl
  | 4, _ => rfl
  | 5, _ => rfl
  | 6, _ => rfl
/-- What has been laid after k rounds. -/
def laidTo (F : List UInt8) (k : Nat) : List UInt8 := F.take k ++ List.replicate (F.length - k) 0
theorem laidTo_len {F : List UInt8} {k : Nat} (h : k ≤ F.length) : (laidTo F k).length = F.length := by simp [laidTo]; omega
theorem laidTo_set {F : List UInt8} {k : Nat} {x : UInt8} (h : F[k]? = some x) : (laidTo F k).set k x = laidTo F (k + 1) := by
  have hk : k < F.length := (List.getElem?_eq_some_iff.1 h).1
  unfold laidTo
  rw [List.take_add_one, h, show F.length - k = (F.length - (k + 1)) + 1 from by omega, List.replicate_succ]
  rw [List.set_append]
  simp [Nat.min_eq_left (Nat.le_of_lt hk)]
theorem laidTo_end (F : List UInt8) : laidTo F F.length = F := by simp [laidTo]
theorem laidTo_zero (F : List UInt8) : laidTo F 0 = List.replicate F.length 0 := by simp [laidTo]

set_option maxRecDepth 100000 in
set_option maxHeartbeats 2000000 in
theorem roomy_any (A : Option Addr) (m c B : Nat) (b : List UInt8) (w : World) (hB : B ≤ w.heap.size) (hb : Rd w B 1 A m (bys b)) (hm : m ≤ 4294967296) :
    Calls Try.prog 9 #[.slice A m c] w fun e w' => ∃ g, e = .returned (.slice (some ⟨g, 0, none⟩) m (m + 7)) ∧
      w'.ownsRow w.heap.size 5 1 (.slice (some ⟨g, 0, none⟩) (m + 7) (m + 7)) (m + 7) (bys (b ++ spare)) ∧ Below w.heap.size w w' := by
  have hbl : b.length = m := by simpa [bys] using hb.len1
  obtain ⟨i, hi, hz0, hz1, hz2⟩ := info_parts bInfo
  have hF : (b ++ spare).length = m + 7 := by simp [hbl, spare]
  have HF := hide hF
  have Hb := hide hb
  have Hbl := hide hbl
  have Hi := hide hi
  have Hz0 := hide hz0
  have Hz1 := hide hz1
  have Hz2 := hide hz2
  clear hb hbl hi hz0 hz1 hz2 hF
  go_enter Try.func9, Try.ntmps9
  go_wp2_with (at_make; refine wpList_make_full _ rfl _ _ 22 rfl w.heap.size 5 i (.int .u8 0) 1 Try.underlying22 (unhide Hi) (unhide Hz0) (unhide Hz1) _ _ _ _ (m + 7) rfl rfl (by omega) (by omega) (by rw [unhide Hz2]; omega) (by unfold maxLen; omega) (Nat.le_refl _) ?_; intro w1 hown hgrow; have hb1 := (Below.refl w.heap.size w).grown hgrow (Nat.le_refl _) (fun k hk => by cases hk); have Hown := hide hown; have Hb1 := hide hb1; clear hown hgrow hb1)
  go_loopg [5] (m + 7) (fun gk at_ wr => ∃ k : Nat, gk = m + 7 - k ∧ k ≤ m + 7 ∧ at_ = .int .i64 k ∧ wr.ownsRow w.heap.size 5 1 (.slice (some ⟨w.heap.size, 0, none⟩) (m + 7) (m + 7)) (m + 7) (bys (laidTo (b ++ spare) k)) ∧ Below w.heap.size w wr)
  case atStart =>
    refine ⟨0, by omega, by omega, rfl, ?_, unhide Hb1⟩
    have := unhide Hown
    have e : (madeCells (Value.int .u8 0).cells ((m + 7) * 1)).toList = bys (laidTo (b ++ spare) 0) := by
      rw [laidTo_zero, unhide HF]
      simp [bys, Value.cells, toList_madeCells_one]
    rwa [e] at this
  case round =>
  obtain ⟨k, hgk, hk, rfl, hown, hb2⟩ := hrel
  have Hgk := hide hgk
  have Hown := hide hown
  have Hb2 := hide hb2
  clear hown hb2 hgk
  rcases Nat.lt_or_ge k (m + 7) with hlt | hge
  case inr =>
    obtain rfl : k = m + 7 := by omega
    have hown := unhide Hown
    have e : laidTo (b ++ spare) (m + 7) = b ++ spare := by rw [← unhide HF]; exact laidTo_end _
    rw [e] at hown
    have Hown2 := hide hown
    clear hown e hge
    go_wp2
    go_ret
    exact ⟨w.heap.size, rfl, unhide Hown2, unhide Hb2⟩
  obtain ⟨x, hx⟩ : ∃ x, (b ++ spare)[k]? = some x := ⟨_, List.getElem?_eq_getElem (by rw [unhide HF]; exact hlt)⟩
  obtain ⟨z, hz⟩ : ∃ z, (laidTo (b ++ spare) k)[k]? = some z := ⟨_, List.getElem?_eq_getElem (by rw [laidTo_len (by rw [unhide HF]; omega), unhide HF]; omega)⟩
  have hset := own_set (i := k) (unhide Hown) (.int .u8 x.toNat)
  rw [bys_set, laidTo_set hx] at hset
  have hc2 := own_cell (unhide Hown) (bys_at hz)
  have hf2 := own_free (unhide Hown) k
  obtain ⟨hg3, hg4, hg5⟩ := own_at (unhide Hown)
  have Hset := hide hset
  clear hset hz
  by_cases hkm : k < m
  · obtain ⟨b1, o1, rfl, hbb, c1⟩ := ((unhide Hb).below ((unhide Hb2).mono hB)).at_ (k := k) (u := .int .u8 x.toNat) (by rw [List.getElem?_append_left (by rw [unhide Hbl]; exact hkm)] at hx; exact bys_at hx)
    clear hx
    go_wp2
    go_roundg (m + 7 - (k + 1))
    case measure => have := unhide Hgk; omega
    case rel => exact ⟨k + 1, rfl, by omega, by go_num, unhide Hset, (unhide Hb2).setCell hg3 _⟩
  · have hxv : ((x.toNat : Nat) : Int) = 99 - ((k : Int) - (m : Int)) := by
      rw [List.getElem?_append_right (by rw [unhide Hbl]; omega), unhide Hbl, spare_at (by omega)] at hx
      injection hx with hx
      rw [← hx]
      simp
      omega
    rw [hxv] at Hset
    clear hx hxv
    go_wp2
    go_roundg (m + 7 - (k + 1))
    case measure => have := unhide Hgk; omega
    case rel => exact ⟨k + 1, rfl, by omega, by go_num, unhide Hset, (unhide Hb2).setCell hg3 _⟩

set_option maxRecDepth 100000 in
set_option maxHeartbeats 2000000 in
theorem kept_yes (g : Nat) (A : Option Addr) (m c B : Nat) (b : List UInt8) (w : World) (hi : Rd w B 1 (some ⟨g, 0, none⟩) (m + 7) (bys (b ++ spare))) (hb : Rd w B 1 A m (bys b)) (hm : m ≤ 4294967296) :
    Calls Try.prog 16 #[.slice (some ⟨g, 0, none⟩) m (m + 7), .slice A m c] w fun e w' => e = .returned (.bool true) ∧ ∃ j, w' = w.drewN j := by
  have hbl : b.length = m := by simpa [bys] using hb.len1
  have hcut := hi.cutN (k := m) (by omega)
  rw [bys_take, List.take_append_of_le_length (by omega), List.take_of_length_le (by omega)] at hcut
  have heq := fun (w' : World) (hw : ∀ p : Addr, p.block < B → w'.cell? p = w.cell? p) => eqBytes_any (some ⟨g, 0, none⟩) A m m (m + 7) c B b b w' (hcut.keep hw) (hb.keep hw) (by unfold maxLen; omega) (by unfold maxLen; omega)
  rw [decide_eq_true rfl] at heq
  have Heq := hide heq
  have Hi := hide hi
  have Hbl := hide hbl
  clear heq hi hb hbl hcut
  go_enter Try.func16, Try.ntmps16
  go_wp2
  go_loopg [7, 8] 7 (fun gk left at_ wr => ∃ k : Nat, gk = 7 - k ∧ k ≤ 7 ∧ at_ = .int .i64 ((m : Int) + (k : Int)) ∧ left = .int .i64 (7 - (k : Int)) ∧ wr = w)
  case atStart => exact ⟨0, by omega, by omega, by go_num, rfl, rfl⟩
  case round =>
  obtain ⟨k, hgk, hk, rfl, rfl, rfl⟩ := hrel
  have Hgk := hide hgk
  clear hgk
  rcases Nat.lt_or_ge k 7 with hlt | hge
  case inr =>
    obtain rfl : k = 7 := by omega
    go_wp2_with (go_at_call 27; refine ((unhide Heq) _ (fun _ _ => rfl)).mono ?_; rintro e w5 ⟨rfl, j, rfl⟩)
    go_ret
    exact ⟨rfl, j, rfl⟩
  obtain ⟨b1, o1, he, hbb, c1⟩ := (unhide Hi).at_ (k := m + k) (u := .int .u8 ((UInt8.ofNat (99 - k)).toNat)) (bys_at (by rw [List.getElem?_append_right (by rw [unhide Hbl]; omega), unhide Hbl, show m + k - m = k from by omega, spare_at hlt]))
  obtain ⟨rfl, rfl⟩ : g = b1 ∧ 0 = o1 := by injection he with he; injection he with h1 h2 h3; exact ⟨h1, h2⟩
  have hxv : (((UInt8.ofNat (99 - k)).toNat : Nat) : Int) = 99 - (k : Int) := by simp; omega
  rw [hxv, Nat.zero_add] at c1
  have h1 : (m : Int) + (k : Int) - (m : Int) = (k : Int) := by omega
  have h2 : ((99 - (k : Int)) == 99 - ((m : Int) + (k : Int) - (m : Int))) = true := by rw [h1]; simp
  clear he h1 hxv
  go_wp2
  go_roundg (7 - (k + 1))
  case measure => have := unhide Hgk; omega
  case rel => exact ⟨k + 1, rfl, by omega, by go_num, by go_num, rfl⟩

end Go.Proofs.Ytdminnhfgdoibaa
namespace Go.Proofs.Ytdminnhfgdoibaa
set_option linter.unusedVariables false
set_option linter.unusedSimpArgs false
open Go.RowKit

theorem byteInfo : (Try.prog.info? 5).map (fun i => (i.zero, i.size, i.bytes)) = some (some (.int .u8 0), 1, 1) := by kernel_rfl
theorem byteTy : SlTy Try.prog 22 5 1 1 := slTy_mk (z := .int .u8 0) Try.underlying22 byteInfo rfl (by omega) (by omega)
theorem bys_one (l : List UInt8) : ∀ u ∈ bys l, u.oneCell' = true := by
  intro u hu
  simp only [bys, List.mem_map] at hu
  obtain ⟨c, _, rfl⟩ := hu
  rfl
/-- From the value v to the value v', which owns the bytes xs: only v's own row, and what is new, has turned. -/
structure Grew (w w' : World) (base : Nat) (v v' : Value) (n : Nat) (xs : List UInt8) : Prop where
  own : w'.ownsRow base 5 1 v' n (bys xs)
  kept : w.grownBy w' v.ownBlock
  at_ : ∀ k, v'.ownBlock = some k → v.ownBlock = some k ∨ w.heap.size ≤ k
section
variable {a b c : World} {base : Nat} {u v x : Value} {n m : Nat} {xs ys : List UInt8}
theorem Grew.trans (h : Grew a b base u v n xs) (k : Grew b c base v x m ys) : Grew a c base u x m ys :=
  ⟨k.own, ⟨k.kept.os.trans h.kept.os, k.kept.tape.trans h.kept.tape, k.kept.output.trans h.kept.output, Nat.le_trans h.kept.size k.kept.size, fun i hi hr => (k.kept.block i (Nat.lt_of_lt_of_le hi h.kept.size) (fun e => by
    rcases h.at_ i e.symm with h1 | h1
    · exact hr h1.symm
    · omega)).trans (h.kept.block i hi hr)⟩, fun i hi => by
    rcases k.at_ i hi with h1 | h1
    · exact h.at_ i h1
    · exact .inr (Nat.le_trans h.kept.size h1)⟩
theorem grownBy_of_below {row : Option Nat} (h : Below a.heap.size a b) : a.grownBy b row := ⟨h.os, h.tape, h.output, h.size, fun k hk _ => h.block k hk⟩
/-- Ahead of it something may have been made. -/
theorem Grew.after (hb : Below a.heap.size a b) (h : Grew b c base u v n xs) : Grew a c base u v n xs :=
  ⟨h.own, grown_trans (grownBy_of_below hb) h.kept, fun k hk => (h.at_ k hk).imp id fun h1 => Nat.le_trans hb.size h1⟩
theorem Grew.then (h : Grew a b base u v n xs) (hb : Below b.heap.size b c) : Grew a c base u v n xs :=
  ⟨own_below h.own hb, grown_trans h.kept (grownBy_of_below hb), h.at_⟩
theorem Grew.below {B : Nat} (h : Grew a b base u v n xs) (hB : B ≤ a.heap.size) (hr : ∀ k, u.ownBlock = some k → B ≤ k) : Below B a b := (Below.refl B a).grown h.kept hB hr
theorem Grew.blk {g : Nat} (h : Grew a b base u v n xs) (hg : g < a.heap.size) (hne : u.ownBlock ≠ some g) {o : Obj} (ho : a.heap[g]? = some o) : b.heap[g]? = some o :=
  (h.kept.block g hg (fun e => hne e.symm)).trans ho
theorem own_lt {w : World} {e : TypeId} {size : Nat} {xs : List Value} (h : w.ownsRow base e size v n xs) : ∀ k, v.ownBlock = some k → base ≤ k := fun k hk => (h.lt k hk).1
end

end Go.Proofs.Ytdminnhfgdoibaa
namespace Go.Proofs.Ytdminnhfgdoibaa
set_option linter.unusedVariables false
set_option linter.unusedSimpArgs false
open Go.RowKit

/-- A row of bytes from block 'base' on, marked or not. -/
def OwnM (w : World) (base : Nat) (A : Option Addr) (n c : Nat) (xs : List UInt8) : Prop :=
  xs.length = n ∧ ∃ (g : Nat) (cur : Array Value) (fr : Nat × Nat), A = some ⟨g, 0, none⟩ ∧ base ≤ g ∧ w.heap[g]? = some (.cells cur 5 fr) ∧ (fr = (0, 0) ∨ cur.size ≤ fr.1) ∧ n ≤ c ∧ c ≤ maxLen ∧ cur.size = c ∧ cur.toList.take n = bys xs
section
variable {w w' : World} {base B n c : Nat} {A : Option Addr} {xs : List UInt8}
theorem OwnM.rd (h : OwnM w base A n c xs) : Rd w w.heap.size 1 A n (bys xs) := by
  obtain ⟨hl, g, cur, fr, rfl, hb, hg, _, hn, _, hc, ht⟩ := h
  refine ⟨by simp [bys]; omega, .inr ⟨g, 0, rfl, lt_of_block hg, fun j u hu => ?_⟩⟩
  have hj : j < n := by have := (List.getElem?_eq_some_iff.1 hu).1; simp [bys] at this; omega
  rw [cell_of_row w g (0 + j) cur _ fr hg, Nat.zero_add]
  rw [← ht, List.getElem?_take_of_lt hj] at hu
  simpa using hu
theorem OwnM.below (h : OwnM w base A n c xs) (hb : Below w.heap.size w w') : OwnM w' base A n c xs := by
  obtain ⟨hl, g, cur, fr, rfl, h1, hg, r⟩ := h
  exact ⟨hl, g, cur, fr, rfl, h1, (hb.block g (lt_of_block hg)).trans hg, r⟩
theorem OwnM.low (h : OwnM w base A n c xs) (hb : B ≤ base) : OwnM w B A n c xs := by
  obtain ⟨hl, g, cur, fr, rfl, h1, r⟩ := h
  exact ⟨hl, g, cur, fr, rfl, Nat.le_trans hb h1, r⟩
theorem OwnM.keep (h : OwnM w base A n c xs) {k : Nat} (hk : ∀ g, g < w.heap.size → g ≠ k → w'.heap[g]? = w.heap[g]?) (hne : ∀ o, A ≠ some ⟨k, o, none⟩) : OwnM w' base A n c xs := by
  obtain ⟨hl, g, cur, fr, rfl, h1, hg, r⟩ := h
  exact ⟨hl, g, cur, fr, rfl, h1, (hk g (lt_of_block hg) (fun e => hne 0 (by rw [e]))).trans hg, r⟩
theorem OwnM.at_ (h : OwnM w base A n c xs) : ∃ g, A = some ⟨g, 0, none⟩ ∧ base ≤ g ∧ g < w.heap.size ∧ n ≤ c := by
  obtain ⟨hl, g, cur, fr, rfl, h1, hg, _, hn, _⟩ := h
  exact ⟨g, rfl, h1, lt_of_block hg, hn⟩
theorem OwnM.of_own (h : w.ownsRow base 5 1 (.slice A n c) n (bys xs)) (hA : A ≠ none) : OwnM w base A n c xs := by
  have hl : xs.length = n := by have := h.1; simp [bys] at this; omega
  rcases h.2 with ⟨h1, _⟩ | ⟨g, cap, cur, h1, h2, h3, h4, h5, h6, h7⟩
  · injection h1 with e1
    exact absurd e1 hA
  · injection h1 with e1 _ e3
    subst e1 e3
    exact ⟨hl, g, cur, (0, 0), rfl, h2, h3, .inl rfl, h4, h5, by simpa using h6, by simpa using h7⟩
theorem OwnM.conv (w : World) (s : ByteArray) (hs : s.size ≤ maxLen) : OwnM (w.drew.alloc (.cells (bytesRow s (grownCap w s.size 0 5)) 5 ((bytesRow s (grownCap w s.size 0 5)).size, (bytesRow s (grownCap w s.size 0 5)).size + 1))) w.heap.size (some ⟨w.heap.size, 0, none⟩) s.size (grownCap w s.size 0 5) s.data.toList := by
  have hge := grownCap_ge w s.size 0 5
  refine ⟨rfl, w.heap.size, _, _, rfl, Nat.le_refl _, heap_alloc_new w.drew _, .inr (Nat.le_refl _), hge, grownCap_le_maxLen w s.size 0 5 hs, ?_, ?_⟩
  · simp [bytesRow]
    omega
  · unfold bytesRow
    rw [Array.toList_append, List.take_append_of_le_length (by simp), List.take_of_length_le (by simp)]
    simp [bys]
end
/-- 'run_storeCells_at' for a row whose mark lies behind its cells. -/
theorem run_storeCells_atM (P : Program) (g o : Nat) (t : TypeId) (fz : Nat × Nat) : ∀ (vs : List Value) (i : Nat) (cur : Array Value) (w : World), w.heap[g]? = some (.cells cur t fz) → (fz = (0, 0) ∨ cur.size ≤ fz.1) → o + i + vs.length ≤ cur.size → (∀ v ∈ vs, v.oneCell' = true) →
    (storeCells ⟨g, o, none⟩ vs i).run P w = .ok () (w.setRow g (cur.toList.take (o + i) ++ vs ++ cur.toList.drop (o + i + vs.length)).toArray)
  | [], i, cur, w, hg, _, _, _ => by
    simp only [storeCells, List.append_nil, List.length_nil, Nat.add_zero, List.take_append_drop, Array.toArray_toList]
    rw [setRow_self w g cur t fz hg]
    rfl
  | v :: rest, i, cur, w, hg, hfz, hl, h1 => by
    have hi : o + i < cur.size := by simp at hl; omega
    have hadd : (⟨g, o, none⟩ : Addr).add i = ⟨g, o + i, none⟩ := by unfold Addr.add; split <;> simp_all
    have hcell : w.cell? ⟨g, o + i, none⟩ = some cur[o + i] := by simp [World.cell?, hg, hi]
    have hfro : w.frozen? ⟨g, o + i, none⟩ = false := by
      obtain ⟨lo, hi'⟩ := fz
      simp only [World.frozen?, hg, Bool.and_eq_false_iff, decide_eq_false_iff_not]
      rcases hfz with h | h
      · injection h with h2 h3
        right
        omega
      · left
        simp only at h
        omega
    have hst : (store ((⟨g, o, none⟩ : Addr).add i) v).run P w = .ok () (w.setRow g (cur.setIfInBounds (o + i) v)) := by
      rw [hadd, run_store P w _ v _ (h1 v (by simp)), hcell]
      simp [hfro, setCell_eq_setRow w g (o + i) cur t fz v hg]
    have ih := run_storeCells_atM P g o t fz rest (i + 1) (cur.setIfInBounds (o + i) v) (w.setRow g (cur.setIfInBounds (o + i) v)) (setRow_heap w g cur _ t _ hg) (by simpa using hfz) (by simp at hl ⊢; omega) (fun x hx => h1 x (by simp [hx]))
    simp only [storeCells, Sem.run_bind, hst, Result.andThen_ok, ih, setRow_setRow]
    congr 3
    have e := list_seg_step cur.toList (o + i) v rest (by simp at hl ⊢; omega)
    simpa [Array.toList_setIfInBounds, Nat.add_assoc] using e

set_option maxRecDepth 20000 in
theorem run_appM (w : World) (base : Nat) (ty : TypeId) (A : Option Addr) (n c : Nat) (xs : List UInt8) (h : OwnM w base A n c xs) (B2 b2 o2 m c2 : Nat) (ys : List UInt8) (hr : Rd w B2 1 (some ⟨b2, o2, none⟩) m (bys ys)) (hb : n + m ≤ 140737488355328) (hbase : base ≤ w.heap.size) :
    ∃ A' c' w', (Builtin.append_ #[22, 22] ty #[.slice A n c, .slice (some ⟨b2, o2, none⟩) m c2]).run Try.prog w = .ok (.slice A' (n + m) c') w' ∧ OwnM w' base A' (n + m) c' (xs ++ ys) ∧ w.grownBy w' (Value.slice A n c).ownBlock ∧ (A' = A ∨ A' = some ⟨w.heap.size, 0, none⟩) := by
  obtain ⟨i, hi, hz, hsize, hby⟩ := info_parts byteInfo
  have ht := Try.underlying22
  obtain ⟨hl, g, cur, fr, rfl, hbg, hg, hfr, hnc, hcm, hcs, htake⟩ := h
  have hml : (bys ys).length = m := hr.len1
  have hxl : (bys xs).length = n := by simp [bys]; exact hl
  have hnews : ∀ j u, (bys ys)[j]? = some u → w.cell? ((⟨b2, o2, none⟩ : Addr).add j) = some u := by
    intro j u hu
    obtain ⟨b, o, e, _, hc⟩ := hr.at_ hu
    injection e with e
    injection e with e1 e2
    subst e1 e2
    rw [Addr.add_lit]
    exact hc
  by_cases hroom : n + m ≤ c
  · have hf := run_firstCells_some (P := Try.prog) w 1 m ⟨b2, o2, none⟩ m c2 (bys ys) (by omega) hnews
    have hst := run_storeCells_atM Try.prog g n 5 fr (bys ys) 0 cur w hg hfr (by omega) (bys_one _)
    simp only [Nat.add_zero, hml] at hst
    have hsz : (cur.toList.take n ++ bys ys ++ cur.toList.drop (n + m)).toArray.size = cur.size := by
      simp only [List.size_toArray, List.length_append, List.length_take, List.length_drop, Array.length_toList, hml]
      omega
    refine ⟨some ⟨g, 0, none⟩, c, w.setRow g (cur.toList.take n ++ bys ys ++ cur.toList.drop (n + m)).toArray, ?_, ⟨by simp; simp [bys] at hml; omega, g, _, fr, rfl, hbg, setRow_heap w g cur _ _ fr hg, ?_, hroom, hcm, ?_, ?_⟩, ⟨rfl, rfl, rfl, by simp, fun k _ hk => setRow_other w g k _ (fun e => hk (by simp [Value.ownBlock, e]))⟩, .inl rfl⟩
    · simp [Builtin.append_, run_underlying ht, sizeOf, typeInfo, hi, hsize, Builtin.lenOf, hroom, hf, Addr.add_lit, hst]
    · refine hfr.imp id fun h => ?_
      rw [hsz]
      exact h
    · rw [hsz]
      exact hcs
    · have h1 : (bys xs ++ bys ys).length = n + m := by rw [List.length_append, hxl, hml]
      rw [htake, bys_app, ← h1]
      exact List.take_left
  · have holds : ∀ j u, (bys xs)[j]? = some u → w.cell? ((⟨g, 0, none⟩ : Addr).add j) = some u := by
      intro j u hu
      rw [Addr.add_lit]
      have hj : j < n := by have := (List.getElem?_eq_some_iff.1 hu).1; omega
      rw [cell_of_row w g (0 + j) cur _ fr hg, Nat.zero_add]
      rw [← htake, List.getElem?_take_of_lt hj] at hu
      simpa using hu
    have hr2 := run_append_grow (P := Try.prog) w 22 ty 5 i (.int .u8 0) ht hi hz ⟨g, 0, none⟩ n c (bys xs) (by rw [hsize]; omega) holds ⟨b2, o2, none⟩ m c2 (bys ys) (by rw [hsize]; omega) hnews (by omega) (by omega) (by rw [hby]; exact growslice_fits (by omega) (by omega))
    have hge := grownCap_ge w (n + m) c 5
    have hcm2 := grownCap_le_maxLen w (n + m) c 5 (by unfold maxLen; omega)
    refine ⟨_, _, _, hr2, ⟨by simp; simp [bys] at hml; omega, w.heap.size, _, (0, 0), rfl, hbase, heap_alloc_new w.drew _, .inl rfl, hge, hcm2, ?_, ?_⟩, ⟨rfl, rfl, rfl, by simp, fun j hj _ => Below.heap_alloc _ _ _ hj⟩, .inr rfl⟩
    · have hz1 : (Value.int IntKind.u8 0).cells.size = 1 := rfl
      simp only [Array.size_append, List.size_toArray, size_zeroCells, hz1, hxl, hml]
      omega
    · have h1 : (bys xs ++ bys ys).length = n + m := by rw [List.length_append, hxl, hml]
      rw [Array.toList_append, Array.toList_append, bys_app, ← h1]
      exact List.take_left
/-- append(b, x...), b a row that may be marked, x a slice that is there. -/
theorem wpList_appM {w : World} {ops : Array Oper} {rest : List Oper} {o : Oper} {a : Act} {Q : Exit → Act → World → Prop} (hgd : o.guard = none) (s x : Operand)
    (ho : o.op = .call { callee := .builtin .append, args := #[s, x], argTypes := #[22, 22] })
    (base : Nat) (A : Option Addr) (n c : Nat) (xs : List UInt8) (hs : a.eval s = .slice A n c) (h : OwnM w base A n c xs) (B2 b2 o2 m c2 : Nat) (ys : List UInt8) (hx : a.eval x = .slice (some ⟨b2, o2, none⟩) m c2) (hr : Rd w B2 1 (some ⟨b2, o2, none⟩) m (bys ys)) (hb : n + m ≤ 140737488355328) (hbase : base ≤ w.heap.size)
    (hK : ∀ A' c' w', OwnM w' base A' (n + m) c' (xs ++ ys) → w.grownBy w' (Value.slice A n c).ownBlock → (A' = A ∨ A' = some ⟨w.heap.size, 0, none⟩) → wpList Try.prog ops Q rest (a.put o.dst (.slice A' (n + m) c')) w') : wpList Try.prog ops Q (o :: rest) a w := by
  refine wpList_plain hgd fun K hk => ?_
  obtain ⟨A', c', w', hrun, h2, h3, h4⟩ := run_appM w base o.type A n c xs h B2 b2 o2 m c2 ys hr hb hbase
  unfold Oper.wp execOp
  simp only [ho, resolve, invoke, builtin, Sem.run_bind, Sem.run_pure, Result.andThen_ok, List.map_toArray, List.map_cons, List.map_nil, hs, hx, hrun]
  exact hk _ _ (hK A' c' w' h2 h3 h4)
end Go.Proofs.Ytdminnhfgdoibaa
namespace Go.Proofs.Ytdminnhfgdoibaa
set_option linter.unusedVariables false
set_option linter.unusedSimpArgs false
open Go.RowKit

namespace Dy
theorem tb_hi {y i : Nat} (hy : y < 2 ^ 32) (hi : 32 ≤ i) : y.testBit i = false :=
  Nat.testBit_lt_two_pow (Nat.lt_of_lt_of_le hy (Nat.pow_le_pow_right (by omega) hi))
theorem hash_top {y : Nat} (hy : y < 2 ^ 32) : y &&& 4026531840 = y / 268435456 * 268435456 := by
  have e : (4026531840 : Nat) = 15 * 2 ^ 28 := by decide
  have e2 : (268435456 : Nat) = 2 ^ 28 := by decide
  rw [e, e2]
  apply Nat.eq_of_testBit_eq
  intro i
  rw [Nat.testBit_and, Nat.testBit_mul_two_pow, Nat.testBit_mul_two_pow, Nat.testBit_div_two_pow]
  by_cases h : 28 ≤ i
  · rw [Nat.sub_add_cancel h]
    by_cases h2 : i < 32
    · have : (15 : Nat).testBit (i - 28) = true := by
        have h3 : i - 28 = 0 ∨ i - 28 = 1 ∨ i - 28 = 2 ∨ i - 28 = 3 := by omega
        rcases h3 with h3 | h3 | h3 | h3 <;> rw [h3] <;> decide
      simp [h, this]
    · rw [tb_hi hy (by omega)]
      simp
  · simp [h]
theorem hash_cut {y : Nat} (hy : y < 2 ^ 32) : (y ^^^ (y / 268435456 * 16)) &&& (4294967295 - y / 268435456 * 268435456) = (y ^^^ (y / 268435456 * 16)) % 268435456 := by
  have e2 : (268435456 : Nat) = 2 ^ 28 := by decide
  have e4 : (16 : Nat) = 2 ^ 4 := by decide
  have ht : y / 2 ^ 28 * 2 ^ 28 < 2 ^ 32 := Nat.lt_of_le_of_lt (Nat.div_mul_le_self _ _) hy
  have e3 : 4294967295 - y / 2 ^ 28 * 2 ^ 28 = 2 ^ 32 - (y / 2 ^ 28 * 2 ^ 28 + 1) := by omega
  rw [e2, e3, e4]
  apply Nat.eq_of_testBit_eq
  intro i
  rw [Nat.testBit_and, Nat.testBit_two_pow_sub_succ ht, Nat.testBit_mod_two_pow, Nat.testBit_xor, Nat.testBit_mul_two_pow, Nat.testBit_mul_two_pow, Nat.testBit_div_two_pow, Nat.testBit_div_two_pow]
  by_cases h : 28 ≤ i
  · have h1 : ¬ i < 28 := by omega
    rw [tb_hi (i := i - 4 + 28) hy (by omega), Nat.sub_add_cancel h]
    simp [h, h1]
    intro a _
    exact a
  · have h1 : i < 28 := by omega
    have h2 : i < 32 := by omega
    simp [h, h1, h2]
theorem hashStep_eq (h : Nat) (c : UInt8) : hashStep h c = ((h * 16 + c.toNat) % 4294967296 ^^^ ((h * 16 + c.toNat) % 4294967296 / 268435456 * 16)) % 268435456 := rfl
theorem hashStep_lt (h : Nat) (c : UInt8) : hashStep h c < 268435456 := by rw [hashStep_eq]; exact Nat.mod_lt _ (by decide)
theorem hash_snoc (l : List UInt8) (c : UInt8) : hash (l ++ [c]) = hashStep (hash l) c := by unfold hash; rw [List.foldl_append]; rfl
theorem hash_lt (l : List UInt8) : hash l < 268435456 := by
  rcases List.eq_nil_or_concat l with rfl | ⟨r, c, rfl⟩
  · decide
  · rw [List.concat_eq_append, hash_snoc]; exact hashStep_lt _ _
theorem hash_val (h x : Nat) : bits .andNot .u32 (bits .xor .u32 (((h : Int) * 16 + (x : Int)) % 4294967296) (bits .and .u32 (((h : Int) * 16 + (x : Int)) % 4294967296) 4026531840 / 16777216)) (bits .and .u32 (((h : Int) * 16 + (x : Int)) % 4294967296) 4026531840) =
    (((((h * 16 + x) % 4294967296 ^^^ ((h * 16 + x) % 4294967296 / 268435456 * 16)) % 268435456 : Nat)) : Int) := by
  obtain ⟨y, hy⟩ : ∃ y, (h * 16 + x) % 4294967296 = y := ⟨_, rfl⟩
  have hy2 : ((h : Int) * 16 + (x : Int)) % 4294967296 = (y : Int) := by omega
  have hlt : y < 2 ^ 32 := by omega
  rw [hy, hy2]
  have e1 : (4026531840 : Int) = ((4026531840 : Nat) : Int) := rfl
  rw [e1, u32_and_nat _ _ (by omega) (by omega), hash_top hlt]
  have e2 : (((y / 268435456 * 268435456 : Nat)) : Int) / 16777216 = ((y / 268435456 * 16 : Nat) : Int) := by omega
  rw [e2, u32_xor_nat _ _ (by omega) (by omega)]
  have hx : y ^^^ y / 268435456 * 16 < 2 ^ 32 := Nat.xor_lt_two_pow hlt (by omega)
  rw [u32_andNot_nat _ _ (by omega) (by omega), hash_cut hlt]
end Dy
namespace Wd
theorem num_cons (b : List UInt8) (q n : Nat) (c : UInt8) (h : b[q]? = some c) : num b q (n + 1) = c.toNat + 256 * num b (q + 1) n := by
  unfold num
  have hl : q < b.length := (List.getElem?_eq_some_iff.1 h).1
  rw [List.drop_eq_getElem_cons hl, (List.getElem?_eq_some_iff.1 h).2]
  rfl
end Wd

theorem number_any (A : Option Addr) (m c B : Nat) (b : List UInt8) (p s : Nat) (w : World) (hB : B ≤ w.heap.size) (hb : Rd w B 1 A m (bys b)) (hm : m ≤ maxLen) (hs : s = 1 ∨ s = 2 ∨ s = 4 ∨ s = 8) (hin : p + s ≤ m) :
    Calls Try.prog 36 #[.slice A m c, .int .u64 p, .int .i64 s] w fun e w' => e = .returned (.int .u64 (Wd.num b p s)) ∧ Below w.heap.size w w' := by
  have K := hide (get_yes A m c B b p s w hB hb hm hs hin)
  clear hb hs hin
  go_enter Try.func36, Try.ntmps36
  go_wp2_with fail
  refine (unhide K).mono ?_
  rintro e w1 ⟨rfl, hb1⟩
  go_wp2_with fail
  go_ret
  exact ⟨rfl, hb1⟩

theorem rinsW_any (a b c : Int) (w : World) (h0 : 0 ≤ a) (h1 : a ≤ 18446744073709551615) (h2 : 0 ≤ b) (h3 : b ≤ 18446744073709551615) (h4 : 0 ≤ c) (h5 : c ≤ 18446744073709551615) :
    Calls Try.prog 46 #[.int .u64 a, .int .u64 b, .int .u64 c] w fun e w' => e = .returned (.bool (decide (a + b ≤ c))) ∧ w = w' := by
  by_cases h : b ≤ c
  · have hr : decide (a + b ≤ c) = decide (a ≤ c - b) := by rw [decide_eq_decide]; omega
    rw [hr]
    have Hr := hide hr
    clear hr
    go_enter Try.func46, Try.ntmps46
    go_wp2
    go_ret
    exact ⟨rfl, rfl⟩
  · have hr : decide (a + b ≤ c) = false := decide_eq_false (by omega)
    rw [hr]
    clear hr
    go_enter Try.func46, Try.ntmps46
    go_wp2
    go_ret
    exact ⟨rfl, rfl⟩
theorem raddW_yes (a b : Int) (w : World) (h0 : 0 ≤ a) (h2 : 0 ≤ b) (h : a + b ≤ 18446744073709551615) :
    Calls Try.prog 75 #[.int .u64 a, .int .u64 b] w fun e w' => e = .returned (.tuple #[.int .u64 (a + b), .bool true]) ∧ w = w' := by
  go_enter Try.func75, Try.ntmps75
  go_wp2
  go_ret2
  exact ⟨rfl, rfl⟩
theorem raddW_no (a b : Int) (w : World) (h0 : 0 ≤ a) (h1 : a ≤ 18446744073709551615) (h2 : 0 ≤ b) (h3 : b ≤ 18446744073709551615) (h : 18446744073709551615 < a + b) :
    Calls Try.prog 75 #[.int .u64 a, .int .u64 b] w fun e w' => e = .returned (.tuple #[.int .u64 0, .bool false]) ∧ w = w' := by
  obtain ⟨c, hc, hc2⟩ : ∃ c, IntKind.u64.wrap (a + b) = c ∧ c < a := ⟨_, rfl, by rw [IntKind.wrap_u64]; omega⟩
  go_enter Try.func75, Try.ntmps75
  go_wp2
  go_ret2
  exact ⟨rfl, rfl⟩
theorem rplW_yes (A : Option Addr) (m c p s : Nat) (w : World) (hm : m ≤ 4294967296) (hs : s = 1 ∨ s = 2 ∨ s = 4 ∨ s = 8) (h : p + s ≤ m) : Calls Try.prog 62 #[.slice A m c, .int .u64 p, .int .i64 s] w fun e w' => e = .returned (.int .i64 0) ∧ w = w' := by
  have hd : decide (((p : Nat) : Int) + ((s : Nat) : Int) ≤ ((m : Nat) : Int)) = true := by simp; omega
  have K := hide (fun w' => show Calls Try.prog 46 #[.int .u64 (p : Nat), .int .u64 (s : Nat), .int .u64 (m : Nat)] w' (fun e w2 => e = .returned (.bool true) ∧ w' = w2) by
    have := rinsW_any (p : Nat) (s : Nat) (m : Nat) w' (by omega) (by omega) (by omega) (by omega) (by omega) (by omega)
    rw [hd] at this
    exact this)
  clear hd
  rcases hs with rfl | rfl | rfl | rfl
  all_goals
    go_enter Try.func62, Try.ntmps62
    go_wp2_with fail
    refine ((unhide K) _).mono ?_
    rintro e w1 ⟨rfl, rfl⟩
    go_wp2_with fail
    go_ret
    exact ⟨rfl, rfl⟩
set_option maxHeartbeats 1000000 in
theorem rget_any (A : Option Addr) (m c B : Nat) (b : List UInt8) (p s : Nat) (w : World) (hb : Rd w B 1 A m (bys b)) (hm : m ≤ 4294967296) (hs : s = 1 ∨ s = 2 ∨ s = 4 ∨ s = 8) (hin : p + s ≤ m) :
    Calls Try.prog 65 #[.slice A m c, .int .u64 p, .int .i64 s] w fun e w' => e = .returned (.tuple #[.int .u64 (Wd.num b p s), .int .i64 0]) ∧ w = w' := by
  have K := hide (rplW_yes A m c p s w hm hs hin)
  have hs8 : s ≤ 8 := by omega
  have hs0 : 0 < s := by omega
  have hbl : b.length = m := by simpa [bys] using hb.len1
  have Hb := hide hb
  have Hbl := hide hbl
  clear hb hs hbl
  go_enter Try.func65, Try.ntmps65
  go_wp2_with fail
  refine (unhide K).mono ?_
  rintro e w1 ⟨rfl, rfl⟩
  go_wp2_with fail
  go_loopg [9, 10] s (fun gk xv iv wr => ∃ k : Nat, gk = k ∧ k ≤ s ∧ iv = .int .i64 ((k : Int) - 1) ∧ xv = .int .u64 (Wd.num b (p + k) (s - k) : Nat) ∧ w = wr)
  case atStart => exact ⟨s, rfl, Nat.le_refl _, rfl, by rw [Nat.sub_self, Wd.num_zero]; rfl, rfl⟩
  case round =>
  obtain ⟨k, hgk, hk, rfl, rfl, rfl⟩ := hrel
  have Hgk := hide hgk
  clear hgk
  by_cases hk0 : k = 0
  · subst hk0
    rw [Nat.add_zero, Nat.sub_zero]
    have ige : ¬ (0 : Int) ≤ ((0 : Nat) : Int) - 1 := by omega
    go_wp2_with fail
    go_ret2
    exact ⟨rfl, rfl⟩
  · obtain ⟨j, rfl⟩ : ∃ j, k = j + 1 := ⟨k - 1, by omega⟩
    obtain ⟨x, hx⟩ : ∃ x, b[p + j]? = some x := ⟨_, List.getElem?_eq_getElem (by rw [unhide Hbl]; omega)⟩
    obtain ⟨b1, o1, rfl, _, c1⟩ := (unhide Hb).at_ (k := p + j) (u := .int .u8 x.toNat) (bys_at hx)
    have hst : Wd.num b (p + j) (s - j) = x.toNat + 256 * Wd.num b (p + (j + 1)) (s - (j + 1)) := by rw [show s - j = (s - (j + 1)) + 1 by omega, Wd.num_cons b _ _ x hx]; rfl
    have hlt : Wd.num b (p + (j + 1)) (s - (j + 1)) < 72057594037927936 := Nat.lt_of_lt_of_le (Wd.num_lt _ _ _) (by have : 256 ^ (s - (j + 1)) ≤ 256 ^ 7 := Nat.pow_le_pow_right (by omega) (by omega); simpa using this)
    obtain ⟨N, hN⟩ : ∃ N, Wd.num b (p + (j + 1)) (s - (j + 1)) = N := ⟨_, rfl⟩
    rw [hN] at hst hlt ⊢
    have hx8 := x.toNat_lt
    have Hst := hide hst
    have e1 : ((j + 1 : Nat) : Int) - 1 = (j : Int) := by omega
    have e2 : IntKind.i64.wrap ((p : Int) + (j : Int)) = (p : Int) + (j : Int) := by rw [IntKind.wrap_i64]; omega
    rw [e1]
    clear hst hN hx
    go_wp2_with fail
    go_roundg j
    case measure => have := unhide Hgk; omega
    case rel => exact ⟨j, rfl, by omega, by first | rfl | go_num, by rw [unhide Hst]; exact congrArg (Value.int .u64) (by omega), rfl⟩
set_option maxRecDepth 100000 in
set_option maxHeartbeats 1000000 in
theorem hash_any (s : ByteArray) (w : World) (hs : s.size ≤ 4294967296) :
    Calls Try.prog 12 #[.string s] w fun e w' => e = .returned (.int .u32 (Dy.hash s.data.toList : Nat)) ∧ Below w.heap.size w w' := by
  have hcv := run_bytes_of_string (P := Try.prog) w 9 22 5 s Try.underlying9 Try.underlying22 Try.underlying5
  have hm := OwnM.conv w s (by unfold maxLen; omega)
  have hb1 : Below w.heap.size w (w.drew.alloc (.cells (bytesRow s (grownCap w s.size 0 5)) 5 ((bytesRow s (grownCap w s.size 0 5)).size, (bytesRow s (grownCap w s.size 0 5)).size + 1))) := (below_drew' (Below.refl _ _)).alloc (Nat.le_refl _) _
  generalize (w.drew.alloc (.cells (bytesRow s (grownCap w s.size 0 5)) 5 ((bytesRow s (grownCap w s.size 0 5)).size, (bytesRow s (grownCap w s.size 0 5)).size + 1))) = w1 at *
  generalize grownCap w s.size 0 5 = cc at *
  obtain ⟨n, hn⟩ : ∃ n, s.size = n := ⟨_, rfl⟩
  rw [hn] at hcv hm
  have hr := hm.rd
  have hlen : s.data.toList.length = n := hn
  have Hr := hide hr
  have Hb1 := hide hb1
  have Hlen := hide hlen
  have Hn := hide hn
  have hs2 : n ≤ 4294967296 := by omega
  clear hm hr hb1 hlen hn
  go_enter Try.func12, Try.ntmps12
  go_wp2_with fail
  go_loopg [3, 10] n (fun gk hv iv wr => ∃ k : Nat, gk = n - k ∧ k ≤ n ∧ iv = .int .i64 k ∧ hv = .int .u32 (Dy.hash (s.data.toList.take k) : Nat) ∧ w1 = wr)
  case atStart => exact ⟨0, by omega, Nat.zero_le _, rfl, rfl, rfl⟩
  case round =>
  obtain ⟨k, hgk, hk, rfl, rfl, rfl⟩ := hrel
  have Hgk := hide hgk
  clear hgk
  by_cases hlt : k < n
  case neg =>
    obtain rfl : k = n := by omega
    have htk : s.data.toList.take k = s.data.toList := List.take_of_length_le (by rw [unhide Hlen]; exact Nat.le_refl _)
    rw [htk]
    clear htk
    have ige : ¬ (k : Int) < (k : Int) := by omega
    go_wp2_with fail
    go_ret
    exact ⟨rfl, unhide Hb1⟩
  obtain ⟨x, hx⟩ : ∃ x, s.data.toList[k]? = some x := ⟨_, List.getElem?_eq_getElem (by rw [unhide Hlen]; exact hlt)⟩
  obtain ⟨b2, o2, hA, _, c2⟩ := (unhide Hr).at_ (k := k) (u := .int .u8 x.toNat) (bys_at hx)
  obtain ⟨rfl, rfl⟩ : w.heap.size = b2 ∧ 0 = o2 := by simpa using hA
  have hst : Dy.hash (s.data.toList.take (k + 1)) = Dy.hashStep (Dy.hash (s.data.toList.take k)) x := by rw [List.take_add_one, hx, ← Dy.hash_snoc]; rfl
  have hh := Dy.hash_lt (s.data.toList.take k)
  obtain ⟨h, hh0⟩ : ∃ h, Dy.hash (s.data.toList.take k) = h := ⟨_, rfl⟩
  rw [hh0] at hst hh ⊢
  rw [Dy.hashStep_eq] at hst
  obtain ⟨y, hy⟩ : ∃ y, (h * 16 + x.toNat) % 4294967296 = y := ⟨_, rfl⟩
  rw [hy] at hst
  have hy32 : y < 4294967296 := by omega
  have hx8 := x.toNat_lt
  have Hst := hide hst
  have Hy := hide hy
  rw [Nat.zero_add] at c2
  clear hst hh0 hx hA hy
  go_wp2_with fail
  go_roundg (n - (k + 1))
  case measure => have := unhide Hgk; omega
  case rel => exact ⟨k + 1, rfl, by omega, by go_num, by rw [unhide Hst, ← unhide Hy]; exact congrArg (Value.int .u32) (Dy.hash_val h x.toNat), rfl⟩
set_option maxHeartbeats 1000000 in
theorem rhash_any (s : ByteArray) (w : World) (hs : s.size ≤ 4294967296) :
    Calls Try.prog 13 #[.string s] w fun e w' => e = .returned (.int .u32 (Dy.hash s.data.toList : Nat)) ∧ w = w' := by
  obtain ⟨n, hn⟩ : ∃ n, s.size = n := ⟨_, rfl⟩
  have hlen : s.data.toList.length = n := hn
  have Hlen := hide hlen
  clear hlen
  go_enter Try.func13, Try.ntmps13
  go_wp2_with fail
  go_loopg [3, 4] n (fun gk xv iv wr => ∃ k : Nat, gk = n - k ∧ k ≤ n ∧ iv = .int .i64 k ∧ xv = .int .u64 (Dy.hash (s.data.toList.take k) : Nat) ∧ w = wr)
  case atStart => exact ⟨0, by omega, Nat.zero_le _, rfl, rfl, rfl⟩
  case round =>
  obtain ⟨k, hgk, hk, rfl, rfl, rfl⟩ := hrel
  have Hgk := hide hgk
  clear hgk
  by_cases hlt : k < s.size
  case neg =>
    obtain rfl : k = n := by omega
    have htk : s.data.toList.take k = s.data.toList := List.take_of_length_le (by rw [unhide Hlen]; exact Nat.le_refl _)
    rw [htk]
    have hh := Dy.hash_lt s.data.toList
    obtain ⟨h, hh0⟩ : ∃ h, Dy.hash s.data.toList = h := ⟨_, rfl⟩
    rw [hh0] at hh ⊢
    have ige : ¬ (k : Int) < (s.size : Int) := by omega
    have Hh0 := hide hh0
    clear htk hh0 hn
    go_wp2_with fail
    go_ret
    exact ⟨ret_val (congrArg (Value.int .u32) (by rw [unhide Hh0])), rfl⟩
  have hx : s.data.toList[k]? = some s[k] := by rw [List.getElem?_eq_getElem (by rw [unhide Hlen]; omega)]; rfl
  have hst : Dy.hash (s.data.toList.take (k + 1)) = Dy.hashStep (Dy.hash (s.data.toList.take k)) s[k] := by rw [List.take_add_one, hx, ← Dy.hash_snoc]; rfl
  have hh := Dy.hash_lt (s.data.toList.take k)
  obtain ⟨h, hh0⟩ : ∃ h, Dy.hash (s.data.toList.take k) = h := ⟨_, rfl⟩
  rw [hh0] at hst hh ⊢
  rw [Dy.hashStep_eq] at hst
  have hx8 := s[k].toNat_lt
  obtain ⟨y, hy⟩ : ∃ y, (h * 16 + s[k].toNat) % 4294967296 = y := ⟨_, rfl⟩
  rw [hy] at hst
  have hy2 : ((h : Int) * 16 + (s[k].toNat : Int)) % 4294967296 = (y : Int) := by omega
  have hy3 : y < 4294967296 := by omega
  have hxr : bits .xor .u64 (y : Int) ((y : Int) / 268435456 * 16) = ((y ^^^ (y / 268435456 * 16) : Nat) : Int) := by
    rw [show (y : Int) / 268435456 * 16 = ((y / 268435456 * 16 : Nat) : Int) by omega, u64_xor_nat _ _ (by omega) (by omega)]
  have Hst := hide hst
  have ilt : (k : Int) < (s.size : Int) := by omega
  have hk1 : k < n := by omega
  clear hst hh0 hx hn hy
  go_wp2_with fail
  go_roundg (n - (k + 1))
  case measure => have := unhide Hgk; omega
  case rel => exact ⟨k + 1, rfl, by omega, by go_num, by rw [unhide Hst]; rfl, rfl⟩
theorem rnumber_any (A : Option Addr) (m c B : Nat) (b : List UInt8) (p s : Nat) (w : World) (hb : Rd w B 1 A m (bys b)) (hm : m ≤ 4294967296) (hs : s = 1 ∨ s = 2 ∨ s = 4 ∨ s = 8) (hin : p + s ≤ m) :
    Calls Try.prog 45 #[.slice A m c, .int .u64 p, .int .i64 s] w fun e w' => e = .returned (.int .u64 (Wd.num b p s)) ∧ w = w' := by
  have K := hide (rget_any A m c B b p s w hb hm hs hin)
  clear hb hs hin
  go_enter Try.func45, Try.ntmps45
  go_wp2_with fail
  refine (unhide K).mono ?_
  rintro e w1 ⟨rfl, rfl⟩
  go_wp2_with fail
  go_ret
  exact ⟨rfl, rfl⟩
end Go.Proofs.Ytdminnhfgdoibaa
namespace Go.Proofs.Ytdminnhfgdoibaa
set_option linter.unusedVariables false
set_option linter.unusedSimpArgs false
open Go.RowKit

def tailA (A : Option Addr) (c : Nat) : Option Addr := if c = 1 then A else A.map (·.add 1)
theorem run_tail {P : Program} {t e : TypeId} (ht : P.underlying t = some (.slice e)) (he : (P.info? e).map (·.size) = some 1) (A : Option Addr) (n c : Nat) (w : World) :
    (Instr.slice t (.slice A (n + 1) c) (some (.int .i64 1)) none none).run P w = .ok (.slice (tailA A c) n (c - 1)) w := by
  have hel : P.elem t = e := by simp [Program.elem, ht]
  have hs : (sizeOf e).run P w = .ok 1 w := by
    cases hi : P.info? e with
    | none => simp [hi] at he
    | some i => simp [hi] at he; simp [sizeOf, typeInfo, hi, he]
  rw [run_slice_l w t A (n + 1) c (by rw [hel]; exact ht) .i64 1 (by omega) (by omega), hel, hs]
  simp only [Result.andThen_ok]
  unfold sliced tailA
  have e1 : (1 : Int).toNat = 1 := rfl
  rw [e1]
  simp
theorem Rd.tail {w : World} {B n c : Nat} {A : Option Addr} {x : Value} {xs : List Value} (h : Rd w B 1 A (n + 1) (x :: xs)) (hc : n + 1 ≤ c) : Rd w B 1 (tailA A c) n xs := by
  have hl := h.1
  simp only [List.length_cons] at hl
  refine ⟨by omega, ?_⟩
  by_cases h0 : xs = []
  · exact .inl h0
  · obtain ⟨b, off, rfl, hb, hcl⟩ := h.open_ (by simp)
    have h1 : 0 < xs.length := List.length_pos_iff.2 h0
    refine .inr ⟨b, off + 1, ?_, hb, fun j u hu => ?_⟩
    · unfold tailA
      rw [if_neg (by omega)]
      rfl
    · have := hcl (j + 1) u (by simpa using hu)
      rwa [show off + 1 + j = off + (j + 1) by omega]
theorem size_one {P : Program} {e : TypeId} (he : (P.info? e).map (·.size) = some 1) (w : World) : (sizeOf e).run P w = .ok 1 w := by
  cases hi : P.info? e with
  | none => simp [hi] at he
  | some i => simp [hi] at he; simp [sizeOf, typeInfo, hi, he]
/-- s[k:] and s[:k] of elements of one cell. -/
def fromA (A : Option Addr) (c k : Nat) : Option Addr := if c = k then A else A.map (·.add k)
theorem run_from {P : Program} {t e : TypeId} (ht : P.underlying t = some (.slice e)) (he : (P.info? e).map (·.size) = some 1) (A : Option Addr) (n c k : Nat) (hk : k ≤ n) (w : World) :
    (Instr.slice t (.slice A n c) (some (.int .i64 (k : Nat))) none none).run P w = .ok (.slice (fromA A c k) (n - k) (c - k)) w := by
  have hel : P.elem t = e := by simp [Program.elem, ht]
  rw [run_slice_l w t A n c (by rw [hel]; exact ht) .i64 (k : Nat) (by omega) (by omega), hel, size_one he]
  simp only [Result.andThen_ok, Int.toNat_natCast]
  unfold sliced fromA
  simp
theorem run_to {P : Program} {t e : TypeId} (ht : P.underlying t = some (.slice e)) (he : (P.info? e).map (·.size) = some 1) (A : Option Addr) (n c k : Nat) (hk : k ≤ c) (w : World) :
    (Instr.slice t (.slice A n c) none (some (.int .i64 (k : Nat))) none).run P w = .ok (.slice A k c) w := by
  have hel : P.elem t = e := by simp [Program.elem, ht]
  rw [run_slice_h w t A n c (by rw [hel]; exact ht) .i64 (k : Nat) (by omega) (by omega), hel, size_one he]
  simp only [Result.andThen_ok, Int.toNat_natCast]
  unfold sliced
  have h0 : ∀ A : Option Addr, A.map (·.add (0 * 1)) = A := by
    intro A
    cases A with
    | none => rfl
    | some a => cases a; rfl
  rw [h0]
  simp
theorem Rd.from_ {w : World} {B n c k : Nat} {A : Option Addr} {xs : List Value} (h : Rd w B 1 A n xs) (hk : k ≤ n) (hc : n ≤ c) : Rd w B 1 (fromA A c k) (n - k) (xs.drop k) := by
  have hl := h.1
  refine ⟨by rw [List.length_drop]; omega, ?_⟩
  by_cases h0 : xs.drop k = []
  · exact .inl h0
  · have h1 : 0 < (xs.drop k).length := List.length_pos_iff.2 h0
    rw [List.length_drop] at h1
    obtain ⟨b, off, rfl, hb, hcl⟩ := h.open_ (by rintro rfl; simp at h1)
    refine .inr ⟨b, off + k, ?_, hb, fun j u hu => ?_⟩
    · unfold fromA
      rw [if_neg (by omega), Option.map_some, Addr.add_lit]
    · rw [List.getElem?_drop] at hu
      have := hcl (k + j) u hu
      rwa [show off + k + j = off + (k + j) by omega]
theorem Rd.to_ {w : World} {B n k : Nat} {A : Option Addr} {xs : List Value} (h : Rd w B 1 A n xs) (hk : k ≤ n) : Rd w B 1 A k (xs.take k) := by
  have hl := h.1
  refine ⟨by rw [List.length_take]; omega, ?_⟩
  rcases h.2 with h0 | ⟨b, off, e, hb, hc⟩
  · exact .inl (by rw [h0]; simp)
  · refine .inr ⟨b, off, e, hb, fun j u hu => hc j u ?_⟩
    rw [List.getElem?_take] at hu
    split at hu
    · exact hu
    · cases hu
end Go.Proofs.Ytdminnhfgdoibaa
namespace Go.Proofs.Ytdminnhfgdoibaa
set_option linter.unusedVariables false
set_option linter.unusedSimpArgs false
open Go.RowKit

theorem run_fromK {P : Program} {t e : TypeId} (ht : P.underlying t = some (.slice e)) (he : (P.info? e).map (·.size) = some 1) (κ : IntKind) (A : Option Addr) (n c k : Nat) (hk : k ≤ n) (w : World) :
    (Instr.slice t (.slice A n c) (some (.int κ (k : Nat))) none none).run P w = .ok (.slice (fromA A c k) (n - k) (c - k)) w := by
  have hel : P.elem t = e := by simp [Program.elem, ht]
  rw [run_slice_l w t A n c (by rw [hel]; exact ht) κ (k : Nat) (by omega) (by omega), hel, size_one he]
  simp only [Result.andThen_ok, Int.toNat_natCast]
  unfold sliced fromA
  simp
theorem run_fromToK {P : Program} {t e : TypeId} (ht : P.underlying t = some (.slice e)) (he : (P.info? e).map (·.size) = some 1) (κ κ2 : IntKind) (A : Option Addr) (n c k j : Nat) (hk : k ≤ j) (hj : j ≤ c) (w : World) :
    (Instr.slice t (.slice A n c) (some (.int κ (k : Nat))) (some (.int κ2 (j : Nat))) none).run P w = .ok (.slice (fromA A c k) (j - k) (c - k)) w := by
  have hel : P.elem t = e := by simp [Program.elem, ht]
  rw [run_slice_lh w t A n c (by rw [hel]; exact ht) κ κ2 (k : Nat) (j : Nat) (by omega) (by omega) (by omega), hel, size_one he]
  simp only [Result.andThen_ok, Int.toNat_natCast]
  unfold sliced fromA
  simp
theorem run_toK {P : Program} {t e : TypeId} (ht : P.underlying t = some (.slice e)) (he : (P.info? e).map (·.size) = some 1) (κ : IntKind) (A : Option Addr) (n c k : Nat) (hk : k ≤ c) (w : World) :
    (Instr.slice t (.slice A n c) none (some (.int κ (k : Nat))) none).run P w = .ok (.slice A k c) w := by
  have hel : P.elem t = e := by simp [Program.elem, ht]
  rw [run_slice_h w t A n c (by rw [hel]; exact ht) κ (k : Nat) (by omega) (by omega), hel, size_one he]
  simp only [Result.andThen_ok, Int.toNat_natCast]
  unfold sliced
  have h0 : ∀ A : Option Addr, A.map (·.add (0 * 1)) = A := by
    intro A
    cases A with
    | none => rfl
    | some a => cases a; rfl
  rw [h0]
  simp
theorem Rd.cut {w : World} {B n c k j : Nat} {A : Option Addr} {xs : List Value} (h : Rd w B 1 A n xs) (hk : k ≤ j) (hj : j ≤ n) (hc : n ≤ c) : Rd w B 1 (fromA A c k) (j - k) ((xs.drop k).take (j - k)) :=
  ((h.from_ (k := k) (by omega) hc).to_ (k := j - k) (by omega))
end Go.Proofs.Ytdminnhfgdoibaa
namespace Go.Proofs.Ytdminnhfgdoibaa
set_option linter.unusedVariables false
set_option linter.unusedSimpArgs false
open Go.RowKit

theorem Rd.sub {w : World} {B n : Nat} {b1 o1 : Nat} {xs : List Value} (h : Rd w B 1 (some ⟨b1, o1, none⟩) n xs) {off k : Nat} (hk : off + k ≤ n) : Rd w B 1 (some ⟨b1, o1 + off, none⟩) k ((xs.drop off).take k) := by
  have hl := h.len1
  refine ⟨by simp; omega, ?_⟩
  rcases h.2 with h0 | ⟨b, o, e, hb, hc⟩
  · exact .inl (by simp [h0])
  · obtain ⟨rfl, rfl⟩ : b1 = b ∧ o1 = o := by injection e with e; injection e with h1 h2 h3; exact ⟨h1, h2⟩
    refine .inr ⟨b1, o1 + off, rfl, hb, fun j u hu => ?_⟩
    by_cases hj : j < k
    · rw [List.getElem?_take_of_lt hj, List.getElem?_drop] at hu
      rw [Nat.add_assoc]
      exact hc _ _ hu
    · rw [List.getElem?_take_eq_none (by omega)] at hu
      cases hu

theorem conv_any {P : Program} {w : World} {B n c : Nat} {A : Option Addr} {l : List UInt8} {src dst e : TypeId} (h : Rd w B 1 A n (bys l)) (hs : P.underlying src = some (.slice e)) (he : P.underlying e = some (.int .u8)) (hd : P.underlying dst = some .string) :
    (convert src dst (.slice A n c)).run P w = .ok (.string ⟨l.toArray⟩) w := by
  have hl : l.length = n := by simpa [bys] using h.len1
  subst hl
  cases A with
  | none =>
    have h0 : l = [] := by
      rcases h.2 with h0 | ⟨b, o, e1, _⟩
      · simpa [bys] using h0
      · cases e1
    subst h0
    exact run_convert_bytes_nil w src e hs he _ c dst hd
  | some ad =>
    refine run_convert_bytes_back w src dst e ad c l hs he hd fun j hj => ?_
    obtain ⟨b, o, e1, _, hc⟩ := h.at_ (k := j) (u := .int .u8 (l[j].toNat : Nat)) (bys_at (List.getElem?_eq_getElem hj))
    injection e1 with e1
    subst e1
    rw [Addr.add_lit]
    exact hc
theorem Rd.from {w : World} {B n : Nat} {b1 o1 k : Nat} {l : List UInt8} (h : Rd w B 1 (some ⟨b1, o1, none⟩) n (bys l)) (hk : k ≤ n) : Rd w B 1 (some ⟨b1, o1 + k, none⟩) (n - k) (bys (l.drop k)) := by
  have hl : l.length = n := by simpa [bys] using h.len1
  have h1 := h.sub (off := k) (k := n - k) (by omega)
  have e : ((bys l).drop k).take (n - k) = bys (l.drop k) := by
    unfold bys
    rw [← List.map_drop, ← List.map_take, List.take_of_length_le (by simp; omega)]
  rwa [e] at h1
end Go.Proofs.Ytdminnhfgdoibaa
namespace Go.Proofs.Ytdminnhfgdoibaa
set_option linter.unusedVariables false
set_option linter.unusedSimpArgs false
open Go.RowKit

theorem bytesOf_ints (b : List UInt8) : Lib.bytesOf (b.map fun c => ((c.toNat : Nat) : Int)) = b := by
  unfold Lib.bytesOf
  rw [List.map_map]
  have : ((fun n : Int => UInt8.ofNat n.toNat) ∘ fun c : UInt8 => ((c.toNat : Nat) : Int)) = id := by
    funext c
    simp
  rw [this, List.map_id]
namespace Dy
def nz (c : UInt8) : Bool := c != 0
theorem idx_some {l : List UInt8} {k : Nat} (h : Lib.indexByte l 0 = (k : Int)) : l.contains 0 = true ∧ l.takeWhile nz = l.take k ∧ k < l.length := by
  obtain ⟨h1, h2⟩ := Lib.indexByte_some h
  have hk := (List.getElem?_eq_some_iff.1 h1).1
  refine ⟨?_, ?_, hk⟩
  · rw [List.contains_iff_mem]; exact List.mem_of_getElem? h1
  · clear h
    induction l generalizing k with
    | nil => simp at hk
    | cons x r ih =>
      cases k with
      | zero =>
        obtain rfl : x = 0 := by simpa using h1
        rw [List.takeWhile_cons_of_neg (by decide)]; rfl
      | succ k =>
        have hx : x ≠ 0 := by have := h2 0 (by omega); simpa using this
        rw [List.takeWhile_cons_of_pos (by unfold nz; simpa using hx), List.take_succ_cons, ih (by simpa using h1) (fun j hj => by have := h2 (j + 1) (by omega); simpa using this) (by simpa using hk)]
theorem idx_none {l : List UInt8} (h : Lib.indexByte l 0 < 0) : l.contains 0 = false := by
  have hge := Lib.indexByte_ge l 0
  have h2 := Lib.indexByte_none (show Lib.indexByte l 0 = -1 by omega)
  rw [Bool.eq_false_iff]
  intro hc
  rw [List.contains_iff_mem] at hc
  obtain ⟨k, hk⟩ := List.getElem?_of_mem hc
  exact h2 k hk
theorem text_eq (t : List UInt8) (p : Nat) : text t p = if t.length ≤ p then none else if (t.drop p).contains 0 = true then some ⟨((t.drop p).takeWhile nz).toArray⟩ else none := rfl
end Dy
/-- bytes.Cut at the byte 0. -/
theorem dcut_any (b1 o1 n c d p2 B : Nat) (l : List UInt8) (w : World) (hr : Rd w B 1 (some ⟨b1, o1, none⟩) n (bys l)) (hz : w.cell? ⟨p2, 0, none⟩ = some (.int .u8 0)) (hnc : n ≤ c) (hn : n ≤ 4294967296) (hpos : 0 < n) :
    Calls Try.prog 60 #[.slice (some ⟨b1, o1, none⟩) n c, .slice (some ⟨p2, 0, none⟩) 1 d] w fun e w' => e = .returned (Lib.cutV (some ⟨b1, o1, none⟩) n c 1 (Lib.indexByte l 0)) ∧ ∃ q, w' = w.drewN q := by
  have hl : l.length = n := by simpa [bys] using hr.len1
  have hi := Try.bytes_Index_one b1 o1 n c p2 0 d (l.map fun c => ((c.toNat : Nat) : Int)) 0 w (by simpa using hl) (fun i hi => by
    obtain ⟨b, o, e, _, hc⟩ := hr.at_ (k := i) (u := .int .u8 ((l[i]'(by omega)).toNat : Nat)) (bys_at (List.getElem?_eq_getElem (by omega)))
    injection e with e
    injection e with e1 e2
    subst e1 e2
    rw [hc]
    simp [List.getD_eq_getElem?_getD, List.getElem?_eq_getElem (show i < l.length by omega)]) hz
  rw [bytesOf_ints] at hi
  have h0 : (0 : Int).toNat.toUInt8 = 0 := rfl
  rw [h0] at hi
  refine Try.bytes_Cut_of (some ⟨b1, o1, none⟩) (some ⟨p2, 0, none⟩) n c 1 d (Lib.indexByte l 0) w hnc (Lib.indexByte_ge l 0) (fun h => ?_) (by omega) (hi.mono fun e w' ⟨a, b⟩ => ⟨a, 0, by rw [b]; rfl⟩)
  obtain ⟨k, hk⟩ := Int.eq_ofNat_of_zero_le h
  have := (List.getElem?_eq_some_iff.1 (Lib.indexByte_some hk).1).1
  omega
/-- What text answers. -/
def TextE (t : Option ByteArray) (w : World) (e : Ending) (w' : World) : Prop :=
  ∃ s b, e = .returned (.tuple #[.string s, .bool b]) ∧ ((b = true ∧ t = some s) ∨ (b = false ∧ t = none)) ∧ Below w.heap.size w w'
set_option maxRecDepth 100000 in
set_option maxHeartbeats 1000000 in
theorem text_any (A : Option Addr) (m c B : Nat) (t : List UInt8) (p : Nat) (w : World) (hB : B ≤ w.heap.size) (hb : Rd w B 1 A m (bys t)) (hm : m ≤ 4294967296) (hmc : m ≤ c) (hp : p < 18446744073709551616) :
    Calls Try.prog 35 #[.slice A m c, .int .u64 p] w (TextE (Dy.text t p) w) := by
  have htl : t.length = m := by simpa [bys] using hb.len1
  rw [Dy.text_eq, htl]
  by_cases hpm : m ≤ p
  · rw [if_pos hpm]
    have g1 : (p : Int) ≥ (m : Int) := by omega
    have g2 : decide (m ≤ p) = true := by simpa using hpm
    clear hb htl
    go_enter Try.func35, Try.ntmps35
    go_wp2_with fail
    go_ret2
    exact ⟨_, _, rfl, .inr ⟨rfl, rfl⟩, Below.refl _ _⟩
  rw [if_neg hpm]
  obtain ⟨tx, htx⟩ : ∃ tx, (if (t.drop p).contains 0 = true then some (⟨((t.drop p).takeWhile Dy.nz).toArray⟩ : ByteArray) else none) = tx := ⟨_, rfl⟩
  rw [htx]
  have g2 : decide (m ≤ p) = false := by simpa using hpm
  have kf := fun w' => run_fromK (P := Try.prog) Try.underlying22 (e := 5) (by kernel_rfl) .u64 A m c p (by omega) w'
  have hr := hb.from_ (k := p) (by omega) hmc
  have hdr : (bys t).drop p = bys (t.drop p) := by unfold bys; rw [List.map_drop]
  rw [hdr] at hr
  obtain ⟨b1, o1, hA, _, _⟩ := hr.open_ (by intro e; have := hr.len1; rw [e] at this; simp at this; omega)
  rw [hA] at kf hr
  obtain ⟨l, hl⟩ : ∃ l, t.drop p = l := ⟨_, rfl⟩
  rw [hl] at hr htx
  obtain ⟨W, hW⟩ : ∃ W, w.alloc (.cells #[.int .u8 0] 5) = W := ⟨_, rfl⟩
  have hrW : Rd W B 1 (some ⟨b1, o1, none⟩) (m - p) (bys l) := by rw [← hW]; exact hr.alloc hB _
  have hz : W.cell? ⟨w.heap.size, 0, none⟩ = some (.int .u8 0) := by rw [← hW]; exact World.cell?_alloc_mark w #[.int .u8 0] 5 (0, 0) 0
  have hbel : Below w.heap.size w W := by rw [← hW]; exact (Below.refl _ _).alloc (Nat.le_refl _) _
  have K := dcut_any b1 o1 (m - p) (c - p) 1 w.heap.size B l W hrW hz (by omega) (by omega) (by omega)
  have hll : l.length = m - p := by simpa [bys] using hrW.len1
  have H2 : ∀ (k : Nat), Lib.indexByte l 0 = (k : Int) → tx = some ⟨(l.take k).toArray⟩ ∧ k < l.length := fun k h => by
    obtain ⟨a1, a2, a3⟩ := Dy.idx_some h
    rw [← htx, if_pos a1, a2]
    exact ⟨rfl, a3⟩
  have H3 : Lib.indexByte l 0 < 0 → tx = none := fun h => by rw [← htx, if_neg (by rw [Dy.idx_none h]; decide)]
  obtain ⟨ix, hix⟩ : ∃ i, Lib.indexByte l 0 = i := ⟨_, rfl⟩
  rw [hix] at K H2 H3
  have HK := hide K
  have HrW := hide hrW
  have HH2 := hide H2
  have HH3 := hide H3
  have Hbel := hide hbel
  have Hll := hide hll
  clear K hr hrW hz hA hdr hl hix H2 H3 hb htl hll hpm hbel htx
  go_enter Try.func35, Try.ntmps35
  go_wp2_with fail
  refine (unhide HK).mono ?_
  rintro e w2 ⟨rfl, q, rfl⟩
  unfold Lib.cutV
  by_cases hi : 0 ≤ ix
  · obtain ⟨k, rfl⟩ := Int.eq_ofNat_of_zero_le hi
    obtain ⟨htx, hkl⟩ := (unhide HH2) k rfl
    subst htx
    rw [if_pos hi]
    have hl2 := ((unhide HrW).to_ (k := k) (by have := unhide Hll; omega)).drewN q
    have e2 : (bys l).take k = bys (l.take k) := by unfold bys; rw [List.map_take]
    rw [e2] at hl2
    have hcv := fun (c' : Nat) => conv_any (c := c') hl2 Try.underlying22 Try.underlying5 Try.underlying9
    obtain ⟨x, hx⟩ : ∃ x, Lib.fromV (some ⟨b1, o1, none⟩) (m - p) (c - p) ((k : Int).toNat + 1) = x := ⟨_, rfl⟩
    rw [hx, Int.toNat_natCast]
    have Hb2 := hide (below_drewN' (unhide Hbel) q)
    generalize l.take k = lk at *
    clear hx hl2 e2 HH2 HH3 hi HK HrW
    go_wp2_with fail
    go_ret2
    exact ⟨_, _, rfl, .inl ⟨rfl, rfl⟩, unhide Hb2⟩
  · have htx := (unhide HH3) (by omega)
    subst htx
    rw [if_neg hi]
    have hcv := fun (c' : Nat) => conv_any (c := c') ((unhide HrW).drewN q) Try.underlying22 Try.underlying5 Try.underlying9
    have Hb2 := hide (below_drewN' (unhide Hbel) q)
    clear HH2 HH3 hi HK HrW
    go_wp2_with fail
    go_ret2
    exact ⟨_, _, rfl, .inr ⟨rfl, rfl⟩, unhide Hb2⟩
end Go.Proofs.Ytdminnhfgdoibaa
namespace Go.Proofs.Ytdminnhfgdoibaa
set_option linter.unusedVariables false
set_option linter.unusedSimpArgs false
open Go.RowKit

end Go.Proofs.Ytdminnhfgdoibaa
namespace Go.Proofs.Ytdminnhfgdoibaa
set_option linter.unusedVariables false
set_option linter.unusedSimpArgs false
open Go.RowKit

/-- A slice value that reads as these bytes. -/
abbrev u8s (b : List UInt8) : List Value := b.map fun c => .int .u8 c.toNat

theorem bytesIn_rd {w : World} {B n : Nat} {A : Option Addr} {b : List UInt8} (h : Rd w B 1 A n (u8s b)) : Lib.BytesIn w A n (b.map fun c => ((c.toNat : Nat) : Int)) := by
  intro hn
  have hl : b.length = n := by simpa using h.len1
  obtain ⟨b1, o1, e, _, hc⟩ := h.open_ (by intro e; rw [List.map_eq_nil_iff] at e; subst e; simp at hl; omega)
  refine ⟨b1, o1, e, fun i hi => hc i _ ?_⟩
  have hi' : i < b.length := by omega
  simp [List.getElem?_eq_getElem hi', List.getD_eq_getElem?_getD]
theorem bytesOf_map (b : List UInt8) : Lib.bytesOf (b.map fun c => ((c.toNat : Nat) : Int)) = b := by
  unfold Lib.bytesOf
  rw [List.map_map]
  have : ((fun n : Int => UInt8.ofNat n.toNat) ∘ fun c : UInt8 => ((c.toNat : Nat) : Int)) = id := by
    funext c
    simp
  rw [this, List.map_id]

/-- A contract with two ends: one Bool decides which. -/
def Or2 (c : Bool) (ok bad : Ending) (w : World) (e : Ending) (w' : World) : Prop := e = (if c then ok else bad) ∧ Below w.heap.size w w'

theorem magic_row (w : World) (fz : Nat × Nat) : Rd (w.alloc (.cells #[.int .u8 127, .int .u8 69, .int .u8 76, .int .u8 70, .int .u8 2, .int .u8 1, .int .u8 1] 5 fz)) (w.heap.size + 1) 1 (some ⟨w.heap.size, 0, none⟩) 7 (u8s El.magic) := Rd.rowF (size := 1) (n := 7) rfl

end Go.Proofs.Ytdminnhfgdoibaa
namespace Go.Proofs.Ytdminnhfgdoibaa
set_option linter.unusedVariables false
set_option linter.unusedSimpArgs false
open Go.RowKit

/-- A program header as a value. -/
def segVal (s : El.Sg) : Value := .agg #[.int .u32 s.kind, .int .u8 s.flags, .int .u64 s.off, .int .u64 s.addr, .int .u64 s.fsz, .int .u64 s.msz]

theorem segInfo : (Try.prog.info? 52).map (·.size) = some 6 := by kernel_rfl

theorem segOne (k fl o a f z : Int) : (#[.int .u32 k, .int .u8 fl, .int .u64 o, .int .u64 a, .int .u64 f, .int .u64 z] : Array Value).all (·.oneCell') = true := by simp [Value.oneCell']

end Go.Proofs.Ytdminnhfgdoibaa
namespace Go.Proofs.Ytdminnhfgdoibaa
set_option linter.unusedVariables false
set_option linter.unusedSimpArgs false
open Go.RowKit
section
variable {P : Program} {t e : TypeId} {size bytes : Nat}
/-- The same, the block's number spelt as the walk has it. -/
theorem wpList_app1g (T : SlTy P t e size bytes) {W : World} {ops : Array Oper} {rest : List Oper} {o : Oper} {a : Act} {Q : Exit → Act → World → Prop} (hgd : o.guard = none) (s x : Operand)
    (ho : o.op = .call { callee := .builtin .append, args := #[s, x], argTypes := #[t, t] })
    (base : Nat) (v : Value) (n : Nat) (xs : List Value) (hs : a.eval s = v) (hown : W.ownsRow base e size v n xs)
    (cs : Array Value) (g : Nat) (hx : a.eval x = .slice (some ⟨g, 0, none⟩) 1 1) (hg : g = W.heap.size) (hcs : cs.size = size) (h1 : ∀ u ∈ cs.toList, u.oneCell' = true)
    (hb : (n + 1) * bytes ≤ 140737488355328) (hbase : base ≤ W.heap.size)
    (h : ∀ A' c' w', w'.ownsRow base e size (.slice A' (n + 1) c') (n + 1) (xs ++ cs.toList) → W.grownBy w' v.ownBlock → (∀ k, (Value.slice A' (n + 1) c').ownBlock = some k → v.ownBlock = some k ∨ W.heap.size ≤ k) → wpList P ops Q rest (a.put o.dst (.slice A' (n + 1) c')) w') : wpList P ops Q (o :: rest) a (W.alloc (.cells cs e)) := by
  subst hg
  exact wpList_app1 T hgd s x ho base v n xs hs hown cs hx hcs h1 hb hbase h
end
end Go.Proofs.Ytdminnhfgdoibaa
namespace Go.Proofs.Ytdminnhfgdoibaa
set_option linter.unusedVariables false
set_option linter.unusedSimpArgs false
open Go.RowKit

def sgVals (s : El.Sg) : List Value := [.int .u32 s.kind, .int .u8 s.flags, .int .u64 s.off, .int .u64 s.addr, .int .u64 s.fsz, .int .u64 s.msz]
def segCells (l : List El.Sg) : List Value := l.flatMap sgVals
/-- The fields fit their kinds. -/
def SgFit (s : El.Sg) : Prop := s.kind < 4294967296 ∧ s.flags < 256 ∧ s.off < 18446744073709551616 ∧ s.addr < 18446744073709551616 ∧ s.fsz < 18446744073709551616 ∧ s.msz < 18446744073709551616

theorem segCells_len (l : List El.Sg) : (segCells l).length = l.length * 6 := by
  induction l with
  | nil => rfl
  | cons s r ih =>
    have : segCells (s :: r) = sgVals s ++ segCells r := rfl
    rw [this, List.length_append, ih, List.length_cons]
    simp [sgVals]
    omega
theorem segCells_at (l : List El.Sg) : ∀ (k : Nat) (s : El.Sg), l[k]? = some s → ∀ j, j < 6 → (segCells l)[k * 6 + j]? = (sgVals s)[j]? := by
  induction l with
  | nil => intro k s h; simp at h
  | cons a r ih =>
    intro k s h j hj
    have e : segCells (a :: r) = sgVals a ++ segCells r := rfl
    have hl : (sgVals a).length = 6 := rfl
    cases k with
    | zero =>
      simp at h
      subst h
      rw [e, List.getElem?_append_left (by omega)]
      congr 1
      omega
    | succ k =>
      simp at h
      rw [e, List.getElem?_append_right (by omega), hl, show (k + 1) * 6 + j - 6 = k * 6 + j from by omega]
      exact ih k s h j hj
theorem seg_at {w : World} {B n : Nat} {A : Option Addr} {l : List El.Sg} (h : Rd w B 6 A n (segCells l)) {k : Nat} {s : El.Sg} (hk : l[k]? = some s) :
    ∃ b off, A = some ⟨b, off, none⟩ ∧ b < B ∧ w.cell? ⟨b, off + k * 6, none⟩ = some (.int .u32 s.kind) ∧ w.cell? ⟨b, off + k * 6 + 1, none⟩ = some (.int .u8 s.flags) ∧ w.cell? ⟨b, off + k * 6 + 2, none⟩ = some (.int .u64 s.off) ∧
      w.cell? ⟨b, off + k * 6 + 3, none⟩ = some (.int .u64 s.addr) ∧ w.cell? ⟨b, off + k * 6 + 4, none⟩ = some (.int .u64 s.fsz) ∧ w.cell? ⟨b, off + k * 6 + 5, none⟩ = some (.int .u64 s.msz) := by
  have hc := segCells_at l k s hk
  obtain ⟨b, off, e, hb, hx⟩ := h.open_ (by
    intro e0
    have := hc 0 (by omega)
    rw [e0] at this
    simp [sgVals] at this)
  have key : ∀ j u, j < 6 → (sgVals s)[j]? = some u → w.cell? ⟨b, off + k * 6 + j, none⟩ = some u := fun j u hj hu => by
    have := hx (k * 6 + j) u ((hc j hj).trans hu)
    rwa [← Nat.add_assoc] at this
  exact ⟨b, off, e, hb, key 0 _ (by omega) rfl, key 1 _ (by omega) rfl, key 2 _ (by omega) rfl, key 3 _ (by omega) rfl, key 4 _ (by omega) rfl, key 5 _ (by omega) rfl⟩
theorem segCells_app (a b : List El.Sg) : segCells (a ++ b) = segCells a ++ segCells b := by simp [segCells]
theorem segCells_snoc (o : List El.Sg) (s : El.Sg) : segCells (o ++ [s]) = segCells o ++ [.int .u32 s.kind, .int .u8 s.flags, .int .u64 s.off, .int .u64 s.addr, .int .u64 s.fsz, .int .u64 s.msz] := by simp [segCells, sgVals]
theorem sgVals_one (s : El.Sg) : ∀ u ∈ sgVals s, u.oneCell' = true := by
  intro u hu
  simp [sgVals] at hu
  rcases hu with rfl | rfl | rfl | rfl | rfl | rfl <;> rfl

theorem segTy : SlTy Try.prog 25 52 6 40 := slTy_mk (z := .agg #[.int .u32 0, .int .u8 0, .int .u64 0, .int .u64 0, .int .u64 0, .int .u64 0]) Try.underlying25 (by kernel_rfl) rfl (by omega) (by omega)

set_option maxHeartbeats 1000000 in
theorem loads_any (A : Option Addr) (n c B : Nat) (l : List El.Sg) (ty en ph : Int) (w : World) (hB : B ≤ w.heap.size) (hl : Rd w B 6 A n (segCells l)) (hn : n ≤ 4294967296) :
    Calls Try.prog 71 #[.agg #[.int .u16 ty, .int .u64 en, .int .u64 ph, .slice A n c]] w fun e w' => ∃ A' c', e = .returned (.slice A' (El.loads l).length c') ∧
      w'.ownsRow w.heap.size 52 6 (.slice A' (El.loads l).length c') (El.loads l).length (segCells (El.loads l)) ∧ Below w.heap.size w w' := by
  have hln : l.length = n := by have := hl.1; rw [segCells_len] at this; omega
  have Hl := hide hl
  have Hln := hide hln
  clear hl hln
  go_enter Try.func71, Try.ntmps71
  go_wp2
  go_loopw [2, 8] (fun out i wr => ∃ (k : Nat) (A' : Option Addr) (c' : Nat) (o : List El.Sg), k ≤ n ∧ i = .int .i64 k ∧ out = .slice A' o.length c' ∧ o = El.loads (l.take k) ∧ o.length ≤ k ∧
    wr.ownsRow w.heap.size 52 6 (.slice A' o.length c') o.length (segCells o) ∧ Below w.heap.size w wr) (fun _ i _ => n - (intOf i).toNat)
  case atStart => exact ⟨0, none, 0, [], Nat.zero_le _, rfl, rfl, rfl, Nat.le_refl _, World.ownsRow_nil _ _ _ _, (Below.refl _ _).alloc (Nat.le_refl _) _⟩
  case round =>
    obtain ⟨k, A', c', o, hk, rfl, rfl, ho, hok, hown, hb⟩ := hrel
    have Ho := hide ho
    have hsz := hb.size
    clear ho
    by_cases hlt : k < n
    · obtain ⟨s, hs⟩ : ∃ s, l[k]? = some s := ⟨_, List.getElem?_eq_getElem (by rw [unhide Hln]; exact hlt)⟩
      obtain ⟨b1, o1, rfl, hbb, c0, c1, c2, c3, c4, c5⟩ := seg_at ((unhide Hl).below (hb.mono hB)) hs
      by_cases hc : s.kind = 1
      · have hbq : (((s.kind : Nat) : Int) == 1) = true := by rw [hc]; rfl
        have ho2 : o ++ [s] = El.loads (l.take (k + 1)) := by
          rw [List.take_add_one, hs, unhide Ho]
          simp [El.loads, El.isLoad, hc]
        have Ho2 := hide ho2
        clear ho2 hs hc
        go_wp2_with (at_builtin; refine wpList_app1g segTy rfl _ _ rfl w.heap.size (.slice A' o.length c') o.length (segCells o) rfl (hown.alloc _) #[.int .u32 s.kind, .int .u8 s.flags, .int .u64 s.off, .int .u64 s.addr, .int .u64 s.fsz, .int .u64 s.msz] _ rfl (by simp) rfl (sgVals_one s) (by omega) (by simp; omega) ?_; intro A2 c2 w1 hown' hgrow hat; have hb1 := hide ((hb.alloc hsz _).grown hgrow (by simp; omega) (fun k hk => (hown.lt k hk).1)); have Hown' := hide hown'; clear hgrow hat hown')
        go_roundw
        case rel =>
          refine ⟨k + 1, A2, c2, o ++ [s], by omega, by go_num, by simp, unhide Ho2, by simp; omega, ?_, unhide hb1⟩
          rw [segCells_snoc]
          simpa using unhide Hown'
        case measure => simp [intOf]; omega
      · have hbq : (((s.kind : Nat) : Int) == 1) = false := by simp; omega
        have ho2 : o = El.loads (l.take (k + 1)) := by
          rw [List.take_add_one, hs, unhide Ho]
          simp [El.loads, El.isLoad, hc]
        have Ho2 := hide ho2
        clear ho2 hs hc
        go_wp2
        go_roundw
        case rel => exact ⟨k + 1, A', c', o, by omega, by go_num, rfl, unhide Ho2, by omega, hown.alloc _, hb.alloc hsz _⟩
        case measure => simp [intOf]; omega
    · have ho2 : o = El.loads l := by
        have := unhide Ho
        rwa [List.take_of_length_le (by have := unhide Hln; omega)] at this
      have Ho2 := hide ho2
      clear ho2
      go_wp2
      go_ret
      rw [← unhide Ho2]
      exact ⟨A', c', rfl, hown, hb⟩

end Go.Proofs.Ytdminnhfgdoibaa
namespace Go.Proofs.Ytdminnhfgdoibaa
set_option linter.unusedVariables false
set_option linter.unusedSimpArgs false
open Go.RowKit

/-- Block g is a map with just these entries, in their order; no key stands twice. -/
structure MapG (w : World) (g : Nat) (d : TypeDesc) (m : List (Value × Value)) : Prop where
  there : ∃ es clk, w.heap[g]? = some (.map es clk) ∧ es.toList.map (fun e => (e.key, e.val)) = m
  keys : ∀ p ∈ m, Go.MapKept.IsKey d p.1
  once : m.Pairwise (fun p q => p.1 ≠ q.1)

section
variable {P : Program} {t kt e : TypeId} {d : TypeDesc} {w : World} {g : Nat} {m : List (Value × Value)} {x v : Value}
theorem findG_no (hx : Go.MapKept.IsKey d x) : ∀ (es : List MapEntry) (m : List (Value × Value)) (i : Nat), es.map (fun e => (e.key, e.val)) = m → (∀ p ∈ m, Go.MapKept.IsKey d p.1) → (∀ p ∈ m, p.1 ≠ x) → Instr.findNow d x es i = some none := by
  intro es
  induction es with
  | nil => intro m i h hk hn; rfl
  | cons e es ih =>
    intro m i h hk hn
    subst h
    simp only [List.map_cons, List.mem_cons, forall_eq_or_imp] at hk hn
    obtain ⟨r, hr, hiff⟩ := Go.MapKept.sameNow_of_keys hx hk.1
    have hrf : r = false := by
      cases r with
      | false => rfl
      | true => exact absurd (hiff.1 rfl).symm hn.1
    unfold Instr.findNow
    rw [hr, hrf]
    exact ih _ _ rfl hk.2 hn.2
theorem findG_yes (hx : Go.MapKept.IsKey d x) : ∀ (es : List MapEntry) (m : List (Value × Value)) (i : Nat), es.map (fun e => (e.key, e.val)) = m → (∀ p ∈ m, Go.MapKept.IsKey d p.1) → m.Pairwise (fun p q => p.1 ≠ q.1) → (x, v) ∈ m → ∃ j, Instr.findNow d x es i = some (some (j, v)) := by
  intro es
  induction es with
  | nil => intro m i h hk hp hm; subst h; cases hm
  | cons e es ih =>
    intro m i h hk hp hm
    subst h
    simp only [List.map_cons, List.mem_cons, forall_eq_or_imp] at hk hm
    rw [List.map_cons, List.pairwise_cons] at hp
    obtain ⟨r, hr, hiff⟩ := Go.MapKept.sameNow_of_keys hx hk.1
    unfold Instr.findNow
    rw [hr]
    rcases hm with hm | hm
    · injection hm with h1 h2
      rw [hiff.2 h1]
      exact ⟨i, by rw [h2]⟩
    · have hrf : r = false := by
        cases r with
        | false => rfl
        | true => exact absurd (hiff.1 rfl).symm (hp.1 _ hm)
      rw [hrf]
      exact ih _ _ rfl hk.2 hp.2 hm
theorem run_putG (ht : P.underlying t = some (.map kt e)) (hk : P.underlying kt = some d) (hik : Go.MapKept.IsKey d x) (h : MapG w g d m) (hx : ∀ p ∈ m, p.1 ≠ x) :
    ∃ w', (Instr.mapUpdate t (.map (some g)) x v).run P w = .ok () w' ∧ MapG w' g d (m ++ [(x, v)]) ∧ w.grownBy w' (some g) ∧ w'.heap.size = w.heap.size := by
  obtain ⟨⟨es, clk, hg, hm⟩, hks, hone⟩ := h
  have hr := findG_no hik es.toList m 0 hm hks hx
  have hlt : g < w.heap.size := (Array.getElem?_eq_some_iff.1 hg).1
  refine ⟨{ w with heap := w.heap.setIfInBounds g (.map (es.push { key := x, val := v, born := clk }) (clk + 1)) }, ?_, ⟨?_, ?_, ?_⟩, ?_, by simp⟩
  · simp [Instr.mapUpdate, run_underlying ht, Go.MapKept.run_getObj_map hg, Go.MapKept.run_checkKey hk hik, Go.MapKept.run_findKey hk hr, Go.MapKept.run_setObj_map _ hg, Result.andThen]
  · refine ⟨_, _, (Go.MapKept.heap_set hg).1, ?_⟩
    simp [hm]
  · intro p hp
    rcases List.mem_append.1 hp with hp | hp
    · exact hks p hp
    · rw [List.mem_singleton] at hp
      subst hp
      exact hik
  · rw [List.pairwise_append]
    refine ⟨hone, by simp, fun a ha b hb => ?_⟩
    rw [List.mem_singleton] at hb
    subst hb
    exact hx a ha
  · exact ⟨rfl, rfl, rfl, by simp, fun i _ hi => (Go.MapKept.heap_set hg).2 i (fun e => hi (by rw [e]))⟩
theorem run_lookG_yes (ht : P.underlying t = some (.map kt e)) (hk : P.underlying kt = some d) (hik : Go.MapKept.IsKey d x) (h : MapG w g d m) (hx : (x, v) ∈ m) :
    (Instr.lookup t (.map (some g)) x true).run P w = .ok (.tuple #[v, .bool true]) w ∧ (Instr.lookup t (.map (some g)) x false).run P w = .ok v w := by
  obtain ⟨⟨es, clk, hg, hm⟩, hks, hone⟩ := h
  obtain ⟨j, hr⟩ := findG_yes hik es.toList m 0 hm hks hone hx
  constructor <;> simp [Instr.lookup, run_underlying ht, Go.MapKept.run_getObj_map hg, Go.MapKept.run_checkKey hk hik, Go.MapKept.run_findKey hk hr, Result.andThen]
theorem run_lookG_no (ht : P.underlying t = some (.map kt e)) (hk : P.underlying kt = some d) (hik : Go.MapKept.IsKey d x) {z : Value} (hz : (zeroValue e).run P w = .ok z w) (h : MapG w g d m) (hx : ∀ p ∈ m, p.1 ≠ x) :
    (Instr.lookup t (.map (some g)) x true).run P w = .ok (.tuple #[z, .bool false]) w ∧ (Instr.lookup t (.map (some g)) x false).run P w = .ok z w := by
  obtain ⟨⟨es, clk, hg, hm⟩, hks, hone⟩ := h
  have hr := findG_no hik es.toList m 0 hm hks hx
  constructor <;> simp [Instr.lookup, run_underlying ht, Go.MapKept.run_getObj_map hg, Go.MapKept.run_checkKey hk hik, Go.MapKept.run_findKey hk hr, hz, Result.andThen]
theorem MapG.nil (w : World) (d : TypeDesc) : MapG (w.alloc (.map #[] 0)) w.heap.size d [] := ⟨⟨#[], 0, heap_alloc_new _ _, rfl⟩, by simp, by simp⟩
theorem MapG.keep {w' : World} (h : MapG w g d m) (hk : w'.heap[g]? = w.heap[g]?) : MapG w' g d m := by
  obtain ⟨⟨es, clk, hg, hm⟩, hks, hone⟩ := h
  exact ⟨⟨es, clk, hk.trans hg, hm⟩, hks, hone⟩
theorem MapG.lt (h : MapG w g d m) : g < w.heap.size := by
  obtain ⟨⟨es, clk, hg, hm⟩, hks, hone⟩ := h
  exact (Array.getElem?_eq_some_iff.1 hg).1
theorem MapG.below {w' : World} {B : Nat} (h : MapG w g d m) (hb : Below B w w') (hg : g < B) : MapG w' g d m := h.keep (hb.block g hg)
theorem MapG.belowSz {w' : World} (h : MapG w g d m) (hb : Below w.heap.size w w') : MapG w' g d m := h.below hb h.lt

/-- 'm[x] = v' of a new key at the operation (a map literal). -/
theorem wpList_putG {ops : Array Oper} {rest : List Oper} {o : Oper} {a : Act} {Q : Exit → Act → World → Prop} (hgd : o.guard = none) (mo xo vo : Operand) (ho : o.op = .insert t mo xo vo)
    (ht : P.underlying t = some (.map kt e)) (hk : P.underlying kt = some d) (hik : Go.MapKept.IsKey d x) (hmo : a.eval mo = .map (some g)) (hxo : a.eval xo = x) (hvo : a.eval vo = v) (h : MapG w g d m) (hx : ∀ p ∈ m, p.1 ≠ x)
    (hK : ∀ w', MapG w' g d (m ++ [(x, v)]) → w.grownBy w' (some g) → w'.heap.size = w.heap.size → wpList P ops Q rest (a.put o.dst undef) w') : wpList P ops Q (o :: rest) a w := by
  obtain ⟨w', hrun, h1, h2, h3⟩ := run_putG (v := v) ht hk hik h hx
  refine wpList_plain hgd fun K hK' => ?_
  unfold Oper.wp
  simp [execOp, ho, hmo, hxo, hvo, hrun, Result.andThen]
  exact hK' _ _ (hK w' h1 h2 h3)
end
end Go.Proofs.Ytdminnhfgdoibaa
namespace Go.Proofs.Ytdminnhfgdoibaa
set_option linter.unusedVariables false
set_option linter.unusedSimpArgs false
open Go.RowKit

/-- Block g is a map with just these entries, in their order; no key stands twice; no stamp stands twice, and all are below the clock. -/
structure MapB (w : World) (g : Nat) (d : TypeDesc) (m : List (Value × Value)) : Prop where
  there : ∃ es clk, w.heap[g]? = some (.map es clk) ∧ es.toList.map (fun e => (e.key, e.val)) = m ∧ (∀ x ∈ es.toList, x.born < clk) ∧ (es.toList.map (·.born)).Nodup
  keys : ∀ p ∈ m, Go.MapKept.IsKey d p.1
  once : m.Pairwise (fun p q => p.1 ≠ q.1)
section
variable {P : Program} {t kt e : TypeId} {d : TypeDesc} {w : World} {g : Nat} {m : List (Value × Value)} {x v : Value}
theorem MapB.toG (h : MapB w g d m) : MapG w g d m := by
  obtain ⟨⟨es, clk, h1, h2, _⟩, h3, h4⟩ := h
  exact ⟨⟨es, clk, h1, h2⟩, h3, h4⟩
theorem MapB.nil (w : World) (d : TypeDesc) : MapB (w.alloc (.map #[] 0)) w.heap.size d [] := ⟨⟨#[], 0, heap_alloc_new _ _, rfl, by simp, by simp⟩, by simp, by simp⟩
theorem MapB.keep {w' : World} (h : MapB w g d m) (hk : w'.heap[g]? = w.heap[g]?) : MapB w' g d m := by
  obtain ⟨⟨es, clk, h1, r⟩, h3, h4⟩ := h
  exact ⟨⟨es, clk, hk.trans h1, r⟩, h3, h4⟩
theorem MapB.lt (h : MapB w g d m) : g < w.heap.size := h.toG.lt
theorem MapB.below {w' : World} {B : Nat} (h : MapB w g d m) (hb : Below B w w') (hg : g < B) : MapB w' g d m := h.keep (hb.block g hg)
theorem MapB.belowSz {w' : World} (h : MapB w g d m) (hb : Below w.heap.size w w') : MapB w' g d m := h.below hb h.lt
theorem run_putB (ht : P.underlying t = some (.map kt e)) (hk : P.underlying kt = some d) (hik : Go.MapKept.IsKey d x) (h : MapB w g d m) (hx : ∀ p ∈ m, p.1 ≠ x) :
    ∃ w', (Instr.mapUpdate t (.map (some g)) x v).run P w = .ok () w' ∧ MapB w' g d (m ++ [(x, v)]) ∧ w.grownBy w' (some g) ∧ w'.heap.size = w.heap.size := by
  obtain ⟨⟨es, clk, hg, hm, hb, hn⟩, hks, hone⟩ := h
  have hr := findG_no hik es.toList m 0 hm hks hx
  have hlt : g < w.heap.size := (Array.getElem?_eq_some_iff.1 hg).1
  refine ⟨{ w with heap := w.heap.setIfInBounds g (.map (es.push { key := x, val := v, born := clk }) (clk + 1)) }, ?_, ⟨?_, ?_, ?_⟩, ?_, by simp⟩
  · simp [Instr.mapUpdate, run_underlying ht, Go.MapKept.run_getObj_map hg, Go.MapKept.run_checkKey hk hik, Go.MapKept.run_findKey hk hr, Go.MapKept.run_setObj_map _ hg, Result.andThen]
  · refine ⟨_, _, (Go.MapKept.heap_set hg).1, ?_, ?_, ?_⟩
    · simp [hm]
    · intro y hy
      simp only [Array.toList_push, List.mem_append, List.mem_singleton] at hy
      rcases hy with hy | hy
      · have := hb y hy; omega
      · subst hy; simp
    · rw [Array.toList_push, List.map_append, List.nodup_append]
      refine ⟨hn, by simp, ?_⟩
      intro a ha b hb2
      obtain ⟨y, hy, rfl⟩ := List.mem_map.1 ha
      simp at hb2
      subst hb2
      have := hb y hy
      omega
  · intro p hp
    rcases List.mem_append.1 hp with hp | hp
    · exact hks p hp
    · rw [List.mem_singleton] at hp
      subst hp
      exact hik
  · rw [List.pairwise_append]
    refine ⟨hone, by simp, fun a ha b hb => ?_⟩
    rw [List.mem_singleton] at hb
    subst hb
    exact hx a ha
  · exact ⟨rfl, rfl, rfl, by simp, fun i _ hi => (Go.MapKept.heap_set hg).2 i (fun e => hi (by rw [e]))⟩
theorem run_lookB_yes (ht : P.underlying t = some (.map kt e)) (hk : P.underlying kt = some d) (hik : Go.MapKept.IsKey d x) (h : MapB w g d m) (hx : (x, v) ∈ m) :
    (Instr.lookup t (.map (some g)) x true).run P w = .ok (.tuple #[v, .bool true]) w ∧ (Instr.lookup t (.map (some g)) x false).run P w = .ok v w := run_lookG_yes ht hk hik h.toG hx
theorem run_lookB_no (ht : P.underlying t = some (.map kt e)) (hk : P.underlying kt = some d) (hik : Go.MapKept.IsKey d x) {z : Value} (hz : (zeroValue e).run P w = .ok z w) (h : MapB w g d m) (hx : ∀ p ∈ m, p.1 ≠ x) :
    (Instr.lookup t (.map (some g)) x true).run P w = .ok (.tuple #[z, .bool false]) w ∧ (Instr.lookup t (.map (some g)) x false).run P w = .ok z w := run_lookG_no ht hk hik hz h.toG hx
/-- 'm[x] = v' of a new key, at an operation that inserts or updates. -/
theorem wpList_insB {ops : Array Oper} {rest : List Oper} {o : Oper} {a : Act} {Q : Exit → Act → World → Prop} (hgd : o.guard = none) (mo xo vo : Operand) (ho : o.op = .insert t mo xo vo)
    (ht : P.underlying t = some (.map kt e)) (hk : P.underlying kt = some d) (hik : Go.MapKept.IsKey d x) (hmo : a.eval mo = .map (some g)) (hxo : a.eval xo = x) (hvo : a.eval vo = v) (h : MapB w g d m) (hx : ∀ p ∈ m, p.1 ≠ x)
    (hK : ∀ w', MapB w' g d (m ++ [(x, v)]) → w.grownBy w' (some g) → w'.heap.size = w.heap.size → wpList P ops Q rest (a.put o.dst undef) w') : wpList P ops Q (o :: rest) a w := by
  obtain ⟨w', hrun, h1, h2, h3⟩ := run_putB (v := v) ht hk hik h hx
  refine wpList_plain hgd fun K hK' => ?_
  unfold Oper.wp
  simp [execOp, ho, hmo, hxo, hvo, hrun, Result.andThen]
  exact hK' _ _ (hK w' h1 h2 h3)
/-- The same, of constants. -/
theorem wpList_insC {ops : Array Oper} {rest : List Oper} {o : Oper} {a : Act} {Q : Exit → Act → World → Prop} (hgd : o.guard = none) (mo : Operand) (x v : Value) (ho : o.op = .insert t mo (.const x) (.const v)) (hdst : o.dst = none)
    (ht : P.underlying t = some (.map kt e)) (hk : P.underlying kt = some d) (hmo : a.eval mo = .map (some g)) (hik : Go.MapKept.IsKey d x) (h : MapB w g d m) (hx : ∀ p ∈ m, p.1 ≠ x)
    (hK : ∀ w', MapB w' g d (m ++ [(x, v)]) → w.grownBy w' (some g) → w'.heap.size = w.heap.size → wpList P ops Q rest a w') : wpList P ops Q (o :: rest) a w :=
  wpList_insB hgd mo (.const x) (.const v) ho ht hk hik hmo rfl rfl h hx (by rw [hdst]; exact hK)
theorem wpList_updB {ops : Array Oper} {rest : List Oper} {o : Oper} {a : Act} {Q : Exit → Act → World → Prop} (hgd : o.guard = none) (mo xo vo : Operand) (ho : o.op = .mapUpdate t mo xo vo)
    (ht : P.underlying t = some (.map kt e)) (hk : P.underlying kt = some d) (hik : Go.MapKept.IsKey d x) (hmo : a.eval mo = .map (some g)) (hxo : a.eval xo = x) (hvo : a.eval vo = v) (h : MapB w g d m) (hx : ∀ p ∈ m, p.1 ≠ x)
    (hK : ∀ w', MapB w' g d (m ++ [(x, v)]) → w.grownBy w' (some g) → w'.heap.size = w.heap.size → wpList P ops Q rest (a.put o.dst undef) w') : wpList P ops Q (o :: rest) a w := by
  obtain ⟨w', hrun, h1, h2, h3⟩ := run_putB (v := v) ht hk hik h hx
  refine wpList_plain hgd fun K hK' => ?_
  unfold Oper.wp
  simp [execOp, ho, hmo, hxo, hvo, hrun, Result.andThen]
  exact hK' _ _ (hK w' h1 h2 h3)
end
end Go.Proofs.Ytdminnhfgdoibaa
namespace Go.Proofs.Ytdminnhfgdoibaa
set_option linter.unusedVariables false
set_option linter.unusedSimpArgs false
open Go.RowKit

/-- Block g holds just these cells. -/
def Blk (w : World) (g : Nat) (t : TypeId) (l : List Value) : Prop := w.heap[g]? = some (.cells l.toArray t (0, 0))
section
variable {w w' : World} {g g' B i : Nat} {t : TypeId} {l : List Value} {u : Value}
theorem Blk.cell (h : Blk w g t l) (hi : l[i]? = some u) : w.cell? ⟨g, i, none⟩ = some u := by
  rw [cell_of_row _ _ _ _ _ _ h]
  simpa using hi
theorem Blk.free (h : Blk w g t l) (i : Nat) : w.frozen? ⟨g, i, none⟩ = false := frozen_of_row _ _ _ _ _ h
theorem Blk.set (h : Blk w g t l) (i : Nat) (u : Value) : Blk (w.setCell ⟨g, i, none⟩ u) g t (l.set i u) := by
  have h1 := heap_setCell_same _ _ i _ _ u h
  unfold Blk
  rw [h1]
  simp [List.setIfInBounds_toArray]
theorem Blk.below (h : Blk w g t l) (hb : Below B w w') (hg : g < B) : Blk w' g t l := (hb.block g hg).trans h
theorem Blk.lt (h : Blk w g t l) : g < w.heap.size := lt_of_block h
theorem Blk.belowSz (h : Blk w g t l) (hb : Below w.heap.size w w') : Blk w' g t l := h.below hb h.lt
theorem Blk.drewN (h : Blk w g t l) (k : Nat) : Blk (w.drewN k) g t l := h
theorem Blk.drew (h : Blk w g t l) : Blk w.drew g t l := h
theorem Blk.alloc (h : Blk w g t l) (o : Obj) : Blk (w.alloc o) g t l := h.belowSz ((Below.refl _ _).alloc (Nat.le_refl _) o)
theorem Blk.new (w : World) (t : TypeId) (l : List Value) : Blk (w.alloc (.cells l.toArray t)) w.heap.size t l := heap_alloc_new _ _
theorem Blk.other (h : Blk w g t l) {p : Addr} (hp : p.block ≠ g) (u : Value) : Blk (w.setCell p u) g t l := (heap_setCell_other _ _ _ _ hp.symm).trans h
end
end Go.Proofs.Ytdminnhfgdoibaa
namespace Go.Proofs.Ytdminnhfgdoibaa
theorem own_cap {w : World} {base : Nat} {e : TypeId} {size n c : Nat} {A : Option Addr} {xs : List Value} (h : w.ownsRow base e size (.slice A n c) n xs) : n ≤ c := by
  rcases h.2 with ⟨h0, h1⟩ | ⟨g, cap, cur, hv, hb, hg, hnc, _⟩
  · omega
  · injection hv with _ _ h3
    omega
end Go.Proofs.Ytdminnhfgdoibaa
namespace Go.Proofs.Ytdminnhfgdoibaa
set_option linter.unusedVariables false
set_option linter.unusedSimpArgs false
open Go.RowKit

/-- What a section's block says. -/
structure Ds where
  Ab : Option Addr
  m : Nat
  cb : Nat
  b : List UInt8
  ty : Int
  en : Int
  ph : Int
  As : Option Addr
  n : Nat
  c : Nat
  segs : List El.Sg
  Al : Option Addr
  k : Nat
  cl : Nat
  L : List (Nat × Nat)
  gm : Nat
def entC (l : List (Nat × Nat)) : List Value := l.flatMap fun e => [.int .u64 (e.1 : Nat), .int .u64 (e.2 : Nat)]
/-- The entries that the map of tags holds. -/
def Dy.tagsV (l : List (Nat × Nat)) : List (Value × Value) := (l.filter fun e => Dy.once e.1).map fun e => (.int .u64 (e.1 : Nat), .int .u64 (e.2 : Nat))
structure DsM (w : World) (B g : Nat) (d : Ds) (T : List (Nat × Nat)) : Prop where
  hB : B ≤ g
  blk : Blk w g 110 [.slice d.Ab d.m d.cb, .int .u16 d.ty, .int .u64 d.en, .int .u64 d.ph, .slice d.As d.n d.c, .slice d.Al d.k d.cl, .map (some d.gm)]
  b : Rd w B 1 d.Ab d.m (bys d.b)
  segs : Rd w B 6 d.As d.n (segCells d.segs)
  list : w.ownsRow B 114 2 (.slice d.Al d.k d.cl) d.k (entC d.L)
  tags : MapB w d.gm (.int .u64) (Dy.tagsV T)
  tagsB : B ≤ d.gm
/-- What holds of the numbers. -/
structure DsOk (d : Ds) : Prop where
  m : d.m ≤ 4294967296
  mc : d.m ≤ d.cb
  n : d.n ≤ 4294967296
  fit : ∀ s ∈ d.segs, SgFit s
  ent : ∀ e ∈ d.L, e.1 < 18446744073709551616 ∧ e.2 < 18446744073709551616
section
variable {w w' : World} {B g : Nat} {d : Ds} {T : List (Nat × Nat)}
theorem DsM.belowSz (h : DsM w B g d T) (hb : Below w.heap.size w w') : DsM w' B g d T :=
  ⟨h.hB, h.blk.belowSz hb, h.b.below (hb.mono (Nat.le_trans h.hB (Nat.le_of_lt h.blk.lt))), h.segs.below (hb.mono (Nat.le_trans h.hB (Nat.le_of_lt h.blk.lt))), own_below h.list hb, h.tags.belowSz hb, h.tagsB⟩
theorem DsM.sz (h : DsM w B g d T) : B ≤ w.heap.size := Nat.le_trans h.hB (Nat.le_of_lt h.blk.lt)
theorem DsM.drewN (h : DsM w B g d T) (j : Nat) : DsM (w.drewN j) B g d T := h.belowSz (below_drewN' (Below.refl _ _) j)
theorem DsM.cells (h : DsM w B g d T) : w.cell? ⟨g, 0, none⟩ = some (.slice d.Ab d.m d.cb) ∧ w.cell? ⟨g, 1, none⟩ = some (.int .u16 d.ty) ∧ w.cell? ⟨g, 2, none⟩ = some (.int .u64 d.en) ∧ w.cell? ⟨g, 3, none⟩ = some (.int .u64 d.ph) ∧ w.cell? ⟨g, 4, none⟩ = some (.slice d.As d.n d.c) ∧ w.cell? ⟨g, 5, none⟩ = some (.slice d.Al d.k d.cl) ∧ w.cell? ⟨g, 6, none⟩ = some (.map (some d.gm)) :=
  ⟨h.blk.cell rfl, h.blk.cell rfl, h.blk.cell rfl, h.blk.cell rfl, h.blk.cell rfl, h.blk.cell rfl, h.blk.cell rfl⟩
end
namespace Dy
def laidP (addr size : Nat) (s : El.Sg) : Bool := decide (s.addr ≤ addr) && decide (addr - s.addr + size ≤ s.fsz)
/-- Where a segment lays it. -/
def laidAt (n : Nat) (s : El.Sg) (addr size : Nat) : Option Nat := if s.off + (addr - s.addr) < 18446744073709551616 ∧ s.off + (addr - s.addr) + size ≤ n then some (s.off + (addr - s.addr)) else none
theorem laid_eq (n : Nat) (l : List El.Sg) (addr size : Nat) : laid n l addr size = match l.find? (laidP addr size) with
    | none => none
    | some s => laidAt n s addr size := rfl
theorem laid_cons (n : Nat) (s : El.Sg) (r : List El.Sg) (addr size : Nat) : laid n (s :: r) addr size = if laidP addr size s = true then laidAt n s addr size else laid n r addr size := by
  rw [laid_eq, laid_eq, List.find?_cons]
  cases laidP addr size s <;> rfl
theorem laid_in {n : Nat} {l : List El.Sg} {addr size off : Nat} (h : laid n l addr size = some off) : off + size ≤ n ∧ off < 18446744073709551616 := by
  induction l with
  | nil => cases h
  | cons s r ih =>
    rw [laid_cons] at h
    split at h
    · unfold laidAt at h
      split at h
      · next h2 => injection h with h; subst h; exact ⟨h2.2, h2.1⟩
      · cases h
    · exact ih h
end Dy
/-- What laid answers. -/
def LaidE (o : Option Nat) (size B : Nat) (b : List UInt8) (w : World) (e : Ending) (w' : World) : Prop :=
  ((o = none ∧ e = .returned (.tuple #[.slice none 0 0, .bool false])) ∨ ∃ off A' c', o = some off ∧ e = .returned (.tuple #[.slice A' size c', .bool true]) ∧ Rd w' B 1 A' size (bys (Dy.cut b off size)) ∧ size ≤ c') ∧ Below w.heap.size w w'

set_option maxRecDepth 100000 in
set_option maxHeartbeats 4000000 in
theorem laid_any (B g : Nat) (d : Ds) (T : List (Nat × Nat)) (addr size : Nat) (w : World) (hd : DsM w B g d T) (ho : DsOk d) (ha : addr < 18446744073709551616) (hs : size < 18446744073709551616) :
    Calls Try.prog 54 #[.pointer (some ⟨g, 0, none⟩), .int .u64 addr, .int .u64 size] w (LaidE (Dy.laid d.m (El.loads d.segs) addr size) size B d.b w) := by
  obtain ⟨x0, x1, x2, x3, x4, -, -⟩ := hd.cells
  have KL := loads_any d.As d.n d.c w.heap.size d.segs d.ty d.en d.ph w (Nat.le_refl _) (hd.segs.more hd.sz) ho.n
  obtain ⟨R, hR⟩ : ∃ R, Dy.laid d.m (El.loads d.segs) addr size = R := ⟨_, rfl⟩
  rw [hR]
  have hfit : ∀ s ∈ El.loads d.segs, SgFit s := fun s hm => ho.fit s (List.mem_filter.1 hm).1
  have hll : (El.loads d.segs).length ≤ 4294967296 := by
    have h1 : (El.loads d.segs).length ≤ d.segs.length := List.length_filter_le _ _
    have h2 := hd.segs.1
    rw [segCells_len] at h2
    have := ho.n
    omega
  obtain ⟨ls, hls⟩ : ∃ l, El.loads d.segs = l := ⟨_, rfl⟩
  rw [hls] at KL hR hfit hll
  have hm := ho.m
  have hmc := ho.mc
  have hbd := hd.b
  have hszB := hd.sz
  have kf := fun (w' : World) (j : Nat) (h : j ≤ d.m) (k : Nat) (h2 : k ≤ j) => run_fromToK (P := Try.prog) Try.underlying22 (e := 5) (by kernel_rfl) .u64 .u64 d.Ab d.m d.cb k j h2 (Nat.le_trans h hmc) w'
  obtain ⟨Ab, m, cb, b, ty, en, ph, As, n, c, segs, Al, k0, cl, L, gm⟩ := d
  dsimp only at *
  have HKL := hide KL
  have HR := hide hR
  have Hfit := hide hfit
  have Hbd := hide hbd
  have Hkf := hide kf
  have hdb := hd.blk
  have Hdb := hide hdb
  clear KL hR hfit hbd kf hd ho hls hdb
  go_enter Try.func54, Try.ntmps54
  go_wp2_with fail
  refine (unhide HKL).mono ?_
  rintro e w1 ⟨A1, c1, rfl, ho1, hb1⟩
  have Hb1 := hide hb1
  have Hr1 := hide (Rd.of_own ho1)
  obtain ⟨kk, hkk⟩ : ∃ k, ls.length = k := ⟨_, rfl⟩
  rw [hkk] at hll Hr1 ⊢
  have Hkk := hide hkk
  clear hb1 ho1 hkk x0 x1 x2 x3 x4 HKL
  go_wp2_with fail
  go_loopg [18] kk (fun gk iv wr => ∃ j : Nat, gk = kk - j ∧ j ≤ kk ∧ iv = .int .i64 j ∧ Dy.laid m (ls.drop j) addr size = R ∧ Below w1.heap.size w1 wr)
  case atStart => exact ⟨0, by omega, Nat.zero_le _, rfl, by simpa using unhide HR, Below.refl _ _⟩
  case round =>
  obtain ⟨j, hgk, hj, rfl, hlj, hbr⟩ := hrel
  have Hgk := hide hgk
  have Hlj := hide hlj
  have Hbr := hide hbr
  clear hgk hlj hbr HR
  by_cases hlt : j < kk
  case neg =>
    have h0 := unhide Hlj
    rw [List.drop_of_length_le (by rw [unhide Hkk]; omega)] at h0
    have h0 : R = none := by rw [← h0]; rfl
    subst h0
    have ige : ¬ (j : Int) < (kk : Int) := by omega
    go_wp2_with fail
    go_ret2
    exact ⟨.inl ⟨rfl, rfl⟩, (unhide Hb1).trans ((unhide Hbr).mono (unhide Hb1).size)⟩
  obtain ⟨s, hsj⟩ : ∃ s, ls[j]? = some s := ⟨_, List.getElem?_eq_getElem (by rw [unhide Hkk]; exact hlt)⟩
  obtain ⟨hf0, hf1, hf2, hf3, hf4, hf5⟩ := (unhide Hfit) s (List.mem_of_getElem? hsj)
  obtain ⟨b1, o1, hA1, hbb, c0, c1, c2, c3, c4, c5⟩ := seg_at ((unhide Hr1).below (unhide Hbr)) hsj
  subst hA1
  have hlj := unhide Hlj
  rw [List.drop_eq_getElem_cons (by rw [unhide Hkk]; exact hlt), show ls[j]'(by rw [unhide Hkk]; exact hlt) = s from (List.getElem?_eq_some_iff.1 hsj).2, Dy.laid_cons] at hlj
  have hB2 : Blk (wr.alloc (.cells #[.int .u32 (s.kind : Nat), .int .u8 (s.flags : Nat), .int .u64 (s.off : Nat), .int .u64 (s.addr : Nat), .int .u64 (s.fsz : Nat), .int .u64 (s.msz : Nat)] 52)) wr.heap.size 52 [.int .u32 (s.kind : Nat), .int .u8 (s.flags : Nat), .int .u64 (s.off : Nat), .int .u64 (s.addr : Nat), .int .u64 (s.fsz : Nat), .int .u64 (s.msz : Nat)] := Blk.new wr 52 [.int .u32 (s.kind : Nat), .int .u8 (s.flags : Nat), .int .u64 (s.off : Nat), .int .u64 (s.addr : Nat), .int .u64 (s.fsz : Nat), .int .u64 (s.msz : Nat)]
  have HB2 := hide hB2
  clear hB2
  have Hb2 := hide ((unhide Hbr).alloc (unhide Hbr).size (.cells #[.int .u32 (s.kind : Nat), .int .u8 (s.flags : Nat), .int .u64 (s.off : Nat), .int .u64 (s.addr : Nat), .int .u64 (s.fsz : Nat), .int .u64 (s.msz : Nat)] 52))
  have KI := fun w' (h : s.addr ≤ addr) => inside_any ((addr : Int) - (s.addr : Int)) size s.fsz w' (by omega) (by omega) (by omega) (by omega) (by omega)
  have ilt : (j : Int) < (kk : Int) := by omega
  by_cases ha2 : s.addr ≤ addr
  case neg =>
    have hno : ¬ Dy.laidP addr size s = true := by unfold Dy.laidP; simp; omega
    rw [if_neg hno] at hlj
    have Hlj2 := hide hlj
    have g1 : decide (addr < s.addr) = true := by simp; omega
    clear hlj hno KI ha2 Hlj
    go_wp2_with fail
    go_roundg (kk - (j + 1))
    case measure => have := unhide Hgk; omega
    case rel => exact ⟨j + 1, rfl, by omega, by go_num, unhide Hlj2, unhide Hb2⟩
  have g1 : decide (addr < s.addr) = false := by simp; omega
  have KI1 := fun w' => KI w' ha2
  obtain ⟨ib, hib⟩ : ∃ b, decide ((addr : Int) - (s.addr : Int) + (size : Int) ≤ (s.fsz : Int)) = b := ⟨_, rfl⟩
  rw [hib] at KI1
  have hpl : Dy.laidP addr size s = ib := by
    rw [← hib]
    unfold Dy.laidP
    rw [decide_eq_true ha2, Bool.true_and, decide_eq_decide]
    omega
  rw [hpl] at hlj
  have HKI := hide KI1
  have Hlj2 := hide hlj
  have ha3 : (s.addr : Int) ≤ (addr : Int) := by omega
  clear KI KI1 hib hpl hlj Hlj
  cases ib with
  | false =>
    have hlj := unhide Hlj2
    rw [if_neg (by decide)] at hlj
    have Hlj3 := hide hlj
    clear hlj Hlj2
    go_wp2_with fail
    refine ((unhide HKI) _).mono ?_
    rintro e w2 ⟨rfl, rfl⟩
    go_wp2_with fail
    go_roundg (kk - (j + 1))
    case measure => have := unhide Hgk; omega
    case rel => exact ⟨j + 1, rfl, by omega, by go_num, unhide Hlj3, unhide Hb2⟩
  | true =>
  have hlj := unhide Hlj2
  rw [if_pos rfl] at hlj
  unfold Dy.laidAt at hlj
  have Hlj3 := hide hlj
  have hda := (unhide Hdb).belowSz ((unhide Hb1).trans ((unhide Hb2).mono (unhide Hb1).size))
  have HD2 := hide hda
  obtain ⟨z0, z1, z2, z3, z4, z5⟩ := And.intro ((unhide HB2).cell (i := 0) rfl) (And.intro ((unhide HB2).cell (i := 1) rfl) (And.intro ((unhide HB2).cell (i := 2) rfl) (And.intro ((unhide HB2).cell (i := 3) rfl) (And.intro ((unhide HB2).cell (i := 4) rfl) ((unhide HB2).cell (i := 5) rfl)))))
  have x0 := hda.cell (i := 0) rfl
  have hBel := (unhide Hb1).trans ((unhide Hb2).mono (unhide Hb1).size)
  have HBel := hide hBel
  clear hlj Hlj2 hda hBel
  go_wp2_with fail
  refine ((unhide HKI) _).mono ?_
  rintro e w2 ⟨rfl, rfl⟩
  by_cases hof : s.off + (addr - s.addr) < 18446744073709551616
  case neg =>
    have hR := unhide Hlj3
    rw [if_neg (fun h => hof h.1)] at hR
    subst hR
    have KA := hide (fun w' => add_no (s.off : Int) ((addr : Int) - (s.addr : Int)) w' (by omega) (by omega) (by omega) (by omega))
    clear Hlj3 hof HKI
    go_wp2_with fail
    refine ((unhide KA) _).mono ?_
    rintro e w3 ⟨rfl, rfl⟩
    go_wp2_with fail
    go_ret2
    exact ⟨.inl ⟨rfl, rfl⟩, unhide HBel⟩
  have KA := hide (fun w' => add_yes (s.off : Int) ((addr : Int) - (s.addr : Int)) w' (by omega) (by omega) (by omega))
  obtain ⟨off, hoff⟩ : ∃ o, s.off + (addr - s.addr) = o := ⟨_, rfl⟩
  have hoi : (s.off : Int) + ((addr : Int) - (s.addr : Int)) = (off : Int) := by omega
  rw [hoff] at hof
  have KA1 := unhide KA
  rw [hoi] at KA1
  have HKA := hide KA1
  have KI3 := hide (fun w' => inside_any (off : Int) size m w' (by omega) (by omega) (by omega) (by omega) (by omega))
  have hlj := unhide Hlj3
  rw [hoff] at hlj
  clear KA KA1 hoi hoff HKI Hlj3
  by_cases hin : off + size ≤ m
  case neg =>
    rw [if_neg (fun h => hin h.2)] at hlj
    subst hlj
    have ki := unhide KI3
    rw [show decide (((off : Nat) : Int) + ((size : Nat) : Int) ≤ ((m : Nat) : Int)) = false by simp; omega] at ki
    have HKI3 := hide ki
    clear KI3 ki hin
    go_wp2_with fail
    refine ((unhide HKA) _).mono ?_
    rintro e w3 ⟨rfl, rfl⟩
    go_wp2_with fail
    refine ((unhide HKI3) _).mono ?_
    rintro e w4 ⟨rfl, rfl⟩
    go_wp2_with fail
    go_ret2
    exact ⟨.inl ⟨rfl, rfl⟩, unhide HBel⟩
  rw [if_pos ⟨hof, hin⟩] at hlj
  subst hlj
  have ki := unhide KI3
  rw [show decide (((off : Nat) : Int) + ((size : Nat) : Int) ≤ ((m : Nat) : Int)) = true by simp; omega] at ki
  have HKI3 := hide ki
  have kf := fun w' => (unhide Hkf) w' (off + size) hin off (by omega)
  rw [Nat.add_sub_cancel_left] at kf
  have hsum : ((off + size : Nat) : Int) = (off : Int) + (size : Int) := by omega
  rw [hsum] at kf
  have hres := ((unhide Hbd).below ((unhide HBel).mono hszB)).cut (k := off) (j := off + size) (by omega) hin hmc
  rw [Nat.add_sub_cancel_left, show ((bys b).drop off).take size = bys (Dy.cut b off size) by unfold bys Dy.cut; rw [List.map_take, List.map_drop]] at hres
  have Hres := hide hres
  have hcs : size ≤ cb - off := by omega
  have hin2 : (off : Int) + (size : Int) ≤ (m : Int) := by omega
  clear KI3 ki hsum hres
  go_wp2_with fail
  refine ((unhide HKA) _).mono ?_
  rintro e w3 ⟨rfl, rfl⟩
  go_wp2_with fail
  refine ((unhide HKI3) _).mono ?_
  rintro e w4 ⟨rfl, rfl⟩
  go_wp2_with fail
  go_ret2
  exact ⟨.inr ⟨off, _, _, rfl, rfl, unhide Hres, hcs⟩, unhide HBel⟩
end Go.Proofs.Ytdminnhfgdoibaa
namespace Go.Proofs.Ytdminnhfgdoibaa
set_option linter.unusedVariables false
set_option linter.unusedSimpArgs false
open Go.RowKit

namespace Dy
theorem val_mem {L : List (Nat × Nat)} {t v : Nat} (h : val L t = some v) : (t, v) ∈ L := by
  induction L with
  | nil => cases h
  | cons e r ih =>
    unfold val at h
    split at h
    · next h2 => injection h with h; subst h h2; simp
    · simp [ih h]
theorem val_none {L : List (Nat × Nat)} {t : Nat} (h : val L t = none) : ∀ e ∈ L, e.1 ≠ t := by
  induction L with
  | nil => intro e he; cases he
  | cons e r ih =>
    unfold val at h
    split at h
    · cases h
    · next h2 =>
      intro x hx
      rcases List.mem_cons.1 hx with rfl | hx
      · exact h2
      · exact ih h x hx
theorem tagsV_yes {L : List (Nat × Nat)} {t v : Nat} (h : val L t = some v) (ho : once t = true) : (Value.int .u64 (t : Nat), Value.int .u64 (v : Nat)) ∈ tagsV L := by
  unfold tagsV
  rw [List.mem_map]
  exact ⟨(t, v), List.mem_filter.2 ⟨val_mem h, ho⟩, rfl⟩
theorem tagsV_no {L : List (Nat × Nat)} {t : Nat} (h : val L t = none) : ∀ p ∈ tagsV L, p.1 ≠ Value.int .u64 (t : Nat) := by
  intro p hp e
  unfold tagsV at hp
  obtain ⟨x, hx, rfl⟩ := List.mem_map.1 hp
  have hm := (List.mem_filter.1 hx).1
  have h2 := val_none h x hm
  simp at e
  exact h2 (by omega)
end Dy
theorem zero_u64 (w : World) : (zeroValue 24).run Try.prog w = .ok (.int .u64 0) w := by kernel_rfl
theorem look_tag {w : World} {B g : Nat} {d : Ds} (h : DsM w B g d d.L) {t : Nat} (ho : Dy.once t = true) :
    (Instr.lookup 107 (.map (some d.gm)) (.int .u64 (t : Nat)) true).run Try.prog w = .ok (.tuple #[.int .u64 ((Dy.val d.L t).getD 0 : Nat), .bool (Dy.val d.L t).isSome]) w ∧
    (Instr.lookup 107 (.map (some d.gm)) (.int .u64 (t : Nat)) false).run Try.prog w = .ok (.int .u64 ((Dy.val d.L t).getD 0 : Nat)) w := by
  cases hv : Dy.val d.L t with
  | none => exact run_lookB_no Try.underlying107 Try.underlying24 (by simp [Go.MapKept.IsKey]) (zero_u64 w) h.tags (Dy.tagsV_no hv)
  | some v => exact run_lookB_yes Try.underlying107 Try.underlying24 (by simp [Go.MapKept.IsKey]) h.tags (Dy.tagsV_yes hv ho)
theorem val_lt {d : Ds} (h : DsOk d) (t : Nat) : (Dy.val d.L t).getD 0 < 18446744073709551616 := by
  cases hv : Dy.val d.L t with
  | none => decide
  | some v => exact (h.ent _ (Dy.val_mem hv)).2

/-- What table answers. -/
def TableE (o : Option (Nat × Nat)) (B : Nat) (b : List UInt8) (w : World) (e : Ending) (w' : World) : Prop :=
  ((o = none ∧ e = .returned (.tuple #[.slice none 0 0, .bool false])) ∨ ∃ p n A' c', o = some (p, n) ∧ e = .returned (.tuple #[.slice A' n c', .bool true]) ∧ Rd w' B 1 A' n (bys (Dy.cut b p n)) ∧ n ≤ c') ∧ Below w.heap.size w w'
set_option maxRecDepth 100000 in
set_option maxHeartbeats 1000000 in
theorem table_any (B g : Nat) (d : Ds) (t1 t2 : Nat) (w : World) (hd : DsM w B g d d.L) (ho : DsOk d) (h1 : Dy.once t1 = true) (h2 : Dy.once t2 = true) :
    Calls Try.prog 29 #[.pointer (some ⟨g, 0, none⟩), .int .u64 (t1 : Nat), .int .u64 (t2 : Nat)] w (TableE (Dy.table d.m (El.loads d.segs) d.L t1 t2) B d.b w) := by
  obtain ⟨-, -, -, -, -, -, x6⟩ := hd.cells
  have l1 := (look_tag hd h1).1
  have l2 := (look_tag hd h2).2
  have KL := laid_any B g d d.L ((Dy.val d.L t1).getD 0) ((Dy.val d.L t2).getD 0) w hd ho (val_lt ho t1) (val_lt ho t2)
  have ht : Dy.table d.m (El.loads d.segs) d.L t1 t2 = match Dy.val d.L t1 with
    | none => some (0, 0)
    | some a => (Dy.laid d.m (El.loads d.segs) a ((Dy.val d.L t2).getD 0)).map fun o => (o, (Dy.val d.L t2).getD 0) := rfl
  rw [ht]
  obtain ⟨gm, hgm⟩ : ∃ g, d.gm = g := ⟨_, rfl⟩
  rw [hgm] at x6 l1 l2
  obtain ⟨v2, hv2⟩ : ∃ v, (Dy.val d.L t2).getD 0 = v := ⟨_, rfl⟩
  rw [hv2] at l2 KL ⊢
  obtain ⟨bb, hbb⟩ : ∃ b, d.b = b := ⟨_, rfl⟩
  rw [hbb] at KL ⊢
  clear hd ho ht hgm h1 h2 hv2 hbb
  cases hv : Dy.val d.L t1 with
  | none =>
    rw [hv] at l1
    have l1' : (Instr.lookup 107 (.map (some gm)) (.int .u64 (t1 : Nat)) true).run Try.prog w = .ok (.tuple #[.int .u64 0, .bool false]) w := l1
    clear l1 KL hv
    go_enter Try.func29, Try.ntmps29
    go_wp2_with fail
    go_ret2
    exact ⟨.inr ⟨0, 0, none, 0, rfl, rfl, Rd.none_ _ _ _ _, Nat.le_refl _⟩, Below.refl _ _⟩
  | some a =>
    rw [hv] at l1 KL
    have l1' : (Instr.lookup 107 (.map (some gm)) (.int .u64 (t1 : Nat)) true).run Try.prog w = .ok (.tuple #[.int .u64 (a : Nat), .bool true]) w := l1
    have KL' : Calls Try.prog 54 #[.pointer (some ⟨g, 0, none⟩), .int .u64 (a : Nat), .int .u64 (v2 : Nat)] w (LaidE (Dy.laid d.m (El.loads d.segs) a v2) v2 B bb w) := KL
    dsimp only
    obtain ⟨R, hR⟩ : ∃ R, Dy.laid d.m (El.loads d.segs) a v2 = R := ⟨_, rfl⟩
    rw [hR] at KL' ⊢
    have HKL := hide KL'
    clear l1 KL KL' hv hR
    go_enter Try.func29, Try.ntmps29
    go_wp2_with fail
    refine (unhide HKL).mono ?_
    rintro e w1 ⟨⟨rfl, rfl⟩ | ⟨off, A', c', rfl, rfl, hr, hc⟩, hb1⟩
    · go_wp2_with fail
      go_ret2
      exact ⟨.inl ⟨rfl, rfl⟩, hb1⟩
    · have Hr := hide hr
      clear hr
      go_wp2_with fail
      go_ret2
      exact ⟨.inr ⟨off, v2, A', c', rfl, rfl, unhide Hr, hc⟩, hb1⟩
end Go.Proofs.Ytdminnhfgdoibaa
namespace Go.Proofs.Ytdminnhfgdoibaa.Dy
set_option linter.unusedVariables false
set_option linter.unusedSimpArgs false

/-- With which tag one stands, or, negated, what its value must be. -/
def mustV (t : Nat) : Int := if t = 2 then 23 else if t = 4 then 6 else if t = 5 then 10 else if t = 6 then 4 else if t = 7 then 8 else if t = 8 then 7 else if t = 9 then -24 else if t = 10 then 5 else if t = 11 then -24 else if t = 20 then -7 else if t = 23 then 2 else 0
/-- An entry by itself, behind those ahead of it. -/
def okE (T : List (Nat × Nat)) (e : Nat × Nat) : Bool := !once e.1 || ((val T e.1).isNone && (decide (0 ≤ mustV e.1) || decide ((e.2 : Int) = -mustV e.1)))
theorem val_cons (e : Nat × Nat) (r : List (Nat × Nat)) (t : Nat) : val (e :: r) t = if e.1 = t then some e.2 else val r t := rfl
theorem val_app {a b : List (Nat × Nat)} {t : Nat} : val (a ++ b) t = (val a t).or (val b t) := by
  induction a with
  | nil => rfl
  | cons e r ih =>
    rw [List.cons_append, val_cons, val_cons]
    split
    · rfl
    · exact ih
theorem val_isSome {L : List (Nat × Nat)} {t v : Nat} (h : (t, v) ∈ L) : (val L t).isSome = true := by
  induction L with
  | nil => cases h
  | cons e r ih =>
    rw [val_cons]
    split
    · rfl
    · rename_i h2
      rcases List.mem_cons.1 h with rfl | h
      · exact absurd rfl h2
      · exact ih h
theorem val_first {L : List (Nat × Nat)} {k : Nat} {e : Nat × Nat} (he : L[k]? = some e) (hn : val (L.take k) e.1 = none) : val L e.1 = some e.2 := by
  have hk := (List.getElem?_eq_some_iff.1 he).1
  have : L = L.take k ++ (e :: L.drop (k + 1)) := by
    conv => lhs; rw [← List.take_append_drop k L]
    rw [List.drop_eq_getElem_cons hk, (List.getElem?_eq_some_iff.1 he).2]
  rw [this, val_app, hn, val_cons, if_pos rfl]
  rfl
theorem twice_no {L : List (Nat × Nat)} (h : ∀ k e, L[k]? = some e → once e.1 = true → val (L.take k) e.1 = none) : twice L = false := by
  induction L with
  | nil => rfl
  | cons x r ih =>
    unfold twice
    rw [Bool.or_eq_false_iff]
    refine ⟨?_, ih fun k e hk ho => ?_⟩
    · cases ho : once x.1 with
      | false => rfl
      | true =>
        rw [Bool.true_and]
        cases hv : val r x.1 with
        | none => rfl
        | some v =>
          exfalso
          obtain ⟨j, hj⟩ := List.getElem?_of_mem (show (x.1, v) ∈ r by
            clear h ih
            induction r with
            | nil => cases hv
            | cons y q ih =>
              rw [val_cons] at hv
              split at hv
              · next h2 => injection hv with hv; subst hv; rw [← h2]; simp
              · exact List.mem_cons_of_mem _ (ih hv))
          have := h (j + 1) (x.1, v) (by simpa using hj) ho
          rw [List.take_succ_cons, val_cons, if_pos rfl] at this
          cases this
    · have := h (k + 1) e (by simpa using hk) ho
      rw [List.take_succ_cons, val_cons] at this
      split at this
      · cases this
      · exact this
theorem twice_yes {L : List (Nat × Nat)} {k : Nat} {e : Nat × Nat} (he : L[k]? = some e) (ho : once e.1 = true) (hv : val (L.take k) e.1 ≠ none) : twice L = true := by
  induction L generalizing k with
  | nil => simp at he
  | cons x r ih =>
    cases k with
    | zero => exact absurd rfl hv
    | succ k =>
      rw [List.take_succ_cons, val_cons] at hv
      have hr : r[k]? = some e := by simpa using he
      unfold twice
      by_cases h2 : x.1 = e.1
      · have : (val r x.1).isSome = true := by
          rw [h2]
          exact val_isSome (v := e.2) (List.mem_of_getElem? hr)
        rw [h2] at this ⊢
        rw [ho, this]
        rfl
      · rw [if_neg h2] at hv
        rw [ih hr hv, Bool.or_true]
theorem once_cases {t : Nat} (h : once t = true) : t = 2 ∨ t = 4 ∨ t = 5 ∨ t = 6 ∨ t = 7 ∨ t = 8 ∨ t = 9 ∨ t = 10 ∨ t = 11 ∨ t = 14 ∨ t = 15 ∨ t = 20 ∨ t = 23 ∨ t = 29 := by
  unfold once at h
  simpa using h
/-- The first bad entry. -/
theorem fits_bad {L : List (Nat × Nat)} {k : Nat} {e : Nat × Nat} (he : L[k]? = some e) (h : okE (L.take k) e = false) : fits L = false := by
  unfold okE at h
  rw [Bool.or_eq_false_iff, Bool.and_eq_false_iff, Bool.not_eq_false'] at h
  obtain ⟨ho, h⟩ := h
  unfold fits
  rcases h with h | h
  · rw [twice_yes he ho (by intro h2; rw [h2] at h; cases h)]
    rfl
  · rw [Bool.or_eq_false_iff, decide_eq_false_iff_not, decide_eq_false_iff_not] at h
    obtain ⟨hneg, hne⟩ := h
    by_cases hv : val (L.take k) e.1 = none
    · have hval := val_first he hv
      have ht : e.1 = 9 ∨ e.1 = 11 ∨ e.1 = 20 := by
        have hm : mustV e.1 < 0 := by omega
        clear hneg hne hval hv
        rcases once_cases ho with h | h | h | h | h | h | h | h | h | h | h | h | h | h <;> rw [h] at hm <;> first | exact absurd hm (by decide) | exact .inl h | exact .inr (.inl h) | exact .inr (.inr h)
      rcases ht with ht | ht | ht
      · rw [ht] at hval hne
        have : isV (val L 9) 24 = false := by rw [hval]; unfold isV; simp only [decide_eq_false_iff_not]; intro h2; exact hne (by rw [h2]; rfl)
        rw [this]
        simp
      · rw [ht] at hval hne
        have : isV (val L 11) 24 = false := by rw [hval]; unfold isV; simp only [decide_eq_false_iff_not]; intro h2; exact hne (by rw [h2]; rfl)
        rw [this]
        simp
      · rw [ht] at hval hne
        have : isV (val L 20) 7 = false := by rw [hval]; unfold isV; simp only [decide_eq_false_iff_not]; intro h2; exact hne (by rw [h2]; rfl)
        rw [this]
        simp
    · rw [twice_yes he ho hv]
      rfl
/-- Does a tag stand with its other one? -/
def okT (L : List (Nat × Nat)) (t : Nat) : Bool := decide (mustV t ≤ 0) || (val L (mustV t).toNat).isSome
theorem val_some_mem {L : List (Nat × Nat)} {t v : Nat} (h : val L t = some v) : (t, v) ∈ L := by
  induction L with
  | nil => cases h
  | cons e r ih =>
    rw [val_cons] at h
    split at h
    · next h2 => injection h with h; subst h h2; simp
    · exact List.mem_cons_of_mem _ (ih h)
theorem pair_of {L : List (Nat × Nat)} {a b : Nat} (h1 : mustV a = (b : Nat)) (h2 : mustV b = (a : Nat)) (ha : 0 < a) (hb : 0 < b) (h : ∀ e ∈ L, once e.1 = true → okT L e.1 = true) (oa : once a = true) (ob : once b = true) : pair L a b = true := by
  have key : ∀ x y, mustV x = (y : Nat) → 0 < y → once x = true → (val L x).isSome = true → (val L y).isSome = true := by
    intro x y hxy hy hx hs
    obtain ⟨v, hv⟩ := Option.isSome_iff_exists.1 hs
    have := h (x, v) (val_some_mem hv) hx
    unfold okT at this
    rw [Bool.or_eq_true] at this
    rcases this with h3 | h3
    · simp only [decide_eq_true_eq] at h3
      omega
    · simp only [hxy] at h3
      simpa using h3
  unfold pair
  rw [beq_iff_eq]
  cases hx : (val L a).isSome with
  | true => rw [key a b h1 hb oa hx]
  | false =>
    cases hy : (val L b).isSome with
    | false => rfl
    | true => rw [key b a h2 ha ob hy] at hx; cases hx
theorem fits_good {L : List (Nat × Nat)} (h : ∀ k e, L[k]? = some e → okE (L.take k) e = true) (h2 : ∀ e ∈ L, once e.1 = true → okT L e.1 = true) : fits L = true := by
  have ho : ∀ k e, L[k]? = some e → once e.1 = true → val (L.take k) e.1 = none ∧ (mustV e.1 < 0 → (e.2 : Int) = -mustV e.1) := by
    intro k e hk hoe
    have := h k e hk
    unfold okE at this
    rw [hoe] at this
    simp only [Bool.not_true, Bool.false_or, Bool.and_eq_true, Option.isNone_iff_eq_none, Bool.or_eq_true, decide_eq_true_eq] at this
    exact ⟨this.1, fun hm => by rcases this.2 with h3 | h3; omega; exact h3⟩
  have hv : ∀ t v, once t = true → mustV t = -(v : Nat) → 0 < v → isV (val L t) v = true := by
    intro t v hot hm hpos
    cases hvt : val L t with
    | none => rfl
    | some x =>
      unfold isV
      obtain ⟨k, hk⟩ := List.getElem?_of_mem (val_some_mem hvt)
      have := (ho k (t, x) hk hot).2 (by rw [hm]; omega)
      simp only [hm] at this
      simp only [decide_eq_true_eq]
      omega
  unfold fits
  rw [twice_no (fun k e hk hoe => (ho k e hk hoe).1), hv 11 24 rfl rfl (by omega), hv 9 24 rfl rfl (by omega), hv 20 7 rfl rfl (by omega),
    pair_of (a := 5) (b := 10) rfl rfl (by omega) (by omega) h2 rfl rfl, pair_of (a := 4) (b := 6) rfl rfl (by omega) (by omega) h2 rfl rfl, pair_of (a := 7) (b := 8) rfl rfl (by omega) (by omega) h2 rfl rfl, pair_of (a := 23) (b := 2) rfl rfl (by omega) (by omega) h2 rfl rfl]
  rfl
theorem pair_bad {L : List (Nat × Nat)} {a b : Nat} (h1 : (val L a).isSome = true) (h2 : (val L b).isSome = false) : pair L a b = false ∧ pair L b a = false := by
  unfold pair
  rw [h1, h2]
  exact ⟨rfl, rfl⟩
theorem fits_pair {L : List (Nat × Nat)} {e : Nat × Nat} (he : e ∈ L) (ho : once e.1 = true) (h : okT L e.1 = false) : fits L = false := by
  unfold okT at h
  rw [Bool.or_eq_false_iff, decide_eq_false_iff_not] at h
  obtain ⟨hm, hv⟩ := h
  have hs : (val L e.1).isSome = true := val_isSome (v := e.2) he
  unfold fits
  have hm2 : ¬ mustV e.1 ≤ 0 := hm
  rcases once_cases ho with h | h | h | h | h | h | h | h | h | h | h | h | h | h <;> rw [h] at hm2 hs hv
  · have hv' : (val L 23).isSome = false := hv
    rw [(pair_bad hs hv').2]; simp
  · have hv' : (val L 6).isSome = false := hv
    rw [(pair_bad hs hv').1]; simp
  · have hv' : (val L 10).isSome = false := hv
    rw [(pair_bad hs hv').1]; simp
  · have hv' : (val L 4).isSome = false := hv
    rw [(pair_bad hs hv').2]; simp
  · have hv' : (val L 8).isSome = false := hv
    rw [(pair_bad hs hv').1]; simp
  · have hv' : (val L 7).isSome = false := hv
    rw [(pair_bad hs hv').2]; simp
  · exact absurd (by decide) hm2
  · have hv' : (val L 5).isSome = false := hv
    rw [(pair_bad hs hv').2]; simp
  · exact absurd (by decide) hm2
  · exact absurd (by decide) hm2
  · exact absurd (by decide) hm2
  · exact absurd (by decide) hm2
  · have hv' : (val L 2).isSome = false := hv
    rw [(pair_bad hs hv').1]; simp
  · exact absurd (by decide) hm2
theorem many_take {L : List (Nat × Nat)} {k : Nat} {e : Nat × Nat} (he : L[k]? = some e) : many (L.take (k + 1)) = many (L.take k) + if e.1 = 1 then 1 else 0 := by
  unfold many
  rw [List.take_add_one, he, List.filter_append, List.length_append]
  simp only [Option.toList_some, List.filter_cons, List.filter_nil]
  by_cases h : e.1 = 1
  · simp [h]
  · simp [h]
theorem many_le (L : List (Nat × Nat)) : many L ≤ L.length := List.length_filter_le _ _
theorem filter_take {L : List (Nat × Nat)} {k : Nat} {e : Nat × Nat} (he : L[k]? = some e) : (L.take (k + 1)).filter (fun e => once e.1) = (L.take k).filter (fun e => once e.1) ++ if once e.1 = true then [e] else [] := by
  rw [List.take_add_one, he, List.filter_append]
  simp only [Option.toList_some, List.filter_cons, List.filter_nil]
end Go.Proofs.Ytdminnhfgdoibaa.Dy
namespace Go.Proofs.Ytdminnhfgdoibaa
set_option linter.unusedVariables false
set_option linter.unusedSimpArgs false
open Go.RowKit

def Dy.kn (t : Nat) (v : Int) : Value × Value := (.int .u64 (t : Nat), .int .i64 v)
def Dy.knownV : List (Value × Value) := [Dy.kn 1 0, Dy.kn 2 23, Dy.kn 4 6, Dy.kn 5 10, Dy.kn 6 4, Dy.kn 7 8, Dy.kn 8 7, Dy.kn 9 (-24), Dy.kn 10 5, Dy.kn 11 (-24), Dy.kn 14 0, Dy.kn 15 0, Dy.kn 20 (-7), Dy.kn 23 2, Dy.kn 29 0]
theorem ht_known : Try.prog.underlying 129 = some (.map 24 3) := Try.underlying129
theorem zero_int (w : World) : (zeroValue 3).run Try.prog w = .ok (.int .i64 0) w := by kernel_rfl
set_option maxRecDepth 100000 in
set_option maxHeartbeats 4000000 in
theorem known_any (w : World) : Calls Try.prog 70 #[] w fun e w' => ∃ g, e = .returned (.map (some g)) ∧ MapB w' g (.int .u64) Dy.knownV ∧ w.heap.size ≤ g ∧ Below w.heap.size w w' := by
  have hmm := @run_makeMap Try.prog
  have HM := hide (MapB.nil w (.int .u64))
  have HB : Hid (Below w.heap.size w (w.alloc (.map #[] 0))) := hide ((Below.refl _ _).alloc (Nat.le_refl _) _)
  go_enter Try.func70, Try.ntmps70
  go_wp2_with ((with_reducible refine (@id (wpList _ _ _ (Oper.mk none (Op.insert 129 (.tmp 1) _ _) _ _ _ none :: _) _ _) ?_)); refine wpList_insC (g := w.heap.size) rfl _ _ _ rfl rfl ht_known Try.underlying24 rfl (by simp [Go.MapKept.IsKey]) (unhide HM) (by simp) ?_; intro w2 hm2 hg2 hs2; have hb2 := (unhide HB).grown hg2 (unhide HB).size (fun k hk => by injection hk with hk; omega); clear HM HB hg2 hs2; have HM := hide hm2; have HB := hide hb2; clear hm2 hb2)
  go_ret
  exact ⟨w.heap.size, rfl, by simpa [Dy.knownV, Dy.kn] using unhide HM, Nat.le_refl _, unhide HB⟩
end Go.Proofs.Ytdminnhfgdoibaa
