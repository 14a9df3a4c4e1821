/- Texts of the claim LawCloManyCard (PathsPure, WordsPure, CallsPure, EnvPure, EnvPure2, VfsPure, VfsPure2, VfsPure3, VfsPure4, VfsPure5, Base, Own, More, Blk, Vfs1, Vfs2, May4, SePure, ElfPure, DyPure, CloPure, Bytes, App, Grew, CopyB, Words, ClForm, App2, Put1, AppS, Apart1, Apart2, Fr, AppZ, MkRow, MkPure): what the functions that the statement reaches compute, and plain laws of it. Conditions: those that each theorem states. -/
import Derived.Laws.RangeAny
import Derived.Lib.Strings
import Derived.Lib.LastIndexByte
import Derived.Laws.BitsAllLaws
import Derived.Laws.Entries
import Derived.Lib.IndexLaws
import Derived.Lib.Bytealg
import Derived.Lib.Join
import Derived.WalkKit
import Derived.Below
import Derived.Lib.Hide
import Derived.Lib.OthersKept
import Derived.Deep.Draws
import Derived.Laws.OwnMore
import Derived.WalkSmall
import Derived.OneCell
import Derived.OwnWalk
import Derived.Laws.Rows
import Derived.Laws.Tables
import Derived.Laws.ResultCell
import Derived.Test.YtiiiblmhlhikkaaGreatDoorShelf
import Derived.Deep.LoopGhost
import Derived.Test.YtiiiblmhlhikkaaGreatDoorProg
import Derived.WalkSpells
import Derived.WalkLawsBesides
import Derived.BigQuiet
import Derived.Deep.QuietTactic
import Derived.Maps.AppendAt
import Derived.Lib.AppendStr
import Derived.Lib.SliceRun
import Derived.Lib.AppendZerosOnto
import Derived.Laws.CopyRow
set_option linter.unusedVariables false
set_option linter.unusedSimpArgs false
namespace Go.Proofs.YtiiiblmhlhikkaaGreatDoor.Pth
def pcsL (s : ByteArray) : List UInt8 -> Nat -> Nat -> List ByteArray
 | [], i, f => [s.extract f i]
 | c :: r, i, f => if c = 47 then s.extract f i :: pcsL s r (i + 1) (i + 1) else pcsL s r (i + 1) f
def pcs (s : ByteArray) : List ByteArray := pcsL s s.data.toList 0 0
def pcsAt (s : ByteArray) (i f : Nat) : List ByteArray := pcsL s (s.data.toList.drop i) i f
theorem drop_cons (s : ByteArray) (i : Nat) (h : i < s.size) : s.data.toList.drop i = s[i] :: s.data.toList.drop (i + 1) := by
 have h' : i < s.data.toList.length := by simpa using h
 rw [List.drop_eq_getElem_cons h']
 rfl
theorem pcsAt_end (s : ByteArray) (f : Nat) : pcsAt s s.size f = [s.extract f s.size] := by
 unfold pcsAt
 rw [List.drop_of_length_le (by simp)]
 rfl
theorem pcsAt_slash (s : ByteArray) (i f : Nat) (h : i < s.size) (hc : s[i] = 47) : pcsAt s i f = s.extract f i :: pcsAt s (i + 1) (i + 1) := by
 unfold pcsAt
 rw [drop_cons s i h]
 simp [pcsL, hc]
theorem pcsAt_skip (s : ByteArray) (i f : Nat) (h : i < s.size) (hc : s[i] ≠ 47) : pcsAt s i f = pcsAt s (i + 1) f := by
 unfold pcsAt
 rw [drop_cons s i h]
 simp [pcsL, hc]
theorem pcsAt_skips (s : ByteArray) (f : Nat) (d : Nat) : ∀ i, (∀ j, i <= j -> j < i + d -> ∃ h : j < s.size, s[j] ≠ 47) -> pcsAt s i f = pcsAt s (i + d) f := by
 induction d with
 | zero => intro i _; rfl
 | succ d ih =>
  intro i h
  obtain ⟨hi, hc⟩ := h i (Nat.le_refl _) (by omega)
  rw [pcsAt_skip s i f hi hc, ih (i + 1) (fun j h1 h2 => h j (by omega) (by omega))]
  congr 1
  omega
theorem get_at (s : ByteArray) (pos k : Nat) (h : pos + k < s.size) : s.get! (pos + k) = s[pos + k]'h := by
 simp [ByteArray.get!, getElem!_pos, h]
 rfl
theorem high_ne (c : UInt8) (h : c.toNat / 64 = 2) : c ≠ 47 := by
 intro e
 subst e
 simp at h
theorem decode_cover (s : ByteArray) (pos : Nat) (h : pos < s.size) :
  1 <= (Utf8.decode s pos).2 /\ pos + (Utf8.decode s pos).2 <= s.size /\ ((Utf8.decode s pos).1 = 47 ↔ s[pos] = 47) /\ (s[pos] = 47 -> (Utf8.decode s pos).2 = 1) /\
  (s[pos] ≠ 47 -> ∀ j, pos <= j -> j < pos + (Utf8.decode s pos).2 -> ∃ hj : j < s.size, s[j] ≠ 47) := by
 have e0 : s.get! (pos + 0) = s[pos] := get_at s pos 0 (by simpa using h)
 have eq47 : s[pos] = 47 ↔ s[pos].toNat = 47 := by
  constructor
  ·intro e; rw [e]; rfl
  ·intro e; exact UInt8.toNat_inj.1 (by rw [e]; rfl)
 by_cases ha : s[pos].toNat < 128
 ·have hd : Utf8.decode s pos = (s[pos].toNat, 1) := decode_ascii s pos h ha
  rw [hd]
  refine ⟨Nat.le_refl _, by simp only; omega, by simp only [eq47], fun _ => rfl, fun hn j h1 h2 => ?_⟩
  obtain rfl : j = pos := by simp only at h2; omega
  exact ⟨h, hn⟩
 ·have hn47 : s[pos] ≠ 47 := by rw [ne_eq, eq47]; omega
  have key : ∃ c d, Utf8.decode s pos = (c, d) /\ 1 <= d /\ pos + d <= s.size /\ c ≠ 47 /\ ∀ k, 1 <= k -> k < d -> pos + k < s.size /\ (s.get! (pos + k)).toNat / 64 = 2 := by
   simp only [Utf8.decode, e0, ha, if_false]
   repeat' split
   all_goals (refine ⟨_, _, rfl, by omega, ?_, ?_, ?_⟩)
   all_goals simp only [Bool.and_eq_true, decide_eq_true_eq, beq_iff_eq] at *
   all_goals first
    | omega
    | (simp [Utf8.runeError]; done)
    | (intro k h1 h2; omega)
    | (intro k h1 h2
       have hk : k = 1 \/ k = 2 \/ k = 3 := by omega
       rcases hk with rfl | rfl | rfl <;> first | (exfalso; omega) | (refine ⟨?_, ?_⟩ <;> omega))
  obtain ⟨c, d, hd, h1, h2, h3, h4⟩ := key
  rw [hd]
  refine ⟨h1, h2, by simp [h3, hn47], fun e => absurd e hn47, fun _ j hj1 hj2 => ?_⟩
  rcases Nat.eq_or_lt_of_le hj1 with rfl | hlt
  ·exact ⟨h, hn47⟩
  ·obtain ⟨k, rfl⟩ : ∃ k, j = pos + k := ⟨j - pos, by omega⟩
   obtain ⟨hs, hh⟩ := h4 k (by omega) (by simpa using hj2)
   refine ⟨hs, ?_⟩
   rw [get_at s pos k hs] at hh
   exact high_ne _ hh
def goF {S : Type} (step : S -> ByteArray -> S × Bool) : S -> List ByteArray -> S
 | s, [] => s
 | s, x :: r => if (step s x).2 then goF step (step s x).1 r else (step s x).1
def tooLong (x : ByteArray) : Bool := decide (32 < x.size)
def chk (p : ByteArray) : Int :=
 if p.size = 0 then 3 else if p.data.toList.contains 0 then 1 else if 200 < p.size then 11 else if (pcs p).any tooLong then 11 else 0
def checkStep (e : Int) (x : ByteArray) : Int × Bool := if 32 < x.size then (11, false) else (e, e == 0)
theorem goF_check (l : List ByteArray) : goF checkStep 0 l = if l.any tooLong then 11 else 0 := by
 induction l with
 | nil => rfl
 | cons x r ih =>
  by_cases h : 32 < x.size
  ·simp [goF, checkStep, h, tooLong]
  ·simp [goF, checkStep, h, tooLong, ih]
def isPart (x : ByteArray) : Bool := !(x.data.toList == []) && !(x.data.toList == [46])
def parts (p : ByteArray) : List ByteArray := (pcs p).filter isPart
def partsStep (l : List ByteArray) (x : ByteArray) : List ByteArray × Bool := (if isPart x then l ++ [x] else l, true)
theorem goF_parts (l : List ByteArray) : ∀ acc, goF partsStep acc l = acc ++ l.filter isPart := by
 induction l with
 | nil => intro acc; simp [goF]
 | cons x r ih =>
  intro acc
  by_cases h : isPart x
  ·simp [goF, partsStep, h, ih]
  ·simp [goF, partsStep, h, ih]
def partsL (p : ByteArray) : List ByteArray := if chk p = 0 then parts p else []
def rootB (p : ByteArray) : Bool := decide (chk p = 0) && Lib.hasPrefix p.data.toList [47]
theorem chk_size (p : ByteArray) (h : chk p = 0) : p.size <= 200 := by
 unfold chk at h
 repeat' split at h
 all_goals first | omega | (cases h)
/-! ### Join, Base, Dir, Tail -/
def headB (p : ByteArray) : Bool := Lib.hasPrefix p.data.toList [47]
def tailB (p : ByteArray) : Bool := Lib.hasSuffix p.data.toList [47]
def slash : ByteArray := ⟨#[47]⟩
def joinB (d p : ByteArray) : ByteArray := if d.size = 0 \/ headB p = true then p else if tailB d = true then d ++ p else d ++ slash ++ p
theorem headB_iff (p : ByteArray) : headB p = decide (∃ h : 0 < p.size, p[0] = 47) := by
 rw [Bool.eq_iff_iff, decide_eq_true_eq]
 unfold headB Lib.hasPrefix
 obtain ⟨⟨l⟩⟩ := p
 cases l with
 | nil =>
  constructor
  ·intro h; cases h
  ·rintro ⟨h, _⟩; cases h
 | cons a r =>
  show ([47].isPrefixOf (a :: r)) = true ↔ _
  simp only [List.isPrefixOf, Bool.and_true, beq_iff_eq]
  exact ⟨fun h => ⟨Nat.succ_pos _, h.symm⟩, fun h => h.2.symm⟩
theorem tailB_iff (p : ByteArray) (h : 0 < p.size) : tailB p = decide (p[p.size - 1]'(by omega) = 47) := by
 rw [Bool.eq_iff_iff, decide_eq_true_eq]
 unfold tailB Lib.hasSuffix
 obtain ⟨⟨l⟩⟩ := p
 have hne : l ≠ [] := by rintro rfl; cases h
 rw [List.isSuffixOf_iff_suffix]
 have e : (ByteArray.mk ⟨l⟩)[(ByteArray.mk ⟨l⟩).size - 1]'(by omega) = l.getLast hne := by
  rw [List.getLast_eq_getElem]
  rfl
 rw [e]
 constructor
 ·rintro ⟨t, ht⟩
  have h2 : l = t ++ [47] := ht.symm
  subst h2
  exact List.getLast_concat
 ·intro h47
  refine ⟨l.dropLast, ?_⟩
  rw [<- h47]
  exact List.dropLast_concat_getLast hne
theorem tailB_empty (p : ByteArray) (h : p.size = 0) : tailB p = false := by
 obtain ⟨⟨l⟩⟩ := p
 have : l = [] := List.eq_nil_of_length_eq_zero h
 subst this
 rfl
end Go.Proofs.YtiiiblmhlhikkaaGreatDoor.Pth
namespace Go.Proofs.YtiiiblmhlhikkaaGreatDoor.Wd
def top : Int := 18446744073709551615
theorem xor_top (b : Int) (h0 : 0 <= b) (h1 : b <= 18446744073709551615) : bits .xor .u64 IntKind.u64.max b = 18446744073709551615 - b := by
 obtain ⟨n, rfl⟩ := Int.eq_ofNat_of_zero_le h0
 have e : IntKind.u64.max = ((18446744073709551615 : Nat) : Int) := rfl
 rw [e, u64_xor_nat _ _ (by omega) (by omega)]
 have h2 : n < 2 ^ 64 := by omega
 have h3 : (18446744073709551615 : Nat) ^^^ n = 2 ^ 64 - 1 - n := by
  have h4 := BitVec.toNat_not (x := BitVec.ofNat 64 n)
  rw [<- BitVec.xor_allOnes, BitVec.toNat_xor, BitVec.toNat_ofNat, BitVec.toNat_allOnes, Nat.mod_eq_of_lt h2, Nat.xor_comm] at h4
  exact h4
 rw [h3]
 omega
theorem andNot_page (a : Int) (h0 : 0 <= a) (h1 : a <= 18446744073709551615) : bits .andNot .u64 a 4095 = a - a % 4096 := by
 obtain ⟨n, rfl⟩ := Int.eq_ofNat_of_zero_le h0
 have e : (4095 : Int) = ((4095 : Nat) : Int) := rfl
 rw [e, u64_andNot_nat _ _ (by omega) (by omega)]
 have h2 : n < 2 ^ 64 := by omega
 have h3 : n &&& (18446744073709551615 - 4095) = n - n % 4096 := by
  have h5 : (18446744073709551615 - 4095 : Nat) ^^^ 4095 = 2 ^ 64 - 1 := by decide
  have h6 : n &&& (2 ^ 64 - 1) = n := by rw [Nat.and_two_pow_sub_one_eq_mod]; exact Nat.mod_eq_of_lt h2
  have h7 : n &&& 4095 = n % 4096 := Nat.and_two_pow_sub_one_eq_mod n 12
  have h8 : (n &&& (18446744073709551615 - 4095)) + (n &&& 4095) = n := by
   have h9 : (n &&& (18446744073709551615 - 4095)) ||| (n &&& 4095) = n := by
    rw [<- Nat.and_or_distrib_left]
    have : (18446744073709551615 - 4095 : Nat) ||| 4095 = 2 ^ 64 - 1 := by decide
    rw [this, h6]
   have h10 : (n &&& (18446744073709551615 - 4095)) ||| (n &&& 4095) = (n &&& (18446744073709551615 - 4095)) + (n &&& 4095) := by
    refine nat_join 12 _ _ ?_ ?_
    ·have e2 : (18446744073709551615 - 4095 : Nat) = (2 ^ 52 - 1) <<< 12 := by decide
     rw [e2, <- Nat.and_two_pow_sub_one_eq_mod, Nat.and_assoc]
     have : ((2 ^ 52 - 1 : Nat) <<< 12) &&& (2 ^ 12 - 1) = 0 := by decide
     rw [this, Nat.and_zero]
    ·rw [h7]
     exact Nat.mod_lt _ (by decide)
   omega
  omega
 rw [h3]
 omega
def le : List UInt8 -> Nat
 | [] => 0
 | c :: r => c.toNat + 256 * le r
def num (b : List UInt8) (p n : Nat) : Nat := le ((b.drop p).take n)
theorem le_snoc (l : List UInt8) (c : UInt8) : le (l ++ [c]) = le l + 256 ^ l.length * c.toNat := by
 induction l with
 | nil => simp [le]
 | cons a r ih =>
  simp only [List.cons_append, le, ih, List.length_cons, Nat.pow_succ, Nat.mul_add]
  rw [Nat.add_assoc, <- Nat.mul_assoc, Nat.mul_comm 256 (256 ^ r.length)]
theorem le_lt (l : List UInt8) : le l < 256 ^ l.length := by
 induction l with
 | nil => simp [le]
 | cons a r ih =>
  have := a.toNat_lt
  simp only [le, List.length_cons, Nat.pow_succ]
  omega
theorem num_zero (b : List UInt8) (p : Nat) : num b p 0 = 0 := by simp [num, le]
theorem num_succ (b : List UInt8) (p n : Nat) (c : UInt8) (h : b[p + n]? = some c) : num b p (n + 1) = num b p n + 256 ^ n * c.toNat := by
 unfold num
 have hl : p + n < b.length := by
  rcases Nat.lt_or_ge (p + n) b.length with h1 | h1
  ·exact h1
  ·rw [List.getElem?_eq_none h1] at h; cases h
 rw [List.take_add_one, List.getElem?_drop, h]
 simp only [Option.toList_some]
 rw [le_snoc, List.length_take, List.length_drop, Nat.min_eq_left (by omega)]
theorem num_lt (b : List UInt8) (p n : Nat) : num b p n < 256 ^ n := by
 unfold num
 refine Nat.lt_of_lt_of_le (le_lt _) (Nat.pow_le_pow_right (by omega) (List.length_take_le _ _))
theorem or_step (x c i : Nat) (h : x < 256 ^ i) : x ||| (c * 2 ^ (8 * i)) = x + 256 ^ i * c := by
 have e : 2 ^ (8 * i) = 256 ^ i := by rw [Nat.pow_mul]
 rw [Nat.or_comm, e, nat_join (8 * i) (c * 256 ^ i) x (by rw [e]; exact Nat.mul_mod_left _ _) (by rw [e]; exact h)]
 rw [Nat.mul_comm, Nat.add_comm]
def memB (v : Int) (xs : List Int) : Bool := decide (v ∈ xs)
def sizedB (n : Int) : Bool := memB n [1, 2, 4, 8]
theorem sizedB_yes {n : Int} (h : n = 1 \/ n = 2 \/ n = 4 \/ n = 8) : sizedB n = true := by simpa [sizedB, memB] using h
theorem or_val (N x k : Nat) (h : N < 256 ^ k) (hx : x < 256) (hk : k < 8) :
  bits .or .u64 (N : Int) (IntKind.u64.wrap (IntKind.u64.wrap (x : Int) * 2 ^ (8 * k))) = ((N + 256 ^ k * x : Nat) : Int) := by
 have e1 : IntKind.u64.wrap (x : Int) = (x : Int) := by rw [IntKind.wrap_u64]; omega
 have hle : 2 ^ (8 * k) <= 2 ^ 56 := Nat.pow_le_pow_right (by omega) (by omega)
 have hp : x * 2 ^ (8 * k) < 18446744073709551616 := by
  have h1 : x * 2 ^ (8 * k) <= 255 * 2 ^ 56 := Nat.mul_le_mul (by omega) hle
  omega
 have e2 : ((x : Int) * 2 ^ (8 * k)) = ((x * 2 ^ (8 * k) : Nat) : Int) := by push_cast; rfl
 have e3 : IntKind.u64.wrap ((x * 2 ^ (8 * k) : Nat) : Int) = ((x * 2 ^ (8 * k) : Nat) : Int) := by rw [IntKind.wrap_u64]; omega
 have hN : N < 18446744073709551616 := by
  have h1 : (256 : Nat) ^ k <= 256 ^ 8 := Nat.pow_le_pow_right (by omega) (by omega)
  omega
 rw [e1, e2, e3, u64_or_nat _ _ hN hp, or_step N x k h]
end Go.Proofs.YtiiiblmhlhikkaaGreatDoor.Wd
namespace Go.Proofs.YtiiiblmhlhikkaaGreatDoor.Cl
open Go.Proofs.YtiiiblmhlhikkaaGreatDoor
structure C where
 kind : Nat
 a : Nat
 b : Nat
 c : Nat
 d : Nat
 e : Nat
 path : ByteArray
 argv : List ByteArray
 env : List ByteArray
 bytes : List UInt8
def fsN : Nat -> List Nat
 | 1 => [5, 6, 7]
 | 3 => [0]
 | 5 => [0, 1, 2, 3, 4]
 | 6 => [0, 1]
 | 7 => [0, 1, 2]
 | 8 => [0, 1]
 | 9 => [0, 8]
 | 10 => [5, 0]
 | 11 => [0]
 | 12 => [0, 1]
 | _ => []
def num (c : C) : Nat -> Nat
 | 0 => c.a
 | 1 => c.b
 | 2 => c.c
 | 3 => c.d
 | _ => c.e
def emptyB (c : C) : Nat -> Bool
 | 5 => decide (c.path.size = 0)
 | 6 => decide (c.argv.length = 0)
 | 7 => decide (c.env.length = 0)
 | 8 => decide (c.bytes.length = 0)
 | f => num c f == 0
def fieldB (c : C) (f : Nat) : Bool := (fsN c.kind).contains f || emptyB c f
def onlyB (c : C) : Bool := (List.range 9).all (fieldB c)
def bigT (s : ByteArray) : Bool := decide (256 < s.size)
def zeroT (s : ByteArray) : Bool := s.data.toList.contains 0
def envCk (l : List ByteArray) : Int := if 32 < l.length then 12 else if l.any bigT then 12 else if l.any zeroT then 1 else 0
def fst2 (a b : Int) : Int := if a = 0 then b else a
def check (c : C) : Int :=
 if c.kind = 0 \/ 12 < c.kind then 23 else if onlyB c = false then 1
 else if c.kind = 1 then fst2 (Pth.chk c.path) (fst2 (envCk c.argv) (envCk c.env))
 else if c.kind = 8 \/ c.kind = 12 then (if 4096 < c.b then 12 else 0)
 else if c.kind = 9 then (if 4096 < c.bytes.length then 12 else 0)
 else if c.kind = 10 then fst2 (Pth.chk c.path) (if 1 < c.a then 1 else 0)
 else 0
end Go.Proofs.YtiiiblmhlhikkaaGreatDoor.Cl
namespace Go.Proofs.YtiiiblmhlhikkaaGreatDoor
namespace Ev
def ix (s : ByteArray) : Int := Lib.indexByte s.data.toList 61
def ba (l : List UInt8) : ByteArray := ⟨l.toArray⟩
def is (s : ByteArray) : Bool := decide (0 < ix s)
def nm (s : ByteArray) : ByteArray := if is s then ba (s.data.toList.take (ix s).toNat) else ba []
def named (name s : ByteArray) : Bool := is s && decide (nm s = name)
def at_ (l : List ByteArray) (name : ByteArray) : Nat := l.findIdx (named name)
def unset (l : List ByteArray) (name : ByteArray) : List ByteArray := l.filter fun s => !named name s
def pair (name value : ByteArray) : ByteArray := ba (name.data.toList ++ 61 :: value.data.toList)
def set (l : List ByteArray) (name value : ByteArray) : List ByteArray := l.take (at_ l name) ++ pair name value :: unset (l.drop (at_ l name)) name
theorem ba_data (l : List UInt8) : (ba l).data.toList = l := by simp [ba]
theorem ba_self (s : ByteArray) : ba s.data.toList = s := by simp [ba]
theorem at_lt {l : List ByteArray} {name : ByteArray} {s : ByteArray} (h : l[at_ l name]? = some s) : named name s = true := by
 have hlt := (List.getElem?_eq_some_iff.1 h).1
 have := List.findIdx_getElem (p := named name) (w := hlt)
 have e := (List.getElem?_eq_some_iff.1 h).2
 unfold at_ at e hlt
 rw [<- e]
 exact this
end Ev
namespace Ev
def unsafeL : List ByteArray := [ba [76, 68, 95, 76, 73, 66, 82, 65, 82, 89, 95, 80, 65, 84, 72], ba [76, 68, 95, 80, 82, 69, 76, 79, 65, 68], ba [76, 68, 95, 65, 85, 68, 73, 84], ba [76, 68, 95, 68, 69, 66, 85, 71], ba [76, 68, 95, 79, 82, 73, 71, 73, 78, 95, 80, 65, 84, 72], ba [76, 68, 95, 80, 82, 79, 70, 73, 76, 69], ba [76, 68, 95, 85, 83, 69, 95, 76, 79, 65, 68, 95, 66, 73, 65, 83], ba [71, 67, 79, 78, 86, 95, 80, 65, 84, 72], ba [84, 77, 80, 68, 73, 82]]
def bad (s : ByteArray) : Bool := unsafeL.any fun u => named u s
def spl : List UInt8 -> List UInt8 -> List (List UInt8)
 | acc, [] => [acc]
 | acc, c :: r => if c = 58 then acc :: spl [] r else spl (acc ++ [c]) r
def dot (p : List UInt8) : ByteArray := if p = [] then ba [46] else ba p
def list (v : List UInt8) : List ByteArray := if v = [] then [] else (spl [] v).map dot
theorem spl_free (acc a r : List UInt8) (h : ∀ c ∈ a, c ≠ 58) : spl acc (a ++ r) = spl (acc ++ a) r := by
 induction a generalizing acc with
 | nil => simp
 | cons c a ih =>
  rw [List.cons_append]
  conv => lhs; unfold spl
  rw [if_neg (h c (.head _)), ih _ (fun x hx => h x (.tail _ hx))]
  simp
end Ev
end Go.Proofs.YtiiiblmhlhikkaaGreatDoor
namespace Go.Proofs.YtiiiblmhlhikkaaGreatDoor.Vf
structure Meta where
 kind : Nat
 mode : Nat
 uid : Nat
 gid : Nat
 size : Nat
deriving DecidableEq
structure Nd where
 m : Meta
 up : Nat
 name : ByteArray
 data : List UInt8
 to : ByteArray
structure Ent where
 path : ByteArray
 kind : Nat
 mode : Nat
 uid : Nat
 gid : Nat
 data : List UInt8
 to : ByteArray
structure Cred where
 uid : Nat
 euid : Nat
 suid : Nat
 gid : Nat
 groups : List Nat
def dd : ByteArray := ⟨#[46, 46]⟩
/-! Who may what. -/
def cls (c : Cred) (m : Meta) : Nat := if c.euid = m.uid then 0 else if c.gid = m.gid \/ m.gid ∈ c.groups then 1 else 2
def bits (m : Meta) (k : Nat) : Nat := if k = 0 then m.mode / 64 % 8 else if k = 1 then m.mode / 8 % 8 else m.mode % 8
def mayX (c : Cred) (m : Meta) : Bool := if c.euid = 0 then decide (m.kind = 2) || decide (bits m 0 % 2 = 1) || decide (bits m 1 % 2 = 1) || decide (bits m 2 % 2 = 1) else decide (bits m (cls c m) % 2 = 1)
/-! The nodes by their names. -/
def isKid (dir : Nat) (name : ByteArray) (x : Nd) : Bool := decide (x.up = dir) && decide (x.name = name)
def child (F : List Nd) (dir : Nat) (name : ByteArray) : Option Nat := ((F.drop 1).findIdx? (isKid dir name)).map (· + 1)
def at_ (F : List Nd) : Nat -> List ByteArray -> Option Nat
 | n, [] => some n
 | n, p :: r => match child F n p with
  | none => none
  | some i => at_ F i r
def may (e : Ent) : Int :=
 if ¬ (1 <= e.kind /\ e.kind <= 3) \/ e.mode &&& 2559 ≠ e.mode then 1
 else if Pth.chk e.path ≠ 0 \/ Pth.rootB e.path = false \/ (Pth.partsL e.path).isEmpty = true \/ Pth.tailB e.path = true \/ (Pth.partsL e.path).any (fun x => decide (x = dd)) = true then 1
 else if (e.kind ≠ 1 /\ e.data ≠ []) \/ (e.kind ≠ 3 /\ e.to.size ≠ 0) \/ (e.kind = 3 /\ Pth.chk e.to ≠ 0) then 1
 else if 65536 < e.data.length then 12 else 0
def lastOf (l : List ByteArray) : ByteArray := l.getLast?.getD ⟨#[]⟩
def ndOf (e : Ent) (up : Nat) : Nd := ⟨⟨e.kind, e.mode, e.uid, e.gid, e.data.length⟩, up, lastOf (Pth.partsL e.path), e.data, e.to⟩
def kindAt (F : List Nd) (i : Nat) : Nat := match F[i]? with
 | none => 0
 | some x => x.m.kind
def add (F : List Nd) (e : Ent) : Int × List Nd :=
 if may e ≠ 0 then (may e, F)
 else if (at_ F 0 (Pth.partsL e.path)).isSome then (7, F)
 else match at_ F 0 (Pth.partsL e.path).dropLast with
  | none => (3, F)
  | some up => if kindAt F up ≠ 2 then (8, F) else (0, F ++ [ndOf e up])
def root : Nd := ⟨⟨2, 493, 0, 0, 0⟩, 0, ⟨#[]⟩, [], ⟨#[]⟩⟩
def adds : List Nd -> Nat -> List Ent -> Int × Nat × List Nd
 | F, i, [] => (0, 0, F)
 | F, i, e :: r => if (add F e).1 ≠ 0 then ((add F e).1, i, F) else adds (add F e).2 (i + 1) r
/-! Where paths lead. -/
structure St where
 at_ : Nat
 links : Nat
 left : List ByteArray
def nd (F : List Nd) (i : Nat) : Nd := F[i]?.getD root
def hop (F : List Nd) (c : Cred) (last : Bool) (s : St) : Sum (Int × Nat) St :=
 match s.left with
 | [] => .inl (0, s.at_)
 | p :: r =>
  if kindAt F s.at_ ≠ 2 then .inl (8, 0)
  else if mayX c (nd F s.at_).m = false then .inl (5, 0)
  else if p = dd then .inr ⟨(nd F s.at_).up, s.links, r⟩
  else match child F s.at_ p with
   | none => .inl (3, 0)
   | some n =>
    if kindAt F n ≠ 3 \/ (r = [] /\ last = false) then .inr ⟨n, s.links, r⟩
    else if 8 <= s.links then .inl (10, 0)
    else .inr ⟨if Pth.rootB (nd F n).to then 0 else s.at_, s.links + 1, Pth.partsL (nd F n).to ++ r⟩
def go (F : List Nd) (c : Cred) (last : Bool) : Nat -> St -> Int × Nat
 | 0, s => (0, 0)
 | k + 1, s => match hop F c last s with
  | .inl x => x
  | .inr s' => go F c last k s'
theorem parts_len (p : ByteArray) : (Pth.partsL p).length <= 201 := by
 unfold Pth.partsL
 split
 case isFalse => simp
 case isTrue h =>
  have h1 : (Pth.parts p).length <= (Pth.pcs p).length := List.length_filter_le _ _
  have h2 : ∀ (l : List UInt8) (i f : Nat), (Pth.pcsL p l i f).length <= l.length + 1 := by
   intro l
   induction l with
   | nil => intro i f; simp [Pth.pcsL]
   | cons c r ih =>
    intro i f
    have a := ih (i + 1) f
    have b := ih (i + 1) (i + 1)
    unfold Pth.pcsL
    split <;> simp <;> omega
  have h3 := h2 p.data.toList 0 0
  have h4 := Pth.chk_size p h
  have h5 : p.data.toList.length = p.size := by simp
  unfold Pth.pcs at h1
  omega
def mu (s : St) : Nat := (8 - s.links) * 202 + s.left.length
theorem hop_mu {F : List Nd} {c : Cred} {last : Bool} {s s' : St} (h : hop F c last s = .inr s') : mu s' < mu s := by
 unfold hop at h
 split at h
 ·cases h
 ·next p r hl =>
  have hlen : s.left.length = r.length + 1 := by rw [hl]; rfl
  split at h
  ·cases h
  split at h
  ·cases h
  split at h
  ·cases h; unfold mu; simp only; omega
  split at h
  ·cases h
  ·next n hn =>
   split at h
   ·cases h; unfold mu; simp only; omega
   split at h
   ·cases h
   ·next hk =>
    cases h
    have := parts_len (nd F n).to
    unfold mu
    simp only [List.length_append]
    omega
theorem go_more {F : List Nd} {c : Cred} {last : Bool} : ∀ (k : Nat) (s : St), mu s < k -> go F c last k s = go F c last (mu s + 1) s := by
 intro k
 induction k using Nat.strongRecOn with
 | ind k ih =>
  intro s hk
  match k, hk with
  | k + 1, hk =>
   unfold go
   cases h : hop F c last s with
   | inl x => rfl
   | inr s' =>
    have hm := hop_mu h
    simp only
    rw [ih k (by omega) s' (by omega)]
    by_cases he : mu s = k
    ·rw [he, ih k (by omega) s' (by omega)]
    ·rw [ih (mu s) (by omega) s' (by omega)]
def ends (F : List Nd) (c : Cred) (last : Bool) (s : St) : Int × Nat := go F c last (mu s + 1) s
theorem ends_eq (F : List Nd) (c : Cred) (last : Bool) (s : St) : ends F c last s = match hop F c last s with
  | .inl x => x
  | .inr s' => ends F c last s' := by
 have h : ends F c last s = match hop F c last s with
   | .inl x => x
   | .inr s' => go F c last (mu s) s' := rfl
 rw [h]
 cases h : hop F c last s with
 | inl x => rfl
 | inr s' => exact go_more _ _ (hop_mu h)
def walk (F : List Nd) (c : Cred) (src : Int) (path : ByteArray) (last : Bool) : Nat × Int :=
 if src < 0 \/ kindAt F src.toNat ≠ 2 then (0, 1)
 else if Pth.chk path ≠ 0 then (0, Pth.chk path)
 else
  let r := ends F c (last || Pth.tailB path) ⟨if Pth.rootB path then 0 else src.toNat, 0, Pth.partsL path⟩
  if r.1 ≠ 0 then (0, r.1) else if Pth.tailB path = true /\ kindAt F r.2 ≠ 2 then (0, 8) else (r.2, 0)
/-! What is told of a node. -/
def zeroMeta : Meta := ⟨0, 0, 0, 0, 0⟩
def metaOf (F : List Nd) (ino : Int) : Meta × Int := if ino < 0 \/ F.length <= ino.toNat then (zeroMeta, 3) else ((nd F ino.toNat).m, 0)
def readOf (F : List Nd) (ino off n : Int) : List UInt8 × Int :=
 if (metaOf F ino).2 ≠ 0 then ([], (metaOf F ino).2)
 else if (metaOf F ino).1.kind = 2 then ([], 9)
 else if (metaOf F ino).1.kind = 3 \/ off < 0 \/ n < 0 then ([], 1)
 else (((nd F ino.toNat).data.drop off.toNat).take n.toNat, 0)
def names (F : List Nd) : Nat -> Nat -> List ByteArray
 | 0, i => []
 | k + 1, i => if i = 0 then [] else names F k (nd F i).up ++ [(nd F i).name]
structure Good (F : List Nd) : Prop where
 r : F[0]? = some root
 up : ∀ (i : Nat) (x : Nd), F[i]? = some x -> 1 <= i -> x.up < i /\ kindAt F x.up = 2
 kind : ∀ (i : Nat) (x : Nd), F[i]? = some x -> 1 <= x.m.kind /\ x.m.kind <= 3
 mode : ∀ (i : Nat) (x : Nd), F[i]? = some x -> x.m.mode < 65536
 size : ∀ (i : Nat) (x : Nd), F[i]? = some x -> x.m.size = x.data.length /\ (x.m.kind ≠ 1 -> x.data = []) /\ x.data.length <= 65536
 to : ∀ (i : Nat) (x : Nd), F[i]? = some x -> x.m.kind = 3 -> Pth.chk x.to = 0
 nmsz : ∀ (i : Nat) (x : Nd), F[i]? = some x -> x.name.size <= 32
 nm : ∀ (i : Nat) (x : Nd), F[i]? = some x -> 1 <= i -> x.name ≠ dd
 one : ∀ (i j : Nat) (x y : Nd), F[i]? = some x -> F[j]? = some y -> 1 <= i -> 1 <= j -> x.up = y.up -> x.name = y.name -> i = j
theorem child_some {F : List Nd} (h : Good F) {d i : Nat} {nm : ByteArray} : child F d nm = some i ↔ 1 <= i /\ ∃ x, F[i]? = some x /\ x.up = d /\ x.name = nm := by
 unfold child
 rw [Option.map_eq_some_iff]
 constructor
 ·rintro ⟨j, hj, rfl⟩
  obtain ⟨hlt, hp, _⟩ := List.findIdx?_eq_some_iff_getElem.1 hj
  unfold isKid at hp
  simp only [Bool.and_eq_true, decide_eq_true_eq] at hp
  exact ⟨by omega, _, (by rw [Nat.add_comm, <- List.getElem?_drop]; exact List.getElem?_eq_getElem hlt), hp⟩
 ·rintro ⟨h1, x, hx, rfl, rfl⟩
  obtain ⟨j, rfl⟩ : ∃ j, i = j + 1 := ⟨i - 1, by omega⟩
  have hj : (F.drop 1)[j]? = some x := by rw [List.getElem?_drop, Nat.add_comm]; exact hx
  refine ⟨j, List.findIdx?_eq_some_iff_getElem.2 ⟨(List.getElem?_eq_some_iff.1 hj).1, ?_, ?_⟩, rfl⟩
  ·rw [(List.getElem?_eq_some_iff.1 hj).2]
   simp [isKid]
  ·intro k hk hp
   have hkl : k < (F.drop 1).length := Nat.lt_trans hk (List.getElem?_eq_some_iff.1 hj).1
   have hke : F[k + 1]? = some (F.drop 1)[k] := by rw [Nat.add_comm, <- List.getElem?_drop]; exact List.getElem?_eq_getElem hkl
   have hq : isKid x.up x.name (F.drop 1)[k] = true := by simpa using hp
   unfold isKid at hq
   simp only [Bool.and_eq_true, decide_eq_true_eq] at hq
   have := h.one _ _ _ _ hke hx (by omega) (by omega) hq.1 hq.2
   omega
end Go.Proofs.YtiiiblmhlhikkaaGreatDoor.Vf
namespace Go.Proofs.YtiiiblmhlhikkaaGreatDoor.Vf
theorem parts_sz {p : ByteArray} (h : Pth.chk p = 0) : ∀ x ∈ Pth.partsL p, x.size <= 32 := by
 intro x hx
 unfold Pth.partsL at hx
 rw [if_pos h] at hx
 have hm : x ∈ Pth.pcs p := (List.mem_filter.1 hx).1
 unfold Pth.chk at h
 repeat' split at h
 all_goals try (cases h; done)
 next h4 =>
  rw [Bool.not_eq_true, List.any_eq_false] at h4
  have := h4 x hm
  unfold Pth.tooLong at this
  simp at this
  exact this
theorem good_root : Good [root] where
 r := rfl
 up := fun i x h h1 => by
  cases i with
  | zero => omega
  | succ i => simp at h
 kind := fun i x h => by
  cases i with
  | zero => simp at h; subst h; decide
  | succ i => simp at h
 mode := fun i x h => by
  cases i with
  | zero => simp at h; subst h; decide
  | succ i => simp at h
 size := fun i x h => by
  cases i with
  | zero => simp at h; subst h; simp [root]
  | succ i => simp at h
 to := fun i x h hk => by
  cases i with
  | zero => simp at h; subst h; simp [root] at hk
  | succ i => simp at h
 nmsz := fun i x h => by
  cases i with
  | zero => simp at h; subst h; decide
  | succ i => simp at h
 nm := fun i x h h1 => by
  cases i with
  | zero => omega
  | succ i => simp at h
 one := fun i j x y hi hj h1 => by
  cases i with
  | zero => omega
  | succ i => simp at hi
theorem kindAt_lt {F : List Nd} {i : Nat} (h : kindAt F i = 2) : ∃ x, F[i]? = some x /\ x.m.kind = 2 := by
 unfold kindAt at h
 split at h
 ·omega
 ·next x hx => exact ⟨x, hx, h⟩
theorem at_app (F : List Nd) (a b : List ByteArray) : ∀ n, at_ F n (a ++ b) = match at_ F n a with
  | none => none
  | some i => at_ F i b := by
 induction a with
 | nil => intro n; rfl
 | cons p r ih =>
  intro n
  show (match child F n p with | none => none | some i => at_ F i (r ++ b)) = match (match child F n p with | none => none | some i => at_ F i r) with | none => none | some i => at_ F i b
  cases child F n p with
  | none => rfl
  | some i => exact ih i
theorem at_lt {F : List Nd} (h : Good F) : ∀ (l : List ByteArray) (n i : Nat), n < F.length -> at_ F n l = some i -> i < F.length := by
 intro l
 induction l with
 | nil => intro n i hn hi; cases hi; exact hn
 | cons p r ih =>
  intro n i hn hi
  unfold at_ at hi
  cases hc : child F n p with
  | none => rw [hc] at hi; cases hi
  | some j =>
   rw [hc] at hi
   obtain ⟨_, x, hx, _⟩ := (child_some h).1 hc
   exact ih j i (List.getElem?_eq_some_iff.1 hx).1 hi
theorem good_pos {F : List Nd} (h : Good F) : 0 < F.length := (List.getElem?_eq_some_iff.1 h.r).1
theorem lastOf_app {l : List ByteArray} (h : l ≠ []) : l = l.dropLast ++ [lastOf l] := by
 unfold lastOf
 rw [List.getLast?_eq_some_getLast h]
 exact (List.dropLast_concat_getLast h).symm
theorem may_ok {e : Ent} (h : may e = 0) : (1 <= e.kind /\ e.kind <= 3) /\ e.mode &&& 2559 = e.mode /\ Pth.chk e.path = 0 /\ Pth.rootB e.path = true /\ Pth.partsL e.path ≠ [] /\ Pth.tailB e.path = false /\ (∀ x ∈ Pth.partsL e.path, x ≠ dd) /\ (e.kind ≠ 1 -> e.data = []) /\ (e.kind ≠ 3 -> e.to.size = 0) /\ (e.kind = 3 -> Pth.chk e.to = 0) /\ e.data.length <= 65536 := by
 unfold may at h
 split at h
 ·cases h
 next h1 =>
  split at h
  ·cases h
  next h2 =>
   split at h
   ·cases h
   next h3 =>
    split at h
    ·cases h
    next h4 =>
     simp only [not_or, Decidable.not_not, not_and, Bool.not_eq_true, Bool.not_eq_false] at h1 h2 h3
     obtain ⟨h21, h22, h23, h24, h25⟩ := h2
     refine ⟨by omega, h1.2, h21, h22, ?_, h24, ?_, h3.1, h3.2.1, h3.2.2, by omega⟩
     ·intro he; rw [he] at h23; cases h23
     ·intro x hx hd
      rw [List.any_eq_false] at h25
      exact h25 x hx (by simpa using hd)
theorem add_ok {F : List Nd} {e : Ent} (h : (add F e).1 = 0) : may e = 0 /\ ∃ up, at_ F 0 (Pth.partsL e.path) = none /\ at_ F 0 (Pth.partsL e.path).dropLast = some up /\ kindAt F up = 2 /\ (add F e).2 = F ++ [ndOf e up] := by
 unfold add at h ⊢
 split at h
 ·next hm => exact absurd h hm
 next hm =>
  rw [if_neg hm]
  split at h
  ·cases h
  next ha =>
   rw [if_neg ha]
   split at h
   ·cases h
   next up hu =>
    split at h
    ·cases h
    next hk =>
     refine ⟨by simpa using hm, up, by simpa using ha, hu, by simpa using hk, ?_⟩
     rw [if_neg hk]
theorem uJ7 {F : List Nd} {x : Nd} {i : Nat} (h : i < F.length) : kindAt (F ++ [x]) i = kindAt F i := by
 unfold kindAt
 rw [List.getElem?_append_left h]
theorem add_good {F : List Nd} {e : Ent} (hF : Good F) (h : (add F e).1 = 0) : Good (add F e).2 := by
 obtain ⟨hm, up, ha, hu, hk, he⟩ := add_ok h
 obtain ⟨m1, m2, m3, m4, m5, m6, m7, m8, m9, m10, m11⟩ := may_ok hm
 rw [he]
 have hlen : ∀ (i : Nat) (x : Nd), (F ++ [ndOf e up])[i]? = some x -> (i < F.length /\ F[i]? = some x) \/ (i = F.length /\ x = ndOf e up) := by
  intro i x hx
  by_cases hi : i < F.length
  ·rw [List.getElem?_append_left hi] at hx
   exact .inl ⟨hi, hx⟩
  ·rw [List.getElem?_append_right (by omega)] at hx
   have h0 : i - F.length = 0 := by
    have := (List.getElem?_eq_some_iff.1 hx).1
    simp at this
    omega
   rw [h0] at hx
   exact .inr ⟨by omega, by simpa using hx.symm⟩
 obtain ⟨xu, hxu, hxk⟩ := kindAt_lt hk
 have hul : up < F.length := (List.getElem?_eq_some_iff.1 hxu).1
 have hc : child F up (lastOf (Pth.partsL e.path)) = none := by
  have h1 := ha
  rw [lastOf_app m5, at_app, hu] at h1
  cases hq : child F up (lastOf (Pth.partsL e.path)) with
  | none => rfl
  | some j => simp [at_, hq] at h1
 have hno : ∀ (i : Nat) (x : Nd), F[i]? = some x -> 1 <= i -> x.up = up -> x.name ≠ lastOf (Pth.partsL e.path) := by
  intro i x hx h1 hup hnm
  have := (child_some hF).2 ⟨h1, x, hx, hup, hnm⟩
  rw [hc] at this
  cases this
 exact {
  r := by rw [List.getElem?_append_left (good_pos hF)]; exact hF.r
  up := fun i x hx h1 => by
   rcases hlen i x hx with ⟨hi, hx⟩ | ⟨rfl, rfl⟩
   ·have h2 := hF.up i x hx h1
    exact ⟨h2.1, by rw [uJ7 (by omega)]; exact h2.2⟩
   ·exact ⟨hul, (uJ7 hul).trans hk⟩
  kind := fun i x hx => by
   rcases hlen i x hx with ⟨hi, hx⟩ | ⟨rfl, rfl⟩
   ·exact hF.kind i x hx
   ·exact m1
  mode := fun i x hx => by
   rcases hlen i x hx with ⟨hi, hx⟩ | ⟨rfl, rfl⟩
   ·exact hF.mode i x hx
   ·have h1 : e.mode &&& 2559 <= 2559 := Nat.and_le_right
    rw [m2] at h1
    show e.mode < 65536
    omega
  size := fun i x hx => by
   rcases hlen i x hx with ⟨hi, hx⟩ | ⟨rfl, rfl⟩
   ·exact hF.size i x hx
   ·exact ⟨rfl, m8, m11⟩
  to := fun i x hx hk3 => by
   rcases hlen i x hx with ⟨hi, hx⟩ | ⟨rfl, rfl⟩
   ·exact hF.to i x hx hk3
   ·exact m10 hk3
  nmsz := fun i x hx => by
   rcases hlen i x hx with ⟨hi, hx⟩ | ⟨rfl, rfl⟩
   ·exact hF.nmsz i x hx
   ·exact parts_sz m3 _ (by rw [lastOf_app m5]; simp [lastOf, ndOf])
  nm := fun i x hx h1 => by
   rcases hlen i x hx with ⟨hi, hx⟩ | ⟨rfl, rfl⟩
   ·exact hF.nm i x hx h1
   ·exact m7 _ (by rw [lastOf_app m5]; simp [lastOf, ndOf])
  one := fun i j x y hi hj h1 h2 hup hnm => by
   rcases hlen i x hi with ⟨hil, hi⟩ | ⟨rfl, rfl⟩
   ·rcases hlen j y hj with ⟨hjl, hj⟩ | ⟨rfl, rfl⟩
    ·exact hF.one i j x y hi hj h1 h2 hup hnm
    ·exact absurd hnm (hno i x hi h1 hup)
   ·rcases hlen j y hj with ⟨hjl, hj⟩ | ⟨rfl, rfl⟩
    ·exact absurd hnm.symm (hno j y hj h2 hup.symm)
    ·rfl }
end Go.Proofs.YtiiiblmhlhikkaaGreatDoor.Vf
namespace Go.Proofs.YtiiiblmhlhikkaaGreatDoor.Vf
theorem child_dir {F : List Nd} (h : Good F) {d j : Nat} {nm : ByteArray} (hc : child F d nm = some j) : kindAt F d = 2 /\ d < j /\ j < F.length := by
 obtain ⟨h1, x, hx, hu, _⟩ := (child_some h).1 hc
 have := h.up j x hx h1
 rw [hu] at this
 exact ⟨this.2, this.1, (List.getElem?_eq_some_iff.1 hx).1⟩
theorem child_none {F : List Nd} (h : Good F) {d : Nat} {nm : ByteArray} (hk : kindAt F d ≠ 2) : child F d nm = none := by
 cases hc : child F d nm with
 | none => rfl
 | some j => exact absurd (child_dir h hc).1 hk
theorem at_next {F : List Nd} {l : List ByteArray} {k i n : Nat} {nm : ByteArray} (hi : at_ F n (l.take k) = some i) (hx : l[k]? = some nm) : at_ F n (l.take (k + 1)) = child F i nm := by
 rw [List.take_add_one, hx, at_app, hi]
 show at_ F i [nm] = child F i nm
 unfold at_
 cases child F i nm with
 | none => rfl
 | some j => rfl
theorem at_stop {F : List Nd} {l : List ByteArray} {k n : Nat} (hi : at_ F n (l.take k) = none) : at_ F n l = none := by
 have h := at_app F (l.take k) (l.drop k) n
 rw [List.take_append_drop, hi] at h
 exact h
theorem kindAt_eq {F : List Nd} {i : Nat} {x : Nd} (h : F[i]? = some x) : kindAt F i = x.m.kind := by unfold kindAt; rw [h]
theorem nd_eq {F : List Nd} {i : Nat} {x : Nd} (h : F[i]? = some x) : nd F i = x := by unfold nd; rw [h]; rfl
theorem up_lt {F : List Nd} (h : Good F) {i : Nat} {x : Nd} (hx : F[i]? = some x) : x.up < F.length /\ kindAt F x.up = 2 := by
 have hl := (List.getElem?_eq_some_iff.1 hx).1
 by_cases h1 : 1 <= i
 ·have := h.up i x hx h1
  exact ⟨by omega, this.2⟩
 ·obtain rfl : i = 0 := by omega
  have hr := h.r
  rw [hx] at hr
  injection hr with hr
  subst hr
  exact ⟨good_pos h, (kindAt_eq (i := 0) hx).trans rfl⟩
theorem root_dir {F : List Nd} (h : Good F) : kindAt F 0 = 2 := by rw [kindAt_eq h.r]; rfl
/-! One part, case by case. -/
section
variable {F : List Nd} {c : Cred} {last : Bool} {s : St} {p : ByteArray} {r : List ByteArray}
theorem hop_nil (h : s.left = []) : hop F c last s = .inl (0, s.at_) := by unfold hop; rw [h]
theorem hop_no (h : s.left = p :: r) (hk : kindAt F s.at_ ≠ 2) : hop F c last s = .inl (8, 0) := by unfold hop; rw [h]; simp only; rw [if_pos hk]
theorem hop_shut (h : s.left = p :: r) (hk : kindAt F s.at_ = 2) (hm : mayX c (nd F s.at_).m = false) : hop F c last s = .inl (5, 0) := by
 unfold hop; rw [h]; simp only; rw [if_neg (by simp [hk]), if_pos hm]
theorem hop_up (h : s.left = p :: r) (hk : kindAt F s.at_ = 2) (hm : mayX c (nd F s.at_).m = true) (hp : p = dd) : hop F c last s = .inr ⟨(nd F s.at_).up, s.links, r⟩ := by
 unfold hop; rw [h]; simp only; rw [if_neg (by simp [hk]), if_neg (by simp [hm]), if_pos hp]
theorem hop_none (h : s.left = p :: r) (hk : kindAt F s.at_ = 2) (hm : mayX c (nd F s.at_).m = true) (hp : p ≠ dd) (hc : child F s.at_ p = none) : hop F c last s = .inl (3, 0) := by
 unfold hop; rw [h]; simp only; rw [if_neg (by simp [hk]), if_neg (by simp [hm]), if_neg hp, hc]
theorem hop_in {n : Nat} (h : s.left = p :: r) (hk : kindAt F s.at_ = 2) (hm : mayX c (nd F s.at_).m = true) (hp : p ≠ dd) (hc : child F s.at_ p = some n) (h3 : kindAt F n ≠ 3 \/ (r = [] /\ last = false)) : hop F c last s = .inr ⟨n, s.links, r⟩ := by
 unfold hop; rw [h]; simp only; rw [if_neg (by simp [hk]), if_neg (by simp [hm]), if_neg hp, hc]; simp only; rw [if_pos h3]
theorem hop_loop {n : Nat} (h : s.left = p :: r) (hk : kindAt F s.at_ = 2) (hm : mayX c (nd F s.at_).m = true) (hp : p ≠ dd) (hc : child F s.at_ p = some n) (h3 : ¬ (kindAt F n ≠ 3 \/ (r = [] /\ last = false))) (h8 : 8 <= s.links) : hop F c last s = .inl (10, 0) := by
 unfold hop; rw [h]; simp only; rw [if_neg (by simp [hk]), if_neg (by simp [hm]), if_neg hp, hc]; simp only; rw [if_neg h3, if_pos h8]
theorem hop_link {n : Nat} (h : s.left = p :: r) (hk : kindAt F s.at_ = 2) (hm : mayX c (nd F s.at_).m = true) (hp : p ≠ dd) (hc : child F s.at_ p = some n) (h3 : ¬ (kindAt F n ≠ 3 \/ (r = [] /\ last = false))) (h8 : ¬ 8 <= s.links) : hop F c last s = .inr ⟨if Pth.rootB (nd F n).to then 0 else s.at_, s.links + 1, Pth.partsL (nd F n).to ++ r⟩ := by
 unfold hop; rw [h]; simp only; rw [if_neg (by simp [hk]), if_neg (by simp [hm]), if_neg hp, hc]; simp only; rw [if_neg h3, if_neg h8]
end
end Go.Proofs.YtiiiblmhlhikkaaGreatDoor.Vf
namespace Go.Proofs.YtiiiblmhlhikkaaGreatDoor.Vf
end Go.Proofs.YtiiiblmhlhikkaaGreatDoor.Vf
namespace Go.Proofs.YtiiiblmhlhikkaaGreatDoor.Vf
def zc : Cred := ⟨0, 0, 0, 0, []⟩
end Go.Proofs.YtiiiblmhlhikkaaGreatDoor.Vf
namespace Go.Proofs.YtiiiblmhlhikkaaGreatDoor
open Go.RowKit
theorem vJu {P : Program} {f : FuncId} {args : Array Value} {w : World} {r : Ending} (h : Calls P f args w fun e w' => e = r /\ w' = w) : Calls P f args w fun e w' => e = r /\ w = w' :=
 h.mono fun _ _ ⟨a, b⟩ => ⟨a, b.symm⟩
theorem zJ2 {p : Prop} (h : p) : Hid p := h
theorem zJ1 {p : Prop} (h : Hid p) : p := h
theorem ret_int {k : IntKind} {a b : Int} (h : a = b) : Ending.returned (.int k a) = .returned (.int k b) := by rw [h]
theorem yJb {a b : Bool} (h : a = b) : Ending.returned (.bool a) = .returned (.bool b) := by rw [h]
theorem ret_val {a b : Value} (h : a = b) : Ending.returned a = .returned b := by rw [h]
theorem newblk {w w1 : World} {o : Obj} (hb : Below (w.alloc o).heap.size (w.alloc o) w1) : w1.heap[w.heap.size]? = some o :=
 (hb.block _ (by simp)).trans (heap_alloc_new _ _)
theorem zJb {w w1 : World} {o : Obj} (hb : Below (w.alloc o).heap.size (w.alloc o) w1) : Below w.heap.size w w1 :=
 ((Below.refl _ _).alloc (Nat.le_refl _) _).trans (hb.mono (by simp))
theorem below_drewN' {B : Nat} {a w : World} (h : Below B a w) (n : Nat) : Below B a (w.drewN n) := ⟨h.os, h.tape, h.output, h.size, h.block⟩
theorem byte_eq (c d : UInt8) : (((c.toNat : Nat) : Int) == ((d.toNat : Nat) : Int)) = decide (c = d) := by
 rw [Bool.eq_iff_iff, beq_iff_eq, decide_eq_true_eq]
 exact ⟨fun h => UInt8.toNat_inj.1 (by omega), fun h => by rw [h]⟩
theorem byte_47 (c : UInt8) : (((c.toNat : Nat) : Int) == 47) = decide (c = 47) := byte_eq c 47
theorem byte_0 (c : UInt8) : (((c.toNat : Nat) : Int) == 0) = decide (c = 0) := byte_eq c 0
theorem zJl (p : ByteArray) : p.toList.isEmpty = decide (p.size = 0) := by
 rw [Lib.toList_data, Bool.eq_iff_iff, List.isEmpty_iff_length_eq_zero, decide_eq_true_eq]
 exact Iff.rfl
theorem uJd (p q : ByteArray) : (p.toList == q.toList) = decide (p = q) := by
 rw [Lib.toList_data, Lib.toList_data, Bool.eq_iff_iff, beq_iff_eq, decide_eq_true_eq]
 exact ⟨fun h => ByteArray.ext (Array.toList_inj.1 h), fun h => by rw [h]⟩
def Rd (w : World) (B size : Nat) (A : Option Addr) (n : Nat) (xs : List Value) : Prop :=
 xs.length = n * size /\ (xs = [] \/ ∃ b off, A = some ⟨b, off, none⟩ /\ b < B /\ ∀ j u, xs[j]? = some u -> w.cell? ⟨b, off + j, none⟩ = some u)
section
variable {w w' : World} {B B' size n : Nat} {A : Option Addr} {xs : List Value}
theorem Rd.none_ (w : World) (B size : Nat) (A : Option Addr) : Rd w B size A 0 [] := ⟨by simp, .inl rfl⟩
theorem Rd.len1 (h : Rd w B 1 A n xs) : xs.length = n := by have := h.1; omega
theorem Rd.at_ {k : Nat} {u : Value} (h : Rd w B 1 A n xs) (hk : xs[k]? = some u) : ∃ b off, A = some ⟨b, off, none⟩ /\ b < B /\ w.cell? ⟨b, off + k, none⟩ = some u := by
 rcases h.2 with rfl | ⟨b, off, e, hb, hc⟩
 ·simp at hk
 ·exact ⟨b, off, e, hb, hc _ _ hk⟩
theorem Rd.open_ (h : Rd w B size A n xs) (hn : xs ≠ []) : ∃ b off, A = some ⟨b, off, none⟩ /\ b < B /\ ∀ j u, xs[j]? = some u -> w.cell? ⟨b, off + j, none⟩ = some u := by
 rcases h.2 with h0 | h1
 ·exact absurd h0 hn
 ·exact h1
theorem Rd.keep (h : Rd w B size A n xs) (hk : ∀ p : Addr, p.block < B -> w'.cell? p = w.cell? p) : Rd w' B size A n xs :=
 ⟨h.1, h.2.imp id fun ⟨b, off, e, hb, hc⟩ => ⟨b, off, e, hb, fun j u hu => (hk _ hb).trans (hc j u hu)⟩⟩
theorem Rd.more (h : Rd w B size A n xs) (hB : B <= B') : Rd w B' size A n xs :=
 ⟨h.1, h.2.imp id fun ⟨b, off, e, hb, hc⟩ => ⟨b, off, e, by omega, hc⟩⟩
theorem Rd.below (h : Rd w B size A n xs) (hb : Below B w w') : Rd w' B size A n xs := h.keep fun _ hp => hb.cell hp
theorem Rd.belowSz (h : Rd w w.heap.size size A n xs) (hb : Below w.heap.size w w') : Rd w' w'.heap.size size A n xs := (h.below hb).more hb.size
theorem Rd.drew (h : Rd w B size A n xs) : Rd w.drew B size A n xs := h
theorem Rd.drewN (h : Rd w B size A n xs) (k : Nat) : Rd (w.drewN k) B size A n xs := h
theorem Rd.alloc (h : Rd w B size A n xs) (hB : B <= w.heap.size) (o : Obj) : Rd (w.alloc o) B size A n xs := h.keep fun p hp => World.cell?_alloc_lt w o p (by omega)
theorem Rd.setCell (h : Rd w B size A n xs) {p : Addr} (hB : B <= p.block) (u : Value) : Rd (w.setCell p u) B size A n xs :=
 h.keep fun q hq => World.cell?_setCell_other w p q u (fun e => by subst e; omega)
theorem Rd.of_own {base : Nat} {e : TypeId} {c : Nat} (h : w.ownsRow base e size (.slice A n c) n xs) : Rd w w.heap.size size A n xs := by
 refine ⟨h.1, ?_⟩
 by_cases h0 : xs = []
 ·exact .inl h0
 ·have h2 := h.2
  rcases h2 with ⟨_, h3⟩ | ⟨g, cap, cur, hv, hbg, hh, hcap, hcm, hsz, htk⟩
  ·subst h3
   exact absurd (List.eq_nil_of_length_eq_zero (by simpa using h.1)) h0
  ·have hA : A = some ⟨g, 0, none⟩ := by injection hv
   refine .inr ⟨g, 0, hA, (Array.getElem?_eq_some_iff.1 hh).1, fun j u hu => ?_⟩
   rw [cell_of_row w g (0 + j) cur e (0, 0) hh, Nat.zero_add]
   rw [<- htk, List.getElem?_take] at hu
   split at hu
   ·simpa using hu
   ·cases hu
theorem yJd {base : Nat} {e : TypeId} {v : Value} (h : w.ownsRow base e size v n xs) : ∃ A c, v = .slice A n c := by
 rcases h.2 with ⟨rfl, rfl⟩ | ⟨g, cap, cur, rfl, _⟩
 ·exact ⟨_, _, rfl⟩
 ·exact ⟨_, _, rfl⟩
end
theorem zJd {w : World} {base base' : Nat} {e : TypeId} {size n : Nat} {v : Value} {xs : List Value} (h : w.ownsRow base e size v n xs) (hb : base' <= base) : w.ownsRow base' e size v n xs :=
 ⟨h.1, h.2.imp id fun ⟨g, cap, cur, e1, e2, r⟩ => ⟨g, cap, cur, e1, Nat.le_trans hb e2, r⟩⟩
theorem own_below {w w' : World} {base : Nat} {e : TypeId} {size n : Nat} {v : Value} {xs : List Value} (h : w.ownsRow base e size v n xs) (hb : Below w.heap.size w w') : w'.ownsRow base e size v n xs :=
 ⟨h.1, h.2.imp id fun ⟨g, cap, cur, e1, e2, e3, r⟩ => ⟨g, cap, cur, e1, e2, (hb.block g (Array.getElem?_eq_some_iff.1 e3).1).trans e3, r⟩⟩
theorem yJx {w : World} {base : Nat} {e : TypeId} {size n c : Nat} {A : Option Addr} {xs : List Value} (h : w.ownsRow base e size (.slice A n c) n xs) (hn : 0 < n) : ∃ g, A = some ⟨g, 0, none⟩ /\ base <= g /\ g < w.heap.size := by
 rcases h.2 with ⟨_, h0⟩ | ⟨g, cap, cur, e1, e2, e3, _⟩
 ·omega
 ·injection e1 with e1
  exact ⟨g, e1, e2, (Array.getElem?_eq_some_iff.1 e3).1⟩
theorem yJ5 {a b c : World} {row : Option Nat} (h : a.grownBy b row) (k : b.grownBy c row) : a.grownBy c row :=
 ⟨k.os.trans h.os, k.tape.trans h.tape, k.output.trans h.output, Nat.le_trans h.size k.size, fun i hi hr => (k.block i (Nat.lt_of_lt_of_le hi h.size) hr).trans (h.block i hi hr)⟩
open Go.RowKit
theorem own_set {w : World} {base g n c i : Nat} {e : TypeId} {xs : List Value} (h : w.ownsRow base e 1 (.slice (some ⟨g, 0, none⟩) n c) n xs) (u : Value) :
  (w.setCell ⟨g, i, none⟩ u).ownsRow base e 1 (.slice (some ⟨g, 0, none⟩) n c) n (xs.set i u) := by
 obtain ⟨hl, hn | ⟨g', cap, cur, hv, hb, hg, h1, h2, h3, h4⟩⟩ := h
 ·exact absurd hn.1 (by simp)
 ·obtain ⟨rfl, rfl⟩ : g = g' /\ c = cap := by simpa using hv
  refine ⟨by simpa using hl, .inr ⟨g, c, cur.setIfInBounds i u, rfl, hb, heap_setCell_same _ _ _ _ _ _ hg, h1, h2, by simpa using h3, ?_⟩⟩
  rw [Array.toList_setIfInBounds, List.take_set, h4]
theorem uJp {w : World} {base g n c i : Nat} {e : TypeId} {xs : List Value} (h : w.ownsRow base e 1 (.slice (some ⟨g, 0, none⟩) n c) n xs) {u : Value} (hi : xs[i]? = some u) : w.cell? ⟨g, i, none⟩ = some u := by
 obtain ⟨b, off, ha, _, hc⟩ := (Rd.of_own h).at_ hi
 obtain ⟨rfl, rfl⟩ : g = b /\ 0 = off := by simpa using ha
 simpa using hc
theorem uJo {w : World} {base g n c : Nat} {e : TypeId} {xs : List Value} (h : w.ownsRow base e 1 (.slice (some ⟨g, 0, none⟩) n c) n xs) (i : Nat) : w.frozen? ⟨g, i, none⟩ = false := by
 obtain ⟨hl, hn | ⟨g', cap, cur, hv, hb, hg, h1, h2, h3, h4⟩⟩ := h
 ·exact absurd hn.1 (by simp)
 ·obtain ⟨rfl, rfl⟩ : g = g' /\ c = cap := by simpa using hv
  exact frozen_of_row _ _ _ _ _ hg
theorem own_at {w : World} {base g n c : Nat} {e : TypeId} {xs : List Value} (h : w.ownsRow base e 1 (.slice (some ⟨g, 0, none⟩) n c) n xs) : base <= g /\ g < w.heap.size /\ n <= c := by
 obtain ⟨hl, hn | ⟨g', cap, cur, hv, hb, hg, h1, h2, h3, h4⟩⟩ := h
 ·exact absurd hn.1 (by simp)
 ·obtain ⟨rfl, rfl⟩ : g = g' /\ c = cap := by simpa using hv
  exact ⟨hb, lt_of_block hg, h1⟩
theorem results_cell_tmp {P : Program} {fn : Func} {p q : Tmp} {ty : TypeId} (h : fn.results = #[.cell p ty, .tmp q]) (tmps : Array Value) (w : World) (g : Nat) (t : TypeId) (cs : Array Value) (fr : Nat × Nat) (d : TypeDesc)
  (hp : tmps.getD p undef = .pointer (some ⟨g, 0, none⟩)) (hg : w.heap[g]? = some (.cells cs t fr))
  (hu : P.underlying ty = some d) (hd : (match d with | .struct _ | .array _ _ => true | _ => false) = true) (hi : (P.info? ty).map (·.size) = some cs.size) :
  (results fn tmps).run P w = .ok (.tuple #[.agg cs, tmps.getD q undef]) w := by
 have hp' : tmps[p]?.getD undef = .pointer (some ⟨g, 0, none⟩) := by simpa using hp
 simp [results, h, hp', asAddr, run_loadVar_row w g t ty cs fr d hg hu hd hi]
theorem zJ3 {B : Nat} {a w : World} (h : Below B a w) : Below B a w.drew := ⟨h.os, h.tape, h.output, h.size, h.block⟩
def Blk (w : World) (g : Nat) (t : TypeId) (l : List Value) : Prop := w.heap[g]? = some (.cells l.toArray t (0, 0))
section
variable {w w' : World} {g g' B i : Nat} {t : TypeId} {l : List Value} {u : Value}
theorem Blk.cell (h : Blk w g t l) (hi : l[i]? = some u) : w.cell? ⟨g, i, none⟩ = some u := by
 rw [cell_of_row _ _ _ _ _ _ h]
 simpa using hi
theorem Blk.free (h : Blk w g t l) (i : Nat) : w.frozen? ⟨g, i, none⟩ = false := frozen_of_row _ _ _ _ _ h
theorem Blk.set (h : Blk w g t l) (i : Nat) (u : Value) : Blk (w.setCell ⟨g, i, none⟩ u) g t (l.set i u) := by
 have h1 := heap_setCell_same _ _ i _ _ u h
 unfold Blk
 rw [h1]
 simp [List.setIfInBounds_toArray]
theorem Blk.below (h : Blk w g t l) (hb : Below B w w') (hg : g < B) : Blk w' g t l := (hb.block g hg).trans h
theorem Blk.lt (h : Blk w g t l) : g < w.heap.size := lt_of_block h
theorem Blk.belowSz (h : Blk w g t l) (hb : Below w.heap.size w w') : Blk w' g t l := h.below hb h.lt
theorem Blk.drewN (h : Blk w g t l) (k : Nat) : Blk (w.drewN k) g t l := h
theorem Blk.drew (h : Blk w g t l) : Blk w.drew g t l := h
theorem Blk.alloc (h : Blk w g t l) (o : Obj) : Blk (w.alloc o) g t l := h.belowSz ((Below.refl _ _).alloc (Nat.le_refl _) o)
theorem Blk.new (w : World) (t : TypeId) (l : List Value) : Blk (w.alloc (.cells l.toArray t)) w.heap.size t l := heap_alloc_new _ _
theorem Blk.other (h : Blk w g t l) {p : Addr} (hp : p.block ≠ g) (u : Value) : Blk (w.setCell p u) g t l := (heap_setCell_other _ _ _ _ hp.symm).trans h
end
open Go.RowKit
def u32v (n : Nat) : Value := .int .u32 (n : Nat)
def metaV (m : Vf.Meta) : Value := .agg #[.int .u8 (m.kind : Nat), .int .u16 (m.mode : Nat), .int .u32 (m.uid : Nat), .int .u32 (m.gid : Nat), .int .i64 (m.size : Nat)]
def credV (c : Vf.Cred) (A : Option Addr) (n k : Nat) : Value := .agg #[.int .u32 (c.uid : Nat), .int .u32 (c.euid : Nat), .int .u32 (c.suid : Nat), .int .u32 (c.gid : Nat), .slice A n k]
theorem indexU32_any (A : Option Addr) (n c B : Nat) (xs : List Nat) (v : Nat) (w : World) (hx : Rd w B 1 A n (xs.map u32v)) (hn : n <= maxLen) :
  Calls Tryz.prog 161 #[.slice A n c, .int .u32 (v : Nat)] w fun e w' => ∃ r : Int, e = .returned (.int .i64 r) /\ (0 <= r ↔ v ∈ xs) /\ w = w' := by
 have hxl : xs.length = n := by simpa using hx.len1
 unfold maxLen at hn
 have Hx := zJ2 hx
 have Hxl := zJ2 hxl
 clear hx hxl
 go_enter Tryz.func161, Tryz.ntmps161
 go_wp2
 go_loop [8] (fun i => ∃ k : Nat, k <= n /\ i = .int .i64 k /\ v ∉ xs.take k) (fun i => n - (intOf i).toNat)
 case atStart => exact ⟨0, Nat.zero_le _, rfl, by simp⟩
 case round =>
  obtain ⟨k, hk, rfl, hv⟩ := hrel
  have Hv := zJ2 hv
  clear hv
  by_cases hlt : k < n
  ·obtain ⟨x, hxk⟩ : ∃ x, xs[k]? = some x := ⟨_, List.getElem?_eq_getElem (by rw [zJ1 Hxl]; exact hlt)⟩
   obtain ⟨b1, o1, rfl, _, c1⟩ := (zJ1 Hx).at_ (k := k) (u := .int .u32 (x : Nat)) (by simp [hxk, u32v])
   by_cases he : v = x
   ·have hb : (((v : Nat) : Int) == ((x : Nat) : Int)) = true := by rw [he]; simp
    have hm : v ∈ xs := by rw [he]; exact List.mem_of_getElem? hxk
    have Hm := zJ2 hm
    clear he hxk hm
    go_wp2
    go_ret
    exact ⟨k, rfl, ⟨fun _ => zJ1 Hm, fun _ => by omega⟩, rfl⟩
   ·have hb : (((v : Nat) : Int) == ((x : Nat) : Int)) = false := by rw [beq_eq_false_iff_ne]; omega
    have hm : v ∉ xs.take (k + 1) := by
     rw [List.take_add_one, hxk, List.mem_append]
     simp [he, zJ1 Hv]
    have Hm := zJ2 hm
    clear he hxk hm
    go_wp2
    go_round
    case rel => exact ⟨k + 1, by omega, by go_num, zJ1 Hm⟩
    case measure => simp [intOf]; omega
  ·have hm : v ∉ xs := by
    have := zJ1 Hv
    rwa [List.take_of_length_le (by have := zJ1 Hxl; omega)] at this
   have Hm := zJ2 hm
   clear hm
   go_wp2
   go_ret
   exact ⟨-1, rfl, ⟨fun h => by omega, fun h => absurd h (zJ1 Hm)⟩, rfl⟩
theorem vJl (A : Option Addr) (n c B : Nat) (xs : List Nat) (v : Nat) (w : World) (hx : Rd w B 1 A n (xs.map u32v)) (hn : n <= maxLen) :
  Calls Tryz.prog 119 #[.slice A n c, .int .u32 (v : Nat)] w fun e w' => e = .returned (.bool (decide (v ∈ xs))) /\ w = w' := by
 have Hx := zJ2 hx
 clear hx
 go_enter Tryz.func119, Tryz.ntmps119
 go_wp2_with (go_at_call 161; refine (indexU32_any _ _ _ _ _ _ _ (zJ1 Hx) hn).mono ?_; rintro e w1 ⟨r, rfl, hr, rfl⟩; have Hr := zJ2 hr; clear hr)
 go_ret
 refine ⟨yJb ?_, rfl⟩
 rw [Bool.eq_iff_iff, decide_eq_true_eq, decide_eq_true_eq]
 exact zJ1 Hr
theorem class_any (c : Vf.Cred) (m : Vf.Meta) (A : Option Addr) (n k B : Nat) (w : World) (hg : Rd w B 1 A n (c.groups.map u32v)) (hB : B <= w.heap.size) (hn : n <= maxLen) :
  Calls Tryz.prog 66 #[credV c A n k, metaV m] w fun e w' => e = .returned (.int .i64 (Vf.cls c m : Nat)) /\ Below w.heap.size w w' := by
 have Hg := zJ2 hg
 clear hg
 unfold credV metaV
 obtain ⟨v, hv⟩ : ∃ v, Vf.cls c m = v := ⟨_, rfl⟩
 have Hv := zJ2 hv
 rw [hv]
 clear hv
 by_cases h1 : c.euid = m.uid
 ·have b1 : (((c.euid : Nat) : Int) == ((m.uid : Nat) : Int)) = true := by rw [h1]; simp
  have hv0 : v = 0 := by rw [<- zJ1 Hv]; unfold Vf.cls; rw [if_pos h1]
  clear h1
  go_enter Tryz.func66, Tryz.ntmps66
  go_wp2_with fail
  go_ret
  subst hv0
  exact ⟨rfl, ((Below.refl w.heap.size w).alloc (Nat.le_refl _) _).alloc (by simp) _⟩
 ·have b1 : (((c.euid : Nat) : Int) == ((m.uid : Nat) : Int)) = false := by rw [beq_eq_false_iff_ne]; omega
  by_cases h2 : c.gid = m.gid
  ·have b2 : (((c.gid : Nat) : Int) == ((m.gid : Nat) : Int)) = true := by rw [h2]; simp
   have hv0 : v = 1 := by rw [<- zJ1 Hv]; unfold Vf.cls; rw [if_neg h1, if_pos (.inl h2)]
   clear h1 h2
   go_enter Tryz.func66, Tryz.ntmps66
   go_wp2_with fail
   go_ret
   subst hv0
   exact ⟨rfl, ((Below.refl w.heap.size w).alloc (Nat.le_refl _) _).alloc (by simp) _⟩
  ·have b2 : (((c.gid : Nat) : Int) == ((m.gid : Nat) : Int)) = false := by rw [beq_eq_false_iff_ne]; omega
   obtain ⟨r, hr⟩ : ∃ r, decide (m.gid ∈ c.groups) = r := ⟨_, rfl⟩
   have hv0 : v = if r then 1 else 2 := by
    rw [<- zJ1 Hv, <- hr]
    unfold Vf.cls
    rw [if_neg h1]
    by_cases h3 : m.gid ∈ c.groups
    ·rw [if_pos (.inr h3), decide_eq_true h3]; rfl
    ·rw [if_neg (fun h => h.elim h2 h3), decide_eq_false h3]; rfl
   have K : ∀ w', Below w.heap.size w w' -> Calls Tryz.prog 119 #[.slice A n k, .int .u32 (m.gid : Nat)] w' fun e w2 => e = .returned (.bool r) /\ w' = w2 := by
    intro w' hb
    have := vJl A n k B c.groups m.gid w' ((zJ1 Hg).below (hb.mono hB)) hn
    rw [hr] at this
    exact this
   have HK := zJ2 K
   have Hb := zJ2 (((Below.refl w.heap.size w).alloc (Nat.le_refl _) (.cells #[.int .u32 (c.uid : Nat), .int .u32 (c.euid : Nat), .int .u32 (c.suid : Nat), .int .u32 (c.gid : Nat), .slice A n k] 26)).alloc (by simp) (.cells #[.int .u8 (m.kind : Nat), .int .u16 (m.mode : Nat), .int .u32 (m.uid : Nat), .int .u32 (m.gid : Nat), .int .i64 (m.size : Nat)] 70))
   clear h1 h2 hr K
   go_enter Tryz.func66, Tryz.ntmps66
   go_wp2_with fail
   refine ((zJ1 HK) _ (zJ1 Hb)).mono ?_
   rintro e w2 ⟨rfl, rfl⟩
   cases r
   all_goals
    go_wp2_with fail
    go_ret
    subst hv0
    exact ⟨rfl, zJ1 Hb⟩
theorem mask7 (n : Nat) (h : n < 65536) : bits .and .u16 (n : Int) 7 = ((n % 8 : Nat) : Int) := by
 have h := bits_mask .u16 16 (by decide) (fun n h0 h1 => by rw [IntKind.wrap_u16]; omega) 3 (by decide) (n : Int) (by omega) (by omega)
 have e : ((2 : Int) ^ 3 - 1) = 7 := rfl
 have e2 : ((2 : Int) ^ 3) = 8 := rfl
 rw [e, e2] at h
 rw [h]
 omega
theorem or3 : ∀ a b c : Fin 8, (bits .and .u16 (bits .or .u16 (bits .or .u16 ((a.val : Nat) : Int) ((b.val : Nat) : Int)) ((c.val : Nat) : Int)) 1 != 0) = (decide (a.val % 2 = 1) || decide (b.val % 2 = 1) || decide (c.val % 2 = 1)) := by decide +kernel
theorem andn1 : ∀ a : Fin 8, (bits .andNot .u16 1 ((a.val : Nat) : Int) == 0) = decide (a.val % 2 = 1) := by decide +kernel
theorem may_any (c : Vf.Cred) (m : Vf.Meta) (A : Option Addr) (n k B : Nat) (w : World) (hg : Rd w B 1 A n (c.groups.map u32v)) (hB : B <= w.heap.size) (hn : n <= maxLen) (hm : m.mode < 65536) :
  Calls Tryz.prog 37 #[credV c A n k, metaV m, .int .u8 1] w fun e w' => e = .returned (.bool (Vf.mayX c m)) /\ Below w.heap.size w w' := by
 have Hg := zJ2 hg
 have KC : ∀ w', Below w.heap.size w w' -> Calls Tryz.prog 66 #[.agg #[.int .u32 (c.uid : Nat), .int .u32 (c.euid : Nat), .int .u32 (c.suid : Nat), .int .u32 (c.gid : Nat), .slice A n k], .agg #[.int .u8 (m.kind : Nat), .int .u16 (m.mode : Nat), .int .u32 (m.uid : Nat), .int .u32 (m.gid : Nat), .int .i64 (m.size : Nat)]] w' fun e w2 => e = .returned (.int .i64 (Vf.cls c m : Nat)) /\ Below w'.heap.size w' w2 :=
  fun w' hb => class_any c m A n k B w' (hg.below (hb.mono hB)) (Nat.le_trans hB hb.size) hn
 clear hg
 unfold credV metaV
 obtain ⟨v, hv⟩ : ∃ v, Vf.mayX c m = v := ⟨_, rfl⟩
 have Hv := zJ2 hv
 rw [hv]
 clear hv
 obtain ⟨x0, hx0⟩ : ∃ x0 : Nat, m.mode / 64 % 8 = x0 := ⟨_, rfl⟩
 obtain ⟨x1, hx1⟩ : ∃ x1 : Nat, m.mode / 8 % 8 = x1 := ⟨_, rfl⟩
 obtain ⟨x2, hx2⟩ : ∃ x2 : Nat, m.mode % 8 = x2 := ⟨_, rfl⟩
 have q0 : bits .and .u16 ((m.mode : Nat) / 64 : Int) 7 = ((x0 : Nat) : Int) := by rw [<- hx0]; exact mask7 (m.mode / 64) (by omega)
 have q1 : bits .and .u16 ((m.mode : Nat) / 8 : Int) 7 = ((x1 : Nat) : Int) := by rw [<- hx1]; exact mask7 (m.mode / 8) (by omega)
 have q2 : bits .and .u16 ((m.mode : Nat) : Int) 7 = ((x2 : Nat) : Int) := by rw [<- hx2]; exact mask7 m.mode hm
 have hb0 : Vf.bits m 0 = x0 := by rw [<- hx0]; rfl
 have hb1 : Vf.bits m 1 = x1 := by rw [<- hx1]; rfl
 have hb2 : Vf.bits m 2 = x2 := by rw [<- hx2]; rfl
 have l0 : x0 < 8 := by omega
 have l1 : x1 < 8 := by omega
 have l2 : x2 < 8 := by omega
 have e11 : (bits .and .u8 1 1 == 0) = false := by decide
 have Hb := zJ2 (And.intro hb0 (And.intro hb1 (And.intro hb2 (And.intro l0 (And.intro l1 l2)))))
 have HB3 : Hid (Below w.heap.size w (((w.alloc (.cells #[.int .u32 (c.uid : Nat), .int .u32 (c.euid : Nat), .int .u32 (c.suid : Nat), .int .u32 (c.gid : Nat), .slice A n k] 26)).alloc (.cells #[.int .u8 (m.kind : Nat), .int .u16 (m.mode : Nat), .int .u32 (m.uid : Nat), .int .u32 (m.gid : Nat), .int .i64 (m.size : Nat)] 70)).alloc (.cells #[.int .u16 (x0 : Nat), .int .u16 (x1 : Nat), .int .u16 (x2 : Nat)] 152))) := zJ2 ((((Below.refl w.heap.size w).alloc (Nat.le_refl _) _).alloc (by simp) _).alloc (by simp; omega) _)
 have HKC := zJ2 KC
 clear hx0 hx1 hx2 hb0 hb1 hb2 l0 l1 l2 KC
 by_cases h0 : c.euid = 0
 ·have b0 : (((c.euid : Nat) : Int) != 0) = false := by rw [h0]; rfl
  by_cases h1 : m.kind = 2
  ·have b1 : (((m.kind : Nat) : Int) == 2) = true := by rw [h1]; rfl
   have hv1 : v = true := by rw [<- zJ1 Hv]; unfold Vf.mayX; rw [if_pos h0, decide_eq_true h1]; rfl
   clear h0 h1
   go_enter Tryz.func37, Tryz.ntmps37
   go_wp2_with fail
   go_ret
   subst hv1
   exact ⟨rfl, zJ1 HB3⟩
  ·have b1 : (((m.kind : Nat) : Int) == 2) = false := by rw [beq_eq_false_iff_ne]; omega
   have hv1 : v = (decide (x0 % 2 = 1) || decide (x1 % 2 = 1) || decide (x2 % 2 = 1)) := by
    rw [<- zJ1 Hv]
    unfold Vf.mayX
    rw [if_pos h0, decide_eq_false h1, (zJ1 Hb).1, (zJ1 Hb).2.1, (zJ1 Hb).2.2.1]
    rfl
   have ho := or3 ⟨x0, (zJ1 Hb).2.2.2.1⟩ ⟨x1, (zJ1 Hb).2.2.2.2.1⟩ ⟨x2, (zJ1 Hb).2.2.2.2.2⟩
   rw [<- hv1] at ho
   simp only at ho
   have Ho := zJ2 ho
   clear h0 h1 hv1 ho
   go_enter Tryz.func37, Tryz.ntmps37
   go_wp2_with fail
   go_ret
   rw [zJ1 Ho]
   exact ⟨rfl, zJ1 HB3⟩
 ·have b0 : (((c.euid : Nat) : Int) != 0) = true := by simp; omega
  have hc3 : Vf.cls c m = 0 \/ Vf.cls c m = 1 \/ Vf.cls c m = 2 := by unfold Vf.cls; split; exact .inl rfl; split; exact .inr (.inl rfl); exact .inr (.inr rfl)
  have hv1 : v = decide (Vf.bits m (Vf.cls c m) % 2 = 1) := by rw [<- zJ1 Hv]; unfold Vf.mayX; rw [if_neg h0]
  have K3 := (zJ1 HKC) _ (zJ1 HB3)
  rcases hc3 with hc | hc | hc
  ·rw [hc] at K3 hv1
   rw [(zJ1 Hb).1] at hv1
   have ho := andn1 ⟨x0, (zJ1 Hb).2.2.2.1⟩
   rw [<- hv1] at ho
   simp only at ho
   have Ho := zJ2 ho
   have HK3 := zJ2 K3
   clear h0 hv1 ho hc K3
   go_enter Tryz.func37, Tryz.ntmps37
   go_wp2_with fail
   refine (zJ1 HK3).mono ?_
   rintro e w2 ⟨rfl, hb2⟩
   have bk := (Blk.new _ 152 [.int .u16 (x0 : Nat), .int .u16 (x1 : Nat), .int .u16 (x2 : Nat)]).belowSz hb2
   have v0 : w2.cell? ⟨w.heap.size + 1 + 1, 0, none⟩ = some (.int .u16 (x0 : Nat)) := by have h := bk.cell (i := 0) rfl; simpa using h
   have HB4 := zJ2 ((zJ1 HB3).trans (hb2.mono (zJ1 HB3).size))
   clear bk hb2
   go_wp2_with fail
   go_ret
   rw [zJ1 Ho]
   exact ⟨rfl, zJ1 HB4⟩
  ·rw [hc] at K3 hv1
   rw [(zJ1 Hb).2.1] at hv1
   have ho := andn1 ⟨x1, (zJ1 Hb).2.2.2.2.1⟩
   rw [<- hv1] at ho
   simp only at ho
   have Ho := zJ2 ho
   have HK3 := zJ2 K3
   clear h0 hv1 ho hc K3
   go_enter Tryz.func37, Tryz.ntmps37
   go_wp2_with fail
   refine (zJ1 HK3).mono ?_
   rintro e w2 ⟨rfl, hb2⟩
   have bk := (Blk.new _ 152 [.int .u16 (x0 : Nat), .int .u16 (x1 : Nat), .int .u16 (x2 : Nat)]).belowSz hb2
   have v1 : w2.cell? ⟨w.heap.size + 1 + 1, 1, none⟩ = some (.int .u16 (x1 : Nat)) := by have h := bk.cell (i := 1) rfl; simpa using h
   have HB4 := zJ2 ((zJ1 HB3).trans (hb2.mono (zJ1 HB3).size))
   clear bk hb2
   go_wp2_with fail
   go_ret
   rw [zJ1 Ho]
   exact ⟨rfl, zJ1 HB4⟩
  ·rw [hc] at K3 hv1
   rw [(zJ1 Hb).2.2.1] at hv1
   have ho := andn1 ⟨x2, (zJ1 Hb).2.2.2.2.2⟩
   rw [<- hv1] at ho
   simp only at ho
   have Ho := zJ2 ho
   have HK3 := zJ2 K3
   clear h0 hv1 ho hc K3
   go_enter Tryz.func37, Tryz.ntmps37
   go_wp2_with fail
   refine (zJ1 HK3).mono ?_
   rintro e w2 ⟨rfl, hb2⟩
   have bk := (Blk.new _ 152 [.int .u16 (x0 : Nat), .int .u16 (x1 : Nat), .int .u16 (x2 : Nat)]).belowSz hb2
   have v2 : w2.cell? ⟨w.heap.size + 1 + 1, 2, none⟩ = some (.int .u16 (x2 : Nat)) := by have h := bk.cell (i := 2) rfl; simpa using h
   have HB4 := zJ2 ((zJ1 HB3).trans (hb2.mono (zJ1 HB3).size))
   clear bk hb2
   go_wp2_with fail
   go_ret
   rw [zJ1 Ho]
   exact ⟨rfl, zJ1 HB4⟩
structure CkS (w : World) (c : Vf.Cred) (m : Vf.Meta) (A : Option Addr) (n k B : Nat) (W : World) : Prop where
 b : Below w.heap.size w W
 cb : Blk W w.heap.size 26 [.int .u32 (c.uid : Nat), .int .u32 (c.euid : Nat), .int .u32 (c.suid : Nat), .int .u32 (c.gid : Nat), .slice A n k]
 mb : Blk W (w.heap.size + 1) 70 [.int .u8 (m.kind : Nat), .int .u16 (m.mode : Nat), .int .u32 (m.uid : Nat), .int .u32 (m.gid : Nat), .int .i64 (m.size : Nat)]
 gr : Rd W B 1 A n (c.groups.map u32v)
def ckW (w : World) (c : Vf.Cred) (m : Vf.Meta) (A : Option Addr) (n k : Nat) : World := (w.alloc (.cells #[.int .u32 (c.uid : Nat), .int .u32 (c.euid : Nat), .int .u32 (c.suid : Nat), .int .u32 (c.gid : Nat), .slice A n k] 26)).alloc (.cells #[.int .u8 (m.kind : Nat), .int .u16 (m.mode : Nat), .int .u32 (m.uid : Nat), .int .u32 (m.gid : Nat), .int .i64 (m.size : Nat)] 70)
theorem CkS.new {w : World} {c : Vf.Cred} {m : Vf.Meta} {A : Option Addr} {n k B : Nat} (hg : Rd w B 1 A n (c.groups.map u32v)) (hB : B <= w.heap.size) : CkS w c m A n k B (ckW w c m A n k) := by
 have hb : Below w.heap.size w (ckW w c m A n k) := ((Below.refl w.heap.size w).alloc (Nat.le_refl _) _).alloc (by simp) _
 refine ⟨hb, ?_, ?_, hg.below (hb.mono hB)⟩
 ·exact (Blk.new w _ [.int .u32 (c.uid : Nat), .int .u32 (c.euid : Nat), .int .u32 (c.suid : Nat), .int .u32 (c.gid : Nat), .slice A n k]).belowSz ((Below.refl _ _).alloc (Nat.le_refl _) _)
 ·have h := Blk.new (w.alloc (.cells #[.int .u32 (c.uid : Nat), .int .u32 (c.euid : Nat), .int .u32 (c.suid : Nat), .int .u32 (c.gid : Nat), .slice A n k] 26)) 70 [.int .u8 (m.kind : Nat), .int .u16 (m.mode : Nat), .int .u32 (m.uid : Nat), .int .u32 (m.gid : Nat), .int .i64 (m.size : Nat)]
  rw [World.size_alloc] at h
  exact h
def Vf.mayR (c : Vf.Cred) (m : Vf.Meta) : Bool := if c.euid = 0 then true else decide (Vf.bits m (Vf.cls c m) / 4 % 2 = 1)
theorem andn4 : ∀ a : Fin 8, (bits .andNot .u16 4 ((a.val : Nat) : Int) == 0) = decide (a.val / 4 % 2 = 1) := by decide +kernel
set_option maxHeartbeats 1000000 in
theorem may4_any (c : Vf.Cred) (m : Vf.Meta) (A : Option Addr) (n k B : Nat) (w : World) (hg : Rd w B 1 A n (c.groups.map u32v)) (hB : B <= w.heap.size) (hn : n <= maxLen) (hm : m.mode < 65536) :
  Calls Tryz.prog 37 #[credV c A n k, metaV m, .int .u8 4] w fun e w' => e = .returned (.bool (Vf.mayR c m)) /\ Below w.heap.size w w' := by
 have Hg := zJ2 hg
 have KC : ∀ w', Below w.heap.size w w' -> Calls Tryz.prog 66 #[.agg #[.int .u32 (c.uid : Nat), .int .u32 (c.euid : Nat), .int .u32 (c.suid : Nat), .int .u32 (c.gid : Nat), .slice A n k], .agg #[.int .u8 (m.kind : Nat), .int .u16 (m.mode : Nat), .int .u32 (m.uid : Nat), .int .u32 (m.gid : Nat), .int .i64 (m.size : Nat)]] w' fun e w2 => e = .returned (.int .i64 (Vf.cls c m : Nat)) /\ Below w'.heap.size w' w2 :=
  fun w' hb => class_any c m A n k B w' (hg.below (hb.mono hB)) (Nat.le_trans hB hb.size) hn
 clear hg
 unfold credV metaV
 obtain ⟨v, hv⟩ : ∃ v, Vf.mayR c m = v := ⟨_, rfl⟩
 have Hv := zJ2 hv
 rw [hv]
 clear hv
 obtain ⟨x0, hx0⟩ : ∃ x0 : Nat, m.mode / 64 % 8 = x0 := ⟨_, rfl⟩
 obtain ⟨x1, hx1⟩ : ∃ x1 : Nat, m.mode / 8 % 8 = x1 := ⟨_, rfl⟩
 obtain ⟨x2, hx2⟩ : ∃ x2 : Nat, m.mode % 8 = x2 := ⟨_, rfl⟩
 have q0 : bits .and .u16 ((m.mode : Nat) / 64 : Int) 7 = ((x0 : Nat) : Int) := by rw [<- hx0]; exact mask7 (m.mode / 64) (by omega)
 have q1 : bits .and .u16 ((m.mode : Nat) / 8 : Int) 7 = ((x1 : Nat) : Int) := by rw [<- hx1]; exact mask7 (m.mode / 8) (by omega)
 have q2 : bits .and .u16 ((m.mode : Nat) : Int) 7 = ((x2 : Nat) : Int) := by rw [<- hx2]; exact mask7 m.mode hm
 have hb0 : Vf.bits m 0 = x0 := by rw [<- hx0]; rfl
 have hb1 : Vf.bits m 1 = x1 := by rw [<- hx1]; rfl
 have hb2 : Vf.bits m 2 = x2 := by rw [<- hx2]; rfl
 have l0 : x0 < 8 := by omega
 have l1 : x1 < 8 := by omega
 have l2 : x2 < 8 := by omega
 have e11 : (bits .and .u8 4 1 == 0) = true := by decide
 have Hb := zJ2 (And.intro hb0 (And.intro hb1 (And.intro hb2 (And.intro l0 (And.intro l1 l2)))))
 have HB3 : Hid (Below w.heap.size w (((w.alloc (.cells #[.int .u32 (c.uid : Nat), .int .u32 (c.euid : Nat), .int .u32 (c.suid : Nat), .int .u32 (c.gid : Nat), .slice A n k] 26)).alloc (.cells #[.int .u8 (m.kind : Nat), .int .u16 (m.mode : Nat), .int .u32 (m.uid : Nat), .int .u32 (m.gid : Nat), .int .i64 (m.size : Nat)] 70)).alloc (.cells #[.int .u16 (x0 : Nat), .int .u16 (x1 : Nat), .int .u16 (x2 : Nat)] 152))) := zJ2 ((((Below.refl w.heap.size w).alloc (Nat.le_refl _) _).alloc (by simp) _).alloc (by simp; omega) _)
 have HKC := zJ2 KC
 clear hx0 hx1 hx2 hb0 hb1 hb2 l0 l1 l2 KC
 by_cases h0 : c.euid = 0
 ·have b0 : (((c.euid : Nat) : Int) != 0) = false := by rw [h0]; rfl
  have hv1 : v = true := by rw [<- zJ1 Hv]; unfold Vf.mayR; rw [if_pos h0]
  clear h0
  go_enter Tryz.func37, Tryz.ntmps37
  go_wp2_with fail
  go_ret
  subst hv1
  exact ⟨rfl, zJ1 HB3⟩
 ·have b0 : (((c.euid : Nat) : Int) != 0) = true := by simp; omega
  have hc3 : Vf.cls c m = 0 \/ Vf.cls c m = 1 \/ Vf.cls c m = 2 := by unfold Vf.cls; split; exact .inl rfl; split; exact .inr (.inl rfl); exact .inr (.inr rfl)
  have hv1 : v = decide (Vf.bits m (Vf.cls c m) / 4 % 2 = 1) := by rw [<- zJ1 Hv]; unfold Vf.mayR; rw [if_neg h0]
  have K3 := (zJ1 HKC) _ (zJ1 HB3)
  rcases hc3 with hc | hc | hc
  ·rw [hc] at K3 hv1
   rw [(zJ1 Hb).1] at hv1
   have ho := andn4 ⟨x0, (zJ1 Hb).2.2.2.1⟩
   rw [<- hv1] at ho
   simp only at ho
   have Ho := zJ2 ho
   have HK3 := zJ2 K3
   clear h0 hv1 ho hc K3
   go_enter Tryz.func37, Tryz.ntmps37
   go_wp2_with fail
   refine (zJ1 HK3).mono ?_
   rintro e w2 ⟨rfl, hb2⟩
   have bk := (Blk.new _ 152 [.int .u16 (x0 : Nat), .int .u16 (x1 : Nat), .int .u16 (x2 : Nat)]).belowSz hb2
   have v0 : w2.cell? ⟨w.heap.size + 1 + 1, 0, none⟩ = some (.int .u16 (x0 : Nat)) := by have h := bk.cell (i := 0) rfl; simpa using h
   have HB4 := zJ2 ((zJ1 HB3).trans (hb2.mono (zJ1 HB3).size))
   clear bk hb2
   go_wp2_with fail
   go_ret
   rw [zJ1 Ho]
   exact ⟨rfl, zJ1 HB4⟩
  ·rw [hc] at K3 hv1
   rw [(zJ1 Hb).2.1] at hv1
   have ho := andn4 ⟨x1, (zJ1 Hb).2.2.2.2.1⟩
   rw [<- hv1] at ho
   simp only at ho
   have Ho := zJ2 ho
   have HK3 := zJ2 K3
   clear h0 hv1 ho hc K3
   go_enter Tryz.func37, Tryz.ntmps37
   go_wp2_with fail
   refine (zJ1 HK3).mono ?_
   rintro e w2 ⟨rfl, hb2⟩
   have bk := (Blk.new _ 152 [.int .u16 (x0 : Nat), .int .u16 (x1 : Nat), .int .u16 (x2 : Nat)]).belowSz hb2
   have v1 : w2.cell? ⟨w.heap.size + 1 + 1, 1, none⟩ = some (.int .u16 (x1 : Nat)) := by have h := bk.cell (i := 1) rfl; simpa using h
   have HB4 := zJ2 ((zJ1 HB3).trans (hb2.mono (zJ1 HB3).size))
   clear bk hb2
   go_wp2_with fail
   go_ret
   rw [zJ1 Ho]
   exact ⟨rfl, zJ1 HB4⟩
  ·rw [hc] at K3 hv1
   rw [(zJ1 Hb).2.2.1] at hv1
   have ho := andn4 ⟨x2, (zJ1 Hb).2.2.2.2.2⟩
   rw [<- hv1] at ho
   simp only at ho
   have Ho := zJ2 ho
   have HK3 := zJ2 K3
   clear h0 hv1 ho hc K3
   go_enter Tryz.func37, Tryz.ntmps37
   go_wp2_with fail
   refine (zJ1 HK3).mono ?_
   rintro e w2 ⟨rfl, hb2⟩
   have bk := (Blk.new _ 152 [.int .u16 (x0 : Nat), .int .u16 (x1 : Nat), .int .u16 (x2 : Nat)]).belowSz hb2
   have v2 : w2.cell? ⟨w.heap.size + 1 + 1, 2, none⟩ = some (.int .u16 (x2 : Nat)) := by have h := bk.cell (i := 2) rfl; simpa using h
   have HB4 := zJ2 ((zJ1 HB3).trans (hb2.mono (zJ1 HB3).size))
   clear bk hb2
   go_wp2_with fail
   go_ret
   rw [zJ1 Ho]
   exact ⟨rfl, zJ1 HB4⟩
namespace Se
def libs : List ByteArray := [⟨#[47, 108, 105, 98]⟩, ⟨#[47, 117, 115, 114, 47, 108, 105, 98]⟩]
def dirs (run lib : ByteArray) (sec : Bool) : List ByteArray := Ev.list run.data.toList ++ ((if sec = true then [] else Ev.list lib.data.toList) ++ libs)
def paths (name run lib : ByteArray) (sec : Bool) : List ByteArray := if name.data.toList.contains 47 = true then [name] else (dirs run lib sec).map fun d => Pth.joinB d name
def good (F : List Vf.Nd) (c : Vf.Cred) (cwd : Int) (p : ByteArray) : Bool :=
 decide ((Vf.walk F c cwd p true).2 = 0) && (decide ((Vf.metaOf F ((Vf.walk F c cwd p true).1 : Nat)).1.kind = 1) && Vf.mayR c (Vf.metaOf F ((Vf.walk F c cwd p true).1 : Nat)).1)
def find (F : List Vf.Nd) (c : Vf.Cred) (cwd : Int) : List ByteArray -> Nat × ByteArray × Int
 | [] => (0, ⟨#[]⟩, 19)
 | p :: r => if good F c cwd p = true then ((Vf.walk F c cwd p true).1, p, 0) else find F c cwd r
theorem find_first {F : List Vf.Nd} {c : Vf.Cred} {cwd : Int} : ∀ {l : List ByteArray} {k : Nat} {p : ByteArray}, l[k]? = some p -> (l.take k).any (good F c cwd) = false -> good F c cwd p = true -> find F c cwd l = ((Vf.walk F c cwd p true).1, p, 0)
 | [], k, p, h, _, _ => by simp at h
 | x :: r, 0, p, h, _, hg => by
  obtain rfl : x = p := by simpa using h
  unfold find
  rw [if_pos hg]
 | x :: r, k + 1, p, h, hn, hg => by
  rw [List.take_succ_cons, List.any_cons, Bool.or_eq_false_iff] at hn
  unfold find
  rw [if_neg (by rw [hn.1]; simp)]
  exact find_first (by simpa using h) hn.2 hg
theorem find_none {F : List Vf.Nd} {c : Vf.Cred} {cwd : Int} : ∀ {l : List ByteArray}, l.any (good F c cwd) = false -> find F c cwd l = (0, ⟨#[]⟩, 19)
 | [], _ => rfl
 | x :: r, hn => by
  rw [List.any_cons, Bool.or_eq_false_iff] at hn
  unfold find
  rw [if_neg (by rw [hn.1]; simp)]
  exact find_none hn.2
theorem dirs_true (run lib : ByteArray) : dirs run lib true = Ev.list run.data.toList ++ libs := rfl
theorem dirs_false (run lib : ByteArray) : dirs run lib false = Ev.list run.data.toList ++ (Ev.list lib.data.toList ++ libs) := rfl
theorem paths_empty (name run a : ByteArray) : paths name run a true = paths name run ⟨#[]⟩ false := by
 unfold paths
 rw [dirs_true, dirs_false]
 rfl
end Se
end Go.Proofs.YtiiiblmhlhikkaaGreatDoor
namespace Go.Proofs.YtiiiblmhlhikkaaGreatDoor.El
open Wd (num)
structure Sg where
 kind : Nat
 flags : Nat
 off : Nat
 addr : Nat
 fsz : Nat
 msz : Nat
structure Hd where
 type : Nat
 entry : Nat
 phoff : Nat
 segs : List Sg
def segAt (b : List UInt8) (p : Nat) : Sg := ⟨num b p 4, num b (p + 4) 4, num b (p + 8) 8, num b (p + 16) 8, num b (p + 32) 8, num b (p + 40) 8⟩
def knownB (k : Nat) : Bool := k == 1 || k == 2 || k == 3 || k == 6
def endOf (ty : Nat) : Nat := if ty = 3 then 4294967296 else 140737488355328
def flagsB (s : Sg) : Bool := decide (s.flags <= 7)
def insideB (n : Nat) (s : Sg) : Bool := decide (s.fsz <= s.msz) && decide (s.off + s.fsz <= n)
def endB (ty : Nat) (s : Sg) : Bool := !knownB s.kind || decide (s.addr + s.msz <= endOf ty)
def alignB (al : Nat) (s : Sg) : Bool := !(s.kind == 1) || (al == 4096 && s.off % 4096 == s.addr % 4096 && decide (0 < s.msz))
def segOk (b : List UInt8) (p ty : Nat) : Bool := flagsB (segAt b p) && insideB b.length (segAt b p) && endB ty (segAt b p) && alignB (num b (p + 48) 8) (segAt b p)
def magic : List UInt8 := [127, 69, 76, 70, 2, 1, 1]
def hdrOk (b : List UInt8) : Bool :=
 decide (64 <= b.length) && Lib.hasPrefix b magic && (num b 16 2 == 2 || num b 16 2 == 3) && (num b 18 2 == 62 && num b 20 4 == 1 && num b 54 2 == 56) && (decide (0 < num b 56 2) && decide (num b 56 2 <= 8))
def isLoad (s : Sg) : Bool := s.kind == 1
def loads (l : List Sg) : List Sg := l.filter isLoad
def up (a : Nat) : Nat := a + 4095 - (a + 4095) % 4096
def rises : List Sg -> Nat -> Bool
 | [], _ => true
 | s :: r, t => if isLoad s then decide (t <= s.addr) && rises r (up (s.addr + s.msz)) else rises r t
def holds (s l : Sg) : Bool := decide (l.addr <= s.addr) && decide (s.addr - l.addr + s.fsz <= l.fsz)
def w64 (a b : Nat) : Nat := (a + 18446744073709551616 - b) % 18446744073709551616
def filled (h : Hd) (s : Sg) : Bool :=
 match (loads h.segs).find? (holds s) with
 | some l => w64 s.off l.off == s.addr - l.addr
 | none => false
def entersBy (h : Hd) (s : Sg) : Bool := isLoad s && (s.flags % 2 == 1 && decide (w64 h.entry s.addr < s.msz))
def enters (h : Hd) : Bool := (h.type == 3 && h.entry == 0) || h.segs.any (entersBy h)
def countK (l : List Sg) (k : Nat) : Nat := (l.filter fun s => s.kind == k).length
def segWhole (h : Hd) (s : Sg) : Bool :=
 if s.kind == 2 || s.kind == 6 then filled h s else if s.kind == 3 then decide (0 < s.fsz) && decide (s.fsz <= 201) else true
def wholeOk (h : Hd) : Bool := h.segs.all (segWhole h) && (decide (0 < countK h.segs 1) && decide (countK h.segs 2 < 2) && decide (countK h.segs 3 < 2) && decide (countK h.segs 6 < 2) && enters h)
def segsOf (b : List UInt8) (n : Nat) : List Sg := (List.range n).map fun i => segAt b (num b 32 8 + i * 56)
def headOf (b : List UInt8) : Hd := ⟨num b 16 2, num b 24 8, num b 32 8, segsOf b (num b 56 2)⟩
def formOk (b : List UInt8) : Bool :=
 decide (num b 32 8 + num b 56 2 * 56 <= b.length) && (List.range (num b 56 2)).all (fun i => segOk b (num b 32 8 + i * 56) (num b 16 2)) && rises (segsOf b (num b 56 2)) 0 && wholeOk (headOf b)
def parse (b : List UInt8) : Int × Hd := if hdrOk b then (if formOk b then (0, headOf b) else (25, ⟨0, 0, 0, []⟩)) else (13, ⟨0, 0, 0, []⟩)
end Go.Proofs.YtiiiblmhlhikkaaGreatDoor.El
namespace Go.Proofs.YtiiiblmhlhikkaaGreatDoor.Dy
open Wd (num)
open El (Sg)
structure Sym where
 name : ByteArray
 value : Nat
 size : Nat
 bind : Nat
 isdef : Bool
structure Rel where
 off : Nat
 type : Nat
 sym : Nat
 add : Nat
structure Dyn where
 needed : List ByteArray
 soname : ByteArray
 run : ByteArray
 syms : List Sym
 relas : List Rel
def zero : Dyn := ⟨[], ⟨#[]⟩, ⟨#[]⟩, [], []⟩
def ents (b : List UInt8) : Nat -> Nat -> Option (List (Nat × Nat))
 | 0, _ => none
 | k + 1, p => if num b p 8 = 0 then some [] else (ents b k (p + 16)).map ((num b p 8, num b (p + 8) 8) :: ·)
def once (t : Nat) : Bool := [2, 4, 5, 6, 7, 8, 9, 10, 11, 14, 15, 20, 23, 29].contains t
def val : List (Nat × Nat) -> Nat -> Option Nat
 | [], _ => none
 | e :: r, t => if e.1 = t then some e.2 else val r t
def twice : List (Nat × Nat) -> Bool
 | [] => false
 | e :: r => (once e.1 && (val r e.1).isSome) || twice r
def isV (o : Option Nat) (v : Nat) : Bool := match o with
 | none => true
 | some x => decide (x = v)
def pair (L : List (Nat × Nat)) (a b : Nat) : Bool := (val L a).isSome == (val L b).isSome
def fits (L : List (Nat × Nat)) : Bool := !twice L && (isV (val L 11) 24 && isV (val L 9) 24 && isV (val L 20) 7) && (pair L 5 10 && pair L 4 6 && pair L 7 8 && pair L 23 2)
def many (L : List (Nat × Nat)) : Nat := (L.filter fun e => e.1 == 1).length
def may (L : List (Nat × Nat)) : Int := if fits L = false then 25 else if 8 < many L then 12 else 0
def laid (n : Nat) (l : List Sg) (addr size : Nat) : Option Nat :=
 match l.find? (fun s => decide (s.addr <= addr) && decide (addr - s.addr + size <= s.fsz)) with
 | none => none
 | some s => if s.off + (addr - s.addr) < 18446744073709551616 /\ s.off + (addr - s.addr) + size <= n then some (s.off + (addr - s.addr)) else none
def cut (b : List UInt8) (off size : Nat) : List UInt8 := (b.drop off).take size
def table (n : Nat) (l : List Sg) (L : List (Nat × Nat)) (at_ size : Nat) : Option (Nat × Nat) :=
 match val L at_ with
 | none => some (0, 0)
 | some a => (laid n l a ((val L size).getD 0)).map fun o => (o, (val L size).getD 0)
def text (t : List UInt8) (p : Nat) : Option ByteArray :=
 if t.length <= p then none else if (t.drop p).contains 0 = true then some ⟨((t.drop p).takeWhile fun c => c != 0).toArray⟩ else none
structure Names where
 buckets : Nat
 chain : Nat
 hash : Nat
 syms : Nat
def names (b : List UInt8) (l : List Sg) (L : List (Nat × Nat)) : Int × Names :=
 match val L 4 with
 | none => (0, ⟨0, 0, 0, 0⟩)
 | some at_ =>
  match laid b.length l at_ 8 with
  | none => (25, ⟨0, 0, 0, 0⟩)
  | some p =>
   if 65 < num b (p + 4) 4 then (12, ⟨0, 0, 0, 0⟩)
   else match laid b.length l at_ (8 + 4 * num b p 4 + 4 * num b (p + 4) 4), laid b.length l ((val L 6).getD 0) (24 * num b (p + 4) 4) with
    | some h, some s => (0, ⟨num b p 4, num b (p + 4) 4, h, s⟩)
    | _, _ => (25, ⟨0, 0, 0, 0⟩)
def relaB (b : List UInt8) (l : List Sg) (L : List (Nat × Nat)) : Int × List UInt8 :=
 if ((val L 8).getD 0) % 24 ≠ 0 \/ ((val L 2).getD 0) % 24 ≠ 0 then (25, [])
 else if 1536 < (val L 8).getD 0 + (val L 2).getD 0 then (12, [])
 else match table b.length l L 7 8, table b.length l L 23 2 with
  | some x, some y => (0, cut b x.1 x.2 ++ cut b y.1 y.2)
  | _, _ => (25, [])
def texts (t : List UInt8) (run : Bool) : List (Nat × Nat) -> Dyn -> Option Dyn
 | [], d => some d
 | e :: r, d =>
  if e.1 = 1 \/ e.1 = 14 \/ e.1 = 15 \/ e.1 = 29 then
   match text t e.2 with
   | none => none
   | some s => texts t run r (if e.1 = 1 then { d with needed := d.needed ++ [s] } else if e.1 = 14 then { d with soname := s } else if e.1 = 29 \/ run = false then { d with run := s } else d)
  else texts t run r d
def symAt (t : List UInt8) (b : List UInt8) (p : Nat) : Option Sym :=
 match text t (num b p 4) with
 | none => none
 | some s => if 2 < num b (p + 4) 1 / 16 then none else some ⟨s, num b (p + 8) 8, num b (p + 16) 8, num b (p + 4) 1 / 16, decide (num b (p + 6) 2 ≠ 0)⟩
def symsFrom (t : List UInt8) (b : List UInt8) : Nat -> Nat -> Option (List Sym)
 | 0, _ => some []
 | k + 1, p => match symAt t b p with
  | none => none
  | some s => (symsFrom t b k (p + 24)).map (s :: ·)
def relAt (b : List UInt8) (p : Nat) : Rel := ⟨num b p 8, num b (p + 8) 4, num b (p + 12) 4, num b (p + 16) 8⟩
def relsFrom (m : Nat) (b : List UInt8) : Nat -> Nat -> Option (List Rel)
 | 0, _ => some []
 | k + 1, p => if m < num b (p + 12) 4 then none else (relsFrom m b k (p + 24)).map (relAt b p :: ·)
def open_ (b : List UInt8) (segs : List Sg) : Int × Option (List (Nat × Nat)) :=
 match segs.find? (fun s => s.kind == 2) with
 | none => (0, none)
 | some s =>
  if s.fsz % 16 ≠ 0 \/ b.length < s.off + s.fsz then (25, none)
  else match ents b (s.fsz / 16) s.off with
   | none => (25, none)
   | some L => if may L = 0 then (0, some L) else (may L, none)
def parse (b : List UInt8) (segs : List Sg) : Dyn × Int :=
 match open_ b segs with
 | (e, none) => (zero, e)
 | (_, some L) =>
  match table b.length (El.loads segs) L 5 10 with
  | none => (zero, 25)
  | some t =>
   if (names b (El.loads segs) L).1 ≠ 0 then (zero, (names b (El.loads segs) L).1)
   else if (relaB b (El.loads segs) L).1 ≠ 0 then (zero, (relaB b (El.loads segs) L).1)
   else match texts (cut b t.1 t.2) (val L 29).isSome L zero with
    | none => (zero, 25)
    | some d =>
     match symsFrom (cut b t.1 t.2) b ((names b (El.loads segs) L).2.chain - 1) ((names b (El.loads segs) L).2.syms + 24) with
     | none => (zero, 25)
     | some ss =>
      match relsFrom ss.length (relaB b (El.loads segs) L).2 ((relaB b (El.loads segs) L).2.length / 24) 0 with
      | none => (zero, 25)
      | some rs => ({ d with syms := ss, relas := rs }, 0)
def hashStep (h : Nat) (c : UInt8) : Nat :=
 let x := (h * 16 + c.toNat) % 4294967296
 (x ^^^ (x / 268435456 * 16)) % 268435456
def hash (s : List UInt8) : Nat := s.foldl hashStep 0
def linksFrom (b : List UInt8) (n : Names) : Nat -> Nat -> List Nat × Bool
 | 0, i => ([], decide (i = 0))
 | k + 1, i => if i = 0 then ([], true) else if n.chain <= i then ([], false)
  else (i :: (linksFrom b n k (num b (n.hash + 8 + 4 * n.buckets + 4 * i) 4)).1, (linksFrom b n k (num b (n.hash + 8 + 4 * n.buckets + 4 * i) 4)).2)
def links (b : List UInt8) (n : Names) (name : List UInt8) : List Nat × Bool :=
 if n.buckets = 0 then ([], true) else linksFrom b n n.chain (num b (n.hash + 8 + 4 * (hash name % n.buckets)) 4)
def lookIn (d : Dyn) (name : ByteArray) : List Nat -> Nat × Bool
 | [] => (0, false)
 | i :: r => if (d.syms[i - 1]?.map (·.name)) = some name then (i - 1, true) else lookIn d name r
def look (b : List UInt8) (segs : List Sg) (name : ByteArray) : Nat × Bool :=
 if (parse b segs).2 ≠ 0 then (0, false)
 else match (open_ b segs).2 with
  | none => (0, false)
  | some L => lookIn (parse b segs).1 name (links b (names b (El.loads segs) L).2 name.data.toList).1
end Go.Proofs.YtiiiblmhlhikkaaGreatDoor.Dy
namespace Go.Proofs.YtiiiblmhlhikkaaGreatDoor
namespace Clo
structure Ob where
 ino : Int
 head : El.Hd
 dyn : Dy.Dyn
def zero : Ob := ⟨0, ⟨0, 0, 0, []⟩, Dy.zero⟩
def bytes (F : List Vf.Nd) (i : Int) : List UInt8 := (Vf.readOf F i 0 65536).1
def object (F : List Vf.Nd) (i : Int) : Ob × Int :=
 if (Vf.readOf F i 0 65536).2 ≠ 0 then (zero, (Vf.readOf F i 0 65536).2)
 else if (El.parse (bytes F i)).1 ≠ 0 then (zero, (El.parse (bytes F i)).1)
 else if (Dy.parse (bytes F i) (El.parse (bytes F i)).2.segs).2 ≠ 0 then (zero, (Dy.parse (bytes F i) (El.parse (bytes F i)).2.segs).2)
 else (⟨i, (El.parse (bytes F i)).2, (Dy.parse (bytes F i) (El.parse (bytes F i)).2.segs).1⟩, 0)
structure Who where
 cred : Vf.Cred
 lib : ByteArray
 sec : Bool
def look (F : List Vf.Nd) (c : Who) (run nm : ByteArray) : Nat × ByteArray × Int := Se.find F c.cred 0 (Se.paths nm run c.lib c.sec)
def there (l : List Ob) (n : Nat) : Bool := l.any fun o => decide (o.ino = (n : Int))
def need (F : List Vf.Nd) (c : Who) (run nm : ByteArray) (l : List Ob) : List Ob × Int :=
 if (look F c run nm).2.2 ≠ 0 then ([], (look F c run nm).2.2)
 else if there l (look F c run nm).1 = true then (l, 0)
 else if l.length = 8 then ([], 15)
 else if (object F (look F c run nm).1).2 ≠ 0 \/ (object F (look F c run nm).1).1.head.type ≠ 3 then ([], 20)
 else (l ++ [(object F (look F c run nm).1).1], 0)
def needs (F : List Vf.Nd) (c : Who) (run : ByteArray) : List ByteArray -> List Ob -> List Ob × Int
 | [], l => (l, 0)
 | nm :: r, l => if (need F c run nm l).2 ≠ 0 then need F c run nm l else needs F c run r (need F c run nm l).1
def rest (F : List Vf.Nd) (c : Who) : Nat -> Nat -> List Ob -> List Ob × Int
 | 0, _, l => (l, 0)
 | k + 1, i, l => match l[i]? with
  | none => (l, 0)
  | some o => if (needs F c o.dyn.run o.dyn.needed l).2 ≠ 0 then needs F c o.dyn.run o.dyn.needed l else rest F c k (i + 1) (needs F c o.dyn.run o.dyn.needed l).1
def closure (F : List Vf.Nd) (c : Who) (main : Int) : List Ob × Int :=
 if (object F main).2 ≠ 0 then ([], (object F main).2) else rest F c 9 0 [(object F main).1]
section
variable {F : List Vf.Nd} {c : Who} {run nm : ByteArray} {l : List Ob}
theorem need_err (h : (need F c run nm l).2 ≠ 0) : (need F c run nm l).1 = [] := by
 unfold need at h ⊢
 split
 ·rfl
 rename_i h1
 rw [if_neg h1] at h
 split
 ·rename_i h2; rw [if_pos h2] at h; exact absurd rfl h
 rename_i h2
 rw [if_neg h2] at h
 split
 ·rfl
 rename_i h3
 rw [if_neg h3] at h
 split
 ·rfl
 ·rename_i h4; rw [if_neg h4] at h; exact absurd rfl h
theorem need_len (h : l.length <= 8) : (need F c run nm l).1.length <= 8 := by
 unfold need
 split
 ·exact Nat.zero_le _
 split
 ·exact h
 split
 ·exact Nat.zero_le _
 split
 ·exact Nat.zero_le _
 ·rw [List.length_append]
  simp only [List.length_cons, List.length_nil]
  omega
theorem need_pre (h : (need F c run nm l).2 = 0) : ∃ t, (need F c run nm l).1 = l ++ t := by
 unfold need at h ⊢
 split
 ·rename_i h1; rw [if_pos h1] at h; exact absurd h h1
 rename_i h1
 rw [if_neg h1] at h
 split
 ·exact ⟨[], by simp⟩
 rename_i h2
 rw [if_neg h2] at h
 split
 ·rename_i h3; rw [if_pos h3] at h; exact absurd h (by decide)
 rename_i h3
 rw [if_neg h3] at h
 split
 ·rename_i h4; rw [if_pos h4] at h; exact absurd h (by decide)
 ·exact ⟨_, rfl⟩
theorem needs_nil : needs F c run [] l = (l, 0) := rfl
theorem yJu {r : List ByteArray} (h : (need F c run nm l).2 ≠ 0) : needs F c run (nm :: r) l = need F c run nm l := by unfold needs; rw [if_pos h]
theorem yJg {r : List ByteArray} (h : (need F c run nm l).2 = 0) : needs F c run (nm :: r) l = needs F c run r (need F c run nm l).1 := by
 conv => lhs; unfold needs
 rw [if_neg (by rw [h]; simp)]
theorem needs_len : ∀ (r : List ByteArray) (l : List Ob), l.length <= 8 -> (needs F c run r l).1.length <= 8 := by
 intro r
 induction r with
 | nil => intro l h; exact h
 | cons nm r ih =>
  intro l h
  by_cases h1 : (need F c run nm l).2 = 0
  ·rw [yJg h1]; exact ih _ (need_len h)
  ·rw [yJu h1]; exact need_len h
theorem vJg : ∀ (r : List ByteArray) (l : List Ob), (needs F c run r l).2 = 0 -> ∃ t, (needs F c run r l).1 = l ++ t := by
 intro r
 induction r with
 | nil => intro l h; exact ⟨[], by simp [needs_nil]⟩
 | cons nm r ih =>
  intro l h
  by_cases h1 : (need F c run nm l).2 = 0
  ·rw [yJg h1] at h ⊢
   obtain ⟨t, ht⟩ := ih _ h
   obtain ⟨t2, ht2⟩ := need_pre h1
   exact ⟨t2 ++ t, by rw [ht, ht2, List.append_assoc]⟩
  ·rw [yJu h1] at h
   exact absurd h h1
theorem yJs {k i : Nat} {o : Ob} (h : l[i]? = some o) : rest F c (k + 1) i l = if (needs F c o.dyn.run o.dyn.needed l).2 ≠ 0 then needs F c o.dyn.run o.dyn.needed l else rest F c k (i + 1) (needs F c o.dyn.run o.dyn.needed l).1 := by
 conv => lhs; unfold rest
 rw [h]
theorem rest_none {k i : Nat} (h : l.length <= i) : rest F c k i l = (l, 0) := by
 cases k with
 | zero => rfl
 | succ k =>
  unfold rest
  rw [List.getElem?_eq_none h]
end
theorem look_secure (F : List Vf.Nd) (cr : Vf.Cred) (lib run nm : ByteArray) : look F ⟨cr, lib, true⟩ run nm = look F ⟨cr, ⟨#[]⟩, false⟩ run nm := by
 unfold look
 rw [Se.paths_empty]
theorem need_secure (F : List Vf.Nd) (cr : Vf.Cred) (lib run nm : ByteArray) (l : List Ob) : need F ⟨cr, lib, true⟩ run nm l = need F ⟨cr, ⟨#[]⟩, false⟩ run nm l := by
 unfold need
 rw [look_secure]
theorem needs_secure (F : List Vf.Nd) (cr : Vf.Cred) (lib run : ByteArray) : ∀ (r : List ByteArray) (l : List Ob), needs F ⟨cr, lib, true⟩ run r l = needs F ⟨cr, ⟨#[]⟩, false⟩ run r l := by
 intro r
 induction r with
 | nil => intro l; rfl
 | cons nm r ih =>
  intro l
  unfold needs
  rw [need_secure, ih]
theorem rest_secure (F : List Vf.Nd) (cr : Vf.Cred) (lib : ByteArray) : ∀ (k i : Nat) (l : List Ob), rest F ⟨cr, lib, true⟩ k i l = rest F ⟨cr, ⟨#[]⟩, false⟩ k i l := by
 intro k
 induction k with
 | zero => intro i l; rfl
 | succ k ih =>
  intro i l
  unfold rest
  cases l[i]? with
  | none => rfl
  | some o =>
   dsimp only
   rw [needs_secure, ih]
theorem closure_secure (F : List Vf.Nd) (cr : Vf.Cred) (lib : ByteArray) (main : Int) : closure F ⟨cr, lib, true⟩ main = closure F ⟨cr, ⟨#[]⟩, false⟩ main := by
 unfold closure
 rw [rest_secure]
end Clo
end Go.Proofs.YtiiiblmhlhikkaaGreatDoor
namespace Go.Proofs.YtiiiblmhlhikkaaGreatDoor
open Go.RowKit
def bys (b : List UInt8) : List Value := b.map fun c => .int .u8 c.toNat
theorem bys_at {b : List UInt8} {i : Nat} {x : UInt8} (h : b[i]? = some x) : (bys b)[i]? = some (.int .u8 x.toNat) := by simp [bys, h]
theorem bys_set (b : List UInt8) (i : Nat) (x : UInt8) : (bys b).set i (.int .u8 x.toNat) = bys (b.set i x) := by simp [bys, List.map_set]
theorem zJj (a b : List UInt8) : bys (a ++ b) = bys a ++ bys b := by simp [bys]
def spare : List UInt8 := [99, 98, 97, 96, 95, 94, 93]
structure SlTy (P : Program) (t e : TypeId) (size bytes : Nat) : Prop where
 ht : P.underlying t = some (.slice e)
 hi : ∃ i z, P.info? e = some i /\ i.zero = some z /\ i.size = size /\ i.bytes = bytes /\ z.cells.size = size
 hsz : 0 < size
 hby : 0 < bytes
theorem yJ0 {P : Program} {t e : TypeId} {size bytes : Nat} {z : Value} (ht : P.underlying t = some (.slice e)) (h : (P.info? e).map (fun i => (i.zero, i.size, i.bytes)) = some (some z, size, bytes))
  (hz : z.cells.size = size) (hsz : 0 < size) (hby : 0 < bytes) : SlTy P t e size bytes := by
 refine ⟨ht, ?_, hsz, hby⟩
 cases hi : P.info? e with
 | none => simp [hi] at h
 | some i =>
  simp [hi] at h
  exact ⟨i, z, rfl, h.1, h.2.1, h.2.2, hz⟩
theorem Rd.row {w : World} {cs : Array Value} {e : TypeId} {size : Nat} (hc : cs.size = size) : Rd (w.alloc (.cells cs e)) (w.heap.size + 1) size (some ⟨w.heap.size, 0, none⟩) 1 cs.toList := by
 refine ⟨by simp [hc], .inr ⟨w.heap.size, 0, rfl, by omega, fun j u hu => ?_⟩⟩
 rw [cell_of_row _ w.heap.size (0 + j) cs e (0, 0) (heap_alloc_new _ _), Nat.zero_add]
 simpa using hu
theorem Rd.rowF {w : World} {cs : Array Value} {e : TypeId} {size n : Nat} {fz : Nat × Nat} (hc : cs.size = n * size) : Rd (w.alloc (.cells cs e fz)) (w.heap.size + 1) size (some ⟨w.heap.size, 0, none⟩) n cs.toList := by
 refine ⟨by simp [hc], .inr ⟨w.heap.size, 0, rfl, by omega, fun j u hu => ?_⟩⟩
 rw [cell_of_row _ w.heap.size (0 + j) cs e fz (heap_alloc_new _ _), Nat.zero_add]
 simpa using hu
section
variable {P : Program} {t e : TypeId} {size bytes : Nat}
theorem run_app (T : SlTy P t e size bytes) (w : World) (base : Nat) (ty : TypeId) (v : Value) (n : Nat) (xs : List Value) (hown : w.ownsRow base e size v n xs)
  (B : Nat) (A : Option Addr) (m c : Nat) (news : List Value) (hr : Rd w B size A m news) (h1 : ∀ u ∈ news, u.oneCell' = true)
  (hb : (n + m) * bytes <= 140737488355328) (hbase : base <= w.heap.size) :
  ∃ v' w', (Builtin.append_ #[t, t] ty #[v, .slice A m c]).run P w = .ok v' w' /\ w'.ownsRow base e size v' (n + m) (xs ++ news) /\ w.grownBy w' v.ownBlock /\
   (∀ k, v'.ownBlock = some k -> v.ownBlock = some k \/ w.heap.size <= k) := by
 obtain ⟨ht, ⟨i, z, hi, hz, hs, hby, hzs⟩, hsz, hbp⟩ := T
 have h63 : n + m <= maxLen := by
  have : (n + m) * 1 <= (n + m) * bytes := Nat.mul_le_mul_left _ hbp
  unfold maxLen
  omega
 by_cases hn0 : m = 0 /\ A = none
 ·obtain ⟨rfl, rfl⟩ := hn0
  have hn : news = [] := List.eq_nil_of_length_eq_zero (by simpa using hr.1)
  subst hn
  refine ⟨v, w, ?_, by simpa using hown, World.grownBy.refl w _, fun k hk => .inl hk⟩
  rcases hown.2 with ⟨rfl, rfl⟩ | ⟨g, cap, cur, rfl, _, _, hnc, _⟩
  ·simp [Builtin.append_, run_underlying ht, sizeOf, typeInfo, hi, Builtin.lenOf, Builtin.firstCells]
  ·simp [Builtin.append_, run_underlying ht, sizeOf, typeInfo, hi, Builtin.lenOf, Builtin.firstCells, hnc, storeCells]
 ·obtain ⟨ad, rfl, hcells⟩ : ∃ ad, A = some ad /\ ∀ j u, news[j]? = some u -> w.cell? (ad.add j) = some u := by
   rcases hr.2 with rfl | ⟨b, off, rfl, _, hc⟩
   ·have hm : m = 0 := by
     have := hr.1
     simp only [List.length_nil] at this
     rcases Nat.eq_zero_or_pos m with h | h
     ·exact h
     ·have := Nat.mul_pos h hsz
      omega
    cases A with
    | none => exact absurd ⟨hm, rfl⟩ hn0
    | some ad => exact ⟨ad, rfl, fun j u hu => by simp at hu⟩
   ·exact ⟨_, rfl, fun j u hu => by rw [Addr.add_lit]; exact hc j u hu⟩
  obtain ⟨v', w', hrun, h2, h3, h4, h5⟩ := run_append_own_at (P := P) w base t ty e i z size bytes ht hi hz hs hby hzs hsz v n xs hown ad m c news hr.1 hcells h1 h63 hb hbase
  refine ⟨v', w', hrun, h2, h3, fun k hk => ?_⟩
  rcases h5 with h5 | h5
  ·exact .inl (h5 ▸ hk)
  ·rw [h5] at hk
   injection hk with hk
   exact .inr (by omega)
theorem wp_app (T : SlTy P t e size bytes) {w : World} {o : Oper} {a : Act} {K : Act -> World -> Prop} {Q : Exit -> Act -> World -> Prop} (s x : Operand)
  (ho : o.op = .call { callee := .builtin .append, args := #[s, x], argTypes := #[t, t] })
  (base : Nat) (v : Value) (n : Nat) (xs : List Value) (hs : a.eval s = v) (hown : w.ownsRow base e size v n xs)
  (B : Nat) (A : Option Addr) (m c : Nat) (news : List Value) (hx : a.eval x = .slice A m c) (hr : Rd w B size A m news) (h1 : ∀ u ∈ news, u.oneCell' = true)
  (hb : (n + m) * bytes <= 140737488355328) (hbase : base <= w.heap.size)
  (h : ∀ v' w', w'.ownsRow base e size v' (n + m) (xs ++ news) -> w.grownBy w' v.ownBlock -> (∀ k, v'.ownBlock = some k -> v.ownBlock = some k \/ w.heap.size <= k) -> K (a.put o.dst v') w') : o.wp P a w K Q := by
 obtain ⟨v', w', hrun, h2, h3, h4⟩ := run_app T w base o.type v n xs hown B A m c news hr h1 hb hbase
 unfold Oper.wp execOp
 simp only [ho, resolve, invoke, builtin, Sem.run_bind, Sem.run_pure, Result.andThen_ok, List.map_toArray, List.map_cons, List.map_nil, hs, hx, hrun]
 exact h v' w' h2 h3 h4
theorem zJe (T : SlTy P t e size bytes) {w : World} {ops : Array Oper} {rest : List Oper} {o : Oper} {a : Act} {Q : Exit -> Act -> World -> Prop} (hgd : o.guard = none) (s x : Operand)
  (ho : o.op = .call { callee := .builtin .append, args := #[s, x], argTypes := #[t, t] })
  (base : Nat) (v : Value) (n : Nat) (xs : List Value) (hs : a.eval s = v) (hown : w.ownsRow base e size v n xs)
  (B : Nat) (A : Option Addr) (m c : Nat) (news : List Value) (hx : a.eval x = .slice A m c) (hr : Rd w B size A m news) (h1 : ∀ u ∈ news, u.oneCell' = true)
  (hb : (n + m) * bytes <= 140737488355328) (hbase : base <= w.heap.size)
  (h : ∀ A' c' w', w'.ownsRow base e size (.slice A' (n + m) c') (n + m) (xs ++ news) -> w.grownBy w' v.ownBlock -> (∀ k, (Value.slice A' (n + m) c').ownBlock = some k -> v.ownBlock = some k \/ w.heap.size <= k) -> wpList P ops Q rest (a.put o.dst (.slice A' (n + m) c')) w') : wpList P ops Q (o :: rest) a w :=
 wpList_plain hgd fun _ hK => wp_app T s x ho base v n xs hs hown B A m c news hx hr h1 hb hbase fun v' w' h2 h3 h4 => by
  obtain ⟨A', c', rfl⟩ := yJd h2
  exact hK _ _ (h A' c' w' h2 h3 h4)
theorem yJh (T : SlTy P t e size bytes) {W : World} {ops : Array Oper} {rest : List Oper} {o : Oper} {a : Act} {Q : Exit -> Act -> World -> Prop} (hgd : o.guard = none) (s x : Operand)
  (ho : o.op = .call { callee := .builtin .append, args := #[s, x], argTypes := #[t, t] })
  (base : Nat) (v : Value) (n : Nat) (xs : List Value) (hs : a.eval s = v) (hown : W.ownsRow base e size v n xs)
  (cs : Array Value) (hx : a.eval x = .slice (some ⟨W.heap.size, 0, none⟩) 1 1) (hcs : cs.size = size) (h1 : ∀ u ∈ cs.toList, u.oneCell' = true)
  (hb : (n + 1) * bytes <= 140737488355328) (hbase : base <= W.heap.size)
  (h : ∀ A' c' w', w'.ownsRow base e size (.slice A' (n + 1) c') (n + 1) (xs ++ cs.toList) -> W.grownBy w' v.ownBlock -> (∀ k, (Value.slice A' (n + 1) c').ownBlock = some k -> v.ownBlock = some k \/ W.heap.size <= k) -> wpList P ops Q rest (a.put o.dst (.slice A' (n + 1) c')) w') : wpList P ops Q (o :: rest) a (W.alloc (.cells cs e)) :=
 zJe T hgd s x ho base v n xs hs (hown.alloc _) (W.heap.size + 1) (some ⟨W.heap.size, 0, none⟩) 1 1 cs.toList hx (Rd.row hcs) h1 hb (by simp; omega)
  fun A' c' w' h2 h3 h4 => h A' c' w' h2 (yJ5 (World.grownBy_alloc W _ _) h3) fun k hk => (h4 k hk).imp id fun h5 => by simp at h5; omega
end
open Go.RowKit
theorem yJo : (Tryz.prog.info? 5).map (fun i => (i.zero, i.size, i.bytes)) = some (some (.int .u8 0), 1, 1) := by kernel_rfl
theorem zJy : SlTy Tryz.prog 64 5 1 1 := yJ0 (z := .int .u8 0) Tryz.underlying64 yJo rfl (by omega) (by omega)
theorem zJm (l : List UInt8) : ∀ u ∈ bys l, u.oneCell' = true := by
 intro u hu
 simp only [bys, List.mem_map] at hu
 obtain ⟨c, _, rfl⟩ := hu
 rfl
structure Grew (w w' : World) (base : Nat) (v v' : Value) (n : Nat) (xs : List UInt8) : Prop where
 own : w'.ownsRow base 5 1 v' n (bys xs)
 kept : w.grownBy w' v.ownBlock
 at_ : ∀ k, v'.ownBlock = some k -> v.ownBlock = some k \/ w.heap.size <= k
section
variable {a b c : World} {base : Nat} {u v x : Value} {n m : Nat} {xs ys : List UInt8}
theorem Grew.trans (h : Grew a b base u v n xs) (k : Grew b c base v x m ys) : Grew a c base u x m ys :=
 ⟨k.own, ⟨k.kept.os.trans h.kept.os, k.kept.tape.trans h.kept.tape, k.kept.output.trans h.kept.output, Nat.le_trans h.kept.size k.kept.size, fun i hi hr => (k.kept.block i (Nat.lt_of_lt_of_le hi h.kept.size) (fun e => by
  rcases h.at_ i e.symm with h1 | h1
  ·exact hr h1.symm
  ·omega)).trans (h.kept.block i hi hr)⟩, fun i hi => by
  rcases k.at_ i hi with h1 | h1
  ·exact h.at_ i h1
  ·exact .inr (Nat.le_trans h.kept.size h1)⟩
theorem xJ0 {row : Option Nat} (h : Below a.heap.size a b) : a.grownBy b row := ⟨h.os, h.tape, h.output, h.size, fun k hk _ => h.block k hk⟩
theorem Grew.after (hb : Below a.heap.size a b) (h : Grew b c base u v n xs) : Grew a c base u v n xs :=
 ⟨h.own, yJ5 (xJ0 hb) h.kept, fun k hk => (h.at_ k hk).imp id fun h1 => Nat.le_trans hb.size h1⟩
theorem Grew.then (h : Grew a b base u v n xs) (hb : Below b.heap.size b c) : Grew a c base u v n xs :=
 ⟨own_below h.own hb, yJ5 h.kept (xJ0 hb), h.at_⟩
theorem Grew.below {B : Nat} (h : Grew a b base u v n xs) (hB : B <= a.heap.size) (hr : ∀ k, u.ownBlock = some k -> B <= k) : Below B a b := (Below.refl B a).grown h.kept hB hr
theorem Grew.blk {g : Nat} (h : Grew a b base u v n xs) (hg : g < a.heap.size) (hne : u.ownBlock ≠ some g) {o : Obj} (ho : a.heap[g]? = some o) : b.heap[g]? = some o :=
 (h.kept.block g hg (fun e => hne e.symm)).trans ho
end
open Go.RowKit
theorem bys_at' {b : List UInt8} {i : Nat} {x : UInt8} (h : b[i]? = some x) : (bys b)[i]? = some (.int .u8 x.toNat) := by simp [bys, h]
def backTo (b : List UInt8) (k : Nat) : List Value := List.replicate k (.int .u8 0) ++ bys (b.drop k)
theorem backTo_set {b : List UInt8} {k : Nat} {x : UInt8} (h : b[k]? = some x) : (backTo b (k + 1)).set k (.int .u8 x.toNat) = backTo b k := by
 unfold backTo
 rw [List.drop_eq_getElem_cons (i := k) (by have := (List.getElem?_eq_some_iff.1 h).1; exact this)]
 have hx : b[k]'((List.getElem?_eq_some_iff.1 h).1) = x := (List.getElem?_eq_some_iff.1 h).2
 rw [hx, List.replicate_succ', List.append_assoc]
 rw [List.set_append]
 simp [bys]
set_option maxRecDepth 20000 in
set_option maxHeartbeats 1000000 in
theorem xJu (A : Option Addr) (m c B : Nat) (b : List UInt8) (w : World) (hB : B <= w.heap.size) (hb : Rd w B 1 A m (bys b)) (hm : m <= 4294967296) :
  Calls Tryz.prog 20 #[.slice A m c] w fun e w' => ∃ A' c', e = .returned (.slice A' m c') /\ w'.ownsRow w.heap.size 5 1 (.slice A' m c') m (bys b) /\ Below w.heap.size w w' := by
 have hbl : b.length = m := by simpa [bys] using hb.len1
 rcases Nat.eq_zero_or_pos m with rfl | hpos
 ·have hb0 : b = [] := List.eq_nil_of_length_eq_zero hbl
  subst hb0
  clear hb hbl
  go_enter Tryz.func20, Tryz.ntmps20
  go_wp2
  go_ret
  exact ⟨none, 0, rfl, World.ownsRow_nil _ _ _ _, Below.refl _ _⟩
 have hne : decide (m = 0) = false := by simp; omega
 obtain ⟨i, hi, hz0, hz1, hz2⟩ := info_parts yJo
 have Hb := zJ2 hb
 have Hbl := zJ2 hbl
 have Hi := zJ2 hi
 have Hz0 := zJ2 hz0
 have Hz1 := zJ2 hz1
 have Hz2 := zJ2 hz2
 clear hb hbl hi hz0 hz1 hz2
 go_enter Tryz.func20, Tryz.ntmps20
 go_wp2_with (at_make; refine wpList_make_full _ rfl _ _ 64 rfl w.heap.size 5 i (.int .u8 0) 1 Tryz.underlying64 (zJ1 Hi) (zJ1 Hz0) (zJ1 Hz1) _ _ _ _ m rfl rfl rfl rfl (by rw [zJ1 Hz2]; omega) (by unfold maxLen; omega) (Nat.le_refl _) ?_; intro w1 hown hgrow; have hb1 := (Below.refl w.heap.size w).grown hgrow (Nat.le_refl _) (fun k hk => by cases hk); have Hown := zJ2 hown; have Hb1 := zJ2 hb1; clear hown hgrow hb1)
 go_loopw [4] (fun at_ wr => ∃ k : Nat, k <= m /\ at_ = .int .i64 ((k : Int) - 1) /\ wr.ownsRow w.heap.size 5 1 (.slice (some ⟨w.heap.size, 0, none⟩) m m) m (backTo b k) /\ Below w.heap.size w wr) (fun at_ _ => (intOf at_ + 1).toNat)
 case atStart =>
  refine ⟨m, Nat.le_refl _, rfl, ?_, zJ1 Hb1⟩
  have := zJ1 Hown
  have e : (madeCells (Value.int .u8 0).cells (m * 1)).toList = backTo b m := by
   unfold backTo
   rw [List.drop_eq_nil_of_le (by rw [zJ1 Hbl]; exact Nat.le_refl _)]
   simp [bys, Value.cells, toList_madeCells_one]
  rwa [e] at this
 case round =>
 clear Hown Hb1
 obtain ⟨k, hk, rfl, hown, hb2⟩ := hrel
 have Hown := zJ2 hown
 have Hb2 := zJ2 hb2
 clear hown hb2
 by_cases hk0 : k = 0
 ·subst hk0
  go_wp2
  go_ret
  refine ⟨_, _, rfl, ?_, zJ1 Hb2⟩
  have := zJ1 Hown
  simpa [backTo] using this
 ·obtain ⟨j, rfl⟩ : ∃ j, k = j + 1 := ⟨k - 1, by omega⟩
  obtain ⟨x, hx⟩ : ∃ x, b[j]? = some x := ⟨_, List.getElem?_eq_getElem (by rw [zJ1 Hbl]; omega)⟩
  obtain ⟨ab, ao, rfl, hlt, hc⟩ := ((zJ1 Hb).below ((zJ1 Hb2).mono hB)).at_ (bys_at' hx)
  have hset := own_set (i := j) (zJ1 Hown) (.int .u8 x.toNat)
  rw [backTo_set hx] at hset
  have hcl : (backTo b (j + 1))[j]? = some (.int .u8 0) := by simp [backTo, List.getElem?_append]
  have hc2 := uJp (zJ1 Hown) hcl
  have hf2 := uJo (zJ1 Hown) j
  have hge := own_at (zJ1 Hown)
  have e1 : ((j + 1 : Nat) : Int) - 1 = (j : Int) := by omega
  rw [e1]
  have Hset := zJ2 hset
  clear hset hcl hx
  go_wp2
  go_roundw
  case rel => exact ⟨j, by omega, rfl, zJ1 Hset, (zJ1 Hb2).setCell (Nat.le_refl _) _⟩
  case measure => simp [intOf]
theorem add_yes (a b : Int) (w : World) (h0 : 0 <= a) (h2 : 0 <= b) (h : a + b <= 18446744073709551615) :
  Calls Tryz.prog 135 #[.int .u64 a, .int .u64 b] w fun e w' => e = .returned (.tuple #[.int .u64 (a + b), .bool true]) /\ w = w' := by
 obtain ⟨c, hc, hcb⟩ : ∃ c, bits .xor .u64 IntKind.u64.max b = c /\ c = 18446744073709551615 - b := ⟨_, rfl, Wd.xor_top b h2 (by omega)⟩
 have hc2 : ¬ c < a := by omega
 have hs : IntKind.u64.signed = false := rfl
 clear hcb
 go_enter Tryz.func135, Tryz.ntmps135
 go_wp2
 go_ret2
 exact ⟨rfl, rfl⟩
theorem add_no (a b : Int) (w : World) (h1 : a <= 18446744073709551615) (h2 : 0 <= b) (h3 : b <= 18446744073709551615) (h : 18446744073709551615 < a + b) :
  Calls Tryz.prog 135 #[.int .u64 a, .int .u64 b] w fun e w' => e = .returned (.tuple #[.int .u64 0, .bool false]) /\ w = w' := by
 obtain ⟨c, hc, hcb⟩ : ∃ c, bits .xor .u64 IntKind.u64.max b = c /\ c = 18446744073709551615 - b := ⟨_, rfl, Wd.xor_top b h2 (by omega)⟩
 have hc2 : c < a := by omega
 have hs : IntKind.u64.signed = false := rfl
 clear hcb
 go_enter Tryz.func135, Tryz.ntmps135
 go_wp2
 go_ret2
 exact ⟨rfl, rfl⟩
theorem zJf (a b c : Int) (w : World) (h0 : 0 <= a) (h1 : a <= 18446744073709551615) (h2 : 0 <= b) (h3 : b <= 18446744073709551615) (h5 : c <= 18446744073709551615) :
  Calls Tryz.prog 84 #[.int .u64 a, .int .u64 b, .int .u64 c] w fun e w' => e = .returned (.bool (decide (a + b <= c))) /\ w = w' := by
 by_cases h : a + b <= 18446744073709551615
 ·go_enter Tryz.func84, Tryz.ntmps84
  go_wp2_with (go_at_call 135; refine (add_yes _ _ _ h0 h2 h).mono ?_; rintro e w' ⟨rfl, rfl⟩)
  go_ret
  exact ⟨rfl, rfl⟩
 ·have h' : 18446744073709551615 < a + b := by omega
  have hr : decide (a + b <= c) = false := decide_eq_false (by omega)
  rw [hr]
  clear hr
  go_enter Tryz.func84, Tryz.ntmps84
  go_wp2_with (go_at_call 135; refine (add_no _ _ _ h1 h2 h3 h').mono ?_; rintro e w' ⟨rfl, rfl⟩)
  go_ret
  exact ⟨rfl, rfl⟩
def IdxInt (xs : List Int) (v : Int) (w : World) (e : Ending) (w' : World) : Prop := ∃ r : Int, e = .returned (.int .i64 r) /\ (0 <= r ↔ v ∈ xs) /\ w = w'
theorem indexInt_any (A : Option Addr) (n c B : Nat) (xs : List Int) (v : Int) (w : World) (hx : Rd w B 1 A n (xs.map (Value.int .i64))) (hn : n <= maxLen) :
  Calls Tryz.prog 190 #[.slice A n c, .int .i64 v] w (IdxInt xs v w) := by
 have hxl : xs.length = n := by simpa using hx.len1
 unfold maxLen at hn
 have Hx := zJ2 hx
 have Hxl := zJ2 hxl
 clear hx hxl
 go_enter Tryz.func190, Tryz.ntmps190
 go_wp2
 go_loop [8] (fun i => ∃ k : Nat, k <= n /\ i = .int .i64 k /\ v ∉ xs.take k) (fun i => n - (intOf i).toNat)
 case atStart => exact ⟨0, Nat.zero_le _, rfl, by simp⟩
 case round =>
  obtain ⟨k, hk, rfl, hv⟩ := hrel
  have Hv := zJ2 hv
  clear hv
  by_cases hlt : k < n
  ·obtain ⟨x, hxk⟩ : ∃ x, xs[k]? = some x := ⟨_, List.getElem?_eq_getElem (by rw [zJ1 Hxl]; exact hlt)⟩
   obtain ⟨b1, o1, rfl, _, c1⟩ := (zJ1 Hx).at_ (k := k) (u := .int .i64 x) (by simp [hxk])
   by_cases he : v = x
   ·have hb : (v == x) = true := by simpa using he
    have hm : v ∈ xs := by rw [he]; exact List.mem_of_getElem? hxk
    have Hm := zJ2 hm
    clear he hxk hm
    go_wp2
    go_ret
    exact ⟨k, rfl, ⟨fun _ => zJ1 Hm, fun _ => by omega⟩, rfl⟩
   ·have hb : (v == x) = false := by simpa using he
    have hm : v ∉ xs.take (k + 1) := by
     rw [List.take_add_one, hxk, List.mem_append]
     simp [he, zJ1 Hv]
    have Hm := zJ2 hm
    clear he hxk hm
    go_wp2
    go_round
    case rel => exact ⟨k + 1, by omega, by go_num, zJ1 Hm⟩
    case measure => simp [intOf]; omega
  ·have hm : v ∉ xs := by
    have := zJ1 Hv
    rwa [List.take_of_length_le (by have := zJ1 Hxl; omega)] at this
   have Hm := zJ2 hm
   clear hm
   go_wp2
   go_ret
   exact ⟨-1, rfl, ⟨fun h => by omega, fun h => absurd h (zJ1 Hm)⟩, rfl⟩
theorem vJm (A : Option Addr) (n c B : Nat) (xs : List Int) (v : Int) (w : World) (hx : Rd w B 1 A n (xs.map (Value.int .i64))) (hn : n <= maxLen) :
  Calls Tryz.prog 187 #[.slice A n c, .int .i64 v] w fun e w' => e = .returned (.bool (Wd.memB v xs)) /\ w = w' := by
 have Hx := zJ2 hx
 clear hx
 go_enter Tryz.func187, Tryz.ntmps187
 go_wp2_with (go_at_call 190; refine (indexInt_any _ _ _ _ _ _ _ (zJ1 Hx) hn).mono ?_; rintro e w1 ⟨r, rfl, hr, rfl⟩; have Hr := zJ2 hr; clear hr)
 go_ret
 refine ⟨yJb ?_, rfl⟩
 unfold Wd.memB
 rw [Bool.eq_iff_iff, decide_eq_true_eq, decide_eq_true_eq]
 exact zJ1 Hr
theorem sized_any (n : Int) (w : World) :
  Calls Tryz.prog 182 #[.int .i64 n] w fun e w' => e = .returned (.bool (Wd.sizedB n)) /\ Below w.heap.size w w' := by
 have hr := Rd.row (w := w) (cs := #[.int .i64 1, .int .i64 2, .int .i64 4, .int .i64 8]) (e := 292) (size := 4) rfl
 have hr2 : Rd (w.alloc (.cells #[.int .i64 1, .int .i64 2, .int .i64 4, .int .i64 8] 292)) (w.heap.size + 1) 1 (some ⟨w.heap.size, 0, none⟩) 4 (([1, 2, 4, 8] : List Int).map (Value.int .i64)) := ⟨rfl, hr.2⟩
 have Hr := zJ2 hr2
 clear hr hr2
 go_enter Tryz.func182, Tryz.ntmps182
 go_wp2_with (go_at_call 187; refine (vJm _ _ _ _ _ _ _ (zJ1 Hr) (by unfold maxLen; omega)).mono ?_; rintro e w1 ⟨rfl, rfl⟩)
 go_ret
 exact ⟨rfl, (Below.refl _ _).alloc (Nat.le_refl _) _⟩
theorem check_yes (A : Option Addr) (m c : Nat) (p s : Int) (w : World) (hm : m <= maxLen) (hs : s = 1 \/ s = 2 \/ s = 4 \/ s = 8) (h0 : 0 <= p) (hp : p <= 18446744073709551615) (hin : p + s <= m) :
  Calls Tryz.prog 171 #[.slice A m c, .int .u64 p, .int .i64 s] w fun e w' => e = .returned (.int .i64 0) /\ Below w.heap.size w w' := by
 unfold maxLen at hm
 have hd : Wd.sizedB s = true := Wd.sizedB_yes hs
 have hd2 : decide (p + s <= (m : Int)) = true := by simpa using hin
 have hs1 : 1 <= s := by omega
 have hs8 : s <= 8 := by omega
 clear hs
 go_enter Tryz.func171, Tryz.ntmps171
 go_wp2_with (first
  | (go_at_call 182; refine (sized_any _ _).mono ?_; rintro e w1 ⟨rfl, hb1⟩)
  | (go_at_call 84; refine (zJf _ _ _ _ h0 hp (by omega) (by omega) (by omega)).mono ?_; rintro e w2 ⟨rfl, rfl⟩))
 go_ret
 exact ⟨rfl, hb1⟩
set_option maxHeartbeats 800000 in
theorem get_loop (A : Option Addr) (m c : Nat) (B : Nat) (b : List UInt8) (p s : Nat) (w : World) (hB : B <= w.heap.size) (hb : Rd w B 1 A m (b.map fun c => .int .u8 c.toNat)) (hm : m <= maxLen) (hs : s = 1 \/ s = 2 \/ s = 4 \/ s = 8) (hin : p + s <= m)
  (hck : ∀ w, Calls Tryz.prog 171 #[.slice A m c, .int .u64 p, .int .i64 s] w fun e w' => e = .returned (.int .i64 0) /\ Below w.heap.size w w') :
  Calls Tryz.prog 134 #[.slice A m c, .int .u64 p, .int .i64 s] w fun e w' => e = .returned (.tuple #[.int .u64 (Wd.num b p s), .int .i64 0]) /\ Below w.heap.size w w' := by
 have hs8 : s <= 8 := by omega
 have hbl : b.length = m := by simpa using hb.len1
 unfold maxLen at hm
 have Hb := zJ2 hb
 have Hck := zJ2 hck
 have Hbl := zJ2 hbl
 clear hb hck hs hbl
 go_enter Tryz.func134, Tryz.ntmps134
 go_wp2_with (go_at_call 171; refine ((zJ1 Hck) _).mono ?_; rintro e w1 ⟨rfl, hb1⟩)
 go_loop [6, 18] (fun x i => ∃ k : Nat, k <= s /\ i = .int .i64 k /\ x = .int .u64 (Wd.num b p k)) (fun _ i => s - (intOf i).toNat)
 case atStart => exact ⟨0, Nat.zero_le _, rfl, by rw [Wd.num_zero]; rfl⟩
 case round =>
  obtain ⟨k, hk, rfl, rfl⟩ := hrel
  by_cases hlt : k < s
  ·obtain ⟨x, hx⟩ : ∃ x, b[p + k]? = some x := ⟨_, List.getElem?_eq_getElem (by rw [zJ1 Hbl]; omega)⟩
   obtain ⟨b1, o1, rfl, _, c1⟩ := ((zJ1 Hb).below (hb1.mono hB)).at_ (k := p + k) (u := .int .u8 x.toNat) (by simp [hx])
   have hst := Wd.num_succ b p k x hx
   have hlt2 := Wd.num_lt b p s
   have Hst := zJ2 hst
   have hval := Wd.or_val (Wd.num b p k) x.toNat k (Wd.num_lt b p k) x.toNat_lt (by omega)
   rw [<- hst] at hval
   have Hval := zJ2 hval
   clear hst hx hlt2 hval
   go_wp2
   go_round
   case rel => exact ⟨k + 1, by omega, by go_num, by rw [zJ1 Hval]⟩
   case measure => simp [intOf]; omega
  ·obtain rfl : k = s := by omega
   go_wp2
   go_ret2
   exact ⟨rfl, hb1⟩
theorem get_yes (A : Option Addr) (m c : Nat) (B : Nat) (b : List UInt8) (p s : Nat) (w : World) (hB : B <= w.heap.size) (hb : Rd w B 1 A m (b.map fun c => .int .u8 c.toNat)) (hm : m <= maxLen) (hs : s = 1 \/ s = 2 \/ s = 4 \/ s = 8) (hin : p + s <= m) :
  Calls Tryz.prog 134 #[.slice A m c, .int .u64 p, .int .i64 s] w fun e w' => e = .returned (.tuple #[.int .u64 (Wd.num b p s), .int .i64 0]) /\ Below w.heap.size w w' :=
 get_loop A m c B b p s w hB hb hm hs hin fun w => check_yes A m c p s w hm (by omega) (by omega) (by unfold maxLen at hm; omega) (by omega)
end Go.Proofs.YtiiiblmhlhikkaaGreatDoor
namespace Go.Proofs.YtiiiblmhlhikkaaGreatDoor.Cl
open Go.Proofs.YtiiiblmhlhikkaaGreatDoor
def lb : Nat -> Nat -> List UInt8
 | _, 0 => []
 | x, n + 1 => UInt8.ofNat (x % 256) :: lb (x / 256) n
theorem lb_len (n x : Nat) : (lb x n).length = n := by
 induction n generalizing x with
 | zero => rfl
 | succ n ih => simp [lb, ih]
def ba (l : List UInt8) : ByteArray := ⟨l.toArray⟩
structure R where
 b : List UInt8
 gone : Bool
def take (r : R) (n : Nat) : List UInt8 × R := if r.gone = true \/ r.b.length < n then ([], ⟨r.b, true⟩) else (r.b.take n, ⟨r.b.drop n, false⟩)
def rnum (r : R) (s : Nat) : Nat × R := (Wd.le (take r s).1, (take r s).2)
def rtxt (r : R) : List UInt8 × R := take (rnum r 2).2 (rnum r 2).1
def rtxts : Nat -> R -> List ByteArray × R
 | 0, r => ([], r)
 | n + 1, r => if r.gone = true then ([], r) else (ba (rtxt r).1 :: (rtxts n (rtxt r).2).1, (rtxts n (rtxt r).2).2)
def rlst (r : R) : List ByteArray × R := rtxts (rnum r 1).1 (rnum r 1).2
def rfld (s : C × R) : Nat -> C × R
 | 5 => ({ s.1 with path := ba (rtxt s.2).1 }, (rtxt s.2).2)
 | 6 => ({ s.1 with argv := (rlst s.2).1 }, (rlst s.2).2)
 | 7 => ({ s.1 with env := (rlst s.2).1 }, (rlst s.2).2)
 | 8 => ({ s.1 with bytes := (rtxt s.2).1 }, (rtxt s.2).2)
 | 0 => ({ s.1 with a := (rnum s.2 8).1 }, (rnum s.2 8).2)
 | 1 => ({ s.1 with b := (rnum s.2 8).1 }, (rnum s.2 8).2)
 | 2 => ({ s.1 with c := (rnum s.2 8).1 }, (rnum s.2 8).2)
 | 3 => ({ s.1 with d := (rnum s.2 8).1 }, (rnum s.2 8).2)
 | _ => ({ s.1 with e := (rnum s.2 8).1 }, (rnum s.2 8).2)
def rflds : List Nat -> C × R -> C × R
 | [], s => s
 | f :: r, s => rflds r (rfld s f)
def zeroC : C := ⟨0, 0, 0, 0, 0, 0, ba [], [], [], []⟩
def kindC (k : Nat) : C := ⟨k, 0, 0, 0, 0, 0, ba [], [], [], []⟩
def rall (k : Nat) (b : List UInt8) : C × R := rflds (fsN k) (kindC k, ⟨b, false⟩)
def read : List UInt8 -> C × Nat × Int
 | [] => (zeroC, 0, 24)
 | k :: r => if k.toNat = 0 \/ 12 < k.toNat then (zeroC, 0, 23)
   else if (rall k.toNat r).2.gone = true then (zeroC, 0, 24)
   else if check (rall k.toNat r).1 = 0 then ((rall k.toNat r).1, r.length + 1 - (rall k.toNat r).2.b.length, 0)
   else (zeroC, 0, check (rall k.toNat r).1)
def Went (r r' : R) (x : List UInt8) : Prop := r.gone = false /\ r'.gone = false /\ r.b = x ++ r'.b
theorem Went.trans {a b c : R} {x y : List UInt8} (h : Went a b x) (k : Went b c y) : Went a c (x ++ y) :=
 ⟨h.1, k.2.1, by rw [h.2.2, k.2.2, List.append_assoc]⟩
def more (t : List UInt8) (r : R) : R := ⟨r.b ++ t, r.gone⟩
end Go.Proofs.YtiiiblmhlhikkaaGreatDoor.Cl
namespace Go.Proofs.YtiiiblmhlhikkaaGreatDoor
open Go.RowKit
section
variable {P : Program} {t e : TypeId} {size bytes : Nat}
theorem zJh (T : SlTy P t e size bytes) {W : World} {ops : Array Oper} {rest : List Oper} {o : Oper} {a : Act} {Q : Exit -> Act -> World -> Prop} (hgd : o.guard = none) (s x : Operand)
  (ho : o.op = .call { callee := .builtin .append, args := #[s, x], argTypes := #[t, t] })
  (base : Nat) (v : Value) (n : Nat) (xs : List Value) (hs : a.eval s = v) (hown : W.ownsRow base e size v n xs)
  (cs : Array Value) (g : Nat) (hx : a.eval x = .slice (some ⟨g, 0, none⟩) 1 1) (hg : g = W.heap.size) (hcs : cs.size = size) (h1 : ∀ u ∈ cs.toList, u.oneCell' = true)
  (hb : (n + 1) * bytes <= 140737488355328) (hbase : base <= W.heap.size)
  (h : ∀ A' c' w', w'.ownsRow base e size (.slice A' (n + 1) c') (n + 1) (xs ++ cs.toList) -> W.grownBy w' v.ownBlock -> (∀ k, (Value.slice A' (n + 1) c').ownBlock = some k -> v.ownBlock = some k \/ W.heap.size <= k) -> wpList P ops Q rest (a.put o.dst (.slice A' (n + 1) c')) w') : wpList P ops Q (o :: rest) a (W.alloc (.cells cs e)) := by
 subst hg
 exact yJh T hgd s x ho base v n xs hs hown cs hx hcs h1 hb hbase h
end
open Go.RowKit
theorem uJl (a b c : Nat) (w : World) (hc : c < 18446744073709551616) (h : a + b <= c) : Calls Tryz.prog 148 #[.int .u64 a, .int .u64 b, .int .u64 c] w fun e w' => e = .returned (.bool true) /\ w = w' := by
 have h1 : decide (((b : Nat) : Int) <= ((c : Nat) : Int)) = true := by simp; omega
 have h2 : decide (((a : Nat) : Int) <= ((c : Nat) : Int) - ((b : Nat) : Int)) = true := by simp; omega
 go_enter Tryz.func148, Tryz.ntmps148
 go_wp2
 go_ret
 exact ⟨rfl, rfl⟩
theorem place_yes (A : Option Addr) (m c p s : Nat) (w : World) (hm : m <= 4294967296) (hs : s = 1 \/ s = 2 \/ s = 4 \/ s = 8) (h : p + s <= m) : Calls Tryz.prog 175 #[.slice A m c, .int .u64 p, .int .i64 s] w fun e w' => e = .returned (.int .i64 0) /\ w = w' := by
 rcases hs with rfl | rfl | rfl | rfl
 all_goals
  go_enter Tryz.func175, Tryz.ntmps175
  go_wp2_with (go_at_call 148; refine (uJl p _ m w (by omega) h).mono ?_; rintro e w1 ⟨rfl, rfl⟩)
  go_ret
  exact ⟨rfl, rfl⟩
def setK (b : List UInt8) (p x : Nat) : Nat -> List UInt8
 | 0 => b
 | i + 1 => (setK b p x i).set (p + i) (UInt8.ofNat (x / 256 ^ i % 256))
theorem setK_len (b : List UInt8) (p x i : Nat) : (setK b p x i).length = b.length := by
 induction i with
 | zero => rfl
 | succ i ih => simp [setK, ih]
theorem lb_snoc (n x : Nat) : Cl.lb x (n + 1) = Cl.lb x n ++ [UInt8.ofNat (x / 256 ^ n % 256)] := by
 induction n generalizing x with
 | zero => simp [Cl.lb]
 | succ n ih =>
  have e : Cl.lb x (n + 1 + 1) = UInt8.ofNat (x % 256) :: Cl.lb (x / 256) (n + 1) := rfl
  rw [e, ih (x / 256), Nat.div_div_eq_div_mul, Nat.pow_succ, Nat.mul_comm 256]
  rfl
theorem setK_zero (s x i : Nat) (h : i <= s) : setK (List.replicate s 0) 0 x i = Cl.lb x i ++ List.replicate (s - i) 0 := by
 induction i with
 | zero => simp [setK, Cl.lb]
 | succ i ih =>
  have e : s - i = (s - (i + 1)) + 1 := by omega
  rw [setK, ih (by omega), lb_snoc, e, List.replicate_succ, Nat.zero_add, List.set_append_right _ _ (by rw [Cl.lb_len]; exact Nat.le_refl _), Cl.lb_len, Nat.sub_self, List.set_cons_zero, List.append_assoc]
  rfl
theorem setK_all (s x : Nat) : setK (List.replicate s 0) 0 x s = Cl.lb x s := by
 rw [setK_zero s x s (Nat.le_refl _), Nat.sub_self]
 simp
set_option maxRecDepth 100000 in
set_option maxHeartbeats 1000000 in
theorem refSet_yes (A : Option Addr) (m c B : Nat) (b : List UInt8) (p s x : Nat) (w : World) (hB : B <= w.heap.size) (hb : Rd w B 1 A m (bys b)) (hm : m <= 4294967296) (hs : s = 1 \/ s = 2 \/ s = 4 \/ s = 8) (h : p + s <= m) (hx : x < 18446744073709551616) :
  Calls Tryz.prog 169 #[.slice A m c, .int .u64 p, .int .i64 s, .int .u64 x] w fun e w' => ∃ A' c', e = .returned (.tuple #[.slice A' m c', .int .i64 0]) /\ w'.ownsRow w.heap.size 5 1 (.slice A' m c') m (bys (setK b p x s)) /\ Below w.heap.size w w' := by
 have hbl : b.length = m := by simpa [bys] using hb.len1
 have hs8 : s <= 8 := by omega
 have hs0 : 0 < s := by omega
 have hpl := place_yes A m c p s w hm hs h
 have hcp := xJu A m c B b w hB hb hm
 have Hpl := zJ2 hpl
 have Hcp := zJ2 hcp
 have Hbl := zJ2 hbl
 clear hpl hcp hbl hb hs
 go_enter Tryz.func169, Tryz.ntmps169
 go_wp2_with (first
  | (go_at_call 175; refine (zJ1 Hpl).mono ?_; rintro e w1 ⟨rfl, rfl⟩)
  | (go_at_call 20; refine (zJ1 Hcp).mono ?_; rintro e w1 ⟨A', c', rfl, hown, hb1⟩; obtain ⟨g, rfl, hg1, hg2⟩ := yJx hown (by omega); have Hown := zJ2 hown; have Hb1 := zJ2 hb1; clear hown hb1))
 go_loopw [12, 3] (fun i y wr => ∃ k : Nat, k <= s /\ i = .int .i64 k /\ y = .int .u64 (x / 256 ^ k : Nat) /\ wr.ownsRow w.heap.size 5 1 (.slice (some ⟨g, 0, none⟩) m c') m (bys (setK b p x k)) /\ Below w.heap.size w wr) (fun i _ _ => s - (intOf i).toNat)
 case atStart => exact ⟨0, by omega, rfl, by simp, zJ1 Hown, zJ1 Hb1⟩
 case round =>
 clear Hown Hb1
 obtain ⟨k, hk, rfl, rfl, hown, hb2⟩ := hrel
 have Hown := zJ2 hown
 have Hb2 := zJ2 hb2
 clear hown hb2
 rcases Nat.lt_or_ge k s with hlt | hge
 case inr =>
  obtain rfl : k = s := by omega
  go_wp2
  go_ret2
  exact ⟨_, _, rfl, zJ1 Hown, zJ1 Hb2⟩
 obtain ⟨z, hz⟩ : ∃ z, (setK b p x k)[p + k]? = some z := ⟨_, List.getElem?_eq_getElem (by rw [setK_len, zJ1 Hbl]; omega)⟩
 have hset := own_set (i := p + k) (zJ1 Hown) (.int .u8 (UInt8.ofNat (x / 256 ^ k % 256)).toNat)
 rw [bys_set] at hset
 have hc2 := uJp (zJ1 Hown) (bys_at hz)
 have hf2 := uJo (zJ1 Hown) (p + k)
 obtain ⟨hg3, hg4, hg5⟩ := own_at (zJ1 Hown)
 have hy : x / 256 ^ k < 18446744073709551616 := Nat.lt_of_le_of_lt (Nat.div_le_self _ _) hx
 have hy2 : x / 256 ^ k / 256 = x / 256 ^ (k + 1) := by rw [Nat.div_div_eq_div_mul, Nat.pow_succ]
 have hy3 : (UInt8.ofNat (x / 256 ^ k % 256)).toNat = x / 256 ^ k % 256 := by simp
 have Hy2 := zJ2 hy2
 rw [show (setK b p x k).set (p + k) (UInt8.ofNat (x / 256 ^ k % 256)) = setK b p x (k + 1) from rfl, hy3] at hset
 have Hset := zJ2 hset
 clear hset hy2 hy3 hz
 generalize x / 256 ^ k = y at *
 go_wp2
 go_roundw
 case rel =>
  refine ⟨k + 1, by omega, by go_num, ?_, ?_, (zJ1 Hb2).setCell hg1 _⟩
  ·rw [<- zJ1 Hy2]
   congr 1
  ·exact zJ1 Hset
 case measure => simp [intOf]; omega
section
variable {P : Program}
theorem appS_at {w w' : World} {base : Nat} {t u ty e : TypeId} {i : TypeInfo} (ht : P.underlying t = some (.slice e)) (hu : P.underlying u = some .string) (hi : P.info? e = some i) (hz : i.zero = some (.int .u8 0))
  (hs : i.size = 1) (hby : i.bytes = 1) {v v' : Value} {n : Nat} {xs : List Value} (hown : w.ownsRow base e 1 v n xs) {s : ByteArray} (hb : n + s.size <= 140737488355328)
  (hr : (Builtin.append_ #[t, u] ty #[v, .string s]).run P w = .ok v' w') : ∀ k, v'.ownBlock = some k -> v.ownBlock = some k \/ w.heap.size <= k := by
 have hl := hown.1
 rcases hown.2 with ⟨rfl, rfl⟩ | ⟨g, cap, cur, rfl, h1, h2, h3, h4, h5, h6⟩
 ·by_cases h0 : s.size = 0
  ·have hf := Lib.run_firstCells_string (P := P) w 1 s
   rw [h0] at hf
   have hn : Lib.strCells s = [] := List.eq_nil_of_length_eq_zero (by rw [Lib.strCells_length]; exact h0)
   rw [hn] at hf
   simp [Builtin.append_, run_underlying ht, run_underlying hu, sizeOf, typeInfo, hi, hs, Builtin.lenOf, h0, hf] at hr
   obtain ⟨rfl, rfl⟩ := hr
   intro k hk
   cases hk
  ·rw [run_append_nil_string (P := P) w t u ty e i (.int .u8 0) ht hu hi hz s (by omega) (by omega) (by rw [hby]; omega)] at hr
   injection hr with e1 e2
   subst e1
   intro k hk
   simp [Value.ownBlock] at hk
   exact .inr (by omega)
 ·by_cases hroom : n + s.size <= cap
  ·rw [Lib.run_append_room_string (P := P) w t u ty e i ht hu hi hs g n cap cur h2 s hroom (by omega)] at hr
   injection hr with e1 e2
   subst e1
   exact fun k hk => .inl hk
  ·have hc : ∀ j u, xs[j]? = some u -> w.cell? ((⟨g, 0, none⟩ : Addr).add j) = some u := hown.cells (g := g) rfl
   rw [Lib.run_append_grow_string (P := P) w t u ty e i (.int .u8 0) ht hu hi hz ⟨g, 0, none⟩ n cap xs (by rw [hs]; exact hl) hc s (by omega) (by omega) (by rw [hby]; exact growslice_fits (by omega) (by omega))] at hr
   injection hr with e1 e2
   subst e1
   intro k hk
   simp [Value.ownBlock] at hk
   exact .inr (by omega)
end
theorem strTyp : Tryz.prog.underlying 9 = some .string := Tryz.underlying9
theorem wpList_appS {w : World} {ops : Array Oper} {rest : List Oper} {o : Oper} {a : Act} {Q : Exit -> Act -> World -> Prop} (hgd : o.guard = none) (sl x : Operand)
  (ho : o.op = .call { callee := .builtin .append, args := #[sl, x], argTypes := #[64, 9] })
  (base : Nat) (v : Value) (n : Nat) (xs : List UInt8) (hs : a.eval sl = v) (hown : w.ownsRow base 5 1 v n (bys xs)) (s : ByteArray) (hx : a.eval x = .string s)
  (hb : n + s.size <= 140737488355328) (hbase : base <= w.heap.size)
  (h : ∀ A' c' w', Grew w w' base v (.slice A' (n + s.size) c') (n + s.size) (xs ++ s.data.toList) -> wpList Tryz.prog ops Q rest (a.put o.dst (.slice A' (n + s.size) c')) w') : wpList Tryz.prog ops Q (o :: rest) a w := by
 obtain ⟨i, hi, hz0, hz1, hz2⟩ := info_parts yJo
 refine wpList_plain hgd fun K hK => ?_
 obtain ⟨v', w', hr, h2, h3, h4⟩ := Lib.run_append_own_string (P := Tryz.prog) w base 64 9 o.type 5 i Tryz.underlying64 strTyp hi hz0 hz1 hz2 v n (bys xs) hown s (by unfold maxLen; omega) hb hbase
 have h5 := appS_at Tryz.underlying64 strTyp hi hz0 hz1 hz2 hown hb hr
 obtain ⟨A', c', rfl⟩ := yJd h2
 unfold Oper.wp execOp
 simp only [ho, resolve, invoke, builtin, Sem.run_bind, Sem.run_pure, Result.andThen_ok, List.map_toArray, List.map_cons, List.map_nil, hs, hx, hr]
 refine hK _ _ (h A' c' w' ⟨?_, h3, h5⟩)
 rw [zJj]
 exact h2
open Go.RowKit
theorem own_grown {w w' : World} {base : Nat} {e : TypeId} {size n : Nat} {v : Value} {xs : List Value} {row : Option Nat} (h : w.ownsRow base e size v n xs) (hg : w.grownBy w' row) (hne : ∀ g, v.ownBlock = some g -> row ≠ some g) : w'.ownsRow base e size v n xs := by
 refine ⟨h.1, h.2.imp id ?_⟩
 rintro ⟨g, cap, cur, rfl, e2, e3, r⟩
 exact ⟨g, cap, cur, rfl, e2, (hg.block g (lt_of_block e3) (fun e => hne g rfl e.symm)).trans e3, r⟩
theorem own_prefix {w : World} {base : Nat} {e : TypeId} {n m c : Nat} {A : Option Addr} {xs ys : List Value} (h : w.ownsRow base e 1 (.slice A (n + m) c) (n + m) (xs ++ ys)) (hl : xs.length = n) : w.ownsRow base e 1 (.slice A n c) n xs := by
 refine ⟨by omega, ?_⟩
 rcases h.2 with ⟨h1, h2⟩ | ⟨g, cap, cur, h1, h2, h3, h4, h5, h6, h7⟩
 ·injection h1 with e1 e2 e3
  have hn : n = 0 := by omega
  subst e1 e3 hn
  exact .inl ⟨rfl, rfl⟩
 ·injection h1 with e1 e2 e3
  subst e1 e3
  refine .inr ⟨g, c, cur, rfl, h2, h3, by omega, h5, h6, ?_⟩
  have h8 := congrArg (List.take (n * 1)) h7
  rw [List.take_take, Nat.min_eq_left (by omega)] at h8
  rw [h8, List.take_append_of_le_length (by omega), List.take_of_length_le (by omega)]
structure Gone (w wr : World) (base : Nat) (A : Option Addr) (n c : Nat) (xs : List UInt8) (mark : UInt8) (k : Nat) (A' : Option Addr) (c' : Nat) : Prop where
 grew : Grew w wr base (.slice A n c) (.slice A' (n + k) c') (n + k) (xs ++ List.replicate k mark)
 old : (A' = A /\ c' = c) \/ (wr.ownsRow base 5 1 (.slice A n c) n (bys xs) /\ ∀ g, (Value.slice A n c).ownBlock = some g -> (Value.slice A' (n + k) c').ownBlock ≠ some g)
section
variable {w wr w' : World} {base n c k c' c'' : Nat} {A A' A'' : Option Addr} {xs : List UInt8} {mark : UInt8}
theorem Gone.keeps (h : Gone w wr base A n c xs mark k A' c') : wr.ownsRow base 5 1 (.slice A n c) n (bys xs) := by
 rcases h.old with ⟨rfl, rfl⟩ | ⟨h1, _⟩
 ·have h1 := h.grew.own
  have hl := h1.1
  rw [zJj] at h1
  exact own_prefix h1 (by simp [bys] at hl ⊢; omega)
 ·exact h1
theorem Gone.step (h : Gone w wr base A n c xs mark k A' c') (hg : Grew wr w' base (.slice A' (n + k) c') (.slice A'' (n + k + 1) c'') (n + k + 1) (xs ++ List.replicate k mark ++ [mark]))
  (ho : (∃ A0 c0, Value.slice A' (n + k) c' = .slice A0 (n + k) c0 /\ Value.slice A'' (n + k + 1) c'' = .slice A0 (n + k + 1) c0) \/ (Below wr.heap.size wr w' /\ ∀ k', (Value.slice A'' (n + k + 1) c'').ownBlock = some k' -> wr.heap.size <= k')) : Gone w w' base A n c xs mark (k + 1) A'' c'' := by
 have e : xs ++ List.replicate k mark ++ [mark] = xs ++ List.replicate (k + 1) mark := by rw [List.replicate_succ', List.append_assoc]
 rw [e] at hg
 refine ⟨h.grew.trans hg, ?_⟩
 have hk := h.keeps
 have hlt : ∀ g, (Value.slice A n c).ownBlock = some g -> g < wr.heap.size := fun g hg => (hk.lt g hg).2
 rcases ho with ⟨A0, c0, e1, e2⟩ | ⟨hb, hn⟩
 ·injection e1 with e1 _ e3
  injection e2 with e4 _ e6
  subst e1 e3 e4 e6
  rcases h.old with h1 | ⟨h1, h2⟩
  ·exact .inl h1
  ·refine .inr ⟨own_grown h1 hg.kept (fun g hg => h2 g hg), fun g hg => ?_⟩
   have := h2 g hg
   cases A'' with
   | none => simp [Value.ownBlock]
   | some a => simpa [Value.ownBlock] using this
 ·exact .inr ⟨own_below hk hb, fun g hg e => by have := hlt g hg; have := hn g e; omega⟩
end
open Go.RowKit
def Fr (w : World) (row : Option Nat) (A : Option Addr) (n : Nat) (xs : List Value) : Prop := xs.length = n /\ (xs = [] \/ ∃ b off cs t fr, A = some ⟨b, off, none⟩ /\ some b ≠ row /\ w.heap[b]? = some (.cells cs t fr) /\ ∀ j u, xs[j]? = some u -> cs[off + j]? = some u)
section
variable {w w' : World} {row row' : Option Nat} {base n : Nat} {A : Option Addr} {xs : List Value}
theorem Fr.rd (h : Fr w row A n xs) : Rd w w.heap.size 1 A n xs := by
 refine ⟨by simpa using h.1, h.2.imp id ?_⟩
 rintro ⟨b, off, cs, t, fr, e, hb, hg, hc⟩
 exact ⟨b, off, e, lt_of_block hg, fun j u hu => by rw [cell_of_row w b (off + j) cs t fr hg]; exact hc j u hu⟩
theorem Fr.below (h : Fr w row A n xs) (hb : Below w.heap.size w w') : Fr w' row A n xs := by
 refine ⟨h.1, h.2.imp id ?_⟩
 rintro ⟨b, off, cs, t, fr, e, hne, hg, hc⟩
 exact ⟨b, off, cs, t, fr, e, hne, (hb.block b (lt_of_block hg)).trans hg, hc⟩
theorem Fr.grown (h : Fr w row A n xs) (hg : w.grownBy w' row) (hr : ∀ k, row' = some k -> row = some k \/ w.heap.size <= k) : Fr w' row' A n xs := by
 refine ⟨h.1, h.2.imp id ?_⟩
 rintro ⟨b, off, cs, t, fr, e, hne, hgb, hc⟩
 refine ⟨b, off, cs, t, fr, e, fun e2 => ?_, (hg.block b (lt_of_block hgb) hne).trans hgb, hc⟩
 rcases hr b e2.symm with h1 | h1
 ·exact hne h1.symm
 ·have := lt_of_block hgb; omega
end
def u64s (l : List Nat) : List Value := l.map fun x => .int .u64 (x : Nat)
theorem u64Info : (Tryz.prog.info? 46).map (fun i => (i.zero, i.size, i.bytes)) = some (some (.int .u64 0), 1, 8) := by kernel_rfl
theorem u64Ty : SlTy Tryz.prog 169 46 1 8 := yJ0 (z := .int .u64 0) Tryz.underlying169 u64Info rfl (by omega) (by omega)
open Go.RowKit
theorem intTyp : Tryz.prog.underlying 3 = some (.int .i64) := Tryz.underlying3
theorem zeroL (k : Nat) : (Builtin.zeroCells (Value.int .u8 0).cells k).toList = bys (List.replicate k 0) := by
 show (madeCells #[Value.int .u8 0] (k * 1)).toList = _
 rw [toList_madeCells_one, Nat.mul_one]
 simp [bys]
set_option maxHeartbeats 1000000 in
theorem run_appZ (w : World) (base : Nat) (ty : TypeId) (v : Value) (n : Nat) (xs : List UInt8) (hown : w.ownsRow base 5 1 v n (bys xs)) (k : Nat) (hb : n + k <= 140737488355328) (hbase : base <= w.heap.size) :
  ∃ v' w', (Builtin.append_ #[64, 3] ty #[v, .int .i64 k]).run Tryz.prog w = .ok v' w' /\ Grew w w' base v v' (n + k) (xs ++ List.replicate k 0) := by
 obtain ⟨i, hi, hz, hsize, hby⟩ := info_parts yJo
 have ht := Tryz.underlying64
 have htn := intTyp
 have hxl : (bys xs).length = n := by simpa using hown.1
 have hlen : (bys xs ++ bys (List.replicate k 0)).length = (n + k) * 1 := by rw [List.length_append, hxl]; simp [bys]
 have hzl : (bys (List.replicate k 0)).length = k := by simp [bys]
 have hw : IntKind.i64.wrap (k : Int) = k := by rw [IntKind.wrap_i64]; omega
 have hw0 : IntKind.i64.wrap 0 = 0 := rfl
 have hneg : ¬ ((k : Int) < 0) := by omega
 have h48i : ¬ (281474976710656 < (k : Int)) := by omega
 have grown : ∀ (old : Nat) (cs : Array Value), old < n + k -> cs.toList = bys xs ++ bys (List.replicate k 0) ++ (Builtin.zeroCells (Value.int .u8 0).cells (grownCap w (n + k) old 5 - (n + k))).toList -> ∀ (u : Value),
   Grew w (w.drew.alloc (.cells cs 5)) base u (.slice (some ⟨w.heap.size, 0, none⟩) (n + k) (grownCap w (n + k) old 5)) (n + k) (xs ++ List.replicate k 0) := by
  intro old cs ho hcs u
  have hge := grownCap_ge w (n + k) old 5
  have hcm : grownCap w (n + k) old 5 <= maxLen := grownCap_le_maxLen w (n + k) old 5 (by unfold maxLen; omega)
  refine ⟨?_, ⟨rfl, rfl, rfl, by simp, fun j hj _ => Below.heap_alloc _ _ _ hj⟩, fun k' hk' => .inr (by simp [Value.ownBlock] at hk'; omega)⟩
  rw [zJj]
  refine ⟨hlen, .inr ⟨w.heap.size, _, cs, rfl, hbase, heap_alloc_new w.drew _, hge, hcm, ?_, ?_⟩⟩
  ·rw [<- Array.length_toList, hcs]
   have hz1 : (Value.int IntKind.u8 0).cells.size = 1 := rfl
   simp only [List.length_append, Array.length_toList, size_zeroCells, hz1, hxl, hzl]
   omega
  ·rw [hcs, <- hlen]
   exact List.take_left
 rcases hown.2 with ⟨rfl, rfl⟩ | ⟨g, cap, cur, rfl, hbg, hg, hnc, hcm, hcs, htake⟩
 ·have hx : xs = [] := by
   have h0 : (bys xs).length = 0 := hxl
   simpa [bys] using h0
  subst hx
  by_cases hm : k = 0
  ·subst hm
   refine ⟨.slice none 0 0, w, ?_, ⟨by simpa [bys] using hown, World.grownBy.refl w _, fun k hk => .inl hk⟩⟩
   simp [Builtin.append_, run_underlying ht, run_underlying htn, sizeOf, typeInfo, hi, hsize, asInt, asIntOf, hw0]
  ·have hr := Lib.run_append_nil_zeros (P := Tryz.prog) w 64 3 ty 5 i (.int .u8 0) .i64 .i64 ht htn hi hz k (by omega) (by omega) (by omega) (by rw [hby]; omega)
   refine ⟨_, _, hr, ?_⟩
   have hg := grown 0 (Builtin.zeroCells (Value.int .u8 0).cells k ++ Builtin.zeroCells (Value.int .u8 0).cells (grownCap w k 0 5 - k)) (by omega) (by rw [Array.toList_append, zeroL]; simp [bys]) (.slice none 0 0)
   simpa using hg
 ·by_cases hroom : n + k <= cap
  ·have hcs' : cur.size = cap := by simpa using hcs
   have hst := run_storeCells_at Tryz.prog g n 5 (bys (List.replicate k 0)) 0 cur w hg (by rw [hzl]; omega) (zJm _)
   simp only [Nat.add_zero, hzl] at hst
   have hr : (Builtin.append_ #[64, 3] ty #[.slice (some ⟨g, 0, none⟩) n cap, .int .i64 k]).run Tryz.prog w = .ok (.slice (some ⟨g, 0, none⟩) (n + k) cap) (w.setRow g (cur.toList.take n ++ bys (List.replicate k 0) ++ cur.toList.drop (n + k)).toArray) := by
    by_cases hk0 : k = 0
    ·subst hk0
     simp [bys] at hst
     simp [Builtin.append_, run_underlying ht, run_underlying htn, sizeOf, typeInfo, hi, hsize, asInt, asIntOf, zeroValue, hz, hby, hnc, Addr.add_lit, bys, hst, hw0]
    ·have hns : ¬ (k = 0) := hk0
     simp [Builtin.append_, run_underlying ht, run_underlying htn, sizeOf, typeInfo, hi, hsize, asInt, asIntOf, zeroValue, hz, hby, hw, hneg, h48i, hroom, hns, Addr.add_lit, zeroL, hst]
   refine ⟨_, _, hr, ⟨?_, ⟨rfl, rfl, rfl, by simp, fun k' _ hk' => setRow_other w g k' _ (fun e => hk' (by simp [Value.ownBlock, e]))⟩, fun k' hk' => .inl hk'⟩⟩
   rw [zJj]
   refine ⟨hlen, .inr ⟨g, cap, _, rfl, hbg, setRow_heap w g cur _ 5 _ hg, hroom, hcm, ?_, ?_⟩⟩
   ·simp only [List.size_toArray, List.length_append, List.length_take, List.length_drop, Array.length_toList, hzl]
    omega
   ·have ht' : cur.toList.take n = bys xs := by simpa using htake
    rw [ht', <- hlen]
    exact List.take_left
  ·have holds : ∀ j u, (bys xs)[j]? = some u -> w.cell? ((⟨g, 0, none⟩ : Addr).add j) = some u := hown.cells (g := g) rfl
   have hfo := run_firstCells_some (P := Tryz.prog) w.drew 1 n ⟨g, 0, none⟩ n cap (bys xs) (by simpa using hxl) (by simpa using holds)
   have hr := Lib.run_append_grow_zeros (P := Tryz.prog) w 64 3 ty 5 i (.int .u8 0) .i64 .i64 ht htn hi hz (some ⟨g, 0, none⟩) n cap (bys xs) (by rw [hsize]; exact hfo) k (by omega) (by omega) (by omega) (by omega) (by rw [hby]; omega) (by rw [hby]; exact growslice_fits (by omega) (by omega))
   exact ⟨_, _, hr, grown cap _ (by omega) (by rw [Array.toList_append, Array.toList_append, zeroL]) _⟩
theorem wJv {w : World} {ops : Array Oper} {rest : List Oper} {o : Oper} {a : Act} {Q : Exit -> Act -> World -> Prop} (hgd : o.guard = none) (s x : Operand)
  (ho : o.op = .call { callee := .builtin .append, args := #[s, x], argTypes := #[64, 3] })
  (base : Nat) (v : Value) (n : Nat) (xs : List UInt8) (hs : a.eval s = v) (hown : w.ownsRow base 5 1 v n (bys xs)) (k : Nat) (hx : a.eval x = .int .i64 (k : Nat)) (hb : n + k <= 140737488355328) (hbase : base <= w.heap.size)
  (h : ∀ A' c' w', Grew w w' base v (.slice A' (n + k) c') (n + k) (xs ++ List.replicate k 0) -> wpList Tryz.prog ops Q rest (a.put o.dst (.slice A' (n + k) c')) w') : wpList Tryz.prog ops Q (o :: rest) a w := by
 refine wpList_plain hgd fun K hK => ?_
 obtain ⟨v', w', hr, h2⟩ := run_appZ w base o.type v n xs hown k hb hbase
 obtain ⟨A', c', rfl⟩ := yJd h2.own
 unfold Oper.wp execOp
 simp only [ho, resolve, invoke, builtin, Sem.run_bind, Sem.run_pure, Result.andThen_ok, List.map_toArray, List.map_cons, List.map_nil, hs, hx, hr]
 exact hK _ _ (h A' c' w' h2)
theorem yJe {w w' : World} {b : Nat} (h : w'.heap[b]? = w.heap[b]?) (o : Nat) : w'.cell? ⟨b, o, none⟩ = w.cell? ⟨b, o, none⟩ := by
 unfold World.cell?
 simp only [h]
def bk (A : Option Addr) : Option Nat := A.map (·.block)
theorem zJv (A : Option Addr) (n c : Nat) : (Value.slice A n c).ownBlock = bk A := by cases A <;> rfl
structure FiM (w : World) (t : TypeId) (g o : Nat) (l : List Value) (base : Nat) (A : Option Addr) (n c : Nat) (xs : List UInt8) : Prop where
 blk : Blk w g t l
 at_ : l[o]? = some (.slice A n c)
 row : w.ownsRow base 5 1 (.slice A n c) n (bys xs)
 ne : bk A ≠ some g
structure FiE (t : TypeId) (g o : Nat) (l : List Value) (base : Nat) (A : Option Addr) (w w' : World) (A' : Option Addr) (n' c' : Nat) (xs' : List UInt8) : Prop where
 m : FiM w' t g o (l.set o (.slice A' n' c')) base A' n' c' xs'
 os : w'.os = w.os
 tape : w'.tape = w.tape
 output : w'.output = w.output
 size : w.heap.size <= w'.heap.size
 block : ∀ k, k < w.heap.size -> k ≠ g -> bk A ≠ some k -> w'.heap[k]? = w.heap[k]?
 at_ : ∀ k, bk A' = some k -> bk A = some k \/ w.heap.size <= k
section
variable {t : TypeId} {g o base n c n' c' n1 c1 n2 c2 : Nat} {l : List Value} {A A' A1 A2 : Option Addr} {w w' w1 w2 : World} {xs xs' xs1 xs2 : List UInt8}
theorem FiM.len (h : FiM w t g o l base A n c xs) : xs.length = n := by have := h.row.1; simpa [bys] using this
theorem FiM.cell (h : FiM w t g o l base A n c xs) : w.cell? ⟨g, o, none⟩ = some (.slice A n c) := h.blk.cell h.at_
theorem FiM.free (h : FiM w t g o l base A n c xs) : w.frozen? ⟨g, o, none⟩ = false := h.blk.free o
theorem FiM.lt (h : FiM w t g o l base A n c xs) : ∀ k, bk A = some k -> base <= k /\ k < w.heap.size := fun k hk => by
 have := h.row.lt k (by rw [zJv]; exact hk)
 exact this
theorem FiM.rd (h : FiM w t g o l base A n c xs) : Rd w w.heap.size 1 A n (bys xs) := Rd.of_own h.row
theorem FiM.below (h : FiM w t g o l base A n c xs) (hb : Below w.heap.size w w') : FiM w' t g o l base A n c xs := ⟨h.blk.belowSz hb, h.at_, own_below h.row hb, h.ne⟩
theorem set_self {l : List Value} {o : Nat} {v : Value} (h : l[o]? = some v) : l.set o v = l := by
 apply List.ext_getElem?
 intro i
 by_cases e : o = i
 ·subst e
  rw [List.getElem?_set_self (List.getElem?_eq_some_iff.1 h).1, h]
 ·rw [List.getElem?_set_ne e]
theorem FiE.refl (h : FiM w t g o l base A n c xs) : FiE t g o l base A w w A n c xs :=
 ⟨by rw [set_self h.at_]; exact h, rfl, rfl, rfl, Nat.le_refl _, fun _ _ _ _ => rfl, fun k hk => .inl hk⟩
theorem FiE.trans (h : FiE t g o l base A w w1 A1 n1 c1 xs1) (k : FiE t g o (l.set o (.slice A1 n1 c1)) base A1 w1 w2 A2 n2 c2 xs2) : FiE t g o l base A w w2 A2 n2 c2 xs2 := by
 refine ⟨by have := k.m; rwa [List.set_set] at this, k.os.trans h.os, k.tape.trans h.tape, k.output.trans h.output, Nat.le_trans h.size k.size, fun i hi h1 h2 => (k.block i (Nat.lt_of_lt_of_le hi h.size) h1 (fun e => ?_)).trans (h.block i hi h1 h2), fun i hi => ?_⟩
 ·rcases h.at_ i e with h3 | h3
  ·exact h2 h3
  ·omega
 ·rcases k.at_ i hi with h3 | h3
  ·exact h.at_ i h3
  ·exact .inr (Nat.le_trans h.size h3)
theorem FiE.then_ (h : FiE t g o l base A w w1 A1 n1 c1 xs1) (hb : Below w1.heap.size w1 w2) : FiE t g o l base A w w2 A1 n1 c1 xs1 :=
 ⟨h.m.below hb, hb.os.trans h.os, hb.tape.trans h.tape, hb.output.trans h.output, Nat.le_trans h.size hb.size, fun k hk h1 h2 => (hb.block k (Nat.lt_of_lt_of_le hk h.size)).trans (h.block k hk h1 h2), h.at_⟩
theorem FiE.after (hb : Below w.heap.size w w1) (h : FiE t g o l base A w1 w2 A2 n2 c2 xs2) : FiE t g o l base A w w2 A2 n2 c2 xs2 :=
 ⟨h.m, h.os.trans hb.os, h.tape.trans hb.tape, h.output.trans hb.output, Nat.le_trans hb.size h.size, fun k hk h1 h2 => (h.block k (Nat.lt_of_lt_of_le hk hb.size) h1 h2).trans (hb.block k hk), fun k hk => (h.at_ k hk).imp id fun h3 => Nat.le_trans hb.size h3⟩
theorem FiE.below {B : Nat} (h : FiE t g o l base A w w' A' n' c' xs') (hg : B <= g) (hA : ∀ k, bk A = some k -> B <= k) (hB : B <= w.heap.size) : Below B w w' :=
 ⟨h.os, h.tape, h.output, h.size, fun k hk => h.block k (by omega) (by omega) (fun e => by have := hA k e; omega)⟩
theorem FiE.blk {k : Nat} {t2 : TypeId} {l2 : List Value} (h : FiE t g o l base A w w' A' n' c' xs') (b : Blk w k t2 l2) (h1 : k ≠ g) (h2 : bk A ≠ some k) : Blk w' k t2 l2 := (h.block k b.lt h1 h2).trans b
theorem FiE.own {base2 size : Nat} {e : TypeId} {ys : List Value} (h : FiE t g o l base A w w' A' n' c' xs') (r : w.ownsRow base2 e size (.slice A2 n2 c2) n2 ys) (h1 : bk A2 ≠ some g) (h2 : ∀ k, bk A2 = some k -> bk A ≠ some k) :
  w'.ownsRow base2 e size (.slice A2 n2 c2) n2 ys /\ ∀ k, bk A2 = some k -> bk A' ≠ some k := by
 refine ⟨⟨r.1, r.2.imp id ?_⟩, fun k hk hk' => ?_⟩
 ·rintro ⟨k, cap, cur, e1, e2, e3, r'⟩
  have hk : bk A2 = some k := by injection e1 with e1; rw [e1]; rfl
  exact ⟨k, cap, cur, e1, e2, (h.block k (lt_of_block e3) (fun e => h1 (by rw [hk, e])) (h2 k hk)).trans e3, r'⟩
 ·have hlt := (r.lt k (by rw [zJv]; exact hk)).2
  rcases h.at_ k hk' with h3 | h3
  ·exact h2 k hk h3
  ·omega
theorem FiM.grown (h : FiM w t g o l base A n c xs) (hg : w.grownBy w' (bk A2)) (h1 : bk A2 ≠ some g) (h2 : ∀ k, bk A = some k -> bk A2 ≠ some k) : FiM w' t g o l base A n c xs := by
 refine ⟨(hg.block g h.blk.lt (fun e => h1 e.symm)).trans h.blk, h.at_, ⟨h.row.1, h.row.2.imp id ?_⟩, h.ne⟩
 rintro ⟨k, cap, cur, e1, e2, e3, r'⟩
 have hk : bk A = some k := by injection e1 with e1; rw [e1]; rfl
 exact ⟨k, cap, cur, e1, e2, (hg.block k (lt_of_block e3) (fun e => h2 k hk e.symm)).trans e3, r'⟩
theorem FiE.grown (h : FiE t g o l base A w w1 A1 n1 c1 xs1) (hg : w1.grownBy w2 (bk A2)) (h1 : bk A2 ≠ some g) (h2 : ∀ k, bk A1 = some k -> bk A2 ≠ some k) (h3 : ∀ k, bk A2 = some k -> w.heap.size <= k) : FiE t g o l base A w w2 A1 n1 c1 xs1 :=
 ⟨h.m.grown hg h1 h2, hg.os.trans h.os, hg.tape.trans h.tape, hg.output.trans h.output, Nat.le_trans h.size hg.size, fun k hk e1 e2 => (hg.block k (Nat.lt_of_lt_of_le hk h.size) (fun e => by have := h3 k e.symm; omega)).trans (h.block k hk e1 e2), h.at_⟩
theorem FiE.new (h : FiE t g o l base A w w1 A1 n1 c1 xs1) {p : Addr} (hp : w.heap.size <= p.block) (hg : p.block ≠ g) (hA : bk A1 ≠ some p.block) (u : Value) : FiE t g o l base A w (w1.setCell p u) A1 n1 c1 xs1 := by
 refine ⟨⟨h.m.blk.other hg u, h.m.at_, ⟨h.m.row.1, h.m.row.2.imp id ?_⟩, h.m.ne⟩, h.os, h.tape, h.output, by simpa using h.size, fun k hk e1 e2 => (heap_setCell_other _ _ _ _ (by omega)).trans (h.block k hk e1 e2), h.at_⟩
 rintro ⟨k, cap, cur, e1, e2, e3, r'⟩
 have hk : bk A1 = some k := by injection e1 with e1; rw [e1]; rfl
 exact ⟨k, cap, cur, e1, e2, (heap_setCell_other _ _ _ _ (fun e => hA (by rw [hk, e]))).trans e3, r'⟩
theorem FiM.app (h : FiM w t g o l base A n c xs) (k : Grew w w1 base (.slice A n c) (.slice A' n' c') n' xs') :
  Blk w1 g t l /\ FiE t g o l base A w (w1.setCell ⟨g, o, none⟩ (.slice A' n' c')) A' n' c' xs' := by
 have hg := h.blk.lt
 have hb : Blk w1 g t l := (k.kept.block g hg (fun e => h.ne (by rw [zJv] at e; exact e.symm))).trans h.blk
 have hne : bk A' ≠ some g := fun e => by
  rcases k.at_ g (by rw [zJv]; exact e) with h3 | h3
  ·rw [zJv] at h3; exact h.ne h3
  ·omega
 refine ⟨hb, ⟨hb.set o _, ?_, ⟨k.own.1, k.own.2.imp id ?_⟩, hne⟩, k.kept.os, k.kept.tape, k.kept.output, by simpa using k.kept.size, fun i hi h1 h2 => (heap_setCell_other _ _ _ _ (by show i ≠ g; exact h1)).trans (k.kept.block i hi (fun e => h2 (by rw [zJv] at e; exact e.symm))), fun i hi => ?_⟩
 ·rw [List.getElem?_set_self (List.getElem?_eq_some_iff.1 h.at_).1]
 ·rintro ⟨i, cap, cur, e1, e2, e3, r'⟩
  have hi : bk A' = some i := by injection e1 with e1; rw [e1]; rfl
  exact ⟨i, cap, cur, e1, e2, (heap_setCell_other _ _ _ _ (by show i ≠ g; exact fun e => hne (by rw [hi, e]))).trans e3, r'⟩
 ·have := k.at_ i (by rw [zJv]; exact hi)
  rwa [zJv] at this
end
end Go.Proofs.YtiiiblmhlhikkaaGreatDoor
namespace Go.Proofs.YtiiiblmhlhikkaaGreatDoor.Mk
open Cl (lb)
structure Rel where
 off : Nat
 type : Nat
 sym : Int
 add : Int
structure Dyn where
 needed : List ByteArray
 soname : ByteArray
 run : ByteArray
 syms : List Dy.Sym
 relas : List Rel
structure Spec where
 type : Nat
 entry : Nat
 interp : ByteArray
 text : List UInt8
 data : List UInt8
 more : Nat
 dynamic : Bool
 dyn : Dyn
 apart : Int
def base (x : Spec) : Nat := if x.type = 2 then 4194304 else 0
def has (s : ByteArray) : Bool := s.data.toList.contains 0
def within (x : Spec) : Bool := decide (base x + 65536 <= x.entry) && decide (x.entry - (base x + 65536) < x.text.length)
def enters (x : Spec) : Bool := within x || (decide (x.type = 3) && decide (x.entry = 0))
def empty (d : Dyn) : Bool := decide (d.needed.length + d.syms.length + d.relas.length = 0) && (decide (d.soname.size = 0) && decide (d.run.size = 0))
def badSym (s : Dy.Sym) : Bool := has s.name || decide (2 < s.bind)
def badRel (n : Nat) (r : Rel) : Bool := decide (r.sym < 0) || decide ((n : Int) < r.sym)
def bad (d : Dyn) : Bool := has d.soname || has d.run || d.needed.any has || d.syms.any badSym || d.relas.any (badRel d.syms.length)
def tooBig (x : Spec) : Bool := decide (8 < x.dyn.needed.length) || decide (64 < x.dyn.syms.length) || decide (64 < x.dyn.relas.length) || decide (65536 < x.text.length) || decide (1048576 < x.more)
def bad1 (x : Spec) : Bool := (!(decide (x.type = 2) || decide (x.type = 3))) || !enters x || (decide (x.interp.size ≠ 0) && decide (Pth.chk x.interp ≠ 0))
def bad2 (x : Spec) : Bool := (!x.dynamic && !empty x.dyn) || decide (x.apart < 0) || decide ((x.dyn.relas.length : Int) < x.apart)
def may (x : Spec) : Int := if bad1 x = true then 1 else if bad2 x = true then 1 else if bad x.dyn = true then 1 else if tooBig x = true then 12 else 0
def place (t : List UInt8) (s : ByteArray) : Nat := if s.size = 0 then 0 else t.length
def put (t : List UInt8) (s : ByteArray) : List UInt8 := if s.size = 0 then t else t ++ s.data.toList ++ [0]
def puts (t : List UInt8) (l : List ByteArray) : List UInt8 := l.foldl put t
def places : List UInt8 -> List ByteArray -> List Nat
 | _, [] => []
 | t, s :: r => place t s :: places (put t s) r
def symB (p : Nat) (s : Dy.Sym) : List UInt8 := lb p 4 ++ (lb (s.bind * 16) 1 ++ lb 0 1) ++ lb (if s.isdef = true then 1 else 0) 2 ++ lb s.value 8 ++ lb s.size 8
def zs (n : Nat) : List UInt8 := List.replicate n 0
def symRows (t : List UInt8) : List Dy.Sym -> List UInt8
 | [] => []
 | s :: r => symB (place t s.name) s ++ symRows (put t s.name) r
def symsB (t : List UInt8) (l : List Dy.Sym) : List UInt8 := zs 24 ++ symRows t l
def names (l : List Dy.Sym) : List ByteArray := l.map (·.name)
def hashOf (s : Dy.Sym) : Nat := Dy.hash s.name.data.toList
def nextL (n b : Nat) : List Dy.Sym -> Nat -> Nat
 | [], _ => 0
 | s :: r, i => if hashOf s % n = b then i + 1 else nextL n b r (i + 1)
def next (l : List Dy.Sym) (n b i : Nat) : Nat := nextL n b (l.drop i) i
def lbs (k : Nat) : List Nat -> List UInt8
 | [] => []
 | x :: r => lb x k ++ lbs k r
def buckets (l : List Dy.Sym) : Nat := l.length / 2 + 1
def heads (l : List Dy.Sym) : List Nat := (List.range (buckets l)).map fun b => next l (buckets l) b 0
def linkOf (l : List Dy.Sym) (i : Nat) : Nat := match l[i]? with
 | none => 0
 | some s => next l (buckets l) (hashOf s % buckets l) (i + 1)
def links (l : List Dy.Sym) : List Nat := 0 :: (List.range l.length).map (linkOf l)
def hashB (l : List Dy.Sym) : List UInt8 := lb (buckets l) 4 ++ lb (l.length + 1) 4 ++ lbs 4 (heads l) ++ lbs 4 (links l)
def word (x : Int) : Nat := (x % 18446744073709551616).toNat
def relB (r : Rel) : List UInt8 := lb r.off 8 ++ lb r.type 4 ++ lb (word r.sym) 4 ++ lb (word r.add) 8
def relsB (l : List Rel) : List UInt8 := l.flatMap relB
def tell (k at_ n : Nat) : List (Nat × Nat) := match k with
 | 0 => [(4, at_)]
 | 1 => [(6, at_), (11, 24)]
 | 2 => [(7, at_), (8, n), (9, 24)]
 | 3 => [(23, at_), (2, n), (20, 7)]
 | _ => [(5, at_), (10, n), (0, 0)]
def texts0 (d : Dyn) : List UInt8 := puts [0] d.needed
def texts1 (d : Dyn) : List UInt8 := put (texts0 d) d.soname
def texts2 (d : Dyn) : List UInt8 := put (texts1 d) d.run
def texts3 (d : Dyn) : List UInt8 := puts (texts2 d) (names d.syms)
def heads0 (d : Dyn) : List (Nat × Nat) := (places [0] d.needed).map fun p => (1, p)
def heads1 (d : Dyn) : List (Nat × Nat) := if d.soname.size = 0 then heads0 d else heads0 d ++ [(14, place (texts0 d) d.soname)]
def heads2 (d : Dyn) : List (Nat × Nat) := if d.run.size = 0 then heads1 d else heads1 d ++ [(29, place (texts1 d) d.run)]
def last (x : Spec) : Nat := x.dyn.relas.length - x.apart.toNat
def partSyms (d : Dyn) : List (Nat × List UInt8) := if d.syms.length = 0 then [] else [(0, hashB d.syms), (1, symsB (texts2 d) d.syms)]
def partOne (x : Spec) : List (Nat × List UInt8) := if last x = 0 then [] else [(2, relsB (x.dyn.relas.take (last x)))]
def partTwo (x : Spec) : List (Nat × List UInt8) := if x.apart.toNat = 0 then [] else [(3, relsB (x.dyn.relas.drop (last x)))]
def parts (x : Spec) : List (Nat × List UInt8) := partSyms x.dyn ++ partOne x ++ partTwo x ++ [(4, texts3 x.dyn)]
def pairB (e : Nat × Nat) : List UInt8 := lb e.1 8 ++ lb e.2 8
def entsB (l : List (Nat × Nat)) : List UInt8 := l.flatMap pairB
def gap (m n : Nat) : Nat := (m - n % m) % m
def pad (m : Nat) (f : List UInt8) : List UInt8 := f ++ zs (gap m f.length)
def stepPart (base : Nat) (q : List UInt8 × List (Nat × Nat)) (p : Nat × List UInt8) : List UInt8 × List (Nat × Nat) :=
 (pad 8 q.1 ++ p.2, q.2 ++ tell p.1 (base + (pad 8 q.1).length) p.2.length)
def told (l : List (Nat × List UInt8)) : List (Nat × Nat) := l.flatMap fun p => tell p.1 0 0
def room (x : Spec) : Nat := 16 * (heads2 x.dyn ++ told (parts x)).length
def laidParts (x : Spec) (f : List UInt8) : List UInt8 × List (Nat × Nat) := (parts x).foldl (stepPart (base x)) (pad 8 f ++ zs (room x), heads2 x.dyn)
def over (f : List UInt8) (p : Nat) (b : List UInt8) : List UInt8 := f.take p ++ b ++ f.drop (p + b.length)
def section_ (x : Spec) (f : List UInt8) : List UInt8 := over (laidParts x f).1 (pad 8 f).length (entsB (laidParts x f).2)
structure Row where
 kind : Nat
 flags : Nat
 off : Nat
 addr : Nat
 fsz : Nat
 msz : Nat
 align : Nat
def rowB (r : Row) : List UInt8 := lb r.kind 4 ++ lb r.flags 4 ++ lb r.off 8 ++ lb r.addr 8 ++ lb r.addr 8 ++ lb r.fsz 8 ++ lb r.msz 8 ++ lb r.align 8
def rowsB (l : List Row) : List UInt8 := l.flatMap rowB
def magic : List UInt8 := [127, 69, 76, 70, 2, 1, 1, 0, 0, 0, 0, 0, 0, 0, 0, 0]
def head (x : Spec) (l : List Row) : List UInt8 :=
 magic ++ lb x.type 2 ++ lb 62 2 ++ lb 1 4 ++ lb x.entry 8 ++ lb 64 8 ++ lb 0 8 ++ lb 0 4 ++ lb 64 2 ++ lb 56 2 ++ lb l.length 2 ++ lb 64 2 ++ lb 0 2 ++ lb 0 2 ++ rowsB l
def isInterp (x : Spec) : Bool := decide (x.interp.size ≠ 0)
def isText (x : Spec) : Bool := decide (0 < x.text.length)
def isData (x : Spec) : Bool := decide (0 < x.data.length) || decide (0 < x.more)
def one (b : Bool) : Nat := if b = true then 1 else 0
def many (x : Spec) : Nat := 2 + one (isInterp x) + one x.dynamic + one (isText x) + one (isData x)
def front0 (x : Spec) : List UInt8 := zs (64 + 56 * many x)
def interpB (x : Spec) : List UInt8 := x.interp.data.toList ++ [0]
def front1 (x : Spec) : List UInt8 := if isInterp x = true then pad 8 (front0 x) ++ interpB x else front0 x
def front2 (x : Spec) : List UInt8 := if x.dynamic = true then section_ x (front1 x) else front1 x
def out1 (x : Spec) : List UInt8 := if isText x = true then pad 4096 (front2 x) ++ x.text else front2 x
def out2 (x : Spec) : List UInt8 := if isData x = true then pad 4096 (out1 x) ++ x.data else out1 x
def inRow (x : Spec) (k off size al : Nat) : Row := ⟨k, 4, off, base x + off, size, size, al⟩
def rowPhdr (x : Spec) : List Row := [inRow x 6 64 (56 * many x) 8]
def rowInterp (x : Spec) : List Row := if isInterp x = true then [inRow x 3 (pad 8 (front0 x)).length (x.interp.size + 1) 1] else []
def rowFirst (x : Spec) : List Row := [inRow x 1 0 (front2 x).length 4096]
def rowText (x : Spec) : List Row := if isText x = true then [⟨1, 5, (pad 4096 (front2 x)).length, base x + 65536, x.text.length, x.text.length, 4096⟩] else []
def rowData (x : Spec) : List Row := if isData x = true then [⟨1, 6, (pad 4096 (out1 x)).length, base x + 131072, x.data.length, x.data.length + x.more, 4096⟩] else []
def rowDyn (x : Spec) : List Row := if x.dynamic = true then [inRow x 2 (pad 8 (front1 x)).length (room x) 8] else []
def rows (x : Spec) : List Row := rowPhdr x ++ rowInterp x ++ rowFirst x ++ rowText x ++ rowData x ++ rowDyn x
def file (x : Spec) : List UInt8 := over (out2 x) 0 (head x (rows x))
def make (x : Spec) : List UInt8 × Int := if may x ≠ 0 then ([], may x) else if 65536 < (front2 x).length \/ 65536 < (out2 x).length then ([], 12) else (file x, 0)
end Go.Proofs.YtiiiblmhlhikkaaGreatDoor.Mk
