/- The plain mathematics of paths: a text cut at its slashes. No program in sight. No conditions. The plain mathematics of words: numbers of bytes, sums below 2^64, pages. No program in sight. No conditions. The plain mathematics of calls: which calls may be, their bytes, what bytes say. No program in sight. No conditions. The plain law of environments: what a text says, and what is there behind a set, an unset, a scrub. No program in it. No conditions. The plain law of environments, the second part: what is not safe, and the directories between colons. No program in it. No conditions. Plain lemmas on worlds that every walk of this seat uses: slices that read as lists of cells, what stays below a block. No conditions. A map that is made of constants: its entries in their order; a new key put in, a key looked up. No conditions. Results that lie in memory beside one that does not. No conditions. The walk of calls.fields: a map of constants. No conditions. Laws of the walk for append onto a slice that the call itself owns, the source read by 'Rd' or one new element. No conditions. The walks of pieces and Check of the package paths, of any text. Condition: the texts are no longer than the model's greatest length. The walks of the package words: Add, Down, Up, Inside, sized, check, Get. Conditions: the numbers fit their kinds. The walks of envs.Check, of its reference, and of the helpers of calls.Check. Conditions: the lists and texts are no longer than the model's greatest length. The walks of strings.Cut at one byte, of envs.Split, of the predicates that envs hands to the library. Conditions: no text is longer than the model's greatest length. A row of the call's own that is written element by element. No conditions. The plain lemma on the capacity of a row of the call's own. No conditions. The walks of the references that hold bytes: EqBytes, Roomy, Kept. Conditions: there are fewer than 2^32 bytes. The walks of hostelref00.CopyTexts. Conditions: there are fewer than 2^32 texts. What it is to have grown a row of bytes of the call's own. No conditions. The walks of slices.IndexFunc and slices.DeleteFunc at texts, over a predicate that holds one value. Conditions: no text is longer than the model's greatest length. The walk of slices.DeleteFunc at texts, over a row of the call's own. Conditions: no text is longer than the model's greatest length. What an argument that is a slice of bytes, of integers or of strings reads as: a list, cell by cell. No conditions. The walks of envs.of, slices.Clone, envs.Unset, envs.Get. Conditions: no text is longer than the model's greatest length. A map with whatever keys, its entries in their order: a new key put in, a key looked up. No conditions. Free of any chapter. A block of the call's own, by its cells: read, written, kept. No conditions. The walks of envs.unsafe, of Scrub's predicate, of envs.Scrub. Conditions: no text is longer than the model's greatest length. Printed by gen_env5.py. The walk of envs.Set. Conditions: no text is longer than 2^32 bytes. The walks of the reference of envs: has, Split, named, Get, Unset. Conditions: no text is longer than the model's greatest length. The walks of the reference of envs: Get, Unset, Unsafe, Scrub. Conditions: no text is longer than the model's greatest length. The walk of the reference's Set. Conditions: no text is longer than 2^32 bytes. The iterator that strings.SplitSeq hands back, at a colon: the pieces come one by one. Conditions: the text is no longer than the model's greatest length. A loop over the pieces that strings.SplitSeq's iterator gives, the body never leaving it early; envs.List. Conditions: the text is no longer than 2^32 bytes. The walk of envs.List. Conditions: the text is no longer than 2^32 bytes. The walk of hostelref00.EqTexts: are two lists of texts the same? Condition: the lists are no longer than the model's greatest length. -/
import Derived.Laws.RangeAny
import Derived.Lib.Strings
import Derived.Lib.LastIndexByte
import Derived.Laws.BitsAllLaws
import Derived.Laws.Entries
import Derived.Lib.IndexLaws
import Derived.Lib.Bytealg
import Derived.WalkKit
import Derived.Below
import Derived.Lib.Hide
import Derived.Lib.OthersKept
import Derived.Deep.Draws
import Derived.Laws.OwnMore
import Derived.WalkSmall
import Derived.OneCell
import Derived.Maps.Own
import Derived.Laws.Rows
import Derived.Laws.Tables
import Derived.Laws.ResultCell
import Derived.Test.YtlcdilgniimnlaaDoorProg
import Derived.WalkSpells
import Derived.WalkLawsBesides
import Derived.Maps.AppendAt
import Derived.OwnWalk
import Derived.Test.YtlcdilgniimnlaaDoorShelf
import Derived.Lib.IndexAny
import Derived.Deep.RegionWith
import Derived.BigQuiet
import Derived.Deep.QuietTactic
import Derived.Deep.LoopGhost
import Derived.IntWalk
import Derived.Lib.SliceRun
import Derived.ChangeSlices
import Derived.SliceStrings
import Derived.OpenShut
import Derived.RangeFuncNested
import Derived.RangeFuncBound
import Derived.RangeFuncCalls
import Derived.RangeFuncLeaves
import Derived.Shelf.Abstract
import Derived.Shelf.RegionOpen
import Derived.OwnWalkIn
import Derived.TacticsInMore
import Derived.LoopNIn
import Derived.LoopIn
import Derived.RangeFuncOwn
import Derived.RangeFuncRecord
namespace Go.Proofs.YtlcdilgniimnlaaDoor.Pth
set_option linter.unusedVariables false
set_option linter.unusedSimpArgs false

/-- The texts between slashes: of the text s, r being what is left of it at place i, the running piece begun at f. -/
def pcsL (s : ByteArray) : List UInt8 → Nat → Nat → List ByteArray
  | [], i, f => [s.extract f i]
  | c :: r, i, f => if c = 47 then s.extract f i :: pcsL s r (i + 1) (i + 1) else pcsL s r (i + 1) f

def pcs (s : ByteArray) : List ByteArray := pcsL s s.data.toList 0 0
/-- what is still to come at place i, the running piece begun at f. -/
def pcsAt (s : ByteArray) (i f : Nat) : List ByteArray := pcsL s (s.data.toList.drop i) i f

theorem drop_cons (s : ByteArray) (i : Nat) (h : i < s.size) : s.data.toList.drop i = s[i] :: s.data.toList.drop (i + 1) := by
  have h' : i < s.data.toList.length := by simpa using h
  rw [List.drop_eq_getElem_cons h']
  rfl

theorem pcsAt_end (s : ByteArray) (f : Nat) : pcsAt s s.size f = [s.extract f s.size] := by
  unfold pcsAt
  rw [List.drop_of_length_le (by simp)]
  rfl
theorem pcsAt_slash (s : ByteArray) (i f : Nat) (h : i < s.size) (hc : s[i] = 47) : pcsAt s i f = s.extract f i :: pcsAt s (i + 1) (i + 1) := by
  unfold pcsAt
  rw [drop_cons s i h]
  simp [pcsL, hc]
theorem pcsAt_skip (s : ByteArray) (i f : Nat) (h : i < s.size) (hc : s[i] ≠ 47) : pcsAt s i f = pcsAt s (i + 1) f := by
  unfold pcsAt
  rw [drop_cons s i h]
  simp [pcsL, hc]
theorem pcsAt_skips (s : ByteArray) (f : Nat) (d : Nat) : ∀ i, (∀ j, i ≤ j → j < i + d → ∃ h : j < s.size, s[j] ≠ 47) → pcsAt s i f = pcsAt s (i + d) f := by
  induction d with
  | zero => intro i _; rfl
  | succ d ih =>
    intro i h
    obtain ⟨hi, hc⟩ := h i (Nat.le_refl _) (by omega)
    rw [pcsAt_skip s i f hi hc, ih (i + 1) (fun j h1 h2 => h j (by omega) (by omega))]
    congr 1
    omega

theorem get_at (s : ByteArray) (pos k : Nat) (h : pos + k < s.size) : s.get! (pos + k) = s[pos + k]'h := by
  simp [ByteArray.get!, getElem!_pos, h]
  rfl

theorem high_ne (c : UInt8) (h : c.toNat / 64 = 2) : c ≠ 47 := by
  intro e
  subst e
  simp at h

/-- What a rune of a text covers: at least a byte, no more than there is; it is a slash just if its first byte is one, and no later byte of it is a slash. -/
theorem decode_cover (s : ByteArray) (pos : Nat) (h : pos < s.size) :
    1 ≤ (Utf8.decode s pos).2 ∧ pos + (Utf8.decode s pos).2 ≤ s.size ∧ ((Utf8.decode s pos).1 = 47 ↔ s[pos] = 47) ∧ (s[pos] = 47 → (Utf8.decode s pos).2 = 1) ∧
    (s[pos] ≠ 47 → ∀ j, pos ≤ j → j < pos + (Utf8.decode s pos).2 → ∃ hj : j < s.size, s[j] ≠ 47) := by
  have e0 : s.get! (pos + 0) = s[pos] := get_at s pos 0 (by simpa using h)
  have eq47 : s[pos] = 47 ↔ s[pos].toNat = 47 := by
    constructor
    · intro e; rw [e]; rfl
    · intro e; exact UInt8.toNat_inj.1 (by rw [e]; rfl)
  by_cases ha : s[pos].toNat < 128
  · have hd : Utf8.decode s pos = (s[pos].toNat, 1) := decode_ascii s pos h ha
    rw [hd]
    refine ⟨Nat.le_refl _, by simp only; omega, by simp only [eq47], fun _ => rfl, fun hn j h1 h2 => ?_⟩
    obtain rfl : j = pos := by simp only at h2; omega
    exact ⟨h, hn⟩
  · have hn47 : s[pos] ≠ 47 := by rw [ne_eq, eq47]; omega
    have key : ∃ c d, Utf8.decode s pos = (c, d) ∧ 1 ≤ d ∧ pos + d ≤ s.size ∧ c ≠ 47 ∧ ∀ k, 1 ≤ k → k < d → pos + k < s.size ∧ (s.get! (pos + k)).toNat / 64 = 2 := by
      simp only [Utf8.decode, e0, ha, if_false]
      repeat' split
      all_goals (refine ⟨_, _, rfl, by omega, ?_, ?_, ?_⟩)
      all_goals simp only [Bool.and_eq_true, decide_eq_true_eq, beq_iff_eq] at *
      all_goals first
        | omega
        | (simp [Utf8.runeError]; done)
        | (intro k h1 h2; omega)
        | (intro k h1 h2
           have hk : k = 1 ∨ k = 2 ∨ k = 3 := by omega
           rcases hk with rfl | rfl | rfl <;> first | (exfalso; omega) | (refine ⟨?_, ?_⟩ <;> omega))
    obtain ⟨c, d, hd, h1, h2, h3, h4⟩ := key
    rw [hd]
    refine ⟨h1, h2, by simp [h3, hn47], fun e => absurd e hn47, fun _ j hj1 hj2 => ?_⟩
    rcases Nat.eq_or_lt_of_le hj1 with rfl | hlt
    · exact ⟨h, hn47⟩
    · obtain ⟨k, rfl⟩ : ∃ k, j = pos + k := ⟨j - pos, by omega⟩
      obtain ⟨hs, hh⟩ := h4 k (by omega) (by simpa using hj2)
      refine ⟨hs, ?_⟩
      rw [get_at s pos k hs] at hh
      exact high_ne _ hh

/-- A yield that may end it: what becomes of the state over a list of pieces. -/
def goF {S : Type} (step : S → ByteArray → S × Bool) : S → List ByteArray → S
  | s, [] => s
  | s, x :: r => if (step s x).2 then goF step (step s x).1 r else (step s x).1

/-- Check's answer. -/
def tooLong (x : ByteArray) : Bool := decide (32 < x.size)
def chk (p : ByteArray) : Int :=
  if p.size = 0 then 3 else if p.data.toList.contains 0 then 1 else if 200 < p.size then 11 else if (pcs p).any tooLong then 11 else 0
def checkStep (e : Int) (x : ByteArray) : Int × Bool := if 32 < x.size then (11, false) else (e, e == 0)
theorem goF_check (l : List ByteArray) : goF checkStep 0 l = if l.any tooLong then 11 else 0 := by
  induction l with
  | nil => rfl
  | cons x r ih =>
    by_cases h : 32 < x.size
    · simp [goF, checkStep, h, tooLong]
    · simp [goF, checkStep, h, tooLong, ih]

/-- The parts: all pieces that are no empty text and no point. -/
def isPart (x : ByteArray) : Bool := !(x.data.toList == []) && !(x.data.toList == [46])
def parts (p : ByteArray) : List ByteArray := (pcs p).filter isPart
def partsStep (l : List ByteArray) (x : ByteArray) : List ByteArray × Bool := (if isPart x then l ++ [x] else l, true)
theorem goF_parts (l : List ByteArray) : ∀ acc, goF partsStep acc l = acc ++ l.filter isPart := by
  induction l with
  | nil => intro acc; simp [goF]
  | cons x r ih =>
    intro acc
    by_cases h : isPart x
    · simp [goF, partsStep, h, ih]
    · simp [goF, partsStep, h, ih]

/-- What Parts answers: the list, and whether it begins at the root; nothing beside an error. -/
def partsL (p : ByteArray) : List ByteArray := if chk p = 0 then parts p else []
def rootB (p : ByteArray) : Bool := decide (chk p = 0) && Lib.hasPrefix p.data.toList [47]
theorem chk_size (p : ByteArray) (h : chk p = 0) : p.size ≤ 200 := by
  unfold chk at h
  repeat' split at h
  all_goals first | omega | (cases h)

/-! ### Join, Base, Dir, Tail -/
def headB (p : ByteArray) : Bool := Lib.hasPrefix p.data.toList [47]
def tailB (p : ByteArray) : Bool := Lib.hasSuffix p.data.toList [47]
def slash : ByteArray := ⟨#[47]⟩
def joinB (d p : ByteArray) : ByteArray := if d.size = 0 ∨ headB p = true then p else if tailB d = true then d ++ p else d ++ slash ++ p
def lastB (p : ByteArray) : Int := Lib.lastIndexByte p 47
def baseB (p : ByteArray) : ByteArray := p.extract (lastB p + 1).toNat p.size
def dirB (p : ByteArray) : ByteArray := if lastB p = -1 then ⟨#[46]⟩ else if lastB p = 0 then ⟨#[47]⟩ else p.extract 0 (lastB p).toNat

theorem lastB_bd (p : ByteArray) : -1 ≤ lastB p ∧ lastB p + 1 ≤ p.size := by
  unfold lastB
  rcases Lib.lastIndexByte_spec p 47 with ⟨h, _⟩ | ⟨i, hi, h, _⟩
  · rw [h]; omega
  · rw [h]; omega
theorem data_get (s : ByteArray) (i : Nat) (h : i < s.size) : s.data[i]! = s[i] := by
  have h' : i < s.data.size := h
  rw [getElem!_pos s.data i h']
  rfl
theorem lastIdx_step (p : ByteArray) (i : Nat) (h : i < p.size) : Lib.lastIdx p 47 (i + 1) = if ((p[i].toNat : Nat) : Int) = 47 then (i : Int) else Lib.lastIdx p 47 i := by
  have e := data_get p i h
  simp only [Lib.lastIdx, e]
theorem headB_iff (p : ByteArray) : headB p = decide (∃ h : 0 < p.size, p[0] = 47) := by
  rw [Bool.eq_iff_iff, decide_eq_true_eq]
  unfold headB Lib.hasPrefix
  obtain ⟨⟨l⟩⟩ := p
  cases l with
  | nil =>
    constructor
    · intro h; cases h
    · rintro ⟨h, _⟩; cases h
  | cons a r =>
    show ([47].isPrefixOf (a :: r)) = true ↔ _
    simp only [List.isPrefixOf, Bool.and_true, beq_iff_eq]
    exact ⟨fun h => ⟨Nat.succ_pos _, h.symm⟩, fun h => h.2.symm⟩
theorem tailB_iff (p : ByteArray) (h : 0 < p.size) : tailB p = decide (p[p.size - 1]'(by omega) = 47) := by
  rw [Bool.eq_iff_iff, decide_eq_true_eq]
  unfold tailB Lib.hasSuffix
  obtain ⟨⟨l⟩⟩ := p
  have hne : l ≠ [] := by rintro rfl; cases h
  rw [List.isSuffixOf_iff_suffix]
  have e : (ByteArray.mk ⟨l⟩)[(ByteArray.mk ⟨l⟩).size - 1]'(by omega) = l.getLast hne := by
    rw [List.getLast_eq_getElem]
    rfl
  rw [e]
  constructor
  · rintro ⟨t, ht⟩
    have h2 : l = t ++ [47] := ht.symm
    subst h2
    exact List.getLast_concat
  · intro h47
    refine ⟨l.dropLast, ?_⟩
    rw [← h47]
    exact List.dropLast_concat_getLast hne
theorem tailB_empty (p : ByteArray) (h : p.size = 0) : tailB p = false := by
  obtain ⟨⟨l⟩⟩ := p
  have : l = [] := List.eq_nil_of_length_eq_zero h
  subst this
  rfl

end Go.Proofs.YtlcdilgniimnlaaDoor.Pth
namespace Go.Proofs.YtlcdilgniimnlaaDoor.Wd
set_option linter.unusedVariables false
set_option linter.unusedSimpArgs false

/-- The greatest uint64. -/
def top : Int := 18446744073709551615
theorem top_def : top = 18446744073709551615 := rfl

theorem xor_top (b : Int) (h0 : 0 ≤ b) (h1 : b ≤ 18446744073709551615) : bits .xor .u64 IntKind.u64.max b = 18446744073709551615 - b := by
  obtain ⟨n, rfl⟩ := Int.eq_ofNat_of_zero_le h0
  have e : IntKind.u64.max = ((18446744073709551615 : Nat) : Int) := rfl
  rw [e, u64_xor_nat _ _ (by omega) (by omega)]
  have h2 : n < 2 ^ 64 := by omega
  have h3 : (18446744073709551615 : Nat) ^^^ n = 2 ^ 64 - 1 - n := by
    have h4 := BitVec.toNat_not (x := BitVec.ofNat 64 n)
    rw [← BitVec.xor_allOnes, BitVec.toNat_xor, BitVec.toNat_ofNat, BitVec.toNat_allOnes, Nat.mod_eq_of_lt h2, Nat.xor_comm] at h4
    exact h4
  rw [h3]
  omega

theorem andNot_page (a : Int) (h0 : 0 ≤ a) (h1 : a ≤ 18446744073709551615) : bits .andNot .u64 a 4095 = a - a % 4096 := by
  obtain ⟨n, rfl⟩ := Int.eq_ofNat_of_zero_le h0
  have e : (4095 : Int) = ((4095 : Nat) : Int) := rfl
  rw [e, u64_andNot_nat _ _ (by omega) (by omega)]
  have h2 : n < 2 ^ 64 := by omega
  have h3 : n &&& (18446744073709551615 - 4095) = n - n % 4096 := by
    have h5 : (18446744073709551615 - 4095 : Nat) ^^^ 4095 = 2 ^ 64 - 1 := by decide
    have h6 : n &&& (2 ^ 64 - 1) = n := by rw [Nat.and_two_pow_sub_one_eq_mod]; exact Nat.mod_eq_of_lt h2
    have h7 : n &&& 4095 = n % 4096 := Nat.and_two_pow_sub_one_eq_mod n 12
    have h8 : (n &&& (18446744073709551615 - 4095)) + (n &&& 4095) = n := by
      have h9 : (n &&& (18446744073709551615 - 4095)) ||| (n &&& 4095) = n := by
        rw [← Nat.and_or_distrib_left]
        have : (18446744073709551615 - 4095 : Nat) ||| 4095 = 2 ^ 64 - 1 := by decide
        rw [this, h6]
      have h10 : (n &&& (18446744073709551615 - 4095)) ||| (n &&& 4095) = (n &&& (18446744073709551615 - 4095)) + (n &&& 4095) := by
        refine nat_join 12 _ _ ?_ ?_
        · have e2 : (18446744073709551615 - 4095 : Nat) = (2 ^ 52 - 1) <<< 12 := by decide
          rw [e2, ← Nat.and_two_pow_sub_one_eq_mod, Nat.and_assoc]
          have : ((2 ^ 52 - 1 : Nat) <<< 12) &&& (2 ^ 12 - 1) = 0 := by decide
          rw [this, Nat.and_zero]
        · rw [h7]
          exact Nat.mod_lt _ (by decide)
      omega
    omega
  rw [h3]
  omega

/-- Numbers of bytes, the lowest first. -/
def le : List UInt8 → Nat
  | [] => 0
  | c :: r => c.toNat + 256 * le r
def num (b : List UInt8) (p n : Nat) : Nat := le ((b.drop p).take n)

theorem le_snoc (l : List UInt8) (c : UInt8) : le (l ++ [c]) = le l + 256 ^ l.length * c.toNat := by
  induction l with
  | nil => simp [le]
  | cons a r ih =>
    simp only [List.cons_append, le, ih, List.length_cons, Nat.pow_succ, Nat.mul_add]
    rw [Nat.add_assoc, ← Nat.mul_assoc, Nat.mul_comm 256 (256 ^ r.length)]
theorem le_lt (l : List UInt8) : le l < 256 ^ l.length := by
  induction l with
  | nil => simp [le]
  | cons a r ih =>
    have := a.toNat_lt
    simp only [le, List.length_cons, Nat.pow_succ]
    omega
theorem num_zero (b : List UInt8) (p : Nat) : num b p 0 = 0 := by simp [num, le]
theorem num_succ (b : List UInt8) (p n : Nat) (c : UInt8) (h : b[p + n]? = some c) : num b p (n + 1) = num b p n + 256 ^ n * c.toNat := by
  unfold num
  have hl : p + n < b.length := by
    rcases Nat.lt_or_ge (p + n) b.length with h1 | h1
    · exact h1
    · rw [List.getElem?_eq_none h1] at h; cases h
  rw [List.take_add_one, List.getElem?_drop, h]
  simp only [Option.toList_some]
  rw [le_snoc, List.length_take, List.length_drop, Nat.min_eq_left (by omega)]
theorem num_lt (b : List UInt8) (p n : Nat) : num b p n < 256 ^ n := by
  unfold num
  refine Nat.lt_of_lt_of_le (le_lt _) (Nat.pow_le_pow_right (by omega) (List.length_take_le _ _))
theorem or_step (x c i : Nat) (h : x < 256 ^ i) : x ||| (c * 2 ^ (8 * i)) = x + 256 ^ i * c := by
  have e : 2 ^ (8 * i) = 256 ^ i := by rw [Nat.pow_mul]
  rw [Nat.or_comm, e, nat_join (8 * i) (c * 256 ^ i) x (by rw [e]; exact Nat.mul_mod_left _ _) (by rw [e]; exact h)]
  rw [Nat.mul_comm, Nat.add_comm]

def memB (v : Int) (xs : List Int) : Bool := decide (v ∈ xs)
def sizedB (n : Int) : Bool := memB n [1, 2, 4, 8]
theorem sizedB_yes {n : Int} (h : n = 1 ∨ n = 2 ∨ n = 4 ∨ n = 8) : sizedB n = true := by simpa [sizedB, memB] using h

theorem or_val (N x k : Nat) (h : N < 256 ^ k) (hx : x < 256) (hk : k < 8) :
    bits .or .u64 (N : Int) (IntKind.u64.wrap (IntKind.u64.wrap (x : Int) * 2 ^ (8 * k))) = ((N + 256 ^ k * x : Nat) : Int) := by
  have e1 : IntKind.u64.wrap (x : Int) = (x : Int) := by rw [IntKind.wrap_u64]; omega
  have hle : 2 ^ (8 * k) ≤ 2 ^ 56 := Nat.pow_le_pow_right (by omega) (by omega)
  have hp : x * 2 ^ (8 * k) < 18446744073709551616 := by
    have h1 : x * 2 ^ (8 * k) ≤ 255 * 2 ^ 56 := Nat.mul_le_mul (by omega) hle
    omega
  have e2 : ((x : Int) * 2 ^ (8 * k)) = ((x * 2 ^ (8 * k) : Nat) : Int) := by push_cast; rfl
  have e3 : IntKind.u64.wrap ((x * 2 ^ (8 * k) : Nat) : Int) = ((x * 2 ^ (8 * k) : Nat) : Int) := by rw [IntKind.wrap_u64]; omega
  have hN : N < 18446744073709551616 := by
    have h1 : (256 : Nat) ^ k ≤ 256 ^ 8 := Nat.pow_le_pow_right (by omega) (by omega)
    omega
  rw [e1, e2, e3, u64_or_nat _ _ hN hp, or_step N x k h]

end Go.Proofs.YtlcdilgniimnlaaDoor.Wd
namespace Go.Proofs.YtlcdilgniimnlaaDoor.Cl
set_option linter.unusedVariables false
set_option linter.unusedSimpArgs false
open Go.Proofs.YtlcdilgniimnlaaDoor

structure C where
  kind : Nat
  a : Nat
  b : Nat
  c : Nat
  d : Nat
  e : Nat
  path : ByteArray
  argv : List ByteArray
  env : List ByteArray
  bytes : List UInt8

/-- The fields of a kind, by their numbers. -/
def fsN : Nat → List Nat
  | 1 => [5, 6, 7]
  | 3 => [0]
  | 5 => [0, 1, 2, 3, 4]
  | 6 => [0, 1]
  | 7 => [0, 1, 2]
  | 8 => [0, 1]
  | 9 => [0, 8]
  | 10 => [5, 0]
  | 11 => [0]
  | 12 => [0, 1]
  | _ => []
def num (c : C) : Nat → Nat
  | 0 => c.a
  | 1 => c.b
  | 2 => c.c
  | 3 => c.d
  | _ => c.e
/-- is nothing said by a field? -/
def emptyB (c : C) : Nat → Bool
  | 5 => decide (c.path.size = 0)
  | 6 => decide (c.argv.length = 0)
  | 7 => decide (c.env.length = 0)
  | 8 => decide (c.bytes.length = 0)
  | f => num c f == 0
def fieldB (c : C) (f : Nat) : Bool := (fsN c.kind).contains f || emptyB c f
def onlyB (c : C) : Bool := (List.range 9).all (fieldB c)
def bigT (s : ByteArray) : Bool := decide (256 < s.size)
def zeroT (s : ByteArray) : Bool := s.data.toList.contains 0
def envCk (l : List ByteArray) : Int := if 32 < l.length then 12 else if l.any bigT then 12 else if l.any zeroT then 1 else 0
def fst2 (a b : Int) : Int := if a = 0 then b else a
def check (c : C) : Int :=
  if c.kind = 0 ∨ 12 < c.kind then 23 else if onlyB c = false then 1
  else if c.kind = 1 then fst2 (Pth.chk c.path) (fst2 (envCk c.argv) (envCk c.env))
  else if c.kind = 8 ∨ c.kind = 12 then (if 4096 < c.b then 12 else 0)
  else if c.kind = 9 then (if 4096 < c.bytes.length then 12 else 0)
  else if c.kind = 10 then fst2 (Pth.chk c.path) (if 1 < c.a then 1 else 0)
  else 0

end Go.Proofs.YtlcdilgniimnlaaDoor.Cl
namespace Go.Proofs.YtlcdilgniimnlaaDoor
set_option linter.unusedVariables false
set_option linter.unusedSimpArgs false
namespace Ev

def ix (s : ByteArray) : Int := Lib.indexByte s.data.toList 61
def ba (l : List UInt8) : ByteArray := ⟨l.toArray⟩
/-- Does a text say a variable? Its name, its value. -/
def is (s : ByteArray) : Bool := decide (0 < ix s)
def nm (s : ByteArray) : ByteArray := if is s then ba (s.data.toList.take (ix s).toNat) else ba []
def vl (s : ByteArray) : ByteArray := if is s then ba (s.data.toList.drop ((ix s).toNat + 1)) else ba []
def named (name s : ByteArray) : Bool := is s && decide (nm s = name)
/-- Where the first text of a name stands, or behind all. -/
def at_ (l : List ByteArray) (name : ByteArray) : Nat := l.findIdx (named name)
def get (l : List ByteArray) (name : ByteArray) : ByteArray × Bool := match l.find? (named name) with
  | some s => (vl s, true)
  | none => (ba [], false)
def unset (l : List ByteArray) (name : ByteArray) : List ByteArray := l.filter fun s => !named name s
def pair (name value : ByteArray) : ByteArray := ba (name.data.toList ++ 61 :: value.data.toList)
def badSet (name value : ByteArray) : Bool := decide (name.size = 0) || name.data.toList.contains 61 || Cl.zeroT name || Cl.zeroT value
def set (l : List ByteArray) (name value : ByteArray) : List ByteArray := l.take (at_ l name) ++ pair name value :: unset (l.drop (at_ l name)) name

theorem ba_nil_size : (ba []).size = 0 := rfl
theorem ba_data (l : List UInt8) : (ba l).data.toList = l := by simp [ba]
theorem ba_self (s : ByteArray) : ba s.data.toList = s := by simp [ba]
theorem ba_inj {a b : List UInt8} (h : ba a = ba b) : a = b := by have := congrArg (fun s : ByteArray => s.data.toList) h; simpa [ba] using this
theorem ix_le (s : ByteArray) : ix s < s.size := by
  unfold ix
  have hge := Lib.indexByte_ge s.data.toList 61
  by_cases h : Lib.indexByte s.data.toList 61 < 0
  · omega
  · obtain ⟨o, ho⟩ : ∃ o : Nat, Lib.indexByte s.data.toList 61 = o := ⟨(Lib.indexByte s.data.toList 61).toNat, by omega⟩
    have := (List.getElem?_eq_some_iff.1 (Lib.indexByte_some ho).1).1
    rw [ho]
    have e : s.data.toList.length = s.size := by simp
    omega
theorem unset_self {l : List ByteArray} {name : ByteArray} (h : ∀ s ∈ l, named name s = false) : unset l name = l := by
  unfold unset
  rw [List.filter_eq_self]
  intro s hs
  simp [h s hs]
theorem unset_app (a b : List ByteArray) (name : ByteArray) : unset (a ++ b) name = unset a name ++ unset b name := by simp [unset]
theorem take_at (l : List ByteArray) (name : ByteArray) : ∀ s ∈ l.take (at_ l name), named name s = false := by
  induction l with
  | nil => simp
  | cons x r ih =>
    intro s hs
    unfold at_ at hs ih
    rw [List.findIdx_cons] at hs
    cases hx : named name x with
    | true => rw [hx] at hs; simp at hs
    | false =>
      rw [hx] at hs
      simp only [cond_false, List.take_succ_cons, List.mem_cons] at hs
      rcases hs with rfl | hs
      · exact hx
      · exact ih s hs
theorem at_le (l : List ByteArray) (name : ByteArray) : at_ l name ≤ l.length := List.findIdx_le_length
theorem at_lt {l : List ByteArray} {name : ByteArray} {s : ByteArray} (h : l[at_ l name]? = some s) : named name s = true := by
  have hlt := (List.getElem?_eq_some_iff.1 h).1
  have := List.findIdx_getElem (p := named name) (w := hlt)
  have e := (List.getElem?_eq_some_iff.1 h).2
  unfold at_ at e hlt
  rw [← e]
  exact this
theorem find_at (l : List ByteArray) (name : ByteArray) : l.find? (named name) = l[at_ l name]? := by
  unfold at_
  rw [List.find?_eq_getElem?_findIdx]

theorem ix_pair (name value : ByteArray) (h : name.data.toList.contains 61 = false) : ix (pair name value) = name.size := by
  unfold ix pair
  rw [ba_data]
  have hat : (name.data.toList ++ 61 :: value.data.toList)[name.data.toList.length]? = some 61 := by simp
  have hsz : name.data.toList.length = name.size := by simp
  have hge := Lib.indexByte_ge (name.data.toList ++ 61 :: value.data.toList) 61
  have hcase : Lib.indexByte (name.data.toList ++ 61 :: value.data.toList) 61 = -1 ∨ ∃ o : Nat, Lib.indexByte (name.data.toList ++ 61 :: value.data.toList) 61 = o := by
    by_cases hh : Lib.indexByte (name.data.toList ++ 61 :: value.data.toList) 61 = -1
    · exact .inl hh
    · exact .inr ⟨(Lib.indexByte (name.data.toList ++ 61 :: value.data.toList) 61).toNat, by omega⟩
  rcases hcase with h1 | ⟨o, h1⟩
  · exact absurd hat (Lib.indexByte_none h1 _)
  · obtain ⟨h2, h3⟩ := Lib.indexByte_some h1
    rw [h1]
    rcases Nat.lt_trichotomy o name.data.toList.length with h4 | h4 | h4
    · rw [List.getElem?_append_left h4] at h2
      have hm := List.mem_of_getElem? h2
      rw [← List.contains_iff_mem] at hm
      rw [h] at hm
      cases hm
    · omega
    · exact absurd hat (h3 _ h4)
theorem pair_is {name value : ByteArray} (h : badSet name value = false) : is (pair name value) = true ∧ nm (pair name value) = name ∧ vl (pair name value) = value := by
  unfold badSet at h
  simp only [Bool.or_eq_false_iff, decide_eq_false_iff_not] at h
  have hi := ix_pair name value h.1.1.2
  have h1 : is (pair name value) = true := by unfold is; rw [hi]; simp; omega
  have hsz : name.data.toList.length = name.size := by simp
  refine ⟨h1, ?_, ?_⟩
  · unfold nm
    rw [h1, if_pos rfl, hi]
    unfold pair
    rw [ba_data, Int.toNat_natCast, ← hsz, List.take_left, ba_self]
  · unfold vl
    rw [h1, if_pos rfl, hi]
    unfold pair
    rw [ba_data, Int.toNat_natCast, ← hsz]
    have e : name.data.toList ++ 61 :: value.data.toList = (name.data.toList ++ [61]) ++ value.data.toList := by simp
    rw [e, List.drop_left' (by simp), ba_self]
theorem pair_named {name value : ByteArray} (h : badSet name value = false) (x : ByteArray) : named x (pair name value) = decide (name = x) := by
  obtain ⟨h1, h2, h3⟩ := pair_is h
  unfold named
  rw [h1, h2, Bool.true_and]

/-- The set of the reference: part by part. -/
def setF (name p : ByteArray) : List ByteArray → Bool → List ByteArray
  | [], there => if there then [] else [p]
  | s :: r, there => if named name s then (if there then setF name p r true else p :: setF name p r true) else s :: setF name p r there
theorem setF_true (name p : ByteArray) (l : List ByteArray) : setF name p l true = unset l name := by
  induction l with
  | nil => rfl
  | cons s r ih =>
    unfold setF unset
    rw [List.filter_cons]
    cases h : named name s with
    | true => simp only [if_true, Bool.not_true, Bool.false_eq_true, if_false]; exact ih
    | false => simp only [Bool.false_eq_true, if_false, Bool.not_false, if_true]; rw [ih]; rfl
theorem setF_set (l : List ByteArray) (name value : ByteArray) : setF name (pair name value) l false = set l name value := by
  unfold set at_
  induction l with
  | nil => rfl
  | cons s r ih =>
    unfold setF
    rw [List.findIdx_cons]
    cases h : named name s with
    | true =>
      simp only [if_true, Bool.false_eq_true, if_false, cond_true, List.take_zero, List.drop_zero, List.nil_append]
      rw [setF_true]
      unfold unset
      rw [List.filter_cons, h]
      simp
    | false =>
      simp only [Bool.false_eq_true, if_false, cond_false, List.take_succ_cons, List.drop_succ_cons, List.cons_append]
      rw [ih]

theorem find_app (a b : List ByteArray) (name : ByteArray) (h : ∀ s ∈ a, named name s = false) : (a ++ b).find? (named name) = b.find? (named name) := by
  rw [List.find?_append]
  have : a.find? (named name) = none := by rw [List.find?_eq_none]; intro s hs; rw [h s hs]; simp
  rw [this]
  rfl
/-- What was set is read. -/
theorem get_set {l : List ByteArray} {name value : ByteArray} (h : badSet name value = false) : get (set l name value) name = (value, true) := by
  unfold get set
  rw [find_app _ _ _ (take_at l name), List.find?_cons, pair_named h name]
  simp only [decide_true]
  rw [(pair_is h).2.2]
theorem find_unset (l : List ByteArray) (name other : ByteArray) (hne : other ≠ name) : (unset l name).find? (named other) = l.find? (named other) := by
  induction l with
  | nil => rfl
  | cons s r ih =>
    unfold unset at ih ⊢
    rw [List.filter_cons, List.find?_cons]
    cases h : named name s with
    | true =>
      have ho : named other s = false := by
        unfold named at h ⊢
        simp only [Bool.and_eq_true, decide_eq_true_eq] at h
        rw [h.2]
        simp only [Bool.and_eq_false_iff, decide_eq_false_iff_not]
        exact .inr (fun e => hne e.symm)
      simp only [Bool.not_true, Bool.false_eq_true, if_false, ho]
      exact ih
    | false =>
      simp only [Bool.not_false, if_true]
      rw [List.find?_cons, ih]
/-- The others keep their values. -/
theorem get_other {l : List ByteArray} {name value other : ByteArray} (h : badSet name value = false) (hne : other ≠ name) : get (set l name value) other = get l other := by
  have e : (set l name value).find? (named other) = l.find? (named other) := by
    unfold set
    conv => rhs; rw [← List.take_append_drop (at_ l name) l]
    rw [List.find?_append, List.find?_append, List.find?_cons, pair_named h other]
    have : decide (name = other) = false := by simpa using fun e : name = other => hne e.symm
    rw [this, find_unset _ _ _ hne]
  unfold get
  rw [e]
theorem unset_named (l : List ByteArray) (name : ByteArray) : ∀ s ∈ unset l name, named name s = false := by
  intro s hs
  have := (List.mem_filter.1 hs).2
  simpa using this
/-- What was unset is not there. -/
theorem get_unset (l : List ByteArray) (name : ByteArray) : get (unset l name) name = (ba [], false) := by
  unfold get
  have : (unset l name).find? (named name) = none := by rw [List.find?_eq_none]; intro s hs; rw [unset_named l name s hs]; simp
  rw [this]
/-- A second set finds the first one. -/
theorem set_set {l : List ByteArray} {name value : ByteArray} (h : badSet name value = false) : set (set l name value) name value = set l name value := by
  have hp := pair_named h name
  have hat : at_ (set l name value) name = at_ l name := by
    have e1 : (l.take (at_ l name)).length = at_ l name := by rw [List.length_take]; have := at_le l name; omega
    have : ∀ (a b : List ByteArray), (∀ s ∈ a, named name s = false) → at_ (a ++ pair name value :: b) name = a.length := by
      intro a b ha
      induction a with
      | nil => unfold at_; rw [List.nil_append, List.findIdx_cons, hp]; simp
      | cons x r ih =>
        unfold at_ at ih ⊢
        rw [List.cons_append, List.findIdx_cons, ha x (.head _)]
        simp only [cond_false, List.length_cons]
        rw [ih (fun s hs => ha s (.tail _ hs))]
    unfold set
    rw [this _ _ (take_at l name), e1]
  have e1 : (l.take (at_ l name)).length = at_ l name := by rw [List.length_take]; have := at_le l name; omega
  have hs : ∀ L : List ByteArray, set L name value = L.take (at_ L name) ++ pair name value :: unset (L.drop (at_ L name)) name := fun _ => rfl
  rw [hs (set l name value), hat, hs l, List.take_left' e1, List.drop_left' e1]
  congr 1
  unfold unset
  rw [List.filter_cons, hp]
  simp only [decide_true, Bool.not_true, Bool.false_eq_true, if_false, List.filter_filter, Bool.and_self]
end Ev
end Go.Proofs.YtlcdilgniimnlaaDoor
namespace Go.Proofs.YtlcdilgniimnlaaDoor
set_option linter.unusedVariables false
set_option linter.unusedSimpArgs false
namespace Ev

/-- LD_LIBRARY_PATH, LD_PRELOAD, LD_AUDIT, LD_DEBUG, LD_ORIGIN_PATH, LD_PROFILE, LD_USE_LOAD_BIAS, GCONV_PATH, TMPDIR -/
def unsafeL : List ByteArray := [ba [76, 68, 95, 76, 73, 66, 82, 65, 82, 89, 95, 80, 65, 84, 72], ba [76, 68, 95, 80, 82, 69, 76, 79, 65, 68], ba [76, 68, 95, 65, 85, 68, 73, 84], ba [76, 68, 95, 68, 69, 66, 85, 71], ba [76, 68, 95, 79, 82, 73, 71, 73, 78, 95, 80, 65, 84, 72], ba [76, 68, 95, 80, 82, 79, 70, 73, 76, 69], ba [76, 68, 95, 85, 83, 69, 95, 76, 79, 65, 68, 95, 66, 73, 65, 83], ba [71, 67, 79, 78, 86, 95, 80, 65, 84, 72], ba [84, 77, 80, 68, 73, 82]]
def bad (s : ByteArray) : Bool := unsafeL.any fun u => named u s
def scrub (l : List ByteArray) : List ByteArray := l.filter fun s => !bad s
theorem foldl_unset (U l : List ByteArray) : U.foldl unset l = l.filter fun s => !U.any fun u => named u s := by
  induction U generalizing l with
  | nil => exact (List.filter_eq_self.2 (fun _ _ => rfl)).symm
  | cons u r ih =>
    rw [List.foldl_cons, ih]
    unfold unset
    rw [List.filter_filter]
    congr 1
    funext s
    simp only [List.any_cons]
    cases named u s <;> cases (r.any fun u => named u s) <;> rfl
theorem scrub_fold (l : List ByteArray) : unsafeL.foldl unset l = scrub l := foldl_unset _ _
theorem scrub_scrub (l : List ByteArray) : scrub (scrub l) = scrub l := by
  unfold scrub
  rw [List.filter_filter]
  congr 1
  funext s
  cases bad s <;> rfl
theorem scrub_app (a b : List ByteArray) : scrub (a ++ b) = scrub a ++ scrub b := by simp [scrub]
/-- A text's name is one of the unsafe ones. -/
theorem bad_eq (s : ByteArray) : bad s = unsafeL.any fun u => decide (nm s = u) := by
  unfold bad named
  cases h : is s with
  | true => simp only [Bool.true_and]
  | false =>
    have hn : nm s = ba [] := by unfold nm; rw [h]; rfl
    rw [hn]
    simp only [Bool.false_and]
    have : ∀ U : List ByteArray, (U.any fun _ => false) = false := by intro U; induction U with | nil => rfl | cons u r ih => rw [List.any_cons, ih]; rfl
    rw [this]
    decide +kernel
theorem scrub_step {l : List ByteArray} {i : Nat} {s : ByteArray} (h : l[i]? = some s) : scrub (l.take (i + 1)) = if bad s then scrub (l.take i) else scrub (l.take i) ++ [s] := by
  rw [List.take_add_one, h, scrub_app]
  cases hb : bad s <;> simp [scrub, hb]
theorem scrub_at {l : List ByteArray} {i : Nat} {s : ByteArray} (h : l[i]? = some s) (hb : bad s = false) : (scrub l)[(scrub (l.take i)).length]? = some s := by
  have hlt := (List.getElem?_eq_some_iff.1 h).1
  have e : l = l.take i ++ s :: l.drop (i + 1) := by
    rw [← (List.getElem?_eq_some_iff.1 h).2, ← List.drop_eq_getElem_cons hlt, List.take_append_drop]
  have e2 : scrub l = scrub (l.take i) ++ scrub (s :: l.drop (i + 1)) := by rw [← scrub_app, ← e]
  rw [e2, List.getElem?_append_right (Nat.le_refl _), Nat.sub_self]
  unfold scrub
  rw [List.filter_cons, hb]
  rfl

/-- The pieces between colons. -/
def spl : List UInt8 → List UInt8 → List (List UInt8)
  | acc, [] => [acc]
  | acc, c :: r => if c = 58 then acc :: spl [] r else spl (acc ++ [c]) r
def dot (p : List UInt8) : ByteArray := if p = [] then ba [46] else ba p
def list (v : List UInt8) : List ByteArray := if v = [] then [] else (spl [] v).map dot
theorem spl_free (acc a r : List UInt8) (h : ∀ c ∈ a, c ≠ 58) : spl acc (a ++ r) = spl (acc ++ a) r := by
  induction a generalizing acc with
  | nil => simp
  | cons c a ih =>
    rw [List.cons_append]
    conv => lhs; unfold spl
    rw [if_neg (h c (.head _)), ih _ (fun x hx => h x (.tail _ hx))]
    simp
def join : List ByteArray → List UInt8
  | [] => []
  | [s] => s.data.toList
  | s :: t :: r => s.data.toList ++ 58 :: join (t :: r)
theorem spl_join (s : ByteArray) (r : List ByteArray) (h : ∀ x ∈ s :: r, (∀ c ∈ x.data.toList, c ≠ 58) ∧ x.data.toList ≠ []) : spl [] (join (s :: r)) = (s :: r).map (·.data.toList) := by
  induction r generalizing s with
  | nil =>
    have := spl_free [] s.data.toList [] (h s (.head _)).1
    simp only [List.append_nil, List.nil_append] at this
    simp only [join, List.map_cons, List.map_nil]
    rw [this]
    rfl
  | cons t r ih =>
    simp only [join]
    rw [spl_free [] s.data.toList _ (h s (.head _)).1, List.nil_append]
    conv => lhs; unfold spl
    rw [if_pos rfl, ih t (fun x hx => h x (.tail _ hx))]
    rfl
theorem list_join (l : List ByteArray) (h : ∀ x ∈ l, (∀ c ∈ x.data.toList, c ≠ 58) ∧ x.data.toList ≠ []) : list (join l) = l := by
  cases l with
  | nil => rfl
  | cons s r =>
    have hne : join (s :: r) ≠ [] := by
      cases r with
      | nil => exact (h s (.head _)).2
      | cons t r => simp [join]
    unfold list
    rw [if_neg hne, spl_join s r h, List.map_map]
    have : ∀ L : List ByteArray, (∀ x ∈ L, x.data.toList ≠ []) → L.map (dot ∘ fun x : ByteArray => x.data.toList) = L := by
      intro L hL
      induction L with
      | nil => rfl
      | cons x L ih =>
        rw [List.map_cons, ih (fun y hy => hL y (.tail _ hy))]
        congr 1
        show dot x.data.toList = x
        unfold dot
        rw [if_neg (hL x (.head _)), ba_self]
    exact this _ (fun x hx => (h x hx).2)
end Ev
end Go.Proofs.YtlcdilgniimnlaaDoor
namespace Go.Proofs.YtlcdilgniimnlaaDoor
set_option linter.unusedVariables false
set_option linter.unusedSimpArgs false
open Go.RowKit

/-- A contract that leaves the world alone, said so that the caller's name of the world stays. -/
theorem flipw {P : Program} {f : FuncId} {args : Array Value} {w : World} {r : Ending} (h : Calls P f args w fun e w' => e = r ∧ w' = w) : Calls P f args w fun e w' => e = r ∧ w = w' :=
  h.mono fun _ _ ⟨a, b⟩ => ⟨a, b.symm⟩

theorem hide {p : Prop} (h : p) : Hid p := h
theorem unhide {p : Prop} (h : Hid p) : p := h

theorem ret_int {k : IntKind} {a b : Int} (h : a = b) : Ending.returned (.int k a) = .returned (.int k b) := by rw [h]
theorem ret_bool {a b : Bool} (h : a = b) : Ending.returned (.bool a) = .returned (.bool b) := by rw [h]
theorem ret_val {a b : Value} (h : a = b) : Ending.returned a = .returned b := by rw [h]

theorem bcell {W w1 : World} (hb : Below W.heap.size W w1) : (∀ b o, b < W.heap.size → w1.cell? ⟨b, o, none⟩ = W.cell? ⟨b, o, none⟩) ∧ (∀ b o, b < W.heap.size → w1.frozen? ⟨b, o, none⟩ = W.frozen? ⟨b, o, none⟩) :=
  ⟨fun b o h => hb.cell (p := ⟨b, o, none⟩) h, fun b o h => hb.frozen (p := ⟨b, o, none⟩) h⟩

/-- The newest block of the call's own stands behind a call that keeps what was there. -/
theorem newblk {w w1 : World} {o : Obj} (hb : Below (w.alloc o).heap.size (w.alloc o) w1) : w1.heap[w.heap.size]? = some o :=
  (hb.block _ (by simp)).trans (heap_alloc_new _ _)
theorem below_new {w w1 : World} {o : Obj} (hb : Below (w.alloc o).heap.size (w.alloc o) w1) : Below w.heap.size w w1 :=
  ((Below.refl _ _).alloc (Nat.le_refl _) _).trans (hb.mono (by simp))

theorem below_sz {W w1 : World} (hb : Below W.heap.size W w1) : W.heap.size ≤ w1.heap.size := hb.size

theorem below_drewN' {B : Nat} {a w : World} (h : Below B a w) (n : Nat) : Below B a (w.drewN n) := ⟨h.os, h.tape, h.output, h.size, h.block⟩

theorem byte_eq (c d : UInt8) : (((c.toNat : Nat) : Int) == ((d.toNat : Nat) : Int)) = decide (c = d) := by
  rw [Bool.eq_iff_iff, beq_iff_eq, decide_eq_true_eq]
  exact ⟨fun h => UInt8.toNat_inj.1 (by omega), fun h => by rw [h]⟩
theorem byte_47 (c : UInt8) : (((c.toNat : Nat) : Int) == 47) = decide (c = 47) := byte_eq c 47
theorem byte_0 (c : UInt8) : (((c.toNat : Nat) : Int) == 0) = decide (c = 0) := byte_eq c 0
theorem byte_58 (c : UInt8) : (((c.toNat : Nat) : Int) == 58) = decide (c = 58) := byte_eq c 58
theorem byte_61 (c : UInt8) : (((c.toNat : Nat) : Int) == 61) = decide (c = 61) := byte_eq c 61

theorem isEmpty_toList (p : ByteArray) : p.toList.isEmpty = decide (p.size = 0) := by
  rw [Lib.toList_data, Bool.eq_iff_iff, List.isEmpty_iff_length_eq_zero, decide_eq_true_eq]
  exact Iff.rfl
theorem beq_toList (p q : ByteArray) : (p.toList == q.toList) = decide (p = q) := by
  rw [Lib.toList_data, Lib.toList_data, Bool.eq_iff_iff, beq_iff_eq, decide_eq_true_eq]
  exact ⟨fun h => ByteArray.ext (Array.toList_inj.1 h), fun h => by rw [h]⟩

/-- The slice value '.slice A n c' holds the cells xs, one behind the other, 'size' cells an element, in a block below B. -/
def Rd (w : World) (B size : Nat) (A : Option Addr) (n : Nat) (xs : List Value) : Prop :=
  xs.length = n * size ∧ (xs = [] ∨ ∃ b off, A = some ⟨b, off, none⟩ ∧ b < B ∧ ∀ j u, xs[j]? = some u → w.cell? ⟨b, off + j, none⟩ = some u)

section
variable {w w' : World} {B B' size n : Nat} {A : Option Addr} {xs : List Value}
theorem Rd.none_ (w : World) (B size : Nat) (A : Option Addr) : Rd w B size A 0 [] := ⟨by simp, .inl rfl⟩
theorem Rd.len1 (h : Rd w B 1 A n xs) : xs.length = n := by have := h.1; omega
theorem Rd.at_ {k : Nat} {u : Value} (h : Rd w B 1 A n xs) (hk : xs[k]? = some u) : ∃ b off, A = some ⟨b, off, none⟩ ∧ b < B ∧ w.cell? ⟨b, off + k, none⟩ = some u := by
  rcases h.2 with rfl | ⟨b, off, e, hb, hc⟩
  · simp at hk
  · exact ⟨b, off, e, hb, hc _ _ hk⟩
theorem Rd.open_ (h : Rd w B size A n xs) (hn : xs ≠ []) : ∃ b off, A = some ⟨b, off, none⟩ ∧ b < B ∧ ∀ j u, xs[j]? = some u → w.cell? ⟨b, off + j, none⟩ = some u := by
  rcases h.2 with h0 | h1
  · exact absurd h0 hn
  · exact h1
theorem Rd.keep (h : Rd w B size A n xs) (hk : ∀ p : Addr, p.block < B → w'.cell? p = w.cell? p) : Rd w' B size A n xs :=
  ⟨h.1, h.2.imp id fun ⟨b, off, e, hb, hc⟩ => ⟨b, off, e, hb, fun j u hu => (hk _ hb).trans (hc j u hu)⟩⟩
theorem Rd.more (h : Rd w B size A n xs) (hB : B ≤ B') : Rd w B' size A n xs :=
  ⟨h.1, h.2.imp id fun ⟨b, off, e, hb, hc⟩ => ⟨b, off, e, by omega, hc⟩⟩
theorem Rd.below (h : Rd w B size A n xs) (hb : Below B w w') : Rd w' B size A n xs := h.keep fun _ hp => hb.cell hp
theorem Rd.belowSz (h : Rd w w.heap.size size A n xs) (hb : Below w.heap.size w w') : Rd w' w'.heap.size size A n xs := (h.below hb).more hb.size
theorem Rd.drew (h : Rd w B size A n xs) : Rd w.drew B size A n xs := h
theorem Rd.drewN (h : Rd w B size A n xs) (k : Nat) : Rd (w.drewN k) B size A n xs := h
theorem Rd.alloc (h : Rd w B size A n xs) (hB : B ≤ w.heap.size) (o : Obj) : Rd (w.alloc o) B size A n xs := h.keep fun p hp => World.cell?_alloc_lt w o p (by omega)
theorem Rd.setCell (h : Rd w B size A n xs) {p : Addr} (hB : B ≤ p.block) (u : Value) : Rd (w.setCell p u) B size A n xs :=
  h.keep fun q hq => World.cell?_setCell_other w p q u (fun e => by subst e; omega)
theorem Rd.of_own {base : Nat} {e : TypeId} {c : Nat} (h : w.ownsRow base e size (.slice A n c) n xs) : Rd w w.heap.size size A n xs := by
  refine ⟨h.1, ?_⟩
  by_cases h0 : xs = []
  · exact .inl h0
  · have h2 := h.2
    rcases h2 with ⟨_, h3⟩ | ⟨g, cap, cur, hv, hbg, hh, hcap, hcm, hsz, htk⟩
    · subst h3
      exact absurd (List.eq_nil_of_length_eq_zero (by simpa using h.1)) h0
    · have hA : A = some ⟨g, 0, none⟩ := by injection hv
      refine .inr ⟨g, 0, hA, (Array.getElem?_eq_some_iff.1 hh).1, fun j u hu => ?_⟩
      rw [cell_of_row w g (0 + j) cur e (0, 0) hh, Nat.zero_add]
      rw [← htk, List.getElem?_take] at hu
      split at hu
      · simpa using hu
      · cases hu
theorem own_form {base : Nat} {e : TypeId} {v : Value} (h : w.ownsRow base e size v n xs) : ∃ A c, v = .slice A n c := by
  rcases h.2 with ⟨rfl, rfl⟩ | ⟨g, cap, cur, rfl, _⟩
  · exact ⟨_, _, rfl⟩
  · exact ⟨_, _, rfl⟩
end

theorem own_base {w : World} {base base' : Nat} {e : TypeId} {size n : Nat} {v : Value} {xs : List Value} (h : w.ownsRow base e size v n xs) (hb : base' ≤ base) : w.ownsRow base' e size v n xs :=
  ⟨h.1, h.2.imp id fun ⟨g, cap, cur, e1, e2, r⟩ => ⟨g, cap, cur, e1, Nat.le_trans hb e2, r⟩⟩

theorem own_below {w w' : World} {base : Nat} {e : TypeId} {size n : Nat} {v : Value} {xs : List Value} (h : w.ownsRow base e size v n xs) (hb : Below w.heap.size w w') : w'.ownsRow base e size v n xs :=
  ⟨h.1, h.2.imp id fun ⟨g, cap, cur, e1, e2, e3, r⟩ => ⟨g, cap, cur, e1, e2, (hb.block g (Array.getElem?_eq_some_iff.1 e3).1).trans e3, r⟩⟩
theorem own_drewN {w : World} {base : Nat} {e : TypeId} {size n : Nat} {v : Value} {xs : List Value} (h : w.ownsRow base e size v n xs) (j : Nat) : (w.drewN j).ownsRow base e size v n xs := h
theorem own_some {w : World} {base : Nat} {e : TypeId} {size n c : Nat} {A : Option Addr} {xs : List Value} (h : w.ownsRow base e size (.slice A n c) n xs) (hn : 0 < n) : ∃ g, A = some ⟨g, 0, none⟩ ∧ base ≤ g ∧ g < w.heap.size := by
  rcases h.2 with ⟨_, h0⟩ | ⟨g, cap, cur, e1, e2, e3, _⟩
  · omega
  · injection e1 with e1
    exact ⟨g, e1, e2, (Array.getElem?_eq_some_iff.1 e3).1⟩
/-- A row that was made later lies elsewhere. -/
theorem own_ne {w w2 : World} {base base2 : Nat} {e e2 : TypeId} {size size2 n n2 : Nat} {v v2 : Value} {xs xs2 : List Value} (h : w.ownsRow base e size v n xs) (h2 : w2.ownsRow base2 e2 size2 v2 n2 xs2) (hle : w.heap.size ≤ base2) :
    v2.ownBlock = none ∨ v2.ownBlock ≠ v.ownBlock := by
  cases hv : v2.ownBlock with
  | none => exact .inl rfl
  | some k =>
    refine .inr fun e => ?_
    have := (h2.lt k hv).1
    have := (h.lt k e.symm).2
    omega

/-- Only block 'row', and what is new, has turned between the two worlds: 'grownBy' chains. -/
theorem grown_trans {a b c : World} {row : Option Nat} (h : a.grownBy b row) (k : b.grownBy c row) : a.grownBy c row :=
  ⟨k.os.trans h.os, k.tape.trans h.tape, k.output.trans h.output, Nat.le_trans h.size k.size, fun i hi hr => (k.block i (Nat.lt_of_lt_of_le hi h.size) hr).trans (h.block i hi hr)⟩

end Go.Proofs.YtlcdilgniimnlaaDoor
namespace Go.Proofs.YtlcdilgniimnlaaDoor
set_option linter.unusedVariables false
set_option linter.unusedSimpArgs false
open Go.RowKit

/-- Block g is a map whose entries are these, in their order. -/
def MapIs (w : World) (g : Nat) (k : IntKind) (m : List (Int × Value)) : Prop := ∃ es clk, w.heap[g]? = some (.map es clk) ∧ es.toList.map (fun e => (e.key, e.val)) = m.map (fun p => (Value.int k p.1, p.2))

theorem findNow_lit (k : IntKind) (x : Int) (kd : IntKind) : ∀ (es : List MapEntry) (m : List (Int × Value)) (i : Nat), es.map (fun e => (e.key, e.val)) = m.map (fun p => (Value.int k p.1, p.2)) →
    ∃ r, Instr.findNow (.int kd) (.int k x) es i = some r ∧ r.map (·.2) = (m.find? fun p => p.1 == x).map (·.2) := by
  intro es
  induction es with
  | nil => intro m i h; cases m with
    | nil => exact ⟨none, rfl, rfl⟩
    | cons p m => simp at h
  | cons e es ih => intro m i h; cases m with
    | nil => simp at h
    | cons p m =>
      simp only [List.map_cons, List.cons.injEq, Prod.mk.injEq] at h
      obtain ⟨⟨h1, h2⟩, h3⟩ := h
      unfold Instr.findNow
      rw [h1]
      simp only [Instr.sameNow, if_true]
      by_cases hx : x = p.1
      · subst hx
        simp [h2]
      · have e1 : (x == p.1) = false := by simpa using hx
        have e2 : (p.1 == x) = false := by simpa using fun h => hx h.symm
        obtain ⟨r, hr, hm⟩ := ih m (i + 1) h3
        refine ⟨r, ?_, ?_⟩
        · simp only [e1]
          exact hr
        · rw [List.find?_cons, e2]
          exact hm

section
variable {P : Program} {t kt e : TypeId} {k kd : IntKind} {w : World} {g : Nat} {m : List (Int × Value)} {x : Int} {v : Value}
theorem run_mapPut (ht : P.underlying t = some (.map kt e)) (hk : P.underlying kt = some (.int kd)) (hik : Go.MapKept.IsKey (.int kd) (.int k x)) (h : MapIs w g k m) (hx : ∀ p ∈ m, p.1 ≠ x) :
    ∃ w', (Instr.mapUpdate t (.map (some g)) (.int k x) v).run P w = .ok () w' ∧ MapIs w' g k (m ++ [(x, v)]) ∧ w.grownBy w' (some g) ∧ w'.heap.size = w.heap.size := by
  obtain ⟨es, clk, hg, hm⟩ := h
  obtain ⟨r, hr, hrm⟩ := findNow_lit k x kd es.toList m 0 hm
  have hnone : (m.find? fun p => p.1 == x) = none := by
    rw [List.find?_eq_none]
    intro p hp
    simpa using hx p hp
  rw [hnone] at hrm
  obtain rfl : r = none := by cases r with
    | none => rfl
    | some q => simp at hrm
  have hlt : g < w.heap.size := (Array.getElem?_eq_some_iff.1 hg).1
  refine ⟨{ w with heap := w.heap.setIfInBounds g (.map (es.push { key := .int k x, val := v, born := clk }) (clk + 1)) }, ?_, ?_, ?_, by simp⟩
  · simp [Instr.mapUpdate, run_underlying ht, Go.MapKept.run_getObj_map hg, Go.MapKept.run_checkKey hk hik, Go.MapKept.run_findKey hk hr, Go.MapKept.run_setObj_map _ hg, Result.andThen]
  · refine ⟨_, _, (Go.MapKept.heap_set hg).1, ?_⟩
    simp [hm]
  · exact ⟨rfl, rfl, rfl, by simp, fun i _ hi => (Go.MapKept.heap_set hg).2 i (fun e => hi (by rw [e]))⟩

theorem run_mapLook (ht : P.underlying t = some (.map kt e)) (hk : P.underlying kt = some (.int kd)) (hik : Go.MapKept.IsKey (.int kd) (.int k x)) {z : Value} (hz : (zeroValue e).run P w = .ok z w) (h : MapIs w g k m) :
    (Instr.lookup t (.map (some g)) (.int k x) true).run P w = .ok (.tuple #[((m.find? fun p => p.1 == x).map (·.2)).getD z, .bool (m.find? fun p => p.1 == x).isSome]) w := by
  obtain ⟨es, clk, hg, hm⟩ := h
  obtain ⟨r, hr, hrm⟩ := findNow_lit k x kd es.toList m 0 hm
  cases hf : (m.find? fun p => p.1 == x) with
  | none =>
    rw [hf] at hrm
    obtain rfl : r = none := by cases r with
      | none => rfl
      | some q => simp at hrm
    simp [Instr.lookup, run_underlying ht, Go.MapKept.run_getObj_map hg, Go.MapKept.run_checkKey hk hik, Go.MapKept.run_findKey hk hr, hz, Result.andThen]
  | some q =>
    rw [hf] at hrm
    obtain ⟨i, rfl⟩ : ∃ i, r = some (i, q.2) := by cases r with
      | none => simp at hrm
      | some y => obtain ⟨i, v⟩ := y; simp at hrm; exact ⟨i, by rw [hrm]⟩
    simp [Instr.lookup, run_underlying ht, Go.MapKept.run_getObj_map hg, Go.MapKept.run_checkKey hk hik, Go.MapKept.run_findKey hk hr, Result.andThen]
theorem run_mapLook1 (ht : P.underlying t = some (.map kt e)) (hk : P.underlying kt = some (.int kd)) (hik : Go.MapKept.IsKey (.int kd) (.int k x)) {z : Value} (hz : (zeroValue e).run P w = .ok z w) (h : MapIs w g k m) :
    (Instr.lookup t (.map (some g)) (.int k x) false).run P w = .ok (((m.find? fun p => p.1 == x).map (·.2)).getD z) w := by
  obtain ⟨es, clk, hg, hm⟩ := h
  obtain ⟨r, hr, hrm⟩ := findNow_lit k x kd es.toList m 0 hm
  cases hf : (m.find? fun p => p.1 == x) with
  | none =>
    rw [hf] at hrm
    obtain rfl : r = none := by cases r with
      | none => rfl
      | some q => simp at hrm
    simp [Instr.lookup, run_underlying ht, Go.MapKept.run_getObj_map hg, Go.MapKept.run_checkKey hk hik, Go.MapKept.run_findKey hk hr, hz, Result.andThen]
  | some q =>
    rw [hf] at hrm
    obtain ⟨i, rfl⟩ : ∃ i, r = some (i, q.2) := by cases r with
      | none => simp at hrm
      | some y => obtain ⟨i, v⟩ := y; simp at hrm; exact ⟨i, by rw [hrm]⟩
    simp [Instr.lookup, run_underlying ht, Go.MapKept.run_getObj_map hg, Go.MapKept.run_checkKey hk hik, Go.MapKept.run_findKey hk hr, Result.andThen]

theorem MapIs.nil (w : World) : MapIs (w.alloc (.map #[] 0)) w.heap.size k [] := ⟨#[], 0, heap_alloc_new _ _, rfl⟩
theorem MapIs.keep {w' : World} (h : MapIs w g k m) (hk : w'.heap[g]? = w.heap[g]?) : MapIs w' g k m := by
  obtain ⟨es, clk, hg, hm⟩ := h
  exact ⟨es, clk, hk.trans hg, hm⟩
theorem MapIs.alloc (h : MapIs w g k m) (o : Obj) : MapIs (w.alloc o) g k m := by
  obtain ⟨es, clk, hg, hm⟩ := h
  exact ⟨es, clk, (Below.heap_alloc _ _ _ (Array.getElem?_eq_some_iff.1 hg).1).trans hg, hm⟩
theorem MapIs.lt (h : MapIs w g k m) : g < w.heap.size := by
  obtain ⟨es, clk, hg, hm⟩ := h
  exact (Array.getElem?_eq_some_iff.1 hg).1

/-- 'm[x] = v' of a map literal at the operation. -/
theorem wpList_mapPut {ops : Array Oper} {rest : List Oper} {o : Oper} {a : Act} {Q : Exit → Act → World → Prop} (hgd : o.guard = none) (mo xo vo : Operand) (ho : o.op = .insert t mo xo vo)
    (ht : P.underlying t = some (.map kt e)) (hk : P.underlying kt = some (.int kd)) (hik : Go.MapKept.IsKey (.int kd) (.int k x)) (hmo : a.eval mo = .map (some g)) (hxo : a.eval xo = .int k x) (hvo : a.eval vo = v) (h : MapIs w g k m) (hx : ∀ p ∈ m, p.1 ≠ x)
    (hK : ∀ w', MapIs w' g k (m ++ [(x, v)]) → w.grownBy w' (some g) → w'.heap.size = w.heap.size → wpList P ops Q rest (a.put o.dst undef) w') : wpList P ops Q (o :: rest) a w := by
  obtain ⟨w', hrun, h1, h2, h3⟩ := run_mapPut (v := v) ht hk hik h hx
  refine wpList_plain hgd fun K hK' => ?_
  unfold Oper.wp
  simp [execOp, ho, hmo, hxo, hvo, hrun, Result.andThen]
  exact hK' _ _ (hK w' h1 h2 h3)
end
end Go.Proofs.YtlcdilgniimnlaaDoor
namespace Go.Proofs.YtlcdilgniimnlaaDoor
set_option linter.unusedVariables false
set_option linter.unusedSimpArgs false
open Go.RowKit
theorem results_cell_tmp {P : Program} {fn : Func} {p q : Tmp} {ty : TypeId} (h : fn.results = #[.cell p ty, .tmp q]) (tmps : Array Value) (w : World) (g : Nat) (t : TypeId) (cs : Array Value) (fr : Nat × Nat) (d : TypeDesc)
    (hp : tmps.getD p undef = .pointer (some ⟨g, 0, none⟩)) (hg : w.heap[g]? = some (.cells cs t fr))
    (hu : P.underlying ty = some d) (hd : (match d with | .struct _ | .array _ _ => true | _ => false) = true) (hi : (P.info? ty).map (·.size) = some cs.size) :
    (results fn tmps).run P w = .ok (.tuple #[.agg cs, tmps.getD q undef]) w := by
  have hp' : tmps[p]?.getD undef = .pointer (some ⟨g, 0, none⟩) := by simpa using hp
  simp [results, h, hp', asAddr, run_loadVar_row w g t ty cs fr d hg hu hd hi]

theorem below_drew' {B : Nat} {a w : World} (h : Below B a w) : Below B a w.drew := ⟨h.os, h.tape, h.output, h.size, h.block⟩
end Go.Proofs.YtlcdilgniimnlaaDoor
namespace Go.Proofs.YtlcdilgniimnlaaDoor
set_option linter.unusedVariables false
set_option linter.unusedSimpArgs false
open Go.RowKit

/-- The fields of a kind, by their numbers. -/
def fs : Nat → List Int
  | 1 => [5, 6, 7]
  | 3 => [0]
  | 5 => [0, 1, 2, 3, 4]
  | 6 => [0, 1]
  | 7 => [0, 1, 2]
  | 8 => [0, 1]
  | 9 => [0, 8]
  | 10 => [5, 0]
  | 11 => [0]
  | 12 => [0, 1]
  | _ => []
def fmap (bs : Nat → Nat) (j : Nat) : List (Int × Value) := (List.range j).map fun i => (((i + 1 : Nat) : Int), Value.slice (some ⟨bs i, 0, none⟩) (fs (i + 1)).length (fs (i + 1)).length)
def fcells (k : Nat) : Array Value := ((fs k).map (Value.int .i64)).toArray
theorem fmap_succ (bs : Nat → Nat) (b j : Nat) : fmap (fun i => if i = j then b else bs i) (j + 1) = fmap bs j ++ [(((j + 1 : Nat) : Int), Value.slice (some ⟨b, 0, none⟩) (fs (j + 1)).length (fs (j + 1)).length)] := by
  unfold fmap
  rw [List.range_succ, List.map_append]
  congr 1
  · refine List.map_congr_left fun i hi => ?_
    have : i ≠ j := by have := List.mem_range.1 hi; omega
    simp [this]
  · simp
end Go.Proofs.YtlcdilgniimnlaaDoor
namespace Go.Proofs.YtlcdilgniimnlaaDoor
set_option linter.unusedVariables false
set_option linter.unusedSimpArgs false
open Go.RowKit

/-- What a slice type t of elements e is known by: 'size' cells, 'bytes' bytes an element. -/
structure SlTy (P : Program) (t e : TypeId) (size bytes : Nat) : Prop where
  ht : P.underlying t = some (.slice e)
  hi : ∃ i z, P.info? e = some i ∧ i.zero = some z ∧ i.size = size ∧ i.bytes = bytes ∧ z.cells.size = size
  hsz : 0 < size
  hby : 0 < bytes

theorem slTy_mk {P : Program} {t e : TypeId} {size bytes : Nat} {z : Value} (ht : P.underlying t = some (.slice e)) (h : (P.info? e).map (fun i => (i.zero, i.size, i.bytes)) = some (some z, size, bytes))
    (hz : z.cells.size = size) (hsz : 0 < size) (hby : 0 < bytes) : SlTy P t e size bytes := by
  refine ⟨ht, ?_, hsz, hby⟩
  cases hi : P.info? e with
  | none => simp [hi] at h
  | some i =>
    simp [hi] at h
    exact ⟨i, z, rfl, h.1, h.2.1, h.2.2, hz⟩

theorem Rd.row {w : World} {cs : Array Value} {e : TypeId} {size : Nat} (hc : cs.size = size) : Rd (w.alloc (.cells cs e)) (w.heap.size + 1) size (some ⟨w.heap.size, 0, none⟩) 1 cs.toList := by
  refine ⟨by simp [hc], .inr ⟨w.heap.size, 0, rfl, by omega, fun j u hu => ?_⟩⟩
  rw [cell_of_row _ w.heap.size (0 + j) cs e (0, 0) (heap_alloc_new _ _), Nat.zero_add]
  simpa using hu

theorem Rd.rowF {w : World} {cs : Array Value} {e : TypeId} {size n : Nat} {fz : Nat × Nat} (hc : cs.size = n * size) : Rd (w.alloc (.cells cs e fz)) (w.heap.size + 1) size (some ⟨w.heap.size, 0, none⟩) n cs.toList := by
  refine ⟨by simp [hc], .inr ⟨w.heap.size, 0, rfl, by omega, fun j u hu => ?_⟩⟩
  rw [cell_of_row _ w.heap.size (0 + j) cs e fz (heap_alloc_new _ _), Nat.zero_add]
  simpa using hu

section
variable {P : Program} {t e : TypeId} {size bytes : Nat}

theorem run_app (T : SlTy P t e size bytes) (w : World) (base : Nat) (ty : TypeId) (v : Value) (n : Nat) (xs : List Value) (hown : w.ownsRow base e size v n xs)
    (B : Nat) (A : Option Addr) (m c : Nat) (news : List Value) (hr : Rd w B size A m news) (h1 : ∀ u ∈ news, u.oneCell' = true)
    (hb : (n + m) * bytes ≤ 140737488355328) (hbase : base ≤ w.heap.size) :
    ∃ v' w', (Builtin.append_ #[t, t] ty #[v, .slice A m c]).run P w = .ok v' w' ∧ w'.ownsRow base e size v' (n + m) (xs ++ news) ∧ w.grownBy w' v.ownBlock ∧
      (∀ k, v'.ownBlock = some k → v.ownBlock = some k ∨ w.heap.size ≤ k) := by
  obtain ⟨ht, ⟨i, z, hi, hz, hs, hby, hzs⟩, hsz, hbp⟩ := T
  have h63 : n + m ≤ maxLen := by
    have : (n + m) * 1 ≤ (n + m) * bytes := Nat.mul_le_mul_left _ hbp
    unfold maxLen
    omega
  by_cases hn0 : m = 0 ∧ A = none
  · obtain ⟨rfl, rfl⟩ := hn0
    have hn : news = [] := List.eq_nil_of_length_eq_zero (by simpa using hr.1)
    subst hn
    refine ⟨v, w, ?_, by simpa using hown, World.grownBy.refl w _, fun k hk => .inl hk⟩
    rcases hown.2 with ⟨rfl, rfl⟩ | ⟨g, cap, cur, rfl, _, _, hnc, _⟩
    · simp [Builtin.append_, run_underlying ht, sizeOf, typeInfo, hi, Builtin.lenOf, Builtin.firstCells]
    · simp [Builtin.append_, run_underlying ht, sizeOf, typeInfo, hi, Builtin.lenOf, Builtin.firstCells, hnc, storeCells]
  · obtain ⟨ad, rfl, hcells⟩ : ∃ ad, A = some ad ∧ ∀ j u, news[j]? = some u → w.cell? (ad.add j) = some u := by
      rcases hr.2 with rfl | ⟨b, off, rfl, _, hc⟩
      · have hm : m = 0 := by
          have := hr.1
          simp only [List.length_nil] at this
          rcases Nat.eq_zero_or_pos m with h | h
          · exact h
          · have := Nat.mul_pos h hsz
            omega
        cases A with
        | none => exact absurd ⟨hm, rfl⟩ hn0
        | some ad => exact ⟨ad, rfl, fun j u hu => by simp at hu⟩
      · exact ⟨_, rfl, fun j u hu => by rw [Addr.add_lit]; exact hc j u hu⟩
    obtain ⟨v', w', hrun, h2, h3, h4, h5⟩ := run_append_own_at (P := P) w base t ty e i z size bytes ht hi hz hs hby hzs hsz v n xs hown ad m c news hr.1 hcells h1 h63 hb hbase
    refine ⟨v', w', hrun, h2, h3, fun k hk => ?_⟩
    rcases h5 with h5 | h5
    · exact .inl (h5 ▸ hk)
    · rw [h5] at hk
      injection hk with hk
      exact .inr (by omega)

theorem wp_app (T : SlTy P t e size bytes) {w : World} {o : Oper} {a : Act} {K : Act → World → Prop} {Q : Exit → Act → World → Prop} (s x : Operand)
    (ho : o.op = .call { callee := .builtin .append, args := #[s, x], argTypes := #[t, t] })
    (base : Nat) (v : Value) (n : Nat) (xs : List Value) (hs : a.eval s = v) (hown : w.ownsRow base e size v n xs)
    (B : Nat) (A : Option Addr) (m c : Nat) (news : List Value) (hx : a.eval x = .slice A m c) (hr : Rd w B size A m news) (h1 : ∀ u ∈ news, u.oneCell' = true)
    (hb : (n + m) * bytes ≤ 140737488355328) (hbase : base ≤ w.heap.size)
    (h : ∀ v' w', w'.ownsRow base e size v' (n + m) (xs ++ news) → w.grownBy w' v.ownBlock → (∀ k, v'.ownBlock = some k → v.ownBlock = some k ∨ w.heap.size ≤ k) → K (a.put o.dst v') w') : o.wp P a w K Q := by
  obtain ⟨v', w', hrun, h2, h3, h4⟩ := run_app T w base o.type v n xs hown B A m c news hr h1 hb hbase
  unfold Oper.wp execOp
  simp only [ho, resolve, invoke, builtin, Sem.run_bind, Sem.run_pure, Result.andThen_ok, List.map_toArray, List.map_cons, List.map_nil, hs, hx, hrun]
  exact h v' w' h2 h3 h4

/-- 'append(s, x...)', x a slice that reads as 'news'. -/
theorem wpList_app (T : SlTy P t e size bytes) {w : World} {ops : Array Oper} {rest : List Oper} {o : Oper} {a : Act} {Q : Exit → Act → World → Prop} (hgd : o.guard = none) (s x : Operand)
    (ho : o.op = .call { callee := .builtin .append, args := #[s, x], argTypes := #[t, t] })
    (base : Nat) (v : Value) (n : Nat) (xs : List Value) (hs : a.eval s = v) (hown : w.ownsRow base e size v n xs)
    (B : Nat) (A : Option Addr) (m c : Nat) (news : List Value) (hx : a.eval x = .slice A m c) (hr : Rd w B size A m news) (h1 : ∀ u ∈ news, u.oneCell' = true)
    (hb : (n + m) * bytes ≤ 140737488355328) (hbase : base ≤ w.heap.size)
    (h : ∀ A' c' w', w'.ownsRow base e size (.slice A' (n + m) c') (n + m) (xs ++ news) → w.grownBy w' v.ownBlock → (∀ k, (Value.slice A' (n + m) c').ownBlock = some k → v.ownBlock = some k ∨ w.heap.size ≤ k) → wpList P ops Q rest (a.put o.dst (.slice A' (n + m) c')) w') : wpList P ops Q (o :: rest) a w :=
  wpList_plain hgd fun _ hK => wp_app T s x ho base v n xs hs hown B A m c news hx hr h1 hb hbase fun v' w' h2 h3 h4 => by
    obtain ⟨A', c', rfl⟩ := own_form h2
    exact hK _ _ (h A' c' w' h2 h3 h4)

/-- 'append(s, x)': the one element's cells have just been laid in a block of their own. -/
theorem wpList_app1 (T : SlTy P t e size bytes) {W : World} {ops : Array Oper} {rest : List Oper} {o : Oper} {a : Act} {Q : Exit → Act → World → Prop} (hgd : o.guard = none) (s x : Operand)
    (ho : o.op = .call { callee := .builtin .append, args := #[s, x], argTypes := #[t, t] })
    (base : Nat) (v : Value) (n : Nat) (xs : List Value) (hs : a.eval s = v) (hown : W.ownsRow base e size v n xs)
    (cs : Array Value) (hx : a.eval x = .slice (some ⟨W.heap.size, 0, none⟩) 1 1) (hcs : cs.size = size) (h1 : ∀ u ∈ cs.toList, u.oneCell' = true)
    (hb : (n + 1) * bytes ≤ 140737488355328) (hbase : base ≤ W.heap.size)
    (h : ∀ A' c' w', w'.ownsRow base e size (.slice A' (n + 1) c') (n + 1) (xs ++ cs.toList) → W.grownBy w' v.ownBlock → (∀ k, (Value.slice A' (n + 1) c').ownBlock = some k → v.ownBlock = some k ∨ W.heap.size ≤ k) → wpList P ops Q rest (a.put o.dst (.slice A' (n + 1) c')) w') : wpList P ops Q (o :: rest) a (W.alloc (.cells cs e)) :=
  wpList_app T hgd s x ho base v n xs hs (hown.alloc _) (W.heap.size + 1) (some ⟨W.heap.size, 0, none⟩) 1 1 cs.toList hx (Rd.row hcs) h1 hb (by simp; omega)
    fun A' c' w' h2 h3 h4 => h A' c' w' h2 (grown_trans (World.grownBy_alloc W _ _) h3) fun k hk => (h4 k hk).imp id fun h5 => by simp at h5; omega
end
end Go.Proofs.YtlcdilgniimnlaaDoor
namespace Go.Proofs.YtlcdilgniimnlaaDoor
set_option linter.unusedVariables false
set_option linter.unusedSimpArgs false
open Go.RowKit Go.Lib

/-- Nothing below B, and no block that is no iterator of a text, has turned. -/
structure ItKp (B : Nat) (w w' : World) : Prop where
  os : w'.os = w.os
  tape : w'.tape = w.tape
  output : w'.output = w.output
  size : w.heap.size ≤ w'.heap.size
  low : ∀ k, k < B → w'.heap[k]? = w.heap[k]?
  rest : ∀ (k : Nat) (o : Obj), w.heap[k]? = some o → (∀ s p, o ≠ .stringIter s p) → w'.heap[k]? = some o

def IterKept (w w' : World) : Prop := ∀ (k : Nat) (s : ByteArray) (p : Nat), w.heap[k]? = some (.stringIter s p) → w'.heap[k]? = some (.stringIter s p)

theorem ItKp.iter {B : Nat} {w : World} (hB : B ≤ w.heap.size) (s : ByteArray) (p : Nat) : ItKp B w (w.iter s p) :=
  ⟨rfl, rfl, rfl, by simp [World.iter], fun k hk => Below.heap_alloc _ _ _ (by omega), fun k o h _ => by
    rw [← h]
    exact Below.heap_alloc _ _ _ (Array.getElem?_eq_some_iff.1 h).1⟩

theorem ItKp.iterAt {B : Nat} {w : World} {k : Nat} (hB : B ≤ k) (s : ByteArray) (p q : Nat) (h : w.heap[k]? = some (.stringIter s q)) : ItKp B w (w.iterAt k s p) :=
  ⟨rfl, rfl, rfl, by rw [iterAt_size]; exact Nat.le_refl _, fun j hj => iterAt_other _ _ _ _ _ (by omega), fun j o hj hn => by
    by_cases e : j = k
    · subst e
      rw [h] at hj
      exact absurd (Option.some.inj hj).symm (hn _ _)
    · rw [iterAt_other _ _ _ _ _ e]
      exact hj⟩

/-- What Check's yield keeps: its error in block g. -/
def ChkI (w0 : World) (g : Nat) (e : Int) (w : World) : Prop := w.heap[g]? = some (.cells #[.int .i64 e] 30 (0, 0)) ∧ Below w0.heap.size w0 w

theorem ChkI.stable {w0 : World} {g : Nat} (e : Int) (w w' : World) (h : ItKp w0.heap.size w w') (hI : ChkI w0 g e w) : ChkI w0 g e w' :=
  ⟨h.rest _ _ hI.1 (fun _ _ => by simp), hI.2.trans ⟨h.os, h.tape, h.output, h.size, h.low⟩⟩

theorem iterKept_setCell {w : World} {g : Nat} {cs : Array Value} {t : TypeId} {fz : Nat × Nat} (h : w.heap[g]? = some (.cells cs t fz)) (o : Nat) (v : Value) : IterKept w (w.setCell ⟨g, o, none⟩ v) := by
  intro k s p hk
  rw [Below.heap_setCell _ _ _ _ ?_]
  · exact hk
  · rintro rfl
    rw [h] at hk
    cases hk

theorem strTy : SlTy Tryd.prog 22 9 1 16 := slTy_mk (z := .string ⟨#[]⟩) Tryd.underlying22 (by kernel_rfl) rfl (by omega) (by omega)

end Go.Proofs.YtlcdilgniimnlaaDoor
namespace Go.Proofs.YtlcdilgniimnlaaDoor
set_option linter.unusedVariables false
set_option linter.unusedSimpArgs false
open Go.RowKit

def IdxInt (xs : List Int) (v : Int) (w : World) (e : Ending) (w' : World) : Prop := ∃ r : Int, e = .returned (.int .i64 r) ∧ (0 ≤ r ↔ v ∈ xs) ∧ w = w'
end Go.Proofs.YtlcdilgniimnlaaDoor
namespace Go.Proofs.YtlcdilgniimnlaaDoor
set_option linter.unusedVariables false
set_option linter.unusedSimpArgs false
open Go.RowKit

def IdxB (b : Bool) (w : World) (e : Ending) (w' : World) : Prop := ∃ r : Int, e = .returned (.int .i64 r) ∧ decide (0 ≤ r) = b ∧ w = w'

set_option maxHeartbeats 1000000 in
theorem indexFunc_any (fn : FuncId) (p : ByteArray → Bool) (hcf : ∀ (args : Array Value) (w : World), (callFunc fn args).run Tryd.prog w = .ok (.enter fn args) w)
    (hfn : ∀ (x : ByteArray) (w : World), x.size ≤ maxLen → Calls Tryd.prog fn #[.string x] w fun e w' => e = .returned (.bool (p x)) ∧ w = w')
    (A : Option Addr) (n c B : Nat) (l : List ByteArray) (w : World) (hl : Rd w B 1 A n (l.map Value.string)) (hs : ∀ x ∈ l, x.size ≤ maxLen) (hn : n ≤ maxLen) :
    Calls Tryd.prog 30 #[.slice A n c, .func (.func fn) #[] #[]] w (IdxB (l.any p) w) := by
  have hln : l.length = n := by simpa using hl.len1
  unfold maxLen at hn
  have Hl := hide hl
  have Hln := hide hln
  have Hs := hide hs
  have Hfn := hide hfn
  clear hl hln hs hfn
  go_enter Tryd.func30, Tryd.ntmps30
  go_wp2_with fail
  go_loopg [8] n (fun gk i wr => ∃ k : Nat, gk = n - k ∧ k ≤ n ∧ i = .int .i64 k ∧ (l.take k).any p = false ∧ w = wr)
  case atStart => exact ⟨0, by omega, Nat.zero_le _, rfl, rfl, rfl⟩
  case round =>
    obtain ⟨k, hgk, hk, rfl, hno, rfl⟩ := hrel
    have Hgk := hide hgk
    have Hno := hide hno
    clear hgk hno
    by_cases hlt : k < n
    · obtain ⟨x, hx⟩ : ∃ x, l[k]? = some x := ⟨_, List.getElem?_eq_getElem (by rw [unhide Hln]; exact hlt)⟩
      obtain ⟨b1, o1, rfl, _, c1⟩ := (unhide Hl).at_ (k := k) (u := .string x) (by simp [hx])
      have hc := fun (w' : World) => (unhide Hfn) x w' ((unhide Hs) _ (List.mem_of_getElem? hx))
      cases hp : p x
      · have hno2 : (l.take (k + 1)).any p = false := by rw [List.take_add_one, hx]; simp [unhide Hno, hp]
        rw [hp] at hc
        have Hc := hide hc
        have Hno2 := hide hno2
        clear hc hno2 hp hx
        go_wp2_with ((with_reducible refine ((unhide Hc) _).mono ?_); rintro e w1 ⟨rfl, rfl⟩)
        go_roundg (n - (k + 1))
        case measure => have := unhide Hgk; omega
        case rel => exact ⟨k + 1, rfl, by omega, by go_num, unhide Hno2, rfl⟩
      · have hyes : l.any p = true := List.any_eq_true.2 ⟨x, List.mem_of_getElem? hx, hp⟩
        rw [hp] at hc
        have Hc := hide hc
        have Hyes := hide hyes
        clear hc hyes hp hx
        go_wp2_with ((with_reducible refine ((unhide Hc) _).mono ?_); rintro e w1 ⟨rfl, rfl⟩)
        go_ret
        exact ⟨k, rfl, by rw [unhide Hyes]; simp, rfl⟩
    · have hno2 : l.any p = false := by
        have := unhide Hno
        rwa [List.take_of_length_le (by have := unhide Hln; omega)] at this
      have Hno2 := hide hno2
      clear hno2
      go_wp2_with fail
      go_ret
      exact ⟨-1, rfl, by rw [unhide Hno2]; rfl, rfl⟩

theorem containsFunc_any (fn : FuncId) (p : ByteArray → Bool) (hcf : ∀ (args : Array Value) (w : World), (callFunc fn args).run Tryd.prog w = .ok (.enter fn args) w)
    (hfn : ∀ (x : ByteArray) (w : World), x.size ≤ maxLen → Calls Tryd.prog fn #[.string x] w fun e w' => e = .returned (.bool (p x)) ∧ w = w')
    (A : Option Addr) (n c B : Nat) (l : List ByteArray) (w : World) (hl : Rd w B 1 A n (l.map Value.string)) (hs : ∀ x ∈ l, x.size ≤ maxLen) (hn : n ≤ maxLen) :
    Calls Tryd.prog 33 #[.slice A n c, .func (.func fn) #[] #[]] w fun e w' => e = .returned (.bool (l.any p)) ∧ w = w' := by
  have hi := indexFunc_any fn p hcf hfn A n c B l w hl hs hn
  generalize l.any p = b at *
  have Hi := hide hi
  clear hi hl hs hfn hcf
  go_enter Tryd.func33, Tryd.ntmps33
  go_wp2_with (go_at_call 30; refine (unhide Hi).mono ?_; rintro e w1 ⟨r, rfl, hr, rfl⟩)
  go_ret
  exact ⟨ret_bool rfl, rfl⟩

theorem ck1_any (x : ByteArray) (w : World) (hx : x.size ≤ maxLen) : Calls Tryd.prog 34 #[.string x] w fun e w' => e = .returned (.bool (Cl.bigT x)) ∧ w = w' := by
  unfold maxLen at hx
  have e1 : Cl.bigT x = decide ((256 : Int) < (x.size : Int)) := by unfold Cl.bigT; rw [decide_eq_decide]; omega
  rw [e1]
  clear e1
  go_enter Tryd.func34, Tryd.ntmps34
  go_wp2_with fail
  go_ret
  exact ⟨rfl, rfl⟩
theorem nought_any (x : ByteArray) (w : World) : Calls Tryd.prog 35 #[.string x] w fun e w' => e = .returned (.bool (Cl.zeroT x)) ∧ w = w' := by
  have hc := fun (w' : World) => flipw (Tryd.strings_Contains_one x 0 w')
  have hcn := Lib.contains_iff_indexByte x.data.toList 0
  have e : decide (0 ≤ Lib.indexByte x.data.toList 0) = Cl.zeroT x := by
    unfold Cl.zeroT
    rw [← hcn]
  rw [e] at hc
  have Hc := hide hc
  clear hc hcn e
  go_enter Tryd.func35, Tryd.ntmps35
  go_wp2_with (go_at_call 37; refine ((unhide Hc) _).mono ?_; rintro e w1 ⟨rfl, rfl⟩)
  go_ret
  exact ⟨rfl, rfl⟩
theorem callFunc_ck1 (args : Array Value) (w : World) : (callFunc 34 args).run Tryd.prog w = .ok (.enter 34 args) w := by kernel_rfl
theorem callFunc_nought (args : Array Value) (w : World) : (callFunc 35 args).run Tryd.prog w = .ok (.enter 35 args) w := by kernel_rfl

set_option maxHeartbeats 1000000 in
theorem envCheck_any (A : Option Addr) (n c B : Nat) (l : List ByteArray) (w : World) (hl : Rd w B 1 A n (l.map Value.string)) (hs : ∀ x ∈ l, x.size ≤ maxLen) (hn : n ≤ maxLen) :
    Calls Tryd.prog 15 #[.slice A n c] w fun e w' => e = .returned (.int .i64 (Cl.envCk l)) ∧ w = w' := by
  have hln : l.length = n := by simpa using hl.len1
  have h1 := containsFunc_any 34 Cl.bigT callFunc_ck1 (fun x w' hx => ck1_any x w' hx) A n c B l w hl hs hn
  have h2 := containsFunc_any 35 Cl.zeroT callFunc_nought (fun x w' hx => nought_any x w') A n c B l w hl hs hn
  have hck : Cl.envCk l = if 32 < n then 12 else if l.any Cl.bigT then 12 else if l.any Cl.zeroT then 1 else 0 := by unfold Cl.envCk; rw [hln]
  rw [hck]
  unfold maxLen at hn
  generalize l.any Cl.bigT = b1 at *
  generalize l.any Cl.zeroT = b2 at *
  have H1 := hide h1
  have H2 := hide h2
  clear h1 h2 hck hl hs hln
  by_cases h32 : 32 < n
  · rw [if_pos h32]
    go_enter Tryd.func15, Tryd.ntmps15
    go_wp2_with fail
    go_ret
    exact ⟨rfl, rfl⟩
  · rw [if_neg h32]
    cases b1
    · cases b2
      all_goals
        go_enter Tryd.func15, Tryd.ntmps15
        go_wp2_with fail
        refine (unhide H1).mono ?_
        rintro e w1 ⟨rfl, rfl⟩
        go_wp2_with fail
        refine (unhide H2).mono ?_
        rintro e w1 ⟨rfl, rfl⟩
        go_wp2_with fail
        go_ret
        exact ⟨rfl, rfl⟩
    · go_enter Tryd.func15, Tryd.ntmps15
      go_wp2_with fail
      refine (unhide H1).mono ?_
      rintro e w1 ⟨rfl, rfl⟩
      go_wp2_with fail
      go_ret
      exact ⟨rfl, rfl⟩

set_option maxHeartbeats 1000000 in
theorem rhas_any (s : ByteArray) (w : World) (hs : s.size ≤ maxLen) : Calls Tryd.prog 36 #[.string s, .int .u8 0] w fun e w' => e = .returned (.bool (Cl.zeroT s)) ∧ w = w' := by
  unfold maxLen at hs
  obtain ⟨r, hr⟩ : ∃ r, Cl.zeroT s = r := ⟨_, rfl⟩
  rw [hr]
  have Hr := hide hr
  clear hr
  go_enter Tryd.func36, Tryd.ntmps36
  go_wp2_with fail
  go_loopg [5] s.size (fun gk i wr => ∃ k : Nat, gk = s.size - k ∧ k ≤ s.size ∧ i = .int .i64 k ∧ (s.data.toList.take k).contains 0 = false ∧ w = wr)
  case atStart => exact ⟨0, by omega, by omega, rfl, by simp, rfl⟩
  case round =>
    obtain ⟨k, hgk, hk, rfl, hz, rfl⟩ := hrel
    have Hz := hide hz
    have Hgk := hide hgk
    clear hz hgk
    by_cases hlt : k < s.size
    · by_cases hc : s[k] = 0
      · have b2 : (((s[k].toNat : Nat) : Int) == 0) = true := by rw [byte_0]; simpa using hc
        have hm : Cl.zeroT s = true := by
          unfold Cl.zeroT
          rw [List.contains_iff_mem, ← hc]
          exact Array.getElem_mem_toList _
        rw [unhide Hr] at hm
        subst hm
        clear hc
        go_wp2
        go_ret
        exact ⟨rfl, rfl⟩
      · have b2 : (((s[k].toNat : Nat) : Int) == 0) = false := by rw [byte_0]; simpa using hc
        have hz : (s.data.toList.take (k + 1)).contains 0 = false := by
          rw [List.take_succ_eq_append_getElem (by simpa using hlt), List.contains_append, unhide Hz]
          simp only [Bool.false_or]
          exact by simpa using fun h => hc h.symm
        have Hz2 := hide hz
        clear hz hc
        go_wp2
        go_roundg (s.size - (k + 1))
        case measure => have := unhide Hgk; omega
        case rel => exact ⟨k + 1, rfl, by omega, by go_num, unhide Hz2, rfl⟩
    · have hz : Cl.zeroT s = false := by
        have := unhide Hz
        unfold Cl.zeroT
        rwa [List.take_of_length_le (by simp; omega)] at this
      rw [unhide Hr] at hz
      subst hz
      go_wp2
      go_ret
      exact ⟨rfl, rfl⟩

set_option maxHeartbeats 2000000 in
theorem renvCheck_any (A : Option Addr) (n c B : Nat) (l : List ByteArray) (w : World) (hl : Rd w B 1 A n (l.map Value.string)) (hs : ∀ x ∈ l, x.size ≤ maxLen) (hn : n ≤ maxLen) :
    Calls Tryd.prog 16 #[.slice A n c] w fun e w' => e = .returned (.int .i64 (Cl.envCk l)) ∧ w = w' := by
  have hln : l.length = n := by simpa using hl.len1
  have hck : Cl.envCk l = if 32 < n then 12 else if l.any Cl.bigT then 12 else if l.any Cl.zeroT then 1 else 0 := by unfold Cl.envCk; rw [hln]
  unfold maxLen at hn
  obtain ⟨r, hr⟩ : ∃ r, Cl.envCk l = r := ⟨_, rfl⟩
  rw [hr]
  rw [hr] at hck
  have Hck := hide hck
  have Hl := hide hl
  have Hs := hide hs
  have Hln := hide hln
  clear hck hl hs hln hr
  by_cases h32 : 32 < n
  · have h := unhide Hck
    rw [if_pos h32] at h
    subst h
    go_enter Tryd.func16, Tryd.ntmps16
    go_wp2_with fail
    go_ret
    exact ⟨rfl, rfl⟩
  have hck := unhide Hck
  rw [if_neg h32] at hck
  replace Hck := hide hck
  clear hck
  go_enter Tryd.func16, Tryd.ntmps16
  go_wp2_with fail
  go_loopg [3] n (fun gk i wr => ∃ k : Nat, gk = n - k ∧ k ≤ n ∧ i = .int .i64 k ∧ (l.take k).any Cl.bigT = false ∧ w = wr)
  case atStart => exact ⟨0, by omega, by omega, rfl, rfl, rfl⟩
  case round =>
  obtain ⟨k, hgk, hk, rfl, hno, rfl⟩ := hrel
  have Hgk := hide hgk
  have Hno := hide hno
  clear hgk hno
  rcases Nat.lt_or_ge k n with hlt | hge
  case inl =>
    obtain ⟨x, hx⟩ : ∃ x, l[k]? = some x := ⟨_, List.getElem?_eq_getElem (by rw [unhide Hln]; exact hlt)⟩
    obtain ⟨b1, o1, rfl, _, c1⟩ := (unhide Hl).at_ (k := k) (u := .string x) (by simp [hx])
    have hxs := (unhide Hs) _ (List.mem_of_getElem? hx)
    unfold maxLen at hxs
    by_cases hb : 256 < x.size
    · have hyes : l.any Cl.bigT = true := List.any_eq_true.2 ⟨x, List.mem_of_getElem? hx, by simp [Cl.bigT, hb]⟩
      have h := unhide Hck
      rw [hyes, if_pos rfl] at h
      subst h
      clear hx hyes
      go_wp2_with fail
      go_ret
      exact ⟨rfl, rfl⟩
    · have hno2 : (l.take (k + 1)).any Cl.bigT = false := by rw [List.take_add_one, hx]; simp [unhide Hno, Cl.bigT]; omega
      have Hno2 := hide hno2
      clear hno2 hx
      go_wp2_with fail
      go_roundg (n - (k + 1))
      case measure => have := unhide Hgk; omega
      case rel => exact ⟨k + 1, rfl, by omega, by go_num, unhide Hno2, rfl⟩
  obtain rfl : k = n := by omega
  have hno2 : l.any Cl.bigT = false := by
    have := unhide Hno
    rwa [List.take_of_length_le (by have := unhide Hln; omega)] at this
  have hck := unhide Hck
  rw [hno2] at hck
  simp only [Bool.false_eq_true, if_false] at hck
  replace Hck := hide hck
  clear hck hno2 Hno Hgk
  go_wp2_with fail
  go_loopg [4] k (fun gk i wr => ∃ j : Nat, gk = k - j ∧ j ≤ k ∧ i = .int .i64 j ∧ (l.take j).any Cl.zeroT = false ∧ w = wr)
  case atStart => exact ⟨0, by omega, by omega, rfl, rfl, rfl⟩
  case round =>
  obtain ⟨j, hgk, hj, rfl, hno, rfl⟩ := hrel
  have Hgk := hide hgk
  have Hno := hide hno
  clear hgk hno
  rcases Nat.lt_or_ge j k with hlt | hge2
  case inl =>
    obtain ⟨x, hx⟩ : ∃ x, l[j]? = some x := ⟨_, List.getElem?_eq_getElem (by rw [unhide Hln]; exact hlt)⟩
    obtain ⟨b1, o1, rfl, _, c1⟩ := (unhide Hl).at_ (k := j) (u := .string x) (by simp [hx])
    have hh := fun (w' : World) => rhas_any x w' ((unhide Hs) _ (List.mem_of_getElem? hx))
    cases hb : Cl.zeroT x
    · have hno2 : (l.take (j + 1)).any Cl.zeroT = false := by rw [List.take_add_one, hx]; simp [unhide Hno, hb]
      rw [hb] at hh
      have Hno2 := hide hno2
      have Hh := hide hh
      clear hno2 hx hh hb
      go_wp2_with (go_at_call 36; refine ((unhide Hh) _).mono ?_; rintro e w1 ⟨rfl, rfl⟩)
      go_roundg (k - (j + 1))
      case measure => have := unhide Hgk; omega
      case rel => exact ⟨j + 1, rfl, by omega, by go_num, unhide Hno2, rfl⟩
    · have hyes : l.any Cl.zeroT = true := List.any_eq_true.2 ⟨x, List.mem_of_getElem? hx, hb⟩
      have h := unhide Hck
      rw [hyes, if_pos rfl] at h
      subst h
      rw [hb] at hh
      have Hh := hide hh
      clear hx hyes hh hb
      go_wp2_with (go_at_call 36; refine ((unhide Hh) _).mono ?_; rintro e w1 ⟨rfl, rfl⟩)
      go_ret
      exact ⟨rfl, rfl⟩
  have hno3 : l.any Cl.zeroT = false := by
    have := unhide Hno
    rwa [List.take_of_length_le (by have := unhide Hln; omega)] at this
  have h := unhide Hck
  rw [hno3] at h
  simp only [Bool.false_eq_true, if_false] at h
  subst h
  clear hno3
  go_wp2_with fail
  go_ret
  exact ⟨rfl, rfl⟩

end Go.Proofs.YtlcdilgniimnlaaDoor
namespace Go.Proofs.YtlcdilgniimnlaaDoor
set_option linter.unusedVariables false
set_option linter.unusedSimpArgs false
open Go.RowKit

/-- What Cut answers of the place of the byte. -/
def CutEnd (s : ByteArray) (i : Int) (w : World) (e : Ending) (w' : World) : Prop :=
  (∃ n, w' = w.drewN n) ∧ ((i < 0 ∧ e = .returned (.tuple #[.string s, .string (Ev.ba []), .bool false])) ∨ (0 ≤ i ∧ e = .returned (.tuple #[.string (Ev.ba (s.data.toList.take i.toNat)), .string (Ev.ba (s.data.toList.drop (i.toNat + 1))), .bool true])))

theorem extract_ba (s : ByteArray) (a b : Nat) : s.extract a b = Ev.ba ((s.data.toList.drop a).take (b - a)) := by
  refine ByteArray.ext ?_
  rw [ByteArray.data_extract]
  apply Array.toList_inj.1
  rw [Array.toList_extract]
  simp [Ev.ba, List.extract]

set_option maxHeartbeats 1000000 in
theorem lcut_any (s : ByteArray) (c : UInt8) (w : World) (hs : s.size ≤ maxLen) : Calls Tryd.prog 43 #[.string s, .string ⟨#[c]⟩] w (CutEnd s (Lib.indexByte s.data.toList c) w) := by
  unfold maxLen at hs
  have K := hide (fun w' => flipw (Tryd.stringslite_Index_one s c w'))
  have hge := Lib.indexByte_ge s.data.toList c
  have hlt : Lib.indexByte s.data.toList c < s.size := by
    by_cases h : Lib.indexByte s.data.toList c < 0
    · omega
    · obtain ⟨o, ho⟩ : ∃ o : Nat, Lib.indexByte s.data.toList c = o := ⟨(Lib.indexByte s.data.toList c).toNat, by omega⟩
      have := (List.getElem?_eq_some_iff.1 (Lib.indexByte_some ho).1).1
      rw [ho]
      have e : s.data.toList.length = s.size := by simp
      omega
  generalize Lib.indexByte s.data.toList c = i at *
  rcases Int.lt_or_le i 0 with hi | hi
  · obtain rfl : i = -1 := by omega
    clear hge hlt hi
    go_enter Tryd.func43, Tryd.ntmps43
    go_wp2_with fail
    refine ((unhide K) _).mono ?_
    rintro e w1 ⟨rfl, rfl⟩
    go_wp2_with fail
    go_ret3
    exact ⟨⟨0, rfl⟩, .inl ⟨by omega, rfl⟩⟩
  · obtain ⟨k, rfl⟩ := Int.eq_ofNat_of_zero_le hi
    have h1 : ((k : Nat) : Int) + 1 ≤ (s.size : Int) := by omega
    have h2 : ((k : Nat) : Int) ≤ (s.size : Int) := by omega
    have hk : k < s.size := by omega
    have e1 := extract_ba s 0 k
    have e2 := extract_ba s (k + 1) s.size
    rw [List.drop_zero, Nat.sub_zero] at e1
    rw [List.take_of_length_le (by simp)] at e2
    have E := hide (And.intro e1 e2)
    clear e1 e2 hge hlt hi
    go_enter Tryd.func43, Tryd.ntmps43
    go_wp2_with fail
    refine ((unhide K) _).mono ?_
    rintro e w1 ⟨rfl, rfl⟩
    have hw1 : IntKind.i64.wrap ((k : Int) + 1) = (k : Int) + 1 := IntWalk.i64_in _ (by omega)
    go_wp2_with fail
    go_quiet (fail)
    go_wp2_with fail
    go_ret3
    refine ⟨⟨nq, rfl⟩, .inr ⟨by omega, ?_⟩⟩
    show Ending.returned (.tuple #[.string (s.extract 0 k), .string (s.extract (k + 1) s.size), .bool true]) = _
    rw [(unhide E).1, (unhide E).2]
    rfl

theorem cut_any (s : ByteArray) (c : UInt8) (w : World) (hs : s.size ≤ maxLen) : Calls Tryd.prog 29 #[.string s, .string ⟨#[c]⟩] w (CutEnd s (Lib.indexByte s.data.toList c) w) := by
  have K := hide (lcut_any s c w hs)
  go_enter Tryd.func29, Tryd.ntmps29
  go_wp2_with fail
  refine (unhide K).mono ?_
  rintro e w1 ⟨⟨n, rfl⟩, (⟨h1, rfl⟩ | ⟨h1, rfl⟩)⟩
  · have H1 := hide h1
    clear h1
    go_wp2_with fail
    go_ret3
    exact ⟨⟨n, rfl⟩, .inl ⟨unhide H1, rfl⟩⟩
  · have H1 := hide h1
    clear h1
    go_wp2_with fail
    go_ret3
    exact ⟨⟨n, rfl⟩, .inr ⟨unhide H1, rfl⟩⟩

theorem ba_isEmpty (l : List UInt8) : (Ev.ba l).toList.isEmpty = l.isEmpty := by rw [Lib.toList_data, Ev.ba_data]
def SplitEnd (s : ByteArray) (w : World) (e : Ending) (w' : World) : Prop := e = .returned (.tuple #[.string (Ev.nm s), .string (Ev.vl s), .bool (Ev.is s)]) ∧ ∃ n, w' = w.drewN n
theorem split_any (s : ByteArray) (w : World) (hs : s.size ≤ maxLen) : Calls Tryd.prog 11 #[.string s] w (SplitEnd s w) := by
  have K := cut_any s 61 w hs
  have hi : Lib.indexByte s.data.toList 61 = Ev.ix s := rfl
  have hlt := Ev.ix_le s
  have hge := Lib.indexByte_ge s.data.toList 61
  rw [hi] at K hge
  rcases Int.lt_or_le (Ev.ix s) 0 with h0 | h0
  · have hn : Ev.is s = false := by unfold Ev.is; simp; omega
    have e1 : Ev.nm s = Ev.ba [] := by unfold Ev.nm; rw [hn]; rfl
    have e2 : Ev.vl s = Ev.ba [] := by unfold Ev.vl; rw [hn]; rfl
    unfold SplitEnd
    rw [hn, e1, e2]
    replace K := hide K
    have H0 := hide h0
    clear hi hlt hge h0 hn e1 e2
    go_enter Tryd.func11, Tryd.ntmps11
    go_wp2_with fail
    refine (unhide K).mono ?_
    rintro e w1 ⟨⟨n, rfl⟩, (⟨h1, rfl⟩ | ⟨h1, rfl⟩)⟩
    · clear h1
      go_wp2_with fail
      go_ret3
      exact ⟨rfl, n, rfl⟩
    · exact absurd h1 (by have := unhide H0; omega)
  · obtain ⟨k, hk⟩ := Int.eq_ofNat_of_zero_le h0
    rw [hk] at K hlt
    by_cases hz : k = 0
    · have hn : Ev.is s = false := by unfold Ev.is; rw [hk]; simp; omega
      have e1 : Ev.nm s = Ev.ba [] := by unfold Ev.nm; rw [hn]; rfl
      have e2 : Ev.vl s = Ev.ba [] := by unfold Ev.vl; rw [hn]; rfl
      unfold SplitEnd
      rw [hn, e1, e2]
      subst hz
      have q1 : (Ev.ba (s.data.toList.take ((0 : Nat) : Int).toNat)).toList.isEmpty = true := by rw [ba_isEmpty]; simp
      have q2 : (Ev.ba (s.data.toList.take ((0 : Nat) : Int).toNat)).toList = [] := List.isEmpty_iff.1 q1
      unfold CutEnd at K
      generalize Ev.ba (s.data.toList.take ((0 : Nat) : Int).toNat) = t1 at *
      generalize Ev.ba (s.data.toList.drop (((0 : Nat) : Int).toNat + 1)) = t2 at *
      replace K := hide K
      clear hi hlt hge h0 hn e1 e2 hk
      go_enter Tryd.func11, Tryd.ntmps11
      go_wp2_with fail
      refine (unhide K).mono ?_
      rintro e w1 ⟨⟨n, rfl⟩, (⟨h1, rfl⟩ | ⟨h1, rfl⟩)⟩
      · exact absurd h1 (by omega)
      · clear h1
        go_wp2_with fail
        go_ret3
        exact ⟨rfl, n, rfl⟩
    · have hn : Ev.is s = true := by unfold Ev.is; rw [hk]; simp; omega
      have e1 : Ev.nm s = Ev.ba (s.data.toList.take ((k : Nat) : Int).toNat) := by unfold Ev.nm; rw [hn, hk]; rfl
      have e2 : Ev.vl s = Ev.ba (s.data.toList.drop (((k : Nat) : Int).toNat + 1)) := by unfold Ev.vl; rw [hn, hk]; rfl
      have q1 : (Ev.ba (s.data.toList.take ((k : Nat) : Int).toNat)).toList.isEmpty = false := by
        rw [ba_isEmpty, Int.toNat_natCast]
        have hl : (s.data.toList.take k).length = k := by rw [List.length_take]; have e : s.data.toList.length = s.size := by simp
                                                          omega
        cases hx : s.data.toList.take k with
        | nil => rw [hx] at hl; simp at hl; omega
        | cons a r => rfl
      have q2 : (!(Ev.ba (s.data.toList.take ((k : Nat) : Int).toNat)).toList.isEmpty) = true := by rw [q1]; rfl
      have q3 : ((Ev.ba (s.data.toList.take ((k : Nat) : Int).toNat)).toList = []) = False := by rw [← List.isEmpty_iff, q1]; simp
      unfold SplitEnd
      rw [hn, e1, e2]
      unfold CutEnd at K
      generalize Ev.ba (s.data.toList.take ((k : Nat) : Int).toNat) = t1 at *
      generalize Ev.ba (s.data.toList.drop (((k : Nat) : Int).toNat + 1)) = t2 at *
      replace K := hide K
      have Q3 := hide q3
      clear hi hlt hge h0 hn e1 e2 hk hz q3
      go_enter Tryd.func11, Tryd.ntmps11
      go_wp2_with fail
      refine (unhide K).mono ?_
      rintro e w1 ⟨⟨n, rfl⟩, (⟨h1, rfl⟩ | ⟨h1, rfl⟩)⟩
      · exact absurd h1 (by omega)
      · clear h1
        have q3 : ¬ t1.toList = [] := by have := unhide Q3; simpa using this
        go_wp2_with fail
        go_ret3
        exact ⟨rfl, n, rfl⟩

/-- A predicate of the library's: a name that a closure holds. -/
theorem of1_any (name x : ByteArray) (g : Nat) (w : World) (hx : x.size ≤ maxLen) (hc : w.cell? ⟨g, 0, none⟩ = some (.string name)) :
    Calls Tryd.prog 44 #[.string x, .pointer (some ⟨g, 0, none⟩)] w fun e w' => e = .returned (.bool (Ev.named name x)) ∧ ∃ n, w' = w.drewN n := by
  have K := split_any x w hx
  unfold Ev.named
  rw [show decide (Ev.nm x = name) = ((Ev.nm x).toList == name.toList) from (beq_toList _ _).symm]
  unfold SplitEnd at K
  obtain ⟨nm, hnm⟩ : ∃ nm, Ev.nm x = nm := ⟨_, rfl⟩
  obtain ⟨b, hb⟩ : ∃ b, Ev.is x = b := ⟨_, rfl⟩
  rw [hnm, hb] at K
  rw [hnm, hb]
  replace K := hide K
  clear hnm hb
  cases b
  · go_enter Tryd.func44, Tryd.ntmps44
    go_wp2_with fail
    refine (unhide K).mono ?_
    rintro e w1 ⟨rfl, n, rfl⟩
    go_wp2_with fail
    go_ret
    exact ⟨rfl, n, rfl⟩
  · cases hq : (nm.toList == name.toList)
    all_goals
      go_enter Tryd.func44, Tryd.ntmps44
      go_wp2_with fail
      refine (unhide K).mono ?_
      rintro e w1 ⟨rfl, n, rfl⟩
      have hc2 : (w.drewN n).cell? ⟨g, 0, none⟩ = some (.string name) := hc
      go_wp2_with fail
      go_ret
      exact ⟨rfl, n, rfl⟩
theorem callFunc_of1 (args : Array Value) (w : World) : (callFunc 44 args).run Tryd.prog w = .ok (.enter 44 args) w := by kernel_rfl
end Go.Proofs.YtlcdilgniimnlaaDoor
namespace Go.Proofs.YtlcdilgniimnlaaDoor
set_option linter.unusedVariables false
set_option linter.unusedSimpArgs false
open Go.RowKit

theorem own_set {w : World} {base g n c i : Nat} {e : TypeId} {xs : List Value} (h : w.ownsRow base e 1 (.slice (some ⟨g, 0, none⟩) n c) n xs) (u : Value) :
    (w.setCell ⟨g, i, none⟩ u).ownsRow base e 1 (.slice (some ⟨g, 0, none⟩) n c) n (xs.set i u) := by
  obtain ⟨hl, hn | ⟨g', cap, cur, hv, hb, hg, h1, h2, h3, h4⟩⟩ := h
  · exact absurd hn.1 (by simp)
  · obtain ⟨rfl, rfl⟩ : g = g' ∧ c = cap := by simpa using hv
    refine ⟨by simpa using hl, .inr ⟨g, c, cur.setIfInBounds i u, rfl, hb, heap_setCell_same _ _ _ _ _ _ hg, h1, h2, by simpa using h3, ?_⟩⟩
    rw [Array.toList_setIfInBounds, List.take_set, h4]
theorem own_cell {w : World} {base g n c i : Nat} {e : TypeId} {xs : List Value} (h : w.ownsRow base e 1 (.slice (some ⟨g, 0, none⟩) n c) n xs) {u : Value} (hi : xs[i]? = some u) : w.cell? ⟨g, i, none⟩ = some u := by
  obtain ⟨b, off, ha, _, hc⟩ := (Rd.of_own h).at_ hi
  obtain ⟨rfl, rfl⟩ : g = b ∧ 0 = off := by simpa using ha
  simpa using hc
theorem own_free {w : World} {base g n c : Nat} {e : TypeId} {xs : List Value} (h : w.ownsRow base e 1 (.slice (some ⟨g, 0, none⟩) n c) n xs) (i : Nat) : w.frozen? ⟨g, i, none⟩ = false := by
  obtain ⟨hl, hn | ⟨g', cap, cur, hv, hb, hg, h1, h2, h3, h4⟩⟩ := h
  · exact absurd hn.1 (by simp)
  · obtain ⟨rfl, rfl⟩ : g = g' ∧ c = cap := by simpa using hv
    exact frozen_of_row _ _ _ _ _ hg
theorem own_at {w : World} {base g n c : Nat} {e : TypeId} {xs : List Value} (h : w.ownsRow base e 1 (.slice (some ⟨g, 0, none⟩) n c) n xs) : base ≤ g ∧ g < w.heap.size ∧ n ≤ c := by
  obtain ⟨hl, hn | ⟨g', cap, cur, hv, hb, hg, h1, h2, h3, h4⟩⟩ := h
  · exact absurd hn.1 (by simp)
  · obtain ⟨rfl, rfl⟩ : g = g' ∧ c = cap := by simpa using hv
    exact ⟨hb, lt_of_block hg, h1⟩

end Go.Proofs.YtlcdilgniimnlaaDoor
namespace Go.Proofs.YtlcdilgniimnlaaDoor
theorem own_cap {w : World} {base : Nat} {e : TypeId} {size n c : Nat} {A : Option Addr} {xs : List Value} (h : w.ownsRow base e size (.slice A n c) n xs) : n ≤ c := by
  rcases h.2 with ⟨h0, h1⟩ | ⟨g, cap, cur, hv, hb, hg, hnc, _⟩
  · omega
  · injection hv with _ _ h3
    omega
end Go.Proofs.YtlcdilgniimnlaaDoor
namespace Go.Proofs.YtlcdilgniimnlaaDoor
set_option linter.unusedVariables false
set_option linter.unusedSimpArgs false
open Go.RowKit

def bys (b : List UInt8) : List Value := b.map fun c => .int .u8 c.toNat
theorem bys_len (b : List UInt8) : (bys b).length = b.length := by simp [bys]
theorem bys_at {b : List UInt8} {i : Nat} {x : UInt8} (h : b[i]? = some x) : (bys b)[i]? = some (.int .u8 x.toNat) := by simp [bys, h]
theorem bys_set (b : List UInt8) (i : Nat) (x : UInt8) : (bys b).set i (.int .u8 x.toNat) = bys (b.set i x) := by simp [bys, List.map_set]
theorem bys_take (b : List UInt8) (k : Nat) : (bys b).take k = bys (b.take k) := by simp [bys]
theorem bys_app (a b : List UInt8) : bys (a ++ b) = bys a ++ bys b := by simp [bys]
theorem bInfo : (Tryd.prog.info? 5).map (fun i => (i.zero, i.size, i.bytes)) = some (some (.int .u8 0), 1, 1) := by kernel_rfl
theorem take_ext' {α : Type} {xs ys : List α} {k : Nat} {x : α} (h : xs.take k = ys.take k) (hx : xs[k]? = some x) (hy : ys[k]? = some x) : xs.take (k + 1) = ys.take (k + 1) := by
  rw [List.take_add_one, List.take_add_one, h, hx, hy]

theorem Rd.cutN {w : World} {B n k : Nat} {A : Option Addr} {xs : List Value} (h : Rd w B 1 A n xs) (hk : k ≤ n) : Rd w B 1 A k (xs.take k) := by
  have hl := h.len1
  refine ⟨by simp; omega, ?_⟩
  rcases h.2 with h0 | ⟨b, off, e, hb, hc⟩
  · exact .inl (by simp [h0])
  · refine .inr ⟨b, off, e, hb, fun j u hu => hc j u ?_⟩
    by_cases hj : j < k
    · rwa [List.getElem?_take_of_lt hj] at hu
    · rw [List.getElem?_take_eq_none (by omega)] at hu
      cases hu

/-- What stands behind what Roomy gives. -/
def spare : List UInt8 := [99, 98, 97, 96, 95, 94, 93]
theorem spare_at {j : Nat} (h : j < 7) : spare[j]? = some (UInt8.ofNat (99 - j)) := by
  match j, h with
  | 0, _ => rfl
  | 1, _ => rfl
  | 2, _ => rfl
  | 3, _ => rfl
  | 4, _ => rfl
  | 5, _ => rfl
  | 6, _ => rfl
/-- What has been laid after k rounds. -/
def laidTo (F : List UInt8) (k : Nat) : List UInt8 := F.take k ++ List.replicate (F.length - k) 0
theorem laidTo_len {F : List UInt8} {k : Nat} (h : k ≤ F.length) : (laidTo F k).length = F.length := by simp [laidTo]; omega
theorem laidTo_set {F : List UInt8} {k : Nat} {x : UInt8} (h : F[k]? = some x) : (laidTo F k).set k x = laidTo F (k + 1) := by
  have hk : k < F.length := (List.getElem?_eq_some_iff.1 h).1
  unfold laidTo
  rw [List.take_add_one, h, show F.length - k = (F.length - (k + 1)) + 1 from by omega, List.replicate_succ]
  rw [List.set_append]
  simp [Nat.min_eq_left (Nat.le_of_lt hk)]
theorem laidTo_end (F : List UInt8) : laidTo F F.length = F := by simp [laidTo]
theorem laidTo_zero (F : List UInt8) : laidTo F 0 = List.replicate F.length 0 := by simp [laidTo]

end Go.Proofs.YtlcdilgniimnlaaDoor
namespace Go.Proofs.YtlcdilgniimnlaaDoor
set_option linter.unusedVariables false
set_option linter.unusedSimpArgs false
open Go.RowKit

theorem textInfo : (Tryd.prog.info? 9).map (fun i => (i.zero, i.size, i.bytes)) = some (some (.string ⟨#[]⟩), 1, 16) := by kernel_rfl
theorem strs_at {b : List ByteArray} {i : Nat} {x : ByteArray} (h : b[i]? = some x) : (b.map Value.string)[i]? = some (.string x) := by simp [h]

/-- What has been copied from k on. -/
def backToT (b : List ByteArray) (k : Nat) : List Value := List.replicate k (.string ⟨#[]⟩) ++ (b.drop k).map Value.string
theorem backToT_set {b : List ByteArray} {k : Nat} {x : ByteArray} (h : b[k]? = some x) : (backToT b (k + 1)).set k (.string x) = backToT b k := by
  unfold backToT
  rw [List.drop_eq_getElem_cons (i := k) (by have := (List.getElem?_eq_some_iff.1 h).1; exact this)]
  have hx : b[k]'((List.getElem?_eq_some_iff.1 h).1) = x := (List.getElem?_eq_some_iff.1 h).2
  rw [hx, List.replicate_succ', List.append_assoc]
  rw [List.set_append]
  simp

set_option maxRecDepth 20000 in
set_option maxHeartbeats 1000000 in
theorem copyTexts_any (A : Option Addr) (m c B : Nat) (b : List ByteArray) (w : World) (hB : B ≤ w.heap.size) (hb : Rd w B 1 A m (b.map Value.string)) (hm : m ≤ 4294967296) :
    Calls Tryd.prog 28 #[.slice A m c] w fun e w' => ∃ A' c', e = .returned (.slice A' m c') ∧ w'.ownsRow w.heap.size 9 1 (.slice A' m c') m (b.map Value.string) ∧ Below w.heap.size w w' := by
  have hbl : b.length = m := by simpa using hb.len1
  rcases Nat.eq_zero_or_pos m with rfl | hpos
  · have hb0 : b = [] := List.eq_nil_of_length_eq_zero hbl
    subst hb0
    clear hb hbl
    go_enter Tryd.func28, Tryd.ntmps28
    go_wp2
    go_ret
    exact ⟨none, 0, rfl, World.ownsRow_nil _ _ _ _, Below.refl _ _⟩
  have hne : decide (m = 0) = false := by simp; omega
  obtain ⟨i, hi, hz0, hz1, hz2⟩ := info_parts textInfo
  have Hb := hide hb
  have Hbl := hide hbl
  have Hi := hide hi
  have Hz0 := hide hz0
  have Hz1 := hide hz1
  have Hz2 := hide hz2
  clear hb hbl hi hz0 hz1 hz2
  go_enter Tryd.func28, Tryd.ntmps28
  go_wp2_with (at_make; refine wpList_make_full _ rfl _ _ 22 rfl w.heap.size 9 i (.string ⟨#[]⟩) 1 Tryd.underlying22 (unhide Hi) (unhide Hz0) (unhide Hz1) _ _ _ _ m rfl rfl rfl rfl (by rw [unhide Hz2]; omega) (by unfold maxLen; omega) (Nat.le_refl _) ?_; intro w1 hown hgrow; have hb1 := (Below.refl w.heap.size w).grown hgrow (Nat.le_refl _) (fun k hk => by cases hk); have Hown := hide hown; have Hb1 := hide hb1; clear hown hgrow hb1)
  go_loopw [4] (fun at_ wr => ∃ k : Nat, k ≤ m ∧ at_ = .int .i64 ((k : Int) - 1) ∧ wr.ownsRow w.heap.size 9 1 (.slice (some ⟨w.heap.size, 0, none⟩) m m) m (backToT b k) ∧ Below w.heap.size w wr) (fun at_ _ => (intOf at_ + 1).toNat)
  case atStart =>
    refine ⟨m, Nat.le_refl _, rfl, ?_, unhide Hb1⟩
    have := unhide Hown
    have e : (madeCells (Value.string ⟨#[]⟩).cells (m * 1)).toList = backToT b m := by
      unfold backToT
      rw [List.drop_eq_nil_of_le (by rw [unhide Hbl]; exact Nat.le_refl _)]
      simp [Value.cells, toList_madeCells_one]
    rwa [e] at this
  case round =>
  clear Hown Hb1
  obtain ⟨k, hk, rfl, hown, hb2⟩ := hrel
  have Hown := hide hown
  have Hb2 := hide hb2
  clear hown hb2
  by_cases hk0 : k = 0
  · subst hk0
    go_wp2
    go_ret
    refine ⟨_, _, rfl, ?_, unhide Hb2⟩
    have := unhide Hown
    simpa [backToT] using this
  · obtain ⟨j, rfl⟩ : ∃ j, k = j + 1 := ⟨k - 1, by omega⟩
    obtain ⟨x, hx⟩ : ∃ x, b[j]? = some x := ⟨_, List.getElem?_eq_getElem (by rw [unhide Hbl]; omega)⟩
    obtain ⟨ab, ao, rfl, hlt, hc⟩ := ((unhide Hb).below ((unhide Hb2).mono hB)).at_ (strs_at hx)
    have hset := own_set (i := j) (unhide Hown) (.string x)
    rw [backToT_set hx] at hset
    have hcl : (backToT b (j + 1))[j]? = some (.string ⟨#[]⟩) := by simp [backToT, List.getElem?_append]
    have hc2 := own_cell (unhide Hown) hcl
    have hf2 := own_free (unhide Hown) j
    have hge := own_at (unhide Hown)
    have e1 : ((j + 1 : Nat) : Int) - 1 = (j : Int) := by omega
    rw [e1]
    have Hset := hide hset
    clear hset hcl hx
    go_wp2
    go_roundw
    case rel => exact ⟨j, by omega, rfl, unhide Hset, (unhide Hb2).setCell (Nat.le_refl _) _⟩
    case measure => simp [intOf]

end Go.Proofs.YtlcdilgniimnlaaDoor
namespace Go.Proofs.YtlcdilgniimnlaaDoor
set_option linter.unusedVariables false
set_option linter.unusedSimpArgs false
open Go.RowKit

theorem byteInfo : (Tryd.prog.info? 5).map (fun i => (i.zero, i.size, i.bytes)) = some (some (.int .u8 0), 1, 1) := by kernel_rfl
theorem bys_one (l : List UInt8) : ∀ u ∈ bys l, u.oneCell' = true := by
  intro u hu
  simp only [bys, List.mem_map] at hu
  obtain ⟨c, _, rfl⟩ := hu
  rfl
/-- From the value v to the value v', which owns the bytes xs: only v's own row, and what is new, has turned. -/
structure Grew (w w' : World) (base : Nat) (v v' : Value) (n : Nat) (xs : List UInt8) : Prop where
  own : w'.ownsRow base 5 1 v' n (bys xs)
  kept : w.grownBy w' v.ownBlock
  at_ : ∀ k, v'.ownBlock = some k → v.ownBlock = some k ∨ w.heap.size ≤ k
section
variable {a b c : World} {base : Nat} {u v x : Value} {n m : Nat} {xs ys : List UInt8}
theorem Grew.trans (h : Grew a b base u v n xs) (k : Grew b c base v x m ys) : Grew a c base u x m ys :=
  ⟨k.own, ⟨k.kept.os.trans h.kept.os, k.kept.tape.trans h.kept.tape, k.kept.output.trans h.kept.output, Nat.le_trans h.kept.size k.kept.size, fun i hi hr => (k.kept.block i (Nat.lt_of_lt_of_le hi h.kept.size) (fun e => by
    rcases h.at_ i e.symm with h1 | h1
    · exact hr h1.symm
    · omega)).trans (h.kept.block i hi hr)⟩, fun i hi => by
    rcases k.at_ i hi with h1 | h1
    · exact h.at_ i h1
    · exact .inr (Nat.le_trans h.kept.size h1)⟩
theorem grownBy_of_below {row : Option Nat} (h : Below a.heap.size a b) : a.grownBy b row := ⟨h.os, h.tape, h.output, h.size, fun k hk _ => h.block k hk⟩
/-- Ahead of it something may have been made. -/
theorem Grew.after (hb : Below a.heap.size a b) (h : Grew b c base u v n xs) : Grew a c base u v n xs :=
  ⟨h.own, grown_trans (grownBy_of_below hb) h.kept, fun k hk => (h.at_ k hk).imp id fun h1 => Nat.le_trans hb.size h1⟩
theorem Grew.then (h : Grew a b base u v n xs) (hb : Below b.heap.size b c) : Grew a c base u v n xs :=
  ⟨own_below h.own hb, grown_trans h.kept (grownBy_of_below hb), h.at_⟩
theorem Grew.below {B : Nat} (h : Grew a b base u v n xs) (hB : B ≤ a.heap.size) (hr : ∀ k, u.ownBlock = some k → B ≤ k) : Below B a b := (Below.refl B a).grown h.kept hB hr
theorem Grew.blk {g : Nat} (h : Grew a b base u v n xs) (hg : g < a.heap.size) (hne : u.ownBlock ≠ some g) {o : Obj} (ho : a.heap[g]? = some o) : b.heap[g]? = some o :=
  (h.kept.block g hg (fun e => hne e.symm)).trans ho
theorem own_lt {w : World} {e : TypeId} {size : Nat} {xs : List Value} (h : w.ownsRow base e size v n xs) : ∀ k, v.ownBlock = some k → base ≤ k := fun k hk => (h.lt k hk).1
end

end Go.Proofs.YtlcdilgniimnlaaDoor
namespace Go.Proofs.YtlcdilgniimnlaaDoor
set_option linter.unusedVariables false
set_option linter.unusedSimpArgs false
open Go.RowKit

def IdxE (l : List ByteArray) (p : ByteArray → Bool) (w : World) (e : Ending) (w' : World) : Prop :=
  ∃ r : Int, e = .returned (.int .i64 r) ∧ ((l.any p = false ∧ r = -1) ∨ ∃ k : Nat, r = k ∧ k = l.findIdx p ∧ k < l.length) ∧ ∃ q, w' = w.drewN q
theorem findIdx_first {l : List ByteArray} {p : ByteArray → Bool} {k : Nat} {x : ByteArray} (hx : l[k]? = some x) (hp : p x = true) (hno : (l.take k).any p = false) : k = l.findIdx p ∧ k < l.length := by
  have hlt := (List.getElem?_eq_some_iff.1 hx).1
  refine ⟨?_, hlt⟩
  have e : l = l.take k ++ x :: l.drop (k + 1) := by
    rw [← (List.getElem?_eq_some_iff.1 hx).2, ← List.drop_eq_getElem_cons hlt, List.take_append_drop]
  have : ∀ a b : List ByteArray, a.any p = false → (a ++ x :: b).findIdx p = a.length := by
    intro a b ha
    induction a with
    | nil => rw [List.nil_append, List.findIdx_cons, hp]; rfl
    | cons y r ih =>
      rw [List.any_cons, Bool.or_eq_false_iff] at ha
      rw [List.cons_append, List.findIdx_cons, ha.1, ih ha.2]
      rfl
  conv => rhs; rw [e]
  rw [this _ _ hno, List.length_take]
  omega

set_option maxHeartbeats 1000000 in
theorem idxf_any (fn : FuncId) (cp : Value) (p : ByteArray → Bool) (hcf : ∀ (args : Array Value) (w : World), (callFunc fn args).run Tryd.prog w = .ok (.enter fn args) w)
    (A : Option Addr) (n c B : Nat) (l : List ByteArray) (w : World)
    (hfn : ∀ (x : ByteArray) (j : Nat), x.size ≤ maxLen → Calls Tryd.prog fn #[.string x, cp] (w.drewN j) fun e w' => e = .returned (.bool (p x)) ∧ ∃ q, w' = (w.drewN j).drewN q)
    (hl : Rd w B 1 A n (l.map Value.string)) (hs : ∀ x ∈ l, x.size ≤ maxLen) (hn : n ≤ maxLen) :
    Calls Tryd.prog 30 #[.slice A n c, .func (.func fn) #[] #[cp]] w (IdxE l p w) := by
  have hln : l.length = n := by simpa using hl.len1
  unfold maxLen at hn
  have Hl := hide hl
  have Hln := hide hln
  have Hs := hide hs
  have Hfn := hide hfn
  clear hl hln hs hfn
  go_enter Tryd.func30, Tryd.ntmps30
  go_wp2_with fail
  go_loopg [8] n (fun gk i wr => ∃ k : Nat, gk = n - k ∧ k ≤ n ∧ i = .int .i64 k ∧ (l.take k).any p = false ∧ ∃ q, wr = w.drewN q)
  case atStart => exact ⟨0, by omega, Nat.zero_le _, rfl, rfl, 0, rfl⟩
  case round =>
    obtain ⟨k, hgk, hk, rfl, hno, q, rfl⟩ := hrel
    have Hgk := hide hgk
    have Hno := hide hno
    clear hgk hno
    by_cases hlt : k < n
    · obtain ⟨x, hx⟩ : ∃ x, l[k]? = some x := ⟨_, List.getElem?_eq_getElem (by rw [unhide Hln]; exact hlt)⟩
      obtain ⟨b1, o1, rfl, _, c1⟩ := ((unhide Hl).drewN q).at_ (k := k) (u := .string x) (by simp [hx])
      have hc := (unhide Hfn) x q ((unhide Hs) _ (List.mem_of_getElem? hx))
      cases hp : p x
      · have hno2 : (l.take (k + 1)).any p = false := by rw [List.take_add_one, hx]; simp [unhide Hno, hp]
        rw [hp] at hc
        have Hc := hide hc
        have Hno2 := hide hno2
        clear hc hno2 hp hx
        go_wp2_with ((with_reducible refine (unhide Hc).mono ?_); rintro e w1 ⟨rfl, q2, rfl⟩)
        go_roundg (n - (k + 1))
        case measure => have := unhide Hgk; omega
        case rel => exact ⟨k + 1, rfl, by omega, by go_num, unhide Hno2, q + q2, by simp⟩
      · have hf := findIdx_first hx hp (unhide Hno)
        rw [hp] at hc
        have Hc := hide hc
        have Hf := hide hf
        clear hc hf hp hx
        go_wp2_with ((with_reducible refine (unhide Hc).mono ?_); rintro e w1 ⟨rfl, q2, rfl⟩)
        go_ret
        exact ⟨k, rfl, .inr ⟨k, rfl, (unhide Hf).1, (unhide Hf).2⟩, q + q2, by simp⟩
    · have hno2 : l.any p = false := by
        have := unhide Hno
        rwa [List.take_of_length_le (by have := unhide Hln; omega)] at this
      have Hno2 := hide hno2
      clear hno2
      go_wp2_with fail
      go_ret
      exact ⟨-1, rfl, .inl ⟨unhide Hno2, rfl⟩, q, rfl⟩

/-- A slice of the call's own is cut to its first elements. -/
theorem own_front {w : World} {base : Nat} {e : TypeId} {A : Option Addr} {n c k : Nat} {xs : List Value} (h : w.ownsRow base e 1 (.slice A n c) n xs) (hk : k ≤ n) : w.ownsRow base e 1 (.slice A k c) k (xs.take k) := by
  refine ⟨by rw [List.length_take, h.1]; omega, ?_⟩
  rcases h.2 with ⟨e1, e2⟩ | ⟨g, cap, cur, e1, e2, e3, e4, e5, e6, e7⟩
  · injection e1 with e1 e1b e1c
    subst e1 e1c
    exact .inl ⟨by rw [show k = 0 by omega], by omega⟩
  · injection e1 with e1 _ e1c
    subst e1 e1c
    refine .inr ⟨g, c, cur, rfl, e2, e3, by omega, e5, e6, ?_⟩
    rw [← e7, List.take_take]
    congr 1
    omega
theorem own_setCells {base g n c : Nat} {e : TypeId} (vs : List Value) : ∀ (o : Nat) (w : World) (xs : List Value), w.ownsRow base e 1 (.slice (some ⟨g, 0, none⟩) n c) n xs → ∃ ys, (w.setCells g o vs).ownsRow base e 1 (.slice (some ⟨g, 0, none⟩) n c) n ys ∧ ys.take o = xs.take o := by
  induction vs with
  | nil => intro o w xs h; exact ⟨xs, h, rfl⟩
  | cons v r ih =>
    intro o w xs h
    obtain ⟨ys, h1, h2⟩ := ih (o + 1) (w.setCell ⟨g, o, none⟩ v) (xs.set o v) (own_set h v)
    refine ⟨ys, h1, ?_⟩
    have := congrArg (fun l : List Value => l.take o) h2
    simp only [List.take_take] at this
    rw [show min o (o + 1) = o by omega] at this
    rw [this, List.take_set_of_le (Nat.le_refl _)]
theorem grown_setCells {g : Nat} (vs : List Value) : ∀ (o : Nat) (w0 w : World), w0.grownBy w (some g) → w0.grownBy (w.setCells g o vs) (some g) := by
  induction vs with
  | nil => intro o w0 w h; exact h
  | cons v r ih => intro o w0 w h; exact ih (o + 1) w0 _ (grown_trans h ⟨rfl, rfl, rfl, by simp, fun k _ hk => heap_setCell_other _ _ _ _ (fun e => hk (by rw [e]))⟩)
end Go.Proofs.YtlcdilgniimnlaaDoor
namespace Go.Proofs.YtlcdilgniimnlaaDoor
set_option linter.unusedVariables false
set_option linter.unusedSimpArgs false
open Go.RowKit

def np (p : ByteArray → Bool) (x : ByteArray) : Bool := !p x
theorem np_keep {l : List ByteArray} {p : ByteArray → Bool} {j : Nat} {x : ByteArray} (hx : l[j]? = some x) (hp : p x = false) : (l.take (j + 1)).filter (np p) = (l.take j).filter (np p) ++ [x] := by
  rw [List.take_add_one, hx, List.filter_append]
  simp [np, hp]
theorem np_drop {l : List ByteArray} {p : ByteArray → Bool} {j : Nat} {x : ByteArray} (hx : l[j]? = some x) (hp : p x = true) : (l.take (j + 1)).filter (np p) = (l.take j).filter (np p) := by
  rw [List.take_add_one, hx, List.filter_append]
  simp [np, hp]
theorem np_all {l : List ByteArray} {p : ByteArray → Bool} (h : l.any p = false) : l.filter (np p) = l := by
  rw [List.filter_eq_self]
  intro x hx
  have := (List.any_eq_false.1 h) x hx
  simp [np, this]
theorem np_first {l : List ByteArray} {p : ByteArray → Bool} {k : Nat} (hk : k = l.findIdx p) (hlt : k < l.length) : (l.take (k + 1)).filter (np p) = l.take k := by
  subst hk
  have hx : l[l.findIdx p]? = some l[l.findIdx p] := List.getElem?_eq_getElem hlt
  have hp : p l[l.findIdx p] = true := List.findIdx_getElem (w := hlt)
  rw [np_drop hx hp]
  apply np_all
  rw [List.any_eq_false]
  intro x hm
  obtain ⟨j, hj, rfl⟩ := List.mem_iff_getElem.1 hm
  rw [List.length_take] at hj
  rw [List.getElem_take]
  have := List.not_of_lt_findIdx (p := p) (xs := l) (i := j) (by omega)
  simpa using this
/-- Where DeleteFunc stands: j texts are looked at, the kept ones stand ahead. -/
structure DelS (p : ByteArray → Bool) (l : List ByteArray) (n j i : Nat) (Y : List ByteArray) : Prop where
  len : Y.length = n
  front : Y.take i = (l.take j).filter (np p)
  i_ : ((l.take j).filter (np p)).length = i
  rest : ∀ m, j ≤ m → Y[m]? = l[m]?
theorem DelS.le {p : ByteArray → Bool} {l Y : List ByteArray} {n j i : Nat} (h : DelS p l n j i Y) : i ≤ j := by
  have := h.i_
  have h2 := List.length_filter_le (np p) (l.take j)
  have h3 : (l.take j).length ≤ j := List.length_take_le _ _
  omega
theorem DelS.skip {p : ByteArray → Bool} {l Y : List ByteArray} {n j i : Nat} {x : ByteArray} (h : DelS p l n j i Y) (hx : l[j]? = some x) (hp : p x = true) : DelS p l n (j + 1) i Y := by
  have e := np_drop hx hp
  exact ⟨h.len, by rw [e]; exact h.front, by rw [e]; exact h.i_, fun m hm => h.rest m (by omega)⟩
theorem DelS.keep {p : ByteArray → Bool} {l Y : List ByteArray} {n j i : Nat} {x : ByteArray} (h : DelS p l n j i Y) (hx : l[j]? = some x) (hp : p x = false) (hj : j < n) : DelS p l n (j + 1) (i + 1) (Y.set i x) := by
  have e := np_keep hx hp
  have hle := h.le
  have hY : i < Y.length := by rw [h.len]; omega
  refine ⟨by rw [List.length_set]; exact h.len, ?_, by rw [e, List.length_append, h.i_]; rfl, fun m hm => ?_⟩
  · rw [e, ← h.front, List.take_add_one, List.take_set_of_le (Nat.le_refl _), List.getElem?_set_self hY]
    rfl
  · rw [List.getElem?_set_ne (by omega)]
    exact h.rest m (by omega)

def DelE (base : Nat) (l' : List ByteArray) (v : Value) (w : World) (e : Ending) (w' : World) : Prop :=
  ∃ A' c', e = .returned (.slice A' l'.length c') ∧ w'.ownsRow base 9 1 (.slice A' l'.length c') l'.length (l'.map Value.string) ∧ w.grownBy w' v.ownBlock

set_option maxRecDepth 100000 in
set_option maxHeartbeats 2000000 in
theorem delf_any (fn : FuncId) (cp : Value) (p : ByteArray → Bool) (hcf : ∀ (args : Array Value) (w : World), (callFunc fn args).run Tryd.prog w = .ok (.enter fn args) w)
    (K : World → Prop) (A : Option Addr) (n c base : Nat) (l : List ByteArray) (w : World) (hown : w.ownsRow base 9 1 (.slice A n c) n (l.map Value.string)) (hK : K w)
    (hKk : ∀ w1 w2, K w1 → w1.grownBy w2 (Value.slice A n c).ownBlock → K w2)
    (hfn : ∀ (x : ByteArray) (w' : World), K w' → x.size ≤ maxLen → Calls Tryd.prog fn #[.string x, cp] w' fun e w2 => e = .returned (.bool (p x)) ∧ ∃ q, w2 = w'.drewN q)
    (hs : ∀ x ∈ l, x.size ≤ maxLen) (hn : n ≤ 4294967296) :
    Calls Tryd.prog 38 #[.slice A n c, .func (.func fn) #[] #[cp]] w (DelE base (l.filter (np p)) (.slice A n c) w) := by
  have hln : l.length = n := by have := hown.1; simpa using this
  have hcap := own_cap hown
  have hgr0 : ∀ q, w.grownBy (w.drewN q) (Value.slice A n c).ownBlock := fun q => ⟨rfl, rfl, rfl, Nat.le_refl _, fun _ _ _ => rfl⟩
  have KI := idxf_any fn cp p hcf A n c w.heap.size l w (fun x j hx => hfn x (w.drewN j) (hKk _ _ hK (hgr0 j)) hx) (Rd.of_own hown) hs (by unfold maxLen; omega)
  by_cases hany : l.any p = false
  · rw [np_all hany]
    unfold DelE
    rw [hln]
    replace KI := hide KI
    have Hown := hide hown
    have Hgr := hide hgr0
    have Hany := hide hany
    have Hln := hide hln
    clear hown hK hKk hfn hs hgr0 hany hln
    go_enter Tryd.func38, Tryd.ntmps38
    go_wp2_with fail
    refine (unhide KI).mono ?_
    rintro e w1 ⟨r, rfl, (⟨_, rfl⟩ | ⟨k, rfl, hk, hlt⟩), q, rfl⟩
    · go_wp2_with fail
      go_ret
      exact ⟨A, c, rfl, own_drewN (unhide Hown) q, (unhide Hgr) q⟩
    · exfalso
      have hx : l[l.findIdx p]? = some l[l.findIdx p] := List.getElem?_eq_getElem (by omega)
      have hp : p l[l.findIdx p] = true := List.findIdx_getElem (w := by omega)
      have := (List.any_eq_false.1 (unhide Hany)) _ (List.mem_of_getElem? hx)
      exact this hp
  · have hKI2 : ∃ k : Nat, k = l.findIdx p ∧ k < l.length := by
      rw [Bool.not_eq_false, List.any_eq_true] at hany
      obtain ⟨x, hx, hp⟩ := hany
      exact ⟨_, rfl, List.findIdx_lt_length_of_exists ⟨x, hx, hp⟩⟩
    obtain ⟨k0, hk0, hk0l⟩ := hKI2
    have hfirst := np_first hk0 hk0l
    rw [hln] at hk0l
    obtain ⟨g, rfl, hbg, hgl⟩ := own_some hown (by omega)
    have hob : (Value.slice (some ⟨g, 0, none⟩) n c).ownBlock = some g := rfl
    rw [hob] at hKk
    have D0 : DelS p l n (k0 + 1) k0 l := ⟨hln, by rw [hfirst], by rw [hfirst, List.length_take]; omega, fun _ _ => rfl⟩
    unfold DelE
    rw [hob]
    replace KI := hide KI
    have Hown := hide hown
    have Hany := hide hany
    have Hln := hide hln
    have HK := hide hK
    have HKk := hide hKk
    have Hfn := hide hfn
    have Hs := hide hs
    have H0 := hide D0
    have Hk0 := hide hk0
    clear hown hK hKk hfn hs hgr0 hany hln hfirst D0 hob hk0
    go_enter Tryd.func38, Tryd.ntmps38
    go_wp2_with fail
    refine (unhide KI).mono ?_
    rintro e w1 ⟨r, rfl, (⟨hno, _⟩ | ⟨k, rfl, hk, hlt⟩), q, rfl⟩
    · exact absurd hno (unhide Hany)
    obtain rfl : k = k0 := hk.trans (unhide Hk0).symm
    have hm1 : (((k : Nat) : Int) == -1) = false := beq_eq_false_iff_ne.2 (by omega)
    clear hk hlt KI Hk0 Hany
    go_wp2_with fail
    go_loopg [5, 6, 7] (n - (k + 1)) (fun gk iv jv _ wr => ∃ (j i : Nat) (Y : List ByteArray), gk = n - j ∧ j ≤ n ∧ i < j ∧ iv = .int .i64 i ∧ jv = .int .i64 j ∧ DelS p l n j i Y ∧ wr.ownsRow base 9 1 (.slice (some ⟨g, 0, none⟩) n c) n (Y.map Value.string) ∧ w.grownBy wr (some g))
    case atStart => exact ⟨k + 1, k, l, by omega, by omega, by omega, rfl, by go_num, unhide H0, own_drewN (unhide Hown) q, ⟨rfl, rfl, rfl, Nat.le_refl _, fun _ _ _ => rfl⟩⟩
    case round =>
    obtain ⟨j, i, Y, hgk, hj, hij, rfl, rfl, hd, hown, hgr⟩ := hrel
    have Hgk := hide hgk
    have Hd := hide hd
    have Hown2 := hide hown
    have Hgr := hide hgr
    have HKr := hide ((unhide HKk) _ _ (unhide HK) hgr)
    clear hgk hd hown hgr
    by_cases hlt : j < n
    · obtain ⟨x, hx⟩ : ∃ x, l[j]? = some x := ⟨_, List.getElem?_eq_getElem (by rw [unhide Hln]; exact hlt)⟩
      have hy : Y[j]? = some x := by rw [(unhide Hd).rest j (Nat.le_refl _)]; exact hx
      have cj := own_cell (unhide Hown2) (i := j) (u := .string x) (by simp [hy])
      have hiY : i < Y.length := by rw [(unhide Hd).len]; omega
      have ci := own_cell (unhide Hown2) (i := i) (u := .string Y[i]) (by simp [List.getElem?_eq_getElem hiY])
      have fi := own_free (unhide Hown2) i
      have hc := (unhide Hfn) x wr (unhide HKr) ((unhide Hs) _ (List.mem_of_getElem? hx))
      cases hp : p x
      · have hd2 := (unhide Hd).keep hx hp hlt
        have hset : (wr.setCell ⟨g, i, none⟩ (.string x)).ownsRow base 9 1 (.slice (some ⟨g, 0, none⟩) n c) n ((Y.set i x).map Value.string) := by
          have h := own_set (i := i) (unhide Hown2) (.string x)
          rwa [← List.map_set] at h
        rw [hp] at hc
        have Hc := hide hc
        have Hd2 := hide hd2
        have Hset := hide hset
        clear hc hd2 hset hp hx hy
        go_wp2_with fail
        refine (unhide Hc).mono ?_
        rintro e w2 ⟨rfl, q2, rfl⟩
        have ci2 : (wr.drewN q2).cell? ⟨g, i, none⟩ = _ := ci
        have fi2 : (wr.drewN q2).frozen? ⟨g, i, none⟩ = _ := fi
        go_wp2_with fail
        go_roundg (n - (j + 1))
        case measure => have := unhide Hgk; omega
        case rel => exact ⟨j + 1, i + 1, Y.set i x, rfl, by omega, by omega, by go_num, by go_num, unhide Hd2, unhide Hset, grown_trans (unhide Hgr) ⟨rfl, rfl, rfl, by simp, fun k _ hk => heap_setCell_other _ _ _ _ (fun e => hk (by rw [e]))⟩⟩
      · have hd2 := (unhide Hd).skip hx hp
        rw [hp] at hc
        have Hc := hide hc
        have Hd2 := hide hd2
        clear hc hd2 hp hx hy ci fi
        go_wp2_with fail
        refine (unhide Hc).mono ?_
        rintro e w2 ⟨rfl, q2, rfl⟩
        go_wp2_with fail
        go_roundg (n - (j + 1))
        case measure => have := unhide Hgk; omega
        case rel => exact ⟨j + 1, i, Y, rfl, by omega, by omega, rfl, by go_num, unhide Hd2, unhide Hown2, grown_trans (unhide Hgr) ⟨rfl, rfl, rfl, Nat.le_refl _, fun _ _ _ => rfl⟩⟩
    · obtain rfl : j = n := by omega
      have hfr := (unhide Hd).front
      have hil := (unhide Hd).i_
      have htl : l.take j = l := List.take_of_length_le (by have := unhide Hln; omega)
      rw [htl] at hfr hil
      have hcl : ∀ ty, (Builtin.clear_ #[22] ty #[.slice (some ⟨g, i, none⟩) (j - i) (c - i)]).run Tryd.prog wr = .ok (.tuple #[]) (wr.setCells g i (List.replicate (j - i) (.string ⟨#[]⟩))) := by
        intro ty
        refine Lib.run_clear_slice wr _ _ ty (.string ⟨#[]⟩) Tryd.underlying22 (fun _ => by kernel_rfl) rfl rfl g i _ _ (by omega) (fun t ht => ?_) (fun t ht => own_free (unhide Hown2) _)
        have hYl : i + t < Y.length := by rw [(unhide Hd).len]; omega
        rw [own_cell (unhide Hown2) (i := i + t) (u := .string Y[i + t]) (by simp [List.getElem?_eq_getElem hYl])]
        rfl
      obtain ⟨ys, hys, hyt⟩ := own_setCells (List.replicate (j - i) (.string ⟨#[]⟩)) i wr _ (unhide Hown2)
      have hfin := own_front hys (Nat.le_of_lt hij)
      rw [hyt, ← List.map_take, hfr] at hfin
      have hgf := grown_setCells (g := g) (List.replicate (j - i) (.string ⟨#[]⟩)) i w wr (unhide Hgr)
      have Hfin := hide hfin
      have Hgf := hide hgf
      have Hil := hide hil
      have hci : ¬ c = i := by omega
      have b1 : (0 : Int) ≤ (i : Int) := by omega
      have b2 : ((i : Nat) : Int) ≤ ((j : Nat) : Int) := by omega
      have b3 : ((i : Nat) : Int) ≤ ((c : Nat) : Int) := by omega
      clear hfr hil hys hyt hfin hgf Hown2 Hd htl
      go_wp2_with fail
      go_ret
      refine ⟨some ⟨g, 0, none⟩, c, ?_, ?_, unhide Hgf⟩
      · show Ending.returned (.slice (some ⟨g, 0, none⟩) i c) = _
        rw [unhide Hil]
      · rw [unhide Hil]; exact unhide Hfin
end Go.Proofs.YtlcdilgniimnlaaDoor
namespace Go.Proofs.YtlcdilgniimnlaaDoor
set_option linter.unusedVariables false
set_option linter.unusedSimpArgs false
open Go.RowKit Go.ChangeShapes Go.WideShapes

theorem cell_lt {w : World} {a : Addr} {v : Value} (h : w.cell? a = some v) : a.block < w.heap.size := by
  unfold World.cell? at h
  split at h
  · rename_i hb
    exact (Array.getElem?_eq_some_iff.1 hb).1
  · cases h

section
variable {H : Type} {enc : TypeId × Value → H} {P : Program} {w : World} {base : Nat} {held : Bool} {t e : TypeId} {A : Option Addr} {n c : Nat} {d : DataW H} {p : List MemPlace}

theorem open_nums_rd {k : IntKind} (ht : P.underlying t = some (.slice e)) (he : P.underlying e = some (.int k)) (hc : P.cellsOf e = 1)
    (h : DataW.Trod enc P w base (fun _ => true) held t (.slice A n c) d p) :
    ∃ zs : List Int, Rd w w.heap.size 1 A n (zs.map (Value.int k)) ∧ n ≤ c ∧ c ≤ maxLen ∧ ∀ z ∈ zs, (Lit.int k z).wf = true := by
  obtain ⟨fuel, hf⟩ := h
  rcases open_ints ht he hc hf with ⟨h1, h2⟩ | ⟨a, len, cap, zs, h1, hb, hl, hm, hz, hx, hcell, hwz⟩
  · simp [Value.cells] at h1
    obtain ⟨rfl, rfl, rfl⟩ := h1
    exact ⟨[], Rd.none_ _ _ _ _, Nat.le_refl _, by unfold maxLen; omega, by simp⟩
  · simp [Value.cells] at h1
    obtain ⟨rfl, rfl, rfl⟩ := h1
    simp only [if_true] at hz
    refine ⟨zs.take n, ⟨by simp [hz]; omega, ?_⟩, hl, hm, fun z hz => hwz z (List.mem_of_mem_take hz)⟩
    by_cases h0 : n = 0
    · subst h0; exact .inl rfl
    · obtain ⟨b, off, rfl, hc2⟩ := ints_at hcell (by omega)
      have hblk := cell_lt (hc2 0 (by omega))
      refine .inr ⟨b, off, rfl, hblk, fun j u hu => ?_⟩
      simp only [List.getElem?_map, Option.map_eq_some_iff] at hu
      obtain ⟨z, hz1, rfl⟩ := hu
      have hj : j < n := by
        have := (List.getElem?_eq_some_iff.1 hz1).1
        simp at this
        omega
      rw [List.getElem?_take_of_lt hj] at hz1
      rw [hc2 j (by omega), List.getD_eq_getElem?_getD, hz1]
      rfl

theorem u8_of {z : Int} (h : (Lit.int .u8 z).wf = true) : ((UInt8.ofNat z.toNat).toNat : Int) = z := by
  have hb : 0 ≤ z ∧ z ≤ 255 := by
    simpa [Lit.wf, IntKind.min, IntKind.max, IntKind.signed, IntKind.bits] using h
  simp
  omega

theorem open_bytes_rd (ht : P.underlying t = some (.slice e)) (he : P.underlying e = some (.int .u8)) (hc : P.cellsOf e = 1)
    (h : DataW.Trod enc P w base (fun _ => true) held t (.slice A n c) d p) :
    ∃ b : List UInt8, Rd w w.heap.size 1 A n (b.map fun c => .int .u8 c.toNat) ∧ n ≤ c ∧ c ≤ maxLen := by
  obtain ⟨zs, h1, h2, h3, h4⟩ := open_nums_rd ht he hc h
  refine ⟨zs.map fun z => UInt8.ofNat z.toNat, ?_, h2, h3⟩
  have e1 : (zs.map fun z => UInt8.ofNat z.toNat).map (fun c : UInt8 => Value.int .u8 c.toNat) = zs.map (Value.int .u8) := by
    rw [List.map_map]
    refine List.map_congr_left fun z hz => ?_
    show Value.int .u8 ((UInt8.ofNat z.toNat).toNat : Int) = _
    rw [u8_of (h4 z hz)]
  rw [e1]
  exact h1

theorem open_ints_rd (ht : P.underlying t = some (.slice e)) (he : P.underlying e = some (.int .i64)) (hc : P.cellsOf e = 1)
    (h : DataW.Trod enc P w base (fun _ => true) held t (.slice A n c) d p) :
    ∃ zs : List Int, Rd w w.heap.size 1 A n (zs.map (Value.int .i64)) ∧ n ≤ c ∧ c ≤ maxLen ∧ ∀ z ∈ zs, -9223372036854775808 ≤ z ∧ z ≤ 9223372036854775807 := by
  obtain ⟨zs, h1, h2, h3, h4⟩ := open_nums_rd ht he hc h
  refine ⟨zs, h1, h2, h3, fun z hz => ?_⟩
  have := h4 z hz
  simpa [Lit.wf, IntKind.min, IntKind.max, IntKind.signed, IntKind.bits] using this

theorem open_strs_rd (ht : P.underlying t = some (.slice e)) (he : P.underlying e = some .string) (hc : P.cellsOf e = 1)
    (h : DataW.Trod enc P w base (fun _ => true) held t (.slice A n c) d p) :
    ∃ ss : List ByteArray, Rd w w.heap.size 1 A n (ss.map Value.string) ∧ n ≤ c ∧ c ≤ maxLen ∧ ∀ s ∈ ss, s.size ≤ maxLen := by
  obtain ⟨fuel, hf⟩ := h
  rcases open_strings ht he hc hf with ⟨h1, h2⟩ | ⟨a, len, cap, zs, h1, hb, hl, hm, hz, hx, hcell, hwz⟩
  · simp [Value.cells] at h1
    obtain ⟨rfl, rfl, rfl⟩ := h1
    exact ⟨[], Rd.none_ _ _ _ _, Nat.le_refl _, by unfold maxLen; omega, by simp⟩
  · simp [Value.cells] at h1
    obtain ⟨rfl, rfl, rfl⟩ := h1
    simp only [if_true] at hz
    refine ⟨zs.take n, ⟨by simp [hz]; omega, ?_⟩, hl, hm, fun z hz => hwz z (List.mem_of_mem_take hz)⟩
    by_cases h0 : n = 0
    · subst h0; exact .inl rfl
    · obtain ⟨b, off, spot⟩ := a
      have hs : spot = none := by simpa [Addr.add] using World.cell?_spot (hcell 0 (by omega))
      subst hs
      have hc2 : ∀ i, i < zs.length → w.cell? ⟨b, off + i, none⟩ = some (.string (zs.getD i ByteArray.empty)) := fun j hj => by
        rw [← Go.WideShapes.add_plain]; exact hcell j hj
      have hblk := cell_lt (hc2 0 (by omega))
      refine .inr ⟨b, off, rfl, hblk, fun j u hu => ?_⟩
      simp only [List.getElem?_map, Option.map_eq_some_iff] at hu
      obtain ⟨z, hz1, rfl⟩ := hu
      have hj : j < n := by
        have := (List.getElem?_eq_some_iff.1 hz1).1
        simp at this
        omega
      rw [List.getElem?_take_of_lt hj] at hz1
      rw [hc2 j (by omega), List.getD_eq_getElem?_getD, hz1]
      rfl
end
end Go.Proofs.YtlcdilgniimnlaaDoor
namespace Go.Proofs.YtlcdilgniimnlaaDoor
set_option linter.unusedVariables false
set_option linter.unusedSimpArgs false
open Go.RowKit

theorem cell_blk {w w' : World} {b : Nat} (h : w'.heap[b]? = w.heap[b]?) (o : Nat) : w'.cell? ⟨b, o, none⟩ = w.cell? ⟨b, o, none⟩ := by
  unfold World.cell?
  simp only [h]
theorem of_any (name : ByteArray) (w : World) : Calls Tryd.prog 31 #[.string name] w fun e w' => e = .returned (.func (.func 44) #[] #[.pointer (some ⟨w.heap.size, 0, none⟩)]) ∧ w' = w.alloc (.cells #[.string name] 9) := by
  go_enter Tryd.func31, Tryd.ntmps31
  go_wp2_with fail
  go_ret
  exact ⟨rfl, rfl⟩
def CloneE (l : List ByteArray) (n : Nat) (w : World) (e : Ending) (w' : World) : Prop :=
  ∃ A' c', e = .returned (.slice A' n c') ∧ w'.ownsRow w.heap.size 9 1 (.slice A' n c') n (l.map Value.string) ∧ Below w.heap.size w w'
theorem clone_any (A : Option Addr) (n c B : Nat) (l : List ByteArray) (w : World) (hl : Rd w B 1 A n (l.map Value.string)) (hn : n ≤ 4294967296) :
    Calls Tryd.prog 39 #[.slice A n c] w (CloneE l n w) := by
  have hln : l.length = n := by simpa using hl.len1
  rcases hl.2 with h0 | ⟨b, off, rfl, hb, hc⟩
  · have hl0 : l = [] := by simpa using h0
    subst hl0
    simp only [List.length_nil] at hln
    subst hln
    cases A with
    | none => exact (Tryd.slices_Clone_string_nil 0 c w).mono fun e w' ⟨a, b⟩ => ⟨none, 0, a, World.ownsRow_nil _ _ _ _, by rw [b]; exact Below.refl _ _⟩
    | some a =>
      refine (Tryd.slices_Clone_string_zero a c w).mono fun e w' ⟨v', a, ho, _, hb⟩ => ?_
      obtain ⟨A', c', rfl⟩ := own_form ho
      exact ⟨A', c', a, ho, hb⟩
  · refine (Tryd.slices_Clone_string b off n c l w (by omega) (by omega) (fun j hj => ?_)).mono fun e w' ⟨v', a, ho, _, hb⟩ => ?_
    · refine hc j _ ?_
      rw [List.getElem?_map, List.getElem?_eq_getElem hj, List.getD_eq_getElem?_getD, List.getElem?_eq_getElem hj]
      rfl
    · rw [List.take_of_length_le (by omega)] at ho
      obtain ⟨A', c', rfl⟩ := own_form ho
      exact ⟨A', c', a, ho, hb⟩
def EnvE (l' : List ByteArray) (w : World) (e : Ending) (w' : World) : Prop :=
  ∃ A' c', e = .returned (.slice A' l'.length c') ∧ w'.ownsRow w.heap.size 9 1 (.slice A' l'.length c') l'.length (l'.map Value.string) ∧ Below w.heap.size w w'

set_option maxRecDepth 100000 in
set_option maxHeartbeats 1000000 in
theorem unset_any (A : Option Addr) (n c B : Nat) (l : List ByteArray) (name : ByteArray) (w : World) (hl : Rd w B 1 A n (l.map Value.string)) (hs : ∀ x ∈ l, x.size ≤ maxLen) (hn : n ≤ 4294967296) :
    Calls Tryd.prog 20 #[.slice A n c, .string name] w (EnvE (Ev.unset l name) w) := by
  have K1 := hide (clone_any A n c B l w hl hn)
  have Hs := hide hs
  clear hl hs
  go_enter Tryd.func20, Tryd.ntmps20
  go_wp2_with fail
  refine (unhide K1).mono ?_
  rintro e w1 ⟨A1, c1, rfl, ho1, hb1⟩
  have K2 := hide (of_any name w1)
  have Ho1 := hide ho1
  have Hb1 := hide hb1
  clear ho1 hb1 K1
  go_wp2_with fail
  refine (unhide K2).mono ?_
  rintro e w2 ⟨rfl, rfl⟩
  have hbx : Below w1.heap.size w1 (w1.alloc (.cells #[.string name] 9)) := (Below.refl _ _).alloc (Nat.le_refl _) _
  have hcell : (w1.alloc (.cells #[.string name] 9)).cell? ⟨w1.heap.size, 0, none⟩ = some (.string name) := cell_of_row _ _ _ _ _ _ (heap_alloc_new _ _)
  have hown := own_below (unhide Ho1) hbx
  have hob : ∀ k, (Value.slice A1 n c1).ownBlock = some k → k < w1.heap.size := fun k hk => ((unhide Ho1).lt k hk).2
  have hobB : ∀ k, (Value.slice A1 n c1).ownBlock = some k → w.heap.size ≤ k := fun k hk => ((unhide Ho1).lt k hk).1
  have hbB := (unhide Hb1).trans (hbx.mono (unhide Hb1).size)
  have hsz : w.heap.size ≤ (w1.alloc (.cells #[.string name] 9)).heap.size := hbB.size
  have K3 := delf_any 44 (.pointer (some ⟨w1.heap.size, 0, none⟩)) (Ev.named name) callFunc_of1 (fun w' => w'.cell? ⟨w1.heap.size, 0, none⟩ = some (.string name)) A1 n c1 w.heap.size l (w1.alloc (.cells #[.string name] 9)) hown hcell
    (fun wa wb ha hg => by
      have hlt := cell_lt ha
      rw [← ha]
      exact cell_blk (hg.block _ hlt (fun e => by have := hob _ e.symm; simp at this)) 0)
    (fun x w' hK hx => of1_any name x _ w' hx hK) (unhide Hs) hn
  replace K3 := hide K3
  have HbB := hide hbB
  have Hob := hide hobB
  clear hbx hcell hown hob hobB hbB K2 Ho1
  go_wp2_with fail
  refine (unhide K3).mono ?_
  rintro e w3 ⟨A3, c3, rfl, ho3, hg3⟩
  have Ho3 := hide ho3
  have Hb3 := hide ((unhide HbB).grown hg3 hsz (unhide Hob))
  clear ho3 hg3
  go_wp2_with fail
  go_ret
  exact ⟨A3, c3, rfl, unhide Ho3, unhide Hb3⟩

set_option maxRecDepth 100000 in
set_option maxHeartbeats 1000000 in
theorem get_any (A : Option Addr) (n c B : Nat) (l : List ByteArray) (name : ByteArray) (w : World) (hl : Rd w B 1 A n (l.map Value.string)) (hB : B ≤ w.heap.size) (hs : ∀ x ∈ l, x.size ≤ maxLen) (hn : n ≤ 4294967296) :
    Calls Tryd.prog 13 #[.slice A n c, .string name] w fun e w' => e = .returned (.tuple #[.string (Ev.get l name).1, .bool (Ev.get l name).2]) ∧ Below w.heap.size w w' := by
  have K2 := hide (of_any name w)
  have hln : l.length = n := by simpa using hl.len1
  have hbx : Below w.heap.size w (w.alloc (.cells #[.string name] 9)) := (Below.refl _ _).alloc (Nat.le_refl _) _
  have hcell : (w.alloc (.cells #[.string name] 9)).cell? ⟨w.heap.size, 0, none⟩ = some (.string name) := cell_of_row _ _ _ _ _ _ (heap_alloc_new _ _)
  have K3 := hide (idxf_any 44 (.pointer (some ⟨w.heap.size, 0, none⟩)) (Ev.named name) callFunc_of1 A n c B l (w.alloc (.cells #[.string name] 9))
    (fun x j hx => of1_any name x _ _ hx hcell) (hl.below (hbx.mono hB)) hs (by unfold maxLen; omega))
  have hfind := Ev.find_at l name
  have hat : Ev.at_ l name = l.findIdx (Ev.named name) := rfl
  have hno : l.any (Ev.named name) = false → Ev.get l name = (Ev.ba [], false) := by
    intro h
    unfold Ev.get
    have : l.find? (Ev.named name) = none := by rw [List.find?_eq_none]; intro x hx; have := (List.any_eq_false.1 h) x hx; simpa using this
    rw [this]
  have hyes : ∀ k x, k = l.findIdx (Ev.named name) → l[k]? = some x → Ev.get l name = (Ev.vl x, true) := by
    intro k x hk hx
    unfold Ev.get
    rw [hfind, hat, ← hk, hx]
  obtain ⟨⟨gv, gb⟩, hg⟩ : ∃ r, Ev.get l name = r := ⟨_, rfl⟩
  rw [hg] at hno hyes ⊢
  have Hl := hide (hl.below (hbx.mono hB))
  have Hs := hide hs
  have Hb := hide hbx
  have Hln := hide hln
  have Hno := hide hno
  have Hyes := hide hyes
  clear hl hs hbx hcell hfind hat hln hno hyes hg
  go_enter Tryd.func13, Tryd.ntmps13
  go_wp2_with fail
  refine (unhide K2).mono ?_
  rintro e w2 ⟨rfl, rfl⟩
  clear K2
  go_wp2_with fail
  refine (unhide K3).mono ?_
  rintro e w1 ⟨r, rfl, (⟨hno, rfl⟩ | ⟨k, rfl, hk, hlt⟩), q, rfl⟩
  · have he := (unhide Hno) hno
    injection he with e1 e2
    subst e1 e2
    clear hno K3
    go_wp2_with fail
    go_ret2
    exact ⟨rfl, below_drewN' (unhide Hb) q⟩
  · have hx : l[k]? = some l[k] := List.getElem?_eq_getElem hlt
    obtain ⟨b1, o1, rfl, _, c1⟩ := ((unhide Hl).drewN q).at_ (k := k) (u := .string l[k]) (by simp [hx])
    obtain ⟨x, hxe⟩ : ∃ x, l[k] = x := ⟨_, rfl⟩
    rw [hxe] at hx c1
    have he := (unhide Hyes) k x hk hx
    injection he with e1 e2
    subst e1 e2
    have hxs := (unhide Hs) x (List.mem_of_getElem? hx)
    have K4 := hide (split_any x ((w.alloc (.cells #[.string name] 9)).drewN q) hxs)
    have hkn : k < n := by rw [← unhide Hln]; exact hlt
    clear hx hk hlt hxe hxs K3
    go_wp2_with fail
    refine (unhide K4).mono ?_
    rintro e w4 ⟨rfl, q2, rfl⟩
    go_wp2_with fail
    go_ret2
    exact ⟨rfl, below_drewN' (unhide Hb) _⟩
end Go.Proofs.YtlcdilgniimnlaaDoor
namespace Go.Proofs.YtlcdilgniimnlaaDoor
set_option linter.unusedVariables false
set_option linter.unusedSimpArgs false
open Go.RowKit

/-- Block g is a map with just these entries, in their order; no key stands twice. -/
structure MapG (w : World) (g : Nat) (d : TypeDesc) (m : List (Value × Value)) : Prop where
  there : ∃ es clk, w.heap[g]? = some (.map es clk) ∧ es.toList.map (fun e => (e.key, e.val)) = m
  keys : ∀ p ∈ m, Go.MapKept.IsKey d p.1
  once : m.Pairwise (fun p q => p.1 ≠ q.1)

section
variable {P : Program} {t kt e : TypeId} {d : TypeDesc} {w : World} {g : Nat} {m : List (Value × Value)} {x v : Value}
theorem findG_no (hx : Go.MapKept.IsKey d x) : ∀ (es : List MapEntry) (m : List (Value × Value)) (i : Nat), es.map (fun e => (e.key, e.val)) = m → (∀ p ∈ m, Go.MapKept.IsKey d p.1) → (∀ p ∈ m, p.1 ≠ x) → Instr.findNow d x es i = some none := by
  intro es
  induction es with
  | nil => intro m i h hk hn; rfl
  | cons e es ih =>
    intro m i h hk hn
    subst h
    simp only [List.map_cons, List.mem_cons, forall_eq_or_imp] at hk hn
    obtain ⟨r, hr, hiff⟩ := Go.MapKept.sameNow_of_keys hx hk.1
    have hrf : r = false := by
      cases r with
      | false => rfl
      | true => exact absurd (hiff.1 rfl).symm hn.1
    unfold Instr.findNow
    rw [hr, hrf]
    exact ih _ _ rfl hk.2 hn.2
theorem findG_yes (hx : Go.MapKept.IsKey d x) : ∀ (es : List MapEntry) (m : List (Value × Value)) (i : Nat), es.map (fun e => (e.key, e.val)) = m → (∀ p ∈ m, Go.MapKept.IsKey d p.1) → m.Pairwise (fun p q => p.1 ≠ q.1) → (x, v) ∈ m → ∃ j, Instr.findNow d x es i = some (some (j, v)) := by
  intro es
  induction es with
  | nil => intro m i h hk hp hm; subst h; cases hm
  | cons e es ih =>
    intro m i h hk hp hm
    subst h
    simp only [List.map_cons, List.mem_cons, forall_eq_or_imp] at hk hm
    rw [List.map_cons, List.pairwise_cons] at hp
    obtain ⟨r, hr, hiff⟩ := Go.MapKept.sameNow_of_keys hx hk.1
    unfold Instr.findNow
    rw [hr]
    rcases hm with hm | hm
    · injection hm with h1 h2
      rw [hiff.2 h1]
      exact ⟨i, by rw [h2]⟩
    · have hrf : r = false := by
        cases r with
        | false => rfl
        | true => exact absurd (hiff.1 rfl).symm (hp.1 _ hm)
      rw [hrf]
      exact ih _ _ rfl hk.2 hp.2 hm
theorem run_putG (ht : P.underlying t = some (.map kt e)) (hk : P.underlying kt = some d) (hik : Go.MapKept.IsKey d x) (h : MapG w g d m) (hx : ∀ p ∈ m, p.1 ≠ x) :
    ∃ w', (Instr.mapUpdate t (.map (some g)) x v).run P w = .ok () w' ∧ MapG w' g d (m ++ [(x, v)]) ∧ w.grownBy w' (some g) ∧ w'.heap.size = w.heap.size := by
  obtain ⟨⟨es, clk, hg, hm⟩, hks, hone⟩ := h
  have hr := findG_no hik es.toList m 0 hm hks hx
  have hlt : g < w.heap.size := (Array.getElem?_eq_some_iff.1 hg).1
  refine ⟨{ w with heap := w.heap.setIfInBounds g (.map (es.push { key := x, val := v, born := clk }) (clk + 1)) }, ?_, ⟨?_, ?_, ?_⟩, ?_, by simp⟩
  · simp [Instr.mapUpdate, run_underlying ht, Go.MapKept.run_getObj_map hg, Go.MapKept.run_checkKey hk hik, Go.MapKept.run_findKey hk hr, Go.MapKept.run_setObj_map _ hg, Result.andThen]
  · refine ⟨_, _, (Go.MapKept.heap_set hg).1, ?_⟩
    simp [hm]
  · intro p hp
    rcases List.mem_append.1 hp with hp | hp
    · exact hks p hp
    · rw [List.mem_singleton] at hp
      subst hp
      exact hik
  · rw [List.pairwise_append]
    refine ⟨hone, by simp, fun a ha b hb => ?_⟩
    rw [List.mem_singleton] at hb
    subst hb
    exact hx a ha
  · exact ⟨rfl, rfl, rfl, by simp, fun i _ hi => (Go.MapKept.heap_set hg).2 i (fun e => hi (by rw [e]))⟩
theorem run_lookG_yes (ht : P.underlying t = some (.map kt e)) (hk : P.underlying kt = some d) (hik : Go.MapKept.IsKey d x) (h : MapG w g d m) (hx : (x, v) ∈ m) :
    (Instr.lookup t (.map (some g)) x true).run P w = .ok (.tuple #[v, .bool true]) w ∧ (Instr.lookup t (.map (some g)) x false).run P w = .ok v w := by
  obtain ⟨⟨es, clk, hg, hm⟩, hks, hone⟩ := h
  obtain ⟨j, hr⟩ := findG_yes hik es.toList m 0 hm hks hone hx
  constructor <;> simp [Instr.lookup, run_underlying ht, Go.MapKept.run_getObj_map hg, Go.MapKept.run_checkKey hk hik, Go.MapKept.run_findKey hk hr, Result.andThen]
theorem run_lookG_no (ht : P.underlying t = some (.map kt e)) (hk : P.underlying kt = some d) (hik : Go.MapKept.IsKey d x) {z : Value} (hz : (zeroValue e).run P w = .ok z w) (h : MapG w g d m) (hx : ∀ p ∈ m, p.1 ≠ x) :
    (Instr.lookup t (.map (some g)) x true).run P w = .ok (.tuple #[z, .bool false]) w ∧ (Instr.lookup t (.map (some g)) x false).run P w = .ok z w := by
  obtain ⟨⟨es, clk, hg, hm⟩, hks, hone⟩ := h
  have hr := findG_no hik es.toList m 0 hm hks hx
  constructor <;> simp [Instr.lookup, run_underlying ht, Go.MapKept.run_getObj_map hg, Go.MapKept.run_checkKey hk hik, Go.MapKept.run_findKey hk hr, hz, Result.andThen]
theorem MapG.nil (w : World) (d : TypeDesc) : MapG (w.alloc (.map #[] 0)) w.heap.size d [] := ⟨⟨#[], 0, heap_alloc_new _ _, rfl⟩, by simp, by simp⟩
theorem MapG.keep {w' : World} (h : MapG w g d m) (hk : w'.heap[g]? = w.heap[g]?) : MapG w' g d m := by
  obtain ⟨⟨es, clk, hg, hm⟩, hks, hone⟩ := h
  exact ⟨⟨es, clk, hk.trans hg, hm⟩, hks, hone⟩
theorem MapG.lt (h : MapG w g d m) : g < w.heap.size := by
  obtain ⟨⟨es, clk, hg, hm⟩, hks, hone⟩ := h
  exact (Array.getElem?_eq_some_iff.1 hg).1
theorem MapG.below {w' : World} {B : Nat} (h : MapG w g d m) (hb : Below B w w') (hg : g < B) : MapG w' g d m := h.keep (hb.block g hg)
theorem MapG.belowSz {w' : World} (h : MapG w g d m) (hb : Below w.heap.size w w') : MapG w' g d m := h.below hb h.lt

/-- 'm[x] = v' of a new key at the operation (a map literal). -/
theorem wpList_putG {ops : Array Oper} {rest : List Oper} {o : Oper} {a : Act} {Q : Exit → Act → World → Prop} (hgd : o.guard = none) (mo xo vo : Operand) (ho : o.op = .insert t mo xo vo)
    (ht : P.underlying t = some (.map kt e)) (hk : P.underlying kt = some d) (hik : Go.MapKept.IsKey d x) (hmo : a.eval mo = .map (some g)) (hxo : a.eval xo = x) (hvo : a.eval vo = v) (h : MapG w g d m) (hx : ∀ p ∈ m, p.1 ≠ x)
    (hK : ∀ w', MapG w' g d (m ++ [(x, v)]) → w.grownBy w' (some g) → w'.heap.size = w.heap.size → wpList P ops Q rest (a.put o.dst undef) w') : wpList P ops Q (o :: rest) a w := by
  obtain ⟨w', hrun, h1, h2, h3⟩ := run_putG (v := v) ht hk hik h hx
  refine wpList_plain hgd fun K hK' => ?_
  unfold Oper.wp
  simp [execOp, ho, hmo, hxo, hvo, hrun, Result.andThen]
  exact hK' _ _ (hK w' h1 h2 h3)
end
end Go.Proofs.YtlcdilgniimnlaaDoor
namespace Go.Proofs.YtlcdilgniimnlaaDoor
set_option linter.unusedVariables false
set_option linter.unusedSimpArgs false
open Go.RowKit

/-- Block g holds just these cells. -/
def Blk (w : World) (g : Nat) (t : TypeId) (l : List Value) : Prop := w.heap[g]? = some (.cells l.toArray t (0, 0))
section
variable {w w' : World} {g g' B i : Nat} {t : TypeId} {l : List Value} {u : Value}
theorem Blk.cell (h : Blk w g t l) (hi : l[i]? = some u) : w.cell? ⟨g, i, none⟩ = some u := by
  rw [cell_of_row _ _ _ _ _ _ h]
  simpa using hi
theorem Blk.free (h : Blk w g t l) (i : Nat) : w.frozen? ⟨g, i, none⟩ = false := frozen_of_row _ _ _ _ _ h
theorem Blk.set (h : Blk w g t l) (i : Nat) (u : Value) : Blk (w.setCell ⟨g, i, none⟩ u) g t (l.set i u) := by
  have h1 := heap_setCell_same _ _ i _ _ u h
  unfold Blk
  rw [h1]
  simp [List.setIfInBounds_toArray]
theorem Blk.below (h : Blk w g t l) (hb : Below B w w') (hg : g < B) : Blk w' g t l := (hb.block g hg).trans h
theorem Blk.lt (h : Blk w g t l) : g < w.heap.size := lt_of_block h
theorem Blk.belowSz (h : Blk w g t l) (hb : Below w.heap.size w w') : Blk w' g t l := h.below hb h.lt
theorem Blk.drewN (h : Blk w g t l) (k : Nat) : Blk (w.drewN k) g t l := h
theorem Blk.drew (h : Blk w g t l) : Blk w.drew g t l := h
theorem Blk.alloc (h : Blk w g t l) (o : Obj) : Blk (w.alloc o) g t l := h.belowSz ((Below.refl _ _).alloc (Nat.le_refl _) o)
theorem Blk.new (w : World) (t : TypeId) (l : List Value) : Blk (w.alloc (.cells l.toArray t)) w.heap.size t l := heap_alloc_new _ _
theorem Blk.other (h : Blk w g t l) {p : Addr} (hp : p.block ≠ g) (u : Value) : Blk (w.setCell p u) g t l := (heap_setCell_other _ _ _ _ hp.symm).trans h
end
end Go.Proofs.YtlcdilgniimnlaaDoor
namespace Go.Proofs.YtlcdilgniimnlaaDoor
set_option linter.unusedVariables false
set_option linter.unusedSimpArgs false
open Go.RowKit

def umap (k : Nat) : List (Value × Value) := (Ev.unsafeL.take k).map fun u => (Value.string u, Value.bool true)
structure UM (w0 : World) (g k : Nat) (w : World) : Prop where
  m : MapG w g .string (umap k)
  b : Below w0.heap.size w0 w
  lo : w0.heap.size ≤ g
theorem UM.start (w0 : World) : UM w0 w0.heap.size 0 (w0.alloc (.map #[] 0)) := ⟨MapG.nil _ _, (Below.refl _ _).alloc (Nat.le_refl _) _, Nat.le_refl _⟩
theorem wpList_unsPut {w0 w : World} {ops : Array Oper} {rest : List Oper} {o : Oper} {a : Act} {Q : Exit → Act → World → Prop} (g j : Nat) (key : ByteArray) (hF : UM w0 g j w) (hgd : o.guard = none) (mo xo vo : Operand) (ho : o.op = .insert 52 mo xo vo)
    (hmo : a.eval mo = .map (some g)) (hxo : a.eval xo = .string key) (hvo : a.eval vo = .bool true) (hkey : Ev.unsafeL[j]? = some key) (hne : ∀ u ∈ Ev.unsafeL.take j, u ≠ key)
    (hK : ∀ w', UM w0 g (j + 1) w' → wpList Tryd.prog ops Q rest (a.put o.dst undef) w') : wpList Tryd.prog ops Q (o :: rest) a w := by
  refine wpList_putG hgd mo xo vo ho Tryd.underlying52 Tryd.underlying9 (by simp [Go.MapKept.IsKey]) hmo hxo hvo hF.m ?_ ?_
  · intro p hp
    unfold umap at hp
    obtain ⟨u, hu, rfl⟩ := List.mem_map.1 hp
    intro e
    injection e with e
    exact hne u hu e
  · intro w' h1 h2 h3
    refine hK w' ⟨?_, hF.b.grown h2 hF.b.size (fun k hk => by injection hk with hk; have := hF.lo; omega), hF.lo⟩
    have : umap (j + 1) = umap j ++ [(Value.string key, Value.bool true)] := by
      unfold umap
      rw [List.take_add_one, hkey, List.map_append]
      rfl
    rw [this]
    exact h1

set_option maxRecDepth 100000 in
set_option maxHeartbeats 4000000 in
theorem unsafe_any (w : World) : Calls Tryd.prog 40 #[] w fun e w' => e = .returned (.map (some w.heap.size)) ∧ UM w w.heap.size 9 w' := by
  have hmm := @run_makeMap Tryd.prog
  have H0 := hide (UM.start w)
  go_enter Tryd.func40, Tryd.ntmps40
  go_wp2_with (first
    | ((with_reducible refine (@id (wpList _ _ _ (Oper.mk none (Op.insert _ (.tmp 1) (.const (Value.string ⟨#[76, 68, 95, 76, 73, 66, 82, 65, 82, 89, 95, 80, 65, 84, 72]⟩)) _) _ _ _ none :: _) _ _) ?_)); refine wpList_unsPut w.heap.size 0 (Ev.ba [76, 68, 95, 76, 73, 66, 82, 65, 82, 89, 95, 80, 65, 84, 72]) (unhide H0) rfl (.tmp 1) (.const (Value.string ⟨#[76, 68, 95, 76, 73, 66, 82, 65, 82, 89, 95, 80, 65, 84, 72]⟩)) (.const (.bool true)) rfl rfl rfl rfl rfl (by decide +kernel) ?_; intro w1 h1; have H1 := hide h1; clear h1 H0)
    | ((with_reducible refine (@id (wpList _ _ _ (Oper.mk none (Op.insert _ (.tmp 1) (.const (Value.string ⟨#[76, 68, 95, 80, 82, 69, 76, 79, 65, 68]⟩)) _) _ _ _ none :: _) _ _) ?_)); refine wpList_unsPut w.heap.size 1 (Ev.ba [76, 68, 95, 80, 82, 69, 76, 79, 65, 68]) (unhide H1) rfl (.tmp 1) (.const (Value.string ⟨#[76, 68, 95, 80, 82, 69, 76, 79, 65, 68]⟩)) (.const (.bool true)) rfl rfl rfl rfl rfl (by decide +kernel) ?_; intro w2 h2; have H2 := hide h2; clear h2 H1)
    | ((with_reducible refine (@id (wpList _ _ _ (Oper.mk none (Op.insert _ (.tmp 1) (.const (Value.string ⟨#[76, 68, 95, 65, 85, 68, 73, 84]⟩)) _) _ _ _ none :: _) _ _) ?_)); refine wpList_unsPut w.heap.size 2 (Ev.ba [76, 68, 95, 65, 85, 68, 73, 84]) (unhide H2) rfl (.tmp 1) (.const (Value.string ⟨#[76, 68, 95, 65, 85, 68, 73, 84]⟩)) (.const (.bool true)) rfl rfl rfl rfl rfl (by decide +kernel) ?_; intro w3 h3; have H3 := hide h3; clear h3 H2)
    | ((with_reducible refine (@id (wpList _ _ _ (Oper.mk none (Op.insert _ (.tmp 1) (.const (Value.string ⟨#[76, 68, 95, 68, 69, 66, 85, 71]⟩)) _) _ _ _ none :: _) _ _) ?_)); refine wpList_unsPut w.heap.size 3 (Ev.ba [76, 68, 95, 68, 69, 66, 85, 71]) (unhide H3) rfl (.tmp 1) (.const (Value.string ⟨#[76, 68, 95, 68, 69, 66, 85, 71]⟩)) (.const (.bool true)) rfl rfl rfl rfl rfl (by decide +kernel) ?_; intro w4 h4; have H4 := hide h4; clear h4 H3)
    | ((with_reducible refine (@id (wpList _ _ _ (Oper.mk none (Op.insert _ (.tmp 1) (.const (Value.string ⟨#[76, 68, 95, 79, 82, 73, 71, 73, 78, 95, 80, 65, 84, 72]⟩)) _) _ _ _ none :: _) _ _) ?_)); refine wpList_unsPut w.heap.size 4 (Ev.ba [76, 68, 95, 79, 82, 73, 71, 73, 78, 95, 80, 65, 84, 72]) (unhide H4) rfl (.tmp 1) (.const (Value.string ⟨#[76, 68, 95, 79, 82, 73, 71, 73, 78, 95, 80, 65, 84, 72]⟩)) (.const (.bool true)) rfl rfl rfl rfl rfl (by decide +kernel) ?_; intro w5 h5; have H5 := hide h5; clear h5 H4)
    | ((with_reducible refine (@id (wpList _ _ _ (Oper.mk none (Op.insert _ (.tmp 1) (.const (Value.string ⟨#[76, 68, 95, 80, 82, 79, 70, 73, 76, 69]⟩)) _) _ _ _ none :: _) _ _) ?_)); refine wpList_unsPut w.heap.size 5 (Ev.ba [76, 68, 95, 80, 82, 79, 70, 73, 76, 69]) (unhide H5) rfl (.tmp 1) (.const (Value.string ⟨#[76, 68, 95, 80, 82, 79, 70, 73, 76, 69]⟩)) (.const (.bool true)) rfl rfl rfl rfl rfl (by decide +kernel) ?_; intro w6 h6; have H6 := hide h6; clear h6 H5)
    | ((with_reducible refine (@id (wpList _ _ _ (Oper.mk none (Op.insert _ (.tmp 1) (.const (Value.string ⟨#[76, 68, 95, 85, 83, 69, 95, 76, 79, 65, 68, 95, 66, 73, 65, 83]⟩)) _) _ _ _ none :: _) _ _) ?_)); refine wpList_unsPut w.heap.size 6 (Ev.ba [76, 68, 95, 85, 83, 69, 95, 76, 79, 65, 68, 95, 66, 73, 65, 83]) (unhide H6) rfl (.tmp 1) (.const (Value.string ⟨#[76, 68, 95, 85, 83, 69, 95, 76, 79, 65, 68, 95, 66, 73, 65, 83]⟩)) (.const (.bool true)) rfl rfl rfl rfl rfl (by decide +kernel) ?_; intro w7 h7; have H7 := hide h7; clear h7 H6)
    | ((with_reducible refine (@id (wpList _ _ _ (Oper.mk none (Op.insert _ (.tmp 1) (.const (Value.string ⟨#[71, 67, 79, 78, 86, 95, 80, 65, 84, 72]⟩)) _) _ _ _ none :: _) _ _) ?_)); refine wpList_unsPut w.heap.size 7 (Ev.ba [71, 67, 79, 78, 86, 95, 80, 65, 84, 72]) (unhide H7) rfl (.tmp 1) (.const (Value.string ⟨#[71, 67, 79, 78, 86, 95, 80, 65, 84, 72]⟩)) (.const (.bool true)) rfl rfl rfl rfl rfl (by decide +kernel) ?_; intro w8 h8; have H8 := hide h8; clear h8 H7)
    | ((with_reducible refine (@id (wpList _ _ _ (Oper.mk none (Op.insert _ (.tmp 1) (.const (Value.string ⟨#[84, 77, 80, 68, 73, 82]⟩)) _) _ _ _ none :: _) _ _) ?_)); refine wpList_unsPut w.heap.size 8 (Ev.ba [84, 77, 80, 68, 73, 82]) (unhide H8) rfl (.tmp 1) (.const (Value.string ⟨#[84, 77, 80, 68, 73, 82]⟩)) (.const (.bool true)) rfl rfl rfl rfl rfl (by decide +kernel) ?_; intro w9 h9; have H9 := hide h9; clear h9 H8))
  go_ret
  exact ⟨rfl, unhide H9⟩

theorem scrub1_any (x : ByteArray) (g gm : Nat) (w : World) (hx : x.size ≤ maxLen) (hc : w.cell? ⟨g, 0, none⟩ = some (.map (some gm))) (hm : MapG w gm .string (umap 9)) :
    Calls Tryd.prog 41 #[.string x, .pointer (some ⟨g, 0, none⟩)] w fun e w' => e = .returned (.bool (Ev.bad x)) ∧ ∃ n, w' = w.drewN n := by
  have K := split_any x w hx
  unfold SplitEnd at K
  have hlook : ∀ n, (Instr.lookup 52 (.map (some gm)) (.string (Ev.nm x)) false).run Tryd.prog (w.drewN n) = .ok (.bool (Ev.bad x)) (w.drewN n) := by
    intro n
    have hmn : MapG (w.drewN n) gm .string (umap 9) := ⟨hm.there, hm.keys, hm.once⟩
    rw [Ev.bad_eq]
    cases hb : Ev.unsafeL.any fun u => decide (Ev.nm x = u) with
    | true =>
      obtain ⟨u, hu, he⟩ := List.any_eq_true.1 hb
      have he' : Ev.nm x = u := by simpa using he
      refine (run_lookG_yes (v := .bool true) Tryd.underlying52 Tryd.underlying9 (by simp [Go.MapKept.IsKey]) hmn ?_).2
      rw [he']
      exact List.mem_map.2 ⟨u, hu, rfl⟩
    | false =>
      refine (run_lookG_no (z := .bool false) Tryd.underlying52 Tryd.underlying9 (by simp [Go.MapKept.IsKey]) (by kernel_rfl) hmn ?_).2
      intro p hp e
      obtain ⟨u, hu, rfl⟩ := List.mem_map.1 hp
      injection e with e
      have := (List.any_eq_false.1 hb) u hu
      simp [e] at this
  obtain ⟨nm, hnm⟩ : ∃ nm, Ev.nm x = nm := ⟨_, rfl⟩
  obtain ⟨vl, hvl⟩ : ∃ vl, Ev.vl x = vl := ⟨_, rfl⟩
  obtain ⟨b, hb⟩ : ∃ b, Ev.is x = b := ⟨_, rfl⟩
  obtain ⟨bd, hbd⟩ : ∃ b, Ev.bad x = b := ⟨_, rfl⟩
  rw [hnm, hvl, hb] at K
  rw [hnm, hbd] at hlook
  rw [hbd]
  replace K := hide K
  have Hlook := hide hlook
  clear hnm hvl hb hbd hlook hm
  go_enter Tryd.func41, Tryd.ntmps41
  go_wp2_with fail
  refine (unhide K).mono ?_
  rintro e w1 ⟨rfl, n, rfl⟩
  have hc2 : (w.drewN n).cell? ⟨g, 0, none⟩ = some (.map (some gm)) := hc
  have hl2 := (unhide Hlook) n
  go_wp2_with fail
  go_ret
  exact ⟨rfl, n, rfl⟩
theorem callFunc_scrub1 (args : Array Value) (w : World) : (callFunc 41 args).run Tryd.prog w = .ok (.enter 41 args) w := by kernel_rfl

set_option maxRecDepth 100000 in
set_option maxHeartbeats 1000000 in
theorem scrub_any (A : Option Addr) (n c B : Nat) (l : List ByteArray) (w : World) (hl : Rd w B 1 A n (l.map Value.string)) (hB : B ≤ w.heap.size) (hs : ∀ x ∈ l, x.size ≤ maxLen) (hn : n ≤ 4294967296) :
    Calls Tryd.prog 21 #[.slice A n c] w (EnvE (Ev.scrub l) w) := by
  have K0 := hide (unsafe_any w)
  have Hl := hide hl
  have Hs := hide hs
  clear hl hs
  go_enter Tryd.func21, Tryd.ntmps21
  go_wp2_with fail
  refine (unhide K0).mono ?_
  rintro e w1 ⟨rfl, hu⟩
  have hbx : Below w1.heap.size w1 (w1.alloc (.cells #[.map (some w.heap.size)] 52)) := (Below.refl _ _).alloc (Nat.le_refl _) _
  have hm1 : MapG (w1.alloc (.cells #[.map (some w.heap.size)] 52)) w.heap.size .string (umap 9) := hu.m.belowSz hbx
  have hc1 : Blk (w1.alloc (.cells #[.map (some w.heap.size)] 52)) w1.heap.size 52 [.map (some w.heap.size)] := heap_alloc_new _ _
  have hbB := hu.b.trans (hbx.mono hu.b.size)
  have K1 := hide (clone_any A n c B l (w1.alloc (.cells #[.map (some w.heap.size)] 52)) ((unhide Hl).below (hbB.mono hB)) hn)
  have hml := hu.m.lt
  have Hm1 := hide hm1
  have Hc1 := hide hc1
  have HbB := hide hbB
  have hsz : (w1.alloc (.cells #[.map (some w.heap.size)] 52)).heap.size = w1.heap.size + 1 := by simp
  have Hsz := hide hsz
  clear hu hbx hm1 hc1 hbB K0 Hl hsz
  go_wp2_with fail
  refine (unhide K1).mono ?_
  rintro e w2 ⟨A1, c1, rfl, ho1, hb1⟩
  have hm2 := (unhide Hm1).belowSz hb1
  have hc2 := ((unhide Hc1).belowSz hb1).cell (i := 0) rfl
  have hob : ∀ k, (Value.slice A1 n c1).ownBlock = some k → w1.heap.size + 1 ≤ k := fun k hk => by have := (ho1.lt k hk).1; rw [unhide Hsz] at this; exact this
  have hobB : ∀ k, (Value.slice A1 n c1).ownBlock = some k → w.heap.size ≤ k := fun k hk => by have := hob k hk; omega
  have hb2 := (unhide HbB).trans (hb1.mono (unhide HbB).size)
  have K3 := delf_any 41 (.pointer (some ⟨w1.heap.size, 0, none⟩)) Ev.bad callFunc_scrub1 (fun w' => w'.cell? ⟨w1.heap.size, 0, none⟩ = some (.map (some w.heap.size)) ∧ MapG w' w.heap.size .string (umap 9)) A1 n c1 w.heap.size l w2 (own_base ho1 (unhide HbB).size) ⟨hc2, hm2⟩
    (fun wa wb ha hg => by
      have hlt := cell_lt ha.1
      refine ⟨?_, ha.2.keep (hg.block _ ha.2.lt (fun e => by have := hob _ e.symm; omega))⟩
      rw [← ha.1]
      exact cell_blk (hg.block _ hlt (fun e => by have := hob _ e.symm; simp at this; omega)) 0)
    (fun x w' hK hx => scrub1_any x _ _ w' hx hK.1 hK.2) (unhide Hs) hn
  replace K3 := hide K3
  have Hb2 := hide hb2
  have Hob := hide hobB
  clear hm2 hc2 hob hobB ho1 hb1 hb2 K1 Hm1 Hc1 HbB
  go_wp2_with fail
  refine (unhide K3).mono ?_
  rintro e w3 ⟨A3, c3, rfl, ho3, hg3⟩
  have Ho3 := hide ho3
  have Hb3 := hide ((unhide Hb2).grown hg3 (unhide Hb2).size (unhide Hob))
  clear ho3 hg3
  go_wp2_with fail
  go_ret
  exact ⟨A3, c3, rfl, unhide Ho3, unhide Hb3⟩
end Go.Proofs.YtlcdilgniimnlaaDoor
namespace Go.Proofs.YtlcdilgniimnlaaDoor
set_option linter.unusedVariables false
set_option linter.unusedSimpArgs false
open Go.RowKit

/-- A slice of texts from a place on, as the walk spells it. -/
theorem Rd.strFrom {w : World} {B n k : Nat} {A : Option Addr} {l : List ByteArray} (h : Rd w B 1 A n (l.map Value.string)) (hk : k ≤ n) : ∀ A', (A = none → A' = none) → (∀ b o, A = some ⟨b, o, none⟩ → A' = some ⟨b, o + k, none⟩ ∨ k = n) → Rd w B 1 A' (n - k) ((l.drop k).map Value.string) := by
  intro A' h1 h2
  have hln : l.length = n := by simpa using h.len1
  refine ⟨by simp; omega, ?_⟩
  by_cases hkn : k = n
  · left
    rw [List.drop_of_length_le (by omega)]
    rfl
  · rcases h.2 with h0 | ⟨b, o, e, hb, hc⟩
    · have : l = [] := by simpa using h0
      subst this
      simp at hln
      omega
    · rcases h2 b o e with h3 | h3
      · refine .inr ⟨b, o + k, h3, hb, fun j u hu => ?_⟩
        have := hc (k + j) u (by rw [List.getElem?_map, List.getElem?_drop] at hu; rw [List.getElem?_map]; exact hu)
        rw [← this]
        congr 2
        omega
      · exact absurd h3 hkn
theorem Rd.strMap {w : World} {B n n' k : Nat} {A : Option Addr} {l : List ByteArray} (h : Rd w B 1 A n (l.map Value.string)) (hk : n' + k = n) : Rd w B 1 (Option.map (fun x => x.add k) A) n' ((l.drop k).map Value.string) := by
  obtain rfl : n' = n - k := by omega
  refine h.strFrom (by omega) _ (fun e => by rw [e]; rfl) (fun b o e => .inl ?_)
  rw [e]
  show some (Addr.add ⟨b, o, none⟩ k) = _
  by_cases hz : k = 0
  · subst hz; rfl
  · simp [Addr.add, hz]
theorem zeroT_eq (s : ByteArray) : Cl.zeroT s = s.data.toList.contains 0 := rfl
theorem pair_bytes (name value : ByteArray) : name ++ (⟨#[61]⟩ : ByteArray) ++ value = Ev.pair name value := by
  refine ByteArray.ext ?_
  apply Array.toList_inj.1
  simp [Ev.pair, Ev.ba]

theorem strs_oneE (l : List ByteArray) : ∀ u ∈ l.map Value.string, u.oneCell' = true := by
  intro u hu
  obtain ⟨s, _, rfl⟩ := List.mem_map.1 hu
  rfl
def SetE (l : List ByteArray) (name value : ByteArray) (w : World) (e : Ending) (w' : World) : Prop :=
  (Ev.badSet name value = true ∧ e = .returned (.tuple #[.slice none 0 0, .int .i64 1]) ∧ w = w') ∨
  (Ev.badSet name value = false ∧ ∃ A' c' k, e = .returned (.tuple #[.slice A' k c', .int .i64 0]) ∧ k = (Ev.set l name value).length ∧ w'.ownsRow w.heap.size 9 1 (.slice A' k c') k ((Ev.set l name value).map Value.string) ∧ Below w.heap.size w w')

set_option maxRecDepth 100000 in
set_option maxHeartbeats 2000000 in
theorem set_bad (A : Option Addr) (n c : Nat) (l : List ByteArray) (name value : ByteArray) (w : World) (h : Ev.badSet name value = true) :
    Calls Tryd.prog 18 #[.slice A n c, .string name, .string value] w (SetE l name value w) := by
  have hfin : SetE l name value w (.returned (.tuple #[.slice none 0 0, .int .i64 1])) w := .inl ⟨h, rfl, rfl⟩
  have Hfin := hide hfin
  have k1 := fun w' => flipw (Tryd.strings_Contains_one name 61 w')
  rw [← Lib.contains_iff_indexByte] at k1
  have K2 := hide (fun w' => nought_any name w')
  have K3 := hide (fun w' => nought_any value w')
  unfold Ev.badSet at h
  simp only [Bool.or_eq_true, decide_eq_true_eq] at h
  have h' : name.size = 0 ∨ (name.size ≠ 0 ∧ name.data.toList.contains 61 = true) ∨ (name.size ≠ 0 ∧ name.data.toList.contains 61 = false ∧ Cl.zeroT name = true) ∨ (name.size ≠ 0 ∧ name.data.toList.contains 61 = false ∧ Cl.zeroT name = false ∧ Cl.zeroT value = true) := by
    by_cases a : name.size = 0
    · exact .inl a
    · right
      cases b : name.data.toList.contains 61 with
      | true => exact .inl ⟨a, rfl⟩
      | false =>
        right
        cases d : Cl.zeroT name with
        | true => exact .inl ⟨a, rfl, rfl⟩
        | false =>
          refine .inr ⟨a, rfl, rfl, ?_⟩
          rw [b, d] at h
          simpa [a] using h
  clear h hfin
  have hem := isEmpty_toList name
  rcases h' with a | ⟨a, b⟩ | ⟨a, b, d⟩ | ⟨a, b, d, f⟩
  · rw [decide_eq_true a] at hem
    have q2 : name.toList = [] := List.isEmpty_iff.1 hem
    clear a
    go_enter Tryd.func18, Tryd.ntmps18
    go_wp2_with fail
    go_ret2
    exact unhide Hfin
  all_goals
    rw [decide_eq_false a] at hem
    have q2 : ¬ name.toList = [] := by rw [← List.isEmpty_iff, hem]; simp
    rw [b] at k1
    replace k1 := hide k1
    clear a b
    go_enter Tryd.func18, Tryd.ntmps18
    go_wp2_with fail
    refine ((unhide k1) _).mono ?_
    rintro e w1 ⟨rfl, rfl⟩
  · go_wp2_with fail
    go_ret2
    exact unhide Hfin
  · rw [d] at K2
    clear d
    go_wp2_with fail
    refine ((unhide K2) _).mono ?_
    rintro e w1 ⟨rfl, rfl⟩
    go_wp2_with fail
    go_ret2
    exact unhide Hfin
  · rw [d] at K2
    rw [f] at K3
    clear d f
    go_wp2_with fail
    refine ((unhide K2) _).mono ?_
    rintro e w1 ⟨rfl, rfl⟩
    go_wp2_with fail
    refine ((unhide K3) _).mono ?_
    rintro e w1 ⟨rfl, rfl⟩
    go_wp2_with fail
    go_ret2
    exact unhide Hfin
end Go.Proofs.YtlcdilgniimnlaaDoor
namespace Go.Proofs.YtlcdilgniimnlaaDoor
open Go.RowKit
set_option maxRecDepth 100000 in
set_option maxHeartbeats 4000000 in
theorem set_good (A : Option Addr) (n c B : Nat) (l : List ByteArray) (name value : ByteArray) (w : World) (hl : Rd w B 1 A n (l.map Value.string)) (hB : B ≤ w.heap.size) (hs : ∀ x ∈ l, x.size ≤ maxLen) (hn : n ≤ 1000000000) (hnc : n ≤ c) (hns : name.size ≤ 4294967296) (hvs : value.size ≤ 4294967296) (h : Ev.badSet name value = false) :
    Calls Tryd.prog 18 #[.slice A n c, .string name, .string value] w (SetE l name value w) := by
  have hln : l.length = n := by simpa using hl.len1
  have k1 := fun w' => flipw (Tryd.strings_Contains_one name 61 w')
  rw [← Lib.contains_iff_indexByte] at k1
  have k2 := fun w' => nought_any name w'
  have k3 := fun w' => nought_any value w'
  have hbs := h
  unfold Ev.badSet at h
  simp only [Bool.or_eq_false_iff, decide_eq_false_iff_not] at h
  obtain ⟨⟨⟨a, b⟩, d⟩, f⟩ := h
  rw [b] at k1
  rw [d] at k2
  rw [f] at k3
  have hem := isEmpty_toList name
  rw [decide_eq_false a] at hem
  have q2 : ¬ name.toList = [] := by rw [← List.isEmpty_iff, hem]; simp
  have K1 := hide k1
  have K2 := hide k2
  have K3 := hide k3
  have K4 := hide (of_any name w)
  have hbx : Below w.heap.size w (w.alloc (.cells #[.string name] 9)) := (Below.refl _ _).alloc (Nat.le_refl _) _
  have hcell : (w.alloc (.cells #[.string name] 9)).cell? ⟨w.heap.size, 0, none⟩ = some (.string name) := cell_of_row _ _ _ _ _ _ (heap_alloc_new _ _)
  have K5 := hide (idxf_any 44 (.pointer (some ⟨w.heap.size, 0, none⟩)) (Ev.named name) callFunc_of1 A n c B l (w.alloc (.cells #[.string name] 9))
    (fun x j hx => of1_any name x _ _ hx hcell) (hl.below (hbx.mono hB)) hs (by unfold maxLen; omega))
  have hno : l.any (Ev.named name) = false → n = Ev.at_ l name := by
    intro h
    have : l.findIdx (Ev.named name) = l.length := List.findIdx_eq_length.2 (fun x hx => by have := (List.any_eq_false.1 h) x hx; simpa using this)
    unfold Ev.at_
    omega
  have Hl := hide (hl.below (hbx.mono hB))
  have Hs := hide hs
  have Hb := hide hbx
  have Hln := hide hln
  have Hno := hide hno
  have Hbs := hide hbs
  have hat := Ev.at_le l name
  rw [hln] at hat
  obtain ⟨k, hk⟩ : ∃ k, Ev.at_ l name = k := ⟨_, rfl⟩
  have hfi : l.findIdx (Ev.named name) = k := hk
  have hse : Ev.set l name value = l.take k ++ Ev.pair name value :: Ev.unset (l.drop k) name := by unfold Ev.set; rw [hk]
  have hse1 : Ev.unset (l.take k) name = l.take k := by rw [← hk]; exact Ev.unset_self (Ev.take_at l name)
  rw [hk] at hat
  have Hk := hide hk
  have Hfi := hide hfi
  have Hse := hide (And.intro hse hse1)
  have hzn : ¬ ((n : Int) < 0) := by omega
  clear hl hs hbx hcell hln hno hbs k1 k2 k3 a b d f hk hse hse1 hfi
  go_enter Tryd.func18, Tryd.ntmps18
  go_wp2_with fail
  refine ((unhide K1) _).mono ?_
  rintro e w1 ⟨rfl, rfl⟩
  go_wp2_with fail
  refine ((unhide K2) _).mono ?_
  rintro e w1 ⟨rfl, rfl⟩
  go_wp2_with fail
  refine ((unhide K3) _).mono ?_
  rintro e w1 ⟨rfl, rfl⟩
  go_wp2_with fail
  refine (unhide K4).mono ?_
  rintro e w1 ⟨rfl, rfl⟩
  clear K1 K2 K3 K4
  go_wp2_with fail
  refine (unhide K5).mono ?_
  rintro e w1 ⟨r, rfl, hr, q, rfl⟩
  have hr2 : (r = -1 ∧ k = n) ∨ (r = (k : Int) ∧ k < n) := by
    rcases hr with ⟨h1, h2⟩ | ⟨k', h1, h2, h3⟩
    · exact .inl ⟨h2, ((unhide Hno) h1).trans (unhide Hk) |>.symm⟩
    · have := (unhide Hfi)
      rw [← h2] at this
      subst this
      exact .inr ⟨h1, by rw [← unhide Hln]; exact h3⟩
  have Hl2 := hide ((unhide Hl).drewN q)
  have Hb2 := hide (below_drewN' (unhide Hb) q)
  clear hr K5 Hl Hb Hno Hfi Hk
  generalize (w.alloc (.cells #[.string name] 9)).drewN q = W at *
  have hcutA := (unhide Hl2).cutN (k := k) (by omega)
  rw [← List.map_take] at hcutA
  have htl : (l.take k).length = k := by rw [List.length_take, unhide Hln]; omega
  have KU : ∀ c' : Nat, Calls Tryd.prog 20 #[.slice A k c', .string name] W fun e w' => ∃ A' c2, e = .returned (.slice A' k c2) ∧ w'.ownsRow W.heap.size 9 1 (.slice A' k c2) k ((l.take k).map Value.string) ∧ Below W.heap.size W w' := by
    intro c'
    have h := unset_any A k c' B (l.take k) name W hcutA (fun x hx => (unhide Hs) x (List.mem_of_mem_take hx)) (by omega)
    rw [(unhide Hse).2] at h
    unfold EnvE at h
    rw [htl] at h
    exact h
  replace KU := hide KU
  have hkc : k ≤ c := by omega
  clear hcutA htl
  have hpb := pair_bytes name value
  have Hpb := hide hpb
  clear hpb
  have hr3 : (r = -1 ∧ k = n ∧ c = k) ∨ (r = -1 ∧ k = n ∧ ¬ c = k) ∨ (r = (k : Int) ∧ k < n ∧ ¬ c = k) := by
    by_cases hck : c = k
    · rcases hr2 with ⟨h1, h2⟩ | ⟨h1, h2⟩
      · exact .inl ⟨h1, h2, hck⟩
      · omega
    · rcases hr2 with ⟨h1, h2⟩ | ⟨h1, h2⟩
      · exact .inr (.inl ⟨h1, h2, hck⟩)
      · exact .inr (.inr ⟨h1, h2, hck⟩)
  clear hr2
  rcases hr3 with ⟨rfl, rfl, hck⟩ | ⟨rfl, rfl, hck⟩ | ⟨rfl, hkn, hck⟩
  all_goals
    go_wp2_with fail
    refine ((unhide KU) _).mono ?_
    rintro e w2 ⟨A2, c2, rfl, ho2, hb2⟩
    have Ho2 := hide ho2
    have Hb3 := hide ((unhide Hb2).trans (hb2.mono (unhide Hb2).size))
    have Hl3 := hide ((unhide Hl2).below (hb2.mono (Nat.le_trans hB (unhide Hb2).size)))
    have hs2 := hb2.size
    have hs1 := (unhide Hb2).size
    clear ho2 hb2 KU Hl2
    have hck2 : Ev.pair name value = name ++ (⟨#[61]⟩ : ByteArray) ++ value := (unhide Hpb).symm
    have Hck2 := hide hck2
    clear hck2
    go_wp2_with (at_builtin; refine wpList_app1 strTy rfl _ _ rfl W.heap.size (.slice A2 k c2) k _ rfl (unhide Ho2) _ rfl rfl (by simp [Value.oneCell']) (by omega) (by omega) ?_; intro A3 c3 w3 ho3 hg3 hat3; have Ho3 := hide ho3; have Hg3 := hide hg3; clear ho3 hg3 hat3)
    have hb3 : Below w.heap.size w w3 := (unhide Hb3).grown (unhide Hg3) (unhide Hb3).size (fun k' hk' => by have := ((unhide Ho2).lt k' hk').1; omega)
    have hl4 := (unhide Hl3).keep (w' := w3) (fun p hp => by
      obtain ⟨pb, po, ps⟩ := p
      have hpb : pb < B := hp
      have : w3.heap[pb]? = w2.heap[pb]? := (unhide Hg3).block pb (by omega) (fun e => by have := ((unhide Ho2).lt pb e.symm).1; omega)
      unfold World.cell?
      simp only [this])
    have KV : ∀ (A' : Option Addr) (n' c' : Nat), n' + k = l.length → (A' = Option.map (fun x => x.add k) A ∨ n' = 0) → Calls Tryd.prog 20 #[.slice A' n' c', .string name] w3 (EnvE (Ev.unset (l.drop k) name) w3) := by
      intro A' n' c' e1 e2
      refine unset_any A' n' c' B (l.drop k) name w3 ?_ (fun x hx => (unhide Hs) x (List.mem_of_mem_drop hx)) (by have := unhide Hln; omega)
      rcases e2 with rfl | e2
      · exact hl4.strMap (by have := unhide Hln; omega)
      · subst e2
        have : l.drop k = [] := List.drop_of_length_le (by have := unhide Hln; omega)
        rw [this]
        exact Rd.none_ _ _ _ _
    have ho3 := unhide Ho3
    have hs3 := hb3.size
    have HB3 := hide hb3
    have hs13 : W.heap.size ≤ w3.heap.size := by have := (unhide Hg3).size; omega
    have hob : ∀ k', (Value.slice A3 (k + 1) c3).ownBlock = some k' → w.heap.size ≤ k' := fun k' hk' => by have := (ho3.lt k' hk').1; omega
    have Hob := hide hob
    have HO3 := hide ho3
    have HKV := hide KV
    have hul : (Ev.unset (l.drop k) name).length ≤ 1000000000 := by
      have h1 := List.length_filter_le (fun s => !Ev.named name s) (l.drop k)
      have h2 : (l.drop k).length ≤ l.length := by rw [List.length_drop]; omega
      have h3 := unhide Hln
      unfold Ev.unset
      omega
    obtain ⟨ul, hule⟩ : ∃ ul, Ev.unset (l.drop k) name = ul := ⟨_, rfl⟩
    rw [hule] at hul
    have Hule := hide hule
    clear hl4 Hl3 Hg3 Ho3 hb3 ho3 hob Ho2 KV hule
    refine ((unhide HKV) _ _ _ (by have := unhide Hln; omega) (by first | exact .inl rfl | exact .inr rfl)).mono ?_
    rw [unhide Hule]
    rintro e w4 ⟨A4, c4, rfl, ho4, hb4⟩
    have Ho4 := hide ho4
    have Hb4 := hide hb4
    clear ho4 hb4 HKV
    go_wp2_with (at_builtin; refine wpList_app strTy rfl _ _ rfl W.heap.size (.slice A3 (k + 1) c3) (k + 1) _ rfl (own_below (unhide HO3) (unhide Hb4)) w4.heap.size A4 ul.length c4 _ rfl (Rd.of_own (unhide Ho4)) (strs_oneE _) (by omega) (by have := (unhide Hb4).size; omega) ?_; intro A5 c5 w5 ho5 hg5 hat5; have Ho5 := hide ho5; have Hg5 := hide hg5; clear ho5 hg5 hat5)
    go_ret2
    have hb5 := ((unhide HB3).trans ((unhide Hb4).mono hs3)).grown (unhide Hg5) ((unhide HB3).trans ((unhide Hb4).mono hs3)).size (unhide Hob)
    have ho5 := own_base (unhide Ho5) hs1
    refine .inr ⟨unhide Hbs, A5, c5, k + 1 + ul.length, rfl, ?_, ?_, hb5⟩
    · rw [(unhide Hse).1, unhide Hule, List.length_append, List.length_take, unhide Hln, List.length_cons]
      omega
    · rw [(unhide Hse).1, unhide Hule, unhide Hck2]
      have e : (l.take k ++ (name ++ (⟨#[61]⟩ : ByteArray) ++ value) :: ul).map Value.string = (l.take k).map Value.string ++ [Value.string (name ++ (⟨#[61]⟩ : ByteArray) ++ value)] ++ ul.map Value.string := by simp
      rw [e]
      exact ho5
end Go.Proofs.YtlcdilgniimnlaaDoor
namespace Go.Proofs.YtlcdilgniimnlaaDoor
set_option linter.unusedVariables false
set_option linter.unusedSimpArgs false
open Go.RowKit

theorem ib_first {l : List UInt8} {c : UInt8} {k : Nat} (hk : l[k]? = some c) (hno : (l.take k).contains c = false) : Lib.indexByte l c = k := by
  have hge := Lib.indexByte_ge l c
  have hno' : ∀ j, j < k → l[j]? ≠ some c := by
    intro j hj e
    have hm : c ∈ l.take k := List.mem_iff_getElem?.2 ⟨j, by rw [List.getElem?_take_of_lt hj]; exact e⟩
    rw [← List.contains_iff_mem, hno] at hm
    cases hm
  by_cases h : Lib.indexByte l c = -1
  · exact absurd hk (Lib.indexByte_none h k)
  · obtain ⟨o, ho⟩ := Int.eq_ofNat_of_zero_le (show 0 ≤ Lib.indexByte l c by omega)
    obtain ⟨h1, h2⟩ := Lib.indexByte_some ho
    rw [ho]
    rcases Nat.lt_trichotomy o k with h3 | h3 | h3
    · exact absurd h1 (hno' o h3)
    · rw [h3]
    · exact absurd hk (h2 k h3)
theorem ib_none {l : List UInt8} {c : UInt8} (hno : l.contains c = false) : Lib.indexByte l c = -1 := by
  have hge := Lib.indexByte_ge l c
  by_cases h : Lib.indexByte l c = -1
  · exact h
  · obtain ⟨o, ho⟩ := Int.eq_ofNat_of_zero_le (show 0 ≤ Lib.indexByte l c by omega)
    have hm := List.mem_of_getElem? (Lib.indexByte_some ho).1
    rw [← List.contains_iff_mem, hno] at hm
    cases hm

set_option maxHeartbeats 1000000 in
theorem rhas61_any (s : ByteArray) (w : World) (hs : s.size ≤ maxLen) : Calls Tryd.prog 36 #[.string s, .int .u8 61] w fun e w' => e = .returned (.bool (s.data.toList.contains 61)) ∧ w = w' := by
  unfold maxLen at hs
  obtain ⟨r, hr⟩ : ∃ r, s.data.toList.contains 61 = r := ⟨_, rfl⟩
  rw [hr]
  have Hr := hide hr
  clear hr
  go_enter Tryd.func36, Tryd.ntmps36
  go_wp2_with fail
  go_loopg [5] s.size (fun gk i wr => ∃ k : Nat, gk = s.size - k ∧ k ≤ s.size ∧ i = .int .i64 k ∧ (s.data.toList.take k).contains 61 = false ∧ w = wr)
  case atStart => exact ⟨0, by omega, by omega, rfl, by simp, rfl⟩
  case round =>
    obtain ⟨k, hgk, hk, rfl, hz, rfl⟩ := hrel
    have Hz := hide hz
    have Hgk := hide hgk
    clear hz hgk
    by_cases hlt : k < s.size
    · by_cases hc : s[k] = 61
      · have b2 : (((s[k].toNat : Nat) : Int) == 61) = true := by rw [byte_61]; simpa using hc
        have hm : s.data.toList.contains 61 = true := by
          rw [List.contains_iff_mem, ← hc]
          exact Array.getElem_mem_toList _
        rw [unhide Hr] at hm
        subst hm
        clear hc
        go_wp2
        go_ret
        exact ⟨rfl, rfl⟩
      · have b2 : (((s[k].toNat : Nat) : Int) == 61) = false := by rw [byte_61]; simpa using hc
        have hz : (s.data.toList.take (k + 1)).contains 61 = false := by
          rw [List.take_succ_eq_append_getElem (by simpa using hlt), List.contains_append, unhide Hz]
          simp only [Bool.false_or]
          exact by simpa using fun h => hc h.symm
        have Hz2 := hide hz
        clear hz hc
        go_wp2
        go_roundg (s.size - (k + 1))
        case measure => have := unhide Hgk; omega
        case rel => exact ⟨k + 1, rfl, by omega, by go_num, unhide Hz2, rfl⟩
    · have hz : s.data.toList.contains 61 = false := by
        have := unhide Hz
        rwa [List.take_of_length_le (by simp; omega)] at this
      rw [unhide Hr] at hz
      subst hz
      go_wp2
      go_ret
      exact ⟨rfl, rfl⟩

set_option maxHeartbeats 1000000 in
theorem rsplit_any (s : ByteArray) (w : World) (hs : s.size ≤ maxLen) : Calls Tryd.prog 12 #[.string s] w (SplitEnd s w) := by
  unfold maxLen at hs
  unfold SplitEnd
  have hsl : s.data.toList.length = s.size := by simp
  have Hsl := hide hsl
  clear hsl
  go_enter Tryd.func12, Tryd.ntmps12
  go_wp2_with fail
  go_loopg [5] s.size (fun gk i wr => ∃ k : Nat, gk = s.size - k ∧ k ≤ s.size ∧ i = .int .i64 k ∧ (s.data.toList.take k).contains 61 = false ∧ w = wr)
  case atStart => exact ⟨0, by omega, by omega, rfl, by simp, rfl⟩
  case round =>
    obtain ⟨k, hgk, hk, rfl, hz, rfl⟩ := hrel
    have Hz := hide hz
    have Hgk := hide hgk
    clear hz hgk
    by_cases hlt : k < s.size
    · by_cases hc : s[k] = 61
      · have b2 : (((s[k].toNat : Nat) : Int) == 61) = true := by rw [byte_61]; simpa using hc
        have hat : s.data.toList[k]? = some 61 := by
          rw [List.getElem?_eq_getElem (by rw [unhide Hsl]; exact hlt), ← hc]
          rfl
        have hix : Ev.ix s = k := ib_first hat (unhide Hz)
        by_cases hk0 : k = 0
        · subst hk0
          have hn : Ev.is s = false := by unfold Ev.is; rw [hix]; rfl
          have e1 : Ev.nm s = Ev.ba [] := by unfold Ev.nm; rw [hn]; rfl
          have e2 : Ev.vl s = Ev.ba [] := by unfold Ev.vl; rw [hn]; rfl
          have E := hide (And.intro hn (And.intro e1 e2))
          clear hc hat hix hn e1 e2
          go_wp2
          go_ret3
          rw [(unhide E).1, (unhide E).2.1, (unhide E).2.2]
          exact ⟨rfl, 0, rfl⟩
        · have hn : Ev.is s = true := by unfold Ev.is; rw [hix]; simp; omega
          have e1 : Ev.nm s = s.extract 0 k := by unfold Ev.nm; rw [hn, hix, extract_ba]; simp
          have e2 : Ev.vl s = s.extract (k + 1) s.size := by unfold Ev.vl; rw [hn, hix, extract_ba, List.take_of_length_le (by simp)]; simp
          have E := hide (And.intro hn (And.intro e1 e2))
          have k0 : ((k : Int) == 0) = false := by simpa using hk0
          have h1 : ((k : Nat) : Int) + 1 ≤ (s.size : Int) := by omega
          have h2 : ((k : Nat) : Int) ≤ (s.size : Int) := by omega
          have hw1 : IntKind.i64.wrap ((k : Int) + 1) = (k : Int) + 1 := IntWalk.i64_in _ (by omega)
          clear hc hat hix hn e1 e2 hk0
          go_wp2
          go_quiet (fail)
          go_wp2
          go_ret3
          refine ⟨?_, nq, rfl⟩
          rw [(unhide E).1, (unhide E).2.1, (unhide E).2.2]
          rfl
      · have b2 : (((s[k].toNat : Nat) : Int) == 61) = false := by rw [byte_61]; simpa using hc
        have hz : (s.data.toList.take (k + 1)).contains 61 = false := by
          rw [List.take_succ_eq_append_getElem (by simpa using hlt), List.contains_append, unhide Hz]
          simp only [Bool.false_or]
          exact by simpa using fun h => hc h.symm
        have Hz2 := hide hz
        clear hz hc
        go_wp2
        go_roundg (s.size - (k + 1))
        case measure => have := unhide Hgk; omega
        case rel => exact ⟨k + 1, rfl, by omega, by go_num, unhide Hz2, rfl⟩
    · have hz : s.data.toList.contains 61 = false := by
        have := unhide Hz
        rwa [List.take_of_length_le (by simp; omega)] at this
      have hix : Ev.ix s = -1 := ib_none hz
      have hn : Ev.is s = false := by unfold Ev.is; rw [hix]; rfl
      have e1 : Ev.nm s = Ev.ba [] := by unfold Ev.nm; rw [hn]; rfl
      have e2 : Ev.vl s = Ev.ba [] := by unfold Ev.vl; rw [hn]; rfl
      have E := hide (And.intro hn (And.intro e1 e2))
      clear hz hix hn e1 e2
      go_wp2
      go_ret3
      rw [(unhide E).1, (unhide E).2.1, (unhide E).2.2]
      exact ⟨rfl, 0, rfl⟩
theorem rnamed_any (x name : ByteArray) (w : World) (hx : x.size ≤ maxLen) : Calls Tryd.prog 32 #[.string x, .string name] w fun e w' => e = .returned (.bool (Ev.named name x)) ∧ ∃ n, w' = w.drewN n := by
  have K := rsplit_any x w hx
  unfold Ev.named
  rw [show decide (Ev.nm x = name) = ((Ev.nm x).toList == name.toList) from (beq_toList _ _).symm]
  unfold SplitEnd at K
  obtain ⟨nm, hnm⟩ : ∃ nm, Ev.nm x = nm := ⟨_, rfl⟩
  obtain ⟨b, hb⟩ : ∃ b, Ev.is x = b := ⟨_, rfl⟩
  rw [hnm, hb] at K
  rw [hnm, hb]
  replace K := hide K
  clear hnm hb
  cases b
  · go_enter Tryd.func32, Tryd.ntmps32
    go_wp2_with fail
    refine (unhide K).mono ?_
    rintro e w1 ⟨rfl, n, rfl⟩
    go_wp2_with fail
    go_ret
    exact ⟨rfl, n, rfl⟩
  · cases hq : (nm.toList == name.toList)
    all_goals
      go_enter Tryd.func32, Tryd.ntmps32
      go_wp2_with fail
      refine (unhide K).mono ?_
      rintro e w1 ⟨rfl, n, rfl⟩
      go_wp2_with fail
      go_ret
      exact ⟨rfl, n, rfl⟩
end Go.Proofs.YtlcdilgniimnlaaDoor
namespace Go.Proofs.YtlcdilgniimnlaaDoor
set_option linter.unusedVariables false
set_option linter.unusedSimpArgs false
open Go.RowKit

set_option maxHeartbeats 1000000 in
theorem rget_any (A : Option Addr) (n c B : Nat) (l : List ByteArray) (name : ByteArray) (w : World) (hl : Rd w B 1 A n (l.map Value.string)) (hs : ∀ x ∈ l, x.size ≤ maxLen) (hn : n ≤ 4294967296) :
    Calls Tryd.prog 14 #[.slice A n c, .string name] w fun e w' => e = .returned (.tuple #[.string (Ev.get l name).1, .bool (Ev.get l name).2]) ∧ ∃ q, w' = w.drewN q := by
  have hln : l.length = n := by simpa using hl.len1
  have hno : l.any (Ev.named name) = false → Ev.get l name = (Ev.ba [], false) := by
    intro h
    unfold Ev.get
    have : l.find? (Ev.named name) = none := by rw [List.find?_eq_none]; intro x hx; have := (List.any_eq_false.1 h) x hx; simpa using this
    rw [this]
  have hyes : ∀ k x, l[k]? = some x → Ev.named name x = true → (l.take k).any (Ev.named name) = false → Ev.get l name = (Ev.vl x, true) := by
    intro k x hx hp hno
    have h1 := (findIdx_first hx hp hno).1
    unfold Ev.get
    rw [Ev.find_at]
    unfold Ev.at_
    rw [← h1, hx]
  obtain ⟨⟨gv, gb⟩, hg⟩ : ∃ r, Ev.get l name = r := ⟨_, rfl⟩
  rw [hg] at hno hyes ⊢
  have Hl := hide hl
  have Hln := hide hln
  have Hs := hide hs
  have Hno := hide hno
  have Hyes := hide hyes
  clear hl hln hs hno hyes hg
  go_enter Tryd.func14, Tryd.ntmps14
  go_wp2_with fail
  go_loopg [6] n (fun gk i wr => ∃ k : Nat, gk = n - k ∧ k ≤ n ∧ i = .int .i64 k ∧ (l.take k).any (Ev.named name) = false ∧ ∃ q, wr = w.drewN q)
  case atStart => exact ⟨0, by omega, Nat.zero_le _, rfl, rfl, 0, rfl⟩
  case round =>
    obtain ⟨k, hgk, hk, rfl, hz, q, rfl⟩ := hrel
    have Hgk := hide hgk
    have Hz := hide hz
    clear hgk hz
    by_cases hlt : k < n
    · obtain ⟨x, hx⟩ : ∃ x, l[k]? = some x := ⟨_, List.getElem?_eq_getElem (by rw [unhide Hln]; exact hlt)⟩
      obtain ⟨b1, o1, rfl, _, c1⟩ := ((unhide Hl).drewN q).at_ (k := k) (u := .string x) (by simp [hx])
      have hxs := (unhide Hs) _ (List.mem_of_getElem? hx)
      have hc := rnamed_any x name (w.drewN q) hxs
      cases hp : Ev.named name x
      · have hno2 : (l.take (k + 1)).any (Ev.named name) = false := by rw [List.take_add_one, hx]; simp [unhide Hz, hp]
        rw [hp] at hc
        have Hc := hide hc
        have Hno2 := hide hno2
        clear hc hno2 hp hx
        go_wp2_with fail
        refine (unhide Hc).mono ?_
        rintro e w1 ⟨rfl, q2, rfl⟩
        go_wp2_with fail
        go_roundg (n - (k + 1))
        case measure => have := unhide Hgk; omega
        case rel => exact ⟨k + 1, rfl, by omega, by go_num, unhide Hno2, q + q2, by simp⟩
      · have he := (unhide Hyes) k x hx hp (unhide Hz)
        injection he with e1 e2
        subst e1 e2
        rw [hp] at hc
        have Hc := hide hc
        have Hsp := hide (fun w => rsplit_any x w hxs)
        clear hc hp hx
        go_wp2_with fail
        refine (unhide Hc).mono ?_
        rintro e w1 ⟨rfl, q2, rfl⟩
        have c2 : (w.drewN (q + q2)).cell? ⟨b1, o1 + k, none⟩ = some (.string x) := c1
        go_wp2_with fail
        refine ((unhide Hsp) _).mono ?_
        rintro e w1 ⟨rfl, q3, rfl⟩
        go_wp2_with fail
        go_ret2
        exact ⟨rfl, q + q2 + q3, by simp⟩
    · have hno2 : l.any (Ev.named name) = false := by
        have := unhide Hz
        rwa [List.take_of_length_le (by have := unhide Hln; omega)] at this
      have he := (unhide Hno) hno2
      injection he with e1 e2
      subst e1 e2
      clear hno2
      go_wp2_with fail
      go_ret2
      exact ⟨rfl, q, rfl⟩

theorem unset_snoc {l : List ByteArray} {name x : ByteArray} {k : Nat} (hx : l[k]? = some x) : Ev.unset (l.take (k + 1)) name = if Ev.named name x then Ev.unset (l.take k) name else Ev.unset (l.take k) name ++ [x] := by
  rw [List.take_add_one, hx, Ev.unset_app]
  cases h : Ev.named name x <;> simp [Ev.unset, h]

set_option maxRecDepth 100000 in
set_option maxHeartbeats 2000000 in
theorem runset_any (A : Option Addr) (n c B : Nat) (l : List ByteArray) (name : ByteArray) (w : World) (hl : Rd w B 1 A n (l.map Value.string)) (hB : B ≤ w.heap.size) (hs : ∀ x ∈ l, x.size ≤ maxLen) (hn : n ≤ 4294967296) :
    Calls Tryd.prog 23 #[.slice A n c, .string name] w (EnvE (Ev.unset l name) w) := by
  have hln : l.length = n := by simpa using hl.len1
  have Hl := hide hl
  have Hln := hide hln
  have Hs := hide hs
  clear hl hln hs
  go_enter Tryd.func23, Tryd.ntmps23
  go_wp2_with fail
  go_loopg [5, 6] n (fun gk o i wr => ∃ (k m : Nat) (A' : Option Addr) (c' : Nat), gk = n - k ∧ k ≤ n ∧ i = .int .i64 k ∧ o = .slice A' m c' ∧ m ≤ k ∧ m = (Ev.unset (l.take k) name).length ∧ wr.ownsRow w.heap.size 9 1 (.slice A' m c') m ((Ev.unset (l.take k) name).map Value.string) ∧ Below w.heap.size w wr)
  case atStart => exact ⟨0, 0, none, 0, by omega, Nat.zero_le _, rfl, rfl, by omega, rfl, World.ownsRow_nil _ _ _ _, Below.refl _ _⟩
  case round =>
    obtain ⟨k, m, A', c', hgk, hk, rfl, rfl, hmk, hm, ho, hb⟩ := hrel
    have Hgk := hide hgk
    have Hm := hide hm
    have Ho := hide ho
    have Hb := hide hb
    have hwr := hb.size
    clear hgk hm ho hb
    by_cases hlt : k < n
    · obtain ⟨x, hx⟩ : ∃ x, l[k]? = some x := ⟨_, List.getElem?_eq_getElem (by rw [unhide Hln]; exact hlt)⟩
      obtain ⟨b1, o1, rfl, hb1, c1⟩ := ((unhide Hl).below ((unhide Hb).mono hB)).at_ (k := k) (u := .string x) (by simp [hx])
      have hxs := (unhide Hs) _ (List.mem_of_getElem? hx)
      have hc := rnamed_any x name wr hxs
      have hsn := unset_snoc (name := name) hx
      cases hp : Ev.named name x
      · rw [hp] at hc hsn
        simp only [Bool.false_eq_true, if_false] at hsn
        have Hc := hide hc
        have Hsn := hide hsn
        clear hc hp hx hsn
        go_wp2_with fail
        refine (unhide Hc).mono ?_
        rintro e w1 ⟨rfl, q2, rfl⟩
        have c2 : (wr.drewN q2).cell? ⟨b1, o1 + k, none⟩ = some (.string x) := c1
        go_wp2_with (at_builtin; refine wpList_app1 strTy rfl _ _ rfl w.heap.size (.slice A' m c') m _ rfl (own_drewN (unhide Ho) q2) _ rfl rfl (by simp [Value.oneCell']) (by omega) hwr ?_; intro A3 c3 w3 ho3 hg3 hat3; have hb3 := (below_drewN' (unhide Hb) q2).grown hg3 hwr (fun k' hk' => ((unhide Ho).lt k' hk').1); have Ho3 := hide ho3; have Hb3 := hide hb3; clear ho3 hg3 hat3 hb3)
        go_roundg (n - (k + 1))
        case measure => have := unhide Hgk; omega
        case rel => exact ⟨k + 1, m + 1, A3, c3, rfl, by omega, by go_num, rfl, by omega, by rw [unhide Hsn, List.length_append, ← unhide Hm]; rfl, by rw [unhide Hsn, List.map_append]; exact unhide Ho3, unhide Hb3⟩
      · rw [hp] at hc hsn
        simp only [if_true] at hsn
        have Hc := hide hc
        have Hsn := hide hsn
        clear hc hp hx hsn
        go_wp2_with fail
        refine (unhide Hc).mono ?_
        rintro e w1 ⟨rfl, q2, rfl⟩
        go_wp2_with fail
        go_roundg (n - (k + 1))
        case measure => have := unhide Hgk; omega
        case rel => exact ⟨k + 1, m, A', c', rfl, by omega, by go_num, rfl, by omega, by rw [unhide Hsn]; exact unhide Hm, by rw [unhide Hsn]; exact own_drewN (unhide Ho) q2, below_drewN' (unhide Hb) q2⟩
    · have hall : l.take k = l := List.take_of_length_le (by have := unhide Hln; omega)
      have hm := unhide Hm
      have ho := unhide Ho
      rw [hall] at hm ho
      have Hm2 := hide hm
      have Ho2 := hide ho
      clear hm ho hall
      go_wp2_with fail
      go_ret
      unfold EnvE
      rw [← unhide Hm2]
      exact ⟨A', c', rfl, unhide Ho2, unhide Hb⟩

theorem runsafe_any (w : World) : Calls Tryd.prog 26 #[] w fun e w' => ∃ g, e = .returned (.slice (some ⟨g, 0, none⟩) 9 9) ∧ w'.ownsRow w.heap.size 9 1 (.slice (some ⟨g, 0, none⟩) 9 9) 9 (Ev.unsafeL.map Value.string) ∧ Below w.heap.size w w' := by
  go_enter Tryd.func26, Tryd.ntmps26
  go_wp2_with fail
  go_ret
  exact ⟨w.heap.size, rfl, ⟨by rfl, .inr ⟨w.heap.size, 9, _, rfl, Nat.le_refl _, heap_alloc_new _ _, Nat.le_refl _, by unfold maxLen; omega, rfl, rfl⟩⟩, (Below.refl _ _).alloc (Nat.le_refl _) _⟩

theorem foldl_take {U : List ByteArray} {k : Nat} {u : ByteArray} (l : List ByteArray) (h : U[k]? = some u) : (U.take (k + 1)).foldl Ev.unset l = Ev.unset ((U.take k).foldl Ev.unset l) u := by
  rw [List.take_add_one, h, List.foldl_append]
  rfl
theorem unset_mem {l : List ByteArray} {name x : ByteArray} (h : x ∈ Ev.unset l name) : x ∈ l := (List.mem_filter.1 h).1

set_option maxRecDepth 100000 in
set_option maxHeartbeats 2000000 in
theorem rscrub_any (A : Option Addr) (n c B : Nat) (l : List ByteArray) (w : World) (hl : Rd w B 1 A n (l.map Value.string)) (hB : B ≤ w.heap.size) (hs : ∀ x ∈ l, x.size ≤ maxLen) (hn : n ≤ 4294967296) :
    Calls Tryd.prog 24 #[.slice A n c] w (EnvE (Ev.scrub l) w) := by
  have hln : l.length = n := by simpa using hl.len1
  have K0 := hide (runsafe_any w)
  have Hl := hide hl
  have Hln := hide hln
  have Hs := hide hs
  clear hl hln hs
  go_enter Tryd.func24, Tryd.ntmps24
  go_wp2_with fail
  refine (unhide K0).mono ?_
  rintro e w1 ⟨g, rfl, ho1, hb1⟩
  have Hu := hide (Rd.of_own ho1)
  have Hb1 := hide hb1
  have hw1 := hb1.size
  clear ho1 hb1 K0
  go_wp2_with fail
  go_loopg [4, 5] 9 (fun gk o i wr => ∃ (k m : Nat) (A' : Option Addr) (c' : Nat), gk = 9 - k ∧ k ≤ 9 ∧ i = .int .i64 k ∧ o = .slice A' m c' ∧ m ≤ n ∧ m = ((Ev.unsafeL.take k).foldl Ev.unset l).length ∧ Rd wr wr.heap.size 1 A' m (((Ev.unsafeL.take k).foldl Ev.unset l).map Value.string) ∧ (∀ x ∈ (Ev.unsafeL.take k).foldl Ev.unset l, x.size ≤ maxLen) ∧ Below w1.heap.size w1 wr)
  case atStart => exact ⟨0, n, A, c, by omega, Nat.zero_le _, rfl, rfl, by omega, (unhide Hln).symm, ((unhide Hl).below ((unhide Hb1).mono hB)).more (by omega), unhide Hs, Below.refl _ _⟩
  case round =>
    obtain ⟨k, m, A', c', hgk, hk, rfl, rfl, hmn, hm, hr, hxs, hb⟩ := hrel
    have Hgk := hide hgk
    have Hm := hide hm
    have Hr := hide hr
    have Hb := hide hb
    have hwr := hb.size
    have Hxs := hide hxs
    clear hgk hm hr hb hxs
    by_cases hlt : k < 9
    · obtain ⟨u, hu⟩ : ∃ u, Ev.unsafeL[k]? = some u := ⟨_, List.getElem?_eq_getElem hlt⟩
      obtain ⟨b1, o1, hA, _, c1⟩ := ((unhide Hu).below (unhide Hb)).at_ (k := k) (u := .string u) (by simp [hu])
      injection hA with hA
      injection hA with hA1 hA2
      subst hA1 hA2
      rw [Nat.zero_add] at c1
      have hft := foldl_take l hu
      have hc := runset_any A' m c' wr.heap.size _ u wr (unhide Hr) (Nat.le_refl _) (unhide Hxs) (by omega)
      rw [← hft] at hc
      have hxs2 : ∀ x ∈ (Ev.unsafeL.take (k + 1)).foldl Ev.unset l, x.size ≤ maxLen := by rw [hft]; exact fun x hx => (unhide Hxs) x (unset_mem hx)
      have hl2 : ((Ev.unsafeL.take (k + 1)).foldl Ev.unset l).length ≤ n := by
        rw [hft]
        have h2 := unhide Hm
        generalize (Ev.unsafeL.take k).foldl Ev.unset l = X at *
        have h1 : (Ev.unset X u).length ≤ X.length := List.length_filter_le _ _
        omega
      have Hc := hide hc
      have Hxs2 := hide hxs2
      clear hc hft hxs2 hu
      go_wp2_with fail
      refine (unhide Hc).mono ?_
      rintro e w2 ⟨A2, c2, rfl, ho2, hb2⟩
      have Ho2 := hide ho2
      have Hb2 := hide hb2
      clear ho2 hb2 Hc
      go_wp2_with fail
      go_roundg (9 - (k + 1))
      case measure => have := unhide Hgk; omega
      case rel => exact ⟨k + 1, _, A2, c2, rfl, by omega, by go_num, rfl, hl2, rfl, Rd.of_own (unhide Ho2), unhide Hxs2, (unhide Hb).trans ((unhide Hb2).mono hwr)⟩
    · obtain rfl : k = 9 := by omega
      have hall : (Ev.unsafeL.take 9).foldl Ev.unset l = Ev.scrub l := Ev.scrub_fold l
      have hm := unhide Hm
      have hr := unhide Hr
      rw [hall] at hm hr
      have Hm2 := hide hm
      have Hr2 := hide hr
      have hbw := (unhide Hb1).trans ((unhide Hb).mono hw1)
      have hsz := hbw.size
      have Hbw := hide hbw
      clear hm hr hall hbw
      go_wp2_with (at_builtin; refine wpList_app strTy rfl _ _ rfl w.heap.size (.slice none 0 0) 0 [] rfl (World.ownsRow_nil _ _ _ _) wr.heap.size A' m c' _ rfl (unhide Hr2) (strs_oneE _) (by omega) hsz ?_; intro A3 c3 w3 ho3 hg3 hat3; have hb3 := (unhide Hbw).grown hg3 hsz (fun k' hk' => by simp [Value.ownBlock] at hk'); simp only [Nat.zero_add, List.nil_append] at ho3 ⊢; have Ho3 := hide ho3; have Hb3 := hide hb3; clear ho3 hg3 hat3 hb3)
      go_ret
      unfold EnvE
      rw [← unhide Hm2]
      exact ⟨A3, c3, rfl, unhide Ho3, unhide Hb3⟩
end Go.Proofs.YtlcdilgniimnlaaDoor
namespace Go.Proofs.YtlcdilgniimnlaaDoor
set_option linter.unusedVariables false
set_option linter.unusedSimpArgs false
open Go.RowKit

/-- What the reference's loop has put together. -/
def setP (name p : ByteArray) : List ByteArray → List ByteArray × Bool → List ByteArray × Bool
  | [], o => o
  | s :: r, o => setP name p r (if Ev.named name s then (if o.2 then o else (o.1 ++ [p], true)) else (o.1 ++ [s], o.2))
theorem setP_app (name p : ByteArray) (a b : List ByteArray) (o : List ByteArray × Bool) : setP name p (a ++ b) o = setP name p b (setP name p a o) := by
  induction a generalizing o with
  | nil => rfl
  | cons s r ih => simp only [List.cons_append, setP]; rw [ih]
theorem setP_setF (name p : ByteArray) (l : List ByteArray) (o : List ByteArray × Bool) : (setP name p l o).1 ++ (if (setP name p l o).2 then [] else [p]) = o.1 ++ Ev.setF name p l o.2 := by
  induction l generalizing o with
  | nil => rfl
  | cons s r ih =>
    have e : setP name p (s :: r) o = setP name p r (if Ev.named name s then (if o.2 then o else (o.1 ++ [p], true)) else (o.1 ++ [s], o.2)) := rfl
    have e2 : Ev.setF name p (s :: r) o.2 = (if Ev.named name s then (if o.2 then Ev.setF name p r true else p :: Ev.setF name p r true) else s :: Ev.setF name p r o.2) := rfl
    rw [e, ih, e2]
    cases h : Ev.named name s <;> cases h2 : o.2 <;> simp [h2]
theorem setP_len (name p : ByteArray) (l : List ByteArray) (o : List ByteArray × Bool) : (setP name p l o).1.length ≤ o.1.length + l.length := by
  induction l generalizing o with
  | nil => simp [setP]
  | cons s r ih =>
    simp only [setP]
    refine Nat.le_trans (ih _) ?_
    cases h : Ev.named name s <;> cases h2 : o.2 <;> simp [h2] <;> omega
theorem setP_next {name p x : ByteArray} {l : List ByteArray} {k : Nat} (hx : l[k]? = some x) : setP name p (l.take (k + 1)) ([], false) = (if Ev.named name x then (if (setP name p (l.take k) ([], false)).2 then setP name p (l.take k) ([], false) else ((setP name p (l.take k) ([], false)).1 ++ [p], true)) else ((setP name p (l.take k) ([], false)).1 ++ [x], (setP name p (l.take k) ([], false)).2)) := by
  rw [List.take_add_one, hx, setP_app]
  rfl

set_option maxRecDepth 100000 in
set_option maxHeartbeats 4000000 in
theorem rset_good (A : Option Addr) (n c B : Nat) (l : List ByteArray) (name value : ByteArray) (w : World) (hl : Rd w B 1 A n (l.map Value.string)) (hB : B ≤ w.heap.size) (hs : ∀ x ∈ l, x.size ≤ maxLen) (hn : n ≤ 1000000000) (hns : name.size ≤ 4294967296) (hvs : value.size ≤ 4294967296) (h : Ev.badSet name value = false) :
    Calls Tryd.prog 19 #[.slice A n c, .string name, .string value] w (SetE l name value w) := by
  have hln : l.length = n := by simpa using hl.len1
  have k1 := fun w' => rhas61_any name w' (by unfold maxLen; omega)
  have k2 := fun w' => rhas_any name w' (by unfold maxLen; omega)
  have k3 := fun w' => rhas_any value w' (by unfold maxLen; omega)
  have hbs := h
  unfold Ev.badSet at h
  simp only [Bool.or_eq_false_iff, decide_eq_false_iff_not] at h
  obtain ⟨⟨⟨a, b⟩, d⟩, f⟩ := h
  rw [b] at k1
  rw [d] at k2
  rw [f] at k3
  have hem := isEmpty_toList name
  rw [decide_eq_false a] at hem
  have q2 : ¬ name.toList = [] := by rw [← List.isEmpty_iff, hem]; simp
  have K1 := hide k1
  have K2 := hide k2
  have K3 := hide k3
  have Hl := hide hl
  have Hs := hide hs
  have Hln := hide hln
  have Hbs := hide hbs
  obtain ⟨p, hp⟩ : ∃ p, name ++ (⟨#[61]⟩ : ByteArray) ++ value = p := ⟨_, rfl⟩
  have hpp : Ev.pair name value = p := by rw [← pair_bytes, hp]
  have Hp := hide hp
  have Hpp := hide hpp
  clear hl hs hln hbs k1 k2 k3 a b d f hp hpp
  go_enter Tryd.func19, Tryd.ntmps19
  go_wp2_with fail
  refine ((unhide K1) _).mono ?_
  rintro e w1 ⟨rfl, rfl⟩
  go_wp2_with fail
  refine ((unhide K2) _).mono ?_
  rintro e w1 ⟨rfl, rfl⟩
  go_wp2_with fail
  refine ((unhide K3) _).mono ?_
  rintro e w1 ⟨rfl, rfl⟩
  clear K1 K2 K3
  go_wp2_with fail
  go_loopg [8, 9, 10] n (fun gk o t i wr => ∃ (k m : Nat) (A' : Option Addr) (c' : Nat) (L : List ByteArray) (th : Bool), gk = n - k ∧ k ≤ n ∧ i = .int .i64 k ∧ o = .slice A' m c' ∧ t = .bool th ∧ m ≤ k ∧ setP name p (l.take k) ([], false) = (L, th) ∧ L.length = m ∧ wr.ownsRow w.heap.size 9 1 (.slice A' m c') m (L.map Value.string) ∧ Below w.heap.size w wr)
  case atStart => exact ⟨0, 0, none, 0, [], false, by omega, Nat.zero_le _, rfl, rfl, rfl, by omega, rfl, rfl, World.ownsRow_nil _ _ _ _, Below.refl _ _⟩
  case round =>
    obtain ⟨k, m, A', c', L, th, hgk, hk, rfl, rfl, rfl, hmk, hset, hm, ho, hb⟩ := hrel
    have Hgk := hide hgk
    have Hm := hide hm
    have Ho := hide ho
    have Hb := hide hb
    have Hset := hide hset
    have hwr := hb.size
    clear hgk hm ho hb hset
    by_cases hlt : k < n
    · obtain ⟨x, hx⟩ : ∃ x, l[k]? = some x := ⟨_, List.getElem?_eq_getElem (by rw [unhide Hln]; exact hlt)⟩
      obtain ⟨b1, o1, rfl, hb1, c1⟩ := ((unhide Hl).below ((unhide Hb).mono hB)).at_ (k := k) (u := .string x) (by simp [hx])
      have hxs := (unhide Hs) _ (List.mem_of_getElem? hx)
      have hc := rnamed_any x name wr hxs
      have hsn := setP_next (name := name) (p := p) hx
      rw [unhide Hset] at hsn
      cases hq : Ev.named name x
      · rw [hq] at hc hsn
        simp only [Bool.false_eq_true, if_false] at hsn
        have Hc := hide hc
        have Hsn := hide hsn
        clear hc hq hx hsn
        go_wp2_with fail
        refine (unhide Hc).mono ?_
        rintro e w1 ⟨rfl, q2, rfl⟩
        have c2 : (wr.drewN q2).cell? ⟨b1, o1 + k, none⟩ = some (.string x) := c1
        go_wp2_with (at_builtin; refine wpList_app1 strTy rfl _ _ rfl w.heap.size (.slice A' m c') m _ rfl (own_drewN (unhide Ho) q2) _ rfl rfl (by simp [Value.oneCell']) (by omega) hwr ?_; intro A3 c3 w3 ho3 hg3 hat3; have hb3 := (below_drewN' (unhide Hb) q2).grown hg3 hwr (fun k' hk' => ((unhide Ho).lt k' hk').1); have Ho3 := hide ho3; have Hb3 := hide hb3; clear ho3 hg3 hat3 hb3)
        go_roundg (n - (k + 1))
        case measure => have := unhide Hgk; omega
        case rel => exact ⟨k + 1, m + 1, A3, c3, L ++ [x], th, rfl, by omega, by go_num, rfl, rfl, by omega, unhide Hsn, by rw [List.length_append, unhide Hm]; rfl, by rw [List.map_append]; exact unhide Ho3, unhide Hb3⟩
      · rw [hq] at hc hsn
        simp only [if_true] at hsn
        have Hc := hide hc
        clear hc hq hx
        cases th
        · simp only [Bool.false_eq_true, if_false] at hsn
          have Hsn := hide hsn
          have hpe := unhide Hp
          have Hpe := hide hpe
          clear hsn hpe
          go_wp2_with fail
          refine (unhide Hc).mono ?_
          rintro e w1 ⟨rfl, q2, rfl⟩
          go_wp2_with (at_builtin; refine wpList_app1 strTy rfl _ _ rfl w.heap.size (.slice A' m c') m _ rfl (own_drewN (unhide Ho) q2) _ rfl rfl (by simp [Value.oneCell']) (by omega) hwr ?_; intro A3 c3 w3 ho3 hg3 hat3; have hb3 := (below_drewN' (unhide Hb) q2).grown hg3 hwr (fun k' hk' => ((unhide Ho).lt k' hk').1); have Ho3 := hide ho3; have Hb3 := hide hb3; clear ho3 hg3 hat3 hb3)
          go_roundg (n - (k + 1))
          case measure => have := unhide Hgk; omega
          case rel => exact ⟨k + 1, m + 1, A3, c3, L ++ [p], true, rfl, by omega, by go_num, rfl, rfl, by omega, unhide Hsn, by rw [List.length_append, unhide Hm]; rfl, by rw [List.map_append, ← unhide Hp]; exact unhide Ho3, unhide Hb3⟩
        · simp only [if_true] at hsn
          have Hsn := hide hsn
          clear hsn
          go_wp2_with fail
          refine (unhide Hc).mono ?_
          rintro e w1 ⟨rfl, q2, rfl⟩
          go_wp2_with fail
          go_roundg (n - (k + 1))
          case measure => have := unhide Hgk; omega
          case rel => exact ⟨k + 1, m, A', c', L, true, rfl, by omega, by go_num, rfl, rfl, by omega, unhide Hsn, unhide Hm, own_drewN (unhide Ho) q2, below_drewN' (unhide Hb) q2⟩
    · have hall : l.take k = l := List.take_of_length_le (by have := unhide Hln; omega)
      have hset := unhide Hset
      rw [hall] at hset
      have hfin := setP_setF name p l ([], false)
      rw [hset] at hfin
      simp only [List.nil_append] at hfin
      rw [← unhide Hpp, Ev.setF_set] at hfin
      have Hfin := hide hfin
      clear hset hall hfin
      cases th
      · go_wp2_with (at_builtin; refine wpList_app1 strTy rfl _ _ rfl w.heap.size (.slice A' m c') m _ rfl (unhide Ho) _ rfl rfl (by simp [Value.oneCell']) (by omega) hwr ?_; intro A3 c3 w3 ho3 hg3 hat3; have hb3 := (unhide Hb).grown hg3 hwr (fun k' hk' => ((unhide Ho).lt k' hk').1); have Ho3 := hide ho3; have Hb3 := hide hb3; clear ho3 hg3 hat3 hb3)
        go_ret2
        have hfin := unhide Hfin
        simp only [Bool.false_eq_true, if_false] at hfin
        refine .inr ⟨unhide Hbs, A3, c3, m + 1, rfl, by rw [← hfin, List.length_append, unhide Hm]; rfl, ?_, unhide Hb3⟩
        rw [← hfin, List.map_append, unhide Hpp, ← unhide Hp]
        exact unhide Ho3
      · go_wp2_with fail
        go_ret2
        have hfin := unhide Hfin
        simp only [if_true, List.append_nil] at hfin
        refine .inr ⟨unhide Hbs, A', c', m, rfl, by rw [← hfin, unhide Hm], ?_, unhide Hb⟩
        rw [← hfin]
        exact unhide Ho

set_option maxRecDepth 100000 in
set_option maxHeartbeats 2000000 in
theorem rset_bad (A : Option Addr) (n c : Nat) (l : List ByteArray) (name value : ByteArray) (w : World) (hns : name.size ≤ 4294967296) (hvs : value.size ≤ 4294967296) (h : Ev.badSet name value = true) :
    Calls Tryd.prog 19 #[.slice A n c, .string name, .string value] w (SetE l name value w) := by
  have hfin : SetE l name value w (.returned (.tuple #[.slice none 0 0, .int .i64 1])) w := .inl ⟨h, rfl, rfl⟩
  have Hfin := hide hfin
  have k1 := fun w' => rhas61_any name w' (by unfold maxLen; omega)
  have K2 := hide (fun w' => rhas_any name w' (by unfold maxLen; omega))
  have K3 := hide (fun w' => rhas_any value w' (by unfold maxLen; omega))
  unfold Ev.badSet at h
  simp only [Bool.or_eq_true, decide_eq_true_eq] at h
  have h' : name.size = 0 ∨ (name.size ≠ 0 ∧ name.data.toList.contains 61 = true) ∨ (name.size ≠ 0 ∧ name.data.toList.contains 61 = false ∧ Cl.zeroT name = true) ∨ (name.size ≠ 0 ∧ name.data.toList.contains 61 = false ∧ Cl.zeroT name = false ∧ Cl.zeroT value = true) := by
    by_cases a : name.size = 0
    · exact .inl a
    · right
      cases b : name.data.toList.contains 61 with
      | true => exact .inl ⟨a, rfl⟩
      | false =>
        right
        cases d : Cl.zeroT name with
        | true => exact .inl ⟨a, rfl, rfl⟩
        | false =>
          refine .inr ⟨a, rfl, rfl, ?_⟩
          rw [b, d] at h
          simpa [a] using h
  clear h hfin
  have hem := isEmpty_toList name
  rcases h' with a | ⟨a, b⟩ | ⟨a, b, d⟩ | ⟨a, b, d, f⟩
  · rw [decide_eq_true a] at hem
    have q2 : name.toList = [] := List.isEmpty_iff.1 hem
    clear a
    go_enter Tryd.func19, Tryd.ntmps19
    go_wp2_with fail
    go_ret2
    exact unhide Hfin
  all_goals
    rw [decide_eq_false a] at hem
    have q2 : ¬ name.toList = [] := by rw [← List.isEmpty_iff, hem]; simp
    rw [b] at k1
    replace k1 := hide k1
    clear a b
    go_enter Tryd.func19, Tryd.ntmps19
    go_wp2_with fail
    refine ((unhide k1) _).mono ?_
    rintro e w1 ⟨rfl, rfl⟩
  · go_wp2_with fail
    go_ret2
    exact unhide Hfin
  · rw [d] at K2
    clear d
    go_wp2_with fail
    refine ((unhide K2) _).mono ?_
    rintro e w1 ⟨rfl, rfl⟩
    go_wp2_with fail
    go_ret2
    exact unhide Hfin
  · rw [d] at K2
    rw [f] at K3
    clear d f
    go_wp2_with fail
    refine ((unhide K2) _).mono ?_
    rintro e w1 ⟨rfl, rfl⟩
    go_wp2_with fail
    refine ((unhide K3) _).mono ?_
    rintro e w1 ⟨rfl, rfl⟩
    go_wp2_with fail
    go_ret2
    exact unhide Hfin
theorem rset_any (A : Option Addr) (n c B : Nat) (l : List ByteArray) (name value : ByteArray) (w : World) (hl : Rd w B 1 A n (l.map Value.string)) (hB : B ≤ w.heap.size) (hs : ∀ x ∈ l, x.size ≤ maxLen) (hn : n ≤ 1000000000) (hns : name.size ≤ 4294967296) (hvs : value.size ≤ 4294967296) :
    Calls Tryd.prog 19 #[.slice A n c, .string name, .string value] w (SetE l name value w) := by
  cases h : Ev.badSet name value
  · exact rset_good A n c B l name value w hl hB hs hn hns hvs h
  · exact rset_bad A n c l name value w hns hvs h
theorem set_any (A : Option Addr) (n c B : Nat) (l : List ByteArray) (name value : ByteArray) (w : World) (hl : Rd w B 1 A n (l.map Value.string)) (hB : B ≤ w.heap.size) (hs : ∀ x ∈ l, x.size ≤ maxLen) (hn : n ≤ 1000000000) (hnc : n ≤ c) (hns : name.size ≤ 4294967296) (hvs : value.size ≤ 4294967296) :
    Calls Tryd.prog 18 #[.slice A n c, .string name, .string value] w (SetE l name value w) := by
  cases h : Ev.badSet name value
  · exact set_good A n c B l name value w hl hB hs hn hnc hns hvs h
  · exact set_bad A n c l name value w h
end Go.Proofs.YtlcdilgniimnlaaDoor
namespace Go.Proofs.YtlcdilgniimnlaaDoor
set_option linter.unusedVariables false
set_option linter.unusedSimpArgs false
open Go.RowKit Go.Shelf
attribute [local go_sem] Oper.semAt_some

theorem spl_no {v : List UInt8} (h : Lib.indexByte v 58 = -1) : Ev.spl [] v = [v] := by
  have hf : ∀ c ∈ v, c ≠ 58 := by
    intro c hc e
    subst e
    obtain ⟨k, hk⟩ := List.mem_iff_getElem?.1 hc
    exact Lib.indexByte_none h k hk
  have := Ev.spl_free [] v [] hf
  simp only [List.append_nil, List.nil_append] at this
  rw [this]
  rfl
theorem spl_at {v : List UInt8} {i : Nat} (h : Lib.indexByte v 58 = i) : Ev.spl [] v = v.take i :: Ev.spl [] (v.drop (i + 1)) := by
  obtain ⟨h1, h2⟩ := Lib.indexByte_some h
  have hlt := (List.getElem?_eq_some_iff.1 h1).1
  have e : v = v.take i ++ 58 :: v.drop (i + 1) := by
    have := (List.getElem?_eq_some_iff.1 h1).2
    rw [← this, ← List.drop_eq_getElem_cons hlt, List.take_append_drop]
  have hf : ∀ c ∈ v.take i, c ≠ 58 := by
    intro c hc e
    subst e
    obtain ⟨k, hk⟩ := List.mem_iff_getElem?.1 hc
    have hkl : k < i := by have := (List.getElem?_eq_some_iff.1 hk).1; rw [List.length_take] at this; omega
    exact h2 k hkl (by rw [List.getElem?_take_of_lt hkl] at hk; exact hk)
  conv => lhs; rw [e]
  rw [Ev.spl_free [] _ _ hf, List.nil_append]
  conv => lhs; unfold Ev.spl
  rw [if_pos rfl]
/-- What stands in the iterator's box: so many bytes are left. -/
def leftOf (B : Nat) (w : World) : Nat := match w.cell? ⟨B, 0, none⟩ with
  | some (.string s) => s.size
  | _ => 0
/-- The iterator's three boxes: what is left, the colon, how much of it is kept. -/
structure ItB (W : World) (B : Nat) (v : List UInt8) : Prop where
  s : Blk W B 9 [.string (Ev.ba v)]
  p : Blk W (B + 1) 9 [.string ⟨#[58]⟩]
  k : Blk W (B + 2) 3 [.int .i64 0]
theorem ItB.keep {W W' : World} {B : Nat} {v : List UInt8} (h : ItB W B v) (hk : ∀ j, B ≤ j → j < B + 3 → W'.heap[j]? = W.heap[j]?) : ItB W' B v :=
  ⟨(hk _ (by omega) (by omega)).trans h.s, (hk _ (by omega) (by omega)).trans h.p, (hk _ (by omega) (by omega)).trans h.k⟩
theorem ItB.left {W : World} {B : Nat} {v : List UInt8} (h : ItB W B v) : leftOf B W = v.length := by
  unfold leftOf
  rw [h.s.cell (i := 0) rfl]
  simp [Ev.ba, ByteArray.size]

set_option maxRecDepth 100000 in
set_option maxHeartbeats 2000000 in
theorem iter_any (F : Fence) (n : Nat) (h8 : F.fn 48) (hF5 : F.fn 45) (hIdx : ∀ (s : ByteArray) (w : World), CallsIn F (n - 1) Tryd.prog 45 #[.string s, .string ⟨#[58]⟩] w fun e w' => e = .returned (.int .i64 (Lib.indexByte s.data.toList 58)) ∧ w = w')
    (hro : F.round = none) (hn : 1 ≤ n) (l B : Nat) (v : List UInt8) (hv : v.length ≤ maxLen) (J : Nat → World → Prop)
    (hJs : ∀ k A u, J k A → J k (A.setCell ⟨B, 0, none⟩ u))
    (hY : ∀ k p W, J k W → (Ev.spl [] v)[k]? = some p → YieldAt F (n - 1) Tryd.prog l #[.string (Ev.ba p)] W fun e W' => e = .returned (.bool true) ∧ J (k + 1) W' ∧ ∀ j, B ≤ j → j < B + 3 → W'.heap[j]? = W.heap[j]?)
    (W : World) (hb : ItB W B v) (h0 : J 0 W) :
    CallsIn F n Tryd.prog 48 #[.func (.yield l) #[] #[], .pointer (some ⟨B + 1, 0, none⟩), .pointer (some ⟨B, 0, none⟩), .pointer (some ⟨B + 2, 0, none⟩)] W fun e W' => (∃ v, e = .returned v) ∧ J (Ev.spl [] v).length W' := by
  refine callsIn_of_wp Tryd.func48 rfl h8 ?_ hro
  simp only [Tryd.ntmps48, List.size_toArray, List.length_cons, List.length_nil, Nat.reduceAdd, Nat.reduceSub, Array.replicate_succ, Array.replicate_zero, List.push_toArray, List.append_toArray, List.nil_append, List.cons_append]
  unfold maxLen at hv
  have cp := hb.p.cell (i := 0) rfl
  have Hb := hide hb
  have HY := hide hY
  have HJs := hide hJs
  have H0 := hide h0
  have HI := hide hIdx
  clear hb hY hJs h0 hIdx
  gi_wp2
  gi_loopw [7] (fun _ wr => ∃ (k : Nat) (v' : List UInt8), ItB wr B v' ∧ J k wr ∧ (Ev.spl [] v).drop k = Ev.spl [] v' ∧ v'.length ≤ v.length) (fun _ wr => leftOf B wr)
  case atStart => exact ⟨0, v, unhide Hb, unhide H0, rfl, Nat.le_refl _⟩
  case round =>
    obtain ⟨k, v', hb', hJ, hdr, hle⟩ := hrel
    have cs := hb'.s.cell (i := 0) rfl
    have cp := hb'.p.cell (i := 0) rfl
    have ck := hb'.k.cell (i := 0) rfl
    have fs := hb'.s.free 0
    have hl := hb'.left
    have Hb' := hide hb'
    have HJ := hide hJ
    have Hdr := hide hdr
    have Hl := hide hl
    have hge := Lib.indexByte_ge v' 58
    have K := hide (fun w => (unhide HI) (Ev.ba v') w)
    have hdat : (Ev.ba v').data.toList = v' := Ev.ba_data v'
    have hsz : (Ev.ba v').size = v'.length := by simp [Ev.ba, ByteArray.size]
    by_cases hneg : Lib.indexByte v' 58 = -1
    · have hsp := spl_no hneg
      rw [hsp] at hdr
      have hk : (Ev.spl [] v)[k]? = some v' := by
        have := congrArg (fun L : List (List UInt8) => L[0]?) hdr
        simpa [List.getElem?_drop] using this
      have hlen : (Ev.spl [] v).length = k + 1 := by
        have := congrArg List.length hdr
        rw [List.length_drop] at this
        have hlt := (List.getElem?_eq_some_iff.1 hk).1
        simp at this
        omega
      have hy := (unhide HY) k v' wr hJ hk
      have K2 : ∀ w, CallsIn F (n - 1) Tryd.prog 45 #[.string (Ev.ba v'), .string ⟨#[58]⟩] w fun e w' => e = .returned (.int .i64 (-1)) ∧ w = w' := by
        intro w
        have := (unhide K) w
        rwa [hdat, hneg] at this
      replace K2 := hide K2
      have Hlen := hide hlen
      clear hdr hk hlen hJ hb' hl hle hsp hneg hge hdat hsz
      obtain ⟨fn, tmps, assign, body, hy, hR⟩ := hy
      gi_wp2_with (gi_at_call 45; refine ((unhide K2) _).mono ?_; rintro e w1 ⟨rfl, rfl⟩)
      refine hR.mono ?_
      rintro e W3 ⟨rfl, hJ3, -⟩
      gi_wp2
      refine bodyPost_end (results_none rfl _ _ _) rfl ?_
      exact ⟨⟨_, rfl⟩, by rw [unhide Hlen]; exact hJ3⟩
    · obtain ⟨i, hi⟩ := Int.eq_ofNat_of_zero_le (show 0 ≤ Lib.indexByte v' 58 by omega)
      have hsp := spl_at hi
      have hil : i < v'.length := (List.getElem?_eq_some_iff.1 (Lib.indexByte_some hi).1).1
      rw [hsp] at hdr
      have hk : (Ev.spl [] v)[k]? = some (v'.take i) := by
        have := congrArg (fun L : List (List UInt8) => L[0]?) hdr
        simpa [List.getElem?_drop] using this
      have hdr2 : (Ev.spl [] v).drop (k + 1) = Ev.spl [] (v'.drop (i + 1)) := by
        have := congrArg (fun L : List (List UInt8) => L.drop 1) hdr
        simpa [List.drop_drop, Nat.add_comm] using this
      have hy := (unhide HY) k (v'.take i) wr hJ hk
      have ex1 : (Ev.ba v').extract 0 i = Ev.ba (v'.take i) := by rw [extract_ba, hdat]; simp
      have ex2 : (Ev.ba v').extract (i + 1) (Ev.ba v').size = Ev.ba (v'.drop (i + 1)) := by
        rw [extract_ba, hdat, hsz, List.take_of_length_le (by simp)]
      rw [← ex1] at hy
      have K2 : ∀ w, CallsIn F (n - 1) Tryd.prog 45 #[.string (Ev.ba v'), .string ⟨#[58]⟩] w fun e w' => e = .returned (.int .i64 (i : Nat)) ∧ w = w' := by
        intro w
        have := (unhide K) w
        rwa [hdat, hi] at this
      replace K2 := hide K2
      have Hdr2 := hide hdr2
      have Ex2 := hide ex2
      have hszi : (i : Int) + 1 ≤ ((Ev.ba v').size : Int) := by rw [hsz]; omega
      have hszn : i + 1 ≤ (Ev.ba v').size := by rw [hsz]; omega
      have hsz2 : (Ev.ba v').size ≤ 9223372036854775807 := by rw [hsz]; omega
      have Hsz := hide hsz
      clear hdr hk hdr2 hJ hb' hl hsp hneg hge hdat hsz hi ex1 ex2
      obtain ⟨fn, tmps, assign, body, hy, hR⟩ := hy
      gi_wp2_with (gi_at_call 45; refine ((unhide K2) _).mono ?_; rintro e w1 ⟨rfl, rfl⟩)
      refine hR.mono ?_
      rintro e W3 ⟨rfl, hJ3, hk3⟩
      have hb3 := (unhide Hb').keep hk3
      have cs3 := hb3.s.cell (i := 0) rfl
      have cp3 := hb3.p.cell (i := 0) rfl
      have fs3 := hb3.s.free 0
      have Hb3 := hide hb3
      have HJ3 := hide hJ3
      clear hb3 hJ3 hk3 cs cp ck fs
      gi_wp2
      go_roundw
      case rel =>
        refine ⟨k + 1, v'.drop (i + 1), ⟨?_, ?_, ?_⟩, (unhide HJs) _ _ _ (unhide HJ3), unhide Hdr2, by rw [List.length_drop]; omega⟩
        · rw [unhide Ex2]
          exact (unhide Hb3).s.set 0 _
        · exact (unhide Hb3).p.other (by simp) _
        · exact (unhide Hb3).k.other (by simp) _
      case measure =>
        rw [unhide Ex2]
        have h1 : leftOf B (W3.setCell ⟨B, 0, none⟩ (.string (Ev.ba (v'.drop (i + 1))))) = (v'.drop (i + 1)).length := by
          unfold leftOf
          rw [((unhide Hb3).s.set 0 (.string (Ev.ba (v'.drop (i + 1))))).cell (i := 0) rfl]
          simp [Ev.ba, ByteArray.size]
        rw [h1, unhide Hl, List.length_drop]
        omega
end Go.Proofs.YtlcdilgniimnlaaDoor
namespace Go.Proofs.YtlcdilgniimnlaaDoor
set_option linter.unusedVariables false
set_option linter.unusedSimpArgs false
open Go.RowKit Go.Shelf
attribute [local go_sem] Oper.semAt_some

/-- How a round's body is left: off its end. -/
def roundEnd (I : Nat → World → Prop) (B k : Nat) (W : World) : Exit → Act → World → Prop
  | .normal, _, W' => KeepsOthers W W' ∧ (∀ j, B ≤ j → j < B + 3 → W'.heap[j]? = W.heap[j]?) ∧ I (k + 1) W'
  | _, _, _ => False

set_option maxHeartbeats 1000000 in
theorem range_split {F : Fence} {n : Nat} {Q : Exit → Act → World → Prop} {a : Act} {w : World} {g : Operand} {p : Tmp} {assign body : Code} (hro : F.round = none) (hn : 2 ≤ n) (h8 : F.fn 48) (hF5 : F.fn 45)
    (hIdx : ∀ (s : ByteArray) (w : World), CallsIn F (n - 1 - 1) Tryd.prog 45 #[.string s, .string ⟨#[58]⟩] w fun e w' => e = .returned (.int .i64 (Lib.indexByte s.data.toList 58)) ∧ w = w')
    (B : Nat) (hg : a.eval g = .func (.func 48) #[] #[.pointer (some ⟨B + 1, 0, none⟩), .pointer (some ⟨B, 0, none⟩), .pointer (some ⟨B + 2, 0, none⟩)]) (hB : B + 3 ≤ w.heap.size) (v : List UInt8) (hv : v.length ≤ maxLen) (hb : ItB w B v)
    (I : Nat → World → Prop) (hIs : ∀ k A u, I k A → I k (A.setCell ⟨B, 0, none⟩ u)) (hIa : ∀ k A o, w.heap.size ≤ A.heap.size → I k A → I k (A.alloc o)) (hIp : ∀ k A l o o', w.heap.size ≤ l → A.heap[l]? = some o → o.isCells = false → I k A → I k (A.putObj l o')) (h0 : I 0 w)
    (a₁ : List UInt8 → Act)
    (hassign : ∀ (l : Nat) (x : List UInt8) (W : World) (K : Act → World → Prop), K (a₁ x) W → assign.wpIn (F.inRound l) (n - 1 - 1) Tryd.prog (Exit.then K (fun _ _ _ => False)) { tmps := a.tmps.setIfInBounds p (.string (Ev.ba x)), defers := [] } W)
    (hbody : ∀ (l k : Nat) (x : List UInt8) (W : World), I k W → (Ev.spl [] v)[k]? = some x → body.wpIn (F.inRound l) (n - 1 - 1) Tryd.prog (roundEnd I B k W) (a₁ x) W)
    (hdone : ∀ (D : Nat) (W : World), I (Ev.spl [] v).length W → w.heap.size ≤ D → W.heap[D]? = some (.deferred (some [])) → Q .normal { a with defers := { target := .collected D, args := #[] } :: a.defers } W) :
    (Code.rangeFunc g #[p] assign body).wpIn F n Tryd.prog Q a w := by
  refine wpIn_rangeFunc ?_
  intro fn hfn
  rw [hro]
  obtain ⟨rc, hrc⟩ : ∃ rc : LoopState → Loop, rc = fun st => { state := st, pending := none, fn, tmps := a.tmps, params := #[p], assign, body, defers := w.heap.size } := ⟨_, rfl⟩
  obtain ⟨W1, hW1⟩ : ∃ W1, (w.alloc (.deferred (some []))).alloc (.loop (rc .ready)) = W1 := ⟨_, rfl⟩
  have hL1 : W1.heap[w.heap.size + 1]? = some (.loop (rc .ready)) := by
    rw [← hW1]; have := World.alloc_heap_new (w.alloc (.deferred (some []))) (.loop (rc .ready)); rwa [World.size_alloc] at this
  have hK1 : W1.heap[w.heap.size]? = some (.deferred (some [])) := by
    rw [← hW1]; exact (Below.heap_alloc _ _ _ (by simp)).trans (World.alloc_heap_new w _)
  have hI1 : I 0 W1 := by rw [← hW1]; exact hIa _ _ _ (by simp) (hIa _ _ _ (Nat.le_refl _) h0)
  have hb1 : ItB W1 B v := hb.keep (fun j _ hj => by rw [← hW1]; exact (Below.heap_alloc _ _ _ (by simp; omega)).trans (Below.heap_alloc _ _ _ (by omega)))
  refine ⟨w.heap.size + 1, [{ target := .collected w.heap.size, args := #[] }], W1, { target := .fn (.func 48) #[.pointer (some ⟨B + 1, 0, none⟩), .pointer (some ⟨B, 0, none⟩), .pointer (some ⟨B + 2, 0, none⟩)], args := #[.func (.yield (w.heap.size + 1)) #[] #[]] }, W1, 48,
    #[.func (.yield (w.heap.size + 1)) #[] #[], .pointer (some ⟨B + 1, 0, none⟩), .pointer (some ⟨B, 0, none⟩), .pointer (some ⟨B + 2, 0, none⟩)], W1, ?_, ?_, ?_, ?_, fun _ => by omega, ?_⟩
  · rw [← hW1, hrc]; exact run_enterLoop_outer _ _ _ _ _
  · simp only [resolve, hg]
    simp [go_sem]
  · intro f' hf'; simp [Target.leads] at hf'; subst hf'; exact h8
  · have eg : ∀ args w, (callFunc 48 args).run Tryd.prog w = .ok (.enter 48 args) w := fun args w => by kernel_rfl
    simp [invoke, go_sem, eg]
  · refine (iter_any F (n - 1) h8 hF5 hIdx hro (by omega) (w.heap.size + 1) B v hv
      (fun k W => I k W ∧ W.heap[w.heap.size + 1]? = some (.loop (rc .ready)) ∧ W.heap[w.heap.size]? = some (.deferred (some [])))
      (fun k A u h => ⟨hIs k A u h.1, (heap_setCell_other _ _ _ _ (by show w.heap.size + 1 ≠ B; omega)).trans h.2.1, (heap_setCell_other _ _ _ _ (by show w.heap.size ≠ B; omega)).trans h.2.2⟩)
      ?_ W1 hb1 ⟨hI1, hL1, hK1⟩).mono ?_
    · rintro k x W ⟨hi, hl, hk⟩ hx
      have hlt : w.heap.size + 1 < W.heap.size := (Array.getElem?_eq_some_iff.1 hl).1
      have hy := run_yield (P := Tryd.prog) (args := #[.string (Ev.ba x)]) hl (by rw [hrc]; rfl)
      rw [hrc] at hy
      refine ⟨fn, _, assign, body, hy, ?_⟩
      refine roundIn_of_wpIn hfn ?_
      have ez : ∀ t : Array Value, ((#[p] : Array Tmp).zip #[Value.string (Ev.ba x)]).foldl (fun tmps q => tmps.setIfInBounds q.1 q.2) t = t.setIfInBounds p (.string (Ev.ba x)) := fun t => by simp
      have ez2 := ez a.tmps
      simp only [] at ez2 ⊢
      rw [ez2]
      refine hassign _ x W _ ?_
      refine ⟨_, run_beginRound hl (by rw [hrc]), ?_⟩
      obtain ⟨W2, hW2⟩ : ∃ W2, W.putObj (w.heap.size + 1) (.loop { rc .ready with state := .busy }) = W2 := ⟨_, rfl⟩
      have hl2 : W2.heap[w.heap.size + 1]? = some (.loop { rc .ready with state := .busy }) := by rw [← hW2]; exact World.putObj_heap_same hlt
      have hk2 : W2.heap[w.heap.size]? = some (.deferred (some [])) := by rw [← hW2]; exact (World.putObj_heap_other (by omega)).trans hk
      have hb2 : ∀ j, B ≤ j → j < B + 3 → W2.heap[j]? = W.heap[j]? := fun j _ hj => by rw [← hW2]; exact World.putObj_heap_other (by omega)
      have hi2 : I k W2 := by rw [← hW2]; exact hIp _ _ _ _ _ (by omega) hl rfl hi
      rw [hW2]
      refine wpIn_mono (hbody _ k x W2 hi2 hx) ?_
      rintro e a3 W3 hp
      cases e with
      | normal =>
        obtain ⟨hk3, hb3, hi3⟩ := hp
        have hl3 := hk3.same _ _ hl2 rfl
        have hd3 := hk3.same _ _ hk2 rfl
        have hlt3 := (Array.getElem?_eq_some_iff.1 hl3).1
        have hr := run_endRound (P := Tryd.prog) none hl3
        refine ⟨_, _, hr, rfl, ⟨hIp _ _ _ _ _ (by omega) hl3 rfl hi3, ?_, (World.putObj_heap_other (by omega)).trans hd3⟩, fun j h1 h2 => ?_⟩
        · rw [World.putObj_heap_same hlt3, hrc]
          rfl
        · rw [World.putObj_heap_other (by omega), hb3 j h1 h2, hb2 j h1 h2]
      | ret => exact hp.elim
      | exit id => exact hp.elim
      | goto t => exact hp.elim
      | panic ch => exact hp.elim
      | outgrown => exact hp.elim
    · rintro e W2 ⟨⟨v', rfl⟩, hi, hl, hk⟩
      exact ⟨none, _, by have := run_endLoop (P := Tryd.prog) hl (by rw [hrc]; simp); rw [hrc] at this; exact this, hdone _ _ (hIp _ _ _ _ _ (by omega) hl rfl hi) (Nat.le_refl _) ((World.putObj_heap_other (by omega)).trans hk)⟩
end Go.Proofs.YtlcdilgniimnlaaDoor
namespace Go.Proofs.YtlcdilgniimnlaaDoor
set_option linter.unusedVariables false
set_option linter.unusedSimpArgs false
open Go.RowKit Go.Shelf
attribute [local go_sem] Oper.semAt_some

theorem splitSeq_any (s : ByteArray) (w : World) : Calls Tryd.prog 42 #[.string s, .string ⟨#[58]⟩] w fun e w' => e = .returned (.func (.func 48) #[] #[.pointer (some ⟨w.heap.size + 1, 0, none⟩), .pointer (some ⟨w.heap.size, 0, none⟩), .pointer (some ⟨w.heap.size + 2, 0, none⟩)]) ∧
    w' = ((w.alloc (.cells #[.string s] 9)).alloc (.cells #[.string ⟨#[58]⟩] 9)).alloc (.cells #[.int .i64 0] 3) := by
  have K : ∀ w, Calls Tryd.prog 46 #[.string s, .string ⟨#[58]⟩, .int .i64 0] w fun e w' => e = .returned (.func (.func 48) #[] #[.pointer (some ⟨w.heap.size + 1, 0, none⟩), .pointer (some ⟨w.heap.size, 0, none⟩), .pointer (some ⟨w.heap.size + 2, 0, none⟩)]) ∧
    w' = ((w.alloc (.cells #[.string s] 9)).alloc (.cells #[.string ⟨#[58]⟩] 9)).alloc (.cells #[.int .i64 0] 3) := by
    intro w
    go_enter Tryd.func46, Tryd.ntmps46
    go_wp2_with fail
    go_ret
    exact ⟨rfl, rfl⟩
  replace K := hide K
  go_enter Tryd.func42, Tryd.ntmps42
  go_wp2_with fail
  refine ((unhide K) _).mono ?_
  rintro e w1 ⟨rfl, rfl⟩
  go_wp2_with fail
  go_ret
  exact ⟨rfl, rfl⟩
end Go.Proofs.YtlcdilgniimnlaaDoor
namespace Go.Proofs.YtlcdilgniimnlaaDoor
set_option linter.unusedVariables false
set_option linter.unusedSimpArgs false
open Go.RowKit Go.Shelf
attribute [local go_sem] Oper.semAt_some

theorem strInfo9 : (Tryd.prog.info? 9).map (fun i => (i.zero, i.size, i.bytes)) = some (some (.string ⟨#[]⟩), 1, 16) := by kernel_rfl
def dots (v : List UInt8) (k : Nat) : List Value := ((Ev.spl [] v).take k).map fun x => Value.string (Ev.dot x)
/-- Where the loop stands: k pieces are in the list. -/
def LsI (w : World) (v : List UInt8) (k : Nat) (W : World) : Prop :=
  ∃ u, Blk W w.heap.size 22 [u] ∧ W.ownsRow (w.heap.size + 4) 9 1 u k (dots v k) ∧ Below w.heap.size w W ∧ w.heap.size + 4 ≤ W.heap.size
theorem ownBlk_ne {W : World} {base : Nat} {e : TypeId} {u : Value} {k : Nat} {xs : List Value} (h : W.ownsRow base e 1 u k xs) {b : Nat} (hb : b < base) : u.ownBlock = none ∨ u.ownBlock ≠ some b := by
  cases hu : u.ownBlock with
  | none => exact .inl rfl
  | some g => exact .inr (fun e => by injection e with e; have := (h.lt g hu).1; omega)
theorem own_keepB {W W' : World} {base : Nat} {e : TypeId} {u : Value} {k : Nat} {xs : List Value} (h : W.ownsRow base e 1 u k xs) (hk : ∀ g, u.ownBlock = some g → W'.heap[g]? = W.heap[g]?) : W'.ownsRow base e 1 u k xs :=
  ⟨h.1, h.2.imp id fun ⟨g, cap, cur, e1, e2, e3, r⟩ => ⟨g, cap, cur, e1, e2, (hk g (by rw [e1]; rfl)).trans e3, r⟩⟩
theorem LsI.set {w W : World} {v : List UInt8} {k : Nat} (h : LsI w v k W) (u' : Value) : LsI w v k (W.setCell ⟨w.heap.size + 1, 0, none⟩ u') := by
  obtain ⟨u, h1, h2, h3, h4⟩ := h
  exact ⟨u, h1.other (by simp) _, own_keepB h2 (fun g hg => heap_setCell_other _ _ _ _ (by have := (h2.lt g hg).1; show g ≠ w.heap.size + 1; omega)), h3.setCell (by simp) _, by simpa using h4⟩
theorem LsI.alloc {w W : World} {v : List UInt8} {k : Nat} (h : LsI w v k W) (o : Obj) : LsI w v k (W.alloc o) := by
  obtain ⟨u, h1, h2, h3, h4⟩ := h
  exact ⟨u, h1.alloc o, h2.alloc o, h3.alloc h3.size o, by simp; omega⟩
theorem LsI.put {w W : World} {v : List UInt8} {k l : Nat} {o o' : Obj} (h : LsI w v k W) (hl : w.heap.size + 4 ≤ l) (ho : W.heap[l]? = some o) (hc : o.isCells = false) : LsI w v k (W.putObj l o') := by
  obtain ⟨u, h1, h2, h3, h4⟩ := h
  refine ⟨u, (World.putObj_heap_other (by omega)).trans h1, ownsRow_putObj h2 o' ho hc, ?_, by simpa using h4⟩
  exact h3.trans ⟨rfl, rfl, rfl, by simp, fun k hk => World.putObj_heap_other (by omega)⟩
def ListE (v : List UInt8) (w : World) (e : Ending) (w' : World) : Prop :=
  ∃ u, e = .returned u ∧ w'.ownsRow w.heap.size 9 1 u (Ev.list v).length ((Ev.list v).map Value.string) ∧ Below w.heap.size w w'
theorem dots_all (v : List UInt8) (hv : v ≠ []) : dots v (Ev.spl [] v).length = (Ev.list v).map Value.string := by
  unfold dots Ev.list
  rw [if_neg hv, List.take_length, List.map_map]
  rfl
theorem dots_next {v x : List UInt8} {k : Nat} (h : (Ev.spl [] v)[k]? = some x) : dots v (k + 1) = dots v k ++ [Value.string (Ev.dot x)] := by
  unfold dots
  rw [List.take_add_one, h, List.map_append]
  rfl
theorem spl_len (v acc : List UInt8) : (Ev.spl acc v).length ≤ v.length + 1 := by
  induction v generalizing acc with
  | nil => simp [Ev.spl]
  | cons c r ih =>
    unfold Ev.spl
    split
    · have := ih []; simp; omega
    · have := ih (acc ++ [c]); simp; omega

set_option maxRecDepth 100000 in
set_option maxHeartbeats 4000000 in
theorem list_in (s : ByteArray) (w : World) (hs : s.size ≤ 4294967296) (hne : s.data.toList ≠ []) :
    CallsIn Fence.wide 4 Tryd.prog 27 #[.string s] w (ListE s.data.toList w) := by
  have hem : s.toList.isEmpty = false := by
    rw [Lib.toList_data]
    cases h : s.data.toList with
    | nil => exact absurd h hne
    | cons a r => rfl
  have q2 : ¬ s.toList = [] := by rw [← List.isEmpty_iff, hem]; simp
  have HIx : ∀ n (s : ByteArray) (w : World), CallsIn Fence.wide n Tryd.prog 45 #[.string s, .string ⟨#[58]⟩] w fun e w' => e = .returned (.int .i64 (Lib.indexByte s.data.toList 58)) ∧ w = w' := fun n s w => callsIn_wide.2 (flipw (Tryd.strings_Index_one s 58 w))
  have K1 := hide (fun w => splitSeq_any s w)
  have HI := hide HIx
  have Hne := hide hne
  clear HIx hne
  refine callsIn_of_wp_marks Tryd.func27 rfl trivial ?_ rfl
  simp only [Tryd.ntmps27, List.size_toArray, List.length_cons, List.length_nil, Nat.reduceAdd, Nat.reduceSub, Array.replicate_succ, Array.replicate_zero, List.push_toArray, List.append_toArray, List.nil_append, List.cons_append]
  gi_wp2
  refine ⟨trivial, ?_⟩
  refine (callsIn_wide.2 ((unhide K1) _)).mono ?_
  rintro e w1 ⟨rfl, rfl⟩
  obtain ⟨W0, hW0⟩ : ∃ W0, ((((w.alloc (.cells #[.slice none 0 0] 22)).alloc (.cells #[.string s] 9)).alloc (.cells #[.string ⟨#[58]⟩] 9)).alloc (.cells #[.int .i64 0] 3)) = W0 := ⟨_, rfl⟩
  have hsz0 : W0.heap.size = w.heap.size + 4 := by rw [← hW0]; simp
  have hB0 : Below w.heap.size w W0 := by rw [← hW0]; exact ((((Below.refl _ _).alloc (Nat.le_refl _) _).alloc (by simp) _).alloc (by simp; omega) _).alloc (by simp; omega) _
  have hb0 : Blk W0 w.heap.size 22 [.slice none 0 0] := by rw [← hW0]; exact (((Blk.new w 22 [.slice none 0 0]).alloc _).alloc _).alloc _
  have e1 : (w.alloc (.cells #[.slice none 0 0] 22)).heap.size = w.heap.size + 1 := by simp
  have hit : ItB W0 (w.heap.size + 1) s.data.toList := by
    have hss : Ev.ba s.data.toList = s := Ev.ba_self s
    refine ⟨?_, ?_, ?_⟩
    · rw [hss, ← hW0, ← e1]
      exact ((Blk.new _ 9 [.string s]).alloc _).alloc _
    · rw [← hW0]
      have := (Blk.new ((w.alloc (.cells #[.slice none 0 0] 22)).alloc (.cells #[.string s] 9)) 9 [.string ⟨#[58]⟩]).alloc (.cells #[.int .i64 0] 3)
      simp only [World.size_alloc] at this
      exact this
    · rw [← hW0]
      have := Blk.new (((w.alloc (.cells #[.slice none 0 0] 22)).alloc (.cells #[.string s] 9)).alloc (.cells #[.string ⟨#[58]⟩] 9)) 3 [.int .i64 0]
      simp only [World.size_alloc] at this
      exact this
  have hI0 : LsI w s.data.toList 0 W0 := ⟨.slice none 0 0, hb0, World.ownsRow_nil _ _ _ _, hB0, by omega⟩
  clear hb0
  rw [hW0]
  simp only [e1]
  gi_wp2
  refine range_split (n := 4) rfl (by omega) trivial trivial ((unhide HI) _) (w.heap.size + 1) rfl (by omega) s.data.toList (by unfold maxLen; simp; omega) hit
    (LsI w s.data.toList) (fun k A u h => h.set u) (fun k A o _ h => h.alloc o) (fun k A l o o' hl ho hc h => h.put (by omega) ho hc) hI0
    (fun x => { tmps := #[.string s, undef, .pointer (some ⟨w.heap.size, 0, none⟩), .string (Ev.ba x), .string s, .bool false, .string s, .func (.func 48) #[] #[.pointer (some ⟨w.heap.size + 1 + 1, 0, none⟩), .pointer (some ⟨w.heap.size + 1, 0, none⟩), .pointer (some ⟨w.heap.size + 1 + 2, 0, none⟩)], .string (Ev.ba x), undef, undef, undef, undef, undef, undef, undef], defers := [] }) ?assign ?body ?done
  case assign =>
    intro l x W K hK
    gi_wp2
    exact hK
  case body =>
    rintro l k x W ⟨u, hu, ho, hb, h4⟩ hx
    have hkl : k < (Ev.spl [] s.data.toList).length := (List.getElem?_eq_some_iff.1 hx).1
    have hsl := spl_len s.data.toList []
    have hsz : s.data.toList.length = s.size := by simp
    have hk32 : k ≤ 4294967297 := by omega
    have hnx := dots_next hx
    have cu := hu.cell (i := 0) rfl
    obtain ⟨i0, hi, hz0, hz1, hz2⟩ := info_parts strInfo9
    have hob := fun g (hg : u.ownBlock = some g) => (ho.lt g hg).1
    have Hu := hide hu
    have Ho := hide ho
    have Hb := hide hb
    have Hnx := hide hnx
    have Hob := hide hob
    obtain ⟨d, hd⟩ : ∃ d, Ev.dot x = d := ⟨_, rfl⟩
    rw [hd] at hnx
    have Hd := hide hd
    have fin : ∀ (v' : Value) (w1 : World) (tmp : Obj), w1.ownsRow (w.heap.size + 4) 9 1 v' (k + 1) (dots s.data.toList k ++ [Value.string d]) → (W.alloc tmp).grownBy w1 u.ownBlock → tmp.isCells = true → (w1.cell? ⟨w.heap.size, 0, none⟩ = some u ∧ w1.frozen? ⟨w.heap.size, 0, none⟩ = false) ∧ KeepsOthers W (w1.setCell ⟨w.heap.size, 0, none⟩ v') ∧ (∀ j, w.heap.size + 1 ≤ j → j < w.heap.size + 1 + 3 → (w1.setCell ⟨w.heap.size, 0, none⟩ v').heap[j]? = W.heap[j]?) ∧ LsI w s.data.toList (k + 1) (w1.setCell ⟨w.heap.size, 0, none⟩ v') := by
      intro v' w1 tmp ho1 hg1 htc
      have hne : ∀ j, j < w.heap.size + 4 → u.ownBlock ≠ some j := fun j hj e => by have := (unhide Hob) _ e; omega
      have hsame : ∀ j, j < w.heap.size + 4 → w1.heap[j]? = W.heap[j]? := fun j hj => (hg1.block j (by simp; omega) (fun e => hne j hj e.symm)).trans (Below.heap_alloc _ _ _ (by omega))
      have hbx : Blk w1 w.heap.size 22 [u] := (hsame _ (by omega)).trans (unhide Hu)
      refine ⟨⟨hbx.cell (i := 0) rfl, hbx.free 0⟩, ?_, fun j h1 h2 => ?_, ⟨v', ?_, ?_, ?_, ?_⟩⟩
      · refine ((KeepsOthers.alloc W tmp).trans (KeepsOthers.of_grownBy hg1 fun j o ej hj => ?_)).trans (KeepsOthers.setCell _ _ _)
        rcases ((unhide Ho).alloc tmp).2 with ⟨rfl, _⟩ | ⟨g, cap, cur, rfl, _, hgb, _⟩
        · simp [Value.ownBlock] at ej
        · obtain rfl : g = j := by simpa [Value.ownBlock] using ej
          rw [hgb] at hj; cases hj; rfl
      · exact (heap_setCell_other _ _ _ _ (by show j ≠ w.heap.size; omega)).trans (hsame j (by omega))
      · exact hbx.set 0 v'
      · rw [dots_next hx, hd]
        exact own_keepB ho1 (fun g hg => heap_setCell_other _ _ _ _ (by have := (ho1.lt g hg).1; show g ≠ w.heap.size; omega))
      · exact (((unhide Hb).alloc (unhide Hb).size tmp).grown hg1 (by simp; omega) (fun g hg => by have := (unhide Hob) g hg; omega)).setCell (by simp) _
      · have := hg1.size
        simp at this ⊢
        omega
    have Hfin := hide fin
    clear hu ho hb hnx hob fin hx hd
    by_cases hxe : x = []
    · subst hxe
      have b1 : (Ev.ba []).toList.isEmpty = true := by rw [ba_isEmpty]; rfl
      have b2 : (Ev.ba []).toList = [] := List.isEmpty_iff.1 b1
      obtain rfl : Ev.ba [46] = d := unhide Hd
      gi_wp2_with (gi_at_builtin; refine wpListIn_append_own _ rfl _ _ 22 rfl (w.heap.size + 4) 9 i0 (.string ⟨#[]⟩) 1 16 Tryd.underlying22 hi hz0 hz1 hz2 rfl (by decide) _ _ _ rfl ((unhide Ho).alloc _) ⟨W.heap.size, 0, none⟩ 1 1 [.string ⟨#[46]⟩] rfl rfl (cell_one_new _ _ _) (by simp [Value.oneCell']) (by unfold maxLen; omega) (by omega) (by simp; omega) ?_; intro v' w1 hown' hgrow _; obtain ⟨g', cap', rfl⟩ := ownsRow_succ hown'; obtain ⟨⟨hc1, hf1⟩, hko, hbs, hls⟩ := (unhide Hfin) _ _ _ hown' hgrow rfl; have Hko := hide hko; have Hbs := hide hbs; have Hls := hide hls; clear hko hbs hls hown' hgrow)
      exact ⟨unhide Hko, unhide Hbs, unhide Hls⟩
    · have b1 : (Ev.ba x).toList.isEmpty = false := by
        rw [ba_isEmpty]
        cases x with
        | nil => exact absurd rfl hxe
        | cons a r => rfl
      have b2 : ¬ (Ev.ba x).toList = [] := by rw [← List.isEmpty_iff, b1]; simp
      obtain rfl : Ev.ba x = d := by have := unhide Hd; unfold Ev.dot at this; rwa [if_neg hxe] at this
      gi_wp2_with (gi_at_builtin; refine wpListIn_append_own _ rfl _ _ 22 rfl (w.heap.size + 4) 9 i0 (.string ⟨#[]⟩) 1 16 Tryd.underlying22 hi hz0 hz1 hz2 rfl (by decide) _ _ _ rfl ((unhide Ho).alloc _) ⟨W.heap.size, 0, none⟩ 1 1 [.string (Ev.ba x)] rfl rfl (cell_one_new _ _ _) (by simp [Value.oneCell']) (by unfold maxLen; omega) (by omega) (by simp; omega) ?_; intro v' w1 hown' hgrow _; obtain ⟨g', cap', rfl⟩ := ownsRow_succ hown'; obtain ⟨⟨hc1, hf1⟩, hko, hbs, hls⟩ := (unhide Hfin) _ _ _ hown' hgrow rfl; have Hko := hide hko; have Hbs := hide hbs; have Hls := hide hls; clear hko hbs hls hown' hgrow)
      exact ⟨unhide Hko, unhide Hbs, unhide Hls⟩
  case done =>
    rintro D W ⟨u, hu, ho, hb, h4⟩ hD hK
    rw [dots_all _ (unhide Hne)] at ho
    have hll : (Ev.list s.data.toList).length = (Ev.spl [] s.data.toList).length := by unfold Ev.list; rw [if_neg (unhide Hne), List.length_map]
    obtain ⟨A, c, rfl⟩ := own_form ho
    have cu := hu.cell (i := 0) rfl
    have fu := hu.free 0
    have hK' := (KeepsOthers.setCell W ⟨w.heap.size, 0, none⟩ (.slice A (Ev.spl [] s.data.toList).length c)).same D _ hK rfl
    have hset : Blk (W.setCell ⟨w.heap.size, 0, none⟩ (.slice A (Ev.spl [] s.data.toList).length c)) w.heap.size 22 [.slice A (Ev.spl [] s.data.toList).length c] := hu.set 0 _
    have hos : (W.setCell ⟨w.heap.size, 0, none⟩ (.slice A (Ev.spl [] s.data.toList).length c)).ownsRow (w.heap.size + 4) 9 1 (.slice A (Ev.spl [] s.data.toList).length c) (Ev.spl [] s.data.toList).length ((Ev.list s.data.toList).map Value.string) := own_keepB ho (fun g hg => heap_setCell_other _ _ _ _ (by have := (ho.lt g hg).1; show g ≠ w.heap.size; omega))
    have hbs : Below w.heap.size w (W.setCell ⟨w.heap.size, 0, none⟩ (.slice A (Ev.spl [] s.data.toList).length c)) := hb.setCell (by simp) _
    have Hs := hide (And.intro hset (And.intro hos hbs))
    have HK' := hide hK'
    have Hll := hide hll
    clear hu ho hb hK hK' hset hos hbs hll
    gi_wp2
    refine ⟨by simp, .inl ⟨_, _, rfl, run_takeDeferred (unhide HK'), ?_⟩⟩
    obtain ⟨hset, hos, hbs⟩ := unhide Hs
    have hDl : D ≠ w.heap.size := by omega
    have hc5 : ((W.setCell ⟨w.heap.size, 0, none⟩ (.slice A (Ev.spl [] s.data.toList).length c)).putObj D (.deferred none)).cell? ⟨w.heap.size, 0, none⟩ = some (.slice A (Ev.spl [] s.data.toList).length c) := Blk.cell (i := 0) ((World.putObj_heap_other hDl.symm).trans hset) rfl
    refine ⟨.slice A (Ev.spl [] s.data.toList).length c, ?_, .slice A (Ev.spl [] s.data.toList).length c, rfl, ?_, ?_⟩
    · simp [results, Tryd.f27, go_sem, hc5]
    · rw [unhide Hll]
      exact own_base (ownsRow_putObj hos _ (unhide HK') rfl) (by omega)
    · exact hbs.trans ⟨rfl, rfl, rfl, by simp, fun k hk => World.putObj_heap_other (by omega)⟩
end Go.Proofs.YtlcdilgniimnlaaDoor
namespace Go.Proofs.YtlcdilgniimnlaaDoor
open Go.RowKit
theorem list_any (s : ByteArray) (w : World) (hs : s.size ≤ 4294967296) : Calls Tryd.prog 27 #[.string s] w (ListE s.data.toList w) := by
  by_cases hne : s.data.toList = []
  · have hem : s.toList.isEmpty = true := by rw [Lib.toList_data, hne]; rfl
    have q2 : s.toList = [] := List.isEmpty_iff.1 hem
    rw [hne]
    clear hne
    go_enter Tryd.func27, Tryd.ntmps27
    go_wp2_with fail
    exact bodyPost_ret (v := .slice none 0 0) (by simp [results, Tryd.f27, go_sem]) rfl ⟨.slice none 0 0, rfl, World.ownsRow_nil _ _ _ _, (Below.refl _ _).alloc (Nat.le_refl _) _⟩
  · exact callsIn_wide.1 (list_in s w hs hne)
end Go.Proofs.YtlcdilgniimnlaaDoor
namespace Go.Proofs.YtlcdilgniimnlaaDoor
set_option linter.unusedVariables false
set_option linter.unusedSimpArgs false
open Go.RowKit

theorem take_ext {α : Type} {xs ys : List α} {k : Nat} {x : α} (h : xs.take k = ys.take k) (hx : xs[k]? = some x) (hy : ys[k]? = some x) : xs.take (k + 1) = ys.take (k + 1) := by
  rw [List.take_add_one, List.take_add_one, h, hx, hy]

set_option maxHeartbeats 1000000 in
theorem eqTexts_any (A B : Option Addr) (n m c d K : Nat) (xs ys : List ByteArray) (w : World) (ha : Rd w K 1 A n (xs.map Value.string)) (hb : Rd w K 1 B m (ys.map Value.string)) (hn : n ≤ maxLen) (hm : m ≤ maxLen) :
    Calls Tryd.prog 22 #[.slice A n c, .slice B m d] w fun e w' => e = .returned (.bool (decide (xs = ys))) ∧ ∃ j, w' = w.drewN j := by
  have hxl : xs.length = n := by simpa using ha.len1
  have hyl : ys.length = m := by simpa using hb.len1
  unfold maxLen at hn hm
  have Hxl := hide hxl
  have Hyl := hide hyl
  have Ha := hide ha
  have Hb := hide hb
  clear hxl hyl ha hb
  go_enter Tryd.func22, Tryd.ntmps22
  go_wp2
  go_loopw [5] (fun at_ wr => ∃ k j : Nat, at_ = .int .i64 k ∧ k ≤ n ∧ k ≤ m ∧ xs.take k = ys.take k ∧ wr = w.drewN j) (fun at_ _ => n - (intOf at_).toNat)
  case atStart => exact ⟨0, 0, rfl, Nat.zero_le _, Nat.zero_le _, rfl, rfl⟩
  case round =>
    obtain ⟨k, j, rfl, hkn, hkm, htk, rfl⟩ := hrel
    have Htk := hide htk
    clear htk
    by_cases h1 : k < n
    · have d1 : decide (k < n) = true := by simpa using h1
      have i1 : (k : Int) < (n : Int) := by omega
      by_cases h2 : k < m
      · have d2 : decide (k < m) = true := by simpa using h2
        have i2 : (k : Int) < (m : Int) := by omega
        obtain ⟨x, hx⟩ : ∃ x, xs[k]? = some x := ⟨_, List.getElem?_eq_getElem (by rw [unhide Hxl]; exact h1)⟩
        obtain ⟨y, hy⟩ : ∃ y, ys[k]? = some y := ⟨_, List.getElem?_eq_getElem (by rw [unhide Hyl]; exact h2)⟩
        obtain ⟨b1, o1, rfl, _, c1⟩ := (unhide Ha).at_ (k := k) (u := .string x) (by simp [hx])
        obtain ⟨b2, o2, rfl, _, c2⟩ := (unhide Hb).at_ (k := k) (u := .string y) (by simp [hy])
        have Hx := hide hx
        have Hy := hide hy
        have hbq := beq_toList x y
        clear hx hy
        by_cases he : x = y
        · have q : (x.toList == y.toList) = true := by rw [hbq]; simpa using he
          subst he
          clear hbq
          go_wp2
          go_quiet (fail)
          go_wp2
          go_round
          case rel => exact ⟨k + 1, j + nq, by go_num, by omega, by omega, take_ext (unhide Htk) (unhide Hx) (unhide Hy), rfl⟩
          case measure => simp [intOf]; omega
        · have q : (x.toList == y.toList) = false := by rw [hbq]; simpa using he
          have He := hide he
          clear hbq he
          go_wp2
          go_quiet (fail)
          go_wp2
          go_ret
          refine ⟨ret_bool ?_, _, rfl⟩
          symm
          simp only [decide_eq_false_iff_not]
          rintro rfl
          exact unhide He (Option.some.inj ((unhide Hx).symm.trans (unhide Hy)))
      · have d2 : decide (k < m) = false := by simpa using h2
        go_wp2
        go_quiet (fail)
        go_wp2
        go_ret
        refine ⟨ret_bool ?_, _, rfl⟩
        symm
        simp only [decide_eq_false_iff_not]
        rintro rfl
        have := unhide Hxl
        have := unhide Hyl
        omega
    · have d1 : decide (k < n) = false := by simpa using h1
      go_wp2
      go_quiet (fail)
      go_wp2
      go_ret
      refine ⟨ret_bool ?_, _, rfl⟩
      have hl1 := unhide Hxl
      have hl2 := unhide Hyl
      rw [Bool.eq_iff_iff, beq_iff_eq, decide_eq_true_eq]
      constructor
      · intro e
        have e' := unhide Htk
        rwa [List.take_of_length_le (by omega), List.take_of_length_le (by omega)] at e'
      · rintro rfl
        omega

end Go.Proofs.YtlcdilgniimnlaaDoor
