/- The plain mathematics of paths: a text cut at its slashes. No program in sight. No conditions. The plain mathematics of a file system that never changes: its nodes, who may what, where paths lead. No program in sight. No conditions. The plain file system: what New makes is good. No conditions. The plain file system: more of names and of where a walk stands. No conditions. The plain file system: the names from the root on. No conditions. The plain file system: who is not refused goes where Euid 0 goes. No conditions. The plain mathematics of words: numbers of bytes, sums below 2^64, pages. No program in sight. No conditions. The plain mathematics of calls: which calls may be, their bytes, what bytes say. No program in sight. No conditions. Scripts: the plain answers. No program in sight. No conditions. The plain law of environments: what a text says, and what is there behind a set, an unset, a scrub. No program in it. No conditions. The plain law of environments, the second part: what is not safe, and the directories between colons. No program in it. No conditions. Plain lemmas on worlds that every walk of this seat uses: slices that read as lists of cells, what stays below a block. No conditions. A map that is made of constants: its entries in their order; a new key put in, a key looked up. No conditions. Results that lie in memory beside one that does not. No conditions. The walk of calls.fields: a map of constants. No conditions. Laws of the walk for append onto a slice that the call itself owns, the source read by 'Rd' or one new element. No conditions. The walks of pieces and Check of the package paths, of any text. Condition: the texts are no longer than the model's greatest length. The walks of the package words: Add, Down, Up, Inside, sized, check, Get. Conditions: the numbers fit their kinds. The walks of envs.Check, of its reference, and of the helpers of calls.Check. Conditions: the lists and texts are no longer than the model's greatest length. The walks of strings.Cut at one byte, of envs.Split, of the predicates that envs hands to the library. Conditions: no text is longer than the model's greatest length. The walks of hostelref21.blank and trimmed. Conditions: the text has fewer than 2^62 bytes. A row of the call's own that is written element by element. No conditions. The walks of the references that hold bytes: EqBytes, Roomy, Kept. Conditions: there are fewer than 2^32 bytes. string(b) of bytes that are read; parts of what is read. No conditions. A region's lexical order serves every order: a check that the kernel does in little time also where the region is long. No conditions. The walk of hostelref21.Parse. Conditions: there are fewer than 2^32 bytes. -/
import Derived.Laws.RangeAny
import Derived.Lib.Strings
import Derived.Lib.LastIndexByte
import Derived.Lib.Join
import Derived.Laws.BitsAllLaws
import Derived.Laws.Entries
import Derived.Lib.SlTrimSet
import Derived.Lib.IndexAny
import Derived.Lib.IndexLaws
import Derived.Lib.Bytealg
import Derived.WalkKit
import Derived.Below
import Derived.Lib.Hide
import Derived.Lib.OthersKept
import Derived.Deep.Draws
import Derived.Laws.OwnMore
import Derived.WalkSmall
import Derived.OneCell
import Derived.Maps.Own
import Derived.Laws.Rows
import Derived.Laws.Tables
import Derived.Laws.ResultCell
import Derived.Test.YtfegfmapdekkbaaGreatDoorProg
import Derived.WalkSpells
import Derived.WalkLawsBesides
import Derived.Maps.AppendAt
import Derived.OwnWalk
import Derived.Test.YtfegfmapdekkbaaGreatDoorShelf
import Derived.Deep.RegionWith
import Derived.BigQuiet
import Derived.Deep.QuietTactic
import Derived.Deep.LoopGhost
import Derived.IntWalk
import Derived.Laws.BytesArg
import Derived.Laws.IdiomStrings
namespace Go.Proofs.YtfegfmapdekkbaaGreatDoor.Pth
set_option linter.unusedVariables false
set_option linter.unusedSimpArgs false

/-- The texts between slashes: of the text s, r being what is left of it at place i, the running piece begun at f. -/
def pcsL (s : ByteArray) : List UInt8 → Nat → Nat → List ByteArray
  | [], i, f => [s.extract f i]
  | c :: r, i, f => if c = 47 then s.extract f i :: pcsL s r (i + 1) (i + 1) else pcsL s r (i + 1) f

def pcs (s : ByteArray) : List ByteArray := pcsL s s.data.toList 0 0
/-- what is still to come at place i, the running piece begun at f. -/
def pcsAt (s : ByteArray) (i f : Nat) : List ByteArray := pcsL s (s.data.toList.drop i) i f

theorem drop_cons (s : ByteArray) (i : Nat) (h : i < s.size) : s.data.toList.drop i = s[i] :: s.data.toList.drop (i + 1) := by
  have h' : i < s.data.toList.length := by simpa using h
  rw [List.drop_eq_getElem_cons h']
  rfl

theorem pcsAt_end (s : ByteArray) (f : Nat) : pcsAt s s.size f = [s.extract f s.size] := by
  unfold pcsAt
  rw [List.drop_of_length_le (by simp)]
  rfl
theorem pcsAt_slash (s : ByteArray) (i f : Nat) (h : i < s.size) (hc : s[i] = 47) : pcsAt s i f = s.extract f i :: pcsAt s (i + 1) (i + 1) := by
  unfold pcsAt
  rw [drop_cons s i h]
  simp [pcsL, hc]
theorem pcsAt_skip (s : ByteArray) (i f : Nat) (h : i < s.size) (hc : s[i] ≠ 47) : pcsAt s i f = pcsAt s (i + 1) f := by
  unfold pcsAt
  rw [drop_cons s i h]
  simp [pcsL, hc]
theorem pcsAt_skips (s : ByteArray) (f : Nat) (d : Nat) : ∀ i, (∀ j, i ≤ j → j < i + d → ∃ h : j < s.size, s[j] ≠ 47) → pcsAt s i f = pcsAt s (i + d) f := by
  induction d with
  | zero => intro i _; rfl
  | succ d ih =>
    intro i h
    obtain ⟨hi, hc⟩ := h i (Nat.le_refl _) (by omega)
    rw [pcsAt_skip s i f hi hc, ih (i + 1) (fun j h1 h2 => h j (by omega) (by omega))]
    congr 1
    omega

theorem get_at (s : ByteArray) (pos k : Nat) (h : pos + k < s.size) : s.get! (pos + k) = s[pos + k]'h := by
  simp [ByteArray.get!, getElem!_pos, h]
  rfl

theorem high_ne (c : UInt8) (h : c.toNat / 64 = 2) : c ≠ 47 := by
  intro e
  subst e
  simp at h

/-- What a rune of a text covers: at least a byte, no more than there is; it is a slash just if its first byte is one, and no later byte of it is a slash. -/
theorem decode_cover (s : ByteArray) (pos : Nat) (h : pos < s.size) :
    1 ≤ (Utf8.decode s pos).2 ∧ pos + (Utf8.decode s pos).2 ≤ s.size ∧ ((Utf8.decode s pos).1 = 47 ↔ s[pos] = 47) ∧ (s[pos] = 47 → (Utf8.decode s pos).2 = 1) ∧
    (s[pos] ≠ 47 → ∀ j, pos ≤ j → j < pos + (Utf8.decode s pos).2 → ∃ hj : j < s.size, s[j] ≠ 47) := by
  have e0 : s.get! (pos + 0) = s[pos] := get_at s pos 0 (by simpa using h)
  have eq47 : s[pos] = 47 ↔ s[pos].toNat = 47 := by
    constructor
    · intro e; rw [e]; rfl
    · intro e; exact UInt8.toNat_inj.1 (by rw [e]; rfl)
  by_cases ha : s[pos].toNat < 128
  · have hd : Utf8.decode s pos = (s[pos].toNat, 1) := decode_ascii s pos h ha
    rw [hd]
    refine ⟨Nat.le_refl _, by simp only; omega, by simp only [eq47], fun _ => rfl, fun hn j h1 h2 => ?_⟩
    obtain rfl : j = pos := by simp only at h2; omega
    exact ⟨h, hn⟩
  · have hn47 : s[pos] ≠ 47 := by rw [ne_eq, eq47]; omega
    have key : ∃ c d, Utf8.decode s pos = (c, d) ∧ 1 ≤ d ∧ pos + d ≤ s.size ∧ c ≠ 47 ∧ ∀ k, 1 ≤ k → k < d → pos + k < s.size ∧ (s.get! (pos + k)).toNat / 64 = 2 := by
      simp only [Utf8.decode, e0, ha, if_false]
      repeat' split
      all_goals (refine ⟨_, _, rfl, by omega, ?_, ?_, ?_⟩)
      all_goals simp only [Bool.and_eq_true, decide_eq_true_eq, beq_iff_eq] at *
      all_goals first
        | omega
        | (simp [Utf8.runeError]; done)
        | (intro k h1 h2; omega)
        | (intro k h1 h2
           have hk : k = 1 ∨ k = 2 ∨ k = 3 := by omega
           rcases hk with rfl | rfl | rfl <;> first | (exfalso; omega) | (refine ⟨?_, ?_⟩ <;> omega))
    obtain ⟨c, d, hd, h1, h2, h3, h4⟩ := key
    rw [hd]
    refine ⟨h1, h2, by simp [h3, hn47], fun e => absurd e hn47, fun _ j hj1 hj2 => ?_⟩
    rcases Nat.eq_or_lt_of_le hj1 with rfl | hlt
    · exact ⟨h, hn47⟩
    · obtain ⟨k, rfl⟩ : ∃ k, j = pos + k := ⟨j - pos, by omega⟩
      obtain ⟨hs, hh⟩ := h4 k (by omega) (by simpa using hj2)
      refine ⟨hs, ?_⟩
      rw [get_at s pos k hs] at hh
      exact high_ne _ hh

/-- A yield that may end it: what becomes of the state over a list of pieces. -/
def goF {S : Type} (step : S → ByteArray → S × Bool) : S → List ByteArray → S
  | s, [] => s
  | s, x :: r => if (step s x).2 then goF step (step s x).1 r else (step s x).1

/-- Check's answer. -/
def tooLong (x : ByteArray) : Bool := decide (32 < x.size)
def chk (p : ByteArray) : Int :=
  if p.size = 0 then 3 else if p.data.toList.contains 0 then 1 else if 200 < p.size then 11 else if (pcs p).any tooLong then 11 else 0
def checkStep (e : Int) (x : ByteArray) : Int × Bool := if 32 < x.size then (11, false) else (e, e == 0)
theorem goF_check (l : List ByteArray) : goF checkStep 0 l = if l.any tooLong then 11 else 0 := by
  induction l with
  | nil => rfl
  | cons x r ih =>
    by_cases h : 32 < x.size
    · simp [goF, checkStep, h, tooLong]
    · simp [goF, checkStep, h, tooLong, ih]

/-- The parts: all pieces that are no empty text and no point. -/
def isPart (x : ByteArray) : Bool := !(x.data.toList == []) && !(x.data.toList == [46])
def parts (p : ByteArray) : List ByteArray := (pcs p).filter isPart
def partsStep (l : List ByteArray) (x : ByteArray) : List ByteArray × Bool := (if isPart x then l ++ [x] else l, true)
theorem goF_parts (l : List ByteArray) : ∀ acc, goF partsStep acc l = acc ++ l.filter isPart := by
  induction l with
  | nil => intro acc; simp [goF]
  | cons x r ih =>
    intro acc
    by_cases h : isPart x
    · simp [goF, partsStep, h, ih]
    · simp [goF, partsStep, h, ih]

/-- What Parts answers: the list, and whether it begins at the root; nothing beside an error. -/
def partsL (p : ByteArray) : List ByteArray := if chk p = 0 then parts p else []
def rootB (p : ByteArray) : Bool := decide (chk p = 0) && Lib.hasPrefix p.data.toList [47]
theorem chk_size (p : ByteArray) (h : chk p = 0) : p.size ≤ 200 := by
  unfold chk at h
  repeat' split at h
  all_goals first | omega | (cases h)

/-! ### Join, Base, Dir, Tail -/
def headB (p : ByteArray) : Bool := Lib.hasPrefix p.data.toList [47]
def tailB (p : ByteArray) : Bool := Lib.hasSuffix p.data.toList [47]
def slash : ByteArray := ⟨#[47]⟩
def joinB (d p : ByteArray) : ByteArray := if d.size = 0 ∨ headB p = true then p else if tailB d = true then d ++ p else d ++ slash ++ p
def lastB (p : ByteArray) : Int := Lib.lastIndexByte p 47
def baseB (p : ByteArray) : ByteArray := p.extract (lastB p + 1).toNat p.size
def dirB (p : ByteArray) : ByteArray := if lastB p = -1 then ⟨#[46]⟩ else if lastB p = 0 then ⟨#[47]⟩ else p.extract 0 (lastB p).toNat

theorem lastB_bd (p : ByteArray) : -1 ≤ lastB p ∧ lastB p + 1 ≤ p.size := by
  unfold lastB
  rcases Lib.lastIndexByte_spec p 47 with ⟨h, _⟩ | ⟨i, hi, h, _⟩
  · rw [h]; omega
  · rw [h]; omega
theorem data_get (s : ByteArray) (i : Nat) (h : i < s.size) : s.data[i]! = s[i] := by
  have h' : i < s.data.size := h
  rw [getElem!_pos s.data i h']
  rfl
theorem lastIdx_step (p : ByteArray) (i : Nat) (h : i < p.size) : Lib.lastIdx p 47 (i + 1) = if ((p[i].toNat : Nat) : Int) = 47 then (i : Int) else Lib.lastIdx p 47 i := by
  have e := data_get p i h
  simp only [Lib.lastIdx, e]
theorem headB_iff (p : ByteArray) : headB p = decide (∃ h : 0 < p.size, p[0] = 47) := by
  rw [Bool.eq_iff_iff, decide_eq_true_eq]
  unfold headB Lib.hasPrefix
  obtain ⟨⟨l⟩⟩ := p
  cases l with
  | nil =>
    constructor
    · intro h; cases h
    · rintro ⟨h, _⟩; cases h
  | cons a r =>
    show ([47].isPrefixOf (a :: r)) = true ↔ _
    simp only [List.isPrefixOf, Bool.and_true, beq_iff_eq]
    exact ⟨fun h => ⟨Nat.succ_pos _, h.symm⟩, fun h => h.2.symm⟩
theorem tailB_iff (p : ByteArray) (h : 0 < p.size) : tailB p = decide (p[p.size - 1]'(by omega) = 47) := by
  rw [Bool.eq_iff_iff, decide_eq_true_eq]
  unfold tailB Lib.hasSuffix
  obtain ⟨⟨l⟩⟩ := p
  have hne : l ≠ [] := by rintro rfl; cases h
  rw [List.isSuffixOf_iff_suffix]
  have e : (ByteArray.mk ⟨l⟩)[(ByteArray.mk ⟨l⟩).size - 1]'(by omega) = l.getLast hne := by
    rw [List.getLast_eq_getElem]
    rfl
  rw [e]
  constructor
  · rintro ⟨t, ht⟩
    have h2 : l = t ++ [47] := ht.symm
    subst h2
    exact List.getLast_concat
  · intro h47
    refine ⟨l.dropLast, ?_⟩
    rw [← h47]
    exact List.dropLast_concat_getLast hne
theorem tailB_empty (p : ByteArray) (h : p.size = 0) : tailB p = false := by
  obtain ⟨⟨l⟩⟩ := p
  have : l = [] := List.eq_nil_of_length_eq_zero h
  subst this
  rfl

end Go.Proofs.YtfegfmapdekkbaaGreatDoor.Pth
namespace Go.Proofs.YtfegfmapdekkbaaGreatDoor.Vf
set_option linter.unusedVariables false
set_option linter.unusedSimpArgs false

structure Meta where
  kind : Nat
  mode : Nat
  uid : Nat
  gid : Nat
  size : Nat
deriving DecidableEq
/-- A node: what is known of it, its directory's number, its name there, a file's bytes, where a link leads. -/
structure Nd where
  m : Meta
  up : Nat
  name : ByteArray
  data : List UInt8
  to : ByteArray
structure Ent where
  path : ByteArray
  kind : Nat
  mode : Nat
  uid : Nat
  gid : Nat
  data : List UInt8
  to : ByteArray
structure Cred where
  uid : Nat
  euid : Nat
  suid : Nat
  gid : Nat
  groups : List Nat

def dd : ByteArray := ⟨#[46, 46]⟩

/-! Who may what. -/
def cls (c : Cred) (m : Meta) : Nat := if c.euid = m.uid then 0 else if c.gid = m.gid ∨ m.gid ∈ c.groups then 1 else 2
def bits (m : Meta) (k : Nat) : Nat := if k = 0 then m.mode / 64 % 8 else if k = 1 then m.mode / 8 % 8 else m.mode % 8
def mayX (c : Cred) (m : Meta) : Bool := if c.euid = 0 then decide (m.kind = 2) || decide (bits m 0 % 2 = 1) || decide (bits m 1 % 2 = 1) || decide (bits m 2 % 2 = 1) else decide (bits m (cls c m) % 2 = 1)

/-! The nodes by their names. -/
def isKid (dir : Nat) (name : ByteArray) (x : Nd) : Bool := decide (x.up = dir) && decide (x.name = name)
/-- The node of a name in a directory; the root is nobody's. -/
def child (F : List Nd) (dir : Nat) (name : ByteArray) : Option Nat := ((F.drop 1).findIdx? (isKid dir name)).map (· + 1)
def at_ (F : List Nd) : Nat → List ByteArray → Option Nat
  | n, [] => some n
  | n, p :: r => match child F n p with
    | none => none
    | some i => at_ F i r

/-- What an entry by itself may not be. -/
def may (e : Ent) : Int :=
  if ¬ (1 ≤ e.kind ∧ e.kind ≤ 3) ∨ e.mode &&& 2559 ≠ e.mode then 1
  else if Pth.chk e.path ≠ 0 ∨ Pth.rootB e.path = false ∨ (Pth.partsL e.path).isEmpty = true ∨ Pth.tailB e.path = true ∨ (Pth.partsL e.path).any (fun x => decide (x = dd)) = true then 1
  else if (e.kind ≠ 1 ∧ e.data ≠ []) ∨ (e.kind ≠ 3 ∧ e.to.size ≠ 0) ∨ (e.kind = 3 ∧ Pth.chk e.to ≠ 0) then 1
  else if 65536 < e.data.length then 12 else 0
def lastOf (l : List ByteArray) : ByteArray := l.getLast?.getD ⟨#[]⟩
/-- The node that an entry makes. -/
def ndOf (e : Ent) (up : Nat) : Nd := ⟨⟨e.kind, e.mode, e.uid, e.gid, e.data.length⟩, up, lastOf (Pth.partsL e.path), e.data, e.to⟩
def kindAt (F : List Nd) (i : Nat) : Nat := match F[i]? with
  | none => 0
  | some x => x.m.kind
def add (F : List Nd) (e : Ent) : Int × List Nd :=
  if may e ≠ 0 then (may e, F)
  else if (at_ F 0 (Pth.partsL e.path)).isSome then (7, F)
  else match at_ F 0 (Pth.partsL e.path).dropLast with
    | none => (3, F)
    | some up => if kindAt F up ≠ 2 then (8, F) else (0, F ++ [ndOf e up])
def root : Nd := ⟨⟨2, 493, 0, 0, 0⟩, 0, ⟨#[]⟩, [], ⟨#[]⟩⟩
/-- New's loop: the error, the entry's number, the nodes so far. -/
def adds : List Nd → Nat → List Ent → Int × Nat × List Nd
  | F, i, [] => (0, 0, F)
  | F, i, e :: r => if (add F e).1 ≠ 0 then ((add F e).1, i, F) else adds (add F e).2 (i + 1) r

/-! Where paths lead. -/
structure St where
  at_ : Nat
  links : Nat
  left : List ByteArray
def nd (F : List Nd) (i : Nat) : Nd := F[i]?.getD root
/-- One part: an end (the error, the node), or where the walk stands then. -/
def hop (F : List Nd) (c : Cred) (last : Bool) (s : St) : Sum (Int × Nat) St :=
  match s.left with
  | [] => .inl (0, s.at_)
  | p :: r =>
    if kindAt F s.at_ ≠ 2 then .inl (8, 0)
    else if mayX c (nd F s.at_).m = false then .inl (5, 0)
    else if p = dd then .inr ⟨(nd F s.at_).up, s.links, r⟩
    else match child F s.at_ p with
      | none => .inl (3, 0)
      | some n =>
        if kindAt F n ≠ 3 ∨ (r = [] ∧ last = false) then .inr ⟨n, s.links, r⟩
        else if 8 ≤ s.links then .inl (10, 0)
        else .inr ⟨if Pth.rootB (nd F n).to then 0 else s.at_, s.links + 1, Pth.partsL (nd F n).to ++ r⟩
def go (F : List Nd) (c : Cred) (last : Bool) : Nat → St → Int × Nat
  | 0, s => (0, 0)
  | k + 1, s => match hop F c last s with
    | .inl x => x
    | .inr s' => go F c last k s'
theorem parts_len (p : ByteArray) : (Pth.partsL p).length ≤ 201 := by
  unfold Pth.partsL
  split
  case isFalse => simp
  case isTrue h =>
    have h1 : (Pth.parts p).length ≤ (Pth.pcs p).length := List.length_filter_le _ _
    have h2 : ∀ (l : List UInt8) (i f : Nat), (Pth.pcsL p l i f).length ≤ l.length + 1 := by
      intro l
      induction l with
      | nil => intro i f; simp [Pth.pcsL]
      | cons c r ih =>
        intro i f
        have a := ih (i + 1) f
        have b := ih (i + 1) (i + 1)
        unfold Pth.pcsL
        split <;> simp <;> omega
    have h3 := h2 p.data.toList 0 0
    have h4 := Pth.chk_size p h
    have h5 : p.data.toList.length = p.size := by simp
    unfold Pth.pcs at h1
    omega
/-- What a walk still has to do at most. -/
def mu (s : St) : Nat := (8 - s.links) * 202 + s.left.length
theorem hop_mu {F : List Nd} {c : Cred} {last : Bool} {s s' : St} (h : hop F c last s = .inr s') : mu s' < mu s := by
  unfold hop at h
  split at h
  · cases h
  · next p r hl =>
    have hlen : s.left.length = r.length + 1 := by rw [hl]; rfl
    split at h
    · cases h
    split at h
    · cases h
    split at h
    · cases h; unfold mu; simp only; omega
    split at h
    · cases h
    · next n hn =>
      split at h
      · cases h; unfold mu; simp only; omega
      split at h
      · cases h
      · next hk =>
        cases h
        have := parts_len (nd F n).to
        unfold mu
        simp only [List.length_append]
        omega
theorem go_more {F : List Nd} {c : Cred} {last : Bool} : ∀ (k : Nat) (s : St), mu s < k → go F c last k s = go F c last (mu s + 1) s := by
  intro k
  induction k using Nat.strongRecOn with
  | ind k ih =>
    intro s hk
    match k, hk with
    | k + 1, hk =>
      unfold go
      cases h : hop F c last s with
      | inl x => rfl
      | inr s' =>
        have hm := hop_mu h
        simp only
        rw [ih k (by omega) s' (by omega)]
        by_cases he : mu s = k
        · rw [he, ih k (by omega) s' (by omega)]
        · rw [ih (mu s) (by omega) s' (by omega)]
/-- Where a walk from a state on ends. -/
def ends (F : List Nd) (c : Cred) (last : Bool) (s : St) : Int × Nat := go F c last (mu s + 1) s
theorem ends_eq (F : List Nd) (c : Cred) (last : Bool) (s : St) : ends F c last s = match hop F c last s with
    | .inl x => x
    | .inr s' => ends F c last s' := by
  have h : ends F c last s = match hop F c last s with
      | .inl x => x
      | .inr s' => go F c last (mu s) s' := rfl
  rw [h]
  cases h : hop F c last s with
  | inl x => rfl
  | inr s' => exact go_more _ _ (hop_mu h)
/-- Walk's answer: the node, the error. -/
def walk (F : List Nd) (c : Cred) (src : Int) (path : ByteArray) (last : Bool) : Nat × Int :=
  if src < 0 ∨ kindAt F src.toNat ≠ 2 then (0, 1)
  else if Pth.chk path ≠ 0 then (0, Pth.chk path)
  else
    let r := ends F c (last || Pth.tailB path) ⟨if Pth.rootB path then 0 else src.toNat, 0, Pth.partsL path⟩
    if r.1 ≠ 0 then (0, r.1) else if Pth.tailB path = true ∧ kindAt F r.2 ≠ 2 then (0, 8) else (r.2, 0)

/-! What is told of a node. -/
def zeroMeta : Meta := ⟨0, 0, 0, 0, 0⟩
def metaOf (F : List Nd) (ino : Int) : Meta × Int := if ino < 0 ∨ F.length ≤ ino.toNat then (zeroMeta, 3) else ((nd F ino.toNat).m, 0)
def readOf (F : List Nd) (ino off n : Int) : List UInt8 × Int :=
  if (metaOf F ino).2 ≠ 0 then ([], (metaOf F ino).2)
  else if (metaOf F ino).1.kind = 2 then ([], 9)
  else if (metaOf F ino).1.kind = 3 ∨ off < 0 ∨ n < 0 then ([], 1)
  else (((nd F ino.toNat).data.drop off.toNat).take n.toNat, 0)
/-- The names from the root on. -/
def names (F : List Nd) : Nat → Nat → List ByteArray
  | 0, i => []
  | k + 1, i => if i = 0 then [] else names F k (nd F i).up ++ [(nd F i).name]
def slashed : List ByteArray → ByteArray
  | [] => ⟨#[]⟩
  | x :: r => ⟨#[47]⟩ ++ x ++ slashed r
def pathOf (F : List Nd) (ino : Int) : ByteArray := if ino < 0 ∨ F.length ≤ ino.toNat then ⟨#[]⟩ else if ino = 0 then ⟨#[47]⟩ else slashed (names F F.length ino.toNat)

/-! What holds of the nodes that New makes. -/
structure Good (F : List Nd) : Prop where
  r : F[0]? = some root
  up : ∀ (i : Nat) (x : Nd), F[i]? = some x → 1 ≤ i → x.up < i ∧ kindAt F x.up = 2
  kind : ∀ (i : Nat) (x : Nd), F[i]? = some x → 1 ≤ x.m.kind ∧ x.m.kind ≤ 3
  mode : ∀ (i : Nat) (x : Nd), F[i]? = some x → x.m.mode < 65536
  size : ∀ (i : Nat) (x : Nd), F[i]? = some x → x.m.size = x.data.length ∧ (x.m.kind ≠ 1 → x.data = []) ∧ x.data.length ≤ 65536
  to : ∀ (i : Nat) (x : Nd), F[i]? = some x → x.m.kind = 3 → Pth.chk x.to = 0
  nmsz : ∀ (i : Nat) (x : Nd), F[i]? = some x → x.name.size ≤ 32
  nm : ∀ (i : Nat) (x : Nd), F[i]? = some x → 1 ≤ i → x.name ≠ dd
  one : ∀ (i j : Nat) (x y : Nd), F[i]? = some x → F[j]? = some y → 1 ≤ i → 1 ≤ j → x.up = y.up → x.name = y.name → i = j
theorem child_some {F : List Nd} (h : Good F) {d i : Nat} {nm : ByteArray} : child F d nm = some i ↔ 1 ≤ i ∧ ∃ x, F[i]? = some x ∧ x.up = d ∧ x.name = nm := by
  unfold child
  rw [Option.map_eq_some_iff]
  constructor
  · rintro ⟨j, hj, rfl⟩
    obtain ⟨hlt, hp, _⟩ := List.findIdx?_eq_some_iff_getElem.1 hj
    unfold isKid at hp
    simp only [Bool.and_eq_true, decide_eq_true_eq] at hp
    exact ⟨by omega, _, (by rw [Nat.add_comm, ← List.getElem?_drop]; exact List.getElem?_eq_getElem hlt), hp⟩
  · rintro ⟨h1, x, hx, rfl, rfl⟩
    obtain ⟨j, rfl⟩ : ∃ j, i = j + 1 := ⟨i - 1, by omega⟩
    have hj : (F.drop 1)[j]? = some x := by rw [List.getElem?_drop, Nat.add_comm]; exact hx
    refine ⟨j, List.findIdx?_eq_some_iff_getElem.2 ⟨(List.getElem?_eq_some_iff.1 hj).1, ?_, ?_⟩, rfl⟩
    · rw [(List.getElem?_eq_some_iff.1 hj).2]
      simp [isKid]
    · intro k hk hp
      have hkl : k < (F.drop 1).length := Nat.lt_trans hk (List.getElem?_eq_some_iff.1 hj).1
      have hke : F[k + 1]? = some (F.drop 1)[k] := by rw [Nat.add_comm, ← List.getElem?_drop]; exact List.getElem?_eq_getElem hkl
      have hq : isKid x.up x.name (F.drop 1)[k] = true := by simpa using hp
      unfold isKid at hq
      simp only [Bool.and_eq_true, decide_eq_true_eq] at hq
      have := h.one _ _ _ _ hke hx (by omega) (by omega) hq.1 hq.2
      omega
end Go.Proofs.YtfegfmapdekkbaaGreatDoor.Vf
namespace Go.Proofs.YtfegfmapdekkbaaGreatDoor.Vf
set_option linter.unusedVariables false
set_option linter.unusedSimpArgs false

theorem parts_sz {p : ByteArray} (h : Pth.chk p = 0) : ∀ x ∈ Pth.partsL p, x.size ≤ 32 := by
  intro x hx
  unfold Pth.partsL at hx
  rw [if_pos h] at hx
  have hm : x ∈ Pth.pcs p := (List.mem_filter.1 hx).1
  unfold Pth.chk at h
  repeat' split at h
  all_goals try (cases h; done)
  next h4 =>
    rw [Bool.not_eq_true, List.any_eq_false] at h4
    have := h4 x hm
    unfold Pth.tooLong at this
    simp at this
    exact this
theorem good_root : Good [root] where
  r := rfl
  up := fun i x h h1 => by
    cases i with
    | zero => omega
    | succ i => simp at h
  kind := fun i x h => by
    cases i with
    | zero => simp at h; subst h; decide
    | succ i => simp at h
  mode := fun i x h => by
    cases i with
    | zero => simp at h; subst h; decide
    | succ i => simp at h
  size := fun i x h => by
    cases i with
    | zero => simp at h; subst h; simp [root]
    | succ i => simp at h
  to := fun i x h hk => by
    cases i with
    | zero => simp at h; subst h; simp [root] at hk
    | succ i => simp at h
  nmsz := fun i x h => by
    cases i with
    | zero => simp at h; subst h; decide
    | succ i => simp at h
  nm := fun i x h h1 => by
    cases i with
    | zero => omega
    | succ i => simp at h
  one := fun i j x y hi hj h1 => by
    cases i with
    | zero => omega
    | succ i => simp at hi
theorem kindAt_lt {F : List Nd} {i : Nat} (h : kindAt F i = 2) : ∃ x, F[i]? = some x ∧ x.m.kind = 2 := by
  unfold kindAt at h
  split at h
  · omega
  · next x hx => exact ⟨x, hx, h⟩
theorem at_app (F : List Nd) (a b : List ByteArray) : ∀ n, at_ F n (a ++ b) = match at_ F n a with
    | none => none
    | some i => at_ F i b := by
  induction a with
  | nil => intro n; rfl
  | cons p r ih =>
    intro n
    show (match child F n p with | none => none | some i => at_ F i (r ++ b)) = match (match child F n p with | none => none | some i => at_ F i r) with | none => none | some i => at_ F i b
    cases child F n p with
    | none => rfl
    | some i => exact ih i
theorem at_lt {F : List Nd} (h : Good F) : ∀ (l : List ByteArray) (n i : Nat), n < F.length → at_ F n l = some i → i < F.length := by
  intro l
  induction l with
  | nil => intro n i hn hi; cases hi; exact hn
  | cons p r ih =>
    intro n i hn hi
    unfold at_ at hi
    cases hc : child F n p with
    | none => rw [hc] at hi; cases hi
    | some j =>
      rw [hc] at hi
      obtain ⟨_, x, hx, _⟩ := (child_some h).1 hc
      exact ih j i (List.getElem?_eq_some_iff.1 hx).1 hi
theorem good_pos {F : List Nd} (h : Good F) : 0 < F.length := (List.getElem?_eq_some_iff.1 h.r).1
theorem lastOf_app {l : List ByteArray} (h : l ≠ []) : l = l.dropLast ++ [lastOf l] := by
  unfold lastOf
  rw [List.getLast?_eq_some_getLast h]
  exact (List.dropLast_concat_getLast h).symm
theorem may_ok {e : Ent} (h : may e = 0) : (1 ≤ e.kind ∧ e.kind ≤ 3) ∧ e.mode &&& 2559 = e.mode ∧ Pth.chk e.path = 0 ∧ Pth.rootB e.path = true ∧ Pth.partsL e.path ≠ [] ∧ Pth.tailB e.path = false ∧ (∀ x ∈ Pth.partsL e.path, x ≠ dd) ∧ (e.kind ≠ 1 → e.data = []) ∧ (e.kind ≠ 3 → e.to.size = 0) ∧ (e.kind = 3 → Pth.chk e.to = 0) ∧ e.data.length ≤ 65536 := by
  unfold may at h
  split at h
  · cases h
  next h1 =>
    split at h
    · cases h
    next h2 =>
      split at h
      · cases h
      next h3 =>
        split at h
        · cases h
        next h4 =>
          simp only [not_or, Decidable.not_not, not_and, Bool.not_eq_true, Bool.not_eq_false] at h1 h2 h3
          obtain ⟨h21, h22, h23, h24, h25⟩ := h2
          refine ⟨by omega, h1.2, h21, h22, ?_, h24, ?_, h3.1, h3.2.1, h3.2.2, by omega⟩
          · intro he; rw [he] at h23; cases h23
          · intro x hx hd
            rw [List.any_eq_false] at h25
            exact h25 x hx (by simpa using hd)
/-- What an entry that may be does. -/
theorem add_ok {F : List Nd} {e : Ent} (h : (add F e).1 = 0) : may e = 0 ∧ ∃ up, at_ F 0 (Pth.partsL e.path) = none ∧ at_ F 0 (Pth.partsL e.path).dropLast = some up ∧ kindAt F up = 2 ∧ (add F e).2 = F ++ [ndOf e up] := by
  unfold add at h ⊢
  split at h
  · next hm => exact absurd h hm
  next hm =>
    rw [if_neg hm]
    split at h
    · cases h
    next ha =>
      rw [if_neg ha]
      split at h
      · cases h
      next up hu =>
        split at h
        · cases h
        next hk =>
          refine ⟨by simpa using hm, up, by simpa using ha, hu, by simpa using hk, ?_⟩
          rw [if_neg hk]
theorem kindAt_app {F : List Nd} {x : Nd} {i : Nat} (h : i < F.length) : kindAt (F ++ [x]) i = kindAt F i := by
  unfold kindAt
  rw [List.getElem?_append_left h]
theorem add_good {F : List Nd} {e : Ent} (hF : Good F) (h : (add F e).1 = 0) : Good (add F e).2 := by
  obtain ⟨hm, up, ha, hu, hk, he⟩ := add_ok h
  obtain ⟨m1, m2, m3, m4, m5, m6, m7, m8, m9, m10, m11⟩ := may_ok hm
  rw [he]
  have hlen : ∀ (i : Nat) (x : Nd), (F ++ [ndOf e up])[i]? = some x → (i < F.length ∧ F[i]? = some x) ∨ (i = F.length ∧ x = ndOf e up) := by
    intro i x hx
    by_cases hi : i < F.length
    · rw [List.getElem?_append_left hi] at hx
      exact .inl ⟨hi, hx⟩
    · rw [List.getElem?_append_right (by omega)] at hx
      have h0 : i - F.length = 0 := by
        have := (List.getElem?_eq_some_iff.1 hx).1
        simp at this
        omega
      rw [h0] at hx
      exact .inr ⟨by omega, by simpa using hx.symm⟩
  obtain ⟨xu, hxu, hxk⟩ := kindAt_lt hk
  have hul : up < F.length := (List.getElem?_eq_some_iff.1 hxu).1
  have hc : child F up (lastOf (Pth.partsL e.path)) = none := by
    have h1 := ha
    rw [lastOf_app m5, at_app, hu] at h1
    cases hq : child F up (lastOf (Pth.partsL e.path)) with
    | none => rfl
    | some j => simp [at_, hq] at h1
  have hno : ∀ (i : Nat) (x : Nd), F[i]? = some x → 1 ≤ i → x.up = up → x.name ≠ lastOf (Pth.partsL e.path) := by
    intro i x hx h1 hup hnm
    have := (child_some hF).2 ⟨h1, x, hx, hup, hnm⟩
    rw [hc] at this
    cases this
  exact {
    r := by rw [List.getElem?_append_left (good_pos hF)]; exact hF.r
    up := fun i x hx h1 => by
      rcases hlen i x hx with ⟨hi, hx⟩ | ⟨rfl, rfl⟩
      · have h2 := hF.up i x hx h1
        exact ⟨h2.1, by rw [kindAt_app (by omega)]; exact h2.2⟩
      · exact ⟨hul, (kindAt_app hul).trans hk⟩
    kind := fun i x hx => by
      rcases hlen i x hx with ⟨hi, hx⟩ | ⟨rfl, rfl⟩
      · exact hF.kind i x hx
      · exact m1
    mode := fun i x hx => by
      rcases hlen i x hx with ⟨hi, hx⟩ | ⟨rfl, rfl⟩
      · exact hF.mode i x hx
      · have h1 : e.mode &&& 2559 ≤ 2559 := Nat.and_le_right
        rw [m2] at h1
        show e.mode < 65536
        omega
    size := fun i x hx => by
      rcases hlen i x hx with ⟨hi, hx⟩ | ⟨rfl, rfl⟩
      · exact hF.size i x hx
      · exact ⟨rfl, m8, m11⟩
    to := fun i x hx hk3 => by
      rcases hlen i x hx with ⟨hi, hx⟩ | ⟨rfl, rfl⟩
      · exact hF.to i x hx hk3
      · exact m10 hk3
    nmsz := fun i x hx => by
      rcases hlen i x hx with ⟨hi, hx⟩ | ⟨rfl, rfl⟩
      · exact hF.nmsz i x hx
      · exact parts_sz m3 _ (by rw [lastOf_app m5]; simp [lastOf, ndOf])
    nm := fun i x hx h1 => by
      rcases hlen i x hx with ⟨hi, hx⟩ | ⟨rfl, rfl⟩
      · exact hF.nm i x hx h1
      · exact m7 _ (by rw [lastOf_app m5]; simp [lastOf, ndOf])
    one := fun i j x y hi hj h1 h2 hup hnm => by
      rcases hlen i x hi with ⟨hil, hi⟩ | ⟨rfl, rfl⟩
      · rcases hlen j y hj with ⟨hjl, hj⟩ | ⟨rfl, rfl⟩
        · exact hF.one i j x y hi hj h1 h2 hup hnm
        · exact absurd hnm (hno i x hi h1 hup)
      · rcases hlen j y hj with ⟨hjl, hj⟩ | ⟨rfl, rfl⟩
        · exact absurd hnm.symm (hno j y hj h2 hup.symm)
        · rfl }
theorem adds_good : ∀ (l : List Ent) (F : List Nd) (i : Nat), Good F → (adds F i l).1 = 0 → Good (adds F i l).2.2 ∧ (adds F i l).2.2.length = F.length + l.length := by
  intro l
  induction l with
  | nil => intro F i hF _; exact ⟨hF, by simp [adds]⟩
  | cons e r ih =>
    intro F i hF h
    unfold adds at h ⊢
    split at h
    · next he => exact absurd h he
    · next he =>
      rw [if_neg he]
      have h0 : (add F e).1 = 0 := by simpa using he
      obtain ⟨_, up, _, _, _, h2⟩ := add_ok h0
      obtain ⟨a, b⟩ := ih _ (i + 1) (add_good hF h0) h
      refine ⟨a, ?_⟩
      rw [b, h2]
      simp
      omega
end Go.Proofs.YtfegfmapdekkbaaGreatDoor.Vf
namespace Go.Proofs.YtfegfmapdekkbaaGreatDoor.Vf
set_option linter.unusedVariables false
set_option linter.unusedSimpArgs false

theorem child_dir {F : List Nd} (h : Good F) {d j : Nat} {nm : ByteArray} (hc : child F d nm = some j) : kindAt F d = 2 ∧ d < j ∧ j < F.length := by
  obtain ⟨h1, x, hx, hu, _⟩ := (child_some h).1 hc
  have := h.up j x hx h1
  rw [hu] at this
  exact ⟨this.2, this.1, (List.getElem?_eq_some_iff.1 hx).1⟩
theorem child_none {F : List Nd} (h : Good F) {d : Nat} {nm : ByteArray} (hk : kindAt F d ≠ 2) : child F d nm = none := by
  cases hc : child F d nm with
  | none => rfl
  | some j => exact absurd (child_dir h hc).1 hk
theorem at_next {F : List Nd} {l : List ByteArray} {k i n : Nat} {nm : ByteArray} (hi : at_ F n (l.take k) = some i) (hx : l[k]? = some nm) : at_ F n (l.take (k + 1)) = child F i nm := by
  rw [List.take_add_one, hx, at_app, hi]
  show at_ F i [nm] = child F i nm
  unfold at_
  cases child F i nm with
  | none => rfl
  | some j => rfl
theorem at_stop {F : List Nd} {l : List ByteArray} {k n : Nat} (hi : at_ F n (l.take k) = none) : at_ F n l = none := by
  have h := at_app F (l.take k) (l.drop k) n
  rw [List.take_append_drop, hi] at h
  exact h
theorem kindAt_eq {F : List Nd} {i : Nat} {x : Nd} (h : F[i]? = some x) : kindAt F i = x.m.kind := by unfold kindAt; rw [h]
theorem nd_eq {F : List Nd} {i : Nat} {x : Nd} (h : F[i]? = some x) : nd F i = x := by unfold nd; rw [h]; rfl
theorem up_lt {F : List Nd} (h : Good F) {i : Nat} {x : Nd} (hx : F[i]? = some x) : x.up < F.length ∧ kindAt F x.up = 2 := by
  have hl := (List.getElem?_eq_some_iff.1 hx).1
  by_cases h1 : 1 ≤ i
  · have := h.up i x hx h1
    exact ⟨by omega, this.2⟩
  · obtain rfl : i = 0 := by omega
    have hr := h.r
    rw [hx] at hr
    injection hr with hr
    subst hr
    exact ⟨good_pos h, (kindAt_eq (i := 0) hx).trans rfl⟩
theorem root_dir {F : List Nd} (h : Good F) : kindAt F 0 = 2 := by rw [kindAt_eq h.r]; rfl
/-! One part, case by case. -/
section
variable {F : List Nd} {c : Cred} {last : Bool} {s : St} {p : ByteArray} {r : List ByteArray}
theorem hop_nil (h : s.left = []) : hop F c last s = .inl (0, s.at_) := by unfold hop; rw [h]
theorem hop_no (h : s.left = p :: r) (hk : kindAt F s.at_ ≠ 2) : hop F c last s = .inl (8, 0) := by unfold hop; rw [h]; simp only; rw [if_pos hk]
theorem hop_shut (h : s.left = p :: r) (hk : kindAt F s.at_ = 2) (hm : mayX c (nd F s.at_).m = false) : hop F c last s = .inl (5, 0) := by
  unfold hop; rw [h]; simp only; rw [if_neg (by simp [hk]), if_pos hm]
theorem hop_up (h : s.left = p :: r) (hk : kindAt F s.at_ = 2) (hm : mayX c (nd F s.at_).m = true) (hp : p = dd) : hop F c last s = .inr ⟨(nd F s.at_).up, s.links, r⟩ := by
  unfold hop; rw [h]; simp only; rw [if_neg (by simp [hk]), if_neg (by simp [hm]), if_pos hp]
theorem hop_none (h : s.left = p :: r) (hk : kindAt F s.at_ = 2) (hm : mayX c (nd F s.at_).m = true) (hp : p ≠ dd) (hc : child F s.at_ p = none) : hop F c last s = .inl (3, 0) := by
  unfold hop; rw [h]; simp only; rw [if_neg (by simp [hk]), if_neg (by simp [hm]), if_neg hp, hc]
theorem hop_in {n : Nat} (h : s.left = p :: r) (hk : kindAt F s.at_ = 2) (hm : mayX c (nd F s.at_).m = true) (hp : p ≠ dd) (hc : child F s.at_ p = some n) (h3 : kindAt F n ≠ 3 ∨ (r = [] ∧ last = false)) : hop F c last s = .inr ⟨n, s.links, r⟩ := by
  unfold hop; rw [h]; simp only; rw [if_neg (by simp [hk]), if_neg (by simp [hm]), if_neg hp, hc]; simp only; rw [if_pos h3]
theorem hop_loop {n : Nat} (h : s.left = p :: r) (hk : kindAt F s.at_ = 2) (hm : mayX c (nd F s.at_).m = true) (hp : p ≠ dd) (hc : child F s.at_ p = some n) (h3 : ¬ (kindAt F n ≠ 3 ∨ (r = [] ∧ last = false))) (h8 : 8 ≤ s.links) : hop F c last s = .inl (10, 0) := by
  unfold hop; rw [h]; simp only; rw [if_neg (by simp [hk]), if_neg (by simp [hm]), if_neg hp, hc]; simp only; rw [if_neg h3, if_pos h8]
theorem hop_link {n : Nat} (h : s.left = p :: r) (hk : kindAt F s.at_ = 2) (hm : mayX c (nd F s.at_).m = true) (hp : p ≠ dd) (hc : child F s.at_ p = some n) (h3 : ¬ (kindAt F n ≠ 3 ∨ (r = [] ∧ last = false))) (h8 : ¬ 8 ≤ s.links) : hop F c last s = .inr ⟨if Pth.rootB (nd F n).to then 0 else s.at_, s.links + 1, Pth.partsL (nd F n).to ++ r⟩ := by
  unfold hop; rw [h]; simp only; rw [if_neg (by simp [hk]), if_neg (by simp [hm]), if_neg hp, hc]; simp only; rw [if_neg h3, if_neg h8]
end
end Go.Proofs.YtfegfmapdekkbaaGreatDoor.Vf
namespace Go.Proofs.YtfegfmapdekkbaaGreatDoor.Vf
set_option linter.unusedVariables false
set_option linter.unusedSimpArgs false

theorem names_more {F : List Nd} (h : Good F) : ∀ (i k : Nat), i < F.length → i ≤ k → names F k i = names F i i := by
  intro i
  induction i using Nat.strongRecOn with
  | ind i ih =>
    intro k hi hk
    cases i with
    | zero =>
      cases k with
      | zero => rfl
      | succ k => rfl
    | succ j =>
      obtain ⟨k, rfl⟩ : ∃ k', k = k' + 1 := ⟨k - 1, by omega⟩
      obtain ⟨x, hx⟩ : ∃ x, F[j + 1]? = some x := ⟨_, List.getElem?_eq_getElem hi⟩
      have hu := (h.up (j + 1) x hx (by omega)).1
      unfold names
      rw [if_neg (by omega), if_neg (by omega), nd_eq hx, ih x.up hu k (by omega) (by omega), ih x.up hu j (by omega) (by omega)]
def nmsP (F : List Nd) (i : Nat) : List ByteArray := names F i i
theorem nmsP_zero (F : List Nd) : nmsP F 0 = [] := rfl
theorem nmsP_succ {F : List Nd} (h : Good F) {i : Nat} {x : Nd} (hx : F[i]? = some x) (h1 : 1 ≤ i) : nmsP F i = nmsP F x.up ++ [x.name] := by
  have hi := (List.getElem?_eq_some_iff.1 hx).1
  have hu := (h.up i x hx h1).1
  obtain ⟨j, rfl⟩ : ∃ j, i = j + 1 := ⟨i - 1, by omega⟩
  unfold nmsP
  conv => lhs; unfold names
  rw [if_neg (by omega), nd_eq hx, names_more h x.up j (by omega) (by omega)]
theorem pathOf_in {F : List Nd} (h : Good F) {i : Nat} (hi : i < F.length) : pathOf F (i : Nat) = if i = 0 then ⟨#[47]⟩ else slashed (nmsP F i) := by
  unfold pathOf
  rw [if_neg (by simp; omega)]
  simp only [Int.toNat_natCast]
  rw [names_more h i F.length hi (by omega)]
  by_cases h0 : i = 0
  · rw [if_pos h0, if_pos (by omega)]
  · rw [if_neg h0, if_neg (by omega)]
    rfl
theorem pathOf_out {F : List Nd} {ino : Int} (h : ino < 0 ∨ F.length ≤ ino.toNat) : pathOf F ino = ⟨#[]⟩ := by unfold pathOf; rw [if_pos h]
theorem nmsP_ne {F : List Nd} (h : Good F) {i : Nat} (hi : i < F.length) (h1 : 1 ≤ i) : nmsP F i ≠ [] := by
  rw [nmsP_succ h (List.getElem?_eq_getElem hi) h1]
  simp
theorem nmsP_sz {F : List Nd} (h : Good F) : ∀ (i : Nat), i < F.length → (∀ x ∈ nmsP F i, x.size ≤ 32) ∧ (nmsP F i).length ≤ i := by
  intro i
  induction i using Nat.strongRecOn with
  | ind i ih =>
    intro hi
    by_cases h1 : 1 ≤ i
    · obtain ⟨x, hx⟩ : ∃ x, F[i]? = some x := ⟨_, List.getElem?_eq_getElem hi⟩
      have hu := (h.up i x hx h1).1
      obtain ⟨a, b⟩ := ih x.up hu (by omega)
      rw [nmsP_succ h hx h1]
      refine ⟨fun y hy => ?_, ?_⟩
      · rcases List.mem_append.1 hy with hy | hy
        · exact a y hy
        · rw [List.mem_singleton] at hy
          rw [hy]
          exact h.nmsz i x hx
      · rw [List.length_append, List.length_singleton]
        omega
    · obtain rfl : i = 0 := by omega
      rw [nmsP_zero]
      simp
theorem slashed_toList (xs : List ByteArray) : (slashed xs).data.toList = (xs.map fun x => 47 :: x.data.toList).flatten := by
  induction xs with
  | nil => rfl
  | cons x r ih =>
    unfold slashed
    simp [ih]
theorem join_slashed {xs : List ByteArray} (h : xs ≠ []) : (⟨#[47]⟩ : ByteArray) ++ ⟨(Lib.join (xs.map (·.data.toList)) [47]).toArray⟩ = slashed xs := by
  cases xs with
  | nil => exact absurd rfl h
  | cons x r =>
    apply ByteArray.ext
    apply Array.toList_inj.1
    rw [slashed_toList, List.map_cons, Lib.join_cons]
    simp [Lib.joinTail, Function.comp_def]
theorem join_len (xs : List ByteArray) (n : Nat) (h : ∀ x ∈ xs, x.size ≤ n) : (Lib.join (xs.map (·.data.toList)) [47]).length ≤ xs.length * (n + 1) := by
  cases xs with
  | nil => simp [Lib.join_nil]
  | cons x r =>
    rw [List.map_cons, Lib.join_cons]
    have h2 : ∀ (l : List ByteArray), (∀ x ∈ l, x.size ≤ n) → (Lib.joinTail [47] (l.map (·.data.toList))).length ≤ l.length * (n + 1) := by
      intro l
      induction l with
      | nil => intro _; simp [Lib.joinTail]
      | cons y t ih =>
        intro hy
        have := ih (fun z hz => hy z (by simp [hz]))
        have hy1 := hy y (by simp)
        have hy2 : y.data.toList.length = y.size := by simp
        unfold Lib.joinTail at this ⊢
        simp only [List.map_cons, List.flatten_cons, List.length_append, List.length_cons, List.length_nil] at this ⊢
        rw [Nat.succ_mul]
        omega
    have h3 := h2 r (fun z hz => h z (by simp [hz]))
    have h4 := h x (by simp)
    have h5 : x.data.toList.length = x.size := by simp
    rw [List.length_append, List.length_cons, Nat.succ_mul]
    omega
end Go.Proofs.YtfegfmapdekkbaaGreatDoor.Vf
namespace Go.Proofs.YtfegfmapdekkbaaGreatDoor.Vf
set_option linter.unusedVariables false
set_option linter.unusedSimpArgs false

def zc : Cred := ⟨0, 0, 0, 0, []⟩
theorem mayX_zero {F : List Nd} {i : Nat} (h : kindAt F i = 2) : mayX zc (nd F i).m = true := by
  obtain ⟨x, hx, hk⟩ := kindAt_lt h
  rw [nd_eq hx]
  simp [mayX, zc, hk]
theorem hop_zero (F : List Nd) (c : Cred) (last : Bool) (s : St) : (∀ x, hop F zc last s = .inl x → x.1 ≠ 5) ∧ (hop F c last s = .inl (5, 0) ∨ hop F c last s = hop F zc last s) := by
  cases hl : s.left with
  | nil =>
    rw [hop_nil hl, hop_nil hl]
    exact ⟨fun x hx => by injection hx with hx; rw [← hx]; show (0 : Int) ≠ 5; decide, .inr rfl⟩
  | cons p r =>
    by_cases hk : kindAt F s.at_ = 2
    · have hz := mayX_zero hk
      constructor
      · intro x hx h5
        unfold hop at hx
        rw [hl] at hx
        simp only at hx
        rw [if_neg (by simp [hk]), if_neg (by simp [hz])] at hx
        split at hx
        · cases hx
        · split at hx
          · injection hx with hx; rw [← hx] at h5; cases h5
          · split at hx
            · cases hx
            · split at hx
              · injection hx with hx; rw [← hx] at h5; cases h5
              · cases hx
      · by_cases hm : mayX c (nd F s.at_).m = false
        · exact .inl (hop_shut hl hk hm)
        · right
          have hm' : mayX c (nd F s.at_).m = true := by simpa using hm
          unfold hop
          rw [hl]
          simp only [hk, hm', hz]
    · rw [hop_no hl hk, hop_no hl hk]
      exact ⟨fun x hx => by injection hx with hx; rw [← hx]; decide, .inr rfl⟩
theorem ends_zero (F : List Nd) (c : Cred) (last : Bool) : ∀ (k : Nat) (s : St), mu s ≤ k → (ends F zc last s).1 ≠ 5 ∧ (ends F c last s = (5, 0) ∨ ends F c last s = ends F zc last s) := by
  intro k
  induction k using Nat.strongRecOn with
  | ind k ih =>
    intro s hk
    obtain ⟨h1, h2⟩ := hop_zero F c last s
    rw [ends_eq F zc last s, ends_eq F c last s]
    cases hz : hop F zc last s with
    | inl x =>
      refine ⟨h1 x hz, ?_⟩
      rcases h2 with h2 | h2
      · rw [h2]; exact .inl rfl
      · rw [h2, hz]; exact .inr rfl
    | inr s' =>
      have hm := hop_mu hz
      obtain ⟨a, b⟩ := ih (mu s') (by omega) s' (Nat.le_refl _)
      refine ⟨a, ?_⟩
      rcases h2 with h2 | h2
      · rw [h2]; exact .inl rfl
      · rw [h2, hz]; exact b
theorem chk_vals (p : ByteArray) : Pth.chk p ≠ 5 := by
  unfold Pth.chk
  repeat' split
  all_goals decide
theorem walk_zero (F : List Nd) (c : Cred) (src : Int) (path : ByteArray) (last : Bool) : (walk F zc src path last).2 ≠ 5 ∧ (walk F c src path last = (0, 5) ∨ walk F c src path last = walk F zc src path last) := by
  unfold walk
  by_cases h1 : src < 0 ∨ kindAt F src.toNat ≠ 2
  · rw [if_pos h1, if_pos h1]
    exact ⟨by decide, .inr rfl⟩
  · rw [if_neg h1, if_neg h1]
    by_cases h2 : Pth.chk path ≠ 0
    · rw [if_pos h2, if_pos h2]
      exact ⟨chk_vals path, .inr rfl⟩
    · rw [if_neg h2, if_neg h2]
      obtain ⟨a, b⟩ := ends_zero F c (last || Pth.tailB path) _ ⟨if Pth.rootB path then 0 else src.toNat, 0, Pth.partsL path⟩ (Nat.le_refl _)
      simp only
      generalize ends F zc (last || Pth.tailB path) ⟨if Pth.rootB path then 0 else src.toNat, 0, Pth.partsL path⟩ = z at *
      generalize ends F c (last || Pth.tailB path) ⟨if Pth.rootB path then 0 else src.toNat, 0, Pth.partsL path⟩ = y at *
      constructor
      · split
        · exact a
        · split
          · show (8 : Int) ≠ 5; decide
          · show (0 : Int) ≠ 5; decide
      · rcases b with b | b
        · rw [b]
          exact .inl rfl
        · rw [b]
          exact .inr rfl
end Go.Proofs.YtfegfmapdekkbaaGreatDoor.Vf
namespace Go.Proofs.YtfegfmapdekkbaaGreatDoor.Wd
set_option linter.unusedVariables false
set_option linter.unusedSimpArgs false

/-- The greatest uint64. -/
def top : Int := 18446744073709551615
theorem top_def : top = 18446744073709551615 := rfl

theorem xor_top (b : Int) (h0 : 0 ≤ b) (h1 : b ≤ 18446744073709551615) : bits .xor .u64 IntKind.u64.max b = 18446744073709551615 - b := by
  obtain ⟨n, rfl⟩ := Int.eq_ofNat_of_zero_le h0
  have e : IntKind.u64.max = ((18446744073709551615 : Nat) : Int) := rfl
  rw [e, u64_xor_nat _ _ (by omega) (by omega)]
  have h2 : n < 2 ^ 64 := by omega
  have h3 : (18446744073709551615 : Nat) ^^^ n = 2 ^ 64 - 1 - n := by
    have h4 := BitVec.toNat_not (x := BitVec.ofNat 64 n)
    rw [← BitVec.xor_allOnes, BitVec.toNat_xor, BitVec.toNat_ofNat, BitVec.toNat_allOnes, Nat.mod_eq_of_lt h2, Nat.xor_comm] at h4
    exact h4
  rw [h3]
  omega

theorem andNot_page (a : Int) (h0 : 0 ≤ a) (h1 : a ≤ 18446744073709551615) : bits .andNot .u64 a 4095 = a - a % 4096 := by
  obtain ⟨n, rfl⟩ := Int.eq_ofNat_of_zero_le h0
  have e : (4095 : Int) = ((4095 : Nat) : Int) := rfl
  rw [e, u64_andNot_nat _ _ (by omega) (by omega)]
  have h2 : n < 2 ^ 64 := by omega
  have h3 : n &&& (18446744073709551615 - 4095) = n - n % 4096 := by
    have h5 : (18446744073709551615 - 4095 : Nat) ^^^ 4095 = 2 ^ 64 - 1 := by decide
    have h6 : n &&& (2 ^ 64 - 1) = n := by rw [Nat.and_two_pow_sub_one_eq_mod]; exact Nat.mod_eq_of_lt h2
    have h7 : n &&& 4095 = n % 4096 := Nat.and_two_pow_sub_one_eq_mod n 12
    have h8 : (n &&& (18446744073709551615 - 4095)) + (n &&& 4095) = n := by
      have h9 : (n &&& (18446744073709551615 - 4095)) ||| (n &&& 4095) = n := by
        rw [← Nat.and_or_distrib_left]
        have : (18446744073709551615 - 4095 : Nat) ||| 4095 = 2 ^ 64 - 1 := by decide
        rw [this, h6]
      have h10 : (n &&& (18446744073709551615 - 4095)) ||| (n &&& 4095) = (n &&& (18446744073709551615 - 4095)) + (n &&& 4095) := by
        refine nat_join 12 _ _ ?_ ?_
        · have e2 : (18446744073709551615 - 4095 : Nat) = (2 ^ 52 - 1) <<< 12 := by decide
          rw [e2, ← Nat.and_two_pow_sub_one_eq_mod, Nat.and_assoc]
          have : ((2 ^ 52 - 1 : Nat) <<< 12) &&& (2 ^ 12 - 1) = 0 := by decide
          rw [this, Nat.and_zero]
        · rw [h7]
          exact Nat.mod_lt _ (by decide)
      omega
    omega
  rw [h3]
  omega

/-- Numbers of bytes, the lowest first. -/
def le : List UInt8 → Nat
  | [] => 0
  | c :: r => c.toNat + 256 * le r
def num (b : List UInt8) (p n : Nat) : Nat := le ((b.drop p).take n)

theorem le_snoc (l : List UInt8) (c : UInt8) : le (l ++ [c]) = le l + 256 ^ l.length * c.toNat := by
  induction l with
  | nil => simp [le]
  | cons a r ih =>
    simp only [List.cons_append, le, ih, List.length_cons, Nat.pow_succ, Nat.mul_add]
    rw [Nat.add_assoc, ← Nat.mul_assoc, Nat.mul_comm 256 (256 ^ r.length)]
theorem le_lt (l : List UInt8) : le l < 256 ^ l.length := by
  induction l with
  | nil => simp [le]
  | cons a r ih =>
    have := a.toNat_lt
    simp only [le, List.length_cons, Nat.pow_succ]
    omega
theorem num_zero (b : List UInt8) (p : Nat) : num b p 0 = 0 := by simp [num, le]
theorem num_succ (b : List UInt8) (p n : Nat) (c : UInt8) (h : b[p + n]? = some c) : num b p (n + 1) = num b p n + 256 ^ n * c.toNat := by
  unfold num
  have hl : p + n < b.length := by
    rcases Nat.lt_or_ge (p + n) b.length with h1 | h1
    · exact h1
    · rw [List.getElem?_eq_none h1] at h; cases h
  rw [List.take_add_one, List.getElem?_drop, h]
  simp only [Option.toList_some]
  rw [le_snoc, List.length_take, List.length_drop, Nat.min_eq_left (by omega)]
theorem num_lt (b : List UInt8) (p n : Nat) : num b p n < 256 ^ n := by
  unfold num
  refine Nat.lt_of_lt_of_le (le_lt _) (Nat.pow_le_pow_right (by omega) (List.length_take_le _ _))
theorem or_step (x c i : Nat) (h : x < 256 ^ i) : x ||| (c * 2 ^ (8 * i)) = x + 256 ^ i * c := by
  have e : 2 ^ (8 * i) = 256 ^ i := by rw [Nat.pow_mul]
  rw [Nat.or_comm, e, nat_join (8 * i) (c * 256 ^ i) x (by rw [e]; exact Nat.mul_mod_left _ _) (by rw [e]; exact h)]
  rw [Nat.mul_comm, Nat.add_comm]

def memB (v : Int) (xs : List Int) : Bool := decide (v ∈ xs)
def sizedB (n : Int) : Bool := memB n [1, 2, 4, 8]
theorem sizedB_yes {n : Int} (h : n = 1 ∨ n = 2 ∨ n = 4 ∨ n = 8) : sizedB n = true := by simpa [sizedB, memB] using h

theorem or_val (N x k : Nat) (h : N < 256 ^ k) (hx : x < 256) (hk : k < 8) :
    bits .or .u64 (N : Int) (IntKind.u64.wrap (IntKind.u64.wrap (x : Int) * 2 ^ (8 * k))) = ((N + 256 ^ k * x : Nat) : Int) := by
  have e1 : IntKind.u64.wrap (x : Int) = (x : Int) := by rw [IntKind.wrap_u64]; omega
  have hle : 2 ^ (8 * k) ≤ 2 ^ 56 := Nat.pow_le_pow_right (by omega) (by omega)
  have hp : x * 2 ^ (8 * k) < 18446744073709551616 := by
    have h1 : x * 2 ^ (8 * k) ≤ 255 * 2 ^ 56 := Nat.mul_le_mul (by omega) hle
    omega
  have e2 : ((x : Int) * 2 ^ (8 * k)) = ((x * 2 ^ (8 * k) : Nat) : Int) := by push_cast; rfl
  have e3 : IntKind.u64.wrap ((x * 2 ^ (8 * k) : Nat) : Int) = ((x * 2 ^ (8 * k) : Nat) : Int) := by rw [IntKind.wrap_u64]; omega
  have hN : N < 18446744073709551616 := by
    have h1 : (256 : Nat) ^ k ≤ 256 ^ 8 := Nat.pow_le_pow_right (by omega) (by omega)
    omega
  rw [e1, e2, e3, u64_or_nat _ _ hN hp, or_step N x k h]

end Go.Proofs.YtfegfmapdekkbaaGreatDoor.Wd
namespace Go.Proofs.YtfegfmapdekkbaaGreatDoor.Cl
set_option linter.unusedVariables false
set_option linter.unusedSimpArgs false
open Go.Proofs.YtfegfmapdekkbaaGreatDoor

structure C where
  kind : Nat
  a : Nat
  b : Nat
  c : Nat
  d : Nat
  e : Nat
  path : ByteArray
  argv : List ByteArray
  env : List ByteArray
  bytes : List UInt8

/-- The fields of a kind, by their numbers. -/
def fsN : Nat → List Nat
  | 1 => [5, 6, 7]
  | 3 => [0]
  | 5 => [0, 1, 2, 3, 4]
  | 6 => [0, 1]
  | 7 => [0, 1, 2]
  | 8 => [0, 1]
  | 9 => [0, 8]
  | 10 => [5, 0]
  | 11 => [0]
  | 12 => [0, 1]
  | _ => []
def num (c : C) : Nat → Nat
  | 0 => c.a
  | 1 => c.b
  | 2 => c.c
  | 3 => c.d
  | _ => c.e
/-- is nothing said by a field? -/
def emptyB (c : C) : Nat → Bool
  | 5 => decide (c.path.size = 0)
  | 6 => decide (c.argv.length = 0)
  | 7 => decide (c.env.length = 0)
  | 8 => decide (c.bytes.length = 0)
  | f => num c f == 0
def fieldB (c : C) (f : Nat) : Bool := (fsN c.kind).contains f || emptyB c f
def onlyB (c : C) : Bool := (List.range 9).all (fieldB c)
def bigT (s : ByteArray) : Bool := decide (256 < s.size)
def zeroT (s : ByteArray) : Bool := s.data.toList.contains 0
def envCk (l : List ByteArray) : Int := if 32 < l.length then 12 else if l.any bigT then 12 else if l.any zeroT then 1 else 0
def fst2 (a b : Int) : Int := if a = 0 then b else a
def check (c : C) : Int :=
  if c.kind = 0 ∨ 12 < c.kind then 23 else if onlyB c = false then 1
  else if c.kind = 1 then fst2 (Pth.chk c.path) (fst2 (envCk c.argv) (envCk c.env))
  else if c.kind = 8 ∨ c.kind = 12 then (if 4096 < c.b then 12 else 0)
  else if c.kind = 9 then (if 4096 < c.bytes.length then 12 else 0)
  else if c.kind = 10 then fst2 (Pth.chk c.path) (if 1 < c.a then 1 else 0)
  else 0

end Go.Proofs.YtfegfmapdekkbaaGreatDoor.Cl
namespace Go.Proofs.YtfegfmapdekkbaaGreatDoor.Sb
set_option linter.unusedVariables false
set_option linter.unusedSimpArgs false

def blanks : List UInt8 := [32, 9]
def isBl (c : UInt8) : Bool := blanks.contains c
def trim (l : List UInt8) : List UInt8 := Lib.trimS l blanks
def nl (c : UInt8) : Bool := c != 10
def line (b : List UInt8) : List UInt8 := b.takeWhile nl
def ba (l : List UInt8) : ByteArray := ⟨l.toArray⟩
/-- What a first line says: the interpreter, the argument, is it one, the error. -/
def ofLine (r : List UInt8) : List UInt8 × List UInt8 × Bool × Int :=
  if 127 < r.length ∨ trim r = [] then ([], [], false, 13)
  else ((trim r).takeWhile (!isBl ·), trim ((trim r).dropWhile (!isBl ·)), true, 0)
def parse (b : List UInt8) : List UInt8 × List UInt8 × Bool × Int :=
  if Lib.hasPrefix b [35, 33] = true then ofLine (line (b.drop 2)) else ([], [], false, 0)
def argv (interp arg path : ByteArray) (l : List ByteArray) : List ByteArray := (if arg.size = 0 then [interp, path] else [interp, arg, path]) ++ l.drop 1
/-- The program at a path: its node, or the error. -/
def prog (F : List Vf.Nd) (c : Vf.Cred) (path : ByteArray) : Nat × Int :=
  if (Vf.walk F c 0 path true).2 ≠ 0 then (0, (Vf.walk F c 0 path true).2)
  else if (Vf.metaOf F ((Vf.walk F c 0 path true).1 : Nat)).1.kind = 1 ∧ Vf.mayX c (Vf.metaOf F ((Vf.walk F c 0 path true).1 : Nat)).1 = true then ((Vf.walk F c 0 path true).1, 0) else (0, 5)
/-- The chain from a path on, where so many scripts may still come. -/
def chain (F : List Vf.Nd) (c : Vf.Cred) : Nat → ByteArray → List ByteArray → Nat × ByteArray × List ByteArray × Int
  | k, path, out =>
    if (prog F c path).2 ≠ 0 then (0, ⟨#[]⟩, [], (prog F c path).2)
    else if (parse (Vf.nd F (prog F c path).1).data).2.2.2 ≠ 0 then (0, ⟨#[]⟩, [], (parse (Vf.nd F (prog F c path).1).data).2.2.2)
    else if (parse (Vf.nd F (prog F c path).1).data).2.2.1 = false then
      if Cl.envCk out ≠ 0 then (0, ⟨#[]⟩, [], Cl.envCk out) else ((prog F c path).1, path, out, 0)
    else match k with
      | 0 => (0, ⟨#[]⟩, [], 10)
      | k + 1 => chain F c k (ba (parse (Vf.nd F (prog F c path).1).data).1) (argv (ba (parse (Vf.nd F (prog F c path).1).data).1) (ba (parse (Vf.nd F (prog F c path).1).data).2.1) path out)

/-! Blanks taken off in either order. -/
def rd (p : UInt8 → Bool) (l : List UInt8) : List UInt8 := (l.reverse.dropWhile p).reverse
theorem rd_cons (p : UInt8 → Bool) (c : UInt8) (r : List UInt8) : rd p (c :: r) = if rd p r = [] ∧ p c = true then [] else c :: rd p r := by
  unfold rd
  rw [List.reverse_cons, List.dropWhile_append]
  by_cases h : r.reverse.dropWhile p = []
  · rw [h]
    by_cases hc : p c = true
    · simp [hc]
    · simp [hc]
  · rw [if_neg (by simpa using h), if_neg (by simpa using fun h2 => absurd h2 h)]
    simp
theorem dw_rd (p : UInt8 → Bool) (l : List UInt8) : (rd p l).dropWhile p = rd p (l.dropWhile p) := by
  induction l with
  | nil => rfl
  | cons c r ih =>
    rw [rd_cons]
    by_cases hc : p c = true
    · rw [List.dropWhile_cons_of_pos hc, ← ih]
      by_cases hr : rd p r = []
      · rw [if_pos ⟨hr, hc⟩, hr]
      · rw [if_neg (fun h => hr h.1), List.dropWhile_cons_of_pos hc]
    · rw [List.dropWhile_cons_of_neg hc, if_neg (fun h => hc h.2), List.dropWhile_cons_of_neg hc, rd_cons, if_neg (fun h => hc h.2)]
theorem trim_eq (l : List UInt8) : trim l = rd isBl (l.dropWhile isBl) := by
  rw [← dw_rd]
  rfl
/-! The first 130 bytes say what all of them say. -/
theorem line_take {l : List UInt8} {n : Nat} (h : (line l).length < n) : line (l.take n) = line l := by
  unfold line at *
  induction l generalizing n with
  | nil => simp
  | cons c r ih =>
    cases n with
    | zero => omega
    | succ n =>
      rw [List.take_succ_cons]
      by_cases hc : nl c = true
      · rw [List.takeWhile_cons_of_pos hc, List.takeWhile_cons_of_pos hc]
        rw [List.takeWhile_cons_of_pos hc, List.length_cons] at h
        rw [ih (by omega)]
      · rw [List.takeWhile_cons_of_neg hc, List.takeWhile_cons_of_neg hc]
theorem line_take_long {l : List UInt8} {n : Nat} (h : n ≤ (line l).length) : n ≤ (line (l.take n)).length := by
  unfold line at *
  induction l generalizing n with
  | nil => simpa using h
  | cons c r ih =>
    cases n with
    | zero => omega
    | succ n =>
      rw [List.take_succ_cons]
      by_cases hc : nl c = true
      · rw [List.takeWhile_cons_of_pos hc, List.length_cons]
        rw [List.takeWhile_cons_of_pos hc, List.length_cons] at h
        have := ih (n := n) (by omega)
        omega
      · rw [List.takeWhile_cons_of_neg hc] at h
        simp at h
theorem ofLine_long {r : List UInt8} (h : 127 < r.length) : ofLine r = ([], [], false, 13) := by unfold ofLine; rw [if_pos (.inl h)]
theorem prefix_take (b : List UInt8) : Lib.hasPrefix (b.take 130) [35, 33] = Lib.hasPrefix b [35, 33] := by
  match b with
  | [] => rfl
  | [a] => rfl
  | a :: c :: r => rfl
theorem parse_take (b : List UInt8) : parse (b.take 130) = parse b := by
  unfold parse
  rw [prefix_take]
  split
  · rw [show (b.take 130).drop 2 = (b.drop 2).take 128 by rw [List.drop_take]]
    by_cases h : (line (b.drop 2)).length < 128
    · rw [line_take h]
    · rw [ofLine_long (r := line (b.drop 2)) (by omega), ofLine_long]
      have := line_take_long (l := b.drop 2) (n := 128) (by omega)
      omega
  · rfl
end Go.Proofs.YtfegfmapdekkbaaGreatDoor.Sb
namespace Go.Proofs.YtfegfmapdekkbaaGreatDoor
set_option linter.unusedVariables false
set_option linter.unusedSimpArgs false
namespace Ev

def ix (s : ByteArray) : Int := Lib.indexByte s.data.toList 61
def ba (l : List UInt8) : ByteArray := ⟨l.toArray⟩
/-- Does a text say a variable? Its name, its value. -/
def is (s : ByteArray) : Bool := decide (0 < ix s)
def nm (s : ByteArray) : ByteArray := if is s then ba (s.data.toList.take (ix s).toNat) else ba []
def vl (s : ByteArray) : ByteArray := if is s then ba (s.data.toList.drop ((ix s).toNat + 1)) else ba []
def named (name s : ByteArray) : Bool := is s && decide (nm s = name)
/-- Where the first text of a name stands, or behind all. -/
def at_ (l : List ByteArray) (name : ByteArray) : Nat := l.findIdx (named name)
def get (l : List ByteArray) (name : ByteArray) : ByteArray × Bool := match l.find? (named name) with
  | some s => (vl s, true)
  | none => (ba [], false)
def unset (l : List ByteArray) (name : ByteArray) : List ByteArray := l.filter fun s => !named name s
def pair (name value : ByteArray) : ByteArray := ba (name.data.toList ++ 61 :: value.data.toList)
def badSet (name value : ByteArray) : Bool := decide (name.size = 0) || name.data.toList.contains 61 || Cl.zeroT name || Cl.zeroT value
def set (l : List ByteArray) (name value : ByteArray) : List ByteArray := l.take (at_ l name) ++ pair name value :: unset (l.drop (at_ l name)) name

theorem ba_nil_size : (ba []).size = 0 := rfl
theorem ba_data (l : List UInt8) : (ba l).data.toList = l := by simp [ba]
theorem ba_self (s : ByteArray) : ba s.data.toList = s := by simp [ba]
theorem ba_inj {a b : List UInt8} (h : ba a = ba b) : a = b := by have := congrArg (fun s : ByteArray => s.data.toList) h; simpa [ba] using this
theorem ix_le (s : ByteArray) : ix s < s.size := by
  unfold ix
  have hge := Lib.indexByte_ge s.data.toList 61
  by_cases h : Lib.indexByte s.data.toList 61 < 0
  · omega
  · obtain ⟨o, ho⟩ : ∃ o : Nat, Lib.indexByte s.data.toList 61 = o := ⟨(Lib.indexByte s.data.toList 61).toNat, by omega⟩
    have := (List.getElem?_eq_some_iff.1 (Lib.indexByte_some ho).1).1
    rw [ho]
    have e : s.data.toList.length = s.size := by simp
    omega
theorem unset_self {l : List ByteArray} {name : ByteArray} (h : ∀ s ∈ l, named name s = false) : unset l name = l := by
  unfold unset
  rw [List.filter_eq_self]
  intro s hs
  simp [h s hs]
theorem unset_app (a b : List ByteArray) (name : ByteArray) : unset (a ++ b) name = unset a name ++ unset b name := by simp [unset]
theorem take_at (l : List ByteArray) (name : ByteArray) : ∀ s ∈ l.take (at_ l name), named name s = false := by
  induction l with
  | nil => simp
  | cons x r ih =>
    intro s hs
    unfold at_ at hs ih
    rw [List.findIdx_cons] at hs
    cases hx : named name x with
    | true => rw [hx] at hs; simp at hs
    | false =>
      rw [hx] at hs
      simp only [cond_false, List.take_succ_cons, List.mem_cons] at hs
      rcases hs with rfl | hs
      · exact hx
      · exact ih s hs
theorem at_le (l : List ByteArray) (name : ByteArray) : at_ l name ≤ l.length := List.findIdx_le_length
theorem at_lt {l : List ByteArray} {name : ByteArray} {s : ByteArray} (h : l[at_ l name]? = some s) : named name s = true := by
  have hlt := (List.getElem?_eq_some_iff.1 h).1
  have := List.findIdx_getElem (p := named name) (w := hlt)
  have e := (List.getElem?_eq_some_iff.1 h).2
  unfold at_ at e hlt
  rw [← e]
  exact this
theorem find_at (l : List ByteArray) (name : ByteArray) : l.find? (named name) = l[at_ l name]? := by
  unfold at_
  rw [List.find?_eq_getElem?_findIdx]

theorem ix_pair (name value : ByteArray) (h : name.data.toList.contains 61 = false) : ix (pair name value) = name.size := by
  unfold ix pair
  rw [ba_data]
  have hat : (name.data.toList ++ 61 :: value.data.toList)[name.data.toList.length]? = some 61 := by simp
  have hsz : name.data.toList.length = name.size := by simp
  have hge := Lib.indexByte_ge (name.data.toList ++ 61 :: value.data.toList) 61
  have hcase : Lib.indexByte (name.data.toList ++ 61 :: value.data.toList) 61 = -1 ∨ ∃ o : Nat, Lib.indexByte (name.data.toList ++ 61 :: value.data.toList) 61 = o := by
    by_cases hh : Lib.indexByte (name.data.toList ++ 61 :: value.data.toList) 61 = -1
    · exact .inl hh
    · exact .inr ⟨(Lib.indexByte (name.data.toList ++ 61 :: value.data.toList) 61).toNat, by omega⟩
  rcases hcase with h1 | ⟨o, h1⟩
  · exact absurd hat (Lib.indexByte_none h1 _)
  · obtain ⟨h2, h3⟩ := Lib.indexByte_some h1
    rw [h1]
    rcases Nat.lt_trichotomy o name.data.toList.length with h4 | h4 | h4
    · rw [List.getElem?_append_left h4] at h2
      have hm := List.mem_of_getElem? h2
      rw [← List.contains_iff_mem] at hm
      rw [h] at hm
      cases hm
    · omega
    · exact absurd hat (h3 _ h4)
theorem pair_is {name value : ByteArray} (h : badSet name value = false) : is (pair name value) = true ∧ nm (pair name value) = name ∧ vl (pair name value) = value := by
  unfold badSet at h
  simp only [Bool.or_eq_false_iff, decide_eq_false_iff_not] at h
  have hi := ix_pair name value h.1.1.2
  have h1 : is (pair name value) = true := by unfold is; rw [hi]; simp; omega
  have hsz : name.data.toList.length = name.size := by simp
  refine ⟨h1, ?_, ?_⟩
  · unfold nm
    rw [h1, if_pos rfl, hi]
    unfold pair
    rw [ba_data, Int.toNat_natCast, ← hsz, List.take_left, ba_self]
  · unfold vl
    rw [h1, if_pos rfl, hi]
    unfold pair
    rw [ba_data, Int.toNat_natCast, ← hsz]
    have e : name.data.toList ++ 61 :: value.data.toList = (name.data.toList ++ [61]) ++ value.data.toList := by simp
    rw [e, List.drop_left' (by simp), ba_self]
theorem pair_named {name value : ByteArray} (h : badSet name value = false) (x : ByteArray) : named x (pair name value) = decide (name = x) := by
  obtain ⟨h1, h2, h3⟩ := pair_is h
  unfold named
  rw [h1, h2, Bool.true_and]

/-- The set of the reference: part by part. -/
def setF (name p : ByteArray) : List ByteArray → Bool → List ByteArray
  | [], there => if there then [] else [p]
  | s :: r, there => if named name s then (if there then setF name p r true else p :: setF name p r true) else s :: setF name p r there
theorem setF_true (name p : ByteArray) (l : List ByteArray) : setF name p l true = unset l name := by
  induction l with
  | nil => rfl
  | cons s r ih =>
    unfold setF unset
    rw [List.filter_cons]
    cases h : named name s with
    | true => simp only [if_true, Bool.not_true, Bool.false_eq_true, if_false]; exact ih
    | false => simp only [Bool.false_eq_true, if_false, Bool.not_false, if_true]; rw [ih]; rfl
theorem setF_set (l : List ByteArray) (name value : ByteArray) : setF name (pair name value) l false = set l name value := by
  unfold set at_
  induction l with
  | nil => rfl
  | cons s r ih =>
    unfold setF
    rw [List.findIdx_cons]
    cases h : named name s with
    | true =>
      simp only [if_true, Bool.false_eq_true, if_false, cond_true, List.take_zero, List.drop_zero, List.nil_append]
      rw [setF_true]
      unfold unset
      rw [List.filter_cons, h]
      simp
    | false =>
      simp only [Bool.false_eq_true, if_false, cond_false, List.take_succ_cons, List.drop_succ_cons, List.cons_append]
      rw [ih]

theorem find_app (a b : List ByteArray) (name : ByteArray) (h : ∀ s ∈ a, named name s = false) : (a ++ b).find? (named name) = b.find? (named name) := by
  rw [List.find?_append]
  have : a.find? (named name) = none := by rw [List.find?_eq_none]; intro s hs; rw [h s hs]; simp
  rw [this]
  rfl
/-- What was set is read. -/
theorem get_set {l : List ByteArray} {name value : ByteArray} (h : badSet name value = false) : get (set l name value) name = (value, true) := by
  unfold get set
  rw [find_app _ _ _ (take_at l name), List.find?_cons, pair_named h name]
  simp only [decide_true]
  rw [(pair_is h).2.2]
theorem find_unset (l : List ByteArray) (name other : ByteArray) (hne : other ≠ name) : (unset l name).find? (named other) = l.find? (named other) := by
  induction l with
  | nil => rfl
  | cons s r ih =>
    unfold unset at ih ⊢
    rw [List.filter_cons, List.find?_cons]
    cases h : named name s with
    | true =>
      have ho : named other s = false := by
        unfold named at h ⊢
        simp only [Bool.and_eq_true, decide_eq_true_eq] at h
        rw [h.2]
        simp only [Bool.and_eq_false_iff, decide_eq_false_iff_not]
        exact .inr (fun e => hne e.symm)
      simp only [Bool.not_true, Bool.false_eq_true, if_false, ho]
      exact ih
    | false =>
      simp only [Bool.not_false, if_true]
      rw [List.find?_cons, ih]
/-- The others keep their values. -/
theorem get_other {l : List ByteArray} {name value other : ByteArray} (h : badSet name value = false) (hne : other ≠ name) : get (set l name value) other = get l other := by
  have e : (set l name value).find? (named other) = l.find? (named other) := by
    unfold set
    conv => rhs; rw [← List.take_append_drop (at_ l name) l]
    rw [List.find?_append, List.find?_append, List.find?_cons, pair_named h other]
    have : decide (name = other) = false := by simpa using fun e : name = other => hne e.symm
    rw [this, find_unset _ _ _ hne]
  unfold get
  rw [e]
theorem unset_named (l : List ByteArray) (name : ByteArray) : ∀ s ∈ unset l name, named name s = false := by
  intro s hs
  have := (List.mem_filter.1 hs).2
  simpa using this
/-- What was unset is not there. -/
theorem get_unset (l : List ByteArray) (name : ByteArray) : get (unset l name) name = (ba [], false) := by
  unfold get
  have : (unset l name).find? (named name) = none := by rw [List.find?_eq_none]; intro s hs; rw [unset_named l name s hs]; simp
  rw [this]
/-- A second set finds the first one. -/
theorem set_set {l : List ByteArray} {name value : ByteArray} (h : badSet name value = false) : set (set l name value) name value = set l name value := by
  have hp := pair_named h name
  have hat : at_ (set l name value) name = at_ l name := by
    have e1 : (l.take (at_ l name)).length = at_ l name := by rw [List.length_take]; have := at_le l name; omega
    have : ∀ (a b : List ByteArray), (∀ s ∈ a, named name s = false) → at_ (a ++ pair name value :: b) name = a.length := by
      intro a b ha
      induction a with
      | nil => unfold at_; rw [List.nil_append, List.findIdx_cons, hp]; simp
      | cons x r ih =>
        unfold at_ at ih ⊢
        rw [List.cons_append, List.findIdx_cons, ha x (.head _)]
        simp only [cond_false, List.length_cons]
        rw [ih (fun s hs => ha s (.tail _ hs))]
    unfold set
    rw [this _ _ (take_at l name), e1]
  have e1 : (l.take (at_ l name)).length = at_ l name := by rw [List.length_take]; have := at_le l name; omega
  have hs : ∀ L : List ByteArray, set L name value = L.take (at_ L name) ++ pair name value :: unset (L.drop (at_ L name)) name := fun _ => rfl
  rw [hs (set l name value), hat, hs l, List.take_left' e1, List.drop_left' e1]
  congr 1
  unfold unset
  rw [List.filter_cons, hp]
  simp only [decide_true, Bool.not_true, Bool.false_eq_true, if_false, List.filter_filter, Bool.and_self]
end Ev
end Go.Proofs.YtfegfmapdekkbaaGreatDoor
namespace Go.Proofs.YtfegfmapdekkbaaGreatDoor
set_option linter.unusedVariables false
set_option linter.unusedSimpArgs false
namespace Ev

/-- LD_LIBRARY_PATH, LD_PRELOAD, LD_AUDIT, LD_DEBUG, LD_ORIGIN_PATH, LD_PROFILE, LD_USE_LOAD_BIAS, GCONV_PATH, TMPDIR -/
def unsafeL : List ByteArray := [ba [76, 68, 95, 76, 73, 66, 82, 65, 82, 89, 95, 80, 65, 84, 72], ba [76, 68, 95, 80, 82, 69, 76, 79, 65, 68], ba [76, 68, 95, 65, 85, 68, 73, 84], ba [76, 68, 95, 68, 69, 66, 85, 71], ba [76, 68, 95, 79, 82, 73, 71, 73, 78, 95, 80, 65, 84, 72], ba [76, 68, 95, 80, 82, 79, 70, 73, 76, 69], ba [76, 68, 95, 85, 83, 69, 95, 76, 79, 65, 68, 95, 66, 73, 65, 83], ba [71, 67, 79, 78, 86, 95, 80, 65, 84, 72], ba [84, 77, 80, 68, 73, 82]]
def bad (s : ByteArray) : Bool := unsafeL.any fun u => named u s
def scrub (l : List ByteArray) : List ByteArray := l.filter fun s => !bad s
theorem foldl_unset (U l : List ByteArray) : U.foldl unset l = l.filter fun s => !U.any fun u => named u s := by
  induction U generalizing l with
  | nil => exact (List.filter_eq_self.2 (fun _ _ => rfl)).symm
  | cons u r ih =>
    rw [List.foldl_cons, ih]
    unfold unset
    rw [List.filter_filter]
    congr 1
    funext s
    simp only [List.any_cons]
    cases named u s <;> cases (r.any fun u => named u s) <;> rfl
theorem scrub_fold (l : List ByteArray) : unsafeL.foldl unset l = scrub l := foldl_unset _ _
theorem scrub_scrub (l : List ByteArray) : scrub (scrub l) = scrub l := by
  unfold scrub
  rw [List.filter_filter]
  congr 1
  funext s
  cases bad s <;> rfl
theorem scrub_app (a b : List ByteArray) : scrub (a ++ b) = scrub a ++ scrub b := by simp [scrub]
/-- A text's name is one of the unsafe ones. -/
theorem bad_eq (s : ByteArray) : bad s = unsafeL.any fun u => decide (nm s = u) := by
  unfold bad named
  cases h : is s with
  | true => simp only [Bool.true_and]
  | false =>
    have hn : nm s = ba [] := by unfold nm; rw [h]; rfl
    rw [hn]
    simp only [Bool.false_and]
    have : ∀ U : List ByteArray, (U.any fun _ => false) = false := by intro U; induction U with | nil => rfl | cons u r ih => rw [List.any_cons, ih]; rfl
    rw [this]
    decide +kernel
theorem scrub_step {l : List ByteArray} {i : Nat} {s : ByteArray} (h : l[i]? = some s) : scrub (l.take (i + 1)) = if bad s then scrub (l.take i) else scrub (l.take i) ++ [s] := by
  rw [List.take_add_one, h, scrub_app]
  cases hb : bad s <;> simp [scrub, hb]
theorem scrub_at {l : List ByteArray} {i : Nat} {s : ByteArray} (h : l[i]? = some s) (hb : bad s = false) : (scrub l)[(scrub (l.take i)).length]? = some s := by
  have hlt := (List.getElem?_eq_some_iff.1 h).1
  have e : l = l.take i ++ s :: l.drop (i + 1) := by
    rw [← (List.getElem?_eq_some_iff.1 h).2, ← List.drop_eq_getElem_cons hlt, List.take_append_drop]
  have e2 : scrub l = scrub (l.take i) ++ scrub (s :: l.drop (i + 1)) := by rw [← scrub_app, ← e]
  rw [e2, List.getElem?_append_right (Nat.le_refl _), Nat.sub_self]
  unfold scrub
  rw [List.filter_cons, hb]
  rfl

/-- The pieces between colons. -/
def spl : List UInt8 → List UInt8 → List (List UInt8)
  | acc, [] => [acc]
  | acc, c :: r => if c = 58 then acc :: spl [] r else spl (acc ++ [c]) r
def dot (p : List UInt8) : ByteArray := if p = [] then ba [46] else ba p
def list (v : List UInt8) : List ByteArray := if v = [] then [] else (spl [] v).map dot
theorem spl_free (acc a r : List UInt8) (h : ∀ c ∈ a, c ≠ 58) : spl acc (a ++ r) = spl (acc ++ a) r := by
  induction a generalizing acc with
  | nil => simp
  | cons c a ih =>
    rw [List.cons_append]
    conv => lhs; unfold spl
    rw [if_neg (h c (.head _)), ih _ (fun x hx => h x (.tail _ hx))]
    simp
def join : List ByteArray → List UInt8
  | [] => []
  | [s] => s.data.toList
  | s :: t :: r => s.data.toList ++ 58 :: join (t :: r)
theorem spl_join (s : ByteArray) (r : List ByteArray) (h : ∀ x ∈ s :: r, (∀ c ∈ x.data.toList, c ≠ 58) ∧ x.data.toList ≠ []) : spl [] (join (s :: r)) = (s :: r).map (·.data.toList) := by
  induction r generalizing s with
  | nil =>
    have := spl_free [] s.data.toList [] (h s (.head _)).1
    simp only [List.append_nil, List.nil_append] at this
    simp only [join, List.map_cons, List.map_nil]
    rw [this]
    rfl
  | cons t r ih =>
    simp only [join]
    rw [spl_free [] s.data.toList _ (h s (.head _)).1, List.nil_append]
    conv => lhs; unfold spl
    rw [if_pos rfl, ih t (fun x hx => h x (.tail _ hx))]
    rfl
theorem list_join (l : List ByteArray) (h : ∀ x ∈ l, (∀ c ∈ x.data.toList, c ≠ 58) ∧ x.data.toList ≠ []) : list (join l) = l := by
  cases l with
  | nil => rfl
  | cons s r =>
    have hne : join (s :: r) ≠ [] := by
      cases r with
      | nil => exact (h s (.head _)).2
      | cons t r => simp [join]
    unfold list
    rw [if_neg hne, spl_join s r h, List.map_map]
    have : ∀ L : List ByteArray, (∀ x ∈ L, x.data.toList ≠ []) → L.map (dot ∘ fun x : ByteArray => x.data.toList) = L := by
      intro L hL
      induction L with
      | nil => rfl
      | cons x L ih =>
        rw [List.map_cons, ih (fun y hy => hL y (.tail _ hy))]
        congr 1
        show dot x.data.toList = x
        unfold dot
        rw [if_neg (hL x (.head _)), ba_self]
    exact this _ (fun x hx => (h x hx).2)
end Ev
end Go.Proofs.YtfegfmapdekkbaaGreatDoor
namespace Go.Proofs.YtfegfmapdekkbaaGreatDoor
set_option linter.unusedVariables false
set_option linter.unusedSimpArgs false
open Go.RowKit

/-- A contract that leaves the world alone, said so that the caller's name of the world stays. -/
theorem flipw {P : Program} {f : FuncId} {args : Array Value} {w : World} {r : Ending} (h : Calls P f args w fun e w' => e = r ∧ w' = w) : Calls P f args w fun e w' => e = r ∧ w = w' :=
  h.mono fun _ _ ⟨a, b⟩ => ⟨a, b.symm⟩

theorem hide {p : Prop} (h : p) : Hid p := h
theorem unhide {p : Prop} (h : Hid p) : p := h

theorem ret_int {k : IntKind} {a b : Int} (h : a = b) : Ending.returned (.int k a) = .returned (.int k b) := by rw [h]
theorem ret_bool {a b : Bool} (h : a = b) : Ending.returned (.bool a) = .returned (.bool b) := by rw [h]
theorem ret_val {a b : Value} (h : a = b) : Ending.returned a = .returned b := by rw [h]

theorem bcell {W w1 : World} (hb : Below W.heap.size W w1) : (∀ b o, b < W.heap.size → w1.cell? ⟨b, o, none⟩ = W.cell? ⟨b, o, none⟩) ∧ (∀ b o, b < W.heap.size → w1.frozen? ⟨b, o, none⟩ = W.frozen? ⟨b, o, none⟩) :=
  ⟨fun b o h => hb.cell (p := ⟨b, o, none⟩) h, fun b o h => hb.frozen (p := ⟨b, o, none⟩) h⟩

/-- The newest block of the call's own stands behind a call that keeps what was there. -/
theorem newblk {w w1 : World} {o : Obj} (hb : Below (w.alloc o).heap.size (w.alloc o) w1) : w1.heap[w.heap.size]? = some o :=
  (hb.block _ (by simp)).trans (heap_alloc_new _ _)
theorem below_new {w w1 : World} {o : Obj} (hb : Below (w.alloc o).heap.size (w.alloc o) w1) : Below w.heap.size w w1 :=
  ((Below.refl _ _).alloc (Nat.le_refl _) _).trans (hb.mono (by simp))

theorem below_sz {W w1 : World} (hb : Below W.heap.size W w1) : W.heap.size ≤ w1.heap.size := hb.size

theorem below_drewN' {B : Nat} {a w : World} (h : Below B a w) (n : Nat) : Below B a (w.drewN n) := ⟨h.os, h.tape, h.output, h.size, h.block⟩

theorem byte_eq (c d : UInt8) : (((c.toNat : Nat) : Int) == ((d.toNat : Nat) : Int)) = decide (c = d) := by
  rw [Bool.eq_iff_iff, beq_iff_eq, decide_eq_true_eq]
  exact ⟨fun h => UInt8.toNat_inj.1 (by omega), fun h => by rw [h]⟩
theorem byte_47 (c : UInt8) : (((c.toNat : Nat) : Int) == 47) = decide (c = 47) := byte_eq c 47
theorem byte_0 (c : UInt8) : (((c.toNat : Nat) : Int) == 0) = decide (c = 0) := byte_eq c 0
theorem byte_58 (c : UInt8) : (((c.toNat : Nat) : Int) == 58) = decide (c = 58) := byte_eq c 58
theorem byte_61 (c : UInt8) : (((c.toNat : Nat) : Int) == 61) = decide (c = 61) := byte_eq c 61

theorem isEmpty_toList (p : ByteArray) : p.toList.isEmpty = decide (p.size = 0) := by
  rw [Lib.toList_data, Bool.eq_iff_iff, List.isEmpty_iff_length_eq_zero, decide_eq_true_eq]
  exact Iff.rfl
theorem beq_toList (p q : ByteArray) : (p.toList == q.toList) = decide (p = q) := by
  rw [Lib.toList_data, Lib.toList_data, Bool.eq_iff_iff, beq_iff_eq, decide_eq_true_eq]
  exact ⟨fun h => ByteArray.ext (Array.toList_inj.1 h), fun h => by rw [h]⟩

/-- The slice value '.slice A n c' holds the cells xs, one behind the other, 'size' cells an element, in a block below B. -/
def Rd (w : World) (B size : Nat) (A : Option Addr) (n : Nat) (xs : List Value) : Prop :=
  xs.length = n * size ∧ (xs = [] ∨ ∃ b off, A = some ⟨b, off, none⟩ ∧ b < B ∧ ∀ j u, xs[j]? = some u → w.cell? ⟨b, off + j, none⟩ = some u)

section
variable {w w' : World} {B B' size n : Nat} {A : Option Addr} {xs : List Value}
theorem Rd.none_ (w : World) (B size : Nat) (A : Option Addr) : Rd w B size A 0 [] := ⟨by simp, .inl rfl⟩
theorem Rd.len1 (h : Rd w B 1 A n xs) : xs.length = n := by have := h.1; omega
theorem Rd.at_ {k : Nat} {u : Value} (h : Rd w B 1 A n xs) (hk : xs[k]? = some u) : ∃ b off, A = some ⟨b, off, none⟩ ∧ b < B ∧ w.cell? ⟨b, off + k, none⟩ = some u := by
  rcases h.2 with rfl | ⟨b, off, e, hb, hc⟩
  · simp at hk
  · exact ⟨b, off, e, hb, hc _ _ hk⟩
theorem Rd.open_ (h : Rd w B size A n xs) (hn : xs ≠ []) : ∃ b off, A = some ⟨b, off, none⟩ ∧ b < B ∧ ∀ j u, xs[j]? = some u → w.cell? ⟨b, off + j, none⟩ = some u := by
  rcases h.2 with h0 | h1
  · exact absurd h0 hn
  · exact h1
theorem Rd.keep (h : Rd w B size A n xs) (hk : ∀ p : Addr, p.block < B → w'.cell? p = w.cell? p) : Rd w' B size A n xs :=
  ⟨h.1, h.2.imp id fun ⟨b, off, e, hb, hc⟩ => ⟨b, off, e, hb, fun j u hu => (hk _ hb).trans (hc j u hu)⟩⟩
theorem Rd.more (h : Rd w B size A n xs) (hB : B ≤ B') : Rd w B' size A n xs :=
  ⟨h.1, h.2.imp id fun ⟨b, off, e, hb, hc⟩ => ⟨b, off, e, by omega, hc⟩⟩
theorem Rd.below (h : Rd w B size A n xs) (hb : Below B w w') : Rd w' B size A n xs := h.keep fun _ hp => hb.cell hp
theorem Rd.belowSz (h : Rd w w.heap.size size A n xs) (hb : Below w.heap.size w w') : Rd w' w'.heap.size size A n xs := (h.below hb).more hb.size
theorem Rd.drew (h : Rd w B size A n xs) : Rd w.drew B size A n xs := h
theorem Rd.drewN (h : Rd w B size A n xs) (k : Nat) : Rd (w.drewN k) B size A n xs := h
theorem Rd.alloc (h : Rd w B size A n xs) (hB : B ≤ w.heap.size) (o : Obj) : Rd (w.alloc o) B size A n xs := h.keep fun p hp => World.cell?_alloc_lt w o p (by omega)
theorem Rd.setCell (h : Rd w B size A n xs) {p : Addr} (hB : B ≤ p.block) (u : Value) : Rd (w.setCell p u) B size A n xs :=
  h.keep fun q hq => World.cell?_setCell_other w p q u (fun e => by subst e; omega)
theorem Rd.of_own {base : Nat} {e : TypeId} {c : Nat} (h : w.ownsRow base e size (.slice A n c) n xs) : Rd w w.heap.size size A n xs := by
  refine ⟨h.1, ?_⟩
  by_cases h0 : xs = []
  · exact .inl h0
  · have h2 := h.2
    rcases h2 with ⟨_, h3⟩ | ⟨g, cap, cur, hv, hbg, hh, hcap, hcm, hsz, htk⟩
    · subst h3
      exact absurd (List.eq_nil_of_length_eq_zero (by simpa using h.1)) h0
    · have hA : A = some ⟨g, 0, none⟩ := by injection hv
      refine .inr ⟨g, 0, hA, (Array.getElem?_eq_some_iff.1 hh).1, fun j u hu => ?_⟩
      rw [cell_of_row w g (0 + j) cur e (0, 0) hh, Nat.zero_add]
      rw [← htk, List.getElem?_take] at hu
      split at hu
      · simpa using hu
      · cases hu
theorem own_form {base : Nat} {e : TypeId} {v : Value} (h : w.ownsRow base e size v n xs) : ∃ A c, v = .slice A n c := by
  rcases h.2 with ⟨rfl, rfl⟩ | ⟨g, cap, cur, rfl, _⟩
  · exact ⟨_, _, rfl⟩
  · exact ⟨_, _, rfl⟩
end

theorem own_base {w : World} {base base' : Nat} {e : TypeId} {size n : Nat} {v : Value} {xs : List Value} (h : w.ownsRow base e size v n xs) (hb : base' ≤ base) : w.ownsRow base' e size v n xs :=
  ⟨h.1, h.2.imp id fun ⟨g, cap, cur, e1, e2, r⟩ => ⟨g, cap, cur, e1, Nat.le_trans hb e2, r⟩⟩

theorem own_below {w w' : World} {base : Nat} {e : TypeId} {size n : Nat} {v : Value} {xs : List Value} (h : w.ownsRow base e size v n xs) (hb : Below w.heap.size w w') : w'.ownsRow base e size v n xs :=
  ⟨h.1, h.2.imp id fun ⟨g, cap, cur, e1, e2, e3, r⟩ => ⟨g, cap, cur, e1, e2, (hb.block g (Array.getElem?_eq_some_iff.1 e3).1).trans e3, r⟩⟩
theorem own_drewN {w : World} {base : Nat} {e : TypeId} {size n : Nat} {v : Value} {xs : List Value} (h : w.ownsRow base e size v n xs) (j : Nat) : (w.drewN j).ownsRow base e size v n xs := h
theorem own_some {w : World} {base : Nat} {e : TypeId} {size n c : Nat} {A : Option Addr} {xs : List Value} (h : w.ownsRow base e size (.slice A n c) n xs) (hn : 0 < n) : ∃ g, A = some ⟨g, 0, none⟩ ∧ base ≤ g ∧ g < w.heap.size := by
  rcases h.2 with ⟨_, h0⟩ | ⟨g, cap, cur, e1, e2, e3, _⟩
  · omega
  · injection e1 with e1
    exact ⟨g, e1, e2, (Array.getElem?_eq_some_iff.1 e3).1⟩
/-- A row that was made later lies elsewhere. -/
theorem own_ne {w w2 : World} {base base2 : Nat} {e e2 : TypeId} {size size2 n n2 : Nat} {v v2 : Value} {xs xs2 : List Value} (h : w.ownsRow base e size v n xs) (h2 : w2.ownsRow base2 e2 size2 v2 n2 xs2) (hle : w.heap.size ≤ base2) :
    v2.ownBlock = none ∨ v2.ownBlock ≠ v.ownBlock := by
  cases hv : v2.ownBlock with
  | none => exact .inl rfl
  | some k =>
    refine .inr fun e => ?_
    have := (h2.lt k hv).1
    have := (h.lt k e.symm).2
    omega

/-- Only block 'row', and what is new, has turned between the two worlds: 'grownBy' chains. -/
theorem grown_trans {a b c : World} {row : Option Nat} (h : a.grownBy b row) (k : b.grownBy c row) : a.grownBy c row :=
  ⟨k.os.trans h.os, k.tape.trans h.tape, k.output.trans h.output, Nat.le_trans h.size k.size, fun i hi hr => (k.block i (Nat.lt_of_lt_of_le hi h.size) hr).trans (h.block i hi hr)⟩

end Go.Proofs.YtfegfmapdekkbaaGreatDoor
namespace Go.Proofs.YtfegfmapdekkbaaGreatDoor
set_option linter.unusedVariables false
set_option linter.unusedSimpArgs false
open Go.RowKit

/-- Block g is a map whose entries are these, in their order. -/
def MapIs (w : World) (g : Nat) (k : IntKind) (m : List (Int × Value)) : Prop := ∃ es clk, w.heap[g]? = some (.map es clk) ∧ es.toList.map (fun e => (e.key, e.val)) = m.map (fun p => (Value.int k p.1, p.2))

theorem findNow_lit (k : IntKind) (x : Int) (kd : IntKind) : ∀ (es : List MapEntry) (m : List (Int × Value)) (i : Nat), es.map (fun e => (e.key, e.val)) = m.map (fun p => (Value.int k p.1, p.2)) →
    ∃ r, Instr.findNow (.int kd) (.int k x) es i = some r ∧ r.map (·.2) = (m.find? fun p => p.1 == x).map (·.2) := by
  intro es
  induction es with
  | nil => intro m i h; cases m with
    | nil => exact ⟨none, rfl, rfl⟩
    | cons p m => simp at h
  | cons e es ih => intro m i h; cases m with
    | nil => simp at h
    | cons p m =>
      simp only [List.map_cons, List.cons.injEq, Prod.mk.injEq] at h
      obtain ⟨⟨h1, h2⟩, h3⟩ := h
      unfold Instr.findNow
      rw [h1]
      simp only [Instr.sameNow, if_true]
      by_cases hx : x = p.1
      · subst hx
        simp [h2]
      · have e1 : (x == p.1) = false := by simpa using hx
        have e2 : (p.1 == x) = false := by simpa using fun h => hx h.symm
        obtain ⟨r, hr, hm⟩ := ih m (i + 1) h3
        refine ⟨r, ?_, ?_⟩
        · simp only [e1]
          exact hr
        · rw [List.find?_cons, e2]
          exact hm

section
variable {P : Program} {t kt e : TypeId} {k kd : IntKind} {w : World} {g : Nat} {m : List (Int × Value)} {x : Int} {v : Value}
theorem run_mapPut (ht : P.underlying t = some (.map kt e)) (hk : P.underlying kt = some (.int kd)) (hik : Go.MapKept.IsKey (.int kd) (.int k x)) (h : MapIs w g k m) (hx : ∀ p ∈ m, p.1 ≠ x) :
    ∃ w', (Instr.mapUpdate t (.map (some g)) (.int k x) v).run P w = .ok () w' ∧ MapIs w' g k (m ++ [(x, v)]) ∧ w.grownBy w' (some g) ∧ w'.heap.size = w.heap.size := by
  obtain ⟨es, clk, hg, hm⟩ := h
  obtain ⟨r, hr, hrm⟩ := findNow_lit k x kd es.toList m 0 hm
  have hnone : (m.find? fun p => p.1 == x) = none := by
    rw [List.find?_eq_none]
    intro p hp
    simpa using hx p hp
  rw [hnone] at hrm
  obtain rfl : r = none := by cases r with
    | none => rfl
    | some q => simp at hrm
  have hlt : g < w.heap.size := (Array.getElem?_eq_some_iff.1 hg).1
  refine ⟨{ w with heap := w.heap.setIfInBounds g (.map (es.push { key := .int k x, val := v, born := clk }) (clk + 1)) }, ?_, ?_, ?_, by simp⟩
  · simp [Instr.mapUpdate, run_underlying ht, Go.MapKept.run_getObj_map hg, Go.MapKept.run_checkKey hk hik, Go.MapKept.run_findKey hk hr, Go.MapKept.run_setObj_map _ hg, Result.andThen]
  · refine ⟨_, _, (Go.MapKept.heap_set hg).1, ?_⟩
    simp [hm]
  · exact ⟨rfl, rfl, rfl, by simp, fun i _ hi => (Go.MapKept.heap_set hg).2 i (fun e => hi (by rw [e]))⟩

theorem run_mapLook (ht : P.underlying t = some (.map kt e)) (hk : P.underlying kt = some (.int kd)) (hik : Go.MapKept.IsKey (.int kd) (.int k x)) {z : Value} (hz : (zeroValue e).run P w = .ok z w) (h : MapIs w g k m) :
    (Instr.lookup t (.map (some g)) (.int k x) true).run P w = .ok (.tuple #[((m.find? fun p => p.1 == x).map (·.2)).getD z, .bool (m.find? fun p => p.1 == x).isSome]) w := by
  obtain ⟨es, clk, hg, hm⟩ := h
  obtain ⟨r, hr, hrm⟩ := findNow_lit k x kd es.toList m 0 hm
  cases hf : (m.find? fun p => p.1 == x) with
  | none =>
    rw [hf] at hrm
    obtain rfl : r = none := by cases r with
      | none => rfl
      | some q => simp at hrm
    simp [Instr.lookup, run_underlying ht, Go.MapKept.run_getObj_map hg, Go.MapKept.run_checkKey hk hik, Go.MapKept.run_findKey hk hr, hz, Result.andThen]
  | some q =>
    rw [hf] at hrm
    obtain ⟨i, rfl⟩ : ∃ i, r = some (i, q.2) := by cases r with
      | none => simp at hrm
      | some y => obtain ⟨i, v⟩ := y; simp at hrm; exact ⟨i, by rw [hrm]⟩
    simp [Instr.lookup, run_underlying ht, Go.MapKept.run_getObj_map hg, Go.MapKept.run_checkKey hk hik, Go.MapKept.run_findKey hk hr, Result.andThen]
theorem run_mapLook1 (ht : P.underlying t = some (.map kt e)) (hk : P.underlying kt = some (.int kd)) (hik : Go.MapKept.IsKey (.int kd) (.int k x)) {z : Value} (hz : (zeroValue e).run P w = .ok z w) (h : MapIs w g k m) :
    (Instr.lookup t (.map (some g)) (.int k x) false).run P w = .ok (((m.find? fun p => p.1 == x).map (·.2)).getD z) w := by
  obtain ⟨es, clk, hg, hm⟩ := h
  obtain ⟨r, hr, hrm⟩ := findNow_lit k x kd es.toList m 0 hm
  cases hf : (m.find? fun p => p.1 == x) with
  | none =>
    rw [hf] at hrm
    obtain rfl : r = none := by cases r with
      | none => rfl
      | some q => simp at hrm
    simp [Instr.lookup, run_underlying ht, Go.MapKept.run_getObj_map hg, Go.MapKept.run_checkKey hk hik, Go.MapKept.run_findKey hk hr, hz, Result.andThen]
  | some q =>
    rw [hf] at hrm
    obtain ⟨i, rfl⟩ : ∃ i, r = some (i, q.2) := by cases r with
      | none => simp at hrm
      | some y => obtain ⟨i, v⟩ := y; simp at hrm; exact ⟨i, by rw [hrm]⟩
    simp [Instr.lookup, run_underlying ht, Go.MapKept.run_getObj_map hg, Go.MapKept.run_checkKey hk hik, Go.MapKept.run_findKey hk hr, Result.andThen]

theorem MapIs.nil (w : World) : MapIs (w.alloc (.map #[] 0)) w.heap.size k [] := ⟨#[], 0, heap_alloc_new _ _, rfl⟩
theorem MapIs.keep {w' : World} (h : MapIs w g k m) (hk : w'.heap[g]? = w.heap[g]?) : MapIs w' g k m := by
  obtain ⟨es, clk, hg, hm⟩ := h
  exact ⟨es, clk, hk.trans hg, hm⟩
theorem MapIs.alloc (h : MapIs w g k m) (o : Obj) : MapIs (w.alloc o) g k m := by
  obtain ⟨es, clk, hg, hm⟩ := h
  exact ⟨es, clk, (Below.heap_alloc _ _ _ (Array.getElem?_eq_some_iff.1 hg).1).trans hg, hm⟩
theorem MapIs.lt (h : MapIs w g k m) : g < w.heap.size := by
  obtain ⟨es, clk, hg, hm⟩ := h
  exact (Array.getElem?_eq_some_iff.1 hg).1

/-- 'm[x] = v' of a map literal at the operation. -/
theorem wpList_mapPut {ops : Array Oper} {rest : List Oper} {o : Oper} {a : Act} {Q : Exit → Act → World → Prop} (hgd : o.guard = none) (mo xo vo : Operand) (ho : o.op = .insert t mo xo vo)
    (ht : P.underlying t = some (.map kt e)) (hk : P.underlying kt = some (.int kd)) (hik : Go.MapKept.IsKey (.int kd) (.int k x)) (hmo : a.eval mo = .map (some g)) (hxo : a.eval xo = .int k x) (hvo : a.eval vo = v) (h : MapIs w g k m) (hx : ∀ p ∈ m, p.1 ≠ x)
    (hK : ∀ w', MapIs w' g k (m ++ [(x, v)]) → w.grownBy w' (some g) → w'.heap.size = w.heap.size → wpList P ops Q rest (a.put o.dst undef) w') : wpList P ops Q (o :: rest) a w := by
  obtain ⟨w', hrun, h1, h2, h3⟩ := run_mapPut (v := v) ht hk hik h hx
  refine wpList_plain hgd fun K hK' => ?_
  unfold Oper.wp
  simp [execOp, ho, hmo, hxo, hvo, hrun, Result.andThen]
  exact hK' _ _ (hK w' h1 h2 h3)
end
end Go.Proofs.YtfegfmapdekkbaaGreatDoor
namespace Go.Proofs.YtfegfmapdekkbaaGreatDoor
set_option linter.unusedVariables false
set_option linter.unusedSimpArgs false
open Go.RowKit
theorem results_cell_tmp {P : Program} {fn : Func} {p q : Tmp} {ty : TypeId} (h : fn.results = #[.cell p ty, .tmp q]) (tmps : Array Value) (w : World) (g : Nat) (t : TypeId) (cs : Array Value) (fr : Nat × Nat) (d : TypeDesc)
    (hp : tmps.getD p undef = .pointer (some ⟨g, 0, none⟩)) (hg : w.heap[g]? = some (.cells cs t fr))
    (hu : P.underlying ty = some d) (hd : (match d with | .struct _ | .array _ _ => true | _ => false) = true) (hi : (P.info? ty).map (·.size) = some cs.size) :
    (results fn tmps).run P w = .ok (.tuple #[.agg cs, tmps.getD q undef]) w := by
  have hp' : tmps[p]?.getD undef = .pointer (some ⟨g, 0, none⟩) := by simpa using hp
  simp [results, h, hp', asAddr, run_loadVar_row w g t ty cs fr d hg hu hd hi]

theorem below_drew' {B : Nat} {a w : World} (h : Below B a w) : Below B a w.drew := ⟨h.os, h.tape, h.output, h.size, h.block⟩
end Go.Proofs.YtfegfmapdekkbaaGreatDoor
namespace Go.Proofs.YtfegfmapdekkbaaGreatDoor
set_option linter.unusedVariables false
set_option linter.unusedSimpArgs false
open Go.RowKit

/-- The fields of a kind, by their numbers. -/
def fs : Nat → List Int
  | 1 => [5, 6, 7]
  | 3 => [0]
  | 5 => [0, 1, 2, 3, 4]
  | 6 => [0, 1]
  | 7 => [0, 1, 2]
  | 8 => [0, 1]
  | 9 => [0, 8]
  | 10 => [5, 0]
  | 11 => [0]
  | 12 => [0, 1]
  | _ => []
def fmap (bs : Nat → Nat) (j : Nat) : List (Int × Value) := (List.range j).map fun i => (((i + 1 : Nat) : Int), Value.slice (some ⟨bs i, 0, none⟩) (fs (i + 1)).length (fs (i + 1)).length)
def fcells (k : Nat) : Array Value := ((fs k).map (Value.int .i64)).toArray
theorem fmap_succ (bs : Nat → Nat) (b j : Nat) : fmap (fun i => if i = j then b else bs i) (j + 1) = fmap bs j ++ [(((j + 1 : Nat) : Int), Value.slice (some ⟨b, 0, none⟩) (fs (j + 1)).length (fs (j + 1)).length)] := by
  unfold fmap
  rw [List.range_succ, List.map_append]
  congr 1
  · refine List.map_congr_left fun i hi => ?_
    have : i ≠ j := by have := List.mem_range.1 hi; omega
    simp [this]
  · simp
end Go.Proofs.YtfegfmapdekkbaaGreatDoor
namespace Go.Proofs.YtfegfmapdekkbaaGreatDoor
set_option linter.unusedVariables false
set_option linter.unusedSimpArgs false
open Go.RowKit

/-- What a slice type t of elements e is known by: 'size' cells, 'bytes' bytes an element. -/
structure SlTy (P : Program) (t e : TypeId) (size bytes : Nat) : Prop where
  ht : P.underlying t = some (.slice e)
  hi : ∃ i z, P.info? e = some i ∧ i.zero = some z ∧ i.size = size ∧ i.bytes = bytes ∧ z.cells.size = size
  hsz : 0 < size
  hby : 0 < bytes

theorem slTy_mk {P : Program} {t e : TypeId} {size bytes : Nat} {z : Value} (ht : P.underlying t = some (.slice e)) (h : (P.info? e).map (fun i => (i.zero, i.size, i.bytes)) = some (some z, size, bytes))
    (hz : z.cells.size = size) (hsz : 0 < size) (hby : 0 < bytes) : SlTy P t e size bytes := by
  refine ⟨ht, ?_, hsz, hby⟩
  cases hi : P.info? e with
  | none => simp [hi] at h
  | some i =>
    simp [hi] at h
    exact ⟨i, z, rfl, h.1, h.2.1, h.2.2, hz⟩

theorem Rd.row {w : World} {cs : Array Value} {e : TypeId} {size : Nat} (hc : cs.size = size) : Rd (w.alloc (.cells cs e)) (w.heap.size + 1) size (some ⟨w.heap.size, 0, none⟩) 1 cs.toList := by
  refine ⟨by simp [hc], .inr ⟨w.heap.size, 0, rfl, by omega, fun j u hu => ?_⟩⟩
  rw [cell_of_row _ w.heap.size (0 + j) cs e (0, 0) (heap_alloc_new _ _), Nat.zero_add]
  simpa using hu

theorem Rd.rowF {w : World} {cs : Array Value} {e : TypeId} {size n : Nat} {fz : Nat × Nat} (hc : cs.size = n * size) : Rd (w.alloc (.cells cs e fz)) (w.heap.size + 1) size (some ⟨w.heap.size, 0, none⟩) n cs.toList := by
  refine ⟨by simp [hc], .inr ⟨w.heap.size, 0, rfl, by omega, fun j u hu => ?_⟩⟩
  rw [cell_of_row _ w.heap.size (0 + j) cs e fz (heap_alloc_new _ _), Nat.zero_add]
  simpa using hu

section
variable {P : Program} {t e : TypeId} {size bytes : Nat}

theorem run_app (T : SlTy P t e size bytes) (w : World) (base : Nat) (ty : TypeId) (v : Value) (n : Nat) (xs : List Value) (hown : w.ownsRow base e size v n xs)
    (B : Nat) (A : Option Addr) (m c : Nat) (news : List Value) (hr : Rd w B size A m news) (h1 : ∀ u ∈ news, u.oneCell' = true)
    (hb : (n + m) * bytes ≤ 140737488355328) (hbase : base ≤ w.heap.size) :
    ∃ v' w', (Builtin.append_ #[t, t] ty #[v, .slice A m c]).run P w = .ok v' w' ∧ w'.ownsRow base e size v' (n + m) (xs ++ news) ∧ w.grownBy w' v.ownBlock ∧
      (∀ k, v'.ownBlock = some k → v.ownBlock = some k ∨ w.heap.size ≤ k) := by
  obtain ⟨ht, ⟨i, z, hi, hz, hs, hby, hzs⟩, hsz, hbp⟩ := T
  have h63 : n + m ≤ maxLen := by
    have : (n + m) * 1 ≤ (n + m) * bytes := Nat.mul_le_mul_left _ hbp
    unfold maxLen
    omega
  by_cases hn0 : m = 0 ∧ A = none
  · obtain ⟨rfl, rfl⟩ := hn0
    have hn : news = [] := List.eq_nil_of_length_eq_zero (by simpa using hr.1)
    subst hn
    refine ⟨v, w, ?_, by simpa using hown, World.grownBy.refl w _, fun k hk => .inl hk⟩
    rcases hown.2 with ⟨rfl, rfl⟩ | ⟨g, cap, cur, rfl, _, _, hnc, _⟩
    · simp [Builtin.append_, run_underlying ht, sizeOf, typeInfo, hi, Builtin.lenOf, Builtin.firstCells]
    · simp [Builtin.append_, run_underlying ht, sizeOf, typeInfo, hi, Builtin.lenOf, Builtin.firstCells, hnc, storeCells]
  · obtain ⟨ad, rfl, hcells⟩ : ∃ ad, A = some ad ∧ ∀ j u, news[j]? = some u → w.cell? (ad.add j) = some u := by
      rcases hr.2 with rfl | ⟨b, off, rfl, _, hc⟩
      · have hm : m = 0 := by
          have := hr.1
          simp only [List.length_nil] at this
          rcases Nat.eq_zero_or_pos m with h | h
          · exact h
          · have := Nat.mul_pos h hsz
            omega
        cases A with
        | none => exact absurd ⟨hm, rfl⟩ hn0
        | some ad => exact ⟨ad, rfl, fun j u hu => by simp at hu⟩
      · exact ⟨_, rfl, fun j u hu => by rw [Addr.add_lit]; exact hc j u hu⟩
    obtain ⟨v', w', hrun, h2, h3, h4, h5⟩ := run_append_own_at (P := P) w base t ty e i z size bytes ht hi hz hs hby hzs hsz v n xs hown ad m c news hr.1 hcells h1 h63 hb hbase
    refine ⟨v', w', hrun, h2, h3, fun k hk => ?_⟩
    rcases h5 with h5 | h5
    · exact .inl (h5 ▸ hk)
    · rw [h5] at hk
      injection hk with hk
      exact .inr (by omega)

theorem wp_app (T : SlTy P t e size bytes) {w : World} {o : Oper} {a : Act} {K : Act → World → Prop} {Q : Exit → Act → World → Prop} (s x : Operand)
    (ho : o.op = .call { callee := .builtin .append, args := #[s, x], argTypes := #[t, t] })
    (base : Nat) (v : Value) (n : Nat) (xs : List Value) (hs : a.eval s = v) (hown : w.ownsRow base e size v n xs)
    (B : Nat) (A : Option Addr) (m c : Nat) (news : List Value) (hx : a.eval x = .slice A m c) (hr : Rd w B size A m news) (h1 : ∀ u ∈ news, u.oneCell' = true)
    (hb : (n + m) * bytes ≤ 140737488355328) (hbase : base ≤ w.heap.size)
    (h : ∀ v' w', w'.ownsRow base e size v' (n + m) (xs ++ news) → w.grownBy w' v.ownBlock → (∀ k, v'.ownBlock = some k → v.ownBlock = some k ∨ w.heap.size ≤ k) → K (a.put o.dst v') w') : o.wp P a w K Q := by
  obtain ⟨v', w', hrun, h2, h3, h4⟩ := run_app T w base o.type v n xs hown B A m c news hr h1 hb hbase
  unfold Oper.wp execOp
  simp only [ho, resolve, invoke, builtin, Sem.run_bind, Sem.run_pure, Result.andThen_ok, List.map_toArray, List.map_cons, List.map_nil, hs, hx, hrun]
  exact h v' w' h2 h3 h4

/-- 'append(s, x...)', x a slice that reads as 'news'. -/
theorem wpList_app (T : SlTy P t e size bytes) {w : World} {ops : Array Oper} {rest : List Oper} {o : Oper} {a : Act} {Q : Exit → Act → World → Prop} (hgd : o.guard = none) (s x : Operand)
    (ho : o.op = .call { callee := .builtin .append, args := #[s, x], argTypes := #[t, t] })
    (base : Nat) (v : Value) (n : Nat) (xs : List Value) (hs : a.eval s = v) (hown : w.ownsRow base e size v n xs)
    (B : Nat) (A : Option Addr) (m c : Nat) (news : List Value) (hx : a.eval x = .slice A m c) (hr : Rd w B size A m news) (h1 : ∀ u ∈ news, u.oneCell' = true)
    (hb : (n + m) * bytes ≤ 140737488355328) (hbase : base ≤ w.heap.size)
    (h : ∀ A' c' w', w'.ownsRow base e size (.slice A' (n + m) c') (n + m) (xs ++ news) → w.grownBy w' v.ownBlock → (∀ k, (Value.slice A' (n + m) c').ownBlock = some k → v.ownBlock = some k ∨ w.heap.size ≤ k) → wpList P ops Q rest (a.put o.dst (.slice A' (n + m) c')) w') : wpList P ops Q (o :: rest) a w :=
  wpList_plain hgd fun _ hK => wp_app T s x ho base v n xs hs hown B A m c news hx hr h1 hb hbase fun v' w' h2 h3 h4 => by
    obtain ⟨A', c', rfl⟩ := own_form h2
    exact hK _ _ (h A' c' w' h2 h3 h4)

/-- 'append(s, x)': the one element's cells have just been laid in a block of their own. -/
theorem wpList_app1 (T : SlTy P t e size bytes) {W : World} {ops : Array Oper} {rest : List Oper} {o : Oper} {a : Act} {Q : Exit → Act → World → Prop} (hgd : o.guard = none) (s x : Operand)
    (ho : o.op = .call { callee := .builtin .append, args := #[s, x], argTypes := #[t, t] })
    (base : Nat) (v : Value) (n : Nat) (xs : List Value) (hs : a.eval s = v) (hown : W.ownsRow base e size v n xs)
    (cs : Array Value) (hx : a.eval x = .slice (some ⟨W.heap.size, 0, none⟩) 1 1) (hcs : cs.size = size) (h1 : ∀ u ∈ cs.toList, u.oneCell' = true)
    (hb : (n + 1) * bytes ≤ 140737488355328) (hbase : base ≤ W.heap.size)
    (h : ∀ A' c' w', w'.ownsRow base e size (.slice A' (n + 1) c') (n + 1) (xs ++ cs.toList) → W.grownBy w' v.ownBlock → (∀ k, (Value.slice A' (n + 1) c').ownBlock = some k → v.ownBlock = some k ∨ W.heap.size ≤ k) → wpList P ops Q rest (a.put o.dst (.slice A' (n + 1) c')) w') : wpList P ops Q (o :: rest) a (W.alloc (.cells cs e)) :=
  wpList_app T hgd s x ho base v n xs hs (hown.alloc _) (W.heap.size + 1) (some ⟨W.heap.size, 0, none⟩) 1 1 cs.toList hx (Rd.row hcs) h1 hb (by simp; omega)
    fun A' c' w' h2 h3 h4 => h A' c' w' h2 (grown_trans (World.grownBy_alloc W _ _) h3) fun k hk => (h4 k hk).imp id fun h5 => by simp at h5; omega
end
end Go.Proofs.YtfegfmapdekkbaaGreatDoor
namespace Go.Proofs.YtfegfmapdekkbaaGreatDoor
set_option linter.unusedVariables false
set_option linter.unusedSimpArgs false
open Go.RowKit Go.Lib

/-- Nothing below B, and no block that is no iterator of a text, has turned. -/
structure ItKp (B : Nat) (w w' : World) : Prop where
  os : w'.os = w.os
  tape : w'.tape = w.tape
  output : w'.output = w.output
  size : w.heap.size ≤ w'.heap.size
  low : ∀ k, k < B → w'.heap[k]? = w.heap[k]?
  rest : ∀ (k : Nat) (o : Obj), w.heap[k]? = some o → (∀ s p, o ≠ .stringIter s p) → w'.heap[k]? = some o

def IterKept (w w' : World) : Prop := ∀ (k : Nat) (s : ByteArray) (p : Nat), w.heap[k]? = some (.stringIter s p) → w'.heap[k]? = some (.stringIter s p)

theorem ItKp.iter {B : Nat} {w : World} (hB : B ≤ w.heap.size) (s : ByteArray) (p : Nat) : ItKp B w (w.iter s p) :=
  ⟨rfl, rfl, rfl, by simp [World.iter], fun k hk => Below.heap_alloc _ _ _ (by omega), fun k o h _ => by
    rw [← h]
    exact Below.heap_alloc _ _ _ (Array.getElem?_eq_some_iff.1 h).1⟩

theorem ItKp.iterAt {B : Nat} {w : World} {k : Nat} (hB : B ≤ k) (s : ByteArray) (p q : Nat) (h : w.heap[k]? = some (.stringIter s q)) : ItKp B w (w.iterAt k s p) :=
  ⟨rfl, rfl, rfl, by rw [iterAt_size]; exact Nat.le_refl _, fun j hj => iterAt_other _ _ _ _ _ (by omega), fun j o hj hn => by
    by_cases e : j = k
    · subst e
      rw [h] at hj
      exact absurd (Option.some.inj hj).symm (hn _ _)
    · rw [iterAt_other _ _ _ _ _ e]
      exact hj⟩

set_option maxHeartbeats 800000 in
/-- pieces hands each text between slashes to yield, till that says no. -/
theorem pieces_any {S : Type} (fn : FuncId) (c : Value) (I : Nat → S → World → Prop) (step : S → ByteArray → S × Bool) (B : Nat) (p : ByteArray) (hp : p.size ≤ maxLen)
    (hf : ∀ (args : Array Value) (w : World), (callFunc fn args).run Tryz.prog w = .ok (.enter fn args) w)
    (hI : ∀ n s w w', ItKp B w w' → I n s w → I n s w')
    (hcall : ∀ n s w (x : ByteArray), n ≤ p.size → x.size ≤ p.size → I n s w → Calls Tryz.prog fn #[.string x, c] w fun e w' => e = .returned (.bool (step s x).2) ∧ I (n + 1) (step s x).1 w' ∧ IterKept w w')
    (s0 : S) (w : World) (hB : B ≤ w.heap.size) (h0 : I 0 s0 w) :
    Calls Tryz.prog 77 #[.string p, .func (.func fn) #[] #[c]] w fun e w' => e = .returned (.tuple #[]) ∧ ∃ n, I n (Pth.goF step s0 (Pth.pcs p)) w' := by
  have Hc := hide hcall
  have HI := hide hI
  clear hcall hI
  unfold maxLen at hp
  go_enter Tryz.func77, Tryz.ntmps77
  go_wp2
  go_loopw [4] (fun f wr => ∃ (n pos fr : Nat) (s : S), n ≤ pos ∧ f = .int .i64 fr ∧ fr ≤ pos ∧ pos ≤ p.size ∧ wr.heap[w.heap.size]? = some (.stringIter p pos) ∧ I n s wr ∧ Pth.goF step s (Pth.pcsAt p pos fr) = Pth.goF step s0 (Pth.pcs p)) (fun _ wr => p.size - wr.iterPos w.heap.size)
  case atStart => exact ⟨0, 0, 0, s0, Nat.le_refl _, rfl, Nat.le_refl _, Nat.zero_le _, World.iter_heap _ _ _, unhide HI _ _ _ _ (ItKp.iter hB _ _) h0, rfl⟩
  case round =>
    obtain ⟨n, pos, fr, s, hnp, rfl, hfr, hps, hit, hIs, hg⟩ := hrel
    have Hg := hide hg
    clear hg
    by_cases hlt : pos < p.size
    · obtain ⟨c1, c2, c3, c4, c5⟩ := Pth.decode_cover p pos hlt
      have hI1 : I n s (wr.iterAt w.heap.size p (pos + (Utf8.decode p pos).2))   := unhide HI _ _ _ _ (ItKp.iterAt hB _ _ _ hit) hIs
      have hit1 := iterAt_heap wr w.heap.size p pos (pos + (Utf8.decode p pos).2) hit
      have hip := iterPos_of hit
      have hip1 := iterPos_of hit1
      have hnx := fun ty => run_next_any_at (P := Tryz.prog) wr w.heap.size p pos ty hit hlt
      by_cases hc : p[pos] = 47
      · have hd1 := c4 hc
        have hc' := c3.2 hc
        rw [hd1] at hI1 hit1 hip1 hnx
        rw [hc'] at hnx
        have hgoal : Pth.goF step s (p.extract fr pos :: Pth.pcsAt p (pos + 1) (pos + 1)) = Pth.goF step s0 (Pth.pcs p) := by rw [← Pth.pcsAt_slash p pos fr hlt hc]; exact unhide Hg
        have Hgoal := hide hgoal
        have Hip := hide hip
        have Hit := hide hit1
        clear hgoal hd1 hc' hc hip hip1 hit1 hit c3 c4 c5 c1 c2
        go_wp2_with (refine ((unhide Hc) n s _ (p.extract fr pos) (by omega) (by simp only [ByteArray.size_extract]; omega) hI1).mono ?_; rintro e w1 ⟨rfl, hI2, hk2⟩)
        · have hst : (step s (p.extract fr pos)).2 = false := by
            have h : (!(step s (p.extract fr pos)).2) = true := by assumption
            simpa using h
          refine bodyPost_ret (results_none rfl _ _ _) rfl ⟨rfl, n + 1, ?_⟩
          rw [← unhide Hgoal]
          simp only [Pth.goF, hst, if_false, Bool.false_eq_true]
          exact hI2
        · have hit2 := hk2 _ _ _ (unhide Hit)
          have hip2 := iterPos_of hit2
          have hst : (step s (p.extract fr pos)).2 = true := by
            have h : (!(step s (p.extract fr pos)).2) = false := by assumption
            simpa using h
          go_roundw
          case rel => exact ⟨n + 1, pos + 1, pos + 1, _, by omega, by go_num, Nat.le_refl _, by omega, hit2, hI2, by rw [← unhide Hgoal]; simp [Pth.goF, hst]⟩
          case measure => rw [hip2, unhide Hip]; omega
      · have hne : ((((Utf8.decode p pos).1 : Nat) : Int) != 47) = true := by
          have : (Utf8.decode p pos).1 ≠ 47 := fun e => hc (c3.1 e)
          rw [bne_iff_ne]; omega
        have hgoal : Pth.goF step s (Pth.pcsAt p (pos + (Utf8.decode p pos).2) fr) = Pth.goF step s0 (Pth.pcs p) := by
          rw [← Pth.pcsAt_skips p fr _ pos (c5 hc)]; exact unhide Hg
        have Hgoal := hide hgoal
        have Hip := hide hip
        have Hip1 := hide hip1
        have Hit := hide hit1
        clear hgoal hip hip1 hit1 c3 c4 c5
        go_wp2
        go_roundw
        case rel => exact ⟨n, pos + (Utf8.decode p pos).2, fr, s, by omega, rfl, by omega, c2, unhide Hit, hI1, unhide Hgoal⟩
        case measure => rw [unhide Hip, unhide Hip1]; omega
    · have hnx := fun ty => run_next_end_at (P := Tryz.prog) wr w.heap.size p pos ty hit hlt
      obtain rfl : pos = p.size := by omega
      have hgoal : Pth.goF step s [p.extract fr p.size] = Pth.goF step s0 (Pth.pcs p) := by rw [← Pth.pcsAt_end]; exact unhide Hg
      have Hgoal := hide hgoal
      clear hgoal hps hlt
      go_wp2_with (refine ((unhide Hc) n s _ (p.extract fr p.size) (by omega) (by simp only [ByteArray.size_extract]; omega) hIs).mono ?_; rintro e w1 ⟨rfl, hI2, hk2⟩)
      go_end0
      refine ⟨rfl, n + 1, ?_⟩
      rw [← unhide Hgoal]
      simp only [Pth.goF]
      split <;> exact hI2

/-- What Check's yield keeps: its error in block g. -/
def ChkI (w0 : World) (g : Nat) (e : Int) (w : World) : Prop := w.heap[g]? = some (.cells #[.int .i64 e] 34 (0, 0)) ∧ Below w0.heap.size w0 w

theorem ChkI.stable {w0 : World} {g : Nat} (e : Int) (w w' : World) (h : ItKp w0.heap.size w w') (hI : ChkI w0 g e w) : ChkI w0 g e w' :=
  ⟨h.rest _ _ hI.1 (fun _ _ => by simp), hI.2.trans ⟨h.os, h.tape, h.output, h.size, h.low⟩⟩

theorem iterKept_setCell {w : World} {g : Nat} {cs : Array Value} {t : TypeId} {fz : Nat × Nat} (h : w.heap[g]? = some (.cells cs t fz)) (o : Nat) (v : Value) : IterKept w (w.setCell ⟨g, o, none⟩ v) := by
  intro k s p hk
  rw [Below.heap_setCell _ _ _ _ ?_]
  · exact hk
  · rintro rfl
    rw [h] at hk
    cases hk

theorem check1_any (w0 : World) (g : Nat) (hg : w0.heap.size ≤ g) (e : Int) (w : World) (x : ByteArray) (hx : x.size ≤ maxLen) (hI : ChkI w0 g e w) :
    Calls Tryz.prog 82 #[.string x, .pointer (some ⟨g, 0, none⟩)] w fun r w' => r = .returned (.bool (Pth.checkStep e x).2) ∧ ChkI w0 g (Pth.checkStep e x).1 w' ∧ IterKept w w' := by
  have HI := hide hI
  obtain ⟨hc, hb⟩ := hI
  have h1 := cell_of_one hc
  have h2 := free_of_one hc
  have h3 := cell_of_one (one_setCell (u := .int .i64 11) hc)
  clear hc hb
  unfold maxLen at hx
  by_cases hl : 32 < x.size
  · go_enter Tryz.func82, Tryz.ntmps82
    go_wp2
    go_ret
    refine ⟨by simp [Pth.checkStep, hl], ⟨?_, ?_⟩, ?_⟩
    · simp only [Pth.checkStep, hl, if_true]
      exact one_setCell (unhide HI).1
    · exact (unhide HI).2.setCell hg _
    · exact iterKept_setCell (unhide HI).1 _ _
  · go_enter Tryz.func82, Tryz.ntmps82
    go_wp2
    go_ret
    exact ⟨by simp [Pth.checkStep, hl], by simpa [Pth.checkStep, hl] using unhide HI, fun _ _ _ h => h⟩

theorem callFunc_check1 (args : Array Value) (w : World) : (callFunc 82 args).run Tryz.prog w = .ok (.enter 82 args) w := by kernel_rfl

theorem check_any (p : ByteArray) (hp : p.size ≤ maxLen) (w : World) :
    Calls Tryz.prog 58 #[.string p] w fun e w' => e = .returned (.int .i64 (Pth.chk p)) ∧ Below w.heap.size w w' := by
  have hp' := hp
  unfold maxLen at hp
  have hmf : ∀ (fn : Fn) (first cap : Array Value) (w : World), (Instr.makeFunc fn first cap).run Tryz.prog w = .ok (.func fn first cap) w := fun _ _ _ _ => rfl
  have he0 : p.toList.isEmpty = decide (p.size = 0) := isEmpty_toList p
  have hcn := Lib.contains_iff_indexByte p.data.toList 0
  by_cases h0 : p.size = 0
  · have hr : Pth.chk p = 3 := by simp [Pth.chk, h0]
    have Hr := hide hr
    have he : p.toList.isEmpty = true := by rw [he0]; simpa using h0
    clear he0 hr h0 hcn
    go_enter Tryz.func58, Tryz.ntmps58
    go_wp2_with fail
    go_ret
    exact ⟨by rw [unhide Hr]; rfl, Below.refl _ _⟩
  · have he : p.toList.isEmpty = false := by rw [he0]; simpa using h0
    by_cases h1 : p.data.toList.contains 0 = true
    · have hr : Pth.chk p = 1 := by simp only [Pth.chk, h0, h1, if_true, if_false]
      have Hr := hide hr
      have hi : decide (0 ≤ Lib.indexByte p.data.toList 0) = true := by rw [← hcn]; exact h1
      clear he0 hr h0 hcn h1
      go_enter Tryz.func58, Tryz.ntmps58
      go_wp2_with (go_at_call 76; refine (flipw (Tryz.strings_Contains_one _ _ _)).mono ?_; rintro e w1 ⟨rfl, rfl⟩)
      go_ret
      exact ⟨by rw [unhide Hr]; rfl, Below.refl _ _⟩
    · have hi : decide (0 ≤ Lib.indexByte p.data.toList 0) = false := by rw [← hcn]; simpa using h1
      by_cases h2 : 200 < p.size
      · have hr : Pth.chk p = 11 := by simp only [Pth.chk, h0, h1, h2, if_true, if_false, Bool.false_eq_true]
        have Hr := hide hr
        clear he0 hr h0 hcn h1
        go_enter Tryz.func58, Tryz.ntmps58
        go_wp2_with (go_at_call 76; refine (flipw (Tryz.strings_Contains_one _ _ _)).mono ?_; rintro e w1 ⟨rfl, rfl⟩)
        go_ret
        exact ⟨by rw [unhide Hr]; rfl, Below.refl _ _⟩
      · have hr : Pth.chk p = Pth.goF Pth.checkStep 0 (Pth.pcs p) := by rw [Pth.goF_check]; simp only [Pth.chk, h0, h1, h2, if_false, Bool.false_eq_true]
        have Hr := hide hr
        clear he0 hr h0 hcn h1
        have hini : ChkI w w.heap.size 0 (w.alloc (.cells #[.int .i64 0] 34)) := ⟨heap_alloc_new _ _, (Below.refl _ _).alloc (Nat.le_refl _) _⟩
        have Hini := hide hini
        clear hini
        go_enter Tryz.func58, Tryz.ntmps58
        go_wp2_with (first
          | (go_at_call 76; refine (flipw (Tryz.strings_Contains_one _ _ _)).mono ?_; rintro e w1 ⟨rfl, rfl⟩)
          | (go_at_call 77; refine (pieces_any 82 _ (fun _ => ChkI w w.heap.size) Pth.checkStep w.heap.size p hp' callFunc_check1 (fun _ => ChkI.stable) (fun _ s w' x _ hx hI => check1_any w w.heap.size (Nat.le_refl _) s w' x (Nat.le_trans hx hp') hI) 0 _ (Nat.le_of_lt (by simp)) (unhide Hini)).mono ?_; rintro e w1 ⟨rfl, _, hI⟩; have h9 := cell_of_one hI.1; have HI9 := hide hI; clear hI))
        go_ret
        exact ⟨by rw [unhide Hr]; rfl, (unhide HI9).2⟩

theorem strTy : SlTy Tryz.prog 27 9 1 16 := slTy_mk (z := .string ⟨#[]⟩) Tryz.underlying27 (by kernel_rfl) rfl (by omega) (by omega)

end Go.Proofs.YtfegfmapdekkbaaGreatDoor
namespace Go.Proofs.YtfegfmapdekkbaaGreatDoor
set_option linter.unusedVariables false
set_option linter.unusedSimpArgs false
open Go.RowKit

def IdxInt (xs : List Int) (v : Int) (w : World) (e : Ending) (w' : World) : Prop := ∃ r : Int, e = .returned (.int .i64 r) ∧ (0 ≤ r ↔ v ∈ xs) ∧ w = w'
end Go.Proofs.YtfegfmapdekkbaaGreatDoor
namespace Go.Proofs.YtfegfmapdekkbaaGreatDoor
set_option linter.unusedVariables false
set_option linter.unusedSimpArgs false
open Go.RowKit

def IdxB (b : Bool) (w : World) (e : Ending) (w' : World) : Prop := ∃ r : Int, e = .returned (.int .i64 r) ∧ decide (0 ≤ r) = b ∧ w = w'

set_option maxHeartbeats 1000000 in
theorem indexFunc_any (fn : FuncId) (p : ByteArray → Bool) (hcf : ∀ (args : Array Value) (w : World), (callFunc fn args).run Tryz.prog w = .ok (.enter fn args) w)
    (hfn : ∀ (x : ByteArray) (w : World), x.size ≤ maxLen → Calls Tryz.prog fn #[.string x] w fun e w' => e = .returned (.bool (p x)) ∧ w = w')
    (A : Option Addr) (n c B : Nat) (l : List ByteArray) (w : World) (hl : Rd w B 1 A n (l.map Value.string)) (hs : ∀ x ∈ l, x.size ≤ maxLen) (hn : n ≤ maxLen) :
    Calls Tryz.prog 75 #[.slice A n c, .func (.func fn) #[] #[]] w (IdxB (l.any p) w) := by
  have hln : l.length = n := by simpa using hl.len1
  unfold maxLen at hn
  have Hl := hide hl
  have Hln := hide hln
  have Hs := hide hs
  have Hfn := hide hfn
  clear hl hln hs hfn
  go_enter Tryz.func75, Tryz.ntmps75
  go_wp2_with fail
  go_loopg [8] n (fun gk i wr => ∃ k : Nat, gk = n - k ∧ k ≤ n ∧ i = .int .i64 k ∧ (l.take k).any p = false ∧ w = wr)
  case atStart => exact ⟨0, by omega, Nat.zero_le _, rfl, rfl, rfl⟩
  case round =>
    obtain ⟨k, hgk, hk, rfl, hno, rfl⟩ := hrel
    have Hgk := hide hgk
    have Hno := hide hno
    clear hgk hno
    by_cases hlt : k < n
    · obtain ⟨x, hx⟩ : ∃ x, l[k]? = some x := ⟨_, List.getElem?_eq_getElem (by rw [unhide Hln]; exact hlt)⟩
      obtain ⟨b1, o1, rfl, _, c1⟩ := (unhide Hl).at_ (k := k) (u := .string x) (by simp [hx])
      have hc := fun (w' : World) => (unhide Hfn) x w' ((unhide Hs) _ (List.mem_of_getElem? hx))
      cases hp : p x
      · have hno2 : (l.take (k + 1)).any p = false := by rw [List.take_add_one, hx]; simp [unhide Hno, hp]
        rw [hp] at hc
        have Hc := hide hc
        have Hno2 := hide hno2
        clear hc hno2 hp hx
        go_wp2_with ((with_reducible refine ((unhide Hc) _).mono ?_); rintro e w1 ⟨rfl, rfl⟩)
        go_roundg (n - (k + 1))
        case measure => have := unhide Hgk; omega
        case rel => exact ⟨k + 1, rfl, by omega, by go_num, unhide Hno2, rfl⟩
      · have hyes : l.any p = true := List.any_eq_true.2 ⟨x, List.mem_of_getElem? hx, hp⟩
        rw [hp] at hc
        have Hc := hide hc
        have Hyes := hide hyes
        clear hc hyes hp hx
        go_wp2_with ((with_reducible refine ((unhide Hc) _).mono ?_); rintro e w1 ⟨rfl, rfl⟩)
        go_ret
        exact ⟨k, rfl, by rw [unhide Hyes]; simp, rfl⟩
    · have hno2 : l.any p = false := by
        have := unhide Hno
        rwa [List.take_of_length_le (by have := unhide Hln; omega)] at this
      have Hno2 := hide hno2
      clear hno2
      go_wp2_with fail
      go_ret
      exact ⟨-1, rfl, by rw [unhide Hno2]; rfl, rfl⟩

theorem containsFunc_any (fn : FuncId) (p : ByteArray → Bool) (hcf : ∀ (args : Array Value) (w : World), (callFunc fn args).run Tryz.prog w = .ok (.enter fn args) w)
    (hfn : ∀ (x : ByteArray) (w : World), x.size ≤ maxLen → Calls Tryz.prog fn #[.string x] w fun e w' => e = .returned (.bool (p x)) ∧ w = w')
    (A : Option Addr) (n c B : Nat) (l : List ByteArray) (w : World) (hl : Rd w B 1 A n (l.map Value.string)) (hs : ∀ x ∈ l, x.size ≤ maxLen) (hn : n ≤ maxLen) :
    Calls Tryz.prog 46 #[.slice A n c, .func (.func fn) #[] #[]] w fun e w' => e = .returned (.bool (l.any p)) ∧ w = w' := by
  have hi := indexFunc_any fn p hcf hfn A n c B l w hl hs hn
  generalize l.any p = b at *
  have Hi := hide hi
  clear hi hl hs hfn hcf
  go_enter Tryz.func46, Tryz.ntmps46
  go_wp2_with (go_at_call 75; refine (unhide Hi).mono ?_; rintro e w1 ⟨r, rfl, hr, rfl⟩)
  go_ret
  exact ⟨ret_bool rfl, rfl⟩

theorem ck1_any (x : ByteArray) (w : World) (hx : x.size ≤ maxLen) : Calls Tryz.prog 47 #[.string x] w fun e w' => e = .returned (.bool (Cl.bigT x)) ∧ w = w' := by
  unfold maxLen at hx
  have e1 : Cl.bigT x = decide ((256 : Int) < (x.size : Int)) := by unfold Cl.bigT; rw [decide_eq_decide]; omega
  rw [e1]
  clear e1
  go_enter Tryz.func47, Tryz.ntmps47
  go_wp2_with fail
  go_ret
  exact ⟨rfl, rfl⟩
theorem nought_any (x : ByteArray) (w : World) : Calls Tryz.prog 48 #[.string x] w fun e w' => e = .returned (.bool (Cl.zeroT x)) ∧ w = w' := by
  have hc := fun (w' : World) => flipw (Tryz.strings_Contains_one x 0 w')
  have hcn := Lib.contains_iff_indexByte x.data.toList 0
  have e : decide (0 ≤ Lib.indexByte x.data.toList 0) = Cl.zeroT x := by
    unfold Cl.zeroT
    rw [← hcn]
  rw [e] at hc
  have Hc := hide hc
  clear hc hcn e
  go_enter Tryz.func48, Tryz.ntmps48
  go_wp2_with (go_at_call 76; refine ((unhide Hc) _).mono ?_; rintro e w1 ⟨rfl, rfl⟩)
  go_ret
  exact ⟨rfl, rfl⟩
theorem callFunc_ck1 (args : Array Value) (w : World) : (callFunc 47 args).run Tryz.prog w = .ok (.enter 47 args) w := by kernel_rfl
theorem callFunc_nought (args : Array Value) (w : World) : (callFunc 48 args).run Tryz.prog w = .ok (.enter 48 args) w := by kernel_rfl

set_option maxHeartbeats 1000000 in
theorem envCheck_any (A : Option Addr) (n c B : Nat) (l : List ByteArray) (w : World) (hl : Rd w B 1 A n (l.map Value.string)) (hs : ∀ x ∈ l, x.size ≤ maxLen) (hn : n ≤ maxLen) :
    Calls Tryz.prog 22 #[.slice A n c] w fun e w' => e = .returned (.int .i64 (Cl.envCk l)) ∧ w = w' := by
  have hln : l.length = n := by simpa using hl.len1
  have h1 := containsFunc_any 47 Cl.bigT callFunc_ck1 (fun x w' hx => ck1_any x w' hx) A n c B l w hl hs hn
  have h2 := containsFunc_any 48 Cl.zeroT callFunc_nought (fun x w' hx => nought_any x w') A n c B l w hl hs hn
  have hck : Cl.envCk l = if 32 < n then 12 else if l.any Cl.bigT then 12 else if l.any Cl.zeroT then 1 else 0 := by unfold Cl.envCk; rw [hln]
  rw [hck]
  unfold maxLen at hn
  generalize l.any Cl.bigT = b1 at *
  generalize l.any Cl.zeroT = b2 at *
  have H1 := hide h1
  have H2 := hide h2
  clear h1 h2 hck hl hs hln
  by_cases h32 : 32 < n
  · rw [if_pos h32]
    go_enter Tryz.func22, Tryz.ntmps22
    go_wp2_with fail
    go_ret
    exact ⟨rfl, rfl⟩
  · rw [if_neg h32]
    cases b1
    · cases b2
      all_goals
        go_enter Tryz.func22, Tryz.ntmps22
        go_wp2_with fail
        refine (unhide H1).mono ?_
        rintro e w1 ⟨rfl, rfl⟩
        go_wp2_with fail
        refine (unhide H2).mono ?_
        rintro e w1 ⟨rfl, rfl⟩
        go_wp2_with fail
        go_ret
        exact ⟨rfl, rfl⟩
    · go_enter Tryz.func22, Tryz.ntmps22
      go_wp2_with fail
      refine (unhide H1).mono ?_
      rintro e w1 ⟨rfl, rfl⟩
      go_wp2_with fail
      go_ret
      exact ⟨rfl, rfl⟩

set_option maxHeartbeats 1000000 in
theorem rhas_any (s : ByteArray) (w : World) (hs : s.size ≤ maxLen) : Calls Tryz.prog 54 #[.string s, .int .u8 0] w fun e w' => e = .returned (.bool (Cl.zeroT s)) ∧ w = w' := by
  unfold maxLen at hs
  obtain ⟨r, hr⟩ : ∃ r, Cl.zeroT s = r := ⟨_, rfl⟩
  rw [hr]
  have Hr := hide hr
  clear hr
  go_enter Tryz.func54, Tryz.ntmps54
  go_wp2_with fail
  go_loopg [5] s.size (fun gk i wr => ∃ k : Nat, gk = s.size - k ∧ k ≤ s.size ∧ i = .int .i64 k ∧ (s.data.toList.take k).contains 0 = false ∧ w = wr)
  case atStart => exact ⟨0, by omega, by omega, rfl, by simp, rfl⟩
  case round =>
    obtain ⟨k, hgk, hk, rfl, hz, rfl⟩ := hrel
    have Hz := hide hz
    have Hgk := hide hgk
    clear hz hgk
    by_cases hlt : k < s.size
    · by_cases hc : s[k] = 0
      · have b2 : (((s[k].toNat : Nat) : Int) == 0) = true := by rw [byte_0]; simpa using hc
        have hm : Cl.zeroT s = true := by
          unfold Cl.zeroT
          rw [List.contains_iff_mem, ← hc]
          exact Array.getElem_mem_toList _
        rw [unhide Hr] at hm
        subst hm
        clear hc
        go_wp2
        go_ret
        exact ⟨rfl, rfl⟩
      · have b2 : (((s[k].toNat : Nat) : Int) == 0) = false := by rw [byte_0]; simpa using hc
        have hz : (s.data.toList.take (k + 1)).contains 0 = false := by
          rw [List.take_succ_eq_append_getElem (by simpa using hlt), List.contains_append, unhide Hz]
          simp only [Bool.false_or]
          exact by simpa using fun h => hc h.symm
        have Hz2 := hide hz
        clear hz hc
        go_wp2
        go_roundg (s.size - (k + 1))
        case measure => have := unhide Hgk; omega
        case rel => exact ⟨k + 1, rfl, by omega, by go_num, unhide Hz2, rfl⟩
    · have hz : Cl.zeroT s = false := by
        have := unhide Hz
        unfold Cl.zeroT
        rwa [List.take_of_length_le (by simp; omega)] at this
      rw [unhide Hr] at hz
      subst hz
      go_wp2
      go_ret
      exact ⟨rfl, rfl⟩

set_option maxHeartbeats 2000000 in
theorem renvCheck_any (A : Option Addr) (n c B : Nat) (l : List ByteArray) (w : World) (hl : Rd w B 1 A n (l.map Value.string)) (hs : ∀ x ∈ l, x.size ≤ maxLen) (hn : n ≤ maxLen) :
    Calls Tryz.prog 29 #[.slice A n c] w fun e w' => e = .returned (.int .i64 (Cl.envCk l)) ∧ w = w' := by
  have hln : l.length = n := by simpa using hl.len1
  have hck : Cl.envCk l = if 32 < n then 12 else if l.any Cl.bigT then 12 else if l.any Cl.zeroT then 1 else 0 := by unfold Cl.envCk; rw [hln]
  unfold maxLen at hn
  obtain ⟨r, hr⟩ : ∃ r, Cl.envCk l = r := ⟨_, rfl⟩
  rw [hr]
  rw [hr] at hck
  have Hck := hide hck
  have Hl := hide hl
  have Hs := hide hs
  have Hln := hide hln
  clear hck hl hs hln hr
  by_cases h32 : 32 < n
  · have h := unhide Hck
    rw [if_pos h32] at h
    subst h
    go_enter Tryz.func29, Tryz.ntmps29
    go_wp2_with fail
    go_ret
    exact ⟨rfl, rfl⟩
  have hck := unhide Hck
  rw [if_neg h32] at hck
  replace Hck := hide hck
  clear hck
  go_enter Tryz.func29, Tryz.ntmps29
  go_wp2_with fail
  go_loopg [3] n (fun gk i wr => ∃ k : Nat, gk = n - k ∧ k ≤ n ∧ i = .int .i64 k ∧ (l.take k).any Cl.bigT = false ∧ w = wr)
  case atStart => exact ⟨0, by omega, by omega, rfl, rfl, rfl⟩
  case round =>
  obtain ⟨k, hgk, hk, rfl, hno, rfl⟩ := hrel
  have Hgk := hide hgk
  have Hno := hide hno
  clear hgk hno
  rcases Nat.lt_or_ge k n with hlt | hge
  case inl =>
    obtain ⟨x, hx⟩ : ∃ x, l[k]? = some x := ⟨_, List.getElem?_eq_getElem (by rw [unhide Hln]; exact hlt)⟩
    obtain ⟨b1, o1, rfl, _, c1⟩ := (unhide Hl).at_ (k := k) (u := .string x) (by simp [hx])
    have hxs := (unhide Hs) _ (List.mem_of_getElem? hx)
    unfold maxLen at hxs
    by_cases hb : 256 < x.size
    · have hyes : l.any Cl.bigT = true := List.any_eq_true.2 ⟨x, List.mem_of_getElem? hx, by simp [Cl.bigT, hb]⟩
      have h := unhide Hck
      rw [hyes, if_pos rfl] at h
      subst h
      clear hx hyes
      go_wp2_with fail
      go_ret
      exact ⟨rfl, rfl⟩
    · have hno2 : (l.take (k + 1)).any Cl.bigT = false := by rw [List.take_add_one, hx]; simp [unhide Hno, Cl.bigT]; omega
      have Hno2 := hide hno2
      clear hno2 hx
      go_wp2_with fail
      go_roundg (n - (k + 1))
      case measure => have := unhide Hgk; omega
      case rel => exact ⟨k + 1, rfl, by omega, by go_num, unhide Hno2, rfl⟩
  obtain rfl : k = n := by omega
  have hno2 : l.any Cl.bigT = false := by
    have := unhide Hno
    rwa [List.take_of_length_le (by have := unhide Hln; omega)] at this
  have hck := unhide Hck
  rw [hno2] at hck
  simp only [Bool.false_eq_true, if_false] at hck
  replace Hck := hide hck
  clear hck hno2 Hno Hgk
  go_wp2_with fail
  go_loopg [4] k (fun gk i wr => ∃ j : Nat, gk = k - j ∧ j ≤ k ∧ i = .int .i64 j ∧ (l.take j).any Cl.zeroT = false ∧ w = wr)
  case atStart => exact ⟨0, by omega, by omega, rfl, rfl, rfl⟩
  case round =>
  obtain ⟨j, hgk, hj, rfl, hno, rfl⟩ := hrel
  have Hgk := hide hgk
  have Hno := hide hno
  clear hgk hno
  rcases Nat.lt_or_ge j k with hlt | hge2
  case inl =>
    obtain ⟨x, hx⟩ : ∃ x, l[j]? = some x := ⟨_, List.getElem?_eq_getElem (by rw [unhide Hln]; exact hlt)⟩
    obtain ⟨b1, o1, rfl, _, c1⟩ := (unhide Hl).at_ (k := j) (u := .string x) (by simp [hx])
    have hh := fun (w' : World) => rhas_any x w' ((unhide Hs) _ (List.mem_of_getElem? hx))
    cases hb : Cl.zeroT x
    · have hno2 : (l.take (j + 1)).any Cl.zeroT = false := by rw [List.take_add_one, hx]; simp [unhide Hno, hb]
      rw [hb] at hh
      have Hno2 := hide hno2
      have Hh := hide hh
      clear hno2 hx hh hb
      go_wp2_with (go_at_call 54; refine ((unhide Hh) _).mono ?_; rintro e w1 ⟨rfl, rfl⟩)
      go_roundg (k - (j + 1))
      case measure => have := unhide Hgk; omega
      case rel => exact ⟨j + 1, rfl, by omega, by go_num, unhide Hno2, rfl⟩
    · have hyes : l.any Cl.zeroT = true := List.any_eq_true.2 ⟨x, List.mem_of_getElem? hx, hb⟩
      have h := unhide Hck
      rw [hyes, if_pos rfl] at h
      subst h
      rw [hb] at hh
      have Hh := hide hh
      clear hx hyes hh hb
      go_wp2_with (go_at_call 54; refine ((unhide Hh) _).mono ?_; rintro e w1 ⟨rfl, rfl⟩)
      go_ret
      exact ⟨rfl, rfl⟩
  have hno3 : l.any Cl.zeroT = false := by
    have := unhide Hno
    rwa [List.take_of_length_le (by have := unhide Hln; omega)] at this
  have h := unhide Hck
  rw [hno3] at h
  simp only [Bool.false_eq_true, if_false] at h
  subst h
  clear hno3
  go_wp2_with fail
  go_ret
  exact ⟨rfl, rfl⟩

end Go.Proofs.YtfegfmapdekkbaaGreatDoor
namespace Go.Proofs.YtfegfmapdekkbaaGreatDoor
set_option linter.unusedVariables false
set_option linter.unusedSimpArgs false
open Go.RowKit

/-- What Cut answers of the place of the byte. -/
def CutEnd (s : ByteArray) (i : Int) (w : World) (e : Ending) (w' : World) : Prop :=
  (∃ n, w' = w.drewN n) ∧ ((i < 0 ∧ e = .returned (.tuple #[.string s, .string (Ev.ba []), .bool false])) ∨ (0 ≤ i ∧ e = .returned (.tuple #[.string (Ev.ba (s.data.toList.take i.toNat)), .string (Ev.ba (s.data.toList.drop (i.toNat + 1))), .bool true])))

theorem extract_ba (s : ByteArray) (a b : Nat) : s.extract a b = Ev.ba ((s.data.toList.drop a).take (b - a)) := by
  refine ByteArray.ext ?_
  rw [ByteArray.data_extract]
  apply Array.toList_inj.1
  rw [Array.toList_extract]
  simp [Ev.ba, List.extract]

theorem ba_isEmpty (l : List UInt8) : (Ev.ba l).toList.isEmpty = l.isEmpty := by rw [Lib.toList_data, Ev.ba_data]
def SplitEnd (s : ByteArray) (w : World) (e : Ending) (w' : World) : Prop := e = .returned (.tuple #[.string (Ev.nm s), .string (Ev.vl s), .bool (Ev.is s)]) ∧ ∃ n, w' = w.drewN n
end Go.Proofs.YtfegfmapdekkbaaGreatDoor
namespace Go.Proofs.YtfegfmapdekkbaaGreatDoor
set_option linter.unusedVariables false
set_option linter.unusedSimpArgs false
open Go.RowKit

theorem isBl_eq (c : UInt8) : Sb.isBl c = (decide (c = 32) || decide (c = 9)) := by
  unfold Sb.isBl Sb.blanks
  rw [Bool.eq_iff_iff]
  simp
theorem rblank_any (c : UInt8) (w : World) : Calls Tryz.prog 53 #[.int .u8 (c.toNat : Nat)] w fun e w' => e = .returned (.bool (Sb.isBl c)) ∧ w = w' := by
  have e1 : (((c.toNat : Nat) : Int) == 32) = decide (c = 32) := byte_eq c 32
  have e2 : (((c.toNat : Nat) : Int) == 9) = decide (c = 9) := byte_eq c 9
  rw [isBl_eq]
  cases h1 : decide (c = 32)
  · rw [h1] at e1
    cases h2 : decide (c = 9)
    · rw [h2] at e2
      clear h1 h2
      go_enter Tryz.func53, Tryz.ntmps53
      go_wp2_with fail
      go_ret
      exact ⟨rfl, rfl⟩
    · rw [h2] at e2
      clear h1 h2
      go_enter Tryz.func53, Tryz.ntmps53
      go_wp2_with fail
      go_ret
      exact ⟨rfl, rfl⟩
  · rw [h1] at e1
    clear h1 e2
    go_enter Tryz.func53, Tryz.ntmps53
    go_wp2_with fail
    go_ret
    exact ⟨rfl, rfl⟩

theorem rd_snoc (p : UInt8 → Bool) (l : List UInt8) (c : UInt8) : Sb.rd p (l ++ [c]) = if p c = true then Sb.rd p l else l ++ [c] := by
  unfold Sb.rd
  rw [List.reverse_append]
  by_cases hc : p c = true
  · rw [if_pos hc]
    show (List.dropWhile p (c :: l.reverse)).reverse = _
    rw [List.dropWhile_cons_of_pos hc]
  · rw [if_neg hc]
    show (List.dropWhile p (c :: l.reverse)).reverse = _
    rw [List.dropWhile_cons_of_neg hc]
    simp
theorem szl (s : ByteArray) : s.data.toList.length = s.size := by simp
theorem ext_front (s : ByteArray) (h : 0 < s.size) : s.data.toList = s[0] :: (s.extract 1 s.size).data.toList := by
  have h1 : (s.extract 1 s.size).data.toList = s.data.toList.drop 1 := by rw [extract_ba, Ev.ba_data, List.take_of_length_le (by simp)]
  rw [h1]
  have hl : 0 < s.data.toList.length := by simpa using h
  conv => lhs; rw [← List.drop_zero (l := s.data.toList), List.drop_eq_getElem_cons hl]
  rfl
theorem ext_back (s : ByteArray) (h : 0 < s.size) : s.data.toList = (s.extract 0 (s.size - 1)).data.toList ++ [s[s.size - 1]'(by omega)] := by
  have h1 : (s.extract 0 (s.size - 1)).data.toList = s.data.toList.take (s.size - 1) := by rw [extract_ba, Ev.ba_data, List.drop_zero, Nat.sub_zero]
  rw [h1]
  have hl : s.size - 1 < s.data.toList.length := by rw [szl]; omega
  have h2 : s.data.toList = s.data.toList.take (s.size - 1 + 1) := by rw [List.take_of_length_le (by rw [szl]; omega)]
  conv => lhs; rw [h2, List.take_add_one, List.getElem?_eq_getElem hl]
  rfl

set_option maxRecDepth 100000 in
set_option maxHeartbeats 4000000 in
theorem rtrimmed_any (s : ByteArray) (w : World) (hs : s.size ≤ 4611686018427387903) : Calls Tryz.prog 52 #[.string s] w fun e w' => e = .returned (.string (Sb.ba (Sb.trim s.data.toList))) ∧ w = w' := by
  obtain ⟨R, hR⟩ : ∃ R, Sb.ba (Sb.trim s.data.toList) = R := ⟨_, rfl⟩
  have hR2 : ∀ t : ByteArray, Sb.rd Sb.isBl (s.data.toList.dropWhile Sb.isBl) = t.data.toList → t = R := by
    intro t h
    rw [← hR, Sb.trim_eq, h]
    cases t
    simp [Sb.ba]
  rw [hR]
  have HR := hide hR2
  have KB := hide (fun c => rblank_any c w)
  clear hR hR2
  go_enter Tryz.func52, Tryz.ntmps52
  go_wp2_with fail
  go_loopg [0] s.size (fun gk sv wr => ∃ t : ByteArray, gk = t.size ∧ t.size ≤ s.size ∧ sv = .string t ∧ t.data.toList.dropWhile Sb.isBl = s.data.toList.dropWhile Sb.isBl ∧ w = wr)
  case atStart => exact ⟨s, rfl, Nat.le_refl _, rfl, rfl, rfl⟩
  case round =>
  obtain ⟨t, hgk, hts, rfl, ht, rfl⟩ := hrel
  have Hgk := hide hgk
  have Ht := hide ht
  clear hgk ht
  by_cases hgo : ∃ h : 0 < t.size, Sb.isBl t[0] = true
  · obtain ⟨h0, hb⟩ := hgo
    have hf := ext_front t h0
    have hsz : (t.extract 1 t.size).size = t.size - 1 := by simp
    have Ht2 : Hid ((t.extract 1 t.size).data.toList.dropWhile Sb.isBl = s.data.toList.dropWhile Sb.isBl) := hide (by
      have h1 := unhide Ht
      rw [hf, List.dropWhile_cons_of_pos hb] at h1
      exact h1)
    have Hsz := hide hsz
    have K := (unhide KB) t[0]
    rw [hb] at K
    have HK := hide K
    have i0 : (0 : Int) < (t.size : Int) := by omega
    have i1 : (1 : Int) ≤ (t.size : Int) := by omega
    clear hf hsz hb K
    go_wp2_with fail
    refine (unhide HK).mono ?_
    rintro e w1 ⟨rfl, rfl⟩
    go_wp2_with fail
    go_roundg (t.size - 1)
    case measure => have := unhide Hgk; omega
    case rel => exact ⟨t.extract 1 t.size, (unhide Hsz).symm, by rw [unhide Hsz]; omega, rfl, unhide Ht2, rfl⟩
  · have hdone : s.data.toList.dropWhile Sb.isBl = t.data.toList := by
      rw [← unhide Ht]
      by_cases h0 : 0 < t.size
      · have hb : ¬ Sb.isBl t[0] = true := fun h => hgo ⟨h0, h⟩
        rw [ext_front t h0, List.dropWhile_cons_of_neg hb]
      · have : t.data.toList = [] := List.eq_nil_of_length_eq_zero (by rw [szl]; omega)
        rw [this]
        rfl
    rw [hdone] at HR
    have hstop : (t.size = 0 ∨ (∃ h : 0 < t.size, Sb.isBl t[0] = false)) := by
      by_cases h0 : 0 < t.size
      · right
        refine ⟨h0, ?_⟩
        rw [Bool.eq_false_iff]
        exact fun h => hgo ⟨h0, h⟩
      · left; omega
    clear hdone Ht Hgk hgo
    rcases hstop with h0 | ⟨h0, hb⟩
    · have i0 : ¬ (0 : Int) < (t.size : Int) := by omega
      have ht : t.data.toList = [] := List.eq_nil_of_length_eq_zero (by rw [szl]; exact h0)
      have hR := (unhide HR) t (by rw [ht]; rfl)
      have HRt := hide hR
      clear ht hR h0
      go_wp2_with fail
      go_loopg [0] 0 (fun gk sv wr => gk = 0 ∧ sv = .string t ∧ w = wr)
      case atStart => exact ⟨rfl, rfl, rfl⟩
      case round =>
      obtain ⟨_, rfl, rfl⟩ := hrel
      go_wp2_with fail
      go_ret
      exact ⟨congrArg (fun r => Ending.returned (Value.string r)) (unhide HRt), rfl⟩
    · have K := (unhide KB) t[0]
      rw [hb] at K
      have HK := hide K
      have i0 : (0 : Int) < (t.size : Int) := by omega
      clear K hb
      go_wp2_with fail
      refine (unhide HK).mono ?_
      rintro e w1 ⟨rfl, rfl⟩
      go_wp2_with fail
      go_loopg [0] t.size (fun gk sv wr => ∃ u : ByteArray, gk = u.size ∧ u.size ≤ t.size ∧ sv = .string u ∧ Sb.rd Sb.isBl u.data.toList = Sb.rd Sb.isBl t.data.toList ∧ w = wr)
      case atStart => exact ⟨t, rfl, Nat.le_refl _, rfl, rfl, rfl⟩
      case round =>
      obtain ⟨u, hgk, hus, rfl, hu, rfl⟩ := hrel
      have Hgk := hide hgk
      have Hu := hide hu
      clear hgk hu
      by_cases hu0 : 0 < u.size
      · have hul : u.size - 1 < u.size := by omega
        have hf := ext_back u hu0
        have K2 := (unhide KB) (u[u.size - 1]'hul)
        have j0 : (0 : Int) < (u.size : Int) := by omega
        have j1 : (0 : Int) ≤ (u.size : Int) - 1 := by omega
        have j2 : (u.size : Int) - 1 < (u.size : Int) := by omega
        have j3 : (u.size : Int) - 1 ≤ (u.size : Int) := by omega
        have j4 : (u.size : Int) - 1 = ((u.size - 1 : Nat) : Int) := by omega
        have J4 := hide j4
        cases hb2 : Sb.isBl (u[u.size - 1]'hul) with
        | true =>
          rw [hb2] at K2
          have HK2 := hide K2
          clear K2 j4
          have hsz : (u.extract 0 (u.size - 1)).size = u.size - 1 := by simp
          have hu2 : Sb.rd Sb.isBl (u.extract 0 (u.size - 1)).data.toList = Sb.rd Sb.isBl t.data.toList := by
            rw [← unhide Hu]
            conv => rhs; rw [hf, rd_snoc, if_pos hb2]
          have Hsz := hide hsz
          have Hu2 := hide hu2
          clear hsz hu2 hf hb2
          go_wp2_with fail
          refine (unhide HK2).mono ?_
          rintro e w1 ⟨rfl, rfl⟩
          go_wp2_with fail
          go_roundg (u.size - 1)
          case measure => have := unhide Hgk; omega
          case rel => exact ⟨u.extract 0 (u.size - 1), (unhide Hsz).symm, by rw [unhide Hsz]; omega, rfl, unhide Hu2, rfl⟩
        | false =>
          rw [hb2] at K2
          have HK2 := hide K2
          have hr : Sb.rd Sb.isBl u.data.toList = u.data.toList := by
            rw [hf, rd_snoc, if_neg (by rw [hb2]; simp)]
          have hR := (unhide HR) u (by rw [← unhide Hu, hr])
          have HRt := hide hR
          clear K2 j4 hf hb2 hr hR
          go_wp2_with fail
          refine (unhide HK2).mono ?_
          rintro e w1 ⟨rfl, rfl⟩
          go_wp2_with fail
          go_ret
          exact ⟨congrArg (fun r => Ending.returned (Value.string r)) (unhide HRt), rfl⟩
      · have j0 : ¬ (0 : Int) < (u.size : Int) := by omega
        have hr : Sb.rd Sb.isBl u.data.toList = u.data.toList := by
          have : u.data.toList = [] := List.eq_nil_of_length_eq_zero (by rw [szl]; omega)
          rw [this]
          rfl
        have hR := (unhide HR) u (by rw [← unhide Hu, hr])
        have HRt := hide hR
        clear hr hR
        go_wp2_with fail
        go_ret
        exact ⟨congrArg (fun r => Ending.returned (Value.string r)) (unhide HRt), rfl⟩
end Go.Proofs.YtfegfmapdekkbaaGreatDoor
namespace Go.Proofs.YtfegfmapdekkbaaGreatDoor
set_option linter.unusedVariables false
set_option linter.unusedSimpArgs false
open Go.RowKit

theorem own_set {w : World} {base g n c i : Nat} {e : TypeId} {xs : List Value} (h : w.ownsRow base e 1 (.slice (some ⟨g, 0, none⟩) n c) n xs) (u : Value) :
    (w.setCell ⟨g, i, none⟩ u).ownsRow base e 1 (.slice (some ⟨g, 0, none⟩) n c) n (xs.set i u) := by
  obtain ⟨hl, hn | ⟨g', cap, cur, hv, hb, hg, h1, h2, h3, h4⟩⟩ := h
  · exact absurd hn.1 (by simp)
  · obtain ⟨rfl, rfl⟩ : g = g' ∧ c = cap := by simpa using hv
    refine ⟨by simpa using hl, .inr ⟨g, c, cur.setIfInBounds i u, rfl, hb, heap_setCell_same _ _ _ _ _ _ hg, h1, h2, by simpa using h3, ?_⟩⟩
    rw [Array.toList_setIfInBounds, List.take_set, h4]
theorem own_cell {w : World} {base g n c i : Nat} {e : TypeId} {xs : List Value} (h : w.ownsRow base e 1 (.slice (some ⟨g, 0, none⟩) n c) n xs) {u : Value} (hi : xs[i]? = some u) : w.cell? ⟨g, i, none⟩ = some u := by
  obtain ⟨b, off, ha, _, hc⟩ := (Rd.of_own h).at_ hi
  obtain ⟨rfl, rfl⟩ : g = b ∧ 0 = off := by simpa using ha
  simpa using hc
theorem own_free {w : World} {base g n c : Nat} {e : TypeId} {xs : List Value} (h : w.ownsRow base e 1 (.slice (some ⟨g, 0, none⟩) n c) n xs) (i : Nat) : w.frozen? ⟨g, i, none⟩ = false := by
  obtain ⟨hl, hn | ⟨g', cap, cur, hv, hb, hg, h1, h2, h3, h4⟩⟩ := h
  · exact absurd hn.1 (by simp)
  · obtain ⟨rfl, rfl⟩ : g = g' ∧ c = cap := by simpa using hv
    exact frozen_of_row _ _ _ _ _ hg
theorem own_at {w : World} {base g n c : Nat} {e : TypeId} {xs : List Value} (h : w.ownsRow base e 1 (.slice (some ⟨g, 0, none⟩) n c) n xs) : base ≤ g ∧ g < w.heap.size ∧ n ≤ c := by
  obtain ⟨hl, hn | ⟨g', cap, cur, hv, hb, hg, h1, h2, h3, h4⟩⟩ := h
  · exact absurd hn.1 (by simp)
  · obtain ⟨rfl, rfl⟩ : g = g' ∧ c = cap := by simpa using hv
    exact ⟨hb, lt_of_block hg, h1⟩

end Go.Proofs.YtfegfmapdekkbaaGreatDoor
namespace Go.Proofs.YtfegfmapdekkbaaGreatDoor
set_option linter.unusedVariables false
set_option linter.unusedSimpArgs false
open Go.RowKit

def bys (b : List UInt8) : List Value := b.map fun c => .int .u8 c.toNat
theorem bys_len (b : List UInt8) : (bys b).length = b.length := by simp [bys]
theorem bys_at {b : List UInt8} {i : Nat} {x : UInt8} (h : b[i]? = some x) : (bys b)[i]? = some (.int .u8 x.toNat) := by simp [bys, h]
theorem bys_set (b : List UInt8) (i : Nat) (x : UInt8) : (bys b).set i (.int .u8 x.toNat) = bys (b.set i x) := by simp [bys, List.map_set]
theorem bys_take (b : List UInt8) (k : Nat) : (bys b).take k = bys (b.take k) := by simp [bys]
theorem bys_app (a b : List UInt8) : bys (a ++ b) = bys a ++ bys b := by simp [bys]
theorem bInfo : (Tryz.prog.info? 5).map (fun i => (i.zero, i.size, i.bytes)) = some (some (.int .u8 0), 1, 1) := by kernel_rfl
theorem take_ext' {α : Type} {xs ys : List α} {k : Nat} {x : α} (h : xs.take k = ys.take k) (hx : xs[k]? = some x) (hy : ys[k]? = some x) : xs.take (k + 1) = ys.take (k + 1) := by
  rw [List.take_add_one, List.take_add_one, h, hx, hy]

theorem Rd.cutN {w : World} {B n k : Nat} {A : Option Addr} {xs : List Value} (h : Rd w B 1 A n xs) (hk : k ≤ n) : Rd w B 1 A k (xs.take k) := by
  have hl := h.len1
  refine ⟨by simp; omega, ?_⟩
  rcases h.2 with h0 | ⟨b, off, e, hb, hc⟩
  · exact .inl (by simp [h0])
  · refine .inr ⟨b, off, e, hb, fun j u hu => hc j u ?_⟩
    by_cases hj : j < k
    · rwa [List.getElem?_take_of_lt hj] at hu
    · rw [List.getElem?_take_eq_none (by omega)] at hu
      cases hu

/-- What stands behind what Roomy gives. -/
def spare : List UInt8 := [99, 98, 97, 96, 95, 94, 93]
theorem spare_at {j : Nat} (h : j < 7) : spare[j]? = some (UInt8.ofNat (99 - j)) := by
  match j, h with
  | 0, _ => rfl
  | 1, _ => rfl
  | 2, _ => rfl
  | 3, _ => rfl
  | 4, _ => rfl
  | 5, _ => rfl
  | 6, _ => rfl
/-- What has been laid after k rounds. -/
def laidTo (F : List UInt8) (k : Nat) : List UInt8 := F.take k ++ List.replicate (F.length - k) 0
theorem laidTo_len {F : List UInt8} {k : Nat} (h : k ≤ F.length) : (laidTo F k).length = F.length := by simp [laidTo]; omega
theorem laidTo_set {F : List UInt8} {k : Nat} {x : UInt8} (h : F[k]? = some x) : (laidTo F k).set k x = laidTo F (k + 1) := by
  have hk : k < F.length := (List.getElem?_eq_some_iff.1 h).1
  unfold laidTo
  rw [List.take_add_one, h, show F.length - k = (F.length - (k + 1)) + 1 from by omega, List.replicate_succ]
  rw [List.set_append]
  simp [Nat.min_eq_left (Nat.le_of_lt hk)]
theorem laidTo_end (F : List UInt8) : laidTo F F.length = F := by simp [laidTo]
theorem laidTo_zero (F : List UInt8) : laidTo F 0 = List.replicate F.length 0 := by simp [laidTo]

end Go.Proofs.YtfegfmapdekkbaaGreatDoor
namespace Go.Proofs.YtfegfmapdekkbaaGreatDoor
set_option linter.unusedVariables false
set_option linter.unusedSimpArgs false
open Go.RowKit

theorem Rd.sub {w : World} {B n : Nat} {b1 o1 : Nat} {xs : List Value} (h : Rd w B 1 (some ⟨b1, o1, none⟩) n xs) {off k : Nat} (hk : off + k ≤ n) : Rd w B 1 (some ⟨b1, o1 + off, none⟩) k ((xs.drop off).take k) := by
  have hl := h.len1
  refine ⟨by simp; omega, ?_⟩
  rcases h.2 with h0 | ⟨b, o, e, hb, hc⟩
  · exact .inl (by simp [h0])
  · obtain ⟨rfl, rfl⟩ : b1 = b ∧ o1 = o := by injection e with e; injection e with h1 h2 h3; exact ⟨h1, h2⟩
    refine .inr ⟨b1, o1 + off, rfl, hb, fun j u hu => ?_⟩
    by_cases hj : j < k
    · rw [List.getElem?_take_of_lt hj, List.getElem?_drop] at hu
      rw [Nat.add_assoc]
      exact hc _ _ hu
    · rw [List.getElem?_take_eq_none (by omega)] at hu
      cases hu

theorem conv_any {P : Program} {w : World} {B n c : Nat} {A : Option Addr} {l : List UInt8} {src dst e : TypeId} (h : Rd w B 1 A n (bys l)) (hs : P.underlying src = some (.slice e)) (he : P.underlying e = some (.int .u8)) (hd : P.underlying dst = some .string) :
    (convert src dst (.slice A n c)).run P w = .ok (.string ⟨l.toArray⟩) w := by
  have hl : l.length = n := by simpa [bys] using h.len1
  subst hl
  cases A with
  | none =>
    have h0 : l = [] := by
      rcases h.2 with h0 | ⟨b, o, e1, _⟩
      · simpa [bys] using h0
      · cases e1
    subst h0
    exact run_convert_bytes_nil w src e hs he _ c dst hd
  | some ad =>
    refine run_convert_bytes_back w src dst e ad c l hs he hd fun j hj => ?_
    obtain ⟨b, o, e1, _, hc⟩ := h.at_ (k := j) (u := .int .u8 (l[j].toNat : Nat)) (bys_at (List.getElem?_eq_getElem hj))
    injection e1 with e1
    subst e1
    rw [Addr.add_lit]
    exact hc
theorem Rd.from {w : World} {B n : Nat} {b1 o1 k : Nat} {l : List UInt8} (h : Rd w B 1 (some ⟨b1, o1, none⟩) n (bys l)) (hk : k ≤ n) : Rd w B 1 (some ⟨b1, o1 + k, none⟩) (n - k) (bys (l.drop k)) := by
  have hl : l.length = n := by simpa [bys] using h.len1
  have h1 := h.sub (off := k) (k := n - k) (by omega)
  have e : ((bys l).drop k).take (n - k) = bys (l.drop k) := by
    unfold bys
    rw [← List.map_drop, ← List.map_take, List.take_of_length_le (by simp; omega)]
  rwa [e] at h1
end Go.Proofs.YtfegfmapdekkbaaGreatDoor
namespace Go.Proofs.YtfegfmapdekkbaaGreatDoor
set_option linter.unusedVariables false
set_option linter.unusedSimpArgs false
open Go.RowKit

namespace Lex
/-- What the check looks at of an operation: its slot, the slots that it looks at, and the operations that it comes behind. -/
structure Inf where
  dst : Option Nat
  looks : List Nat
  on : List Nat
def has : List Nat → Nat → Bool
  | [], _ => false
  | a :: r, d => or (Nat.beq a d) (has r d)
def none_ : Option Nat → List Nat → Bool
  | none, _ => true
  | some d, l => not (has l d)
def other : Option Nat → Option Nat → Bool
  | some d, some d' => not (Nat.beq d d')
  | _, _ => true
def apart (x y : Inf) : Bool := and (none_ x.dst y.looks) (and (other x.dst y.dst) (none_ y.dst x.looks))
def pairs (x : Inf) (k : Nat) : List Inf → Bool
  | [] => true
  | y :: r => and (or (has y.on k) (apart x y)) (pairs x k r)
def below (k : Nat) : List Nat → Bool
  | [] => true
  | e :: r => and (Nat.blt e k) (below k r)
def chk : List Inf → Nat → Bool
  | [], _ => true
  | x :: r, k => and (below k x.on) (and (pairs x k r) (chk r (k + 1)))
def inf (ops : Array Oper) (o : Oper) : Inf := ⟨o.dst, o.looksAt ops, (o.after.toList.filter (Region.binds .any)).map (·.on)⟩
def chkL (l : List Oper) : Bool := and (Region.noSelect l.toArray) (chk (l.map (inf l.toArray)) 0)

theorem has_iff {l : List Nat} {d : Nat} : has l d = true ↔ d ∈ l := by
  induction l with
  | nil => simp [has]
  | cons a r ih =>
    unfold has
    rw [Bool.or_eq_true, ih, List.mem_cons, show (a.beq d = true) = (a = d) from Nat.beq_eq]
    constructor
    · rintro (rfl | h)
      · exact .inl rfl
      · exact .inr h
    · rintro (rfl | h)
      · exact .inl rfl
      · exact .inr h
theorem below_iff {l : List Nat} {k : Nat} : below k l = true ↔ ∀ e ∈ l, e < k := by
  induction l with
  | nil => simp [below]
  | cons a r ih => unfold below; rw [Bool.and_eq_true, ih, Nat.blt_eq]; simp
theorem pairs_iff {x : Inf} {k : Nat} {l : List Inf} : pairs x k l = true ↔ ∀ y ∈ l, has y.on k = true ∨ apart x y = true := by
  induction l with
  | nil => simp [pairs]
  | cons a r ih => unfold pairs; rw [Bool.and_eq_true, ih, Bool.or_eq_true]; simp
theorem chk_iff {l : List Inf} : ∀ {k : Nat}, chk l k = true → ∀ (j : Nat) (x : Inf), l[j]? = some x → (∀ e ∈ x.on, e < k + j) ∧ ∀ (i : Nat) (y : Inf), j < i → l[i]? = some y → has y.on (k + j) = true ∨ apart x y = true := by
  induction l with
  | nil => intro k h j x hx; simp at hx
  | cons a r ih =>
    intro k h j x hx
    unfold chk at h
    rw [Bool.and_eq_true, Bool.and_eq_true] at h
    obtain ⟨h1, h2, h3⟩ := h
    cases j with
    | zero =>
      obtain rfl : a = x := by simpa using hx
      refine ⟨below_iff.1 h1, fun i y hi hy => ?_⟩
      obtain ⟨i, rfl⟩ : ∃ i', i = i' + 1 := ⟨i - 1, by omega⟩
      exact pairs_iff.1 h2 y (List.mem_of_getElem? (by simpa using hy))
    | succ j =>
      obtain ⟨g1, g2⟩ := ih h3 j x (by simpa using hx)
      refine ⟨fun e he => by have := g1 e he; omega, fun i y hi hy => ?_⟩
      obtain ⟨i, rfl⟩ : ∃ i', i = i' + 1 := ⟨i - 1, by omega⟩
      have := g2 i y (by omega) (by simpa using hy)
      rwa [show k + 1 + j = k + (j + 1) by omega] at this
theorem apart_iff {ops : Array Oper} {x y : Oper} (h : apart (inf ops x) (inf ops y) = true) : x.apart ops y = true := by
  unfold apart inf at h
  unfold Oper.apart
  simp only [Bool.and_eq_true] at h ⊢
  obtain ⟨h1, h2, h3⟩ := h
  constructor
  · cases hd : x.dst with
    | none => rfl
    | some d =>
      rw [hd] at h1 h2
      simp only [none_, Bool.not_eq_true', Bool.and_eq_true] at h1 ⊢
      refine ⟨?_, ?_⟩
      · rw [Bool.eq_false_iff] at h1 ⊢
        intro hc
        exact h1 (has_iff.2 (List.contains_iff_mem.1 hc))
      · cases he : y.dst with
        | none => rfl
        | some e =>
          rw [he] at h2
          simp only [other, Bool.not_eq_true'] at h2
          rw [bne_iff_ne]
          intro hc
          injection hc with hc
          rw [hc, Nat.beq_refl] at h2
          cases h2
  · cases hd : y.dst with
    | none => rfl
    | some d =>
      rw [hd] at h3
      simp only [none_, Bool.not_eq_true'] at h3 ⊢
      rw [Bool.eq_false_iff] at h3 ⊢
      intro hc
      exact h3 (has_iff.2 (List.contains_iff_mem.1 hc))
theorem lexFrom_of {l : List Oper} (h : chk (l.map (inf l.toArray)) 0 = true) : ∀ (fuel k : Nat) (listed : Array Bool), fuel + k = l.length → listed.size = l.length → (∀ j, j < l.length → listed.getD j true = decide (j < k)) →
    Region.lexFrom .any l.toArray fuel k listed = true
  | 0, k, listed, hf, hs, hl => by
    unfold Region.lexFrom
    rw [List.isEmpty_iff, List.eq_nil_iff_forall_not_mem]
    intro j hj
    rw [mem_ready] at hj
    obtain ⟨h0, o, ho, _⟩ := hj
    have hjl : j < l.length := by simpa using (Array.getElem?_eq_some_iff.1 ho).1
    rw [hl j hjl, decide_eq_false_iff_not] at h0
    omega
  | fuel + 1, k, listed, hf, hs, hl => by
    have hk : k < l.length := by omega
    obtain ⟨o, ho⟩ : ∃ o, l[k]? = some o := ⟨_, List.getElem?_eq_getElem hk⟩
    have hx : (l.map (inf l.toArray))[k]? = some (inf l.toArray o) := by rw [List.getElem?_map, ho]; rfl
    obtain ⟨g1, g2⟩ := chk_iff h k _ hx
    have hlf : ∀ j, j < k → listed.getD j false = true := by
      intro j hj
      have h1 := hl j (by omega)
      rw [decide_eq_true hj] at h1
      rw [Array.getD_eq_getD_getElem?, Array.getElem?_eq_getElem (by omega)] at h1 ⊢
      exact h1
    unfold Region.lexFrom
    rw [Bool.and_eq_true, Bool.and_eq_true]
    refine ⟨⟨?_, ?_⟩, ?_⟩
    · rw [List.contains_iff_mem, mem_ready]
      refine ⟨by rw [hl k hk, decide_eq_false_iff_not]; omega, o, by simpa using ho, fun e he hb => hlf _ ?_⟩
      have := g1 e.on (List.mem_map.2 ⟨e, List.mem_filter.2 ⟨by simpa using he, hb⟩, rfl⟩)
      omega
    · unfold Region.free
      have ho' : l.toArray[k]? = some o := by simpa using ho
      rw [ho']
      simp only [List.all_eq_true, List.mem_range, List.size_toArray, Bool.or_eq_true, beq_iff_eq]
      intro j hj
      by_cases hjk : j = k
      · exact .inl (.inl hjk)
      · rcases Nat.lt_or_gt_of_ne hjk with hlt | hgt
        · exact .inl (.inr (by rw [hl j hj, decide_eq_true hlt]))
        · refine .inr ?_
          obtain ⟨o2, ho2⟩ : ∃ o, l[j]? = some o := ⟨_, List.getElem?_eq_getElem hj⟩
          have ho2' : l.toArray[j]? = some o2 := by simpa using ho2
          have hy : (l.map (inf l.toArray))[j]? = some (inf l.toArray o2) := by rw [List.getElem?_map, ho2]; rfl
          rw [ho2']
          simp only [Bool.or_eq_true]
          rcases g2 j _ hgt hy with h3 | h3
          · left
            rw [has_iff] at h3
            obtain ⟨e, he, heq⟩ := List.mem_map.1 h3
            rw [List.mem_filter] at he
            rw [Array.any_eq_true']
            exact ⟨e, by simpa using he.1, by rw [Bool.and_eq_true, beq_iff_eq]; exact ⟨he.2, by omega⟩⟩
          · exact .inr (apart_iff h3)
    · refine lexFrom_of h fuel (k + 1) _ (by omega) (by simpa using hs) (fun j hj => ?_)
      by_cases hjk : j = k
      · subst hjk
        rw [Array.getD_eq_getD_getElem?, Array.getElem?_setIfInBounds_self_of_lt (by omega), decide_eq_true (Nat.lt_succ_self j)]
        rfl
      · rw [getD_set_ne true (Ne.symm hjk), hl j hj]
        congr 1
        rw [eq_iff_iff]
        omega
theorem lexB_of {l : List Oper} (h : chkL l = true) : Region.lexB .any l.toArray = true := by
  unfold chkL at h
  rw [Bool.and_eq_true] at h
  unfold Region.lexB
  rw [Bool.and_eq_true]
  refine ⟨h.1, lexFrom_of h.2 _ _ _ (by simp) (by simp) (fun j hj => ?_)⟩
  rw [Array.getD_eq_getD_getElem?]
  simp [hj]
end Lex
theorem wp_region_quietC {P : Program} {id : Nat} {Q : Exit → Act → World → Prop} {a : Act} {w : World} {l : List Oper} (hm : P.follows .mixedOrders = true) (hB : Lex.chkL l = true)
    (h : wpQuiet P l.toArray (fun w' => ∃ n, w' = w.drewN n) (fun a' => ∀ w', (∃ n, w' = w.drewN n) → Q .normal a' w') l a) : (Code.region id l.toArray true).wp P Q a w :=
  wp_region_quiet_lit hm (Lex.lexB_of hB) h
end Go.Proofs.YtfegfmapdekkbaaGreatDoor
namespace Go.Proofs.YtfegfmapdekkbaaGreatDoor
set_option linter.unusedVariables false
set_option linter.unusedSimpArgs false
open Go.RowKit

theorem res_tmp4 {fn : Func} {t u v x : Tmp} (h : fn.results = #[.tmp t, .tmp u, .tmp v, .tmp x]) (tmps : Array Value) (P : Program) (w : World) :
    (results fn tmps).run P w = .ok (.tuple #[tmps.getD t undef, tmps.getD u undef, tmps.getD v undef, tmps.getD x undef]) w := by
  simp [results, h]
/-- What Parse answers. -/
def ParseE (p : List UInt8 × List UInt8 × Bool × Int) (w : World) (e : Ending) (w' : World) : Prop :=
  e = .returned (.tuple #[.string (Sb.ba p.1), .string (Sb.ba p.2.1), .bool p.2.2.1, .int .i64 p.2.2.2]) ∧ Below w.heap.size w w'
theorem line_step {l : List UInt8} {k : Nat} {c : UInt8} (h : l[k]? = some c) : Sb.line (l.drop k) = if c = 10 then [] else c :: Sb.line (l.drop (k + 1)) := by
  obtain ⟨h1, h2⟩ := List.getElem?_eq_some_iff.1 h
  rw [List.drop_eq_getElem_cons h1, h2]
  unfold Sb.line
  by_cases hc : c = 10
  · rw [if_pos hc, List.takeWhile_cons_of_neg (by rw [hc]; decide)]
  · rw [if_neg hc, List.takeWhile_cons_of_pos (by unfold Sb.nl; simpa using hc)]
theorem first_blank {l : List UInt8} {i : Nat} {c : UInt8} (h : l[i]? = some c) (hc : Sb.isBl c = true) (hno : (l.take i).any Sb.isBl = false) : l.takeWhile (!Sb.isBl ·) = l.take i ∧ l.dropWhile (!Sb.isBl ·) = l.drop i := by
  induction l generalizing i with
  | nil => simp at h
  | cons x r ih =>
    cases i with
    | zero =>
      obtain rfl : x = c := by simpa using h
      rw [List.takeWhile_cons_of_neg (by simp [hc]), List.dropWhile_cons_of_neg (by simp [hc])]
      exact ⟨rfl, rfl⟩
    | succ i =>
      rw [List.take_succ_cons, List.any_cons, Bool.or_eq_false_iff] at hno
      rw [List.takeWhile_cons_of_pos (by simp [hno.1]), List.dropWhile_cons_of_pos (by simp [hno.1])]
      obtain ⟨h1, h2⟩ := ih (by simpa using h) hno.2
      rw [h1, h2]
      exact ⟨rfl, rfl⟩
theorem no_blank {l : List UInt8} (hno : l.any Sb.isBl = false) : l.takeWhile (!Sb.isBl ·) = l ∧ l.dropWhile (!Sb.isBl ·) = [] := by
  induction l with
  | nil => exact ⟨rfl, rfl⟩
  | cons x r ih =>
    rw [List.any_cons, Bool.or_eq_false_iff] at hno
    rw [List.takeWhile_cons_of_pos (by simp [hno.1]), List.dropWhile_cons_of_pos (by simp [hno.1])]
    obtain ⟨h1, h2⟩ := ih hno.2
    rw [h1, h2]
    exact ⟨rfl, rfl⟩
theorem byte_cmp (c : UInt8) (n : Nat) (hn : n < 256) : (((c.toNat : Nat) : Int) != (n : Nat)) = !decide (c.toNat = n) := by
  rw [bne, Bool.not_inj_iff, Bool.eq_iff_iff, beq_iff_eq, decide_eq_true_eq]
  omega

set_option maxRecDepth 100000 in
set_option maxHeartbeats 4000000 in
/-- Where the first two bytes are not those of a script. -/
theorem rparse_no (A : Option Addr) (m c B : Nat) (b : List UInt8) (w : World) (hb : Rd w B 1 A m (bys b)) (hm : m ≤ 4294967296) (h : Lib.hasPrefix b [35, 33] = false) :
    Calls Tryz.prog 28 #[.slice A m c] w (ParseE (Sb.parse b) w) := by
  have hp : Sb.parse b = ([], [], false, 0) := by unfold Sb.parse; rw [h]; rfl
  have hbl : b.length = m := by simpa [bys] using hb.len1
  rw [hp]
  unfold ParseE
  match b, hbl, hb, h with
  | [], hbl, hb, h =>
    have i0 : (m : Int) < 2 := by simp at hbl; omega
    clear hbl hb h hp
    go_enter Tryz.func28, Tryz.ntmps28
    go_wp2_with fail
    (try simp only [Exit.inBlock, Exit.then])
    refine bodyPost_ret (res_tmp4 rfl _ _ _) rfl ?_
    exact ⟨rfl, Below.refl _ _⟩
  | [x], hbl, hb, h =>
    have i0 : (m : Int) < 2 := by simp at hbl; omega
    clear hbl hb h hp
    go_enter Tryz.func28, Tryz.ntmps28
    go_wp2_with fail
    (try simp only [Exit.inBlock, Exit.then])
    refine bodyPost_ret (res_tmp4 rfl _ _ _) rfl ?_
    exact ⟨rfl, Below.refl _ _⟩
  | x :: y :: r, hbl, hb, h =>
    have i0 : ¬ (m : Int) < 2 := by simp at hbl; omega
    obtain ⟨b1, o1, rfl, _, c0⟩ := hb.at_ (k := 0) (u := .int .u8 (x.toNat : Nat)) rfl
    obtain ⟨b1', o1', e1, _, c1⟩ := hb.at_ (k := 1) (u := .int .u8 (y.toNat : Nat)) rfl
    obtain ⟨rfl, rfl⟩ : b1 = b1' ∧ o1 = o1' := by simpa using e1
    rw [Nat.add_zero] at c0
    have j0 : (0 : Int) < (m : Int) := by omega
    have j1 : (1 : Int) < (m : Int) := by omega
    have q0 : (((x.toNat : Nat) : Int) != 35) = !decide (x.toNat = 35) := byte_cmp x 35 (by omega)
    have q1 : (((y.toNat : Nat) : Int) != 33) = !decide (y.toNat = 33) := byte_cmp y 33 (by omega)
    by_cases hx : x.toNat = 35
    · have hy : ¬ y.toNat = 33 := by
        intro hy
        have e1 : x = 35 := UInt8.toNat_inj.1 hx
        have e2 : y = 33 := UInt8.toNat_inj.1 hy
        subst e1 e2
        cases h
      rw [decide_eq_true hx] at q0
      rw [decide_eq_false hy] at q1
      clear hbl hb h hp hx hy e1
      go_enter Tryz.func28, Tryz.ntmps28
      go_wp2_with fail
      (try simp only [Exit.inBlock, Exit.then])
      refine bodyPost_ret (res_tmp4 rfl _ _ _) rfl ?_
      exact ⟨rfl, Below.refl _ _⟩
    · rw [decide_eq_false hx] at q0
      clear hbl hb h hp hx e1 q1
      go_enter Tryz.func28, Tryz.ntmps28
      go_wp2_with fail
      (try simp only [Exit.inBlock, Exit.then])
      refine bodyPost_ret (res_tmp4 rfl _ _ _) rfl ?_
      exact ⟨rfl, Below.refl _ _⟩

set_option maxRecDepth 100000 in
set_option maxHeartbeats 4000000 in
/-- Where they are. -/
theorem rparse_yes (A : Option Addr) (m c B : Nat) (r : List UInt8) (w : World) (hb : Rd w B 1 A m (bys (35 :: 33 :: r))) (hm : m ≤ 4294967296) (hmc : m ≤ c) (hc2 : 2 < c) :
    Calls Tryz.prog 28 #[.slice A m c] w (ParseE (Sb.ofLine (Sb.line r)) w) := by
  have hbl : (35 :: 33 :: r : List UInt8).length = m := by simpa [bys] using hb.len1
  have hrl : r.length + 2 = m := by simpa using hbl
  obtain ⟨b1, o1, rfl, _, c0⟩ := hb.at_ (k := 0) (u := .int .u8 35) rfl
  obtain ⟨b1', o1', e1, _, c1⟩ := hb.at_ (k := 1) (u := .int .u8 33) rfl
  obtain ⟨rfl, rfl⟩ : b1 = b1' ∧ o1 = o1' := by simpa using e1
  rw [Nat.add_zero] at c0
  have i0 : ¬ (m : Int) < 2 := by omega
  have j0 : (0 : Int) < (m : Int) := by omega
  have j1 : (1 : Int) < (m : Int) := by omega
  have hm2 : 2 ≤ m := by omega
  have H := hide hb
  have Hrl := hide hrl
  obtain ⟨p, hp⟩ : ∃ p, Sb.ofLine (Sb.line r) = p := ⟨_, rfl⟩
  rw [hp]
  have Hp := hide hp
  clear hb hbl hrl e1 hp
  go_enter Tryz.func28, Tryz.ntmps28
  go_wp2_with fail
  go_loopg [6] (m - 2) (fun gk nv wr => ∃ k : Nat, gk = m - 2 - k ∧ k + 2 ≤ m ∧ nv = .int .i64 ((k + 2 : Nat) : Int) ∧ Sb.line r = r.take k ++ Sb.line (r.drop k) ∧ w = wr)
  case atStart => exact ⟨0, by omega, by omega, rfl, by simp, rfl⟩
  case round =>
  obtain ⟨k, hgk, hk, rfl, hl, rfl⟩ := hrel
  have Hgk := hide hgk
  have Hl := hide hl
  clear hgk hl
  by_cases hgo : k + 2 < m ∧ r[k]? ≠ some 10
  · obtain ⟨hkm, hne⟩ := hgo
    obtain ⟨x, hx⟩ : ∃ x, r[k]? = some x := ⟨_, List.getElem?_eq_getElem (by have := unhide Hrl; omega)⟩
    have hx10 : x ≠ 10 := by rintro rfl; exact hne hx
    obtain ⟨b2, o2, e2, _, cx⟩ := (unhide H).at_ (k := k + 2) (u := .int .u8 (x.toNat : Nat)) (by simp [bys, hx])
    obtain ⟨rfl, rfl⟩ : b1 = b2 ∧ o1 = o2 := by simpa using e2
    have q : (((x.toNat : Nat) : Int) != 10) = true := by
      rw [show (10 : Int) = ((10 : Nat) : Int) from rfl, byte_cmp x 10 (by omega)]
      have : ¬ x.toNat = 10 := fun h => hx10 (UInt8.toNat_inj.1 h)
      simp [this]
    have hl2 : Sb.line r = r.take (k + 1) ++ Sb.line (r.drop (k + 1)) := by
      rw [unhide Hl, line_step hx, if_neg hx10, List.take_add_one, hx]
      simp
    have Hl2 := hide hl2
    have k1 : ((k + 2 : Nat) : Int) < (m : Int) := by omega
    have k2 : ¬ ((k + 2 : Nat) : Int) < 0 := by omega
    clear hne hx hx10 e2 hl2
    go_wp2_with fail
    go_roundg (m - 2 - (k + 1))
    case measure => have := unhide Hgk; omega
    case rel => exact ⟨k + 1, rfl, by omega, by go_num, unhide Hl2, rfl⟩
  have hline : Sb.line r = r.take k := by
    rw [unhide Hl]
    by_cases hkm : k + 2 < m
    · have hx : r[k]? = some 10 := by
        by_cases h : r[k]? = some 10
        · exact h
        · exact absurd ⟨hkm, h⟩ hgo
      rw [line_step hx, if_pos rfl, List.append_nil]
    · rw [List.drop_of_length_le (by have := unhide Hrl; omega)]
      show r.take k ++ [] = _
      rw [List.append_nil]
  have hstop : ¬ k + 2 < m ∨ (k + 2 < m ∧ w.cell? ⟨b1, o1 + (k + 2), none⟩ = some (.int .u8 10)) := by
    by_cases hkm : k + 2 < m
    · right
      have hx : r[k]? = some 10 := by
        by_cases h : r[k]? = some 10
        · exact h
        · exact absurd ⟨hkm, h⟩ hgo
      obtain ⟨b2, o2, e2, _, cx⟩ := (unhide H).at_ (k := k + 2) (u := .int .u8 10) (by simp [bys, hx])
      obtain ⟨rfl, rfl⟩ : b1 = b2 ∧ o1 = o2 := by simpa using e2
      exact ⟨hkm, cx⟩
    · exact .inl hkm
  have hkl : (r.take k).length = k := by rw [List.length_take]; have := unhide Hrl; omega
  have hsub : Rd w B 1 (some ⟨b1, o1 + 2, none⟩) k (bys (r.take k)) := by
    have h1 := (unhide H).sub (off := 2) (k := k) (by omega)
    have e : ((bys (35 :: 33 :: r)).drop 2).take k = bys (r.take k) := by unfold bys; simp [List.map_take]
    rwa [e] at h1
  have hcv := fun c' => conv_any (c := c') hsub Tryz.underlying49 Tryz.underlying5 Tryz.underlying9
  have KT := rtrimmed_any ⟨(r.take k).toArray⟩ w (by show (r.take k).toArray.size ≤ _; simp; omega)
  have eba : (⟨(r.take k).toArray⟩ : ByteArray).data.toList = r.take k := by simp
  rw [eba] at KT
  rw [hline] at Hp
  have Hcv := hide hcv
  have HKT := hide KT
  have Hkl := hide hkl
  clear hgo hline Hl hcv KT eba hsub hkl
  obtain ⟨L, hL⟩ : ∃ L, r.take k = L := ⟨_, rfl⟩
  rw [hL] at Hp HKT Hkl
  have k2 : ¬ ((k + 2 : Nat) : Int) < 0 := by omega
  have k3 : (2 : Int) ≤ ((k + 2 : Nat) : Int) := by omega
  have k4 : ((k + 2 : Nat) : Int) ≤ (c : Int) := by omega
  by_cases hbig : 127 < k
  · have hpe : p = ([], [], false, 13) := by rw [← unhide Hp]; exact Sb.ofLine_long (by rw [unhide Hkl]; exact hbig)
    have k5 : (127 : Int) < ((k + 2 : Nat) : Int) - 2 := by omega
    subst hpe
    clear Hp
    rcases hstop with hs | ⟨hs, cx⟩
    · have k1 : ¬ ((k + 2 : Nat) : Int) < (m : Int) := by omega
      clear hs
      go_wp2_with fail
      (try simp only [Exit.inBlock, Exit.then])
      refine bodyPost_ret (res_tmp4 rfl _ _ _) rfl ?_
      exact ⟨rfl, Below.refl _ _⟩
    · have k1 : ((k + 2 : Nat) : Int) < (m : Int) := by omega
      clear hs
      go_wp2_with fail
      (try simp only [Exit.inBlock, Exit.then])
      refine bodyPost_ret (res_tmp4 rfl _ _ _) rfl ?_
      exact ⟨rfl, Below.refl _ _⟩
  · have k5 : ¬ (127 : Int) < ((k + 2 : Nat) : Int) - 2 := by omega
    have cv := (unhide Hcv) (c - 2)
    rw [hL] at cv
    have hkb : k ≤ 127 := by omega
    obtain ⟨t, ht⟩ : ∃ t, Sb.ba (Sb.trim L) = t := ⟨_, rfl⟩
    rw [ht] at HKT
    have htl : t.data.toList = Sb.trim L := by rw [← ht]; simp [Sb.ba]
    have hts : t.size = (Sb.trim L).length := by rw [← htl, szl]
    have Hlen := hide (unhide Hkl)
    have hem := isEmpty_toList t
    have Htl := hide htl
    have Hem : Hid (∀ w' : World, w' = w' ) := hide fun _ => rfl
    have KT2 := hide (fun (x : ByteArray) (w' : World) (hx : x.size ≤ 4611686018427387903) => rtrimmed_any x w' hx)
    have KB := hide (fun (x : UInt8) (w' : World) => rblank_any x w')
    have hbound : t.size ≤ 4611686018427387903 := by
      rw [hts]
      unfold Sb.trim Lib.trimS Lib.trimLeftS Lib.trimRightS
      have h1 := (List.dropWhile_sublist (Sb.blanks.contains ·) (l := (L.reverse.dropWhile (Sb.blanks.contains ·)).reverse)).length_le
      have h2 := (List.dropWhile_sublist (Sb.blanks.contains ·) (l := L.reverse)).length_le
      rw [List.length_reverse] at h1 h2
      have := unhide Hkl
      omega
    by_cases ht0 : t.size = 0
    · have hpe : p = ([], [], false, 13) := by
        rw [← unhide Hp]
        unfold Sb.ofLine
        rw [if_pos (.inr (List.eq_nil_of_length_eq_zero (by omega)))]
      have q2 : t.toList = [] := by rw [← List.isEmpty_iff, hem, decide_eq_true ht0]
      rw [decide_eq_true ht0] at hem
      subst hpe
      clear Hp htl hts ht ht0 hbound
      rcases hstop with hs | ⟨hs, cx⟩
      all_goals
        first
          | have k1 : ((k + 2 : Nat) : Int) < (m : Int) := by omega
          | have k1 : ¬ ((k + 2 : Nat) : Int) < (m : Int) := by omega
        clear hs
        go_wp2_with fail
        refine (unhide HKT).mono ?_
        rintro e w1 ⟨rfl, rfl⟩
        go_wp2_with fail
        (try simp only [Exit.inBlock, Exit.then])
        refine bodyPost_ret (res_tmp4 rfl _ _ _) rfl ?_
        exact ⟨rfl, Below.refl _ _⟩
    · have q2 : ¬ t.toList = [] := by rw [← List.isEmpty_iff, hem, decide_eq_false ht0]; simp
      rw [decide_eq_false ht0] at hem
      have hpe : p = (t.data.toList.takeWhile (!Sb.isBl ·), Sb.trim (t.data.toList.dropWhile (!Sb.isBl ·)), true, 0) := by
        rw [← unhide Hp]
        unfold Sb.ofLine
        rw [if_neg (by rw [unhide Hkl]; rintro (h | h); exact hbig h; rw [h] at hts; exact ht0 hts), ← htl]
      have Hpe := hide hpe
      clear Hp htl hts ht hpe
      rcases hstop with hs | ⟨hs, cx⟩
      all_goals
        first
          | have k1 : ((k + 2 : Nat) : Int) < (m : Int) := by omega
          | have k1 : ¬ ((k + 2 : Nat) : Int) < (m : Int) := by omega
        clear hs
        go_wp2_with fail
        refine (unhide HKT).mono ?_
        rintro e w1 ⟨rfl, rfl⟩
        go_wp2_with fail
        go_loopg [8] t.size (fun gk iv wr => ∃ i : Nat, gk = t.size - i ∧ i ≤ t.size ∧ iv = .int .i64 (i : Nat) ∧ (t.data.toList.take i).any Sb.isBl = false ∧ w = wr)
        case atStart => exact ⟨0, by omega, Nat.zero_le _, rfl, by simp, rfl⟩
        case round =>
        obtain ⟨i, hgk, hi, rfl, hno, rfl⟩ := hrel
        have Hgk2 := hide hgk
        have Hno := hide hno
        clear hgk hno
        by_cases hlt : i < t.size
        · have hat : t.data.toList[i]? = some t[i] := by rw [List.getElem?_eq_getElem (by rw [szl]; exact hlt)]; rfl
          have Kb := (unhide KB) t[i] w
          cases hbl : Sb.isBl t[i] with
          | false =>
            have hno2 : (t.data.toList.take (i + 1)).any Sb.isBl = false := by
              rw [List.take_add_one, hat, List.any_append, unhide Hno]
              simp [hbl]
            rw [hbl] at Kb
            have HKb := hide Kb
            have Hno2 := hide hno2
            clear hat hbl hno2 Kb
            go_wp2_with fail
            refine (unhide HKb).mono ?_
            rintro e w2 ⟨rfl, rfl⟩
            go_wp2_with fail
            go_roundg (t.size - (i + 1))
            case measure => have := unhide Hgk2; omega
            case rel => exact ⟨i + 1, rfl, by omega, by go_num, unhide Hno2, rfl⟩
          | true =>
            rw [hbl] at Kb
            have HKb := hide Kb
            obtain ⟨f1, f2⟩ := first_blank hat hbl (unhide Hno)
            have hpf : p = (t.data.toList.take i, Sb.trim (t.data.toList.drop i), true, 0) := by rw [unhide Hpe, f1, f2]
            have e1 : t.extract 0 i = Sb.ba (t.data.toList.take i) := by rw [extract_ba, List.drop_zero, Nat.sub_zero]; rfl
            have e2 : (t.extract i t.size).data.toList = t.data.toList.drop i := by rw [extract_ba, Ev.ba_data, List.take_of_length_le (by rw [List.length_drop, szl]; omega)]
            have K3 : Hid (∀ w' : World, Calls Tryz.prog 52 #[.string (t.extract i t.size)] w' fun e w2 => e = .returned (.string (Sb.ba (Sb.trim (t.data.toList.drop i)))) ∧ w2 = w') := hide (fun w' => by have h := (unhide KT2) (t.extract i t.size) w' (by simp; omega); rw [e2] at h; exact h.mono fun _ _ ⟨a, b⟩ => ⟨a, b.symm⟩)
            have Hpf := hide hpf
            have He1 := hide e1
            have l0 : (i : Int) ≤ (t.size : Int) := by omega
            have l1 : ¬ (i : Int) < 0 := by omega
            clear hat hbl Kb f1 f2 hpf e1 e2
            go_wp2_with fail
            refine (unhide HKb).mono ?_
            rintro e w2 ⟨rfl, rfl⟩
            go_wp2_with fail
            go_quiet ((go_at_call 52; exact Calls.quiet_of_same ((unhide K3) _)))
            go_wp2_with fail
            (try simp only [Exit.inBlock, Exit.then])
            refine bodyPost_ret (res_tmp4 rfl _ _ _) rfl ?_
            rw [unhide Hpf]
            exact ⟨congrArg (fun x => Ending.returned (.tuple #[.string x, .string (Sb.ba (Sb.trim (t.data.toList.drop i))), .bool true, .int .i64 0])) (unhide He1), below_drewN' (Below.refl _ _) _⟩
        · have hno := unhide Hno
          rw [List.take_of_length_le (by rw [szl]; omega)] at hno
          obtain ⟨f1, f2⟩ := no_blank hno
          have hpf : p = (t.data.toList, [], true, 0) := by
            rw [unhide Hpe, f1, f2]
            rfl
          have e1 : t = Sb.ba t.data.toList := by cases t; simp [Sb.ba]
          have Hpf := hide hpf
          have He1 := hide e1
          clear hno f1 f2 hpf e1
          go_wp2_with fail
          (try simp only [Exit.inBlock, Exit.then])
          refine bodyPost_ret (res_tmp4 rfl _ _ _) rfl ?_
          rw [unhide Hpf]
          exact ⟨congrArg (fun x => Ending.returned (.tuple #[.string x, .string ⟨#[]⟩, .bool true, .int .i64 0])) (unhide He1), Below.refl _ _⟩
end Go.Proofs.YtfegfmapdekkbaaGreatDoor
