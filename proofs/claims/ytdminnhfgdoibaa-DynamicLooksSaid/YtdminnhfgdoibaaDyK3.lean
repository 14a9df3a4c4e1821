/- The plain mathematics of paths: a text cut at its slashes. No program in sight. No conditions. The walks of pieces and Check of the package paths, of any text. Condition: the texts are no longer than the model's greatest length. The walks of the closures that texts makes. Conditions: as each says. The walk of texts. Conditions: as each says. The walk of the relocations' closure. Conditions: as each says. Rows of symbols and relocations joined with their closures; what Parse answers. Conditions: as each says. The walk of Parse. Conditions: as each says. The walk of both. Conditions: as each says. The walk of links. Conditions: as each says. -/
import Derived.Laws.RangeAny
import Derived.Lib.Strings
import Derived.Lib.LastIndexByte
import Derived.Test.YtdminnhfgdoibaaDyK1
import Derived.Test.YtdminnhfgdoibaaProg
import Derived.Test.YtdminnhfgdoibaaShelf
import Derived.Lib.IndexAny
import Derived.WalkLawsBesides
import Derived.WalkSpells
import Derived.Deep.RegionWith
import Derived.Test.YtdminnhfgdoibaaDyK2
namespace Go.Proofs.Ytdminnhfgdoibaa.Pth
set_option linter.unusedVariables false
set_option linter.unusedSimpArgs false

/-- The texts between slashes: of the text s, r being what is left of it at place i, the running piece begun at f. -/
def pcsL (s : ByteArray) : List UInt8 → Nat → Nat → List ByteArray
  | [], i, f => [s.extract f i]
  | c :: r, i, f => if c = 47 then s.extract f i :: pcsL s r (i + 1) (i + 1) else pcsL s r (i + 1) f

def pcs (s : ByteArray) : List ByteArray := pcsL s s.data.toList 0 0
/-- what is still to come at place i, the running piece begun at f. -/
def pcsAt (s : ByteArray) (i f : Nat) : List ByteArray := pcsL s (s.data.toList.drop i) i f

theorem drop_cons (s : ByteArray) (i : Nat) (h : i < s.size) : s.data.toList.drop i = s[i] :: s.data.toList.drop (i + 1) := by
  have h' : i < s.data.toList.length := by simpa using h
  rw [List.drop_eq_getElem_cons h']
  rfl

theorem pcsAt_end (s : ByteArray) (f : Nat) : pcsAt s s.size f = [s.extract f s.size] := by
  unfold pcsAt
  rw [List.drop_of_length_le (by simp)]
  rfl
theorem pcsAt_slash (s : ByteArray) (i f : Nat) (h : i < s.size) (hc : s[i] = 47) : pcsAt s i f = s.extract f i :: pcsAt s (i + 1) (i + 1) := by
  unfold pcsAt
  rw [drop_cons s i h]
  simp [pcsL, hc]
theorem pcsAt_skip (s : ByteArray) (i f : Nat) (h : i < s.size) (hc : s[i] ≠ 47) : pcsAt s i f = pcsAt s (i + 1) f := by
  unfold pcsAt
  rw [drop_cons s i h]
  simp [pcsL, hc]
theorem pcsAt_skips (s : ByteArray) (f : Nat) (d : Nat) : ∀ i, (∀ j, i ≤ j → j < i + d → ∃ h : j < s.size, s[j] ≠ 47) → pcsAt s i f = pcsAt s (i + d) f := by
  induction d with
  | zero => intro i _; rfl
  | succ d ih =>
    intro i h
    obtain ⟨hi, hc⟩ := h i (Nat.le_refl _) (by omega)
    rw [pcsAt_skip s i f hi hc, ih (i + 1) (fun j h1 h2 => h j (by omega) (by omega))]
    congr 1
    omega

theorem get_at (s : ByteArray) (pos k : Nat) (h : pos + k < s.size) : s.get! (pos + k) = s[pos + k]'h := by
  simp [ByteArray.get!, getElem!_pos, h]
  rfl

theorem high_ne (c : UInt8) (h : c.toNat / 64 = 2) : c ≠ 47 := by
  intro e
  subst e
  simp at h

/-- What a rune of a text covers: at least a byte, no more than there is; it is a slash just if its first byte is one, and no later byte of it is a slash. -/
theorem decode_cover (s : ByteArray) (pos : Nat) (h : pos < s.size) :
    1 ≤ (Utf8.decode s pos).2 ∧ pos + (Utf8.decode s pos).2 ≤ s.size ∧ ((Utf8.decode s pos).1 = 47 ↔ s[pos] = 47) ∧ (s[pos] = 47 → (Utf8.decode s pos).2 = 1) ∧
    (s[pos] ≠ 47 → ∀ j, pos ≤ j → j < pos + (Utf8.decode s pos).2 → ∃ hj : j < s.size, s[j] ≠ 47) := by
  have e0 : s.get! (pos + 0) = s[pos] := get_at s pos 0 (by simpa using h)
  have eq47 : s[pos] = 47 ↔ s[pos].toNat = 47 := by
    constructor
    · intro e; rw [e]; rfl
    · intro e; exact UInt8.toNat_inj.1 (by rw [e]; rfl)
  by_cases ha : s[pos].toNat < 128
  · have hd : Utf8.decode s pos = (s[pos].toNat, 1) := decode_ascii s pos h ha
    rw [hd]
    refine ⟨Nat.le_refl _, by simp only; omega, by simp only [eq47], fun _ => rfl, fun hn j h1 h2 => ?_⟩
    obtain rfl : j = pos := by simp only at h2; omega
    exact ⟨h, hn⟩
  · have hn47 : s[pos] ≠ 47 := by rw [ne_eq, eq47]; omega
    have key : ∃ c d, Utf8.decode s pos = (c, d) ∧ 1 ≤ d ∧ pos + d ≤ s.size ∧ c ≠ 47 ∧ ∀ k, 1 ≤ k → k < d → pos + k < s.size ∧ (s.get! (pos + k)).toNat / 64 = 2 := by
      simp only [Utf8.decode, e0, ha, if_false]
      repeat' split
      all_goals (refine ⟨_, _, rfl, by omega, ?_, ?_, ?_⟩)
      all_goals simp only [Bool.and_eq_true, decide_eq_true_eq, beq_iff_eq] at *
      all_goals first
        | omega
        | (simp [Utf8.runeError]; done)
        | (intro k h1 h2; omega)
        | (intro k h1 h2
           have hk : k = 1 ∨ k = 2 ∨ k = 3 := by omega
           rcases hk with rfl | rfl | rfl <;> first | (exfalso; omega) | (refine ⟨?_, ?_⟩ <;> omega))
    obtain ⟨c, d, hd, h1, h2, h3, h4⟩ := key
    rw [hd]
    refine ⟨h1, h2, by simp [h3, hn47], fun e => absurd e hn47, fun _ j hj1 hj2 => ?_⟩
    rcases Nat.eq_or_lt_of_le hj1 with rfl | hlt
    · exact ⟨h, hn47⟩
    · obtain ⟨k, rfl⟩ : ∃ k, j = pos + k := ⟨j - pos, by omega⟩
      obtain ⟨hs, hh⟩ := h4 k (by omega) (by simpa using hj2)
      refine ⟨hs, ?_⟩
      rw [get_at s pos k hs] at hh
      exact high_ne _ hh

/-- A yield that may end it: what becomes of the state over a list of pieces. -/
def goF {S : Type} (step : S → ByteArray → S × Bool) : S → List ByteArray → S
  | s, [] => s
  | s, x :: r => if (step s x).2 then goF step (step s x).1 r else (step s x).1

/-- Check's answer. -/
def tooLong (x : ByteArray) : Bool := decide (32 < x.size)
def chk (p : ByteArray) : Int :=
  if p.size = 0 then 3 else if p.data.toList.contains 0 then 1 else if 200 < p.size then 11 else if (pcs p).any tooLong then 11 else 0
def checkStep (e : Int) (x : ByteArray) : Int × Bool := if 32 < x.size then (11, false) else (e, e == 0)
theorem goF_check (l : List ByteArray) : goF checkStep 0 l = if l.any tooLong then 11 else 0 := by
  induction l with
  | nil => rfl
  | cons x r ih =>
    by_cases h : 32 < x.size
    · simp [goF, checkStep, h, tooLong]
    · simp [goF, checkStep, h, tooLong, ih]

/-- The parts: all pieces that are no empty text and no point. -/
def isPart (x : ByteArray) : Bool := !(x.data.toList == []) && !(x.data.toList == [46])
def parts (p : ByteArray) : List ByteArray := (pcs p).filter isPart
def partsStep (l : List ByteArray) (x : ByteArray) : List ByteArray × Bool := (if isPart x then l ++ [x] else l, true)
theorem goF_parts (l : List ByteArray) : ∀ acc, goF partsStep acc l = acc ++ l.filter isPart := by
  induction l with
  | nil => intro acc; simp [goF]
  | cons x r ih =>
    intro acc
    by_cases h : isPart x
    · simp [goF, partsStep, h, ih]
    · simp [goF, partsStep, h, ih]

/-- What Parts answers: the list, and whether it begins at the root; nothing beside an error. -/
def partsL (p : ByteArray) : List ByteArray := if chk p = 0 then parts p else []
def rootB (p : ByteArray) : Bool := decide (chk p = 0) && Lib.hasPrefix p.data.toList [47]
theorem chk_size (p : ByteArray) (h : chk p = 0) : p.size ≤ 200 := by
  unfold chk at h
  repeat' split at h
  all_goals first | omega | (cases h)

/-! ### Join, Base, Dir, Tail -/
def headB (p : ByteArray) : Bool := Lib.hasPrefix p.data.toList [47]
def tailB (p : ByteArray) : Bool := Lib.hasSuffix p.data.toList [47]
def slash : ByteArray := ⟨#[47]⟩
def joinB (d p : ByteArray) : ByteArray := if d.size = 0 ∨ headB p = true then p else if tailB d = true then d ++ p else d ++ slash ++ p
def lastB (p : ByteArray) : Int := Lib.lastIndexByte p 47
def baseB (p : ByteArray) : ByteArray := p.extract (lastB p + 1).toNat p.size
def dirB (p : ByteArray) : ByteArray := if lastB p = -1 then ⟨#[46]⟩ else if lastB p = 0 then ⟨#[47]⟩ else p.extract 0 (lastB p).toNat

theorem lastB_bd (p : ByteArray) : -1 ≤ lastB p ∧ lastB p + 1 ≤ p.size := by
  unfold lastB
  rcases Lib.lastIndexByte_spec p 47 with ⟨h, _⟩ | ⟨i, hi, h, _⟩
  · rw [h]; omega
  · rw [h]; omega
theorem data_get (s : ByteArray) (i : Nat) (h : i < s.size) : s.data[i]! = s[i] := by
  have h' : i < s.data.size := h
  rw [getElem!_pos s.data i h']
  rfl
theorem lastIdx_step (p : ByteArray) (i : Nat) (h : i < p.size) : Lib.lastIdx p 47 (i + 1) = if ((p[i].toNat : Nat) : Int) = 47 then (i : Int) else Lib.lastIdx p 47 i := by
  have e := data_get p i h
  simp only [Lib.lastIdx, e]
theorem headB_iff (p : ByteArray) : headB p = decide (∃ h : 0 < p.size, p[0] = 47) := by
  rw [Bool.eq_iff_iff, decide_eq_true_eq]
  unfold headB Lib.hasPrefix
  obtain ⟨⟨l⟩⟩ := p
  cases l with
  | nil =>
    constructor
    · intro h; cases h
    · rintro ⟨h, _⟩; cases h
  | cons a r =>
    show ([47].isPrefixOf (a :: r)) = true ↔ _
    simp only [List.isPrefixOf, Bool.and_true, beq_iff_eq]
    exact ⟨fun h => ⟨Nat.succ_pos _, h.symm⟩, fun h => h.2.symm⟩
theorem tailB_iff (p : ByteArray) (h : 0 < p.size) : tailB p = decide (p[p.size - 1]'(by omega) = 47) := by
  rw [Bool.eq_iff_iff, decide_eq_true_eq]
  unfold tailB Lib.hasSuffix
  obtain ⟨⟨l⟩⟩ := p
  have hne : l ≠ [] := by rintro rfl; cases h
  rw [List.isSuffixOf_iff_suffix]
  have e : (ByteArray.mk ⟨l⟩)[(ByteArray.mk ⟨l⟩).size - 1]'(by omega) = l.getLast hne := by
    rw [List.getLast_eq_getElem]
    rfl
  rw [e]
  constructor
  · rintro ⟨t, ht⟩
    have h2 : l = t ++ [47] := ht.symm
    subst h2
    exact List.getLast_concat
  · intro h47
    refine ⟨l.dropLast, ?_⟩
    rw [← h47]
    exact List.dropLast_concat_getLast hne
theorem tailB_empty (p : ByteArray) (h : p.size = 0) : tailB p = false := by
  obtain ⟨⟨l⟩⟩ := p
  have : l = [] := List.eq_nil_of_length_eq_zero h
  subst this
  rfl

end Go.Proofs.Ytdminnhfgdoibaa.Pth
namespace Go.Proofs.Ytdminnhfgdoibaa
set_option linter.unusedVariables false
set_option linter.unusedSimpArgs false
open Go.RowKit Go.Lib

/-- Nothing below B, and no block that is no iterator of a text, has turned. -/
structure ItKp (B : Nat) (w w' : World) : Prop where
  os : w'.os = w.os
  tape : w'.tape = w.tape
  output : w'.output = w.output
  size : w.heap.size ≤ w'.heap.size
  low : ∀ k, k < B → w'.heap[k]? = w.heap[k]?
  rest : ∀ (k : Nat) (o : Obj), w.heap[k]? = some o → (∀ s p, o ≠ .stringIter s p) → w'.heap[k]? = some o

def IterKept (w w' : World) : Prop := ∀ (k : Nat) (s : ByteArray) (p : Nat), w.heap[k]? = some (.stringIter s p) → w'.heap[k]? = some (.stringIter s p)

theorem ItKp.iter {B : Nat} {w : World} (hB : B ≤ w.heap.size) (s : ByteArray) (p : Nat) : ItKp B w (w.iter s p) :=
  ⟨rfl, rfl, rfl, by simp [World.iter], fun k hk => Below.heap_alloc _ _ _ (by omega), fun k o h _ => by
    rw [← h]
    exact Below.heap_alloc _ _ _ (Array.getElem?_eq_some_iff.1 h).1⟩

theorem ItKp.iterAt {B : Nat} {w : World} {k : Nat} (hB : B ≤ k) (s : ByteArray) (p q : Nat) (h : w.heap[k]? = some (.stringIter s q)) : ItKp B w (w.iterAt k s p) :=
  ⟨rfl, rfl, rfl, by rw [iterAt_size]; exact Nat.le_refl _, fun j hj => iterAt_other _ _ _ _ _ (by omega), fun j o hj hn => by
    by_cases e : j = k
    · subst e
      rw [h] at hj
      exact absurd (Option.some.inj hj).symm (hn _ _)
    · rw [iterAt_other _ _ _ _ _ e]
      exact hj⟩

/-- What Check's yield keeps: its error in block g. -/
def ChkI (w0 : World) (g : Nat) (e : Int) (w : World) : Prop := w.heap[g]? = some (.cells #[.int .i64 e] 42 (0, 0)) ∧ Below w0.heap.size w0 w

theorem ChkI.stable {w0 : World} {g : Nat} (e : Int) (w w' : World) (h : ItKp w0.heap.size w w') (hI : ChkI w0 g e w) : ChkI w0 g e w' :=
  ⟨h.rest _ _ hI.1 (fun _ _ => by simp), hI.2.trans ⟨h.os, h.tape, h.output, h.size, h.low⟩⟩

theorem iterKept_setCell {w : World} {g : Nat} {cs : Array Value} {t : TypeId} {fz : Nat × Nat} (h : w.heap[g]? = some (.cells cs t fz)) (o : Nat) (v : Value) : IterKept w (w.setCell ⟨g, o, none⟩ v) := by
  intro k s p hk
  rw [Below.heap_setCell _ _ _ _ ?_]
  · exact hk
  · rintro rfl
    rw [h] at hk
    cases hk

theorem strTy : SlTy Try.prog 37 9 1 16 := slTy_mk (z := .string ⟨#[]⟩) Try.underlying37 (by kernel_rfl) rfl (by omega) (by omega)

end Go.Proofs.Ytdminnhfgdoibaa
namespace Go.Proofs.Ytdminnhfgdoibaa
set_option linter.unusedVariables false
set_option linter.unusedSimpArgs false
open Go.RowKit

/-- What is said, as it grows: the block of out behind V's end, the boxes of d and of out, the row of what is needed. -/
structure OutM (V w : World) (g : Nat) (D : Dy.Dyn) (A : Option Addr) (n c : Nat) : Prop where
  bel : Below V.heap.size V w
  out : Blk w V.heap.size 41 [.slice A n c, .string D.soname, .string D.run, .slice none 0 0, .slice none 0 0]
  bd : Blk w (V.heap.size + 1) 72 [.pointer (some ⟨g, 0, none⟩)]
  bo : Blk w (V.heap.size + 1 + 1) 82 [.pointer (some ⟨V.heap.size, 0, none⟩)]
  row : w.ownsRow (V.heap.size + 3) 9 1 (.slice A n c) n (D.needed.map Value.string)
  n : D.needed.length = n
section
variable {V w w' : World} {g : Nat} {D : Dy.Dyn} {A : Option Addr} {n c : Nat}
theorem OutM.sz (h : OutM V w g D A n c) : V.heap.size + 3 ≤ w.heap.size := h.bo.lt
theorem OutM.belowSz (h : OutM V w g D A n c) (hb : Below w.heap.size w w') : OutM V w' g D A n c :=
  ⟨h.bel.trans (hb.mono h.bel.size), h.out.belowSz hb, h.bd.belowSz hb, h.bo.belowSz hb, own_below h.row hb, h.n⟩
theorem own_setOB {i k : Nat} {e : TypeId} {xs : List Value} {B size : Nat} (h : w.ownsRow B e size (.slice A n c) n xs) (hk : k < B) (u : Value) : (w.setCell ⟨k, i, none⟩ u).ownsRow B e size (.slice A n c) n xs := by
  obtain ⟨hl, hn | ⟨g', cap, cur, hv, hb, hg, h1, h2, h3, h4⟩⟩ := h
  · exact ⟨hl, .inl hn⟩
  · exact ⟨hl, .inr ⟨g', cap, cur, hv, hb, (heap_setCell_other _ _ _ _ (by dsimp only; omega)).trans hg, h1, h2, h3, h4⟩⟩
theorem OutM.setS (h : OutM V w g D A n c) (s : ByteArray) : OutM V (w.setCell ⟨V.heap.size, 1, none⟩ (.string s)) g { D with soname := s } A n c :=
  ⟨h.bel.setCell (p := ⟨V.heap.size, 1, none⟩) (Nat.le_refl _) _, h.out.set 1 _, h.bd.other (by dsimp only; omega) _, h.bo.other (by dsimp only; omega) _, own_setOB h.row (by omega) _, h.n⟩
theorem OutM.setR (h : OutM V w g D A n c) (s : ByteArray) : OutM V (w.setCell ⟨V.heap.size, 2, none⟩ (.string s)) g { D with run := s } A n c :=
  ⟨h.bel.setCell (p := ⟨V.heap.size, 2, none⟩) (Nat.le_refl _) _, h.out.set 2 _, h.bd.other (by dsimp only; omega) _, h.bo.other (by dsimp only; omega) _, own_setOB h.row (by omega) _, h.n⟩
theorem OutM.notO (h : OutM V w g D A n c) {k : Nat} (hk : k < V.heap.size + 3) : some k ≠ (Value.slice A n c).ownBlock := by
  intro e
  have := (h.row.lt k e.symm).1
  omega
theorem OutM.grown (h : OutM V w g D A n c) (hg : w.grownBy w' (Value.slice A n c).ownBlock) : Below V.heap.size V w' ∧ Blk w' V.heap.size 41 [.slice A n c, .string D.soname, .string D.run, .slice none 0 0, .slice none 0 0] ∧ Blk w' (V.heap.size + 1) 72 [.pointer (some ⟨g, 0, none⟩)] ∧ Blk w' (V.heap.size + 1 + 1) 82 [.pointer (some ⟨V.heap.size, 0, none⟩)] := by
  have hs := h.sz
  exact ⟨h.bel.grown hg h.bel.size (fun k hk => by have := (h.row.lt k hk).1; omega), (hg.block _ (by omega) (h.notO (by omega))).trans h.out, (hg.block _ (by omega) (h.notO (by omega))).trans h.bd, (hg.block _ (by omega) (h.notO (by omega))).trans h.bo⟩
theorem OutM.push {A' : Option Addr} {c' : Nat} (h : OutM V w g D A n c) (s : ByteArray) (ho : w'.ownsRow (V.heap.size + 3) 9 1 (.slice A' (n + 1) c') (n + 1) (D.needed.map Value.string ++ [.string s])) (hg : w.grownBy w' (Value.slice A n c).ownBlock) :
    OutM V (w'.setCell ⟨V.heap.size, 0, none⟩ (.slice A' (n + 1) c')) g { D with needed := D.needed ++ [s] } A' (n + 1) c' := by
  obtain ⟨h1, h2, h3, h4⟩ := h.grown hg
  refine ⟨h1.setCell (p := ⟨V.heap.size, 0, none⟩) (Nat.le_refl _) _, h2.set 0 _, h3.other (by dsimp only; omega) _, h4.other (by dsimp only; omega) _, ?_, by simp [h.n]⟩
  have : (D.needed ++ [s]).map Value.string = D.needed.map Value.string ++ [.string s] := by simp
  dsimp only
  rw [this]
  exact own_setOB ho (by omega) _
end

theorem putS_any (V w : World) (g n c : Nat) (D : Dy.Dyn) (A : Option Addr) (s : ByteArray) (h : OutM V w g D A n c) :
    Calls Try.prog 57 #[.string s, .pointer (some ⟨V.heap.size + 1 + 1, 0, none⟩)] w fun e w' => e = .returned (.tuple #[]) ∧ OutM V w' g { D with soname := s } A n c := by
  have x0 := h.bo.cell (i := 0) rfl
  have y0 := h.out.cell (i := 1) rfl
  have y1 := h.out.free 1
  have H := hide (h.setS s)
  clear h
  go_enter Try.func57, Try.ntmps57
  go_wp2_with fail
  go_end0
  exact ⟨rfl, unhide H⟩

theorem putR_any (V w : World) (g n c : Nat) (D : Dy.Dyn) (A : Option Addr) (s : ByteArray) (h : OutM V w g D A n c) :
    Calls Try.prog 58 #[.string s, .pointer (some ⟨V.heap.size + 1 + 1, 0, none⟩)] w fun e w' => e = .returned (.tuple #[]) ∧ OutM V w' g { D with run := s } A n c := by
  have x0 := h.bo.cell (i := 0) rfl
  have y0 := h.out.cell (i := 2) rfl
  have y1 := h.out.free 2
  have H := hide (h.setR s)
  clear h
  go_enter Try.func58, Try.ntmps58
  go_wp2_with fail
  go_end0
  exact ⟨rfl, unhide H⟩

set_option maxRecDepth 100000 in
set_option maxHeartbeats 2000000 in
theorem putN_any (V w : World) (g n c : Nat) (D : Dy.Dyn) (A : Option Addr) (s : ByteArray) (h : OutM V w g D A n c) (hn : n ≤ 4294967296) :
    Calls Try.prog 56 #[.string s, .pointer (some ⟨V.heap.size + 1 + 1, 0, none⟩)] w fun e w' => e = .returned (.tuple #[]) ∧ ∃ A' c', OutM V w' g { D with needed := D.needed ++ [s] } A' (n + 1) c' := by
  have H := hide h
  have HC : Hid (∀ w' : World, Blk w' (V.heap.size + 1 + 1) 82 [.pointer (some ⟨V.heap.size, 0, none⟩)] → w'.cell? ⟨V.heap.size + 1 + 1, 0, none⟩ = some (.pointer (some ⟨V.heap.size, 0, none⟩))) := hide (fun w' h => h.cell (i := 0) rfl)
  have Hd := hide (h.belowSz (below_drew' (Below.refl _ _)))
  have y0 := (h.belowSz (below_drew' (Below.refl _ _))).out.cell (i := 0) rfl
  have hsz := h.sz
  clear h
  go_enter Try.func56, Try.ntmps56
  go_wp2_with fail
  refine wp_region_noPanic ?_
  refine wp_region_held_drew (S := fun w' => w'.cell? ⟨V.heap.size + 1 + 1, 0, none⟩ = some (.pointer (some ⟨V.heap.size, 0, none⟩))) (by kernel_rfl) ((unhide HC) _ (unhide Hd).bo) (fun HS0 => ?_)
  refine takeD (i := 0) (d := some 3) (v := ?_) rfl rfl (by kernel_rfl) (by kernel_rfl) (by kernel_rfl) (fun _ _ _ h => h) (Or.inl ⟨by rfl, ?y0⟩) HS0 ?_
  case y0 => (intro w' hSw; (try dsimp only at hSw); go_simp; (try with_reducible rfl))
  simp only [Act.put, List.setIfInBounds_toArray, List.set_cons_zero, List.set_cons_succ]
  refine takeD (i := 1) (d := some 4) (v := ?_) rfl rfl (by kernel_rfl) (by kernel_rfl) (by kernel_rfl) (fun _ _ _ h => h) (Or.inl ⟨by rfl, ?y1⟩) HS0 ?_
  case y1 => (intro w' hSw; (try dsimp only at hSw); go_simp; (try with_reducible rfl))
  simp only [Act.put, List.setIfInBounds_toArray, List.set_cons_zero, List.set_cons_succ]
  refine takeD (i := 2) (d := some 5) (v := ?_) rfl rfl (by kernel_rfl) (by kernel_rfl) (by kernel_rfl) (fun _ _ _ h => h) (Or.inl ⟨by rfl, ?y2⟩) HS0 ?_
  case y2 => (intro w' hSw; (try dsimp only at hSw); go_simp; (try with_reducible rfl))
  simp only [Act.put, List.setIfInBounds_toArray, List.set_cons_zero, List.set_cons_succ]
  refine takeD (i := 3) (d := some 6) (v := ?_) rfl rfl (by kernel_rfl) (by kernel_rfl) (by kernel_rfl) (fun _ _ _ h => h) (Or.inl ⟨by rfl, ?y3⟩) HS0 ?_
  case y3 => (intro w' hSw; (try dsimp only at hSw); go_simp; (try with_reducible rfl))
  simp only [Act.put, List.setIfInBounds_toArray, List.set_cons_zero, List.set_cons_succ]
  refine takeD (i := 5) (d := some 8) (v := ?_) rfl rfl (by kernel_rfl) (by kernel_rfl) (by kernel_rfl) (fun _ _ _ h => h) (Or.inl ⟨by rfl, ?y5⟩) HS0 ?_
  case y5 => (intro w' hSw; (try dsimp only at hSw); go_simp; (try with_reducible rfl))
  simp only [Act.put, List.setIfInBounds_toArray, List.set_cons_zero, List.set_cons_succ]
  refine wpAnyH_ready (rs := [4, 6]) (by kernel_rfl) (by simp) ?_
  refine AllReadyH.cons (i := 4) rfl (fun K hK => ?way4) (AllReadyH.cons (i := 6) rfl (fun K hK => ?way6) AllReadyH.nil)
  case way4 =>
    rw [if_pos (by rfl)]
    go_simp
    refine hK.out _ _ ((unhide HC) _ (unhide Hd).bo) (fun hHeld => ?_)
    clear hK K HS0
    have HS0 := hHeld
    clear hHeld
    (try simp only [Act.put, List.setIfInBounds_toArray, List.set_cons_zero, List.set_cons_succ])
    refine wpAnyH_ready (rs := [6]) (by kernel_rfl) (by simp) ?_
    refine AllReadyH.cons (i := 6) rfl (fun K hK => ?_) AllReadyH.nil
    rw [if_pos (by rfl)]
    go_simp
    refine hK.out _ _ ((unhide HC) _ ((unhide Hd).bo.alloc _)) (fun hHeld => ?_)
    clear hK K HS0
    have HS0 := hHeld
    clear hHeld
    (try simp only [Act.put, List.setIfInBounds_toArray, List.set_cons_zero, List.set_cons_succ])
    refine wpAnyH_ready (rs := [7]) (by kernel_rfl) (by simp) ?_
    refine AllReadyH.cons (i := 7) rfl (fun K hK => ?_) AllReadyH.nil
    rw [if_pos (by rfl)]
    refine wp_app1g strTy _ _ rfl (V.heap.size + 3) (.slice A n c) n (D.needed.map Value.string) rfl (unhide Hd).row #[.string s] _ rfl (by simp) rfl (by intro u hu; simp at hu; rcases hu with rfl; rfl) (by omega) (by simp; omega) ?_
    intro A6 c6 w8 ho6 hg6
    have HP := hide ((unhide Hd).push s ho6 hg6)
    have HG := hide ((unhide Hd).grown hg6)
    have z0 := (unhide HG).2.1.cell (i := 0) rfl
    have z1 := (unhide HG).2.1.free 0
    clear ho6 hg6
    refine hK.out _ _ ((unhide HC) _ (unhide HG).2.2.2) (fun hHeld => ?_)
    clear hK K HS0
    have HS0 := hHeld
    clear hHeld
    (try simp only [Act.put, List.setIfInBounds_toArray, List.set_cons_zero, List.set_cons_succ])
    refine takeD (i := 8) (d := some 11) (v := ?_) rfl rfl (by kernel_rfl) (by kernel_rfl) (by kernel_rfl) (fun _ _ _ h => h) (Or.inl ⟨by rfl, ?y8⟩) HS0 ?_
    case y8 => (intro w' hSw; (try dsimp only at hSw); go_simp; (try with_reducible rfl))
    simp only [Act.put, List.setIfInBounds_toArray, List.set_cons_zero, List.set_cons_succ]
    refine takeD (i := 9) (d := some 12) (v := ?_) rfl rfl (by kernel_rfl) (by kernel_rfl) (by kernel_rfl) (fun _ _ _ h => h) (Or.inl ⟨by rfl, ?y9⟩) HS0 ?_
    case y9 => (intro w' hSw; (try dsimp only at hSw); go_simp; (try with_reducible rfl))
    simp only [Act.put, List.setIfInBounds_toArray, List.set_cons_zero, List.set_cons_succ]
    refine wpAnyH_ready (rs := [10]) (by kernel_rfl) (by simp) ?_
    refine AllReadyH.cons (i := 10) rfl (fun K hK => ?_) AllReadyH.nil
    rw [if_pos (by rfl)]
    go_simp
    refine hK.out _ _ ((unhide HC) _ ((unhide HP).bo)) (fun hHeld => ?_)
    clear hK K HS0
    have HS0 := hHeld
    clear hHeld
    (try simp only [Act.put, List.setIfInBounds_toArray, List.set_cons_zero, List.set_cons_succ])
    refine wpAnyH_done (by kernel_rfl) ?_ _
    refine NoPanic.normal ?_
    go_wp2_with fail
    go_end0
    exact ⟨rfl, A6, c6, unhide HP⟩
  case way6 =>
    rw [if_pos (by rfl)]
    go_simp
    refine hK.out _ _ ((unhide HC) _ ((unhide Hd).bo.alloc _)) (fun hHeld => ?_)
    clear hK K HS0
    have HS0 := hHeld
    clear hHeld
    (try simp only [Act.put, List.setIfInBounds_toArray, List.set_cons_zero, List.set_cons_succ])
    have y5 := ((unhide H).out.alloc (.cells #[.string s] 9)).cell (i := 0) rfl
    refine wpAnyH_ready (rs := [4]) (by kernel_rfl) (by simp) ?_
    refine AllReadyH.cons (i := 4) rfl (fun K hK => ?_) AllReadyH.nil
    rw [if_pos (by rfl)]
    go_simp
    refine hK.out _ _ ((unhide HC) _ ((unhide Hd).bo.alloc _)) (fun hHeld => ?_)
    clear hK K HS0
    have HS0 := hHeld
    clear hHeld
    (try simp only [Act.put, List.setIfInBounds_toArray, List.set_cons_zero, List.set_cons_succ])
    refine wpAnyH_ready (rs := [7]) (by kernel_rfl) (by simp) ?_
    refine AllReadyH.cons (i := 7) rfl (fun K hK => ?_) AllReadyH.nil
    rw [if_pos (by rfl)]
    refine wp_app1g strTy _ _ rfl (V.heap.size + 3) (.slice A n c) n (D.needed.map Value.string) rfl (unhide Hd).row #[.string s] _ rfl (by simp) rfl (by intro u hu; simp at hu; rcases hu with rfl; rfl) (by omega) (by simp; omega) ?_
    intro A6 c6 w8 ho6 hg6
    have HP := hide ((unhide Hd).push s ho6 hg6)
    have HG := hide ((unhide Hd).grown hg6)
    have z0 := (unhide HG).2.1.cell (i := 0) rfl
    have z1 := (unhide HG).2.1.free 0
    clear ho6 hg6
    refine hK.out _ _ ((unhide HC) _ (unhide HG).2.2.2) (fun hHeld => ?_)
    clear hK K HS0
    have HS0 := hHeld
    clear hHeld
    (try simp only [Act.put, List.setIfInBounds_toArray, List.set_cons_zero, List.set_cons_succ])
    refine takeD (i := 8) (d := some 11) (v := ?_) rfl rfl (by kernel_rfl) (by kernel_rfl) (by kernel_rfl) (fun _ _ _ h => h) (Or.inl ⟨by rfl, ?y8⟩) HS0 ?_
    case y8 => (intro w' hSw; (try dsimp only at hSw); go_simp; (try with_reducible rfl))
    simp only [Act.put, List.setIfInBounds_toArray, List.set_cons_zero, List.set_cons_succ]
    refine takeD (i := 9) (d := some 12) (v := ?_) rfl rfl (by kernel_rfl) (by kernel_rfl) (by kernel_rfl) (fun _ _ _ h => h) (Or.inl ⟨by rfl, ?y9⟩) HS0 ?_
    case y9 => (intro w' hSw; (try dsimp only at hSw); go_simp; (try with_reducible rfl))
    simp only [Act.put, List.setIfInBounds_toArray, List.set_cons_zero, List.set_cons_succ]
    refine wpAnyH_ready (rs := [10]) (by kernel_rfl) (by simp) ?_
    refine AllReadyH.cons (i := 10) rfl (fun K hK => ?_) AllReadyH.nil
    rw [if_pos (by rfl)]
    go_simp
    refine hK.out _ _ ((unhide HC) _ ((unhide HP).bo)) (fun hHeld => ?_)
    clear hK K HS0
    have HS0 := hHeld
    clear hHeld
    (try simp only [Act.put, List.setIfInBounds_toArray, List.set_cons_zero, List.set_cons_succ])
    refine wpAnyH_done (by kernel_rfl) ?_ _
    refine NoPanic.normal ?_
    go_wp2_with fail
    go_end0
    exact ⟨rfl, A6, c6, unhide HP⟩

set_option maxRecDepth 100000 in
theorem putP_any (V w : World) (g n c : Nat) (D : Dy.Dyn) (A : Option Addr) (s : ByteArray) (B : Nat) (d : Ds) (h : OutM V w g D A n c) (hd : DsM V B g d d.L) :
    Calls Try.prog 59 #[.string s, .pointer (some ⟨V.heap.size + 1, 0, none⟩), .pointer (some ⟨V.heap.size + 1 + 1, 0, none⟩)] w fun e w' => e = .returned (.tuple #[]) ∧ OutM V w' g (if (Dy.val d.L 29).isSome = false then { D with run := s } else D) A n c := by
  have hd2 := hd.belowSz h.bel
  have l1 := (look_tag hd2 (t := 29) rfl).1
  have x0 := h.bd.cell (i := 0) rfl
  have x1 := h.bo.cell (i := 0) rfl
  have x6 := hd2.cells.2.2.2.2.2.2
  have y0 := h.out.cell (i := 2) rfl
  have y1 := h.out.free 2
  have H := hide (h.setR s)
  have H0 := hide h
  obtain ⟨q, hq⟩ : ∃ q, (Dy.val d.L 29).isSome = q := ⟨_, rfl⟩
  obtain ⟨v, hv⟩ : ∃ q, (Dy.val d.L 29).getD 0 = q := ⟨_, rfl⟩
  obtain ⟨gm, hgm⟩ : ∃ q, d.gm = q := ⟨_, rfl⟩
  rw [hq, hv, hgm] at l1
  have l2 : (Instr.lookup 107 (.map (some gm)) (.int .u64 29) true).run Try.prog w = .ok (.tuple #[.int .u64 (v : Nat), .bool q]) w := l1
  rw [hgm] at x6
  rw [hq]
  clear hq hv hgm h hd hd2 l1
  cases q
  case true =>
    go_enter Try.func59, Try.ntmps59
    go_wp2_with fail
    go_end0
    exact ⟨rfl, by simpa using unhide H0⟩
  go_enter Try.func59, Try.ntmps59
  go_wp2_with fail
  go_end0
  exact ⟨rfl, by simpa using unhide H⟩
end Go.Proofs.Ytdminnhfgdoibaa
namespace Go.Proofs.Ytdminnhfgdoibaa
set_option linter.unusedVariables false
set_option linter.unusedSimpArgs false
open Go.RowKit
namespace Dy
theorem texts_skip {t : List UInt8} {run : Bool} {x1 x2 : Nat} {r : List (Nat × Nat)} {D : Dyn} (h : ¬ (x1 = 1 ∨ x1 = 14 ∨ x1 = 15 ∨ x1 = 29)) : texts t run ((x1, x2) :: r) D = texts t run r D := by
  rw [texts, if_neg h]
theorem texts_no {t : List UInt8} {run : Bool} {x1 x2 : Nat} {r : List (Nat × Nat)} {D : Dyn} (h : x1 = 1 ∨ x1 = 14 ∨ x1 = 15 ∨ x1 = 29) (ht : text t x2 = none) : texts t run ((x1, x2) :: r) D = none := by
  rw [texts, if_pos h, ht]
theorem texts_yes {t : List UInt8} {run : Bool} {x1 x2 : Nat} {r : List (Nat × Nat)} {D : Dyn} {s : ByteArray} (h : x1 = 1 ∨ x1 = 14 ∨ x1 = 15 ∨ x1 = 29) (ht : text t x2 = some s) : texts t run ((x1, x2) :: r) D = texts t run r (if x1 = 1 then { D with needed := D.needed ++ [s] } else if x1 = 14 then { D with soname := s } else if x1 = 29 ∨ run = false then { D with run := s } else D) := by
  rw [texts, if_pos h, ht]
end Dy
/-- What texts answers. -/
def TextsE (o : Option Dy.Dyn) (V : World) (g : Nat) (e : Ending) (w' : World) : Prop :=
  ∃ q, e = .returned (.bool q) ∧ ((q = false ∧ o = none) ∨ (q = true ∧ ∃ D A n c, o = some D ∧ OutM V w' g D A n c)) ∧ Below V.heap.size V w'
set_option maxRecDepth 100000 in
set_option maxHeartbeats 4000000 in
theorem texts_any (V : World) (B g : Nat) (d : Ds) (At : Option Addr) (mt ct : Nat) (t : List UInt8) (hd : DsM V B g d d.L) (ho : DsOk d) (hkm : d.k ≤ 4294967296) (hT : Rd V B 1 At mt (bys t)) (hmt : mt ≤ 4294967296) (hmc : mt ≤ ct) :
    Calls Try.prog 32 #[.pointer (some ⟨g, 0, none⟩), .slice At mt ct, .pointer (some ⟨V.heap.size, 0, none⟩)] (V.alloc (.cells #[.slice none 0 0, .string ⟨#[]⟩, .string ⟨#[]⟩, .slice none 0 0, .slice none 0 0] 41)) (TextsE (Dy.texts t (Dy.val d.L 29).isSome d.L Dy.zero) V g) := by
  have hsz : B ≤ V.heap.size := hd.sz
  have KT := hide (fun (p : Nat) (hp : p < 18446744073709551616) w' (hb : Below V.heap.size V w') => text_any At mt ct B t p w' (Nat.le_trans hsz hb.size) (hT.below (hb.mono hsz)) hmt hmc hp)
  have KP := hide (fun (w : World) (n c : Nat) (D : Dy.Dyn) (A : Option Addr) (s : ByteArray) (h : OutM V w g D A n c) => putP_any V w g n c D A s B d h hd)
  have hlen := hd.len
  have hlt64 := fun (j : Nat) (x : Nat × Nat) (h : d.L[j]? = some x) => ho.ent x (List.mem_of_getElem? h)
  obtain ⟨kk, hkk⟩ : ∃ k, d.k = k := ⟨_, rfl⟩
  obtain ⟨Al, hAl⟩ : ∃ k, d.Al = k := ⟨_, rfl⟩
  obtain ⟨cl, hcl⟩ : ∃ k, d.cl = k := ⟨_, rfl⟩
  have hcell : ∀ wr, Below V.heap.size V wr → wr.cell? ⟨g, 5, none⟩ = some (.slice Al kk cl) := by
    intro wr h
    have h5 := (hd.belowSz h).cells.2.2.2.2.2.1
    rw [hAl, hkk, hcl] at h5
    exact h5
  have hents : ∀ wr j e, Below V.heap.size V wr → d.L[j]? = some e → ∃ b off, Al = some ⟨b, off, none⟩ ∧ wr.cell? ⟨b, off + j * 2, none⟩ = some (.int .u64 (e.1 : Nat)) ∧ wr.cell? ⟨b, off + j * 2 + 1, none⟩ = some (.int .u64 (e.2 : Nat)) := by
    intro wr j e h he
    obtain ⟨b, off, h1, _, h2⟩ := ent_at (Rd.of_own (hd.belowSz h).list) he
    exact ⟨b, off, hAl ▸ h1, h2⟩
  rw [hkk] at hlen hkm
  obtain ⟨run, hrun⟩ : ∃ k, (Dy.val d.L 29).isSome = k := ⟨_, rfl⟩
  have kp := unhide KP
  rw [hrun] at kp ⊢
  have KP2 := hide kp
  obtain ⟨L, hL⟩ : ∃ k, d.L = k := ⟨_, rfl⟩
  rw [hL] at hlen hlt64 hents ⊢
  have W0 : Hid (OutM V (((V.alloc (.cells #[.slice none 0 0, .string ⟨#[]⟩, .string ⟨#[]⟩, .slice none 0 0, .slice none 0 0] 41)).alloc (.cells #[.pointer (some ⟨g, 0, none⟩)] 72)).alloc (.cells #[.pointer (some ⟨V.heap.size, 0, none⟩)] 82)) g Dy.zero none 0 0) := hide (by
    have e1 : (V.alloc (.cells #[.slice none 0 0, .string ⟨#[]⟩, .string ⟨#[]⟩, .slice none 0 0, .slice none 0 0] 41)).heap.size = V.heap.size + 1 := by simp
    have e2 : ((V.alloc (.cells #[.slice none 0 0, .string ⟨#[]⟩, .string ⟨#[]⟩, .slice none 0 0, .slice none 0 0] 41)).alloc (.cells #[.pointer (some ⟨g, 0, none⟩)] 72)).heap.size = V.heap.size + 1 + 1 := by simp
    have h1 := Blk.new V 41 [.slice none 0 0, .string ⟨#[]⟩, .string ⟨#[]⟩, .slice none 0 0, .slice none 0 0]
    have h2 := Blk.new (V.alloc (.cells #[.slice none 0 0, .string ⟨#[]⟩, .string ⟨#[]⟩, .slice none 0 0, .slice none 0 0] 41)) 72 [.pointer (some ⟨g, 0, none⟩)]
    have h3 := Blk.new ((V.alloc (.cells #[.slice none 0 0, .string ⟨#[]⟩, .string ⟨#[]⟩, .slice none 0 0, .slice none 0 0] 41)).alloc (.cells #[.pointer (some ⟨g, 0, none⟩)] 72)) 82 [.pointer (some ⟨V.heap.size, 0, none⟩)]
    rw [e1] at h2
    rw [e2] at h3
    exact ⟨(((Below.refl _ _).alloc (Nat.le_refl _) _).alloc (by simp) _).alloc (by simp; omega) _, (h1.alloc _).alloc _, h2.alloc _, h3, World.ownsRow_nil _ _ _ _, rfl⟩)
  have Hlen := hide hlen
  have Hcell := hide hcell
  have Hents := hide hents
  have H64 := hide hlt64
  have hgs : g < V.heap.size := hd.blk.lt
  clear hlen hcell hents hlt64 hd ho hT hkk hAl hcl KP kp hrun hL
  go_enter Try.func32, Try.ntmps32
  have x3 := (unhide W0).bd.cell (i := 0) rfl
  have x5 := (unhide Hcell) _ (unhide W0).bel
  go_wp2_with fail
  clear x3 x5
  go_loopg [17] kk (fun gk iv wr => ∃ (j : Nat) (D : Dy.Dyn) (A : Option Addr) (n c : Nat), gk = kk - j ∧ j ≤ kk ∧ n ≤ j ∧ iv = .int .i64 j ∧ OutM V wr g D A n c ∧ Dy.texts t run L Dy.zero = Dy.texts t run (L.drop j) D)
  case atStart => exact ⟨0, Dy.zero, none, 0, 0, by omega, Nat.zero_le _, Nat.le_refl _, rfl, unhide W0, rfl⟩
  case round =>
  obtain ⟨j, D, A, n, c, hgk, hj, hnj, rfl, hO, hT⟩ := hrel
  have HO := hide hO
  have HT := hide hT
  clear hO hT W0
  by_cases hlt : j < kk
  case neg =>
    have ige : ¬ (j : Int) < (kk : Int) := by omega
    have Hend : Hid (Dy.texts t run L Dy.zero = some D) := hide (by rw [unhide HT, List.drop_of_length_le (by rw [← unhide Hlen]; omega)]; rfl)
    clear HT KT KP2 Hcell Hents H64
    go_wp2_with fail
    go_ret
    exact ⟨true, rfl, .inr ⟨rfl, D, A, n, c, unhide Hend, unhide HO⟩, (unhide HO).bel⟩
  have ilt : (j : Int) < (kk : Int) := by omega
  obtain ⟨⟨y1, x2⟩, hx⟩ : ∃ x, L[j]? = some x := ⟨_, List.getElem?_eq_getElem (by rw [← unhide Hlen]; exact hlt)⟩
  have hx2 : x2 < 18446744073709551616 := ((unhide H64) j _ hx).2
  have hT := unhide HT
  rw [List.drop_eq_getElem_cons (by rw [← unhide Hlen]; exact hlt), show L[j]'(by rw [← unhide Hlen]; exact hlt) = (y1, x2) from (List.getElem?_eq_some_iff.1 hx).2] at hT
  obtain ⟨b9, o9, hA9, q0, q1⟩ := (unhide Hents) wr j _ (unhide HO).bel hx
  subst hA9
  dsimp only at q0 q1
  obtain ⟨xi, hxi⟩ : ∃ x : Int, (y1 : Int) = x := ⟨_, rfl⟩
  rw [hxi] at q0
  have Hxi := hide hxi
  have HT2 := hide hT
  have HO1 : Hid (OutM V (wr.alloc (.cells #[.int .u64 xi, .int .u64 (x2 : Nat)] 114)) g D A n c) := hide ((unhide HO).belowSz ((Below.refl _ _).alloc (Nat.le_refl _) _))
  have HE1 : Hid (Blk (wr.alloc (.cells #[.int .u64 xi, .int .u64 (x2 : Nat)] 114)) wr.heap.size 114 [.int .u64 xi, .int .u64 (x2 : Nat)]) := hide (Blk.new wr 114 [.int .u64 xi, .int .u64 (x2 : Nat)])
  clear hxi hT HT hx HO
  by_cases h1 : xi = 1
  · subst h1
    have hy1 : y1 = 1 := by have := unhide Hxi; omega
    have HNo : Hid (Dy.text t x2 = none → Dy.texts t run L Dy.zero = none) := hide (fun h => by rw [unhide HT2, Dy.texts_no (.inl hy1) h])
    have HYes : Hid (∀ nm, Dy.text t x2 = some nm → Dy.texts t run L Dy.zero = Dy.texts t run (L.drop (j + 1)) { D with needed := D.needed ++ [nm] }) := hide (fun nm h => by rw [unhide HT2, Dy.texts_yes (.inl hy1) h, hy1]; simp)
    have K1 := hide ((unhide KT) x2 hx2 _ (unhide HO1).bel)
    clear HT2 Hxi hy1 Hcell Hents H64
    go_wp2_with fail
    refine (unhide K1).mono ?_
    rintro e w5 ⟨nm, tb, rfl, htx, hb5⟩
    have HO5 := hide ((unhide HO1).belowSz hb5)
    have Htx := hide htx
    clear htx hb5 K1 HO1 HE1 q0 q1
    cases tb
    · have Hr : Hid (Dy.texts t run L Dy.zero = none) := hide (by
        rcases unhide Htx with ⟨h0, -⟩ | ⟨-, h0⟩
        · cases h0
        · exact (unhide HNo) h0)
      clear Htx HNo HYes KT KP2
      go_wp2_with fail
      go_ret
      exact ⟨false, rfl, .inl ⟨rfl, unhide Hr⟩, (unhide HO5).bel⟩
    have Hr : Hid (Dy.texts t run L Dy.zero = Dy.texts t run (L.drop (j + 1)) { D with needed := D.needed ++ [nm] }) := hide (by
      rcases unhide Htx with ⟨-, h0⟩ | ⟨h0, -⟩
      · exact (unhide HYes) nm h0
      · cases h0)
    clear Htx HNo HYes
    have K2 := hide (putN_any V w5 g n c D A nm (unhide HO5) (by omega))
    clear HO5
    go_wp2_with fail
    refine (unhide K2).mono ?_
    rintro e w6 ⟨rfl, A', c', hO6⟩
    have HO6 := hide hO6
    clear hO6 K2
    go_wp2_with fail
    go_roundg (kk - (j + 1))
    case measure => omega
    case rel => exact ⟨j + 1, _, _, _, _, rfl, by omega, Nat.succ_le_succ hnj, by go_num, unhide HO6, unhide Hr⟩
  by_cases h14 : xi = 14
  · subst h14
    have hy1 : y1 = 14 := by have := unhide Hxi; omega
    have HNo : Hid (Dy.text t x2 = none → Dy.texts t run L Dy.zero = none) := hide (fun h => by rw [unhide HT2, Dy.texts_no (.inr (.inl hy1)) h])
    have HYes : Hid (∀ nm, Dy.text t x2 = some nm → Dy.texts t run L Dy.zero = Dy.texts t run (L.drop (j + 1)) { D with soname := nm }) := hide (fun nm h => by rw [unhide HT2, Dy.texts_yes (.inr (.inl hy1)) h, hy1]; simp)
    have K1 := hide ((unhide KT) x2 hx2 _ (unhide HO1).bel)
    clear HT2 Hxi hy1 Hcell Hents H64
    go_wp2_with fail
    refine (unhide K1).mono ?_
    rintro e w5 ⟨nm, tb, rfl, htx, hb5⟩
    have HO5 := hide ((unhide HO1).belowSz hb5)
    have Htx := hide htx
    clear htx hb5 K1 HO1 HE1 q0 q1
    cases tb
    · have Hr : Hid (Dy.texts t run L Dy.zero = none) := hide (by
        rcases unhide Htx with ⟨h0, -⟩ | ⟨-, h0⟩
        · cases h0
        · exact (unhide HNo) h0)
      clear Htx HNo HYes KT KP2
      go_wp2_with fail
      go_ret
      exact ⟨false, rfl, .inl ⟨rfl, unhide Hr⟩, (unhide HO5).bel⟩
    have Hr : Hid (Dy.texts t run L Dy.zero = Dy.texts t run (L.drop (j + 1)) { D with soname := nm }) := hide (by
      rcases unhide Htx with ⟨-, h0⟩ | ⟨h0, -⟩
      · exact (unhide HYes) nm h0
      · cases h0)
    clear Htx HNo HYes
    have K2 := hide (putS_any V w5 g n c D A nm (unhide HO5))
    clear HO5
    go_wp2_with fail
    refine (unhide K2).mono ?_
    rintro e w6 ⟨rfl, hO6⟩
    have HO6 := hide hO6
    clear hO6 K2
    go_wp2_with fail
    go_roundg (kk - (j + 1))
    case measure => omega
    case rel => exact ⟨j + 1, _, _, _, _, rfl, by omega, by omega, by go_num, unhide HO6, unhide Hr⟩
  by_cases h29 : xi = 29
  · subst h29
    have hy1 : y1 = 29 := by have := unhide Hxi; omega
    have HNo : Hid (Dy.text t x2 = none → Dy.texts t run L Dy.zero = none) := hide (fun h => by rw [unhide HT2, Dy.texts_no (.inr (.inr (.inr hy1))) h])
    have HYes : Hid (∀ nm, Dy.text t x2 = some nm → Dy.texts t run L Dy.zero = Dy.texts t run (L.drop (j + 1)) { D with run := nm }) := hide (fun nm h => by rw [unhide HT2, Dy.texts_yes (.inr (.inr (.inr hy1))) h, hy1]; simp)
    have K1 := hide ((unhide KT) x2 hx2 _ (unhide HO1).bel)
    clear HT2 Hxi hy1 Hcell Hents H64
    go_wp2_with fail
    refine (unhide K1).mono ?_
    rintro e w5 ⟨nm, tb, rfl, htx, hb5⟩
    have HO5 := hide ((unhide HO1).belowSz hb5)
    have Htx := hide htx
    clear htx hb5 K1 HO1 HE1 q0 q1
    cases tb
    · have Hr : Hid (Dy.texts t run L Dy.zero = none) := hide (by
        rcases unhide Htx with ⟨h0, -⟩ | ⟨-, h0⟩
        · cases h0
        · exact (unhide HNo) h0)
      clear Htx HNo HYes KT KP2
      go_wp2_with fail
      go_ret
      exact ⟨false, rfl, .inl ⟨rfl, unhide Hr⟩, (unhide HO5).bel⟩
    have Hr : Hid (Dy.texts t run L Dy.zero = Dy.texts t run (L.drop (j + 1)) { D with run := nm }) := hide (by
      rcases unhide Htx with ⟨-, h0⟩ | ⟨h0, -⟩
      · exact (unhide HYes) nm h0
      · cases h0)
    clear Htx HNo HYes
    have K2 := hide (putR_any V w5 g n c D A nm (unhide HO5))
    clear HO5
    go_wp2_with fail
    refine (unhide K2).mono ?_
    rintro e w6 ⟨rfl, hO6⟩
    have HO6 := hide hO6
    clear hO6 K2
    go_wp2_with fail
    go_roundg (kk - (j + 1))
    case measure => omega
    case rel => exact ⟨j + 1, _, _, _, _, rfl, by omega, by omega, by go_num, unhide HO6, unhide Hr⟩
  by_cases h15 : xi = 15
  · subst h15
    have hy1 : y1 = 15 := by have := unhide Hxi; omega
    have HNo : Hid (Dy.text t x2 = none → Dy.texts t run L Dy.zero = none) := hide (fun h => by rw [unhide HT2, Dy.texts_no (.inr (.inr (.inl hy1))) h])
    have HYes : Hid (∀ nm, Dy.text t x2 = some nm → Dy.texts t run L Dy.zero = Dy.texts t run (L.drop (j + 1)) (if run = false then { D with run := nm } else D)) := hide (fun nm h => by rw [unhide HT2, Dy.texts_yes (.inr (.inr (.inl hy1))) h, hy1]; simp)
    have K1 := hide ((unhide KT) x2 hx2 _ (unhide HO1).bel)
    clear HT2 Hxi hy1 Hcell Hents H64
    go_wp2_with fail
    refine (unhide K1).mono ?_
    rintro e w5 ⟨nm, tb, rfl, htx, hb5⟩
    have HO5 := hide ((unhide HO1).belowSz hb5)
    have Htx := hide htx
    clear htx hb5 K1 HO1 HE1 q0 q1
    cases tb
    · have Hr : Hid (Dy.texts t run L Dy.zero = none) := hide (by
        rcases unhide Htx with ⟨h0, -⟩ | ⟨-, h0⟩
        · cases h0
        · exact (unhide HNo) h0)
      clear Htx HNo HYes KT KP2
      go_wp2_with fail
      go_ret
      exact ⟨false, rfl, .inl ⟨rfl, unhide Hr⟩, (unhide HO5).bel⟩
    have Hr : Hid (Dy.texts t run L Dy.zero = Dy.texts t run (L.drop (j + 1)) (if run = false then { D with run := nm } else D)) := hide (by
      rcases unhide Htx with ⟨-, h0⟩ | ⟨h0, -⟩
      · exact (unhide HYes) nm h0
      · cases h0)
    clear Htx HNo HYes
    have K2 := hide ((unhide KP2) w5 n c D A nm (unhide HO5))
    clear HO5
    go_wp2_with fail
    refine (unhide K2).mono ?_
    rintro e w6 ⟨rfl, hO6⟩
    have HO6 := hide hO6
    clear hO6 K2
    go_wp2_with fail
    go_roundg (kk - (j + 1))
    case measure => omega
    case rel => exact ⟨j + 1, _, _, _, _, rfl, by omega, by omega, by go_num, unhide HO6, unhide Hr⟩
  have HSk : Hid (Dy.texts t run L Dy.zero = Dy.texts t run (L.drop (j + 1)) D) := hide (by rw [unhide HT2, Dy.texts_skip (by have := unhide Hxi; omega)])
  clear HT2 Hxi KT KP2 Hcell Hents H64
  go_wp2_with fail
  go_roundg (kk - (j + 1))
  case measure => omega
  case rel => exact ⟨j + 1, _, _, _, _, rfl, by omega, by omega, by go_num, unhide HO1, unhide HSk⟩
end Go.Proofs.Ytdminnhfgdoibaa
namespace Go.Proofs.Ytdminnhfgdoibaa
set_option linter.unusedVariables false
set_option linter.unusedSimpArgs false
open Go.RowKit

theorem reInfo : (Try.prog.info? 49).map (·.size) = some 4 := by kernel_rfl
theorem reOne (a b c d : Int) : (#[.int .u64 a, .int .u32 b, .int .i64 c, .int .i64 d] : Array Value).all (·.oneCell') = true := by simp [Value.oneCell']
set_option maxRecDepth 100000 in
set_option maxHeartbeats 2000000 in
theorem relOf_any (A : Option Addr) (c B gt : Nat) (b : List UInt8) (As : Option Addr) (ns cs : Nat) (w : World) (hB : B ≤ w.heap.size) (h : Rd w B 1 A 24 (bys b)) (hgt : gt < w.heap.size) (hs : w.cell? ⟨gt, 3, none⟩ = some (.slice As ns cs)) (hns : ns ≤ 4294967296) :
    Calls Try.prog 38 #[.slice A 24 c, .pointer (some ⟨gt, 0, none⟩)] w (reRowE (Dy.relOf ns b 0) w) := by
  have Hb0 : Hid (Below w.heap.size w (w.alloc (.cells #[.int .u64 0, .int .u32 0, .int .i64 0, .int .i64 0] 49))) := hide ((Below.refl _ _).alloc (Nat.le_refl _) _)
  have Hk0 : Hid (Blk (w.alloc (.cells #[.int .u64 0, .int .u32 0, .int .i64 0, .int .i64 0] 49)) w.heap.size 49 [.int .u64 0, .int .u32 0, .int .i64 0, .int .i64 0]) := hide (Blk.new w 49 [.int .u64 0, .int .u32 0, .int .i64 0, .int .i64 0])
  have KN := hide (fun (p s : Nat) (hs : s = 1 ∨ s = 2 ∨ s = 4 ∨ s = 8) (hin : p + s ≤ 24) w' (hb : Below w.heap.size w w') => number_any A 24 c B b p s w' (Nat.le_trans hB hb.size) (h.below (hb.mono hB)) (by unfold maxLen; omega) hs hin)
  have Hsc := hide (fun (w' : World) (hb : Below w.heap.size w w') => (World.cell?_of_block (a := ⟨gt, 3, none⟩) (hb.block gt hgt)).trans hs)
  have hx0 := Wd.num_lt b 0 8
  have hx8 := Wd.num_lt b 8 4
  have hx12 := Wd.num_lt b 12 4
  have hx16 := Wd.num_lt b 16 8
  have hrel : Dy.relOf ns b 0 = if ns < Wd.num b 12 4 then none else some ⟨Wd.num b 0 8, Wd.num b 8 4, Wd.num b 12 4, Wd.num b 16 8⟩ := by
    unfold Dy.relOf Dy.relAt
    simp only [Nat.zero_add]
  have k0 : ∀ W, Below w.heap.size w W → Calls Try.prog 36 #[.slice A 24 c, .int .u64 0, .int .i64 8] W (fun e w' => e = .returned (.int .u64 (Wd.num b 0 8 : Nat)) ∧ Below W.heap.size W w') := fun W h => (unhide KN) 0 8 (by omega) (by omega) W h
  have k8 : ∀ W, Below w.heap.size w W → Calls Try.prog 36 #[.slice A 24 c, .int .u64 8, .int .i64 4] W (fun e w' => e = .returned (.int .u64 (Wd.num b 8 4 : Nat)) ∧ Below W.heap.size W w') := fun W h => (unhide KN) 8 4 (by omega) (by omega) W h
  have k12 : ∀ W, Below w.heap.size w W → Calls Try.prog 36 #[.slice A 24 c, .int .u64 12, .int .i64 4] W (fun e w' => e = .returned (.int .u64 (Wd.num b 12 4 : Nat)) ∧ Below W.heap.size W w') := fun W h => (unhide KN) 12 4 (by omega) (by omega) W h
  have k16 : ∀ W, Below w.heap.size w W → Calls Try.prog 36 #[.slice A 24 c, .int .u64 16, .int .i64 8] W (fun e w' => e = .returned (.int .u64 (Wd.num b 16 8 : Nat)) ∧ Below W.heap.size W w') := fun W h => (unhide KN) 16 8 (by omega) (by omega) W h
  obtain ⟨n0, hn0⟩ : ∃ x, Wd.num b 0 8 = x := ⟨_, rfl⟩
  obtain ⟨n8, hn8⟩ : ∃ x, Wd.num b 8 4 = x := ⟨_, rfl⟩
  obtain ⟨n12, hn12⟩ : ∃ x, Wd.num b 12 4 = x := ⟨_, rfl⟩
  obtain ⟨n16, hn16⟩ : ∃ x, Wd.num b 16 8 = x := ⟨_, rfl⟩
  rw [hn0] at k0 hx0 hrel
  rw [hn8] at k8 hx8 hrel
  rw [hn12] at k12 hx12 hrel
  rw [hn16] at k16 hx16 hrel
  simp at hx0 hx8 hx12 hx16
  have K0 := hide k0
  have K8 := hide k8
  have K12 := hide (k12 _ (unhide Hb0))
  have K16 := hide k16
  obtain ⟨ad, had⟩ : ∃ x : Int, IntKind.i64.wrap (n16 : Int) = x := ⟨_, rfl⟩
  have wu : IntKind.u32.wrap (n8 : Int) = (n8 : Int) := by rw [IntKind.wrap_u32]; omega
  have wn : IntKind.u64.wrap (ns : Int) = (ns : Int) := by rw [IntKind.wrap_u64]; omega
  have wi : IntKind.i64.wrap (n12 : Int) = (n12 : Int) := by rw [IntKind.wrap_i64]; omega
  have HRes : Hid (∀ W, Below w.heap.size w W → reRowE (Dy.relOf ns b 0) w (.returned (.tuple #[.agg #[.int .u64 (n0 : Nat), .int .u32 (n8 : Nat), .int .i64 (n12 : Nat), .int .i64 ad], .bool (decide (n12 ≤ ns))])) W) := hide (by
    intro W hW
    refine ⟨hW, ?_⟩
    rw [hrel]
    by_cases h2 : ns < n12
    · rw [if_pos h2, decide_eq_false (by omega)]
      exact ⟨_, _, _, _, rfl⟩
    · rw [if_neg h2, decide_eq_true (by omega)]
      dsimp only
      unfold adI
      rw [had])
  clear KN h hs hn0 hn8 hn12 hn16 k0 k8 k12 k16 hrel
  go_enter Try.func38, Try.ntmps38
  go_wp2_with fail
  refine (unhide K12).mono ?_
  rintro e w1 ⟨rfl, hb1⟩
  have HB1 := hide ((unhide Hb0).trans (hb1.mono (unhide Hb0).size))
  have HK1 := hide ((unhide Hk0).belowSz hb1)
  clear hb1 K12 Hb0 Hk0
  go_wp2_with fail
  refine wp_region_held_drew (S := fun w' => w'.cell? ⟨gt, 3, none⟩ = some (.slice As ns cs)) (by kernel_rfl) ((unhide Hsc) _ (below_drew' (unhide HB1))) (fun HS0 => ?_)
  refine takeD (i := 0) (d := some 8) (v := ?_) rfl rfl (by kernel_rfl) (by kernel_rfl) (by kernel_rfl) (fun _ _ _ h => h) (Or.inl ⟨by rfl, ?y0⟩) HS0 ?_
  case y0 => (intro w' hSw; (try dsimp only at hSw); go_simp; (try with_reducible rfl))
  simp only [Act.put, List.setIfInBounds_toArray, List.set_cons_zero, List.set_cons_succ]
  refine takeD (i := 2) (d := some 10) (v := ?_) rfl rfl (by kernel_rfl) (by kernel_rfl) (by kernel_rfl) (fun _ _ _ h => h) (Or.inl ⟨by rfl, ?y2⟩) HS0 ?_
  case y2 => (intro w' hSw; (try dsimp only at hSw); go_simp; (try with_reducible rfl))
  simp only [Act.put, List.setIfInBounds_toArray, List.set_cons_zero, List.set_cons_succ]
  refine takeD (i := 5) (d := some 13) (v := ?_) rfl rfl (by kernel_rfl) (by kernel_rfl) (by kernel_rfl) (fun _ _ _ h => h) (Or.inl ⟨by rfl, ?y5⟩) HS0 ?_
  case y5 => (intro w' hSw; (try dsimp only at hSw); go_simp; (try with_reducible rfl))
  simp only [Act.put, List.setIfInBounds_toArray, List.set_cons_zero, List.set_cons_succ]
  refine takeD (i := 6) (d := some 14) (v := ?_) rfl rfl (by kernel_rfl) (by kernel_rfl) (by kernel_rfl) (fun _ _ _ h => h) (Or.inl ⟨by rfl, ?y6⟩) HS0 ?_
  case y6 => (intro w' hSw; (try dsimp only at hSw); go_simp; (try with_reducible rfl))
  simp only [Act.put, List.setIfInBounds_toArray, List.set_cons_zero, List.set_cons_succ]
  refine takeD (i := 7) (d := some 15) (v := ?_) rfl rfl (by kernel_rfl) (by kernel_rfl) (by kernel_rfl) (fun _ _ _ h => h) (Or.inl ⟨by rfl, ?y7⟩) HS0 ?_
  case y7 => (intro w' hSw; (try dsimp only at hSw); go_simp; (try with_reducible rfl))
  simp only [Act.put, List.setIfInBounds_toArray, List.set_cons_zero, List.set_cons_succ]
  refine takeD (i := 11) (d := some 19) (v := ?_) rfl rfl (by kernel_rfl) (by kernel_rfl) (by kernel_rfl) (fun _ _ _ h => h) (Or.inl ⟨by rfl, ?y11⟩) HS0 ?_
  case y11 => (intro w' hSw; (try dsimp only at hSw); go_simp; (try with_reducible rfl))
  simp only [Act.put, List.setIfInBounds_toArray, List.set_cons_zero, List.set_cons_succ]
  refine takeD (i := 12) (d := some 20) (v := ?_) rfl rfl (by kernel_rfl) (by kernel_rfl) (by kernel_rfl) (fun _ _ _ h => h) (Or.inl ⟨by rfl, ?y12⟩) HS0 ?_
  case y12 => (intro w' hSw; (try dsimp only at hSw); go_simp; (try with_reducible rfl))
  simp only [Act.put, List.setIfInBounds_toArray, List.set_cons_zero, List.set_cons_succ]
  refine takeD (i := 13) (d := some 21) (v := ?_) rfl rfl (by kernel_rfl) (by kernel_rfl) (by kernel_rfl) (fun _ _ _ h => h) (Or.inl ⟨by rfl, ?y13⟩) HS0 ?_
  case y13 => (intro w' hSw; (try dsimp only at hSw); go_simp; (try with_reducible rfl))
  simp only [Act.put, List.setIfInBounds_toArray, List.set_cons_zero, List.set_cons_succ]
  refine takeD (i := 14) (d := some 22) (v := ?_) rfl rfl (by kernel_rfl) (by kernel_rfl) (by kernel_rfl) (fun _ _ _ h => h) (Or.inl ⟨by rfl, ?y14⟩) HS0 ?_
  case y14 => (intro w' hSw; (try dsimp only at hSw); go_simp; (try with_reducible rfl))
  simp only [Act.put, List.setIfInBounds_toArray, List.set_cons_zero, List.set_cons_succ]
  refine takeD (i := 15) (d := some 23) (v := ?_) rfl rfl (by kernel_rfl) (by kernel_rfl) (by kernel_rfl) (fun _ _ _ h => h) (Or.inl ⟨by rfl, ?y15⟩) HS0 ?_
  case y15 => (intro w' hSw; (try dsimp only at hSw); go_simp; (try with_reducible rfl))
  simp only [Act.put, List.setIfInBounds_toArray, List.set_cons_zero, List.set_cons_succ]
  refine takeD (i := 16) (d := some 24) (v := ?_) rfl rfl (by kernel_rfl) (by kernel_rfl) (by kernel_rfl) (fun _ _ _ h => h) (Or.inl ⟨by rfl, ?y16⟩) HS0 ?_
  case y16 => (intro w' hSw; (try dsimp only at hSw); go_simp; (try with_reducible rfl))
  simp only [Act.put, List.setIfInBounds_toArray, List.set_cons_zero, List.set_cons_succ]
  refine wpAnyH_ready (rs := [1]) (by kernel_rfl) (by simp) ?_
  refine AllReadyH.cons (i := 1) rfl (fun K hK => ?_) AllReadyH.nil
  rw [if_pos (by rfl)]
  go_simp
  go_at_call 36
  with_reducible refine ((unhide K0) _ (below_drew' (unhide HB1))).mono ?_
  rintro e w2 ⟨rfl, hb2⟩
  have HB2 := hide ((below_drew' (unhide HB1)).trans (hb2.mono (below_drew' (unhide HB1)).size))
  have HK2 := hide ((unhide HK1).drew.belowSz hb2)
  clear hb2
  refine hK.out _ _ ((unhide Hsc) _ (unhide HB2)) (fun hHeld => ?_)
  clear hK K HS0
  have HS0 := hHeld
  clear hHeld
  (try simp only [Act.put, List.setIfInBounds_toArray, List.set_cons_zero, List.set_cons_succ])
  refine wpAnyH_ready (rs := [3]) (by kernel_rfl) (by simp) ?_
  refine AllReadyH.cons (i := 3) rfl (fun K hK => ?_) AllReadyH.nil
  rw [if_pos (by rfl)]
  go_simp
  go_at_call 36
  with_reducible refine ((unhide K8) _ (unhide HB2)).mono ?_
  rintro e w3 ⟨rfl, hb3⟩
  have HB3 := hide ((unhide HB2).trans (hb3.mono (unhide HB2).size))
  have HK3 := hide ((unhide HK2).belowSz hb3)
  clear hb3
  refine hK.out _ _ ((unhide Hsc) _ (unhide HB3)) (fun hHeld => ?_)
  clear hK K HS0
  have HS0 := hHeld
  clear hHeld
  (try simp only [Act.put, List.setIfInBounds_toArray, List.set_cons_zero, List.set_cons_succ])
  refine takeD (i := 4) (d := some 12) (v := ?_) rfl rfl (by kernel_rfl) (by kernel_rfl) (by kernel_rfl) (fun _ _ _ h => h) (Or.inl ⟨by rfl, ?y4⟩) HS0 ?_
  case y4 => (intro w' hSw; (try dsimp only at hSw); go_simp; (try with_reducible rfl))
  simp only [Act.put, List.setIfInBounds_toArray, List.set_cons_zero, List.set_cons_succ]
  refine wpAnyH_ready (rs := [8]) (by kernel_rfl) (by simp) ?_
  refine AllReadyH.cons (i := 8) rfl (fun K hK => ?_) AllReadyH.nil
  rw [if_pos (by rfl)]
  go_simp
  go_at_call 36
  with_reducible refine ((unhide K16) _ (unhide HB3)).mono ?_
  rintro e w4 ⟨rfl, hb4⟩
  have HB4 := hide ((unhide HB3).trans (hb4.mono (unhide HB3).size))
  have HK4 := hide ((unhide HK3).belowSz hb4)
  clear hb4
  refine hK.out _ _ ((unhide Hsc) _ (unhide HB4)) (fun hHeld => ?_)
  clear hK K HS0
  have HS0 := hHeld
  clear hHeld
  (try simp only [Act.put, List.setIfInBounds_toArray, List.set_cons_zero, List.set_cons_succ])
  refine takeD (i := 9) (d := some 17) (v := ?_) rfl rfl (by kernel_rfl) (by kernel_rfl) (by kernel_rfl) (fun _ _ _ h => h) (Or.inl ⟨by rfl, ?y9⟩) HS0 ?_
  case y9 => (intro w' hSw; (try dsimp only at hSw); go_simp; (try with_reducible rfl))
  simp only [Act.put, List.setIfInBounds_toArray, List.set_cons_zero, List.set_cons_succ]
  refine takeD (i := 10) (d := some 18) (v := ?_) rfl rfl (by kernel_rfl) (by kernel_rfl) (by kernel_rfl) (fun _ _ _ h => h) (Or.inl ⟨by rfl, ?y10⟩) HS0 ?_
  case y10 => (intro w' hSw; (try dsimp only at hSw); go_simp; (try with_reducible rfl))
  simp only [Act.put, List.setIfInBounds_toArray, List.set_cons_zero, List.set_cons_succ]
  refine wpAnyH_ready (rs := [17]) (by kernel_rfl) (by simp) ?_
  refine AllReadyH.cons (i := 17) rfl (fun K hK => ?_) AllReadyH.nil
  rw [if_pos (by rfl)]
  refine wp_store_row 49 (.tmp 3) (.tmp 18) rfl w.heap.size #[.int .u64 (n0 : Nat), .int .u32 (n8 : Nat), .int .i64 (n12 : Nat), .int .i64 ad] rfl rfl 49 _ (unhide HK4) reInfo rfl (reOne _ _ _ _) ?_
  refine hK.out _ _ ((unhide Hsc) _ (below_setRow (unhide HB4) (Nat.le_refl _) _)) (fun hHeld => ?_)
  clear hK K HS0
  have HS0 := hHeld
  clear hHeld
  (try simp only [Act.put, List.setIfInBounds_toArray, List.set_cons_zero, List.set_cons_succ])
  refine takeD (i := 18) (d := some 4) (v := ?_) rfl rfl (by kernel_rfl) (by kernel_rfl) (by kernel_rfl) (fun _ _ _ h => h) (Or.inl ⟨by rfl, ?y18⟩) HS0 ?_
  case y18 => (intro w' hSw; (try dsimp only at hSw); go_simp; (try with_reducible rfl))
  simp only [Act.put, List.setIfInBounds_toArray, List.set_cons_zero, List.set_cons_succ]
  refine wpAnyH_done (by kernel_rfl) ?_ _
  go_wp2_with fail
  refine bodyPost_ret (results_cell_tmp (P := Try.prog) rfl _ _ w.heap.size 49 #[.int .u64 (n0 : Nat), .int .u32 (n8 : Nat), .int .i64 (n12 : Nat), .int .i64 ad] (0, 0) _ rfl (setRow_heap _ _ _ _ _ _ (unhide HK4)) Try.underlying49 rfl reInfo) rfl ?_
  exact (unhide HRes) _ (below_setRow (unhide HB4) (Nat.le_refl _) _)
end Go.Proofs.Ytdminnhfgdoibaa
namespace Go.Proofs.Ytdminnhfgdoibaa
set_option linter.unusedVariables false
set_option linter.unusedSimpArgs false
open Go.RowKit

theorem rowsOf_congr {α : Type} {f g : Nat → Option α} : ∀ (n k : Nat), (∀ j, k ≤ j → j < k + n → f j = g j) → rowsOf f n k = rowsOf g n k
  | 0, _, _ => rfl
  | n + 1, k, h => by
    rw [rowsOf, rowsOf, h k (Nat.le_refl _) (by omega), rowsOf_congr n (k + 1) (fun j h1 h2 => h j (by omega) (by omega))]
theorem symRows_any (A : Option Addr) (n c B q gt m : Nat) (b : List UInt8) (At : Option Addr) (mt ct : Nat) (t : List UInt8) (w : World) (hB : B ≤ w.heap.size) (hnm : n = 24 * m) (h : Rd w B 1 A n (bys (Dy.cut b q n))) (hn : n ≤ 4294967296) (hc : n ≤ c)
    (hgt : gt < w.heap.size) (ht : w.cell? ⟨gt, 0, none⟩ = some (.slice At mt ct)) (hT : Rd w B 1 At mt (bys t)) (hmt : mt ≤ 4294967296) (hmc : mt ≤ ct) :
    Calls Try.prog 33 #[.slice A n c, .int .i64 24, .func (.func 34) #[] #[.pointer (some ⟨gt, 0, none⟩)]] w (syRowsE (Dy.symsFrom t b m q) w) := by
  have K := sy_rows A n c B (Dy.cut b q n) gt (fun k => if k < m then Dy.symAt t b (q + k * 24) else none) w hB h hn hc (by
    intro k A2 c2 w' hk hb hr hc2
    have K2 := symOf_any A2 c2 B gt (Dy.cut (Dy.cut b q n) (k * 24) 24) At mt ct t w' (Nat.le_trans hB hb.size) hr (Nat.lt_of_lt_of_le hgt hb.size) ((World.cell?_of_block (a := ⟨gt, 0, none⟩) (hb.block gt hgt)).trans ht) (hT.below (hb.mono hB)) hmt hmc
    rw [Dy.symAt_cut (q := k * 24) (m := 24) (p := 0) (by omega), Dy.symAt_cut (q := q) (m := n) (p := k * 24 + 0) (by omega), Nat.add_zero] at K2
    show Calls _ _ _ _ (syRowE (if k < m then Dy.symAt t b (q + k * 24) else none) w')
    rw [if_pos (by omega)]
    exact K2)
  rw [show n / 24 = m from by omega] at K
  have e1 : rowsOf (fun k => if k < m then Dy.symAt t b (q + k * 24) else none) m 0 = Dy.symsFrom t b m q := by
    have := Dy.syms_rows (t := t) (b := b) (q := q) m 0
    rw [Nat.zero_mul, Nat.add_zero] at this
    rw [← this]
    exact rowsOf_congr m 0 (fun k h1 h2 => if_pos (by omega))
  rw [e1] at K
  exact K
theorem relRows_any (A : Option Addr) (n c B gt : Nat) (b : List UInt8) (As : Option Addr) (ns cs : Nat) (w : World) (hB : B ≤ w.heap.size) (h : Rd w B 1 A n (bys b)) (hn : n ≤ 4294967296) (hc : n ≤ c)
    (hgt : gt < w.heap.size) (hs : w.cell? ⟨gt, 3, none⟩ = some (.slice As ns cs)) (hns : ns ≤ 4294967296) :
    Calls Try.prog 37 #[.slice A n c, .int .i64 24, .func (.func 38) #[] #[.pointer (some ⟨gt, 0, none⟩)]] w (reRowsE (Dy.relsFrom ns b (n / 24) 0) w) := by
  have K := re_rows A n c B b gt (fun k => Dy.relOf ns b (k * 24)) w hB h hn hc (by
    intro k A2 c2 w' hk hb hr hc2
    have K2 := relOf_any A2 c2 B gt (Dy.cut b (k * 24) 24) As ns cs w' (Nat.le_trans hB hb.size) hr (Nat.lt_of_lt_of_le hgt hb.size) ((World.cell?_of_block (a := ⟨gt, 3, none⟩) (hb.block gt hgt)).trans hs) hns
    rw [Dy.relOf_cut] at K2
    exact K2)
  rw [Dy.rels_rows, Nat.zero_mul] at K
  exact K
theorem syRowsE_form {o : Option (List Dy.Sym)} {w w' : World} {e : Ending} (h : syRowsE o w e w') : ∃ A n c q, e = .returned (.tuple #[.slice A n c, .bool q]) ∧ ((q = false ∧ o = none) ∨ (q = true ∧ ∃ l, o = some l ∧ n = l.length ∧ w'.ownsRow w.heap.size 46 5 (.slice A n c) n (symC l))) ∧ Below w.heap.size w w' := by
  rcases h with ⟨⟨h1, rfl⟩ | ⟨l, A, c, h1, rfl, h2⟩, hb⟩
  · exact ⟨none, 0, 0, false, rfl, .inl ⟨rfl, h1⟩, hb⟩
  · exact ⟨A, _, c, true, rfl, .inr ⟨rfl, l, h1, rfl, h2⟩, hb⟩
theorem reRowsE_form {o : Option (List Dy.Rel)} {w w' : World} {e : Ending} (h : reRowsE o w e w') : ∃ A n c q, e = .returned (.tuple #[.slice A n c, .bool q]) ∧ ((q = false ∧ o = none) ∨ (q = true ∧ ∃ l, o = some l ∧ n = l.length ∧ w'.ownsRow w.heap.size 49 4 (.slice A n c) n (relC l))) ∧ Below w.heap.size w w' := by
  rcases h with ⟨⟨h1, rfl⟩ | ⟨l, A, c, h1, rfl, h2⟩, hb⟩
  · exact ⟨none, 0, 0, false, rfl, .inl ⟨rfl, h1⟩, hb⟩
  · exact ⟨A, _, c, true, rfl, .inr ⟨rfl, l, h1, rfl, h2⟩, hb⟩
/-- What is told, in memory. -/
structure DynM (w : World) (B : Nat) (D : Dy.Dyn) (A1 : Option Addr) (c1 : Nat) (A2 : Option Addr) (c2 : Nat) (A3 : Option Addr) (c3 : Nat) : Prop where
  needed : w.ownsRow B 9 1 (.slice A1 D.needed.length c1) D.needed.length (D.needed.map Value.string)
  syms : w.ownsRow B 46 5 (.slice A2 D.syms.length c2) D.syms.length (symC D.syms)
  relas : w.ownsRow B 49 4 (.slice A3 D.relas.length c3) D.relas.length (relC D.relas)
theorem DynM.belowSz {w w' : World} {B : Nat} {D : Dy.Dyn} {A1 A2 A3 : Option Addr} {c1 c2 c3 : Nat} (h : DynM w B D A1 c1 A2 c2 A3 c3) (hb : Below w.heap.size w w') : DynM w' B D A1 c1 A2 c2 A3 c3 := ⟨own_below h.needed hb, own_below h.syms hb, own_below h.relas hb⟩
/-- What Parse answers. -/
def ParseE (p : Dy.Dyn × Int) (w : World) (e : Ending) (w' : World) : Prop := Below w.heap.size w w' ∧ ∃ A1 c1 A2 c2 A3 c3, e = .returned (.tuple #[.agg #[.slice A1 p.1.needed.length c1, .string p.1.soname, .string p.1.run, .slice A2 p.1.syms.length c2, .slice A3 p.1.relas.length c3], .int .i64 p.2]) ∧ DynM w' w.heap.size p.1 A1 c1 A2 c2 A3 c3
theorem parse_nil {w w' : World} {p : Dy.Dyn × Int} {x : Int} (hp : p = (Dy.zero, x)) (hb : Below w.heap.size w w') : ParseE p w (.returned (.tuple #[.agg #[.slice none 0 0, .string ⟨#[]⟩, .string ⟨#[]⟩, .slice none 0 0, .slice none 0 0], .int .i64 x])) w' := by
  subst hp
  exact ⟨hb, none, 0, none, 0, none, 0, rfl, World.ownsRow_nil _ _ _ _, World.ownsRow_nil _ _ _ _, World.ownsRow_nil _ _ _ _⟩
namespace Dy
/-- What Parse says of an object's entries. -/
def pBody (b : List UInt8) (run : Bool) (L : List (Nat × Nat)) (T : Option (Nat × Nat)) (N : Int × Names) (R : Int × List UInt8) : Dyn × Int :=
    match T with
    | none => (zero, 25)
    | some t =>
      if N.1 ≠ 0 then (zero, N.1)
      else if R.1 ≠ 0 then (zero, R.1)
      else match texts (cut b t.1 t.2) run L zero with
        | none => (zero, 25)
        | some d =>
          match symsFrom (cut b t.1 t.2) b (N.2.chain - 1) (N.2.syms + 24) with
          | none => (zero, 25)
          | some ss =>
            match relsFrom ss.length R.2 (R.2.length / 24) 0 with
            | none => (zero, 25)
            | some rs => ({ d with syms := ss, relas := rs }, 0)
theorem parse_no {b : List UInt8} {segs : List El.Sg} {x : Int} (h : open_ b segs = (x, none)) : parse b segs = (zero, x) := by
  unfold parse
  rw [h]
theorem parse_some {b : List UInt8} {segs : List El.Sg} {L : List (Nat × Nat)} (h : open_ b segs = (0, some L)) : parse b segs = pBody b (val L 29).isSome L (table b.length (El.loads segs) L 5 10) (names b (El.loads segs) L) (relaB b (El.loads segs) L) := by
  unfold parse pBody
  rw [h]
  rfl
section
variable {b : List UInt8} {run : Bool} {L : List (Nat × Nat)} {T : Option (Nat × Nat)} {t : Nat × Nat} {N : Int × Names} {R : Int × List UInt8} {d : Dyn} {ss : List Sym} {rs : List Rel}
theorem pBody_1 : pBody b run L none N R = (zero, 25) := rfl
theorem pBody_2 (h : N.1 ≠ 0) : pBody b run L (some t) N R = (zero, N.1) := by unfold pBody; dsimp only; rw [if_pos h]
theorem pBody_3 (h : N.1 = 0) (h2 : R.1 ≠ 0) : pBody b run L (some t) N R = (zero, R.1) := by unfold pBody; dsimp only; rw [if_neg (by simpa using h), if_pos h2]
theorem pBody_4 (h : N.1 = 0) (h2 : R.1 = 0) (h3 : texts (cut b t.1 t.2) run L zero = none) : pBody b run L (some t) N R = (zero, 25) := by unfold pBody; dsimp only; rw [if_neg (by simpa using h), if_neg (by simpa using h2), h3]
theorem pBody_5 (h : N.1 = 0) (h2 : R.1 = 0) (h3 : texts (cut b t.1 t.2) run L zero = some d) (h4 : symsFrom (cut b t.1 t.2) b (N.2.chain - 1) (N.2.syms + 24) = none) : pBody b run L (some t) N R = (zero, 25) := by unfold pBody; dsimp only; rw [if_neg (by simpa using h), if_neg (by simpa using h2), h3]; dsimp only; rw [h4]
theorem pBody_6 (h : N.1 = 0) (h2 : R.1 = 0) (h3 : texts (cut b t.1 t.2) run L zero = some d) (h4 : symsFrom (cut b t.1 t.2) b (N.2.chain - 1) (N.2.syms + 24) = some ss) (h5 : relsFrom ss.length R.2 (R.2.length / 24) 0 = none) : pBody b run L (some t) N R = (zero, 25) := by unfold pBody; dsimp only; rw [if_neg (by simpa using h), if_neg (by simpa using h2), h3]; dsimp only; rw [h4]; dsimp only; rw [h5]
theorem pBody_7 (h : N.1 = 0) (h2 : R.1 = 0) (h3 : texts (cut b t.1 t.2) run L zero = some d) (h4 : symsFrom (cut b t.1 t.2) b (N.2.chain - 1) (N.2.syms + 24) = some ss) (h5 : relsFrom ss.length R.2 (R.2.length / 24) 0 = some rs) : pBody b run L (some t) N R = ({ d with syms := ss, relas := rs }, 0) := by unfold pBody; dsimp only; rw [if_neg (by simpa using h), if_neg (by simpa using h2), h3]; dsimp only; rw [h4]; dsimp only; rw [h5]
end
end Dy
theorem own_len {w : World} {base n c size : Nat} {A : Option Addr} {e : TypeId} {xs : List Value} (h : w.ownsRow base e size (.slice A n c) n xs) : n ≤ c := by
  rcases h.2 with ⟨_, hn⟩ | ⟨q, cap, cur, hv, _, _, h1, _⟩
  · omega
  · injection hv with _ _ hc
    omega
theorem own_setNQ {w : World} {base n c size : Nat} {A : Option Addr} {e : TypeId} {xs : List Value} (h : w.ownsRow base e size (.slice A n c) n xs) {p : Addr} (hp : ∀ k, (Value.slice A n c).ownBlock = some k → k ≠ p.block) (u : Value) : (w.setCell p u).ownsRow base e size (.slice A n c) n xs := by
  obtain ⟨hl, hn | ⟨g', cap, cur, hv, hb, hg, h1, h2, h3, h4⟩⟩ := h
  · exact ⟨hl, .inl hn⟩
  · exact ⟨hl, .inr ⟨g', cap, cur, hv, hb, (heap_setCell_other _ _ _ _ (hp g' (by rw [hv]; rfl))).trans hg, h1, h2, h3, h4⟩⟩
theorem own_setRowB {w : World} {base n c size k : Nat} {A : Option Addr} {e : TypeId} {xs : List Value} (h : w.ownsRow base e size (.slice A n c) n xs) (hk : k < base) (cs : Array Value) : (w.setRow k cs).ownsRow base e size (.slice A n c) n xs := by
  obtain ⟨hl, hn | ⟨g', cap, cur, hv, hb, hg, h1, h2, h3, h4⟩⟩ := h
  · exact ⟨hl, .inl hn⟩
  · exact ⟨hl, .inr ⟨g', cap, cur, hv, hb, (setRow_other _ _ _ _ (by omega)).trans hg, h1, h2, h3, h4⟩⟩
namespace Dy
theorem ents_len {b : List UInt8} : ∀ {k p : Nat} {l : List (Nat × Nat)}, ents b k p = some l → l.length ≤ k
  | 0, _, _, h => by cases h
  | k + 1, p, l, h => by
    unfold ents at h
    split at h
    · injection h with h
      subst h
      exact Nat.zero_le _
    · cases hr : ents b k (p + 16) with
      | none => rw [hr] at h; cases h
      | some r =>
        rw [hr] at h
        injection h with h
        subst h
        have := ents_len hr
        simpa using this
theorem open_len {b : List UInt8} {segs : List El.Sg} {L : List (Nat × Nat)} (h : open_ b segs = (0, some L)) : L.length ≤ b.length := by
  cases hf : segs.find? (fun s => s.kind == 2) with
  | none => rw [open_none hf] at h; injection h with _ h; cases h
  | some s =>
    rw [open_some hf] at h
    split at h
    · injection h with _ h; cases h
    · rename_i hs
      have hs2 : ¬ b.length < s.off + s.fsz := fun h => hs (.inr h)
      cases he : ents b (s.fsz / 16) s.off with
      | none => rw [he] at h; injection h with _ h; cases h
      | some L2 =>
        rw [he] at h
        have h2 := ents_len he
        have : L2 = L := by
          dsimp only at h
          split at h
          · injection h with _ h; injection h
          · injection h with _ h; cases h
        subst this
        omega
theorem table_le {n : Nat} {l : List El.Sg} {L : List (Nat × Nat)} {a s : Nat} {t : Nat × Nat} (h : table n l L a s = some t) : t.2 ≤ n := by
  unfold table at h
  split at h
  · injection h with h; subst h; exact Nat.zero_le _
  · rename_i v hv
    cases hl : laid n l v ((val L s).getD 0) with
    | none => rw [hl] at h; cases h
    | some o =>
      rw [hl] at h
      injection h with h
      subst h
      have := (laid_in hl).1
      dsimp only
      omega
theorem relaB_len {b : List UInt8} {l : List El.Sg} {L : List (Nat × Nat)} : (relaB b l L).2.length ≤ 1536 := by
  unfold relaB
  split
  · exact Nat.zero_le _
  · split
    · exact Nat.zero_le _
    · rename_i h1 h2
      cases ha : table b.length l L 7 8 with
      | none => exact Nat.zero_le _
      | some x =>
        cases hb : table b.length l L 23 2 with
        | none => exact Nat.zero_le _
        | some y =>
          dsimp only
          have e1 := table_len (p := x.1) (k := x.2) ha
          have e2 := table_len (p := y.1) (k := y.2) hb
          rw [List.length_append]
          unfold cut
          rw [List.length_take, List.length_take]
          omega
theorem symsFrom_len {t b : List UInt8} : ∀ {n p : Nat} {l : List Sym}, symsFrom t b n p = some l → l.length = n
  | 0, _, _, h => by unfold symsFrom at h; injection h with h; subst h; rfl
  | n + 1, p, l, h => by
    unfold symsFrom at h
    cases hs : symAt t b p with
    | none => rw [hs] at h; cases h
    | some s =>
      rw [hs] at h
      cases hr : symsFrom t b n (p + 24) with
      | none => rw [hr] at h; cases h
      | some r =>
        rw [hr] at h
        injection h with h
        subst h
        have := symsFrom_len hr
        simpa using this
end Dy
theorem parse_good {w w' : World} {p : Dy.Dyn × Int} {D : Dy.Dyn} {ss : List Dy.Sym} {rs : List Dy.Rel} {A7 A9 A11 : Option Addr} {n7 c7 n9 c9 n11 c11 : Nat} (hp : p = ({ D with syms := ss, relas := rs }, 0)) (hb : Below w.heap.size w w') (h7 : D.needed.length = n7) (h9 : n9 = ss.length) (h11 : n11 = rs.length)
    (o7 : w'.ownsRow w.heap.size 9 1 (.slice A7 n7 c7) n7 (D.needed.map Value.string)) (o9 : w'.ownsRow w.heap.size 46 5 (.slice A9 n9 c9) n9 (symC ss)) (o11 : w'.ownsRow w.heap.size 49 4 (.slice A11 n11 c11) n11 (relC rs)) :
    ParseE p w (.returned (.tuple #[.agg #[.slice A7 n7 c7, .string D.soname, .string D.run, .slice A9 n9 c9, .slice A11 n11 c11], .int .i64 0])) w' := by
  subst hp h7 h9 h11
  exact ⟨hb, A7, c7, A9, c9, A11, c11, rfl, o7, o9, o11⟩
theorem dyInfo : (Try.prog.info? 41).map (·.size) = some 5 := by kernel_rfl
theorem dyOne (A1 A2 A3 : Option Addr) (n1 c1 n2 c2 n3 c3 : Nat) (s1 s2 : ByteArray) : (#[.slice A1 n1 c1, .string s1, .string s2, .slice A2 n2 c2, .slice A3 n3 c3] : Array Value).all (·.oneCell') = true := by simp [Value.oneCell']
end Go.Proofs.Ytdminnhfgdoibaa
namespace Go.Proofs.Ytdminnhfgdoibaa
set_option linter.unusedVariables false
set_option linter.unusedSimpArgs false
open Go.RowKit

set_option maxRecDepth 100000 in
set_option maxHeartbeats 8000000 in
theorem dparse_any (A : Option Addr) (n c B : Nat) (b : List UInt8) (ty en ph : Int) (As : Option Addr) (ns cs : Nat) (segs : List El.Sg) (w : World) (hB : B ≤ w.heap.size) (hb : Rd w B 1 A n (bys b)) (hs : Rd w B 6 As ns (segCells segs)) (hn : n ≤ 4294967296) (hns : ns ≤ 4294967296) (hc : n ≤ c) (hfit : ∀ s ∈ segs, SgFit s) :
    Calls Try.prog 17 #[.slice A n c, .agg #[.int .u16 ty, .int .u64 en, .int .u64 ph, .slice As ns cs]] w (ParseE (Dy.parse b segs) w) := by
  have hbl : b.length = n := by have := hb.1; simp [bys] at this; omega
  have e1 : (w.alloc (.cells #[.int .u16 ty, .int .u64 en, .int .u64 ph, .slice As ns cs] 27)).heap.size = w.heap.size + 1 := by simp
  have e2 : ((w.alloc (.cells #[.int .u16 ty, .int .u64 en, .int .u64 ph, .slice As ns cs] 27)).alloc (.cells #[.slice none 0 0, .string ⟨#[]⟩, .string ⟨#[]⟩, .slice none 0 0, .slice none 0 0] 41)).heap.size = w.heap.size + 2 := by simp
  have hB0 : Below w.heap.size w ((w.alloc (.cells #[.int .u16 ty, .int .u64 en, .int .u64 ph, .slice As ns cs] 27)).alloc (.cells #[.slice none 0 0, .string ⟨#[]⟩, .string ⟨#[]⟩, .slice none 0 0, .slice none 0 0] 41)) := ((Below.refl _ _).alloc (Nat.le_refl _) _).alloc (by rw [e1]; omega) _
  have hK0 := Blk.new (w.alloc (.cells #[.int .u16 ty, .int .u64 en, .int .u64 ph, .slice As ns cs] 27)) 41 [.slice none 0 0, .string ⟨#[]⟩, .string ⟨#[]⟩, .slice none 0 0, .slice none 0 0]
  rw [e1] at hK0
  have hH0 := (Blk.new w 27 [.int .u16 ty, .int .u64 en, .int .u64 ph, .slice As ns cs]).alloc (.cells #[.slice none 0 0, .string ⟨#[]⟩, .string ⟨#[]⟩, .slice none 0 0, .slice none 0 0] 41)
  have z0 := hH0.cell (i := 0) rfl
  have z1 := hH0.cell (i := 1) rfl
  have z2 := hH0.cell (i := 2) rfl
  have z3 := hH0.cell (i := 3) rfl
  have KO := hide (dopen_any A n c w.heap.size b ty en ph As ns cs segs ((w.alloc (.cells #[.int .u16 ty, .int .u64 en, .int .u64 ph, .slice As ns cs] 27)).alloc (.cells #[.slice none 0 0, .string ⟨#[]⟩, .string ⟨#[]⟩, .slice none 0 0, .slice none 0 0] 41)) (by rw [e2]; omega) ((hb.more hB).below hB0) ((hs.more hB).below hB0) hn hns hc hfit)
  have HB0 := hide hB0
  have HK0 := hide hK0
  obtain ⟨Res, hRes⟩ : ∃ R, Dy.parse b segs = R := ⟨_, rfl⟩
  rw [hRes]
  have HRes := hide hRes
  have Hbl := hide hbl
  clear hb hs hfit hB0 hK0 hH0 e1 e2 hbl hRes
  go_enter Try.func17, Try.ntmps17
  go_wp2_with fail
  refine (unhide KO).mono ?_
  rintro e w1 ⟨hb1, ⟨q, ho, rfl, hq⟩ | ⟨g, Al, k, cl, L, gm, ho, rfl, hds, hok⟩⟩
  · obtain ⟨⟨x, ox⟩, hx⟩ : ∃ y, Dy.open_ b segs = y := ⟨_, rfl⟩
    rw [hx] at ho hq ⊢
    dsimp only at ho hq ⊢
    subst ho
    have HP : Hid (Res = (Dy.zero, x)) := hide (by rw [← unhide HRes]; exact Dy.parse_no hx)
    have HB1 := hide ((unhide HB0).trans (hb1.mono (unhide HB0).size))
    have HK1 := hide ((unhide HK0).belowSz hb1)
    clear hx HRes hb1 HB0 HK0 KO z0 z1 z2 z3
    by_cases hx0 : x = 0
    · have hq0 := hq hx0
      subst hq0
      subst hx0
      clear hq
      go_wp2_with ((with_reducible refine (@id (wpList _ _ _ (Oper.mk none (Op.store 41 (.tmp 4) (.tmp 25)) _ _ _ none :: _) _ _) ?_)); refine wpList_store_row rfl 41 (.tmp 4) (.tmp 25) rfl (w.heap.size + 1) #[.slice none 0 0, .string ⟨#[]⟩, .string ⟨#[]⟩, .slice none 0 0, .slice none 0 0] rfl rfl 41 _ (unhide HK1) dyInfo rfl (dyOne _ _ _ _ _ _ _ _ _ _ _) ?_)
      refine bodyPost_ret (results_cell_tmp (P := Try.prog) rfl _ _ (w.heap.size + 1) 41 #[.slice none 0 0, .string ⟨#[]⟩, .string ⟨#[]⟩, .slice none 0 0, .slice none 0 0] (0, 0) _ rfl (setRow_heap _ _ _ _ _ _ (unhide HK1)) Try.underlying41 rfl dyInfo) rfl ?_
      exact parse_nil (unhide HP) (below_setRow (unhide HB1) (Nat.le_succ _) _)
    · clear hq
      go_wp2_with ((with_reducible refine (@id (wpList _ _ _ (Oper.mk none (Op.store 41 (.tmp 4) (.tmp 25)) _ _ _ none :: _) _ _) ?_)); refine wpList_store_row rfl 41 (.tmp 4) (.tmp 25) rfl (w.heap.size + 1) #[.slice none 0 0, .string ⟨#[]⟩, .string ⟨#[]⟩, .slice none 0 0, .slice none 0 0] rfl rfl 41 _ (unhide HK1) dyInfo rfl (dyOne _ _ _ _ _ _ _ _ _ _ _) ?_)
      refine bodyPost_ret (results_cell_tmp (P := Try.prog) rfl _ _ (w.heap.size + 1) 41 #[.slice none 0 0, .string ⟨#[]⟩, .string ⟨#[]⟩, .slice none 0 0, .slice none 0 0] (0, 0) _ rfl (setRow_heap _ _ _ _ _ _ (unhide HK1)) Try.underlying41 rfl dyInfo) rfl ?_
      exact parse_nil (unhide HP) (below_setRow (unhide HB1) (Nat.le_succ _) _)
  have HB1 := hide ((unhide HB0).trans (hb1.mono (unhide HB0).size))
  have HK1 := hide ((unhide HK0).belowSz hb1)
  have hRes := unhide HRes
  rw [Dy.parse_some ho, unhide Hbl] at hRes
  clear hb1 HB0 HK0 KO z0 z1 z2 z3 HRes
  obtain ⟨d, hd⟩ : ∃ d : Ds, (⟨A, n, c, b, ty, en, ph, As, ns, cs, segs, Al, k, cl, L, gm⟩ : Ds) = d := ⟨_, rfl⟩
  have dm : d.m = n := by rw [← hd]
  have db : d.b = b := by rw [← hd]
  have dsg : d.segs = segs := by rw [← hd]
  have dL : d.L = L := by rw [← hd]
  rw [hd] at hds hok
  obtain ⟨B1, hB1⟩ : ∃ x, ((w.alloc (.cells #[.int .u16 ty, .int .u64 en, .int .u64 ph, .slice As ns cs] 27)).alloc (.cells #[.slice none 0 0, .string ⟨#[]⟩, .string ⟨#[]⟩, .slice none 0 0, .slice none 0 0] 41)).heap.size = x := ⟨_, rfl⟩
  rw [hB1] at hds
  have hds2 : DsM w1 B1 g d d.L := by rw [dL]; exact hds
  have hB1w : w.heap.size ≤ B1 := by rw [← hB1]; simp; omega
  have hbl2 : d.b.length = d.m := by rw [db, dm]; exact unhide Hbl
  have hdk : d.k ≤ 4294967296 := by
    have h1 := hds2.len
    have h2 := Dy.open_len ho
    rw [unhide Hbl] at h2
    rw [h1, dL]
    omega
  clear hd hds hB1
  have KT := table_any B1 g d 5 10 w1 hds2 hok rfl rfl
  have KNm := fun (w' : World) (h : DsM w' B1 g d d.L) => names_any B1 g d w' h hok hbl2
  have KRe := fun (w' : World) (h : DsM w' B1 g d d.L) => relas_any B1 g d w' h hok hbl2
  have KTx := fun (V : World) (At : Option Addr) (mt ct : Nat) (t : List UInt8) (h : DsM V B1 g d d.L) (hT : Rd V B1 1 At mt (bys t)) (hmt : mt ≤ 4294967296) (hmc : mt ≤ ct) => texts_any V B1 g d At mt ct t h hok hdk hT hmt hmc
  rw [dsg] at KT KNm KRe
  rw [db] at KT KNm KRe
  rw [dm] at KT
  rw [dL] at KT
  have hKN : ∀ (w' : World) (h : DsM w' B1 g d d.L), Calls Try.prog 30 #[.pointer (some ⟨g, 0, none⟩)] w' (NamesE (Dy.names b (El.loads segs) L) B1 b w') := fun w' h => dL ▸ KNm w' h
  have hKR : ∀ (w' : World) (h : DsM w' B1 g d d.L), Calls Try.prog 31 #[.pointer (some ⟨g, 0, none⟩)] w' (RelasE (Dy.relaB b (El.loads segs) L) w') := fun w' h => dL ▸ KRe w' h
  have hKX : ∀ (V : World) (At : Option Addr) (mt ct : Nat) (t : List UInt8) (h : DsM V B1 g d d.L) (hT : Rd V B1 1 At mt (bys t)) (hmt : mt ≤ 4294967296) (hmc : mt ≤ ct), Calls Try.prog 32 #[.pointer (some ⟨g, 0, none⟩), .slice At mt ct, .pointer (some ⟨V.heap.size, 0, none⟩)] (V.alloc (.cells #[.slice none 0 0, .string ⟨#[]⟩, .string ⟨#[]⟩, .slice none 0 0, .slice none 0 0] 41)) (TextsE (Dy.texts t (Dy.val L 29).isSome L Dy.zero) V g) := fun V At mt ct t h hT hmt hmc => by
    have := KTx V At mt ct t h hT hmt hmc
    rw [dL] at this
    exact this
  clear KNm KRe KTx
  obtain ⟨T, hT⟩ : ∃ x, Dy.table n (El.loads segs) L 5 10 = x := ⟨_, rfl⟩
  obtain ⟨⟨nx, nr⟩, hN⟩ : ∃ x, Dy.names b (El.loads segs) L = x := ⟨_, rfl⟩
  obtain ⟨⟨rx, rb⟩, hR⟩ : ∃ x, Dy.relaB b (El.loads segs) L = x := ⟨_, rfl⟩
  obtain ⟨run, hrun⟩ : ∃ x, (Dy.val L 29).isSome = x := ⟨_, rfl⟩
  have hTb : ∀ t, T = some t → t.2 ≤ n := fun t h => by rw [← hT] at h; exact Dy.table_le h
  have hRb : rb.length ≤ 1536 := by have := Dy.relaB_len (b := b) (l := El.loads segs) (L := L); rw [hR] at this; exact this
  rw [hT] at KT hRes
  rw [hN] at hKN hRes
  rw [hR] at hKR hRes
  rw [hrun] at hKX hRes
  have HKT := hide KT
  have HKN := hide hKN
  have HKR := hide hKR
  have HKX := hide hKX
  have HRes := hide hRes
  have HDS1 := hide hds2
  have HTb := hide hTb
  have HB1w := hide hB1w
  clear KT hKN hKR hKX hRes hds2 hT hN hR hrun dL dm db dsg hok hbl2 ho hTb hB1w hdk
  go_wp2_with fail
  refine (unhide HKT).mono ?_
  intro e w2 h2
  obtain ⟨A5, n5, c5, q5, rfl, hf5, hb2⟩ := tableE_form h2
  have HB2 : Hid (Below w.heap.size w (w2.alloc (.cells #[.slice A5 n5 c5] 22))) := hide (((unhide HB1).trans (hb2.mono (unhide HB1).size)).alloc ((unhide HB1).trans (hb2.mono (unhide HB1).size)).size _)
  have HK2 : Hid (Blk (w2.alloc (.cells #[.slice A5 n5 c5] 22)) (w.heap.size + 1) 41 [.slice none 0 0, .string ⟨#[]⟩, .string ⟨#[]⟩, .slice none 0 0, .slice none 0 0]) := hide (((unhide HK1).belowSz hb2).alloc _)
  have HT2 : Hid (Blk (w2.alloc (.cells #[.slice A5 n5 c5] 22)) w2.heap.size 22 [.slice A5 n5 c5]) := hide (Blk.new w2 22 [.slice A5 n5 c5])
  have HDS2 : Hid (DsM (w2.alloc (.cells #[.slice A5 n5 c5] 22)) B1 g d d.L) := hide (((unhide HDS1).belowSz hb2).belowSz ((Below.refl _ _).alloc (Nat.le_refl _) _))
  have Hf5 := hide hf5
  have hB12 : B1 ≤ w2.heap.size := Nat.le_trans (unhide HDS1).sz hb2.size
  have h2w : w.heap.size + 1 < w2.heap.size := ((unhide HK1).belowSz hb2).lt
  clear HKT HB1 HK1 HDS1 h2 hf5 hb2
  cases q5
  · have HP : Hid (Res = (Dy.zero, 25)) := hide (by
      rcases unhide Hf5 with ⟨-, h0⟩ | ⟨h0, -⟩
      · rw [← unhide HRes, h0]; exact Dy.pBody_1
      · cases h0)
    clear Hf5 HRes HKN HKR HKX HTb HT2 HDS2
    go_wp2_with ((with_reducible refine (@id (wpList _ _ _ (Oper.mk none (Op.store 41 (.tmp 4) (.tmp 34)) _ _ _ none :: _) _ _) ?_)); refine wpList_store_row rfl 41 (.tmp 4) (.tmp 34) rfl (w.heap.size + 1) #[.slice none 0 0, .string ⟨#[]⟩, .string ⟨#[]⟩, .slice none 0 0, .slice none 0 0] rfl rfl 41 _ (unhide HK2) dyInfo rfl (dyOne _ _ _ _ _ _ _ _ _ _ _) ?_)
    refine bodyPost_ret (results_cell_tmp (P := Try.prog) rfl _ _ (w.heap.size + 1) 41 #[.slice none 0 0, .string ⟨#[]⟩, .string ⟨#[]⟩, .slice none 0 0, .slice none 0 0] (0, 0) _ rfl (setRow_heap _ _ _ _ _ _ (unhide HK2)) Try.underlying41 rfl dyInfo) rfl ?_
    exact parse_nil (unhide HP) (below_setRow (unhide HB2) (Nat.le_succ _) _)
  rcases unhide Hf5 with ⟨h0, -⟩ | ⟨-, pt, hT0, hrd5, hc5⟩
  · cases h0
  have hn5 : n5 ≤ 4294967296 := Nat.le_trans ((unhide HTb) _ hT0) hn
  obtain ⟨tt, htt⟩ : ∃ x, Dy.cut b pt n5 = x := ⟨_, rfl⟩
  have hRes := unhide HRes
  rw [hT0] at hRes
  rw [htt] at hrd5
  have HRd5 : Hid (Rd (w2.alloc (.cells #[.slice A5 n5 c5] 22)) B1 1 A5 n5 (bys tt)) := hide (hrd5.alloc hB12 _)
  have HRes2 := hide hRes
  have Htt := hide htt
  clear hRes hrd5 Hf5 HRes hT0 htt HTb
  go_wp2_with fail
  refine ((unhide HKN) _ (unhide HDS2)).mono ?_
  rintro e w4 ⟨Ah, nh, ch, A4, c4, rfl, hnm, hb4⟩
  dsimp only at hnm ⊢
  obtain ⟨bk, chn, hof, sof⟩ := nr
  dsimp only at hnm ⊢
  obtain ⟨sl, hsl⟩ : ∃ x, 24 * chn = x := ⟨_, rfl⟩
  have Hsl := hide hsl
  have hb4' := (unhide HB2).trans (hb4.mono (unhide HB2).size)
  have Hnm := hide hnm
  rw [hsl]
  have HB4 : Hid (Below w.heap.size w (w4.alloc (.cells #[.int .u64 (bk : Nat), .int .u64 (chn : Nat), .slice Ah nh ch, .slice A4 sl c4] 57))) := hide (hb4'.alloc hb4'.size _)
  have HK4 : Hid (Blk (w4.alloc (.cells #[.int .u64 (bk : Nat), .int .u64 (chn : Nat), .slice Ah nh ch, .slice A4 sl c4] 57)) (w.heap.size + 1) 41 [.slice none 0 0, .string ⟨#[]⟩, .string ⟨#[]⟩, .slice none 0 0, .slice none 0 0]) := hide (((unhide HK2).belowSz hb4).alloc _)
  have HT4 : Hid (Blk (w4.alloc (.cells #[.int .u64 (bk : Nat), .int .u64 (chn : Nat), .slice Ah nh ch, .slice A4 sl c4] 57)) w2.heap.size 22 [.slice A5 n5 c5]) := hide (((unhide HT2).belowSz hb4).alloc _)
  have HN4 : Hid (Blk (w4.alloc (.cells #[.int .u64 (bk : Nat), .int .u64 (chn : Nat), .slice Ah nh ch, .slice A4 sl c4] 57)) w4.heap.size 57 [.int .u64 (bk : Nat), .int .u64 (chn : Nat), .slice Ah nh ch, .slice A4 sl c4]) := hide (Blk.new w4 57 [.int .u64 (bk : Nat), .int .u64 (chn : Nat), .slice Ah nh ch, .slice A4 sl c4])
  have HDS4 : Hid (DsM (w4.alloc (.cells #[.int .u64 (bk : Nat), .int .u64 (chn : Nat), .slice Ah nh ch, .slice A4 sl c4] 57)) B1 g d d.L) := hide (((unhide HDS2).belowSz hb4).belowSz ((Below.refl _ _).alloc (Nat.le_refl _) _))
  have hs4 := (unhide HDS2).sz
  have hs5 : B1 ≤ w4.heap.size := Nat.le_trans hs4 hb4.size
  have h24 : w2.heap.size < w4.heap.size := ((unhide HT2).belowSz hb4).lt
  have HRd6 : Hid (Rd (w4.alloc (.cells #[.int .u64 (bk : Nat), .int .u64 (chn : Nat), .slice Ah nh ch, .slice A4 sl c4] 57)) B1 1 A5 n5 (bys tt)) := hide (((unhide HRd5).below (hb4.mono hs4)).alloc hs5 _)
  have HNs : Hid (Rd (w4.alloc (.cells #[.int .u64 (bk : Nat), .int .u64 (chn : Nat), .slice Ah nh ch, .slice A4 sl c4] 57)) B1 1 A4 sl (bys (Dy.cut b sof sl))) := hide (by have := hnm.s; dsimp only at this; rw [hsl] at this; exact this.alloc hs5 _)
  have hNc : sl ≤ c4 := by have := hnm.sc; dsimp only at this; rw [hsl] at this; exact this
  have hch65 : chn ≤ 65 := hnm.fit.2
  clear hnm hb4' hb4 HB2 HK2 HT2 HDS2 hsl Hnm HRd5 HKN
  by_cases hx0 : nx = 0
  case neg =>
    have HP : Hid (Res = (Dy.zero, nx)) := hide (by rw [← unhide HRes2]; exact Dy.pBody_2 hx0)
    clear HRes2 HKR HKX
    go_wp2_with ((with_reducible refine (@id (wpList _ _ _ (Oper.mk none (Op.store 41 (.tmp 4) (.tmp 42)) _ _ _ none :: _) _ _) ?_)); refine wpList_store_row rfl 41 (.tmp 4) (.tmp 42) rfl (w.heap.size + 1) #[.slice none 0 0, .string ⟨#[]⟩, .string ⟨#[]⟩, .slice none 0 0, .slice none 0 0] rfl rfl 41 _ (unhide HK4) dyInfo rfl (dyOne _ _ _ _ _ _ _ _ _ _ _) ?_)
    refine bodyPost_ret (results_cell_tmp (P := Try.prog) rfl _ _ (w.heap.size + 1) 41 #[.slice none 0 0, .string ⟨#[]⟩, .string ⟨#[]⟩, .slice none 0 0, .slice none 0 0] (0, 0) _ rfl (setRow_heap _ _ _ _ _ _ (unhide HK4)) Try.underlying41 rfl dyInfo) rfl ?_
    exact parse_nil (unhide HP) (below_setRow (unhide HB4) (Nat.le_succ _) _)
  subst hx0
  go_wp2_with fail
  refine ((unhide HKR) _ (unhide HDS4)).mono ?_
  rintro e w6 ⟨A6, c6, rfl, hrow6, hb6⟩
  dsimp only at hrow6 ⊢
  have e4 : (w4.alloc (.cells #[.int .u64 (bk : Nat), .int .u64 (chn : Nat), .slice Ah nh ch, .slice A4 sl c4] 57)).heap.size = w4.heap.size + 1 := by simp
  rw [e4] at hrow6
  obtain ⟨rl, hrl⟩ : ∃ x, rb.length = x := ⟨_, rfl⟩
  rw [hrl] at hrow6 hRb ⊢
  have HB6 := hide ((unhide HB4).trans (hb6.mono (unhide HB4).size))
  have HK6 := hide ((unhide HK4).belowSz hb6)
  have HT6 := hide ((unhide HT4).belowSz hb6)
  have HN6 := hide ((unhide HN4).belowSz hb6)
  have HDS6 := hide ((unhide HDS4).belowSz hb6)
  have HRd7 := hide ((unhide HRd6).below (hb6.mono (unhide HDS4).sz))
  have HNs6 := hide ((unhide HNs).below (hb6.mono (unhide HDS4).sz))
  have h46 : w4.heap.size + 1 ≤ w6.heap.size := by have := hb6.size; rw [e4] at this; exact this
  have Hrow := hide hrow6
  have Hlt6 : Hid (∀ k, (Value.slice A6 rl c6).ownBlock = some k → k < w6.heap.size) := hide (fun k hk => (hrow6.lt k hk).2)
  have Hrl := hide hrl
  clear hrow6 hb6 HB4 HK4 HT4 HN4 HDS4 HRd6 HNs HKR hrl e4
  by_cases hr0 : rx = 0
  case neg =>
    have HP : Hid (Res = (Dy.zero, rx)) := hide (by rw [← unhide HRes2]; exact Dy.pBody_3 rfl hr0)
    clear HRes2 HKX
    go_wp2_with ((with_reducible refine (@id (wpList _ _ _ (Oper.mk none (Op.store 41 (.tmp 4) (.tmp 51)) _ _ _ none :: _) _ _) ?_)); refine wpList_store_row rfl 41 (.tmp 4) (.tmp 51) rfl (w.heap.size + 1) #[.slice none 0 0, .string ⟨#[]⟩, .string ⟨#[]⟩, .slice none 0 0, .slice none 0 0] rfl rfl 41 _ (unhide HK6) dyInfo rfl (dyOne _ _ _ _ _ _ _ _ _ _ _) ?_)
    refine bodyPost_ret (results_cell_tmp (P := Try.prog) rfl _ _ (w.heap.size + 1) 41 #[.slice none 0 0, .string ⟨#[]⟩, .string ⟨#[]⟩, .slice none 0 0, .slice none 0 0] (0, 0) _ rfl (setRow_heap _ _ _ _ _ _ (unhide HK6)) Try.underlying41 rfl dyInfo) rfl ?_
    exact parse_nil (unhide HP) (below_setRow (unhide HB6) (Nat.le_succ _) _)
  subst hr0
  have KX := hide ((unhide HKX) w6 A5 n5 c5 tt (unhide HDS6) (unhide HRd7) hn5 hc5)
  have x8 := ((unhide HT6).alloc (.cells #[.slice none 0 0, .string ⟨#[]⟩, .string ⟨#[]⟩, .slice none 0 0, .slice none 0 0] 41)).cell (i := 0) rfl
  clear HKX HDS6
  go_wp2_with fail
  refine (unhide KX).mono ?_
  rintro e w7 ⟨qx, rfl, hx7, hb7⟩
  have h67 := hb7.size
  have HB7 := hide ((unhide HB6).trans (hb7.mono (unhide HB6).size))
  have HK7 := hide ((unhide HK6).belowSz hb7)
  have HT7 := hide ((unhide HT6).belowSz hb7)
  have HN7 := hide ((unhide HN6).belowSz hb7)
  have HRd8 := hide ((unhide HRd7).below (hb7.mono (by omega)))
  have HNs7 := hide ((unhide HNs6).below (hb7.mono (by omega)))
  have Hrow7 := hide (own_below (unhide Hrow) hb7)
  have Hx7 := hide hx7
  clear hx7 hb7 HB6 HK6 HT6 HN6 HRd7 HNs6 Hrow KX x8
  cases qx
  · have HP : Hid (Res = (Dy.zero, 25)) := hide (by
      rcases unhide Hx7 with ⟨-, h0⟩ | ⟨h0, -⟩
      · rw [← unhide HRes2]; exact Dy.pBody_4 rfl rfl (by dsimp only; rw [unhide Htt]; exact h0)
      · cases h0)
    clear Hx7 HRes2
    go_wp2_with ((with_reducible refine (@id (wpList _ _ _ (Oper.mk none (Op.store 41 (.tmp 4) (.tmp 58)) _ _ _ none :: _) _ _) ?_)); refine wpList_store_row rfl 41 (.tmp 4) (.tmp 58) rfl (w.heap.size + 1) #[.slice none 0 0, .string ⟨#[]⟩, .string ⟨#[]⟩, .slice none 0 0, .slice none 0 0] rfl rfl 41 _ (unhide HK7) dyInfo rfl (dyOne _ _ _ _ _ _ _ _ _ _ _) ?_)
    refine bodyPost_ret (results_cell_tmp (P := Try.prog) rfl _ _ (w.heap.size + 1) 41 #[.slice none 0 0, .string ⟨#[]⟩, .string ⟨#[]⟩, .slice none 0 0, .slice none 0 0] (0, 0) _ rfl (setRow_heap _ _ _ _ _ _ (unhide HK7)) Try.underlying41 rfl dyInfo) rfl ?_
    exact parse_nil (unhide HP) (below_setRow (unhide HB7) (Nat.le_succ _) _)
  rcases unhide Hx7 with ⟨h0, -⟩ | ⟨-, D, A7, n7, c7, hD, hO7⟩
  · cases h0
  have HD : Hid (Dy.texts (Dy.cut b pt n5) run L Dy.zero = some D) := hide (by rw [unhide Htt]; exact hD)
  have HO7 := hide hO7.out
  have HRw7 := hide hO7.row
  have HDn := hide hO7.n
  have u1 := (unhide HN7).cell (i := 1) rfl
  have hgo : w6.heap.size < w7.heap.size := hO7.out.lt
  clear hD hO7 Hx7
  by_cases hch : chn = 0
  case pos =>
    have hsl0 : sl = 0 := by rw [← unhide Hsl, hch]
    have u3 := (unhide HN7).cell (i := 3) rfl
    have u8 := (unhide HT7).cell (i := 0) rfl
    have hc1 : ¬ (0 : Int) < (chn : Int) := by omega
    have KS := hide (symRows_any A4 sl c4 B1 (sof + 24) w2.heap.size (chn - 1) b A5 n5 c5 tt w7 (by omega) (by omega) (by rw [hsl0, show bys (Dy.cut b (sof + 24) 0) = [] from by simp [Dy.cut, bys]]; exact Rd.none_ _ _ _ _) (by omega) hNc (by omega) u8 (unhide HRd8) hn5 hc5)
    have HW8 : Hid (Below w.heap.size w w7 ∧ Blk w7 (w.heap.size + 1) 41 [.slice none 0 0, .string ⟨#[]⟩, .string ⟨#[]⟩, .slice none 0 0, .slice none 0 0] ∧ Blk w7 w6.heap.size 41 [.slice A7 n7 c7, .string D.soname, .string D.run, .slice none 0 0, .slice none 0 0] ∧ w7.ownsRow (w6.heap.size + 3) 9 1 (.slice A7 n7 c7) n7 (D.needed.map Value.string) ∧ w7.ownsRow (w4.heap.size + 1) 5 1 (.slice A6 rl c6) rl (bys rb)) := hide ⟨unhide HB7, unhide HK7, unhide HO7, unhide HRw7, unhide Hrow7⟩
    have Hs8 : Hid (w7.heap.size = w7.heap.size) := hide rfl
    clear hsl0 HB7 HK7 HO7 HRw7 Hrow7 HN7 HT7 HRd8 HNs7 hch
    go_wp2_with fail
    refine (unhide KS).mono ?_
    intro e w9 h9
    obtain ⟨A9, n9, c9, q9, rfl, hf9, hb9⟩ := syRowsE_form h9
    have hs8 := unhide Hs8
    obtain ⟨gB, gK, gO, gR, gW⟩ := unhide HW8
    have HB9 := hide (gB.trans (hb9.mono gB.size))
    have HK9 := hide (gK.belowSz hb9)
    have HO9 := hide (gO.belowSz hb9)
    have HRw9 := hide (own_below gR hb9)
    have Hrow9 := hide (own_below gW hb9)
    have h89 := hb9.size
    try rw [hs8] at h89
    have Hf9 := hide hf9
    have v3 := (unhide HO9).cell (i := 3) rfl
    have f3 := (unhide HO9).free 3
    have HBx : Hid (Below w.heap.size w (w9.setCell ⟨w6.heap.size, 3, none⟩ (.slice A9 n9 c9))) := hide ((unhide HB9).setCell (p := ⟨w6.heap.size, 3, none⟩) (by dsimp only; omega) _)
    have HKx : Hid (Blk (w9.setCell ⟨w6.heap.size, 3, none⟩ (.slice A9 n9 c9)) (w.heap.size + 1) 41 [.slice none 0 0, .string ⟨#[]⟩, .string ⟨#[]⟩, .slice none 0 0, .slice none 0 0]) := hide ((unhide HK9).other (p := ⟨w6.heap.size, 3, none⟩) (by dsimp only; omega) _)
    clear hf9 h9 KS HW8 gB gK gO gR gW
    cases q9
    · have HP : Hid (Res = (Dy.zero, 25)) := hide (by
        rcases unhide Hf9 with ⟨-, h0⟩ | ⟨h0, -⟩
        · rw [← unhide HRes2]; exact Dy.pBody_5 rfl rfl (unhide HD) (by dsimp only; rw [unhide Htt]; exact h0)
        · cases h0)
      clear Hf9 HRes2 HO9 HRw9 Hrow9 HD
      go_wp2_with ((with_reducible refine (@id (wpList _ _ _ (Oper.mk none (Op.store 41 (.tmp 4) (.tmp 76)) _ _ _ none :: _) _ _) ?_)); refine wpList_store_row rfl 41 (.tmp 4) (.tmp 76) rfl (w.heap.size + 1) #[.slice none 0 0, .string ⟨#[]⟩, .string ⟨#[]⟩, .slice none 0 0, .slice none 0 0] rfl rfl 41 _ (unhide HKx) dyInfo rfl (dyOne _ _ _ _ _ _ _ _ _ _ _) ?_)
      refine bodyPost_ret (results_cell_tmp (P := Try.prog) rfl _ _ (w.heap.size + 1) 41 #[.slice none 0 0, .string ⟨#[]⟩, .string ⟨#[]⟩, .slice none 0 0, .slice none 0 0] (0, 0) _ rfl (setRow_heap _ _ _ _ _ _ (unhide HKx)) Try.underlying41 rfl dyInfo) rfl ?_
      exact parse_nil (unhide HP) (below_setRow (unhide HBx) (Nat.le_succ _) _)
    rcases unhide Hf9 with ⟨h0, -⟩ | ⟨-, ss, hss, hn9, ho9⟩
    · cases h0
    have HSs : Hid (Dy.symsFrom (Dy.cut b pt n5) b (chn - 1) (sof + 24) = some ss) := hide (by rw [unhide Htt]; exact hss)
    have hssl : ss.length ≤ 64 := by have := Dy.symsFrom_len hss; omega
    have Hn9 := hide hn9
    have hn9b : n9 ≤ 4294967296 := by omega
    have HOx : Hid (Blk (w9.setCell ⟨w6.heap.size, 3, none⟩ (.slice A9 n9 c9)) w6.heap.size 41 [.slice A7 n7 c7, .string D.soname, .string D.run, .slice A9 n9 c9, .slice none 0 0]) := hide ((unhide HO9).set 3 _)
    have HRwx := hide (own_setOB (i := 3) (k := w6.heap.size) (unhide HRw9) (by omega) (.slice A9 n9 c9))
    have Hrowx := hide (own_setNQ (unhide Hrow9) (p := ⟨w6.heap.size, 3, none⟩) (fun k hk => by have := (unhide Hlt6) k hk; dsimp only; omega) (.slice A9 n9 c9))
    have Hssx := hide (own_setOB (i := 3) (k := w6.heap.size) ho9 (by omega) (.slice A9 n9 c9))
    have hsx : (w9.setCell ⟨w6.heap.size, 3, none⟩ (.slice A9 n9 c9)).heap.size = w9.heap.size := by simp
    have w3c := (unhide HOx).cell (i := 3) rfl
    have KR := hide (relRows_any A6 rl c6 _ w6.heap.size rb A9 n9 c9 _ (Nat.le_refl _) (Rd.of_own (unhide Hrowx)) (by omega) (own_len (unhide Hrowx)) (by rw [hsx]; omega) w3c hn9b)
    clear hss hn9 ho9 Hf9 HO9 HRw9 Hrow9 HB9 HK9 Hrowx w3c
    go_wp2_with fail
    refine (unhide KR).mono ?_
    intro e w11 h11
    obtain ⟨A11, n11, c11, q11, rfl, hf11, hb11⟩ := reRowsE_form h11
    have h911 := hb11.size
    rw [hsx] at h911
    have HB11 := hide ((unhide HBx).trans (hb11.mono (unhide HBx).size))
    have HK11 := hide ((unhide HKx).belowSz hb11)
    have HO11 := hide ((unhide HOx).belowSz hb11)
    have HRw11 := hide (own_below (unhide HRwx) hb11)
    have Hss11 := hide (own_below (unhide Hssx) hb11)
    have Hf11 := hide hf11
    have v4 := (unhide HO11).cell (i := 4) rfl
    have f4 := (unhide HO11).free 4
    have HBy : Hid (Below w.heap.size w (w11.setCell ⟨w6.heap.size, 4, none⟩ (.slice A11 n11 c11))) := hide ((unhide HB11).setCell (p := ⟨w6.heap.size, 4, none⟩) (by dsimp only; omega) _)
    have HKy : Hid (Blk (w11.setCell ⟨w6.heap.size, 4, none⟩ (.slice A11 n11 c11)) (w.heap.size + 1) 41 [.slice none 0 0, .string ⟨#[]⟩, .string ⟨#[]⟩, .slice none 0 0, .slice none 0 0]) := hide ((unhide HK11).other (p := ⟨w6.heap.size, 4, none⟩) (by dsimp only; omega) _)
    clear hf11 h11 KR HBx HKx HOx HRwx Hssx v3 f3
    cases q11
    · have HP : Hid (Res = (Dy.zero, 25)) := hide (by
        rcases unhide Hf11 with ⟨-, h0⟩ | ⟨h0, -⟩
        · rw [← unhide HRes2]; exact Dy.pBody_6 rfl rfl (unhide HD) (unhide HSs) (by dsimp only; rw [unhide Hrl, ← unhide Hn9]; exact h0)
        · cases h0)
      clear Hf11 HRes2 HO11 HRw11 Hss11 HD HSs
      go_wp2_with ((with_reducible refine (@id (wpList _ _ _ (Oper.mk none (Op.store 41 (.tmp 4) (.tmp 86)) _ _ _ none :: _) _ _) ?_)); refine wpList_store_row rfl 41 (.tmp 4) (.tmp 86) rfl (w.heap.size + 1) #[.slice none 0 0, .string ⟨#[]⟩, .string ⟨#[]⟩, .slice none 0 0, .slice none 0 0] rfl rfl 41 _ (unhide HKy) dyInfo rfl (dyOne _ _ _ _ _ _ _ _ _ _ _) ?_)
      refine bodyPost_ret (results_cell_tmp (P := Try.prog) rfl _ _ (w.heap.size + 1) 41 #[.slice none 0 0, .string ⟨#[]⟩, .string ⟨#[]⟩, .slice none 0 0, .slice none 0 0] (0, 0) _ rfl (setRow_heap _ _ _ _ _ _ (unhide HKy)) Try.underlying41 rfl dyInfo) rfl ?_
      exact parse_nil (unhide HP) (below_setRow (unhide HBy) (Nat.le_succ _) _)
    rcases unhide Hf11 with ⟨h0, -⟩ | ⟨-, rs, hrs, hn11, ho11⟩
    · cases h0
    have HOy : Hid (Blk (w11.setCell ⟨w6.heap.size, 4, none⟩ (.slice A11 n11 c11)) w6.heap.size 41 [.slice A7 n7 c7, .string D.soname, .string D.run, .slice A9 n9 c9, .slice A11 n11 c11]) := hide ((unhide HO11).set 4 _)
    have HRwy := hide (own_setOB (i := 4) (k := w6.heap.size) (unhide HRw11) (by omega) (.slice A11 n11 c11))
    have Hssy := hide (own_setOB (i := 4) (k := w6.heap.size) (unhide Hss11) (by omega) (.slice A11 n11 c11))
    have Hrsy := hide (own_setOB (i := 4) (k := w6.heap.size) ho11 (by rw [hsx]; omega) (.slice A11 n11 c11))
    have HP : Hid (Res = ({ D with syms := ss, relas := rs }, 0)) := hide (by rw [← unhide HRes2]; exact Dy.pBody_7 rfl rfl (unhide HD) (unhide HSs) (by dsimp only; rw [unhide Hrl, ← unhide Hn9]; exact hrs))
    have Hn11 := hide hn11
    clear hrs hn11 ho11 Hf11 HO11 HRw11 Hss11 HRes2 HD HSs HB11 HK11
    go_wp2_with (first
      | ((with_reducible refine (@id (wpList _ _ _ (Oper.mk _ (Op.load 41 (.tmp 12)) _ _ _ none :: _) _ _) ?_)); refine wpList_load_row rfl 41 (.tmp 12) rfl w6.heap.size rfl 41 #[.slice A7 n7 c7, .string D.soname, .string D.run, .slice A9 n9 c9, .slice A11 n11 c11] (0, 0) _ (unhide HOy) Try.underlying41 rfl dyInfo ?_)
      | ((with_reducible refine (@id (wpList _ _ _ (Oper.mk none (Op.store 41 (.tmp 4) (.tmp 87)) _ _ _ none :: _) _ _) ?_)); refine wpList_store_row rfl 41 (.tmp 4) (.tmp 87) rfl (w.heap.size + 1) #[.slice A7 n7 c7, .string D.soname, .string D.run, .slice A9 n9 c9, .slice A11 n11 c11] rfl rfl 41 _ (unhide HKy) dyInfo rfl (dyOne _ _ _ _ _ _ _ _ _ _ _) ?_))
    refine bodyPost_ret (results_cell_tmp (P := Try.prog) rfl _ _ (w.heap.size + 1) 41 #[.slice A7 n7 c7, .string D.soname, .string D.run, .slice A9 n9 c9, .slice A11 n11 c11] (0, 0) _ rfl (setRow_heap _ _ _ _ _ _ (unhide HKy)) Try.underlying41 rfl dyInfo) rfl ?_
    refine parse_good (unhide HP) (below_setRow (unhide HBy) (Nat.le_succ _) _) (unhide HDn) (unhide Hn9) (unhide Hn11) (own_base (own_setRowB (unhide HRwy) (by omega) _) (by omega)) (own_base (own_setRowB (unhide Hssy) (by omega) _) (by omega)) (own_base (own_setRowB (unhide Hrsy) (by rw [hsx]; omega) _) (by rw [hsx]; omega))
  have hc1 : (0 : Int) < (chn : Int) := by omega
  have hsl24 : 24 ≤ sl := by have := unhide Hsl; omega
  have kf : ∀ w' : World, (Instr.slice 22 (.slice A4 sl c4) (some (.int .i64 24)) none none).run Try.prog w' = .ok (.slice (fromA A4 c4 24) (sl - 24) (c4 - 24)) w' := fun w' => run_fromK (P := Try.prog) Try.underlying22 (e := 5) (by kernel_rfl) .i64 A4 sl c4 24 hsl24 w'
  have u3 := (unhide HN7).cell (i := 3) rfl
  have f3n := (unhide HN7).free 3
  have hrd9 := (unhide HNs7).from_ (k := 24) hsl24 hNc
  have hbc : (bys (Dy.cut b sof sl)).drop 24 = bys (Dy.cut b (sof + 24) (sl - 24)) := by
    unfold bys Dy.cut
    rw [← List.map_drop, List.drop_take, List.drop_drop]
  rw [hbc] at hrd9
  obtain ⟨A8, hA8⟩ : ∃ x, fromA A4 c4 24 = x := ⟨_, rfl⟩
  rw [hA8] at kf hrd9
  obtain ⟨W8, hW8⟩ : ∃ x, w7.setCell ⟨w4.heap.size, 3, none⟩ (.slice A8 (sl - 24) (c4 - 24)) = x := ⟨_, rfl⟩
  have gN : Blk W8 w4.heap.size 57 [.int .u64 (bk : Nat), .int .u64 (chn : Nat), .slice Ah nh ch, .slice A8 (sl - 24) (c4 - 24)] := by rw [← hW8]; exact (unhide HN7).set 3 _
  have gT : Blk W8 w2.heap.size 22 [.slice A5 n5 c5] := by rw [← hW8]; exact (unhide HT7).other (p := ⟨w4.heap.size, 3, none⟩) (by dsimp only; omega) _
  have gB : Below w.heap.size w W8 := by rw [← hW8]; exact (unhide HB7).setCell (p := ⟨w4.heap.size, 3, none⟩) (by dsimp only; omega) _
  have gK : Blk W8 (w.heap.size + 1) 41 [.slice none 0 0, .string ⟨#[]⟩, .string ⟨#[]⟩, .slice none 0 0, .slice none 0 0] := by rw [← hW8]; exact (unhide HK7).other (p := ⟨w4.heap.size, 3, none⟩) (by dsimp only; omega) _
  have gO : Blk W8 w6.heap.size 41 [.slice A7 n7 c7, .string D.soname, .string D.run, .slice none 0 0, .slice none 0 0] := by rw [← hW8]; exact (unhide HO7).other (p := ⟨w4.heap.size, 3, none⟩) (by dsimp only; omega) _
  have gR : W8.ownsRow (w6.heap.size + 3) 9 1 (.slice A7 n7 c7) n7 (D.needed.map Value.string) := by rw [← hW8]; exact own_setOB (unhide HRw7) (by omega) _
  have gW : W8.ownsRow (w4.heap.size + 1) 5 1 (.slice A6 rl c6) rl (bys rb) := by rw [← hW8]; exact own_setOB (unhide Hrow7) (by omega) _
  have gD : Rd W8 B1 1 A5 n5 (bys tt) := by rw [← hW8]; exact (unhide HRd8).setCell (p := ⟨w4.heap.size, 3, none⟩) (by dsimp only; omega) _
  have gS : Rd W8 B1 1 A8 (sl - 24) (bys (Dy.cut b (sof + 24) (sl - 24))) := by rw [← hW8]; exact hrd9.setCell (p := ⟨w4.heap.size, 3, none⟩) (by dsimp only; omega) _
  have hs8 : W8.heap.size = w7.heap.size := by rw [← hW8]; simp
  have HW8 : Hid (Below w.heap.size w W8 ∧ Blk W8 (w.heap.size + 1) 41 [.slice none 0 0, .string ⟨#[]⟩, .string ⟨#[]⟩, .slice none 0 0, .slice none 0 0] ∧ Blk W8 w6.heap.size 41 [.slice A7 n7 c7, .string D.soname, .string D.run, .slice none 0 0, .slice none 0 0] ∧ W8.ownsRow (w6.heap.size + 3) 9 1 (.slice A7 n7 c7) n7 (D.needed.map Value.string) ∧ W8.ownsRow (w4.heap.size + 1) 5 1 (.slice A6 rl c6) rl (bys rb)) := hide ⟨gB, gK, gO, gR, gW⟩
  have hc4 : sl - 24 ≤ c4 - 24 := by omega
  have KS := hide (symRows_any A8 (sl - 24) (c4 - 24) B1 (sof + 24) w2.heap.size (chn - 1) b A5 n5 c5 tt W8 (by rw [hs8]; omega) (by have := unhide Hsl; omega) gS (by have := unhide Hsl; omega) hc4 (by rw [hs8]; omega) (gT.cell (i := 0) rfl) gD hn5 hc5)
  have u9 := (unhide HT7).cell (i := 0) rfl
  have y3 := gN.cell (i := 3) rfl
  have y8 := gT.cell (i := 0) rfl
  have cI : ((sl - 24 : Nat) : Int) = (sl : Int) - 24 := by omega
  obtain ⟨s2, hs2⟩ : ∃ x, sl - 24 = x := ⟨_, rfl⟩
  obtain ⟨c2, hc2⟩ : ∃ x, c4 - 24 = x := ⟨_, rfl⟩
  rw [hs2, hc2] at kf hW8 y3
  rw [hs2, hc2] at KS
  rw [← hW8] at y3 y8
  have kS := unhide KS
  rw [← hW8] at kS
  have hw8 := unhide HW8
  rw [← hW8] at hw8 hs8
  clear HB7 HK7 HO7 HRw7 Hrow7 HN7 HT7 HRd8 HNs7 KS HW8 gN gT gB gK gO gR gW gD gS hrd9 hbc hA8 hW8 cI hs2 hc2
  have KS := hide kS
  have HW8 := hide hw8
  have Hs8 := hide hs8
  clear kS hw8 hsl24 hNc hc4 hs8
  go_wp2_with fail
  refine (unhide KS).mono ?_
  intro e w9 h9
  obtain ⟨A9, n9, c9, q9, rfl, hf9, hb9⟩ := syRowsE_form h9
  have hs8 := unhide Hs8
  obtain ⟨gB, gK, gO, gR, gW⟩ := unhide HW8
  have HB9 := hide (gB.trans (hb9.mono gB.size))
  have HK9 := hide (gK.belowSz hb9)
  have HO9 := hide (gO.belowSz hb9)
  have HRw9 := hide (own_below gR hb9)
  have Hrow9 := hide (own_below gW hb9)
  have h89 := hb9.size
  try rw [hs8] at h89
  have Hf9 := hide hf9
  have v3 := (unhide HO9).cell (i := 3) rfl
  have f3 := (unhide HO9).free 3
  have HBx : Hid (Below w.heap.size w (w9.setCell ⟨w6.heap.size, 3, none⟩ (.slice A9 n9 c9))) := hide ((unhide HB9).setCell (p := ⟨w6.heap.size, 3, none⟩) (by dsimp only; omega) _)
  have HKx : Hid (Blk (w9.setCell ⟨w6.heap.size, 3, none⟩ (.slice A9 n9 c9)) (w.heap.size + 1) 41 [.slice none 0 0, .string ⟨#[]⟩, .string ⟨#[]⟩, .slice none 0 0, .slice none 0 0]) := hide ((unhide HK9).other (p := ⟨w6.heap.size, 3, none⟩) (by dsimp only; omega) _)
  clear hf9 h9 KS HW8 gB gK gO gR gW
  cases q9
  · have HP : Hid (Res = (Dy.zero, 25)) := hide (by
      rcases unhide Hf9 with ⟨-, h0⟩ | ⟨h0, -⟩
      · rw [← unhide HRes2]; exact Dy.pBody_5 rfl rfl (unhide HD) (by dsimp only; rw [unhide Htt]; exact h0)
      · cases h0)
    clear Hf9 HRes2 HO9 HRw9 Hrow9 HD
    go_wp2_with ((with_reducible refine (@id (wpList _ _ _ (Oper.mk none (Op.store 41 (.tmp 4) (.tmp 76)) _ _ _ none :: _) _ _) ?_)); refine wpList_store_row rfl 41 (.tmp 4) (.tmp 76) rfl (w.heap.size + 1) #[.slice none 0 0, .string ⟨#[]⟩, .string ⟨#[]⟩, .slice none 0 0, .slice none 0 0] rfl rfl 41 _ (unhide HKx) dyInfo rfl (dyOne _ _ _ _ _ _ _ _ _ _ _) ?_)
    refine bodyPost_ret (results_cell_tmp (P := Try.prog) rfl _ _ (w.heap.size + 1) 41 #[.slice none 0 0, .string ⟨#[]⟩, .string ⟨#[]⟩, .slice none 0 0, .slice none 0 0] (0, 0) _ rfl (setRow_heap _ _ _ _ _ _ (unhide HKx)) Try.underlying41 rfl dyInfo) rfl ?_
    exact parse_nil (unhide HP) (below_setRow (unhide HBx) (Nat.le_succ _) _)
  rcases unhide Hf9 with ⟨h0, -⟩ | ⟨-, ss, hss, hn9, ho9⟩
  · cases h0
  have HSs : Hid (Dy.symsFrom (Dy.cut b pt n5) b (chn - 1) (sof + 24) = some ss) := hide (by rw [unhide Htt]; exact hss)
  have hssl : ss.length ≤ 64 := by have := Dy.symsFrom_len hss; omega
  have Hn9 := hide hn9
  have hn9b : n9 ≤ 4294967296 := by omega
  have HOx : Hid (Blk (w9.setCell ⟨w6.heap.size, 3, none⟩ (.slice A9 n9 c9)) w6.heap.size 41 [.slice A7 n7 c7, .string D.soname, .string D.run, .slice A9 n9 c9, .slice none 0 0]) := hide ((unhide HO9).set 3 _)
  have HRwx := hide (own_setOB (i := 3) (k := w6.heap.size) (unhide HRw9) (by omega) (.slice A9 n9 c9))
  have Hrowx := hide (own_setNQ (unhide Hrow9) (p := ⟨w6.heap.size, 3, none⟩) (fun k hk => by have := (unhide Hlt6) k hk; dsimp only; omega) (.slice A9 n9 c9))
  have Hssx := hide (own_setOB (i := 3) (k := w6.heap.size) ho9 (by omega) (.slice A9 n9 c9))
  have hsx : (w9.setCell ⟨w6.heap.size, 3, none⟩ (.slice A9 n9 c9)).heap.size = w9.heap.size := by simp
  have w3c := (unhide HOx).cell (i := 3) rfl
  have KR := hide (relRows_any A6 rl c6 _ w6.heap.size rb A9 n9 c9 _ (Nat.le_refl _) (Rd.of_own (unhide Hrowx)) (by omega) (own_len (unhide Hrowx)) (by rw [hsx]; omega) w3c hn9b)
  clear hss hn9 ho9 Hf9 HO9 HRw9 Hrow9 HB9 HK9 Hrowx w3c
  go_wp2_with fail
  refine (unhide KR).mono ?_
  intro e w11 h11
  obtain ⟨A11, n11, c11, q11, rfl, hf11, hb11⟩ := reRowsE_form h11
  have h911 := hb11.size
  rw [hsx] at h911
  have HB11 := hide ((unhide HBx).trans (hb11.mono (unhide HBx).size))
  have HK11 := hide ((unhide HKx).belowSz hb11)
  have HO11 := hide ((unhide HOx).belowSz hb11)
  have HRw11 := hide (own_below (unhide HRwx) hb11)
  have Hss11 := hide (own_below (unhide Hssx) hb11)
  have Hf11 := hide hf11
  have v4 := (unhide HO11).cell (i := 4) rfl
  have f4 := (unhide HO11).free 4
  have HBy : Hid (Below w.heap.size w (w11.setCell ⟨w6.heap.size, 4, none⟩ (.slice A11 n11 c11))) := hide ((unhide HB11).setCell (p := ⟨w6.heap.size, 4, none⟩) (by dsimp only; omega) _)
  have HKy : Hid (Blk (w11.setCell ⟨w6.heap.size, 4, none⟩ (.slice A11 n11 c11)) (w.heap.size + 1) 41 [.slice none 0 0, .string ⟨#[]⟩, .string ⟨#[]⟩, .slice none 0 0, .slice none 0 0]) := hide ((unhide HK11).other (p := ⟨w6.heap.size, 4, none⟩) (by dsimp only; omega) _)
  clear hf11 h11 KR HBx HKx HOx HRwx Hssx v3 f3
  cases q11
  · have HP : Hid (Res = (Dy.zero, 25)) := hide (by
      rcases unhide Hf11 with ⟨-, h0⟩ | ⟨h0, -⟩
      · rw [← unhide HRes2]; exact Dy.pBody_6 rfl rfl (unhide HD) (unhide HSs) (by dsimp only; rw [unhide Hrl, ← unhide Hn9]; exact h0)
      · cases h0)
    clear Hf11 HRes2 HO11 HRw11 Hss11 HD HSs
    go_wp2_with ((with_reducible refine (@id (wpList _ _ _ (Oper.mk none (Op.store 41 (.tmp 4) (.tmp 86)) _ _ _ none :: _) _ _) ?_)); refine wpList_store_row rfl 41 (.tmp 4) (.tmp 86) rfl (w.heap.size + 1) #[.slice none 0 0, .string ⟨#[]⟩, .string ⟨#[]⟩, .slice none 0 0, .slice none 0 0] rfl rfl 41 _ (unhide HKy) dyInfo rfl (dyOne _ _ _ _ _ _ _ _ _ _ _) ?_)
    refine bodyPost_ret (results_cell_tmp (P := Try.prog) rfl _ _ (w.heap.size + 1) 41 #[.slice none 0 0, .string ⟨#[]⟩, .string ⟨#[]⟩, .slice none 0 0, .slice none 0 0] (0, 0) _ rfl (setRow_heap _ _ _ _ _ _ (unhide HKy)) Try.underlying41 rfl dyInfo) rfl ?_
    exact parse_nil (unhide HP) (below_setRow (unhide HBy) (Nat.le_succ _) _)
  rcases unhide Hf11 with ⟨h0, -⟩ | ⟨-, rs, hrs, hn11, ho11⟩
  · cases h0
  have HOy : Hid (Blk (w11.setCell ⟨w6.heap.size, 4, none⟩ (.slice A11 n11 c11)) w6.heap.size 41 [.slice A7 n7 c7, .string D.soname, .string D.run, .slice A9 n9 c9, .slice A11 n11 c11]) := hide ((unhide HO11).set 4 _)
  have HRwy := hide (own_setOB (i := 4) (k := w6.heap.size) (unhide HRw11) (by omega) (.slice A11 n11 c11))
  have Hssy := hide (own_setOB (i := 4) (k := w6.heap.size) (unhide Hss11) (by omega) (.slice A11 n11 c11))
  have Hrsy := hide (own_setOB (i := 4) (k := w6.heap.size) ho11 (by rw [hsx]; omega) (.slice A11 n11 c11))
  have HP : Hid (Res = ({ D with syms := ss, relas := rs }, 0)) := hide (by rw [← unhide HRes2]; exact Dy.pBody_7 rfl rfl (unhide HD) (unhide HSs) (by dsimp only; rw [unhide Hrl, ← unhide Hn9]; exact hrs))
  have Hn11 := hide hn11
  clear hrs hn11 ho11 Hf11 HO11 HRw11 Hss11 HRes2 HD HSs HB11 HK11
  go_wp2_with (first
    | ((with_reducible refine (@id (wpList _ _ _ (Oper.mk _ (Op.load 41 (.tmp 12)) _ _ _ none :: _) _ _) ?_)); refine wpList_load_row rfl 41 (.tmp 12) rfl w6.heap.size rfl 41 #[.slice A7 n7 c7, .string D.soname, .string D.run, .slice A9 n9 c9, .slice A11 n11 c11] (0, 0) _ (unhide HOy) Try.underlying41 rfl dyInfo ?_)
    | ((with_reducible refine (@id (wpList _ _ _ (Oper.mk none (Op.store 41 (.tmp 4) (.tmp 87)) _ _ _ none :: _) _ _) ?_)); refine wpList_store_row rfl 41 (.tmp 4) (.tmp 87) rfl (w.heap.size + 1) #[.slice A7 n7 c7, .string D.soname, .string D.run, .slice A9 n9 c9, .slice A11 n11 c11] rfl rfl 41 _ (unhide HKy) dyInfo rfl (dyOne _ _ _ _ _ _ _ _ _ _ _) ?_))
  refine bodyPost_ret (results_cell_tmp (P := Try.prog) rfl _ _ (w.heap.size + 1) 41 #[.slice A7 n7 c7, .string D.soname, .string D.run, .slice A9 n9 c9, .slice A11 n11 c11] (0, 0) _ rfl (setRow_heap _ _ _ _ _ _ (unhide HKy)) Try.underlying41 rfl dyInfo) rfl ?_
  refine parse_good (unhide HP) (below_setRow (unhide HBy) (Nat.le_succ _) _) (unhide HDn) (unhide Hn9) (unhide Hn11) (own_base (own_setRowB (unhide HRwy) (by omega) _) (by omega)) (own_base (own_setRowB (unhide Hssy) (by omega) _) (by omega)) (own_base (own_setRowB (unhide Hrsy) (by rw [hsx]; omega) _) (by rw [hsx]; omega))
end Go.Proofs.Ytdminnhfgdoibaa
namespace Go.Proofs.Ytdminnhfgdoibaa
set_option linter.unusedVariables false
set_option linter.unusedSimpArgs false
open Go.RowKit

theorem results_cell2_tmp2 {P : Program} {fn : Func} {p q r s : Tmp} {ty ty2 : TypeId} (h : fn.results = #[.cell p ty, .cell q ty2, .tmp r, .tmp s]) (tmps : Array Value) (w : World) (g g2 : Nat) (t t2 : TypeId) (cs cs2 : Array Value) (fr fr2 : Nat × Nat) (d d2 : TypeDesc)
    (hp : tmps.getD p undef = .pointer (some ⟨g, 0, none⟩)) (hg : w.heap[g]? = some (.cells cs t fr)) (hu : P.underlying ty = some d) (hd : (match d with | .struct _ | .array _ _ => true | _ => false) = true) (hi : (P.info? ty).map (·.size) = some cs.size)
    (hp2 : tmps.getD q undef = .pointer (some ⟨g2, 0, none⟩)) (hg2 : w.heap[g2]? = some (.cells cs2 t2 fr2)) (hu2 : P.underlying ty2 = some d2) (hd2 : (match d2 with | .struct _ | .array _ _ => true | _ => false) = true) (hi2 : (P.info? ty2).map (·.size) = some cs2.size) :
    (results fn tmps).run P w = .ok (.tuple #[.agg cs, .agg cs2, tmps.getD r undef, tmps.getD s undef]) w := by
  have hp' : tmps[p]?.getD undef = .pointer (some ⟨g, 0, none⟩) := by simpa using hp
  have hp2' : tmps[q]?.getD undef = .pointer (some ⟨g2, 0, none⟩) := by simpa using hp2
  simp [results, h, hp', hp2', asAddr, run_loadVar_row w g t ty cs fr d hg hu hd hi, run_loadVar_row w g2 t2 ty2 cs2 fr2 d2 hg2 hu2 hd2 hi2]
theorem yieldsB_load {P : Program} {ops : Array Oper} {o : Oper} {a : Act} {S : World → Prop} (hw : Region.wanted o (yielded ops a.tmps) = true) (ty : TypeId) (x : Operand) (ho : o.op = .load ty x)
    (g : Nat) (hx : a.eval x = .pointer (some ⟨g, 0, none⟩)) (t : TypeId) (cs : Array Value) (fr : Nat × Nat) (d : TypeDesc) (hg : ∀ w', S w' → w'.heap[g]? = some (.cells cs t fr))
    (hu : P.underlying ty = some d) (hd : (match d with | .struct _ | .array _ _ => true | _ => false) = true) (hi : (P.info? ty).map (·.size) = some cs.size) :
    YieldsIf P ops S o (.agg cs) a := by
  refine .inl ⟨hw, fun w' hw' => ?_⟩
  unfold execOp
  simp only [ho, hx, Instr.loadAt, Instr.sureAddr, Sem.run_bind, Sem.run_pure, Result.andThen_ok, run_loadVar_row _ g t ty cs fr d (hg w' hw') hu hd hi]
/-- A block without bytes is none that bytes are read from. -/
theorem Rd.setRowT {w : World} {B r n : Nat} {A : Option Addr} {l : List UInt8} {t : TypeId} {cells : List Value} (h : Rd w B 1 A n (bys l)) (hr : Blk w r t cells) (hc : ∀ u ∈ cells, ∀ z, u ≠ .int .u8 z) (cs : Array Value) : Rd (w.setRow r cs) B 1 A n (bys l) := by
  refine ⟨h.1, h.2.imp id ?_⟩
  rintro ⟨b, off, rfl, hb, hx⟩
  refine ⟨b, off, rfl, hb, fun j u hj => ?_⟩
  have h1 := hx j u hj
  by_cases hbr : b = r
  · subst hbr
    exfalso
    have hm := List.mem_of_getElem? hj
    unfold bys at hm
    obtain ⟨z, -, rfl⟩ := List.mem_map.1 hm
    rw [cell_of_row _ _ _ _ _ _ hr] at h1
    have h2 : cells[off + j]? = some (.int .u8 ((z.toNat : Nat) : Int)) := by simpa using h1
    exact hc _ (List.mem_of_getElem? h2) _ rfl
  · rw [cell_setRow_other _ _ _ _ hbr]
    exact h1
theorem NmM.setRowT {w : World} {B r : Nat} {b : List UInt8} {N : Dy.Names} {Ah As : Option Addr} {nh ch cs : Nat} {t : TypeId} {cells : List Value} (h : NmM w B b N Ah nh ch As cs) (hr : Blk w r t cells) (hc : ∀ u ∈ cells, ∀ z, u ≠ .int .u8 z) (cs2 : Array Value) : NmM (w.setRow r cs2) B b N Ah nh ch As cs := ⟨fun h0 => ⟨(h.h h0).1, (h.h h0).2.setRowT hr hc _⟩, h.hc, h.s.setRowT hr hc _, h.sc, h.fit⟩
theorem NmM.more {w : World} {B B2 : Nat} {b : List UInt8} {r : Dy.Names} {Ah As : Option Addr} {nh ch cs : Nat} (h : NmM w B b r Ah nh ch As cs) (hB : B ≤ B2) : NmM w B2 b r Ah nh ch As cs := ⟨fun h0 => ⟨(h.h h0).1, (h.h h0).2.more hB⟩, h.hc, h.s.more hB, h.sc, h.fit⟩
theorem NmM.below {w w' : World} {B : Nat} {b : List UInt8} {r : Dy.Names} {Ah As : Option Addr} {nh ch cs : Nat} (h : NmM w B b r Ah nh ch As cs) (hb : Below B w w') : NmM w' B b r Ah nh ch As cs := ⟨fun h0 => ⟨(h.h h0).1, (h.h h0).2.below hb⟩, h.hc, h.s.below hb, h.sc, h.fit⟩
theorem NmM.belowSz {w w' : World} {b : List UInt8} {r : Dy.Names} {Ah As : Option Addr} {nh ch cs : Nat} (h : NmM w w.heap.size b r Ah nh ch As cs) (hb : Below w.heap.size w w') : NmM w' w'.heap.size b r Ah nh ch As cs := (h.below hb).more hb.size
theorem NmM.nil (w : World) (B : Nat) (b : List UInt8) : NmM w B b ⟨0, 0, 0, 0⟩ none 0 0 none 0 := ⟨fun h => absurd h (Nat.lt_irrefl 0), Nat.le_refl _, Rd.none_ _ _ _ _, Nat.le_refl _, Nat.zero_lt_succ _, Nat.zero_le _⟩
theorem DynM.setRowB {w : World} {B k : Nat} {D : Dy.Dyn} {A1 A2 A3 : Option Addr} {c1 c2 c3 : Nat} (h : DynM w B D A1 c1 A2 c2 A3 c3) (hk : k < B) (cs : Array Value) : DynM (w.setRow k cs) B D A1 c1 A2 c2 A3 c3 := ⟨own_setRowB h.needed hk _, own_setRowB h.syms hk _, own_setRowB h.relas hk _⟩
theorem DynM.base {w : World} {B B2 : Nat} {D : Dy.Dyn} {A1 A2 A3 : Option Addr} {c1 c2 c3 : Nat} (h : DynM w B D A1 c1 A2 c2 A3 c3) (hk : B2 ≤ B) : DynM w B2 D A1 c1 A2 c2 A3 c3 := ⟨own_base h.needed hk, own_base h.syms hk, own_base h.relas hk⟩
/-- Is there a section, and is all well? -/
def Dy.has (b : List UInt8) (segs : List El.Sg) (N : Dy.Names) (q : Bool) : Prop :=
  (q = false ∧ N = ⟨0, 0, 0, 0⟩ ∧ ((Dy.parse b segs).2 ≠ 0 ∨ (Dy.open_ b segs).2 = none)) ∨ (q = true ∧ (Dy.parse b segs).2 = 0 ∧ ∃ L, Dy.open_ b segs = (0, some L) ∧ N = (Dy.names b (El.loads segs) L).2)
/-- What both answers. -/
def BothE (b : List UInt8) (segs : List El.Sg) (w : World) (e : Ending) (w' : World) : Prop := Below w.heap.size w w' ∧ ∃ A1 c1 A2 c2 A3 c3 N Ah nh ch A4 c4 q, e = .returned (.tuple #[.agg #[.slice A1 (Dy.parse b segs).1.needed.length c1, .string (Dy.parse b segs).1.soname, .string (Dy.parse b segs).1.run, .slice A2 (Dy.parse b segs).1.syms.length c2, .slice A3 (Dy.parse b segs).1.relas.length c3], .agg #[.int .u64 (N.buckets : Nat), .int .u64 (N.chain : Nat), .slice Ah nh ch, .slice A4 (24 * N.chain) c4], .bool q, .int .i64 (Dy.parse b segs).2]) ∧
  DynM w' w.heap.size (Dy.parse b segs).1 A1 c1 A2 c2 A3 c3 ∧ NmM w' w'.heap.size b N Ah nh ch A4 c4 ∧ Dy.has b segs N q
set_option maxRecDepth 100000 in
set_option maxHeartbeats 8000000 in
theorem both_any (A : Option Addr) (n c B : Nat) (b : List UInt8) (ty en ph : Int) (As : Option Addr) (ns cs : Nat) (segs : List El.Sg) (w : World) (hB : B ≤ w.heap.size) (hb : Rd w B 1 A n (bys b)) (hs : Rd w B 6 As ns (segCells segs)) (hn : n ≤ 4294967296) (hns : ns ≤ 4294967296) (hc : n ≤ c) (hfit : ∀ s ∈ segs, SgFit s) :
    Calls Try.prog 21 #[.slice A n c, .agg #[.int .u16 ty, .int .u64 en, .int .u64 ph, .slice As ns cs]] w (BothE b segs w) := by
  have hbl : b.length = n := by have := hb.1; simp [bys] at this; omega
  have e1 : (w.alloc (.cells #[.int .u16 ty, .int .u64 en, .int .u64 ph, .slice As ns cs] 27)).heap.size = w.heap.size + 1 := by simp
  have e2 : ((w.alloc (.cells #[.int .u16 ty, .int .u64 en, .int .u64 ph, .slice As ns cs] 27)).alloc (.cells #[.slice none 0 0, .string ⟨#[]⟩, .string ⟨#[]⟩, .slice none 0 0, .slice none 0 0] 41)).heap.size = w.heap.size + 1 + 1 := by simp
  have e3 : (((w.alloc (.cells #[.int .u16 ty, .int .u64 en, .int .u64 ph, .slice As ns cs] 27)).alloc (.cells #[.slice none 0 0, .string ⟨#[]⟩, .string ⟨#[]⟩, .slice none 0 0, .slice none 0 0] 41)).alloc (.cells #[.int .u64 0, .int .u64 0, .slice none 0 0, .slice none 0 0] 57)).heap.size = w.heap.size + 1 + 1 + 1 := by simp
  have hB0 : Below w.heap.size w (((w.alloc (.cells #[.int .u16 ty, .int .u64 en, .int .u64 ph, .slice As ns cs] 27)).alloc (.cells #[.slice none 0 0, .string ⟨#[]⟩, .string ⟨#[]⟩, .slice none 0 0, .slice none 0 0] 41)).alloc (.cells #[.int .u64 0, .int .u64 0, .slice none 0 0, .slice none 0 0] 57)) := (((Below.refl _ _).alloc (Nat.le_refl _) _).alloc (by rw [e1]; omega) _).alloc (by rw [e2]; omega) _
  have hK0 := (Blk.new (w.alloc (.cells #[.int .u16 ty, .int .u64 en, .int .u64 ph, .slice As ns cs] 27)) 41 [.slice none 0 0, .string ⟨#[]⟩, .string ⟨#[]⟩, .slice none 0 0, .slice none 0 0]).alloc (.cells #[.int .u64 0, .int .u64 0, .slice none 0 0, .slice none 0 0] 57)
  have hN0 := Blk.new ((w.alloc (.cells #[.int .u16 ty, .int .u64 en, .int .u64 ph, .slice As ns cs] 27)).alloc (.cells #[.slice none 0 0, .string ⟨#[]⟩, .string ⟨#[]⟩, .slice none 0 0, .slice none 0 0] 41)) 57 [.int .u64 0, .int .u64 0, .slice none 0 0, .slice none 0 0]
  rw [e1] at hK0
  rw [e2] at hN0
  have hH0 := ((Blk.new w 27 [.int .u16 ty, .int .u64 en, .int .u64 ph, .slice As ns cs]).alloc (.cells #[.slice none 0 0, .string ⟨#[]⟩, .string ⟨#[]⟩, .slice none 0 0, .slice none 0 0] 41)).alloc (.cells #[.int .u64 0, .int .u64 0, .slice none 0 0, .slice none 0 0] 57)
  have HKP := hide (fun (w' : World) (h : Below w.heap.size w w') => dparse_any A n c B b ty en ph As ns cs segs w' (Nat.le_trans hB h.size) (hb.below (h.mono hB)) (hs.below (h.mono hB)) hn hns hc hfit)
  have HKO := hide (fun (w' : World) (h : Below w.heap.size w w') => dopen_any A n c B b ty en ph As ns cs segs w' (Nat.le_trans hB h.size) (hb.below (h.mono hB)) (hs.below (h.mono hB)) hn hns hc hfit)
  have z0 := hH0.cell (i := 0) rfl
  have z1 := hH0.cell (i := 1) rfl
  have z2 := hH0.cell (i := 2) rfl
  have z3 := hH0.cell (i := 3) rfl
  have HB0 := hide hB0
  have HK0 := hide hK0
  have HN0 := hide hN0
  have HH0 := hide hH0
  have He3 := hide e3
  have hno : (Dy.open_ b segs).2 = none → (Dy.parse b segs).2 = 0 → (Dy.open_ b segs).1 = 0 := by
    intro h h2
    obtain ⟨⟨x, ox⟩, hx⟩ : ∃ y, Dy.open_ b segs = y := ⟨_, rfl⟩
    rw [hx] at h ⊢
    dsimp only at h ⊢
    subst h
    rw [Dy.parse_no hx] at h2
    exact h2
  have hNa : ∀ L, Dy.open_ b segs = (0, some L) → (Dy.parse b segs).2 = 0 → (Dy.names b (El.loads segs) L).1 = 0 := by
    intro L h h2
    rw [Dy.parse_some h] at h2
    cases ht : Dy.table b.length (El.loads segs) L 5 10 with
    | none => rw [ht, Dy.pBody_1] at h2; exact absurd h2 (by decide)
    | some t =>
      rw [ht] at h2
      by_cases h3 : (Dy.names b (El.loads segs) L).1 = 0
      · exact h3
      · rw [Dy.pBody_2 h3] at h2
        exact h2
  obtain ⟨⟨D, px⟩, hP⟩ : ∃ x, Dy.parse b segs = x := ⟨_, rfl⟩
  have hBE : ∀ e w', (Below w.heap.size w w' ∧ ∃ A1 c1 A2 c2 A3 c3 N Ah nh ch A4 c4 q, e = .returned (.tuple #[.agg #[.slice A1 D.needed.length c1, .string D.soname, .string D.run, .slice A2 D.syms.length c2, .slice A3 D.relas.length c3], .agg #[.int .u64 (N.buckets : Nat), .int .u64 (N.chain : Nat), .slice Ah nh ch, .slice A4 (24 * N.chain) c4], .bool q, .int .i64 px]) ∧ DynM w' w.heap.size D A1 c1 A2 c2 A3 c3 ∧ NmM w' w'.heap.size b N Ah nh ch A4 c4 ∧ Dy.has b segs N q) → BothE b segs w e w' := by
    intro e w' h
    unfold BothE
    rw [hP]
    exact h
  have hkp := unhide HKP
  rw [hP] at hkp
  have HKP2 := hide hkp
  have HP := hide hP
  have Hno := hide hno
  have HNa := hide hNa
  have HBE := hide hBE
  have Hbl := hide hbl
  clear hb hs hfit hB0 hK0 hN0 hH0 e1 e2 e3 hbl hno hNa hP hkp HKP hBE
  go_enter Try.func21, Try.ntmps21
  go_wp2_with fail
  refine ((unhide HKP2) _ (unhide HB0)).mono ?_
  rintro e w1 ⟨hb1, A1, c1, A2, c2, A3, c3, rfl, hdy⟩
  dsimp only at hdy ⊢
  rw [unhide He3] at hdy
  have hbt := (unhide HB0).trans (hb1.mono (unhide HB0).size)
  have hs1 := hb1.size
  rw [unhide He3] at hs1
  have HB1 : Hid (Below w.heap.size w (w1.alloc (.cells #[.slice A1 D.needed.length c1, .string D.soname, .string D.run, .slice A2 D.syms.length c2, .slice A3 D.relas.length c3] 41))) := hide (hbt.alloc hbt.size _)
  have HK1 : Hid (Blk (w1.alloc (.cells #[.slice A1 D.needed.length c1, .string D.soname, .string D.run, .slice A2 D.syms.length c2, .slice A3 D.relas.length c3] 41)) (w.heap.size + 1) 41 [.slice none 0 0, .string ⟨#[]⟩, .string ⟨#[]⟩, .slice none 0 0, .slice none 0 0]) := hide (((unhide HK0).belowSz hb1).alloc _)
  have HN1 : Hid (Blk (w1.alloc (.cells #[.slice A1 D.needed.length c1, .string D.soname, .string D.run, .slice A2 D.syms.length c2, .slice A3 D.relas.length c3] 41)) (w.heap.size + 1 + 1) 57 [.int .u64 0, .int .u64 0, .slice none 0 0, .slice none 0 0]) := hide (((unhide HN0).belowSz hb1).alloc _)
  have HD1 : Hid (Blk (w1.alloc (.cells #[.slice A1 D.needed.length c1, .string D.soname, .string D.run, .slice A2 D.syms.length c2, .slice A3 D.relas.length c3] 41)) w1.heap.size 41 [.slice A1 D.needed.length c1, .string D.soname, .string D.run, .slice A2 D.syms.length c2, .slice A3 D.relas.length c3]) := hide (Blk.new w1 41 [.slice A1 D.needed.length c1, .string D.soname, .string D.run, .slice A2 D.syms.length c2, .slice A3 D.relas.length c3])
  have HDy1 : Hid (DynM (w1.alloc (.cells #[.slice A1 D.needed.length c1, .string D.soname, .string D.run, .slice A2 D.syms.length c2, .slice A3 D.relas.length c3] 41)) (w.heap.size + 1 + 1 + 1) D A1 c1 A2 c2 A3 c3) := hide (hdy.belowSz ((Below.refl _ _).alloc (Nat.le_refl _) _))
  have hh1 := ((unhide HH0).belowSz hb1).alloc (.cells #[.slice A1 D.needed.length c1, .string D.soname, .string D.run, .slice A2 D.syms.length c2, .slice A3 D.relas.length c3] 41)
  have y0 := hh1.cell (i := 0) rfl
  have y1 := hh1.cell (i := 1) rfl
  have y2 := hh1.cell (i := 2) rfl
  have y3 := hh1.cell (i := 3) rfl
  clear hb1 hdy hbt hh1 HB0 HK0 HN0 HH0 HKP2 z0 z1 z2 z3 He3
  go_wp2_with fail
  refine ((unhide HKO) _ (unhide HB1)).mono ?_
  intro e w2 h2
  have hb2 := h2.1
  have HB2 := hide ((unhide HB1).trans (hb2.mono (unhide HB1).size))
  have HK2 := hide ((unhide HK1).belowSz hb2)
  have HN2 := hide ((unhide HN1).belowSz hb2)
  have HD2 := hide ((unhide HD1).belowSz hb2)
  have HDy2 := hide ((unhide HDy1).belowSz hb2)
  have hdv : (#[.slice A1 D.needed.length c1, .string D.soname, .string D.run, .slice A2 D.syms.length c2, .slice A3 D.relas.length c3] : Array Value).all (·.oneCell') = true := dyOne _ _ _ _ _ _ _ _ _ _ _
  have hs2 : w1.heap.size < w2.heap.size := (unhide HD2).lt
  clear hb2 y0 y1 y2 y3 HB1 HK1 HN1 HD1 HDy1 HKO
  have HS4 : Hid (∀ W, W = (w2.setRow (w.heap.size + 1) #[.slice A1 D.needed.length c1, .string D.soname, .string D.run, .slice A2 D.syms.length c2, .slice A3 D.relas.length c3]).setRow (w.heap.size + 1 + 1) #[.int .u64 0, .int .u64 0, .slice none 0 0, .slice none 0 0] → Blk W (w.heap.size + 1) 41 [.slice A1 D.needed.length c1, .string D.soname, .string D.run, .slice A2 D.syms.length c2, .slice A3 D.relas.length c3] ∧ Blk W (w.heap.size + 1 + 1) 57 [.int .u64 0, .int .u64 0, .slice none 0 0, .slice none 0 0] ∧ Below w.heap.size w W ∧ DynM W w.heap.size D A1 c1 A2 c2 A3 c3) := hide (by
    intro W hW
    subst hW
    refine ⟨(setRow_other _ _ _ _ (by omega)).trans (setRow_heap _ _ _ _ _ _ (unhide HK2)), setRow_heap _ _ _ _ _ _ ((setRow_other _ _ _ _ (by omega)).trans (unhide HN2)), below_setRow (below_setRow (unhide HB2) (by omega) _) (by omega) _, ?_⟩
    exact (((unhide HDy2).setRowB (by omega) _).setRowB (by omega) _).base (by omega))
  rcases h2 with ⟨-, ⟨q, ho, rfl, hq⟩ | ⟨g, Al, k, cl, L, gm, ho, rfl, hds, hok⟩⟩
  · have HHas : Hid (Dy.has b segs ⟨0, 0, 0, 0⟩ false) := hide (.inl ⟨rfl, rfl, .inr ho⟩)
    by_cases hx0 : px = 0
    · have hq0 := hq ((unhide Hno) ho (by rw [unhide HP]; exact hx0))
      subst hq0
      subst hx0
      obtain ⟨xo, hxo⟩ : ∃ x, (Dy.open_ b segs).1 = x := ⟨_, rfl⟩
      rw [hxo]
      clear hq ho hxo
      go_wp2_with (first
        | ((with_reducible refine (@id (wpList _ _ _ (Oper.mk _ (Op.load 41 (.tmp 8)) _ _ _ none :: _) _ _) ?_)); refine wpList_load_row rfl 41 (.tmp 8) rfl w1.heap.size rfl 41 #[.slice A1 D.needed.length c1, .string D.soname, .string D.run, .slice A2 D.syms.length c2, .slice A3 D.relas.length c3] (0, 0) _ (unhide HD2) Try.underlying41 rfl dyInfo ?_)
        | ((with_reducible refine (@id (wpList _ _ _ (Oper.mk none (Op.store 41 (.tmp 4) (.tmp 32)) _ _ _ none :: _) _ _) ?_)); refine wpList_store_row rfl 41 (.tmp 4) (.tmp 32) rfl (w.heap.size + 1) #[.slice A1 D.needed.length c1, .string D.soname, .string D.run, .slice A2 D.syms.length c2, .slice A3 D.relas.length c3] rfl rfl 41 _ (unhide HK2) dyInfo rfl hdv ?_)
        | ((with_reducible refine (@id (wpList _ _ _ (Oper.mk none (Op.store 57 (.tmp 5) (.tmp 33)) _ _ _ none :: _) _ _) ?_)); refine wpList_store_row rfl 57 (.tmp 5) (.tmp 33) rfl (w.heap.size + 1 + 1) #[.int .u64 0, .int .u64 0, .slice none 0 0, .slice none 0 0] rfl rfl 57 _ ((setRow_other _ _ _ _ (by omega)).trans (unhide HN2)) nmInfo rfl (nmOne _ _ _ _ _ _ _ _) ?_))
      obtain ⟨gK, gN, gB, gD⟩ := (unhide HS4) _ rfl
      refine bodyPost_ret (results_cell2_tmp2 (P := Try.prog) rfl _ _ (w.heap.size + 1) (w.heap.size + 1 + 1) 41 57 #[.slice A1 D.needed.length c1, .string D.soname, .string D.run, .slice A2 D.syms.length c2, .slice A3 D.relas.length c3] #[.int .u64 0, .int .u64 0, .slice none 0 0, .slice none 0 0] (0, 0) (0, 0) _ _ rfl gK Try.underlying41 rfl dyInfo rfl gN Try.underlying57 rfl nmInfo) rfl ?_
      exact (unhide HBE) _ _ ⟨gB, A1, c1, A2, c2, A3, c3, ⟨0, 0, 0, 0⟩, none, 0, 0, none, 0, false, rfl, gD, NmM.nil _ _ _, unhide HHas⟩
    · obtain ⟨xo, hxo⟩ : ∃ x, (Dy.open_ b segs).1 = x := ⟨_, rfl⟩
      rw [hxo]
      clear hq ho hxo
      go_wp2_with (first
        | ((with_reducible refine (@id (wpList _ _ _ (Oper.mk _ (Op.load 41 (.tmp 8)) _ _ _ none :: _) _ _) ?_)); refine wpList_load_row rfl 41 (.tmp 8) rfl w1.heap.size rfl 41 #[.slice A1 D.needed.length c1, .string D.soname, .string D.run, .slice A2 D.syms.length c2, .slice A3 D.relas.length c3] (0, 0) _ (unhide HD2) Try.underlying41 rfl dyInfo ?_)
        | ((with_reducible refine (@id (wpList _ _ _ (Oper.mk none (Op.store 41 (.tmp 4) (.tmp 32)) _ _ _ none :: _) _ _) ?_)); refine wpList_store_row rfl 41 (.tmp 4) (.tmp 32) rfl (w.heap.size + 1) #[.slice A1 D.needed.length c1, .string D.soname, .string D.run, .slice A2 D.syms.length c2, .slice A3 D.relas.length c3] rfl rfl 41 _ (unhide HK2) dyInfo rfl hdv ?_)
        | ((with_reducible refine (@id (wpList _ _ _ (Oper.mk none (Op.store 57 (.tmp 5) (.tmp 33)) _ _ _ none :: _) _ _) ?_)); refine wpList_store_row rfl 57 (.tmp 5) (.tmp 33) rfl (w.heap.size + 1 + 1) #[.int .u64 0, .int .u64 0, .slice none 0 0, .slice none 0 0] rfl rfl 57 _ ((setRow_other _ _ _ _ (by omega)).trans (unhide HN2)) nmInfo rfl (nmOne _ _ _ _ _ _ _ _) ?_))
      obtain ⟨gK, gN, gB, gD⟩ := (unhide HS4) _ rfl
      refine bodyPost_ret (results_cell2_tmp2 (P := Try.prog) rfl _ _ (w.heap.size + 1) (w.heap.size + 1 + 1) 41 57 #[.slice A1 D.needed.length c1, .string D.soname, .string D.run, .slice A2 D.syms.length c2, .slice A3 D.relas.length c3] #[.int .u64 0, .int .u64 0, .slice none 0 0, .slice none 0 0] (0, 0) (0, 0) _ _ rfl gK Try.underlying41 rfl dyInfo rfl gN Try.underlying57 rfl nmInfo) rfl ?_
      exact (unhide HBE) _ _ ⟨gB, A1, c1, A2, c2, A3, c3, ⟨0, 0, 0, 0⟩, none, 0, 0, none, 0, false, rfl, gD, NmM.nil _ _ _, unhide HHas⟩
  by_cases hx0 : px = 0
  case neg =>
    have HHas : Hid (Dy.has b segs ⟨0, 0, 0, 0⟩ false) := hide (.inl ⟨rfl, rfl, .inl (by rw [unhide HP]; exact hx0)⟩)
    clear hds hok ho
    go_wp2_with (first
      | ((with_reducible refine (@id (wpList _ _ _ (Oper.mk _ (Op.load 41 (.tmp 8)) _ _ _ none :: _) _ _) ?_)); refine wpList_load_row rfl 41 (.tmp 8) rfl w1.heap.size rfl 41 #[.slice A1 D.needed.length c1, .string D.soname, .string D.run, .slice A2 D.syms.length c2, .slice A3 D.relas.length c3] (0, 0) _ (unhide HD2) Try.underlying41 rfl dyInfo ?_)
      | ((with_reducible refine (@id (wpList _ _ _ (Oper.mk none (Op.store 41 (.tmp 4) (.tmp 32)) _ _ _ none :: _) _ _) ?_)); refine wpList_store_row rfl 41 (.tmp 4) (.tmp 32) rfl (w.heap.size + 1) #[.slice A1 D.needed.length c1, .string D.soname, .string D.run, .slice A2 D.syms.length c2, .slice A3 D.relas.length c3] rfl rfl 41 _ (unhide HK2) dyInfo rfl hdv ?_)
      | ((with_reducible refine (@id (wpList _ _ _ (Oper.mk none (Op.store 57 (.tmp 5) (.tmp 33)) _ _ _ none :: _) _ _) ?_)); refine wpList_store_row rfl 57 (.tmp 5) (.tmp 33) rfl (w.heap.size + 1 + 1) #[.int .u64 0, .int .u64 0, .slice none 0 0, .slice none 0 0] rfl rfl 57 _ ((setRow_other _ _ _ _ (by omega)).trans (unhide HN2)) nmInfo rfl (nmOne _ _ _ _ _ _ _ _) ?_))
    obtain ⟨gK, gN, gB, gD⟩ := (unhide HS4) _ rfl
    refine bodyPost_ret (results_cell2_tmp2 (P := Try.prog) rfl _ _ (w.heap.size + 1) (w.heap.size + 1 + 1) 41 57 #[.slice A1 D.needed.length c1, .string D.soname, .string D.run, .slice A2 D.syms.length c2, .slice A3 D.relas.length c3] #[.int .u64 0, .int .u64 0, .slice none 0 0, .slice none 0 0] (0, 0) (0, 0) _ _ rfl gK Try.underlying41 rfl dyInfo rfl gN Try.underlying57 rfl nmInfo) rfl ?_
    exact (unhide HBE) _ _ ⟨gB, A1, c1, A2, c2, A3, c3, ⟨0, 0, 0, 0⟩, none, 0, 0, none, 0, false, rfl, gD, NmM.nil _ _ _, unhide HHas⟩
  have hNx := (unhide HNa) L ho (by rw [unhide HP]; exact hx0)
  obtain ⟨d, hd⟩ : ∃ d : Ds, (⟨A, n, c, b, ty, en, ph, As, ns, cs, segs, Al, k, cl, L, gm⟩ : Ds) = d := ⟨_, rfl⟩
  have dm : d.m = n := by rw [← hd]
  have db : d.b = b := by rw [← hd]
  have dsg : d.segs = segs := by rw [← hd]
  have dL : d.L = L := by rw [← hd]
  rw [hd] at hds hok
  obtain ⟨B1, hB1⟩ : ∃ x, (w1.alloc (.cells #[.slice A1 D.needed.length c1, .string D.soname, .string D.run, .slice A2 D.syms.length c2, .slice A3 D.relas.length c3] 41)).heap.size = x := ⟨_, rfl⟩
  rw [hB1] at hds
  have hds2 : DsM w2 B1 g d d.L := by rw [dL]; exact hds
  have KN := names_any B1 g d w2 hds2 hok (by rw [db, dm]; exact unhide Hbl)
  rw [dsg, db, dL] at KN
  have HHas : Hid (∀ N, (Dy.names b (El.loads segs) L).2 = N → Dy.has b segs N true) := hide (fun N h => .inr ⟨rfl, by rw [unhide HP]; exact hx0, L, ho, h.symm⟩)
  obtain ⟨⟨nx, N⟩, hN⟩ : ∃ x, Dy.names b (El.loads segs) L = x := ⟨_, rfl⟩
  rw [hN] at KN hNx
  dsimp only at hNx
  subst hNx
  have hhas := (unhide HHas) N (by rw [hN])
  have HHas2 := hide hhas
  have HKN := hide KN
  have hB1s : B1 ≤ w2.heap.size := hds2.sz
  subst hx0
  clear hd hds hok dm db dsg dL hB1 hds2 KN hN hhas HHas ho
  go_wp2_with fail
  refine (unhide HKN).mono ?_
  rintro e w3 ⟨Ah, nh, ch, A4, c4, rfl, hnm, hb3⟩
  dsimp only at hnm ⊢
  have hnm2 : NmM w3 w3.heap.size b N Ah nh ch A4 c4 := hnm.more (Nat.le_trans hB1s hb3.size)
  obtain ⟨N1, N2, N3, N4⟩ := N
  dsimp only at hnm hnm2 ⊢
  obtain ⟨sl, hsl⟩ : ∃ x, 24 * N2 = x := ⟨_, rfl⟩
  have Hsl := hide hsl
  rw [hsl]
  have HB3 : Hid (Below w.heap.size w (w3.alloc (.cells #[.int .u64 (N1 : Nat), .int .u64 (N2 : Nat), .slice Ah nh ch, .slice A4 sl c4] 57))) := hide (((unhide HB2).trans (hb3.mono (unhide HB2).size)).alloc ((unhide HB2).trans (hb3.mono (unhide HB2).size)).size _)
  have HK3 : Hid (Blk (w3.alloc (.cells #[.int .u64 (N1 : Nat), .int .u64 (N2 : Nat), .slice Ah nh ch, .slice A4 sl c4] 57)) (w.heap.size + 1) 41 [.slice none 0 0, .string ⟨#[]⟩, .string ⟨#[]⟩, .slice none 0 0, .slice none 0 0]) := hide (((unhide HK2).belowSz hb3).alloc _)
  have HN3 : Hid (Blk (w3.alloc (.cells #[.int .u64 (N1 : Nat), .int .u64 (N2 : Nat), .slice Ah nh ch, .slice A4 sl c4] 57)) (w.heap.size + 1 + 1) 57 [.int .u64 0, .int .u64 0, .slice none 0 0, .slice none 0 0]) := hide (((unhide HN2).belowSz hb3).alloc _)
  have HD3 : Hid (Blk (w3.alloc (.cells #[.int .u64 (N1 : Nat), .int .u64 (N2 : Nat), .slice Ah nh ch, .slice A4 sl c4] 57)) w1.heap.size 41 [.slice A1 D.needed.length c1, .string D.soname, .string D.run, .slice A2 D.syms.length c2, .slice A3 D.relas.length c3]) := hide (((unhide HD2).belowSz hb3).alloc _)
  have HV3 : Hid (Blk (w3.alloc (.cells #[.int .u64 (N1 : Nat), .int .u64 (N2 : Nat), .slice Ah nh ch, .slice A4 sl c4] 57)) w3.heap.size 57 [.int .u64 (N1 : Nat), .int .u64 (N2 : Nat), .slice Ah nh ch, .slice A4 sl c4]) := hide (Blk.new w3 57 [.int .u64 (N1 : Nat), .int .u64 (N2 : Nat), .slice Ah nh ch, .slice A4 sl c4])
  have HDy3 : Hid (DynM (w3.alloc (.cells #[.int .u64 (N1 : Nat), .int .u64 (N2 : Nat), .slice Ah nh ch, .slice A4 sl c4] 57)) (w.heap.size + 1 + 1 + 1) D A1 c1 A2 c2 A3 c3) := hide (((unhide HDy2).belowSz hb3).belowSz ((Below.refl _ _).alloc (Nat.le_refl _) _))
  have HNm3 : Hid (NmM (w3.alloc (.cells #[.int .u64 (N1 : Nat), .int .u64 (N2 : Nat), .slice Ah nh ch, .slice A4 sl c4] 57)) (w3.alloc (.cells #[.int .u64 (N1 : Nat), .int .u64 (N2 : Nat), .slice Ah nh ch, .slice A4 sl c4] 57)).heap.size b ⟨N1, N2, N3, N4⟩ Ah nh ch A4 c4) := hide (hnm2.belowSz ((Below.refl _ _).alloc (Nat.le_refl _) _))
  have hs3 : w2.heap.size ≤ w3.heap.size := hb3.size
  clear hnm hnm2 hb3 hsl HB2 HK2 HN2 HD2 HDy2 HS4 HKN
  go_wp2_with fail
  have gK : Blk (w3.alloc (.cells #[.int .u64 (N1 : Nat), .int .u64 (N2 : Nat), .slice Ah nh ch, .slice A4 sl c4] 57)).drew (w.heap.size + 1) 41 [.slice none 0 0, .string ⟨#[]⟩, .string ⟨#[]⟩, .slice none 0 0, .slice none 0 0] := (unhide HK3).drew
  have gN : Blk (w3.alloc (.cells #[.int .u64 (N1 : Nat), .int .u64 (N2 : Nat), .slice Ah nh ch, .slice A4 sl c4] 57)).drew (w.heap.size + 1 + 1) 57 [.int .u64 0, .int .u64 0, .slice none 0 0, .slice none 0 0] := (unhide HN3).drew
  have HSD : Hid (Blk (w3.alloc (.cells #[.int .u64 (N1 : Nat), .int .u64 (N2 : Nat), .slice Ah nh ch, .slice A4 sl c4] 57)).drew w1.heap.size 41 [.slice A1 D.needed.length c1, .string D.soname, .string D.run, .slice A2 D.syms.length c2, .slice A3 D.relas.length c3] ∧ Blk (w3.alloc (.cells #[.int .u64 (N1 : Nat), .int .u64 (N2 : Nat), .slice Ah nh ch, .slice A4 sl c4] 57)).drew w3.heap.size 57 [.int .u64 (N1 : Nat), .int .u64 (N2 : Nat), .slice Ah nh ch, .slice A4 sl c4]) := hide ⟨(unhide HD3).drew, (unhide HV3).drew⟩
  have HEnd : Hid (∀ W, W = ((w3.alloc (.cells #[.int .u64 (N1 : Nat), .int .u64 (N2 : Nat), .slice Ah nh ch, .slice A4 sl c4] 57)).drew.setRow (w.heap.size + 1) #[.slice A1 D.needed.length c1, .string D.soname, .string D.run, .slice A2 D.syms.length c2, .slice A3 D.relas.length c3]).setRow (w.heap.size + 1 + 1) #[.int .u64 (N1 : Nat), .int .u64 (N2 : Nat), .slice Ah nh ch, .slice A4 sl c4] → Blk W (w.heap.size + 1) 41 [.slice A1 D.needed.length c1, .string D.soname, .string D.run, .slice A2 D.syms.length c2, .slice A3 D.relas.length c3] ∧ Blk W (w.heap.size + 1 + 1) 57 [.int .u64 (N1 : Nat), .int .u64 (N2 : Nat), .slice Ah nh ch, .slice A4 sl c4] ∧ Below w.heap.size w W ∧ DynM W w.heap.size D A1 c1 A2 c2 A3 c3 ∧ NmM W W.heap.size b ⟨N1, N2, N3, N4⟩ Ah nh ch A4 c4) := hide (by
    intro W hW
    subst hW
    refine ⟨(setRow_other _ _ _ _ (by omega)).trans (setRow_heap _ _ _ _ _ _ gK), setRow_heap _ _ _ _ _ _ ((setRow_other _ _ _ _ (by omega)).trans gN), below_setRow (below_setRow (below_drew' (unhide HB3)) (by omega) _) (by omega) _, ?_, ?_⟩
    · exact ((((unhide HDy3).belowSz (below_drew' (Below.refl _ _))).setRowB (by omega) _).setRowB (by omega) _).base (by omega)
    · have h1 := ((unhide HNm3).belowSz (below_drew' (Below.refl _ _))).setRowT gK (by intro u hu z e; simp at hu; subst e; simp at hu) #[.slice A1 D.needed.length c1, .string D.soname, .string D.run, .slice A2 D.syms.length c2, .slice A3 D.relas.length c3]
      have h2 := h1.setRowT (r := w.heap.size + 1 + 1) (t := 57) (cells := [.int .u64 0, .int .u64 0, .slice none 0 0, .slice none 0 0]) ((setRow_other _ _ _ _ (by omega)).trans gN) (by intro u hu z e; simp at hu; subst e; simp at hu) #[.int .u64 (N1 : Nat), .int .u64 (N2 : Nat), .slice Ah nh ch, .slice A4 sl c4]
      simpa using h2)
  refine wp_region_held_drew (S := fun w' => Blk w' w1.heap.size 41 [.slice A1 D.needed.length c1, .string D.soname, .string D.run, .slice A2 D.syms.length c2, .slice A3 D.relas.length c3] ∧ Blk w' w3.heap.size 57 [.int .u64 (N1 : Nat), .int .u64 (N2 : Nat), .slice Ah nh ch, .slice A4 sl c4]) (by kernel_rfl) (unhide HSD) (fun HS0 => ?_)
  refine takeD (i := 0) (d := some 40) (v := .agg #[.slice A1 D.needed.length c1, .string D.soname, .string D.run, .slice A2 D.syms.length c2, .slice A3 D.relas.length c3]) rfl rfl (by kernel_rfl) (by kernel_rfl) (by kernel_rfl) (fun _ _ _ h => h) (yieldsB_load (by rfl) 41 (.tmp 8) rfl w1.heap.size rfl 41 #[.slice A1 D.needed.length c1, .string D.soname, .string D.run, .slice A2 D.syms.length c2, .slice A3 D.relas.length c3] (0, 0) _ (fun w' h => h.1) Try.underlying41 rfl dyInfo) HS0 ?_
  simp only [Act.put, List.setIfInBounds_toArray, List.set_cons_zero, List.set_cons_succ]
  refine takeD (i := 1) (d := some 41) (v := .agg #[.int .u64 (N1 : Nat), .int .u64 (N2 : Nat), .slice Ah nh ch, .slice A4 sl c4]) rfl rfl (by kernel_rfl) (by kernel_rfl) (by kernel_rfl) (fun _ _ _ h => h) (yieldsB_load (by rfl) 57 (.tmp 12) rfl w3.heap.size rfl 57 #[.int .u64 (N1 : Nat), .int .u64 (N2 : Nat), .slice Ah nh ch, .slice A4 sl c4] (0, 0) _ (fun w' h => h.2) Try.underlying57 rfl nmInfo) HS0 ?_
  simp only [Act.put, List.setIfInBounds_toArray, List.set_cons_zero, List.set_cons_succ]
  refine wpAnyH_ready (rs := [2]) (by kernel_rfl) (by simp) ?_
  refine AllReadyH.cons (i := 2) rfl (fun K hK => ?_) AllReadyH.nil
  rw [if_pos (by rfl)]
  refine wp_store_row 41 (.tmp 4) (.tmp 40) rfl (w.heap.size + 1) #[.slice A1 D.needed.length c1, .string D.soname, .string D.run, .slice A2 D.syms.length c2, .slice A3 D.relas.length c3] rfl rfl 41 _ gK dyInfo rfl hdv ?_
  refine hK.out _ _ ⟨(setRow_other _ _ _ _ (by omega)).trans (unhide HSD).1, (setRow_other _ _ _ _ (by omega)).trans (unhide HSD).2⟩ (fun hHeld => ?_)
  clear hK K HS0
  have HS0 := hHeld
  clear hHeld
  (try simp only [Act.put, List.setIfInBounds_toArray, List.set_cons_zero, List.set_cons_succ])
  refine wpAnyH_ready (rs := [3]) (by kernel_rfl) (by simp) ?_
  refine AllReadyH.cons (i := 3) rfl (fun K hK => ?_) AllReadyH.nil
  rw [if_pos (by rfl)]
  refine wp_store_row 57 (.tmp 5) (.tmp 41) rfl (w.heap.size + 1 + 1) #[.int .u64 (N1 : Nat), .int .u64 (N2 : Nat), .slice Ah nh ch, .slice A4 sl c4] rfl rfl 57 _ ((setRow_other _ _ _ _ (by omega)).trans gN) nmInfo rfl (nmOne _ _ _ _ _ _ _ _) ?_
  refine hK.out _ _ ⟨(setRow_other _ _ _ _ (by omega)).trans HS0.1, (setRow_other _ _ _ _ (by omega)).trans HS0.2⟩ (fun hHeld => ?_)
  clear hK K HS0
  have HS0 := hHeld
  clear hHeld
  (try simp only [Act.put, List.setIfInBounds_toArray, List.set_cons_zero, List.set_cons_succ])
  refine takeD (i := 4) (d := some 6) (v := ?_) rfl rfl (by kernel_rfl) (by kernel_rfl) (by kernel_rfl) (fun _ _ _ h => h) (Or.inl ⟨by rfl, ?y4⟩) HS0 ?_
  case y4 => (intro w' hSw; (try dsimp only at hSw); go_simp; (try with_reducible rfl))
  simp only [Act.put, List.setIfInBounds_toArray, List.set_cons_zero, List.set_cons_succ]
  refine takeD (i := 5) (d := some 7) (v := ?_) rfl rfl (by kernel_rfl) (by kernel_rfl) (by kernel_rfl) (fun _ _ _ h => h) (Or.inl ⟨by rfl, ?y5⟩) HS0 ?_
  case y5 => (intro w' hSw; (try dsimp only at hSw); go_simp; (try with_reducible rfl))
  simp only [Act.put, List.setIfInBounds_toArray, List.set_cons_zero, List.set_cons_succ]
  refine wpAnyH_done (by kernel_rfl) ?_ _
  clear HS0
  go_wp2_with fail
  obtain ⟨fK, fN, fB, fD, fM⟩ := (unhide HEnd) _ rfl
  refine bodyPost_ret (results_cell2_tmp2 (P := Try.prog) rfl _ _ (w.heap.size + 1) (w.heap.size + 1 + 1) 41 57 #[.slice A1 D.needed.length c1, .string D.soname, .string D.run, .slice A2 D.syms.length c2, .slice A3 D.relas.length c3] #[.int .u64 (N1 : Nat), .int .u64 (N2 : Nat), .slice Ah nh ch, .slice A4 sl c4] (0, 0) (0, 0) _ _ rfl fK Try.underlying41 rfl dyInfo rfl fN Try.underlying57 rfl nmInfo) rfl ?_
  refine (unhide HBE) _ _ ⟨fB, A1, c1, A2, c2, A3, c3, ⟨N1, N2, N3, N4⟩, Ah, nh, ch, A4, c4, true, ?_, fD, fM, unhide HHas2⟩
  show _ = Ending.returned (.tuple #[.agg #[.slice A1 D.needed.length c1, .string D.soname, .string D.run, .slice A2 D.syms.length c2, .slice A3 D.relas.length c3], .agg #[.int .u64 (N1 : Nat), .int .u64 (N2 : Nat), .slice Ah nh ch, .slice A4 (24 * N2) c4], .bool true, .int .i64 0])
  rw [unhide Hsl]
  rfl
end Go.Proofs.Ytdminnhfgdoibaa
namespace Go.Proofs.Ytdminnhfgdoibaa
set_option linter.unusedVariables false
set_option linter.unusedSimpArgs false
open Go.RowKit

def lkV (l : List Nat) : List Value := l.map fun x => .int .u64 (x : Nat)
theorem lkTy : SlTy Try.prog 60 24 1 8 := slTy_mk (z := .int .u64 0) Try.underlying60 (by kernel_rfl) rfl (by omega) (by omega)
namespace Dy
theorem links_zero {b : List UInt8} {n : Names} : ∀ k, linksFrom b n k 0 = ([], true)
  | 0 => rfl
  | k + 1 => by rw [linksFrom, if_pos rfl]
theorem links_out {b : List UInt8} {n : Names} {i : Nat} (hi : ¬ i = 0) (h : n.chain ≤ i) : ∀ k, linksFrom b n k i = ([], false)
  | 0 => by rw [linksFrom, decide_eq_false hi]
  | k + 1 => by rw [linksFrom, if_neg hi, if_pos h]
theorem links_on {b : List UInt8} {n : Names} {i k : Nat} (hi : ¬ i = 0) (h : ¬ n.chain ≤ i) : linksFrom b n (k + 1) i = (i :: (linksFrom b n k (Wd.num b (n.hash + 8 + 4 * n.buckets + 4 * i) 4)).1, (linksFrom b n k (Wd.num b (n.hash + 8 + 4 * n.buckets + 4 * i) 4)).2) := by rw [linksFrom, if_neg hi, if_neg h]
end Dy
/-- What links answers. -/
def LinksE (r : List Nat × Bool) (w : World) (e : Ending) (w' : World) : Prop := ∃ A c, e = .returned (.tuple #[.slice A r.1.length c, .bool r.2]) ∧ w'.ownsRow w.heap.size 24 1 (.slice A r.1.length c) r.1.length (lkV r.1) ∧ Below w.heap.size w w'
theorem linksE_mk {r : List Nat × Bool} {l : List Nat} {q : Bool} {A : Option Addr} {c : Nat} {w w' : World} (h : r = (l, q)) (ho : w'.ownsRow w.heap.size 24 1 (.slice A l.length c) l.length (lkV l)) (hb : Below w.heap.size w w') : LinksE r w (.returned (.tuple #[.slice A l.length c, .bool q])) w' := by
  subst h
  exact ⟨A, c, rfl, ho, hb⟩
set_option maxRecDepth 100000 in
set_option maxHeartbeats 4000000 in
theorem links_any (B : Nat) (b : List UInt8) (N : Dy.Names) (Ah : Option Addr) (nh ch : Nat) (A4 : Option Addr) (c4 : Nat) (name : ByteArray) (w : World) (hB : B ≤ w.heap.size) (h : NmM w B b N Ah nh ch A4 c4) (hname : name.size ≤ 4294967296) :
    Calls Try.prog 22 #[.agg #[.int .u64 (N.buckets : Nat), .int .u64 (N.chain : Nat), .slice Ah nh ch, .slice A4 (24 * N.chain) c4], .string name] w (LinksE (Dy.links b N name.data.toList) w) := by
  obtain ⟨hfb, hfc⟩ := h.fit
  have KN := fun (hb0 : 0 < N.buckets) (q : Nat) (hq : q + 4 ≤ 8 + 4 * N.buckets + 4 * N.chain) (w' : World) (hb : Below w.heap.size w w') => number_any Ah nh ch B (Dy.cut b N.hash nh) q 4 w' (Nat.le_trans hB hb.size) (((h.h hb0).2).below (hb.mono hB)) (by have := (h.h hb0).1; unfold maxLen; omega) (by omega) (by have := (h.h hb0).1; omega)
  have hcn := fun (hb0 : 0 < N.buckets) (q : Nat) (hq : q + 4 ≤ 8 + 4 * N.buckets + 4 * N.chain) => cut_num (b := b) (p := N.hash) (n := nh) (q := q) (s := 4) (by have := (h.h hb0).1; omega)
  have KK : ∀ (hb0 : 0 < N.buckets) (q : Nat) (hq : q + 4 ≤ 8 + 4 * N.buckets + 4 * N.chain) (w' : World) (hb : Below w.heap.size w w'), Calls Try.prog 36 #[.slice Ah nh ch, .int .u64 (q : Nat), .int .i64 4] w' (fun e w2 => e = .returned (.int .u64 (Wd.num b (N.hash + q) 4 : Nat)) ∧ Below w'.heap.size w' w2) := by
    intro hb0 q hq w' hb
    rw [← hcn hb0 q hq]
    exact KN hb0 q hq w' hb
  have hlk : Dy.links b N name.data.toList = if N.buckets = 0 then ([], true) else Dy.linksFrom b N N.chain (Wd.num b (N.hash + (8 + 4 * (Dy.hash name.data.toList % N.buckets))) 4) := by
    unfold Dy.links
    rw [← Nat.add_assoc]
  obtain ⟨R, hR⟩ : ∃ R, Dy.links b N name.data.toList = R := ⟨_, rfl⟩
  rw [hR] at hlk ⊢
  have hzero := fun k => Dy.links_zero (b := b) (n := N) k
  have hout := fun (i : Nat) (h1 : ¬ i = 0) (h2 : N.chain ≤ i) (k : Nat) => Dy.links_out (b := b) (n := N) h1 h2 k
  have hon := fun (i k : Nat) (h1 : ¬ i = 0) (h2 : ¬ N.chain ≤ i) => Dy.links_on (b := b) (n := N) (k := k) h1 h2
  have hend := fun (i : Nat) (h1 : ¬ i = 0) => show Dy.linksFrom b N 0 i = ([], false) by rw [Dy.linksFrom, decide_eq_false h1]
  simp only [Nat.add_assoc] at hon
  obtain ⟨F, hF⟩ : ∃ F, Dy.linksFrom b N = F := ⟨_, rfl⟩
  rw [hF] at hlk hzero hout hon hend
  obtain ⟨bk, chn, ho, so⟩ := N
  dsimp only at *
  obtain ⟨sl, hsl⟩ : ∃ x, 24 * chn = x := ⟨_, rfl⟩
  rw [hsl]
  obtain ⟨hv, hhv⟩ : ∃ x, Dy.hash name.data.toList = x := ⟨_, rfl⟩
  have KH := fun w' => hash_any name w' hname
  rw [hhv] at hlk KH
  have hhl : hv < 4294967296 := by rw [← hhv]; have := Dy.hash_lt name.data.toList; omega
  have HKK := hide KK
  have HKH := hide KH
  have Hlk := hide hlk
  have Hzero := hide hzero
  have Hout := hide hout
  have Hon := hide hon
  have Hend := hide hend
  have HB0 : Hid (Below w.heap.size w (w.alloc (.cells #[.int .u64 (bk : Nat), .int .u64 (chn : Nat), .slice Ah nh ch, .slice A4 sl c4] 57))) := hide ((Below.refl _ _).alloc (Nat.le_refl _) _)
  have HK0 : Hid (Blk (w.alloc (.cells #[.int .u64 (bk : Nat), .int .u64 (chn : Nat), .slice Ah nh ch, .slice A4 sl c4] 57)) w.heap.size 57 [.int .u64 (bk : Nat), .int .u64 (chn : Nat), .slice Ah nh ch, .slice A4 sl c4]) := hide (Blk.new w 57 [.int .u64 (bk : Nat), .int .u64 (chn : Nat), .slice Ah nh ch, .slice A4 sl c4])
  have HC : Hid (∀ W : World, Blk W w.heap.size 57 [.int .u64 (bk : Nat), .int .u64 (chn : Nat), .slice Ah nh ch, .slice A4 sl c4] → W.cell? ⟨w.heap.size, 0, none⟩ = some (.int .u64 (bk : Nat)) ∧ W.cell? ⟨w.heap.size, 1, none⟩ = some (.int .u64 (chn : Nat)) ∧ W.cell? ⟨w.heap.size, 2, none⟩ = some (.slice Ah nh ch)) := hide (fun W h => ⟨h.cell (i := 0) rfl, h.cell (i := 1) rfl, h.cell (i := 2) rfl⟩)
  obtain ⟨x0, x1, x2⟩ := (unhide HC) _ (unhide HK0)
  clear h KN hcn KK hlk hzero hout hon hend hF hsl hhv KH hR
  by_cases hbk : bk = 0
  case pos =>
    have hr := unhide Hlk
    rw [if_pos hbk] at hr
    have HR := hide hr
    have hbI : (bk : Int) = 0 := by omega
    clear hr Hlk HKK HKH Hzero Hout Hon Hend HC
    go_enter Try.func22, Try.ntmps22
    go_wp2_with fail
    go_ret2
    refine linksE_mk (l := []) (unhide HR) (World.ownsRow_nil _ _ _ _) ?_
    exact (Below.refl _ _).alloc (Nat.le_refl _) _
  have hr := unhide Hlk
  rw [if_neg hbk] at hr
  have hbI : ¬ (bk : Int) = 0 := by omega
  have hbp : 0 < bk := by omega
  obtain ⟨v, hv2⟩ : ∃ x, hv % bk = x := ⟨_, rfl⟩
  have hvl : v < bk := by rw [← hv2]; exact Nat.mod_lt _ hbp
  rw [hv2] at hr
  have m1 : (hv : Int) % (bk : Int) = (v : Int) := by rw [← hv2]; simp
  have m2 : (hv : Int).tmod (bk : Int) = (v : Int) := by rw [← hv2]; exact Int.ofNat_tmod _ _ |>.symm ▸ rfl
  have wh : IntKind.u64.wrap (hv : Int) = (hv : Int) := by rw [IntKind.wrap_u64]; omega
  have w4 : IntKind.u64.wrap (4 * (v : Int)) = 4 * (v : Int) := by rw [IntKind.wrap_u64]; omega
  have w8 : IntKind.u64.wrap (8 + 4 * (v : Int)) = 8 + 4 * (v : Int) := by rw [IntKind.wrap_u64]; omega
  have k0 := fun w' hb => (unhide HKK) hbp (8 + 4 * v) (by omega) w' hb
  have hcI : ((8 + 4 * v : Nat) : Int) = 8 + 4 * (v : Int) := by omega
  rw [hcI] at k0
  obtain ⟨i0, hi0⟩ : ∃ x, Wd.num b (ho + (8 + 4 * v)) 4 = x := ⟨_, rfl⟩
  rw [hi0] at k0 hr
  have hi0l : i0 < 4294967296 := by rw [← hi0]; have := Wd.num_lt b (ho + (8 + 4 * v)) 4; simpa using this
  have K0 := hide k0
  have HR := hide hr
  clear hr k0 hcI hi0 hv2 Hlk
  go_enter Try.func22, Try.ntmps22
  go_wp2_with fail
  refine wp_region_noPanic ?_
  refine wp_region_held_drew (S := fun w' => w'.cell? ⟨w.heap.size, 0, none⟩ = some (.int .u64 (bk : Nat)) ∧ w'.cell? ⟨w.heap.size, 1, none⟩ = some (.int .u64 (chn : Nat)) ∧ w'.cell? ⟨w.heap.size, 2, none⟩ = some (.slice Ah nh ch)) (by kernel_rfl) ((unhide HC) _ (unhide HK0).drew) (fun HS0 => ?_)
  refine takeD (i := 0) (d := some 10) (v := ?_) rfl rfl (by kernel_rfl) (by kernel_rfl) (by kernel_rfl) (fun _ _ _ h => h) (Or.inl ⟨by rfl, ?y0⟩) HS0 ?_
  case y0 => (intro w' hSw; (try dsimp only at hSw); go_simp; (try with_reducible rfl))
  simp only [Act.put, List.setIfInBounds_toArray, List.set_cons_zero, List.set_cons_succ]
  refine takeD (i := 1) (d := some 11) (v := ?_) rfl rfl (by kernel_rfl) (by kernel_rfl) (by kernel_rfl) (fun _ _ _ h => h) (Or.inl ⟨by rfl, ?y1⟩) HS0 ?_
  case y1 => (intro w' hSw; (try dsimp only at hSw); go_simp; (try with_reducible rfl))
  simp only [Act.put, List.setIfInBounds_toArray, List.set_cons_zero, List.set_cons_succ]
  refine takeD (i := 2) (d := some 12) (v := ?_) rfl rfl (by kernel_rfl) (by kernel_rfl) (by kernel_rfl) (fun _ _ _ h => h) (Or.inl ⟨by rfl, ?y2⟩) HS0 ?_
  case y2 => (intro w' hSw; (try dsimp only at hSw); go_simp; (try with_reducible rfl))
  simp only [Act.put, List.setIfInBounds_toArray, List.set_cons_zero, List.set_cons_succ]
  refine takeD (i := 5) (d := some 15) (v := ?_) rfl rfl (by kernel_rfl) (by kernel_rfl) (by kernel_rfl) (fun _ _ _ h => h) (Or.inl ⟨by rfl, ?y5⟩) HS0 ?_
  case y5 => (intro w' hSw; (try dsimp only at hSw); go_simp; (try with_reducible rfl))
  simp only [Act.put, List.setIfInBounds_toArray, List.set_cons_zero, List.set_cons_succ]
  refine takeD (i := 6) (d := some 16) (v := ?_) rfl rfl (by kernel_rfl) (by kernel_rfl) (by kernel_rfl) (fun _ _ _ h => h) (Or.inl ⟨by rfl, ?y6⟩) HS0 ?_
  case y6 => (intro w' hSw; (try dsimp only at hSw); go_simp; (try with_reducible rfl))
  simp only [Act.put, List.setIfInBounds_toArray, List.set_cons_zero, List.set_cons_succ]
  refine wpAnyH_ready (rs := [3]) (by kernel_rfl) (by simp) ?_
  refine AllReadyH.cons (i := 3) rfl (fun K hK => ?_) AllReadyH.nil
  rw [if_pos (by rfl)]
  go_simp
  go_at_call 12
  with_reducible refine ((unhide HKH) _).mono ?_
  rintro e w1 ⟨rfl, hb1⟩
  have HB1 := hide ((below_drew' (unhide HB0)).trans (hb1.mono (below_drew' (unhide HB0)).size))
  have HK1 := hide ((unhide HK0).drew.belowSz hb1)
  clear hb1
  refine hK.out _ _ ((unhide HC) _ (unhide HK1)) (fun hHeld => ?_)
  clear hK K HS0
  have HS0 := hHeld
  clear hHeld
  (try simp only [Act.put, List.setIfInBounds_toArray, List.set_cons_zero, List.set_cons_succ])
  refine takeD (i := 4) (d := some 14) (v := ?_) rfl rfl (by kernel_rfl) (by kernel_rfl) (by kernel_rfl) (fun _ _ _ h => h) (Or.inl ⟨by rfl, ?y4⟩) HS0 ?_
  case y4 => (intro w' hSw; (try dsimp only at hSw); go_simp; (try with_reducible rfl))
  simp only [Act.put, List.setIfInBounds_toArray, List.set_cons_zero, List.set_cons_succ]
  refine takeD (i := 7) (d := some 17) (v := ?_) rfl rfl (by kernel_rfl) (by kernel_rfl) (by kernel_rfl) (fun _ _ _ h => h) (Or.inl ⟨by rfl, ?y7⟩) HS0 ?_
  case y7 => (intro w' hSw; (try dsimp only at hSw); go_simp; (try with_reducible rfl))
  simp only [Act.put, List.setIfInBounds_toArray, List.set_cons_zero, List.set_cons_succ]
  refine takeD (i := 8) (d := some 18) (v := ?_) rfl rfl (by kernel_rfl) (by kernel_rfl) (by kernel_rfl) (fun _ _ _ h => h) (Or.inl ⟨by rfl, ?y8⟩) HS0 ?_
  case y8 => (intro w' hSw; (try dsimp only at hSw); go_simp; (try with_reducible rfl))
  simp only [Act.put, List.setIfInBounds_toArray, List.set_cons_zero, List.set_cons_succ]
  refine takeD (i := 9) (d := some 19) (v := ?_) rfl rfl (by kernel_rfl) (by kernel_rfl) (by kernel_rfl) (fun _ _ _ h => h) (Or.inl ⟨by rfl, ?y9⟩) HS0 ?_
  case y9 => (intro w' hSw; (try dsimp only at hSw); go_simp; (try with_reducible rfl))
  simp only [Act.put, List.setIfInBounds_toArray, List.set_cons_zero, List.set_cons_succ]
  refine wpAnyH_ready (rs := [10]) (by kernel_rfl) (by simp) ?_
  refine AllReadyH.cons (i := 10) rfl (fun K hK => ?_) AllReadyH.nil
  rw [if_pos (by rfl)]
  go_simp
  go_at_call 36
  with_reducible refine ((unhide K0) _ (unhide HB1)).mono ?_
  rintro e w2 ⟨rfl, hb2⟩
  have HB2 := hide ((unhide HB1).trans (hb2.mono (unhide HB1).size))
  have HK2 := hide ((unhide HK1).belowSz hb2)
  clear hb2
  refine hK.out _ _ ((unhide HC) _ (unhide HK2)) (fun hHeld => ?_)
  clear hK K HS0
  have HS0 := hHeld
  clear hHeld
  (try simp only [Act.put, List.setIfInBounds_toArray, List.set_cons_zero, List.set_cons_succ])
  refine takeD (i := 11) (d := some 6) (v := ?_) rfl rfl (by kernel_rfl) (by kernel_rfl) (by kernel_rfl) (fun _ _ _ h => h) (Or.inl ⟨by rfl, ?y11⟩) HS0 ?_
  case y11 => (intro w' hSw; (try dsimp only at hSw); go_simp; (try with_reducible rfl))
  simp only [Act.put, List.setIfInBounds_toArray, List.set_cons_zero, List.set_cons_succ]
  refine wpAnyH_done (by kernel_rfl) ?_ _
  refine NoPanic.normal ?_
  clear HS0 m1 m2 wh w4 w8 K0 HKH HB1 HK1 HB0 HK0 x0 x1 x2
  go_wp2_with fail
  go_loopg [4, 6] chn (fun gk lv iv wr => ∃ (l : List Nat) (i : Nat) (A : Option Addr) (c : Nat), gk = chn - l.length ∧ l.length ≤ chn ∧ lv = .slice A l.length c ∧ iv = .int .u64 (i : Nat) ∧ i < 4294967296 ∧ wr.ownsRow (w.heap.size + 1) 24 1 (.slice A l.length c) l.length (lkV l) ∧ Below w.heap.size w wr ∧ Blk wr w.heap.size 57 [.int .u64 (bk : Nat), .int .u64 (chn : Nat), .slice Ah nh ch, .slice A4 sl c4] ∧ R = (l ++ (F (chn - l.length) i).1, (F (chn - l.length) i).2))
  case atStart => exact ⟨[], i0, none, 0, rfl, Nat.zero_le _, rfl, rfl, hi0l, World.ownsRow_nil _ _ _ _, unhide HB2, unhide HK2, unhide HR⟩
  case round =>
  obtain ⟨l, i, A, c, hgk, hll, rfl, rfl, hil, hown, hb, hk, hR⟩ := hrel
  obtain ⟨x0, x1, x2⟩ := (unhide HC) _ hk
  have Hown := hide hown
  have HB := hide hb
  have HK := hide hk
  have HR2 := hide hR
  clear hown hb hk hR HR HB2 HK2
  by_cases hi : i = 0
  case pos =>
    have HE : Hid (R = (l, true)) := hide (by have := unhide HR2; rw [hi, (unhide Hzero)] at this; simpa using this)
    have hiI : (i : Int) = 0 := by omega
    clear HR2 Hzero Hout Hon Hend HKK HC hi
    go_wp2_with fail
    go_ret2
    exact linksE_mk (unhide HE) (own_base (unhide Hown) (Nat.le_succ _)) (unhide HB)
  have hiI : ¬ (i : Int) = 0 := by omega
  by_cases hic : chn ≤ i
  case pos =>
    have HE : Hid (R = (l, false)) := hide (by have := unhide HR2; rw [(unhide Hout) i hi hic] at this; simpa using this)
    have hcI : (chn : Int) ≤ (i : Int) := by omega
    clear HR2 Hzero Hout Hon Hend HKK HC hi hic
    go_wp2_with fail
    go_ret2
    exact linksE_mk (unhide HE) (own_base (unhide Hown) (Nat.le_succ _)) (unhide HB)
  have hcI : ¬ (chn : Int) ≤ (i : Int) := by omega
  obtain ⟨m, hm⟩ : ∃ m, l.length = m := ⟨_, rfl⟩
  have Hm := hide hm
  rw [hm] at hll hgk ⊢
  have hO := unhide Hown
  rw [hm] at hO
  have Hown2 := hide hO
  clear hm hO
  by_cases hlc : chn ≤ m
  case pos =>
    have HE : Hid (R = (l, false)) := hide (by have := unhide HR2; rw [unhide Hm, show chn - m = 0 from by omega, (unhide Hend) i hi] at this; simpa using this)
    have hlI : (chn : Int) ≤ (m : Int) := by omega
    clear HR2 Hzero Hout Hon Hend HKK HC hi hic hlc Hown2
    go_wp2_with fail
    go_ret2
    have := linksE_mk (unhide HE) (own_base (unhide Hown) (Nat.le_succ _)) (unhide HB)
    rw [unhide Hm] at this
    exact this
  have hlI : ¬ (chn : Int) ≤ (m : Int) := by omega
  have hr := unhide HR2
  rw [unhide Hm, show chn - m = (chn - (m + 1)) + 1 from by omega, (unhide Hon) i _ hi hic] at hr
  obtain ⟨i2, hi2⟩ : ∃ x, Wd.num b (ho + (8 + (4 * bk + 4 * i))) 4 = x := ⟨_, rfl⟩
  rw [hi2] at hr
  have hi2l : i2 < 4294967296 := by rw [← hi2]; have := Wd.num_lt b (ho + (8 + (4 * bk + 4 * i))) 4; simpa using this
  have k2 := fun w' hb => (unhide HKK) hbp (8 + (4 * bk + 4 * i)) (by omega) w' hb
  have hcI2 : ((8 + (4 * bk + 4 * i) : Nat) : Int) = 8 + 4 * (bk : Int) + 4 * (i : Int) := by omega
  rw [hcI2, hi2] at k2
  have K2 := hide k2
  have HR3 : Hid (R = ((l ++ [i]) ++ (F (chn - (m + 1)) i2).1, (F (chn - (m + 1)) i2).2)) := hide (by rw [hr]; simp)
  clear hr k2 hcI2 hi2 HR2 Hzero Hout Hon Hend HKK hi hic
  have HB3 : Hid (Below w.heap.size w (wr.alloc (.cells #[.int .u64 (i : Nat)] 24))) := hide ((unhide HB).alloc (unhide HB).size _)
  go_wp2_with (at_builtin; refine wpList_app1g lkTy rfl _ _ rfl (w.heap.size + 1) (.slice A m c) m (lkV l) rfl (unhide Hown2) #[.int .u64 (i : Nat)] _ rfl (by simp) rfl (by intro u hu; simp at hu; subst hu; rfl) (by omega) (unhide HK).lt ?_; intro A3 c3 w3 hown' hgrow hat; have HB4 := hide ((unhide HB).grown hgrow (unhide HB).size (fun k hk => Nat.le_of_succ_le ((unhide Hown2).lt k hk).1)); have HO4 := hide hown'; have HK4 : Hid (Blk w3 w.heap.size 57 [.int .u64 (bk : Nat), .int .u64 (chn : Nat), .slice Ah nh ch, .slice A4 sl c4]) := hide ((hgrow.block _ (unhide HK).lt (fun e => by have := ((unhide Hown2).lt _ e.symm).1; omega)).trans (unhide HK)); obtain ⟨x0', x1', x2'⟩ := (unhide HC) _ (unhide HK4); clear hgrow hat hown' HB3 Hown2)
  refine ((unhide K2) _ (unhide HB4)).mono ?_
  rintro e w4 ⟨rfl, hb4⟩
  have HB5 := hide ((unhide HB4).trans (hb4.mono (unhide HB4).size))
  have HK5 := hide ((unhide HK4).belowSz hb4)
  have HO5 := hide (own_below (unhide HO4) hb4)
  clear hb4 HB4 HK4 HO4 K2 x0' x1' x2'
  go_wp2_with fail
  go_roundg (chn - (m + 1))
  case measure => omega
  case rel =>
    have e1 : (l ++ [i]).length = m + 1 := by rw [List.length_append, unhide Hm]; rfl
    have e2 : lkV (l ++ [i]) = lkV l ++ [.int .u64 (i : Nat)] := by simp [lkV]
    exact ⟨l ++ [i], i2, A3, c3, by rw [e1], by rw [e1]; omega, by rw [e1], rfl, hi2l, by rw [e1, e2]; exact unhide HO5, unhide HB5, unhide HK5, by rw [e1]; exact unhide HR3⟩
end Go.Proofs.Ytdminnhfgdoibaa
