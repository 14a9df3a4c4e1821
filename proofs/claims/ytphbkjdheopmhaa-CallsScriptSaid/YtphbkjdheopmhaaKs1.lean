/- Plain lemmas on worlds that every walk of this seat uses: slices that read as lists of cells, what stays below a block. No conditions. What an argument that is a slice of bytes, of integers or of strings reads as: a list, cell by cell. No conditions. A map that is made of constants: its entries in their order; a new key put in, a key looked up. No conditions. Results that lie in memory beside one that does not. No conditions. The walk of calls.fields: a map of constants. No conditions. The plain mathematics of paths: a text cut at its slashes. No program in sight. No conditions. The plain mathematics of words: numbers of bytes, sums below 2^64, pages. No program in sight. No conditions. The plain mathematics of calls: which calls may be, their bytes, what bytes say. No program in sight. No conditions. Laws of the walk for append onto a slice that the call itself owns, the source read by 'Rd' or one new element. No conditions. The walks of pieces and Check of the package paths, of any text. Condition: the texts are no longer than the model's greatest length. The walks of the package words: Add, Down, Up, Inside, sized, check, Get. Conditions: the numbers fit their kinds. The walks of envs.Check, of its reference, and of the helpers of calls.Check. Conditions: the lists and texts are no longer than the model's greatest length. A row of the call's own that is written element by element. No conditions. The walks of the references that hold bytes: EqBytes, Roomy, Kept. Conditions: there are fewer than 2^32 bytes. The walks of calls.number, empty, first and Check. Conditions: the numbers fit their kinds; lists and texts are no longer than the model's greatest length. string(b) of bytes that are read; parts of what is read. No conditions. A block of the call's own, by its cells: read, written, kept. No conditions. The plain mathematics of calls' bytes: writing, reading, and that each undoes the other. No program in sight. No conditions. What it is to have grown a row of bytes of the call's own. No conditions. The walk of hostelref00.CopyBytes (as Elf8, for any chapter). Conditions: there are fewer than 2^32 bytes. The walk of calls.empty. The walk of calls.Check. The walks of hostelref25.fields and has. No conditions. The walk of hostelref00.EqTexts: are two lists of texts the same? Condition: the lists are no longer than the model's greatest length. The walk of hostelref25.Same. Conditions: as calls'. The walk of hostelref25.Same where the numbers and the paths are the same. Conditions: as calls'. -/
import Derived.WalkKit
import Derived.Below
import Derived.Lib.Hide
import Derived.Lib.OthersKept
import Derived.Deep.Draws
import Derived.Laws.OwnMore
import Derived.WalkSmall
import Derived.OneCell
import Derived.Lib.Strings
import Derived.ChangeSlices
import Derived.SliceStrings
import Derived.OpenShut
import Derived.Maps.Own
import Derived.Laws.Rows
import Derived.Laws.Tables
import Derived.Laws.ResultCell
import Derived.Test.YtphbkjdheopmhaaProg
import Derived.WalkSpells
import Derived.WalkLawsBesides
import Derived.Laws.RangeAny
import Derived.Lib.LastIndexByte
import Derived.Laws.BitsAllLaws
import Derived.Laws.Entries
import Derived.Maps.AppendAt
import Derived.OwnWalk
import Derived.Test.YtphbkjdheopmhaaShelf
import Derived.Lib.IndexAny
import Derived.Deep.RegionWith
import Derived.BigQuiet
import Derived.Deep.QuietTactic
import Derived.Deep.LoopGhost
import Derived.Deep.RegionHeld3
import Derived.Laws.BytesArg
import Derived.Laws.IdiomStrings
namespace Go.Proofs.Ytphbkjdheopmhaa
set_option linter.unusedVariables false
set_option linter.unusedSimpArgs false
open Go.RowKit

/-- A contract that leaves the world alone, said so that the caller's name of the world stays. -/
theorem flipw {P : Program} {f : FuncId} {args : Array Value} {w : World} {r : Ending} (h : Calls P f args w fun e w' => e = r ∧ w' = w) : Calls P f args w fun e w' => e = r ∧ w = w' :=
  h.mono fun _ _ ⟨a, b⟩ => ⟨a, b.symm⟩

theorem hide {p : Prop} (h : p) : Hid p := h
theorem unhide {p : Prop} (h : Hid p) : p := h

theorem ret_int {k : IntKind} {a b : Int} (h : a = b) : Ending.returned (.int k a) = .returned (.int k b) := by rw [h]
theorem ret_bool {a b : Bool} (h : a = b) : Ending.returned (.bool a) = .returned (.bool b) := by rw [h]
theorem ret_val {a b : Value} (h : a = b) : Ending.returned a = .returned b := by rw [h]

theorem bcell {W w1 : World} (hb : Below W.heap.size W w1) : (∀ b o, b < W.heap.size → w1.cell? ⟨b, o, none⟩ = W.cell? ⟨b, o, none⟩) ∧ (∀ b o, b < W.heap.size → w1.frozen? ⟨b, o, none⟩ = W.frozen? ⟨b, o, none⟩) :=
  ⟨fun b o h => hb.cell (p := ⟨b, o, none⟩) h, fun b o h => hb.frozen (p := ⟨b, o, none⟩) h⟩

/-- The newest block of the call's own stands behind a call that keeps what was there. -/
theorem newblk {w w1 : World} {o : Obj} (hb : Below (w.alloc o).heap.size (w.alloc o) w1) : w1.heap[w.heap.size]? = some o :=
  (hb.block _ (by simp)).trans (heap_alloc_new _ _)
theorem below_new {w w1 : World} {o : Obj} (hb : Below (w.alloc o).heap.size (w.alloc o) w1) : Below w.heap.size w w1 :=
  ((Below.refl _ _).alloc (Nat.le_refl _) _).trans (hb.mono (by simp))

theorem below_sz {W w1 : World} (hb : Below W.heap.size W w1) : W.heap.size ≤ w1.heap.size := hb.size

theorem below_drewN' {B : Nat} {a w : World} (h : Below B a w) (n : Nat) : Below B a (w.drewN n) := ⟨h.os, h.tape, h.output, h.size, h.block⟩

theorem byte_eq (c d : UInt8) : (((c.toNat : Nat) : Int) == ((d.toNat : Nat) : Int)) = decide (c = d) := by
  rw [Bool.eq_iff_iff, beq_iff_eq, decide_eq_true_eq]
  exact ⟨fun h => UInt8.toNat_inj.1 (by omega), fun h => by rw [h]⟩
theorem byte_47 (c : UInt8) : (((c.toNat : Nat) : Int) == 47) = decide (c = 47) := byte_eq c 47
theorem byte_0 (c : UInt8) : (((c.toNat : Nat) : Int) == 0) = decide (c = 0) := byte_eq c 0
theorem byte_58 (c : UInt8) : (((c.toNat : Nat) : Int) == 58) = decide (c = 58) := byte_eq c 58
theorem byte_61 (c : UInt8) : (((c.toNat : Nat) : Int) == 61) = decide (c = 61) := byte_eq c 61

theorem isEmpty_toList (p : ByteArray) : p.toList.isEmpty = decide (p.size = 0) := by
  rw [Lib.toList_data, Bool.eq_iff_iff, List.isEmpty_iff_length_eq_zero, decide_eq_true_eq]
  exact Iff.rfl
theorem beq_toList (p q : ByteArray) : (p.toList == q.toList) = decide (p = q) := by
  rw [Lib.toList_data, Lib.toList_data, Bool.eq_iff_iff, beq_iff_eq, decide_eq_true_eq]
  exact ⟨fun h => ByteArray.ext (Array.toList_inj.1 h), fun h => by rw [h]⟩

/-- The slice value '.slice A n c' holds the cells xs, one behind the other, 'size' cells an element, in a block below B. -/
def Rd (w : World) (B size : Nat) (A : Option Addr) (n : Nat) (xs : List Value) : Prop :=
  xs.length = n * size ∧ (xs = [] ∨ ∃ b off, A = some ⟨b, off, none⟩ ∧ b < B ∧ ∀ j u, xs[j]? = some u → w.cell? ⟨b, off + j, none⟩ = some u)

section
variable {w w' : World} {B B' size n : Nat} {A : Option Addr} {xs : List Value}
theorem Rd.none_ (w : World) (B size : Nat) (A : Option Addr) : Rd w B size A 0 [] := ⟨by simp, .inl rfl⟩
theorem Rd.len1 (h : Rd w B 1 A n xs) : xs.length = n := by have := h.1; omega
theorem Rd.at_ {k : Nat} {u : Value} (h : Rd w B 1 A n xs) (hk : xs[k]? = some u) : ∃ b off, A = some ⟨b, off, none⟩ ∧ b < B ∧ w.cell? ⟨b, off + k, none⟩ = some u := by
  rcases h.2 with rfl | ⟨b, off, e, hb, hc⟩
  · simp at hk
  · exact ⟨b, off, e, hb, hc _ _ hk⟩
theorem Rd.open_ (h : Rd w B size A n xs) (hn : xs ≠ []) : ∃ b off, A = some ⟨b, off, none⟩ ∧ b < B ∧ ∀ j u, xs[j]? = some u → w.cell? ⟨b, off + j, none⟩ = some u := by
  rcases h.2 with h0 | h1
  · exact absurd h0 hn
  · exact h1
theorem Rd.keep (h : Rd w B size A n xs) (hk : ∀ p : Addr, p.block < B → w'.cell? p = w.cell? p) : Rd w' B size A n xs :=
  ⟨h.1, h.2.imp id fun ⟨b, off, e, hb, hc⟩ => ⟨b, off, e, hb, fun j u hu => (hk _ hb).trans (hc j u hu)⟩⟩
theorem Rd.more (h : Rd w B size A n xs) (hB : B ≤ B') : Rd w B' size A n xs :=
  ⟨h.1, h.2.imp id fun ⟨b, off, e, hb, hc⟩ => ⟨b, off, e, by omega, hc⟩⟩
theorem Rd.below (h : Rd w B size A n xs) (hb : Below B w w') : Rd w' B size A n xs := h.keep fun _ hp => hb.cell hp
theorem Rd.belowSz (h : Rd w w.heap.size size A n xs) (hb : Below w.heap.size w w') : Rd w' w'.heap.size size A n xs := (h.below hb).more hb.size
theorem Rd.drew (h : Rd w B size A n xs) : Rd w.drew B size A n xs := h
theorem Rd.drewN (h : Rd w B size A n xs) (k : Nat) : Rd (w.drewN k) B size A n xs := h
theorem Rd.alloc (h : Rd w B size A n xs) (hB : B ≤ w.heap.size) (o : Obj) : Rd (w.alloc o) B size A n xs := h.keep fun p hp => World.cell?_alloc_lt w o p (by omega)
theorem Rd.setCell (h : Rd w B size A n xs) {p : Addr} (hB : B ≤ p.block) (u : Value) : Rd (w.setCell p u) B size A n xs :=
  h.keep fun q hq => World.cell?_setCell_other w p q u (fun e => by subst e; omega)
theorem Rd.of_own {base : Nat} {e : TypeId} {c : Nat} (h : w.ownsRow base e size (.slice A n c) n xs) : Rd w w.heap.size size A n xs := by
  refine ⟨h.1, ?_⟩
  by_cases h0 : xs = []
  · exact .inl h0
  · have h2 := h.2
    rcases h2 with ⟨_, h3⟩ | ⟨g, cap, cur, hv, hbg, hh, hcap, hcm, hsz, htk⟩
    · subst h3
      exact absurd (List.eq_nil_of_length_eq_zero (by simpa using h.1)) h0
    · have hA : A = some ⟨g, 0, none⟩ := by injection hv
      refine .inr ⟨g, 0, hA, (Array.getElem?_eq_some_iff.1 hh).1, fun j u hu => ?_⟩
      rw [cell_of_row w g (0 + j) cur e (0, 0) hh, Nat.zero_add]
      rw [← htk, List.getElem?_take] at hu
      split at hu
      · simpa using hu
      · cases hu
theorem own_form {base : Nat} {e : TypeId} {v : Value} (h : w.ownsRow base e size v n xs) : ∃ A c, v = .slice A n c := by
  rcases h.2 with ⟨rfl, rfl⟩ | ⟨g, cap, cur, rfl, _⟩
  · exact ⟨_, _, rfl⟩
  · exact ⟨_, _, rfl⟩
end

theorem own_base {w : World} {base base' : Nat} {e : TypeId} {size n : Nat} {v : Value} {xs : List Value} (h : w.ownsRow base e size v n xs) (hb : base' ≤ base) : w.ownsRow base' e size v n xs :=
  ⟨h.1, h.2.imp id fun ⟨g, cap, cur, e1, e2, r⟩ => ⟨g, cap, cur, e1, Nat.le_trans hb e2, r⟩⟩

theorem own_below {w w' : World} {base : Nat} {e : TypeId} {size n : Nat} {v : Value} {xs : List Value} (h : w.ownsRow base e size v n xs) (hb : Below w.heap.size w w') : w'.ownsRow base e size v n xs :=
  ⟨h.1, h.2.imp id fun ⟨g, cap, cur, e1, e2, e3, r⟩ => ⟨g, cap, cur, e1, e2, (hb.block g (Array.getElem?_eq_some_iff.1 e3).1).trans e3, r⟩⟩
theorem own_drewN {w : World} {base : Nat} {e : TypeId} {size n : Nat} {v : Value} {xs : List Value} (h : w.ownsRow base e size v n xs) (j : Nat) : (w.drewN j).ownsRow base e size v n xs := h
theorem own_some {w : World} {base : Nat} {e : TypeId} {size n c : Nat} {A : Option Addr} {xs : List Value} (h : w.ownsRow base e size (.slice A n c) n xs) (hn : 0 < n) : ∃ g, A = some ⟨g, 0, none⟩ ∧ base ≤ g ∧ g < w.heap.size := by
  rcases h.2 with ⟨_, h0⟩ | ⟨g, cap, cur, e1, e2, e3, _⟩
  · omega
  · injection e1 with e1
    exact ⟨g, e1, e2, (Array.getElem?_eq_some_iff.1 e3).1⟩
/-- A row that was made later lies elsewhere. -/
theorem own_ne {w w2 : World} {base base2 : Nat} {e e2 : TypeId} {size size2 n n2 : Nat} {v v2 : Value} {xs xs2 : List Value} (h : w.ownsRow base e size v n xs) (h2 : w2.ownsRow base2 e2 size2 v2 n2 xs2) (hle : w.heap.size ≤ base2) :
    v2.ownBlock = none ∨ v2.ownBlock ≠ v.ownBlock := by
  cases hv : v2.ownBlock with
  | none => exact .inl rfl
  | some k =>
    refine .inr fun e => ?_
    have := (h2.lt k hv).1
    have := (h.lt k e.symm).2
    omega

/-- Only block 'row', and what is new, has turned between the two worlds: 'grownBy' chains. -/
theorem grown_trans {a b c : World} {row : Option Nat} (h : a.grownBy b row) (k : b.grownBy c row) : a.grownBy c row :=
  ⟨k.os.trans h.os, k.tape.trans h.tape, k.output.trans h.output, Nat.le_trans h.size k.size, fun i hi hr => (k.block i (Nat.lt_of_lt_of_le hi h.size) hr).trans (h.block i hi hr)⟩

end Go.Proofs.Ytphbkjdheopmhaa
namespace Go.Proofs.Ytphbkjdheopmhaa
set_option linter.unusedVariables false
set_option linter.unusedSimpArgs false
open Go.RowKit Go.ChangeShapes Go.WideShapes

theorem cell_lt {w : World} {a : Addr} {v : Value} (h : w.cell? a = some v) : a.block < w.heap.size := by
  unfold World.cell? at h
  split at h
  · rename_i hb
    exact (Array.getElem?_eq_some_iff.1 hb).1
  · cases h

section
variable {H : Type} {enc : TypeId × Value → H} {P : Program} {w : World} {base : Nat} {held : Bool} {t e : TypeId} {A : Option Addr} {n c : Nat} {d : DataW H} {p : List MemPlace}

theorem open_nums_rd {k : IntKind} (ht : P.underlying t = some (.slice e)) (he : P.underlying e = some (.int k)) (hc : P.cellsOf e = 1)
    (h : DataW.Trod enc P w base (fun _ => true) held t (.slice A n c) d p) :
    ∃ zs : List Int, Rd w w.heap.size 1 A n (zs.map (Value.int k)) ∧ n ≤ c ∧ c ≤ maxLen ∧ ∀ z ∈ zs, (Lit.int k z).wf = true := by
  obtain ⟨fuel, hf⟩ := h
  rcases open_ints ht he hc hf with ⟨h1, h2⟩ | ⟨a, len, cap, zs, h1, hb, hl, hm, hz, hx, hcell, hwz⟩
  · simp [Value.cells] at h1
    obtain ⟨rfl, rfl, rfl⟩ := h1
    exact ⟨[], Rd.none_ _ _ _ _, Nat.le_refl _, by unfold maxLen; omega, by simp⟩
  · simp [Value.cells] at h1
    obtain ⟨rfl, rfl, rfl⟩ := h1
    simp only [if_true] at hz
    refine ⟨zs.take n, ⟨by simp [hz]; omega, ?_⟩, hl, hm, fun z hz => hwz z (List.mem_of_mem_take hz)⟩
    by_cases h0 : n = 0
    · subst h0; exact .inl rfl
    · obtain ⟨b, off, rfl, hc2⟩ := ints_at hcell (by omega)
      have hblk := cell_lt (hc2 0 (by omega))
      refine .inr ⟨b, off, rfl, hblk, fun j u hu => ?_⟩
      simp only [List.getElem?_map, Option.map_eq_some_iff] at hu
      obtain ⟨z, hz1, rfl⟩ := hu
      have hj : j < n := by
        have := (List.getElem?_eq_some_iff.1 hz1).1
        simp at this
        omega
      rw [List.getElem?_take_of_lt hj] at hz1
      rw [hc2 j (by omega), List.getD_eq_getElem?_getD, hz1]
      rfl

theorem u8_of {z : Int} (h : (Lit.int .u8 z).wf = true) : ((UInt8.ofNat z.toNat).toNat : Int) = z := by
  have hb : 0 ≤ z ∧ z ≤ 255 := by
    simpa [Lit.wf, IntKind.min, IntKind.max, IntKind.signed, IntKind.bits] using h
  simp
  omega

theorem open_bytes_rd (ht : P.underlying t = some (.slice e)) (he : P.underlying e = some (.int .u8)) (hc : P.cellsOf e = 1)
    (h : DataW.Trod enc P w base (fun _ => true) held t (.slice A n c) d p) :
    ∃ b : List UInt8, Rd w w.heap.size 1 A n (b.map fun c => .int .u8 c.toNat) ∧ n ≤ c ∧ c ≤ maxLen := by
  obtain ⟨zs, h1, h2, h3, h4⟩ := open_nums_rd ht he hc h
  refine ⟨zs.map fun z => UInt8.ofNat z.toNat, ?_, h2, h3⟩
  have e1 : (zs.map fun z => UInt8.ofNat z.toNat).map (fun c : UInt8 => Value.int .u8 c.toNat) = zs.map (Value.int .u8) := by
    rw [List.map_map]
    refine List.map_congr_left fun z hz => ?_
    show Value.int .u8 ((UInt8.ofNat z.toNat).toNat : Int) = _
    rw [u8_of (h4 z hz)]
  rw [e1]
  exact h1

theorem open_ints_rd (ht : P.underlying t = some (.slice e)) (he : P.underlying e = some (.int .i64)) (hc : P.cellsOf e = 1)
    (h : DataW.Trod enc P w base (fun _ => true) held t (.slice A n c) d p) :
    ∃ zs : List Int, Rd w w.heap.size 1 A n (zs.map (Value.int .i64)) ∧ n ≤ c ∧ c ≤ maxLen ∧ ∀ z ∈ zs, -9223372036854775808 ≤ z ∧ z ≤ 9223372036854775807 := by
  obtain ⟨zs, h1, h2, h3, h4⟩ := open_nums_rd ht he hc h
  refine ⟨zs, h1, h2, h3, fun z hz => ?_⟩
  have := h4 z hz
  simpa [Lit.wf, IntKind.min, IntKind.max, IntKind.signed, IntKind.bits] using this

theorem open_strs_rd (ht : P.underlying t = some (.slice e)) (he : P.underlying e = some .string) (hc : P.cellsOf e = 1)
    (h : DataW.Trod enc P w base (fun _ => true) held t (.slice A n c) d p) :
    ∃ ss : List ByteArray, Rd w w.heap.size 1 A n (ss.map Value.string) ∧ n ≤ c ∧ c ≤ maxLen ∧ ∀ s ∈ ss, s.size ≤ maxLen := by
  obtain ⟨fuel, hf⟩ := h
  rcases open_strings ht he hc hf with ⟨h1, h2⟩ | ⟨a, len, cap, zs, h1, hb, hl, hm, hz, hx, hcell, hwz⟩
  · simp [Value.cells] at h1
    obtain ⟨rfl, rfl, rfl⟩ := h1
    exact ⟨[], Rd.none_ _ _ _ _, Nat.le_refl _, by unfold maxLen; omega, by simp⟩
  · simp [Value.cells] at h1
    obtain ⟨rfl, rfl, rfl⟩ := h1
    simp only [if_true] at hz
    refine ⟨zs.take n, ⟨by simp [hz]; omega, ?_⟩, hl, hm, fun z hz => hwz z (List.mem_of_mem_take hz)⟩
    by_cases h0 : n = 0
    · subst h0; exact .inl rfl
    · obtain ⟨b, off, spot⟩ := a
      have hs : spot = none := by simpa [Addr.add] using World.cell?_spot (hcell 0 (by omega))
      subst hs
      have hc2 : ∀ i, i < zs.length → w.cell? ⟨b, off + i, none⟩ = some (.string (zs.getD i ByteArray.empty)) := fun j hj => by
        rw [← Go.WideShapes.add_plain]; exact hcell j hj
      have hblk := cell_lt (hc2 0 (by omega))
      refine .inr ⟨b, off, rfl, hblk, fun j u hu => ?_⟩
      simp only [List.getElem?_map, Option.map_eq_some_iff] at hu
      obtain ⟨z, hz1, rfl⟩ := hu
      have hj : j < n := by
        have := (List.getElem?_eq_some_iff.1 hz1).1
        simp at this
        omega
      rw [List.getElem?_take_of_lt hj] at hz1
      rw [hc2 j (by omega), List.getD_eq_getElem?_getD, hz1]
      rfl
end
end Go.Proofs.Ytphbkjdheopmhaa
namespace Go.Proofs.Ytphbkjdheopmhaa
set_option linter.unusedVariables false
set_option linter.unusedSimpArgs false
open Go.RowKit

/-- Block g is a map whose entries are these, in their order. -/
def MapIs (w : World) (g : Nat) (k : IntKind) (m : List (Int × Value)) : Prop := ∃ es clk, w.heap[g]? = some (.map es clk) ∧ es.toList.map (fun e => (e.key, e.val)) = m.map (fun p => (Value.int k p.1, p.2))

theorem findNow_lit (k : IntKind) (x : Int) (kd : IntKind) : ∀ (es : List MapEntry) (m : List (Int × Value)) (i : Nat), es.map (fun e => (e.key, e.val)) = m.map (fun p => (Value.int k p.1, p.2)) →
    ∃ r, Instr.findNow (.int kd) (.int k x) es i = some r ∧ r.map (·.2) = (m.find? fun p => p.1 == x).map (·.2) := by
  intro es
  induction es with
  | nil => intro m i h; cases m with
    | nil => exact ⟨none, rfl, rfl⟩
    | cons p m => simp at h
  | cons e es ih => intro m i h; cases m with
    | nil => simp at h
    | cons p m =>
      simp only [List.map_cons, List.cons.injEq, Prod.mk.injEq] at h
      obtain ⟨⟨h1, h2⟩, h3⟩ := h
      unfold Instr.findNow
      rw [h1]
      simp only [Instr.sameNow, if_true]
      by_cases hx : x = p.1
      · subst hx
        simp [h2]
      · have e1 : (x == p.1) = false := by simpa using hx
        have e2 : (p.1 == x) = false := by simpa using fun h => hx h.symm
        obtain ⟨r, hr, hm⟩ := ih m (i + 1) h3
        refine ⟨r, ?_, ?_⟩
        · simp only [e1]
          exact hr
        · rw [List.find?_cons, e2]
          exact hm

section
variable {P : Program} {t kt e : TypeId} {k kd : IntKind} {w : World} {g : Nat} {m : List (Int × Value)} {x : Int} {v : Value}
theorem run_mapPut (ht : P.underlying t = some (.map kt e)) (hk : P.underlying kt = some (.int kd)) (hik : Go.MapKept.IsKey (.int kd) (.int k x)) (h : MapIs w g k m) (hx : ∀ p ∈ m, p.1 ≠ x) :
    ∃ w', (Instr.mapUpdate t (.map (some g)) (.int k x) v).run P w = .ok () w' ∧ MapIs w' g k (m ++ [(x, v)]) ∧ w.grownBy w' (some g) ∧ w'.heap.size = w.heap.size := by
  obtain ⟨es, clk, hg, hm⟩ := h
  obtain ⟨r, hr, hrm⟩ := findNow_lit k x kd es.toList m 0 hm
  have hnone : (m.find? fun p => p.1 == x) = none := by
    rw [List.find?_eq_none]
    intro p hp
    simpa using hx p hp
  rw [hnone] at hrm
  obtain rfl : r = none := by cases r with
    | none => rfl
    | some q => simp at hrm
  have hlt : g < w.heap.size := (Array.getElem?_eq_some_iff.1 hg).1
  refine ⟨{ w with heap := w.heap.setIfInBounds g (.map (es.push { key := .int k x, val := v, born := clk }) (clk + 1)) }, ?_, ?_, ?_, by simp⟩
  · simp [Instr.mapUpdate, run_underlying ht, Go.MapKept.run_getObj_map hg, Go.MapKept.run_checkKey hk hik, Go.MapKept.run_findKey hk hr, Go.MapKept.run_setObj_map _ hg, Result.andThen]
  · refine ⟨_, _, (Go.MapKept.heap_set hg).1, ?_⟩
    simp [hm]
  · exact ⟨rfl, rfl, rfl, by simp, fun i _ hi => (Go.MapKept.heap_set hg).2 i (fun e => hi (by rw [e]))⟩

theorem run_mapLook (ht : P.underlying t = some (.map kt e)) (hk : P.underlying kt = some (.int kd)) (hik : Go.MapKept.IsKey (.int kd) (.int k x)) {z : Value} (hz : (zeroValue e).run P w = .ok z w) (h : MapIs w g k m) :
    (Instr.lookup t (.map (some g)) (.int k x) true).run P w = .ok (.tuple #[((m.find? fun p => p.1 == x).map (·.2)).getD z, .bool (m.find? fun p => p.1 == x).isSome]) w := by
  obtain ⟨es, clk, hg, hm⟩ := h
  obtain ⟨r, hr, hrm⟩ := findNow_lit k x kd es.toList m 0 hm
  cases hf : (m.find? fun p => p.1 == x) with
  | none =>
    rw [hf] at hrm
    obtain rfl : r = none := by cases r with
      | none => rfl
      | some q => simp at hrm
    simp [Instr.lookup, run_underlying ht, Go.MapKept.run_getObj_map hg, Go.MapKept.run_checkKey hk hik, Go.MapKept.run_findKey hk hr, hz, Result.andThen]
  | some q =>
    rw [hf] at hrm
    obtain ⟨i, rfl⟩ : ∃ i, r = some (i, q.2) := by cases r with
      | none => simp at hrm
      | some y => obtain ⟨i, v⟩ := y; simp at hrm; exact ⟨i, by rw [hrm]⟩
    simp [Instr.lookup, run_underlying ht, Go.MapKept.run_getObj_map hg, Go.MapKept.run_checkKey hk hik, Go.MapKept.run_findKey hk hr, Result.andThen]
theorem run_mapLook1 (ht : P.underlying t = some (.map kt e)) (hk : P.underlying kt = some (.int kd)) (hik : Go.MapKept.IsKey (.int kd) (.int k x)) {z : Value} (hz : (zeroValue e).run P w = .ok z w) (h : MapIs w g k m) :
    (Instr.lookup t (.map (some g)) (.int k x) false).run P w = .ok (((m.find? fun p => p.1 == x).map (·.2)).getD z) w := by
  obtain ⟨es, clk, hg, hm⟩ := h
  obtain ⟨r, hr, hrm⟩ := findNow_lit k x kd es.toList m 0 hm
  cases hf : (m.find? fun p => p.1 == x) with
  | none =>
    rw [hf] at hrm
    obtain rfl : r = none := by cases r with
      | none => rfl
      | some q => simp at hrm
    simp [Instr.lookup, run_underlying ht, Go.MapKept.run_getObj_map hg, Go.MapKept.run_checkKey hk hik, Go.MapKept.run_findKey hk hr, hz, Result.andThen]
  | some q =>
    rw [hf] at hrm
    obtain ⟨i, rfl⟩ : ∃ i, r = some (i, q.2) := by cases r with
      | none => simp at hrm
      | some y => obtain ⟨i, v⟩ := y; simp at hrm; exact ⟨i, by rw [hrm]⟩
    simp [Instr.lookup, run_underlying ht, Go.MapKept.run_getObj_map hg, Go.MapKept.run_checkKey hk hik, Go.MapKept.run_findKey hk hr, Result.andThen]

theorem MapIs.nil (w : World) : MapIs (w.alloc (.map #[] 0)) w.heap.size k [] := ⟨#[], 0, heap_alloc_new _ _, rfl⟩
theorem MapIs.keep {w' : World} (h : MapIs w g k m) (hk : w'.heap[g]? = w.heap[g]?) : MapIs w' g k m := by
  obtain ⟨es, clk, hg, hm⟩ := h
  exact ⟨es, clk, hk.trans hg, hm⟩
theorem MapIs.alloc (h : MapIs w g k m) (o : Obj) : MapIs (w.alloc o) g k m := by
  obtain ⟨es, clk, hg, hm⟩ := h
  exact ⟨es, clk, (Below.heap_alloc _ _ _ (Array.getElem?_eq_some_iff.1 hg).1).trans hg, hm⟩
theorem MapIs.lt (h : MapIs w g k m) : g < w.heap.size := by
  obtain ⟨es, clk, hg, hm⟩ := h
  exact (Array.getElem?_eq_some_iff.1 hg).1

/-- 'm[x] = v' of a map literal at the operation. -/
theorem wpList_mapPut {ops : Array Oper} {rest : List Oper} {o : Oper} {a : Act} {Q : Exit → Act → World → Prop} (hgd : o.guard = none) (mo xo vo : Operand) (ho : o.op = .insert t mo xo vo)
    (ht : P.underlying t = some (.map kt e)) (hk : P.underlying kt = some (.int kd)) (hik : Go.MapKept.IsKey (.int kd) (.int k x)) (hmo : a.eval mo = .map (some g)) (hxo : a.eval xo = .int k x) (hvo : a.eval vo = v) (h : MapIs w g k m) (hx : ∀ p ∈ m, p.1 ≠ x)
    (hK : ∀ w', MapIs w' g k (m ++ [(x, v)]) → w.grownBy w' (some g) → w'.heap.size = w.heap.size → wpList P ops Q rest (a.put o.dst undef) w') : wpList P ops Q (o :: rest) a w := by
  obtain ⟨w', hrun, h1, h2, h3⟩ := run_mapPut (v := v) ht hk hik h hx
  refine wpList_plain hgd fun K hK' => ?_
  unfold Oper.wp
  simp [execOp, ho, hmo, hxo, hvo, hrun, Result.andThen]
  exact hK' _ _ (hK w' h1 h2 h3)
end
end Go.Proofs.Ytphbkjdheopmhaa
namespace Go.Proofs.Ytphbkjdheopmhaa
set_option linter.unusedVariables false
set_option linter.unusedSimpArgs false
open Go.RowKit
theorem results_cell_tmp {P : Program} {fn : Func} {p q : Tmp} {ty : TypeId} (h : fn.results = #[.cell p ty, .tmp q]) (tmps : Array Value) (w : World) (g : Nat) (t : TypeId) (cs : Array Value) (fr : Nat × Nat) (d : TypeDesc)
    (hp : tmps.getD p undef = .pointer (some ⟨g, 0, none⟩)) (hg : w.heap[g]? = some (.cells cs t fr))
    (hu : P.underlying ty = some d) (hd : (match d with | .struct _ | .array _ _ => true | _ => false) = true) (hi : (P.info? ty).map (·.size) = some cs.size) :
    (results fn tmps).run P w = .ok (.tuple #[.agg cs, tmps.getD q undef]) w := by
  have hp' : tmps[p]?.getD undef = .pointer (some ⟨g, 0, none⟩) := by simpa using hp
  simp [results, h, hp', asAddr, run_loadVar_row w g t ty cs fr d hg hu hd hi]

theorem below_drew' {B : Nat} {a w : World} (h : Below B a w) : Below B a w.drew := ⟨h.os, h.tape, h.output, h.size, h.block⟩
end Go.Proofs.Ytphbkjdheopmhaa
namespace Go.Proofs.Ytphbkjdheopmhaa
set_option linter.unusedVariables false
set_option linter.unusedSimpArgs false
open Go.RowKit

/-- The fields of a kind, by their numbers. -/
def fs : Nat → List Int
  | 1 => [5, 6, 7]
  | 3 => [0]
  | 5 => [0, 1, 2, 3, 4]
  | 6 => [0, 1]
  | 7 => [0, 1, 2]
  | 8 => [0, 1]
  | 9 => [0, 8]
  | 10 => [5, 0]
  | 11 => [0]
  | 12 => [0, 1]
  | _ => []
def fmap (bs : Nat → Nat) (j : Nat) : List (Int × Value) := (List.range j).map fun i => (((i + 1 : Nat) : Int), Value.slice (some ⟨bs i, 0, none⟩) (fs (i + 1)).length (fs (i + 1)).length)
def fcells (k : Nat) : Array Value := ((fs k).map (Value.int .i64)).toArray
/-- j kinds have been put into the map g. -/
def FM (w0 : World) (g j : Nat) (w : World) : Prop := ∃ bs : Nat → Nat, MapIs w g .u8 (fmap bs j) ∧ (∀ i, i < j → w.heap[bs i]? = some (.cells (fcells (i + 1)) 57 (0, 0)) ∧ bs i ≠ g ∧ w0.heap.size ≤ bs i) ∧ Below w0.heap.size w0 w ∧ w0.heap.size ≤ g

theorem fmap_succ (bs : Nat → Nat) (b j : Nat) : fmap (fun i => if i = j then b else bs i) (j + 1) = fmap bs j ++ [(((j + 1 : Nat) : Int), Value.slice (some ⟨b, 0, none⟩) (fs (j + 1)).length (fs (j + 1)).length)] := by
  unfold fmap
  rw [List.range_succ, List.map_append]
  congr 1
  · refine List.map_congr_left fun i hi => ?_
    have : i ≠ j := by have := List.mem_range.1 hi; omega
    simp [this]
  · simp
theorem FM.start (w0 : World) : FM w0 w0.heap.size 0 (w0.alloc (.map #[] 0)) :=
  ⟨fun _ => 0, MapIs.nil _, fun i hi => by omega, ⟨rfl, rfl, rfl, by simp, fun k hk => Below.heap_alloc _ _ _ hk⟩, Nat.le_refl _⟩

theorem wpList_fieldPut {w0 w : World} {ops : Array Oper} {rest : List Oper} {o : Oper} {a : Act} {Q : Exit → Act → World → Prop} (g j : Nat) (hF : FM w0 g j w) (hgd : o.guard = none) (mo xo vo : Operand) (ho : o.op = .insert 55 mo xo vo)
    (hmo : a.eval mo = .map (some g)) (hxo : a.eval xo = .int .u8 ((j + 1 : Nat) : Int)) (n : Nat) (hn : n = w.heap.size) (hvo : a.eval vo = .slice (some ⟨n, 0, none⟩) (fs (j + 1)).length (fs (j + 1)).length) (cs : Array Value) (hcs : cs = fcells (j + 1))
    (hK : ∀ w', FM w0 g (j + 1) w' → wpList Try.prog ops Q rest (a.put o.dst undef) w') : wpList Try.prog ops Q (o :: rest) a (w.alloc (.cells cs 57)) := by
  subst hn hcs
  obtain ⟨bs, hm, hb, hbel, hg⟩ := hF
  refine wpList_mapPut hgd mo xo vo ho Try.underlying55 Try.underlying5 (by simp [Go.MapKept.IsKey]) hmo hxo hvo (hm.alloc _) ?_ ?_
  · intro p hp
    unfold fmap at hp
    simp only [List.mem_map, List.mem_range] at hp
    obtain ⟨i, hi, rfl⟩ := hp
    show ((i + 1 : Nat) : Int) ≠ ((j + 1 : Nat) : Int)
    omega
  · intro w' h1 h2 h3
    refine hK w' ⟨fun i => if i = j then w.heap.size else bs i, ?_, ?_, ?_, hg⟩
    · rw [fmap_succ]; exact h1
    · intro i hi
      by_cases e : i = j
      · subst e
        simp only [if_true]
        refine ⟨(h2.block _ (by simp) (by intro e; injection e with e; have := hm.lt; omega)).trans (heap_alloc_new _ _), by have := hm.lt; omega, hbel.size⟩
      · simp only [e, if_false]
        obtain ⟨q1, q2, q3⟩ := hb i (by omega)
        have hlt := lt_of_block q1
        exact ⟨(h2.block _ (by simp; omega) (by intro e; injection e with e; omega)).trans ((Below.heap_alloc _ _ _ hlt).trans q1), q2, q3⟩
    · exact (hbel.alloc hbel.size _).grown h2 (by simp; have := hbel.size; omega) (fun k hk => by injection hk with hk; omega)

set_option maxRecDepth 100000 in
set_option maxHeartbeats 4000000 in
theorem fields_any (w : World) : Calls Try.prog 30 #[] w fun e w' => e = .returned (.map (some w.heap.size)) ∧ FM w w.heap.size 12 w' := by
  have hmm := @run_makeMap Try.prog
  have H0 := hide (FM.start w)
  go_enter Try.func30, Try.ntmps30
  go_wp2_with (first
    | ((with_reducible refine (@id (wpList _ _ _ (Oper.mk none (Op.insert _ (.tmp 1) (.const (Value.int IntKind.u8 1)) (.tmp 2)) _ _ _ none :: _) _ _) ?_)); refine wpList_fieldPut w.heap.size 0 (unhide H0) rfl (.tmp 1) (.const (Value.int IntKind.u8 1)) (.tmp 2) rfl rfl rfl _ (by simp) rfl _ rfl ?_; intro w1 h1; have H1 := hide h1; clear h1 H0)
    | ((with_reducible refine (@id (wpList _ _ _ (Oper.mk none (Op.insert _ (.tmp 1) (.const (Value.int IntKind.u8 2)) (.tmp 3)) _ _ _ none :: _) _ _) ?_)); refine wpList_fieldPut w.heap.size 1 (unhide H1) rfl (.tmp 1) (.const (Value.int IntKind.u8 2)) (.tmp 3) rfl rfl rfl _ (by simp) rfl _ rfl ?_; intro w2 h2; have H2 := hide h2; clear h2 H1)
    | ((with_reducible refine (@id (wpList _ _ _ (Oper.mk none (Op.insert _ (.tmp 1) (.const (Value.int IntKind.u8 3)) (.tmp 4)) _ _ _ none :: _) _ _) ?_)); refine wpList_fieldPut w.heap.size 2 (unhide H2) rfl (.tmp 1) (.const (Value.int IntKind.u8 3)) (.tmp 4) rfl rfl rfl _ (by simp) rfl _ rfl ?_; intro w3 h3; have H3 := hide h3; clear h3 H2)
    | ((with_reducible refine (@id (wpList _ _ _ (Oper.mk none (Op.insert _ (.tmp 1) (.const (Value.int IntKind.u8 4)) (.tmp 5)) _ _ _ none :: _) _ _) ?_)); refine wpList_fieldPut w.heap.size 3 (unhide H3) rfl (.tmp 1) (.const (Value.int IntKind.u8 4)) (.tmp 5) rfl rfl rfl _ (by simp) rfl _ rfl ?_; intro w4 h4; have H4 := hide h4; clear h4 H3)
    | ((with_reducible refine (@id (wpList _ _ _ (Oper.mk none (Op.insert _ (.tmp 1) (.const (Value.int IntKind.u8 5)) (.tmp 6)) _ _ _ none :: _) _ _) ?_)); refine wpList_fieldPut w.heap.size 4 (unhide H4) rfl (.tmp 1) (.const (Value.int IntKind.u8 5)) (.tmp 6) rfl rfl rfl _ (by simp) rfl _ rfl ?_; intro w5 h5; have H5 := hide h5; clear h5 H4)
    | ((with_reducible refine (@id (wpList _ _ _ (Oper.mk none (Op.insert _ (.tmp 1) (.const (Value.int IntKind.u8 6)) (.tmp 7)) _ _ _ none :: _) _ _) ?_)); refine wpList_fieldPut w.heap.size 5 (unhide H5) rfl (.tmp 1) (.const (Value.int IntKind.u8 6)) (.tmp 7) rfl rfl rfl _ (by simp) rfl _ rfl ?_; intro w6 h6; have H6 := hide h6; clear h6 H5)
    | ((with_reducible refine (@id (wpList _ _ _ (Oper.mk none (Op.insert _ (.tmp 1) (.const (Value.int IntKind.u8 7)) (.tmp 8)) _ _ _ none :: _) _ _) ?_)); refine wpList_fieldPut w.heap.size 6 (unhide H6) rfl (.tmp 1) (.const (Value.int IntKind.u8 7)) (.tmp 8) rfl rfl rfl _ (by simp) rfl _ rfl ?_; intro w7 h7; have H7 := hide h7; clear h7 H6)
    | ((with_reducible refine (@id (wpList _ _ _ (Oper.mk none (Op.insert _ (.tmp 1) (.const (Value.int IntKind.u8 8)) (.tmp 9)) _ _ _ none :: _) _ _) ?_)); refine wpList_fieldPut w.heap.size 7 (unhide H7) rfl (.tmp 1) (.const (Value.int IntKind.u8 8)) (.tmp 9) rfl rfl rfl _ (by simp) rfl _ rfl ?_; intro w8 h8; have H8 := hide h8; clear h8 H7)
    | ((with_reducible refine (@id (wpList _ _ _ (Oper.mk none (Op.insert _ (.tmp 1) (.const (Value.int IntKind.u8 9)) (.tmp 10)) _ _ _ none :: _) _ _) ?_)); refine wpList_fieldPut w.heap.size 8 (unhide H8) rfl (.tmp 1) (.const (Value.int IntKind.u8 9)) (.tmp 10) rfl rfl rfl _ (by simp) rfl _ rfl ?_; intro w9 h9; have H9 := hide h9; clear h9 H8)
    | ((with_reducible refine (@id (wpList _ _ _ (Oper.mk none (Op.insert _ (.tmp 1) (.const (Value.int IntKind.u8 10)) (.tmp 11)) _ _ _ none :: _) _ _) ?_)); refine wpList_fieldPut w.heap.size 9 (unhide H9) rfl (.tmp 1) (.const (Value.int IntKind.u8 10)) (.tmp 11) rfl rfl rfl _ (by simp) rfl _ rfl ?_; intro w10 h10; have H10 := hide h10; clear h10 H9)
    | ((with_reducible refine (@id (wpList _ _ _ (Oper.mk none (Op.insert _ (.tmp 1) (.const (Value.int IntKind.u8 11)) (.tmp 12)) _ _ _ none :: _) _ _) ?_)); refine wpList_fieldPut w.heap.size 10 (unhide H10) rfl (.tmp 1) (.const (Value.int IntKind.u8 11)) (.tmp 12) rfl rfl rfl _ (by simp) rfl _ rfl ?_; intro w11 h11; have H11 := hide h11; clear h11 H10)
    | ((with_reducible refine (@id (wpList _ _ _ (Oper.mk none (Op.insert _ (.tmp 1) (.const (Value.int IntKind.u8 12)) (.tmp 13)) _ _ _ none :: _) _ _) ?_)); refine wpList_fieldPut w.heap.size 11 (unhide H11) rfl (.tmp 1) (.const (Value.int IntKind.u8 12)) (.tmp 13) rfl rfl rfl _ (by simp) rfl _ rfl ?_; intro w12 h12; have H12 := hide h12; clear h12 H11))
  go_ret
  exact ⟨rfl, unhide H12⟩

end Go.Proofs.Ytphbkjdheopmhaa
namespace Go.Proofs.Ytphbkjdheopmhaa.Pth
set_option linter.unusedVariables false
set_option linter.unusedSimpArgs false

/-- The texts between slashes: of the text s, r being what is left of it at place i, the running piece begun at f. -/
def pcsL (s : ByteArray) : List UInt8 → Nat → Nat → List ByteArray
  | [], i, f => [s.extract f i]
  | c :: r, i, f => if c = 47 then s.extract f i :: pcsL s r (i + 1) (i + 1) else pcsL s r (i + 1) f

def pcs (s : ByteArray) : List ByteArray := pcsL s s.data.toList 0 0
/-- what is still to come at place i, the running piece begun at f. -/
def pcsAt (s : ByteArray) (i f : Nat) : List ByteArray := pcsL s (s.data.toList.drop i) i f

theorem drop_cons (s : ByteArray) (i : Nat) (h : i < s.size) : s.data.toList.drop i = s[i] :: s.data.toList.drop (i + 1) := by
  have h' : i < s.data.toList.length := by simpa using h
  rw [List.drop_eq_getElem_cons h']
  rfl

theorem pcsAt_end (s : ByteArray) (f : Nat) : pcsAt s s.size f = [s.extract f s.size] := by
  unfold pcsAt
  rw [List.drop_of_length_le (by simp)]
  rfl
theorem pcsAt_slash (s : ByteArray) (i f : Nat) (h : i < s.size) (hc : s[i] = 47) : pcsAt s i f = s.extract f i :: pcsAt s (i + 1) (i + 1) := by
  unfold pcsAt
  rw [drop_cons s i h]
  simp [pcsL, hc]
theorem pcsAt_skip (s : ByteArray) (i f : Nat) (h : i < s.size) (hc : s[i] ≠ 47) : pcsAt s i f = pcsAt s (i + 1) f := by
  unfold pcsAt
  rw [drop_cons s i h]
  simp [pcsL, hc]
theorem pcsAt_skips (s : ByteArray) (f : Nat) (d : Nat) : ∀ i, (∀ j, i ≤ j → j < i + d → ∃ h : j < s.size, s[j] ≠ 47) → pcsAt s i f = pcsAt s (i + d) f := by
  induction d with
  | zero => intro i _; rfl
  | succ d ih =>
    intro i h
    obtain ⟨hi, hc⟩ := h i (Nat.le_refl _) (by omega)
    rw [pcsAt_skip s i f hi hc, ih (i + 1) (fun j h1 h2 => h j (by omega) (by omega))]
    congr 1
    omega

theorem get_at (s : ByteArray) (pos k : Nat) (h : pos + k < s.size) : s.get! (pos + k) = s[pos + k]'h := by
  simp [ByteArray.get!, getElem!_pos, h]
  rfl

theorem high_ne (c : UInt8) (h : c.toNat / 64 = 2) : c ≠ 47 := by
  intro e
  subst e
  simp at h

/-- What a rune of a text covers: at least a byte, no more than there is; it is a slash just if its first byte is one, and no later byte of it is a slash. -/
theorem decode_cover (s : ByteArray) (pos : Nat) (h : pos < s.size) :
    1 ≤ (Utf8.decode s pos).2 ∧ pos + (Utf8.decode s pos).2 ≤ s.size ∧ ((Utf8.decode s pos).1 = 47 ↔ s[pos] = 47) ∧ (s[pos] = 47 → (Utf8.decode s pos).2 = 1) ∧
    (s[pos] ≠ 47 → ∀ j, pos ≤ j → j < pos + (Utf8.decode s pos).2 → ∃ hj : j < s.size, s[j] ≠ 47) := by
  have e0 : s.get! (pos + 0) = s[pos] := get_at s pos 0 (by simpa using h)
  have eq47 : s[pos] = 47 ↔ s[pos].toNat = 47 := by
    constructor
    · intro e; rw [e]; rfl
    · intro e; exact UInt8.toNat_inj.1 (by rw [e]; rfl)
  by_cases ha : s[pos].toNat < 128
  · have hd : Utf8.decode s pos = (s[pos].toNat, 1) := decode_ascii s pos h ha
    rw [hd]
    refine ⟨Nat.le_refl _, by simp only; omega, by simp only [eq47], fun _ => rfl, fun hn j h1 h2 => ?_⟩
    obtain rfl : j = pos := by simp only at h2; omega
    exact ⟨h, hn⟩
  · have hn47 : s[pos] ≠ 47 := by rw [ne_eq, eq47]; omega
    have key : ∃ c d, Utf8.decode s pos = (c, d) ∧ 1 ≤ d ∧ pos + d ≤ s.size ∧ c ≠ 47 ∧ ∀ k, 1 ≤ k → k < d → pos + k < s.size ∧ (s.get! (pos + k)).toNat / 64 = 2 := by
      simp only [Utf8.decode, e0, ha, if_false]
      repeat' split
      all_goals (refine ⟨_, _, rfl, by omega, ?_, ?_, ?_⟩)
      all_goals simp only [Bool.and_eq_true, decide_eq_true_eq, beq_iff_eq] at *
      all_goals first
        | omega
        | (simp [Utf8.runeError]; done)
        | (intro k h1 h2; omega)
        | (intro k h1 h2
           have hk : k = 1 ∨ k = 2 ∨ k = 3 := by omega
           rcases hk with rfl | rfl | rfl <;> first | (exfalso; omega) | (refine ⟨?_, ?_⟩ <;> omega))
    obtain ⟨c, d, hd, h1, h2, h3, h4⟩ := key
    rw [hd]
    refine ⟨h1, h2, by simp [h3, hn47], fun e => absurd e hn47, fun _ j hj1 hj2 => ?_⟩
    rcases Nat.eq_or_lt_of_le hj1 with rfl | hlt
    · exact ⟨h, hn47⟩
    · obtain ⟨k, rfl⟩ : ∃ k, j = pos + k := ⟨j - pos, by omega⟩
      obtain ⟨hs, hh⟩ := h4 k (by omega) (by simpa using hj2)
      refine ⟨hs, ?_⟩
      rw [get_at s pos k hs] at hh
      exact high_ne _ hh

/-- A yield that may end it: what becomes of the state over a list of pieces. -/
def goF {S : Type} (step : S → ByteArray → S × Bool) : S → List ByteArray → S
  | s, [] => s
  | s, x :: r => if (step s x).2 then goF step (step s x).1 r else (step s x).1

/-- Check's answer. -/
def tooLong (x : ByteArray) : Bool := decide (32 < x.size)
def chk (p : ByteArray) : Int :=
  if p.size = 0 then 3 else if p.data.toList.contains 0 then 1 else if 200 < p.size then 11 else if (pcs p).any tooLong then 11 else 0
def checkStep (e : Int) (x : ByteArray) : Int × Bool := if 32 < x.size then (11, false) else (e, e == 0)
theorem goF_check (l : List ByteArray) : goF checkStep 0 l = if l.any tooLong then 11 else 0 := by
  induction l with
  | nil => rfl
  | cons x r ih =>
    by_cases h : 32 < x.size
    · simp [goF, checkStep, h, tooLong]
    · simp [goF, checkStep, h, tooLong, ih]

/-- The parts: all pieces that are no empty text and no point. -/
def isPart (x : ByteArray) : Bool := !(x.data.toList == []) && !(x.data.toList == [46])
def parts (p : ByteArray) : List ByteArray := (pcs p).filter isPart
def partsStep (l : List ByteArray) (x : ByteArray) : List ByteArray × Bool := (if isPart x then l ++ [x] else l, true)
theorem goF_parts (l : List ByteArray) : ∀ acc, goF partsStep acc l = acc ++ l.filter isPart := by
  induction l with
  | nil => intro acc; simp [goF]
  | cons x r ih =>
    intro acc
    by_cases h : isPart x
    · simp [goF, partsStep, h, ih]
    · simp [goF, partsStep, h, ih]

/-- What Parts answers: the list, and whether it begins at the root; nothing beside an error. -/
def partsL (p : ByteArray) : List ByteArray := if chk p = 0 then parts p else []
def rootB (p : ByteArray) : Bool := decide (chk p = 0) && Lib.hasPrefix p.data.toList [47]
theorem chk_size (p : ByteArray) (h : chk p = 0) : p.size ≤ 200 := by
  unfold chk at h
  repeat' split at h
  all_goals first | omega | (cases h)

/-! ### Join, Base, Dir, Tail -/
def headB (p : ByteArray) : Bool := Lib.hasPrefix p.data.toList [47]
def tailB (p : ByteArray) : Bool := Lib.hasSuffix p.data.toList [47]
def slash : ByteArray := ⟨#[47]⟩
def joinB (d p : ByteArray) : ByteArray := if d.size = 0 ∨ headB p = true then p else if tailB d = true then d ++ p else d ++ slash ++ p
def lastB (p : ByteArray) : Int := Lib.lastIndexByte p 47
def baseB (p : ByteArray) : ByteArray := p.extract (lastB p + 1).toNat p.size
def dirB (p : ByteArray) : ByteArray := if lastB p = -1 then ⟨#[46]⟩ else if lastB p = 0 then ⟨#[47]⟩ else p.extract 0 (lastB p).toNat

theorem lastB_bd (p : ByteArray) : -1 ≤ lastB p ∧ lastB p + 1 ≤ p.size := by
  unfold lastB
  rcases Lib.lastIndexByte_spec p 47 with ⟨h, _⟩ | ⟨i, hi, h, _⟩
  · rw [h]; omega
  · rw [h]; omega
theorem data_get (s : ByteArray) (i : Nat) (h : i < s.size) : s.data[i]! = s[i] := by
  have h' : i < s.data.size := h
  rw [getElem!_pos s.data i h']
  rfl
theorem lastIdx_step (p : ByteArray) (i : Nat) (h : i < p.size) : Lib.lastIdx p 47 (i + 1) = if ((p[i].toNat : Nat) : Int) = 47 then (i : Int) else Lib.lastIdx p 47 i := by
  have e := data_get p i h
  simp only [Lib.lastIdx, e]
theorem headB_iff (p : ByteArray) : headB p = decide (∃ h : 0 < p.size, p[0] = 47) := by
  rw [Bool.eq_iff_iff, decide_eq_true_eq]
  unfold headB Lib.hasPrefix
  obtain ⟨⟨l⟩⟩ := p
  cases l with
  | nil =>
    constructor
    · intro h; cases h
    · rintro ⟨h, _⟩; cases h
  | cons a r =>
    show ([47].isPrefixOf (a :: r)) = true ↔ _
    simp only [List.isPrefixOf, Bool.and_true, beq_iff_eq]
    exact ⟨fun h => ⟨Nat.succ_pos _, h.symm⟩, fun h => h.2.symm⟩
theorem tailB_iff (p : ByteArray) (h : 0 < p.size) : tailB p = decide (p[p.size - 1]'(by omega) = 47) := by
  rw [Bool.eq_iff_iff, decide_eq_true_eq]
  unfold tailB Lib.hasSuffix
  obtain ⟨⟨l⟩⟩ := p
  have hne : l ≠ [] := by rintro rfl; cases h
  rw [List.isSuffixOf_iff_suffix]
  have e : (ByteArray.mk ⟨l⟩)[(ByteArray.mk ⟨l⟩).size - 1]'(by omega) = l.getLast hne := by
    rw [List.getLast_eq_getElem]
    rfl
  rw [e]
  constructor
  · rintro ⟨t, ht⟩
    have h2 : l = t ++ [47] := ht.symm
    subst h2
    exact List.getLast_concat
  · intro h47
    refine ⟨l.dropLast, ?_⟩
    rw [← h47]
    exact List.dropLast_concat_getLast hne
theorem tailB_empty (p : ByteArray) (h : p.size = 0) : tailB p = false := by
  obtain ⟨⟨l⟩⟩ := p
  have : l = [] := List.eq_nil_of_length_eq_zero h
  subst this
  rfl

end Go.Proofs.Ytphbkjdheopmhaa.Pth
namespace Go.Proofs.Ytphbkjdheopmhaa.Wd
set_option linter.unusedVariables false
set_option linter.unusedSimpArgs false

/-- The greatest uint64. -/
def top : Int := 18446744073709551615
theorem top_def : top = 18446744073709551615 := rfl

theorem xor_top (b : Int) (h0 : 0 ≤ b) (h1 : b ≤ 18446744073709551615) : bits .xor .u64 IntKind.u64.max b = 18446744073709551615 - b := by
  obtain ⟨n, rfl⟩ := Int.eq_ofNat_of_zero_le h0
  have e : IntKind.u64.max = ((18446744073709551615 : Nat) : Int) := rfl
  rw [e, u64_xor_nat _ _ (by omega) (by omega)]
  have h2 : n < 2 ^ 64 := by omega
  have h3 : (18446744073709551615 : Nat) ^^^ n = 2 ^ 64 - 1 - n := by
    have h4 := BitVec.toNat_not (x := BitVec.ofNat 64 n)
    rw [← BitVec.xor_allOnes, BitVec.toNat_xor, BitVec.toNat_ofNat, BitVec.toNat_allOnes, Nat.mod_eq_of_lt h2, Nat.xor_comm] at h4
    exact h4
  rw [h3]
  omega

theorem andNot_page (a : Int) (h0 : 0 ≤ a) (h1 : a ≤ 18446744073709551615) : bits .andNot .u64 a 4095 = a - a % 4096 := by
  obtain ⟨n, rfl⟩ := Int.eq_ofNat_of_zero_le h0
  have e : (4095 : Int) = ((4095 : Nat) : Int) := rfl
  rw [e, u64_andNot_nat _ _ (by omega) (by omega)]
  have h2 : n < 2 ^ 64 := by omega
  have h3 : n &&& (18446744073709551615 - 4095) = n - n % 4096 := by
    have h5 : (18446744073709551615 - 4095 : Nat) ^^^ 4095 = 2 ^ 64 - 1 := by decide
    have h6 : n &&& (2 ^ 64 - 1) = n := by rw [Nat.and_two_pow_sub_one_eq_mod]; exact Nat.mod_eq_of_lt h2
    have h7 : n &&& 4095 = n % 4096 := Nat.and_two_pow_sub_one_eq_mod n 12
    have h8 : (n &&& (18446744073709551615 - 4095)) + (n &&& 4095) = n := by
      have h9 : (n &&& (18446744073709551615 - 4095)) ||| (n &&& 4095) = n := by
        rw [← Nat.and_or_distrib_left]
        have : (18446744073709551615 - 4095 : Nat) ||| 4095 = 2 ^ 64 - 1 := by decide
        rw [this, h6]
      have h10 : (n &&& (18446744073709551615 - 4095)) ||| (n &&& 4095) = (n &&& (18446744073709551615 - 4095)) + (n &&& 4095) := by
        refine nat_join 12 _ _ ?_ ?_
        · have e2 : (18446744073709551615 - 4095 : Nat) = (2 ^ 52 - 1) <<< 12 := by decide
          rw [e2, ← Nat.and_two_pow_sub_one_eq_mod, Nat.and_assoc]
          have : ((2 ^ 52 - 1 : Nat) <<< 12) &&& (2 ^ 12 - 1) = 0 := by decide
          rw [this, Nat.and_zero]
        · rw [h7]
          exact Nat.mod_lt _ (by decide)
      omega
    omega
  rw [h3]
  omega

/-- Numbers of bytes, the lowest first. -/
def le : List UInt8 → Nat
  | [] => 0
  | c :: r => c.toNat + 256 * le r
def num (b : List UInt8) (p n : Nat) : Nat := le ((b.drop p).take n)

theorem le_snoc (l : List UInt8) (c : UInt8) : le (l ++ [c]) = le l + 256 ^ l.length * c.toNat := by
  induction l with
  | nil => simp [le]
  | cons a r ih =>
    simp only [List.cons_append, le, ih, List.length_cons, Nat.pow_succ, Nat.mul_add]
    rw [Nat.add_assoc, ← Nat.mul_assoc, Nat.mul_comm 256 (256 ^ r.length)]
theorem le_lt (l : List UInt8) : le l < 256 ^ l.length := by
  induction l with
  | nil => simp [le]
  | cons a r ih =>
    have := a.toNat_lt
    simp only [le, List.length_cons, Nat.pow_succ]
    omega
theorem num_zero (b : List UInt8) (p : Nat) : num b p 0 = 0 := by simp [num, le]
theorem num_succ (b : List UInt8) (p n : Nat) (c : UInt8) (h : b[p + n]? = some c) : num b p (n + 1) = num b p n + 256 ^ n * c.toNat := by
  unfold num
  have hl : p + n < b.length := by
    rcases Nat.lt_or_ge (p + n) b.length with h1 | h1
    · exact h1
    · rw [List.getElem?_eq_none h1] at h; cases h
  rw [List.take_add_one, List.getElem?_drop, h]
  simp only [Option.toList_some]
  rw [le_snoc, List.length_take, List.length_drop, Nat.min_eq_left (by omega)]
theorem num_lt (b : List UInt8) (p n : Nat) : num b p n < 256 ^ n := by
  unfold num
  refine Nat.lt_of_lt_of_le (le_lt _) (Nat.pow_le_pow_right (by omega) (List.length_take_le _ _))
theorem or_step (x c i : Nat) (h : x < 256 ^ i) : x ||| (c * 2 ^ (8 * i)) = x + 256 ^ i * c := by
  have e : 2 ^ (8 * i) = 256 ^ i := by rw [Nat.pow_mul]
  rw [Nat.or_comm, e, nat_join (8 * i) (c * 256 ^ i) x (by rw [e]; exact Nat.mul_mod_left _ _) (by rw [e]; exact h)]
  rw [Nat.mul_comm, Nat.add_comm]

def memB (v : Int) (xs : List Int) : Bool := decide (v ∈ xs)
def sizedB (n : Int) : Bool := memB n [1, 2, 4, 8]
theorem sizedB_yes {n : Int} (h : n = 1 ∨ n = 2 ∨ n = 4 ∨ n = 8) : sizedB n = true := by simpa [sizedB, memB] using h

theorem or_val (N x k : Nat) (h : N < 256 ^ k) (hx : x < 256) (hk : k < 8) :
    bits .or .u64 (N : Int) (IntKind.u64.wrap (IntKind.u64.wrap (x : Int) * 2 ^ (8 * k))) = ((N + 256 ^ k * x : Nat) : Int) := by
  have e1 : IntKind.u64.wrap (x : Int) = (x : Int) := by rw [IntKind.wrap_u64]; omega
  have hle : 2 ^ (8 * k) ≤ 2 ^ 56 := Nat.pow_le_pow_right (by omega) (by omega)
  have hp : x * 2 ^ (8 * k) < 18446744073709551616 := by
    have h1 : x * 2 ^ (8 * k) ≤ 255 * 2 ^ 56 := Nat.mul_le_mul (by omega) hle
    omega
  have e2 : ((x : Int) * 2 ^ (8 * k)) = ((x * 2 ^ (8 * k) : Nat) : Int) := by push_cast; rfl
  have e3 : IntKind.u64.wrap ((x * 2 ^ (8 * k) : Nat) : Int) = ((x * 2 ^ (8 * k) : Nat) : Int) := by rw [IntKind.wrap_u64]; omega
  have hN : N < 18446744073709551616 := by
    have h1 : (256 : Nat) ^ k ≤ 256 ^ 8 := Nat.pow_le_pow_right (by omega) (by omega)
    omega
  rw [e1, e2, e3, u64_or_nat _ _ hN hp, or_step N x k h]

end Go.Proofs.Ytphbkjdheopmhaa.Wd
namespace Go.Proofs.Ytphbkjdheopmhaa.Cl
set_option linter.unusedVariables false
set_option linter.unusedSimpArgs false
open Go.Proofs.Ytphbkjdheopmhaa

structure C where
  kind : Nat
  a : Nat
  b : Nat
  c : Nat
  d : Nat
  e : Nat
  path : ByteArray
  argv : List ByteArray
  env : List ByteArray
  bytes : List UInt8

/-- The fields of a kind, by their numbers. -/
def fsN : Nat → List Nat
  | 1 => [5, 6, 7]
  | 3 => [0]
  | 5 => [0, 1, 2, 3, 4]
  | 6 => [0, 1]
  | 7 => [0, 1, 2]
  | 8 => [0, 1]
  | 9 => [0, 8]
  | 10 => [5, 0]
  | 11 => [0]
  | 12 => [0, 1]
  | _ => []
def num (c : C) : Nat → Nat
  | 0 => c.a
  | 1 => c.b
  | 2 => c.c
  | 3 => c.d
  | _ => c.e
/-- is nothing said by a field? -/
def emptyB (c : C) : Nat → Bool
  | 5 => decide (c.path.size = 0)
  | 6 => decide (c.argv.length = 0)
  | 7 => decide (c.env.length = 0)
  | 8 => decide (c.bytes.length = 0)
  | f => num c f == 0
def fieldB (c : C) (f : Nat) : Bool := (fsN c.kind).contains f || emptyB c f
def onlyB (c : C) : Bool := (List.range 9).all (fieldB c)
def bigT (s : ByteArray) : Bool := decide (256 < s.size)
def zeroT (s : ByteArray) : Bool := s.data.toList.contains 0
def envCk (l : List ByteArray) : Int := if 32 < l.length then 12 else if l.any bigT then 12 else if l.any zeroT then 1 else 0
def fst2 (a b : Int) : Int := if a = 0 then b else a
def check (c : C) : Int :=
  if c.kind = 0 ∨ 12 < c.kind then 23 else if onlyB c = false then 1
  else if c.kind = 1 then fst2 (Pth.chk c.path) (fst2 (envCk c.argv) (envCk c.env))
  else if c.kind = 8 ∨ c.kind = 12 then (if 4096 < c.b then 12 else 0)
  else if c.kind = 9 then (if 4096 < c.bytes.length then 12 else 0)
  else if c.kind = 10 then fst2 (Pth.chk c.path) (if 1 < c.a then 1 else 0)
  else 0

end Go.Proofs.Ytphbkjdheopmhaa.Cl
namespace Go.Proofs.Ytphbkjdheopmhaa
set_option linter.unusedVariables false
set_option linter.unusedSimpArgs false
open Go.RowKit

/-- What a slice type t of elements e is known by: 'size' cells, 'bytes' bytes an element. -/
structure SlTy (P : Program) (t e : TypeId) (size bytes : Nat) : Prop where
  ht : P.underlying t = some (.slice e)
  hi : ∃ i z, P.info? e = some i ∧ i.zero = some z ∧ i.size = size ∧ i.bytes = bytes ∧ z.cells.size = size
  hsz : 0 < size
  hby : 0 < bytes

theorem slTy_mk {P : Program} {t e : TypeId} {size bytes : Nat} {z : Value} (ht : P.underlying t = some (.slice e)) (h : (P.info? e).map (fun i => (i.zero, i.size, i.bytes)) = some (some z, size, bytes))
    (hz : z.cells.size = size) (hsz : 0 < size) (hby : 0 < bytes) : SlTy P t e size bytes := by
  refine ⟨ht, ?_, hsz, hby⟩
  cases hi : P.info? e with
  | none => simp [hi] at h
  | some i =>
    simp [hi] at h
    exact ⟨i, z, rfl, h.1, h.2.1, h.2.2, hz⟩

theorem Rd.row {w : World} {cs : Array Value} {e : TypeId} {size : Nat} (hc : cs.size = size) : Rd (w.alloc (.cells cs e)) (w.heap.size + 1) size (some ⟨w.heap.size, 0, none⟩) 1 cs.toList := by
  refine ⟨by simp [hc], .inr ⟨w.heap.size, 0, rfl, by omega, fun j u hu => ?_⟩⟩
  rw [cell_of_row _ w.heap.size (0 + j) cs e (0, 0) (heap_alloc_new _ _), Nat.zero_add]
  simpa using hu

theorem Rd.rowF {w : World} {cs : Array Value} {e : TypeId} {size n : Nat} {fz : Nat × Nat} (hc : cs.size = n * size) : Rd (w.alloc (.cells cs e fz)) (w.heap.size + 1) size (some ⟨w.heap.size, 0, none⟩) n cs.toList := by
  refine ⟨by simp [hc], .inr ⟨w.heap.size, 0, rfl, by omega, fun j u hu => ?_⟩⟩
  rw [cell_of_row _ w.heap.size (0 + j) cs e fz (heap_alloc_new _ _), Nat.zero_add]
  simpa using hu

section
variable {P : Program} {t e : TypeId} {size bytes : Nat}

theorem run_app (T : SlTy P t e size bytes) (w : World) (base : Nat) (ty : TypeId) (v : Value) (n : Nat) (xs : List Value) (hown : w.ownsRow base e size v n xs)
    (B : Nat) (A : Option Addr) (m c : Nat) (news : List Value) (hr : Rd w B size A m news) (h1 : ∀ u ∈ news, u.oneCell' = true)
    (hb : (n + m) * bytes ≤ 140737488355328) (hbase : base ≤ w.heap.size) :
    ∃ v' w', (Builtin.append_ #[t, t] ty #[v, .slice A m c]).run P w = .ok v' w' ∧ w'.ownsRow base e size v' (n + m) (xs ++ news) ∧ w.grownBy w' v.ownBlock ∧
      (∀ k, v'.ownBlock = some k → v.ownBlock = some k ∨ w.heap.size ≤ k) := by
  obtain ⟨ht, ⟨i, z, hi, hz, hs, hby, hzs⟩, hsz, hbp⟩ := T
  have h63 : n + m ≤ maxLen := by
    have : (n + m) * 1 ≤ (n + m) * bytes := Nat.mul_le_mul_left _ hbp
    unfold maxLen
    omega
  by_cases hn0 : m = 0 ∧ A = none
  · obtain ⟨rfl, rfl⟩ := hn0
    have hn : news = [] := List.eq_nil_of_length_eq_zero (by simpa using hr.1)
    subst hn
    refine ⟨v, w, ?_, by simpa using hown, World.grownBy.refl w _, fun k hk => .inl hk⟩
    rcases hown.2 with ⟨rfl, rfl⟩ | ⟨g, cap, cur, rfl, _, _, hnc, _⟩
    · simp [Builtin.append_, run_underlying ht, sizeOf, typeInfo, hi, Builtin.lenOf, Builtin.firstCells]
    · simp [Builtin.append_, run_underlying ht, sizeOf, typeInfo, hi, Builtin.lenOf, Builtin.firstCells, hnc, storeCells]
  · obtain ⟨ad, rfl, hcells⟩ : ∃ ad, A = some ad ∧ ∀ j u, news[j]? = some u → w.cell? (ad.add j) = some u := by
      rcases hr.2 with rfl | ⟨b, off, rfl, _, hc⟩
      · have hm : m = 0 := by
          have := hr.1
          simp only [List.length_nil] at this
          rcases Nat.eq_zero_or_pos m with h | h
          · exact h
          · have := Nat.mul_pos h hsz
            omega
        cases A with
        | none => exact absurd ⟨hm, rfl⟩ hn0
        | some ad => exact ⟨ad, rfl, fun j u hu => by simp at hu⟩
      · exact ⟨_, rfl, fun j u hu => by rw [Addr.add_lit]; exact hc j u hu⟩
    obtain ⟨v', w', hrun, h2, h3, h4, h5⟩ := run_append_own_at (P := P) w base t ty e i z size bytes ht hi hz hs hby hzs hsz v n xs hown ad m c news hr.1 hcells h1 h63 hb hbase
    refine ⟨v', w', hrun, h2, h3, fun k hk => ?_⟩
    rcases h5 with h5 | h5
    · exact .inl (h5 ▸ hk)
    · rw [h5] at hk
      injection hk with hk
      exact .inr (by omega)

theorem wp_app (T : SlTy P t e size bytes) {w : World} {o : Oper} {a : Act} {K : Act → World → Prop} {Q : Exit → Act → World → Prop} (s x : Operand)
    (ho : o.op = .call { callee := .builtin .append, args := #[s, x], argTypes := #[t, t] })
    (base : Nat) (v : Value) (n : Nat) (xs : List Value) (hs : a.eval s = v) (hown : w.ownsRow base e size v n xs)
    (B : Nat) (A : Option Addr) (m c : Nat) (news : List Value) (hx : a.eval x = .slice A m c) (hr : Rd w B size A m news) (h1 : ∀ u ∈ news, u.oneCell' = true)
    (hb : (n + m) * bytes ≤ 140737488355328) (hbase : base ≤ w.heap.size)
    (h : ∀ v' w', w'.ownsRow base e size v' (n + m) (xs ++ news) → w.grownBy w' v.ownBlock → (∀ k, v'.ownBlock = some k → v.ownBlock = some k ∨ w.heap.size ≤ k) → K (a.put o.dst v') w') : o.wp P a w K Q := by
  obtain ⟨v', w', hrun, h2, h3, h4⟩ := run_app T w base o.type v n xs hown B A m c news hr h1 hb hbase
  unfold Oper.wp execOp
  simp only [ho, resolve, invoke, builtin, Sem.run_bind, Sem.run_pure, Result.andThen_ok, List.map_toArray, List.map_cons, List.map_nil, hs, hx, hrun]
  exact h v' w' h2 h3 h4

/-- 'append(s, x...)', x a slice that reads as 'news'. -/
theorem wpList_app (T : SlTy P t e size bytes) {w : World} {ops : Array Oper} {rest : List Oper} {o : Oper} {a : Act} {Q : Exit → Act → World → Prop} (hgd : o.guard = none) (s x : Operand)
    (ho : o.op = .call { callee := .builtin .append, args := #[s, x], argTypes := #[t, t] })
    (base : Nat) (v : Value) (n : Nat) (xs : List Value) (hs : a.eval s = v) (hown : w.ownsRow base e size v n xs)
    (B : Nat) (A : Option Addr) (m c : Nat) (news : List Value) (hx : a.eval x = .slice A m c) (hr : Rd w B size A m news) (h1 : ∀ u ∈ news, u.oneCell' = true)
    (hb : (n + m) * bytes ≤ 140737488355328) (hbase : base ≤ w.heap.size)
    (h : ∀ A' c' w', w'.ownsRow base e size (.slice A' (n + m) c') (n + m) (xs ++ news) → w.grownBy w' v.ownBlock → (∀ k, (Value.slice A' (n + m) c').ownBlock = some k → v.ownBlock = some k ∨ w.heap.size ≤ k) → wpList P ops Q rest (a.put o.dst (.slice A' (n + m) c')) w') : wpList P ops Q (o :: rest) a w :=
  wpList_plain hgd fun _ hK => wp_app T s x ho base v n xs hs hown B A m c news hx hr h1 hb hbase fun v' w' h2 h3 h4 => by
    obtain ⟨A', c', rfl⟩ := own_form h2
    exact hK _ _ (h A' c' w' h2 h3 h4)

/-- 'append(s, x)': the one element's cells have just been laid in a block of their own. -/
theorem wpList_app1 (T : SlTy P t e size bytes) {W : World} {ops : Array Oper} {rest : List Oper} {o : Oper} {a : Act} {Q : Exit → Act → World → Prop} (hgd : o.guard = none) (s x : Operand)
    (ho : o.op = .call { callee := .builtin .append, args := #[s, x], argTypes := #[t, t] })
    (base : Nat) (v : Value) (n : Nat) (xs : List Value) (hs : a.eval s = v) (hown : W.ownsRow base e size v n xs)
    (cs : Array Value) (hx : a.eval x = .slice (some ⟨W.heap.size, 0, none⟩) 1 1) (hcs : cs.size = size) (h1 : ∀ u ∈ cs.toList, u.oneCell' = true)
    (hb : (n + 1) * bytes ≤ 140737488355328) (hbase : base ≤ W.heap.size)
    (h : ∀ A' c' w', w'.ownsRow base e size (.slice A' (n + 1) c') (n + 1) (xs ++ cs.toList) → W.grownBy w' v.ownBlock → (∀ k, (Value.slice A' (n + 1) c').ownBlock = some k → v.ownBlock = some k ∨ W.heap.size ≤ k) → wpList P ops Q rest (a.put o.dst (.slice A' (n + 1) c')) w') : wpList P ops Q (o :: rest) a (W.alloc (.cells cs e)) :=
  wpList_app T hgd s x ho base v n xs hs (hown.alloc _) (W.heap.size + 1) (some ⟨W.heap.size, 0, none⟩) 1 1 cs.toList hx (Rd.row hcs) h1 hb (by simp; omega)
    fun A' c' w' h2 h3 h4 => h A' c' w' h2 (grown_trans (World.grownBy_alloc W _ _) h3) fun k hk => (h4 k hk).imp id fun h5 => by simp at h5; omega
end
end Go.Proofs.Ytphbkjdheopmhaa
namespace Go.Proofs.Ytphbkjdheopmhaa
set_option linter.unusedVariables false
set_option linter.unusedSimpArgs false
open Go.RowKit Go.Lib

/-- Nothing below B, and no block that is no iterator of a text, has turned. -/
structure ItKp (B : Nat) (w w' : World) : Prop where
  os : w'.os = w.os
  tape : w'.tape = w.tape
  output : w'.output = w.output
  size : w.heap.size ≤ w'.heap.size
  low : ∀ k, k < B → w'.heap[k]? = w.heap[k]?
  rest : ∀ (k : Nat) (o : Obj), w.heap[k]? = some o → (∀ s p, o ≠ .stringIter s p) → w'.heap[k]? = some o

def IterKept (w w' : World) : Prop := ∀ (k : Nat) (s : ByteArray) (p : Nat), w.heap[k]? = some (.stringIter s p) → w'.heap[k]? = some (.stringIter s p)

theorem ItKp.iter {B : Nat} {w : World} (hB : B ≤ w.heap.size) (s : ByteArray) (p : Nat) : ItKp B w (w.iter s p) :=
  ⟨rfl, rfl, rfl, by simp [World.iter], fun k hk => Below.heap_alloc _ _ _ (by omega), fun k o h _ => by
    rw [← h]
    exact Below.heap_alloc _ _ _ (Array.getElem?_eq_some_iff.1 h).1⟩

theorem ItKp.iterAt {B : Nat} {w : World} {k : Nat} (hB : B ≤ k) (s : ByteArray) (p q : Nat) (h : w.heap[k]? = some (.stringIter s q)) : ItKp B w (w.iterAt k s p) :=
  ⟨rfl, rfl, rfl, by rw [iterAt_size]; exact Nat.le_refl _, fun j hj => iterAt_other _ _ _ _ _ (by omega), fun j o hj hn => by
    by_cases e : j = k
    · subst e
      rw [h] at hj
      exact absurd (Option.some.inj hj).symm (hn _ _)
    · rw [iterAt_other _ _ _ _ _ e]
      exact hj⟩

set_option maxHeartbeats 800000 in
/-- pieces hands each text between slashes to yield, till that says no. -/
theorem pieces_any {S : Type} (fn : FuncId) (c : Value) (I : Nat → S → World → Prop) (step : S → ByteArray → S × Bool) (B : Nat) (p : ByteArray) (hp : p.size ≤ maxLen)
    (hf : ∀ (args : Array Value) (w : World), (callFunc fn args).run Try.prog w = .ok (.enter fn args) w)
    (hI : ∀ n s w w', ItKp B w w' → I n s w → I n s w')
    (hcall : ∀ n s w (x : ByteArray), n ≤ p.size → x.size ≤ p.size → I n s w → Calls Try.prog fn #[.string x, c] w fun e w' => e = .returned (.bool (step s x).2) ∧ I (n + 1) (step s x).1 w' ∧ IterKept w w')
    (s0 : S) (w : World) (hB : B ≤ w.heap.size) (h0 : I 0 s0 w) :
    Calls Try.prog 59 #[.string p, .func (.func fn) #[] #[c]] w fun e w' => e = .returned (.tuple #[]) ∧ ∃ n, I n (Pth.goF step s0 (Pth.pcs p)) w' := by
  have Hc := hide hcall
  have HI := hide hI
  clear hcall hI
  unfold maxLen at hp
  go_enter Try.func59, Try.ntmps59
  go_wp2
  go_loopw [4] (fun f wr => ∃ (n pos fr : Nat) (s : S), n ≤ pos ∧ f = .int .i64 fr ∧ fr ≤ pos ∧ pos ≤ p.size ∧ wr.heap[w.heap.size]? = some (.stringIter p pos) ∧ I n s wr ∧ Pth.goF step s (Pth.pcsAt p pos fr) = Pth.goF step s0 (Pth.pcs p)) (fun _ wr => p.size - wr.iterPos w.heap.size)
  case atStart => exact ⟨0, 0, 0, s0, Nat.le_refl _, rfl, Nat.le_refl _, Nat.zero_le _, World.iter_heap _ _ _, unhide HI _ _ _ _ (ItKp.iter hB _ _) h0, rfl⟩
  case round =>
    obtain ⟨n, pos, fr, s, hnp, rfl, hfr, hps, hit, hIs, hg⟩ := hrel
    have Hg := hide hg
    clear hg
    by_cases hlt : pos < p.size
    · obtain ⟨c1, c2, c3, c4, c5⟩ := Pth.decode_cover p pos hlt
      have hI1 : I n s (wr.iterAt w.heap.size p (pos + (Utf8.decode p pos).2))   := unhide HI _ _ _ _ (ItKp.iterAt hB _ _ _ hit) hIs
      have hit1 := iterAt_heap wr w.heap.size p pos (pos + (Utf8.decode p pos).2) hit
      have hip := iterPos_of hit
      have hip1 := iterPos_of hit1
      have hnx := fun ty => run_next_any_at (P := Try.prog) wr w.heap.size p pos ty hit hlt
      by_cases hc : p[pos] = 47
      · have hd1 := c4 hc
        have hc' := c3.2 hc
        rw [hd1] at hI1 hit1 hip1 hnx
        rw [hc'] at hnx
        have hgoal : Pth.goF step s (p.extract fr pos :: Pth.pcsAt p (pos + 1) (pos + 1)) = Pth.goF step s0 (Pth.pcs p) := by rw [← Pth.pcsAt_slash p pos fr hlt hc]; exact unhide Hg
        have Hgoal := hide hgoal
        have Hip := hide hip
        have Hit := hide hit1
        clear hgoal hd1 hc' hc hip hip1 hit1 hit c3 c4 c5 c1 c2
        go_wp2_with (refine ((unhide Hc) n s _ (p.extract fr pos) (by omega) (by simp only [ByteArray.size_extract]; omega) hI1).mono ?_; rintro e w1 ⟨rfl, hI2, hk2⟩)
        · have hst : (step s (p.extract fr pos)).2 = false := by
            have h : (!(step s (p.extract fr pos)).2) = true := by assumption
            simpa using h
          refine bodyPost_ret (results_none rfl _ _ _) rfl ⟨rfl, n + 1, ?_⟩
          rw [← unhide Hgoal]
          simp only [Pth.goF, hst, if_false, Bool.false_eq_true]
          exact hI2
        · have hit2 := hk2 _ _ _ (unhide Hit)
          have hip2 := iterPos_of hit2
          have hst : (step s (p.extract fr pos)).2 = true := by
            have h : (!(step s (p.extract fr pos)).2) = false := by assumption
            simpa using h
          go_roundw
          case rel => exact ⟨n + 1, pos + 1, pos + 1, _, by omega, by go_num, Nat.le_refl _, by omega, hit2, hI2, by rw [← unhide Hgoal]; simp [Pth.goF, hst]⟩
          case measure => rw [hip2, unhide Hip]; omega
      · have hne : ((((Utf8.decode p pos).1 : Nat) : Int) != 47) = true := by
          have : (Utf8.decode p pos).1 ≠ 47 := fun e => hc (c3.1 e)
          rw [bne_iff_ne]; omega
        have hgoal : Pth.goF step s (Pth.pcsAt p (pos + (Utf8.decode p pos).2) fr) = Pth.goF step s0 (Pth.pcs p) := by
          rw [← Pth.pcsAt_skips p fr _ pos (c5 hc)]; exact unhide Hg
        have Hgoal := hide hgoal
        have Hip := hide hip
        have Hip1 := hide hip1
        have Hit := hide hit1
        clear hgoal hip hip1 hit1 c3 c4 c5
        go_wp2
        go_roundw
        case rel => exact ⟨n, pos + (Utf8.decode p pos).2, fr, s, by omega, rfl, by omega, c2, unhide Hit, hI1, unhide Hgoal⟩
        case measure => rw [unhide Hip, unhide Hip1]; omega
    · have hnx := fun ty => run_next_end_at (P := Try.prog) wr w.heap.size p pos ty hit hlt
      obtain rfl : pos = p.size := by omega
      have hgoal : Pth.goF step s [p.extract fr p.size] = Pth.goF step s0 (Pth.pcs p) := by rw [← Pth.pcsAt_end]; exact unhide Hg
      have Hgoal := hide hgoal
      clear hgoal hps hlt
      go_wp2_with (refine ((unhide Hc) n s _ (p.extract fr p.size) (by omega) (by simp only [ByteArray.size_extract]; omega) hIs).mono ?_; rintro e w1 ⟨rfl, hI2, hk2⟩)
      go_end0
      refine ⟨rfl, n + 1, ?_⟩
      rw [← unhide Hgoal]
      simp only [Pth.goF]
      split <;> exact hI2

/-- What Check's yield keeps: its error in block g. -/
def ChkI (w0 : World) (g : Nat) (e : Int) (w : World) : Prop := w.heap[g]? = some (.cells #[.int .i64 e] 30 (0, 0)) ∧ Below w0.heap.size w0 w

theorem ChkI.stable {w0 : World} {g : Nat} (e : Int) (w w' : World) (h : ItKp w0.heap.size w w') (hI : ChkI w0 g e w) : ChkI w0 g e w' :=
  ⟨h.rest _ _ hI.1 (fun _ _ => by simp), hI.2.trans ⟨h.os, h.tape, h.output, h.size, h.low⟩⟩

theorem iterKept_setCell {w : World} {g : Nat} {cs : Array Value} {t : TypeId} {fz : Nat × Nat} (h : w.heap[g]? = some (.cells cs t fz)) (o : Nat) (v : Value) : IterKept w (w.setCell ⟨g, o, none⟩ v) := by
  intro k s p hk
  rw [Below.heap_setCell _ _ _ _ ?_]
  · exact hk
  · rintro rfl
    rw [h] at hk
    cases hk

theorem check1_any (w0 : World) (g : Nat) (hg : w0.heap.size ≤ g) (e : Int) (w : World) (x : ByteArray) (hx : x.size ≤ maxLen) (hI : ChkI w0 g e w) :
    Calls Try.prog 60 #[.string x, .pointer (some ⟨g, 0, none⟩)] w fun r w' => r = .returned (.bool (Pth.checkStep e x).2) ∧ ChkI w0 g (Pth.checkStep e x).1 w' ∧ IterKept w w' := by
  have HI := hide hI
  obtain ⟨hc, hb⟩ := hI
  have h1 := cell_of_one hc
  have h2 := free_of_one hc
  have h3 := cell_of_one (one_setCell (u := .int .i64 11) hc)
  clear hc hb
  unfold maxLen at hx
  by_cases hl : 32 < x.size
  · go_enter Try.func60, Try.ntmps60
    go_wp2
    go_ret
    refine ⟨by simp [Pth.checkStep, hl], ⟨?_, ?_⟩, ?_⟩
    · simp only [Pth.checkStep, hl, if_true]
      exact one_setCell (unhide HI).1
    · exact (unhide HI).2.setCell hg _
    · exact iterKept_setCell (unhide HI).1 _ _
  · go_enter Try.func60, Try.ntmps60
    go_wp2
    go_ret
    exact ⟨by simp [Pth.checkStep, hl], by simpa [Pth.checkStep, hl] using unhide HI, fun _ _ _ h => h⟩

theorem callFunc_check1 (args : Array Value) (w : World) : (callFunc 60 args).run Try.prog w = .ok (.enter 60 args) w := by kernel_rfl

theorem check_any (p : ByteArray) (hp : p.size ≤ maxLen) (w : World) :
    Calls Try.prog 34 #[.string p] w fun e w' => e = .returned (.int .i64 (Pth.chk p)) ∧ Below w.heap.size w w' := by
  have hp' := hp
  unfold maxLen at hp
  have hmf : ∀ (fn : Fn) (first cap : Array Value) (w : World), (Instr.makeFunc fn first cap).run Try.prog w = .ok (.func fn first cap) w := fun _ _ _ _ => rfl
  have he0 : p.toList.isEmpty = decide (p.size = 0) := isEmpty_toList p
  have hcn := Lib.contains_iff_indexByte p.data.toList 0
  by_cases h0 : p.size = 0
  · have hr : Pth.chk p = 3 := by simp [Pth.chk, h0]
    have Hr := hide hr
    have he : p.toList.isEmpty = true := by rw [he0]; simpa using h0
    clear he0 hr h0 hcn
    go_enter Try.func34, Try.ntmps34
    go_wp2_with fail
    go_ret
    exact ⟨by rw [unhide Hr]; rfl, Below.refl _ _⟩
  · have he : p.toList.isEmpty = false := by rw [he0]; simpa using h0
    by_cases h1 : p.data.toList.contains 0 = true
    · have hr : Pth.chk p = 1 := by simp only [Pth.chk, h0, h1, if_true, if_false]
      have Hr := hide hr
      have hi : decide (0 ≤ Lib.indexByte p.data.toList 0) = true := by rw [← hcn]; exact h1
      clear he0 hr h0 hcn h1
      go_enter Try.func34, Try.ntmps34
      go_wp2_with (go_at_call 58; refine (flipw (Try.strings_Contains_one _ _ _)).mono ?_; rintro e w1 ⟨rfl, rfl⟩)
      go_ret
      exact ⟨by rw [unhide Hr]; rfl, Below.refl _ _⟩
    · have hi : decide (0 ≤ Lib.indexByte p.data.toList 0) = false := by rw [← hcn]; simpa using h1
      by_cases h2 : 200 < p.size
      · have hr : Pth.chk p = 11 := by simp only [Pth.chk, h0, h1, h2, if_true, if_false, Bool.false_eq_true]
        have Hr := hide hr
        clear he0 hr h0 hcn h1
        go_enter Try.func34, Try.ntmps34
        go_wp2_with (go_at_call 58; refine (flipw (Try.strings_Contains_one _ _ _)).mono ?_; rintro e w1 ⟨rfl, rfl⟩)
        go_ret
        exact ⟨by rw [unhide Hr]; rfl, Below.refl _ _⟩
      · have hr : Pth.chk p = Pth.goF Pth.checkStep 0 (Pth.pcs p) := by rw [Pth.goF_check]; simp only [Pth.chk, h0, h1, h2, if_false, Bool.false_eq_true]
        have Hr := hide hr
        clear he0 hr h0 hcn h1
        have hini : ChkI w w.heap.size 0 (w.alloc (.cells #[.int .i64 0] 30)) := ⟨heap_alloc_new _ _, (Below.refl _ _).alloc (Nat.le_refl _) _⟩
        have Hini := hide hini
        clear hini
        go_enter Try.func34, Try.ntmps34
        go_wp2_with (first
          | (go_at_call 58; refine (flipw (Try.strings_Contains_one _ _ _)).mono ?_; rintro e w1 ⟨rfl, rfl⟩)
          | (go_at_call 59; refine (pieces_any 60 _ (fun _ => ChkI w w.heap.size) Pth.checkStep w.heap.size p hp' callFunc_check1 (fun _ => ChkI.stable) (fun _ s w' x _ hx hI => check1_any w w.heap.size (Nat.le_refl _) s w' x (Nat.le_trans hx hp') hI) 0 _ (Nat.le_of_lt (by simp)) (unhide Hini)).mono ?_; rintro e w1 ⟨rfl, _, hI⟩; have h9 := cell_of_one hI.1; have HI9 := hide hI; clear hI))
        go_ret
        exact ⟨by rw [unhide Hr]; rfl, (unhide HI9).2⟩

theorem strTy : SlTy Try.prog 23 9 1 16 := slTy_mk (z := .string ⟨#[]⟩) Try.underlying23 (by kernel_rfl) rfl (by omega) (by omega)

end Go.Proofs.Ytphbkjdheopmhaa
namespace Go.Proofs.Ytphbkjdheopmhaa
set_option linter.unusedVariables false
set_option linter.unusedSimpArgs false
open Go.RowKit

theorem add_yes (a b : Int) (w : World) (h0 : 0 ≤ a) (h2 : 0 ≤ b) (h : a + b ≤ 18446744073709551615) :
    Calls Try.prog 87 #[.int .u64 a, .int .u64 b] w fun e w' => e = .returned (.tuple #[.int .u64 (a + b), .bool true]) ∧ w = w' := by
  obtain ⟨c, hc, hcb⟩ : ∃ c, bits .xor .u64 IntKind.u64.max b = c ∧ c = 18446744073709551615 - b := ⟨_, rfl, Wd.xor_top b h2 (by omega)⟩
  have hc2 : ¬ c < a := by omega
  have hs : IntKind.u64.signed = false := rfl
  clear hcb
  go_enter Try.func87, Try.ntmps87
  go_wp2
  go_ret2
  exact ⟨rfl, rfl⟩
theorem add_no (a b : Int) (w : World) (h1 : a ≤ 18446744073709551615) (h2 : 0 ≤ b) (h3 : b ≤ 18446744073709551615) (h : 18446744073709551615 < a + b) :
    Calls Try.prog 87 #[.int .u64 a, .int .u64 b] w fun e w' => e = .returned (.tuple #[.int .u64 0, .bool false]) ∧ w = w' := by
  obtain ⟨c, hc, hcb⟩ : ∃ c, bits .xor .u64 IntKind.u64.max b = c ∧ c = 18446744073709551615 - b := ⟨_, rfl, Wd.xor_top b h2 (by omega)⟩
  have hc2 : c < a := by omega
  have hs : IntKind.u64.signed = false := rfl
  clear hcb
  go_enter Try.func87, Try.ntmps87
  go_wp2
  go_ret2
  exact ⟨rfl, rfl⟩

theorem inside_any (a b c : Int) (w : World) (h0 : 0 ≤ a) (h1 : a ≤ 18446744073709551615) (h2 : 0 ≤ b) (h3 : b ≤ 18446744073709551615) (h5 : c ≤ 18446744073709551615) :
    Calls Try.prog 80 #[.int .u64 a, .int .u64 b, .int .u64 c] w fun e w' => e = .returned (.bool (decide (a + b ≤ c))) ∧ w = w' := by
  by_cases h : a + b ≤ 18446744073709551615
  · go_enter Try.func80, Try.ntmps80
    go_wp2_with (go_at_call 87; refine (add_yes _ _ _ h0 h2 h).mono ?_; rintro e w' ⟨rfl, rfl⟩)
    go_ret
    exact ⟨rfl, rfl⟩
  · have h' : 18446744073709551615 < a + b := by omega
    have hr : decide (a + b ≤ c) = false := decide_eq_false (by omega)
    rw [hr]
    clear hr
    go_enter Try.func80, Try.ntmps80
    go_wp2_with (go_at_call 87; refine (add_no _ _ _ h1 h2 h3 h').mono ?_; rintro e w' ⟨rfl, rfl⟩)
    go_ret
    exact ⟨rfl, rfl⟩

def IdxInt (xs : List Int) (v : Int) (w : World) (e : Ending) (w' : World) : Prop := ∃ r : Int, e = .returned (.int .i64 r) ∧ (0 ≤ r ↔ v ∈ xs) ∧ w = w'
theorem indexInt_any (A : Option Addr) (n c B : Nat) (xs : List Int) (v : Int) (w : World) (hx : Rd w B 1 A n (xs.map (Value.int .i64))) (hn : n ≤ maxLen) :
    Calls Try.prog 90 #[.slice A n c, .int .i64 v] w (IdxInt xs v w) := by
  have hxl : xs.length = n := by simpa using hx.len1
  unfold maxLen at hn
  have Hx := hide hx
  have Hxl := hide hxl
  clear hx hxl
  go_enter Try.func90, Try.ntmps90
  go_wp2
  go_loop [8] (fun i => ∃ k : Nat, k ≤ n ∧ i = .int .i64 k ∧ v ∉ xs.take k) (fun i => n - (intOf i).toNat)
  case atStart => exact ⟨0, Nat.zero_le _, rfl, by simp⟩
  case round =>
    obtain ⟨k, hk, rfl, hv⟩ := hrel
    have Hv := hide hv
    clear hv
    by_cases hlt : k < n
    · obtain ⟨x, hxk⟩ : ∃ x, xs[k]? = some x := ⟨_, List.getElem?_eq_getElem (by rw [unhide Hxl]; exact hlt)⟩
      obtain ⟨b1, o1, rfl, _, c1⟩ := (unhide Hx).at_ (k := k) (u := .int .i64 x) (by simp [hxk])
      by_cases he : v = x
      · have hb : (v == x) = true := by simpa using he
        have hm : v ∈ xs := by rw [he]; exact List.mem_of_getElem? hxk
        have Hm := hide hm
        clear he hxk hm
        go_wp2
        go_ret
        exact ⟨k, rfl, ⟨fun _ => unhide Hm, fun _ => by omega⟩, rfl⟩
      · have hb : (v == x) = false := by simpa using he
        have hm : v ∉ xs.take (k + 1) := by
          rw [List.take_add_one, hxk, List.mem_append]
          simp [he, unhide Hv]
        have Hm := hide hm
        clear he hxk hm
        go_wp2
        go_round
        case rel => exact ⟨k + 1, by omega, by go_num, unhide Hm⟩
        case measure => simp [intOf]; omega
    · have hm : v ∉ xs := by
        have := unhide Hv
        rwa [List.take_of_length_le (by have := unhide Hxl; omega)] at this
      have Hm := hide hm
      clear hm
      go_wp2
      go_ret
      exact ⟨-1, rfl, ⟨fun h => by omega, fun h => absurd h (unhide Hm)⟩, rfl⟩

theorem containsInt_any (A : Option Addr) (n c B : Nat) (xs : List Int) (v : Int) (w : World) (hx : Rd w B 1 A n (xs.map (Value.int .i64))) (hn : n ≤ maxLen) :
    Calls Try.prog 86 #[.slice A n c, .int .i64 v] w fun e w' => e = .returned (.bool (Wd.memB v xs)) ∧ w = w' := by
  have Hx := hide hx
  clear hx
  go_enter Try.func86, Try.ntmps86
  go_wp2_with (go_at_call 90; refine (indexInt_any _ _ _ _ _ _ _ (unhide Hx) hn).mono ?_; rintro e w1 ⟨r, rfl, hr, rfl⟩; have Hr := hide hr; clear hr)
  go_ret
  refine ⟨ret_bool ?_, rfl⟩
  unfold Wd.memB
  rw [Bool.eq_iff_iff, decide_eq_true_eq, decide_eq_true_eq]
  exact unhide Hr

theorem sized_any (n : Int) (w : World) :
    Calls Try.prog 79 #[.int .i64 n] w fun e w' => e = .returned (.bool (Wd.sizedB n)) ∧ Below w.heap.size w w' := by
  have hr := Rd.row (w := w) (cs := #[.int .i64 1, .int .i64 2, .int .i64 4, .int .i64 8]) (e := 107) (size := 4) rfl
  have hr2 : Rd (w.alloc (.cells #[.int .i64 1, .int .i64 2, .int .i64 4, .int .i64 8] 107)) (w.heap.size + 1) 1 (some ⟨w.heap.size, 0, none⟩) 4 (([1, 2, 4, 8] : List Int).map (Value.int .i64)) := ⟨rfl, hr.2⟩
  have Hr := hide hr2
  clear hr hr2
  go_enter Try.func79, Try.ntmps79
  go_wp2_with (go_at_call 86; refine (containsInt_any _ _ _ _ _ _ _ (unhide Hr) (by unfold maxLen; omega)).mono ?_; rintro e w1 ⟨rfl, rfl⟩)
  go_ret
  exact ⟨rfl, (Below.refl _ _).alloc (Nat.le_refl _) _⟩

/-- check, where so many bytes are there. -/
theorem check_yes (A : Option Addr) (m c : Nat) (p s : Int) (w : World) (hm : m ≤ maxLen) (hs : s = 1 ∨ s = 2 ∨ s = 4 ∨ s = 8) (h0 : 0 ≤ p) (hp : p ≤ 18446744073709551615) (hin : p + s ≤ m) :
    Calls Try.prog 75 #[.slice A m c, .int .u64 p, .int .i64 s] w fun e w' => e = .returned (.int .i64 0) ∧ Below w.heap.size w w' := by
  unfold maxLen at hm
  have hd : Wd.sizedB s = true := Wd.sizedB_yes hs
  have hd2 : decide (p + s ≤ (m : Int)) = true := by simpa using hin
  have hs1 : 1 ≤ s := by omega
  have hs8 : s ≤ 8 := by omega
  clear hs
  go_enter Try.func75, Try.ntmps75
  go_wp2_with (first
    | (go_at_call 79; refine (sized_any _ _).mono ?_; rintro e w1 ⟨rfl, hb1⟩)
    | (go_at_call 80; refine (inside_any _ _ _ _ h0 hp (by omega) (by omega) (by omega)).mono ?_; rintro e w2 ⟨rfl, rfl⟩))
  go_ret
  exact ⟨rfl, hb1⟩
/-- check, where they are not. -/
theorem check_no (A : Option Addr) (m c : Nat) (p s : Int) (w : World) (hm : m ≤ maxLen) (hs : s = 1 ∨ s = 2 ∨ s = 4 ∨ s = 8) (h0 : 0 ≤ p) (hp : p ≤ 18446744073709551615) (hin : m < p + s) :
    Calls Try.prog 75 #[.slice A m c, .int .u64 p, .int .i64 s] w fun e w' => e = .returned (.int .i64 24) ∧ Below w.heap.size w w' := by
  unfold maxLen at hm
  have hd : Wd.sizedB s = true := Wd.sizedB_yes hs
  have hd2 : decide (p + s ≤ (m : Int)) = false := by simpa using hin
  have hs1 : 1 ≤ s := by omega
  have hs8 : s ≤ 8 := by omega
  clear hs
  go_enter Try.func75, Try.ntmps75
  go_wp2_with (first
    | (go_at_call 79; refine (sized_any _ _).mono ?_; rintro e w1 ⟨rfl, hb1⟩)
    | (go_at_call 80; refine (inside_any _ _ _ _ h0 hp (by omega) (by omega) (by omega)).mono ?_; rintro e w2 ⟨rfl, rfl⟩))
  go_ret
  exact ⟨rfl, hb1⟩

set_option maxHeartbeats 800000 in
theorem get_loop (A : Option Addr) (m c : Nat) (B : Nat) (b : List UInt8) (p s : Nat) (w : World) (hB : B ≤ w.heap.size) (hb : Rd w B 1 A m (b.map fun c => .int .u8 c.toNat)) (hm : m ≤ maxLen) (hs : s = 1 ∨ s = 2 ∨ s = 4 ∨ s = 8) (hin : p + s ≤ m)
    (hck : ∀ w, Calls Try.prog 75 #[.slice A m c, .int .u64 p, .int .i64 s] w fun e w' => e = .returned (.int .i64 0) ∧ Below w.heap.size w w') :
    Calls Try.prog 71 #[.slice A m c, .int .u64 p, .int .i64 s] w fun e w' => e = .returned (.tuple #[.int .u64 (Wd.num b p s), .int .i64 0]) ∧ Below w.heap.size w w' := by
  have hs8 : s ≤ 8 := by omega
  have hbl : b.length = m := by simpa using hb.len1
  unfold maxLen at hm
  have Hb := hide hb
  have Hck := hide hck
  have Hbl := hide hbl
  clear hb hck hs hbl
  go_enter Try.func71, Try.ntmps71
  go_wp2_with (go_at_call 75; refine ((unhide Hck) _).mono ?_; rintro e w1 ⟨rfl, hb1⟩)
  go_loop [6, 18] (fun x i => ∃ k : Nat, k ≤ s ∧ i = .int .i64 k ∧ x = .int .u64 (Wd.num b p k)) (fun _ i => s - (intOf i).toNat)
  case atStart => exact ⟨0, Nat.zero_le _, rfl, by rw [Wd.num_zero]; rfl⟩
  case round =>
    obtain ⟨k, hk, rfl, rfl⟩ := hrel
    by_cases hlt : k < s
    · obtain ⟨x, hx⟩ : ∃ x, b[p + k]? = some x := ⟨_, List.getElem?_eq_getElem (by rw [unhide Hbl]; omega)⟩
      obtain ⟨b1, o1, rfl, _, c1⟩ := ((unhide Hb).below (hb1.mono hB)).at_ (k := p + k) (u := .int .u8 x.toNat) (by simp [hx])
      have hst := Wd.num_succ b p k x hx
      have hlt2 := Wd.num_lt b p s
      have Hst := hide hst
      have hval := Wd.or_val (Wd.num b p k) x.toNat k (Wd.num_lt b p k) x.toNat_lt (by omega)
      rw [← hst] at hval
      have Hval := hide hval
      clear hst hx hlt2 hval
      go_wp2
      go_round
      case rel => exact ⟨k + 1, by omega, by go_num, by rw [unhide Hval]⟩
      case measure => simp [intOf]; omega
    · obtain rfl : k = s := by omega
      go_wp2
      go_ret2
      exact ⟨rfl, hb1⟩

theorem get_yes (A : Option Addr) (m c : Nat) (B : Nat) (b : List UInt8) (p s : Nat) (w : World) (hB : B ≤ w.heap.size) (hb : Rd w B 1 A m (b.map fun c => .int .u8 c.toNat)) (hm : m ≤ maxLen) (hs : s = 1 ∨ s = 2 ∨ s = 4 ∨ s = 8) (hin : p + s ≤ m) :
    Calls Try.prog 71 #[.slice A m c, .int .u64 p, .int .i64 s] w fun e w' => e = .returned (.tuple #[.int .u64 (Wd.num b p s), .int .i64 0]) ∧ Below w.heap.size w w' :=
  get_loop A m c B b p s w hB hb hm hs hin fun w => check_yes A m c p s w hm (by omega) (by omega) (by unfold maxLen at hm; omega) (by omega)

theorem get_no (A : Option Addr) (m c : Nat) (p s : Int) (w : World) (hm : m ≤ maxLen) (hs : s = 1 ∨ s = 2 ∨ s = 4 ∨ s = 8) (h0 : 0 ≤ p) (hp : p ≤ 18446744073709551615) (hin : m < p + s) :
    Calls Try.prog 71 #[.slice A m c, .int .u64 p, .int .i64 s] w fun e w' => e = .returned (.tuple #[.int .u64 0, .int .i64 24]) ∧ Below w.heap.size w w' := by
  go_enter Try.func71, Try.ntmps71
  go_wp2_with (go_at_call 75; refine (check_no A m c p s _ hm hs h0 hp hin).mono ?_; rintro e w1 ⟨rfl, hb1⟩)
  go_ret2
  exact ⟨rfl, hb1⟩

end Go.Proofs.Ytphbkjdheopmhaa
namespace Go.Proofs.Ytphbkjdheopmhaa
set_option linter.unusedVariables false
set_option linter.unusedSimpArgs false
open Go.RowKit

def IdxB (b : Bool) (w : World) (e : Ending) (w' : World) : Prop := ∃ r : Int, e = .returned (.int .i64 r) ∧ decide (0 ≤ r) = b ∧ w = w'

set_option maxHeartbeats 1000000 in
theorem indexFunc_any (fn : FuncId) (p : ByteArray → Bool) (hcf : ∀ (args : Array Value) (w : World), (callFunc fn args).run Try.prog w = .ok (.enter fn args) w)
    (hfn : ∀ (x : ByteArray) (w : World), x.size ≤ maxLen → Calls Try.prog fn #[.string x] w fun e w' => e = .returned (.bool (p x)) ∧ w = w')
    (A : Option Addr) (n c B : Nat) (l : List ByteArray) (w : World) (hl : Rd w B 1 A n (l.map Value.string)) (hs : ∀ x ∈ l, x.size ≤ maxLen) (hn : n ≤ maxLen) :
    Calls Try.prog 74 #[.slice A n c, .func (.func fn) #[] #[]] w (IdxB (l.any p) w) := by
  have hln : l.length = n := by simpa using hl.len1
  unfold maxLen at hn
  have Hl := hide hl
  have Hln := hide hln
  have Hs := hide hs
  have Hfn := hide hfn
  clear hl hln hs hfn
  go_enter Try.func74, Try.ntmps74
  go_wp2_with fail
  go_loopg [8] n (fun gk i wr => ∃ k : Nat, gk = n - k ∧ k ≤ n ∧ i = .int .i64 k ∧ (l.take k).any p = false ∧ w = wr)
  case atStart => exact ⟨0, by omega, Nat.zero_le _, rfl, rfl, rfl⟩
  case round =>
    obtain ⟨k, hgk, hk, rfl, hno, rfl⟩ := hrel
    have Hgk := hide hgk
    have Hno := hide hno
    clear hgk hno
    by_cases hlt : k < n
    · obtain ⟨x, hx⟩ : ∃ x, l[k]? = some x := ⟨_, List.getElem?_eq_getElem (by rw [unhide Hln]; exact hlt)⟩
      obtain ⟨b1, o1, rfl, _, c1⟩ := (unhide Hl).at_ (k := k) (u := .string x) (by simp [hx])
      have hc := fun (w' : World) => (unhide Hfn) x w' ((unhide Hs) _ (List.mem_of_getElem? hx))
      cases hp : p x
      · have hno2 : (l.take (k + 1)).any p = false := by rw [List.take_add_one, hx]; simp [unhide Hno, hp]
        rw [hp] at hc
        have Hc := hide hc
        have Hno2 := hide hno2
        clear hc hno2 hp hx
        go_wp2_with ((with_reducible refine ((unhide Hc) _).mono ?_); rintro e w1 ⟨rfl, rfl⟩)
        go_roundg (n - (k + 1))
        case measure => have := unhide Hgk; omega
        case rel => exact ⟨k + 1, rfl, by omega, by go_num, unhide Hno2, rfl⟩
      · have hyes : l.any p = true := List.any_eq_true.2 ⟨x, List.mem_of_getElem? hx, hp⟩
        rw [hp] at hc
        have Hc := hide hc
        have Hyes := hide hyes
        clear hc hyes hp hx
        go_wp2_with ((with_reducible refine ((unhide Hc) _).mono ?_); rintro e w1 ⟨rfl, rfl⟩)
        go_ret
        exact ⟨k, rfl, by rw [unhide Hyes]; simp, rfl⟩
    · have hno2 : l.any p = false := by
        have := unhide Hno
        rwa [List.take_of_length_le (by have := unhide Hln; omega)] at this
      have Hno2 := hide hno2
      clear hno2
      go_wp2_with fail
      go_ret
      exact ⟨-1, rfl, by rw [unhide Hno2]; rfl, rfl⟩

theorem containsFunc_any (fn : FuncId) (p : ByteArray → Bool) (hcf : ∀ (args : Array Value) (w : World), (callFunc fn args).run Try.prog w = .ok (.enter fn args) w)
    (hfn : ∀ (x : ByteArray) (w : World), x.size ≤ maxLen → Calls Try.prog fn #[.string x] w fun e w' => e = .returned (.bool (p x)) ∧ w = w')
    (A : Option Addr) (n c B : Nat) (l : List ByteArray) (w : World) (hl : Rd w B 1 A n (l.map Value.string)) (hs : ∀ x ∈ l, x.size ≤ maxLen) (hn : n ≤ maxLen) :
    Calls Try.prog 61 #[.slice A n c, .func (.func fn) #[] #[]] w fun e w' => e = .returned (.bool (l.any p)) ∧ w = w' := by
  have hi := indexFunc_any fn p hcf hfn A n c B l w hl hs hn
  generalize l.any p = b at *
  have Hi := hide hi
  clear hi hl hs hfn hcf
  go_enter Try.func61, Try.ntmps61
  go_wp2_with (go_at_call 74; refine (unhide Hi).mono ?_; rintro e w1 ⟨r, rfl, hr, rfl⟩)
  go_ret
  exact ⟨ret_bool rfl, rfl⟩

theorem ck1_any (x : ByteArray) (w : World) (hx : x.size ≤ maxLen) : Calls Try.prog 62 #[.string x] w fun e w' => e = .returned (.bool (Cl.bigT x)) ∧ w = w' := by
  unfold maxLen at hx
  have e1 : Cl.bigT x = decide ((256 : Int) < (x.size : Int)) := by unfold Cl.bigT; rw [decide_eq_decide]; omega
  rw [e1]
  clear e1
  go_enter Try.func62, Try.ntmps62
  go_wp2_with fail
  go_ret
  exact ⟨rfl, rfl⟩
theorem nought_any (x : ByteArray) (w : World) : Calls Try.prog 63 #[.string x] w fun e w' => e = .returned (.bool (Cl.zeroT x)) ∧ w = w' := by
  have hc := fun (w' : World) => flipw (Try.strings_Contains_one x 0 w')
  have hcn := Lib.contains_iff_indexByte x.data.toList 0
  have e : decide (0 ≤ Lib.indexByte x.data.toList 0) = Cl.zeroT x := by
    unfold Cl.zeroT
    rw [← hcn]
  rw [e] at hc
  have Hc := hide hc
  clear hc hcn e
  go_enter Try.func63, Try.ntmps63
  go_wp2_with (go_at_call 58; refine ((unhide Hc) _).mono ?_; rintro e w1 ⟨rfl, rfl⟩)
  go_ret
  exact ⟨rfl, rfl⟩
theorem callFunc_ck1 (args : Array Value) (w : World) : (callFunc 62 args).run Try.prog w = .ok (.enter 62 args) w := by kernel_rfl
theorem callFunc_nought (args : Array Value) (w : World) : (callFunc 63 args).run Try.prog w = .ok (.enter 63 args) w := by kernel_rfl

set_option maxHeartbeats 1000000 in
theorem envCheck_any (A : Option Addr) (n c B : Nat) (l : List ByteArray) (w : World) (hl : Rd w B 1 A n (l.map Value.string)) (hs : ∀ x ∈ l, x.size ≤ maxLen) (hn : n ≤ maxLen) :
    Calls Try.prog 35 #[.slice A n c] w fun e w' => e = .returned (.int .i64 (Cl.envCk l)) ∧ w = w' := by
  have hln : l.length = n := by simpa using hl.len1
  have h1 := containsFunc_any 62 Cl.bigT callFunc_ck1 (fun x w' hx => ck1_any x w' hx) A n c B l w hl hs hn
  have h2 := containsFunc_any 63 Cl.zeroT callFunc_nought (fun x w' hx => nought_any x w') A n c B l w hl hs hn
  have hck : Cl.envCk l = if 32 < n then 12 else if l.any Cl.bigT then 12 else if l.any Cl.zeroT then 1 else 0 := by unfold Cl.envCk; rw [hln]
  rw [hck]
  unfold maxLen at hn
  generalize l.any Cl.bigT = b1 at *
  generalize l.any Cl.zeroT = b2 at *
  have H1 := hide h1
  have H2 := hide h2
  clear h1 h2 hck hl hs hln
  by_cases h32 : 32 < n
  · rw [if_pos h32]
    go_enter Try.func35, Try.ntmps35
    go_wp2_with fail
    go_ret
    exact ⟨rfl, rfl⟩
  · rw [if_neg h32]
    cases b1
    · cases b2
      all_goals
        go_enter Try.func35, Try.ntmps35
        go_wp2_with fail
        refine (unhide H1).mono ?_
        rintro e w1 ⟨rfl, rfl⟩
        go_wp2_with fail
        refine (unhide H2).mono ?_
        rintro e w1 ⟨rfl, rfl⟩
        go_wp2_with fail
        go_ret
        exact ⟨rfl, rfl⟩
    · go_enter Try.func35, Try.ntmps35
      go_wp2_with fail
      refine (unhide H1).mono ?_
      rintro e w1 ⟨rfl, rfl⟩
      go_wp2_with fail
      go_ret
      exact ⟨rfl, rfl⟩

set_option maxHeartbeats 1000000 in
theorem rhas_any (s : ByteArray) (w : World) (hs : s.size ≤ maxLen) : Calls Try.prog 66 #[.string s, .int .u8 0] w fun e w' => e = .returned (.bool (Cl.zeroT s)) ∧ w = w' := by
  unfold maxLen at hs
  obtain ⟨r, hr⟩ : ∃ r, Cl.zeroT s = r := ⟨_, rfl⟩
  rw [hr]
  have Hr := hide hr
  clear hr
  go_enter Try.func66, Try.ntmps66
  go_wp2_with fail
  go_loopg [5] s.size (fun gk i wr => ∃ k : Nat, gk = s.size - k ∧ k ≤ s.size ∧ i = .int .i64 k ∧ (s.data.toList.take k).contains 0 = false ∧ w = wr)
  case atStart => exact ⟨0, by omega, by omega, rfl, by simp, rfl⟩
  case round =>
    obtain ⟨k, hgk, hk, rfl, hz, rfl⟩ := hrel
    have Hz := hide hz
    have Hgk := hide hgk
    clear hz hgk
    by_cases hlt : k < s.size
    · by_cases hc : s[k] = 0
      · have b2 : (((s[k].toNat : Nat) : Int) == 0) = true := by rw [byte_0]; simpa using hc
        have hm : Cl.zeroT s = true := by
          unfold Cl.zeroT
          rw [List.contains_iff_mem, ← hc]
          exact Array.getElem_mem_toList _
        rw [unhide Hr] at hm
        subst hm
        clear hc
        go_wp2
        go_ret
        exact ⟨rfl, rfl⟩
      · have b2 : (((s[k].toNat : Nat) : Int) == 0) = false := by rw [byte_0]; simpa using hc
        have hz : (s.data.toList.take (k + 1)).contains 0 = false := by
          rw [List.take_succ_eq_append_getElem (by simpa using hlt), List.contains_append, unhide Hz]
          simp only [Bool.false_or]
          exact by simpa using fun h => hc h.symm
        have Hz2 := hide hz
        clear hz hc
        go_wp2
        go_roundg (s.size - (k + 1))
        case measure => have := unhide Hgk; omega
        case rel => exact ⟨k + 1, rfl, by omega, by go_num, unhide Hz2, rfl⟩
    · have hz : Cl.zeroT s = false := by
        have := unhide Hz
        unfold Cl.zeroT
        rwa [List.take_of_length_le (by simp; omega)] at this
      rw [unhide Hr] at hz
      subst hz
      go_wp2
      go_ret
      exact ⟨rfl, rfl⟩

set_option maxHeartbeats 2000000 in
theorem renvCheck_any (A : Option Addr) (n c B : Nat) (l : List ByteArray) (w : World) (hl : Rd w B 1 A n (l.map Value.string)) (hs : ∀ x ∈ l, x.size ≤ maxLen) (hn : n ≤ maxLen) :
    Calls Try.prog 39 #[.slice A n c] w fun e w' => e = .returned (.int .i64 (Cl.envCk l)) ∧ w = w' := by
  have hln : l.length = n := by simpa using hl.len1
  have hck : Cl.envCk l = if 32 < n then 12 else if l.any Cl.bigT then 12 else if l.any Cl.zeroT then 1 else 0 := by unfold Cl.envCk; rw [hln]
  unfold maxLen at hn
  obtain ⟨r, hr⟩ : ∃ r, Cl.envCk l = r := ⟨_, rfl⟩
  rw [hr]
  rw [hr] at hck
  have Hck := hide hck
  have Hl := hide hl
  have Hs := hide hs
  have Hln := hide hln
  clear hck hl hs hln hr
  by_cases h32 : 32 < n
  · have h := unhide Hck
    rw [if_pos h32] at h
    subst h
    go_enter Try.func39, Try.ntmps39
    go_wp2_with fail
    go_ret
    exact ⟨rfl, rfl⟩
  have hck := unhide Hck
  rw [if_neg h32] at hck
  replace Hck := hide hck
  clear hck
  go_enter Try.func39, Try.ntmps39
  go_wp2_with fail
  go_loopg [3] n (fun gk i wr => ∃ k : Nat, gk = n - k ∧ k ≤ n ∧ i = .int .i64 k ∧ (l.take k).any Cl.bigT = false ∧ w = wr)
  case atStart => exact ⟨0, by omega, by omega, rfl, rfl, rfl⟩
  case round =>
  obtain ⟨k, hgk, hk, rfl, hno, rfl⟩ := hrel
  have Hgk := hide hgk
  have Hno := hide hno
  clear hgk hno
  rcases Nat.lt_or_ge k n with hlt | hge
  case inl =>
    obtain ⟨x, hx⟩ : ∃ x, l[k]? = some x := ⟨_, List.getElem?_eq_getElem (by rw [unhide Hln]; exact hlt)⟩
    obtain ⟨b1, o1, rfl, _, c1⟩ := (unhide Hl).at_ (k := k) (u := .string x) (by simp [hx])
    have hxs := (unhide Hs) _ (List.mem_of_getElem? hx)
    unfold maxLen at hxs
    by_cases hb : 256 < x.size
    · have hyes : l.any Cl.bigT = true := List.any_eq_true.2 ⟨x, List.mem_of_getElem? hx, by simp [Cl.bigT, hb]⟩
      have h := unhide Hck
      rw [hyes, if_pos rfl] at h
      subst h
      clear hx hyes
      go_wp2_with fail
      go_ret
      exact ⟨rfl, rfl⟩
    · have hno2 : (l.take (k + 1)).any Cl.bigT = false := by rw [List.take_add_one, hx]; simp [unhide Hno, Cl.bigT]; omega
      have Hno2 := hide hno2
      clear hno2 hx
      go_wp2_with fail
      go_roundg (n - (k + 1))
      case measure => have := unhide Hgk; omega
      case rel => exact ⟨k + 1, rfl, by omega, by go_num, unhide Hno2, rfl⟩
  obtain rfl : k = n := by omega
  have hno2 : l.any Cl.bigT = false := by
    have := unhide Hno
    rwa [List.take_of_length_le (by have := unhide Hln; omega)] at this
  have hck := unhide Hck
  rw [hno2] at hck
  simp only [Bool.false_eq_true, if_false] at hck
  replace Hck := hide hck
  clear hck hno2 Hno Hgk
  go_wp2_with fail
  go_loopg [4] k (fun gk i wr => ∃ j : Nat, gk = k - j ∧ j ≤ k ∧ i = .int .i64 j ∧ (l.take j).any Cl.zeroT = false ∧ w = wr)
  case atStart => exact ⟨0, by omega, by omega, rfl, rfl, rfl⟩
  case round =>
  obtain ⟨j, hgk, hj, rfl, hno, rfl⟩ := hrel
  have Hgk := hide hgk
  have Hno := hide hno
  clear hgk hno
  rcases Nat.lt_or_ge j k with hlt | hge2
  case inl =>
    obtain ⟨x, hx⟩ : ∃ x, l[j]? = some x := ⟨_, List.getElem?_eq_getElem (by rw [unhide Hln]; exact hlt)⟩
    obtain ⟨b1, o1, rfl, _, c1⟩ := (unhide Hl).at_ (k := j) (u := .string x) (by simp [hx])
    have hh := fun (w' : World) => rhas_any x w' ((unhide Hs) _ (List.mem_of_getElem? hx))
    cases hb : Cl.zeroT x
    · have hno2 : (l.take (j + 1)).any Cl.zeroT = false := by rw [List.take_add_one, hx]; simp [unhide Hno, hb]
      rw [hb] at hh
      have Hno2 := hide hno2
      have Hh := hide hh
      clear hno2 hx hh hb
      go_wp2_with (go_at_call 66; refine ((unhide Hh) _).mono ?_; rintro e w1 ⟨rfl, rfl⟩)
      go_roundg (k - (j + 1))
      case measure => have := unhide Hgk; omega
      case rel => exact ⟨j + 1, rfl, by omega, by go_num, unhide Hno2, rfl⟩
    · have hyes : l.any Cl.zeroT = true := List.any_eq_true.2 ⟨x, List.mem_of_getElem? hx, hb⟩
      have h := unhide Hck
      rw [hyes, if_pos rfl] at h
      subst h
      rw [hb] at hh
      have Hh := hide hh
      clear hx hyes hh hb
      go_wp2_with (go_at_call 66; refine ((unhide Hh) _).mono ?_; rintro e w1 ⟨rfl, rfl⟩)
      go_ret
      exact ⟨rfl, rfl⟩
  have hno3 : l.any Cl.zeroT = false := by
    have := unhide Hno
    rwa [List.take_of_length_le (by have := unhide Hln; omega)] at this
  have h := unhide Hck
  rw [hno3] at h
  simp only [Bool.false_eq_true, if_false] at h
  subst h
  clear hno3
  go_wp2_with fail
  go_ret
  exact ⟨rfl, rfl⟩

theorem indexFld_any (A : Option Addr) (n c B : Nat) (xs : List Int) (v : Int) (w : World) (hx : Rd w B 1 A n (xs.map (Value.int .i64))) (hn : n ≤ maxLen) :
    Calls Try.prog 57 #[.slice A n c, .int .i64 v] w (IdxInt xs v w) := by
  have hxl : xs.length = n := by simpa using hx.len1
  unfold maxLen at hn
  have Hx := hide hx
  have Hxl := hide hxl
  clear hx hxl
  go_enter Try.func57, Try.ntmps57
  go_wp2
  go_loop [8] (fun i => ∃ k : Nat, k ≤ n ∧ i = .int .i64 k ∧ v ∉ xs.take k) (fun i => n - (intOf i).toNat)
  case atStart => exact ⟨0, Nat.zero_le _, rfl, by simp⟩
  case round =>
    obtain ⟨k, hk, rfl, hv⟩ := hrel
    have Hv := hide hv
    clear hv
    by_cases hlt : k < n
    · obtain ⟨x, hxk⟩ : ∃ x, xs[k]? = some x := ⟨_, List.getElem?_eq_getElem (by rw [unhide Hxl]; exact hlt)⟩
      obtain ⟨b1, o1, rfl, _, c1⟩ := (unhide Hx).at_ (k := k) (u := .int .i64 x) (by simp [hxk])
      by_cases he : v = x
      · have hb : (v == x) = true := by simpa using he
        have hm : v ∈ xs := by rw [he]; exact List.mem_of_getElem? hxk
        have Hm := hide hm
        clear he hxk hm
        go_wp2
        go_ret
        exact ⟨k, rfl, ⟨fun _ => unhide Hm, fun _ => by omega⟩, rfl⟩
      · have hb : (v == x) = false := by simpa using he
        have hm : v ∉ xs.take (k + 1) := by
          rw [List.take_add_one, hxk, List.mem_append]
          simp [he, unhide Hv]
        have Hm := hide hm
        clear he hxk hm
        go_wp2
        go_round
        case rel => exact ⟨k + 1, by omega, by go_num, unhide Hm⟩
        case measure => simp [intOf]; omega
    · have hm : v ∉ xs := by
        have := unhide Hv
        rwa [List.take_of_length_le (by have := unhide Hxl; omega)] at this
      have Hm := hide hm
      clear hm
      go_wp2
      go_ret
      exact ⟨-1, rfl, ⟨fun h => by omega, fun h => absurd h (unhide Hm)⟩, rfl⟩

theorem containsFld_any (A : Option Addr) (n c B : Nat) (xs : List Int) (v : Int) (w : World) (hx : Rd w B 1 A n (xs.map (Value.int .i64))) (hn : n ≤ maxLen) :
    Calls Try.prog 31 #[.slice A n c, .int .i64 v] w fun e w' => e = .returned (.bool (Wd.memB v xs)) ∧ w = w' := by
  have Hx := hide hx
  clear hx
  go_enter Try.func31, Try.ntmps31
  go_wp2_with (go_at_call 57; refine (indexFld_any _ _ _ _ _ _ _ (unhide Hx) hn).mono ?_; rintro e w1 ⟨r, rfl, hr, rfl⟩; have Hr := hide hr; clear hr)
  go_ret
  refine ⟨ret_bool ?_, rfl⟩
  unfold Wd.memB
  rw [Bool.eq_iff_iff, decide_eq_true_eq, decide_eq_true_eq]
  exact unhide Hr


theorem unless_any (b : Bool) (x : Int) (w : World) : Calls Try.prog 36 #[.bool b, .int .i64 x] w fun e w' => e = .returned (.int .i64 (if b then x else 0)) ∧ w = w' := by
  cases b
  all_goals
    go_enter Try.func36, Try.ntmps36
    go_wp2_with fail
    go_ret
    exact ⟨rfl, rfl⟩

end Go.Proofs.Ytphbkjdheopmhaa
namespace Go.Proofs.Ytphbkjdheopmhaa
set_option linter.unusedVariables false
set_option linter.unusedSimpArgs false
open Go.RowKit

theorem own_set {w : World} {base g n c i : Nat} {e : TypeId} {xs : List Value} (h : w.ownsRow base e 1 (.slice (some ⟨g, 0, none⟩) n c) n xs) (u : Value) :
    (w.setCell ⟨g, i, none⟩ u).ownsRow base e 1 (.slice (some ⟨g, 0, none⟩) n c) n (xs.set i u) := by
  obtain ⟨hl, hn | ⟨g', cap, cur, hv, hb, hg, h1, h2, h3, h4⟩⟩ := h
  · exact absurd hn.1 (by simp)
  · obtain ⟨rfl, rfl⟩ : g = g' ∧ c = cap := by simpa using hv
    refine ⟨by simpa using hl, .inr ⟨g, c, cur.setIfInBounds i u, rfl, hb, heap_setCell_same _ _ _ _ _ _ hg, h1, h2, by simpa using h3, ?_⟩⟩
    rw [Array.toList_setIfInBounds, List.take_set, h4]
theorem own_cell {w : World} {base g n c i : Nat} {e : TypeId} {xs : List Value} (h : w.ownsRow base e 1 (.slice (some ⟨g, 0, none⟩) n c) n xs) {u : Value} (hi : xs[i]? = some u) : w.cell? ⟨g, i, none⟩ = some u := by
  obtain ⟨b, off, ha, _, hc⟩ := (Rd.of_own h).at_ hi
  obtain ⟨rfl, rfl⟩ : g = b ∧ 0 = off := by simpa using ha
  simpa using hc
theorem own_free {w : World} {base g n c : Nat} {e : TypeId} {xs : List Value} (h : w.ownsRow base e 1 (.slice (some ⟨g, 0, none⟩) n c) n xs) (i : Nat) : w.frozen? ⟨g, i, none⟩ = false := by
  obtain ⟨hl, hn | ⟨g', cap, cur, hv, hb, hg, h1, h2, h3, h4⟩⟩ := h
  · exact absurd hn.1 (by simp)
  · obtain ⟨rfl, rfl⟩ : g = g' ∧ c = cap := by simpa using hv
    exact frozen_of_row _ _ _ _ _ hg
theorem own_at {w : World} {base g n c : Nat} {e : TypeId} {xs : List Value} (h : w.ownsRow base e 1 (.slice (some ⟨g, 0, none⟩) n c) n xs) : base ≤ g ∧ g < w.heap.size ∧ n ≤ c := by
  obtain ⟨hl, hn | ⟨g', cap, cur, hv, hb, hg, h1, h2, h3, h4⟩⟩ := h
  · exact absurd hn.1 (by simp)
  · obtain ⟨rfl, rfl⟩ : g = g' ∧ c = cap := by simpa using hv
    exact ⟨hb, lt_of_block hg, h1⟩

end Go.Proofs.Ytphbkjdheopmhaa
namespace Go.Proofs.Ytphbkjdheopmhaa
set_option linter.unusedVariables false
set_option linter.unusedSimpArgs false
open Go.RowKit

def bys (b : List UInt8) : List Value := b.map fun c => .int .u8 c.toNat
theorem bys_len (b : List UInt8) : (bys b).length = b.length := by simp [bys]
theorem bys_at {b : List UInt8} {i : Nat} {x : UInt8} (h : b[i]? = some x) : (bys b)[i]? = some (.int .u8 x.toNat) := by simp [bys, h]
theorem bys_set (b : List UInt8) (i : Nat) (x : UInt8) : (bys b).set i (.int .u8 x.toNat) = bys (b.set i x) := by simp [bys, List.map_set]
theorem bys_take (b : List UInt8) (k : Nat) : (bys b).take k = bys (b.take k) := by simp [bys]
theorem bys_app (a b : List UInt8) : bys (a ++ b) = bys a ++ bys b := by simp [bys]
theorem bInfo : (Try.prog.info? 5).map (fun i => (i.zero, i.size, i.bytes)) = some (some (.int .u8 0), 1, 1) := by kernel_rfl
theorem take_ext' {α : Type} {xs ys : List α} {k : Nat} {x : α} (h : xs.take k = ys.take k) (hx : xs[k]? = some x) (hy : ys[k]? = some x) : xs.take (k + 1) = ys.take (k + 1) := by
  rw [List.take_add_one, List.take_add_one, h, hx, hy]

theorem Rd.cutN {w : World} {B n k : Nat} {A : Option Addr} {xs : List Value} (h : Rd w B 1 A n xs) (hk : k ≤ n) : Rd w B 1 A k (xs.take k) := by
  have hl := h.len1
  refine ⟨by simp; omega, ?_⟩
  rcases h.2 with h0 | ⟨b, off, e, hb, hc⟩
  · exact .inl (by simp [h0])
  · refine .inr ⟨b, off, e, hb, fun j u hu => hc j u ?_⟩
    by_cases hj : j < k
    · rwa [List.getElem?_take_of_lt hj] at hu
    · rw [List.getElem?_take_eq_none (by omega)] at hu
      cases hu

set_option maxRecDepth 100000 in
set_option maxHeartbeats 2000000 in
theorem eqBytes_any (A B : Option Addr) (n m c d K : Nat) (xs ys : List UInt8) (w : World) (ha : Rd w K 1 A n (bys xs)) (hb : Rd w K 1 B m (bys ys)) (hn : n ≤ maxLen) (hm : m ≤ maxLen) :
    Calls Try.prog 18 #[.slice A n c, .slice B m d] w fun e w' => e = .returned (.bool (decide (xs = ys))) ∧ ∃ j, w' = w.drewN j := by
  have hxl : xs.length = n := by simpa [bys] using ha.len1
  have hyl : ys.length = m := by simpa [bys] using hb.len1
  unfold maxLen at hn hm
  have Hxl := hide hxl
  have Hyl := hide hyl
  have Ha := hide ha
  have Hb := hide hb
  clear hxl hyl ha hb
  go_enter Try.func18, Try.ntmps18
  go_wp2
  go_loopw [5] (fun at_ wr => ∃ k j : Nat, at_ = .int .i64 k ∧ k ≤ n ∧ k ≤ m ∧ xs.take k = ys.take k ∧ wr = w.drewN j) (fun at_ _ => n - (intOf at_).toNat)
  case atStart => exact ⟨0, 0, rfl, Nat.zero_le _, Nat.zero_le _, rfl, rfl⟩
  case round =>
    obtain ⟨k, j, rfl, hkn, hkm, htk, rfl⟩ := hrel
    have Htk := hide htk
    clear htk
    by_cases h1 : k < n
    · have d1 : decide (k < n) = true := by simpa using h1
      have i1 : (k : Int) < (n : Int) := by omega
      by_cases h2 : k < m
      · have d2 : decide (k < m) = true := by simpa using h2
        have i2 : (k : Int) < (m : Int) := by omega
        obtain ⟨x, hx⟩ : ∃ x, xs[k]? = some x := ⟨_, List.getElem?_eq_getElem (by rw [unhide Hxl]; exact h1)⟩
        obtain ⟨y, hy⟩ : ∃ y, ys[k]? = some y := ⟨_, List.getElem?_eq_getElem (by rw [unhide Hyl]; exact h2)⟩
        obtain ⟨b1, o1, rfl, _, c1⟩ := (unhide Ha).at_ (k := k) (u := .int .u8 x.toNat) (bys_at hx)
        obtain ⟨b2, o2, rfl, _, c2⟩ := (unhide Hb).at_ (k := k) (u := .int .u8 y.toNat) (bys_at hy)
        have Hx := hide hx
        have Hy := hide hy
        have hbq := byte_eq x y
        clear hx hy
        by_cases he : x = y
        · have q : (((x.toNat : Nat) : Int) == ((y.toNat : Nat) : Int)) = true := by rw [hbq]; simpa using he
          subst he
          clear hbq
          go_wp2
          go_quiet (fail)
          go_wp2
          go_round
          case rel => exact ⟨k + 1, j + nq, by go_num, by omega, by omega, take_ext' (unhide Htk) (unhide Hx) (unhide Hy), rfl⟩
          case measure => simp [intOf]; omega
        · have q : (((x.toNat : Nat) : Int) == ((y.toNat : Nat) : Int)) = false := by rw [hbq]; simpa using he
          have He := hide he
          clear hbq he
          generalize hxn : ((x.toNat : Nat) : Int) = xn at *
          generalize hyn : ((y.toNat : Nat) : Int) = yn at *
          clear hxn hyn
          go_wp2
          go_quiet (fail)
          go_wp2
          go_ret
          refine ⟨ret_bool ?_, _, rfl⟩
          symm
          simp only [decide_eq_false_iff_not]
          rintro rfl
          exact unhide He (Option.some.inj ((unhide Hx).symm.trans (unhide Hy)))
      · have d2 : decide (k < m) = false := by simpa using h2
        go_wp2
        go_quiet (fail)
        go_wp2
        go_ret
        refine ⟨ret_bool ?_, _, rfl⟩
        symm
        simp only [decide_eq_false_iff_not]
        rintro rfl
        have := unhide Hxl
        have := unhide Hyl
        omega
    · have d1 : decide (k < n) = false := by simpa using h1
      go_wp2
      go_quiet (fail)
      go_wp2
      go_ret
      refine ⟨ret_bool ?_, _, rfl⟩
      have hl1 := unhide Hxl
      have hl2 := unhide Hyl
      rw [Bool.eq_iff_iff, beq_iff_eq, decide_eq_true_eq]
      constructor
      · intro e
        have e' := unhide Htk
        rwa [List.take_of_length_le (by omega), List.take_of_length_le (by omega)] at e'
      · rintro rfl
        omega

/-- What stands behind what Roomy gives. -/
def spare : List UInt8 := [99, 98, 97, 96, 95, 94, 93]
theorem spare_at {j : Nat} (h : j < 7) : spare[j]? = some (UInt8.ofNat (99 - j)) := by
  match j, h with
  | 0, _ => rfl
  | 1, _ => rfl
  | 2, _ => rfl
  | 3, _ => rfl
  | 4, _ => rfl
  | 5, _ => rfl
  | 6, _ => rfl
/-- What has been laid after k rounds. -/
def laidTo (F : List UInt8) (k : Nat) : List UInt8 := F.take k ++ List.replicate (F.length - k) 0
theorem laidTo_len {F : List UInt8} {k : Nat} (h : k ≤ F.length) : (laidTo F k).length = F.length := by simp [laidTo]; omega
theorem laidTo_set {F : List UInt8} {k : Nat} {x : UInt8} (h : F[k]? = some x) : (laidTo F k).set k x = laidTo F (k + 1) := by
  have hk : k < F.length := (List.getElem?_eq_some_iff.1 h).1
  unfold laidTo
  rw [List.take_add_one, h, show F.length - k = (F.length - (k + 1)) + 1 from by omega, List.replicate_succ]
  rw [List.set_append]
  simp [Nat.min_eq_left (Nat.le_of_lt hk)]
theorem laidTo_end (F : List UInt8) : laidTo F F.length = F := by simp [laidTo]
theorem laidTo_zero (F : List UInt8) : laidTo F 0 = List.replicate F.length 0 := by simp [laidTo]

set_option maxRecDepth 100000 in
set_option maxHeartbeats 2000000 in
theorem roomy_any (A : Option Addr) (m c B : Nat) (b : List UInt8) (w : World) (hB : B ≤ w.heap.size) (hb : Rd w B 1 A m (bys b)) (hm : m ≤ 4294967296) :
    Calls Try.prog 20 #[.slice A m c] w fun e w' => ∃ g, e = .returned (.slice (some ⟨g, 0, none⟩) m (m + 7)) ∧
      w'.ownsRow w.heap.size 5 1 (.slice (some ⟨g, 0, none⟩) (m + 7) (m + 7)) (m + 7) (bys (b ++ spare)) ∧ Below w.heap.size w w' := by
  have hbl : b.length = m := by simpa [bys] using hb.len1
  obtain ⟨i, hi, hz0, hz1, hz2⟩ := info_parts bInfo
  have hF : (b ++ spare).length = m + 7 := by simp [hbl, spare]
  have HF := hide hF
  have Hb := hide hb
  have Hbl := hide hbl
  have Hi := hide hi
  have Hz0 := hide hz0
  have Hz1 := hide hz1
  have Hz2 := hide hz2
  clear hb hbl hi hz0 hz1 hz2 hF
  go_enter Try.func20, Try.ntmps20
  go_wp2_with (at_make; refine wpList_make_full _ rfl _ _ 24 rfl w.heap.size 5 i (.int .u8 0) 1 Try.underlying24 (unhide Hi) (unhide Hz0) (unhide Hz1) _ _ _ _ (m + 7) rfl rfl (by omega) (by omega) (by rw [unhide Hz2]; omega) (by unfold maxLen; omega) (Nat.le_refl _) ?_; intro w1 hown hgrow; have hb1 := (Below.refl w.heap.size w).grown hgrow (Nat.le_refl _) (fun k hk => by cases hk); have Hown := hide hown; have Hb1 := hide hb1; clear hown hgrow hb1)
  go_loopg [5] (m + 7) (fun gk at_ wr => ∃ k : Nat, gk = m + 7 - k ∧ k ≤ m + 7 ∧ at_ = .int .i64 k ∧ wr.ownsRow w.heap.size 5 1 (.slice (some ⟨w.heap.size, 0, none⟩) (m + 7) (m + 7)) (m + 7) (bys (laidTo (b ++ spare) k)) ∧ Below w.heap.size w wr)
  case atStart =>
    refine ⟨0, by omega, by omega, rfl, ?_, unhide Hb1⟩
    have := unhide Hown
    have e : (madeCells (Value.int .u8 0).cells ((m + 7) * 1)).toList = bys (laidTo (b ++ spare) 0) := by
      rw [laidTo_zero, unhide HF]
      simp [bys, Value.cells, toList_madeCells_one]
    rwa [e] at this
  case round =>
  obtain ⟨k, hgk, hk, rfl, hown, hb2⟩ := hrel
  have Hgk := hide hgk
  have Hown := hide hown
  have Hb2 := hide hb2
  clear hown hb2 hgk
  rcases Nat.lt_or_ge k (m + 7) with hlt | hge
  case inr =>
    obtain rfl : k = m + 7 := by omega
    have hown := unhide Hown
    have e : laidTo (b ++ spare) (m + 7) = b ++ spare := by rw [← unhide HF]; exact laidTo_end _
    rw [e] at hown
    have Hown2 := hide hown
    clear hown e hge
    go_wp2
    go_ret
    exact ⟨w.heap.size, rfl, unhide Hown2, unhide Hb2⟩
  obtain ⟨x, hx⟩ : ∃ x, (b ++ spare)[k]? = some x := ⟨_, List.getElem?_eq_getElem (by rw [unhide HF]; exact hlt)⟩
  obtain ⟨z, hz⟩ : ∃ z, (laidTo (b ++ spare) k)[k]? = some z := ⟨_, List.getElem?_eq_getElem (by rw [laidTo_len (by rw [unhide HF]; omega), unhide HF]; omega)⟩
  have hset := own_set (i := k) (unhide Hown) (.int .u8 x.toNat)
  rw [bys_set, laidTo_set hx] at hset
  have hc2 := own_cell (unhide Hown) (bys_at hz)
  have hf2 := own_free (unhide Hown) k
  obtain ⟨hg3, hg4, hg5⟩ := own_at (unhide Hown)
  have Hset := hide hset
  clear hset hz
  by_cases hkm : k < m
  · obtain ⟨b1, o1, rfl, hbb, c1⟩ := ((unhide Hb).below ((unhide Hb2).mono hB)).at_ (k := k) (u := .int .u8 x.toNat) (by rw [List.getElem?_append_left (by rw [unhide Hbl]; exact hkm)] at hx; exact bys_at hx)
    clear hx
    go_wp2
    go_roundg (m + 7 - (k + 1))
    case measure => have := unhide Hgk; omega
    case rel => exact ⟨k + 1, rfl, by omega, by go_num, unhide Hset, (unhide Hb2).setCell hg3 _⟩
  · have hxv : ((x.toNat : Nat) : Int) = 99 - ((k : Int) - (m : Int)) := by
      rw [List.getElem?_append_right (by rw [unhide Hbl]; omega), unhide Hbl, spare_at (by omega)] at hx
      injection hx with hx
      rw [← hx]
      simp
      omega
    rw [hxv] at Hset
    clear hx hxv
    go_wp2
    go_roundg (m + 7 - (k + 1))
    case measure => have := unhide Hgk; omega
    case rel => exact ⟨k + 1, rfl, by omega, by go_num, unhide Hset, (unhide Hb2).setCell hg3 _⟩

set_option maxRecDepth 100000 in
set_option maxHeartbeats 2000000 in
theorem kept_yes (g : Nat) (A : Option Addr) (m c B : Nat) (b : List UInt8) (w : World) (hi : Rd w B 1 (some ⟨g, 0, none⟩) (m + 7) (bys (b ++ spare))) (hb : Rd w B 1 A m (bys b)) (hm : m ≤ 4294967296) :
    Calls Try.prog 23 #[.slice (some ⟨g, 0, none⟩) m (m + 7), .slice A m c] w fun e w' => e = .returned (.bool true) ∧ ∃ j, w' = w.drewN j := by
  have hbl : b.length = m := by simpa [bys] using hb.len1
  have hcut := hi.cutN (k := m) (by omega)
  rw [bys_take, List.take_append_of_le_length (by omega), List.take_of_length_le (by omega)] at hcut
  have heq := fun (w' : World) (hw : ∀ p : Addr, p.block < B → w'.cell? p = w.cell? p) => eqBytes_any (some ⟨g, 0, none⟩) A m m (m + 7) c B b b w' (hcut.keep hw) (hb.keep hw) (by unfold maxLen; omega) (by unfold maxLen; omega)
  rw [decide_eq_true rfl] at heq
  have Heq := hide heq
  have Hi := hide hi
  have Hbl := hide hbl
  clear heq hi hb hbl hcut
  go_enter Try.func23, Try.ntmps23
  go_wp2
  go_loopg [7, 8] 7 (fun gk left at_ wr => ∃ k : Nat, gk = 7 - k ∧ k ≤ 7 ∧ at_ = .int .i64 ((m : Int) + (k : Int)) ∧ left = .int .i64 (7 - (k : Int)) ∧ wr = w)
  case atStart => exact ⟨0, by omega, by omega, by go_num, rfl, rfl⟩
  case round =>
  obtain ⟨k, hgk, hk, rfl, rfl, rfl⟩ := hrel
  have Hgk := hide hgk
  clear hgk
  rcases Nat.lt_or_ge k 7 with hlt | hge
  case inr =>
    obtain rfl : k = 7 := by omega
    go_wp2_with (go_at_call 18; refine ((unhide Heq) _ (fun _ _ => rfl)).mono ?_; rintro e w5 ⟨rfl, j, rfl⟩)
    go_ret
    exact ⟨rfl, j, rfl⟩
  obtain ⟨b1, o1, he, hbb, c1⟩ := (unhide Hi).at_ (k := m + k) (u := .int .u8 ((UInt8.ofNat (99 - k)).toNat)) (bys_at (by rw [List.getElem?_append_right (by rw [unhide Hbl]; omega), unhide Hbl, show m + k - m = k from by omega, spare_at hlt]))
  obtain ⟨rfl, rfl⟩ : g = b1 ∧ 0 = o1 := by injection he with he; injection he with h1 h2 h3; exact ⟨h1, h2⟩
  have hxv : (((UInt8.ofNat (99 - k)).toNat : Nat) : Int) = 99 - (k : Int) := by simp; omega
  rw [hxv, Nat.zero_add] at c1
  have h1 : (m : Int) + (k : Int) - (m : Int) = (k : Int) := by omega
  have h2 : ((99 - (k : Int)) == 99 - ((m : Int) + (k : Int) - (m : Int))) = true := by rw [h1]; simp
  clear he h1 hxv
  go_wp2
  go_roundg (7 - (k + 1))
  case measure => have := unhide Hgk; omega
  case rel => exact ⟨k + 1, rfl, by omega, by go_num, by go_num, rfl⟩

end Go.Proofs.Ytphbkjdheopmhaa
namespace Go.Proofs.Ytphbkjdheopmhaa
set_option linter.unusedVariables false
set_option linter.unusedSimpArgs false
open Go.RowKit

/-- A slice value's three words. -/
structure Sl where
  A : Option Addr
  n : Nat
  c : Nat
/-- A call's cells. -/
abbrev clCells (q : Cl.C) (x y z : Sl) : Array Value := #[.int .u8 q.kind, .int .u64 q.a, .int .u64 q.b, .int .u64 q.c, .int .u64 q.d, .int .u64 q.e, .string q.path, .slice x.A x.n x.c, .slice y.A y.n y.c, .slice z.A z.n z.c]
/-- The three lists of a call read so, below B. -/
structure ClOk (w : World) (B : Nat) (q : Cl.C) (x y z : Sl) : Prop where
  r1 : Rd w B 1 x.A x.n (q.argv.map Value.string)
  r2 : Rd w B 1 y.A y.n (q.env.map Value.string)
  r3 : Rd w B 1 z.A z.n (bys q.bytes)
/-- The numbers fit, and nothing is longer than it may be. -/
structure ClFit (q : Cl.C) : Prop where
  k : q.kind < 256
  a : q.a < 18446744073709551616
  b : q.b < 18446744073709551616
  c : q.c < 18446744073709551616
  d : q.d < 18446744073709551616
  e : q.e < 18446744073709551616
  p : q.path.size ≤ maxLen
  l1 : q.argv.length ≤ maxLen
  l2 : q.env.length ≤ maxLen
  l3 : q.bytes.length ≤ maxLen
  s1 : ∀ t ∈ q.argv, t.size ≤ maxLen
  s2 : ∀ t ∈ q.env, t.size ≤ maxLen
section
variable {w w' : World} {B B' : Nat} {q : Cl.C} {x y z : Sl}
theorem ClOk.below (h : ClOk w B q x y z) (hb : Below B w w') : ClOk w' B q x y z := ⟨h.r1.below hb, h.r2.below hb, h.r3.below hb⟩
theorem ClOk.more (h : ClOk w B q x y z) (hB : B ≤ B') : ClOk w B' q x y z := ⟨h.r1.more hB, h.r2.more hB, h.r3.more hB⟩
theorem ClOk.alloc (h : ClOk w B q x y z) (hB : B ≤ w.heap.size) (o : Obj) : ClOk (w.alloc o) B q x y z := ⟨h.r1.alloc hB o, h.r2.alloc hB o, h.r3.alloc hB o⟩
theorem ClOk.n1 (h : ClOk w B q x y z) : q.argv.length = x.n := by simpa using h.r1.len1
theorem ClOk.n2 (h : ClOk w B q x y z) : q.env.length = y.n := by simpa using h.r2.len1
theorem ClOk.n3 (h : ClOk w B q x y z) : q.bytes.length = z.n := by simpa [bys] using h.r3.len1
end
theorem box10 {w : World} {g : Nat} {a0 a1 a2 a3 a4 a5 a6 a7 a8 a9 : Value} {t : TypeId} (h : w.heap[g]? = some (.cells #[a0, a1, a2, a3, a4, a5, a6, a7, a8, a9] t)) :
    w.cell? ⟨g, 0, none⟩ = some a0 ∧ w.cell? ⟨g, 1, none⟩ = some a1 ∧ w.cell? ⟨g, 2, none⟩ = some a2 ∧ w.cell? ⟨g, 3, none⟩ = some a3 ∧ w.cell? ⟨g, 4, none⟩ = some a4 ∧ w.cell? ⟨g, 5, none⟩ = some a5 ∧ w.cell? ⟨g, 6, none⟩ = some a6 ∧ w.cell? ⟨g, 7, none⟩ = some a7 ∧ w.cell? ⟨g, 8, none⟩ = some a8 ∧ w.cell? ⟨g, 9, none⟩ = some a9 :=
  ⟨cell_of_row _ _ 0 _ _ _ h, cell_of_row _ _ 1 _ _ _ h, cell_of_row _ _ 2 _ _ _ h, cell_of_row _ _ 3 _ _ _ h, cell_of_row _ _ 4 _ _ _ h, cell_of_row _ _ 5 _ _ _ h, cell_of_row _ _ 6 _ _ _ h, cell_of_row _ _ 7 _ _ _ h, cell_of_row _ _ 8 _ _ _ h, cell_of_row _ _ 9 _ _ _ h⟩

theorem number_any (g f : Nat) (w : World) (hf : f < 5) : Calls Try.prog 44 #[.pointer (some ⟨g, 0, none⟩), .int .i64 f] w fun e w' => e = .returned (.pointer (some ⟨g, f + 1, none⟩)) ∧ w = w' := by
  obtain rfl | rfl | rfl | rfl | rfl : f = 0 ∨ f = 1 ∨ f = 2 ∨ f = 3 ∨ f = 4 := by omega
  all_goals
    go_enter Try.func44, Try.ntmps44
    go_wp2_with fail
    go_ret
    exact ⟨rfl, rfl⟩

theorem zero_eq (n : Nat) : (((n : Nat) : Int) == 0) = (n == 0) := by rw [Bool.eq_iff_iff, beq_iff_eq, beq_iff_eq]; omega
theorem zero_dec (n : Nat) : (((n : Nat) : Int) == 0) = decide (n = 0) := by rw [Bool.eq_iff_iff, beq_iff_eq, decide_eq_true_eq]; omega

/-- The first that is not nought. -/
def firstNZ : List Int → Int
  | [] => 0
  | x :: r => if x = 0 then firstNZ r else x
theorem firstNZ_zero (l : List Int) (k : Nat) (h : ∀ j, j < k → l[j]? = some 0 ∨ l[j]? = none) : firstNZ l = firstNZ (l.drop k) := by
  induction k generalizing l with
  | zero => rfl
  | succ k ih =>
    cases l with
    | nil => rfl
    | cons x r =>
      have h0 := h 0 (by omega)
      simp at h0
      subst h0
      simp only [firstNZ, if_true, List.drop_succ_cons]
      exact ih r (fun j hj => by simpa using h (j + 1) (by omega))
theorem first_any (A : Option Addr) (n c B : Nat) (l : List Int) (w : World) (hl : Rd w B 1 A n (l.map (Value.int .i64))) (hn : n ≤ maxLen) :
    Calls Try.prog 33 #[.slice A n c] w fun e w' => e = .returned (.int .i64 (firstNZ l)) ∧ w = w' := by
  have hln : l.length = n := by simpa using hl.len1
  unfold maxLen at hn
  have Hl := hide hl
  have Hln := hide hln
  clear hl hln
  go_enter Try.func33, Try.ntmps33
  go_wp2_with fail
  go_loopg [7] n (fun gk i wr => ∃ k : Nat, gk = n - k ∧ k ≤ n ∧ i = .int .i64 k ∧ (∀ j, j < k → l[j]? = some 0 ∨ l[j]? = none) ∧ w = wr)
  case atStart => exact ⟨0, by omega, Nat.zero_le _, rfl, fun j hj => by omega, rfl⟩
  case round =>
    obtain ⟨k, hgk, hk, rfl, hno, rfl⟩ := hrel
    have Hgk := hide hgk
    have Hno := hide hno
    clear hgk hno
    by_cases hlt : k < n
    · obtain ⟨x, hx⟩ : ∃ x, l[k]? = some x := ⟨_, List.getElem?_eq_getElem (by rw [unhide Hln]; exact hlt)⟩
      obtain ⟨b1, o1, rfl, _, c1⟩ := (unhide Hl).at_ (k := k) (u := .int .i64 x) (by simp [hx])
      by_cases he : x = 0
      · have hb : (x != 0) = false := by simpa using he
        have hno2 : ∀ j, j < k + 1 → l[j]? = some 0 ∨ l[j]? = none := fun j hj => by
          by_cases e : j = k
          · subst e; exact .inl (by rw [hx, he])
          · exact (unhide Hno) j (by omega)
        have Hno2 := hide hno2
        clear hno2 hx he
        go_wp2_with fail
        go_roundg (n - (k + 1))
        case measure => have := unhide Hgk; omega
        case rel => exact ⟨k + 1, rfl, by omega, by go_num, unhide Hno2, rfl⟩
      · have hb : (x != 0) = true := by simpa using he
        have hf : firstNZ l = x := by
          rw [firstNZ_zero l k (unhide Hno), List.drop_eq_getElem_cons (by rw [unhide Hln]; exact hlt), (List.getElem?_eq_some_iff.1 hx).2]
          simp [firstNZ, he]
        have Hf := hide hf
        clear hf hx he
        go_wp2_with fail
        go_ret
        exact ⟨by rw [unhide Hf]; rfl, rfl⟩
    · have hf : firstNZ l = 0 := by
        rw [firstNZ_zero l k (unhide Hno), List.drop_eq_nil_of_le (by rw [unhide Hln]; omega)]
        rfl
      have Hf := hide hf
      clear hf
      go_wp2_with fail
      go_ret
      exact ⟨by rw [unhide Hf]; rfl, rfl⟩

theorem fs_map (k : Nat) : fs k = (Cl.fsN k).map fun n : Nat => ((n : Nat) : Int) := by
  match k with
  | 0 | 1 | 2 | 3 | 4 | 5 | 6 | 7 | 8 | 9 | 10 | 11 | 12 => rfl
  | k + 13 => rfl
theorem memB_fs (k f : Nat) : Wd.memB ((f : Nat) : Int) (fs k) = (Cl.fsN k).contains f := by
  rw [fs_map]
  unfold Wd.memB
  rw [Bool.eq_iff_iff, decide_eq_true_eq, List.contains_iff_mem, List.mem_map]
  constructor
  · rintro ⟨a, ha, he⟩
    have : a = f := by omega
    rwa [this] at ha
  · intro h
    exact ⟨f, h, rfl⟩

theorem fmap_find (bs : Nat → Nat) (j k : Nat) (h1 : 1 ≤ k) (h2 : k ≤ j) : (fmap bs j).find? (fun p => p.1 == ((k : Nat) : Int)) = some (((k : Nat) : Int), Value.slice (some ⟨bs (k - 1), 0, none⟩) (fs k).length (fs k).length) := by
  induction j with
  | zero => omega
  | succ j ih =>
    have e : fmap bs (j + 1) = fmap bs j ++ [(((j + 1 : Nat) : Int), Value.slice (some ⟨bs j, 0, none⟩) (fs (j + 1)).length (fs (j + 1)).length)] := by
      unfold fmap; rw [List.range_succ, List.map_append]; rfl
    rw [e, List.find?_append]
    by_cases hk : k ≤ j
    · rw [ih hk]; rfl
    · obtain rfl : k = j + 1 := by omega
      have hn : (fmap bs j).find? (fun p => p.1 == (((j + 1 : Nat) : Nat) : Int)) = none := by
        rw [List.find?_eq_none]
        intro p hp
        unfold fmap at hp
        simp only [List.mem_map, List.mem_range] at hp
        obtain ⟨i, hi, rfl⟩ := hp
        simp
        omega
      rw [hn]
      simp
theorem fmap_none (bs : Nat → Nat) (j k : Nat) (h : k = 0 ∨ j < k) : (fmap bs j).find? (fun p => p.1 == ((k : Nat) : Int)) = none := by
  rw [List.find?_eq_none]
  intro p hp
  unfold fmap at hp
  simp only [List.mem_map, List.mem_range] at hp
  obtain ⟨i, hi, rfl⟩ := hp
  simp
  omega
theorem zero_fields (w : World) : (zeroValue 53).run Try.prog w = .ok (.slice none 0 0) w := by kernel_rfl
/-- What the map of fields holds of a kind. -/
theorem look_yes {w0 w : World} {g k : Nat} (h : FM w0 g 12 w) (h1 : 1 ≤ k) (h2 : k ≤ 12) : ∃ b, w0.heap.size ≤ b ∧
    (Instr.lookup 55 (.map (some g)) (.int .u8 k) true).run Try.prog w = .ok (.tuple #[.slice (some ⟨b, 0, none⟩) (fs k).length (fs k).length, .bool true]) w ∧
    (Instr.lookup 55 (.map (some g)) (.int .u8 k) false).run Try.prog w = .ok (.slice (some ⟨b, 0, none⟩) (fs k).length (fs k).length) w ∧
    Rd w w.heap.size 1 (some ⟨b, 0, none⟩) (fs k).length ((fs k).map (Value.int .i64)) := by
  obtain ⟨bs, hm, hb, _, _⟩ := h
  have hf := fmap_find bs 12 k h1 h2
  have r1 := run_mapLook (P := Try.prog) (z := .slice none 0 0) Try.underlying55 Try.underlying5 (x := ((k : Nat) : Int)) (by simp [Go.MapKept.IsKey]) (zero_fields w) hm
  have r2 := run_mapLook1 (P := Try.prog) (z := .slice none 0 0) Try.underlying55 Try.underlying5 (x := ((k : Nat) : Int)) (by simp [Go.MapKept.IsKey]) (zero_fields w) hm
  rw [hf] at r1 r2
  obtain ⟨q1, q2, q3⟩ := hb (k - 1) (by omega)
  rw [show k - 1 + 1 = k from by omega] at q1
  refine ⟨bs (k - 1), q3, r1, r2, ⟨by simp, ?_⟩⟩
  refine .inr ⟨bs (k - 1), 0, rfl, lt_of_block q1, fun j u hu => ?_⟩
  rw [cell_of_row _ _ _ _ _ _ q1, Nat.zero_add]
  simpa [fcells] using hu
theorem look_no {w0 w : World} {g k : Nat} (h : FM w0 g 12 w) (hk : k = 0 ∨ 12 < k) :
    (Instr.lookup 55 (.map (some g)) (.int .u8 k) true).run Try.prog w = .ok (.tuple #[.slice none 0 0, .bool false]) w := by
  obtain ⟨bs, hm, hb, _, _⟩ := h
  have r1 := run_mapLook (P := Try.prog) (z := .slice none 0 0) Try.underlying55 Try.underlying5 (x := ((k : Nat) : Int)) (by simp [Go.MapKept.IsKey]) (zero_fields w) hm
  rw [fmap_none bs 12 k hk] at r1
  exact r1
theorem FM.below {w0 w : World} {g j : Nat} (h : FM w0 g j w) : Below w0.heap.size w0 w := h.choose_spec.2.2.1
end Go.Proofs.Ytphbkjdheopmhaa
namespace Go.Proofs.Ytphbkjdheopmhaa
set_option linter.unusedVariables false
set_option linter.unusedSimpArgs false
open Go.RowKit

theorem Rd.sub {w : World} {B n : Nat} {b1 o1 : Nat} {xs : List Value} (h : Rd w B 1 (some ⟨b1, o1, none⟩) n xs) {off k : Nat} (hk : off + k ≤ n) : Rd w B 1 (some ⟨b1, o1 + off, none⟩) k ((xs.drop off).take k) := by
  have hl := h.len1
  refine ⟨by simp; omega, ?_⟩
  rcases h.2 with h0 | ⟨b, o, e, hb, hc⟩
  · exact .inl (by simp [h0])
  · obtain ⟨rfl, rfl⟩ : b1 = b ∧ o1 = o := by injection e with e; injection e with h1 h2 h3; exact ⟨h1, h2⟩
    refine .inr ⟨b1, o1 + off, rfl, hb, fun j u hu => ?_⟩
    by_cases hj : j < k
    · rw [List.getElem?_take_of_lt hj, List.getElem?_drop] at hu
      rw [Nat.add_assoc]
      exact hc _ _ hu
    · rw [List.getElem?_take_eq_none (by omega)] at hu
      cases hu

theorem conv_any {P : Program} {w : World} {B n c : Nat} {A : Option Addr} {l : List UInt8} {src dst e : TypeId} (h : Rd w B 1 A n (bys l)) (hs : P.underlying src = some (.slice e)) (he : P.underlying e = some (.int .u8)) (hd : P.underlying dst = some .string) :
    (convert src dst (.slice A n c)).run P w = .ok (.string ⟨l.toArray⟩) w := by
  have hl : l.length = n := by simpa [bys] using h.len1
  subst hl
  cases A with
  | none =>
    have h0 : l = [] := by
      rcases h.2 with h0 | ⟨b, o, e1, _⟩
      · simpa [bys] using h0
      · cases e1
    subst h0
    exact run_convert_bytes_nil w src e hs he _ c dst hd
  | some ad =>
    refine run_convert_bytes_back w src dst e ad c l hs he hd fun j hj => ?_
    obtain ⟨b, o, e1, _, hc⟩ := h.at_ (k := j) (u := .int .u8 (l[j].toNat : Nat)) (bys_at (List.getElem?_eq_getElem hj))
    injection e1 with e1
    subst e1
    rw [Addr.add_lit]
    exact hc
end Go.Proofs.Ytphbkjdheopmhaa
namespace Go.Proofs.Ytphbkjdheopmhaa
set_option linter.unusedVariables false
set_option linter.unusedSimpArgs false
open Go.RowKit

/-- Block g holds just these cells. -/
def Blk (w : World) (g : Nat) (t : TypeId) (l : List Value) : Prop := w.heap[g]? = some (.cells l.toArray t (0, 0))
section
variable {w w' : World} {g g' B i : Nat} {t : TypeId} {l : List Value} {u : Value}
theorem Blk.cell (h : Blk w g t l) (hi : l[i]? = some u) : w.cell? ⟨g, i, none⟩ = some u := by
  rw [cell_of_row _ _ _ _ _ _ h]
  simpa using hi
theorem Blk.free (h : Blk w g t l) (i : Nat) : w.frozen? ⟨g, i, none⟩ = false := frozen_of_row _ _ _ _ _ h
theorem Blk.set (h : Blk w g t l) (i : Nat) (u : Value) : Blk (w.setCell ⟨g, i, none⟩ u) g t (l.set i u) := by
  have h1 := heap_setCell_same _ _ i _ _ u h
  unfold Blk
  rw [h1]
  simp [List.setIfInBounds_toArray]
theorem Blk.below (h : Blk w g t l) (hb : Below B w w') (hg : g < B) : Blk w' g t l := (hb.block g hg).trans h
theorem Blk.lt (h : Blk w g t l) : g < w.heap.size := lt_of_block h
theorem Blk.belowSz (h : Blk w g t l) (hb : Below w.heap.size w w') : Blk w' g t l := h.below hb h.lt
theorem Blk.drewN (h : Blk w g t l) (k : Nat) : Blk (w.drewN k) g t l := h
theorem Blk.drew (h : Blk w g t l) : Blk w.drew g t l := h
theorem Blk.alloc (h : Blk w g t l) (o : Obj) : Blk (w.alloc o) g t l := h.belowSz ((Below.refl _ _).alloc (Nat.le_refl _) o)
theorem Blk.new (w : World) (t : TypeId) (l : List Value) : Blk (w.alloc (.cells l.toArray t)) w.heap.size t l := heap_alloc_new _ _
theorem Blk.other (h : Blk w g t l) {p : Addr} (hp : p.block ≠ g) (u : Value) : Blk (w.setCell p u) g t l := (heap_setCell_other _ _ _ _ hp.symm).trans h
end
end Go.Proofs.Ytphbkjdheopmhaa
namespace Go.Proofs.Ytphbkjdheopmhaa.Cl
set_option linter.unusedVariables false
set_option linter.unusedSimpArgs false
open Go.Proofs.Ytphbkjdheopmhaa

/-- n bytes of a number, the lowest first. -/
def lb : Nat → Nat → List UInt8
  | _, 0 => []
  | x, n + 1 => UInt8.ofNat (x % 256) :: lb (x / 256) n
theorem lb_len (n x : Nat) : (lb x n).length = n := by
  induction n generalizing x with
  | zero => rfl
  | succ n ih => simp [lb, ih]
theorem le_lb (n x : Nat) (h : x < 256 ^ n) : Wd.le (lb x n) = x := by
  induction n generalizing x with
  | zero => simp at h; subst h; rfl
  | succ n ih =>
    rw [Nat.pow_succ] at h
    simp only [lb, Wd.le]
    rw [ih (x / 256) (by omega)]
    have e : (UInt8.ofNat (x % 256)).toNat = x % 256 := by simp
    omega
theorem lb_le (l : List UInt8) : lb (Wd.le l) l.length = l := by
  induction l with
  | nil => rfl
  | cons c r ih =>
    have h := c.toNat_lt
    have e1 : (c.toNat + 256 * Wd.le r) % 256 = c.toNat := by omega
    have e2 : (c.toNat + 256 * Wd.le r) / 256 = Wd.le r := by omega
    simp only [Wd.le, List.length_cons, lb]
    rw [e1, e2, ih]
    simp

def bl (s : ByteArray) : List UInt8 := s.data.toList
def ba (l : List UInt8) : ByteArray := ⟨l.toArray⟩
theorem bl_ba (l : List UInt8) : bl (ba l) = l := rfl
theorem ba_bl (s : ByteArray) : ba (bl s) = s := by cases s; simp [ba, bl]
theorem bl_len (s : ByteArray) : (bl s).length = s.size := rfl
theorem ba_size (l : List UInt8) : (ba l).size = l.length := by show l.toArray.size = l.length; simp
/-- A text with its length ahead. -/
def txt (s : List UInt8) : List UInt8 := lb s.length 2 ++ s
def txts : List ByteArray → List UInt8
  | [] => []
  | s :: r => txt (bl s) ++ txts r
def lst (l : List ByteArray) : List UInt8 := lb l.length 1 ++ txts l
theorem txts_app (a b : List ByteArray) : txts (a ++ b) = txts a ++ txts b := by
  induction a with
  | nil => rfl
  | cons s r ih => simp [txts, ih]
def fld (q : C) : Nat → List UInt8
  | 5 => txt (bl q.path)
  | 6 => lst q.argv
  | 7 => lst q.env
  | 8 => txt q.bytes
  | f => lb (num q f) 8
def flds (q : C) : List Nat → List UInt8
  | [] => []
  | f :: r => fld q f ++ flds q r
theorem flds_app (q : C) (a b : List Nat) : flds q (a ++ b) = flds q a ++ flds q b := by
  induction a with
  | nil => rfl
  | cons s r ih => simp [flds, ih]
def form (q : C) : List UInt8 := UInt8.ofNat q.kind :: flds q (fsN q.kind)

/-- A reader: what is left, and whether some was lacking. -/
structure R where
  b : List UInt8
  gone : Bool
def take (r : R) (n : Nat) : List UInt8 × R := if r.gone = true ∨ r.b.length < n then ([], ⟨r.b, true⟩) else (r.b.take n, ⟨r.b.drop n, false⟩)
def rnum (r : R) (s : Nat) : Nat × R := (Wd.le (take r s).1, (take r s).2)
def rtxt (r : R) : List UInt8 × R := take (rnum r 2).2 (rnum r 2).1
def rtxts : Nat → R → List ByteArray × R
  | 0, r => ([], r)
  | n + 1, r => if r.gone = true then ([], r) else (ba (rtxt r).1 :: (rtxts n (rtxt r).2).1, (rtxts n (rtxt r).2).2)
def rlst (r : R) : List ByteArray × R := rtxts (rnum r 1).1 (rnum r 1).2
def rfld (s : C × R) : Nat → C × R
  | 5 => ({ s.1 with path := ba (rtxt s.2).1 }, (rtxt s.2).2)
  | 6 => ({ s.1 with argv := (rlst s.2).1 }, (rlst s.2).2)
  | 7 => ({ s.1 with env := (rlst s.2).1 }, (rlst s.2).2)
  | 8 => ({ s.1 with bytes := (rtxt s.2).1 }, (rtxt s.2).2)
  | 0 => ({ s.1 with a := (rnum s.2 8).1 }, (rnum s.2 8).2)
  | 1 => ({ s.1 with b := (rnum s.2 8).1 }, (rnum s.2 8).2)
  | 2 => ({ s.1 with c := (rnum s.2 8).1 }, (rnum s.2 8).2)
  | 3 => ({ s.1 with d := (rnum s.2 8).1 }, (rnum s.2 8).2)
  | _ => ({ s.1 with e := (rnum s.2 8).1 }, (rnum s.2 8).2)
def rflds : List Nat → C × R → C × R
  | [], s => s
  | f :: r, s => rflds r (rfld s f)
theorem rflds_app (a b : List Nat) (s : C × R) : rflds (a ++ b) s = rflds b (rflds a s) := by
  induction a generalizing s with
  | nil => rfl
  | cons f r ih => simp [rflds, ih]
def zeroC : C := ⟨0, 0, 0, 0, 0, 0, ba [], [], [], []⟩
def kindC (k : Nat) : C := ⟨k, 0, 0, 0, 0, 0, ba [], [], [], []⟩
def rall (k : Nat) (b : List UInt8) : C × R := rflds (fsN k) (kindC k, ⟨b, false⟩)
def read : List UInt8 → C × Nat × Int
  | [] => (zeroC, 0, 24)
  | k :: r => if k.toNat = 0 ∨ 12 < k.toNat then (zeroC, 0, 23)
      else if (rall k.toNat r).2.gone = true then (zeroC, 0, 24)
      else if check (rall k.toNat r).1 = 0 then ((rall k.toNat r).1, r.length + 1 - (rall k.toNat r).2.b.length, 0)
      else (zeroC, 0, check (rall k.toNat r).1)

/-- What was read: so many bytes ahead of what is left. -/
def Went (r r' : R) (x : List UInt8) : Prop := r.gone = false ∧ r'.gone = false ∧ r.b = x ++ r'.b
theorem Went.trans {a b c : R} {x y : List UInt8} (h : Went a b x) (k : Went b c y) : Went a c (x ++ y) :=
  ⟨h.1, k.2.1, by rw [h.2.2, k.2.2, List.append_assoc]⟩
theorem take_went {r : R} {n : Nat} (h : (take r n).2.gone = false) : Went r (take r n).2 (take r n).1 ∧ (take r n).1.length = n := by
  unfold take at h ⊢
  split at h
  · cases h
  · rename_i hn
    rw [if_neg hn]
    have h1 : r.gone = false := by
      cases hg : r.gone
      · rfl
      · exact absurd (.inl hg) hn
    have h2 : n ≤ r.b.length := by
      rcases Nat.lt_or_ge r.b.length n with h | h
      · exact absurd (.inr h) hn
      · exact h
    exact ⟨⟨h1, rfl, (List.take_append_drop n r.b).symm⟩, by simp; omega⟩
theorem rnum_went {r : R} {n : Nat} (h : (rnum r n).2.gone = false) : Went r (rnum r n).2 (lb (rnum r n).1 n) ∧ (rnum r n).1 < 256 ^ n := by
  obtain ⟨h1, h2⟩ := take_went h
  have e := lb_le (take r n).1
  have h3 := Wd.le_lt (take r n).1
  rw [h2] at e h3
  unfold rnum
  simp only
  rw [e]
  exact ⟨h1, h3⟩
theorem take_gone {r : R} {n : Nat} (h : r.gone = true) : take r n = ([], ⟨r.b, true⟩) := if_pos (.inl h)
theorem gone_back {r : R} {n : Nat} (h : (take r n).2.gone = false) : r.gone = false := (take_went h).1.1
theorem rtxt_went {r : R} (h : (rtxt r).2.gone = false) : Went r (rtxt r).2 (txt (rtxt r).1) ∧ (rtxt r).1.length < 65536 := by
  have h0 : (rnum r 2).2.gone = false := gone_back h
  obtain ⟨h1, h2⟩ := rnum_went h0
  obtain ⟨h3, h4⟩ := take_went h
  have h5 : (rtxt r).1.length = (rnum r 2).1 := h4
  unfold txt
  rw [h5]
  exact ⟨h1.trans h3, h2⟩
theorem rtxts_gone (n : Nat) {r : R} (h : r.gone = true) : (rtxts n r).2.gone = true := by
  cases n with
  | zero => exact h
  | succ n => unfold rtxts; rw [if_pos h]; exact h
theorem rtxts_went (n : Nat) {r : R} (h : (rtxts n r).2.gone = false) : r.gone = false ∧ Went r (rtxts n r).2 (txts (rtxts n r).1) ∧ (rtxts n r).1.length = n := by
  induction n generalizing r with
  | zero => exact ⟨h, ⟨h, h, rfl⟩, rfl⟩
  | succ n ih =>
    cases hg : r.gone
    · have e : rtxts (n + 1) r = (ba (rtxt r).1 :: (rtxts n (rtxt r).2).1, (rtxts n (rtxt r).2).2) := by
        conv => lhs; unfold rtxts
        rw [if_neg (by rw [hg]; simp)]
      rw [e] at h ⊢
      obtain ⟨h1, h2, h3⟩ := ih h
      obtain ⟨h4, _⟩ := rtxt_went h1
      refine ⟨rfl, h4.trans h2, by simp [h3]⟩
    · rw [rtxts_gone _ hg] at h
      cases h
theorem rlst_went {r : R} (h : (rlst r).2.gone = false) : Went r (rlst r).2 (lst (rlst r).1) ∧ (rlst r).1.length < 256 := by
  obtain ⟨h1, h2, h3⟩ := rtxts_went _ h
  obtain ⟨h4, h5⟩ := rnum_went h1
  have h6 : (rlst r).1.length = (rnum r 1).1 := h3
  unfold lst
  rw [h6]
  exact ⟨h4.trans h2, by omega⟩

/-- Reading goes on alike, whatever stands behind. -/
def more (t : List UInt8) (r : R) : R := ⟨r.b ++ t, r.gone⟩
theorem take_more (t : List UInt8) {r : R} {n : Nat} (h : (take r n).2.gone = false) : take (more t r) n = ((take r n).1, more t (take r n).2) := by
  obtain ⟨⟨h1, h2, h3⟩, h4⟩ := take_went h
  have hn : n ≤ r.b.length := by
    rw [h3, List.length_append]
    omega
  have e : take r n = (r.b.take n, ⟨r.b.drop n, false⟩) := if_neg (by rw [h1]; simp; omega)
  have e2 : take (more t r) n = ((r.b ++ t).take n, ⟨(r.b ++ t).drop n, false⟩) := if_neg (by unfold more; simp [h1]; omega)
  rw [e2, e]
  rw [List.take_append_of_le_length hn, List.drop_append_of_le_length hn]
  rfl
theorem rnum_more (t : List UInt8) {r : R} {n : Nat} (h : (rnum r n).2.gone = false) : rnum (more t r) n = ((rnum r n).1, more t (rnum r n).2) := by
  unfold rnum
  rw [take_more t h]
theorem rtxt_more (t : List UInt8) {r : R} (h : (rtxt r).2.gone = false) : rtxt (more t r) = ((rtxt r).1, more t (rtxt r).2) := by
  have h0 : (rnum r 2).2.gone = false := gone_back h
  unfold rtxt
  rw [rnum_more t h0]
  exact take_more t h
theorem rtxts_more (t : List UInt8) (n : Nat) {r : R} (h : (rtxts n r).2.gone = false) : rtxts n (more t r) = ((rtxts n r).1, more t (rtxts n r).2) := by
  induction n generalizing r with
  | zero => rfl
  | succ n ih =>
    have hg := (rtxts_went _ h).1
    have e : rtxts (n + 1) r = (ba (rtxt r).1 :: (rtxts n (rtxt r).2).1, (rtxts n (rtxt r).2).2) := by
      conv => lhs; unfold rtxts
      rw [if_neg (by rw [hg]; simp)]
    have e2 : rtxts (n + 1) (more t r) = (ba (rtxt (more t r)).1 :: (rtxts n (rtxt (more t r)).2).1, (rtxts n (rtxt (more t r)).2).2) := by
      conv => lhs; unfold rtxts
      rw [if_neg (by unfold more; rw [hg]; simp)]
    rw [e] at h ⊢
    rw [e2, rtxt_more t (rtxts_went _ h).1, ih h]
theorem rlst_more (t : List UInt8) {r : R} (h : (rlst r).2.gone = false) : rlst (more t r) = ((rlst r).1, more t (rlst r).2) := by
  have h0 : (rnum r 1).2.gone = false := (rtxts_went _ h).1
  unfold rlst
  rw [rnum_more t h0]
  exact rtxts_more t _ h

/-- one field -/
theorem rfld_back {s : C × R} {f : Nat} (h : (rfld s f).2.gone = false) : s.2.gone = false := by
  unfold rfld at h
  split at h
  · exact (rtxt_went h).1.1
  · exact (rlst_went h).1.1
  · exact (rlst_went h).1.1
  · exact (rtxt_went h).1.1
  · exact (rnum_went h).1.1
  · exact (rnum_went h).1.1
  · exact (rnum_went h).1.1
  · exact (rnum_went h).1.1
  · exact (rnum_went h).1.1
theorem rfld_went {s : C × R} {f : Nat} (hf : f < 9) (h : (rfld s f).2.gone = false) : Went s.2 (rfld s f).2 (fld (rfld s f).1 f) := by
  obtain rfl | rfl | rfl | rfl | rfl | rfl | rfl | rfl | rfl : f = 0 ∨ f = 1 ∨ f = 2 ∨ f = 3 ∨ f = 4 ∨ f = 5 ∨ f = 6 ∨ f = 7 ∨ f = 8 := by omega
  · exact (rnum_went h).1
  · exact (rnum_went h).1
  · exact (rnum_went h).1
  · exact (rnum_went h).1
  · exact (rnum_went h).1
  · exact (rtxt_went h).1
  · exact (rlst_went h).1
  · exact (rlst_went h).1
  · exact (rtxt_went h).1
theorem rfld_more (t : List UInt8) {s : C × R} {f : Nat} (hf : f < 9) (h : (rfld s f).2.gone = false) : rfld (s.1, more t s.2) f = ((rfld s f).1, more t (rfld s f).2) := by
  obtain rfl | rfl | rfl | rfl | rfl | rfl | rfl | rfl | rfl : f = 0 ∨ f = 1 ∨ f = 2 ∨ f = 3 ∨ f = 4 ∨ f = 5 ∨ f = 6 ∨ f = 7 ∨ f = 8 := by omega
  · simp only [rfld]; rw [rnum_more t h]
  · simp only [rfld]; rw [rnum_more t h]
  · simp only [rfld]; rw [rnum_more t h]
  · simp only [rfld]; rw [rnum_more t h]
  · simp only [rfld]; rw [rnum_more t h]
  · simp only [rfld]; rw [rtxt_more t h]
  · simp only [rfld]; rw [rlst_more t h]
  · simp only [rfld]; rw [rlst_more t h]
  · simp only [rfld]; rw [rtxt_more t h]
/-- a field is read, another one stays -/
theorem rfld_other {s : C × R} {f g : Nat} (hf : f < 9) (hg : g < 9) (hne : f ≠ g) : fld (rfld s f).1 g = fld s.1 g := by
  obtain rfl | rfl | rfl | rfl | rfl | rfl | rfl | rfl | rfl : f = 0 ∨ f = 1 ∨ f = 2 ∨ f = 3 ∨ f = 4 ∨ f = 5 ∨ f = 6 ∨ f = 7 ∨ f = 8 := by omega
  all_goals
    obtain rfl | rfl | rfl | rfl | rfl | rfl | rfl | rfl | rfl : g = 0 ∨ g = 1 ∨ g = 2 ∨ g = 3 ∨ g = 4 ∨ g = 5 ∨ g = 6 ∨ g = 7 ∨ g = 8 := by omega
    all_goals first | rfl | exact absurd rfl hne
theorem rflds_kept (l : List Nat) {s : C × R} {g : Nat} (hl : ∀ f ∈ l, f < 9) (hg : g < 9) (hne : g ∉ l) : fld (rflds l s).1 g = fld s.1 g := by
  induction l generalizing s with
  | nil => rfl
  | cons f r ih =>
    simp only [rflds]
    rw [ih (fun x hx => hl x (.tail _ hx)) (fun h => hne (.tail _ h))]
    exact rfld_other (hl f (.head _)) hg (fun e => hne (by rw [e]; exact .head _))
theorem rflds_went (l : List Nat) {s : C × R} (hl : ∀ f ∈ l, f < 9) (hd : l.Nodup) (h : (rflds l s).2.gone = false) : s.2.gone = false ∧ Went s.2 (rflds l s).2 (flds (rflds l s).1 l) := by
  induction l generalizing s with
  | nil => exact ⟨h, h, h, rfl⟩
  | cons f r ih =>
    simp only [rflds] at h ⊢
    have hd' := List.nodup_cons.1 hd
    obtain ⟨h1, h2⟩ := ih (fun x hx => hl x (.tail _ hx)) hd'.2 h
    have h3 := rfld_went (hl f (.head _)) h1
    refine ⟨h3.1, ?_⟩
    have e : fld (rflds r (rfld s f)).1 f = fld (rfld s f).1 f := rflds_kept r (fun x hx => hl x (.tail _ hx)) (hl f (.head _)) hd'.1
    unfold flds
    rw [e]
    exact h3.trans h2
theorem rflds_more (t : List UInt8) (l : List Nat) {s : C × R} (hl : ∀ f ∈ l, f < 9) (hd : l.Nodup) (h : (rflds l s).2.gone = false) : rflds l (s.1, more t s.2) = ((rflds l s).1, more t (rflds l s).2) := by
  induction l generalizing s with
  | nil => rfl
  | cons f r ih =>
    simp only [rflds] at h ⊢
    have hd' := List.nodup_cons.1 hd
    rw [rfld_more t (hl f (.head _)) (rflds_went r (fun x hx => hl x (.tail _ hx)) hd'.2 h).1]
    exact ih (fun x hx => hl x (.tail _ hx)) hd'.2 h
theorem fsN_ok (k : Nat) : (∀ f ∈ fsN k, f < 9) ∧ (fsN k).Nodup := by
  unfold fsN
  split <;> decide
end Go.Proofs.Ytphbkjdheopmhaa.Cl
namespace Go.Proofs.Ytphbkjdheopmhaa
set_option linter.unusedVariables false
set_option linter.unusedSimpArgs false
open Go.RowKit

theorem byteInfo : (Try.prog.info? 5).map (fun i => (i.zero, i.size, i.bytes)) = some (some (.int .u8 0), 1, 1) := by kernel_rfl
theorem byteTy : SlTy Try.prog 24 5 1 1 := slTy_mk (z := .int .u8 0) Try.underlying24 byteInfo rfl (by omega) (by omega)
theorem bys_one (l : List UInt8) : ∀ u ∈ bys l, u.oneCell' = true := by
  intro u hu
  simp only [bys, List.mem_map] at hu
  obtain ⟨c, _, rfl⟩ := hu
  rfl
/-- From the value v to the value v', which owns the bytes xs: only v's own row, and what is new, has turned. -/
structure Grew (w w' : World) (base : Nat) (v v' : Value) (n : Nat) (xs : List UInt8) : Prop where
  own : w'.ownsRow base 5 1 v' n (bys xs)
  kept : w.grownBy w' v.ownBlock
  at_ : ∀ k, v'.ownBlock = some k → v.ownBlock = some k ∨ w.heap.size ≤ k
section
variable {a b c : World} {base : Nat} {u v x : Value} {n m : Nat} {xs ys : List UInt8}
theorem Grew.trans (h : Grew a b base u v n xs) (k : Grew b c base v x m ys) : Grew a c base u x m ys :=
  ⟨k.own, ⟨k.kept.os.trans h.kept.os, k.kept.tape.trans h.kept.tape, k.kept.output.trans h.kept.output, Nat.le_trans h.kept.size k.kept.size, fun i hi hr => (k.kept.block i (Nat.lt_of_lt_of_le hi h.kept.size) (fun e => by
    rcases h.at_ i e.symm with h1 | h1
    · exact hr h1.symm
    · omega)).trans (h.kept.block i hi hr)⟩, fun i hi => by
    rcases k.at_ i hi with h1 | h1
    · exact h.at_ i h1
    · exact .inr (Nat.le_trans h.kept.size h1)⟩
theorem grownBy_of_below {row : Option Nat} (h : Below a.heap.size a b) : a.grownBy b row := ⟨h.os, h.tape, h.output, h.size, fun k hk _ => h.block k hk⟩
/-- Ahead of it something may have been made. -/
theorem Grew.after (hb : Below a.heap.size a b) (h : Grew b c base u v n xs) : Grew a c base u v n xs :=
  ⟨h.own, grown_trans (grownBy_of_below hb) h.kept, fun k hk => (h.at_ k hk).imp id fun h1 => Nat.le_trans hb.size h1⟩
theorem Grew.then (h : Grew a b base u v n xs) (hb : Below b.heap.size b c) : Grew a c base u v n xs :=
  ⟨own_below h.own hb, grown_trans h.kept (grownBy_of_below hb), h.at_⟩
theorem Grew.below {B : Nat} (h : Grew a b base u v n xs) (hB : B ≤ a.heap.size) (hr : ∀ k, u.ownBlock = some k → B ≤ k) : Below B a b := (Below.refl B a).grown h.kept hB hr
theorem Grew.blk {g : Nat} (h : Grew a b base u v n xs) (hg : g < a.heap.size) (hne : u.ownBlock ≠ some g) {o : Obj} (ho : a.heap[g]? = some o) : b.heap[g]? = some o :=
  (h.kept.block g hg (fun e => hne e.symm)).trans ho
theorem own_lt {w : World} {e : TypeId} {size : Nat} {xs : List Value} (h : w.ownsRow base e size v n xs) : ∀ k, v.ownBlock = some k → base ≤ k := fun k hk => (h.lt k hk).1
end

end Go.Proofs.Ytphbkjdheopmhaa
namespace Go.Proofs.Ytphbkjdheopmhaa
set_option linter.unusedVariables false
set_option linter.unusedSimpArgs false
open Go.RowKit

theorem bys_at' {b : List UInt8} {i : Nat} {x : UInt8} (h : b[i]? = some x) : (bys b)[i]? = some (.int .u8 x.toNat) := by simp [bys, h]

/-- What has been copied from k on. -/
def backTo (b : List UInt8) (k : Nat) : List Value := List.replicate k (.int .u8 0) ++ bys (b.drop k)
theorem backTo_set {b : List UInt8} {k : Nat} {x : UInt8} (h : b[k]? = some x) : (backTo b (k + 1)).set k (.int .u8 x.toNat) = backTo b k := by
  unfold backTo
  rw [List.drop_eq_getElem_cons (i := k) (by have := (List.getElem?_eq_some_iff.1 h).1; exact this)]
  have hx : b[k]'((List.getElem?_eq_some_iff.1 h).1) = x := (List.getElem?_eq_some_iff.1 h).2
  rw [hx, List.replicate_succ', List.append_assoc]
  rw [List.set_append]
  simp [bys]

set_option maxRecDepth 20000 in
set_option maxHeartbeats 1000000 in
theorem copyBytes_any (A : Option Addr) (m c B : Nat) (b : List UInt8) (w : World) (hB : B ≤ w.heap.size) (hb : Rd w B 1 A m (bys b)) (hm : m ≤ 4294967296) :
    Calls Try.prog 29 #[.slice A m c] w fun e w' => ∃ A' c', e = .returned (.slice A' m c') ∧ w'.ownsRow w.heap.size 5 1 (.slice A' m c') m (bys b) ∧ Below w.heap.size w w' := by
  have hbl : b.length = m := by simpa [bys] using hb.len1
  rcases Nat.eq_zero_or_pos m with rfl | hpos
  · have hb0 : b = [] := List.eq_nil_of_length_eq_zero hbl
    subst hb0
    clear hb hbl
    go_enter Try.func29, Try.ntmps29
    go_wp2
    go_ret
    exact ⟨none, 0, rfl, World.ownsRow_nil _ _ _ _, Below.refl _ _⟩
  have hne : decide (m = 0) = false := by simp; omega
  obtain ⟨i, hi, hz0, hz1, hz2⟩ := info_parts byteInfo
  have Hb := hide hb
  have Hbl := hide hbl
  have Hi := hide hi
  have Hz0 := hide hz0
  have Hz1 := hide hz1
  have Hz2 := hide hz2
  clear hb hbl hi hz0 hz1 hz2
  go_enter Try.func29, Try.ntmps29
  go_wp2_with (at_make; refine wpList_make_full _ rfl _ _ 24 rfl w.heap.size 5 i (.int .u8 0) 1 Try.underlying24 (unhide Hi) (unhide Hz0) (unhide Hz1) _ _ _ _ m rfl rfl rfl rfl (by rw [unhide Hz2]; omega) (by unfold maxLen; omega) (Nat.le_refl _) ?_; intro w1 hown hgrow; have hb1 := (Below.refl w.heap.size w).grown hgrow (Nat.le_refl _) (fun k hk => by cases hk); have Hown := hide hown; have Hb1 := hide hb1; clear hown hgrow hb1)
  go_loopw [4] (fun at_ wr => ∃ k : Nat, k ≤ m ∧ at_ = .int .i64 ((k : Int) - 1) ∧ wr.ownsRow w.heap.size 5 1 (.slice (some ⟨w.heap.size, 0, none⟩) m m) m (backTo b k) ∧ Below w.heap.size w wr) (fun at_ _ => (intOf at_ + 1).toNat)
  case atStart =>
    refine ⟨m, Nat.le_refl _, rfl, ?_, unhide Hb1⟩
    have := unhide Hown
    have e : (madeCells (Value.int .u8 0).cells (m * 1)).toList = backTo b m := by
      unfold backTo
      rw [List.drop_eq_nil_of_le (by rw [unhide Hbl]; exact Nat.le_refl _)]
      simp [bys, Value.cells, toList_madeCells_one]
    rwa [e] at this
  case round =>
  clear Hown Hb1
  obtain ⟨k, hk, rfl, hown, hb2⟩ := hrel
  have Hown := hide hown
  have Hb2 := hide hb2
  clear hown hb2
  by_cases hk0 : k = 0
  · subst hk0
    go_wp2
    go_ret
    refine ⟨_, _, rfl, ?_, unhide Hb2⟩
    have := unhide Hown
    simpa [backTo] using this
  · obtain ⟨j, rfl⟩ : ∃ j, k = j + 1 := ⟨k - 1, by omega⟩
    obtain ⟨x, hx⟩ : ∃ x, b[j]? = some x := ⟨_, List.getElem?_eq_getElem (by rw [unhide Hbl]; omega)⟩
    obtain ⟨ab, ao, rfl, hlt, hc⟩ := ((unhide Hb).below ((unhide Hb2).mono hB)).at_ (bys_at' hx)
    have hset := own_set (i := j) (unhide Hown) (.int .u8 x.toNat)
    rw [backTo_set hx] at hset
    have hcl : (backTo b (j + 1))[j]? = some (.int .u8 0) := by simp [backTo, List.getElem?_append]
    have hc2 := own_cell (unhide Hown) hcl
    have hf2 := own_free (unhide Hown) j
    have hge := own_at (unhide Hown)
    have e1 : ((j + 1 : Nat) : Int) - 1 = (j : Int) := by omega
    rw [e1]
    have Hset := hide hset
    clear hset hcl hx
    go_wp2
    go_roundw
    case rel => exact ⟨j, by omega, rfl, unhide Hset, (unhide Hb2).setCell (Nat.le_refl _) _⟩
    case measure => simp [intOf]

end Go.Proofs.Ytphbkjdheopmhaa
namespace Go.Proofs.Ytphbkjdheopmhaa
set_option linter.unusedVariables false
set_option linter.unusedSimpArgs false
open Go.RowKit

theorem empty_num (q : Cl.C) (x y z : Sl) (f : Nat) (w : World) (hf : f < 5) (b : Bool) (v : Nat) (hv : (f = 0 ∧ v = q.a) ∨ (f = 1 ∧ v = q.b) ∨ (f = 2 ∧ v = q.c) ∨ (f = 3 ∧ v = q.d) ∨ (f = 4 ∧ v = q.e)) (hb : b = (((v : Nat) : Int) == 0)) :
    Calls Try.prog 32 #[.agg (clCells q x y z), .int .i64 f] w fun e w' => e = .returned (.bool b) ∧ Below w.heap.size w w' := by
  have K := hide (fun (g : Nat) (w : World) => number_any g f w hf)
  subst hb
  obtain ⟨rfl, rfl⟩ | ⟨rfl, rfl⟩ | ⟨rfl, rfl⟩ | ⟨rfl, rfl⟩ | ⟨rfl, rfl⟩ := hv
  all_goals
    clear hf
    go_enter Try.func32, Try.ntmps32
    go_wp2_with fail
    refine ((unhide K) _ _).mono ?_
    rintro e w1 ⟨rfl, rfl⟩
    go_wp2_with fail
    go_ret
    exact ⟨rfl, (Below.refl _ _).alloc (Nat.le_refl _) _⟩

theorem empty_rest (q : Cl.C) (x y z : Sl) (f : Nat) (w : World) (b : Bool) (hv : (f = 5 ∧ b = q.path.toList.isEmpty) ∨ (f = 6 ∧ b = (((x.n : Nat) : Int) == 0)) ∨ (f = 7 ∧ b = (((y.n : Nat) : Int) == 0)) ∨ (f = 8 ∧ b = (((z.n : Nat) : Int) == 0))) :
    Calls Try.prog 32 #[.agg (clCells q x y z), .int .i64 f] w fun e w' => e = .returned (.bool b) ∧ Below w.heap.size w w' := by
  obtain ⟨rfl, rfl⟩ | ⟨rfl, rfl⟩ | ⟨rfl, rfl⟩ | ⟨rfl, rfl⟩ := hv
  all_goals
    go_enter Try.func32, Try.ntmps32
    go_wp2_with fail
    go_ret
    exact ⟨rfl, (Below.refl _ _).alloc (Nat.le_refl _) _⟩

theorem empty_any (q : Cl.C) (x y z : Sl) (B f : Nat) (w : World) (hq : ClOk w B q x y z) (hf : f < 9) :
    Calls Try.prog 32 #[.agg (clCells q x y z), .int .i64 f] w fun e w' => e = .returned (.bool (Cl.emptyB q f)) ∧ Below w.heap.size w w' := by
  by_cases h5 : f < 5
  · obtain rfl | rfl | rfl | rfl | rfl : f = 0 ∨ f = 1 ∨ f = 2 ∨ f = 3 ∨ f = 4 := by omega
    · exact empty_num q x y z 0 w h5 _ q.a (.inl ⟨rfl, rfl⟩) (by rw [zero_eq]; rfl)
    · exact empty_num q x y z 1 w h5 _ q.b (.inr (.inl ⟨rfl, rfl⟩)) (by rw [zero_eq]; rfl)
    · exact empty_num q x y z 2 w h5 _ q.c (.inr (.inr (.inl ⟨rfl, rfl⟩))) (by rw [zero_eq]; rfl)
    · exact empty_num q x y z 3 w h5 _ q.d (.inr (.inr (.inr (.inl ⟨rfl, rfl⟩)))) (by rw [zero_eq]; rfl)
    · exact empty_num q x y z 4 w h5 _ q.e (.inr (.inr (.inr (.inr ⟨rfl, rfl⟩)))) (by rw [zero_eq]; rfl)
  · have h1 := hq.n1
    have h2 := hq.n2
    have h3 := hq.n3
    refine empty_rest q x y z f w _ ?_
    obtain rfl | rfl | rfl | rfl : f = 5 ∨ f = 6 ∨ f = 7 ∨ f = 8 := by omega
    · exact .inl ⟨rfl, by rw [isEmpty_toList]; rfl⟩
    · exact .inr (.inl ⟨rfl, by rw [zero_dec, ← h1]; rfl⟩)
    · exact .inr (.inr (.inl ⟨rfl, by rw [zero_dec, ← h2]; rfl⟩))
    · exact .inr (.inr (.inr ⟨rfl, by rw [zero_dec, ← h3]; rfl⟩))
end Go.Proofs.Ytphbkjdheopmhaa
namespace Go.Proofs.Ytphbkjdheopmhaa
set_option linter.unusedVariables false
set_option linter.unusedSimpArgs false
open Go.RowKit

theorem FM.of_drew {w0 w0' w : World} {g j : Nat} (h : FM w0' g j w) (hd : ∃ k, w0' = w0.drewN k) : FM w0 g j w := by
  obtain ⟨k, rfl⟩ := hd
  obtain ⟨bs, h1, h2, h3, h4⟩ := h
  exact ⟨bs, h1, h2, (below_drewN' (Below.refl _ _) k).trans h3, h4⟩

theorem ClOk.drew {w : World} {B : Nat} {q : Cl.C} {x y z : Sl} (h : ClOk w B q x y z) : ClOk w.drew B q x y z := ⟨h.r1.drew, h.r2.drew, h.r3.drew⟩
theorem Rd.lit (w : World) (xs : List Value) (t : TypeId) (h : 0 < xs.length) : Rd (w.alloc (.cells xs.toArray t)) (w.heap.size + 1) 1 (some ⟨w.heap.size, 0, none⟩) xs.length xs := by
  refine ⟨by simp, .inr ⟨w.heap.size, 0, rfl, by omega, fun j u hu => ?_⟩⟩
  rw [cell_of_row _ _ _ _ _ _ (heap_alloc_new _ _), Nat.zero_add]
  simpa using hu
theorem rd_lit3 (w : World) (a b c : Value) (t : TypeId) : Rd (w.alloc (.cells #[a, b, c] t)) (w.heap.size + 1) 1 (some ⟨w.heap.size, 0, none⟩) 3 [a, b, c] := Rd.lit w [a, b, c] t (by simp)
theorem rd_lit2 (w : World) (a b : Value) (t : TypeId) : Rd (w.alloc (.cells #[a, b] t)) (w.heap.size + 1) 1 (some ⟨w.heap.size, 0, none⟩) 2 [a, b] := Rd.lit w [a, b] t (by simp)
theorem firstNZ3 (a b c : Int) : firstNZ [a, b, c] = Cl.fst2 a (Cl.fst2 b c) := by
  unfold firstNZ Cl.fst2
  split
  · unfold firstNZ
    split
    · unfold firstNZ
      split
      · rename_i h; rw [h]; rfl
      · rfl
    · rfl
  · rfl
theorem first3 (w : World) {a b c v : Int} (h : v = Cl.fst2 a (Cl.fst2 b c)) : Calls Try.prog 33 #[.slice (some ⟨w.heap.size, 0, none⟩) 3 3] (w.alloc (.cells #[.int .i64 a, .int .i64 b, .int .i64 c] 30)) (fun e w' => e = .returned (.int .i64 v) ∧ w.alloc (.cells #[.int .i64 a, .int .i64 b, .int .i64 c] 30) = w') := by
  have h3 := first_any _ 3 3 _ [a, b, c] _ (rd_lit3 w (.int .i64 a) (.int .i64 b) (.int .i64 c) 30) (by simp [maxLen])
  rwa [firstNZ3, ← h] at h3
theorem firstNZ2 (a b : Int) : firstNZ [a, b] = Cl.fst2 a b := by
  unfold firstNZ Cl.fst2
  split
  · unfold firstNZ
    split
    · rename_i h; rw [h]; rfl
    · rfl
  · rfl
theorem if_dec {α : Type} (p : Prop) [Decidable p] (b : Bool) (h : p ↔ b = true) (x y : α) : (if p then x else y) = if b then x else y := by
  by_cases hp : p
  · rw [if_pos hp, if_pos (h.1 hp)]
  · rw [if_neg hp, if_neg fun e => hp (h.2 e)]
theorem below_undrew {B k : Nat} {w w' : World} (h : Below B (w.drewN k) w') : Below B w w' := (below_drewN' (Below.refl _ _) k).trans h
theorem first2 (w : World) {a b v : Int} (h : v = Cl.fst2 a b) : Calls Try.prog 33 #[.slice (some ⟨w.heap.size, 0, none⟩) 2 2] (w.alloc (.cells #[.int .i64 a, .int .i64 b] 30)) (fun e w' => e = .returned (.int .i64 v) ∧ w.alloc (.cells #[.int .i64 a, .int .i64 b] 30) = w') := by
  have h3 := first_any _ 2 2 _ [a, b] _ (rd_lit2 w (.int .i64 a) (.int .i64 b) 30) (by simp [maxLen])
  rwa [firstNZ2, ← h] at h3
theorem check_out {q : Cl.C} (h : q.kind = 0 ∨ 12 < q.kind) : Cl.check q = 23 := by unfold Cl.check; rw [if_pos h]
theorem check_arg {q : Cl.C} (h : ¬ (q.kind = 0 ∨ 12 < q.kind)) {k : Nat} (hk : k < 9) (hb : Cl.fieldB q k = false) : Cl.check q = 1 := by
  unfold Cl.check
  rw [if_neg h, if_pos]
  unfold Cl.onlyB
  rw [List.all_eq_false]
  exact ⟨k, List.mem_range.2 hk, by simp [hb]⟩
theorem check_in {q : Cl.C} (h : ¬ (q.kind = 0 ∨ 12 < q.kind)) (hb : ∀ j, j < 9 → Cl.fieldB q j = true) : Cl.check q = (if q.kind = 1 then Cl.fst2 (Pth.chk q.path) (Cl.fst2 (Cl.envCk q.argv) (Cl.envCk q.env))
  else if q.kind = 8 ∨ q.kind = 12 then (if 4096 < q.b then 12 else 0)
  else if q.kind = 9 then (if 4096 < q.bytes.length then 12 else 0)
  else if q.kind = 10 then Cl.fst2 (Pth.chk q.path) (if 1 < q.a then 1 else 0)
  else 0) := by
  unfold Cl.check
  rw [if_neg h, if_neg]
  unfold Cl.onlyB
  rw [Bool.not_eq_false, List.all_eq_true]
  exact fun j hj => hb j (List.mem_range.1 hj)

set_option maxRecDepth 20000 in
set_option maxHeartbeats 2000000 in
theorem callCheck_any (q : Cl.C) (x y z : Sl) (B : Nat) (w : World) (hq : ClOk w B q x y z) (hB : B ≤ w.heap.size) (hf : ClFit q) :
    Calls Try.prog 13 #[.agg (clCells q x y z)] w fun e w' => e = .returned (.int .i64 (Cl.check q)) ∧ Below w.heap.size w w' := by
  have Hq := hide hq
  have Hf := hide hf
  have hk := hf.k
  clear hq hf
  go_enter Try.func13, Try.ntmps13
  have hbox : (w.alloc (.cells (clCells q x y z) 26)).heap[w.heap.size]? = some (.cells (clCells q x y z) 26 (0, 0)) := heap_alloc_new _ _
  obtain ⟨v0, v1, v2, v3, v4, v5, v6, v7, v8, v9⟩ := box10 hbox
  have hbW : Below w.heap.size w (w.alloc (.cells (clCells q x y z) 26)) := (Below.refl _ _).alloc (Nat.le_refl _) _
  have hsz := lt_of_block hbox
  have hqW := (unhide Hq).alloc hB (.cells (clCells q x y z) 26)
  go_wp2_with fail
  generalize hgW : w.alloc (.cells (clCells q x y z) 26) = W at *
  clear hgW
  have HqW := hide hqW
  have HbW := hide hbW
  clear hqW hbW Hq
  by_cases hlow : 1 ≤ q.kind ∧ q.kind ≤ 12
  · have hl1 := hlow.1
    have hl2 := hlow.2
    go_region_held3 (fun w' => w'.cell? ⟨w.heap.size, 0, none⟩ = some (.int .u8 q.kind)) (first | exact v0 | exact hx0) (first | (go_at_call 30; refine (fields_any _).mono ?_; rintro e w1 ⟨rfl, hFM0⟩; have hFM : FM W W.heap.size 12 w1 := hFM0.of_drew ⟨_, rfl⟩; clear hFM0; have hx0 := (hFM.below.cell (p := ⟨w.heap.size, 0, none⟩) hsz).trans v0; obtain ⟨bl, hbl1, hbl2, hbl3, hbl4⟩ := look_yes hFM hl1 hl2; have HFM := hide hFM; have HBL4 := hide hbl4; clear hbl1 hbl3 hbl4 hFM))
    have hq1 := (unhide HqW).below (((unhide HFM).below).mono (by have := hsz; omega))
    have hbx1 := ((unhide HFM).below.block _ hsz).trans hbox
    have hb1 := (unhide HbW).trans ((unhide HFM).below.mono (by omega))
    have hsz1 := lt_of_block hbx1
    have Hq1 := hide hq1
    have Hbx1 := hide hbx1
    have Hb1 := hide hb1
    clear hq1 hbx1 hb1 hbox v0 v1 v2 v3 v4 v5 v6 v7 v8 v9 hx0 hbl2 HqW HbW HFM
    have hn : (fs q.kind).length ≤ maxLen := by
      rw [fs_map, List.length_map]
      unfold Cl.fsN
      split <;> (simp [maxLen])
    have Hn := hide hn
    clear hn
    go_wp2_with fail
    go_loopg [5] 9 (fun gk i wr => ∃ k : Nat, gk = 9 - k ∧ k ≤ 9 ∧ i = .int .i64 k ∧ (∀ j, j < k → Cl.fieldB q j = true) ∧ Below w1.heap.size w1 wr)
    case atStart => exact ⟨0, by omega, Nat.zero_le _, rfl, fun j hj => by omega, Below.refl _ _⟩
    case round =>
      obtain ⟨k, hgk, hk, rfl, hall, hbr⟩ := hrel
      have hbxr := (hbr.block _ hsz1).trans (unhide Hbx1)
      have hrr := (unhide HBL4).below hbr
      have hqr := (unhide Hq1).below (hbr.mono (by omega))
      have hszr := lt_of_block hbxr
      have hsr := hbr.size
      have Hbr := hide ((unhide Hb1).trans (hbr.mono (by omega)))
      have Hbr1 := hide hbr
      have Hgk := hide hgk
      have Hall := hide hall
      have Hrr := hide hrr
      have Hqr := hide hqr
      have Hbxr := hide hbxr
      clear hgk hall hbr hrr hqr
      by_cases hlt : k < 9
      · clear hbxr
        have K1 : Calls Try.prog 31 #[.slice (some ⟨bl, 0, none⟩) (fs q.kind).length (fs q.kind).length, .int .i64 k] wr fun e w' => e = .returned (.bool ((Cl.fsN q.kind).contains k)) ∧ wr = w' := by
          have h := containsFld_any _ _ (fs q.kind).length _ (fs q.kind) k wr (unhide Hrr) (unhide Hn)
          rwa [memB_fs] at h
        obtain ⟨cb, hcb⟩ : ∃ b, (Cl.fsN q.kind).contains k = b := ⟨_, rfl⟩
        rw [hcb] at K1
        have HK1 := hide K1
        have Hcb := hide hcb
        clear K1 hcb
        cases cb
        · go_wp2_with fail
          refine (unhide HK1).mono ?_
          rintro e w2 ⟨rfl, rfl⟩
          obtain ⟨v0, v1, v2, v3, v4, v5, v6, v7, v8, v9⟩ := box10 (unhide Hbxr)
          have K2 := empty_any q x y z _ k wr (unhide Hqr) hlt
          obtain ⟨eb, heb⟩ : ∃ b, Cl.emptyB q k = b := ⟨_, rfl⟩
          rw [heb] at K2
          have HK2 := hide K2
          have Heb := hide heb
          clear K2 heb
          cases eb
          · go_wp2_with fail
            refine (unhide HK2).mono ?_
            rintro e w2 ⟨rfl, hb2⟩
            have Hb2 := hide ((unhide Hbr).trans (hb2.mono (by omega)))
            clear v0 v1 v2 v3 v4 v5 v6 v7 v8 v9 hb2
            go_wp2_with fail
            go_ret
            exact ⟨by rw [check_arg (k := k) (by omega) hlt (by unfold Cl.fieldB; rw [unhide Hcb, unhide Heb]; rfl)]; rfl, unhide Hb2⟩
          · go_wp2_with fail
            refine (unhide HK2).mono ?_
            rintro e w2 ⟨rfl, hb2⟩
            have Hb2 := hide ((unhide Hbr1).trans (hb2.mono (by omega)))
            clear v0 v1 v2 v3 v4 v5 v6 v7 v8 v9 hb2
            go_wp2_with fail
            go_roundg (9 - (k + 1))
            case measure => have := unhide Hgk; omega
            case rel => exact ⟨k + 1, rfl, by omega, by go_num, fun j hj => (by
              by_cases e : j = k
              · subst e; unfold Cl.fieldB; rw [unhide Heb, Bool.or_true]
              · exact (unhide Hall) j (by omega)), unhide Hb2⟩
        · go_wp2_with fail
          refine (unhide HK1).mono ?_
          rintro e w2 ⟨rfl, rfl⟩
          go_wp2_with fail
          go_roundg (9 - (k + 1))
          case measure => have := unhide Hgk; omega
          case rel => exact ⟨k + 1, rfl, by omega, by go_num, fun j hj => (by
            by_cases e : j = k
            · subst e; unfold Cl.fieldB; rw [unhide Hcb, Bool.true_or]
            · exact (unhide Hall) j (by omega)), unhide Hbr1⟩
      · obtain rfl : k = 9 := by omega
        obtain ⟨v0, v1, v2, v3, v4, v5, v6, v7, v8, v9⟩ := box10 hbxr
        clear hbxr
        have hC := check_in (q := q) (by omega) (unhide Hall)
        have hn3 := (unhide Hqr).n3
        have Hp := hide (unhide Hf).p
        obtain hk1 | hk8 | hk12 | hk9 | hk10 | hko : q.kind = 1 ∨ q.kind = 8 ∨ q.kind = 12 ∨ q.kind = 9 ∨ q.kind = 10 ∨ (q.kind ≠ 1 ∧ q.kind ≠ 8 ∧ q.kind ≠ 12 ∧ q.kind ≠ 9 ∧ q.kind ≠ 10) := by omega
        · have t1 : (((q.kind : Nat) : Int) == 1) = true := by rw [hk1]; rfl
          rw [if_pos hk1] at hC
          have HC := hide hC
          clear hC hk1 hn3
          have hl1 := (unhide Hf).l1
          have hl2 := (unhide Hf).l2
          rw [(unhide Hqr).n1] at hl1
          rw [(unhide Hqr).n2] at hl2
          have Hl1 := hide hl1
          have Hl2 := hide hl2
          clear hl1 hl2
          go_wp2_with fail
          clear t1
          go_region_held3 (fun w' => w'.cell? ⟨w.heap.size, 6, none⟩ = some (.string q.path) ∧ w'.cell? ⟨w.heap.size, 7, none⟩ = some (.slice x.A x.n x.c) ∧ w'.cell? ⟨w.heap.size, 8, none⟩ = some (.slice y.A y.n y.c)) (first | exact ⟨v6, v7, v8⟩ | exact ⟨y6, y7, y8⟩ | exact ⟨(World.cell?_alloc_lt _ _ _ hs2w).trans y6, (World.cell?_alloc_lt _ _ _ hs2w).trans y7, (World.cell?_alloc_lt _ _ _ hs2w).trans y8⟩) (first
            | (go_at_call 34; refine (check_any q.path (unhide Hp) _).mono ?_; rintro e w2 ⟨rfl, hb0⟩; have hb2 : Below wr.heap.size wr w2 := below_undrew hb0; clear hb0; have K1 := envCheck_any x.A x.n x.c _ q.argv w2 ((unhide Hqr).r1.below (hb2.mono (by omega))) (unhide Hf).s1 (unhide Hl1); have K2 := envCheck_any y.A y.n y.c _ q.env w2 ((unhide Hqr).r2.below (hb2.mono (by omega))) (unhide Hf).s2 (unhide Hl2); have hs2w : w.heap.size < w2.heap.size := (by have := hb2.size; omega); have K3 := first3 w2 (unhide HC); have y6 := (hb2.cell (p := ⟨w.heap.size, 6, none⟩) hszr).trans v6; have y7 := (hb2.cell (p := ⟨w.heap.size, 7, none⟩) hszr).trans v7; have y8 := (hb2.cell (p := ⟨w.heap.size, 8, none⟩) hszr).trans v8)
            | (go_at_call 35; with_reducible (refine K1.mono ?_); rintro e w3 ⟨rfl, rfl⟩)
            | (go_at_call 35; with_reducible (refine K2.mono ?_); rintro e w3 ⟨rfl, rfl⟩)
            | (go_at_call 33; with_reducible (refine K3.mono ?_); rintro e w4 ⟨rfl, rfl⟩))
          have Hb2 := hide (((unhide Hbr).trans (hb2.mono (by omega))).alloc (by have := hb2.size; omega) (.cells #[.int .i64 (Pth.chk q.path), .int .i64 (Cl.envCk q.argv), .int .i64 (Cl.envCk q.env)] 30))
          clear K1 K2 K3 y6 y7 y8 hb2
          go_wp2_with fail
          go_ret
          exact ⟨rfl, unhide Hb2⟩
        · have t1 : (((q.kind : Nat) : Int) == 1) = false := by rw [hk8]; rfl
          have t8 : (((q.kind : Nat) : Int) == 8) = true := by rw [hk8]; rfl
          rw [if_neg (by omega), if_pos (by omega)] at hC
          have Kb : ∀ w : World, Calls Try.prog 36 #[.bool (decide ((4096 : Int) < ((q.b : Nat) : Int))), .int .i64 12] w fun e w' => e = .returned (.int .i64 (Cl.check q)) ∧ w = w' := fun w => by
            have h := unless_any (decide ((4096 : Int) < ((q.b : Nat) : Int))) 12 w
            rwa [← if_dec (4096 < q.b) _ (by rw [decide_eq_true_eq]; omega), ← hC] at h
          have Kb := hide Kb
          clear hC hk8 hn3
          go_wp2_with fail
          refine ((unhide Kb) _).mono ?_
          rintro e w2 ⟨rfl, rfl⟩
          go_wp2_with fail
          go_ret
          exact ⟨rfl, unhide Hbr⟩
        · have t1 : (((q.kind : Nat) : Int) == 1) = false := by rw [hk12]; rfl
          have t8 : (((q.kind : Nat) : Int) == 8) = false := by rw [hk12]; rfl
          have t12 : (((q.kind : Nat) : Int) == 12) = true := by rw [hk12]; rfl
          rw [if_neg (by omega), if_pos (by omega)] at hC
          have Kb : ∀ w : World, Calls Try.prog 36 #[.bool (decide ((4096 : Int) < ((q.b : Nat) : Int))), .int .i64 12] w fun e w' => e = .returned (.int .i64 (Cl.check q)) ∧ w = w' := fun w => by
            have h := unless_any (decide ((4096 : Int) < ((q.b : Nat) : Int))) 12 w
            rwa [← if_dec (4096 < q.b) _ (by rw [decide_eq_true_eq]; omega), ← hC] at h
          have Kb := hide Kb
          clear hC hk12 hn3
          go_wp2_with fail
          refine ((unhide Kb) _).mono ?_
          rintro e w2 ⟨rfl, rfl⟩
          go_wp2_with fail
          go_ret
          exact ⟨rfl, unhide Hbr⟩
        · have t1 : (((q.kind : Nat) : Int) == 1) = false := by rw [hk9]; rfl
          have t8 : (((q.kind : Nat) : Int) == 8) = false := by rw [hk9]; rfl
          have t12 : (((q.kind : Nat) : Int) == 12) = false := by rw [hk9]; rfl
          have t9 : (((q.kind : Nat) : Int) == 9) = true := by rw [hk9]; rfl
          rw [if_neg (by omega), if_neg (by omega), if_pos hk9, hn3] at hC
          have Kl : ∀ w : World, Calls Try.prog 36 #[.bool (decide ((4096 : Int) < ((z.n : Nat) : Int))), .int .i64 12] w fun e w' => e = .returned (.int .i64 (Cl.check q)) ∧ w = w' := fun w => by
            have h := unless_any (decide ((4096 : Int) < ((z.n : Nat) : Int))) 12 w
            rwa [← if_dec (4096 < z.n) _ (by rw [decide_eq_true_eq]; omega), ← hC] at h
          have Kl := hide Kl
          clear hC hk9 hn3
          go_wp2_with fail
          refine ((unhide Kl) _).mono ?_
          rintro e w2 ⟨rfl, rfl⟩
          go_wp2_with fail
          go_ret
          exact ⟨rfl, unhide Hbr⟩
        · have t1 : (((q.kind : Nat) : Int) == 1) = false := by rw [hk10]; rfl
          have t8 : (((q.kind : Nat) : Int) == 8) = false := by rw [hk10]; rfl
          have t12 : (((q.kind : Nat) : Int) == 12) = false := by rw [hk10]; rfl
          have t9 : (((q.kind : Nat) : Int) == 9) = false := by rw [hk10]; rfl
          have t10 : (((q.kind : Nat) : Int) == 10) = true := by rw [hk10]; rfl
          rw [if_neg (by omega), if_neg (by omega), if_neg (by omega), if_pos hk10] at hC
          have Kv : ∃ v, (if 1 < q.a then (1 : Int) else 0) = v ∧ ∀ w : World, Calls Try.prog 36 #[.bool (decide ((1 : Int) < ((q.a : Nat) : Int))), .int .i64 1] w fun e w' => e = .returned (.int .i64 v) ∧ w = w' := ⟨_, rfl, fun w => by
            have h := unless_any (decide ((1 : Int) < ((q.a : Nat) : Int))) 1 w
            rwa [← if_dec (1 < q.a) _ (by rw [decide_eq_true_eq]; omega)] at h⟩
          obtain ⟨v, hv, Kv⟩ := Kv
          rw [hv] at hC
          have Kv := hide Kv
          have HC := hide hC
          clear hC hk10 hn3 hv
          go_wp2_with fail
          clear t1 t8 t12 t9 t10
          go_region_held3 (fun w' => w'.cell? ⟨w.heap.size, 6, none⟩ = some (.string q.path) ∧ w'.cell? ⟨w.heap.size, 1, none⟩ = some (.int .u64 q.a)) (first | exact ⟨v6, v1⟩ | exact ⟨y6, y1⟩ | exact ⟨(World.cell?_alloc_lt _ _ _ hs2w).trans y6, (World.cell?_alloc_lt _ _ _ hs2w).trans y1⟩) (first
            | (go_at_call 34; refine (check_any q.path (unhide Hp) _).mono ?_; rintro e w2 ⟨rfl, hb0⟩; have hb2 : Below wr.heap.size wr w2 := below_undrew hb0; clear hb0; have hs2w : w.heap.size < w2.heap.size := (by have := hb2.size; omega); have K3 := first2 w2 (unhide HC); have y6 := (hb2.cell (p := ⟨w.heap.size, 6, none⟩) hszr).trans v6; have y1 := (hb2.cell (p := ⟨w.heap.size, 1, none⟩) hszr).trans v1)
            | (go_at_call 36; refine ((unhide Kv) _).mono ?_; rintro e w3 ⟨rfl, rfl⟩)
            | (go_at_call 33; with_reducible (refine K3.mono ?_); rintro e w4 ⟨rfl, rfl⟩))
          have Hb2 := hide (((unhide Hbr).trans (hb2.mono (by omega))).alloc (by have := hb2.size; omega) (.cells #[.int .i64 (Pth.chk q.path), .int .i64 v] 30))
          clear K3 y6 y1 hb2
          go_wp2_with fail
          go_ret
          exact ⟨rfl, unhide Hb2⟩
        · obtain ⟨o1, o8, o12, o9, o10⟩ := hko
          have t1 : (((q.kind : Nat) : Int) == 1) = false := beq_eq_false_iff_ne.2 (by omega)
          have t8 : (((q.kind : Nat) : Int) == 8) = false := beq_eq_false_iff_ne.2 (by omega)
          have t12 : (((q.kind : Nat) : Int) == 12) = false := beq_eq_false_iff_ne.2 (by omega)
          have t9 : (((q.kind : Nat) : Int) == 9) = false := beq_eq_false_iff_ne.2 (by omega)
          have t10 : (((q.kind : Nat) : Int) == 10) = false := beq_eq_false_iff_ne.2 (by omega)
          rw [if_neg o1, if_neg (by omega), if_neg o9, if_neg o10] at hC
          have HC := hide hC
          clear hC o1 o8 o12 o9 o10 hn3
          go_wp2_with fail
          go_ret
          exact ⟨by rw [unhide HC]; rfl, unhide Hbr⟩
  · have hno : q.kind = 0 ∨ 12 < q.kind := by omega
    go_region_held3 (fun w' => w'.cell? ⟨w.heap.size, 0, none⟩ = some (.int .u8 q.kind)) (first | exact v0 | exact hx0) (first | (go_at_call 30; refine (fields_any _).mono ?_; rintro e w1 ⟨rfl, hFM0⟩; have hFM : FM W W.heap.size 12 w1 := hFM0.of_drew ⟨_, rfl⟩; clear hFM0; have hx0 := (hFM.below.cell (p := ⟨w.heap.size, 0, none⟩) hsz).trans v0; have hbl2 := look_no hFM hno))
    have Hc := hide (check_out hno)
    have Hb1 := hide ((unhide HbW).trans (hFM.below.mono (by omega)))
    clear hbl2 hFM hx0 hno
    go_wp2_with fail
    go_ret
    exact ⟨by rw [unhide Hc]; rfl, unhide Hb1⟩
end Go.Proofs.Ytphbkjdheopmhaa
namespace Go.Proofs.Ytphbkjdheopmhaa
set_option linter.unusedVariables false
set_option linter.unusedSimpArgs false
open Go.RowKit

/-- The letters of a kind's fields. -/
def flL : Nat → List UInt8
  | 1 => [80, 86, 87]
  | 3 => [65]
  | 5 => [65, 66, 67, 68, 69]
  | 6 => [65, 66]
  | 7 => [65, 66, 67]
  | 8 => [65, 66]
  | 9 => [65, 88]
  | 10 => [80, 65]
  | 11 => [65]
  | 12 => [65, 66]
  | _ => []
def flT (k : Nat) : ByteArray := ⟨(flL k).toArray⟩
theorem flT_size (k : Nat) : (flT k).size ≤ 5 := by
  show (flL k).toArray.size ≤ 5
  unfold flL
  split <;> simp

set_option maxRecDepth 20000 in
set_option maxHeartbeats 2000000 in
theorem rfields_in (k : Nat) (w : World) (hk : k < 13) : Calls Try.prog 45 #[.int .u8 k] w fun e w' => e = .returned (.string (flT k)) ∧ Below w.heap.size w w' := by
  obtain rfl | rfl | rfl | rfl | rfl | rfl | rfl | rfl | rfl | rfl | rfl | rfl | rfl : k = 0 ∨ k = 1 ∨ k = 2 ∨ k = 3 ∨ k = 4 ∨ k = 5 ∨ k = 6 ∨ k = 7 ∨ k = 8 ∨ k = 9 ∨ k = 10 ∨ k = 11 ∨ k = 12 := by omega
  all_goals
    clear hk
    go_enter Try.func45, Try.ntmps45
    go_wp2_with fail
    go_ret
    exact ⟨rfl, (Below.refl _ _).alloc (Nat.le_refl _) _⟩
theorem rfields_out (k : Nat) (w : World) (hk : k < 256) (h13 : 13 ≤ k) : Calls Try.prog 45 #[.int .u8 k] w fun e w' => e = .returned (.string (flT k)) ∧ Below w.heap.size w w' := by
  have ht : flT k = ⟨#[]⟩ := by
    unfold flT flL
    split <;> first | rfl | omega
  rw [ht]
  go_enter Try.func45, Try.ntmps45
  go_wp2_with fail
  go_ret
  exact ⟨rfl, (Below.refl _ _).alloc (Nat.le_refl _) _⟩
theorem rfields_any (k : Nat) (w : World) (hk : k < 256) : Calls Try.prog 45 #[.int .u8 k] w fun e w' => e = .returned (.string (flT k)) ∧ Below w.heap.size w w' := by
  rcases Nat.lt_or_ge k 13 with h | h
  · exact rfields_in k w h
  · exact rfields_out k w hk h

def hasB (k : Nat) (c : UInt8) : Bool := (flL k).contains c
theorem byteEq25 (x y : UInt8) : (((x.toNat : Nat) : Int) == ((y.toNat : Nat) : Int)) = (x == y) := by
  rw [Bool.eq_iff_iff, beq_iff_eq, beq_iff_eq, ← UInt8.toNat_inj]
  omega
set_option maxHeartbeats 1000000 in
theorem rhas25_any (kd : Nat) (ch : UInt8) (w : World) (hkd : kd < 256) : Calls Try.prog 64 #[.int .u8 kd, .int .u8 (ch.toNat : Nat)] w fun e w' => e = .returned (.bool (hasB kd ch)) ∧ Below w.heap.size w w' := by
  have hs := flT_size kd
  have Kf := hide (rfields_any kd w hkd)
  obtain ⟨r, hr⟩ : ∃ r, hasB kd ch = r := ⟨_, rfl⟩
  rw [hr]
  have hr' : (flT kd).data.toList.contains ch = r := by rw [← hr]; unfold hasB flT; simp
  have Hr := hide hr'
  clear hr hr'
  generalize flT kd = s at *
  go_enter Try.func64, Try.ntmps64
  go_wp2_with fail
  refine (unhide Kf).mono ?_
  rintro e w1 ⟨rfl, hb1⟩
  have Hb1 := hide hb1
  clear hb1
  go_wp2_with fail
  go_loopg [6] s.size (fun gk i wr => ∃ k : Nat, gk = s.size - k ∧ k ≤ s.size ∧ i = .int .i64 k ∧ (s.data.toList.take k).contains ch = false ∧ w1 = wr)
  case atStart => exact ⟨0, by omega, by omega, rfl, by simp, rfl⟩
  case round =>
    obtain ⟨k, hgk, hk, rfl, hz, rfl⟩ := hrel
    have Hz := hide hz
    have Hgk := hide hgk
    clear hz hgk
    by_cases hlt : k < s.size
    · by_cases hc : s[k] = ch
      · have b2 : (((s[k].toNat : Nat) : Int) == ((ch.toNat : Nat) : Int)) = true := by rw [byteEq25]; simpa using hc
        have hm : s.data.toList.contains ch = true := by
          rw [List.contains_iff_mem, ← hc]
          exact Array.getElem_mem_toList _
        rw [unhide Hr] at hm
        subst hm
        clear hc
        go_wp2
        go_ret
        exact ⟨rfl, unhide Hb1⟩
      · have b2 : (((s[k].toNat : Nat) : Int) == ((ch.toNat : Nat) : Int)) = false := by rw [byteEq25]; simpa using hc
        have hz : (s.data.toList.take (k + 1)).contains ch = false := by
          rw [List.take_succ_eq_append_getElem (by simpa using hlt), List.contains_append, unhide Hz]
          simp only [Bool.false_or]
          exact by simpa using fun h => hc h.symm
        have Hz2 := hide hz
        clear hz hc
        go_wp2
        go_roundg (s.size - (k + 1))
        case measure => have := unhide Hgk; omega
        case rel => exact ⟨k + 1, rfl, by omega, by go_num, unhide Hz2, rfl⟩
    · have hz : s.data.toList.contains ch = false := by
        have := unhide Hz
        rwa [List.take_of_length_le (by simp; omega)] at this
      rw [unhide Hr] at hz
      subst hz
      go_wp2
      go_ret
      exact ⟨rfl, unhide Hb1⟩
end Go.Proofs.Ytphbkjdheopmhaa
namespace Go.Proofs.Ytphbkjdheopmhaa
set_option linter.unusedVariables false
set_option linter.unusedSimpArgs false
open Go.RowKit

theorem take_ext {α : Type} {xs ys : List α} {k : Nat} {x : α} (h : xs.take k = ys.take k) (hx : xs[k]? = some x) (hy : ys[k]? = some x) : xs.take (k + 1) = ys.take (k + 1) := by
  rw [List.take_add_one, List.take_add_one, h, hx, hy]

set_option maxHeartbeats 1000000 in
theorem eqTexts_any (A B : Option Addr) (n m c d K : Nat) (xs ys : List ByteArray) (w : World) (ha : Rd w K 1 A n (xs.map Value.string)) (hb : Rd w K 1 B m (ys.map Value.string)) (hn : n ≤ maxLen) (hm : m ≤ maxLen) :
    Calls Try.prog 40 #[.slice A n c, .slice B m d] w fun e w' => e = .returned (.bool (decide (xs = ys))) ∧ ∃ j, w' = w.drewN j := by
  have hxl : xs.length = n := by simpa using ha.len1
  have hyl : ys.length = m := by simpa using hb.len1
  unfold maxLen at hn hm
  have Hxl := hide hxl
  have Hyl := hide hyl
  have Ha := hide ha
  have Hb := hide hb
  clear hxl hyl ha hb
  go_enter Try.func40, Try.ntmps40
  go_wp2
  go_loopw [5] (fun at_ wr => ∃ k j : Nat, at_ = .int .i64 k ∧ k ≤ n ∧ k ≤ m ∧ xs.take k = ys.take k ∧ wr = w.drewN j) (fun at_ _ => n - (intOf at_).toNat)
  case atStart => exact ⟨0, 0, rfl, Nat.zero_le _, Nat.zero_le _, rfl, rfl⟩
  case round =>
    obtain ⟨k, j, rfl, hkn, hkm, htk, rfl⟩ := hrel
    have Htk := hide htk
    clear htk
    by_cases h1 : k < n
    · have d1 : decide (k < n) = true := by simpa using h1
      have i1 : (k : Int) < (n : Int) := by omega
      by_cases h2 : k < m
      · have d2 : decide (k < m) = true := by simpa using h2
        have i2 : (k : Int) < (m : Int) := by omega
        obtain ⟨x, hx⟩ : ∃ x, xs[k]? = some x := ⟨_, List.getElem?_eq_getElem (by rw [unhide Hxl]; exact h1)⟩
        obtain ⟨y, hy⟩ : ∃ y, ys[k]? = some y := ⟨_, List.getElem?_eq_getElem (by rw [unhide Hyl]; exact h2)⟩
        obtain ⟨b1, o1, rfl, _, c1⟩ := (unhide Ha).at_ (k := k) (u := .string x) (by simp [hx])
        obtain ⟨b2, o2, rfl, _, c2⟩ := (unhide Hb).at_ (k := k) (u := .string y) (by simp [hy])
        have Hx := hide hx
        have Hy := hide hy
        have hbq := beq_toList x y
        clear hx hy
        by_cases he : x = y
        · have q : (x.toList == y.toList) = true := by rw [hbq]; simpa using he
          subst he
          clear hbq
          go_wp2
          go_quiet (fail)
          go_wp2
          go_round
          case rel => exact ⟨k + 1, j + nq, by go_num, by omega, by omega, take_ext (unhide Htk) (unhide Hx) (unhide Hy), rfl⟩
          case measure => simp [intOf]; omega
        · have q : (x.toList == y.toList) = false := by rw [hbq]; simpa using he
          have He := hide he
          clear hbq he
          go_wp2
          go_quiet (fail)
          go_wp2
          go_ret
          refine ⟨ret_bool ?_, _, rfl⟩
          symm
          simp only [decide_eq_false_iff_not]
          rintro rfl
          exact unhide He (Option.some.inj ((unhide Hx).symm.trans (unhide Hy)))
      · have d2 : decide (k < m) = false := by simpa using h2
        go_wp2
        go_quiet (fail)
        go_wp2
        go_ret
        refine ⟨ret_bool ?_, _, rfl⟩
        symm
        simp only [decide_eq_false_iff_not]
        rintro rfl
        have := unhide Hxl
        have := unhide Hyl
        omega
    · have d1 : decide (k < n) = false := by simpa using h1
      go_wp2
      go_quiet (fail)
      go_wp2
      go_ret
      refine ⟨ret_bool ?_, _, rfl⟩
      have hl1 := unhide Hxl
      have hl2 := unhide Hyl
      rw [Bool.eq_iff_iff, beq_iff_eq, decide_eq_true_eq]
      constructor
      · intro e
        have e' := unhide Htk
        rwa [List.take_of_length_le (by omega), List.take_of_length_le (by omega)] at e'
      · rintro rfl
        omega

end Go.Proofs.Ytphbkjdheopmhaa
namespace Go.Proofs.Ytphbkjdheopmhaa
set_option linter.unusedVariables false
set_option linter.unusedSimpArgs false
open Go.RowKit

/-- Two calls are the same. -/
def sameB (q r : Cl.C) : Bool := decide (q.kind = r.kind ∧ q.a = r.a ∧ q.b = r.b ∧ q.c = r.c ∧ q.d = r.d ∧ q.e = r.e ∧ q.path = r.path ∧ q.argv = r.argv ∧ q.env = r.env ∧ q.bytes = r.bytes)
theorem natEq_t {a b : Nat} (h : a = b) : (((a : Nat) : Int) == ((b : Nat) : Int)) = true := by rw [h]; exact beq_self_eq_true _
theorem natEq_f {a b : Nat} (h : ¬ a = b) : (((a : Nat) : Int) == ((b : Nat) : Int)) = false := beq_eq_false_iff_ne.2 (by omega)
theorem ClOk.drewN {w : World} {B : Nat} {q : Cl.C} {x y z : Sl} (h : ClOk w B q x y z) (k : Nat) : ClOk (w.drewN k) B q x y z := ⟨h.r1.drewN k, h.r2.drewN k, h.r3.drewN k⟩
theorem same_rows (q r : Cl.C) (x y z x' y' z' : Sl) (w : World) :
    ((w.alloc (.cells (clCells q x y z) 26)).alloc (.cells (clCells r x' y' z') 26)).heap[w.heap.size]? = some (.cells (clCells q x y z) 26 (0, 0)) ∧
    ((w.alloc (.cells (clCells q x y z) 26)).alloc (.cells (clCells r x' y' z') 26)).heap[w.heap.size + 1]? = some (.cells (clCells r x' y' z') 26 (0, 0)) ∧
    Below w.heap.size w ((w.alloc (.cells (clCells q x y z) 26)).alloc (.cells (clCells r x' y' z') 26)) := by
  refine ⟨?_, ?_, ((Below.refl w.heap.size w).alloc (Nat.le_refl _) _).alloc (by simp) _⟩
  · have h1 := heap_alloc_new w (.cells (clCells q x y z) 26)
    have h2 := ((Below.refl (w.alloc (.cells (clCells q x y z) 26)).heap.size _).alloc (Nat.le_refl _) (.cells (clCells r x' y' z') 26)).block w.heap.size (lt_of_block h1)
    exact h2.trans h1
  · have h1 := heap_alloc_new (w.alloc (.cells (clCells q x y z) 26)) (.cells (clCells r x' y' z') 26)
    have e : (w.alloc (.cells (clCells q x y z) 26)).heap.size = w.heap.size + 1 := by simp
    rwa [e] at h1

set_option maxRecDepth 20000 in
set_option maxHeartbeats 4000000 in
theorem same_ne (q r : Cl.C) (x y z x' y' z' : Sl) (w : World) (hne : ¬ (q.kind = r.kind ∧ q.a = r.a ∧ q.b = r.b ∧ q.c = r.c ∧ q.d = r.d ∧ q.e = r.e ∧ q.path = r.path)) :
    Calls Try.prog 15 #[.agg (clCells q x y z), .agg (clCells r x' y' z')] w fun e w' => e = .returned (.bool false) ∧ Below w.heap.size w w' := by
  have HbW := hide (same_rows q r x y z x' y' z' w).2.2
  by_cases h0 : q.kind = r.kind
  case neg =>
    have t0 := natEq_f h0
    clear h0 hne
    go_enter Try.func15, Try.ntmps15
    go_wp2_with fail
    go_ret
    exact ⟨rfl, unhide HbW⟩
  have t0 := natEq_t h0
  by_cases h1 : q.a = r.a
  case neg =>
    have t1 := natEq_f h1
    clear h1 hne
    go_enter Try.func15, Try.ntmps15
    go_wp2_with fail
    go_ret
    exact ⟨rfl, unhide HbW⟩
  have t1 := natEq_t h1
  by_cases h2 : q.b = r.b
  case neg =>
    have t2 := natEq_f h2
    clear h2 hne
    go_enter Try.func15, Try.ntmps15
    go_wp2_with fail
    go_ret
    exact ⟨rfl, unhide HbW⟩
  have t2 := natEq_t h2
  by_cases h3 : q.c = r.c
  case neg =>
    have t3 := natEq_f h3
    clear h3 hne
    go_enter Try.func15, Try.ntmps15
    go_wp2_with fail
    go_ret
    exact ⟨rfl, unhide HbW⟩
  have t3 := natEq_t h3
  by_cases h4 : q.d = r.d
  case neg =>
    have t4 := natEq_f h4
    clear h4 hne
    go_enter Try.func15, Try.ntmps15
    go_wp2_with fail
    go_ret
    exact ⟨rfl, unhide HbW⟩
  have t4 := natEq_t h4
  by_cases h5 : q.e = r.e
  case neg =>
    have t5 := natEq_f h5
    clear h5 hne
    go_enter Try.func15, Try.ntmps15
    go_wp2_with fail
    go_ret
    exact ⟨rfl, unhide HbW⟩
  have t5 := natEq_t h5
  have t6 : (q.path.toList == r.path.toList) = false := by
    rw [beq_toList, decide_eq_false_iff_not]
    exact fun h => hne ⟨h0, h1, h2, h3, h4, h5, h⟩
  clear hne h0 h1 h2 h3 h4 h5
  go_enter Try.func15, Try.ntmps15
  go_wp2_with fail
  go_ret
  exact ⟨rfl, unhide HbW⟩
end Go.Proofs.Ytphbkjdheopmhaa
namespace Go.Proofs.Ytphbkjdheopmhaa
set_option linter.unusedVariables false
set_option linter.unusedSimpArgs false
open Go.RowKit

theorem same_drew {w : World} {g : Nat} {o : Obj} (j : Nat) (h : w.heap[g]? = some o) : (w.drewN j).heap[g]? = some o := h
set_option maxRecDepth 20000 in
set_option maxHeartbeats 4000000 in
theorem same_eq (q r : Cl.C) (x y z x' y' z' : Sl) (B : Nat) (w : World) (hq : ClOk w B q x y z) (hr : ClOk w B r x' y' z') (hB : B ≤ w.heap.size) (hfq : ClFit q) (hfr : ClFit r)
    (he : q.kind = r.kind ∧ q.a = r.a ∧ q.b = r.b ∧ q.c = r.c ∧ q.d = r.d ∧ q.e = r.e ∧ q.path = r.path) :
    Calls Try.prog 15 #[.agg (clCells q x y z), .agg (clCells r x' y' z')] w fun e w' => e = .returned (.bool (decide (q.argv = r.argv ∧ q.env = r.env ∧ q.bytes = r.bytes))) ∧ Below w.heap.size w w' := by
  have hqW := (hq.alloc hB (.cells (clCells q x y z) 26)).alloc (by simp; omega) (.cells (clCells r x' y' z') 26)
  have hrW := (hr.alloc hB (.cells (clCells q x y z) 26)).alloc (by simp; omega) (.cells (clCells r x' y' z') 26)
  have g1 := hfq.l1; have g2 := hfq.l2; have g3 := hfq.l3
  have k1 := hfr.l1; have k2 := hfr.l2; have k3 := hfr.l3
  rw [hq.n1] at g1; rw [hq.n2] at g2; rw [hq.n3] at g3
  rw [hr.n1] at k1; rw [hr.n2] at k2; rw [hr.n3] at k3
  obtain ⟨hX, hY, hbW⟩ := same_rows q r x y z x' y' z' w
  obtain ⟨v, hv⟩ : ∃ v, decide (q.argv = r.argv ∧ q.env = r.env ∧ q.bytes = r.bytes) = v := ⟨_, rfl⟩
  rw [hv]
  have t0 := natEq_t he.1
  have t1 := natEq_t he.2.1
  have t2 := natEq_t he.2.2.1
  have t3 := natEq_t he.2.2.2.1
  have t4 := natEq_t he.2.2.2.2.1
  have t5 := natEq_t he.2.2.2.2.2.1
  have t6 : (q.path.toList == r.path.toList) = true := by rw [beq_toList, decide_eq_true_eq]; exact he.2.2.2.2.2.2
  have Kw := hide (eqTexts_any x.A x'.A x.n x'.n x.c x'.c B q.argv r.argv _ hqW.r1 hrW.r1 g1 k1)
  have Ke := hide (fun j : Nat => eqTexts_any y.A y'.A y.n y'.n y.c y'.c B q.env r.env _ (hqW.r2.drewN j) (hrW.r2.drewN j) g2 k2)
  have Kb := hide (fun j k : Nat => eqBytes_any z.A z'.A z.n z'.n z.c z'.c B q.bytes r.bytes _ ((hqW.r3.drewN j).drewN k) ((hrW.r3.drewN j).drewN k) g3 k3)
  have Hv := hide hv
  have HX := hide hX
  have HY := hide hY
  have HbW := hide hbW
  clear hqW hrW g1 g2 g3 k1 k2 k3 hq hr hfq hfr he hX hY hbW hv hB
  by_cases hw : q.argv = r.argv
  case neg =>
    have e1 : decide (q.argv = r.argv) = false := decide_eq_false_iff_not.2 hw
    have hf : v = false := by rw [← unhide Hv, decide_eq_false_iff_not]; exact fun h => hw h.1
    have Kw := unhide Kw
    rw [e1] at Kw
    have Kw := hide Kw
    subst hf
    clear hw e1 Ke Kb HX HY
    go_enter Try.func15, Try.ntmps15
    go_wp2_with fail
    refine (unhide Kw).mono ?_
    rintro e w1 ⟨rfl, j, rfl⟩
    clear t0 t1 t2 t3 t4 t5 t6
    have Hb := hide (below_drewN' (unhide HbW) j)
    go_wp2_with fail
    go_ret
    exact ⟨rfl, unhide Hb⟩
  have e1 : decide (q.argv = r.argv) = true := decide_eq_true hw
  have Kw := unhide Kw
  rw [e1] at Kw
  have Kw := hide Kw
  by_cases hE : q.env = r.env
  case neg =>
    have e2 : decide (q.env = r.env) = false := decide_eq_false_iff_not.2 hE
    have hf : v = false := by rw [← unhide Hv, decide_eq_false_iff_not]; exact fun h => hE h.2.1
    have Ke := unhide Ke
    rw [e2] at Ke
    have Ke := hide Ke
    subst hf
    clear hw e1 hE e2 Kb
    go_enter Try.func15, Try.ntmps15
    go_wp2_with fail
    refine (unhide Kw).mono ?_
    rintro e w1 ⟨rfl, j, rfl⟩
    clear t0 t1 t2 t3 t4 t5 t6
    have Hb := hide (below_drewN' (unhide HbW) j)
    have Kj := hide ((unhide Ke) j)
    obtain ⟨x0, x1, x2, x3, x4, x5, x6, x7, x8, x9⟩ := box10 (same_drew j (unhide HX))
    obtain ⟨y0, y1, y2, y3, y4, y5, y6, y7, y8, y9⟩ := box10 (same_drew j (unhide HY))
    clear HbW HX HY Ke
    generalize World.drewN _ j = W1 at *
    go_wp2_with fail
    refine (unhide Kj).mono ?_
    rintro e w2 ⟨rfl, k, rfl⟩
    have Hb2 := hide (below_drewN' (unhide Hb) k)
    clear x0 x1 x2 x3 x4 x5 x6 x7 x8 x9 y0 y1 y2 y3 y4 y5 y6 y7 y8 y9
    go_wp2_with fail
    go_ret
    exact ⟨rfl, unhide Hb2⟩
  have e2 : decide (q.env = r.env) = true := decide_eq_true hE
  have Ke := unhide Ke
  rw [e2] at Ke
  have Ke := hide Ke
  have e3 : decide (q.bytes = r.bytes) = v := by rw [← unhide Hv, decide_eq_decide]; exact ⟨fun h => ⟨hw, hE, h⟩, fun h => h.2.2⟩
  have Kb := unhide Kb
  rw [e3] at Kb
  have Kb := hide Kb
  clear hw e1 hE e2 e3 Hv
  go_enter Try.func15, Try.ntmps15
  go_wp2_with fail
  refine (unhide Kw).mono ?_
  rintro e w1 ⟨rfl, j, rfl⟩
  clear t0 t1 t2 t3 t4 t5 t6
  have Hb := hide (below_drewN' (unhide HbW) j)
  have Kj := hide ((unhide Ke) j)
  have Kbj := hide ((unhide Kb) j)
  have Hx := hide (same_drew j (unhide HX))
  have Hy := hide (same_drew j (unhide HY))
  obtain ⟨x0, x1, x2, x3, x4, x5, x6, x7, x8, x9⟩ := box10 (unhide Hx)
  obtain ⟨y0, y1, y2, y3, y4, y5, y6, y7, y8, y9⟩ := box10 (unhide Hy)
  clear HbW HX HY Ke Kb
  generalize World.drewN _ j = W1 at *
  go_wp2_with fail
  refine (unhide Kj).mono ?_
  rintro e w2 ⟨rfl, k, rfl⟩
  have Hb2 := hide (below_drewN' (unhide Hb) k)
  have Kk := hide ((unhide Kbj) k)
  clear x0 x1 x2 x3 x4 x5 x6 x7 x8 x9 y0 y1 y2 y3 y4 y5 y6 y7 y8 y9
  obtain ⟨x0, x1, x2, x3, x4, x5, x6, x7, x8, x9⟩ := box10 (same_drew k (unhide Hx))
  obtain ⟨y0, y1, y2, y3, y4, y5, y6, y7, y8, y9⟩ := box10 (same_drew k (unhide Hy))
  clear Hb Hx Hy Kbj Kj
  generalize World.drewN _ k = W2 at *
  go_wp2_with fail
  refine (unhide Kk).mono ?_
  rintro e w3 ⟨rfl, l, rfl⟩
  have Hb3 := hide (below_drewN' (unhide Hb2) l)
  clear x0 x1 x2 x3 x4 x5 x6 x7 x8 x9 y0 y1 y2 y3 y4 y5 y6 y7 y8 y9
  go_wp2_with fail
  go_ret
  exact ⟨rfl, unhide Hb3⟩

theorem same_any (q r : Cl.C) (x y z x' y' z' : Sl) (B : Nat) (w : World) (hq : ClOk w B q x y z) (hr : ClOk w B r x' y' z') (hB : B ≤ w.heap.size) (hfq : ClFit q) (hfr : ClFit r) :
    Calls Try.prog 15 #[.agg (clCells q x y z), .agg (clCells r x' y' z')] w fun e w' => e = .returned (.bool (sameB q r)) ∧ Below w.heap.size w w' := by
  by_cases he : q.kind = r.kind ∧ q.a = r.a ∧ q.b = r.b ∧ q.c = r.c ∧ q.d = r.d ∧ q.e = r.e ∧ q.path = r.path
  · have e : sameB q r = decide (q.argv = r.argv ∧ q.env = r.env ∧ q.bytes = r.bytes) := by
      unfold sameB
      rw [decide_eq_decide]
      obtain ⟨h0, h1, h2, h3, h4, h5, h6⟩ := he
      exact ⟨fun h => h.2.2.2.2.2.2.2, fun h => ⟨h0, h1, h2, h3, h4, h5, h6, h⟩⟩
    rw [e]
    exact same_eq q r x y z x' y' z' B w hq hr hB hfq hfr he
  · have e : sameB q r = false := by
      unfold sameB
      rw [decide_eq_false_iff_not]
      rintro ⟨h0, h1, h2, h3, h4, h5, h6, h⟩
      exact he ⟨h0, h1, h2, h3, h4, h5, h6⟩
    rw [e]
    exact same_ne q r x y z x' y' z' w he
end Go.Proofs.Ytphbkjdheopmhaa
