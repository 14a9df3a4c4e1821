/- Plain lemmas on worlds that every walk of this seat uses: slices that read as lists of cells, what stays below a block. No conditions. What an argument that is a slice of bytes, of integers or of strings reads as: a list, cell by cell. No conditions. What an argument that is a struct, or a slice of structs, reads as, where each field is one cell. No conditions. Free of any chapter. A row of the call's own that is written element by element. No conditions. Results that lie in memory beside one that does not. No conditions. A block of the call's own, by its cells: read, written, kept. No conditions. The plain mathematics of paths: a text cut at its slashes. No program in sight. No conditions. The plain mathematics of a file system that never changes: its nodes, who may what, where paths lead. No program in sight. No conditions. The plain file system: what New makes is good. No conditions. Who may what with a node: the walks of creds.Class, creds.May, and of their references, for CanExec. Conditions: the groups are no more than the model's greatest length. Who may what with a node: the walks of hostelref04.Class and May, for CanExec. Conditions: the groups are no more than the model's greatest length. A map with whatever keys, its entries in their order: a new key put in, a key looked up. No conditions. Free of any chapter. The walks of the references that hold bytes: EqBytes, Roomy, Kept. Conditions: there are fewer than 2^32 bytes. A file system in memory: its nodes as blocks, told by number. Conditions: as each says. What is known of a node: the walk of Meta. Conditions: as each says. A nil file system: the walks of Walk, Read and Path. No conditions. The root of a file system; type assertions. Conditions: as each says. The plain file system: more of names and of where a walk stands. No conditions. A file system in memory, whole: all its blocks are of a base on, told apart; its maps say its names. Conditions: as each says. The node at parts from the root on: the walk of at. Conditions: as it says. The rest of a slice, s[1:], told by one address whatever its capacity. No conditions. Free of any chapter. The plain lemma on the capacity of a row of the call's own. No conditions. Laws of the walk for append onto a slice that the call itself owns, the source read by 'Rd' or one new element. No conditions. The walks of pieces and Check of the package paths, of any text. Condition: the texts are no longer than the model's greatest length. The walks of the package paths: what Parts, Join, Base, Dir and Tail compute, of any text. Condition: the texts are no longer than the model's greatest length. Part by part: the walk of along. Conditions: as it says. The walks of paths.Join, Base, Dir, Tail and of the references' answers to these. Condition: the texts are shorter than 2^62 bytes. Where a path leads: the walk of Walk. Conditions: as it says. What it is to have grown a row of bytes of the call's own. No conditions. The walk of slices.Clone of bytes. Conditions: no more than 2^32 bytes. Free of any chapter. -/
import Derived.WalkKit
import Derived.Below
import Derived.Lib.Hide
import Derived.Lib.OthersKept
import Derived.Deep.Draws
import Derived.Laws.OwnMore
import Derived.WalkSmall
import Derived.OneCell
import Derived.Lib.Strings
import Derived.ChangeSlices
import Derived.SliceStrings
import Derived.OpenShut
import Derived.Deep.Slices
import Derived.Lib.SmallJoins
import Derived.OwnWalk
import Derived.Laws.Rows
import Derived.Laws.Tables
import Derived.Laws.ResultCell
import Derived.Laws.RangeAny
import Derived.Lib.LastIndexByte
import Derived.Test.YteiciabhfjakgaaShelf
import Derived.Deep.LoopGhost
import Derived.Maps.Own
import Derived.Test.YteiciabhfjakgaaProg
import Derived.WalkSpells
import Derived.WalkLawsBesides
import Derived.BigQuiet
import Derived.Deep.QuietTactic
import Derived.Maps.AppendAt
import Derived.Lib.IndexAny
import Derived.Deep.RegionWith
import Derived.Deep.RegionHeld3
import Derived.Lib.SliceRun
namespace Go.Proofs.Yteiciabhfjakgaa
set_option linter.unusedVariables false
set_option linter.unusedSimpArgs false
open Go.RowKit

/-- A contract that leaves the world alone, said so that the caller's name of the world stays. -/
theorem flipw {P : Program} {f : FuncId} {args : Array Value} {w : World} {r : Ending} (h : Calls P f args w fun e w' => e = r ∧ w' = w) : Calls P f args w fun e w' => e = r ∧ w = w' :=
  h.mono fun _ _ ⟨a, b⟩ => ⟨a, b.symm⟩

theorem hide {p : Prop} (h : p) : Hid p := h
theorem unhide {p : Prop} (h : Hid p) : p := h

theorem ret_int {k : IntKind} {a b : Int} (h : a = b) : Ending.returned (.int k a) = .returned (.int k b) := by rw [h]
theorem ret_bool {a b : Bool} (h : a = b) : Ending.returned (.bool a) = .returned (.bool b) := by rw [h]
theorem ret_val {a b : Value} (h : a = b) : Ending.returned a = .returned b := by rw [h]

theorem bcell {W w1 : World} (hb : Below W.heap.size W w1) : (∀ b o, b < W.heap.size → w1.cell? ⟨b, o, none⟩ = W.cell? ⟨b, o, none⟩) ∧ (∀ b o, b < W.heap.size → w1.frozen? ⟨b, o, none⟩ = W.frozen? ⟨b, o, none⟩) :=
  ⟨fun b o h => hb.cell (p := ⟨b, o, none⟩) h, fun b o h => hb.frozen (p := ⟨b, o, none⟩) h⟩

/-- The newest block of the call's own stands behind a call that keeps what was there. -/
theorem newblk {w w1 : World} {o : Obj} (hb : Below (w.alloc o).heap.size (w.alloc o) w1) : w1.heap[w.heap.size]? = some o :=
  (hb.block _ (by simp)).trans (heap_alloc_new _ _)
theorem below_new {w w1 : World} {o : Obj} (hb : Below (w.alloc o).heap.size (w.alloc o) w1) : Below w.heap.size w w1 :=
  ((Below.refl _ _).alloc (Nat.le_refl _) _).trans (hb.mono (by simp))

theorem below_sz {W w1 : World} (hb : Below W.heap.size W w1) : W.heap.size ≤ w1.heap.size := hb.size

theorem below_drewN' {B : Nat} {a w : World} (h : Below B a w) (n : Nat) : Below B a (w.drewN n) := ⟨h.os, h.tape, h.output, h.size, h.block⟩

theorem byte_eq (c d : UInt8) : (((c.toNat : Nat) : Int) == ((d.toNat : Nat) : Int)) = decide (c = d) := by
  rw [Bool.eq_iff_iff, beq_iff_eq, decide_eq_true_eq]
  exact ⟨fun h => UInt8.toNat_inj.1 (by omega), fun h => by rw [h]⟩
theorem byte_47 (c : UInt8) : (((c.toNat : Nat) : Int) == 47) = decide (c = 47) := byte_eq c 47
theorem byte_0 (c : UInt8) : (((c.toNat : Nat) : Int) == 0) = decide (c = 0) := byte_eq c 0
theorem byte_58 (c : UInt8) : (((c.toNat : Nat) : Int) == 58) = decide (c = 58) := byte_eq c 58
theorem byte_61 (c : UInt8) : (((c.toNat : Nat) : Int) == 61) = decide (c = 61) := byte_eq c 61

theorem isEmpty_toList (p : ByteArray) : p.toList.isEmpty = decide (p.size = 0) := by
  rw [Lib.toList_data, Bool.eq_iff_iff, List.isEmpty_iff_length_eq_zero, decide_eq_true_eq]
  exact Iff.rfl
theorem beq_toList (p q : ByteArray) : (p.toList == q.toList) = decide (p = q) := by
  rw [Lib.toList_data, Lib.toList_data, Bool.eq_iff_iff, beq_iff_eq, decide_eq_true_eq]
  exact ⟨fun h => ByteArray.ext (Array.toList_inj.1 h), fun h => by rw [h]⟩

/-- The slice value '.slice A n c' holds the cells xs, one behind the other, 'size' cells an element, in a block below B. -/
def Rd (w : World) (B size : Nat) (A : Option Addr) (n : Nat) (xs : List Value) : Prop :=
  xs.length = n * size ∧ (xs = [] ∨ ∃ b off, A = some ⟨b, off, none⟩ ∧ b < B ∧ ∀ j u, xs[j]? = some u → w.cell? ⟨b, off + j, none⟩ = some u)

section
variable {w w' : World} {B B' size n : Nat} {A : Option Addr} {xs : List Value}
theorem Rd.none_ (w : World) (B size : Nat) (A : Option Addr) : Rd w B size A 0 [] := ⟨by simp, .inl rfl⟩
theorem Rd.len1 (h : Rd w B 1 A n xs) : xs.length = n := by have := h.1; omega
theorem Rd.at_ {k : Nat} {u : Value} (h : Rd w B 1 A n xs) (hk : xs[k]? = some u) : ∃ b off, A = some ⟨b, off, none⟩ ∧ b < B ∧ w.cell? ⟨b, off + k, none⟩ = some u := by
  rcases h.2 with rfl | ⟨b, off, e, hb, hc⟩
  · simp at hk
  · exact ⟨b, off, e, hb, hc _ _ hk⟩
theorem Rd.open_ (h : Rd w B size A n xs) (hn : xs ≠ []) : ∃ b off, A = some ⟨b, off, none⟩ ∧ b < B ∧ ∀ j u, xs[j]? = some u → w.cell? ⟨b, off + j, none⟩ = some u := by
  rcases h.2 with h0 | h1
  · exact absurd h0 hn
  · exact h1
theorem Rd.keep (h : Rd w B size A n xs) (hk : ∀ p : Addr, p.block < B → w'.cell? p = w.cell? p) : Rd w' B size A n xs :=
  ⟨h.1, h.2.imp id fun ⟨b, off, e, hb, hc⟩ => ⟨b, off, e, hb, fun j u hu => (hk _ hb).trans (hc j u hu)⟩⟩
theorem Rd.more (h : Rd w B size A n xs) (hB : B ≤ B') : Rd w B' size A n xs :=
  ⟨h.1, h.2.imp id fun ⟨b, off, e, hb, hc⟩ => ⟨b, off, e, by omega, hc⟩⟩
theorem Rd.below (h : Rd w B size A n xs) (hb : Below B w w') : Rd w' B size A n xs := h.keep fun _ hp => hb.cell hp
theorem Rd.belowSz (h : Rd w w.heap.size size A n xs) (hb : Below w.heap.size w w') : Rd w' w'.heap.size size A n xs := (h.below hb).more hb.size
theorem Rd.drew (h : Rd w B size A n xs) : Rd w.drew B size A n xs := h
theorem Rd.drewN (h : Rd w B size A n xs) (k : Nat) : Rd (w.drewN k) B size A n xs := h
theorem Rd.alloc (h : Rd w B size A n xs) (hB : B ≤ w.heap.size) (o : Obj) : Rd (w.alloc o) B size A n xs := h.keep fun p hp => World.cell?_alloc_lt w o p (by omega)
theorem Rd.setCell (h : Rd w B size A n xs) {p : Addr} (hB : B ≤ p.block) (u : Value) : Rd (w.setCell p u) B size A n xs :=
  h.keep fun q hq => World.cell?_setCell_other w p q u (fun e => by subst e; omega)
theorem Rd.of_own {base : Nat} {e : TypeId} {c : Nat} (h : w.ownsRow base e size (.slice A n c) n xs) : Rd w w.heap.size size A n xs := by
  refine ⟨h.1, ?_⟩
  by_cases h0 : xs = []
  · exact .inl h0
  · have h2 := h.2
    rcases h2 with ⟨_, h3⟩ | ⟨g, cap, cur, hv, hbg, hh, hcap, hcm, hsz, htk⟩
    · subst h3
      exact absurd (List.eq_nil_of_length_eq_zero (by simpa using h.1)) h0
    · have hA : A = some ⟨g, 0, none⟩ := by injection hv
      refine .inr ⟨g, 0, hA, (Array.getElem?_eq_some_iff.1 hh).1, fun j u hu => ?_⟩
      rw [cell_of_row w g (0 + j) cur e (0, 0) hh, Nat.zero_add]
      rw [← htk, List.getElem?_take] at hu
      split at hu
      · simpa using hu
      · cases hu
theorem own_form {base : Nat} {e : TypeId} {v : Value} (h : w.ownsRow base e size v n xs) : ∃ A c, v = .slice A n c := by
  rcases h.2 with ⟨rfl, rfl⟩ | ⟨g, cap, cur, rfl, _⟩
  · exact ⟨_, _, rfl⟩
  · exact ⟨_, _, rfl⟩
end

theorem own_base {w : World} {base base' : Nat} {e : TypeId} {size n : Nat} {v : Value} {xs : List Value} (h : w.ownsRow base e size v n xs) (hb : base' ≤ base) : w.ownsRow base' e size v n xs :=
  ⟨h.1, h.2.imp id fun ⟨g, cap, cur, e1, e2, r⟩ => ⟨g, cap, cur, e1, Nat.le_trans hb e2, r⟩⟩

theorem own_below {w w' : World} {base : Nat} {e : TypeId} {size n : Nat} {v : Value} {xs : List Value} (h : w.ownsRow base e size v n xs) (hb : Below w.heap.size w w') : w'.ownsRow base e size v n xs :=
  ⟨h.1, h.2.imp id fun ⟨g, cap, cur, e1, e2, e3, r⟩ => ⟨g, cap, cur, e1, e2, (hb.block g (Array.getElem?_eq_some_iff.1 e3).1).trans e3, r⟩⟩
theorem own_drewN {w : World} {base : Nat} {e : TypeId} {size n : Nat} {v : Value} {xs : List Value} (h : w.ownsRow base e size v n xs) (j : Nat) : (w.drewN j).ownsRow base e size v n xs := h
theorem own_some {w : World} {base : Nat} {e : TypeId} {size n c : Nat} {A : Option Addr} {xs : List Value} (h : w.ownsRow base e size (.slice A n c) n xs) (hn : 0 < n) : ∃ g, A = some ⟨g, 0, none⟩ ∧ base ≤ g ∧ g < w.heap.size := by
  rcases h.2 with ⟨_, h0⟩ | ⟨g, cap, cur, e1, e2, e3, _⟩
  · omega
  · injection e1 with e1
    exact ⟨g, e1, e2, (Array.getElem?_eq_some_iff.1 e3).1⟩
/-- A row that was made later lies elsewhere. -/
theorem own_ne {w w2 : World} {base base2 : Nat} {e e2 : TypeId} {size size2 n n2 : Nat} {v v2 : Value} {xs xs2 : List Value} (h : w.ownsRow base e size v n xs) (h2 : w2.ownsRow base2 e2 size2 v2 n2 xs2) (hle : w.heap.size ≤ base2) :
    v2.ownBlock = none ∨ v2.ownBlock ≠ v.ownBlock := by
  cases hv : v2.ownBlock with
  | none => exact .inl rfl
  | some k =>
    refine .inr fun e => ?_
    have := (h2.lt k hv).1
    have := (h.lt k e.symm).2
    omega

/-- Only block 'row', and what is new, has turned between the two worlds: 'grownBy' chains. -/
theorem grown_trans {a b c : World} {row : Option Nat} (h : a.grownBy b row) (k : b.grownBy c row) : a.grownBy c row :=
  ⟨k.os.trans h.os, k.tape.trans h.tape, k.output.trans h.output, Nat.le_trans h.size k.size, fun i hi hr => (k.block i (Nat.lt_of_lt_of_le hi h.size) hr).trans (h.block i hi hr)⟩

end Go.Proofs.Yteiciabhfjakgaa
namespace Go.Proofs.Yteiciabhfjakgaa
set_option linter.unusedVariables false
set_option linter.unusedSimpArgs false
open Go.RowKit Go.ChangeShapes Go.WideShapes

theorem cell_lt {w : World} {a : Addr} {v : Value} (h : w.cell? a = some v) : a.block < w.heap.size := by
  unfold World.cell? at h
  split at h
  · rename_i hb
    exact (Array.getElem?_eq_some_iff.1 hb).1
  · cases h

section
variable {H : Type} {enc : TypeId × Value → H} {P : Program} {w : World} {base : Nat} {held : Bool} {t e : TypeId} {A : Option Addr} {n c : Nat} {d : DataW H} {p : List MemPlace}

theorem open_nums_rd {k : IntKind} (ht : P.underlying t = some (.slice e)) (he : P.underlying e = some (.int k)) (hc : P.cellsOf e = 1)
    (h : DataW.Trod enc P w base (fun _ => true) held t (.slice A n c) d p) :
    ∃ zs : List Int, Rd w w.heap.size 1 A n (zs.map (Value.int k)) ∧ n ≤ c ∧ c ≤ maxLen ∧ ∀ z ∈ zs, (Lit.int k z).wf = true := by
  obtain ⟨fuel, hf⟩ := h
  rcases open_ints ht he hc hf with ⟨h1, h2⟩ | ⟨a, len, cap, zs, h1, hb, hl, hm, hz, hx, hcell, hwz⟩
  · simp [Value.cells] at h1
    obtain ⟨rfl, rfl, rfl⟩ := h1
    exact ⟨[], Rd.none_ _ _ _ _, Nat.le_refl _, by unfold maxLen; omega, by simp⟩
  · simp [Value.cells] at h1
    obtain ⟨rfl, rfl, rfl⟩ := h1
    simp only [if_true] at hz
    refine ⟨zs.take n, ⟨by simp [hz]; omega, ?_⟩, hl, hm, fun z hz => hwz z (List.mem_of_mem_take hz)⟩
    by_cases h0 : n = 0
    · subst h0; exact .inl rfl
    · obtain ⟨b, off, rfl, hc2⟩ := ints_at hcell (by omega)
      have hblk := cell_lt (hc2 0 (by omega))
      refine .inr ⟨b, off, rfl, hblk, fun j u hu => ?_⟩
      simp only [List.getElem?_map, Option.map_eq_some_iff] at hu
      obtain ⟨z, hz1, rfl⟩ := hu
      have hj : j < n := by
        have := (List.getElem?_eq_some_iff.1 hz1).1
        simp at this
        omega
      rw [List.getElem?_take_of_lt hj] at hz1
      rw [hc2 j (by omega), List.getD_eq_getElem?_getD, hz1]
      rfl

theorem u8_of {z : Int} (h : (Lit.int .u8 z).wf = true) : ((UInt8.ofNat z.toNat).toNat : Int) = z := by
  have hb : 0 ≤ z ∧ z ≤ 255 := by
    simpa [Lit.wf, IntKind.min, IntKind.max, IntKind.signed, IntKind.bits] using h
  simp
  omega

theorem open_bytes_rd (ht : P.underlying t = some (.slice e)) (he : P.underlying e = some (.int .u8)) (hc : P.cellsOf e = 1)
    (h : DataW.Trod enc P w base (fun _ => true) held t (.slice A n c) d p) :
    ∃ b : List UInt8, Rd w w.heap.size 1 A n (b.map fun c => .int .u8 c.toNat) ∧ n ≤ c ∧ c ≤ maxLen := by
  obtain ⟨zs, h1, h2, h3, h4⟩ := open_nums_rd ht he hc h
  refine ⟨zs.map fun z => UInt8.ofNat z.toNat, ?_, h2, h3⟩
  have e1 : (zs.map fun z => UInt8.ofNat z.toNat).map (fun c : UInt8 => Value.int .u8 c.toNat) = zs.map (Value.int .u8) := by
    rw [List.map_map]
    refine List.map_congr_left fun z hz => ?_
    show Value.int .u8 ((UInt8.ofNat z.toNat).toNat : Int) = _
    rw [u8_of (h4 z hz)]
  rw [e1]
  exact h1

theorem open_ints_rd (ht : P.underlying t = some (.slice e)) (he : P.underlying e = some (.int .i64)) (hc : P.cellsOf e = 1)
    (h : DataW.Trod enc P w base (fun _ => true) held t (.slice A n c) d p) :
    ∃ zs : List Int, Rd w w.heap.size 1 A n (zs.map (Value.int .i64)) ∧ n ≤ c ∧ c ≤ maxLen ∧ ∀ z ∈ zs, -9223372036854775808 ≤ z ∧ z ≤ 9223372036854775807 := by
  obtain ⟨zs, h1, h2, h3, h4⟩ := open_nums_rd ht he hc h
  refine ⟨zs, h1, h2, h3, fun z hz => ?_⟩
  have := h4 z hz
  simpa [Lit.wf, IntKind.min, IntKind.max, IntKind.signed, IntKind.bits] using this

theorem open_strs_rd (ht : P.underlying t = some (.slice e)) (he : P.underlying e = some .string) (hc : P.cellsOf e = 1)
    (h : DataW.Trod enc P w base (fun _ => true) held t (.slice A n c) d p) :
    ∃ ss : List ByteArray, Rd w w.heap.size 1 A n (ss.map Value.string) ∧ n ≤ c ∧ c ≤ maxLen ∧ ∀ s ∈ ss, s.size ≤ maxLen := by
  obtain ⟨fuel, hf⟩ := h
  rcases open_strings ht he hc hf with ⟨h1, h2⟩ | ⟨a, len, cap, zs, h1, hb, hl, hm, hz, hx, hcell, hwz⟩
  · simp [Value.cells] at h1
    obtain ⟨rfl, rfl, rfl⟩ := h1
    exact ⟨[], Rd.none_ _ _ _ _, Nat.le_refl _, by unfold maxLen; omega, by simp⟩
  · simp [Value.cells] at h1
    obtain ⟨rfl, rfl, rfl⟩ := h1
    simp only [if_true] at hz
    refine ⟨zs.take n, ⟨by simp [hz]; omega, ?_⟩, hl, hm, fun z hz => hwz z (List.mem_of_mem_take hz)⟩
    by_cases h0 : n = 0
    · subst h0; exact .inl rfl
    · obtain ⟨b, off, spot⟩ := a
      have hs : spot = none := by simpa [Addr.add] using World.cell?_spot (hcell 0 (by omega))
      subst hs
      have hc2 : ∀ i, i < zs.length → w.cell? ⟨b, off + i, none⟩ = some (.string (zs.getD i ByteArray.empty)) := fun j hj => by
        rw [← Go.WideShapes.add_plain]; exact hcell j hj
      have hblk := cell_lt (hc2 0 (by omega))
      refine .inr ⟨b, off, rfl, hblk, fun j u hu => ?_⟩
      simp only [List.getElem?_map, Option.map_eq_some_iff] at hu
      obtain ⟨z, hz1, rfl⟩ := hu
      have hj : j < n := by
        have := (List.getElem?_eq_some_iff.1 hz1).1
        simp at this
        omega
      rw [List.getElem?_take_of_lt hj] at hz1
      rw [hc2 j (by omega), List.getD_eq_getElem?_getD, hz1]
      rfl
end
end Go.Proofs.Yteiciabhfjakgaa
namespace Go.Proofs.Yteiciabhfjakgaa
set_option linter.unusedVariables false
set_option linter.unusedSimpArgs false
open Go.RowKit Go.ChangeShapes Go.WideShapes Go.Joins Go.Deep

section
variable {H : Type} {enc : TypeId × Value → H} {P : Program} {w : World} {base : Nat} {held : Bool}
theorem flds_one {spare : Nat → Bool} {t : TypeId} {fs : Array Field} {fuel : Nat} {cs : List Value} {x : DataW H × List MemPlace} (ht : P.underlying t = some (.struct fs)) (hone : oneCellFields P fs = true) (hC : P.cellsOf t = fs.size)
    (h : DataW.trod enc P w base spare held fuel t cs = some x) : cs.length = fs.size ∧ ∃ n, ∀ (i : Nat) (f : Field) (v : Value), fs[i]? = some f → cs[i]? = some v → ∃ y, DataW.trod enc P w base spare held n f.type [v] = some y := by
  obtain ⟨xs, n, _, rfl, hl, hlen, hf⟩ := DataW.trod_struct ht h
  refine ⟨hl.trans hC, n, fun i f v hi hv => ?_⟩
  obtain ⟨o, k⟩ := hone_of hone i f hi
  have hi2 : i < fs.size := (Array.getElem?_eq_some_iff.1 hi).1
  have h1 := hf i f hi
  have e : ((cs.drop f.offset).take (P.cellsOf f.type)) = [v] := by
    rw [o, k]
    have hlt : i < cs.length := (List.getElem?_eq_some_iff.1 hv).1
    rw [List.drop_eq_getElem_cons hlt, (List.getElem?_eq_some_iff.1 hv).2]
    rfl
  rw [e] at h1
  exact ⟨_, h1.trans (List.getElem?_eq_getElem (by omega))⟩
/-- The fields of a struct, each one cell, by their types. -/
theorem flds_vals {t : TypeId} (tys : Array TypeId) {fuel : Nat} {cs : List Value} {x : DataW H × List MemPlace}
    (hS : ∃ fs, P.underlying t = some (.struct fs) ∧ oneCellFields P fs = true ∧ P.cellsOf t = fs.size ∧ fs.map (·.type) = tys)
    (h : DataW.trod enc P w base (fun _ => true) held fuel t cs = some x) : cs.length = tys.size ∧ ∃ n, ∀ (i : Nat) (t : TypeId) (v : Value), tys[i]? = some t → cs[i]? = some v → ∃ y, DataW.trod enc P w base (fun _ => true) held n t [v] = some y := by
  obtain ⟨fs, ht, hone, hC, hty⟩ := hS
  obtain ⟨hl, n, hf⟩ := flds_one ht hone hC h
  refine ⟨by rw [← hty]; simpa using hl, n, fun i t v hi hv => ?_⟩
  rw [← hty, Array.getElem?_map] at hi
  cases hq : fs[i]? with
  | none => rw [hq] at hi; cases hi
  | some f =>
    rw [hq] at hi
    obtain ⟨y, hy⟩ := hf i f v hq hv
    have e : f.type = t := by simpa using hi
    rw [e] at hy
    exact ⟨y, hy⟩
theorem fcells_at {a : Addr} {k : Nat} {cs : List Value} (h : w.cells? base a k = some cs) : cs.length = k ∧ ∀ j, j < k → w.cell? (a.add j) = cs[j]? := by
  unfold World.cells? at h
  split at h
  · have hl := mapM_some_length h
    refine ⟨by simpa using hl, fun j hj => ?_⟩
    exact mapM_some_get h j j (by simp [hj])
  · cases h
theorem fslice_is {t e : TypeId} {fuel : Nat} {v : Value} {y : DataW H × List MemPlace} (ht : P.underlying t = some (.slice e)) (hf : DataW.trod enc P w base (fun _ => true) held fuel t [v] = some y) : ∃ A n c, v = .slice A n c := by
  obtain ⟨a, l, c, h⟩ := slice_form ht hf
  simp only [List.cons.injEq, and_true] at h
  exact ⟨a, l, c, h⟩
theorem fu64_is {t : TypeId} {fuel : Nat} {v : Value} {y : DataW H × List MemPlace} (ht : P.underlying t = some (.int .u64)) (hf : DataW.trod enc P w base (fun _ => true) held fuel t [v] = some y) : ∃ n : Nat, v = .int .u64 n ∧ n < 18446744073709551616 := by
  obtain ⟨z, q, -, hw⟩ := DataW.trod_int ht hf
  simp only [List.cons.injEq, and_true] at q
  have b : 0 ≤ z ∧ z ≤ 18446744073709551615 := by simpa [Lit.wf, IntKind.min, IntKind.max, IntKind.signed, IntKind.bits] using hw
  obtain ⟨n, rfl⟩ := Int.eq_ofNat_of_zero_le b.1
  exact ⟨n, q, by omega⟩
theorem fu32_is {t : TypeId} {fuel : Nat} {v : Value} {y : DataW H × List MemPlace} (ht : P.underlying t = some (.int .u32)) (hf : DataW.trod enc P w base (fun _ => true) held fuel t [v] = some y) : ∃ n : Nat, v = .int .u32 n ∧ n < 4294967296 := by
  obtain ⟨z, q, -, hw⟩ := DataW.trod_int ht hf
  simp only [List.cons.injEq, and_true] at q
  have b : 0 ≤ z ∧ z ≤ 4294967295 := by simpa [Lit.wf, IntKind.min, IntKind.max, IntKind.signed, IntKind.bits] using hw
  obtain ⟨n, rfl⟩ := Int.eq_ofNat_of_zero_le b.1
  exact ⟨n, q, by omega⟩
theorem fu16_is {t : TypeId} {fuel : Nat} {v : Value} {y : DataW H × List MemPlace} (ht : P.underlying t = some (.int .u16)) (hf : DataW.trod enc P w base (fun _ => true) held fuel t [v] = some y) : ∃ n : Nat, v = .int .u16 n ∧ n < 65536 := by
  obtain ⟨z, q, -, hw⟩ := DataW.trod_int ht hf
  simp only [List.cons.injEq, and_true] at q
  have b : 0 ≤ z ∧ z ≤ 65535 := by simpa [Lit.wf, IntKind.min, IntKind.max, IntKind.signed, IntKind.bits] using hw
  obtain ⟨n, rfl⟩ := Int.eq_ofNat_of_zero_le b.1
  exact ⟨n, q, by omega⟩
theorem fu8_is {t : TypeId} {fuel : Nat} {v : Value} {y : DataW H × List MemPlace} (ht : P.underlying t = some (.int .u8)) (hf : DataW.trod enc P w base (fun _ => true) held fuel t [v] = some y) : ∃ n : Nat, v = .int .u8 n ∧ n < 256 := by
  obtain ⟨z, q, -, hw⟩ := DataW.trod_int ht hf
  simp only [List.cons.injEq, and_true] at q
  have b : 0 ≤ z ∧ z ≤ 255 := by simpa [Lit.wf, IntKind.min, IntKind.max, IntKind.signed, IntKind.bits] using hw
  obtain ⟨n, rfl⟩ := Int.eq_ofNat_of_zero_le b.1
  exact ⟨n, q, by omega⟩
theorem fint_is {t : TypeId} {fuel : Nat} {v : Value} {y : DataW H × List MemPlace} (ht : P.underlying t = some (.int .i64)) (hf : DataW.trod enc P w base (fun _ => true) held fuel t [v] = some y) : ∃ n : Int, v = .int .i64 n ∧ -9223372036854775808 ≤ n ∧ n ≤ 9223372036854775807 := by
  obtain ⟨z, q, -, hw⟩ := DataW.trod_int ht hf
  simp only [List.cons.injEq, and_true] at q
  have b : -9223372036854775808 ≤ z ∧ z ≤ 9223372036854775807 := by simpa [Lit.wf, IntKind.min, IntKind.max, IntKind.signed, IntKind.bits] using hw
  exact ⟨z, q, b⟩
theorem fstr_is {t : TypeId} {fuel : Nat} {v : Value} {y : DataW H × List MemPlace} (ht : P.underlying t = some .string) (hf : DataW.trod enc P w base (fun _ => true) held fuel t [v] = some y) : ∃ s : ByteArray, v = .string s ∧ s.size ≤ maxLen := by
  obtain ⟨s, q, -, bs⟩ := DataW.trod_string ht hf
  simp only [List.cons.injEq, and_true] at q
  exact ⟨s, q, bs⟩
theorem fbool_is {t : TypeId} {fuel : Nat} {v : Value} {y : DataW H × List MemPlace} (ht : P.underlying t = some .bool) (hf : DataW.trod enc P w base (fun _ => true) held fuel t [v] = some y) : ∃ b : Bool, v = .bool b := by
  obtain ⟨s, q, -⟩ := DataW.trod_bool ht hf
  simp only [List.cons.injEq, and_true] at q
  exact ⟨s, q⟩

/-- The cells of a row of structs. -/
def rowCs {α : Type} (vals : α → List Value) (l : List α) : List Value := l.flatMap vals
theorem rowCs_len {α : Type} {vals : α → List Value} {size : Nat} (hv : ∀ s, (vals s).length = size) (l : List α) : (rowCs vals l).length = l.length * size := by
  induction l with
  | nil => simp [rowCs]
  | cons s r ih => 
    have : (rowCs vals (s :: r)).length = size + (rowCs vals r).length := by simp [rowCs, hv]
    rw [this, ih, List.length_cons, Nat.add_mul]
    omega
theorem rowCs_app {α : Type} (vals : α → List Value) (a b : List α) : rowCs vals (a ++ b) = rowCs vals a ++ rowCs vals b := by simp [rowCs]
theorem rowCs_at {α : Type} {vals : α → List Value} {size : Nat} (hv : ∀ s, (vals s).length = size) (l : List α) (k : Nat) (s : α) (hk : l[k]? = some s) (j : Nat) (hj : j < size) : (rowCs vals l)[k * size + j]? = (vals s)[j]? := by
  have hlt := (List.getElem?_eq_some_iff.1 hk).1
  have e : l = l.take k ++ s :: l.drop (k + 1) := by
    rw [← (List.getElem?_eq_some_iff.1 hk).2, ← List.drop_eq_getElem_cons hlt, List.take_append_drop]
  have hl : (rowCs vals (l.take k)).length = k * size := by rw [rowCs_len hv, List.length_take]; congr 1; omega
  conv => lhs; rw [e]
  rw [rowCs_app, List.getElem?_append_right (by omega), hl, Nat.add_sub_cancel_left]
  show (vals s ++ rowCs vals (l.drop (k + 1)))[j]? = _
  rw [List.getElem?_append_left (by rw [hv]; exact hj)]
/-- A slice of structs as an argument. -/
theorem open_structs_rd {α : Type} [Inhabited α] {A : Option Addr} {n c fuel size : Nat} {t e : TypeId} {x : DataW H × List MemPlace} (ht : P.underlying t = some (.slice e)) (h6 : P.cellsOf e = size) (hpos : 0 < size) (vals : α → List Value) (ok : α → Prop) (hv : ∀ s, (vals s).length = size)
    (hone : ∀ fuel cs x, DataW.trod enc P w base (fun _ => true) held fuel e cs = some x → ∃ s, cs = vals s ∧ ok s)
    (h : DataW.trod enc P w base (fun _ => true) held fuel t [.slice A n c] = some x) :
    ∃ l : List α, Rd w w.heap.size size A n (rowCs vals l) ∧ l.length = n ∧ n ≤ c ∧ c ≤ maxLen ∧ ∀ s ∈ l, ok s := by
  rcases Go.Deep.open_slice ht h with ⟨h1, h2⟩ | ⟨a, len, cap, m, k, D, Pl, h1, hb, hl, hm, hmm, hx, hel⟩
  · simp at h1
    obtain ⟨rfl, rfl, rfl⟩ := h1
    exact ⟨[], Rd.none_ _ _ _ _, rfl, Nat.le_refl _, by unfold maxLen; omega, by simp⟩
  · simp at h1
    obtain ⟨rfl, rfl, rfl⟩ := h1
    simp only [if_true] at hmm
    have each : ∀ i, i < n → ∃ s : α, ok s ∧ ∀ j, j < size → w.cell? (a.add (i * size + j)) = (vals s)[j]? := by
      intro i hi
      obtain ⟨cs, hc, ht⟩ := hel i (by omega)
      rw [h6] at hc
      obtain ⟨s, rfl, hs⟩ := hone _ _ _ ht
      obtain ⟨_, hcell⟩ := fcells_at hc
      refine ⟨s, hs, fun j hj => ?_⟩
      have := hcell j hj
      rw [← this]
      congr 1
      by_cases g1 : i * size = 0 <;> by_cases g2 : j = 0 <;> simp [Addr.add, g1, g2, Nat.add_assoc]
    obtain ⟨S, hS⟩ := Go.Deep.choose_lt each
    refine ⟨(List.range n).map S, ⟨by rw [rowCs_len hv]; simp, ?_⟩, by simp, hl, hm, ?_⟩
    · by_cases h0 : n = 0
      · subst h0; exact .inl rfl
      · obtain ⟨b, off, spot⟩ := a
        have hs0 := (hS 0 (by omega)).2 0 hpos
        have hlt0 : 0 < (vals (S 0)).length := by rw [hv]; exact hpos
        have hs : spot = none := by simpa [Addr.add] using World.cell?_spot (hs0.trans (List.getElem?_eq_getElem hlt0))
        subst hs
        have hc2 : ∀ i, i < n → ∀ j, j < size → w.cell? ⟨b, off + (i * size + j), none⟩ = (vals (S i))[j]? := fun i hi j hj => by
          rw [← Go.WideShapes.add_plain]; exact (hS i hi).2 j hj
        have hblk : b < w.heap.size := cell_lt (a := ⟨b, off + (0 * size + 0), none⟩) ((hc2 0 (by omega) 0 hpos).trans (List.getElem?_eq_getElem hlt0))
        refine .inr ⟨b, off, rfl, hblk, fun j u hu => ?_⟩
        have hj : j < n * size := by
          have := (List.getElem?_eq_some_iff.1 hu).1
          rw [rowCs_len hv] at this
          simpa using this
        have hq : j / size < n := (Nat.div_lt_iff_lt_mul hpos).2 hj
        have hr : j % size < size := Nat.mod_lt _ hpos
        have hjj : j / size * size + j % size = j := by rw [Nat.mul_comm]; exact Nat.div_add_mod j size
        have hat := rowCs_at hv ((List.range n).map S) (j / size) (S (j / size)) (by simp [hq]) (j % size) hr
        rw [hjj] at hat
        have := hc2 (j / size) hq (j % size) hr
        rw [hjj] at this
        rw [this, ← hat, hu]
    · intro s hs
      simp only [List.mem_map, List.mem_range] at hs
      obtain ⟨i, hi, rfl⟩ := hs
      exact (hS i hi).1
end
end Go.Proofs.Yteiciabhfjakgaa
namespace Go.Proofs.Yteiciabhfjakgaa
set_option linter.unusedVariables false
set_option linter.unusedSimpArgs false
open Go.RowKit

theorem own_set {w : World} {base g n c i : Nat} {e : TypeId} {xs : List Value} (h : w.ownsRow base e 1 (.slice (some ⟨g, 0, none⟩) n c) n xs) (u : Value) :
    (w.setCell ⟨g, i, none⟩ u).ownsRow base e 1 (.slice (some ⟨g, 0, none⟩) n c) n (xs.set i u) := by
  obtain ⟨hl, hn | ⟨g', cap, cur, hv, hb, hg, h1, h2, h3, h4⟩⟩ := h
  · exact absurd hn.1 (by simp)
  · obtain ⟨rfl, rfl⟩ : g = g' ∧ c = cap := by simpa using hv
    refine ⟨by simpa using hl, .inr ⟨g, c, cur.setIfInBounds i u, rfl, hb, heap_setCell_same _ _ _ _ _ _ hg, h1, h2, by simpa using h3, ?_⟩⟩
    rw [Array.toList_setIfInBounds, List.take_set, h4]
theorem own_cell {w : World} {base g n c i : Nat} {e : TypeId} {xs : List Value} (h : w.ownsRow base e 1 (.slice (some ⟨g, 0, none⟩) n c) n xs) {u : Value} (hi : xs[i]? = some u) : w.cell? ⟨g, i, none⟩ = some u := by
  obtain ⟨b, off, ha, _, hc⟩ := (Rd.of_own h).at_ hi
  obtain ⟨rfl, rfl⟩ : g = b ∧ 0 = off := by simpa using ha
  simpa using hc
theorem own_free {w : World} {base g n c : Nat} {e : TypeId} {xs : List Value} (h : w.ownsRow base e 1 (.slice (some ⟨g, 0, none⟩) n c) n xs) (i : Nat) : w.frozen? ⟨g, i, none⟩ = false := by
  obtain ⟨hl, hn | ⟨g', cap, cur, hv, hb, hg, h1, h2, h3, h4⟩⟩ := h
  · exact absurd hn.1 (by simp)
  · obtain ⟨rfl, rfl⟩ : g = g' ∧ c = cap := by simpa using hv
    exact frozen_of_row _ _ _ _ _ hg
theorem own_at {w : World} {base g n c : Nat} {e : TypeId} {xs : List Value} (h : w.ownsRow base e 1 (.slice (some ⟨g, 0, none⟩) n c) n xs) : base ≤ g ∧ g < w.heap.size ∧ n ≤ c := by
  obtain ⟨hl, hn | ⟨g', cap, cur, hv, hb, hg, h1, h2, h3, h4⟩⟩ := h
  · exact absurd hn.1 (by simp)
  · obtain ⟨rfl, rfl⟩ : g = g' ∧ c = cap := by simpa using hv
    exact ⟨hb, lt_of_block hg, h1⟩

end Go.Proofs.Yteiciabhfjakgaa
namespace Go.Proofs.Yteiciabhfjakgaa
set_option linter.unusedVariables false
set_option linter.unusedSimpArgs false
open Go.RowKit
theorem results_cell_tmp {P : Program} {fn : Func} {p q : Tmp} {ty : TypeId} (h : fn.results = #[.cell p ty, .tmp q]) (tmps : Array Value) (w : World) (g : Nat) (t : TypeId) (cs : Array Value) (fr : Nat × Nat) (d : TypeDesc)
    (hp : tmps.getD p undef = .pointer (some ⟨g, 0, none⟩)) (hg : w.heap[g]? = some (.cells cs t fr))
    (hu : P.underlying ty = some d) (hd : (match d with | .struct _ | .array _ _ => true | _ => false) = true) (hi : (P.info? ty).map (·.size) = some cs.size) :
    (results fn tmps).run P w = .ok (.tuple #[.agg cs, tmps.getD q undef]) w := by
  have hp' : tmps[p]?.getD undef = .pointer (some ⟨g, 0, none⟩) := by simpa using hp
  simp [results, h, hp', asAddr, run_loadVar_row w g t ty cs fr d hg hu hd hi]

theorem below_drew' {B : Nat} {a w : World} (h : Below B a w) : Below B a w.drew := ⟨h.os, h.tape, h.output, h.size, h.block⟩
end Go.Proofs.Yteiciabhfjakgaa
namespace Go.Proofs.Yteiciabhfjakgaa
set_option linter.unusedVariables false
set_option linter.unusedSimpArgs false
open Go.RowKit

/-- Block g holds just these cells. -/
def Blk (w : World) (g : Nat) (t : TypeId) (l : List Value) : Prop := w.heap[g]? = some (.cells l.toArray t (0, 0))
section
variable {w w' : World} {g g' B i : Nat} {t : TypeId} {l : List Value} {u : Value}
theorem Blk.cell (h : Blk w g t l) (hi : l[i]? = some u) : w.cell? ⟨g, i, none⟩ = some u := by
  rw [cell_of_row _ _ _ _ _ _ h]
  simpa using hi
theorem Blk.free (h : Blk w g t l) (i : Nat) : w.frozen? ⟨g, i, none⟩ = false := frozen_of_row _ _ _ _ _ h
theorem Blk.set (h : Blk w g t l) (i : Nat) (u : Value) : Blk (w.setCell ⟨g, i, none⟩ u) g t (l.set i u) := by
  have h1 := heap_setCell_same _ _ i _ _ u h
  unfold Blk
  rw [h1]
  simp [List.setIfInBounds_toArray]
theorem Blk.below (h : Blk w g t l) (hb : Below B w w') (hg : g < B) : Blk w' g t l := (hb.block g hg).trans h
theorem Blk.lt (h : Blk w g t l) : g < w.heap.size := lt_of_block h
theorem Blk.belowSz (h : Blk w g t l) (hb : Below w.heap.size w w') : Blk w' g t l := h.below hb h.lt
theorem Blk.drewN (h : Blk w g t l) (k : Nat) : Blk (w.drewN k) g t l := h
theorem Blk.drew (h : Blk w g t l) : Blk w.drew g t l := h
theorem Blk.alloc (h : Blk w g t l) (o : Obj) : Blk (w.alloc o) g t l := h.belowSz ((Below.refl _ _).alloc (Nat.le_refl _) o)
theorem Blk.new (w : World) (t : TypeId) (l : List Value) : Blk (w.alloc (.cells l.toArray t)) w.heap.size t l := heap_alloc_new _ _
theorem Blk.other (h : Blk w g t l) {p : Addr} (hp : p.block ≠ g) (u : Value) : Blk (w.setCell p u) g t l := (heap_setCell_other _ _ _ _ hp.symm).trans h
end
end Go.Proofs.Yteiciabhfjakgaa
namespace Go.Proofs.Yteiciabhfjakgaa.Pth
set_option linter.unusedVariables false
set_option linter.unusedSimpArgs false

/-- The texts between slashes: of the text s, r being what is left of it at place i, the running piece begun at f. -/
def pcsL (s : ByteArray) : List UInt8 → Nat → Nat → List ByteArray
  | [], i, f => [s.extract f i]
  | c :: r, i, f => if c = 47 then s.extract f i :: pcsL s r (i + 1) (i + 1) else pcsL s r (i + 1) f

def pcs (s : ByteArray) : List ByteArray := pcsL s s.data.toList 0 0
/-- what is still to come at place i, the running piece begun at f. -/
def pcsAt (s : ByteArray) (i f : Nat) : List ByteArray := pcsL s (s.data.toList.drop i) i f

theorem drop_cons (s : ByteArray) (i : Nat) (h : i < s.size) : s.data.toList.drop i = s[i] :: s.data.toList.drop (i + 1) := by
  have h' : i < s.data.toList.length := by simpa using h
  rw [List.drop_eq_getElem_cons h']
  rfl

theorem pcsAt_end (s : ByteArray) (f : Nat) : pcsAt s s.size f = [s.extract f s.size] := by
  unfold pcsAt
  rw [List.drop_of_length_le (by simp)]
  rfl
theorem pcsAt_slash (s : ByteArray) (i f : Nat) (h : i < s.size) (hc : s[i] = 47) : pcsAt s i f = s.extract f i :: pcsAt s (i + 1) (i + 1) := by
  unfold pcsAt
  rw [drop_cons s i h]
  simp [pcsL, hc]
theorem pcsAt_skip (s : ByteArray) (i f : Nat) (h : i < s.size) (hc : s[i] ≠ 47) : pcsAt s i f = pcsAt s (i + 1) f := by
  unfold pcsAt
  rw [drop_cons s i h]
  simp [pcsL, hc]
theorem pcsAt_skips (s : ByteArray) (f : Nat) (d : Nat) : ∀ i, (∀ j, i ≤ j → j < i + d → ∃ h : j < s.size, s[j] ≠ 47) → pcsAt s i f = pcsAt s (i + d) f := by
  induction d with
  | zero => intro i _; rfl
  | succ d ih =>
    intro i h
    obtain ⟨hi, hc⟩ := h i (Nat.le_refl _) (by omega)
    rw [pcsAt_skip s i f hi hc, ih (i + 1) (fun j h1 h2 => h j (by omega) (by omega))]
    congr 1
    omega

theorem get_at (s : ByteArray) (pos k : Nat) (h : pos + k < s.size) : s.get! (pos + k) = s[pos + k]'h := by
  simp [ByteArray.get!, getElem!_pos, h]
  rfl

theorem high_ne (c : UInt8) (h : c.toNat / 64 = 2) : c ≠ 47 := by
  intro e
  subst e
  simp at h

/-- What a rune of a text covers: at least a byte, no more than there is; it is a slash just if its first byte is one, and no later byte of it is a slash. -/
theorem decode_cover (s : ByteArray) (pos : Nat) (h : pos < s.size) :
    1 ≤ (Utf8.decode s pos).2 ∧ pos + (Utf8.decode s pos).2 ≤ s.size ∧ ((Utf8.decode s pos).1 = 47 ↔ s[pos] = 47) ∧ (s[pos] = 47 → (Utf8.decode s pos).2 = 1) ∧
    (s[pos] ≠ 47 → ∀ j, pos ≤ j → j < pos + (Utf8.decode s pos).2 → ∃ hj : j < s.size, s[j] ≠ 47) := by
  have e0 : s.get! (pos + 0) = s[pos] := get_at s pos 0 (by simpa using h)
  have eq47 : s[pos] = 47 ↔ s[pos].toNat = 47 := by
    constructor
    · intro e; rw [e]; rfl
    · intro e; exact UInt8.toNat_inj.1 (by rw [e]; rfl)
  by_cases ha : s[pos].toNat < 128
  · have hd : Utf8.decode s pos = (s[pos].toNat, 1) := decode_ascii s pos h ha
    rw [hd]
    refine ⟨Nat.le_refl _, by simp only; omega, by simp only [eq47], fun _ => rfl, fun hn j h1 h2 => ?_⟩
    obtain rfl : j = pos := by simp only at h2; omega
    exact ⟨h, hn⟩
  · have hn47 : s[pos] ≠ 47 := by rw [ne_eq, eq47]; omega
    have key : ∃ c d, Utf8.decode s pos = (c, d) ∧ 1 ≤ d ∧ pos + d ≤ s.size ∧ c ≠ 47 ∧ ∀ k, 1 ≤ k → k < d → pos + k < s.size ∧ (s.get! (pos + k)).toNat / 64 = 2 := by
      simp only [Utf8.decode, e0, ha, if_false]
      repeat' split
      all_goals (refine ⟨_, _, rfl, by omega, ?_, ?_, ?_⟩)
      all_goals simp only [Bool.and_eq_true, decide_eq_true_eq, beq_iff_eq] at *
      all_goals first
        | omega
        | (simp [Utf8.runeError]; done)
        | (intro k h1 h2; omega)
        | (intro k h1 h2
           have hk : k = 1 ∨ k = 2 ∨ k = 3 := by omega
           rcases hk with rfl | rfl | rfl <;> first | (exfalso; omega) | (refine ⟨?_, ?_⟩ <;> omega))
    obtain ⟨c, d, hd, h1, h2, h3, h4⟩ := key
    rw [hd]
    refine ⟨h1, h2, by simp [h3, hn47], fun e => absurd e hn47, fun _ j hj1 hj2 => ?_⟩
    rcases Nat.eq_or_lt_of_le hj1 with rfl | hlt
    · exact ⟨h, hn47⟩
    · obtain ⟨k, rfl⟩ : ∃ k, j = pos + k := ⟨j - pos, by omega⟩
      obtain ⟨hs, hh⟩ := h4 k (by omega) (by simpa using hj2)
      refine ⟨hs, ?_⟩
      rw [get_at s pos k hs] at hh
      exact high_ne _ hh

/-- A yield that may end it: what becomes of the state over a list of pieces. -/
def goF {S : Type} (step : S → ByteArray → S × Bool) : S → List ByteArray → S
  | s, [] => s
  | s, x :: r => if (step s x).2 then goF step (step s x).1 r else (step s x).1

/-- Check's answer. -/
def tooLong (x : ByteArray) : Bool := decide (32 < x.size)
def chk (p : ByteArray) : Int :=
  if p.size = 0 then 3 else if p.data.toList.contains 0 then 1 else if 200 < p.size then 11 else if (pcs p).any tooLong then 11 else 0
def checkStep (e : Int) (x : ByteArray) : Int × Bool := if 32 < x.size then (11, false) else (e, e == 0)
theorem goF_check (l : List ByteArray) : goF checkStep 0 l = if l.any tooLong then 11 else 0 := by
  induction l with
  | nil => rfl
  | cons x r ih =>
    by_cases h : 32 < x.size
    · simp [goF, checkStep, h, tooLong]
    · simp [goF, checkStep, h, tooLong, ih]

/-- The parts: all pieces that are no empty text and no point. -/
def isPart (x : ByteArray) : Bool := !(x.data.toList == []) && !(x.data.toList == [46])
def parts (p : ByteArray) : List ByteArray := (pcs p).filter isPart
def partsStep (l : List ByteArray) (x : ByteArray) : List ByteArray × Bool := (if isPart x then l ++ [x] else l, true)
theorem goF_parts (l : List ByteArray) : ∀ acc, goF partsStep acc l = acc ++ l.filter isPart := by
  induction l with
  | nil => intro acc; simp [goF]
  | cons x r ih =>
    intro acc
    by_cases h : isPart x
    · simp [goF, partsStep, h, ih]
    · simp [goF, partsStep, h, ih]

/-- What Parts answers: the list, and whether it begins at the root; nothing beside an error. -/
def partsL (p : ByteArray) : List ByteArray := if chk p = 0 then parts p else []
def rootB (p : ByteArray) : Bool := decide (chk p = 0) && Lib.hasPrefix p.data.toList [47]
theorem chk_size (p : ByteArray) (h : chk p = 0) : p.size ≤ 200 := by
  unfold chk at h
  repeat' split at h
  all_goals first | omega | (cases h)

/-! ### Join, Base, Dir, Tail -/
def headB (p : ByteArray) : Bool := Lib.hasPrefix p.data.toList [47]
def tailB (p : ByteArray) : Bool := Lib.hasSuffix p.data.toList [47]
def slash : ByteArray := ⟨#[47]⟩
def joinB (d p : ByteArray) : ByteArray := if d.size = 0 ∨ headB p = true then p else if tailB d = true then d ++ p else d ++ slash ++ p
def lastB (p : ByteArray) : Int := Lib.lastIndexByte p 47
def baseB (p : ByteArray) : ByteArray := p.extract (lastB p + 1).toNat p.size
def dirB (p : ByteArray) : ByteArray := if lastB p = -1 then ⟨#[46]⟩ else if lastB p = 0 then ⟨#[47]⟩ else p.extract 0 (lastB p).toNat

theorem lastB_bd (p : ByteArray) : -1 ≤ lastB p ∧ lastB p + 1 ≤ p.size := by
  unfold lastB
  rcases Lib.lastIndexByte_spec p 47 with ⟨h, _⟩ | ⟨i, hi, h, _⟩
  · rw [h]; omega
  · rw [h]; omega
theorem data_get (s : ByteArray) (i : Nat) (h : i < s.size) : s.data[i]! = s[i] := by
  have h' : i < s.data.size := h
  rw [getElem!_pos s.data i h']
  rfl
theorem lastIdx_step (p : ByteArray) (i : Nat) (h : i < p.size) : Lib.lastIdx p 47 (i + 1) = if ((p[i].toNat : Nat) : Int) = 47 then (i : Int) else Lib.lastIdx p 47 i := by
  have e := data_get p i h
  simp only [Lib.lastIdx, e]
theorem headB_iff (p : ByteArray) : headB p = decide (∃ h : 0 < p.size, p[0] = 47) := by
  rw [Bool.eq_iff_iff, decide_eq_true_eq]
  unfold headB Lib.hasPrefix
  obtain ⟨⟨l⟩⟩ := p
  cases l with
  | nil =>
    constructor
    · intro h; cases h
    · rintro ⟨h, _⟩; cases h
  | cons a r =>
    show ([47].isPrefixOf (a :: r)) = true ↔ _
    simp only [List.isPrefixOf, Bool.and_true, beq_iff_eq]
    exact ⟨fun h => ⟨Nat.succ_pos _, h.symm⟩, fun h => h.2.symm⟩
theorem tailB_iff (p : ByteArray) (h : 0 < p.size) : tailB p = decide (p[p.size - 1]'(by omega) = 47) := by
  rw [Bool.eq_iff_iff, decide_eq_true_eq]
  unfold tailB Lib.hasSuffix
  obtain ⟨⟨l⟩⟩ := p
  have hne : l ≠ [] := by rintro rfl; cases h
  rw [List.isSuffixOf_iff_suffix]
  have e : (ByteArray.mk ⟨l⟩)[(ByteArray.mk ⟨l⟩).size - 1]'(by omega) = l.getLast hne := by
    rw [List.getLast_eq_getElem]
    rfl
  rw [e]
  constructor
  · rintro ⟨t, ht⟩
    have h2 : l = t ++ [47] := ht.symm
    subst h2
    exact List.getLast_concat
  · intro h47
    refine ⟨l.dropLast, ?_⟩
    rw [← h47]
    exact List.dropLast_concat_getLast hne
theorem tailB_empty (p : ByteArray) (h : p.size = 0) : tailB p = false := by
  obtain ⟨⟨l⟩⟩ := p
  have : l = [] := List.eq_nil_of_length_eq_zero h
  subst this
  rfl

end Go.Proofs.Yteiciabhfjakgaa.Pth
namespace Go.Proofs.Yteiciabhfjakgaa.Vf
set_option linter.unusedVariables false
set_option linter.unusedSimpArgs false

structure Meta where
  kind : Nat
  mode : Nat
  uid : Nat
  gid : Nat
  size : Nat
deriving DecidableEq
/-- A node: what is known of it, its directory's number, its name there, a file's bytes, where a link leads. -/
structure Nd where
  m : Meta
  up : Nat
  name : ByteArray
  data : List UInt8
  to : ByteArray
structure Ent where
  path : ByteArray
  kind : Nat
  mode : Nat
  uid : Nat
  gid : Nat
  data : List UInt8
  to : ByteArray
structure Cred where
  uid : Nat
  euid : Nat
  suid : Nat
  gid : Nat
  groups : List Nat

def dd : ByteArray := ⟨#[46, 46]⟩

/-! Who may what. -/
def cls (c : Cred) (m : Meta) : Nat := if c.euid = m.uid then 0 else if c.gid = m.gid ∨ m.gid ∈ c.groups then 1 else 2
def bits (m : Meta) (k : Nat) : Nat := if k = 0 then m.mode / 64 % 8 else if k = 1 then m.mode / 8 % 8 else m.mode % 8
def mayX (c : Cred) (m : Meta) : Bool := if c.euid = 0 then decide (m.kind = 2) || decide (bits m 0 % 2 = 1) || decide (bits m 1 % 2 = 1) || decide (bits m 2 % 2 = 1) else decide (bits m (cls c m) % 2 = 1)

/-! The nodes by their names. -/
def isKid (dir : Nat) (name : ByteArray) (x : Nd) : Bool := decide (x.up = dir) && decide (x.name = name)
/-- The node of a name in a directory; the root is nobody's. -/
def child (F : List Nd) (dir : Nat) (name : ByteArray) : Option Nat := ((F.drop 1).findIdx? (isKid dir name)).map (· + 1)
def at_ (F : List Nd) : Nat → List ByteArray → Option Nat
  | n, [] => some n
  | n, p :: r => match child F n p with
    | none => none
    | some i => at_ F i r

/-- What an entry by itself may not be. -/
def may (e : Ent) : Int :=
  if ¬ (1 ≤ e.kind ∧ e.kind ≤ 3) ∨ e.mode &&& 2559 ≠ e.mode then 1
  else if Pth.chk e.path ≠ 0 ∨ Pth.rootB e.path = false ∨ (Pth.partsL e.path).isEmpty = true ∨ Pth.tailB e.path = true ∨ (Pth.partsL e.path).any (fun x => decide (x = dd)) = true then 1
  else if (e.kind ≠ 1 ∧ e.data ≠ []) ∨ (e.kind ≠ 3 ∧ e.to.size ≠ 0) ∨ (e.kind = 3 ∧ Pth.chk e.to ≠ 0) then 1
  else if 65536 < e.data.length then 12 else 0
def lastOf (l : List ByteArray) : ByteArray := l.getLast?.getD ⟨#[]⟩
/-- The node that an entry makes. -/
def ndOf (e : Ent) (up : Nat) : Nd := ⟨⟨e.kind, e.mode, e.uid, e.gid, e.data.length⟩, up, lastOf (Pth.partsL e.path), e.data, e.to⟩
def kindAt (F : List Nd) (i : Nat) : Nat := match F[i]? with
  | none => 0
  | some x => x.m.kind
def add (F : List Nd) (e : Ent) : Int × List Nd :=
  if may e ≠ 0 then (may e, F)
  else if (at_ F 0 (Pth.partsL e.path)).isSome then (7, F)
  else match at_ F 0 (Pth.partsL e.path).dropLast with
    | none => (3, F)
    | some up => if kindAt F up ≠ 2 then (8, F) else (0, F ++ [ndOf e up])
def root : Nd := ⟨⟨2, 493, 0, 0, 0⟩, 0, ⟨#[]⟩, [], ⟨#[]⟩⟩
/-- New's loop: the error, the entry's number, the nodes so far. -/
def adds : List Nd → Nat → List Ent → Int × Nat × List Nd
  | F, i, [] => (0, 0, F)
  | F, i, e :: r => if (add F e).1 ≠ 0 then ((add F e).1, i, F) else adds (add F e).2 (i + 1) r

/-! Where paths lead. -/
structure St where
  at_ : Nat
  links : Nat
  left : List ByteArray
def nd (F : List Nd) (i : Nat) : Nd := F[i]?.getD root
/-- One part: an end (the error, the node), or where the walk stands then. -/
def hop (F : List Nd) (c : Cred) (last : Bool) (s : St) : Sum (Int × Nat) St :=
  match s.left with
  | [] => .inl (0, s.at_)
  | p :: r =>
    if kindAt F s.at_ ≠ 2 then .inl (8, 0)
    else if mayX c (nd F s.at_).m = false then .inl (5, 0)
    else if p = dd then .inr ⟨(nd F s.at_).up, s.links, r⟩
    else match child F s.at_ p with
      | none => .inl (3, 0)
      | some n =>
        if kindAt F n ≠ 3 ∨ (r = [] ∧ last = false) then .inr ⟨n, s.links, r⟩
        else if 8 ≤ s.links then .inl (10, 0)
        else .inr ⟨if Pth.rootB (nd F n).to then 0 else s.at_, s.links + 1, Pth.partsL (nd F n).to ++ r⟩
def go (F : List Nd) (c : Cred) (last : Bool) : Nat → St → Int × Nat
  | 0, s => (0, 0)
  | k + 1, s => match hop F c last s with
    | .inl x => x
    | .inr s' => go F c last k s'
theorem parts_len (p : ByteArray) : (Pth.partsL p).length ≤ 201 := by
  unfold Pth.partsL
  split
  case isFalse => simp
  case isTrue h =>
    have h1 : (Pth.parts p).length ≤ (Pth.pcs p).length := List.length_filter_le _ _
    have h2 : ∀ (l : List UInt8) (i f : Nat), (Pth.pcsL p l i f).length ≤ l.length + 1 := by
      intro l
      induction l with
      | nil => intro i f; simp [Pth.pcsL]
      | cons c r ih =>
        intro i f
        have a := ih (i + 1) f
        have b := ih (i + 1) (i + 1)
        unfold Pth.pcsL
        split <;> simp <;> omega
    have h3 := h2 p.data.toList 0 0
    have h4 := Pth.chk_size p h
    have h5 : p.data.toList.length = p.size := by simp
    unfold Pth.pcs at h1
    omega
/-- What a walk still has to do at most. -/
def mu (s : St) : Nat := (8 - s.links) * 202 + s.left.length
theorem hop_mu {F : List Nd} {c : Cred} {last : Bool} {s s' : St} (h : hop F c last s = .inr s') : mu s' < mu s := by
  unfold hop at h
  split at h
  · cases h
  · next p r hl =>
    have hlen : s.left.length = r.length + 1 := by rw [hl]; rfl
    split at h
    · cases h
    split at h
    · cases h
    split at h
    · cases h; unfold mu; simp only; omega
    split at h
    · cases h
    · next n hn =>
      split at h
      · cases h; unfold mu; simp only; omega
      split at h
      · cases h
      · next hk =>
        cases h
        have := parts_len (nd F n).to
        unfold mu
        simp only [List.length_append]
        omega
theorem go_more {F : List Nd} {c : Cred} {last : Bool} : ∀ (k : Nat) (s : St), mu s < k → go F c last k s = go F c last (mu s + 1) s := by
  intro k
  induction k using Nat.strongRecOn with
  | ind k ih =>
    intro s hk
    match k, hk with
    | k + 1, hk =>
      unfold go
      cases h : hop F c last s with
      | inl x => rfl
      | inr s' =>
        have hm := hop_mu h
        simp only
        rw [ih k (by omega) s' (by omega)]
        by_cases he : mu s = k
        · rw [he, ih k (by omega) s' (by omega)]
        · rw [ih (mu s) (by omega) s' (by omega)]
/-- Where a walk from a state on ends. -/
def ends (F : List Nd) (c : Cred) (last : Bool) (s : St) : Int × Nat := go F c last (mu s + 1) s
theorem ends_eq (F : List Nd) (c : Cred) (last : Bool) (s : St) : ends F c last s = match hop F c last s with
    | .inl x => x
    | .inr s' => ends F c last s' := by
  have h : ends F c last s = match hop F c last s with
      | .inl x => x
      | .inr s' => go F c last (mu s) s' := rfl
  rw [h]
  cases h : hop F c last s with
  | inl x => rfl
  | inr s' => exact go_more _ _ (hop_mu h)
/-- Walk's answer: the node, the error. -/
def walk (F : List Nd) (c : Cred) (src : Int) (path : ByteArray) (last : Bool) : Nat × Int :=
  if src < 0 ∨ kindAt F src.toNat ≠ 2 then (0, 1)
  else if Pth.chk path ≠ 0 then (0, Pth.chk path)
  else
    let r := ends F c (last || Pth.tailB path) ⟨if Pth.rootB path then 0 else src.toNat, 0, Pth.partsL path⟩
    if r.1 ≠ 0 then (0, r.1) else if Pth.tailB path = true ∧ kindAt F r.2 ≠ 2 then (0, 8) else (r.2, 0)

/-! What is told of a node. -/
def zeroMeta : Meta := ⟨0, 0, 0, 0, 0⟩
def metaOf (F : List Nd) (ino : Int) : Meta × Int := if ino < 0 ∨ F.length ≤ ino.toNat then (zeroMeta, 3) else ((nd F ino.toNat).m, 0)
def readOf (F : List Nd) (ino off n : Int) : List UInt8 × Int :=
  if (metaOf F ino).2 ≠ 0 then ([], (metaOf F ino).2)
  else if (metaOf F ino).1.kind = 2 then ([], 9)
  else if (metaOf F ino).1.kind = 3 ∨ off < 0 ∨ n < 0 then ([], 1)
  else (((nd F ino.toNat).data.drop off.toNat).take n.toNat, 0)
/-- The names from the root on. -/
def names (F : List Nd) : Nat → Nat → List ByteArray
  | 0, i => []
  | k + 1, i => if i = 0 then [] else names F k (nd F i).up ++ [(nd F i).name]
def slashed : List ByteArray → ByteArray
  | [] => ⟨#[]⟩
  | x :: r => ⟨#[47]⟩ ++ x ++ slashed r
def pathOf (F : List Nd) (ino : Int) : ByteArray := if ino < 0 ∨ F.length ≤ ino.toNat then ⟨#[]⟩ else if ino = 0 then ⟨#[47]⟩ else slashed (names F F.length ino.toNat)

/-! What holds of the nodes that New makes. -/
structure Good (F : List Nd) : Prop where
  r : F[0]? = some root
  up : ∀ (i : Nat) (x : Nd), F[i]? = some x → 1 ≤ i → x.up < i ∧ kindAt F x.up = 2
  kind : ∀ (i : Nat) (x : Nd), F[i]? = some x → 1 ≤ x.m.kind ∧ x.m.kind ≤ 3
  mode : ∀ (i : Nat) (x : Nd), F[i]? = some x → x.m.mode < 65536
  size : ∀ (i : Nat) (x : Nd), F[i]? = some x → x.m.size = x.data.length ∧ (x.m.kind ≠ 1 → x.data = []) ∧ x.data.length ≤ 65536
  to : ∀ (i : Nat) (x : Nd), F[i]? = some x → x.m.kind = 3 → Pth.chk x.to = 0
  nmsz : ∀ (i : Nat) (x : Nd), F[i]? = some x → x.name.size ≤ 32
  nm : ∀ (i : Nat) (x : Nd), F[i]? = some x → 1 ≤ i → x.name ≠ dd
  one : ∀ (i j : Nat) (x y : Nd), F[i]? = some x → F[j]? = some y → 1 ≤ i → 1 ≤ j → x.up = y.up → x.name = y.name → i = j
theorem child_some {F : List Nd} (h : Good F) {d i : Nat} {nm : ByteArray} : child F d nm = some i ↔ 1 ≤ i ∧ ∃ x, F[i]? = some x ∧ x.up = d ∧ x.name = nm := by
  unfold child
  rw [Option.map_eq_some_iff]
  constructor
  · rintro ⟨j, hj, rfl⟩
    obtain ⟨hlt, hp, _⟩ := List.findIdx?_eq_some_iff_getElem.1 hj
    unfold isKid at hp
    simp only [Bool.and_eq_true, decide_eq_true_eq] at hp
    exact ⟨by omega, _, (by rw [Nat.add_comm, ← List.getElem?_drop]; exact List.getElem?_eq_getElem hlt), hp⟩
  · rintro ⟨h1, x, hx, rfl, rfl⟩
    obtain ⟨j, rfl⟩ : ∃ j, i = j + 1 := ⟨i - 1, by omega⟩
    have hj : (F.drop 1)[j]? = some x := by rw [List.getElem?_drop, Nat.add_comm]; exact hx
    refine ⟨j, List.findIdx?_eq_some_iff_getElem.2 ⟨(List.getElem?_eq_some_iff.1 hj).1, ?_, ?_⟩, rfl⟩
    · rw [(List.getElem?_eq_some_iff.1 hj).2]
      simp [isKid]
    · intro k hk hp
      have hkl : k < (F.drop 1).length := Nat.lt_trans hk (List.getElem?_eq_some_iff.1 hj).1
      have hke : F[k + 1]? = some (F.drop 1)[k] := by rw [Nat.add_comm, ← List.getElem?_drop]; exact List.getElem?_eq_getElem hkl
      have hq : isKid x.up x.name (F.drop 1)[k] = true := by simpa using hp
      unfold isKid at hq
      simp only [Bool.and_eq_true, decide_eq_true_eq] at hq
      have := h.one _ _ _ _ hke hx (by omega) (by omega) hq.1 hq.2
      omega
end Go.Proofs.Yteiciabhfjakgaa.Vf
namespace Go.Proofs.Yteiciabhfjakgaa.Vf
set_option linter.unusedVariables false
set_option linter.unusedSimpArgs false

theorem parts_sz {p : ByteArray} (h : Pth.chk p = 0) : ∀ x ∈ Pth.partsL p, x.size ≤ 32 := by
  intro x hx
  unfold Pth.partsL at hx
  rw [if_pos h] at hx
  have hm : x ∈ Pth.pcs p := (List.mem_filter.1 hx).1
  unfold Pth.chk at h
  repeat' split at h
  all_goals try (cases h; done)
  next h4 =>
    rw [Bool.not_eq_true, List.any_eq_false] at h4
    have := h4 x hm
    unfold Pth.tooLong at this
    simp at this
    exact this
theorem good_root : Good [root] where
  r := rfl
  up := fun i x h h1 => by
    cases i with
    | zero => omega
    | succ i => simp at h
  kind := fun i x h => by
    cases i with
    | zero => simp at h; subst h; decide
    | succ i => simp at h
  mode := fun i x h => by
    cases i with
    | zero => simp at h; subst h; decide
    | succ i => simp at h
  size := fun i x h => by
    cases i with
    | zero => simp at h; subst h; simp [root]
    | succ i => simp at h
  to := fun i x h hk => by
    cases i with
    | zero => simp at h; subst h; simp [root] at hk
    | succ i => simp at h
  nmsz := fun i x h => by
    cases i with
    | zero => simp at h; subst h; decide
    | succ i => simp at h
  nm := fun i x h h1 => by
    cases i with
    | zero => omega
    | succ i => simp at h
  one := fun i j x y hi hj h1 => by
    cases i with
    | zero => omega
    | succ i => simp at hi
theorem kindAt_lt {F : List Nd} {i : Nat} (h : kindAt F i = 2) : ∃ x, F[i]? = some x ∧ x.m.kind = 2 := by
  unfold kindAt at h
  split at h
  · omega
  · next x hx => exact ⟨x, hx, h⟩
theorem at_app (F : List Nd) (a b : List ByteArray) : ∀ n, at_ F n (a ++ b) = match at_ F n a with
    | none => none
    | some i => at_ F i b := by
  induction a with
  | nil => intro n; rfl
  | cons p r ih =>
    intro n
    show (match child F n p with | none => none | some i => at_ F i (r ++ b)) = match (match child F n p with | none => none | some i => at_ F i r) with | none => none | some i => at_ F i b
    cases child F n p with
    | none => rfl
    | some i => exact ih i
theorem at_lt {F : List Nd} (h : Good F) : ∀ (l : List ByteArray) (n i : Nat), n < F.length → at_ F n l = some i → i < F.length := by
  intro l
  induction l with
  | nil => intro n i hn hi; cases hi; exact hn
  | cons p r ih =>
    intro n i hn hi
    unfold at_ at hi
    cases hc : child F n p with
    | none => rw [hc] at hi; cases hi
    | some j =>
      rw [hc] at hi
      obtain ⟨_, x, hx, _⟩ := (child_some h).1 hc
      exact ih j i (List.getElem?_eq_some_iff.1 hx).1 hi
theorem good_pos {F : List Nd} (h : Good F) : 0 < F.length := (List.getElem?_eq_some_iff.1 h.r).1
theorem lastOf_app {l : List ByteArray} (h : l ≠ []) : l = l.dropLast ++ [lastOf l] := by
  unfold lastOf
  rw [List.getLast?_eq_some_getLast h]
  exact (List.dropLast_concat_getLast h).symm
theorem may_ok {e : Ent} (h : may e = 0) : (1 ≤ e.kind ∧ e.kind ≤ 3) ∧ e.mode &&& 2559 = e.mode ∧ Pth.chk e.path = 0 ∧ Pth.rootB e.path = true ∧ Pth.partsL e.path ≠ [] ∧ Pth.tailB e.path = false ∧ (∀ x ∈ Pth.partsL e.path, x ≠ dd) ∧ (e.kind ≠ 1 → e.data = []) ∧ (e.kind ≠ 3 → e.to.size = 0) ∧ (e.kind = 3 → Pth.chk e.to = 0) ∧ e.data.length ≤ 65536 := by
  unfold may at h
  split at h
  · cases h
  next h1 =>
    split at h
    · cases h
    next h2 =>
      split at h
      · cases h
      next h3 =>
        split at h
        · cases h
        next h4 =>
          simp only [not_or, Decidable.not_not, not_and, Bool.not_eq_true, Bool.not_eq_false] at h1 h2 h3
          obtain ⟨h21, h22, h23, h24, h25⟩ := h2
          refine ⟨by omega, h1.2, h21, h22, ?_, h24, ?_, h3.1, h3.2.1, h3.2.2, by omega⟩
          · intro he; rw [he] at h23; cases h23
          · intro x hx hd
            rw [List.any_eq_false] at h25
            exact h25 x hx (by simpa using hd)
/-- What an entry that may be does. -/
theorem add_ok {F : List Nd} {e : Ent} (h : (add F e).1 = 0) : may e = 0 ∧ ∃ up, at_ F 0 (Pth.partsL e.path) = none ∧ at_ F 0 (Pth.partsL e.path).dropLast = some up ∧ kindAt F up = 2 ∧ (add F e).2 = F ++ [ndOf e up] := by
  unfold add at h ⊢
  split at h
  · next hm => exact absurd h hm
  next hm =>
    rw [if_neg hm]
    split at h
    · cases h
    next ha =>
      rw [if_neg ha]
      split at h
      · cases h
      next up hu =>
        split at h
        · cases h
        next hk =>
          refine ⟨by simpa using hm, up, by simpa using ha, hu, by simpa using hk, ?_⟩
          rw [if_neg hk]
theorem kindAt_app {F : List Nd} {x : Nd} {i : Nat} (h : i < F.length) : kindAt (F ++ [x]) i = kindAt F i := by
  unfold kindAt
  rw [List.getElem?_append_left h]
theorem add_good {F : List Nd} {e : Ent} (hF : Good F) (h : (add F e).1 = 0) : Good (add F e).2 := by
  obtain ⟨hm, up, ha, hu, hk, he⟩ := add_ok h
  obtain ⟨m1, m2, m3, m4, m5, m6, m7, m8, m9, m10, m11⟩ := may_ok hm
  rw [he]
  have hlen : ∀ (i : Nat) (x : Nd), (F ++ [ndOf e up])[i]? = some x → (i < F.length ∧ F[i]? = some x) ∨ (i = F.length ∧ x = ndOf e up) := by
    intro i x hx
    by_cases hi : i < F.length
    · rw [List.getElem?_append_left hi] at hx
      exact .inl ⟨hi, hx⟩
    · rw [List.getElem?_append_right (by omega)] at hx
      have h0 : i - F.length = 0 := by
        have := (List.getElem?_eq_some_iff.1 hx).1
        simp at this
        omega
      rw [h0] at hx
      exact .inr ⟨by omega, by simpa using hx.symm⟩
  obtain ⟨xu, hxu, hxk⟩ := kindAt_lt hk
  have hul : up < F.length := (List.getElem?_eq_some_iff.1 hxu).1
  have hc : child F up (lastOf (Pth.partsL e.path)) = none := by
    have h1 := ha
    rw [lastOf_app m5, at_app, hu] at h1
    cases hq : child F up (lastOf (Pth.partsL e.path)) with
    | none => rfl
    | some j => simp [at_, hq] at h1
  have hno : ∀ (i : Nat) (x : Nd), F[i]? = some x → 1 ≤ i → x.up = up → x.name ≠ lastOf (Pth.partsL e.path) := by
    intro i x hx h1 hup hnm
    have := (child_some hF).2 ⟨h1, x, hx, hup, hnm⟩
    rw [hc] at this
    cases this
  exact {
    r := by rw [List.getElem?_append_left (good_pos hF)]; exact hF.r
    up := fun i x hx h1 => by
      rcases hlen i x hx with ⟨hi, hx⟩ | ⟨rfl, rfl⟩
      · have h2 := hF.up i x hx h1
        exact ⟨h2.1, by rw [kindAt_app (by omega)]; exact h2.2⟩
      · exact ⟨hul, (kindAt_app hul).trans hk⟩
    kind := fun i x hx => by
      rcases hlen i x hx with ⟨hi, hx⟩ | ⟨rfl, rfl⟩
      · exact hF.kind i x hx
      · exact m1
    mode := fun i x hx => by
      rcases hlen i x hx with ⟨hi, hx⟩ | ⟨rfl, rfl⟩
      · exact hF.mode i x hx
      · have h1 : e.mode &&& 2559 ≤ 2559 := Nat.and_le_right
        rw [m2] at h1
        show e.mode < 65536
        omega
    size := fun i x hx => by
      rcases hlen i x hx with ⟨hi, hx⟩ | ⟨rfl, rfl⟩
      · exact hF.size i x hx
      · exact ⟨rfl, m8, m11⟩
    to := fun i x hx hk3 => by
      rcases hlen i x hx with ⟨hi, hx⟩ | ⟨rfl, rfl⟩
      · exact hF.to i x hx hk3
      · exact m10 hk3
    nmsz := fun i x hx => by
      rcases hlen i x hx with ⟨hi, hx⟩ | ⟨rfl, rfl⟩
      · exact hF.nmsz i x hx
      · exact parts_sz m3 _ (by rw [lastOf_app m5]; simp [lastOf, ndOf])
    nm := fun i x hx h1 => by
      rcases hlen i x hx with ⟨hi, hx⟩ | ⟨rfl, rfl⟩
      · exact hF.nm i x hx h1
      · exact m7 _ (by rw [lastOf_app m5]; simp [lastOf, ndOf])
    one := fun i j x y hi hj h1 h2 hup hnm => by
      rcases hlen i x hi with ⟨hil, hi⟩ | ⟨rfl, rfl⟩
      · rcases hlen j y hj with ⟨hjl, hj⟩ | ⟨rfl, rfl⟩
        · exact hF.one i j x y hi hj h1 h2 hup hnm
        · exact absurd hnm (hno i x hi h1 hup)
      · rcases hlen j y hj with ⟨hjl, hj⟩ | ⟨rfl, rfl⟩
        · exact absurd hnm.symm (hno j y hj h2 hup.symm)
        · rfl }
theorem adds_good : ∀ (l : List Ent) (F : List Nd) (i : Nat), Good F → (adds F i l).1 = 0 → Good (adds F i l).2.2 ∧ (adds F i l).2.2.length = F.length + l.length := by
  intro l
  induction l with
  | nil => intro F i hF _; exact ⟨hF, by simp [adds]⟩
  | cons e r ih =>
    intro F i hF h
    unfold adds at h ⊢
    split at h
    · next he => exact absurd h he
    · next he =>
      rw [if_neg he]
      have h0 : (add F e).1 = 0 := by simpa using he
      obtain ⟨_, up, _, _, _, h2⟩ := add_ok h0
      obtain ⟨a, b⟩ := ih _ (i + 1) (add_good hF h0) h
      refine ⟨a, ?_⟩
      rw [b, h2]
      simp
      omega
end Go.Proofs.Yteiciabhfjakgaa.Vf
namespace Go.Proofs.Yteiciabhfjakgaa
set_option linter.unusedVariables false
set_option linter.unusedSimpArgs false
open Go.RowKit

def u32v (n : Nat) : Value := .int .u32 (n : Nat)
def metaV (m : Vf.Meta) : Value := .agg #[.int .u8 (m.kind : Nat), .int .u16 (m.mode : Nat), .int .u32 (m.uid : Nat), .int .u32 (m.gid : Nat), .int .i64 (m.size : Nat)]
def credV (c : Vf.Cred) (A : Option Addr) (n k : Nat) : Value := .agg #[.int .u32 (c.uid : Nat), .int .u32 (c.euid : Nat), .int .u32 (c.suid : Nat), .int .u32 (c.gid : Nat), .slice A n k]

theorem indexU32_any (A : Option Addr) (n c B : Nat) (xs : List Nat) (v : Nat) (w : World) (hx : Rd w B 1 A n (xs.map u32v)) (hn : n ≤ maxLen) :
    Calls Try.prog 78 #[.slice A n c, .int .u32 (v : Nat)] w fun e w' => ∃ r : Int, e = .returned (.int .i64 r) ∧ (0 ≤ r ↔ v ∈ xs) ∧ w = w' := by
  have hxl : xs.length = n := by simpa using hx.len1
  unfold maxLen at hn
  have Hx := hide hx
  have Hxl := hide hxl
  clear hx hxl
  go_enter Try.func78, Try.ntmps78
  go_wp2
  go_loop [8] (fun i => ∃ k : Nat, k ≤ n ∧ i = .int .i64 k ∧ v ∉ xs.take k) (fun i => n - (intOf i).toNat)
  case atStart => exact ⟨0, Nat.zero_le _, rfl, by simp⟩
  case round =>
    obtain ⟨k, hk, rfl, hv⟩ := hrel
    have Hv := hide hv
    clear hv
    by_cases hlt : k < n
    · obtain ⟨x, hxk⟩ : ∃ x, xs[k]? = some x := ⟨_, List.getElem?_eq_getElem (by rw [unhide Hxl]; exact hlt)⟩
      obtain ⟨b1, o1, rfl, _, c1⟩ := (unhide Hx).at_ (k := k) (u := .int .u32 (x : Nat)) (by simp [hxk, u32v])
      by_cases he : v = x
      · have hb : (((v : Nat) : Int) == ((x : Nat) : Int)) = true := by rw [he]; simp
        have hm : v ∈ xs := by rw [he]; exact List.mem_of_getElem? hxk
        have Hm := hide hm
        clear he hxk hm
        go_wp2
        go_ret
        exact ⟨k, rfl, ⟨fun _ => unhide Hm, fun _ => by omega⟩, rfl⟩
      · have hb : (((v : Nat) : Int) == ((x : Nat) : Int)) = false := by rw [beq_eq_false_iff_ne]; omega
        have hm : v ∉ xs.take (k + 1) := by
          rw [List.take_add_one, hxk, List.mem_append]
          simp [he, unhide Hv]
        have Hm := hide hm
        clear he hxk hm
        go_wp2
        go_round
        case rel => exact ⟨k + 1, by omega, by go_num, unhide Hm⟩
        case measure => simp [intOf]; omega
    · have hm : v ∉ xs := by
        have := unhide Hv
        rwa [List.take_of_length_le (by have := unhide Hxl; omega)] at this
      have Hm := hide hm
      clear hm
      go_wp2
      go_ret
      exact ⟨-1, rfl, ⟨fun h => by omega, fun h => absurd h (unhide Hm)⟩, rfl⟩

theorem containsU32_any (A : Option Addr) (n c B : Nat) (xs : List Nat) (v : Nat) (w : World) (hx : Rd w B 1 A n (xs.map u32v)) (hn : n ≤ maxLen) :
    Calls Try.prog 75 #[.slice A n c, .int .u32 (v : Nat)] w fun e w' => e = .returned (.bool (decide (v ∈ xs))) ∧ w = w' := by
  have Hx := hide hx
  clear hx
  go_enter Try.func75, Try.ntmps75
  go_wp2_with (go_at_call 78; refine (indexU32_any _ _ _ _ _ _ _ (unhide Hx) hn).mono ?_; rintro e w1 ⟨r, rfl, hr, rfl⟩; have Hr := hide hr; clear hr)
  go_ret
  refine ⟨ret_bool ?_, rfl⟩
  rw [Bool.eq_iff_iff, decide_eq_true_eq, decide_eq_true_eq]
  exact unhide Hr

theorem class_any (c : Vf.Cred) (m : Vf.Meta) (A : Option Addr) (n k B : Nat) (w : World) (hg : Rd w B 1 A n (c.groups.map u32v)) (hB : B ≤ w.heap.size) (hn : n ≤ maxLen) :
    Calls Try.prog 70 #[credV c A n k, metaV m] w fun e w' => e = .returned (.int .i64 (Vf.cls c m : Nat)) ∧ Below w.heap.size w w' := by
  have Hg := hide hg
  clear hg
  unfold credV metaV
  obtain ⟨v, hv⟩ : ∃ v, Vf.cls c m = v := ⟨_, rfl⟩
  have Hv := hide hv
  rw [hv]
  clear hv
  by_cases h1 : c.euid = m.uid
  · have b1 : (((c.euid : Nat) : Int) == ((m.uid : Nat) : Int)) = true := by rw [h1]; simp
    have hv0 : v = 0 := by rw [← unhide Hv]; unfold Vf.cls; rw [if_pos h1]
    clear h1
    go_enter Try.func70, Try.ntmps70
    go_wp2_with fail
    go_ret
    subst hv0
    exact ⟨rfl, ((Below.refl w.heap.size w).alloc (Nat.le_refl _) _).alloc (by simp) _⟩
  · have b1 : (((c.euid : Nat) : Int) == ((m.uid : Nat) : Int)) = false := by rw [beq_eq_false_iff_ne]; omega
    by_cases h2 : c.gid = m.gid
    · have b2 : (((c.gid : Nat) : Int) == ((m.gid : Nat) : Int)) = true := by rw [h2]; simp
      have hv0 : v = 1 := by rw [← unhide Hv]; unfold Vf.cls; rw [if_neg h1, if_pos (.inl h2)]
      clear h1 h2
      go_enter Try.func70, Try.ntmps70
      go_wp2_with fail
      go_ret
      subst hv0
      exact ⟨rfl, ((Below.refl w.heap.size w).alloc (Nat.le_refl _) _).alloc (by simp) _⟩
    · have b2 : (((c.gid : Nat) : Int) == ((m.gid : Nat) : Int)) = false := by rw [beq_eq_false_iff_ne]; omega
      obtain ⟨r, hr⟩ : ∃ r, decide (m.gid ∈ c.groups) = r := ⟨_, rfl⟩
      have hv0 : v = if r then 1 else 2 := by
        rw [← unhide Hv, ← hr]
        unfold Vf.cls
        rw [if_neg h1]
        by_cases h3 : m.gid ∈ c.groups
        · rw [if_pos (.inr h3), decide_eq_true h3]; rfl
        · rw [if_neg (fun h => h.elim h2 h3), decide_eq_false h3]; rfl
      have K : ∀ w', Below w.heap.size w w' → Calls Try.prog 75 #[.slice A n k, .int .u32 (m.gid : Nat)] w' fun e w2 => e = .returned (.bool r) ∧ w' = w2 := by
        intro w' hb
        have := containsU32_any A n k B c.groups m.gid w' ((unhide Hg).below (hb.mono hB)) hn
        rw [hr] at this
        exact this
      have HK := hide K
      have Hb := hide (((Below.refl w.heap.size w).alloc (Nat.le_refl _) (.cells #[.int .u32 (c.uid : Nat), .int .u32 (c.euid : Nat), .int .u32 (c.suid : Nat), .int .u32 (c.gid : Nat), .slice A n k] 44)).alloc (by simp) (.cells #[.int .u8 (m.kind : Nat), .int .u16 (m.mode : Nat), .int .u32 (m.uid : Nat), .int .u32 (m.gid : Nat), .int .i64 (m.size : Nat)] 32))
      clear h1 h2 hr K
      go_enter Try.func70, Try.ntmps70
      go_wp2_with fail
      refine ((unhide HK) _ (unhide Hb)).mono ?_
      rintro e w2 ⟨rfl, rfl⟩
      cases r
      all_goals
        go_wp2_with fail
        go_ret
        subst hv0
        exact ⟨rfl, unhide Hb⟩

theorem mask7 (n : Nat) (h : n < 65536) : bits .and .u16 (n : Int) 7 = ((n % 8 : Nat) : Int) := by
  have h := bits_mask .u16 16 (by decide) (fun n h0 h1 => by rw [IntKind.wrap_u16]; omega) 3 (by decide) (n : Int) (by omega) (by omega)
  have e : ((2 : Int) ^ 3 - 1) = 7 := rfl
  have e2 : ((2 : Int) ^ 3) = 8 := rfl
  rw [e, e2] at h
  rw [h]
  omega
theorem or3 : ∀ a b c : Fin 8, (bits .and .u16 (bits .or .u16 (bits .or .u16 ((a.val : Nat) : Int) ((b.val : Nat) : Int)) ((c.val : Nat) : Int)) 1 != 0) = (decide (a.val % 2 = 1) || decide (b.val % 2 = 1) || decide (c.val % 2 = 1)) := by decide +kernel
theorem andn1 : ∀ a : Fin 8, (bits .andNot .u16 1 ((a.val : Nat) : Int) == 0) = decide (a.val % 2 = 1) := by decide +kernel
theorem may_any (c : Vf.Cred) (m : Vf.Meta) (A : Option Addr) (n k B : Nat) (w : World) (hg : Rd w B 1 A n (c.groups.map u32v)) (hB : B ≤ w.heap.size) (hn : n ≤ maxLen) (hm : m.mode < 65536) :
    Calls Try.prog 58 #[credV c A n k, metaV m, .int .u8 1] w fun e w' => e = .returned (.bool (Vf.mayX c m)) ∧ Below w.heap.size w w' := by
  have Hg := hide hg
  have KC : ∀ w', Below w.heap.size w w' → Calls Try.prog 70 #[.agg #[.int .u32 (c.uid : Nat), .int .u32 (c.euid : Nat), .int .u32 (c.suid : Nat), .int .u32 (c.gid : Nat), .slice A n k], .agg #[.int .u8 (m.kind : Nat), .int .u16 (m.mode : Nat), .int .u32 (m.uid : Nat), .int .u32 (m.gid : Nat), .int .i64 (m.size : Nat)]] w' fun e w2 => e = .returned (.int .i64 (Vf.cls c m : Nat)) ∧ Below w'.heap.size w' w2 :=
    fun w' hb => class_any c m A n k B w' (hg.below (hb.mono hB)) (Nat.le_trans hB hb.size) hn
  clear hg
  unfold credV metaV
  obtain ⟨v, hv⟩ : ∃ v, Vf.mayX c m = v := ⟨_, rfl⟩
  have Hv := hide hv
  rw [hv]
  clear hv
  obtain ⟨x0, hx0⟩ : ∃ x0 : Nat, m.mode / 64 % 8 = x0 := ⟨_, rfl⟩
  obtain ⟨x1, hx1⟩ : ∃ x1 : Nat, m.mode / 8 % 8 = x1 := ⟨_, rfl⟩
  obtain ⟨x2, hx2⟩ : ∃ x2 : Nat, m.mode % 8 = x2 := ⟨_, rfl⟩
  have q0 : bits .and .u16 ((m.mode : Nat) / 64 : Int) 7 = ((x0 : Nat) : Int) := by rw [← hx0]; exact mask7 (m.mode / 64) (by omega)
  have q1 : bits .and .u16 ((m.mode : Nat) / 8 : Int) 7 = ((x1 : Nat) : Int) := by rw [← hx1]; exact mask7 (m.mode / 8) (by omega)
  have q2 : bits .and .u16 ((m.mode : Nat) : Int) 7 = ((x2 : Nat) : Int) := by rw [← hx2]; exact mask7 m.mode hm
  have hb0 : Vf.bits m 0 = x0 := by rw [← hx0]; rfl
  have hb1 : Vf.bits m 1 = x1 := by rw [← hx1]; rfl
  have hb2 : Vf.bits m 2 = x2 := by rw [← hx2]; rfl
  have l0 : x0 < 8 := by omega
  have l1 : x1 < 8 := by omega
  have l2 : x2 < 8 := by omega
  have e11 : (bits .and .u8 1 1 == 0) = false := by decide
  have Hb := hide (And.intro hb0 (And.intro hb1 (And.intro hb2 (And.intro l0 (And.intro l1 l2)))))
  have HB3 : Hid (Below w.heap.size w (((w.alloc (.cells #[.int .u32 (c.uid : Nat), .int .u32 (c.euid : Nat), .int .u32 (c.suid : Nat), .int .u32 (c.gid : Nat), .slice A n k] 44)).alloc (.cells #[.int .u8 (m.kind : Nat), .int .u16 (m.mode : Nat), .int .u32 (m.uid : Nat), .int .u32 (m.gid : Nat), .int .i64 (m.size : Nat)] 32)).alloc (.cells #[.int .u16 (x0 : Nat), .int .u16 (x1 : Nat), .int .u16 (x2 : Nat)] 132))) := hide ((((Below.refl w.heap.size w).alloc (Nat.le_refl _) _).alloc (by simp) _).alloc (by simp; omega) _)
  have HKC := hide KC
  clear hx0 hx1 hx2 hb0 hb1 hb2 l0 l1 l2 KC
  by_cases h0 : c.euid = 0
  · have b0 : (((c.euid : Nat) : Int) != 0) = false := by rw [h0]; rfl
    by_cases h1 : m.kind = 2
    · have b1 : (((m.kind : Nat) : Int) == 2) = true := by rw [h1]; rfl
      have hv1 : v = true := by rw [← unhide Hv]; unfold Vf.mayX; rw [if_pos h0, decide_eq_true h1]; rfl
      clear h0 h1
      go_enter Try.func58, Try.ntmps58
      go_wp2_with fail
      go_ret
      subst hv1
      exact ⟨rfl, unhide HB3⟩
    · have b1 : (((m.kind : Nat) : Int) == 2) = false := by rw [beq_eq_false_iff_ne]; omega
      have hv1 : v = (decide (x0 % 2 = 1) || decide (x1 % 2 = 1) || decide (x2 % 2 = 1)) := by
        rw [← unhide Hv]
        unfold Vf.mayX
        rw [if_pos h0, decide_eq_false h1, (unhide Hb).1, (unhide Hb).2.1, (unhide Hb).2.2.1]
        rfl
      have ho := or3 ⟨x0, (unhide Hb).2.2.2.1⟩ ⟨x1, (unhide Hb).2.2.2.2.1⟩ ⟨x2, (unhide Hb).2.2.2.2.2⟩
      rw [← hv1] at ho
      simp only at ho
      have Ho := hide ho
      clear h0 h1 hv1 ho
      go_enter Try.func58, Try.ntmps58
      go_wp2_with fail
      go_ret
      rw [unhide Ho]
      exact ⟨rfl, unhide HB3⟩
  · have b0 : (((c.euid : Nat) : Int) != 0) = true := by simp; omega
    have hc3 : Vf.cls c m = 0 ∨ Vf.cls c m = 1 ∨ Vf.cls c m = 2 := by unfold Vf.cls; split; exact .inl rfl; split; exact .inr (.inl rfl); exact .inr (.inr rfl)
    have hv1 : v = decide (Vf.bits m (Vf.cls c m) % 2 = 1) := by rw [← unhide Hv]; unfold Vf.mayX; rw [if_neg h0]
    have K3 := (unhide HKC) _ (unhide HB3)
    rcases hc3 with hc | hc | hc
    · rw [hc] at K3 hv1
      rw [(unhide Hb).1] at hv1
      have ho := andn1 ⟨x0, (unhide Hb).2.2.2.1⟩
      rw [← hv1] at ho
      simp only at ho
      have Ho := hide ho
      have HK3 := hide K3
      clear h0 hv1 ho hc K3
      go_enter Try.func58, Try.ntmps58
      go_wp2_with fail
      refine (unhide HK3).mono ?_
      rintro e w2 ⟨rfl, hb2⟩
      have bk := (Blk.new _ 132 [.int .u16 (x0 : Nat), .int .u16 (x1 : Nat), .int .u16 (x2 : Nat)]).belowSz hb2
      have v0 : w2.cell? ⟨w.heap.size + 1 + 1, 0, none⟩ = some (.int .u16 (x0 : Nat)) := by have h := bk.cell (i := 0) rfl; simpa using h
      have HB4 := hide ((unhide HB3).trans (hb2.mono (unhide HB3).size))
      clear bk hb2
      go_wp2_with fail
      go_ret
      rw [unhide Ho]
      exact ⟨rfl, unhide HB4⟩
    · rw [hc] at K3 hv1
      rw [(unhide Hb).2.1] at hv1
      have ho := andn1 ⟨x1, (unhide Hb).2.2.2.2.1⟩
      rw [← hv1] at ho
      simp only at ho
      have Ho := hide ho
      have HK3 := hide K3
      clear h0 hv1 ho hc K3
      go_enter Try.func58, Try.ntmps58
      go_wp2_with fail
      refine (unhide HK3).mono ?_
      rintro e w2 ⟨rfl, hb2⟩
      have bk := (Blk.new _ 132 [.int .u16 (x0 : Nat), .int .u16 (x1 : Nat), .int .u16 (x2 : Nat)]).belowSz hb2
      have v1 : w2.cell? ⟨w.heap.size + 1 + 1, 1, none⟩ = some (.int .u16 (x1 : Nat)) := by have h := bk.cell (i := 1) rfl; simpa using h
      have HB4 := hide ((unhide HB3).trans (hb2.mono (unhide HB3).size))
      clear bk hb2
      go_wp2_with fail
      go_ret
      rw [unhide Ho]
      exact ⟨rfl, unhide HB4⟩
    · rw [hc] at K3 hv1
      rw [(unhide Hb).2.2.1] at hv1
      have ho := andn1 ⟨x2, (unhide Hb).2.2.2.2.2⟩
      rw [← hv1] at ho
      simp only at ho
      have Ho := hide ho
      have HK3 := hide K3
      clear h0 hv1 ho hc K3
      go_enter Try.func58, Try.ntmps58
      go_wp2_with fail
      refine (unhide HK3).mono ?_
      rintro e w2 ⟨rfl, hb2⟩
      have bk := (Blk.new _ 132 [.int .u16 (x0 : Nat), .int .u16 (x1 : Nat), .int .u16 (x2 : Nat)]).belowSz hb2
      have v2 : w2.cell? ⟨w.heap.size + 1 + 1, 2, none⟩ = some (.int .u16 (x2 : Nat)) := by have h := bk.cell (i := 2) rfl; simpa using h
      have HB4 := hide ((unhide HB3).trans (hb2.mono (unhide HB3).size))
      clear bk hb2
      go_wp2_with fail
      go_ret
      rw [unhide Ho]
      exact ⟨rfl, unhide HB4⟩
end Go.Proofs.Yteiciabhfjakgaa
namespace Go.Proofs.Yteiciabhfjakgaa
set_option linter.unusedVariables false
set_option linter.unusedSimpArgs false
open Go.RowKit

/-- Where the walk stands: its own copies of the two are blocks w.heap.size and the next one. -/
structure CkS (w : World) (c : Vf.Cred) (m : Vf.Meta) (A : Option Addr) (n k B : Nat) (W : World) : Prop where
  b : Below w.heap.size w W
  cb : Blk W w.heap.size 44 [.int .u32 (c.uid : Nat), .int .u32 (c.euid : Nat), .int .u32 (c.suid : Nat), .int .u32 (c.gid : Nat), .slice A n k]
  mb : Blk W (w.heap.size + 1) 32 [.int .u8 (m.kind : Nat), .int .u16 (m.mode : Nat), .int .u32 (m.uid : Nat), .int .u32 (m.gid : Nat), .int .i64 (m.size : Nat)]
  gr : Rd W B 1 A n (c.groups.map u32v)
def ckW (w : World) (c : Vf.Cred) (m : Vf.Meta) (A : Option Addr) (n k : Nat) : World := (w.alloc (.cells #[.int .u32 (c.uid : Nat), .int .u32 (c.euid : Nat), .int .u32 (c.suid : Nat), .int .u32 (c.gid : Nat), .slice A n k] 44)).alloc (.cells #[.int .u8 (m.kind : Nat), .int .u16 (m.mode : Nat), .int .u32 (m.uid : Nat), .int .u32 (m.gid : Nat), .int .i64 (m.size : Nat)] 32)
theorem CkS.new {w : World} {c : Vf.Cred} {m : Vf.Meta} {A : Option Addr} {n k B : Nat} (hg : Rd w B 1 A n (c.groups.map u32v)) (hB : B ≤ w.heap.size) : CkS w c m A n k B (ckW w c m A n k) := by
  have hb : Below w.heap.size w (ckW w c m A n k) := ((Below.refl w.heap.size w).alloc (Nat.le_refl _) _).alloc (by simp) _
  refine ⟨hb, ?_, ?_, hg.below (hb.mono hB)⟩
  · exact (Blk.new w _ [.int .u32 (c.uid : Nat), .int .u32 (c.euid : Nat), .int .u32 (c.suid : Nat), .int .u32 (c.gid : Nat), .slice A n k]).belowSz ((Below.refl _ _).alloc (Nat.le_refl _) _)
  · have h := Blk.new (w.alloc (.cells #[.int .u32 (c.uid : Nat), .int .u32 (c.euid : Nat), .int .u32 (c.suid : Nat), .int .u32 (c.gid : Nat), .slice A n k] 44)) 32 [.int .u8 (m.kind : Nat), .int .u16 (m.mode : Nat), .int .u32 (m.uid : Nat), .int .u32 (m.gid : Nat), .int .i64 (m.size : Nat)]
    rw [World.size_alloc] at h
    exact h

theorem rclass_any (c : Vf.Cred) (m : Vf.Meta) (A : Option Addr) (n k B : Nat) (w : World) (hg : Rd w B 1 A n (c.groups.map u32v)) (hB : B ≤ w.heap.size) (hn : n ≤ maxLen) :
    Calls Try.prog 61 #[credV c A n k, metaV m] w fun e w' => e = .returned (.int .i64 (Vf.cls c m : Nat)) ∧ Below w.heap.size w w' := by
  have hgl : c.groups.length = n := by simpa using hg.len1
  have S0 : Hid (CkS w c m A n k B (ckW w c m A n k)) := hide (CkS.new hg hB)
  have Hgl := hide hgl
  unfold maxLen at hn
  unfold credV metaV
  obtain ⟨v, hv⟩ : ∃ v, Vf.cls c m = v := ⟨_, rfl⟩
  have Hv := hide hv
  rw [hv]
  clear hg hgl hv
  by_cases h1 : c.euid = m.uid
  · have b1 : (((c.euid : Nat) : Int) == ((m.uid : Nat) : Int)) = true := by rw [h1]; simp
    have hv0 : v = 0 := by rw [← unhide Hv]; unfold Vf.cls; rw [if_pos h1]
    clear h1
    go_enter Try.func61, Try.ntmps61
    go_wp2_with fail
    go_ret
    subst hv0
    exact ⟨rfl, (unhide S0).b⟩
  · have b1 : (((c.euid : Nat) : Int) == ((m.uid : Nat) : Int)) = false := by rw [beq_eq_false_iff_ne]; omega
    by_cases h2 : c.gid = m.gid
    · have b2 : (((c.gid : Nat) : Int) == ((m.gid : Nat) : Int)) = true := by rw [h2]; simp
      have hv0 : v = 1 := by rw [← unhide Hv]; unfold Vf.cls; rw [if_neg h1, if_pos (.inl h2)]
      clear h1 h2
      go_enter Try.func61, Try.ntmps61
      go_wp2_with fail
      go_ret
      subst hv0
      exact ⟨rfl, (unhide S0).b⟩
    · have b2 : (((c.gid : Nat) : Int) == ((m.gid : Nat) : Int)) = false := by rw [beq_eq_false_iff_ne]; omega
      have hv0 : v = if m.gid ∈ c.groups then 1 else 2 := by
        rw [← unhide Hv]
        unfold Vf.cls
        rw [if_neg h1]
        by_cases h3 : m.gid ∈ c.groups
        · rw [if_pos (.inr h3), if_pos h3]
        · rw [if_neg (fun h => h.elim h2 h3), if_neg h3]
      have Hv0 := hide hv0
      clear h1 h2 hv0
      go_enter Try.func61, Try.ntmps61
      go_wp2_with fail
      go_loopg [5] n (fun gk i wr => ∃ q j : Nat, gk = n - q ∧ q ≤ n ∧ i = .int .i64 q ∧ m.gid ∉ c.groups.take q ∧ wr = (ckW w c m A n k).drewN j)
      case atStart => exact ⟨0, 0, by omega, by omega, rfl, by simp, rfl⟩
      case round =>
      obtain ⟨q, jq, hgq, hq, rfl, hnot, rfl⟩ := hrel
      have Hgq := hide hgq
      have Hnot := hide hnot
      clear hgq hnot
      have v4 := (unhide S0).cb.cell (i := 4) rfl
      have v3 := (unhide S0).mb.cell (i := 3) rfl
      by_cases hlt : q < n
      · have i1 : (q : Int) < (n : Int) := by omega
        have d1 : decide (q < n) = true := by simpa using hlt
        obtain ⟨x, hx⟩ : ∃ x, c.groups[q]? = some x := ⟨_, List.getElem?_eq_getElem (by rw [unhide Hgl]; exact hlt)⟩
        obtain ⟨b3, o3, rfl, _, c3⟩ := (unhide S0).gr.at_ (k := q) (u := .int .u32 (x : Nat)) (by simp [hx, u32v])
        by_cases he : x = m.gid
        · have b3 : (((x : Nat) : Int) == ((m.gid : Nat) : Int)) = true := by rw [he]; simp
          have hin : m.gid ∈ c.groups := by rw [← he]; exact List.mem_of_getElem? hx
          have hv1 : v = 1 := by rw [unhide Hv0, if_pos hin]
          clear he hin hx
          go_wp2_with fail
          go_quiet (fail)
          go_wp2_with fail
          go_ret
          subst hv1
          exact ⟨rfl, below_drewN' (below_drewN' (unhide S0).b _) _⟩
        · have b3 : (((x : Nat) : Int) == ((m.gid : Nat) : Int)) = false := by rw [beq_eq_false_iff_ne]; omega
          have hno : m.gid ∉ c.groups.take (q + 1) := by
            rw [List.take_add_one, hx, List.mem_append]
            rintro (h | h)
            · exact (unhide Hnot) h
            · exact he (show m.gid = x by simpa using h).symm
          have Hno := hide hno
          clear he hno hx
          go_wp2_with fail
          go_quiet (fail)
          go_wp2_with fail
          go_roundg (n - (q + 1))
          case measure => have := unhide Hgq; omega
          case rel => exact ⟨q + 1, jq + nq, rfl, by omega, by go_num, unhide Hno, rfl⟩
      · obtain rfl : q = n := by omega
        have hno := unhide Hnot
        rw [List.take_of_length_le (by have := unhide Hgl; omega)] at hno
        have hv1 : v = 2 := by rw [unhide Hv0, if_neg hno]
        clear hno
        go_wp2_with fail
        go_ret
        subst hv1
        exact ⟨rfl, below_drewN' (unhide S0).b _⟩

theorem nand73 : ∀ a b c : Fin 8, decide ((64 * a.val + 8 * b.val + c.val) &&& 73 = 0) = !(decide (a.val % 2 = 1) || decide (b.val % 2 = 1) || decide (c.val % 2 = 1)) := by decide +kernel
theorem and73 (n : Nat) (h : n < 65536) : (bits .and .u16 (n : Int) 73 != 0) = (decide (n / 64 % 8 % 2 = 1) || decide (n / 8 % 8 % 2 = 1) || decide (n % 8 % 2 = 1)) := by
  have e : (73 : Int) = ((73 : Nat) : Int) := rfl
  have h1 : n &&& 73 = (n % 512) &&& 73 := by
    have h2 : n % 512 = n &&& 511 := (Nat.and_two_pow_sub_one_eq_mod n 9).symm
    rw [h2, Nat.and_assoc]
    rfl
  have h3 := nand73 ⟨n / 64 % 8, by omega⟩ ⟨n / 8 % 8, by omega⟩ ⟨n % 8, by omega⟩
  have h4 : 64 * (n / 64 % 8) + 8 * (n / 8 % 8) + n % 8 = n % 512 := by omega
  simp only [h4] at h3
  rw [e, u16_and_nat n 73 h (by omega), h1]
  have h5 : ((((n % 512 &&& 73 : Nat) : Int) != 0) : Bool) = !decide ((n % 512 &&& 73) = 0) := by
    rw [bne, Bool.not_inj_iff, Bool.eq_iff_iff, beq_iff_eq, decide_eq_true_eq]
    omega
  rw [h5, h3, Bool.not_not]
theorem and1 : ∀ a : Fin 8, (bits .and .u8 ((a.val : Nat) : Int) 1 == 1) = decide (a.val % 2 = 1) := by decide +kernel

set_option maxHeartbeats 1000000 in
theorem rmay_any (c : Vf.Cred) (m : Vf.Meta) (A : Option Addr) (n k B : Nat) (w : World) (hg : Rd w B 1 A n (c.groups.map u32v)) (hB : B ≤ w.heap.size) (hn : n ≤ maxLen) (hm : m.mode < 65536) :
    Calls Try.prog 42 #[credV c A n k, metaV m, .int .u8 1] w fun e w' => e = .returned (.bool (Vf.mayX c m)) ∧ Below w.heap.size w w' := by
  have S0 : Hid (CkS w c m A n k B (ckW w c m A n k)) := hide (CkS.new hg hB)
  have KC : ∀ w', Below w.heap.size w w' → Calls Try.prog 61 #[.agg #[.int .u32 (c.uid : Nat), .int .u32 (c.euid : Nat), .int .u32 (c.suid : Nat), .int .u32 (c.gid : Nat), .slice A n k], .agg #[.int .u8 (m.kind : Nat), .int .u16 (m.mode : Nat), .int .u32 (m.uid : Nat), .int .u32 (m.gid : Nat), .int .i64 (m.size : Nat)]] w' fun e w2 => e = .returned (.int .i64 (Vf.cls c m : Nat)) ∧ Below w'.heap.size w' w2 :=
    fun w' hb => rclass_any c m A n k B w' (hg.below (hb.mono hB)) (Nat.le_trans hB hb.size) hn
  have HKC := hide KC
  clear hg KC
  unfold credV metaV
  obtain ⟨v, hv⟩ : ∃ v, Vf.mayX c m = v := ⟨_, rfl⟩
  have Hv := hide hv
  rw [hv]
  clear hv
  by_cases h0 : c.euid = 0
  · have b0 : (((c.euid : Nat) : Int) == 0) = true := by rw [h0]; rfl
    have e11 : (bits .and .u8 1 1 == 0) = false := by decide
    by_cases h1 : m.kind = 2
    · have b1 : (((m.kind : Nat) : Int) == 2) = true := by rw [h1]; rfl
      have hv1 : v = true := by rw [← unhide Hv]; unfold Vf.mayX; rw [if_pos h0, decide_eq_true h1]; rfl
      clear h0 h1
      go_enter Try.func42, Try.ntmps42
      go_wp2_with fail
      go_ret
      subst hv1
      exact ⟨rfl, (unhide S0).b⟩
    · have b1 : (((m.kind : Nat) : Int) == 2) = false := by rw [beq_eq_false_iff_ne]; omega
      have q : (bits .and .u16 ((m.mode : Nat) : Int) 73 != 0) = v := by
        rw [and73 m.mode hm, ← unhide Hv]
        unfold Vf.mayX
        rw [if_pos h0, decide_eq_false h1]
        rfl
      clear h0 h1
      go_enter Try.func42, Try.ntmps42
      go_wp2_with fail
      go_ret
      exact ⟨rfl, (unhide S0).b⟩
  · have b0 : (((c.euid : Nat) : Int) == 0) = false := by rw [beq_eq_false_iff_ne]; omega
    have q2 := mask7 m.mode hm
    have T0 : Hid ((bits .and .u8 ((m.mode : Int) / 64 % 8) 1 == 1) = decide (m.mode / 64 % 8 % 2 = 1)) := hide (and1 ⟨m.mode / 64 % 8, Nat.mod_lt _ (by decide)⟩)
    have T1 : Hid ((bits .and .u8 ((m.mode : Int) / 8 % 8) 1 == 1) = decide (m.mode / 8 % 8 % 2 = 1)) := hide (and1 ⟨m.mode / 8 % 8, Nat.mod_lt _ (by decide)⟩)
    have T2 : Hid ((bits .and .u8 ((m.mode : Int) % 8) 1 == 1) = decide (m.mode % 8 % 2 = 1)) := hide (and1 ⟨m.mode % 8, Nat.mod_lt _ (by decide)⟩)
    have hc3 : Vf.cls c m = 0 ∨ Vf.cls c m = 1 ∨ Vf.cls c m = 2 := by unfold Vf.cls; split; exact .inl rfl; split; exact .inr (.inl rfl); exact .inr (.inr rfl)
    have hv1 : v = decide (Vf.bits m (Vf.cls c m) % 2 = 1) := by rw [← unhide Hv]; unfold Vf.mayX; rw [if_neg h0]
    clear h0
    rcases hc3 with hc | hc | hc
    all_goals
      rw [hc] at HKC hv1
      have Hv1 := hide hv1
      clear hc hv1
      go_enter Try.func42, Try.ntmps42
      go_wp2_with fail
      refine ((unhide HKC) _ (unhide S0).b).mono ?_
      rintro e w2 ⟨rfl, hb2⟩
      have S2 : Hid (Below w.heap.size w w2 ∧ Blk w2 w.heap.size 44 [.int .u32 (c.uid : Nat), .int .u32 (c.euid : Nat), .int .u32 (c.suid : Nat), .int .u32 (c.gid : Nat), .slice A n k] ∧ Blk w2 (w.heap.size + 1) 32 [.int .u8 (m.kind : Nat), .int .u16 (m.mode : Nat), .int .u32 (m.uid : Nat), .int .u32 (m.gid : Nat), .int .i64 (m.size : Nat)]) := hide ⟨(unhide S0).b.trans (hb2.mono (unhide S0).b.size), (unhide S0).cb.belowSz hb2, (unhide S0).mb.belowSz hb2⟩
      obtain ⟨x0, x1, x2, x3, x4⟩ : w2.cell? ⟨w.heap.size, 0, none⟩ = some (.int .u32 (c.uid : Nat)) ∧ w2.cell? ⟨w.heap.size, 1, none⟩ = some (.int .u32 (c.euid : Nat)) ∧ w2.cell? ⟨w.heap.size, 2, none⟩ = some (.int .u32 (c.suid : Nat)) ∧ w2.cell? ⟨w.heap.size, 3, none⟩ = some (.int .u32 (c.gid : Nat)) ∧ w2.cell? ⟨w.heap.size, 4, none⟩ = some (.slice A n k) := ⟨(unhide S2).2.1.cell rfl, (unhide S2).2.1.cell rfl, (unhide S2).2.1.cell rfl, (unhide S2).2.1.cell rfl, (unhide S2).2.1.cell rfl⟩
      obtain ⟨y0, y1, y2, y3, y4⟩ : w2.cell? ⟨w.heap.size + 1, 0, none⟩ = some (.int .u8 (m.kind : Nat)) ∧ w2.cell? ⟨w.heap.size + 1, 1, none⟩ = some (.int .u16 (m.mode : Nat)) ∧ w2.cell? ⟨w.heap.size + 1, 2, none⟩ = some (.int .u32 (m.uid : Nat)) ∧ w2.cell? ⟨w.heap.size + 1, 3, none⟩ = some (.int .u32 (m.gid : Nat)) ∧ w2.cell? ⟨w.heap.size + 1, 4, none⟩ = some (.int .i64 (m.size : Nat)) := ⟨(unhide S2).2.2.cell rfl, (unhide S2).2.2.cell rfl, (unhide S2).2.2.cell rfl, (unhide S2).2.2.cell rfl, (unhide S2).2.2.cell rfl⟩
      clear hb2
      go_wp2_with fail
      refine ((unhide HKC) _ (unhide S2).1).mono ?_
      rintro e w3 ⟨rfl, hb3⟩
      have z1 : w3.cell? ⟨w.heap.size + 1, 1, none⟩ = some (.int .u16 (m.mode : Nat)) := ((unhide S2).2.2.belowSz hb3).cell rfl
      have HB3 := hide ((unhide S2).1.trans (hb3.mono (unhide S2).1.size))
      clear hb3 x0 x1 x2 x3 x4 y0 y1 y2 y3 y4
      go_wp2_with fail
      go_ret
      refine ⟨ret_bool ?_, unhide HB3⟩
      rw [unhide Hv1]
      unfold Vf.bits
      first | rw [unhide T0] | rw [unhide T1] | rw [unhide T2]
      rfl
end Go.Proofs.Yteiciabhfjakgaa
namespace Go.Proofs.Yteiciabhfjakgaa
set_option linter.unusedVariables false
set_option linter.unusedSimpArgs false
open Go.RowKit

/-- Block g is a map with just these entries, in their order; no key stands twice. -/
structure MapG (w : World) (g : Nat) (d : TypeDesc) (m : List (Value × Value)) : Prop where
  there : ∃ es clk, w.heap[g]? = some (.map es clk) ∧ es.toList.map (fun e => (e.key, e.val)) = m
  keys : ∀ p ∈ m, Go.MapKept.IsKey d p.1
  once : m.Pairwise (fun p q => p.1 ≠ q.1)

section
variable {P : Program} {t kt e : TypeId} {d : TypeDesc} {w : World} {g : Nat} {m : List (Value × Value)} {x v : Value}
theorem findG_no (hx : Go.MapKept.IsKey d x) : ∀ (es : List MapEntry) (m : List (Value × Value)) (i : Nat), es.map (fun e => (e.key, e.val)) = m → (∀ p ∈ m, Go.MapKept.IsKey d p.1) → (∀ p ∈ m, p.1 ≠ x) → Instr.findNow d x es i = some none := by
  intro es
  induction es with
  | nil => intro m i h hk hn; rfl
  | cons e es ih =>
    intro m i h hk hn
    subst h
    simp only [List.map_cons, List.mem_cons, forall_eq_or_imp] at hk hn
    obtain ⟨r, hr, hiff⟩ := Go.MapKept.sameNow_of_keys hx hk.1
    have hrf : r = false := by
      cases r with
      | false => rfl
      | true => exact absurd (hiff.1 rfl).symm hn.1
    unfold Instr.findNow
    rw [hr, hrf]
    exact ih _ _ rfl hk.2 hn.2
theorem findG_yes (hx : Go.MapKept.IsKey d x) : ∀ (es : List MapEntry) (m : List (Value × Value)) (i : Nat), es.map (fun e => (e.key, e.val)) = m → (∀ p ∈ m, Go.MapKept.IsKey d p.1) → m.Pairwise (fun p q => p.1 ≠ q.1) → (x, v) ∈ m → ∃ j, Instr.findNow d x es i = some (some (j, v)) := by
  intro es
  induction es with
  | nil => intro m i h hk hp hm; subst h; cases hm
  | cons e es ih =>
    intro m i h hk hp hm
    subst h
    simp only [List.map_cons, List.mem_cons, forall_eq_or_imp] at hk hm
    rw [List.map_cons, List.pairwise_cons] at hp
    obtain ⟨r, hr, hiff⟩ := Go.MapKept.sameNow_of_keys hx hk.1
    unfold Instr.findNow
    rw [hr]
    rcases hm with hm | hm
    · injection hm with h1 h2
      rw [hiff.2 h1]
      exact ⟨i, by rw [h2]⟩
    · have hrf : r = false := by
        cases r with
        | false => rfl
        | true => exact absurd (hiff.1 rfl).symm (hp.1 _ hm)
      rw [hrf]
      exact ih _ _ rfl hk.2 hp.2 hm
theorem run_putG (ht : P.underlying t = some (.map kt e)) (hk : P.underlying kt = some d) (hik : Go.MapKept.IsKey d x) (h : MapG w g d m) (hx : ∀ p ∈ m, p.1 ≠ x) :
    ∃ w', (Instr.mapUpdate t (.map (some g)) x v).run P w = .ok () w' ∧ MapG w' g d (m ++ [(x, v)]) ∧ w.grownBy w' (some g) ∧ w'.heap.size = w.heap.size := by
  obtain ⟨⟨es, clk, hg, hm⟩, hks, hone⟩ := h
  have hr := findG_no hik es.toList m 0 hm hks hx
  have hlt : g < w.heap.size := (Array.getElem?_eq_some_iff.1 hg).1
  refine ⟨{ w with heap := w.heap.setIfInBounds g (.map (es.push { key := x, val := v, born := clk }) (clk + 1)) }, ?_, ⟨?_, ?_, ?_⟩, ?_, by simp⟩
  · simp [Instr.mapUpdate, run_underlying ht, Go.MapKept.run_getObj_map hg, Go.MapKept.run_checkKey hk hik, Go.MapKept.run_findKey hk hr, Go.MapKept.run_setObj_map _ hg, Result.andThen]
  · refine ⟨_, _, (Go.MapKept.heap_set hg).1, ?_⟩
    simp [hm]
  · intro p hp
    rcases List.mem_append.1 hp with hp | hp
    · exact hks p hp
    · rw [List.mem_singleton] at hp
      subst hp
      exact hik
  · rw [List.pairwise_append]
    refine ⟨hone, by simp, fun a ha b hb => ?_⟩
    rw [List.mem_singleton] at hb
    subst hb
    exact hx a ha
  · exact ⟨rfl, rfl, rfl, by simp, fun i _ hi => (Go.MapKept.heap_set hg).2 i (fun e => hi (by rw [e]))⟩
theorem run_lookG_yes (ht : P.underlying t = some (.map kt e)) (hk : P.underlying kt = some d) (hik : Go.MapKept.IsKey d x) (h : MapG w g d m) (hx : (x, v) ∈ m) :
    (Instr.lookup t (.map (some g)) x true).run P w = .ok (.tuple #[v, .bool true]) w ∧ (Instr.lookup t (.map (some g)) x false).run P w = .ok v w := by
  obtain ⟨⟨es, clk, hg, hm⟩, hks, hone⟩ := h
  obtain ⟨j, hr⟩ := findG_yes hik es.toList m 0 hm hks hone hx
  constructor <;> simp [Instr.lookup, run_underlying ht, Go.MapKept.run_getObj_map hg, Go.MapKept.run_checkKey hk hik, Go.MapKept.run_findKey hk hr, Result.andThen]
theorem run_lookG_no (ht : P.underlying t = some (.map kt e)) (hk : P.underlying kt = some d) (hik : Go.MapKept.IsKey d x) {z : Value} (hz : (zeroValue e).run P w = .ok z w) (h : MapG w g d m) (hx : ∀ p ∈ m, p.1 ≠ x) :
    (Instr.lookup t (.map (some g)) x true).run P w = .ok (.tuple #[z, .bool false]) w ∧ (Instr.lookup t (.map (some g)) x false).run P w = .ok z w := by
  obtain ⟨⟨es, clk, hg, hm⟩, hks, hone⟩ := h
  have hr := findG_no hik es.toList m 0 hm hks hx
  constructor <;> simp [Instr.lookup, run_underlying ht, Go.MapKept.run_getObj_map hg, Go.MapKept.run_checkKey hk hik, Go.MapKept.run_findKey hk hr, hz, Result.andThen]
theorem MapG.nil (w : World) (d : TypeDesc) : MapG (w.alloc (.map #[] 0)) w.heap.size d [] := ⟨⟨#[], 0, heap_alloc_new _ _, rfl⟩, by simp, by simp⟩
theorem MapG.keep {w' : World} (h : MapG w g d m) (hk : w'.heap[g]? = w.heap[g]?) : MapG w' g d m := by
  obtain ⟨⟨es, clk, hg, hm⟩, hks, hone⟩ := h
  exact ⟨⟨es, clk, hk.trans hg, hm⟩, hks, hone⟩
theorem MapG.lt (h : MapG w g d m) : g < w.heap.size := by
  obtain ⟨⟨es, clk, hg, hm⟩, hks, hone⟩ := h
  exact (Array.getElem?_eq_some_iff.1 hg).1
theorem MapG.below {w' : World} {B : Nat} (h : MapG w g d m) (hb : Below B w w') (hg : g < B) : MapG w' g d m := h.keep (hb.block g hg)
theorem MapG.belowSz {w' : World} (h : MapG w g d m) (hb : Below w.heap.size w w') : MapG w' g d m := h.below hb h.lt

/-- 'm[x] = v' of a new key at the operation (a map literal). -/
theorem wpList_putG {ops : Array Oper} {rest : List Oper} {o : Oper} {a : Act} {Q : Exit → Act → World → Prop} (hgd : o.guard = none) (mo xo vo : Operand) (ho : o.op = .insert t mo xo vo)
    (ht : P.underlying t = some (.map kt e)) (hk : P.underlying kt = some d) (hik : Go.MapKept.IsKey d x) (hmo : a.eval mo = .map (some g)) (hxo : a.eval xo = x) (hvo : a.eval vo = v) (h : MapG w g d m) (hx : ∀ p ∈ m, p.1 ≠ x)
    (hK : ∀ w', MapG w' g d (m ++ [(x, v)]) → w.grownBy w' (some g) → w'.heap.size = w.heap.size → wpList P ops Q rest (a.put o.dst undef) w') : wpList P ops Q (o :: rest) a w := by
  obtain ⟨w', hrun, h1, h2, h3⟩ := run_putG (v := v) ht hk hik h hx
  refine wpList_plain hgd fun K hK' => ?_
  unfold Oper.wp
  simp [execOp, ho, hmo, hxo, hvo, hrun, Result.andThen]
  exact hK' _ _ (hK w' h1 h2 h3)
end
end Go.Proofs.Yteiciabhfjakgaa
namespace Go.Proofs.Yteiciabhfjakgaa
set_option linter.unusedVariables false
set_option linter.unusedSimpArgs false
open Go.RowKit

def bys (b : List UInt8) : List Value := b.map fun c => .int .u8 c.toNat
theorem bys_len (b : List UInt8) : (bys b).length = b.length := by simp [bys]
theorem bys_at {b : List UInt8} {i : Nat} {x : UInt8} (h : b[i]? = some x) : (bys b)[i]? = some (.int .u8 x.toNat) := by simp [bys, h]
theorem bys_set (b : List UInt8) (i : Nat) (x : UInt8) : (bys b).set i (.int .u8 x.toNat) = bys (b.set i x) := by simp [bys, List.map_set]
theorem bys_take (b : List UInt8) (k : Nat) : (bys b).take k = bys (b.take k) := by simp [bys]
theorem bys_app (a b : List UInt8) : bys (a ++ b) = bys a ++ bys b := by simp [bys]
theorem bInfo : (Try.prog.info? 5).map (fun i => (i.zero, i.size, i.bytes)) = some (some (.int .u8 0), 1, 1) := by kernel_rfl
theorem take_ext' {α : Type} {xs ys : List α} {k : Nat} {x : α} (h : xs.take k = ys.take k) (hx : xs[k]? = some x) (hy : ys[k]? = some x) : xs.take (k + 1) = ys.take (k + 1) := by
  rw [List.take_add_one, List.take_add_one, h, hx, hy]

theorem Rd.cutN {w : World} {B n k : Nat} {A : Option Addr} {xs : List Value} (h : Rd w B 1 A n xs) (hk : k ≤ n) : Rd w B 1 A k (xs.take k) := by
  have hl := h.len1
  refine ⟨by simp; omega, ?_⟩
  rcases h.2 with h0 | ⟨b, off, e, hb, hc⟩
  · exact .inl (by simp [h0])
  · refine .inr ⟨b, off, e, hb, fun j u hu => hc j u ?_⟩
    by_cases hj : j < k
    · rwa [List.getElem?_take_of_lt hj] at hu
    · rw [List.getElem?_take_eq_none (by omega)] at hu
      cases hu

set_option maxRecDepth 100000 in
set_option maxHeartbeats 2000000 in
theorem eqBytes_any (A B : Option Addr) (n m c d K : Nat) (xs ys : List UInt8) (w : World) (ha : Rd w K 1 A n (bys xs)) (hb : Rd w K 1 B m (bys ys)) (hn : n ≤ maxLen) (hm : m ≤ maxLen) :
    Calls Try.prog 17 #[.slice A n c, .slice B m d] w fun e w' => e = .returned (.bool (decide (xs = ys))) ∧ ∃ j, w' = w.drewN j := by
  have hxl : xs.length = n := by simpa [bys] using ha.len1
  have hyl : ys.length = m := by simpa [bys] using hb.len1
  unfold maxLen at hn hm
  have Hxl := hide hxl
  have Hyl := hide hyl
  have Ha := hide ha
  have Hb := hide hb
  clear hxl hyl ha hb
  go_enter Try.func17, Try.ntmps17
  go_wp2
  go_loopw [5] (fun at_ wr => ∃ k j : Nat, at_ = .int .i64 k ∧ k ≤ n ∧ k ≤ m ∧ xs.take k = ys.take k ∧ wr = w.drewN j) (fun at_ _ => n - (intOf at_).toNat)
  case atStart => exact ⟨0, 0, rfl, Nat.zero_le _, Nat.zero_le _, rfl, rfl⟩
  case round =>
    obtain ⟨k, j, rfl, hkn, hkm, htk, rfl⟩ := hrel
    have Htk := hide htk
    clear htk
    by_cases h1 : k < n
    · have d1 : decide (k < n) = true := by simpa using h1
      have i1 : (k : Int) < (n : Int) := by omega
      by_cases h2 : k < m
      · have d2 : decide (k < m) = true := by simpa using h2
        have i2 : (k : Int) < (m : Int) := by omega
        obtain ⟨x, hx⟩ : ∃ x, xs[k]? = some x := ⟨_, List.getElem?_eq_getElem (by rw [unhide Hxl]; exact h1)⟩
        obtain ⟨y, hy⟩ : ∃ y, ys[k]? = some y := ⟨_, List.getElem?_eq_getElem (by rw [unhide Hyl]; exact h2)⟩
        obtain ⟨b1, o1, rfl, _, c1⟩ := (unhide Ha).at_ (k := k) (u := .int .u8 x.toNat) (bys_at hx)
        obtain ⟨b2, o2, rfl, _, c2⟩ := (unhide Hb).at_ (k := k) (u := .int .u8 y.toNat) (bys_at hy)
        have Hx := hide hx
        have Hy := hide hy
        have hbq := byte_eq x y
        clear hx hy
        by_cases he : x = y
        · have q : (((x.toNat : Nat) : Int) == ((y.toNat : Nat) : Int)) = true := by rw [hbq]; simpa using he
          subst he
          clear hbq
          go_wp2
          go_quiet (fail)
          go_wp2
          go_round
          case rel => exact ⟨k + 1, j + nq, by go_num, by omega, by omega, take_ext' (unhide Htk) (unhide Hx) (unhide Hy), rfl⟩
          case measure => simp [intOf]; omega
        · have q : (((x.toNat : Nat) : Int) == ((y.toNat : Nat) : Int)) = false := by rw [hbq]; simpa using he
          have He := hide he
          clear hbq he
          generalize hxn : ((x.toNat : Nat) : Int) = xn at *
          generalize hyn : ((y.toNat : Nat) : Int) = yn at *
          clear hxn hyn
          go_wp2
          go_quiet (fail)
          go_wp2
          go_ret
          refine ⟨ret_bool ?_, _, rfl⟩
          symm
          simp only [decide_eq_false_iff_not]
          rintro rfl
          exact unhide He (Option.some.inj ((unhide Hx).symm.trans (unhide Hy)))
      · have d2 : decide (k < m) = false := by simpa using h2
        go_wp2
        go_quiet (fail)
        go_wp2
        go_ret
        refine ⟨ret_bool ?_, _, rfl⟩
        symm
        simp only [decide_eq_false_iff_not]
        rintro rfl
        have := unhide Hxl
        have := unhide Hyl
        omega
    · have d1 : decide (k < n) = false := by simpa using h1
      go_wp2
      go_quiet (fail)
      go_wp2
      go_ret
      refine ⟨ret_bool ?_, _, rfl⟩
      have hl1 := unhide Hxl
      have hl2 := unhide Hyl
      rw [Bool.eq_iff_iff, beq_iff_eq, decide_eq_true_eq]
      constructor
      · intro e
        have e' := unhide Htk
        rwa [List.take_of_length_le (by omega), List.take_of_length_le (by omega)] at e'
      · rintro rfl
        omega

/-- What stands behind what Roomy gives. -/
def spare : List UInt8 := [99, 98, 97, 96, 95, 94, 93]
theorem spare_at {j : Nat} (h : j < 7) : spare[j]? = some (UInt8.ofNat (99 - j)) := by
  match j, h with
  | 0, _ => rfl
  | 1, _ => rfl
  | 2, _ => rfl
  | 3, _ => rfl
  | 4, _ => rfl
  | 5, _ => rfl
  | 6, _ => rfl
/-- What has been laid after k rounds. -/
def laidTo (F : List UInt8) (k : Nat) : List UInt8 := F.take k ++ List.replicate (F.length - k) 0
theorem laidTo_len {F : List UInt8} {k : Nat} (h : k ≤ F.length) : (laidTo F k).length = F.length := by simp [laidTo]; omega
theorem laidTo_set {F : List UInt8} {k : Nat} {x : UInt8} (h : F[k]? = some x) : (laidTo F k).set k x = laidTo F (k + 1) := by
  have hk : k < F.length := (List.getElem?_eq_some_iff.1 h).1
  unfold laidTo
  rw [List.take_add_one, h, show F.length - k = (F.length - (k + 1)) + 1 from by omega, List.replicate_succ]
  rw [List.set_append]
  simp [Nat.min_eq_left (Nat.le_of_lt hk)]
theorem laidTo_end (F : List UInt8) : laidTo F F.length = F := by simp [laidTo]
theorem laidTo_zero (F : List UInt8) : laidTo F 0 = List.replicate F.length 0 := by simp [laidTo]

end Go.Proofs.Yteiciabhfjakgaa
namespace Go.Proofs.Yteiciabhfjakgaa
set_option linter.unusedVariables false
set_option linter.unusedSimpArgs false
open Go.RowKit

/-- Where a node lies: its block; a directory's map, a file's bytes. -/
structure Pl where
  q : Nat
  g : Nat
  A : Option Addr
  n : Nat
  c : Nat
def ptrV (q : Nat) : Value := .pointer (some ⟨q, 0, none⟩)
def kindT (k : Nat) : TypeId := if k = 2 then 70 else if k = 1 then 80 else 121
def blkT (k : Nat) : TypeId := if k = 2 then 88 else if k = 1 then 83 else 124
/-- A node as an interface's value. -/
def ndV (x : Vf.Nd) (p : Pl) : Value := .iface (kindT x.m.kind) (ptrV p.q)
def lastV (x : Vf.Nd) (p : Pl) : Value := if x.m.kind = 2 then .map (some p.g) else if x.m.kind = 1 then .slice p.A p.n p.c else .string x.to
/-- A node's cells: up is the block of its directory. -/
def ndC (x : Vf.Nd) (i up : Nat) (p : Pl) : List Value := [.int .u8 (x.m.kind : Nat), .int .u16 (x.m.mode : Nat), .int .u32 (x.m.uid : Nat), .int .u32 (x.m.gid : Nat), .int .i64 (x.m.size : Nat), .int .i64 (i : Nat), ptrV up, .string x.name, lastV x p]
/-- A directory's entries, in the order of their numbers. -/
def kidsM (F : List Vf.Nd) (L : List Pl) (d : Nat) : List (Value × Value) := ((F.zip L).drop 1).filterMap fun y => if y.1.up = d then some (.string y.1.name, ndV y.1 y.2) else none
/-- A file system that can be read: F its nodes, L where they lie, f its own block; all below B. -/
structure FsR (w : World) (B f : Nat) (A : Option Addr) (c : Nat) (F : List Vf.Nd) (L : List Pl) : Prop where
  len : L.length = F.length
  lt : f < B
  fs : Blk w f 104 [.slice A F.length c]
  row : Rd w B 1 A F.length ((F.zip L).map fun y => ndV y.1 y.2)
  nd : ∀ (i : Nat) (x : Vf.Nd) (p : Pl), F[i]? = some x → L[i]? = some p → p.q < B ∧ ∃ u, L[x.up]? = some u ∧ Blk w p.q (blkT x.m.kind) (ndC x i u.q p)
  byt : ∀ (i : Nat) (x : Vf.Nd) (p : Pl), F[i]? = some x → L[i]? = some p → x.m.kind = 1 → p.n = x.data.length ∧ Rd w B 1 p.A p.n (x.data.map fun b => Value.int .u8 (b.toNat : Nat))
theorem FsR.at_ {w : World} {B f : Nat} {A : Option Addr} {c : Nat} {F : List Vf.Nd} {L : List Pl} (h : FsR w B f A c F L) {i : Nat} (hi : i < F.length) : ∃ x p, F[i]? = some x ∧ L[i]? = some p ∧ ((F.zip L).map fun y => ndV y.1 y.2)[i]? = some (ndV x p) := by
  have hl : i < L.length := by rw [h.len]; exact hi
  refine ⟨F[i], L[i], List.getElem?_eq_getElem hi, List.getElem?_eq_getElem hl, ?_⟩
  rw [List.getElem?_map, List.getElem?_eq_getElem (by rw [List.length_zip]; omega), List.getElem_zip]
  rfl
theorem FsR.drewN {w : World} {B f : Nat} {A : Option Addr} {c : Nat} {F : List Vf.Nd} {L : List Pl} (h : FsR w B f A c F L) (j : Nat) : FsR (w.drewN j) B f A c F L := ⟨h.len, h.lt, h.fs, h.row.drewN j, h.nd, fun i x p h1 h2 h3 => ⟨(h.byt i x p h1 h2 h3).1, (h.byt i x p h1 h2 h3).2.drewN j⟩⟩
theorem FsR.below {w w' : World} {B f : Nat} {A : Option Addr} {c : Nat} {F : List Vf.Nd} {L : List Pl} (h : FsR w B f A c F L) (hb : Below B w w') : FsR w' B f A c F L :=
  ⟨h.len, h.lt, h.fs.below hb h.lt, h.row.below hb, fun i x p h1 h2 => by
    obtain ⟨a, u, b, d⟩ := h.nd i x p h1 h2
    exact ⟨a, u, b, d.below hb a⟩, fun i x p h1 h2 h3 => ⟨(h.byt i x p h1 h2 h3).1, (h.byt i x p h1 h2 h3).2.below hb⟩⟩
/-- What node answers. -/
def nodeV (F : List Vf.Nd) (L : List Pl) (ino : Int) : Value := if ino < 0 ∨ F.length ≤ ino.toNat then .nilIface else ((F.zip L).map fun y => ndV y.1 y.2)[ino.toNat]?.getD .nilIface

theorem node_any (F : List Vf.Nd) (L : List Pl) (f c B : Nat) (A : Option Addr) (ino : Int) (w : World) (h : FsR w B f A c F L) (hn : F.length ≤ 65) :
    Calls Try.prog 30 #[ptrV f, .int .i64 ino] w fun e w' => e = .returned (nodeV F L ino) ∧ w = w' := by
  have H := hide h
  have v0 := h.fs.cell (i := 0) rfl
  obtain ⟨n, hfn⟩ : ∃ n, F.length = n := ⟨_, rfl⟩
  rw [hfn] at v0 hn
  have Hfn := hide hfn
  clear h hfn
  unfold ptrV
  obtain ⟨r, hr⟩ : ∃ r, nodeV F L ino = r := ⟨_, rfl⟩
  rw [hr]
  have Hr := hide hr
  clear hr
  by_cases h0 : ino < 0
  · have hr : r = .nilIface := by rw [← unhide Hr]; unfold nodeV; rw [if_pos (.inl h0)]
    go_enter Try.func30, Try.ntmps30
    go_wp2_with fail
    go_ret
    subst hr
    exact ⟨rfl, rfl⟩
  · obtain ⟨i, rfl⟩ := Int.eq_ofNat_of_zero_le (show 0 ≤ ino by omega)
    by_cases h1 : i < n
    · obtain ⟨x, p, hx, hp, hv⟩ := (unhide H).at_ (i := i) (by rw [unhide Hfn]; exact h1)
      have hr : r = ndV x p := by
        rw [← unhide Hr]
        unfold nodeV
        rw [if_neg (by rw [unhide Hfn]; simp; omega)]
        simp only [Int.toNat_natCast]
        rw [hv]
        rfl
      obtain ⟨b3, o3, rfl, _, c3⟩ := (unhide H).row.at_ (k := i) hv
      have i1 : (i : Int) < (n : Int) := by omega
      have i2 : ¬ (n : Int) ≤ (i : Int) := by omega
      clear hx hp hv
      rw [hr]
      generalize ndV x p = z at *
      clear hr Hr
      go_enter Try.func30, Try.ntmps30
      go_wp2_with fail
      go_ret
      exact ⟨rfl, rfl⟩
    · have hr : r = .nilIface := by rw [← unhide Hr]; unfold nodeV; rw [if_pos (.inr (by rw [unhide Hfn]; simp; omega))]
      have i2 : (n : Int) ≤ (i : Int) := by omega
      go_enter Try.func30, Try.ntmps30
      go_wp2_with fail
      go_ret
      subst hr
      exact ⟨rfl, rfl⟩
end Go.Proofs.Yteiciabhfjakgaa
namespace Go.Proofs.Yteiciabhfjakgaa
set_option linter.unusedVariables false
set_option linter.unusedSimpArgs false
open Go.RowKit

/-- 'n.about()' through the interface: the base's own method, whatever the node (258: the table's types and Made.depth). -/
theorem about_dir (w : World) (q : Nat) : (method 258 70 (.pointer (some ⟨q, 0, none⟩)) "hostel/vfs.about").run Try.prog w = .ok (33, .pointer (some ⟨q, 0, none⟩)) w := by kernel_rfl
theorem about_file (w : World) (q : Nat) : (method 258 80 (.pointer (some ⟨q, 0, none⟩)) "hostel/vfs.about").run Try.prog w = .ok (33, .pointer (some ⟨q, 0, none⟩)) w := by kernel_rfl
theorem about_link (w : World) (q : Nat) : (method 258 121 (.pointer (some ⟨q, 0, none⟩)) "hostel/vfs.about").run Try.prog w = .ok (33, .pointer (some ⟨q, 0, none⟩)) w := by kernel_rfl
theorem about_any (a : Addr) (w : World) : Calls Try.prog 33 #[.pointer (some a)] w fun e w' => e = .returned (.pointer (some a)) ∧ w = w' := by
  go_enter Try.func33, Try.ntmps33
  go_wp2_with fail
  go_ret
  exact ⟨rfl, rfl⟩
theorem ndCells {w : World} {x : Vf.Nd} {i up : Nat} {p : Pl} {t : TypeId} (h : Blk w p.q t (ndC x i up p)) : w.cell? ⟨p.q, 0, none⟩ = some (.int .u8 (x.m.kind : Nat)) ∧ w.cell? ⟨p.q, 1, none⟩ = some (.int .u16 (x.m.mode : Nat)) ∧ w.cell? ⟨p.q, 2, none⟩ = some (.int .u32 (x.m.uid : Nat)) ∧ w.cell? ⟨p.q, 3, none⟩ = some (.int .u32 (x.m.gid : Nat)) ∧ w.cell? ⟨p.q, 4, none⟩ = some (.int .i64 (x.m.size : Nat)) :=
  ⟨h.cell rfl, h.cell rfl, h.cell rfl, h.cell rfl, h.cell rfl⟩
theorem metaInfo : (Try.prog.info? 32).map (·.size) = some 5 := by kernel_rfl
theorem meta_nil (ino : Int) (w : World) : Calls Try.prog 13 #[.pointer none, .int .i64 ino] w fun e w' => e = .returned (.tuple #[metaV Vf.zeroMeta, .int .i64 2]) ∧ Below w.heap.size w w' := by
  go_enter Try.func13, Try.ntmps13
  go_wp2_with fail
  refine bodyPost_ret (results_cell_tmp (P := Try.prog) rfl _ _ w.heap.size 32 #[.int .u8 0, .int .u16 0, .int .u32 0, .int .u32 0, .int .i64 0] (0, 0) _ rfl (heap_alloc_new _ _) Try.underlying32 rfl metaInfo) rfl ?_
  exact ⟨rfl, (Below.refl w.heap.size w).alloc (Nat.le_refl _) _⟩
set_option maxRecDepth 100000 in
theorem meta_any (F : List Vf.Nd) (L : List Pl) (f c B : Nat) (A : Option Addr) (ino : Int) (w : World) (h : FsR w B f A c F L) (hB : B ≤ w.heap.size) (hn : F.length ≤ 65) (hkd : ∀ (i : Nat) (x : Vf.Nd), F[i]? = some x → 1 ≤ x.m.kind ∧ x.m.kind ≤ 3) :
    Calls Try.prog 13 #[ptrV f, .int .i64 ino] w fun e w' => e = .returned (.tuple #[metaV (Vf.metaOf F ino).1, .int .i64 (Vf.metaOf F ino).2]) ∧ Below w.heap.size w w' := by
  have K : ∀ w', Below w.heap.size w w' → Calls Try.prog 30 #[.pointer (some ⟨f, 0, none⟩), .int .i64 ino] w' fun e w2 => e = .returned (nodeV F L ino) ∧ w' = w2 :=
    fun w' hb => node_any F L f c B A ino w' (h.below (hb.mono hB)) hn
  obtain ⟨⟨rm, re⟩, hr⟩ : ∃ r, Vf.metaOf F ino = r := ⟨_, rfl⟩
  rw [hr]
  dsimp only
  have Hr := hide hr
  clear hr
  have HK := hide K
  have H := hide h
  clear h K
  unfold ptrV
  have qn : ∀ w', (binOp .eql 68 .nilIface .nilIface).run Try.prog w' = .ok (.bool true) w' := fun w' => by kernel_rfl
  have qi : ∀ w' t v, (binOp .eql 68 (.iface t v) .nilIface).run Try.prog w' = .ok (.bool false) w' := fun w' t v => by kernel_rfl
  have HB := hide ((Below.refl w.heap.size w).alloc (Nat.le_refl _) (.cells #[.int .u8 0, .int .u16 0, .int .u32 0, .int .u32 0, .int .i64 0] 32))
  go_enter Try.func13, Try.ntmps13
  go_wp2_with fail
  refine ((unhide HK) _ (unhide HB)).mono ?_
  rintro e w2 ⟨rfl, rfl⟩
  by_cases ho : ino < 0 ∨ F.length ≤ ino.toNat
  · have e1 : nodeV F L ino = .nilIface := by unfold nodeV; rw [if_pos ho]
    have e2 : Vf.metaOf F ino = (Vf.zeroMeta, 3) := by unfold Vf.metaOf; rw [if_pos ho]
    rw [e1]
    obtain ⟨rfl, rfl⟩ := Prod.mk.inj ((unhide Hr).symm.trans e2)
    clear e1 e2 ho
    go_wp2_with fail
    refine bodyPost_ret (results_cell_tmp (P := Try.prog) rfl _ _ w.heap.size 32 #[.int .u8 0, .int .u16 0, .int .u32 0, .int .u32 0, .int .i64 0] (0, 0) _ rfl (heap_alloc_new _ _) Try.underlying32 rfl metaInfo) rfl ?_
    exact ⟨rfl, unhide HB⟩
  · obtain ⟨i, rfl⟩ := Int.eq_ofNat_of_zero_le (show 0 ≤ ino by omega)
    have hi : i < F.length := by simp at ho; omega
    obtain ⟨x, p, hx, hp, hv⟩ := (unhide H).at_ hi
    obtain ⟨hq, u, hu, hk⟩ := (unhide H).nd i x p hx hp
    have e1 : nodeV F L (i : Nat) = ndV x p := by
      unfold nodeV
      rw [if_neg ho]
      simp only [Int.toNat_natCast]
      rw [hv]
      rfl
    have e2 : Vf.metaOf F (i : Nat) = (x.m, 0) := by
      unfold Vf.metaOf Vf.nd
      rw [if_neg ho]
      simp only [Int.toNat_natCast]
      rw [hx]
      rfl
    rw [e1]
    obtain ⟨rfl, rfl⟩ := Prod.mk.inj ((unhide Hr).symm.trans e2)
    unfold ndV ptrV
    clear e1 e2 ho
    obtain ⟨k1, k3⟩ : 1 ≤ x.m.kind ∧ x.m.kind ≤ 3 := hkd i x hx
    rcases (show x.m.kind = 1 ∨ x.m.kind = 2 ∨ x.m.kind = 3 by omega) with h1 | h1 | h1
    · have et : kindT x.m.kind = 80 := by rw [h1]; rfl
      rw [et]
      have hm := fun w' => about_file w' p.q
      have hk2 := hk.below ((unhide HB).mono hB) hq
      obtain ⟨y0, y1, y2, y3, y4⟩ := ndCells hk2
      have Hn := hide h1
      clear hk hk2 et h1 k1 k3 hx hp hu hv hi
      go_wp2_with fail
      refine (about_any _ _).mono ?_
      rintro e w3 ⟨rfl, rfl⟩
      go_wp2_with fail
      refine bodyPost_ret (results_cell_tmp (P := Try.prog) rfl _ _ w.heap.size 32 #[.int .u8 (x.m.kind : Nat), .int .u16 (x.m.mode : Nat), .int .u32 (x.m.uid : Nat), .int .u32 (x.m.gid : Nat), .int .i64 (x.m.size : Nat)] (0, 0) _ rfl (heap_alloc_new _ _) Try.underlying32 rfl metaInfo) rfl ?_
      exact ⟨rfl, (Below.refl w.heap.size w).alloc (Nat.le_refl _) _⟩
    · have et : kindT x.m.kind = 70 := by rw [h1]; rfl
      rw [et]
      have hm := fun w' => about_dir w' p.q
      have hk2 := hk.below ((unhide HB).mono hB) hq
      obtain ⟨y0, y1, y2, y3, y4⟩ := ndCells hk2
      have Hn := hide h1
      clear hk hk2 et h1 k1 k3 hx hp hu hv hi
      go_wp2_with fail
      refine (about_any _ _).mono ?_
      rintro e w3 ⟨rfl, rfl⟩
      go_wp2_with fail
      refine bodyPost_ret (results_cell_tmp (P := Try.prog) rfl _ _ w.heap.size 32 #[.int .u8 (x.m.kind : Nat), .int .u16 (x.m.mode : Nat), .int .u32 (x.m.uid : Nat), .int .u32 (x.m.gid : Nat), .int .i64 (x.m.size : Nat)] (0, 0) _ rfl (heap_alloc_new _ _) Try.underlying32 rfl metaInfo) rfl ?_
      exact ⟨rfl, (Below.refl w.heap.size w).alloc (Nat.le_refl _) _⟩
    · have et : kindT x.m.kind = 121 := by rw [h1]; rfl
      rw [et]
      have hm := fun w' => about_link w' p.q
      have hk2 := hk.below ((unhide HB).mono hB) hq
      obtain ⟨y0, y1, y2, y3, y4⟩ := ndCells hk2
      have Hn := hide h1
      clear hk hk2 et h1 k1 k3 hx hp hu hv hi
      go_wp2_with fail
      refine (about_any _ _).mono ?_
      rintro e w3 ⟨rfl, rfl⟩
      go_wp2_with fail
      refine bodyPost_ret (results_cell_tmp (P := Try.prog) rfl _ _ w.heap.size 32 #[.int .u8 (x.m.kind : Nat), .int .u16 (x.m.mode : Nat), .int .u32 (x.m.uid : Nat), .int .u32 (x.m.gid : Nat), .int .i64 (x.m.size : Nat)] (0, 0) _ rfl (heap_alloc_new _ _) Try.underlying32 rfl metaInfo) rfl ?_
      exact ⟨rfl, (Below.refl w.heap.size w).alloc (Nat.le_refl _) _⟩
end Go.Proofs.Yteiciabhfjakgaa
namespace Go.Proofs.Yteiciabhfjakgaa
set_option linter.unusedVariables false
set_option linter.unusedSimpArgs false
open Go.RowKit

theorem path_nil (ino : Int) (w : World) : Calls Try.prog 18 #[.pointer none, .int .i64 ino] w fun e w' => e = .returned (.string ⟨#[]⟩) ∧ Below w.heap.size w w' := by
  go_enter Try.func18, Try.ntmps18
  go_wp2_with fail
  go_ret
  exact ⟨rfl, Below.refl _ _⟩
theorem walk_nil (c : Vf.Cred) (A : Option Addr) (n k : Nat) (src : Int) (path : ByteArray) (last : Bool) (w : World) : Calls Try.prog 21 #[.pointer none, credV c A n k, .int .i64 src, .string path, .bool last] w fun e w' => e = .returned (.tuple #[.int .i64 0, .int .i64 2]) ∧ Below w.heap.size w w' := by
  unfold credV
  go_enter Try.func21, Try.ntmps21
  go_wp2_with fail
  go_ret2
  exact ⟨rfl, (Below.refl _ _).alloc (Nat.le_refl _) _⟩
theorem read_nil (ino off n : Int) (w : World) : Calls Try.prog 15 #[.pointer none, .int .i64 ino, .int .i64 off, .int .i64 n] w fun e w' => e = .returned (.tuple #[.slice none 0 0, .int .i64 2]) ∧ Below w.heap.size w w' := by
  have K := hide (meta_nil ino w)
  unfold metaV Vf.zeroMeta at K
  go_enter Try.func15, Try.ntmps15
  go_wp2_with fail
  refine (unhide K).mono ?_
  rintro e w1 ⟨rfl, hb1⟩
  have Hb1 := hide hb1
  clear hb1
  go_wp2_with fail
  go_ret2
  exact ⟨rfl, (unhide Hb1).alloc (unhide Hb1).size _⟩
end Go.Proofs.Yteiciabhfjakgaa
namespace Go.Proofs.Yteiciabhfjakgaa
set_option linter.unusedVariables false
set_option linter.unusedSimpArgs false
open Go.RowKit

theorem as_dir (v : Value) (w : World) : (Instr.typeAssert (.iface 70 v) 68 70 false).run Try.prog w = .ok v w := by
  simp [Instr.typeAssert, run_underlying Try.underlying70, go_sem, Result.andThen]
theorem is_dir (v : Value) (w : World) : (Instr.typeAssert (.iface 70 v) 68 70 true).run Try.prog w = .ok (.tuple #[v, .bool true]) w := by
  simp [Instr.typeAssert, run_underlying Try.underlying70, go_sem, Result.andThen]
theorem zero_dir (w : World) : (zeroValue 70).run Try.prog w = .ok (.pointer none) w := by kernel_rfl
theorem file_no_dir (v : Value) (w : World) : (Instr.typeAssert (.iface 80 v) 68 70 true).run Try.prog w = .ok (.tuple #[.pointer none, .bool false]) w := by
  simp [Instr.typeAssert, run_underlying Try.underlying70, zero_dir, go_sem, Result.andThen]
theorem link_no_dir (v : Value) (w : World) : (Instr.typeAssert (.iface 121 v) 68 70 true).run Try.prog w = .ok (.tuple #[.pointer none, .bool false]) w := by
  simp [Instr.typeAssert, run_underlying Try.underlying70, zero_dir, go_sem, Result.andThen]
theorem nil_no_dir (w : World) : (Instr.typeAssert .nilIface 68 70 true).run Try.prog w = .ok (.tuple #[.pointer none, .bool false]) w := by
  simp [Instr.typeAssert, run_underlying Try.underlying70, zero_dir, go_sem, Result.andThen]
theorem root_any (F : List Vf.Nd) (L : List Pl) (f c B : Nat) (A : Option Addr) (w : World) (h : FsR w B f A c F L) (hn : F.length ≤ 65) (x : Vf.Nd) (p : Pl) (hx : F[0]? = some x) (hp : L[0]? = some p) (hk : x.m.kind = 2) :
    Calls Try.prog 37 #[ptrV f] w fun e w' => e = .returned (ptrV p.q) ∧ w = w' := by
  have hl : 0 < F.length := (List.getElem?_eq_some_iff.1 hx).1
  obtain ⟨x', p', hx', hp', hv⟩ := h.at_ hl
  obtain rfl : x = x' := Option.some.inj (hx.symm.trans hx')
  obtain rfl : p = p' := Option.some.inj (hp.symm.trans hp')
  obtain ⟨b3, o3, rfl, _, c3⟩ := h.row.at_ (k := 0) hv
  have v0 := h.fs.cell (i := 0) rfl
  obtain ⟨n, hfn⟩ : ∃ n, F.length = n := ⟨_, rfl⟩
  rw [hfn] at v0 hl
  have e : ndV x p = .iface 70 (.pointer (some ⟨p.q, 0, none⟩)) := by unfold ndV kindT ptrV; rw [if_pos hk]
  rw [e, Nat.add_zero] at c3
  have ha := as_dir (.pointer (some ⟨p.q, 0, none⟩))
  have i1 : (0 : Int) < (n : Int) := by omega
  clear h hx hp hx' hp' hv e hfn hk hn
  unfold ptrV
  go_enter Try.func37, Try.ntmps37
  go_wp2_with fail
  go_ret
  exact ⟨rfl, rfl⟩
end Go.Proofs.Yteiciabhfjakgaa
namespace Go.Proofs.Yteiciabhfjakgaa.Vf
set_option linter.unusedVariables false
set_option linter.unusedSimpArgs false

theorem child_dir {F : List Nd} (h : Good F) {d j : Nat} {nm : ByteArray} (hc : child F d nm = some j) : kindAt F d = 2 ∧ d < j ∧ j < F.length := by
  obtain ⟨h1, x, hx, hu, _⟩ := (child_some h).1 hc
  have := h.up j x hx h1
  rw [hu] at this
  exact ⟨this.2, this.1, (List.getElem?_eq_some_iff.1 hx).1⟩
theorem child_none {F : List Nd} (h : Good F) {d : Nat} {nm : ByteArray} (hk : kindAt F d ≠ 2) : child F d nm = none := by
  cases hc : child F d nm with
  | none => rfl
  | some j => exact absurd (child_dir h hc).1 hk
theorem at_next {F : List Nd} {l : List ByteArray} {k i n : Nat} {nm : ByteArray} (hi : at_ F n (l.take k) = some i) (hx : l[k]? = some nm) : at_ F n (l.take (k + 1)) = child F i nm := by
  rw [List.take_add_one, hx, at_app, hi]
  show at_ F i [nm] = child F i nm
  unfold at_
  cases child F i nm with
  | none => rfl
  | some j => rfl
theorem at_stop {F : List Nd} {l : List ByteArray} {k n : Nat} (hi : at_ F n (l.take k) = none) : at_ F n l = none := by
  have h := at_app F (l.take k) (l.drop k) n
  rw [List.take_append_drop, hi] at h
  exact h
theorem kindAt_eq {F : List Nd} {i : Nat} {x : Nd} (h : F[i]? = some x) : kindAt F i = x.m.kind := by unfold kindAt; rw [h]
theorem nd_eq {F : List Nd} {i : Nat} {x : Nd} (h : F[i]? = some x) : nd F i = x := by unfold nd; rw [h]; rfl
theorem up_lt {F : List Nd} (h : Good F) {i : Nat} {x : Nd} (hx : F[i]? = some x) : x.up < F.length ∧ kindAt F x.up = 2 := by
  have hl := (List.getElem?_eq_some_iff.1 hx).1
  by_cases h1 : 1 ≤ i
  · have := h.up i x hx h1
    exact ⟨by omega, this.2⟩
  · obtain rfl : i = 0 := by omega
    have hr := h.r
    rw [hx] at hr
    injection hr with hr
    subst hr
    exact ⟨good_pos h, (kindAt_eq (i := 0) hx).trans rfl⟩
theorem root_dir {F : List Nd} (h : Good F) : kindAt F 0 = 2 := by rw [kindAt_eq h.r]; rfl
/-! One part, case by case. -/
section
variable {F : List Nd} {c : Cred} {last : Bool} {s : St} {p : ByteArray} {r : List ByteArray}
theorem hop_nil (h : s.left = []) : hop F c last s = .inl (0, s.at_) := by unfold hop; rw [h]
theorem hop_no (h : s.left = p :: r) (hk : kindAt F s.at_ ≠ 2) : hop F c last s = .inl (8, 0) := by unfold hop; rw [h]; simp only; rw [if_pos hk]
theorem hop_shut (h : s.left = p :: r) (hk : kindAt F s.at_ = 2) (hm : mayX c (nd F s.at_).m = false) : hop F c last s = .inl (5, 0) := by
  unfold hop; rw [h]; simp only; rw [if_neg (by simp [hk]), if_pos hm]
theorem hop_up (h : s.left = p :: r) (hk : kindAt F s.at_ = 2) (hm : mayX c (nd F s.at_).m = true) (hp : p = dd) : hop F c last s = .inr ⟨(nd F s.at_).up, s.links, r⟩ := by
  unfold hop; rw [h]; simp only; rw [if_neg (by simp [hk]), if_neg (by simp [hm]), if_pos hp]
theorem hop_none (h : s.left = p :: r) (hk : kindAt F s.at_ = 2) (hm : mayX c (nd F s.at_).m = true) (hp : p ≠ dd) (hc : child F s.at_ p = none) : hop F c last s = .inl (3, 0) := by
  unfold hop; rw [h]; simp only; rw [if_neg (by simp [hk]), if_neg (by simp [hm]), if_neg hp, hc]
theorem hop_in {n : Nat} (h : s.left = p :: r) (hk : kindAt F s.at_ = 2) (hm : mayX c (nd F s.at_).m = true) (hp : p ≠ dd) (hc : child F s.at_ p = some n) (h3 : kindAt F n ≠ 3 ∨ (r = [] ∧ last = false)) : hop F c last s = .inr ⟨n, s.links, r⟩ := by
  unfold hop; rw [h]; simp only; rw [if_neg (by simp [hk]), if_neg (by simp [hm]), if_neg hp, hc]; simp only; rw [if_pos h3]
theorem hop_loop {n : Nat} (h : s.left = p :: r) (hk : kindAt F s.at_ = 2) (hm : mayX c (nd F s.at_).m = true) (hp : p ≠ dd) (hc : child F s.at_ p = some n) (h3 : ¬ (kindAt F n ≠ 3 ∨ (r = [] ∧ last = false))) (h8 : 8 ≤ s.links) : hop F c last s = .inl (10, 0) := by
  unfold hop; rw [h]; simp only; rw [if_neg (by simp [hk]), if_neg (by simp [hm]), if_neg hp, hc]; simp only; rw [if_neg h3, if_pos h8]
theorem hop_link {n : Nat} (h : s.left = p :: r) (hk : kindAt F s.at_ = 2) (hm : mayX c (nd F s.at_).m = true) (hp : p ≠ dd) (hc : child F s.at_ p = some n) (h3 : ¬ (kindAt F n ≠ 3 ∨ (r = [] ∧ last = false))) (h8 : ¬ 8 ≤ s.links) : hop F c last s = .inr ⟨if Pth.rootB (nd F n).to then 0 else s.at_, s.links + 1, Pth.partsL (nd F n).to ++ r⟩ := by
  unfold hop; rw [h]; simp only; rw [if_neg (by simp [hk]), if_neg (by simp [hm]), if_neg hp, hc]; simp only; rw [if_neg h3, if_neg h8]
end
end Go.Proofs.Yteiciabhfjakgaa.Vf
namespace Go.Proofs.Yteiciabhfjakgaa
set_option linter.unusedVariables false
set_option linter.unusedSimpArgs false
open Go.RowKit

/-- Cells that are read, all in one block of elements t of a base on. -/
def RdI (w : World) (lo : Nat) (t : TypeId) (size : Nat) (A : Option Addr) (n : Nat) (xs : List Value) : Prop :=
  xs.length = n * size ∧ (xs = [] ∨ ∃ b off cs fz, A = some ⟨b, off, none⟩ ∧ lo ≤ b ∧ w.heap[b]? = some (.cells cs t fz) ∧ ∀ j u, xs[j]? = some u → cs[off + j]? = some u)
theorem RdI.rd {w : World} {lo : Nat} {t : TypeId} {size : Nat} {A : Option Addr} {n : Nat} {xs : List Value} (h : RdI w lo t size A n xs) : Rd w w.heap.size size A n xs :=
  ⟨h.1, h.2.imp id fun ⟨b, off, cs, fz, e, hlo, hb, hc⟩ => ⟨b, off, e, (Array.getElem?_eq_some_iff.1 hb).1, fun j u hu => by rw [cell_of_row _ _ _ _ _ _ hb]; exact hc j u hu⟩⟩
theorem RdI.keep {w w' : World} {lo : Nat} {t : TypeId} {size : Nat} {A : Option Addr} {n : Nat} {xs : List Value} (h : RdI w lo t size A n xs) (hk : ∀ k o, lo ≤ k → w.heap[k]? = some o → (∃ cs fz, o = .cells cs t fz) → w'.heap[k]? = some o) : RdI w' lo t size A n xs :=
  ⟨h.1, h.2.imp id fun ⟨b, off, cs, fz, e, hlo, hb, hc⟩ => ⟨b, off, cs, fz, e, hlo, hk b _ hlo hb ⟨_, _, rfl⟩, hc⟩⟩
theorem RdI.of_own {w : World} {base : Nat} {t : TypeId} {size c : Nat} {A : Option Addr} {n : Nat} {xs : List Value} (h : w.ownsRow base t size (.slice A n c) n xs) : RdI w base t size A n xs := by
  refine ⟨h.1, ?_⟩
  rcases h.2 with ⟨_, h0⟩ | ⟨g, cap, cur, hv, hbg, hh, hcap, hcm, hsz, htk⟩
  · exact .inl (List.eq_nil_of_length_eq_zero (by rw [h.1, h0]; simp))
  · have hA : A = some ⟨g, 0, none⟩ := by injection hv
    refine .inr ⟨g, 0, cur, (0, 0), hA, hbg, hh, fun j u hu => ?_⟩
    rw [Nat.zero_add]
    rw [← htk, List.getElem?_take] at hu
    split at hu
    · simpa using hu
    · cases hu

theorem own_keepA {w w' : World} {lo : Nat} {e : TypeId} {u : Value} {k size : Nat} {xs : List Value} (h : w.ownsRow lo e size u k xs) (hk : ∀ k, lo ≤ k → k < w.heap.size → w'.heap[k]? = w.heap[k]?) : w'.ownsRow lo e size u k xs :=
  ⟨h.1, h.2.imp id fun ⟨g, cap, cur, e1, e2, e3, r⟩ => ⟨g, cap, cur, e1, e2, (hk g e2 (Array.getElem?_eq_some_iff.1 e3).1).trans e3, r⟩⟩

/-- A file system whole: F its nodes, L where they lie, f its own block, all of a base on. -/
structure FsM (w : World) (lo f : Nat) (A : Option Addr) (c : Nat) (F : List Vf.Nd) (L : List Pl) : Prop where
  len : L.length = F.length
  lf : lo ≤ f
  fs : Blk w f 104 [.slice A F.length c]
  row : w.ownsRow lo 68 1 (.slice A F.length c) F.length ((F.zip L).map fun y => ndV y.1 y.2)
  nd : ∀ (i : Nat) (x : Vf.Nd) (p : Pl), F[i]? = some x → L[i]? = some p → lo ≤ p.q ∧ ∃ u, L[x.up]? = some u ∧ Blk w p.q (blkT x.m.kind) (ndC x i u.q p)
  byt : ∀ (i : Nat) (x : Vf.Nd) (p : Pl), F[i]? = some x → L[i]? = some p → x.m.kind = 1 → p.n = x.data.length ∧ p.n ≤ p.c ∧ RdI w lo 5 1 p.A p.n (x.data.map fun b => Value.int .u8 (b.toNat : Nat))
  map : ∀ (i : Nat) (x : Vf.Nd) (p : Pl), F[i]? = some x → L[i]? = some p → x.m.kind = 2 → lo ≤ p.g ∧ MapG w p.g .string (kidsM F L i)
  one : ∀ (i j : Nat) (x y : Vf.Nd) (p r : Pl), F[i]? = some x → F[j]? = some y → L[i]? = some p → L[j]? = some r → x.m.kind = 2 → y.m.kind = 2 → p.g = r.g → i = j
section
variable {w w' : World} {lo f c : Nat} {A : Option Addr} {F : List Vf.Nd} {L : List Pl}
/-- It stays where its blocks stay. -/
theorem FsM.keep (h : FsM w lo f A c F L) (hk : ∀ k, lo ≤ k → k < w.heap.size → w'.heap[k]? = w.heap[k]?) : FsM w' lo f A c F L where
  len := h.len
  lf := h.lf
  fs := (hk f h.lf h.fs.lt).trans h.fs
  row := own_keepA h.row hk
  nd := fun i x p h1 h2 => by
    obtain ⟨a, u, b, d⟩ := h.nd i x p h1 h2
    exact ⟨a, u, b, (hk _ a d.lt).trans d⟩
  byt := fun i x p h1 h2 h3 => by
    obtain ⟨a, a2, b⟩ := h.byt i x p h1 h2 h3
    exact ⟨a, a2, b.keep fun k o hl ho _ => (hk k hl (Array.getElem?_eq_some_iff.1 ho).1).trans ho⟩
  map := fun i x p h1 h2 h3 => by
    obtain ⟨a, b⟩ := h.map i x p h1 h2 h3
    exact ⟨a, b.keep (hk _ a b.lt)⟩
  one := h.one
theorem FsM.belowSz (h : FsM w lo f A c F L) (hb : Below w.heap.size w w') : FsM w' lo f A c F L := h.keep fun k _ hk => hb.block k hk
theorem FsM.toR (h : FsM w lo f A c F L) : FsR w w.heap.size f A c F L :=
  ⟨h.len, h.fs.lt, h.fs, Rd.of_own h.row, fun i x p h1 h2 => by
    obtain ⟨a, u, b, d⟩ := h.nd i x p h1 h2
    exact ⟨d.lt, u, b, d⟩, fun i x p h1 h2 h3 => ⟨(h.byt i x p h1 h2 h3).1, (h.byt i x p h1 h2 h3).2.2.rd⟩⟩
theorem FsM.base {lo' : Nat} (h : FsM w lo f A c F L) (hl : lo' ≤ lo) : FsM w lo' f A c F L where
  len := h.len
  lf := Nat.le_trans hl h.lf
  fs := h.fs
  row := own_base h.row hl
  nd := fun i x p h1 h2 => by
    obtain ⟨a, b⟩ := h.nd i x p h1 h2
    exact ⟨Nat.le_trans hl a, b⟩
  byt := fun i x p h1 h2 h3 => by
    obtain ⟨a, a2, b1, b2⟩ := h.byt i x p h1 h2 h3
    exact ⟨a, a2, b1, b2.imp id fun ⟨b, off, cs, fz, e, h4, h5⟩ => ⟨b, off, cs, fz, e, Nat.le_trans hl h4, h5⟩⟩
  map := fun i x p h1 h2 h3 => by
    obtain ⟨a, b⟩ := h.map i x p h1 h2 h3
    exact ⟨Nat.le_trans hl a, b⟩
  one := h.one
theorem FsM.at_ (h : FsM w lo f A c F L) {i : Nat} {x : Vf.Nd} (hx : F[i]? = some x) : ∃ p, L[i]? = some p ∧ (F.zip L)[i]? = some (x, p) ∧ ((F.zip L).map fun y => ndV y.1 y.2)[i]? = some (ndV x p) := by
  have hi : i < F.length := (List.getElem?_eq_some_iff.1 hx).1
  have hl : i < L.length := by rw [h.len]; exact hi
  have hz : (F.zip L)[i]? = some (x, L[i]) := by
    rw [List.getElem?_eq_getElem (by rw [List.length_zip]; omega), List.getElem_zip, (List.getElem?_eq_some_iff.1 hx).2]
  exact ⟨L[i], List.getElem?_eq_getElem hl, hz, by rw [List.getElem?_map, hz]; rfl⟩
/-! A directory's entries. -/
theorem kids_mem {d : Nat} {e : Value × Value} : e ∈ kidsM F L d ↔ ∃ i x p, 1 ≤ i ∧ (F.zip L)[i]? = some (x, p) ∧ x.up = d ∧ e = (.string x.name, ndV x p) := by
  unfold kidsM
  rw [List.mem_filterMap]
  constructor
  · rintro ⟨⟨x, p⟩, hm, he⟩
    obtain ⟨j, hj⟩ := List.getElem?_of_mem hm
    rw [List.getElem?_drop] at hj
    split at he
    · next hu => exact ⟨1 + j, x, p, by omega, hj, hu, (Option.some.inj he).symm⟩
    · cases he
  · rintro ⟨i, x, p, h1, hx, hu, rfl⟩
    refine ⟨(x, p), ?_, by rw [if_pos hu]⟩
    refine List.mem_of_getElem? (i := i - 1) ?_
    rw [List.getElem?_drop, show 1 + (i - 1) = i by omega]
    exact hx
theorem zip_at {i : Nat} {x : Vf.Nd} {p : Pl} (h : (F.zip L)[i]? = some (x, p)) : F[i]? = some x ∧ L[i]? = some p := by
  rw [List.getElem?_zip_eq_some] at h
  exact h
theorem kids_yes (hF : Vf.Good F) (h : FsM w lo f A c F L) {d j : Nat} {nm : ByteArray} (hc : Vf.child F d nm = some j) : ∃ x p, F[j]? = some x ∧ L[j]? = some p ∧ x.up = d ∧ x.name = nm ∧ (Value.string nm, ndV x p) ∈ kidsM F L d := by
  obtain ⟨h1, x, hx, hu, hn⟩ := (Vf.child_some hF).1 hc
  obtain ⟨p, hp, hz, _⟩ := h.at_ hx
  exact ⟨x, p, hx, hp, hu, hn, kids_mem.2 ⟨j, x, p, h1, hz, hu, by rw [hn]⟩⟩
theorem kids_no (hF : Vf.Good F) {d : Nat} {nm : ByteArray} (hc : Vf.child F d nm = none) : ∀ e ∈ kidsM F L d, e.1 ≠ Value.string nm := by
  intro e he e1
  obtain ⟨i, x, p, h1, hz, hu, rfl⟩ := kids_mem.1 he
  injection e1 with e1
  have := (Vf.child_some hF).2 ⟨h1, x, (zip_at hz).1, hu, e1⟩
  rw [hc] at this
  cases this
/-- A name looked up in a directory. -/
theorem look_yes (hF : Vf.Good F) (h : FsM w lo f A c F L) {d j : Nat} {nm : ByteArray} {xd : Vf.Nd} {pd : Pl} (hd : F[d]? = some xd) (hp : L[d]? = some pd) (hk : xd.m.kind = 2) (hc : Vf.child F d nm = some j) :
    ∃ x p, F[j]? = some x ∧ L[j]? = some p ∧ (Instr.lookup 86 (.map (some pd.g)) (.string nm) true).run Try.prog w = .ok (.tuple #[ndV x p, .bool true]) w := by
  obtain ⟨x, p, hx, hpx, _, _, hm⟩ := kids_yes hF h hc
  exact ⟨x, p, hx, hpx, (run_lookG_yes (P := Try.prog) Try.underlying86 Try.underlying9 (by simp [Go.MapKept.IsKey]) (h.map d xd pd hd hp hk).2 hm).1⟩
theorem look_no (hF : Vf.Good F) (h : FsM w lo f A c F L) {d : Nat} {nm : ByteArray} {xd : Vf.Nd} {pd : Pl} (hd : F[d]? = some xd) (hp : L[d]? = some pd) (hk : xd.m.kind = 2) (hc : Vf.child F d nm = none) :
    (Instr.lookup 86 (.map (some pd.g)) (.string nm) true).run Try.prog w = .ok (.tuple #[.nilIface, .bool false]) w :=
  (run_lookG_no (P := Try.prog) (z := .nilIface) Try.underlying86 Try.underlying9 (by simp [Go.MapKept.IsKey]) (by kernel_rfl) (h.map d xd pd hd hp hk).2 (kids_no hF hc)).1
end
end Go.Proofs.Yteiciabhfjakgaa
namespace Go.Proofs.Yteiciabhfjakgaa
set_option linter.unusedVariables false
set_option linter.unusedSimpArgs false
open Go.RowKit

/-- Node i as an interface's value. -/
def ndA (F : List Vf.Nd) (L : List Pl) (i : Nat) : Value := ((F.zip L).map fun y => ndV y.1 y.2)[i]?.getD .nilIface
def atV (F : List Vf.Nd) (L : List Pl) : Option Nat → Value
  | none => .nilIface
  | some i => ndA F L i
theorem FsM.ndA_eq {w : World} {lo f c : Nat} {A : Option Addr} {F : List Vf.Nd} {L : List Pl} (h : FsM w lo f A c F L) {i : Nat} {x : Vf.Nd} {p : Pl} (hx : F[i]? = some x) (hp : L[i]? = some p) : ndA F L i = .iface (kindT x.m.kind) (.pointer (some ⟨p.q, 0, none⟩)) := by
  obtain ⟨p', hp', _, hv⟩ := h.at_ hx
  obtain rfl : p = p' := Option.some.inj (hp.symm.trans hp')
  unfold ndA
  rw [hv]
  rfl
theorem kind3 {F : List Vf.Nd} (h : Vf.Good F) {i : Nat} {x : Vf.Nd} (hx : F[i]? = some x) : x.m.kind = 1 ∨ x.m.kind = 2 ∨ x.m.kind = 3 := by
  have := h.kind i x hx
  omega

set_option maxRecDepth 100000 in
set_option maxHeartbeats 1000000 in
theorem at_any (F : List Vf.Nd) (L : List Pl) (lo f c : Nat) (A A' : Option Addr) (n' c' B : Nat) (l : List ByteArray) (w : World) (hF : Vf.Good F) (h : FsM w lo f A c F L) (hn : F.length ≤ 65) (hl : Rd w B 1 A' n' (l.map Value.string)) (hn' : n' ≤ 4294967296) :
    Calls Try.prog 63 #[ptrV f, .slice A' n' c'] w fun e w' => e = .returned (atV F L (Vf.at_ F 0 l)) ∧ w = w' := by
  have hll : l.length = n' := by simpa using hl.len1
  obtain ⟨x0, hx0⟩ : ∃ x, F[0]? = some x := ⟨_, hF.r⟩
  obtain ⟨p0, hp0, _, hv0⟩ := h.at_ hx0
  obtain ⟨b3, o3, rfl, _, c3⟩ := (Rd.of_own h.row).at_ (k := 0) hv0
  have v0 := h.fs.cell (i := 0) rfl
  have e0 := h.ndA_eq hx0 hp0
  have e0' : ndA F L 0 = ndV x0 p0 := by unfold ndA; rw [hv0]; rfl
  rw [← e0', Nat.add_zero] at c3
  obtain ⟨n, hfn⟩ : ∃ n, F.length = n := ⟨_, rfl⟩
  have hpos := Vf.good_pos hF
  have i1 : (0 : Int) < (n : Int) := by omega
  rw [hfn] at v0
  obtain ⟨r, hr⟩ : ∃ r, Vf.at_ F 0 l = r := ⟨_, rfl⟩
  have Hr := hide hr
  rw [hr]
  have H := hide h
  have HF := hide hF
  have Hl := hide hl
  have Hll := hide hll
  have Hfn := hide hfn
  obtain ⟨z0, hz0⟩ : ∃ z, ndA F L 0 = z := ⟨_, rfl⟩
  rw [hz0] at c3
  have Hz0 := hide hz0
  clear hr h hF hl hll hv0 e0 e0' hfn hpos hx0 hp0 hz0
  unfold ptrV
  go_enter Try.func63, Try.ntmps63
  go_wp2_with fail
  go_loop [5, 18] (fun nv iv => ∃ k i : Nat, k ≤ n' ∧ iv = .int .i64 k ∧ Vf.at_ F 0 (l.take k) = some i ∧ i < F.length ∧ nv = ndA F L i) (fun _ i => n' - (intOf i).toNat)
  case atStart => exact ⟨0, 0, Nat.zero_le _, rfl, rfl, Vf.good_pos (unhide HF), (unhide Hz0).symm⟩
  case round =>
    obtain ⟨k, i, hk, rfl, hat, hi, rfl⟩ := hrel
    have Hat := hide hat
    obtain ⟨x, hx⟩ : ∃ x, F[i]? = some x := ⟨_, List.getElem?_eq_getElem hi⟩
    obtain ⟨p, hp, _, _⟩ := (unhide H).at_ hx
    have e1 := (unhide H).ndA_eq hx hp
    have Hi := hide hi
    by_cases hlt : k < n'
    · obtain ⟨nm, hnm⟩ : ∃ nm, l[k]? = some nm := ⟨_, List.getElem?_eq_getElem (by rw [unhide Hll]; exact hlt)⟩
      obtain ⟨b1, o1, rfl, _, c1⟩ := (unhide Hl).at_ (k := k) (u := .string nm) (by simp [hnm])
      have hnx := Vf.at_next hat hnm
      have ilt : (k : Int) < (n' : Int) := by omega
      rcases kind3 (unhide HF) hx with hk1 | hk1 | hk1
      · have et : kindT x.m.kind = 80 := by rw [hk1]; rfl
        rw [et] at e1
        rw [e1]
        have ha := file_no_dir (.pointer (some ⟨p.q, 0, none⟩))
        have hr0 : r = none := by
          rw [← unhide Hr]
          exact Vf.at_stop (k := k + 1) (hnx.trans (Vf.child_none (unhide HF) (by rw [Vf.kindAt_eq hx, hk1]; decide)))
        clear e1 et hk1 hnx hx hp hat hnm hi
        go_wp2_with fail
        go_ret
        subst hr0
        exact ⟨rfl, rfl⟩
      · have et : kindT x.m.kind = 70 := by rw [hk1]; rfl
        rw [et] at e1
        rw [e1]
        have ha := is_dir (.pointer (some ⟨p.q, 0, none⟩))
        obtain ⟨_, u, hu, hb⟩ := (unhide H).nd i x p hx hp
        have c8 : w.cell? ⟨p.q, 8, none⟩ = some (lastV x p) := hb.cell rfl
        have e8 : lastV x p = .map (some p.g) := by unfold lastV; rw [if_pos hk1]
        rw [e8] at c8
        cases hc : Vf.child F i nm with
        | none =>
          have hlk := look_no (unhide HF) (unhide H) hx hp hk1 hc
          have hr0 : r = none := by
            rw [← unhide Hr]
            exact Vf.at_stop (k := k + 1) (hnx.trans hc)
          clear e1 et hk1 hnx hx hp hat hnm hi hu hb e8 hc
          go_wp2_with fail
          go_ret
          subst hr0
          exact ⟨rfl, rfl⟩
        | some j =>
          obtain ⟨xj, pj, hxj, hpj, hlk⟩ := look_yes (unhide HF) (unhide H) hx hp hk1 hc
          have ej : ndA F L j = ndV xj pj := (unhide H).ndA_eq hxj hpj
          rw [← ej] at hlk
          obtain ⟨zj, hzj⟩ : ∃ z, ndA F L j = z := ⟨_, rfl⟩
          rw [hzj] at hlk
          have Hzj := hide hzj
          have Hnx := hide (hnx.trans hc)
          have Hj := hide ((List.getElem?_eq_some_iff.1 hxj).1)
          clear e1 et hk1 hnx hx hp hat hnm hi hu hb e8 hc hxj hpj ej hzj
          go_wp2_with fail
          go_round
          case rel => exact ⟨k + 1, j, by omega, by go_num, unhide Hnx, unhide Hj, (unhide Hzj).symm⟩
          case measure => simp [intOf]; omega
      · have et : kindT x.m.kind = 121 := by rw [hk1]; rfl
        rw [et] at e1
        rw [e1]
        have ha := link_no_dir (.pointer (some ⟨p.q, 0, none⟩))
        have hr0 : r = none := by
          rw [← unhide Hr]
          exact Vf.at_stop (k := k + 1) (hnx.trans (Vf.child_none (unhide HF) (by rw [Vf.kindAt_eq hx, hk1]; decide)))
        clear e1 et hk1 hnx hx hp hat hnm hi
        go_wp2_with fail
        go_ret
        subst hr0
        exact ⟨rfl, rfl⟩
    · have ilt : ¬ (k : Int) < (n' : Int) := by omega
      have hr0 : r = some i := by
        rw [← unhide Hr, ← hat, List.take_of_length_le (by have := unhide Hll; omega)]
      obtain ⟨z, hz⟩ : ∃ z, ndA F L i = z := ⟨_, rfl⟩
      rw [hz]
      have Hz := hide hz
      clear hat hi hx hp e1 hz
      go_wp2_with fail
      go_ret
      subst hr0
      exact ⟨ret_val (unhide Hz).symm, rfl⟩
end Go.Proofs.Yteiciabhfjakgaa
namespace Go.Proofs.Yteiciabhfjakgaa
set_option linter.unusedVariables false
set_option linter.unusedSimpArgs false
open Go.RowKit

def tailA (A : Option Addr) (c : Nat) : Option Addr := if c = 1 then A else A.map (·.add 1)
theorem run_tail {P : Program} {t e : TypeId} (ht : P.underlying t = some (.slice e)) (he : (P.info? e).map (·.size) = some 1) (A : Option Addr) (n c : Nat) (w : World) :
    (Instr.slice t (.slice A (n + 1) c) (some (.int .i64 1)) none none).run P w = .ok (.slice (tailA A c) n (c - 1)) w := by
  have hel : P.elem t = e := by simp [Program.elem, ht]
  have hs : (sizeOf e).run P w = .ok 1 w := by
    cases hi : P.info? e with
    | none => simp [hi] at he
    | some i => simp [hi] at he; simp [sizeOf, typeInfo, hi, he]
  rw [run_slice_l w t A (n + 1) c (by rw [hel]; exact ht) .i64 1 (by omega) (by omega), hel, hs]
  simp only [Result.andThen_ok]
  unfold sliced tailA
  have e1 : (1 : Int).toNat = 1 := rfl
  rw [e1]
  simp
theorem Rd.tail {w : World} {B n c : Nat} {A : Option Addr} {x : Value} {xs : List Value} (h : Rd w B 1 A (n + 1) (x :: xs)) (hc : n + 1 ≤ c) : Rd w B 1 (tailA A c) n xs := by
  have hl := h.1
  simp only [List.length_cons] at hl
  refine ⟨by omega, ?_⟩
  by_cases h0 : xs = []
  · exact .inl h0
  · obtain ⟨b, off, rfl, hb, hcl⟩ := h.open_ (by simp)
    have h1 : 0 < xs.length := List.length_pos_iff.2 h0
    refine .inr ⟨b, off + 1, ?_, hb, fun j u hu => ?_⟩
    · unfold tailA
      rw [if_neg (by omega)]
      rfl
    · have := hcl (j + 1) u (by simpa using hu)
      rwa [show off + 1 + j = off + (j + 1) by omega]
theorem size_one {P : Program} {e : TypeId} (he : (P.info? e).map (·.size) = some 1) (w : World) : (sizeOf e).run P w = .ok 1 w := by
  cases hi : P.info? e with
  | none => simp [hi] at he
  | some i => simp [hi] at he; simp [sizeOf, typeInfo, hi, he]
/-- s[k:] and s[:k] of elements of one cell. -/
def fromA (A : Option Addr) (c k : Nat) : Option Addr := if c = k then A else A.map (·.add k)
theorem run_from {P : Program} {t e : TypeId} (ht : P.underlying t = some (.slice e)) (he : (P.info? e).map (·.size) = some 1) (A : Option Addr) (n c k : Nat) (hk : k ≤ n) (w : World) :
    (Instr.slice t (.slice A n c) (some (.int .i64 (k : Nat))) none none).run P w = .ok (.slice (fromA A c k) (n - k) (c - k)) w := by
  have hel : P.elem t = e := by simp [Program.elem, ht]
  rw [run_slice_l w t A n c (by rw [hel]; exact ht) .i64 (k : Nat) (by omega) (by omega), hel, size_one he]
  simp only [Result.andThen_ok, Int.toNat_natCast]
  unfold sliced fromA
  simp
theorem run_to {P : Program} {t e : TypeId} (ht : P.underlying t = some (.slice e)) (he : (P.info? e).map (·.size) = some 1) (A : Option Addr) (n c k : Nat) (hk : k ≤ c) (w : World) :
    (Instr.slice t (.slice A n c) none (some (.int .i64 (k : Nat))) none).run P w = .ok (.slice A k c) w := by
  have hel : P.elem t = e := by simp [Program.elem, ht]
  rw [run_slice_h w t A n c (by rw [hel]; exact ht) .i64 (k : Nat) (by omega) (by omega), hel, size_one he]
  simp only [Result.andThen_ok, Int.toNat_natCast]
  unfold sliced
  have h0 : ∀ A : Option Addr, A.map (·.add (0 * 1)) = A := by
    intro A
    cases A with
    | none => rfl
    | some a => cases a; rfl
  rw [h0]
  simp
theorem Rd.from_ {w : World} {B n c k : Nat} {A : Option Addr} {xs : List Value} (h : Rd w B 1 A n xs) (hk : k ≤ n) (hc : n ≤ c) : Rd w B 1 (fromA A c k) (n - k) (xs.drop k) := by
  have hl := h.1
  refine ⟨by rw [List.length_drop]; omega, ?_⟩
  by_cases h0 : xs.drop k = []
  · exact .inl h0
  · have h1 : 0 < (xs.drop k).length := List.length_pos_iff.2 h0
    rw [List.length_drop] at h1
    obtain ⟨b, off, rfl, hb, hcl⟩ := h.open_ (by rintro rfl; simp at h1)
    refine .inr ⟨b, off + k, ?_, hb, fun j u hu => ?_⟩
    · unfold fromA
      rw [if_neg (by omega), Option.map_some, Addr.add_lit]
    · rw [List.getElem?_drop] at hu
      have := hcl (k + j) u hu
      rwa [show off + k + j = off + (k + j) by omega]
theorem Rd.to_ {w : World} {B n k : Nat} {A : Option Addr} {xs : List Value} (h : Rd w B 1 A n xs) (hk : k ≤ n) : Rd w B 1 A k (xs.take k) := by
  have hl := h.1
  refine ⟨by rw [List.length_take]; omega, ?_⟩
  rcases h.2 with h0 | ⟨b, off, e, hb, hc⟩
  · exact .inl (by rw [h0]; simp)
  · refine .inr ⟨b, off, e, hb, fun j u hu => hc j u ?_⟩
    rw [List.getElem?_take] at hu
    split at hu
    · exact hu
    · cases hu
end Go.Proofs.Yteiciabhfjakgaa
namespace Go.Proofs.Yteiciabhfjakgaa
theorem own_cap {w : World} {base : Nat} {e : TypeId} {size n c : Nat} {A : Option Addr} {xs : List Value} (h : w.ownsRow base e size (.slice A n c) n xs) : n ≤ c := by
  rcases h.2 with ⟨h0, h1⟩ | ⟨g, cap, cur, hv, hb, hg, hnc, _⟩
  · omega
  · injection hv with _ _ h3
    omega
end Go.Proofs.Yteiciabhfjakgaa
namespace Go.Proofs.Yteiciabhfjakgaa
set_option linter.unusedVariables false
set_option linter.unusedSimpArgs false
open Go.RowKit

/-- What a slice type t of elements e is known by: 'size' cells, 'bytes' bytes an element. -/
structure SlTy (P : Program) (t e : TypeId) (size bytes : Nat) : Prop where
  ht : P.underlying t = some (.slice e)
  hi : ∃ i z, P.info? e = some i ∧ i.zero = some z ∧ i.size = size ∧ i.bytes = bytes ∧ z.cells.size = size
  hsz : 0 < size
  hby : 0 < bytes

theorem slTy_mk {P : Program} {t e : TypeId} {size bytes : Nat} {z : Value} (ht : P.underlying t = some (.slice e)) (h : (P.info? e).map (fun i => (i.zero, i.size, i.bytes)) = some (some z, size, bytes))
    (hz : z.cells.size = size) (hsz : 0 < size) (hby : 0 < bytes) : SlTy P t e size bytes := by
  refine ⟨ht, ?_, hsz, hby⟩
  cases hi : P.info? e with
  | none => simp [hi] at h
  | some i =>
    simp [hi] at h
    exact ⟨i, z, rfl, h.1, h.2.1, h.2.2, hz⟩

theorem Rd.row {w : World} {cs : Array Value} {e : TypeId} {size : Nat} (hc : cs.size = size) : Rd (w.alloc (.cells cs e)) (w.heap.size + 1) size (some ⟨w.heap.size, 0, none⟩) 1 cs.toList := by
  refine ⟨by simp [hc], .inr ⟨w.heap.size, 0, rfl, by omega, fun j u hu => ?_⟩⟩
  rw [cell_of_row _ w.heap.size (0 + j) cs e (0, 0) (heap_alloc_new _ _), Nat.zero_add]
  simpa using hu

theorem Rd.rowF {w : World} {cs : Array Value} {e : TypeId} {size n : Nat} {fz : Nat × Nat} (hc : cs.size = n * size) : Rd (w.alloc (.cells cs e fz)) (w.heap.size + 1) size (some ⟨w.heap.size, 0, none⟩) n cs.toList := by
  refine ⟨by simp [hc], .inr ⟨w.heap.size, 0, rfl, by omega, fun j u hu => ?_⟩⟩
  rw [cell_of_row _ w.heap.size (0 + j) cs e fz (heap_alloc_new _ _), Nat.zero_add]
  simpa using hu

section
variable {P : Program} {t e : TypeId} {size bytes : Nat}

theorem run_app (T : SlTy P t e size bytes) (w : World) (base : Nat) (ty : TypeId) (v : Value) (n : Nat) (xs : List Value) (hown : w.ownsRow base e size v n xs)
    (B : Nat) (A : Option Addr) (m c : Nat) (news : List Value) (hr : Rd w B size A m news) (h1 : ∀ u ∈ news, u.oneCell' = true)
    (hb : (n + m) * bytes ≤ 140737488355328) (hbase : base ≤ w.heap.size) :
    ∃ v' w', (Builtin.append_ #[t, t] ty #[v, .slice A m c]).run P w = .ok v' w' ∧ w'.ownsRow base e size v' (n + m) (xs ++ news) ∧ w.grownBy w' v.ownBlock ∧
      (∀ k, v'.ownBlock = some k → v.ownBlock = some k ∨ w.heap.size ≤ k) := by
  obtain ⟨ht, ⟨i, z, hi, hz, hs, hby, hzs⟩, hsz, hbp⟩ := T
  have h63 : n + m ≤ maxLen := by
    have : (n + m) * 1 ≤ (n + m) * bytes := Nat.mul_le_mul_left _ hbp
    unfold maxLen
    omega
  by_cases hn0 : m = 0 ∧ A = none
  · obtain ⟨rfl, rfl⟩ := hn0
    have hn : news = [] := List.eq_nil_of_length_eq_zero (by simpa using hr.1)
    subst hn
    refine ⟨v, w, ?_, by simpa using hown, World.grownBy.refl w _, fun k hk => .inl hk⟩
    rcases hown.2 with ⟨rfl, rfl⟩ | ⟨g, cap, cur, rfl, _, _, hnc, _⟩
    · simp [Builtin.append_, run_underlying ht, sizeOf, typeInfo, hi, Builtin.lenOf, Builtin.firstCells]
    · simp [Builtin.append_, run_underlying ht, sizeOf, typeInfo, hi, Builtin.lenOf, Builtin.firstCells, hnc, storeCells]
  · obtain ⟨ad, rfl, hcells⟩ : ∃ ad, A = some ad ∧ ∀ j u, news[j]? = some u → w.cell? (ad.add j) = some u := by
      rcases hr.2 with rfl | ⟨b, off, rfl, _, hc⟩
      · have hm : m = 0 := by
          have := hr.1
          simp only [List.length_nil] at this
          rcases Nat.eq_zero_or_pos m with h | h
          · exact h
          · have := Nat.mul_pos h hsz
            omega
        cases A with
        | none => exact absurd ⟨hm, rfl⟩ hn0
        | some ad => exact ⟨ad, rfl, fun j u hu => by simp at hu⟩
      · exact ⟨_, rfl, fun j u hu => by rw [Addr.add_lit]; exact hc j u hu⟩
    obtain ⟨v', w', hrun, h2, h3, h4, h5⟩ := run_append_own_at (P := P) w base t ty e i z size bytes ht hi hz hs hby hzs hsz v n xs hown ad m c news hr.1 hcells h1 h63 hb hbase
    refine ⟨v', w', hrun, h2, h3, fun k hk => ?_⟩
    rcases h5 with h5 | h5
    · exact .inl (h5 ▸ hk)
    · rw [h5] at hk
      injection hk with hk
      exact .inr (by omega)

theorem wp_app (T : SlTy P t e size bytes) {w : World} {o : Oper} {a : Act} {K : Act → World → Prop} {Q : Exit → Act → World → Prop} (s x : Operand)
    (ho : o.op = .call { callee := .builtin .append, args := #[s, x], argTypes := #[t, t] })
    (base : Nat) (v : Value) (n : Nat) (xs : List Value) (hs : a.eval s = v) (hown : w.ownsRow base e size v n xs)
    (B : Nat) (A : Option Addr) (m c : Nat) (news : List Value) (hx : a.eval x = .slice A m c) (hr : Rd w B size A m news) (h1 : ∀ u ∈ news, u.oneCell' = true)
    (hb : (n + m) * bytes ≤ 140737488355328) (hbase : base ≤ w.heap.size)
    (h : ∀ v' w', w'.ownsRow base e size v' (n + m) (xs ++ news) → w.grownBy w' v.ownBlock → (∀ k, v'.ownBlock = some k → v.ownBlock = some k ∨ w.heap.size ≤ k) → K (a.put o.dst v') w') : o.wp P a w K Q := by
  obtain ⟨v', w', hrun, h2, h3, h4⟩ := run_app T w base o.type v n xs hown B A m c news hr h1 hb hbase
  unfold Oper.wp execOp
  simp only [ho, resolve, invoke, builtin, Sem.run_bind, Sem.run_pure, Result.andThen_ok, List.map_toArray, List.map_cons, List.map_nil, hs, hx, hrun]
  exact h v' w' h2 h3 h4

/-- 'append(s, x...)', x a slice that reads as 'news'. -/
theorem wpList_app (T : SlTy P t e size bytes) {w : World} {ops : Array Oper} {rest : List Oper} {o : Oper} {a : Act} {Q : Exit → Act → World → Prop} (hgd : o.guard = none) (s x : Operand)
    (ho : o.op = .call { callee := .builtin .append, args := #[s, x], argTypes := #[t, t] })
    (base : Nat) (v : Value) (n : Nat) (xs : List Value) (hs : a.eval s = v) (hown : w.ownsRow base e size v n xs)
    (B : Nat) (A : Option Addr) (m c : Nat) (news : List Value) (hx : a.eval x = .slice A m c) (hr : Rd w B size A m news) (h1 : ∀ u ∈ news, u.oneCell' = true)
    (hb : (n + m) * bytes ≤ 140737488355328) (hbase : base ≤ w.heap.size)
    (h : ∀ A' c' w', w'.ownsRow base e size (.slice A' (n + m) c') (n + m) (xs ++ news) → w.grownBy w' v.ownBlock → (∀ k, (Value.slice A' (n + m) c').ownBlock = some k → v.ownBlock = some k ∨ w.heap.size ≤ k) → wpList P ops Q rest (a.put o.dst (.slice A' (n + m) c')) w') : wpList P ops Q (o :: rest) a w :=
  wpList_plain hgd fun _ hK => wp_app T s x ho base v n xs hs hown B A m c news hx hr h1 hb hbase fun v' w' h2 h3 h4 => by
    obtain ⟨A', c', rfl⟩ := own_form h2
    exact hK _ _ (h A' c' w' h2 h3 h4)

/-- 'append(s, x)': the one element's cells have just been laid in a block of their own. -/
theorem wpList_app1 (T : SlTy P t e size bytes) {W : World} {ops : Array Oper} {rest : List Oper} {o : Oper} {a : Act} {Q : Exit → Act → World → Prop} (hgd : o.guard = none) (s x : Operand)
    (ho : o.op = .call { callee := .builtin .append, args := #[s, x], argTypes := #[t, t] })
    (base : Nat) (v : Value) (n : Nat) (xs : List Value) (hs : a.eval s = v) (hown : W.ownsRow base e size v n xs)
    (cs : Array Value) (hx : a.eval x = .slice (some ⟨W.heap.size, 0, none⟩) 1 1) (hcs : cs.size = size) (h1 : ∀ u ∈ cs.toList, u.oneCell' = true)
    (hb : (n + 1) * bytes ≤ 140737488355328) (hbase : base ≤ W.heap.size)
    (h : ∀ A' c' w', w'.ownsRow base e size (.slice A' (n + 1) c') (n + 1) (xs ++ cs.toList) → W.grownBy w' v.ownBlock → (∀ k, (Value.slice A' (n + 1) c').ownBlock = some k → v.ownBlock = some k ∨ W.heap.size ≤ k) → wpList P ops Q rest (a.put o.dst (.slice A' (n + 1) c')) w') : wpList P ops Q (o :: rest) a (W.alloc (.cells cs e)) :=
  wpList_app T hgd s x ho base v n xs hs (hown.alloc _) (W.heap.size + 1) (some ⟨W.heap.size, 0, none⟩) 1 1 cs.toList hx (Rd.row hcs) h1 hb (by simp; omega)
    fun A' c' w' h2 h3 h4 => h A' c' w' h2 (grown_trans (World.grownBy_alloc W _ _) h3) fun k hk => (h4 k hk).imp id fun h5 => by simp at h5; omega
end
end Go.Proofs.Yteiciabhfjakgaa
namespace Go.Proofs.Yteiciabhfjakgaa
set_option linter.unusedVariables false
set_option linter.unusedSimpArgs false
open Go.RowKit Go.Lib

/-- Nothing below B, and no block that is no iterator of a text, has turned. -/
structure ItKp (B : Nat) (w w' : World) : Prop where
  os : w'.os = w.os
  tape : w'.tape = w.tape
  output : w'.output = w.output
  size : w.heap.size ≤ w'.heap.size
  low : ∀ k, k < B → w'.heap[k]? = w.heap[k]?
  rest : ∀ (k : Nat) (o : Obj), w.heap[k]? = some o → (∀ s p, o ≠ .stringIter s p) → w'.heap[k]? = some o

def IterKept (w w' : World) : Prop := ∀ (k : Nat) (s : ByteArray) (p : Nat), w.heap[k]? = some (.stringIter s p) → w'.heap[k]? = some (.stringIter s p)

theorem ItKp.iter {B : Nat} {w : World} (hB : B ≤ w.heap.size) (s : ByteArray) (p : Nat) : ItKp B w (w.iter s p) :=
  ⟨rfl, rfl, rfl, by simp [World.iter], fun k hk => Below.heap_alloc _ _ _ (by omega), fun k o h _ => by
    rw [← h]
    exact Below.heap_alloc _ _ _ (Array.getElem?_eq_some_iff.1 h).1⟩

theorem ItKp.iterAt {B : Nat} {w : World} {k : Nat} (hB : B ≤ k) (s : ByteArray) (p q : Nat) (h : w.heap[k]? = some (.stringIter s q)) : ItKp B w (w.iterAt k s p) :=
  ⟨rfl, rfl, rfl, by rw [iterAt_size]; exact Nat.le_refl _, fun j hj => iterAt_other _ _ _ _ _ (by omega), fun j o hj hn => by
    by_cases e : j = k
    · subst e
      rw [h] at hj
      exact absurd (Option.some.inj hj).symm (hn _ _)
    · rw [iterAt_other _ _ _ _ _ e]
      exact hj⟩

set_option maxHeartbeats 800000 in
/-- pieces hands each text between slashes to yield, till that says no. -/
theorem pieces_any {S : Type} (fn : FuncId) (c : Value) (I : Nat → S → World → Prop) (step : S → ByteArray → S × Bool) (B : Nat) (p : ByteArray) (hp : p.size ≤ maxLen)
    (hf : ∀ (args : Array Value) (w : World), (callFunc fn args).run Try.prog w = .ok (.enter fn args) w)
    (hI : ∀ n s w w', ItKp B w w' → I n s w → I n s w')
    (hcall : ∀ n s w (x : ByteArray), n ≤ p.size → x.size ≤ p.size → I n s w → Calls Try.prog fn #[.string x, c] w fun e w' => e = .returned (.bool (step s x).2) ∧ I (n + 1) (step s x).1 w' ∧ IterKept w w')
    (s0 : S) (w : World) (hB : B ≤ w.heap.size) (h0 : I 0 s0 w) :
    Calls Try.prog 54 #[.string p, .func (.func fn) #[] #[c]] w fun e w' => e = .returned (.tuple #[]) ∧ ∃ n, I n (Pth.goF step s0 (Pth.pcs p)) w' := by
  have Hc := hide hcall
  have HI := hide hI
  clear hcall hI
  unfold maxLen at hp
  go_enter Try.func54, Try.ntmps54
  go_wp2
  go_loopw [4] (fun f wr => ∃ (n pos fr : Nat) (s : S), n ≤ pos ∧ f = .int .i64 fr ∧ fr ≤ pos ∧ pos ≤ p.size ∧ wr.heap[w.heap.size]? = some (.stringIter p pos) ∧ I n s wr ∧ Pth.goF step s (Pth.pcsAt p pos fr) = Pth.goF step s0 (Pth.pcs p)) (fun _ wr => p.size - wr.iterPos w.heap.size)
  case atStart => exact ⟨0, 0, 0, s0, Nat.le_refl _, rfl, Nat.le_refl _, Nat.zero_le _, World.iter_heap _ _ _, unhide HI _ _ _ _ (ItKp.iter hB _ _) h0, rfl⟩
  case round =>
    obtain ⟨n, pos, fr, s, hnp, rfl, hfr, hps, hit, hIs, hg⟩ := hrel
    have Hg := hide hg
    clear hg
    by_cases hlt : pos < p.size
    · obtain ⟨c1, c2, c3, c4, c5⟩ := Pth.decode_cover p pos hlt
      have hI1 : I n s (wr.iterAt w.heap.size p (pos + (Utf8.decode p pos).2))   := unhide HI _ _ _ _ (ItKp.iterAt hB _ _ _ hit) hIs
      have hit1 := iterAt_heap wr w.heap.size p pos (pos + (Utf8.decode p pos).2) hit
      have hip := iterPos_of hit
      have hip1 := iterPos_of hit1
      have hnx := fun ty => run_next_any_at (P := Try.prog) wr w.heap.size p pos ty hit hlt
      by_cases hc : p[pos] = 47
      · have hd1 := c4 hc
        have hc' := c3.2 hc
        rw [hd1] at hI1 hit1 hip1 hnx
        rw [hc'] at hnx
        have hgoal : Pth.goF step s (p.extract fr pos :: Pth.pcsAt p (pos + 1) (pos + 1)) = Pth.goF step s0 (Pth.pcs p) := by rw [← Pth.pcsAt_slash p pos fr hlt hc]; exact unhide Hg
        have Hgoal := hide hgoal
        have Hip := hide hip
        have Hit := hide hit1
        clear hgoal hd1 hc' hc hip hip1 hit1 hit c3 c4 c5 c1 c2
        go_wp2_with (refine ((unhide Hc) n s _ (p.extract fr pos) (by omega) (by simp only [ByteArray.size_extract]; omega) hI1).mono ?_; rintro e w1 ⟨rfl, hI2, hk2⟩)
        · have hst : (step s (p.extract fr pos)).2 = false := by
            have h : (!(step s (p.extract fr pos)).2) = true := by assumption
            simpa using h
          refine bodyPost_ret (results_none rfl _ _ _) rfl ⟨rfl, n + 1, ?_⟩
          rw [← unhide Hgoal]
          simp only [Pth.goF, hst, if_false, Bool.false_eq_true]
          exact hI2
        · have hit2 := hk2 _ _ _ (unhide Hit)
          have hip2 := iterPos_of hit2
          have hst : (step s (p.extract fr pos)).2 = true := by
            have h : (!(step s (p.extract fr pos)).2) = false := by assumption
            simpa using h
          go_roundw
          case rel => exact ⟨n + 1, pos + 1, pos + 1, _, by omega, by go_num, Nat.le_refl _, by omega, hit2, hI2, by rw [← unhide Hgoal]; simp [Pth.goF, hst]⟩
          case measure => rw [hip2, unhide Hip]; omega
      · have hne : ((((Utf8.decode p pos).1 : Nat) : Int) != 47) = true := by
          have : (Utf8.decode p pos).1 ≠ 47 := fun e => hc (c3.1 e)
          rw [bne_iff_ne]; omega
        have hgoal : Pth.goF step s (Pth.pcsAt p (pos + (Utf8.decode p pos).2) fr) = Pth.goF step s0 (Pth.pcs p) := by
          rw [← Pth.pcsAt_skips p fr _ pos (c5 hc)]; exact unhide Hg
        have Hgoal := hide hgoal
        have Hip := hide hip
        have Hip1 := hide hip1
        have Hit := hide hit1
        clear hgoal hip hip1 hit1 c3 c4 c5
        go_wp2
        go_roundw
        case rel => exact ⟨n, pos + (Utf8.decode p pos).2, fr, s, by omega, rfl, by omega, c2, unhide Hit, hI1, unhide Hgoal⟩
        case measure => rw [unhide Hip, unhide Hip1]; omega
    · have hnx := fun ty => run_next_end_at (P := Try.prog) wr w.heap.size p pos ty hit hlt
      obtain rfl : pos = p.size := by omega
      have hgoal : Pth.goF step s [p.extract fr p.size] = Pth.goF step s0 (Pth.pcs p) := by rw [← Pth.pcsAt_end]; exact unhide Hg
      have Hgoal := hide hgoal
      clear hgoal hps hlt
      go_wp2_with (refine ((unhide Hc) n s _ (p.extract fr p.size) (by omega) (by simp only [ByteArray.size_extract]; omega) hIs).mono ?_; rintro e w1 ⟨rfl, hI2, hk2⟩)
      go_end0
      refine ⟨rfl, n + 1, ?_⟩
      rw [← unhide Hgoal]
      simp only [Pth.goF]
      split <;> exact hI2

/-- What Check's yield keeps: its error in block g. -/
def ChkI (w0 : World) (g : Nat) (e : Int) (w : World) : Prop := w.heap[g]? = some (.cells #[.int .i64 e] 33 (0, 0)) ∧ Below w0.heap.size w0 w

theorem ChkI.stable {w0 : World} {g : Nat} (e : Int) (w w' : World) (h : ItKp w0.heap.size w w') (hI : ChkI w0 g e w) : ChkI w0 g e w' :=
  ⟨h.rest _ _ hI.1 (fun _ _ => by simp), hI.2.trans ⟨h.os, h.tape, h.output, h.size, h.low⟩⟩

theorem iterKept_setCell {w : World} {g : Nat} {cs : Array Value} {t : TypeId} {fz : Nat × Nat} (h : w.heap[g]? = some (.cells cs t fz)) (o : Nat) (v : Value) : IterKept w (w.setCell ⟨g, o, none⟩ v) := by
  intro k s p hk
  rw [Below.heap_setCell _ _ _ _ ?_]
  · exact hk
  · rintro rfl
    rw [h] at hk
    cases hk

theorem check1_any (w0 : World) (g : Nat) (hg : w0.heap.size ≤ g) (e : Int) (w : World) (x : ByteArray) (hx : x.size ≤ maxLen) (hI : ChkI w0 g e w) :
    Calls Try.prog 67 #[.string x, .pointer (some ⟨g, 0, none⟩)] w fun r w' => r = .returned (.bool (Pth.checkStep e x).2) ∧ ChkI w0 g (Pth.checkStep e x).1 w' ∧ IterKept w w' := by
  have HI := hide hI
  obtain ⟨hc, hb⟩ := hI
  have h1 := cell_of_one hc
  have h2 := free_of_one hc
  have h3 := cell_of_one (one_setCell (u := .int .i64 11) hc)
  clear hc hb
  unfold maxLen at hx
  by_cases hl : 32 < x.size
  · go_enter Try.func67, Try.ntmps67
    go_wp2
    go_ret
    refine ⟨by simp [Pth.checkStep, hl], ⟨?_, ?_⟩, ?_⟩
    · simp only [Pth.checkStep, hl, if_true]
      exact one_setCell (unhide HI).1
    · exact (unhide HI).2.setCell hg _
    · exact iterKept_setCell (unhide HI).1 _ _
  · go_enter Try.func67, Try.ntmps67
    go_wp2
    go_ret
    exact ⟨by simp [Pth.checkStep, hl], by simpa [Pth.checkStep, hl] using unhide HI, fun _ _ _ h => h⟩

theorem callFunc_check1 (args : Array Value) (w : World) : (callFunc 67 args).run Try.prog w = .ok (.enter 67 args) w := by kernel_rfl

theorem check_any (p : ByteArray) (hp : p.size ≤ maxLen) (w : World) :
    Calls Try.prog 53 #[.string p] w fun e w' => e = .returned (.int .i64 (Pth.chk p)) ∧ Below w.heap.size w w' := by
  have hp' := hp
  unfold maxLen at hp
  have hmf : ∀ (fn : Fn) (first cap : Array Value) (w : World), (Instr.makeFunc fn first cap).run Try.prog w = .ok (.func fn first cap) w := fun _ _ _ _ => rfl
  have he0 : p.toList.isEmpty = decide (p.size = 0) := isEmpty_toList p
  have hcn := Lib.contains_iff_indexByte p.data.toList 0
  by_cases h0 : p.size = 0
  · have hr : Pth.chk p = 3 := by simp [Pth.chk, h0]
    have Hr := hide hr
    have he : p.toList.isEmpty = true := by rw [he0]; simpa using h0
    clear he0 hr h0 hcn
    go_enter Try.func53, Try.ntmps53
    go_wp2_with fail
    go_ret
    exact ⟨by rw [unhide Hr]; rfl, Below.refl _ _⟩
  · have he : p.toList.isEmpty = false := by rw [he0]; simpa using h0
    by_cases h1 : p.data.toList.contains 0 = true
    · have hr : Pth.chk p = 1 := by simp only [Pth.chk, h0, h1, if_true, if_false]
      have Hr := hide hr
      have hi : decide (0 ≤ Lib.indexByte p.data.toList 0) = true := by rw [← hcn]; exact h1
      clear he0 hr h0 hcn h1
      go_enter Try.func53, Try.ntmps53
      go_wp2_with (go_at_call 66; refine (flipw (Try.strings_Contains_one _ _ _)).mono ?_; rintro e w1 ⟨rfl, rfl⟩)
      go_ret
      exact ⟨by rw [unhide Hr]; rfl, Below.refl _ _⟩
    · have hi : decide (0 ≤ Lib.indexByte p.data.toList 0) = false := by rw [← hcn]; simpa using h1
      by_cases h2 : 200 < p.size
      · have hr : Pth.chk p = 11 := by simp only [Pth.chk, h0, h1, h2, if_true, if_false, Bool.false_eq_true]
        have Hr := hide hr
        clear he0 hr h0 hcn h1
        go_enter Try.func53, Try.ntmps53
        go_wp2_with (go_at_call 66; refine (flipw (Try.strings_Contains_one _ _ _)).mono ?_; rintro e w1 ⟨rfl, rfl⟩)
        go_ret
        exact ⟨by rw [unhide Hr]; rfl, Below.refl _ _⟩
      · have hr : Pth.chk p = Pth.goF Pth.checkStep 0 (Pth.pcs p) := by rw [Pth.goF_check]; simp only [Pth.chk, h0, h1, h2, if_false, Bool.false_eq_true]
        have Hr := hide hr
        clear he0 hr h0 hcn h1
        have hini : ChkI w w.heap.size 0 (w.alloc (.cells #[.int .i64 0] 33)) := ⟨heap_alloc_new _ _, (Below.refl _ _).alloc (Nat.le_refl _) _⟩
        have Hini := hide hini
        clear hini
        go_enter Try.func53, Try.ntmps53
        go_wp2_with (first
          | (go_at_call 66; refine (flipw (Try.strings_Contains_one _ _ _)).mono ?_; rintro e w1 ⟨rfl, rfl⟩)
          | (go_at_call 54; refine (pieces_any 67 _ (fun _ => ChkI w w.heap.size) Pth.checkStep w.heap.size p hp' callFunc_check1 (fun _ => ChkI.stable) (fun _ s w' x _ hx hI => check1_any w w.heap.size (Nat.le_refl _) s w' x (Nat.le_trans hx hp') hI) 0 _ (Nat.le_of_lt (by simp)) (unhide Hini)).mono ?_; rintro e w1 ⟨rfl, _, hI⟩; have h9 := cell_of_one hI.1; have HI9 := hide hI; clear hI))
        go_ret
        exact ⟨by rw [unhide Hr]; rfl, (unhide HI9).2⟩

theorem strTy : SlTy Try.prog 85 9 1 16 := slTy_mk (z := .string ⟨#[]⟩) Try.underlying85 (by kernel_rfl) rfl (by omega) (by omega)

end Go.Proofs.Yteiciabhfjakgaa
namespace Go.Proofs.Yteiciabhfjakgaa
set_option linter.unusedVariables false
set_option linter.unusedSimpArgs false
open Go.RowKit Go.Lib

/-- What Parts' yield keeps: its list in block g. -/
def PrtI (w0 : World) (g : Nat) (n : Nat) (l : List ByteArray) (w : World) : Prop :=
  ∃ A c, w.heap[g]? = some (.cells #[.slice A l.length c] 85 (0, 0)) ∧ w.ownsRow w0.heap.size 9 1 (.slice A l.length c) l.length (l.map Value.string) ∧ Below w0.heap.size w0 w ∧ (Value.slice A l.length c).ownBlock ≠ some g ∧ l.length ≤ n

theorem PrtI.stable {w0 : World} {g : Nat} (n : Nat) (l : List ByteArray) (w w' : World) (h : ItKp w0.heap.size w w') (hI : PrtI w0 g n l w) : PrtI w0 g n l w' := by
  obtain ⟨A, c, h1, h2, h3, h4, h5⟩ := hI
  refine ⟨A, c, h.rest _ _ h1 (fun _ _ => by simp), ?_, h3.trans ⟨h.os, h.tape, h.output, h.size, h.low⟩, h4, h5⟩
  refine ⟨h2.1, h2.2.imp id fun ⟨g', cap, cur, e, hb, hh, r⟩ => ⟨g', cap, cur, e, hb, h.rest _ _ hh (fun _ _ => by simp), r⟩⟩

theorem iterKept_trans {a b c : World} (h : IterKept a b) (k : IterKept b c) : IterKept a c := fun i s p hi => k i s p (h i s p hi)
theorem iterKept_grown {w w' : World} {row : Option Nat} (h : w.grownBy w' row) (hr : ∀ k, row = some k → ∃ cs t fz, w.heap[k]? = some (.cells cs t fz)) : IterKept w w' := by
  intro k s p hk
  rw [h.block k (Array.getElem?_eq_some_iff.1 hk).1]
  · exact hk
  · intro e
    obtain ⟨cs, t, fz, hc⟩ := hr k e.symm
    rw [hk] at hc
    cases hc

theorem parts1_any (w0 : World) (g : Nat) (hg : w0.heap.size ≤ g) (n : Nat) (hn : n ≤ 4294967296) (l : List ByteArray) (w : World) (x : ByteArray) (hI : PrtI w0 g n l w) :
    Calls Try.prog 55 #[.string x, .pointer (some ⟨g, 0, none⟩)] w fun r w' => r = .returned (.bool (Pth.partsStep l x).2) ∧ PrtI w0 g (n + 1) (Pth.partsStep l x).1 w' ∧ IterKept w w' := by
  have HI := hide hI
  obtain ⟨A, c, hc, hown, hb, hne, hln⟩ := hI
  have Hc := hide hc
  have h1 := cell_of_one hc
  have hgs := lt_of_block hc
  have hbs := hb.size
  have e1 : x.toList.isEmpty = decide (x.data.toList = []) := by rw [Lib.toList_data, Bool.eq_iff_iff]; simp
  have e2 : (x.toList == [46]) = decide (x.data.toList = [46]) := by rw [Lib.toList_data, Bool.eq_iff_iff]; simp
  by_cases hx : x.data.toList = [] ∨ x.data.toList = [46]
  · have hp : Pth.isPart x = false := by rcases hx with h | h <;> simp [Pth.isPart, h]
    have Hp := hide hp
    clear hp hc
    rcases hx with hx | hx
    · have q1 : x.toList.isEmpty = true := by rw [e1]; simpa using hx
      clear e1 e2 hx
      go_enter Try.func55, Try.ntmps55
      go_wp2
      go_ret
      exact ⟨rfl, by
        have e : (Pth.partsStep l x).1 = l := by simp [Pth.partsStep, unhide Hp]
        rw [e]
        exact ⟨A, c, unhide Hc, hown, hb, hne, by omega⟩, fun _ _ _ h => h⟩
    · have q1 : x.toList.isEmpty = false := by rw [e1]; simp [hx]
      have q2 : (x.toList == [46]) = true := by rw [e2]; simpa using hx
      clear e1 e2 hx
      go_enter Try.func55, Try.ntmps55
      go_wp2
      go_ret
      exact ⟨rfl, by
        have e : (Pth.partsStep l x).1 = l := by simp [Pth.partsStep, unhide Hp]
        rw [e]
        exact ⟨A, c, unhide Hc, hown, hb, hne, by omega⟩, fun _ _ _ h => h⟩
  · have hp : Pth.isPart x = true := by simp only [Pth.isPart]; simp; simpa using hx
    have Hp := hide hp
    have q1 : x.toList.isEmpty = false := by rw [e1]; simp; exact fun h => hx (.inl (by simpa using h))
    have q2 : (x.toList == [46]) = false := by rw [e2]; simp; exact fun h => hx (.inr (by simpa using h))
    clear e1 e2 hx hp hc
    go_enter Try.func55, Try.ntmps55
    go_wp2_with (at_builtin; refine wpList_app1 strTy rfl _ _ rfl w0.heap.size (.slice A l.length c) l.length (l.map Value.string) rfl hown #[.string x] rfl rfl (by simp [Value.oneCell']) (by omega) (by omega) ?_; intro A' c' w1 hown' hgrow hat; have hg1 := (hgrow.block g hgs (fun e => hne e.symm)).trans (unhide Hc); have hc1 := cell_of_one hg1; have hf1 := free_of_one hg1; have Hg1 := hide hg1; have Hgr := hide hgrow; have Hat := hide hat; clear hg1 hgrow hat)
    go_ret
    have hne' : (Value.slice A' (l.length + 1) c').ownBlock ≠ some g := by
      intro e
      rcases unhide Hat _ e with h | h
      · exact hne h
      · omega
    refine ⟨rfl, ?_, ?_⟩
    · have e : (Pth.partsStep l x).1 = l ++ [x] := by simp [Pth.partsStep, unhide Hp]
      rw [e]
      refine ⟨A', c', ?_, ?_, ?_, ?_, ?_⟩
      · rw [List.length_append]
        exact one_setCell (unhide Hg1)
      · rw [List.length_append, List.map_append]
        exact ownsRow_setCell_other hown' (a := ⟨g, 0, none⟩) hne' _
      · exact (hb.grown (unhide Hgr) hbs (fun k hk => (hown.lt k hk).1)).setCell hg _
      · rw [List.length_append]
        exact hne'
      · rw [List.length_append]
        simp only [List.length_cons, List.length_nil]
        omega
    · refine iterKept_trans (iterKept_grown (unhide Hgr) (fun k hk => ?_)) (iterKept_setCell (unhide Hg1) _ _)
      rcases hown.2 with ⟨e, _⟩ | ⟨g', cap, cur, e, _, hh, _⟩
      · rw [e] at hk
        simp [Value.ownBlock] at hk
      · rw [e] at hk
        simp [Value.ownBlock] at hk
        exact ⟨_, _, _, hk ▸ hh⟩

theorem prt_start {w w1 : World} (hb : Below (w.alloc (.cells #[.slice none 0 0] 85)).heap.size (w.alloc (.cells #[.slice none 0 0] 85)) w1) : PrtI w w.heap.size 0 [] w1 :=
  ⟨none, 0, (hb.block _ (by simp)).trans (heap_alloc_new _ _), World.ownsRow_nil _ _ _ _, ((Below.refl _ _).alloc (Nat.le_refl _) _).trans (hb.mono (by simp)), by simp [Value.ownBlock], Nat.le_refl _⟩
theorem PrtI.sz {w0 w : World} {g n : Nat} {l : List ByteArray} (h : PrtI w0 g n l w) : w0.heap.size ≤ w.heap.size := h.choose_spec.choose_spec.2.2.1.size

theorem callFunc_parts1 (args : Array Value) (w : World) : (callFunc 55 args).run Try.prog w = .ok (.enter 55 args) w := by kernel_rfl

theorem parts_any (p : ByteArray) (hp : p.size ≤ maxLen) (w : World) :
    Calls Try.prog 36 #[.string p] w fun e w' => ∃ A c, e = .returned (.tuple #[.slice A (Pth.partsL p).length c, .bool (Pth.rootB p), .int .i64 (Pth.chk p)]) ∧
      w'.ownsRow w.heap.size 9 1 (.slice A (Pth.partsL p).length c) (Pth.partsL p).length ((Pth.partsL p).map Value.string) ∧ Below w.heap.size w w' := by
  have hck := Pth.chk_size p
  by_cases h0 : Pth.chk p = 0
  · have hrl : Pth.partsL p = Pth.goF Pth.partsStep [] (Pth.pcs p) := by rw [Pth.goF_parts]; simp [Pth.partsL, h0, Pth.parts]
    have hrb : Pth.rootB p = Lib.hasPrefix p.data.toList [47] := by simp [Pth.rootB, h0]
    have Hrl := hide hrl
    have Hrb := hide hrb
    have hs := hck h0
    have b0 : (Pth.chk p == 0) = true := by simpa using h0
    have b1 : (Pth.chk p != 0) = false := by simpa using h0
    have hmf : ∀ (fn : Fn) (first cap : Array Value) (w : World), (Instr.makeFunc fn first cap).run Try.prog w = .ok (.func fn first cap) w := fun _ _ _ _ => rfl
    have H0 := hide h0
    clear hck hrl hrb h0
    go_enter Try.func36, Try.ntmps36
    go_wp2_with (first
      | (go_at_call 53; refine (check_any p hp _).mono ?_; rintro e w1 ⟨rfl, hb1⟩; have Hini := hide (prt_start hb1); clear hb1)
      | (go_at_call 54; refine (pieces_any 55 _ (PrtI w w.heap.size) Pth.partsStep w.heap.size p hp callFunc_parts1 PrtI.stable (fun n s w' x hn _ hI => parts1_any w w.heap.size (Nat.le_refl _) n (by omega) s w' x hI) [] _ (PrtI.sz (unhide Hini)) (unhide Hini)).mono ?_; rintro e w2 ⟨rfl, n, hI2⟩; have HI2 := hide hI2; clear hI2))
    have HI3 := unhide HI2
    rw [← unhide Hrl] at HI3
    obtain ⟨A, c, hc, hown, hb, hne, hln⟩ := HI3
    have hc1 := cell_of_one hc
    have hf1 := free_of_one hc
    have hc2 := cell_of_one (one_setCell (u := .slice A (Pth.partsL p).length c) hc)
    have Hc := hide hc
    clear hc
    go_region_with (go_at_call 56; refine (flipw (Try.strings_HasPrefix _ _ _)).mono ?_; rintro e w3 ⟨rfl, rfl⟩)
    all_goals
      go_wp2
      refine bodyPost_ret (v := .tuple #[.slice A (Pth.partsL p).length c, .bool (Lib.hasPrefix p.data.toList [47]), .int .i64 0]) (by simp [results, Try.results36, go_sem, hc2]) rfl ?_
      exact ⟨A, c, by rw [unhide Hrb, unhide H0], ownsRow_setCell_other hown (a := ⟨w.heap.size, 0, none⟩) hne _, (hb.setCell (p := ⟨w.heap.size, 0, none⟩) (Nat.le_refl _) _).drew⟩
  · have b0 : (Pth.chk p == 0) = false := by simpa using h0
    have b1 : (Pth.chk p != 0) = true := by simpa using h0
    have e1 : Pth.partsL p = [] := by simp [Pth.partsL, h0]
    have e2 : Pth.rootB p = false := by simp [Pth.rootB, h0]
    rw [e1, e2]
    clear hck e1 e2 h0
    go_enter Try.func36, Try.ntmps36
    go_wp2_with (go_at_call 53; refine (check_any p hp _).mono ?_; rintro e w1 ⟨rfl, hb1⟩; have hn := newblk hb1; have Hb := hide (below_new hb1); clear hb1; have hc := cell_of_one hn; have hf := free_of_one hn; have hc2 := cell_of_one (one_setCell (u := .slice none 0 0) hn); clear hn)
    refine bodyPost_ret (v := .tuple #[.slice none 0 0, .bool false, .int .i64 (Pth.chk p)]) (by simp [results, Try.results36, go_sem, hc2]) rfl ?_
    exact ⟨none, 0, rfl, World.ownsRow_nil _ _ _ _, (unhide Hb).setCell (p := ⟨w.heap.size, 0, none⟩) (Nat.le_refl _) _⟩

end Go.Proofs.Yteiciabhfjakgaa
namespace Go.Proofs.Yteiciabhfjakgaa
set_option linter.unusedVariables false
set_option linter.unusedSimpArgs false
open Go.RowKit

theorem as_link (v : Value) (w : World) : (Instr.typeAssert (.iface 121 v) 68 121 true).run Try.prog w = .ok (.tuple #[v, .bool true]) w := by
  simp [Instr.typeAssert, run_underlying Try.underlying121, go_sem, Result.andThen]
theorem zero_link (w : World) : (zeroValue 121).run Try.prog w = .ok (.pointer none) w := by kernel_rfl
theorem file_no_link (v : Value) (w : World) : (Instr.typeAssert (.iface 80 v) 68 121 true).run Try.prog w = .ok (.tuple #[.pointer none, .bool false]) w := by
  simp [Instr.typeAssert, run_underlying Try.underlying121, zero_link, go_sem, Result.andThen]
theorem dir_no_link (v : Value) (w : World) : (Instr.typeAssert (.iface 70 v) 68 121 true).run Try.prog w = .ok (.tuple #[.pointer none, .bool false]) w := by
  simp [Instr.typeAssert, run_underlying Try.underlying121, zero_link, go_sem, Result.andThen]

theorem strs_one (l : List ByteArray) : ∀ u ∈ l.map Value.string, u.oneCell' = true := by
  intro u hu
  obtain ⟨x, _, rfl⟩ := List.mem_map.1 hu
  rfl
/-- along's first answer. -/
def alV (F : List Vf.Nd) (L : List Pl) (r : Int × Nat) : Value := if r.1 = 0 then ndA F L r.2 else .nilIface
/-- Where the walk stands: the state's three slots, in the world W. -/
structure AlS (w : World) (F : List Vf.Nd) (L : List Pl) (cr : Vf.Cred) (Ag : Option Addr) (ng kg : Nat) (last : Bool) (r : Int × Nat) (M : Nat) (s : Vf.St) (A : Option Addr) (c1 : Nat) (W : World) : Prop where
  b : Below w.heap.size w W
  cb : Blk W w.heap.size 44 [.int .u32 (cr.uid : Nat), .int .u32 (cr.euid : Nat), .int .u32 (cr.suid : Nat), .int .u32 (cr.gid : Nat), .slice Ag ng kg]
  rd : Rd W W.heap.size 1 A s.left.length (s.left.map Value.string)
  at_ : s.at_ < F.length
  lk : s.links ≤ 8
  mu : Vf.mu s ≤ M
  r : Vf.ends F cr last s = r
  cap : s.left.length ≤ c1
theorem AlS.below {w : World} {F : List Vf.Nd} {L : List Pl} {cr : Vf.Cred} {Ag : Option Addr} {ng kg : Nat} {last : Bool} {r : Int × Nat} {M : Nat} {s : Vf.St} {A : Option Addr} {c1 : Nat} {W W' : World} (h : AlS w F L cr Ag ng kg last r M s A c1 W) (hb : Below W.heap.size W W') : AlS w F L cr Ag ng kg last r M s A c1 W' :=
  ⟨h.b.trans (hb.mono h.b.size), h.cb.belowSz hb, h.rd.belowSz hb, h.at_, h.lk, h.mu, h.r, h.cap⟩
theorem AlS.len {w : World} {F : List Vf.Nd} {L : List Pl} {cr : Vf.Cred} {Ag : Option Addr} {ng kg : Nat} {last : Bool} {r : Int × Nat} {M : Nat} {s : Vf.St} {A : Option Addr} {c1 : Nat} {W : World} (h : AlS w F L cr Ag ng kg last r M s A c1 W) : s.left.length ≤ M := by
  have := h.mu
  unfold Vf.mu at this
  omega
/-- An end. -/
theorem AlS.stop {w : World} {F : List Vf.Nd} {L : List Pl} {cr : Vf.Cred} {Ag : Option Addr} {ng kg : Nat} {last : Bool} {r x : Int × Nat} {M : Nat} {s : Vf.St} {A : Option Addr} {c1 : Nat} {W : World} (h : AlS w F L cr Ag ng kg last r M s A c1 W) (hh : Vf.hop F cr last s = .inl x) : r = x := by
  rw [← h.r, Vf.ends_eq, hh]
theorem AlS.next {w : World} {F : List Vf.Nd} {L : List Pl} {cr : Vf.Cred} {Ag : Option Addr} {ng kg : Nat} {last : Bool} {r : Int × Nat} {M : Nat} {s s' : Vf.St} {A : Option Addr} {c1 : Nat} {W : World} (h : AlS w F L cr Ag ng kg last r M s A c1 W) (hh : Vf.hop F cr last s = .inr s') : Vf.ends F cr last s' = r ∧ Vf.mu s' < Vf.mu s := by
  refine ⟨?_, Vf.hop_mu hh⟩
  rw [← h.r, Vf.ends_eq F cr last s, hh]
set_option maxRecDepth 100000 in
set_option maxHeartbeats 4000000 in
theorem along_any (F : List Vf.Nd) (L : List Pl) (lo f c : Nat) (A Ag A' : Option Addr) (ng kg c' : Nat) (cr : Vf.Cred) (i0 : Nat) (x0 : Vf.Nd) (p0 : Pl) (l : List ByteArray) (last : Bool) (w : World) (hF : Vf.Good F) (h : FsM w lo f A c F L) (hn : F.length ≤ 65)
    (hx0 : F[i0]? = some x0) (hp0 : L[i0]? = some p0) (hk0 : x0.m.kind = 2) (hl : Rd w w.heap.size 1 A' l.length (l.map Value.string)) (hll : l.length ≤ 201) (hcap : l.length ≤ c') (hg : Rd w w.heap.size 1 Ag ng (cr.groups.map u32v)) (hng : ng ≤ maxLen) :
    Calls Try.prog 39 #[ptrV f, credV cr Ag ng kg, ptrV p0.q, .slice A' l.length c', .bool last] w fun e w' => e = .returned (.tuple #[alV F L (Vf.ends F cr last ⟨i0, 0, l⟩), .int .i64 (Vf.ends F cr last ⟨i0, 0, l⟩).1]) ∧ Below w.heap.size w w' := by
  have KMay : ∀ (i : Nat) (x : Vf.Nd), F[i]? = some x → ∀ w', Below w.heap.size w w' → Calls Try.prog 58 #[.agg #[.int .u32 (cr.uid : Nat), .int .u32 (cr.euid : Nat), .int .u32 (cr.suid : Nat), .int .u32 (cr.gid : Nat), .slice Ag ng kg], .agg #[.int .u8 (x.m.kind : Nat), .int .u16 (x.m.mode : Nat), .int .u32 (x.m.uid : Nat), .int .u32 (x.m.gid : Nat), .int .i64 (x.m.size : Nat)], .int .u8 1] w' fun e w2 => e = .returned (.bool (Vf.mayX cr x.m)) ∧ Below w'.heap.size w' w2 :=
    fun i x hx w' hb => may_any cr x.m Ag ng kg w.heap.size w' (hg.below hb) hb.size hng (hF.mode i x hx)
  obtain ⟨pr, hpr, _, _⟩ := h.at_ hF.r
  have hrk := Vf.root_dir hF
  rw [Vf.kindAt_eq hF.r] at hrk
  have KRoot : ∀ w', Below w.heap.size w w' → Calls Try.prog 37 #[.pointer (some ⟨f, 0, none⟩)] w' fun e w2 => e = .returned (.pointer (some ⟨pr.q, 0, none⟩)) ∧ w' = w2 :=
    fun w' hb => root_any F L f c w'.heap.size A w' (h.belowSz hb).toR hn _ pr hF.r hpr hrk
  have e00 : ndA F L 0 = .iface 70 (.pointer (some ⟨pr.q, 0, none⟩)) := by
    rw [h.ndA_eq hF.r hpr]
    rfl
  have He00 := hide e00
  have S0 : AlS w F L cr Ag ng kg last (Vf.ends F cr last ⟨i0, 0, l⟩) (Vf.mu ⟨i0, 0, l⟩) ⟨i0, 0, l⟩ A' c' (w.alloc (.cells #[.int .u32 (cr.uid : Nat), .int .u32 (cr.euid : Nat), .int .u32 (cr.suid : Nat), .int .u32 (cr.gid : Nat), .slice Ag ng kg] 44)) :=
    ⟨(Below.refl _ _).alloc (Nat.le_refl _) _, Blk.new w 44 [.int .u32 (cr.uid : Nat), .int .u32 (cr.euid : Nat), .int .u32 (cr.suid : Nat), .int .u32 (cr.gid : Nat), .slice Ag ng kg], (hl.below ((Below.refl _ _).alloc (Nat.le_refl _) _)).more (by simp), (List.getElem?_eq_some_iff.1 hx0).1, Nat.zero_le _, Nat.le_refl _, rfl, hcap⟩
  have hM : Vf.mu ⟨i0, 0, l⟩ ≤ 1817 := by unfold Vf.mu; simp only; omega
  have e0 : ndA F L i0 = .iface 70 (.pointer (some ⟨p0.q, 0, none⟩)) := by
    rw [h.ndA_eq hx0 hp0]
    unfold kindT
    rw [if_pos hk0]
  obtain ⟨r, hr⟩ : ∃ r, Vf.ends F cr last ⟨i0, 0, l⟩ = r := ⟨_, rfl⟩
  obtain ⟨M, hMe⟩ : ∃ M, Vf.mu ⟨i0, 0, l⟩ = M := ⟨_, rfl⟩
  obtain ⟨re, rn⟩ := r
  rw [hr] at S0 ⊢
  rw [hMe] at S0 hM
  dsimp only
  have HS0 := hide S0
  have HF := hide hF
  have H := hide h
  have HKM := hide KMay
  have HKR := hide KRoot
  have He0 := hide e0.symm
  have HMe := hide hMe
  obtain ⟨av, hav⟩ : ∃ v, alV F L (re, rn) = v := ⟨_, rfl⟩
  have Hav := hide hav
  rw [hav]
  obtain ⟨nl, hnl⟩ : ∃ n, l.length = n := ⟨_, rfl⟩
  have Hnl := hide hnl
  rw [hnl]
  unfold credV ptrV
  clear hr hMe S0 hF h KMay KRoot e00 hrk hpr hx0 hp0 hk0 hl hg e0 hav hnl
  go_enter Try.func39, Try.ntmps39
  go_wp2_with fail
  go_loopg [3, 12, 13] M (fun gk lv nv kv wr => ∃ (s : Vf.St) (A1 : Option Addr) (c1 : Nat), gk = Vf.mu s ∧ lv = .slice A1 s.left.length c1 ∧ nv = ndA F L s.at_ ∧ kv = .int .i64 (s.links : Nat) ∧ AlS w F L cr Ag ng kg last (re, rn) M s A1 c1 wr)
  case atStart => exact ⟨⟨i0, 0, l⟩, A', c', (unhide HMe).symm, by rw [← unhide Hnl], (unhide He0), rfl, unhide HS0⟩
  case round =>
  obtain ⟨s, A1, c1, hgk, rfl, rfl, rfl, hS⟩ := hrel
  have HS := hide hS
  have hat := hS.at_
  have hlen := hS.len
  obtain ⟨x, hx⟩ : ∃ x, F[s.at_]? = some x := ⟨_, List.getElem?_eq_getElem hat⟩
  obtain ⟨p, hp, _, _⟩ := (unhide H).at_ hx
  have e1 := (unhide H).ndA_eq hx hp
  have Hx := hide hx
  have Hp := hide hp
  have Hgk := hide hgk
  cases hleft : s.left with
  | nil =>
    obtain ⟨rfl, rfl⟩ : re = 0 ∧ rn = s.at_ := by
      have := hS.stop (Vf.hop_nil hleft)
      injection this with a b
      exact ⟨a, b⟩
    have hz : alV F L (0, s.at_) = ndA F L s.at_ := by unfold alV; rw [if_pos rfl]
    rw [hz] at Hav
    rw [unhide Hav]
    simp only [List.length_nil]
    have Hb := hide hS.b
    clear hS hz hx hp e1 hgk hlen hat hleft
    go_wp2_with fail
    go_ret2
    exact ⟨rfl, unhide Hb⟩
  | cons pn rest =>
    have hl1 : s.left.length = rest.length + 1 := by rw [hleft]; rfl
    have Hleft := hide hleft
    obtain ⟨m, hm⟩ : ∃ m, rest.length = m := ⟨_, rfl⟩
    have Hm := hide hm
    have hmM : m < M := by omega
    simp only [List.length_cons]
    rw [hm]
    have g1 : (0 : Int) < (m : Int) + 1 := by omega
    have gl : ((m + 1 : Nat) : Int) = (m : Int) + 1 := by omega
    by_cases hk2 : x.m.kind = 2
    · have et : kindT x.m.kind = 70 := by rw [hk2]; rfl
      rw [et] at e1
      rw [e1]
      have ha := is_dir (.pointer (some ⟨p.q, 0, none⟩))
      have hka : Vf.kindAt F s.at_ = 2 := (Vf.kindAt_eq hx).trans hk2
      have hnd : Vf.nd F s.at_ = x := Vf.nd_eq hx
      have HW := hide ((unhide H).belowSz hS.b)
      obtain ⟨_, u, hu, hb⟩ := (unhide HW).nd s.at_ x p hx hp
      have hcb := hS.cb
      have KM := (unhide HKM) s.at_ x hx
      obtain ⟨bm, hbm⟩ : ∃ b, Vf.mayX cr x.m = b := ⟨_, rfl⟩
      rw [hbm] at KM
      have Hbm := hide hbm
      have HSK : ∀ w', Below wr.heap.size wr w' → (Below wr.heap.size wr w' ∧ w'.cell? ⟨w.heap.size, 0, none⟩ = some (.int .u32 (cr.uid : Nat)) ∧ w'.cell? ⟨w.heap.size, 1, none⟩ = some (.int .u32 (cr.euid : Nat)) ∧ w'.cell? ⟨w.heap.size, 2, none⟩ = some (.int .u32 (cr.suid : Nat)) ∧ w'.cell? ⟨w.heap.size, 3, none⟩ = some (.int .u32 (cr.gid : Nat)) ∧ w'.cell? ⟨w.heap.size, 4, none⟩ = some (.slice Ag ng kg) ∧ w'.cell? ⟨p.q, 0, none⟩ = some (.int .u8 (x.m.kind : Nat)) ∧ w'.cell? ⟨p.q, 1, none⟩ = some (.int .u16 (x.m.mode : Nat)) ∧ w'.cell? ⟨p.q, 2, none⟩ = some (.int .u32 (x.m.uid : Nat)) ∧ w'.cell? ⟨p.q, 3, none⟩ = some (.int .u32 (x.m.gid : Nat)) ∧ w'.cell? ⟨p.q, 4, none⟩ = some (.int .i64 (x.m.size : Nat))) := by
        intro w' hbw
        have h1 := hcb.belowSz hbw
        have h2 := ndCells (hb.belowSz hbw)
        exact ⟨hbw, h1.cell rfl, h1.cell rfl, h1.cell rfl, h1.cell rfl, h1.cell rfl, h2⟩
      obtain ⟨-, a0, a1, a2, a3, a4, b0, b1, b2, b3, b4⟩ := HSK wr (Below.refl _ _)
      have hbW := hS.b
      have HKM2 := hide (fun w' (hbw : Below wr.heap.size wr w') => KM w' (hbW.trans (hbw.mono hbW.size)))
      have HbW := hide hbW
      have Hka := hide hka
      have Hnd := hide hnd
      have HSK' := hide HSK
      have HeS := hide ((unhide H).ndA_eq hx hp |>.trans (by rw [hk2]; rfl : _ = Value.iface 70 (.pointer (some ⟨p.q, 0, none⟩))))
      have Hk2 := hide hk2
      have Hu := hide hu
      have Hb := hide hb
      clear hS hx hp hgk hlen hat hleft hu hb hcb KM hbm HSK hbW hka hnd e1 et hk2 hm hl1 hll hn
      go_wp2_with fail
      go_region_held3 (fun w' => Below wr.heap.size wr w' ∧ w'.cell? ⟨w.heap.size, 0, none⟩ = some (.int .u32 (cr.uid : Nat)) ∧ w'.cell? ⟨w.heap.size, 1, none⟩ = some (.int .u32 (cr.euid : Nat)) ∧ w'.cell? ⟨w.heap.size, 2, none⟩ = some (.int .u32 (cr.suid : Nat)) ∧ w'.cell? ⟨w.heap.size, 3, none⟩ = some (.int .u32 (cr.gid : Nat)) ∧ w'.cell? ⟨w.heap.size, 4, none⟩ = some (.slice Ag ng kg) ∧ w'.cell? ⟨p.q, 0, none⟩ = some (.int .u8 (x.m.kind : Nat)) ∧ w'.cell? ⟨p.q, 1, none⟩ = some (.int .u16 (x.m.mode : Nat)) ∧ w'.cell? ⟨p.q, 2, none⟩ = some (.int .u32 (x.m.uid : Nat)) ∧ w'.cell? ⟨p.q, 3, none⟩ = some (.int .u32 (x.m.gid : Nat)) ∧ w'.cell? ⟨p.q, 4, none⟩ = some (.int .i64 (x.m.size : Nat))) (first | exact (unhide HSK') _ (below_drew' (Below.refl _ _)) | exact (unhide HSK') _ (unhide hbn)) (first
        | (go_at_call 58; rename Below _ _ _ ∧ _ => hH; refine ((unhide HKM2) _ hH.1).mono ?_; rintro e w2 ⟨rfl, hb2⟩; have hbn := hide (hH.1.trans (hb2.mono hH.1.size))))
      have HS2 := hide ((unhide HS).below (unhide hbn))
      have HW2 := hide ((unhide HW).belowSz (unhide hbn))
      have Hb2 := hide ((unhide Hb).belowSz (unhide hbn))
      clear a0 a1 a2 a3 a4 b0 b1 b2 b3 b4
      cases bm with
      | false =>
        obtain ⟨rfl, rfl⟩ : re = 5 ∧ rn = 0 := by
          have := (unhide HS).stop (Vf.hop_shut (unhide Hleft) (unhide Hka) (by rw [unhide Hnd]; exact unhide Hbm))
          injection this with a b
          exact ⟨a, b⟩
        have Hb3 := hide (unhide HS2).b
        have hz : alV F L (5, 0) = .nilIface := rfl
        rw [hz] at Hav
        have hv := unhide Hav
        subst hv
        clear hz
        go_wp2_with fail
        go_ret2
        exact ⟨rfl, unhide Hb3⟩
      | true =>
        have hrd := (unhide HS2).rd
        rw [unhide Hleft, List.length_cons, unhide Hm, List.map_cons] at hrd
        have hcp := (unhide HS2).cap
        rw [unhide Hleft, List.length_cons, unhide Hm] at hcp
        have hsl := fun w' => run_tail (P := Try.prog) (e := 9) Try.underlying85 (by kernel_rfl) A1 m c1 w'
        have hrt := hrd.tail hcp
        obtain ⟨bL, oL, hA1, _, cL⟩ := hrd.at_ (k := 0) (u := .string pn) rfl
        obtain ⟨A2, hA2⟩ : ∃ A2, tailA A1 c1 = A2 := ⟨_, rfl⟩
        rw [hA2] at hsl hrt
        rw [Nat.add_zero] at cL
        subst hA1
        have Hrt := hide hrt
        have Hcp := hide hcp
        clear hrd hA2 hrt hcp
        have hdq : (pn.toList == [46, 46]) = decide (pn = Vf.dd) := by
          have h := beq_toList pn Vf.dd
          rwa [show Vf.dd.toList = [46, 46] by rw [Lib.toList_data]; rfl] at h
        have hml : ∀ (s' : Vf.St), Vf.hop F cr last s = .inr s' → Vf.mu s' < Vf.mu s := fun s' h => Vf.hop_mu h
        by_cases hd : pn = Vf.dd
        · rw [decide_eq_true hd] at hdq
          obtain ⟨hul, hud⟩ := Vf.up_lt (unhide HF) (unhide Hx)
          obtain ⟨xu, hxu, hxk⟩ := Vf.kindAt_lt hud
          have eu := (unhide H).ndA_eq hxu (unhide Hu)
          rw [hxk] at eu
          have c6 : w2.cell? ⟨p.q, 6, none⟩ = some (.pointer (some ⟨u.q, 0, none⟩)) := (unhide Hb2).cell rfl
          have hnx := (unhide HS).next (Vf.hop_up (unhide Hleft) (unhide Hka) (by rw [unhide Hnd]; exact unhide Hbm) hd)
          rw [unhide Hnd] at hnx
          have HN : Hid (AlS w F L cr Ag ng kg last (re, rn) M ⟨x.up, s.links, rest⟩ A2 (c1 - 1) w2) :=
            hide ⟨(unhide HS2).b, (unhide HS2).cb, by rw [unhide Hm]; exact unhide Hrt, hul, (unhide HS2).lk, Nat.le_trans (Nat.le_of_lt hnx.2) (unhide HS2).mu, hnx.1, by rw [unhide Hm]; have := unhide Hcp; omega⟩
          have Hnx := hide hnx.2
          have Heu := hide eu
          clear hd hul hud hxu hxk eu hnx hml
          go_wp2_with fail
          go_roundg (Vf.mu ⟨x.up, s.links, rest⟩)
          case rel => exact ⟨⟨x.up, s.links, rest⟩, A2, c1 - 1, rfl, by rw [unhide Hm], (unhide Heu).symm, rfl, unhide HN⟩
          case measure => rw [unhide Hgk]; exact unhide Hnx
        · rw [decide_eq_false hd] at hdq
          have c8 : w2.cell? ⟨p.q, 8, none⟩ = some (lastV x p) := (unhide Hb2).cell rfl
          have e8 : lastV x p = .map (some p.g) := by unfold lastV; rw [if_pos (unhide Hk2)]
          rw [e8] at c8
          have hml : Vf.mayX cr (Vf.nd F s.at_).m = true := by rw [unhide Hnd]; exact unhide Hbm
          cases hc : Vf.child F s.at_ pn with
          | none =>
            have hlk := look_no (unhide HF) (unhide HW2) (unhide Hx) (unhide Hp) (unhide Hk2) hc
            obtain ⟨rfl, rfl⟩ : re = 3 ∧ rn = 0 := by
              have := (unhide HS).stop (Vf.hop_none (unhide Hleft) (unhide Hka) hml hd hc)
              injection this with a b
              exact ⟨a, b⟩
            have Hb3 := hide (unhide HS2).b
            have hz : alV F L (3, 0) = .nilIface := rfl
            rw [hz] at Hav
            have hv := unhide Hav
            subst hv
            clear hz e8 hd hc hml
            go_wp2_with fail
            go_ret2
            exact ⟨rfl, unhide Hb3⟩
          | some j =>
            obtain ⟨xj, pj, hxj, hpj, hlk⟩ := look_yes (unhide HF) (unhide HW2) (unhide Hx) (unhide Hp) (unhide Hk2) hc
            have hjl := (List.getElem?_eq_some_iff.1 hxj).1
            have ej : ndV xj pj = .iface (kindT xj.m.kind) (.pointer (some ⟨pj.q, 0, none⟩)) := rfl
            have ejA := (unhide H).ndA_eq hxj hpj
            have Hxj := hide hxj
            have Hpj := hide hpj
            have HeA := hide ejA
            rw [ej] at hlk
            have HIn : Hid (Vf.kindAt F j ≠ 3 ∨ (rest = [] ∧ last = false) → AlS w F L cr Ag ng kg last (re, rn) M ⟨j, s.links, rest⟩ A2 (c1 - 1) w2 ∧ Vf.mu ⟨j, s.links, rest⟩ < Vf.mu s) := hide (fun h3 => by
              have hnx := (unhide HS).next (Vf.hop_in (unhide Hleft) (unhide Hka) hml hd hc h3)
              exact ⟨⟨(unhide HS2).b, (unhide HS2).cb, by rw [unhide Hm]; exact unhide Hrt, hjl, (unhide HS2).lk, Nat.le_trans (Nat.le_of_lt hnx.2) (unhide HS2).mu, hnx.1, by rw [unhide Hm]; have := unhide Hcp; omega⟩, hnx.2⟩)
            have Hd := hide hd
            have Hml := hide hml
            have Hc := hide hc
            have Hjl := hide hjl
            by_cases hk3 : xj.m.kind = 3
            · have et : kindT xj.m.kind = 121 := by rw [hk3]; rfl
              rw [et] at hlk
              have Het := hide et
              have ha1 := as_link (.pointer (some ⟨pj.q, 0, none⟩))
              obtain ⟨_, uj, _, hbj⟩ := (unhide HW2).nd j xj pj hxj hpj
              have cto : w2.cell? ⟨pj.q, 8, none⟩ = some (lastV xj pj) := hbj.cell rfl
              have e9 : lastV xj pj = .string xj.to := by unfold lastV; rw [if_neg (by omega), if_neg (by omega)]
              rw [e9] at cto
              have hk3' : Vf.kindAt F j = 3 := (Vf.kindAt_eq hxj).trans hk3
              have hndj : Vf.nd F j = xj := Vf.nd_eq hxj
              have hto : xj.to.size ≤ 200 := Pth.chk_size _ ((unhide HF).to j xj hxj hk3)
              by_cases hin : rest = [] ∧ last = false
              · have h3 := (unhide HIn) (.inr hin)
                have HN := hide h3.1
                have Hnx := hide h3.2
                have hm0 : m = 0 := by rw [← unhide Hm, hin.1]; rfl
                have hq0 : ((m : Int) == 0) = true := by rw [hm0]; rfl
                have hla : last = false := hin.2
                clear et h3 hk3 hc hjl ejA hxj hpj hml hd e8 ej hbj e9 hk3' hndj hto hin hm0
                subst hla
                go_wp2_with fail
                go_roundg (Vf.mu ⟨j, s.links, rest⟩)
                case rel => exact ⟨⟨j, s.links, rest⟩, A2, c1 - 1, rfl, by rw [unhide Hm], by rw [unhide HeA, unhide Het], rfl, unhide HN⟩
                case measure => rw [unhide Hgk]; exact unhide Hnx
              · have hno : ¬ (Vf.kindAt F j ≠ 3 ∨ (rest = [] ∧ last = false)) := by
                  rintro (h | h)
                  · exact h hk3'
                  · exact hin h
                have hpick : ((m : Int) == 0) = false ∨ ((m : Int) == 0) = true ∧ last = true := by
                  by_cases hm0 : m = 0
                  · refine .inr ⟨by rw [hm0]; rfl, ?_⟩
                    cases hla : last with
                    | true => rfl
                    | false => exact absurd ⟨List.eq_nil_of_length_eq_zero ((unhide Hm).trans hm0), hla⟩ hin
                  · exact .inl (by rw [beq_eq_false_iff_ne]; omega)
                have hlk8 := (unhide HS2).lk
                have i0 : (0 : Int) ≤ (s.links : Int) := by omega
                have iw : IntKind.i64.wrap ((s.links : Int) + 1) = (s.links : Int) + 1 := IntWalk.i64_in _ (by omega)
                by_cases h8 : 8 ≤ s.links
                · obtain ⟨rfl, rfl⟩ : re = 10 ∧ rn = 0 := by
                    have := (unhide HS).stop (Vf.hop_loop (unhide Hleft) (unhide Hka) hml hd hc hno h8)
                    injection this with a b
                    exact ⟨a, b⟩
                  have Hb3 := hide (unhide HS2).b
                  have hz : alV F L (10, 0) = .nilIface := rfl
                  rw [hz] at Hav
                  have hv := unhide Hav
                  subst hv
                  have g8 : (8 : Int) < (s.links : Int) + 1 := by omega
                  clear et hk3 hc hjl ejA hxj hpj hml hd e8 ej hbj e9 hk3' hndj hto hin hno hz hlk8 h8
                  rcases hpick with hq0 | ⟨hq0, rfl⟩
                  all_goals
                    go_wp2_with fail
                    go_ret2
                    exact ⟨rfl, unhide Hb3⟩
                · have hnx := (unhide HS).next (Vf.hop_link (unhide Hleft) (unhide Hka) hml hd hc hno h8)
                  rw [hndj] at hnx
                  have g8 : ¬ (8 : Int) < (s.links : Int) + 1 := by omega
                  have KP := hide (parts_any xj.to (by unfold maxLen; omega) w2)
                  have hpl := Vf.parts_len xj.to
                  have Hnx := hide hnx
                  have h8' : s.links + 1 ≤ 8 := by omega
                  have hm2 : m ≤ 1817 := by omega
                  obtain ⟨tb, htb⟩ : ∃ b, Pth.rootB xj.to = b := ⟨_, rfl⟩
                  obtain ⟨pl, hpll⟩ : ∃ l, Pth.partsL xj.to = l := ⟨_, rfl⟩
                  rw [htb, hpll] at KP
                  rw [hpll] at hpl
                  obtain ⟨np, hnp⟩ : ∃ n, pl.length = n := ⟨_, rfl⟩
                  rw [hnp] at KP hpl
                  rw [htb, hpll] at Hnx
                  have Hnp := hide hnp
                  clear et hk3 hc hjl ejA hxj hpj hml hd e8 ej hbj e9 hk3' hndj hto hin hno hlk8 h8 hnx htb hpll hnp
                  have HN : ∀ (A4 : Option Addr) (c4 : Nat) (w4 : World), w4.ownsRow w2.heap.size 9 1 (.slice A4 (np + m) c4) (np + m) (pl.map Value.string ++ rest.map Value.string) → Below w2.heap.size w2 w4 → AlS w F L cr Ag ng kg last (re, rn) M ⟨if tb = true then 0 else s.at_, s.links + 1, pl ++ rest⟩ A4 c4 w4 := by
                    intro A4 c4 w4 ho4 hb4
                    have hS4 := (unhide HS2).below hb4
                    have hlen4 : (pl ++ rest).length = np + m := by rw [List.length_append, unhide Hnp, unhide Hm]
                    refine ⟨hS4.b, hS4.cb, ?_, ?_, h8', Nat.le_trans (Nat.le_of_lt (unhide Hnx).2) (unhide HS2).mu, (unhide Hnx).1, ?_⟩
                    · show Rd w4 w4.heap.size 1 A4 (pl ++ rest).length ((pl ++ rest).map Value.string)
                      rw [hlen4, List.map_append]
                      exact Rd.of_own ho4
                    · show (if tb = true then 0 else s.at_) < F.length
                      split
                      · exact Vf.good_pos (unhide HF)
                      · exact (unhide HS2).at_
                    · show (pl ++ rest).length ≤ c4
                      rw [hlen4]
                      exact own_cap ho4
                  have hlen4 : (pl ++ rest).length = np + m := by rw [List.length_append, unhide Hnp, unhide Hm]
                  have Hlen4 := hide hlen4
                  replace HN := hide HN
                  clear hlen4
                  rcases hpick with hq0 | ⟨hq0, rfl⟩
                  all_goals
                    go_wp2_with fail
                    refine (unhide KP).mono ?_
                    rintro e w3 ⟨A3, c3, rfl, ho3, hb3⟩
                    have Ho3 := hide ho3
                    have Hb3 := hide hb3
                    have Hr3 := hide ((unhide Hrt).belowSz hb3)
                    have hsz3 := hb3.size
                    have Hb23 := hide hb3
                    have HS3 := hide ((unhide HS2).below hb3)
                    have hlo3 := fun k hk => (ho3.lt k hk).1
                    have Hlo3 := hide hlo3
                    clear ho3 hb3 hlo3
                    cases tb with
                    | false =>
                      go_wp2_with (at_builtin; refine wpList_app strTy rfl _ _ rfl w2.heap.size (.slice A3 np c3) np _ rfl (unhide Ho3) w3.heap.size A2 m (c1 - 1) _ rfl (unhide Hr3) (strs_one _) (by omega) hsz3 ?_; intro A4 c4 w4 ho4 hg4 hat4; have hb4 := (Below.refl w2.heap.size w3).grown hg4 hsz3 (unhide Hlo3); have Ho4 := hide ho4; have Hb4 := hide hb4; clear ho4 hg4 hat4 hb4)
                      have hN4 := (unhide HN) A4 c4 w4 (unhide Ho4) ((unhide Hb23).trans ((unhide Hb4).mono (Nat.le_refl _)))
                      go_roundg (Vf.mu ⟨s.at_, s.links + 1, pl ++ rest⟩)
                      case rel => exact ⟨⟨s.at_, s.links + 1, pl ++ rest⟩, A4, c4, rfl, by rw [unhide Hlen4], (unhide HeS).symm, rfl, hN4⟩
                      case measure => rw [unhide Hgk]; exact (unhide Hnx).2
                    | true =>
                      go_wp2_with (at_builtin; refine wpList_app strTy rfl _ _ rfl w2.heap.size (.slice A3 np c3) np _ rfl (unhide Ho3) w3.heap.size A2 m (c1 - 1) _ rfl (unhide Hr3) (strs_one _) (by omega) hsz3 ?_; intro A4 c4 w4 ho4 hg4 hat4; have hb4 := (Below.refl w2.heap.size w3).grown hg4 hsz3 (unhide Hlo3); have Ho4 := hide ho4; have Hb4 := hide hb4; clear ho4 hg4 hat4 hb4)
                      have hN4 := (unhide HN) A4 c4 w4 (unhide Ho4) ((unhide Hb23).trans ((unhide Hb4).mono (Nat.le_refl _)))
                      refine ((unhide HKR) w4 hN4.b).mono ?_
                      rintro e w5 ⟨rfl, rfl⟩
                      go_wp2_with fail
                      go_roundg (Vf.mu ⟨0, s.links + 1, pl ++ rest⟩)
                      case rel => exact ⟨⟨0, s.links + 1, pl ++ rest⟩, A4, c4, rfl, by rw [unhide Hlen4], (unhide He00).symm, rfl, hN4⟩
                      case measure => rw [unhide Hgk]; exact (unhide Hnx).2
            · have h3 := (unhide HIn) (.inl (by rw [Vf.kindAt_eq hxj]; exact hk3))
              have HN := hide h3.1
              have Hnx := hide h3.2
              have et : kindT xj.m.kind = 80 ∨ kindT xj.m.kind = 70 := by
                rcases kind3 (unhide HF) hxj with h1 | h1 | h1
                · exact .inl (by rw [h1]; rfl)
                · exact .inr (by rw [h1]; rfl)
                · exact absurd h1 hk3
              have ha1 := file_no_link (.pointer (some ⟨pj.q, 0, none⟩))
              have ha2 := dir_no_link (.pointer (some ⟨pj.q, 0, none⟩))
              rcases et with et | et
              all_goals
                rw [et] at hlk
                have Het := hide et
                clear et h3 hk3 hc hjl ejA hxj hpj hml hd e8 ej
                go_wp2_with fail
                go_roundg (Vf.mu ⟨j, s.links, rest⟩)
                case rel => exact ⟨⟨j, s.links, rest⟩, A2, c1 - 1, rfl, by rw [unhide Hm], by rw [unhide HeA, unhide Het], rfl, unhide HN⟩
                case measure => rw [unhide Hgk]; exact unhide Hnx
    · have hka : Vf.kindAt F s.at_ ≠ 2 := by rw [Vf.kindAt_eq hx]; exact hk2
      obtain ⟨rfl, rfl⟩ : re = 8 ∧ rn = 0 := by
        have := hS.stop (Vf.hop_no hleft hka)
        injection this with a b
        exact ⟨a, b⟩
      have hz : alV F L (8, 0) = .nilIface := rfl
      rw [hz] at Hav
      have hv := unhide Hav
      subst hv
      rw [e1]
      have Hb := hide hS.b
      have et : kindT x.m.kind = 80 ∨ kindT x.m.kind = 121 := by
        rcases kind3 (unhide HF) hx with h1 | h1 | h1
        · exact .inl (by rw [h1]; rfl)
        · exact absurd h1 hk2
        · exact .inr (by rw [h1]; rfl)
      have ha := file_no_dir (.pointer (some ⟨p.q, 0, none⟩))
      have ha2 := link_no_dir (.pointer (some ⟨p.q, 0, none⟩))
      rcases et with et | et
      all_goals
        rw [et]
        clear et hS hz hx hp e1 hgk hlen hat hleft hk2 hka hm hl1 hll hn
        go_wp2_with fail
        go_ret2
        exact ⟨rfl, unhide Hb⟩
end Go.Proofs.Yteiciabhfjakgaa
namespace Go.Proofs.Yteiciabhfjakgaa
set_option linter.unusedVariables false
set_option linter.unusedSimpArgs false
open Go.RowKit

theorem tail_any (p : ByteArray) (hp : p.size ≤ 4611686018427387903) (w : World) :
    Calls Try.prog 38 #[.string p] w fun e w' => e = .returned (.bool (Pth.tailB p)) ∧ w = w' := by
  go_enter Try.func38, Try.ntmps38
  go_wp2_with (go_at_call 57; refine (flipw (Try.strings_HasSuffix _ _ _ (by omega))).mono ?_; rintro e w1 ⟨rfl, rfl⟩)
  go_ret
  exact ⟨rfl, rfl⟩

theorem rlast_any (p : ByteArray) (hp : p.size ≤ 4611686018427387903) (w : World) :
    Calls Try.prog 47 #[.string p] w fun e w' => e = .returned (.int .i64 (Pth.lastB p)) ∧ w = w' := by
  go_enter Try.func47, Try.ntmps47
  go_wp2
  go_loop [3, 4] (fun at_ i => ∃ k : Nat, k ≤ p.size ∧ i = .int .i64 k ∧ at_ = .int .i64 (Lib.lastIdx p 47 k)) (fun _ i => p.size - (intOf i).toNat)
  case atStart => exact ⟨0, by omega, rfl, rfl⟩
  case round =>
    obtain ⟨k, hk, rfl, rfl⟩ := hrel
    by_cases hlt : k < p.size
    · have hs := Pth.lastIdx_step p k hlt
      by_cases hc : ((p[k].toNat : Nat) : Int) = 47
      · rw [if_pos hc] at hs
        have b : (((p[k].toNat : Nat) : Int) == 47) = true := by simpa using hc
        have Hs := hide hs
        clear hs hc
        go_wp2
        go_round
        case rel => exact ⟨k + 1, by omega, by go_num, by rw [unhide Hs]⟩
        case measure => simp [intOf]; omega
      · rw [if_neg hc] at hs
        have b : (((p[k].toNat : Nat) : Int) == 47) = false := by simpa using hc
        have Hs := hide hs
        clear hs hc
        go_wp2
        go_round
        case rel => exact ⟨k + 1, by omega, by go_num, by rw [unhide Hs]⟩
        case measure => simp [intOf]; omega
    · obtain rfl : k = p.size := by omega
      go_wp2
      go_ret
      exact ⟨rfl, rfl⟩

theorem rtail_any (p : ByteArray) (hp : p.size ≤ 4611686018427387903) (w : World) :
    Calls Try.prog 27 #[.string p] w fun e w' => e = .returned (.bool (Pth.tailB p)) ∧ w = w' := by
  by_cases h0 : p.size = 0
  · have h1 : ¬ (0 < p.size) := by omega
    rw [Pth.tailB_empty p h0]
    have H0 := hide h0
    clear h0
    go_enter Try.func27, Try.ntmps27
    go_wp2
    go_ret
    exact ⟨rfl, rfl⟩
  · rw [Pth.tailB_iff p (by omega)]
    have h1 : 0 < p.size := by omega
    go_enter Try.func27, Try.ntmps27
    go_wp2
    go_ret
    exact ⟨by rw [← byte_47]; rfl, rfl⟩

theorem rdir_any (p : ByteArray) (hp : p.size ≤ 4611686018427387903) (w : World) :
    Calls Try.prog 28 #[.string p] w fun e w' => e = .returned (.string (Pth.dirB p)) ∧ w = w' := by
  have hb := Pth.lastB_bd p
  have hl := fun w => rlast_any p hp w
  have hfin : Pth.dirB p = if Pth.lastB p = -1 then ⟨#[46]⟩ else if Pth.lastB p = 0 then ⟨#[47]⟩ else p.extract 0 (Pth.lastB p).toNat := rfl
  generalize Pth.lastB p = i at *
  have Hl := hide hl
  by_cases h1 : i = -1
  · have b1 : i < 0 := by omega
    rw [hfin, if_pos h1]
    clear hfin hl h1
    go_enter Try.func28, Try.ntmps28
    go_wp2_with (go_at_call 47; refine ((unhide Hl) _).mono ?_; rintro e w1 ⟨rfl, rfl⟩)
    go_ret
    exact ⟨rfl, rfl⟩
  · have b1 : ¬ i < 0 := by omega
    by_cases h0 : i = 0
    · have b0 : (i == 0) = true := by simpa using h0
      rw [hfin, if_neg h1, if_pos h0]
      clear hfin hl h1 h0
      go_enter Try.func28, Try.ntmps28
      go_wp2_with (go_at_call 47; refine ((unhide Hl) _).mono ?_; rintro e w1 ⟨rfl, rfl⟩)
      go_ret
      exact ⟨rfl, rfl⟩
    · have b0 : (i == 0) = false := by simpa using h0
      rw [hfin, if_neg h1, if_neg h0]
      obtain ⟨k, rfl⟩ : ∃ k : Nat, i = k := ⟨i.toNat, by omega⟩
      rw [Int.toNat_natCast]
      have hk : k ≤ p.size := by omega
      clear hfin hl h1 h0 b1
      go_enter Try.func28, Try.ntmps28
      go_wp2_with (go_at_call 47; refine ((unhide Hl) _).mono ?_; rintro e w1 ⟨rfl, rfl⟩)
      go_ret
      exact ⟨rfl, rfl⟩

end Go.Proofs.Yteiciabhfjakgaa
namespace Go.Proofs.Yteiciabhfjakgaa
set_option linter.unusedVariables false
set_option linter.unusedSimpArgs false
open Go.RowKit

theorem hop_lt {F : List Vf.Nd} (h : Vf.Good F) {c : Vf.Cred} {last : Bool} {s : Vf.St} (hs : s.at_ < F.length) : (∀ x, Vf.hop F c last s = .inl x → x.2 < F.length) ∧ ∀ s', Vf.hop F c last s = .inr s' → s'.at_ < F.length := by
  have h0 := Vf.good_pos h
  unfold Vf.hop
  constructor
  · intro x hx
    split at hx
    · cases hx; exact hs
    · repeat' (first | (split at hx) | (cases hx; exact h0) | cases hx)
  · intro s' hx
    split at hx
    · cases hx
    · split at hx
      · cases hx
      split at hx
      · cases hx
      split at hx
      · cases hx
        obtain ⟨x, hx⟩ : ∃ x, F[s.at_]? = some x := ⟨_, List.getElem?_eq_getElem hs⟩
        show (Vf.nd F s.at_).up < F.length
        rw [Vf.nd_eq hx]
        exact (Vf.up_lt h hx).1
      split at hx
      · cases hx
      · next n hn =>
        split at hx
        · cases hx
          exact (Vf.child_dir h hn).2.2
        split at hx
        · cases hx
        · cases hx
          show (if Pth.rootB (Vf.nd F n).to = true then 0 else s.at_) < F.length
          split
          · exact h0
          · exact hs
theorem go_lt {F : List Vf.Nd} (h : Vf.Good F) {c : Vf.Cred} {last : Bool} : ∀ (k : Nat) (s : Vf.St), s.at_ < F.length → (Vf.go F c last k s).2 < F.length := by
  intro k
  induction k with
  | zero => intro s _; exact Vf.good_pos h
  | succ k ih =>
    intro s hs
    unfold Vf.go
    cases hh : Vf.hop F c last s with
    | inl x => exact (hop_lt h hs).1 x hh
    | inr s' => exact ih s' ((hop_lt h hs).2 s' hh)
theorem ends_lt {F : List Vf.Nd} (h : Vf.Good F) {c : Vf.Cred} {last : Bool} {s : Vf.St} (hs : s.at_ < F.length) : (Vf.ends F c last s).2 < F.length := go_lt h _ s hs
/-- What node answers, kind by kind. -/
theorem nodeV_in {w : World} {lo f c : Nat} {A : Option Addr} {F : List Vf.Nd} {L : List Pl} (h : FsM w lo f A c F L) {i : Nat} {x : Vf.Nd} {p : Pl} (hx : F[i]? = some x) (hp : L[i]? = some p) : nodeV F L (i : Nat) = .iface (kindT x.m.kind) (.pointer (some ⟨p.q, 0, none⟩)) := by
  have := h.ndA_eq hx hp
  unfold ndA at this
  unfold nodeV
  have hl := (List.getElem?_eq_some_iff.1 hx).1
  rw [if_neg (by simp; omega)]
  simp only [Int.toNat_natCast]
  exact this
theorem nodeV_out {F : List Vf.Nd} {L : List Pl} {ino : Int} (h : ino < 0 ∨ F.length ≤ ino.toNat) : nodeV F L ino = .nilIface := by unfold nodeV; rw [if_pos h]
theorem nodeV_no {w : World} {lo f c : Nat} {A : Option Addr} {F : List Vf.Nd} {L : List Pl} (hF : Vf.Good F) (h : FsM w lo f A c F L) {ino : Int} (hs : ino < 0 ∨ Vf.kindAt F ino.toNat ≠ 2) : nodeV F L ino = .nilIface ∨ (∃ v, nodeV F L ino = .iface 80 v) ∨ (∃ v, nodeV F L ino = .iface 121 v) := by
  by_cases ho : ino < 0 ∨ F.length ≤ ino.toNat
  · exact .inl (nodeV_out ho)
  · obtain ⟨i, rfl⟩ := Int.eq_ofNat_of_zero_le (show 0 ≤ ino by omega)
    have hi : i < F.length := by simp at ho; omega
    obtain ⟨x, hx⟩ : ∃ x, F[i]? = some x := ⟨_, List.getElem?_eq_getElem hi⟩
    obtain ⟨p, hp, _, _⟩ := h.at_ hx
    have e := nodeV_in h hx hp
    have hk : x.m.kind ≠ 2 := by
      rcases hs with h1 | h1
      · omega
      · rw [Int.toNat_natCast, Vf.kindAt_eq hx] at h1
        exact h1
    rcases kind3 hF hx with h1 | h1 | h1
    · exact .inr (.inl ⟨_, by rw [e, h1]; rfl⟩)
    · exact absurd h1 hk
    · exact .inr (.inr ⟨_, by rw [e, h1]; rfl⟩)

set_option maxRecDepth 100000 in
set_option maxHeartbeats 4000000 in
theorem walk_any (F : List Vf.Nd) (L : List Pl) (lo f c : Nat) (A Ag : Option Addr) (ng kg : Nat) (cr : Vf.Cred) (src : Int) (path : ByteArray) (last : Bool) (w : World) (hF : Vf.Good F) (h : FsM w lo f A c F L) (hn : F.length ≤ 65)
    (hg : Rd w w.heap.size 1 Ag ng (cr.groups.map u32v)) (hng : ng ≤ maxLen) (hps : path.size ≤ 4294967296) :
    Calls Try.prog 21 #[ptrV f, credV cr Ag ng kg, .int .i64 src, .string path, .bool last] w fun e w' => e = .returned (.tuple #[.int .i64 ((Vf.walk F cr src path last).1 : Nat), .int .i64 (Vf.walk F cr src path last).2]) ∧ Below w.heap.size w w' := by
  have hb0 : Below w.heap.size w (w.alloc (.cells #[.int .u32 (cr.uid : Nat), .int .u32 (cr.euid : Nat), .int .u32 (cr.suid : Nat), .int .u32 (cr.gid : Nat), .slice Ag ng kg] 44)) := (Below.refl _ _).alloc (Nat.le_refl _) _
  have KN := node_any F L f c _ A src _ (h.belowSz hb0).toR hn
  have hcb : Blk (w.alloc (.cells #[.int .u32 (cr.uid : Nat), .int .u32 (cr.euid : Nat), .int .u32 (cr.suid : Nat), .int .u32 (cr.gid : Nat), .slice Ag ng kg] 44)) w.heap.size 44 [.int .u32 (cr.uid : Nat), .int .u32 (cr.euid : Nat), .int .u32 (cr.suid : Nat), .int .u32 (cr.gid : Nat), .slice Ag ng kg] := Blk.new w 44 _
  obtain ⟨⟨rn, re⟩, hr⟩ : ∃ r, Vf.walk F cr src path last = r := ⟨_, rfl⟩
  rw [hr]
  dsimp only
  unfold ptrV at KN
  have HKN := hide KN
  have HF := hide hF
  have H := hide h
  have Hr := hide hr
  have Hb0 := hide hb0
  have Hcb := hide hcb
  have Hg := hide hg
  unfold credV ptrV
  clear KN hF h hr hb0 hcb hg
  go_enter Try.func21, Try.ntmps21
  go_wp2_with fail
  refine (unhide HKN).mono ?_
  rintro e w1 ⟨rfl, rfl⟩
  by_cases hs : src < 0 ∨ Vf.kindAt F src.toNat ≠ 2
  · obtain ⟨rfl, rfl⟩ : rn = 0 ∧ re = 1 := by
      have := unhide Hr
      unfold Vf.walk at this
      rw [if_pos hs] at this
      injection this with a b
      exact ⟨a.symm, b.symm⟩
    have ha1 := nil_no_dir
    have ha2 := file_no_dir
    have ha3 := link_no_dir
    rcases nodeV_no (unhide HF) (unhide H) hs with e | ⟨v, e⟩ | ⟨v, e⟩
    all_goals
      rw [e]
      clear e hs
      go_wp2_with fail
      go_ret2
      exact ⟨rfl, unhide Hb0⟩
  · obtain ⟨i, rfl⟩ := Int.eq_ofNat_of_zero_le (show 0 ≤ src by omega)
    have hk : Vf.kindAt F i = 2 := by
      simp only [not_or, Decidable.not_not, Int.toNat_natCast] at hs
      exact hs.2
    obtain ⟨x, hx, hxk⟩ := Vf.kindAt_lt hk
    obtain ⟨p, hp, _, _⟩ := (unhide H).at_ hx
    have e := nodeV_in (unhide H) hx hp
    rw [hxk] at e
    have et : kindT 2 = 70 := rfl
    rw [et] at e
    rw [e]
    have ha := is_dir (.pointer (some ⟨p.q, 0, none⟩))
    have KP := hide (parts_any path (by unfold maxLen; omega) (w.alloc (.cells #[.int .u32 (cr.uid : Nat), .int .u32 (cr.euid : Nat), .int .u32 (cr.suid : Nat), .int .u32 (cr.gid : Nat), .slice Ag ng kg] 44)))
    obtain ⟨ck, hck⟩ : ∃ b, Pth.chk path = b := ⟨_, rfl⟩
    obtain ⟨tb, htb⟩ : ∃ b, Pth.rootB path = b := ⟨_, rfl⟩
    obtain ⟨pl, hpl⟩ : ∃ l, Pth.partsL path = l := ⟨_, rfl⟩
    obtain ⟨tl, htl⟩ : ∃ b, Pth.tailB path = b := ⟨_, rfl⟩
    have hpl2 := Vf.parts_len path
    have hwk := unhide Hr
    unfold Vf.walk at hwk
    rw [if_neg hs] at hwk
    simp only [Int.toNat_natCast] at hwk
    rw [hck, htb, hpl, htl] at hwk
    rw [hck, htb, hpl] at KP
    rw [hpl] at hpl2
    have Hwk := hide hwk
    have Hx := hide hx
    have Hp := hide hp
    have Hxk := hide hxk
    have Hpl2 := hide hpl2
    have KT := hide (fun w' => tail_any path (by omega) w')
    rw [htl] at KT
    clear e et hs hk hx hp hxk hck htb hpl htl hwk hpl2 HKN
    go_wp2_with fail
    refine (unhide KP).mono ?_
    rintro e w2 ⟨A2, c2, rfl, ho2, hb2⟩
    have HW2 := hide (((unhide H).belowSz (unhide Hb0)).belowSz hb2)
    have hcb2 := (unhide Hcb).belowSz hb2
    obtain ⟨a0, a1, a2, a3, a4⟩ : w2.cell? ⟨w.heap.size, 0, none⟩ = some (.int .u32 (cr.uid : Nat)) ∧ w2.cell? ⟨w.heap.size, 1, none⟩ = some (.int .u32 (cr.euid : Nat)) ∧ w2.cell? ⟨w.heap.size, 2, none⟩ = some (.int .u32 (cr.suid : Nat)) ∧ w2.cell? ⟨w.heap.size, 3, none⟩ = some (.int .u32 (cr.gid : Nat)) ∧ w2.cell? ⟨w.heap.size, 4, none⟩ = some (.slice Ag ng kg) := ⟨hcb2.cell rfl, hcb2.cell rfl, hcb2.cell rfl, hcb2.cell rfl, hcb2.cell rfl⟩
    have Hb2 := hide ((unhide Hb0).trans (hb2.mono (by simp)))
    have Hg2 := hide (((unhide Hg).below (unhide Hb2)).more (unhide Hb2).size)
    have Ho2 := hide ho2
    have Hr2 := hide (Rd.of_own ho2)
    have Hc2 := hide (own_cap ho2)
    clear ho2 hb2 hcb2
    by_cases hck : ck = 0
    · subst hck
      have hwk := unhide Hwk
      rw [if_neg (by simp)] at hwk
      have i1 : ((0 : Int) != 0) = false := rfl
      obtain ⟨i1, hi1⟩ : ∃ i1, (if tb = true then 0 else i) = i1 := ⟨_, rfl⟩
      rw [hi1] at hwk
      have hx1 : ∃ x1 p1, F[i1]? = some x1 ∧ L[i1]? = some p1 ∧ x1.m.kind = 2 ∧ (tb = false → p1 = p) := by
        cases tb with
        | false =>
          simp only [Bool.false_eq_true, if_false] at hi1
          subst hi1
          exact ⟨x, p, unhide Hx, unhide Hp, unhide Hxk, fun _ => rfl⟩
        | true =>
          simp only [if_true] at hi1
          subst hi1
          obtain ⟨pr, hpr, _, _⟩ := (unhide H).at_ (unhide HF).r
          exact ⟨_, pr, (unhide HF).r, hpr, rfl, fun h => by cases h⟩
      obtain ⟨x1, p1, hx1, hp1, hk1, hpp⟩ := hx1
      have Hx1 := hide hx1
      have Hp1 := hide hp1
      have Hk1 := hide hk1
      have KR : Hid (tb = true → Calls Try.prog 37 #[.pointer (some ⟨f, 0, none⟩)] w2 fun e w3 => e = .returned (.pointer (some ⟨p1.q, 0, none⟩)) ∧ w2 = w3) := by
        refine hide (fun ht => ?_)
        rw [if_pos ht] at hi1
        subst hi1
        exact root_any F L f c w2.heap.size A w2 (unhide HW2).toR hn x1 p1 hx1 hp1 hk1
      have KA := hide (along_any F L lo f c A Ag A2 ng kg c2 cr i1 x1 p1 pl (last || tl) w2 (unhide HF) (unhide HW2) hn hx1 hp1 hk1 (unhide Hr2) (unhide Hpl2) (unhide Hc2) (unhide Hg2) hng)
      unfold credV ptrV at KA
      obtain ⟨⟨ee, en⟩, hen⟩ : ∃ r, Vf.ends F cr (last || tl) ⟨i1, 0, pl⟩ = r := ⟨_, rfl⟩
      have henl := ends_lt (unhide HF) (c := cr) (last := last || tl) (s := ⟨i1, 0, pl⟩) (List.getElem?_eq_some_iff.1 hx1).1
      rw [hen] at KA hwk henl
      dsimp only at KA hwk henl
      have Henl := hide henl
      have Hwk2 := hide hwk
      clear hwk hen henl hi1 hx1 hp1 hk1 Hwk
      cases tb with
      | false =>
        obtain rfl := hpp rfl
        clear hpp
        go_wp2_with fail
        refine ((unhide KT) _).mono ?_
        rintro e w3 ⟨rfl, rfl⟩
        cases last
        all_goals
          simp only [Bool.true_or, Bool.false_or] at KA
          go_wp2_with fail
          refine (unhide KA).mono ?_
          rintro e w4 ⟨rfl, hb4⟩
          have Hb4 := hide ((unhide Hb2).trans (hb4.mono (unhide Hb2).size))
          have HW4 := hide ((unhide HW2).belowSz hb4)
          clear a0 a1 a2 a3 a4 hb4
          by_cases he : ee = 0
          · subst he
            have hwk := unhide Hwk2
            rw [if_neg (by simp)] at hwk
            have q1 : ((0 : Int) != 0) = false := rfl
            have ea : alV F L (0, en) = ndA F L en := by unfold alV; rw [if_pos rfl]
            obtain ⟨xe, hxe⟩ : ∃ x, F[en]? = some x := ⟨_, List.getElem?_eq_getElem (unhide Henl)⟩
            obtain ⟨pe, hpe, _, _⟩ := (unhide H).at_ hxe
            rw [ea, (unhide H).ndA_eq hxe hpe]
            rw [Vf.kindAt_eq hxe] at hwk
            obtain ⟨_, ue, _, hbe⟩ := (unhide HW4).nd en xe pe hxe hpe
            have y5 : w4.cell? ⟨pe.q, 5, none⟩ = some (.int .i64 (en : Nat)) := hbe.cell rfl
            have ha1 := is_dir (.pointer (some ⟨pe.q, 0, none⟩))
            have ha2 := file_no_dir (.pointer (some ⟨pe.q, 0, none⟩))
            have ha3 := link_no_dir (.pointer (some ⟨pe.q, 0, none⟩))
            have hm1 := fun w' => about_dir w' pe.q
            have hm2 := fun w' => about_file w' pe.q
            have hm3 := fun w' => about_link w' pe.q
            rcases kind3 (unhide HF) hxe with hk | hk | hk
            · have et : kindT xe.m.kind = 80 := by rw [hk]; rfl
              rw [et]
              rw [hk] at hwk
              cases tl with
              | false =>
                obtain ⟨rfl, rfl⟩ : rn = en ∧ re = 0 := by
                  rw [if_neg (by simp)] at hwk
                  injection hwk with a b
                  exact ⟨a.symm, b.symm⟩
                clear et hk hwk ea hxe hpe hbe
                go_wp2_with fail
                refine (about_any _ _).mono ?_
                rintro e w5 ⟨rfl, rfl⟩
                go_wp2_with fail
                go_ret2
                exact ⟨rfl, unhide Hb4⟩
              | true =>
                obtain ⟨rfl, rfl⟩ : rn = 0 ∧ re = 8 := by
                  rw [if_pos (by simp)] at hwk
                  injection hwk with a b
                  exact ⟨a.symm, b.symm⟩
                clear et hk hwk ea hxe hpe hbe
                go_wp2_with fail
                go_ret2
                exact ⟨rfl, unhide Hb4⟩
            · have et : kindT xe.m.kind = 70 := by rw [hk]; rfl
              rw [et]
              obtain ⟨rfl, rfl⟩ : rn = en ∧ re = 0 := by
                rw [if_neg (by simp [hk])] at hwk
                injection hwk with a b
                exact ⟨a.symm, b.symm⟩
              clear et hk hwk ea hxe hpe hbe
              cases tl
              all_goals
                go_wp2_with fail
                refine (about_any _ _).mono ?_
                rintro e w5 ⟨rfl, rfl⟩
                go_wp2_with fail
                go_ret2
                exact ⟨rfl, unhide Hb4⟩
            · have et : kindT xe.m.kind = 121 := by rw [hk]; rfl
              rw [et]
              rw [hk] at hwk
              cases tl with
              | false =>
                obtain ⟨rfl, rfl⟩ : rn = en ∧ re = 0 := by
                  rw [if_neg (by simp)] at hwk
                  injection hwk with a b
                  exact ⟨a.symm, b.symm⟩
                clear et hk hwk ea hxe hpe hbe
                go_wp2_with fail
                refine (about_any _ _).mono ?_
                rintro e w5 ⟨rfl, rfl⟩
                go_wp2_with fail
                go_ret2
                exact ⟨rfl, unhide Hb4⟩
              | true =>
                obtain ⟨rfl, rfl⟩ : rn = 0 ∧ re = 8 := by
                  rw [if_pos (by simp)] at hwk
                  injection hwk with a b
                  exact ⟨a.symm, b.symm⟩
                clear et hk hwk ea hxe hpe hbe
                go_wp2_with fail
                go_ret2
                exact ⟨rfl, unhide Hb4⟩
          · obtain ⟨rfl, rfl⟩ : rn = 0 ∧ re = ee := by
              have := unhide Hwk2
              rw [if_pos he] at this
              injection this with a b
              exact ⟨a.symm, b.symm⟩
            have q1 : (re != 0) = true := by simp [he]
            clear he
            go_wp2_with fail
            go_ret2
            exact ⟨rfl, unhide Hb4⟩
      | true =>
        clear hpp
        go_wp2_with fail
        refine ((unhide KR) (by first | rfl | trivial)).mono ?_
        rintro e w3 ⟨rfl, rfl⟩
        go_wp2_with fail
        refine ((unhide KT) _).mono ?_
        rintro e w3 ⟨rfl, rfl⟩
        cases last
        all_goals
          simp only [Bool.true_or, Bool.false_or] at KA
          go_wp2_with fail
          refine (unhide KA).mono ?_
          rintro e w4 ⟨rfl, hb4⟩
          have Hb4 := hide ((unhide Hb2).trans (hb4.mono (unhide Hb2).size))
          have HW4 := hide ((unhide HW2).belowSz hb4)
          clear a0 a1 a2 a3 a4 hb4
          by_cases he : ee = 0
          · subst he
            have hwk := unhide Hwk2
            rw [if_neg (by simp)] at hwk
            have q1 : ((0 : Int) != 0) = false := rfl
            have ea : alV F L (0, en) = ndA F L en := by unfold alV; rw [if_pos rfl]
            obtain ⟨xe, hxe⟩ : ∃ x, F[en]? = some x := ⟨_, List.getElem?_eq_getElem (unhide Henl)⟩
            obtain ⟨pe, hpe, _, _⟩ := (unhide H).at_ hxe
            rw [ea, (unhide H).ndA_eq hxe hpe]
            rw [Vf.kindAt_eq hxe] at hwk
            obtain ⟨_, ue, _, hbe⟩ := (unhide HW4).nd en xe pe hxe hpe
            have y5 : w4.cell? ⟨pe.q, 5, none⟩ = some (.int .i64 (en : Nat)) := hbe.cell rfl
            have ha1 := is_dir (.pointer (some ⟨pe.q, 0, none⟩))
            have ha2 := file_no_dir (.pointer (some ⟨pe.q, 0, none⟩))
            have ha3 := link_no_dir (.pointer (some ⟨pe.q, 0, none⟩))
            have hm1 := fun w' => about_dir w' pe.q
            have hm2 := fun w' => about_file w' pe.q
            have hm3 := fun w' => about_link w' pe.q
            rcases kind3 (unhide HF) hxe with hk | hk | hk
            · have et : kindT xe.m.kind = 80 := by rw [hk]; rfl
              rw [et]
              rw [hk] at hwk
              cases tl with
              | false =>
                obtain ⟨rfl, rfl⟩ : rn = en ∧ re = 0 := by
                  rw [if_neg (by simp)] at hwk
                  injection hwk with a b
                  exact ⟨a.symm, b.symm⟩
                clear et hk hwk ea hxe hpe hbe
                go_wp2_with fail
                refine (about_any _ _).mono ?_
                rintro e w5 ⟨rfl, rfl⟩
                go_wp2_with fail
                go_ret2
                exact ⟨rfl, unhide Hb4⟩
              | true =>
                obtain ⟨rfl, rfl⟩ : rn = 0 ∧ re = 8 := by
                  rw [if_pos (by simp)] at hwk
                  injection hwk with a b
                  exact ⟨a.symm, b.symm⟩
                clear et hk hwk ea hxe hpe hbe
                go_wp2_with fail
                go_ret2
                exact ⟨rfl, unhide Hb4⟩
            · have et : kindT xe.m.kind = 70 := by rw [hk]; rfl
              rw [et]
              obtain ⟨rfl, rfl⟩ : rn = en ∧ re = 0 := by
                rw [if_neg (by simp [hk])] at hwk
                injection hwk with a b
                exact ⟨a.symm, b.symm⟩
              clear et hk hwk ea hxe hpe hbe
              cases tl
              all_goals
                go_wp2_with fail
                refine (about_any _ _).mono ?_
                rintro e w5 ⟨rfl, rfl⟩
                go_wp2_with fail
                go_ret2
                exact ⟨rfl, unhide Hb4⟩
            · have et : kindT xe.m.kind = 121 := by rw [hk]; rfl
              rw [et]
              rw [hk] at hwk
              cases tl with
              | false =>
                obtain ⟨rfl, rfl⟩ : rn = en ∧ re = 0 := by
                  rw [if_neg (by simp)] at hwk
                  injection hwk with a b
                  exact ⟨a.symm, b.symm⟩
                clear et hk hwk ea hxe hpe hbe
                go_wp2_with fail
                refine (about_any _ _).mono ?_
                rintro e w5 ⟨rfl, rfl⟩
                go_wp2_with fail
                go_ret2
                exact ⟨rfl, unhide Hb4⟩
              | true =>
                obtain ⟨rfl, rfl⟩ : rn = 0 ∧ re = 8 := by
                  rw [if_pos (by simp)] at hwk
                  injection hwk with a b
                  exact ⟨a.symm, b.symm⟩
                clear et hk hwk ea hxe hpe hbe
                go_wp2_with fail
                go_ret2
                exact ⟨rfl, unhide Hb4⟩
          · obtain ⟨rfl, rfl⟩ : rn = 0 ∧ re = ee := by
              have := unhide Hwk2
              rw [if_pos he] at this
              injection this with a b
              exact ⟨a.symm, b.symm⟩
            have q1 : (re != 0) = true := by simp [he]
            clear he
            go_wp2_with fail
            go_ret2
            exact ⟨rfl, unhide Hb4⟩
    · obtain ⟨rfl, rfl⟩ : rn = 0 ∧ re = ck := by
        have := unhide Hwk
        rw [if_pos hck] at this
        injection this with a b
        exact ⟨a.symm, b.symm⟩
      have i1 : (re != 0) = true := by simp [hck]
      clear hck
      go_wp2_with fail
      go_ret2
      exact ⟨rfl, unhide Hb2⟩
end Go.Proofs.Yteiciabhfjakgaa
namespace Go.Proofs.Yteiciabhfjakgaa
set_option linter.unusedVariables false
set_option linter.unusedSimpArgs false
open Go.RowKit

theorem byteInfo : (Try.prog.info? 5).map (fun i => (i.zero, i.size, i.bytes)) = some (some (.int .u8 0), 1, 1) := by kernel_rfl
theorem byteTy : SlTy Try.prog 36 5 1 1 := slTy_mk (z := .int .u8 0) Try.underlying36 byteInfo rfl (by omega) (by omega)
theorem bys_one (l : List UInt8) : ∀ u ∈ bys l, u.oneCell' = true := by
  intro u hu
  simp only [bys, List.mem_map] at hu
  obtain ⟨c, _, rfl⟩ := hu
  rfl
/-- From the value v to the value v', which owns the bytes xs: only v's own row, and what is new, has turned. -/
structure Grew (w w' : World) (base : Nat) (v v' : Value) (n : Nat) (xs : List UInt8) : Prop where
  own : w'.ownsRow base 5 1 v' n (bys xs)
  kept : w.grownBy w' v.ownBlock
  at_ : ∀ k, v'.ownBlock = some k → v.ownBlock = some k ∨ w.heap.size ≤ k
section
variable {a b c : World} {base : Nat} {u v x : Value} {n m : Nat} {xs ys : List UInt8}
theorem Grew.trans (h : Grew a b base u v n xs) (k : Grew b c base v x m ys) : Grew a c base u x m ys :=
  ⟨k.own, ⟨k.kept.os.trans h.kept.os, k.kept.tape.trans h.kept.tape, k.kept.output.trans h.kept.output, Nat.le_trans h.kept.size k.kept.size, fun i hi hr => (k.kept.block i (Nat.lt_of_lt_of_le hi h.kept.size) (fun e => by
    rcases h.at_ i e.symm with h1 | h1
    · exact hr h1.symm
    · omega)).trans (h.kept.block i hi hr)⟩, fun i hi => by
    rcases k.at_ i hi with h1 | h1
    · exact h.at_ i h1
    · exact .inr (Nat.le_trans h.kept.size h1)⟩
theorem grownBy_of_below {row : Option Nat} (h : Below a.heap.size a b) : a.grownBy b row := ⟨h.os, h.tape, h.output, h.size, fun k hk _ => h.block k hk⟩
/-- Ahead of it something may have been made. -/
theorem Grew.after (hb : Below a.heap.size a b) (h : Grew b c base u v n xs) : Grew a c base u v n xs :=
  ⟨h.own, grown_trans (grownBy_of_below hb) h.kept, fun k hk => (h.at_ k hk).imp id fun h1 => Nat.le_trans hb.size h1⟩
theorem Grew.then (h : Grew a b base u v n xs) (hb : Below b.heap.size b c) : Grew a c base u v n xs :=
  ⟨own_below h.own hb, grown_trans h.kept (grownBy_of_below hb), h.at_⟩
theorem Grew.below {B : Nat} (h : Grew a b base u v n xs) (hB : B ≤ a.heap.size) (hr : ∀ k, u.ownBlock = some k → B ≤ k) : Below B a b := (Below.refl B a).grown h.kept hB hr
theorem Grew.blk {g : Nat} (h : Grew a b base u v n xs) (hg : g < a.heap.size) (hne : u.ownBlock ≠ some g) {o : Obj} (ho : a.heap[g]? = some o) : b.heap[g]? = some o :=
  (h.kept.block g hg (fun e => hne e.symm)).trans ho
theorem own_lt {w : World} {e : TypeId} {size : Nat} {xs : List Value} (h : w.ownsRow base e size v n xs) : ∀ k, v.ownBlock = some k → base ≤ k := fun k hk => (h.lt k hk).1
end

end Go.Proofs.Yteiciabhfjakgaa
namespace Go.Proofs.Yteiciabhfjakgaa
set_option linter.unusedVariables false
set_option linter.unusedSimpArgs false
open Go.RowKit

def CloneBE (n : Nat) (xs : List UInt8) (w : World) (e : Ending) (w' : World) : Prop :=
  ∃ A' c', e = .returned (.slice A' n c') ∧ w'.ownsRow w.heap.size 5 1 (.slice A' n c') n (bys xs) ∧ Below w.heap.size w w'
set_option maxRecDepth 100000 in
set_option maxHeartbeats 1000000 in
theorem cloneB_any (A : Option Addr) (n c B : Nat) (xs : List UInt8) (w : World) (h : Rd w B 1 A n (bys xs)) (hB : B ≤ w.heap.size) (hn : n ≤ 4294967296) :
    Calls Try.prog 31 #[.slice A n c] w (CloneBE n xs w) := by
  have hl : xs.length = n := by simpa [bys] using h.len1
  have q : ∀ (w : World) (a : Option Addr) (n c n' c' : Nat), (binOp .eql 36 (.slice a n c) (.slice none n' c')).run Try.prog w = .ok (.bool a.isNone) w := fun w a n c n' c' => Lib.run_eql_slice_nil w _ _ a n c n' c' Try.underlying36
  have H := hide h
  clear h
  cases A with
  | none =>
    have h0 : bys xs = [] := by
      rcases (unhide H).2 with h0 | ⟨b, off, h1, _⟩
      · exact h0
      · cases h1
    have hx : xs = [] := by simpa [bys] using h0
    subst hx
    simp only [List.length_nil] at hl
    subst hl
    have q1 : (none : Option Addr).isNone = true := rfl
    clear h0 H
    go_enter Try.func31, Try.ntmps31
    go_wp2_with fail
    go_ret
    exact ⟨none, 0, rfl, World.ownsRow_nil _ _ _ _, Below.refl _ _⟩
  | some a =>
    have q1 : (some a : Option Addr).isNone = false := rfl
    have hm := World.ownsRow_made (e := 5) (size := 1) w #[] 0 (Nat.le_refl _) (Nat.zero_le _) rfl
    have Hm := hide hm
    have hb1 : Below w.heap.size w (w.alloc (.cells #[] 5)) := (Below.refl _ _).alloc (Nat.le_refl _) _
    have Hb1 := hide hb1
    have Hr := hide ((unhide H).below (hb1.mono hB))
    clear hm hb1 hl
    go_enter Try.func31, Try.ntmps31
    go_wp2_with (at_builtin; refine wpList_app byteTy rfl _ _ rfl w.heap.size (.slice (some ⟨w.heap.size, 0, none⟩) 0 0) 0 [] rfl (unhide Hm) B (some a) n c _ rfl (unhide Hr) (bys_one _) (by omega) (unhide Hb1).size ?_; intro A4 c4 w4 ho4 hg4 hat4; have hb4 := (unhide Hb1).grown hg4 (unhide Hb1).size (fun k hk => by simp [Value.ownBlock] at hk; omega); simp only [Nat.zero_add, List.nil_append] at ho4 ⊢; have Ho4 := hide ho4; have Hb4 := hide hb4; clear ho4 hg4 hat4 hb4)
    go_ret
    exact ⟨A4, c4, rfl, unhide Ho4, unhide Hb4⟩
end Go.Proofs.Yteiciabhfjakgaa
