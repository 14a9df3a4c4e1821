/- Plain lemmas on worlds that every walk of this seat uses: slices that read as lists of cells, what stays below a block. No conditions. A row of the call's own that is written element by element. No conditions. Results that lie in memory beside one that does not. No conditions. The walks of the references that hold bytes: EqBytes, Roomy, Kept. Conditions: there are fewer than 2^32 bytes. Laws of the walk for append onto a slice that the call itself owns, the source read by 'Rd' or one new element. No conditions. What it is to have grown a row of bytes of the call's own. No conditions. Append of one byte onto a row of the call's own: in place, or all that was there stays. No conditions. A block of the call's own, by its cells: read, written, kept. No conditions. The walk of hostelref00.goneOn: 40 marks behind a row, the slice itself read as before. Conditions: there are fewer than 2^32 bytes. Lists of cells in a block that does not turn while a row grows; rows of u64. No conditions. The walk of hostelref00.CopyBytes (as Elf8, for any chapter). Conditions: there are fewer than 2^32 bytes. The plain mathematics of words: numbers of bytes, sums below 2^64, pages. No program in sight. No conditions. The walks of the package words: Add, Down, Up, Inside, sized, check, Get. Conditions: the numbers fit their kinds. The plain mathematics of paths: a text cut at its slashes. No program in sight. No conditions. The plain mathematics of calls: which calls may be, their bytes, what bytes say. No program in sight. No conditions. The plain mathematics of calls' bytes: writing, reading, and that each undoes the other. No program in sight. No conditions. One more law for append: the new element's block spelt by a number that is the heap's size. No conditions. The walks of slices.Clone and bytes.Clone of bytes, of words.Set and of its reference where the bytes are there. Conditions: there are fewer than 2^32 bytes. The walks of words.Set, put, putText, putList and of their references. Conditions: there are fewer than 2^32 bytes. The walks of stack.numbers and of hostelref20.bytes. Conditions: there are fewer than 2^32 bytes. A map that is made of constants: its entries in their order; a new key put in, a key looked up. No conditions. The walk of calls.fields: a map of constants. No conditions. The walks of pieces and Check of the package paths, of any text. Condition: the texts are no longer than the model's greatest length. The walks of envs.Check, of its reference, and of the helpers of calls.Check. Conditions: the lists and texts are no longer than the model's greatest length. The walks of stack.check and hostelref20.may. Conditions: as the arguments'. Laws for a region that draws, all of whose operations leave the world alone: a load of a row, a store of what stands there. No conditions. The walks of Lay's closures. Conditions: there are fewer than 2^32 bytes. The walk of Lay's closure that lays a list. Conditions: there are fewer than 2^32 bytes. The law for append of so many zeros onto a row of bytes of the call's own. No conditions. The plain mathematics of calls' bytes: what is written is read, cut it is not; what was read is written so; scripts. No program in sight. No conditions. -/
import Derived.WalkKit
import Derived.Below
import Derived.Lib.Hide
import Derived.Lib.OthersKept
import Derived.Deep.Draws
import Derived.Laws.OwnMore
import Derived.WalkSmall
import Derived.OneCell
import Derived.Lib.Strings
import Derived.OwnWalk
import Derived.Laws.Rows
import Derived.Laws.Tables
import Derived.Laws.ResultCell
import Derived.Test.YtmoenjmhogmcoaaProg
import Derived.WalkSpells
import Derived.WalkLawsBesides
import Derived.BigQuiet
import Derived.Deep.QuietTactic
import Derived.Deep.LoopGhost
import Derived.Maps.AppendAt
import Derived.Laws.BitsAllLaws
import Derived.Laws.Entries
import Derived.Laws.RangeAny
import Derived.Lib.LastIndexByte
import Derived.Lib.AppendStr
import Derived.Lib.SliceRun
import Derived.Maps.Own
import Derived.Test.YtmoenjmhogmcoaaShelf
import Derived.Lib.IndexAny
import Derived.Deep.RegionWith
import Derived.Deep.RegionHeld3
import Derived.Lib.BufferWrite
import Derived.Lib.AppendZerosOnto
import Derived.Laws.CopyRow
namespace Go.Proofs.Ytmoenjmhogmcoaa
set_option linter.unusedVariables false
set_option linter.unusedSimpArgs false
open Go.RowKit

/-- A contract that leaves the world alone, said so that the caller's name of the world stays. -/
theorem flipw {P : Program} {f : FuncId} {args : Array Value} {w : World} {r : Ending} (h : Calls P f args w fun e w' => e = r ∧ w' = w) : Calls P f args w fun e w' => e = r ∧ w = w' :=
  h.mono fun _ _ ⟨a, b⟩ => ⟨a, b.symm⟩

theorem hide {p : Prop} (h : p) : Hid p := h
theorem unhide {p : Prop} (h : Hid p) : p := h

theorem ret_int {k : IntKind} {a b : Int} (h : a = b) : Ending.returned (.int k a) = .returned (.int k b) := by rw [h]
theorem ret_bool {a b : Bool} (h : a = b) : Ending.returned (.bool a) = .returned (.bool b) := by rw [h]
theorem ret_val {a b : Value} (h : a = b) : Ending.returned a = .returned b := by rw [h]

theorem bcell {W w1 : World} (hb : Below W.heap.size W w1) : (∀ b o, b < W.heap.size → w1.cell? ⟨b, o, none⟩ = W.cell? ⟨b, o, none⟩) ∧ (∀ b o, b < W.heap.size → w1.frozen? ⟨b, o, none⟩ = W.frozen? ⟨b, o, none⟩) :=
  ⟨fun b o h => hb.cell (p := ⟨b, o, none⟩) h, fun b o h => hb.frozen (p := ⟨b, o, none⟩) h⟩

/-- The newest block of the call's own stands behind a call that keeps what was there. -/
theorem newblk {w w1 : World} {o : Obj} (hb : Below (w.alloc o).heap.size (w.alloc o) w1) : w1.heap[w.heap.size]? = some o :=
  (hb.block _ (by simp)).trans (heap_alloc_new _ _)
theorem below_new {w w1 : World} {o : Obj} (hb : Below (w.alloc o).heap.size (w.alloc o) w1) : Below w.heap.size w w1 :=
  ((Below.refl _ _).alloc (Nat.le_refl _) _).trans (hb.mono (by simp))

theorem below_sz {W w1 : World} (hb : Below W.heap.size W w1) : W.heap.size ≤ w1.heap.size := hb.size

theorem below_drewN' {B : Nat} {a w : World} (h : Below B a w) (n : Nat) : Below B a (w.drewN n) := ⟨h.os, h.tape, h.output, h.size, h.block⟩

theorem byte_eq (c d : UInt8) : (((c.toNat : Nat) : Int) == ((d.toNat : Nat) : Int)) = decide (c = d) := by
  rw [Bool.eq_iff_iff, beq_iff_eq, decide_eq_true_eq]
  exact ⟨fun h => UInt8.toNat_inj.1 (by omega), fun h => by rw [h]⟩
theorem byte_47 (c : UInt8) : (((c.toNat : Nat) : Int) == 47) = decide (c = 47) := byte_eq c 47
theorem byte_0 (c : UInt8) : (((c.toNat : Nat) : Int) == 0) = decide (c = 0) := byte_eq c 0
theorem byte_58 (c : UInt8) : (((c.toNat : Nat) : Int) == 58) = decide (c = 58) := byte_eq c 58
theorem byte_61 (c : UInt8) : (((c.toNat : Nat) : Int) == 61) = decide (c = 61) := byte_eq c 61

theorem isEmpty_toList (p : ByteArray) : p.toList.isEmpty = decide (p.size = 0) := by
  rw [Lib.toList_data, Bool.eq_iff_iff, List.isEmpty_iff_length_eq_zero, decide_eq_true_eq]
  exact Iff.rfl
theorem beq_toList (p q : ByteArray) : (p.toList == q.toList) = decide (p = q) := by
  rw [Lib.toList_data, Lib.toList_data, Bool.eq_iff_iff, beq_iff_eq, decide_eq_true_eq]
  exact ⟨fun h => ByteArray.ext (Array.toList_inj.1 h), fun h => by rw [h]⟩

/-- The slice value '.slice A n c' holds the cells xs, one behind the other, 'size' cells an element, in a block below B. -/
def Rd (w : World) (B size : Nat) (A : Option Addr) (n : Nat) (xs : List Value) : Prop :=
  xs.length = n * size ∧ (xs = [] ∨ ∃ b off, A = some ⟨b, off, none⟩ ∧ b < B ∧ ∀ j u, xs[j]? = some u → w.cell? ⟨b, off + j, none⟩ = some u)

section
variable {w w' : World} {B B' size n : Nat} {A : Option Addr} {xs : List Value}
theorem Rd.none_ (w : World) (B size : Nat) (A : Option Addr) : Rd w B size A 0 [] := ⟨by simp, .inl rfl⟩
theorem Rd.len1 (h : Rd w B 1 A n xs) : xs.length = n := by have := h.1; omega
theorem Rd.at_ {k : Nat} {u : Value} (h : Rd w B 1 A n xs) (hk : xs[k]? = some u) : ∃ b off, A = some ⟨b, off, none⟩ ∧ b < B ∧ w.cell? ⟨b, off + k, none⟩ = some u := by
  rcases h.2 with rfl | ⟨b, off, e, hb, hc⟩
  · simp at hk
  · exact ⟨b, off, e, hb, hc _ _ hk⟩
theorem Rd.open_ (h : Rd w B size A n xs) (hn : xs ≠ []) : ∃ b off, A = some ⟨b, off, none⟩ ∧ b < B ∧ ∀ j u, xs[j]? = some u → w.cell? ⟨b, off + j, none⟩ = some u := by
  rcases h.2 with h0 | h1
  · exact absurd h0 hn
  · exact h1
theorem Rd.keep (h : Rd w B size A n xs) (hk : ∀ p : Addr, p.block < B → w'.cell? p = w.cell? p) : Rd w' B size A n xs :=
  ⟨h.1, h.2.imp id fun ⟨b, off, e, hb, hc⟩ => ⟨b, off, e, hb, fun j u hu => (hk _ hb).trans (hc j u hu)⟩⟩
theorem Rd.more (h : Rd w B size A n xs) (hB : B ≤ B') : Rd w B' size A n xs :=
  ⟨h.1, h.2.imp id fun ⟨b, off, e, hb, hc⟩ => ⟨b, off, e, by omega, hc⟩⟩
theorem Rd.below (h : Rd w B size A n xs) (hb : Below B w w') : Rd w' B size A n xs := h.keep fun _ hp => hb.cell hp
theorem Rd.belowSz (h : Rd w w.heap.size size A n xs) (hb : Below w.heap.size w w') : Rd w' w'.heap.size size A n xs := (h.below hb).more hb.size
theorem Rd.drew (h : Rd w B size A n xs) : Rd w.drew B size A n xs := h
theorem Rd.drewN (h : Rd w B size A n xs) (k : Nat) : Rd (w.drewN k) B size A n xs := h
theorem Rd.alloc (h : Rd w B size A n xs) (hB : B ≤ w.heap.size) (o : Obj) : Rd (w.alloc o) B size A n xs := h.keep fun p hp => World.cell?_alloc_lt w o p (by omega)
theorem Rd.setCell (h : Rd w B size A n xs) {p : Addr} (hB : B ≤ p.block) (u : Value) : Rd (w.setCell p u) B size A n xs :=
  h.keep fun q hq => World.cell?_setCell_other w p q u (fun e => by subst e; omega)
theorem Rd.of_own {base : Nat} {e : TypeId} {c : Nat} (h : w.ownsRow base e size (.slice A n c) n xs) : Rd w w.heap.size size A n xs := by
  refine ⟨h.1, ?_⟩
  by_cases h0 : xs = []
  · exact .inl h0
  · have h2 := h.2
    rcases h2 with ⟨_, h3⟩ | ⟨g, cap, cur, hv, hbg, hh, hcap, hcm, hsz, htk⟩
    · subst h3
      exact absurd (List.eq_nil_of_length_eq_zero (by simpa using h.1)) h0
    · have hA : A = some ⟨g, 0, none⟩ := by injection hv
      refine .inr ⟨g, 0, hA, (Array.getElem?_eq_some_iff.1 hh).1, fun j u hu => ?_⟩
      rw [cell_of_row w g (0 + j) cur e (0, 0) hh, Nat.zero_add]
      rw [← htk, List.getElem?_take] at hu
      split at hu
      · simpa using hu
      · cases hu
theorem own_form {base : Nat} {e : TypeId} {v : Value} (h : w.ownsRow base e size v n xs) : ∃ A c, v = .slice A n c := by
  rcases h.2 with ⟨rfl, rfl⟩ | ⟨g, cap, cur, rfl, _⟩
  · exact ⟨_, _, rfl⟩
  · exact ⟨_, _, rfl⟩
end

theorem own_base {w : World} {base base' : Nat} {e : TypeId} {size n : Nat} {v : Value} {xs : List Value} (h : w.ownsRow base e size v n xs) (hb : base' ≤ base) : w.ownsRow base' e size v n xs :=
  ⟨h.1, h.2.imp id fun ⟨g, cap, cur, e1, e2, r⟩ => ⟨g, cap, cur, e1, Nat.le_trans hb e2, r⟩⟩

theorem own_below {w w' : World} {base : Nat} {e : TypeId} {size n : Nat} {v : Value} {xs : List Value} (h : w.ownsRow base e size v n xs) (hb : Below w.heap.size w w') : w'.ownsRow base e size v n xs :=
  ⟨h.1, h.2.imp id fun ⟨g, cap, cur, e1, e2, e3, r⟩ => ⟨g, cap, cur, e1, e2, (hb.block g (Array.getElem?_eq_some_iff.1 e3).1).trans e3, r⟩⟩
theorem own_drewN {w : World} {base : Nat} {e : TypeId} {size n : Nat} {v : Value} {xs : List Value} (h : w.ownsRow base e size v n xs) (j : Nat) : (w.drewN j).ownsRow base e size v n xs := h
theorem own_some {w : World} {base : Nat} {e : TypeId} {size n c : Nat} {A : Option Addr} {xs : List Value} (h : w.ownsRow base e size (.slice A n c) n xs) (hn : 0 < n) : ∃ g, A = some ⟨g, 0, none⟩ ∧ base ≤ g ∧ g < w.heap.size := by
  rcases h.2 with ⟨_, h0⟩ | ⟨g, cap, cur, e1, e2, e3, _⟩
  · omega
  · injection e1 with e1
    exact ⟨g, e1, e2, (Array.getElem?_eq_some_iff.1 e3).1⟩
/-- A row that was made later lies elsewhere. -/
theorem own_ne {w w2 : World} {base base2 : Nat} {e e2 : TypeId} {size size2 n n2 : Nat} {v v2 : Value} {xs xs2 : List Value} (h : w.ownsRow base e size v n xs) (h2 : w2.ownsRow base2 e2 size2 v2 n2 xs2) (hle : w.heap.size ≤ base2) :
    v2.ownBlock = none ∨ v2.ownBlock ≠ v.ownBlock := by
  cases hv : v2.ownBlock with
  | none => exact .inl rfl
  | some k =>
    refine .inr fun e => ?_
    have := (h2.lt k hv).1
    have := (h.lt k e.symm).2
    omega

/-- Only block 'row', and what is new, has turned between the two worlds: 'grownBy' chains. -/
theorem grown_trans {a b c : World} {row : Option Nat} (h : a.grownBy b row) (k : b.grownBy c row) : a.grownBy c row :=
  ⟨k.os.trans h.os, k.tape.trans h.tape, k.output.trans h.output, Nat.le_trans h.size k.size, fun i hi hr => (k.block i (Nat.lt_of_lt_of_le hi h.size) hr).trans (h.block i hi hr)⟩

end Go.Proofs.Ytmoenjmhogmcoaa
namespace Go.Proofs.Ytmoenjmhogmcoaa
set_option linter.unusedVariables false
set_option linter.unusedSimpArgs false
open Go.RowKit

theorem own_set {w : World} {base g n c i : Nat} {e : TypeId} {xs : List Value} (h : w.ownsRow base e 1 (.slice (some ⟨g, 0, none⟩) n c) n xs) (u : Value) :
    (w.setCell ⟨g, i, none⟩ u).ownsRow base e 1 (.slice (some ⟨g, 0, none⟩) n c) n (xs.set i u) := by
  obtain ⟨hl, hn | ⟨g', cap, cur, hv, hb, hg, h1, h2, h3, h4⟩⟩ := h
  · exact absurd hn.1 (by simp)
  · obtain ⟨rfl, rfl⟩ : g = g' ∧ c = cap := by simpa using hv
    refine ⟨by simpa using hl, .inr ⟨g, c, cur.setIfInBounds i u, rfl, hb, heap_setCell_same _ _ _ _ _ _ hg, h1, h2, by simpa using h3, ?_⟩⟩
    rw [Array.toList_setIfInBounds, List.take_set, h4]
theorem own_cell {w : World} {base g n c i : Nat} {e : TypeId} {xs : List Value} (h : w.ownsRow base e 1 (.slice (some ⟨g, 0, none⟩) n c) n xs) {u : Value} (hi : xs[i]? = some u) : w.cell? ⟨g, i, none⟩ = some u := by
  obtain ⟨b, off, ha, _, hc⟩ := (Rd.of_own h).at_ hi
  obtain ⟨rfl, rfl⟩ : g = b ∧ 0 = off := by simpa using ha
  simpa using hc
theorem own_free {w : World} {base g n c : Nat} {e : TypeId} {xs : List Value} (h : w.ownsRow base e 1 (.slice (some ⟨g, 0, none⟩) n c) n xs) (i : Nat) : w.frozen? ⟨g, i, none⟩ = false := by
  obtain ⟨hl, hn | ⟨g', cap, cur, hv, hb, hg, h1, h2, h3, h4⟩⟩ := h
  · exact absurd hn.1 (by simp)
  · obtain ⟨rfl, rfl⟩ : g = g' ∧ c = cap := by simpa using hv
    exact frozen_of_row _ _ _ _ _ hg
theorem own_at {w : World} {base g n c : Nat} {e : TypeId} {xs : List Value} (h : w.ownsRow base e 1 (.slice (some ⟨g, 0, none⟩) n c) n xs) : base ≤ g ∧ g < w.heap.size ∧ n ≤ c := by
  obtain ⟨hl, hn | ⟨g', cap, cur, hv, hb, hg, h1, h2, h3, h4⟩⟩ := h
  · exact absurd hn.1 (by simp)
  · obtain ⟨rfl, rfl⟩ : g = g' ∧ c = cap := by simpa using hv
    exact ⟨hb, lt_of_block hg, h1⟩

end Go.Proofs.Ytmoenjmhogmcoaa
namespace Go.Proofs.Ytmoenjmhogmcoaa
set_option linter.unusedVariables false
set_option linter.unusedSimpArgs false
open Go.RowKit
theorem results_cell_tmp {P : Program} {fn : Func} {p q : Tmp} {ty : TypeId} (h : fn.results = #[.cell p ty, .tmp q]) (tmps : Array Value) (w : World) (g : Nat) (t : TypeId) (cs : Array Value) (fr : Nat × Nat) (d : TypeDesc)
    (hp : tmps.getD p undef = .pointer (some ⟨g, 0, none⟩)) (hg : w.heap[g]? = some (.cells cs t fr))
    (hu : P.underlying ty = some d) (hd : (match d with | .struct _ | .array _ _ => true | _ => false) = true) (hi : (P.info? ty).map (·.size) = some cs.size) :
    (results fn tmps).run P w = .ok (.tuple #[.agg cs, tmps.getD q undef]) w := by
  have hp' : tmps[p]?.getD undef = .pointer (some ⟨g, 0, none⟩) := by simpa using hp
  simp [results, h, hp', asAddr, run_loadVar_row w g t ty cs fr d hg hu hd hi]

theorem below_drew' {B : Nat} {a w : World} (h : Below B a w) : Below B a w.drew := ⟨h.os, h.tape, h.output, h.size, h.block⟩
end Go.Proofs.Ytmoenjmhogmcoaa
namespace Go.Proofs.Ytmoenjmhogmcoaa
set_option linter.unusedVariables false
set_option linter.unusedSimpArgs false
open Go.RowKit

def bys (b : List UInt8) : List Value := b.map fun c => .int .u8 c.toNat
theorem bys_len (b : List UInt8) : (bys b).length = b.length := by simp [bys]
theorem bys_at {b : List UInt8} {i : Nat} {x : UInt8} (h : b[i]? = some x) : (bys b)[i]? = some (.int .u8 x.toNat) := by simp [bys, h]
theorem bys_set (b : List UInt8) (i : Nat) (x : UInt8) : (bys b).set i (.int .u8 x.toNat) = bys (b.set i x) := by simp [bys, List.map_set]
theorem bys_take (b : List UInt8) (k : Nat) : (bys b).take k = bys (b.take k) := by simp [bys]
theorem bys_app (a b : List UInt8) : bys (a ++ b) = bys a ++ bys b := by simp [bys]
theorem bInfo : (Try.prog.info? 5).map (fun i => (i.zero, i.size, i.bytes)) = some (some (.int .u8 0), 1, 1) := by kernel_rfl
theorem take_ext' {α : Type} {xs ys : List α} {k : Nat} {x : α} (h : xs.take k = ys.take k) (hx : xs[k]? = some x) (hy : ys[k]? = some x) : xs.take (k + 1) = ys.take (k + 1) := by
  rw [List.take_add_one, List.take_add_one, h, hx, hy]

theorem Rd.cutN {w : World} {B n k : Nat} {A : Option Addr} {xs : List Value} (h : Rd w B 1 A n xs) (hk : k ≤ n) : Rd w B 1 A k (xs.take k) := by
  have hl := h.len1
  refine ⟨by simp; omega, ?_⟩
  rcases h.2 with h0 | ⟨b, off, e, hb, hc⟩
  · exact .inl (by simp [h0])
  · refine .inr ⟨b, off, e, hb, fun j u hu => hc j u ?_⟩
    by_cases hj : j < k
    · rwa [List.getElem?_take_of_lt hj] at hu
    · rw [List.getElem?_take_eq_none (by omega)] at hu
      cases hu

set_option maxRecDepth 100000 in
set_option maxHeartbeats 2000000 in
theorem eqBytes_any (A B : Option Addr) (n m c d K : Nat) (xs ys : List UInt8) (w : World) (ha : Rd w K 1 A n (bys xs)) (hb : Rd w K 1 B m (bys ys)) (hn : n ≤ maxLen) (hm : m ≤ maxLen) :
    Calls Try.prog 12 #[.slice A n c, .slice B m d] w fun e w' => e = .returned (.bool (decide (xs = ys))) ∧ ∃ j, w' = w.drewN j := by
  have hxl : xs.length = n := by simpa [bys] using ha.len1
  have hyl : ys.length = m := by simpa [bys] using hb.len1
  unfold maxLen at hn hm
  have Hxl := hide hxl
  have Hyl := hide hyl
  have Ha := hide ha
  have Hb := hide hb
  clear hxl hyl ha hb
  go_enter Try.func12, Try.ntmps12
  go_wp2
  go_loopw [5] (fun at_ wr => ∃ k j : Nat, at_ = .int .i64 k ∧ k ≤ n ∧ k ≤ m ∧ xs.take k = ys.take k ∧ wr = w.drewN j) (fun at_ _ => n - (intOf at_).toNat)
  case atStart => exact ⟨0, 0, rfl, Nat.zero_le _, Nat.zero_le _, rfl, rfl⟩
  case round =>
    obtain ⟨k, j, rfl, hkn, hkm, htk, rfl⟩ := hrel
    have Htk := hide htk
    clear htk
    by_cases h1 : k < n
    · have d1 : decide (k < n) = true := by simpa using h1
      have i1 : (k : Int) < (n : Int) := by omega
      by_cases h2 : k < m
      · have d2 : decide (k < m) = true := by simpa using h2
        have i2 : (k : Int) < (m : Int) := by omega
        obtain ⟨x, hx⟩ : ∃ x, xs[k]? = some x := ⟨_, List.getElem?_eq_getElem (by rw [unhide Hxl]; exact h1)⟩
        obtain ⟨y, hy⟩ : ∃ y, ys[k]? = some y := ⟨_, List.getElem?_eq_getElem (by rw [unhide Hyl]; exact h2)⟩
        obtain ⟨b1, o1, rfl, _, c1⟩ := (unhide Ha).at_ (k := k) (u := .int .u8 x.toNat) (bys_at hx)
        obtain ⟨b2, o2, rfl, _, c2⟩ := (unhide Hb).at_ (k := k) (u := .int .u8 y.toNat) (bys_at hy)
        have Hx := hide hx
        have Hy := hide hy
        have hbq := byte_eq x y
        clear hx hy
        by_cases he : x = y
        · have q : (((x.toNat : Nat) : Int) == ((y.toNat : Nat) : Int)) = true := by rw [hbq]; simpa using he
          subst he
          clear hbq
          go_wp2
          go_quiet (fail)
          go_wp2
          go_round
          case rel => exact ⟨k + 1, j + nq, by go_num, by omega, by omega, take_ext' (unhide Htk) (unhide Hx) (unhide Hy), rfl⟩
          case measure => simp [intOf]; omega
        · have q : (((x.toNat : Nat) : Int) == ((y.toNat : Nat) : Int)) = false := by rw [hbq]; simpa using he
          have He := hide he
          clear hbq he
          generalize hxn : ((x.toNat : Nat) : Int) = xn at *
          generalize hyn : ((y.toNat : Nat) : Int) = yn at *
          clear hxn hyn
          go_wp2
          go_quiet (fail)
          go_wp2
          go_ret
          refine ⟨ret_bool ?_, _, rfl⟩
          symm
          simp only [decide_eq_false_iff_not]
          rintro rfl
          exact unhide He (Option.some.inj ((unhide Hx).symm.trans (unhide Hy)))
      · have d2 : decide (k < m) = false := by simpa using h2
        go_wp2
        go_quiet (fail)
        go_wp2
        go_ret
        refine ⟨ret_bool ?_, _, rfl⟩
        symm
        simp only [decide_eq_false_iff_not]
        rintro rfl
        have := unhide Hxl
        have := unhide Hyl
        omega
    · have d1 : decide (k < n) = false := by simpa using h1
      go_wp2
      go_quiet (fail)
      go_wp2
      go_ret
      refine ⟨ret_bool ?_, _, rfl⟩
      have hl1 := unhide Hxl
      have hl2 := unhide Hyl
      rw [Bool.eq_iff_iff, beq_iff_eq, decide_eq_true_eq]
      constructor
      · intro e
        have e' := unhide Htk
        rwa [List.take_of_length_le (by omega), List.take_of_length_le (by omega)] at e'
      · rintro rfl
        omega

/-- What stands behind what Roomy gives. -/
def spare : List UInt8 := [99, 98, 97, 96, 95, 94, 93]
theorem spare_at {j : Nat} (h : j < 7) : spare[j]? = some (UInt8.ofNat (99 - j)) := by
  match j, h with
  | 0, _ => rfl
  | 1, _ => rfl
  | 2, _ => rfl
  | 3, _ => rfl
  | 4, _ => rfl
  | 5, _ => rfl
  | 6, _ => rfl
/-- What has been laid after k rounds. -/
def laidTo (F : List UInt8) (k : Nat) : List UInt8 := F.take k ++ List.replicate (F.length - k) 0
theorem laidTo_len {F : List UInt8} {k : Nat} (h : k ≤ F.length) : (laidTo F k).length = F.length := by simp [laidTo]; omega
theorem laidTo_set {F : List UInt8} {k : Nat} {x : UInt8} (h : F[k]? = some x) : (laidTo F k).set k x = laidTo F (k + 1) := by
  have hk : k < F.length := (List.getElem?_eq_some_iff.1 h).1
  unfold laidTo
  rw [List.take_add_one, h, show F.length - k = (F.length - (k + 1)) + 1 from by omega, List.replicate_succ]
  rw [List.set_append]
  simp [Nat.min_eq_left (Nat.le_of_lt hk)]
theorem laidTo_end (F : List UInt8) : laidTo F F.length = F := by simp [laidTo]
theorem laidTo_zero (F : List UInt8) : laidTo F 0 = List.replicate F.length 0 := by simp [laidTo]

end Go.Proofs.Ytmoenjmhogmcoaa
namespace Go.Proofs.Ytmoenjmhogmcoaa
set_option linter.unusedVariables false
set_option linter.unusedSimpArgs false
open Go.RowKit

/-- What a slice type t of elements e is known by: 'size' cells, 'bytes' bytes an element. -/
structure SlTy (P : Program) (t e : TypeId) (size bytes : Nat) : Prop where
  ht : P.underlying t = some (.slice e)
  hi : ∃ i z, P.info? e = some i ∧ i.zero = some z ∧ i.size = size ∧ i.bytes = bytes ∧ z.cells.size = size
  hsz : 0 < size
  hby : 0 < bytes

theorem slTy_mk {P : Program} {t e : TypeId} {size bytes : Nat} {z : Value} (ht : P.underlying t = some (.slice e)) (h : (P.info? e).map (fun i => (i.zero, i.size, i.bytes)) = some (some z, size, bytes))
    (hz : z.cells.size = size) (hsz : 0 < size) (hby : 0 < bytes) : SlTy P t e size bytes := by
  refine ⟨ht, ?_, hsz, hby⟩
  cases hi : P.info? e with
  | none => simp [hi] at h
  | some i =>
    simp [hi] at h
    exact ⟨i, z, rfl, h.1, h.2.1, h.2.2, hz⟩

theorem Rd.row {w : World} {cs : Array Value} {e : TypeId} {size : Nat} (hc : cs.size = size) : Rd (w.alloc (.cells cs e)) (w.heap.size + 1) size (some ⟨w.heap.size, 0, none⟩) 1 cs.toList := by
  refine ⟨by simp [hc], .inr ⟨w.heap.size, 0, rfl, by omega, fun j u hu => ?_⟩⟩
  rw [cell_of_row _ w.heap.size (0 + j) cs e (0, 0) (heap_alloc_new _ _), Nat.zero_add]
  simpa using hu

theorem Rd.rowF {w : World} {cs : Array Value} {e : TypeId} {size n : Nat} {fz : Nat × Nat} (hc : cs.size = n * size) : Rd (w.alloc (.cells cs e fz)) (w.heap.size + 1) size (some ⟨w.heap.size, 0, none⟩) n cs.toList := by
  refine ⟨by simp [hc], .inr ⟨w.heap.size, 0, rfl, by omega, fun j u hu => ?_⟩⟩
  rw [cell_of_row _ w.heap.size (0 + j) cs e fz (heap_alloc_new _ _), Nat.zero_add]
  simpa using hu

section
variable {P : Program} {t e : TypeId} {size bytes : Nat}

theorem run_app (T : SlTy P t e size bytes) (w : World) (base : Nat) (ty : TypeId) (v : Value) (n : Nat) (xs : List Value) (hown : w.ownsRow base e size v n xs)
    (B : Nat) (A : Option Addr) (m c : Nat) (news : List Value) (hr : Rd w B size A m news) (h1 : ∀ u ∈ news, u.oneCell' = true)
    (hb : (n + m) * bytes ≤ 140737488355328) (hbase : base ≤ w.heap.size) :
    ∃ v' w', (Builtin.append_ #[t, t] ty #[v, .slice A m c]).run P w = .ok v' w' ∧ w'.ownsRow base e size v' (n + m) (xs ++ news) ∧ w.grownBy w' v.ownBlock ∧
      (∀ k, v'.ownBlock = some k → v.ownBlock = some k ∨ w.heap.size ≤ k) := by
  obtain ⟨ht, ⟨i, z, hi, hz, hs, hby, hzs⟩, hsz, hbp⟩ := T
  have h63 : n + m ≤ maxLen := by
    have : (n + m) * 1 ≤ (n + m) * bytes := Nat.mul_le_mul_left _ hbp
    unfold maxLen
    omega
  by_cases hn0 : m = 0 ∧ A = none
  · obtain ⟨rfl, rfl⟩ := hn0
    have hn : news = [] := List.eq_nil_of_length_eq_zero (by simpa using hr.1)
    subst hn
    refine ⟨v, w, ?_, by simpa using hown, World.grownBy.refl w _, fun k hk => .inl hk⟩
    rcases hown.2 with ⟨rfl, rfl⟩ | ⟨g, cap, cur, rfl, _, _, hnc, _⟩
    · simp [Builtin.append_, run_underlying ht, sizeOf, typeInfo, hi, Builtin.lenOf, Builtin.firstCells]
    · simp [Builtin.append_, run_underlying ht, sizeOf, typeInfo, hi, Builtin.lenOf, Builtin.firstCells, hnc, storeCells]
  · obtain ⟨ad, rfl, hcells⟩ : ∃ ad, A = some ad ∧ ∀ j u, news[j]? = some u → w.cell? (ad.add j) = some u := by
      rcases hr.2 with rfl | ⟨b, off, rfl, _, hc⟩
      · have hm : m = 0 := by
          have := hr.1
          simp only [List.length_nil] at this
          rcases Nat.eq_zero_or_pos m with h | h
          · exact h
          · have := Nat.mul_pos h hsz
            omega
        cases A with
        | none => exact absurd ⟨hm, rfl⟩ hn0
        | some ad => exact ⟨ad, rfl, fun j u hu => by simp at hu⟩
      · exact ⟨_, rfl, fun j u hu => by rw [Addr.add_lit]; exact hc j u hu⟩
    obtain ⟨v', w', hrun, h2, h3, h4, h5⟩ := run_append_own_at (P := P) w base t ty e i z size bytes ht hi hz hs hby hzs hsz v n xs hown ad m c news hr.1 hcells h1 h63 hb hbase
    refine ⟨v', w', hrun, h2, h3, fun k hk => ?_⟩
    rcases h5 with h5 | h5
    · exact .inl (h5 ▸ hk)
    · rw [h5] at hk
      injection hk with hk
      exact .inr (by omega)

theorem wp_app (T : SlTy P t e size bytes) {w : World} {o : Oper} {a : Act} {K : Act → World → Prop} {Q : Exit → Act → World → Prop} (s x : Operand)
    (ho : o.op = .call { callee := .builtin .append, args := #[s, x], argTypes := #[t, t] })
    (base : Nat) (v : Value) (n : Nat) (xs : List Value) (hs : a.eval s = v) (hown : w.ownsRow base e size v n xs)
    (B : Nat) (A : Option Addr) (m c : Nat) (news : List Value) (hx : a.eval x = .slice A m c) (hr : Rd w B size A m news) (h1 : ∀ u ∈ news, u.oneCell' = true)
    (hb : (n + m) * bytes ≤ 140737488355328) (hbase : base ≤ w.heap.size)
    (h : ∀ v' w', w'.ownsRow base e size v' (n + m) (xs ++ news) → w.grownBy w' v.ownBlock → (∀ k, v'.ownBlock = some k → v.ownBlock = some k ∨ w.heap.size ≤ k) → K (a.put o.dst v') w') : o.wp P a w K Q := by
  obtain ⟨v', w', hrun, h2, h3, h4⟩ := run_app T w base o.type v n xs hown B A m c news hr h1 hb hbase
  unfold Oper.wp execOp
  simp only [ho, resolve, invoke, builtin, Sem.run_bind, Sem.run_pure, Result.andThen_ok, List.map_toArray, List.map_cons, List.map_nil, hs, hx, hrun]
  exact h v' w' h2 h3 h4

/-- 'append(s, x...)', x a slice that reads as 'news'. -/
theorem wpList_app (T : SlTy P t e size bytes) {w : World} {ops : Array Oper} {rest : List Oper} {o : Oper} {a : Act} {Q : Exit → Act → World → Prop} (hgd : o.guard = none) (s x : Operand)
    (ho : o.op = .call { callee := .builtin .append, args := #[s, x], argTypes := #[t, t] })
    (base : Nat) (v : Value) (n : Nat) (xs : List Value) (hs : a.eval s = v) (hown : w.ownsRow base e size v n xs)
    (B : Nat) (A : Option Addr) (m c : Nat) (news : List Value) (hx : a.eval x = .slice A m c) (hr : Rd w B size A m news) (h1 : ∀ u ∈ news, u.oneCell' = true)
    (hb : (n + m) * bytes ≤ 140737488355328) (hbase : base ≤ w.heap.size)
    (h : ∀ A' c' w', w'.ownsRow base e size (.slice A' (n + m) c') (n + m) (xs ++ news) → w.grownBy w' v.ownBlock → (∀ k, (Value.slice A' (n + m) c').ownBlock = some k → v.ownBlock = some k ∨ w.heap.size ≤ k) → wpList P ops Q rest (a.put o.dst (.slice A' (n + m) c')) w') : wpList P ops Q (o :: rest) a w :=
  wpList_plain hgd fun _ hK => wp_app T s x ho base v n xs hs hown B A m c news hx hr h1 hb hbase fun v' w' h2 h3 h4 => by
    obtain ⟨A', c', rfl⟩ := own_form h2
    exact hK _ _ (h A' c' w' h2 h3 h4)

/-- 'append(s, x)': the one element's cells have just been laid in a block of their own. -/
theorem wpList_app1 (T : SlTy P t e size bytes) {W : World} {ops : Array Oper} {rest : List Oper} {o : Oper} {a : Act} {Q : Exit → Act → World → Prop} (hgd : o.guard = none) (s x : Operand)
    (ho : o.op = .call { callee := .builtin .append, args := #[s, x], argTypes := #[t, t] })
    (base : Nat) (v : Value) (n : Nat) (xs : List Value) (hs : a.eval s = v) (hown : W.ownsRow base e size v n xs)
    (cs : Array Value) (hx : a.eval x = .slice (some ⟨W.heap.size, 0, none⟩) 1 1) (hcs : cs.size = size) (h1 : ∀ u ∈ cs.toList, u.oneCell' = true)
    (hb : (n + 1) * bytes ≤ 140737488355328) (hbase : base ≤ W.heap.size)
    (h : ∀ A' c' w', w'.ownsRow base e size (.slice A' (n + 1) c') (n + 1) (xs ++ cs.toList) → W.grownBy w' v.ownBlock → (∀ k, (Value.slice A' (n + 1) c').ownBlock = some k → v.ownBlock = some k ∨ W.heap.size ≤ k) → wpList P ops Q rest (a.put o.dst (.slice A' (n + 1) c')) w') : wpList P ops Q (o :: rest) a (W.alloc (.cells cs e)) :=
  wpList_app T hgd s x ho base v n xs hs (hown.alloc _) (W.heap.size + 1) (some ⟨W.heap.size, 0, none⟩) 1 1 cs.toList hx (Rd.row hcs) h1 hb (by simp; omega)
    fun A' c' w' h2 h3 h4 => h A' c' w' h2 (grown_trans (World.grownBy_alloc W _ _) h3) fun k hk => (h4 k hk).imp id fun h5 => by simp at h5; omega
end
end Go.Proofs.Ytmoenjmhogmcoaa
namespace Go.Proofs.Ytmoenjmhogmcoaa
set_option linter.unusedVariables false
set_option linter.unusedSimpArgs false
open Go.RowKit

theorem byteInfo : (Try.prog.info? 5).map (fun i => (i.zero, i.size, i.bytes)) = some (some (.int .u8 0), 1, 1) := by kernel_rfl
theorem byteTy : SlTy Try.prog 29 5 1 1 := slTy_mk (z := .int .u8 0) Try.underlying29 byteInfo rfl (by omega) (by omega)
theorem bys_one (l : List UInt8) : ∀ u ∈ bys l, u.oneCell' = true := by
  intro u hu
  simp only [bys, List.mem_map] at hu
  obtain ⟨c, _, rfl⟩ := hu
  rfl
/-- From the value v to the value v', which owns the bytes xs: only v's own row, and what is new, has turned. -/
structure Grew (w w' : World) (base : Nat) (v v' : Value) (n : Nat) (xs : List UInt8) : Prop where
  own : w'.ownsRow base 5 1 v' n (bys xs)
  kept : w.grownBy w' v.ownBlock
  at_ : ∀ k, v'.ownBlock = some k → v.ownBlock = some k ∨ w.heap.size ≤ k
section
variable {a b c : World} {base : Nat} {u v x : Value} {n m : Nat} {xs ys : List UInt8}
theorem Grew.trans (h : Grew a b base u v n xs) (k : Grew b c base v x m ys) : Grew a c base u x m ys :=
  ⟨k.own, ⟨k.kept.os.trans h.kept.os, k.kept.tape.trans h.kept.tape, k.kept.output.trans h.kept.output, Nat.le_trans h.kept.size k.kept.size, fun i hi hr => (k.kept.block i (Nat.lt_of_lt_of_le hi h.kept.size) (fun e => by
    rcases h.at_ i e.symm with h1 | h1
    · exact hr h1.symm
    · omega)).trans (h.kept.block i hi hr)⟩, fun i hi => by
    rcases k.at_ i hi with h1 | h1
    · exact h.at_ i h1
    · exact .inr (Nat.le_trans h.kept.size h1)⟩
theorem grownBy_of_below {row : Option Nat} (h : Below a.heap.size a b) : a.grownBy b row := ⟨h.os, h.tape, h.output, h.size, fun k hk _ => h.block k hk⟩
/-- Ahead of it something may have been made. -/
theorem Grew.after (hb : Below a.heap.size a b) (h : Grew b c base u v n xs) : Grew a c base u v n xs :=
  ⟨h.own, grown_trans (grownBy_of_below hb) h.kept, fun k hk => (h.at_ k hk).imp id fun h1 => Nat.le_trans hb.size h1⟩
theorem Grew.then (h : Grew a b base u v n xs) (hb : Below b.heap.size b c) : Grew a c base u v n xs :=
  ⟨own_below h.own hb, grown_trans h.kept (grownBy_of_below hb), h.at_⟩
theorem Grew.below {B : Nat} (h : Grew a b base u v n xs) (hB : B ≤ a.heap.size) (hr : ∀ k, u.ownBlock = some k → B ≤ k) : Below B a b := (Below.refl B a).grown h.kept hB hr
theorem Grew.blk {g : Nat} (h : Grew a b base u v n xs) (hg : g < a.heap.size) (hne : u.ownBlock ≠ some g) {o : Obj} (ho : a.heap[g]? = some o) : b.heap[g]? = some o :=
  (h.kept.block g hg (fun e => hne e.symm)).trans ho
theorem own_lt {w : World} {e : TypeId} {size : Nat} {xs : List Value} (h : w.ownsRow base e size v n xs) : ∀ k, v.ownBlock = some k → base ≤ k := fun k hk => (h.lt k hk).1
end

end Go.Proofs.Ytmoenjmhogmcoaa
namespace Go.Proofs.Ytmoenjmhogmcoaa
set_option linter.unusedVariables false
set_option linter.unusedSimpArgs false
open Go.RowKit

theorem app_in_or_kept {P : Program} {w w' : World} {base : Nat} {t ty e : TypeId} {i : TypeInfo} {z : Value} (ht : P.underlying t = some (.slice e)) (hi : P.info? e = some i) (hz : i.zero = some z)
    (hs : i.size = 1) (hby : i.bytes = 1) {v v' : Value} {n : Nat} {xs : List Value} (hown : w.ownsRow base e 1 v n xs) {a : Addr} {c : Nat} {u : Value} (hu : w.cell? a = some u) (h1 : u.oneCell' = true) (hb : n + 1 ≤ 140737488355328)
    (hr : (Builtin.append_ #[t, t] ty #[v, .slice (some a) 1 c]).run P w = .ok v' w') : (∃ A c0, v = .slice A n c0 ∧ v' = .slice A (n + 1) c0) ∨ (Below w.heap.size w w' ∧ ∀ k, v'.ownBlock = some k → w.heap.size ≤ k) := by
  have hnews : ∀ j x, ([u] : List Value)[j]? = some x → w.cell? (a.add j) = some x := by
    intro j x hj
    cases j with
    | zero => simp at hj; subst hj; simpa [Addr.add] using hu
    | succ j => simp at hj
  rcases hown.2 with ⟨rfl, rfl⟩ | ⟨g, cap, cur, rfl, h1', h2, h3, h4, h5, h6⟩
  · rw [run_append_nil (P := P) w t ty e i z ht hi hz a 1 c [u] (by simp [hs]) hnews (by omega) (by omega) (by rw [hby]; omega)] at hr
    injection hr with e1 e2
    subst e1 e2
    exact .inr ⟨(below_drew' (Below.refl _ _)).alloc (Nat.le_refl _) _, fun k hk => by simp [Value.ownBlock] at hk; omega⟩
  · by_cases hroom : n + 1 ≤ cap
    · rw [run_append_room (P := P) w t ty e i ht hi g n cap cur h2 a 1 c [u] (by simp [hs]) hnews (by simpa using h1) hroom (by rw [hs]; simp; omega)] at hr
      injection hr with e1 e2
      subst e1
      exact .inl ⟨_, _, rfl, rfl⟩
    · have hc : ∀ j x, xs[j]? = some x → w.cell? ((⟨g, 0, none⟩ : Addr).add j) = some x := hown.cells (g := g) rfl
      rw [run_append_grow (P := P) w t ty e i z ht hi hz ⟨g, 0, none⟩ n cap xs (by rw [hs]; exact hown.1) hc a 1 c [u] (by simp [hs]) hnews (by omega) (by omega) (by rw [hby]; exact growslice_fits (by omega) (by omega))] at hr
      injection hr with e1 e2
      subst e1 e2
      exact .inr ⟨(below_drew' (Below.refl _ _)).alloc (Nat.le_refl _) _, fun k hk => by simp [Value.ownBlock] at hk; omega⟩
end Go.Proofs.Ytmoenjmhogmcoaa
namespace Go.Proofs.Ytmoenjmhogmcoaa
set_option linter.unusedVariables false
set_option linter.unusedSimpArgs false
open Go.RowKit

/-- Block g holds just these cells. -/
def Blk (w : World) (g : Nat) (t : TypeId) (l : List Value) : Prop := w.heap[g]? = some (.cells l.toArray t (0, 0))
section
variable {w w' : World} {g g' B i : Nat} {t : TypeId} {l : List Value} {u : Value}
theorem Blk.cell (h : Blk w g t l) (hi : l[i]? = some u) : w.cell? ⟨g, i, none⟩ = some u := by
  rw [cell_of_row _ _ _ _ _ _ h]
  simpa using hi
theorem Blk.free (h : Blk w g t l) (i : Nat) : w.frozen? ⟨g, i, none⟩ = false := frozen_of_row _ _ _ _ _ h
theorem Blk.set (h : Blk w g t l) (i : Nat) (u : Value) : Blk (w.setCell ⟨g, i, none⟩ u) g t (l.set i u) := by
  have h1 := heap_setCell_same _ _ i _ _ u h
  unfold Blk
  rw [h1]
  simp [List.setIfInBounds_toArray]
theorem Blk.below (h : Blk w g t l) (hb : Below B w w') (hg : g < B) : Blk w' g t l := (hb.block g hg).trans h
theorem Blk.lt (h : Blk w g t l) : g < w.heap.size := lt_of_block h
theorem Blk.belowSz (h : Blk w g t l) (hb : Below w.heap.size w w') : Blk w' g t l := h.below hb h.lt
theorem Blk.drewN (h : Blk w g t l) (k : Nat) : Blk (w.drewN k) g t l := h
theorem Blk.drew (h : Blk w g t l) : Blk w.drew g t l := h
theorem Blk.alloc (h : Blk w g t l) (o : Obj) : Blk (w.alloc o) g t l := h.belowSz ((Below.refl _ _).alloc (Nat.le_refl _) o)
theorem Blk.new (w : World) (t : TypeId) (l : List Value) : Blk (w.alloc (.cells l.toArray t)) w.heap.size t l := heap_alloc_new _ _
theorem Blk.other (h : Blk w g t l) {p : Addr} (hp : p.block ≠ g) (u : Value) : Blk (w.setCell p u) g t l := (heap_setCell_other _ _ _ _ hp.symm).trans h
end
end Go.Proofs.Ytmoenjmhogmcoaa
namespace Go.Proofs.Ytmoenjmhogmcoaa
set_option linter.unusedVariables false
set_option linter.unusedSimpArgs false
open Go.RowKit

/-- append(b, c) for one byte, which has just been laid in a block of its own. -/
theorem wpList_appK {W : World} {ops : Array Oper} {rest : List Oper} {o : Oper} {a : Act} {Q : Exit → Act → World → Prop} (hgd : o.guard = none) (s x : Operand)
    (ho : o.op = .call { callee := .builtin .append, args := #[s, x], argTypes := #[29, 29] })
    (base : Nat) (v : Value) (n : Nat) (xs : List UInt8) (hs : a.eval s = v) (hown : W.ownsRow base 5 1 v n (bys xs)) (ch : UInt8) (g : Nat) (hx : a.eval x = .slice (some ⟨g, 0, none⟩) 1 1) (hg : g = W.heap.size) (hb : n + 1 ≤ 140737488355328) (hbase : base ≤ W.heap.size)
    (h : ∀ A' c' w', Grew W w' base v (.slice A' (n + 1) c') (n + 1) (xs ++ [ch]) → ((∃ A c0, v = .slice A n c0 ∧ (Value.slice A' (n + 1) c') = .slice A (n + 1) c0) ∨ (Below W.heap.size W w' ∧ ∀ k, (Value.slice A' (n + 1) c').ownBlock = some k → W.heap.size ≤ k)) → wpList Try.prog ops Q rest (a.put o.dst (.slice A' (n + 1) c')) w') : wpList Try.prog ops Q (o :: rest) a (W.alloc (.cells #[.int .u8 ch.toNat] 5)) := by
  subst hg
  obtain ⟨i, hi, hz0, hz1, hz2⟩ := info_parts byteInfo
  refine wpList_plain hgd fun K hK => ?_
  have hr : Rd (W.alloc (.cells #[.int .u8 ch.toNat] 5)) (W.heap.size + 1) 1 (some ⟨W.heap.size, 0, none⟩) 1 (bys [ch]) := Rd.row (w := W) rfl
  obtain ⟨v', w', hrun, h2, h3, h4⟩ := run_app byteTy (W.alloc (.cells #[.int .u8 ch.toNat] 5)) base o.type v n (bys xs) (hown.alloc _) _ _ 1 1 (bys [ch]) hr (bys_one _) (by omega) (by simp; omega)
  have hcell : (W.alloc (.cells #[.int .u8 ch.toNat] 5)).cell? ⟨W.heap.size, 0, none⟩ = some (.int .u8 ch.toNat) := (Blk.new W 5 [.int .u8 ch.toNat]).cell (i := 0) rfl
  have h5 := app_in_or_kept Try.underlying29 hi hz0 hz1 hz2 (hown.alloc _) hcell rfl hb hrun
  have hbl : Below W.heap.size W (W.alloc (.cells #[.int .u8 ch.toNat] 5)) := (Below.refl _ _).alloc (Nat.le_refl _) _
  obtain ⟨A', c', rfl⟩ := own_form h2
  rw [← bys_app] at h2
  unfold Oper.wp execOp
  simp only [ho, resolve, invoke, builtin, Sem.run_bind, Sem.run_pure, Result.andThen_ok, List.map_toArray, List.map_cons, List.map_nil, hs, hx, hrun]
  exact hK _ _ (h A' c' w' (Grew.after hbl ⟨h2, h3, h4⟩) (h5.imp id fun h6 => ⟨hbl.trans (h6.1.mono (by simp)), fun k hk => by have := h6.2 k hk; simp at this; omega⟩))

theorem own_grown {w w' : World} {base : Nat} {e : TypeId} {size n : Nat} {v : Value} {xs : List Value} {row : Option Nat} (h : w.ownsRow base e size v n xs) (hg : w.grownBy w' row) (hne : ∀ g, v.ownBlock = some g → row ≠ some g) : w'.ownsRow base e size v n xs := by
  refine ⟨h.1, h.2.imp id ?_⟩
  rintro ⟨g, cap, cur, rfl, e2, e3, r⟩
  exact ⟨g, cap, cur, rfl, e2, (hg.block g (lt_of_block e3) (fun e => hne g rfl e.symm)).trans e3, r⟩
theorem own_prefix {w : World} {base : Nat} {e : TypeId} {n m c : Nat} {A : Option Addr} {xs ys : List Value} (h : w.ownsRow base e 1 (.slice A (n + m) c) (n + m) (xs ++ ys)) (hl : xs.length = n) : w.ownsRow base e 1 (.slice A n c) n xs := by
  refine ⟨by omega, ?_⟩
  rcases h.2 with ⟨h1, h2⟩ | ⟨g, cap, cur, h1, h2, h3, h4, h5, h6, h7⟩
  · injection h1 with e1 e2 e3
    have hn : n = 0 := by omega
    subst e1 e3 hn
    exact .inl ⟨rfl, rfl⟩
  · injection h1 with e1 e2 e3
    subst e1 e3
    refine .inr ⟨g, c, cur, rfl, h2, h3, by omega, h5, h6, ?_⟩
    have h8 := congrArg (List.take (n * 1)) h7
    rw [List.take_take, Nat.min_eq_left (by omega)] at h8
    rw [h8, List.take_append_of_le_length (by omega), List.take_of_length_le (by omega)]

/-- k marks behind a row; the row itself is still there. -/
structure Gone (w wr : World) (base : Nat) (A : Option Addr) (n c : Nat) (xs : List UInt8) (mark : UInt8) (k : Nat) (A' : Option Addr) (c' : Nat) : Prop where
  grew : Grew w wr base (.slice A n c) (.slice A' (n + k) c') (n + k) (xs ++ List.replicate k mark)
  old : (A' = A ∧ c' = c) ∨ (wr.ownsRow base 5 1 (.slice A n c) n (bys xs) ∧ ∀ g, (Value.slice A n c).ownBlock = some g → (Value.slice A' (n + k) c').ownBlock ≠ some g)
section
variable {w wr w' : World} {base n c k c' c'' : Nat} {A A' A'' : Option Addr} {xs : List UInt8} {mark : UInt8}
theorem Gone.start (h : w.ownsRow base 5 1 (.slice A n c) n (bys xs)) : Gone w w base A n c xs mark 0 A c :=
  ⟨⟨by simpa using h, World.grownBy.refl w _, fun k hk => .inl hk⟩, .inl ⟨rfl, rfl⟩⟩
theorem Gone.keeps (h : Gone w wr base A n c xs mark k A' c') : wr.ownsRow base 5 1 (.slice A n c) n (bys xs) := by
  rcases h.old with ⟨rfl, rfl⟩ | ⟨h1, _⟩
  · have h1 := h.grew.own
    have hl := h1.1
    rw [bys_app] at h1
    exact own_prefix h1 (by simp [bys] at hl ⊢; omega)
  · exact h1
theorem Gone.step (h : Gone w wr base A n c xs mark k A' c') (hg : Grew wr w' base (.slice A' (n + k) c') (.slice A'' (n + k + 1) c'') (n + k + 1) (xs ++ List.replicate k mark ++ [mark]))
    (ho : (∃ A0 c0, Value.slice A' (n + k) c' = .slice A0 (n + k) c0 ∧ Value.slice A'' (n + k + 1) c'' = .slice A0 (n + k + 1) c0) ∨ (Below wr.heap.size wr w' ∧ ∀ k', (Value.slice A'' (n + k + 1) c'').ownBlock = some k' → wr.heap.size ≤ k')) : Gone w w' base A n c xs mark (k + 1) A'' c'' := by
  have e : xs ++ List.replicate k mark ++ [mark] = xs ++ List.replicate (k + 1) mark := by rw [List.replicate_succ', List.append_assoc]
  rw [e] at hg
  refine ⟨h.grew.trans hg, ?_⟩
  have hk := h.keeps
  have hlt : ∀ g, (Value.slice A n c).ownBlock = some g → g < wr.heap.size := fun g hg => (hk.lt g hg).2
  rcases ho with ⟨A0, c0, e1, e2⟩ | ⟨hb, hn⟩
  · injection e1 with e1 _ e3
    injection e2 with e4 _ e6
    subst e1 e3 e4 e6
    rcases h.old with h1 | ⟨h1, h2⟩
    · exact .inl h1
    · refine .inr ⟨own_grown h1 hg.kept (fun g hg => h2 g hg), fun g hg => ?_⟩
      have := h2 g hg
      cases A'' with
      | none => simp [Value.ownBlock]
      | some a => simpa [Value.ownBlock] using this
  · exact .inr ⟨own_below hk hb, fun g hg e => by have := hlt g hg; have := hn g e; omega⟩
end

set_option maxRecDepth 100000 in
set_option maxHeartbeats 2000000 in
theorem goneOn_any (A : Option Addr) (n c base : Nat) (xs : List UInt8) (mark : UInt8) (w : World) (hown : w.ownsRow base 5 1 (.slice A n c) n (bys xs)) (hn : n ≤ 4294967296) (hbase : base ≤ w.heap.size) :
    Calls Try.prog 27 #[.slice A n c, .int .u8 mark.toNat] w fun e w' => ∃ A' c', e = .returned (.slice A' (n + 40) c') ∧ Gone w w' base A n c xs mark 40 A' c' := by
  have H0 := hide (Gone.start (mark := mark) hown)
  clear hown
  go_enter Try.func27, Try.ntmps27
  go_wp2_with fail
  go_loopg [0, 5] 40 (fun gk bv lv wr => ∃ (k : Nat) (A' : Option Addr) (c' : Nat), gk = 40 - k ∧ k ≤ 40 ∧ lv = .int .i64 (40 - (k : Int)) ∧ bv = .slice A' (n + k) c' ∧ Gone w wr base A n c xs mark k A' c')
  case atStart => exact ⟨0, A, c, by omega, by omega, rfl, rfl, unhide H0⟩
  case round =>
  obtain ⟨k, A', c', hgk, hk, rfl, rfl, hG⟩ := hrel
  have Hgk := hide hgk
  have HG := hide hG
  have hsz := hG.grew.kept.size
  clear hgk hG H0
  rcases Nat.lt_or_ge k 40 with hlt | hge
  case inr =>
    obtain rfl : k = 40 := by omega
    go_wp2_with fail
    go_ret
    exact ⟨A', c', rfl, unhide HG⟩
  have hpos : (0 : Int) < 40 - (k : Int) := by omega
  go_wp2_with (at_builtin; refine wpList_appK rfl _ _ rfl base (.slice A' (n + k) c') (n + k) (xs ++ List.replicate k mark) rfl (unhide HG).grew.own mark wr.heap.size rfl rfl (by omega) (by omega) ?_; intro A2 c2 w2 hg2 ho2; have HG2 := hide ((unhide HG).step hg2 ho2); clear hg2 ho2)
  go_roundg (40 - (k + 1))
  case measure => have := unhide Hgk; omega
  case rel => exact ⟨k + 1, A2, c2, rfl, by omega, by go_num, rfl, unhide HG2⟩
end Go.Proofs.Ytmoenjmhogmcoaa
namespace Go.Proofs.Ytmoenjmhogmcoaa
set_option linter.unusedVariables false
set_option linter.unusedSimpArgs false
open Go.RowKit

/-- A list of cells in a block that is not 'row'. -/
def Fr (w : World) (row : Option Nat) (A : Option Addr) (n : Nat) (xs : List Value) : Prop := xs.length = n ∧ (xs = [] ∨ ∃ b off cs t fr, A = some ⟨b, off, none⟩ ∧ some b ≠ row ∧ w.heap[b]? = some (.cells cs t fr) ∧ ∀ j u, xs[j]? = some u → cs[off + j]? = some u)
section
variable {w w' : World} {row row' : Option Nat} {base n : Nat} {A : Option Addr} {xs : List Value}
theorem Fr.rd (h : Fr w row A n xs) : Rd w w.heap.size 1 A n xs := by
  refine ⟨by simpa using h.1, h.2.imp id ?_⟩
  rintro ⟨b, off, cs, t, fr, e, hb, hg, hc⟩
  exact ⟨b, off, e, lt_of_block hg, fun j u hu => by rw [cell_of_row w b (off + j) cs t fr hg]; exact hc j u hu⟩
theorem Fr.below (h : Fr w row A n xs) (hb : Below w.heap.size w w') : Fr w' row A n xs := by
  refine ⟨h.1, h.2.imp id ?_⟩
  rintro ⟨b, off, cs, t, fr, e, hne, hg, hc⟩
  exact ⟨b, off, cs, t, fr, e, hne, (hb.block b (lt_of_block hg)).trans hg, hc⟩
theorem Fr.grown (h : Fr w row A n xs) (hg : w.grownBy w' row) (hr : ∀ k, row' = some k → row = some k ∨ w.heap.size ≤ k) : Fr w' row' A n xs := by
  refine ⟨h.1, h.2.imp id ?_⟩
  rintro ⟨b, off, cs, t, fr, e, hne, hgb, hc⟩
  refine ⟨b, off, cs, t, fr, e, fun e2 => ?_, (hg.block b (lt_of_block hgb) hne).trans hgb, hc⟩
  rcases hr b e2.symm with h1 | h1
  · exact hne h1.symm
  · have := lt_of_block hgb; omega
end
theorem own_fr {w : World} {base n c : Nat} {e : TypeId} {A : Option Addr} {xs : List Value} {row : Option Nat} (h : w.ownsRow base e 1 (.slice A n c) n xs) (hr : ∀ g, (Value.slice A n c).ownBlock = some g → row ≠ some g) : Fr w row A n xs := by
  refine ⟨by simpa using h.1, ?_⟩
  have hl : xs.length = n := by simpa using h.1
  rcases h.2 with ⟨e1, e2⟩ | ⟨g, cap, cur, e1, e2, e3, e4, e5, e6, e7⟩
  · exact .inl (List.eq_nil_of_length_eq_zero (by omega))
  · injection e1 with a1 a2 a3
    subst a1 a3
    refine .inr ⟨g, 0, cur, e, (0, 0), rfl, fun e8 => hr g rfl e8.symm, e3, fun j u hu => ?_⟩
    have hj : j < n := by have := (List.getElem?_eq_some_iff.1 hu).1; omega
    rw [← e7, List.getElem?_take_of_lt (by omega)] at hu
    simpa using hu
def u64s (l : List Nat) : List Value := l.map fun x => .int .u64 (x : Nat)
theorem u64s_len (l : List Nat) : (u64s l).length = l.length := by simp [u64s]
theorem u64s_at {l : List Nat} {k x : Nat} (h : l[k]? = some x) : (u64s l)[k]? = some (.int .u64 (x : Nat)) := by simp [u64s, h]
theorem u64s_app (a b : List Nat) : u64s (a ++ b) = u64s a ++ u64s b := by simp [u64s]
theorem u64Info : (Try.prog.info? 30).map (fun i => (i.zero, i.size, i.bytes)) = some (some (.int .u64 0), 1, 8) := by kernel_rfl
theorem u64Ty : SlTy Try.prog 50 30 1 8 := slTy_mk (z := .int .u64 0) Try.underlying50 u64Info rfl (by omega) (by omega)
end Go.Proofs.Ytmoenjmhogmcoaa
namespace Go.Proofs.Ytmoenjmhogmcoaa
set_option linter.unusedVariables false
set_option linter.unusedSimpArgs false
open Go.RowKit

theorem bys_at' {b : List UInt8} {i : Nat} {x : UInt8} (h : b[i]? = some x) : (bys b)[i]? = some (.int .u8 x.toNat) := by simp [bys, h]

/-- What has been copied from k on. -/
def backTo (b : List UInt8) (k : Nat) : List Value := List.replicate k (.int .u8 0) ++ bys (b.drop k)
theorem backTo_set {b : List UInt8} {k : Nat} {x : UInt8} (h : b[k]? = some x) : (backTo b (k + 1)).set k (.int .u8 x.toNat) = backTo b k := by
  unfold backTo
  rw [List.drop_eq_getElem_cons (i := k) (by have := (List.getElem?_eq_some_iff.1 h).1; exact this)]
  have hx : b[k]'((List.getElem?_eq_some_iff.1 h).1) = x := (List.getElem?_eq_some_iff.1 h).2
  rw [hx, List.replicate_succ', List.append_assoc]
  rw [List.set_append]
  simp [bys]

set_option maxRecDepth 20000 in
set_option maxHeartbeats 1000000 in
theorem copyBytes_any (A : Option Addr) (m c B : Nat) (b : List UInt8) (w : World) (hB : B ≤ w.heap.size) (hb : Rd w B 1 A m (bys b)) (hm : m ≤ 4294967296) :
    Calls Try.prog 26 #[.slice A m c] w fun e w' => ∃ A' c', e = .returned (.slice A' m c') ∧ w'.ownsRow w.heap.size 5 1 (.slice A' m c') m (bys b) ∧ Below w.heap.size w w' := by
  have hbl : b.length = m := by simpa [bys] using hb.len1
  rcases Nat.eq_zero_or_pos m with rfl | hpos
  · have hb0 : b = [] := List.eq_nil_of_length_eq_zero hbl
    subst hb0
    clear hb hbl
    go_enter Try.func26, Try.ntmps26
    go_wp2
    go_ret
    exact ⟨none, 0, rfl, World.ownsRow_nil _ _ _ _, Below.refl _ _⟩
  have hne : decide (m = 0) = false := by simp; omega
  obtain ⟨i, hi, hz0, hz1, hz2⟩ := info_parts byteInfo
  have Hb := hide hb
  have Hbl := hide hbl
  have Hi := hide hi
  have Hz0 := hide hz0
  have Hz1 := hide hz1
  have Hz2 := hide hz2
  clear hb hbl hi hz0 hz1 hz2
  go_enter Try.func26, Try.ntmps26
  go_wp2_with (at_make; refine wpList_make_full _ rfl _ _ 29 rfl w.heap.size 5 i (.int .u8 0) 1 Try.underlying29 (unhide Hi) (unhide Hz0) (unhide Hz1) _ _ _ _ m rfl rfl rfl rfl (by rw [unhide Hz2]; omega) (by unfold maxLen; omega) (Nat.le_refl _) ?_; intro w1 hown hgrow; have hb1 := (Below.refl w.heap.size w).grown hgrow (Nat.le_refl _) (fun k hk => by cases hk); have Hown := hide hown; have Hb1 := hide hb1; clear hown hgrow hb1)
  go_loopw [4] (fun at_ wr => ∃ k : Nat, k ≤ m ∧ at_ = .int .i64 ((k : Int) - 1) ∧ wr.ownsRow w.heap.size 5 1 (.slice (some ⟨w.heap.size, 0, none⟩) m m) m (backTo b k) ∧ Below w.heap.size w wr) (fun at_ _ => (intOf at_ + 1).toNat)
  case atStart =>
    refine ⟨m, Nat.le_refl _, rfl, ?_, unhide Hb1⟩
    have := unhide Hown
    have e : (madeCells (Value.int .u8 0).cells (m * 1)).toList = backTo b m := by
      unfold backTo
      rw [List.drop_eq_nil_of_le (by rw [unhide Hbl]; exact Nat.le_refl _)]
      simp [bys, Value.cells, toList_madeCells_one]
    rwa [e] at this
  case round =>
  clear Hown Hb1
  obtain ⟨k, hk, rfl, hown, hb2⟩ := hrel
  have Hown := hide hown
  have Hb2 := hide hb2
  clear hown hb2
  by_cases hk0 : k = 0
  · subst hk0
    go_wp2
    go_ret
    refine ⟨_, _, rfl, ?_, unhide Hb2⟩
    have := unhide Hown
    simpa [backTo] using this
  · obtain ⟨j, rfl⟩ : ∃ j, k = j + 1 := ⟨k - 1, by omega⟩
    obtain ⟨x, hx⟩ : ∃ x, b[j]? = some x := ⟨_, List.getElem?_eq_getElem (by rw [unhide Hbl]; omega)⟩
    obtain ⟨ab, ao, rfl, hlt, hc⟩ := ((unhide Hb).below ((unhide Hb2).mono hB)).at_ (bys_at' hx)
    have hset := own_set (i := j) (unhide Hown) (.int .u8 x.toNat)
    rw [backTo_set hx] at hset
    have hcl : (backTo b (j + 1))[j]? = some (.int .u8 0) := by simp [backTo, List.getElem?_append]
    have hc2 := own_cell (unhide Hown) hcl
    have hf2 := own_free (unhide Hown) j
    have hge := own_at (unhide Hown)
    have e1 : ((j + 1 : Nat) : Int) - 1 = (j : Int) := by omega
    rw [e1]
    have Hset := hide hset
    clear hset hcl hx
    go_wp2
    go_roundw
    case rel => exact ⟨j, by omega, rfl, unhide Hset, (unhide Hb2).setCell (Nat.le_refl _) _⟩
    case measure => simp [intOf]

end Go.Proofs.Ytmoenjmhogmcoaa
namespace Go.Proofs.Ytmoenjmhogmcoaa.Wd
set_option linter.unusedVariables false
set_option linter.unusedSimpArgs false

/-- The greatest uint64. -/
def top : Int := 18446744073709551615
theorem top_def : top = 18446744073709551615 := rfl

theorem xor_top (b : Int) (h0 : 0 ≤ b) (h1 : b ≤ 18446744073709551615) : bits .xor .u64 IntKind.u64.max b = 18446744073709551615 - b := by
  obtain ⟨n, rfl⟩ := Int.eq_ofNat_of_zero_le h0
  have e : IntKind.u64.max = ((18446744073709551615 : Nat) : Int) := rfl
  rw [e, u64_xor_nat _ _ (by omega) (by omega)]
  have h2 : n < 2 ^ 64 := by omega
  have h3 : (18446744073709551615 : Nat) ^^^ n = 2 ^ 64 - 1 - n := by
    have h4 := BitVec.toNat_not (x := BitVec.ofNat 64 n)
    rw [← BitVec.xor_allOnes, BitVec.toNat_xor, BitVec.toNat_ofNat, BitVec.toNat_allOnes, Nat.mod_eq_of_lt h2, Nat.xor_comm] at h4
    exact h4
  rw [h3]
  omega

theorem andNot_page (a : Int) (h0 : 0 ≤ a) (h1 : a ≤ 18446744073709551615) : bits .andNot .u64 a 4095 = a - a % 4096 := by
  obtain ⟨n, rfl⟩ := Int.eq_ofNat_of_zero_le h0
  have e : (4095 : Int) = ((4095 : Nat) : Int) := rfl
  rw [e, u64_andNot_nat _ _ (by omega) (by omega)]
  have h2 : n < 2 ^ 64 := by omega
  have h3 : n &&& (18446744073709551615 - 4095) = n - n % 4096 := by
    have h5 : (18446744073709551615 - 4095 : Nat) ^^^ 4095 = 2 ^ 64 - 1 := by decide
    have h6 : n &&& (2 ^ 64 - 1) = n := by rw [Nat.and_two_pow_sub_one_eq_mod]; exact Nat.mod_eq_of_lt h2
    have h7 : n &&& 4095 = n % 4096 := Nat.and_two_pow_sub_one_eq_mod n 12
    have h8 : (n &&& (18446744073709551615 - 4095)) + (n &&& 4095) = n := by
      have h9 : (n &&& (18446744073709551615 - 4095)) ||| (n &&& 4095) = n := by
        rw [← Nat.and_or_distrib_left]
        have : (18446744073709551615 - 4095 : Nat) ||| 4095 = 2 ^ 64 - 1 := by decide
        rw [this, h6]
      have h10 : (n &&& (18446744073709551615 - 4095)) ||| (n &&& 4095) = (n &&& (18446744073709551615 - 4095)) + (n &&& 4095) := by
        refine nat_join 12 _ _ ?_ ?_
        · have e2 : (18446744073709551615 - 4095 : Nat) = (2 ^ 52 - 1) <<< 12 := by decide
          rw [e2, ← Nat.and_two_pow_sub_one_eq_mod, Nat.and_assoc]
          have : ((2 ^ 52 - 1 : Nat) <<< 12) &&& (2 ^ 12 - 1) = 0 := by decide
          rw [this, Nat.and_zero]
        · rw [h7]
          exact Nat.mod_lt _ (by decide)
      omega
    omega
  rw [h3]
  omega

/-- Numbers of bytes, the lowest first. -/
def le : List UInt8 → Nat
  | [] => 0
  | c :: r => c.toNat + 256 * le r
def num (b : List UInt8) (p n : Nat) : Nat := le ((b.drop p).take n)

theorem le_snoc (l : List UInt8) (c : UInt8) : le (l ++ [c]) = le l + 256 ^ l.length * c.toNat := by
  induction l with
  | nil => simp [le]
  | cons a r ih =>
    simp only [List.cons_append, le, ih, List.length_cons, Nat.pow_succ, Nat.mul_add]
    rw [Nat.add_assoc, ← Nat.mul_assoc, Nat.mul_comm 256 (256 ^ r.length)]
theorem le_lt (l : List UInt8) : le l < 256 ^ l.length := by
  induction l with
  | nil => simp [le]
  | cons a r ih =>
    have := a.toNat_lt
    simp only [le, List.length_cons, Nat.pow_succ]
    omega
theorem num_zero (b : List UInt8) (p : Nat) : num b p 0 = 0 := by simp [num, le]
theorem num_succ (b : List UInt8) (p n : Nat) (c : UInt8) (h : b[p + n]? = some c) : num b p (n + 1) = num b p n + 256 ^ n * c.toNat := by
  unfold num
  have hl : p + n < b.length := by
    rcases Nat.lt_or_ge (p + n) b.length with h1 | h1
    · exact h1
    · rw [List.getElem?_eq_none h1] at h; cases h
  rw [List.take_add_one, List.getElem?_drop, h]
  simp only [Option.toList_some]
  rw [le_snoc, List.length_take, List.length_drop, Nat.min_eq_left (by omega)]
theorem num_lt (b : List UInt8) (p n : Nat) : num b p n < 256 ^ n := by
  unfold num
  refine Nat.lt_of_lt_of_le (le_lt _) (Nat.pow_le_pow_right (by omega) (List.length_take_le _ _))
theorem or_step (x c i : Nat) (h : x < 256 ^ i) : x ||| (c * 2 ^ (8 * i)) = x + 256 ^ i * c := by
  have e : 2 ^ (8 * i) = 256 ^ i := by rw [Nat.pow_mul]
  rw [Nat.or_comm, e, nat_join (8 * i) (c * 256 ^ i) x (by rw [e]; exact Nat.mul_mod_left _ _) (by rw [e]; exact h)]
  rw [Nat.mul_comm, Nat.add_comm]

def memB (v : Int) (xs : List Int) : Bool := decide (v ∈ xs)
def sizedB (n : Int) : Bool := memB n [1, 2, 4, 8]
theorem sizedB_yes {n : Int} (h : n = 1 ∨ n = 2 ∨ n = 4 ∨ n = 8) : sizedB n = true := by simpa [sizedB, memB] using h

theorem or_val (N x k : Nat) (h : N < 256 ^ k) (hx : x < 256) (hk : k < 8) :
    bits .or .u64 (N : Int) (IntKind.u64.wrap (IntKind.u64.wrap (x : Int) * 2 ^ (8 * k))) = ((N + 256 ^ k * x : Nat) : Int) := by
  have e1 : IntKind.u64.wrap (x : Int) = (x : Int) := by rw [IntKind.wrap_u64]; omega
  have hle : 2 ^ (8 * k) ≤ 2 ^ 56 := Nat.pow_le_pow_right (by omega) (by omega)
  have hp : x * 2 ^ (8 * k) < 18446744073709551616 := by
    have h1 : x * 2 ^ (8 * k) ≤ 255 * 2 ^ 56 := Nat.mul_le_mul (by omega) hle
    omega
  have e2 : ((x : Int) * 2 ^ (8 * k)) = ((x * 2 ^ (8 * k) : Nat) : Int) := by push_cast; rfl
  have e3 : IntKind.u64.wrap ((x * 2 ^ (8 * k) : Nat) : Int) = ((x * 2 ^ (8 * k) : Nat) : Int) := by rw [IntKind.wrap_u64]; omega
  have hN : N < 18446744073709551616 := by
    have h1 : (256 : Nat) ^ k ≤ 256 ^ 8 := Nat.pow_le_pow_right (by omega) (by omega)
    omega
  rw [e1, e2, e3, u64_or_nat _ _ hN hp, or_step N x k h]

end Go.Proofs.Ytmoenjmhogmcoaa.Wd
namespace Go.Proofs.Ytmoenjmhogmcoaa
set_option linter.unusedVariables false
set_option linter.unusedSimpArgs false
open Go.RowKit

theorem add_yes (a b : Int) (w : World) (h0 : 0 ≤ a) (h2 : 0 ≤ b) (h : a + b ≤ 18446744073709551615) :
    Calls Try.prog 29 #[.int .u64 a, .int .u64 b] w fun e w' => e = .returned (.tuple #[.int .u64 (a + b), .bool true]) ∧ w = w' := by
  obtain ⟨c, hc, hcb⟩ : ∃ c, bits .xor .u64 IntKind.u64.max b = c ∧ c = 18446744073709551615 - b := ⟨_, rfl, Wd.xor_top b h2 (by omega)⟩
  have hc2 : ¬ c < a := by omega
  have hs : IntKind.u64.signed = false := rfl
  clear hcb
  go_enter Try.func29, Try.ntmps29
  go_wp2
  go_ret2
  exact ⟨rfl, rfl⟩
theorem add_no (a b : Int) (w : World) (h1 : a ≤ 18446744073709551615) (h2 : 0 ≤ b) (h3 : b ≤ 18446744073709551615) (h : 18446744073709551615 < a + b) :
    Calls Try.prog 29 #[.int .u64 a, .int .u64 b] w fun e w' => e = .returned (.tuple #[.int .u64 0, .bool false]) ∧ w = w' := by
  obtain ⟨c, hc, hcb⟩ : ∃ c, bits .xor .u64 IntKind.u64.max b = c ∧ c = 18446744073709551615 - b := ⟨_, rfl, Wd.xor_top b h2 (by omega)⟩
  have hc2 : c < a := by omega
  have hs : IntKind.u64.signed = false := rfl
  clear hcb
  go_enter Try.func29, Try.ntmps29
  go_wp2
  go_ret2
  exact ⟨rfl, rfl⟩

theorem inside_any (a b c : Int) (w : World) (h0 : 0 ≤ a) (h1 : a ≤ 18446744073709551615) (h2 : 0 ≤ b) (h3 : b ≤ 18446744073709551615) (h5 : c ≤ 18446744073709551615) :
    Calls Try.prog 54 #[.int .u64 a, .int .u64 b, .int .u64 c] w fun e w' => e = .returned (.bool (decide (a + b ≤ c))) ∧ w = w' := by
  by_cases h : a + b ≤ 18446744073709551615
  · go_enter Try.func54, Try.ntmps54
    go_wp2_with (go_at_call 29; refine (add_yes _ _ _ h0 h2 h).mono ?_; rintro e w' ⟨rfl, rfl⟩)
    go_ret
    exact ⟨rfl, rfl⟩
  · have h' : 18446744073709551615 < a + b := by omega
    have hr : decide (a + b ≤ c) = false := decide_eq_false (by omega)
    rw [hr]
    clear hr
    go_enter Try.func54, Try.ntmps54
    go_wp2_with (go_at_call 29; refine (add_no _ _ _ h1 h2 h3 h').mono ?_; rintro e w' ⟨rfl, rfl⟩)
    go_ret
    exact ⟨rfl, rfl⟩

def IdxInt (xs : List Int) (v : Int) (w : World) (e : Ending) (w' : World) : Prop := ∃ r : Int, e = .returned (.int .i64 r) ∧ (0 ≤ r ↔ v ∈ xs) ∧ w = w'
theorem indexInt_any (A : Option Addr) (n c B : Nat) (xs : List Int) (v : Int) (w : World) (hx : Rd w B 1 A n (xs.map (Value.int .i64))) (hn : n ≤ maxLen) :
    Calls Try.prog 69 #[.slice A n c, .int .i64 v] w (IdxInt xs v w) := by
  have hxl : xs.length = n := by simpa using hx.len1
  unfold maxLen at hn
  have Hx := hide hx
  have Hxl := hide hxl
  clear hx hxl
  go_enter Try.func69, Try.ntmps69
  go_wp2
  go_loop [8] (fun i => ∃ k : Nat, k ≤ n ∧ i = .int .i64 k ∧ v ∉ xs.take k) (fun i => n - (intOf i).toNat)
  case atStart => exact ⟨0, Nat.zero_le _, rfl, by simp⟩
  case round =>
    obtain ⟨k, hk, rfl, hv⟩ := hrel
    have Hv := hide hv
    clear hv
    by_cases hlt : k < n
    · obtain ⟨x, hxk⟩ : ∃ x, xs[k]? = some x := ⟨_, List.getElem?_eq_getElem (by rw [unhide Hxl]; exact hlt)⟩
      obtain ⟨b1, o1, rfl, _, c1⟩ := (unhide Hx).at_ (k := k) (u := .int .i64 x) (by simp [hxk])
      by_cases he : v = x
      · have hb : (v == x) = true := by simpa using he
        have hm : v ∈ xs := by rw [he]; exact List.mem_of_getElem? hxk
        have Hm := hide hm
        clear he hxk hm
        go_wp2
        go_ret
        exact ⟨k, rfl, ⟨fun _ => unhide Hm, fun _ => by omega⟩, rfl⟩
      · have hb : (v == x) = false := by simpa using he
        have hm : v ∉ xs.take (k + 1) := by
          rw [List.take_add_one, hxk, List.mem_append]
          simp [he, unhide Hv]
        have Hm := hide hm
        clear he hxk hm
        go_wp2
        go_round
        case rel => exact ⟨k + 1, by omega, by go_num, unhide Hm⟩
        case measure => simp [intOf]; omega
    · have hm : v ∉ xs := by
        have := unhide Hv
        rwa [List.take_of_length_le (by have := unhide Hxl; omega)] at this
      have Hm := hide hm
      clear hm
      go_wp2
      go_ret
      exact ⟨-1, rfl, ⟨fun h => by omega, fun h => absurd h (unhide Hm)⟩, rfl⟩

theorem containsInt_any (A : Option Addr) (n c B : Nat) (xs : List Int) (v : Int) (w : World) (hx : Rd w B 1 A n (xs.map (Value.int .i64))) (hn : n ≤ maxLen) :
    Calls Try.prog 64 #[.slice A n c, .int .i64 v] w fun e w' => e = .returned (.bool (Wd.memB v xs)) ∧ w = w' := by
  have Hx := hide hx
  clear hx
  go_enter Try.func64, Try.ntmps64
  go_wp2_with (go_at_call 69; refine (indexInt_any _ _ _ _ _ _ _ (unhide Hx) hn).mono ?_; rintro e w1 ⟨r, rfl, hr, rfl⟩; have Hr := hide hr; clear hr)
  go_ret
  refine ⟨ret_bool ?_, rfl⟩
  unfold Wd.memB
  rw [Bool.eq_iff_iff, decide_eq_true_eq, decide_eq_true_eq]
  exact unhide Hr

theorem sized_any (n : Int) (w : World) :
    Calls Try.prog 53 #[.int .i64 n] w fun e w' => e = .returned (.bool (Wd.sizedB n)) ∧ Below w.heap.size w w' := by
  have hr := Rd.row (w := w) (cs := #[.int .i64 1, .int .i64 2, .int .i64 4, .int .i64 8]) (e := 93) (size := 4) rfl
  have hr2 : Rd (w.alloc (.cells #[.int .i64 1, .int .i64 2, .int .i64 4, .int .i64 8] 93)) (w.heap.size + 1) 1 (some ⟨w.heap.size, 0, none⟩) 4 (([1, 2, 4, 8] : List Int).map (Value.int .i64)) := ⟨rfl, hr.2⟩
  have Hr := hide hr2
  clear hr hr2
  go_enter Try.func53, Try.ntmps53
  go_wp2_with (go_at_call 64; refine (containsInt_any _ _ _ _ _ _ _ (unhide Hr) (by unfold maxLen; omega)).mono ?_; rintro e w1 ⟨rfl, rfl⟩)
  go_ret
  exact ⟨rfl, (Below.refl _ _).alloc (Nat.le_refl _) _⟩

/-- check, where so many bytes are there. -/
theorem check_yes (A : Option Addr) (m c : Nat) (p s : Int) (w : World) (hm : m ≤ maxLen) (hs : s = 1 ∨ s = 2 ∨ s = 4 ∨ s = 8) (h0 : 0 ≤ p) (hp : p ≤ 18446744073709551615) (hin : p + s ≤ m) :
    Calls Try.prog 45 #[.slice A m c, .int .u64 p, .int .i64 s] w fun e w' => e = .returned (.int .i64 0) ∧ Below w.heap.size w w' := by
  unfold maxLen at hm
  have hd : Wd.sizedB s = true := Wd.sizedB_yes hs
  have hd2 : decide (p + s ≤ (m : Int)) = true := by simpa using hin
  have hs1 : 1 ≤ s := by omega
  have hs8 : s ≤ 8 := by omega
  clear hs
  go_enter Try.func45, Try.ntmps45
  go_wp2_with (first
    | (go_at_call 53; refine (sized_any _ _).mono ?_; rintro e w1 ⟨rfl, hb1⟩)
    | (go_at_call 54; refine (inside_any _ _ _ _ h0 hp (by omega) (by omega) (by omega)).mono ?_; rintro e w2 ⟨rfl, rfl⟩))
  go_ret
  exact ⟨rfl, hb1⟩
/-- check, where they are not. -/
theorem check_no (A : Option Addr) (m c : Nat) (p s : Int) (w : World) (hm : m ≤ maxLen) (hs : s = 1 ∨ s = 2 ∨ s = 4 ∨ s = 8) (h0 : 0 ≤ p) (hp : p ≤ 18446744073709551615) (hin : m < p + s) :
    Calls Try.prog 45 #[.slice A m c, .int .u64 p, .int .i64 s] w fun e w' => e = .returned (.int .i64 24) ∧ Below w.heap.size w w' := by
  unfold maxLen at hm
  have hd : Wd.sizedB s = true := Wd.sizedB_yes hs
  have hd2 : decide (p + s ≤ (m : Int)) = false := by simpa using hin
  have hs1 : 1 ≤ s := by omega
  have hs8 : s ≤ 8 := by omega
  clear hs
  go_enter Try.func45, Try.ntmps45
  go_wp2_with (first
    | (go_at_call 53; refine (sized_any _ _).mono ?_; rintro e w1 ⟨rfl, hb1⟩)
    | (go_at_call 54; refine (inside_any _ _ _ _ h0 hp (by omega) (by omega) (by omega)).mono ?_; rintro e w2 ⟨rfl, rfl⟩))
  go_ret
  exact ⟨rfl, hb1⟩

set_option maxHeartbeats 800000 in
theorem get_loop (A : Option Addr) (m c : Nat) (B : Nat) (b : List UInt8) (p s : Nat) (w : World) (hB : B ≤ w.heap.size) (hb : Rd w B 1 A m (b.map fun c => .int .u8 c.toNat)) (hm : m ≤ maxLen) (hs : s = 1 ∨ s = 2 ∨ s = 4 ∨ s = 8) (hin : p + s ≤ m)
    (hck : ∀ w, Calls Try.prog 45 #[.slice A m c, .int .u64 p, .int .i64 s] w fun e w' => e = .returned (.int .i64 0) ∧ Below w.heap.size w w') :
    Calls Try.prog 49 #[.slice A m c, .int .u64 p, .int .i64 s] w fun e w' => e = .returned (.tuple #[.int .u64 (Wd.num b p s), .int .i64 0]) ∧ Below w.heap.size w w' := by
  have hs8 : s ≤ 8 := by omega
  have hbl : b.length = m := by simpa using hb.len1
  unfold maxLen at hm
  have Hb := hide hb
  have Hck := hide hck
  have Hbl := hide hbl
  clear hb hck hs hbl
  go_enter Try.func49, Try.ntmps49
  go_wp2_with (go_at_call 45; refine ((unhide Hck) _).mono ?_; rintro e w1 ⟨rfl, hb1⟩)
  go_loop [6, 18] (fun x i => ∃ k : Nat, k ≤ s ∧ i = .int .i64 k ∧ x = .int .u64 (Wd.num b p k)) (fun _ i => s - (intOf i).toNat)
  case atStart => exact ⟨0, Nat.zero_le _, rfl, by rw [Wd.num_zero]; rfl⟩
  case round =>
    obtain ⟨k, hk, rfl, rfl⟩ := hrel
    by_cases hlt : k < s
    · obtain ⟨x, hx⟩ : ∃ x, b[p + k]? = some x := ⟨_, List.getElem?_eq_getElem (by rw [unhide Hbl]; omega)⟩
      obtain ⟨b1, o1, rfl, _, c1⟩ := ((unhide Hb).below (hb1.mono hB)).at_ (k := p + k) (u := .int .u8 x.toNat) (by simp [hx])
      have hst := Wd.num_succ b p k x hx
      have hlt2 := Wd.num_lt b p s
      have Hst := hide hst
      have hval := Wd.or_val (Wd.num b p k) x.toNat k (Wd.num_lt b p k) x.toNat_lt (by omega)
      rw [← hst] at hval
      have Hval := hide hval
      clear hst hx hlt2 hval
      go_wp2
      go_round
      case rel => exact ⟨k + 1, by omega, by go_num, by rw [unhide Hval]⟩
      case measure => simp [intOf]; omega
    · obtain rfl : k = s := by omega
      go_wp2
      go_ret2
      exact ⟨rfl, hb1⟩

theorem get_yes (A : Option Addr) (m c : Nat) (B : Nat) (b : List UInt8) (p s : Nat) (w : World) (hB : B ≤ w.heap.size) (hb : Rd w B 1 A m (b.map fun c => .int .u8 c.toNat)) (hm : m ≤ maxLen) (hs : s = 1 ∨ s = 2 ∨ s = 4 ∨ s = 8) (hin : p + s ≤ m) :
    Calls Try.prog 49 #[.slice A m c, .int .u64 p, .int .i64 s] w fun e w' => e = .returned (.tuple #[.int .u64 (Wd.num b p s), .int .i64 0]) ∧ Below w.heap.size w w' :=
  get_loop A m c B b p s w hB hb hm hs hin fun w => check_yes A m c p s w hm (by omega) (by omega) (by unfold maxLen at hm; omega) (by omega)

theorem get_no (A : Option Addr) (m c : Nat) (p s : Int) (w : World) (hm : m ≤ maxLen) (hs : s = 1 ∨ s = 2 ∨ s = 4 ∨ s = 8) (h0 : 0 ≤ p) (hp : p ≤ 18446744073709551615) (hin : m < p + s) :
    Calls Try.prog 49 #[.slice A m c, .int .u64 p, .int .i64 s] w fun e w' => e = .returned (.tuple #[.int .u64 0, .int .i64 24]) ∧ Below w.heap.size w w' := by
  go_enter Try.func49, Try.ntmps49
  go_wp2_with (go_at_call 45; refine (check_no A m c p s _ hm hs h0 hp hin).mono ?_; rintro e w1 ⟨rfl, hb1⟩)
  go_ret2
  exact ⟨rfl, hb1⟩

end Go.Proofs.Ytmoenjmhogmcoaa
namespace Go.Proofs.Ytmoenjmhogmcoaa.Pth
set_option linter.unusedVariables false
set_option linter.unusedSimpArgs false

/-- The texts between slashes: of the text s, r being what is left of it at place i, the running piece begun at f. -/
def pcsL (s : ByteArray) : List UInt8 → Nat → Nat → List ByteArray
  | [], i, f => [s.extract f i]
  | c :: r, i, f => if c = 47 then s.extract f i :: pcsL s r (i + 1) (i + 1) else pcsL s r (i + 1) f

def pcs (s : ByteArray) : List ByteArray := pcsL s s.data.toList 0 0
/-- what is still to come at place i, the running piece begun at f. -/
def pcsAt (s : ByteArray) (i f : Nat) : List ByteArray := pcsL s (s.data.toList.drop i) i f

theorem drop_cons (s : ByteArray) (i : Nat) (h : i < s.size) : s.data.toList.drop i = s[i] :: s.data.toList.drop (i + 1) := by
  have h' : i < s.data.toList.length := by simpa using h
  rw [List.drop_eq_getElem_cons h']
  rfl

theorem pcsAt_end (s : ByteArray) (f : Nat) : pcsAt s s.size f = [s.extract f s.size] := by
  unfold pcsAt
  rw [List.drop_of_length_le (by simp)]
  rfl
theorem pcsAt_slash (s : ByteArray) (i f : Nat) (h : i < s.size) (hc : s[i] = 47) : pcsAt s i f = s.extract f i :: pcsAt s (i + 1) (i + 1) := by
  unfold pcsAt
  rw [drop_cons s i h]
  simp [pcsL, hc]
theorem pcsAt_skip (s : ByteArray) (i f : Nat) (h : i < s.size) (hc : s[i] ≠ 47) : pcsAt s i f = pcsAt s (i + 1) f := by
  unfold pcsAt
  rw [drop_cons s i h]
  simp [pcsL, hc]
theorem pcsAt_skips (s : ByteArray) (f : Nat) (d : Nat) : ∀ i, (∀ j, i ≤ j → j < i + d → ∃ h : j < s.size, s[j] ≠ 47) → pcsAt s i f = pcsAt s (i + d) f := by
  induction d with
  | zero => intro i _; rfl
  | succ d ih =>
    intro i h
    obtain ⟨hi, hc⟩ := h i (Nat.le_refl _) (by omega)
    rw [pcsAt_skip s i f hi hc, ih (i + 1) (fun j h1 h2 => h j (by omega) (by omega))]
    congr 1
    omega

theorem get_at (s : ByteArray) (pos k : Nat) (h : pos + k < s.size) : s.get! (pos + k) = s[pos + k]'h := by
  simp [ByteArray.get!, getElem!_pos, h]
  rfl

theorem high_ne (c : UInt8) (h : c.toNat / 64 = 2) : c ≠ 47 := by
  intro e
  subst e
  simp at h

/-- What a rune of a text covers: at least a byte, no more than there is; it is a slash just if its first byte is one, and no later byte of it is a slash. -/
theorem decode_cover (s : ByteArray) (pos : Nat) (h : pos < s.size) :
    1 ≤ (Utf8.decode s pos).2 ∧ pos + (Utf8.decode s pos).2 ≤ s.size ∧ ((Utf8.decode s pos).1 = 47 ↔ s[pos] = 47) ∧ (s[pos] = 47 → (Utf8.decode s pos).2 = 1) ∧
    (s[pos] ≠ 47 → ∀ j, pos ≤ j → j < pos + (Utf8.decode s pos).2 → ∃ hj : j < s.size, s[j] ≠ 47) := by
  have e0 : s.get! (pos + 0) = s[pos] := get_at s pos 0 (by simpa using h)
  have eq47 : s[pos] = 47 ↔ s[pos].toNat = 47 := by
    constructor
    · intro e; rw [e]; rfl
    · intro e; exact UInt8.toNat_inj.1 (by rw [e]; rfl)
  by_cases ha : s[pos].toNat < 128
  · have hd : Utf8.decode s pos = (s[pos].toNat, 1) := decode_ascii s pos h ha
    rw [hd]
    refine ⟨Nat.le_refl _, by simp only; omega, by simp only [eq47], fun _ => rfl, fun hn j h1 h2 => ?_⟩
    obtain rfl : j = pos := by simp only at h2; omega
    exact ⟨h, hn⟩
  · have hn47 : s[pos] ≠ 47 := by rw [ne_eq, eq47]; omega
    have key : ∃ c d, Utf8.decode s pos = (c, d) ∧ 1 ≤ d ∧ pos + d ≤ s.size ∧ c ≠ 47 ∧ ∀ k, 1 ≤ k → k < d → pos + k < s.size ∧ (s.get! (pos + k)).toNat / 64 = 2 := by
      simp only [Utf8.decode, e0, ha, if_false]
      repeat' split
      all_goals (refine ⟨_, _, rfl, by omega, ?_, ?_, ?_⟩)
      all_goals simp only [Bool.and_eq_true, decide_eq_true_eq, beq_iff_eq] at *
      all_goals first
        | omega
        | (simp [Utf8.runeError]; done)
        | (intro k h1 h2; omega)
        | (intro k h1 h2
           have hk : k = 1 ∨ k = 2 ∨ k = 3 := by omega
           rcases hk with rfl | rfl | rfl <;> first | (exfalso; omega) | (refine ⟨?_, ?_⟩ <;> omega))
    obtain ⟨c, d, hd, h1, h2, h3, h4⟩ := key
    rw [hd]
    refine ⟨h1, h2, by simp [h3, hn47], fun e => absurd e hn47, fun _ j hj1 hj2 => ?_⟩
    rcases Nat.eq_or_lt_of_le hj1 with rfl | hlt
    · exact ⟨h, hn47⟩
    · obtain ⟨k, rfl⟩ : ∃ k, j = pos + k := ⟨j - pos, by omega⟩
      obtain ⟨hs, hh⟩ := h4 k (by omega) (by simpa using hj2)
      refine ⟨hs, ?_⟩
      rw [get_at s pos k hs] at hh
      exact high_ne _ hh

/-- A yield that may end it: what becomes of the state over a list of pieces. -/
def goF {S : Type} (step : S → ByteArray → S × Bool) : S → List ByteArray → S
  | s, [] => s
  | s, x :: r => if (step s x).2 then goF step (step s x).1 r else (step s x).1

/-- Check's answer. -/
def tooLong (x : ByteArray) : Bool := decide (32 < x.size)
def chk (p : ByteArray) : Int :=
  if p.size = 0 then 3 else if p.data.toList.contains 0 then 1 else if 200 < p.size then 11 else if (pcs p).any tooLong then 11 else 0
def checkStep (e : Int) (x : ByteArray) : Int × Bool := if 32 < x.size then (11, false) else (e, e == 0)
theorem goF_check (l : List ByteArray) : goF checkStep 0 l = if l.any tooLong then 11 else 0 := by
  induction l with
  | nil => rfl
  | cons x r ih =>
    by_cases h : 32 < x.size
    · simp [goF, checkStep, h, tooLong]
    · simp [goF, checkStep, h, tooLong, ih]

/-- The parts: all pieces that are no empty text and no point. -/
def isPart (x : ByteArray) : Bool := !(x.data.toList == []) && !(x.data.toList == [46])
def parts (p : ByteArray) : List ByteArray := (pcs p).filter isPart
def partsStep (l : List ByteArray) (x : ByteArray) : List ByteArray × Bool := (if isPart x then l ++ [x] else l, true)
theorem goF_parts (l : List ByteArray) : ∀ acc, goF partsStep acc l = acc ++ l.filter isPart := by
  induction l with
  | nil => intro acc; simp [goF]
  | cons x r ih =>
    intro acc
    by_cases h : isPart x
    · simp [goF, partsStep, h, ih]
    · simp [goF, partsStep, h, ih]

/-- What Parts answers: the list, and whether it begins at the root; nothing beside an error. -/
def partsL (p : ByteArray) : List ByteArray := if chk p = 0 then parts p else []
def rootB (p : ByteArray) : Bool := decide (chk p = 0) && Lib.hasPrefix p.data.toList [47]
theorem chk_size (p : ByteArray) (h : chk p = 0) : p.size ≤ 200 := by
  unfold chk at h
  repeat' split at h
  all_goals first | omega | (cases h)

/-! ### Join, Base, Dir, Tail -/
def headB (p : ByteArray) : Bool := Lib.hasPrefix p.data.toList [47]
def tailB (p : ByteArray) : Bool := Lib.hasSuffix p.data.toList [47]
def slash : ByteArray := ⟨#[47]⟩
def joinB (d p : ByteArray) : ByteArray := if d.size = 0 ∨ headB p = true then p else if tailB d = true then d ++ p else d ++ slash ++ p
def lastB (p : ByteArray) : Int := Lib.lastIndexByte p 47
def baseB (p : ByteArray) : ByteArray := p.extract (lastB p + 1).toNat p.size
def dirB (p : ByteArray) : ByteArray := if lastB p = -1 then ⟨#[46]⟩ else if lastB p = 0 then ⟨#[47]⟩ else p.extract 0 (lastB p).toNat

theorem lastB_bd (p : ByteArray) : -1 ≤ lastB p ∧ lastB p + 1 ≤ p.size := by
  unfold lastB
  rcases Lib.lastIndexByte_spec p 47 with ⟨h, _⟩ | ⟨i, hi, h, _⟩
  · rw [h]; omega
  · rw [h]; omega
theorem data_get (s : ByteArray) (i : Nat) (h : i < s.size) : s.data[i]! = s[i] := by
  have h' : i < s.data.size := h
  rw [getElem!_pos s.data i h']
  rfl
theorem lastIdx_step (p : ByteArray) (i : Nat) (h : i < p.size) : Lib.lastIdx p 47 (i + 1) = if ((p[i].toNat : Nat) : Int) = 47 then (i : Int) else Lib.lastIdx p 47 i := by
  have e := data_get p i h
  simp only [Lib.lastIdx, e]
theorem headB_iff (p : ByteArray) : headB p = decide (∃ h : 0 < p.size, p[0] = 47) := by
  rw [Bool.eq_iff_iff, decide_eq_true_eq]
  unfold headB Lib.hasPrefix
  obtain ⟨⟨l⟩⟩ := p
  cases l with
  | nil =>
    constructor
    · intro h; cases h
    · rintro ⟨h, _⟩; cases h
  | cons a r =>
    show ([47].isPrefixOf (a :: r)) = true ↔ _
    simp only [List.isPrefixOf, Bool.and_true, beq_iff_eq]
    exact ⟨fun h => ⟨Nat.succ_pos _, h.symm⟩, fun h => h.2.symm⟩
theorem tailB_iff (p : ByteArray) (h : 0 < p.size) : tailB p = decide (p[p.size - 1]'(by omega) = 47) := by
  rw [Bool.eq_iff_iff, decide_eq_true_eq]
  unfold tailB Lib.hasSuffix
  obtain ⟨⟨l⟩⟩ := p
  have hne : l ≠ [] := by rintro rfl; cases h
  rw [List.isSuffixOf_iff_suffix]
  have e : (ByteArray.mk ⟨l⟩)[(ByteArray.mk ⟨l⟩).size - 1]'(by omega) = l.getLast hne := by
    rw [List.getLast_eq_getElem]
    rfl
  rw [e]
  constructor
  · rintro ⟨t, ht⟩
    have h2 : l = t ++ [47] := ht.symm
    subst h2
    exact List.getLast_concat
  · intro h47
    refine ⟨l.dropLast, ?_⟩
    rw [← h47]
    exact List.dropLast_concat_getLast hne
theorem tailB_empty (p : ByteArray) (h : p.size = 0) : tailB p = false := by
  obtain ⟨⟨l⟩⟩ := p
  have : l = [] := List.eq_nil_of_length_eq_zero h
  subst this
  rfl

end Go.Proofs.Ytmoenjmhogmcoaa.Pth
namespace Go.Proofs.Ytmoenjmhogmcoaa.Cl
set_option linter.unusedVariables false
set_option linter.unusedSimpArgs false
open Go.Proofs.Ytmoenjmhogmcoaa

structure C where
  kind : Nat
  a : Nat
  b : Nat
  c : Nat
  d : Nat
  e : Nat
  path : ByteArray
  argv : List ByteArray
  env : List ByteArray
  bytes : List UInt8

/-- The fields of a kind, by their numbers. -/
def fsN : Nat → List Nat
  | 1 => [5, 6, 7]
  | 3 => [0]
  | 5 => [0, 1, 2, 3, 4]
  | 6 => [0, 1]
  | 7 => [0, 1, 2]
  | 8 => [0, 1]
  | 9 => [0, 8]
  | 10 => [5, 0]
  | 11 => [0]
  | 12 => [0, 1]
  | _ => []
def num (c : C) : Nat → Nat
  | 0 => c.a
  | 1 => c.b
  | 2 => c.c
  | 3 => c.d
  | _ => c.e
/-- is nothing said by a field? -/
def emptyB (c : C) : Nat → Bool
  | 5 => decide (c.path.size = 0)
  | 6 => decide (c.argv.length = 0)
  | 7 => decide (c.env.length = 0)
  | 8 => decide (c.bytes.length = 0)
  | f => num c f == 0
def fieldB (c : C) (f : Nat) : Bool := (fsN c.kind).contains f || emptyB c f
def onlyB (c : C) : Bool := (List.range 9).all (fieldB c)
def bigT (s : ByteArray) : Bool := decide (256 < s.size)
def zeroT (s : ByteArray) : Bool := s.data.toList.contains 0
def envCk (l : List ByteArray) : Int := if 32 < l.length then 12 else if l.any bigT then 12 else if l.any zeroT then 1 else 0
def fst2 (a b : Int) : Int := if a = 0 then b else a
def check (c : C) : Int :=
  if c.kind = 0 ∨ 12 < c.kind then 23 else if onlyB c = false then 1
  else if c.kind = 1 then fst2 (Pth.chk c.path) (fst2 (envCk c.argv) (envCk c.env))
  else if c.kind = 8 ∨ c.kind = 12 then (if 4096 < c.b then 12 else 0)
  else if c.kind = 9 then (if 4096 < c.bytes.length then 12 else 0)
  else if c.kind = 10 then fst2 (Pth.chk c.path) (if 1 < c.a then 1 else 0)
  else 0

end Go.Proofs.Ytmoenjmhogmcoaa.Cl
namespace Go.Proofs.Ytmoenjmhogmcoaa.Cl
set_option linter.unusedVariables false
set_option linter.unusedSimpArgs false
open Go.Proofs.Ytmoenjmhogmcoaa

/-- n bytes of a number, the lowest first. -/
def lb : Nat → Nat → List UInt8
  | _, 0 => []
  | x, n + 1 => UInt8.ofNat (x % 256) :: lb (x / 256) n
theorem lb_len (n x : Nat) : (lb x n).length = n := by
  induction n generalizing x with
  | zero => rfl
  | succ n ih => simp [lb, ih]
theorem le_lb (n x : Nat) (h : x < 256 ^ n) : Wd.le (lb x n) = x := by
  induction n generalizing x with
  | zero => simp at h; subst h; rfl
  | succ n ih =>
    rw [Nat.pow_succ] at h
    simp only [lb, Wd.le]
    rw [ih (x / 256) (by omega)]
    have e : (UInt8.ofNat (x % 256)).toNat = x % 256 := by simp
    omega
theorem lb_le (l : List UInt8) : lb (Wd.le l) l.length = l := by
  induction l with
  | nil => rfl
  | cons c r ih =>
    have h := c.toNat_lt
    have e1 : (c.toNat + 256 * Wd.le r) % 256 = c.toNat := by omega
    have e2 : (c.toNat + 256 * Wd.le r) / 256 = Wd.le r := by omega
    simp only [Wd.le, List.length_cons, lb]
    rw [e1, e2, ih]
    simp

def bl (s : ByteArray) : List UInt8 := s.data.toList
def ba (l : List UInt8) : ByteArray := ⟨l.toArray⟩
theorem bl_ba (l : List UInt8) : bl (ba l) = l := rfl
theorem ba_bl (s : ByteArray) : ba (bl s) = s := by cases s; simp [ba, bl]
theorem bl_len (s : ByteArray) : (bl s).length = s.size := rfl
theorem ba_size (l : List UInt8) : (ba l).size = l.length := by show l.toArray.size = l.length; simp
/-- A text with its length ahead. -/
def txt (s : List UInt8) : List UInt8 := lb s.length 2 ++ s
def txts : List ByteArray → List UInt8
  | [] => []
  | s :: r => txt (bl s) ++ txts r
def lst (l : List ByteArray) : List UInt8 := lb l.length 1 ++ txts l
theorem txts_app (a b : List ByteArray) : txts (a ++ b) = txts a ++ txts b := by
  induction a with
  | nil => rfl
  | cons s r ih => simp [txts, ih]
def fld (q : C) : Nat → List UInt8
  | 5 => txt (bl q.path)
  | 6 => lst q.argv
  | 7 => lst q.env
  | 8 => txt q.bytes
  | f => lb (num q f) 8
def flds (q : C) : List Nat → List UInt8
  | [] => []
  | f :: r => fld q f ++ flds q r
theorem flds_app (q : C) (a b : List Nat) : flds q (a ++ b) = flds q a ++ flds q b := by
  induction a with
  | nil => rfl
  | cons s r ih => simp [flds, ih]
def form (q : C) : List UInt8 := UInt8.ofNat q.kind :: flds q (fsN q.kind)

/-- A reader: what is left, and whether some was lacking. -/
structure R where
  b : List UInt8
  gone : Bool
def take (r : R) (n : Nat) : List UInt8 × R := if r.gone = true ∨ r.b.length < n then ([], ⟨r.b, true⟩) else (r.b.take n, ⟨r.b.drop n, false⟩)
def rnum (r : R) (s : Nat) : Nat × R := (Wd.le (take r s).1, (take r s).2)
def rtxt (r : R) : List UInt8 × R := take (rnum r 2).2 (rnum r 2).1
def rtxts : Nat → R → List ByteArray × R
  | 0, r => ([], r)
  | n + 1, r => if r.gone = true then ([], r) else (ba (rtxt r).1 :: (rtxts n (rtxt r).2).1, (rtxts n (rtxt r).2).2)
def rlst (r : R) : List ByteArray × R := rtxts (rnum r 1).1 (rnum r 1).2
def rfld (s : C × R) : Nat → C × R
  | 5 => ({ s.1 with path := ba (rtxt s.2).1 }, (rtxt s.2).2)
  | 6 => ({ s.1 with argv := (rlst s.2).1 }, (rlst s.2).2)
  | 7 => ({ s.1 with env := (rlst s.2).1 }, (rlst s.2).2)
  | 8 => ({ s.1 with bytes := (rtxt s.2).1 }, (rtxt s.2).2)
  | 0 => ({ s.1 with a := (rnum s.2 8).1 }, (rnum s.2 8).2)
  | 1 => ({ s.1 with b := (rnum s.2 8).1 }, (rnum s.2 8).2)
  | 2 => ({ s.1 with c := (rnum s.2 8).1 }, (rnum s.2 8).2)
  | 3 => ({ s.1 with d := (rnum s.2 8).1 }, (rnum s.2 8).2)
  | _ => ({ s.1 with e := (rnum s.2 8).1 }, (rnum s.2 8).2)
def rflds : List Nat → C × R → C × R
  | [], s => s
  | f :: r, s => rflds r (rfld s f)
theorem rflds_app (a b : List Nat) (s : C × R) : rflds (a ++ b) s = rflds b (rflds a s) := by
  induction a generalizing s with
  | nil => rfl
  | cons f r ih => simp [rflds, ih]
def zeroC : C := ⟨0, 0, 0, 0, 0, 0, ba [], [], [], []⟩
def kindC (k : Nat) : C := ⟨k, 0, 0, 0, 0, 0, ba [], [], [], []⟩
def rall (k : Nat) (b : List UInt8) : C × R := rflds (fsN k) (kindC k, ⟨b, false⟩)
def read : List UInt8 → C × Nat × Int
  | [] => (zeroC, 0, 24)
  | k :: r => if k.toNat = 0 ∨ 12 < k.toNat then (zeroC, 0, 23)
      else if (rall k.toNat r).2.gone = true then (zeroC, 0, 24)
      else if check (rall k.toNat r).1 = 0 then ((rall k.toNat r).1, r.length + 1 - (rall k.toNat r).2.b.length, 0)
      else (zeroC, 0, check (rall k.toNat r).1)

/-- What was read: so many bytes ahead of what is left. -/
def Went (r r' : R) (x : List UInt8) : Prop := r.gone = false ∧ r'.gone = false ∧ r.b = x ++ r'.b
theorem Went.trans {a b c : R} {x y : List UInt8} (h : Went a b x) (k : Went b c y) : Went a c (x ++ y) :=
  ⟨h.1, k.2.1, by rw [h.2.2, k.2.2, List.append_assoc]⟩
theorem take_went {r : R} {n : Nat} (h : (take r n).2.gone = false) : Went r (take r n).2 (take r n).1 ∧ (take r n).1.length = n := by
  unfold take at h ⊢
  split at h
  · cases h
  · rename_i hn
    rw [if_neg hn]
    have h1 : r.gone = false := by
      cases hg : r.gone
      · rfl
      · exact absurd (.inl hg) hn
    have h2 : n ≤ r.b.length := by
      rcases Nat.lt_or_ge r.b.length n with h | h
      · exact absurd (.inr h) hn
      · exact h
    exact ⟨⟨h1, rfl, (List.take_append_drop n r.b).symm⟩, by simp; omega⟩
theorem rnum_went {r : R} {n : Nat} (h : (rnum r n).2.gone = false) : Went r (rnum r n).2 (lb (rnum r n).1 n) ∧ (rnum r n).1 < 256 ^ n := by
  obtain ⟨h1, h2⟩ := take_went h
  have e := lb_le (take r n).1
  have h3 := Wd.le_lt (take r n).1
  rw [h2] at e h3
  unfold rnum
  simp only
  rw [e]
  exact ⟨h1, h3⟩
theorem take_gone {r : R} {n : Nat} (h : r.gone = true) : take r n = ([], ⟨r.b, true⟩) := if_pos (.inl h)
theorem gone_back {r : R} {n : Nat} (h : (take r n).2.gone = false) : r.gone = false := (take_went h).1.1
theorem rtxt_went {r : R} (h : (rtxt r).2.gone = false) : Went r (rtxt r).2 (txt (rtxt r).1) ∧ (rtxt r).1.length < 65536 := by
  have h0 : (rnum r 2).2.gone = false := gone_back h
  obtain ⟨h1, h2⟩ := rnum_went h0
  obtain ⟨h3, h4⟩ := take_went h
  have h5 : (rtxt r).1.length = (rnum r 2).1 := h4
  unfold txt
  rw [h5]
  exact ⟨h1.trans h3, h2⟩
theorem rtxts_gone (n : Nat) {r : R} (h : r.gone = true) : (rtxts n r).2.gone = true := by
  cases n with
  | zero => exact h
  | succ n => unfold rtxts; rw [if_pos h]; exact h
theorem rtxts_went (n : Nat) {r : R} (h : (rtxts n r).2.gone = false) : r.gone = false ∧ Went r (rtxts n r).2 (txts (rtxts n r).1) ∧ (rtxts n r).1.length = n := by
  induction n generalizing r with
  | zero => exact ⟨h, ⟨h, h, rfl⟩, rfl⟩
  | succ n ih =>
    cases hg : r.gone
    · have e : rtxts (n + 1) r = (ba (rtxt r).1 :: (rtxts n (rtxt r).2).1, (rtxts n (rtxt r).2).2) := by
        conv => lhs; unfold rtxts
        rw [if_neg (by rw [hg]; simp)]
      rw [e] at h ⊢
      obtain ⟨h1, h2, h3⟩ := ih h
      obtain ⟨h4, _⟩ := rtxt_went h1
      refine ⟨rfl, h4.trans h2, by simp [h3]⟩
    · rw [rtxts_gone _ hg] at h
      cases h
theorem rlst_went {r : R} (h : (rlst r).2.gone = false) : Went r (rlst r).2 (lst (rlst r).1) ∧ (rlst r).1.length < 256 := by
  obtain ⟨h1, h2, h3⟩ := rtxts_went _ h
  obtain ⟨h4, h5⟩ := rnum_went h1
  have h6 : (rlst r).1.length = (rnum r 1).1 := h3
  unfold lst
  rw [h6]
  exact ⟨h4.trans h2, by omega⟩

/-- Reading goes on alike, whatever stands behind. -/
def more (t : List UInt8) (r : R) : R := ⟨r.b ++ t, r.gone⟩
theorem take_more (t : List UInt8) {r : R} {n : Nat} (h : (take r n).2.gone = false) : take (more t r) n = ((take r n).1, more t (take r n).2) := by
  obtain ⟨⟨h1, h2, h3⟩, h4⟩ := take_went h
  have hn : n ≤ r.b.length := by
    rw [h3, List.length_append]
    omega
  have e : take r n = (r.b.take n, ⟨r.b.drop n, false⟩) := if_neg (by rw [h1]; simp; omega)
  have e2 : take (more t r) n = ((r.b ++ t).take n, ⟨(r.b ++ t).drop n, false⟩) := if_neg (by unfold more; simp [h1]; omega)
  rw [e2, e]
  rw [List.take_append_of_le_length hn, List.drop_append_of_le_length hn]
  rfl
theorem rnum_more (t : List UInt8) {r : R} {n : Nat} (h : (rnum r n).2.gone = false) : rnum (more t r) n = ((rnum r n).1, more t (rnum r n).2) := by
  unfold rnum
  rw [take_more t h]
theorem rtxt_more (t : List UInt8) {r : R} (h : (rtxt r).2.gone = false) : rtxt (more t r) = ((rtxt r).1, more t (rtxt r).2) := by
  have h0 : (rnum r 2).2.gone = false := gone_back h
  unfold rtxt
  rw [rnum_more t h0]
  exact take_more t h
theorem rtxts_more (t : List UInt8) (n : Nat) {r : R} (h : (rtxts n r).2.gone = false) : rtxts n (more t r) = ((rtxts n r).1, more t (rtxts n r).2) := by
  induction n generalizing r with
  | zero => rfl
  | succ n ih =>
    have hg := (rtxts_went _ h).1
    have e : rtxts (n + 1) r = (ba (rtxt r).1 :: (rtxts n (rtxt r).2).1, (rtxts n (rtxt r).2).2) := by
      conv => lhs; unfold rtxts
      rw [if_neg (by rw [hg]; simp)]
    have e2 : rtxts (n + 1) (more t r) = (ba (rtxt (more t r)).1 :: (rtxts n (rtxt (more t r)).2).1, (rtxts n (rtxt (more t r)).2).2) := by
      conv => lhs; unfold rtxts
      rw [if_neg (by unfold more; rw [hg]; simp)]
    rw [e] at h ⊢
    rw [e2, rtxt_more t (rtxts_went _ h).1, ih h]
theorem rlst_more (t : List UInt8) {r : R} (h : (rlst r).2.gone = false) : rlst (more t r) = ((rlst r).1, more t (rlst r).2) := by
  have h0 : (rnum r 1).2.gone = false := (rtxts_went _ h).1
  unfold rlst
  rw [rnum_more t h0]
  exact rtxts_more t _ h

/-- one field -/
theorem rfld_back {s : C × R} {f : Nat} (h : (rfld s f).2.gone = false) : s.2.gone = false := by
  unfold rfld at h
  split at h
  · exact (rtxt_went h).1.1
  · exact (rlst_went h).1.1
  · exact (rlst_went h).1.1
  · exact (rtxt_went h).1.1
  · exact (rnum_went h).1.1
  · exact (rnum_went h).1.1
  · exact (rnum_went h).1.1
  · exact (rnum_went h).1.1
  · exact (rnum_went h).1.1
theorem rfld_went {s : C × R} {f : Nat} (hf : f < 9) (h : (rfld s f).2.gone = false) : Went s.2 (rfld s f).2 (fld (rfld s f).1 f) := by
  obtain rfl | rfl | rfl | rfl | rfl | rfl | rfl | rfl | rfl : f = 0 ∨ f = 1 ∨ f = 2 ∨ f = 3 ∨ f = 4 ∨ f = 5 ∨ f = 6 ∨ f = 7 ∨ f = 8 := by omega
  · exact (rnum_went h).1
  · exact (rnum_went h).1
  · exact (rnum_went h).1
  · exact (rnum_went h).1
  · exact (rnum_went h).1
  · exact (rtxt_went h).1
  · exact (rlst_went h).1
  · exact (rlst_went h).1
  · exact (rtxt_went h).1
theorem rfld_more (t : List UInt8) {s : C × R} {f : Nat} (hf : f < 9) (h : (rfld s f).2.gone = false) : rfld (s.1, more t s.2) f = ((rfld s f).1, more t (rfld s f).2) := by
  obtain rfl | rfl | rfl | rfl | rfl | rfl | rfl | rfl | rfl : f = 0 ∨ f = 1 ∨ f = 2 ∨ f = 3 ∨ f = 4 ∨ f = 5 ∨ f = 6 ∨ f = 7 ∨ f = 8 := by omega
  · simp only [rfld]; rw [rnum_more t h]
  · simp only [rfld]; rw [rnum_more t h]
  · simp only [rfld]; rw [rnum_more t h]
  · simp only [rfld]; rw [rnum_more t h]
  · simp only [rfld]; rw [rnum_more t h]
  · simp only [rfld]; rw [rtxt_more t h]
  · simp only [rfld]; rw [rlst_more t h]
  · simp only [rfld]; rw [rlst_more t h]
  · simp only [rfld]; rw [rtxt_more t h]
/-- a field is read, another one stays -/
theorem rfld_other {s : C × R} {f g : Nat} (hf : f < 9) (hg : g < 9) (hne : f ≠ g) : fld (rfld s f).1 g = fld s.1 g := by
  obtain rfl | rfl | rfl | rfl | rfl | rfl | rfl | rfl | rfl : f = 0 ∨ f = 1 ∨ f = 2 ∨ f = 3 ∨ f = 4 ∨ f = 5 ∨ f = 6 ∨ f = 7 ∨ f = 8 := by omega
  all_goals
    obtain rfl | rfl | rfl | rfl | rfl | rfl | rfl | rfl | rfl : g = 0 ∨ g = 1 ∨ g = 2 ∨ g = 3 ∨ g = 4 ∨ g = 5 ∨ g = 6 ∨ g = 7 ∨ g = 8 := by omega
    all_goals first | rfl | exact absurd rfl hne
theorem rflds_kept (l : List Nat) {s : C × R} {g : Nat} (hl : ∀ f ∈ l, f < 9) (hg : g < 9) (hne : g ∉ l) : fld (rflds l s).1 g = fld s.1 g := by
  induction l generalizing s with
  | nil => rfl
  | cons f r ih =>
    simp only [rflds]
    rw [ih (fun x hx => hl x (.tail _ hx)) (fun h => hne (.tail _ h))]
    exact rfld_other (hl f (.head _)) hg (fun e => hne (by rw [e]; exact .head _))
theorem rflds_went (l : List Nat) {s : C × R} (hl : ∀ f ∈ l, f < 9) (hd : l.Nodup) (h : (rflds l s).2.gone = false) : s.2.gone = false ∧ Went s.2 (rflds l s).2 (flds (rflds l s).1 l) := by
  induction l generalizing s with
  | nil => exact ⟨h, h, h, rfl⟩
  | cons f r ih =>
    simp only [rflds] at h ⊢
    have hd' := List.nodup_cons.1 hd
    obtain ⟨h1, h2⟩ := ih (fun x hx => hl x (.tail _ hx)) hd'.2 h
    have h3 := rfld_went (hl f (.head _)) h1
    refine ⟨h3.1, ?_⟩
    have e : fld (rflds r (rfld s f)).1 f = fld (rfld s f).1 f := rflds_kept r (fun x hx => hl x (.tail _ hx)) (hl f (.head _)) hd'.1
    unfold flds
    rw [e]
    exact h3.trans h2
theorem rflds_more (t : List UInt8) (l : List Nat) {s : C × R} (hl : ∀ f ∈ l, f < 9) (hd : l.Nodup) (h : (rflds l s).2.gone = false) : rflds l (s.1, more t s.2) = ((rflds l s).1, more t (rflds l s).2) := by
  induction l generalizing s with
  | nil => rfl
  | cons f r ih =>
    simp only [rflds] at h ⊢
    have hd' := List.nodup_cons.1 hd
    rw [rfld_more t (hl f (.head _)) (rflds_went r (fun x hx => hl x (.tail _ hx)) hd'.2 h).1]
    exact ih (fun x hx => hl x (.tail _ hx)) hd'.2 h
theorem fsN_ok (k : Nat) : (∀ f ∈ fsN k, f < 9) ∧ (fsN k).Nodup := by
  unfold fsN
  split <;> decide
end Go.Proofs.Ytmoenjmhogmcoaa.Cl
namespace Go.Proofs.Ytmoenjmhogmcoaa
set_option linter.unusedVariables false
set_option linter.unusedSimpArgs false
open Go.RowKit
section
variable {P : Program} {t e : TypeId} {size bytes : Nat}
/-- The same, the block's number spelt as the walk has it. -/
theorem wpList_app1g (T : SlTy P t e size bytes) {W : World} {ops : Array Oper} {rest : List Oper} {o : Oper} {a : Act} {Q : Exit → Act → World → Prop} (hgd : o.guard = none) (s x : Operand)
    (ho : o.op = .call { callee := .builtin .append, args := #[s, x], argTypes := #[t, t] })
    (base : Nat) (v : Value) (n : Nat) (xs : List Value) (hs : a.eval s = v) (hown : W.ownsRow base e size v n xs)
    (cs : Array Value) (g : Nat) (hx : a.eval x = .slice (some ⟨g, 0, none⟩) 1 1) (hg : g = W.heap.size) (hcs : cs.size = size) (h1 : ∀ u ∈ cs.toList, u.oneCell' = true)
    (hb : (n + 1) * bytes ≤ 140737488355328) (hbase : base ≤ W.heap.size)
    (h : ∀ A' c' w', w'.ownsRow base e size (.slice A' (n + 1) c') (n + 1) (xs ++ cs.toList) → W.grownBy w' v.ownBlock → (∀ k, (Value.slice A' (n + 1) c').ownBlock = some k → v.ownBlock = some k ∨ W.heap.size ≤ k) → wpList P ops Q rest (a.put o.dst (.slice A' (n + 1) c')) w') : wpList P ops Q (o :: rest) a (W.alloc (.cells cs e)) := by
  subst hg
  exact wpList_app1 T hgd s x ho base v n xs hs hown cs hx hcs h1 hb hbase h
end
end Go.Proofs.Ytmoenjmhogmcoaa
namespace Go.Proofs.Ytmoenjmhogmcoaa
set_option linter.unusedVariables false
set_option linter.unusedSimpArgs false
open Go.RowKit

/-- Is a slice of bytes nil? -/
theorem nilq (w : World) (a : Option Addr) (n c n' c' : Nat) : (binOp .eql 29 (.slice a n c) (.slice none n' c')).run Try.prog w = .ok (.bool a.isNone) w := Lib.run_eql_slice_nil w _ _ a n c n' c' Try.underlying29
/-- A row of nothing, in a block of its own. -/
theorem own_empty (w : World) (e : TypeId) (base : Nat) (hb : base ≤ w.heap.size) : (w.alloc (.cells #[] e)).ownsRow base e 1 (.slice (some ⟨w.heap.size, 0, none⟩) 0 0) 0 [] :=
  ⟨rfl, .inr ⟨w.heap.size, 0, #[], rfl, hb, heap_alloc_new _ _, Nat.le_refl _, by decide, rfl, rfl⟩⟩
theorem grown_below {w w1 w2 : World} {row : Option Nat} (hb : Below w.heap.size w w1) (hg : w1.grownBy w2 row) (hr : ∀ k, row = some k → w.heap.size ≤ k) : Below w.heap.size w w2 := hb.grown hg hb.size hr

set_option maxRecDepth 100000 in
set_option maxHeartbeats 1000000 in
theorem clone_any (A : Option Addr) (m c B : Nat) (b : List UInt8) (w : World) (hB : B ≤ w.heap.size) (hb : Rd w B 1 A m (bys b)) (hm : m ≤ 4294967296) (hA : A ≠ none) :
    Calls Try.prog 46 #[.slice A m c] w fun e w' => ∃ A' c', e = .returned (.slice A' m c') ∧ w'.ownsRow w.heap.size 5 1 (.slice A' m c') m (bys b) ∧ Below w.heap.size w w' := by
  obtain ⟨ad, rfl⟩ : ∃ ad, A = some ad := by cases A with | none => exact absurd rfl hA | some ad => exact ⟨ad, rfl⟩
  have Hb := hide hb
  clear hb hA
  have q22 := nilq
  go_enter Try.func46, Try.ntmps46
  go_wp2_with (first
    | (at_builtin; refine wpList_app byteTy rfl _ _ rfl w.heap.size (.slice (some ⟨w.heap.size, 0, none⟩) 0 0) 0 [] rfl (own_empty w _ _ (Nat.le_refl _)) B (some ad) m c (bys b) rfl ((unhide Hb).alloc hB _) (bys_one b) (by omega) (by simp) ?_; intro A2 c2 w1 hown hgrow hat; have Hb1 := hide (grown_below ((Below.refl w.heap.size w).alloc (Nat.le_refl _) _) hgrow (fun k hk => (by simp [Value.ownBlock] at hk; omega))); have Hown := hide hown; clear hgrow hat hown))
  go_ret
  have h := unhide Hown
  simp only [Nat.zero_add, List.nil_append] at h
  exact ⟨A2, c2, by simp, h, unhide Hb1⟩
set_option maxRecDepth 100000 in
theorem clone_nil (w : World) :
    Calls Try.prog 46 #[.slice none 0 0] w fun e w' => e = .returned (.slice none 0 0) ∧ w = w' := by
  have q22 := nilq
  go_enter Try.func46, Try.ntmps46
  go_wp2
  go_ret
  exact ⟨rfl, rfl⟩
theorem refInside_yes (a b c : Nat) (w : World) (hc : c < 18446744073709551616) (h : a + b ≤ c) : Calls Try.prog 55 #[.int .u64 a, .int .u64 b, .int .u64 c] w fun e w' => e = .returned (.bool true) ∧ w = w' := by
  have h1 : decide (((b : Nat) : Int) ≤ ((c : Nat) : Int)) = true := by simp; omega
  have h2 : decide (((a : Nat) : Int) ≤ ((c : Nat) : Int) - ((b : Nat) : Int)) = true := by simp; omega
  go_enter Try.func55, Try.ntmps55
  go_wp2
  go_ret
  exact ⟨rfl, rfl⟩
theorem place_yes (A : Option Addr) (m c p s : Nat) (w : World) (hm : m ≤ 4294967296) (hs : s = 1 ∨ s = 2 ∨ s = 4 ∨ s = 8) (h : p + s ≤ m) : Calls Try.prog 48 #[.slice A m c, .int .u64 p, .int .i64 s] w fun e w' => e = .returned (.int .i64 0) ∧ w = w' := by
  rcases hs with rfl | rfl | rfl | rfl
  all_goals
    go_enter Try.func48, Try.ntmps48
    go_wp2_with (go_at_call 55; refine (refInside_yes p _ m w (by omega) h).mono ?_; rintro e w1 ⟨rfl, rfl⟩)
    go_ret
    exact ⟨rfl, rfl⟩

/-- i bytes of x written from p on. -/
def setK (b : List UInt8) (p x : Nat) : Nat → List UInt8
  | 0 => b
  | i + 1 => (setK b p x i).set (p + i) (UInt8.ofNat (x / 256 ^ i % 256))
theorem setK_len (b : List UInt8) (p x i : Nat) : (setK b p x i).length = b.length := by
  induction i with
  | zero => rfl
  | succ i ih => simp [setK, ih]
theorem lb_snoc (n x : Nat) : Cl.lb x (n + 1) = Cl.lb x n ++ [UInt8.ofNat (x / 256 ^ n % 256)] := by
  induction n generalizing x with
  | zero => simp [Cl.lb]
  | succ n ih =>
    have e : Cl.lb x (n + 1 + 1) = UInt8.ofNat (x % 256) :: Cl.lb (x / 256) (n + 1) := rfl
    rw [e, ih (x / 256), Nat.div_div_eq_div_mul, Nat.pow_succ, Nat.mul_comm 256]
    rfl
theorem setK_zero (s x i : Nat) (h : i ≤ s) : setK (List.replicate s 0) 0 x i = Cl.lb x i ++ List.replicate (s - i) 0 := by
  induction i with
  | zero => simp [setK, Cl.lb]
  | succ i ih =>
    have e : s - i = (s - (i + 1)) + 1 := by omega
    rw [setK, ih (by omega), lb_snoc, e, List.replicate_succ, Nat.zero_add, List.set_append_right _ _ (by rw [Cl.lb_len]; exact Nat.le_refl _), Cl.lb_len, Nat.sub_self, List.set_cons_zero, List.append_assoc]
    rfl
theorem setK_all (s x : Nat) : setK (List.replicate s 0) 0 x s = Cl.lb x s := by
  rw [setK_zero s x s (Nat.le_refl _), Nat.sub_self]
  simp

set_option maxRecDepth 100000 in
set_option maxHeartbeats 1000000 in
theorem refSet_yes (A : Option Addr) (m c B : Nat) (b : List UInt8) (p s x : Nat) (w : World) (hB : B ≤ w.heap.size) (hb : Rd w B 1 A m (bys b)) (hm : m ≤ 4294967296) (hs : s = 1 ∨ s = 2 ∨ s = 4 ∨ s = 8) (h : p + s ≤ m) (hx : x < 18446744073709551616) :
    Calls Try.prog 37 #[.slice A m c, .int .u64 p, .int .i64 s, .int .u64 x] w fun e w' => ∃ A' c', e = .returned (.tuple #[.slice A' m c', .int .i64 0]) ∧ w'.ownsRow w.heap.size 5 1 (.slice A' m c') m (bys (setK b p x s)) ∧ Below w.heap.size w w' := by
  have hbl : b.length = m := by simpa [bys] using hb.len1
  have hs8 : s ≤ 8 := by omega
  have hs0 : 0 < s := by omega
  have hpl := place_yes A m c p s w hm hs h
  have hcp := copyBytes_any A m c B b w hB hb hm
  have Hpl := hide hpl
  have Hcp := hide hcp
  have Hbl := hide hbl
  clear hpl hcp hbl hb hs
  go_enter Try.func37, Try.ntmps37
  go_wp2_with (first
    | (go_at_call 48; refine (unhide Hpl).mono ?_; rintro e w1 ⟨rfl, rfl⟩)
    | (go_at_call 26; refine (unhide Hcp).mono ?_; rintro e w1 ⟨A', c', rfl, hown, hb1⟩; obtain ⟨g, rfl, hg1, hg2⟩ := own_some hown (by omega); have Hown := hide hown; have Hb1 := hide hb1; clear hown hb1))
  go_loopw [12, 3] (fun i y wr => ∃ k : Nat, k ≤ s ∧ i = .int .i64 k ∧ y = .int .u64 (x / 256 ^ k : Nat) ∧ wr.ownsRow w.heap.size 5 1 (.slice (some ⟨g, 0, none⟩) m c') m (bys (setK b p x k)) ∧ Below w.heap.size w wr) (fun i _ _ => s - (intOf i).toNat)
  case atStart => exact ⟨0, by omega, rfl, by simp, unhide Hown, unhide Hb1⟩
  case round =>
  clear Hown Hb1
  obtain ⟨k, hk, rfl, rfl, hown, hb2⟩ := hrel
  have Hown := hide hown
  have Hb2 := hide hb2
  clear hown hb2
  rcases Nat.lt_or_ge k s with hlt | hge
  case inr =>
    obtain rfl : k = s := by omega
    go_wp2
    go_ret2
    exact ⟨_, _, rfl, unhide Hown, unhide Hb2⟩
  obtain ⟨z, hz⟩ : ∃ z, (setK b p x k)[p + k]? = some z := ⟨_, List.getElem?_eq_getElem (by rw [setK_len, unhide Hbl]; omega)⟩
  have hset := own_set (i := p + k) (unhide Hown) (.int .u8 (UInt8.ofNat (x / 256 ^ k % 256)).toNat)
  rw [bys_set] at hset
  have hc2 := own_cell (unhide Hown) (bys_at hz)
  have hf2 := own_free (unhide Hown) (p + k)
  obtain ⟨hg3, hg4, hg5⟩ := own_at (unhide Hown)
  have hy : x / 256 ^ k < 18446744073709551616 := Nat.lt_of_le_of_lt (Nat.div_le_self _ _) hx
  have hy2 : x / 256 ^ k / 256 = x / 256 ^ (k + 1) := by rw [Nat.div_div_eq_div_mul, Nat.pow_succ]
  have hy3 : (UInt8.ofNat (x / 256 ^ k % 256)).toNat = x / 256 ^ k % 256 := by simp
  have Hy2 := hide hy2
  rw [show (setK b p x k).set (p + k) (UInt8.ofNat (x / 256 ^ k % 256)) = setK b p x (k + 1) from rfl, hy3] at hset
  have Hset := hide hset
  clear hset hy2 hy3 hz
  generalize x / 256 ^ k = y at *
  go_wp2
  go_roundw
  case rel =>
    refine ⟨k + 1, by omega, by go_num, ?_, ?_, (unhide Hb2).setCell hg1 _⟩
    · rw [← unhide Hy2]
      congr 1
    · exact unhide Hset
  case measure => simp [intOf]; omega
end Go.Proofs.Ytmoenjmhogmcoaa
namespace Go.Proofs.Ytmoenjmhogmcoaa
set_option linter.unusedVariables false
set_option linter.unusedSimpArgs false
open Go.RowKit

set_option maxRecDepth 100000 in
set_option maxHeartbeats 1000000 in
theorem set_yes (g0 : Nat) (m c B : Nat) (b : List UInt8) (p s x : Nat) (w : World) (hB : B ≤ w.heap.size) (hb : Rd w B 1 (some ⟨g0, 0, none⟩) m (bys b)) (hm : m ≤ 4294967296) (hs : s = 1 ∨ s = 2 ∨ s = 4 ∨ s = 8) (h : p + s ≤ m) (hx : x < 18446744073709551616) :
    Calls Try.prog 34 #[.slice (some ⟨g0, 0, none⟩) m c, .int .u64 p, .int .i64 s, .int .u64 x] w fun e w' => ∃ A' c', e = .returned (.tuple #[.slice A' m c', .int .i64 0]) ∧ w'.ownsRow w.heap.size 5 1 (.slice A' m c') m (bys (setK b p x s)) ∧ Below w.heap.size w w' := by
  have hbl : b.length = m := by simpa [bys] using hb.len1
  have hs8 : s ≤ 8 := by omega
  have hs0 : 0 < s := by omega
  have Hck := hide (check_yes (some ⟨g0, 0, none⟩) m c p s w (by unfold maxLen; omega) (by omega) (by omega) (by omega) (by omega))
  have Hb := hide hb
  have Hbl := hide hbl
  clear hbl hb hs
  go_enter Try.func34, Try.ntmps34
  go_wp2_with (first
    | (go_at_call 45; refine (unhide Hck).mono ?_; rintro e w1 ⟨rfl, hb1⟩; have Hb1 := hide hb1; clear hb1)
    | (go_at_call 46; refine (clone_any _ m c B b _ (Nat.le_trans hB (unhide Hb1).size) ((unhide Hb).below ((unhide Hb1).mono hB)) hm (by simp)).mono ?_; rintro e w2 ⟨A', c', rfl, hown, hb2⟩; obtain ⟨g, rfl, hg1, hg2⟩ := own_some hown (by omega); have Hown := hide (own_base hown (unhide Hb1).size); have Hb2 := hide ((unhide Hb1).trans (hb2.mono (unhide Hb1).size)); have hg3 := (unhide Hb1).size; clear hown hb2))
  go_loopg [23] s (fun gk i wr => ∃ k : Nat, gk = s - k ∧ k ≤ s ∧ i = .int .i64 k ∧ wr.ownsRow w.heap.size 5 1 (.slice (some ⟨g, 0, none⟩) m c') m (bys (setK b p x k)) ∧ Below w.heap.size w wr)
  case atStart => exact ⟨0, by omega, by omega, rfl, unhide Hown, unhide Hb2⟩
  case round =>
  clear Hown Hb2
  obtain ⟨k, hgk, hk, rfl, hown, hb2⟩ := hrel
  have Hgk := hide hgk
  have Hown := hide hown
  have Hb2 := hide hb2
  clear hown hb2 hgk
  rcases Nat.lt_or_ge k s with hlt | hge
  case inr =>
    obtain rfl : k = s := by omega
    go_wp2
    go_ret2
    exact ⟨_, _, rfl, unhide Hown, unhide Hb2⟩
  obtain ⟨z, hz⟩ : ∃ z, (setK b p x k)[p + k]? = some z := ⟨_, List.getElem?_eq_getElem (by rw [setK_len, unhide Hbl]; omega)⟩
  have hset := own_set (i := p + k) (unhide Hown) (.int .u8 (UInt8.ofNat (x / 256 ^ k % 256)).toNat)
  rw [bys_set] at hset
  have hc2 := own_cell (unhide Hown) (bys_at hz)
  have hf2 := own_free (unhide Hown) (p + k)
  obtain ⟨hg3, hg4, hg5⟩ := own_at (unhide Hown)
  have hy3 : (UInt8.ofNat (x / 256 ^ k % 256)).toNat = x / 256 ^ k % 256 := by simp
  rw [show (setK b p x k).set (p + k) (UInt8.ofNat (x / 256 ^ k % 256)) = setK b p x (k + 1) from rfl, hy3] at hset
  have Hset := hide hset
  clear hset hy3 hz
  go_wp2
  go_roundg (s - (k + 1))
  case measure => have := unhide Hgk; omega
  case rel =>
    refine ⟨k + 1, rfl, by omega, by go_num, ?_, (unhide Hb2).setCell hg3 _⟩
    have e : ((x : Int) / 2 ^ (8 * k) % 256) = ((x / 256 ^ k % 256 : Nat) : Int) := by
      have h2 : (256 : Nat) ^ k = 2 ^ (8 * k) := by rw [Nat.pow_mul]
      rw [h2]
      push_cast
      rfl
    rw [e]
    exact unhide Hset
end Go.Proofs.Ytmoenjmhogmcoaa
namespace Go.Proofs.Ytmoenjmhogmcoaa
set_option linter.unusedVariables false
set_option linter.unusedSimpArgs false
open Go.RowKit

/-- Numbers as bytes, eight for each. -/
def Stk.nums : List Nat → List UInt8
  | [] => []
  | x :: r => Cl.lb x 8 ++ Stk.nums r
theorem Stk.nums_app (a b : List Nat) : Stk.nums (a ++ b) = Stk.nums a ++ Stk.nums b := by
  induction a with
  | nil => rfl
  | cons x r ih => simp [Stk.nums, ih]
theorem Stk.nums_len (a : List Nat) : (Stk.nums a).length = 8 * a.length := by
  induction a with
  | nil => rfl
  | cons x r ih => simp [Stk.nums, ih, Cl.lb_len]; omega
theorem Stk.nums_one (x : Nat) : Stk.nums [x] = Cl.lb x 8 := by simp [Stk.nums]
theorem Stk.nums_next {l : List Nat} {k x : Nat} (h : l[k]? = some x) : Stk.nums (l.take (k + 1)) = Stk.nums (l.take k) ++ Cl.lb x 8 := by
  rw [List.take_add_one, h, Stk.nums_app]
  simp [Stk.nums]
theorem zeros8 : (madeCells (Value.int .u8 0).cells (8 * 1)).toList = bys (List.replicate 8 0) := by
  simp [bys, Value.cells, toList_madeCells_one]

set_option maxRecDepth 100000 in
set_option maxHeartbeats 4000000 in
theorem rbytes_any (x : Nat) (w : World) (hx : x < 18446744073709551616) :
    Calls Try.prog 25 #[.int .u64 x] w fun e w' => ∃ A' c', e = .returned (.slice A' 8 c') ∧ w'.ownsRow w.heap.size 5 1 (.slice A' 8 c') 8 (bys (Cl.lb x 8)) ∧ Below w.heap.size w w' := by
  obtain ⟨i, hi, hz0, hz1, hz2⟩ := info_parts byteInfo
  have Hi := hide hi
  have Hz0 := hide hz0
  have Hz1 := hide hz1
  have Hz2 := hide hz2
  clear hi hz0 hz1 hz2
  go_enter Try.func25, Try.ntmps25
  go_wp2_with (at_make; refine wpList_make_full _ rfl _ _ 29 rfl w.heap.size 5 i (.int .u8 0) 1 Try.underlying29 (unhide Hi) (unhide Hz0) (unhide Hz1) _ _ _ _ 8 rfl rfl rfl rfl (by rw [unhide Hz2]; omega) (by unfold maxLen; omega) (Nat.le_refl _) ?_; intro w1 hown hgrow; have hb1 := (Below.refl w.heap.size w).grown hgrow (Nat.le_refl _) (fun k hk => by cases hk); have Hown := hide hown; have Hb1 := hide hb1; clear hown hgrow hb1)
  have ho := unhide Hown
  rw [zeros8] at ho
  have K := refSet_yes (some ⟨w.heap.size, 0, none⟩) 8 8 w1.heap.size (List.replicate 8 0) 0 8 x w1 (Nat.le_refl _) (Rd.of_own ho) (by omega) (.inr (.inr (.inr rfl))) (by omega) hx
  rw [setK_all] at K
  replace K := hide K
  clear ho
  refine (unhide K).mono ?_
  rintro e w2 ⟨A', c', rfl, ho2, hb2⟩
  have hs1 := (unhide Hb1).size
  have Ho2 := hide (own_base ho2 hs1)
  have Hb2 := hide ((unhide Hb1).trans (hb2.mono hs1))
  clear ho2 hb2 K
  go_wp2_with fail
  go_ret
  exact ⟨A', c', rfl, unhide Ho2, unhide Hb2⟩

set_option maxRecDepth 100000 in
set_option maxHeartbeats 4000000 in
theorem numbers_any (A : Option Addr) (n c base : Nat) (xs : List UInt8) (Aq : Option Addr) (k cq : Nat) (l : List Nat) (w : World) (hown : w.ownsRow base 5 1 (.slice A n c) n (bys xs)) (hbase : base ≤ w.heap.size)
    (hq : Fr w (Value.slice A n c).ownBlock Aq k (u64s l)) (hx : ∀ x ∈ l, x < 18446744073709551616) (hn : n ≤ 4294967296) (hk : k ≤ 4294967296) :
    Calls Try.prog 22 #[.slice A n c, .slice Aq k cq] w fun e w' => ∃ A' c', e = .returned (.slice A' (n + 8 * k) c') ∧ Grew w w' base (.slice A n c) (.slice A' (n + 8 * k) c') (n + 8 * k) (xs ++ Stk.nums l) := by
  have hlk : l.length = k := by have := hq.1; rwa [u64s_len] at this
  obtain ⟨i, hi, hz0, hz1, hz2⟩ := info_parts byteInfo
  have Hi := hide hi
  have Hz0 := hide hz0
  have Hz1 := hide hz1
  have Hz2 := hide hz2
  have Hown := hide hown
  have Hq := hide hq
  have Hx := hide hx
  have Hlk := hide hlk
  clear hi hz0 hz1 hz2 hown hq hx hlk
  go_enter Try.func22, Try.ntmps22
  go_wp2_with fail
  go_loopg [0, 11] k (fun gk bv iv wr => ∃ (j : Nat) (A' : Option Addr) (c' : Nat), gk = k - j ∧ j ≤ k ∧ iv = .int .i64 j ∧ bv = .slice A' (n + 8 * j) c' ∧ Grew w wr base (.slice A n c) (.slice A' (n + 8 * j) c') (n + 8 * j) (xs ++ Stk.nums (l.take j)))
  case atStart => exact ⟨0, A, c, by omega, by omega, rfl, rfl, ⟨by simpa [Stk.nums] using unhide Hown, World.grownBy.refl w _, fun k hk => .inl hk⟩⟩
  case round =>
  obtain ⟨j, A', c', hgk, hj, rfl, rfl, hG⟩ := hrel
  have Hgk := hide hgk
  have HG := hide hG
  have hsz := hG.kept.size
  clear hgk hG
  rcases Nat.lt_or_ge j k with hlt | hge
  case inr =>
    obtain rfl : j = k := by omega
    have h := unhide HG
    rw [List.take_of_length_le (by rw [unhide Hlk]; exact Nat.le_refl _)] at h
    have HG2 := hide h
    clear h
    go_wp2_with fail
    go_ret
    exact ⟨A', c', rfl, unhide HG2⟩
  obtain ⟨x, hx⟩ : ∃ x, l[j]? = some x := ⟨_, List.getElem?_eq_getElem (by rw [unhide Hlk]; exact hlt)⟩
  have hx8 := (unhide Hx) x (List.mem_of_getElem? hx)
  have hfr := (unhide Hq).grown (unhide HG).kept (unhide HG).at_
  obtain ⟨b1, o1, rfl, _, c1⟩ := hfr.rd.at_ (u64s_at hx)
  have Hxj := hide hx
  clear hx hfr
  go_wp2_with (first
    | (at_make; refine wpList_make_full _ rfl _ _ 29 rfl wr.heap.size 5 i (.int .u8 0) 1 Try.underlying29 (unhide Hi) (unhide Hz0) (unhide Hz1) _ _ _ _ 8 rfl rfl rfl rfl (by rw [unhide Hz2]; omega) (by unfold maxLen; omega) (Nat.le_refl _) ?_; intro w1 hown1 hgrow; have hb1 := (Below.refl wr.heap.size wr).grown hgrow (Nat.le_refl _) (fun k hk => by cases hk); have Hown1 := hide hown1; have Hb1 := hide hb1; clear hown1 hgrow hb1))
  have ho := unhide Hown1
  rw [zeros8] at ho
  have K := set_yes wr.heap.size 8 8 w1.heap.size (List.replicate 8 0) 0 8 x w1 (Nat.le_refl _) (Rd.of_own ho) (by omega) (.inr (.inr (.inr rfl))) (by omega) hx8
  rw [setK_all] at K
  replace K := hide K
  clear ho
  refine (unhide K).mono ?_
  rintro e w2 ⟨A2, c2, rfl, ho2, hb2⟩
  have hs1 := (unhide Hb1).size
  have hs2 := hb2.size
  have Ho2 := hide ho2
  have hb2' := (unhide Hb1).trans (hb2.mono hs1)
  have Hb2 := hide hb2'
  have Hobk := hide (own_below (unhide HG).own hb2')
  clear ho2 hb2 hb2' K c1
  go_wp2_with (at_builtin; refine wpList_app byteTy rfl _ _ rfl base (.slice A' (n + 8 * j) c') (n + 8 * j) _ rfl (unhide Hobk) w2.heap.size A2 8 c2 (bys (Cl.lb x 8)) rfl (Rd.of_own (unhide Ho2)) (bys_one _) (by omega) (by omega) ?_; intro A3 c3 w3 ho3 hg3 hat3; have HG3 := hide ((unhide HG).trans (Grew.after (unhide Hb2) (show Grew w2 w3 base (.slice A' (n + 8 * j) c') (.slice A3 (n + 8 * j + 8) c3) (n + 8 * j + 8) (xs ++ Stk.nums (l.take j) ++ Cl.lb x 8) from ⟨by rw [bys_app]; exact ho3, hg3, hat3⟩))); clear ho3 hg3 hat3)
  have e1 : xs ++ Stk.nums (l.take j) ++ Cl.lb x 8 = xs ++ Stk.nums (l.take (j + 1)) := by rw [Stk.nums_next (unhide Hxj), List.append_assoc]
  have h := unhide HG3
  rw [e1] at h
  have HG4 := hide h
  clear h e1 HG3
  go_roundg (k - (j + 1))
  case measure => have := unhide Hgk; omega
  case rel => exact ⟨j + 1, A3, c3, rfl, by omega, by go_num, by rw [show n + 8 * (j + 1) = n + 8 * j + 8 from by omega], by rw [show n + 8 * (j + 1) = n + 8 * j + 8 from by omega]; exact unhide HG4⟩
end Go.Proofs.Ytmoenjmhogmcoaa
namespace Go.Proofs.Ytmoenjmhogmcoaa
set_option linter.unusedVariables false
set_option linter.unusedSimpArgs false
open Go.RowKit

/-- Block g is a map whose entries are these, in their order. -/
def MapIs (w : World) (g : Nat) (k : IntKind) (m : List (Int × Value)) : Prop := ∃ es clk, w.heap[g]? = some (.map es clk) ∧ es.toList.map (fun e => (e.key, e.val)) = m.map (fun p => (Value.int k p.1, p.2))

theorem findNow_lit (k : IntKind) (x : Int) (kd : IntKind) : ∀ (es : List MapEntry) (m : List (Int × Value)) (i : Nat), es.map (fun e => (e.key, e.val)) = m.map (fun p => (Value.int k p.1, p.2)) →
    ∃ r, Instr.findNow (.int kd) (.int k x) es i = some r ∧ r.map (·.2) = (m.find? fun p => p.1 == x).map (·.2) := by
  intro es
  induction es with
  | nil => intro m i h; cases m with
    | nil => exact ⟨none, rfl, rfl⟩
    | cons p m => simp at h
  | cons e es ih => intro m i h; cases m with
    | nil => simp at h
    | cons p m =>
      simp only [List.map_cons, List.cons.injEq, Prod.mk.injEq] at h
      obtain ⟨⟨h1, h2⟩, h3⟩ := h
      unfold Instr.findNow
      rw [h1]
      simp only [Instr.sameNow, if_true]
      by_cases hx : x = p.1
      · subst hx
        simp [h2]
      · have e1 : (x == p.1) = false := by simpa using hx
        have e2 : (p.1 == x) = false := by simpa using fun h => hx h.symm
        obtain ⟨r, hr, hm⟩ := ih m (i + 1) h3
        refine ⟨r, ?_, ?_⟩
        · simp only [e1]
          exact hr
        · rw [List.find?_cons, e2]
          exact hm

section
variable {P : Program} {t kt e : TypeId} {k kd : IntKind} {w : World} {g : Nat} {m : List (Int × Value)} {x : Int} {v : Value}
theorem run_mapPut (ht : P.underlying t = some (.map kt e)) (hk : P.underlying kt = some (.int kd)) (hik : Go.MapKept.IsKey (.int kd) (.int k x)) (h : MapIs w g k m) (hx : ∀ p ∈ m, p.1 ≠ x) :
    ∃ w', (Instr.mapUpdate t (.map (some g)) (.int k x) v).run P w = .ok () w' ∧ MapIs w' g k (m ++ [(x, v)]) ∧ w.grownBy w' (some g) ∧ w'.heap.size = w.heap.size := by
  obtain ⟨es, clk, hg, hm⟩ := h
  obtain ⟨r, hr, hrm⟩ := findNow_lit k x kd es.toList m 0 hm
  have hnone : (m.find? fun p => p.1 == x) = none := by
    rw [List.find?_eq_none]
    intro p hp
    simpa using hx p hp
  rw [hnone] at hrm
  obtain rfl : r = none := by cases r with
    | none => rfl
    | some q => simp at hrm
  have hlt : g < w.heap.size := (Array.getElem?_eq_some_iff.1 hg).1
  refine ⟨{ w with heap := w.heap.setIfInBounds g (.map (es.push { key := .int k x, val := v, born := clk }) (clk + 1)) }, ?_, ?_, ?_, by simp⟩
  · simp [Instr.mapUpdate, run_underlying ht, Go.MapKept.run_getObj_map hg, Go.MapKept.run_checkKey hk hik, Go.MapKept.run_findKey hk hr, Go.MapKept.run_setObj_map _ hg, Result.andThen]
  · refine ⟨_, _, (Go.MapKept.heap_set hg).1, ?_⟩
    simp [hm]
  · exact ⟨rfl, rfl, rfl, by simp, fun i _ hi => (Go.MapKept.heap_set hg).2 i (fun e => hi (by rw [e]))⟩

theorem run_mapLook (ht : P.underlying t = some (.map kt e)) (hk : P.underlying kt = some (.int kd)) (hik : Go.MapKept.IsKey (.int kd) (.int k x)) {z : Value} (hz : (zeroValue e).run P w = .ok z w) (h : MapIs w g k m) :
    (Instr.lookup t (.map (some g)) (.int k x) true).run P w = .ok (.tuple #[((m.find? fun p => p.1 == x).map (·.2)).getD z, .bool (m.find? fun p => p.1 == x).isSome]) w := by
  obtain ⟨es, clk, hg, hm⟩ := h
  obtain ⟨r, hr, hrm⟩ := findNow_lit k x kd es.toList m 0 hm
  cases hf : (m.find? fun p => p.1 == x) with
  | none =>
    rw [hf] at hrm
    obtain rfl : r = none := by cases r with
      | none => rfl
      | some q => simp at hrm
    simp [Instr.lookup, run_underlying ht, Go.MapKept.run_getObj_map hg, Go.MapKept.run_checkKey hk hik, Go.MapKept.run_findKey hk hr, hz, Result.andThen]
  | some q =>
    rw [hf] at hrm
    obtain ⟨i, rfl⟩ : ∃ i, r = some (i, q.2) := by cases r with
      | none => simp at hrm
      | some y => obtain ⟨i, v⟩ := y; simp at hrm; exact ⟨i, by rw [hrm]⟩
    simp [Instr.lookup, run_underlying ht, Go.MapKept.run_getObj_map hg, Go.MapKept.run_checkKey hk hik, Go.MapKept.run_findKey hk hr, Result.andThen]
theorem run_mapLook1 (ht : P.underlying t = some (.map kt e)) (hk : P.underlying kt = some (.int kd)) (hik : Go.MapKept.IsKey (.int kd) (.int k x)) {z : Value} (hz : (zeroValue e).run P w = .ok z w) (h : MapIs w g k m) :
    (Instr.lookup t (.map (some g)) (.int k x) false).run P w = .ok (((m.find? fun p => p.1 == x).map (·.2)).getD z) w := by
  obtain ⟨es, clk, hg, hm⟩ := h
  obtain ⟨r, hr, hrm⟩ := findNow_lit k x kd es.toList m 0 hm
  cases hf : (m.find? fun p => p.1 == x) with
  | none =>
    rw [hf] at hrm
    obtain rfl : r = none := by cases r with
      | none => rfl
      | some q => simp at hrm
    simp [Instr.lookup, run_underlying ht, Go.MapKept.run_getObj_map hg, Go.MapKept.run_checkKey hk hik, Go.MapKept.run_findKey hk hr, hz, Result.andThen]
  | some q =>
    rw [hf] at hrm
    obtain ⟨i, rfl⟩ : ∃ i, r = some (i, q.2) := by cases r with
      | none => simp at hrm
      | some y => obtain ⟨i, v⟩ := y; simp at hrm; exact ⟨i, by rw [hrm]⟩
    simp [Instr.lookup, run_underlying ht, Go.MapKept.run_getObj_map hg, Go.MapKept.run_checkKey hk hik, Go.MapKept.run_findKey hk hr, Result.andThen]

theorem MapIs.nil (w : World) : MapIs (w.alloc (.map #[] 0)) w.heap.size k [] := ⟨#[], 0, heap_alloc_new _ _, rfl⟩
theorem MapIs.keep {w' : World} (h : MapIs w g k m) (hk : w'.heap[g]? = w.heap[g]?) : MapIs w' g k m := by
  obtain ⟨es, clk, hg, hm⟩ := h
  exact ⟨es, clk, hk.trans hg, hm⟩
theorem MapIs.alloc (h : MapIs w g k m) (o : Obj) : MapIs (w.alloc o) g k m := by
  obtain ⟨es, clk, hg, hm⟩ := h
  exact ⟨es, clk, (Below.heap_alloc _ _ _ (Array.getElem?_eq_some_iff.1 hg).1).trans hg, hm⟩
theorem MapIs.lt (h : MapIs w g k m) : g < w.heap.size := by
  obtain ⟨es, clk, hg, hm⟩ := h
  exact (Array.getElem?_eq_some_iff.1 hg).1

/-- 'm[x] = v' of a map literal at the operation. -/
theorem wpList_mapPut {ops : Array Oper} {rest : List Oper} {o : Oper} {a : Act} {Q : Exit → Act → World → Prop} (hgd : o.guard = none) (mo xo vo : Operand) (ho : o.op = .insert t mo xo vo)
    (ht : P.underlying t = some (.map kt e)) (hk : P.underlying kt = some (.int kd)) (hik : Go.MapKept.IsKey (.int kd) (.int k x)) (hmo : a.eval mo = .map (some g)) (hxo : a.eval xo = .int k x) (hvo : a.eval vo = v) (h : MapIs w g k m) (hx : ∀ p ∈ m, p.1 ≠ x)
    (hK : ∀ w', MapIs w' g k (m ++ [(x, v)]) → w.grownBy w' (some g) → w'.heap.size = w.heap.size → wpList P ops Q rest (a.put o.dst undef) w') : wpList P ops Q (o :: rest) a w := by
  obtain ⟨w', hrun, h1, h2, h3⟩ := run_mapPut (v := v) ht hk hik h hx
  refine wpList_plain hgd fun K hK' => ?_
  unfold Oper.wp
  simp [execOp, ho, hmo, hxo, hvo, hrun, Result.andThen]
  exact hK' _ _ (hK w' h1 h2 h3)
end
end Go.Proofs.Ytmoenjmhogmcoaa
namespace Go.Proofs.Ytmoenjmhogmcoaa
set_option linter.unusedVariables false
set_option linter.unusedSimpArgs false
open Go.RowKit

/-- The fields of a kind, by their numbers. -/
def fs : Nat → List Int
  | 1 => [5, 6, 7]
  | 3 => [0]
  | 5 => [0, 1, 2, 3, 4]
  | 6 => [0, 1]
  | 7 => [0, 1, 2]
  | 8 => [0, 1]
  | 9 => [0, 8]
  | 10 => [5, 0]
  | 11 => [0]
  | 12 => [0, 1]
  | _ => []
def fmap (bs : Nat → Nat) (j : Nat) : List (Int × Value) := (List.range j).map fun i => (((i + 1 : Nat) : Int), Value.slice (some ⟨bs i, 0, none⟩) (fs (i + 1)).length (fs (i + 1)).length)
def fcells (k : Nat) : Array Value := ((fs k).map (Value.int .i64)).toArray
theorem fmap_succ (bs : Nat → Nat) (b j : Nat) : fmap (fun i => if i = j then b else bs i) (j + 1) = fmap bs j ++ [(((j + 1 : Nat) : Int), Value.slice (some ⟨b, 0, none⟩) (fs (j + 1)).length (fs (j + 1)).length)] := by
  unfold fmap
  rw [List.range_succ, List.map_append]
  congr 1
  · refine List.map_congr_left fun i hi => ?_
    have : i ≠ j := by have := List.mem_range.1 hi; omega
    simp [this]
  · simp
end Go.Proofs.Ytmoenjmhogmcoaa
namespace Go.Proofs.Ytmoenjmhogmcoaa
set_option linter.unusedVariables false
set_option linter.unusedSimpArgs false
open Go.RowKit Go.Lib

/-- Nothing below B, and no block that is no iterator of a text, has turned. -/
structure ItKp (B : Nat) (w w' : World) : Prop where
  os : w'.os = w.os
  tape : w'.tape = w.tape
  output : w'.output = w.output
  size : w.heap.size ≤ w'.heap.size
  low : ∀ k, k < B → w'.heap[k]? = w.heap[k]?
  rest : ∀ (k : Nat) (o : Obj), w.heap[k]? = some o → (∀ s p, o ≠ .stringIter s p) → w'.heap[k]? = some o

def IterKept (w w' : World) : Prop := ∀ (k : Nat) (s : ByteArray) (p : Nat), w.heap[k]? = some (.stringIter s p) → w'.heap[k]? = some (.stringIter s p)

theorem ItKp.iter {B : Nat} {w : World} (hB : B ≤ w.heap.size) (s : ByteArray) (p : Nat) : ItKp B w (w.iter s p) :=
  ⟨rfl, rfl, rfl, by simp [World.iter], fun k hk => Below.heap_alloc _ _ _ (by omega), fun k o h _ => by
    rw [← h]
    exact Below.heap_alloc _ _ _ (Array.getElem?_eq_some_iff.1 h).1⟩

theorem ItKp.iterAt {B : Nat} {w : World} {k : Nat} (hB : B ≤ k) (s : ByteArray) (p q : Nat) (h : w.heap[k]? = some (.stringIter s q)) : ItKp B w (w.iterAt k s p) :=
  ⟨rfl, rfl, rfl, by rw [iterAt_size]; exact Nat.le_refl _, fun j hj => iterAt_other _ _ _ _ _ (by omega), fun j o hj hn => by
    by_cases e : j = k
    · subst e
      rw [h] at hj
      exact absurd (Option.some.inj hj).symm (hn _ _)
    · rw [iterAt_other _ _ _ _ _ e]
      exact hj⟩

/-- What Check's yield keeps: its error in block g. -/
def ChkI (w0 : World) (g : Nat) (e : Int) (w : World) : Prop := w.heap[g]? = some (.cells #[.int .i64 e] 31 (0, 0)) ∧ Below w0.heap.size w0 w

theorem ChkI.stable {w0 : World} {g : Nat} (e : Int) (w w' : World) (h : ItKp w0.heap.size w w') (hI : ChkI w0 g e w) : ChkI w0 g e w' :=
  ⟨h.rest _ _ hI.1 (fun _ _ => by simp), hI.2.trans ⟨h.os, h.tape, h.output, h.size, h.low⟩⟩

theorem iterKept_setCell {w : World} {g : Nat} {cs : Array Value} {t : TypeId} {fz : Nat × Nat} (h : w.heap[g]? = some (.cells cs t fz)) (o : Nat) (v : Value) : IterKept w (w.setCell ⟨g, o, none⟩ v) := by
  intro k s p hk
  rw [Below.heap_setCell _ _ _ _ ?_]
  · exact hk
  · rintro rfl
    rw [h] at hk
    cases hk

theorem strTy : SlTy Try.prog 22 9 1 16 := slTy_mk (z := .string ⟨#[]⟩) Try.underlying22 (by kernel_rfl) rfl (by omega) (by omega)

end Go.Proofs.Ytmoenjmhogmcoaa
namespace Go.Proofs.Ytmoenjmhogmcoaa
set_option linter.unusedVariables false
set_option linter.unusedSimpArgs false
open Go.RowKit

def IdxB (b : Bool) (w : World) (e : Ending) (w' : World) : Prop := ∃ r : Int, e = .returned (.int .i64 r) ∧ decide (0 ≤ r) = b ∧ w = w'

set_option maxHeartbeats 1000000 in
theorem indexFunc_any (fn : FuncId) (p : ByteArray → Bool) (hcf : ∀ (args : Array Value) (w : World), (callFunc fn args).run Try.prog w = .ok (.enter fn args) w)
    (hfn : ∀ (x : ByteArray) (w : World), x.size ≤ maxLen → Calls Try.prog fn #[.string x] w fun e w' => e = .returned (.bool (p x)) ∧ w = w')
    (A : Option Addr) (n c B : Nat) (l : List ByteArray) (w : World) (hl : Rd w B 1 A n (l.map Value.string)) (hs : ∀ x ∈ l, x.size ≤ maxLen) (hn : n ≤ maxLen) :
    Calls Try.prog 51 #[.slice A n c, .func (.func fn) #[] #[]] w (IdxB (l.any p) w) := by
  have hln : l.length = n := by simpa using hl.len1
  unfold maxLen at hn
  have Hl := hide hl
  have Hln := hide hln
  have Hs := hide hs
  have Hfn := hide hfn
  clear hl hln hs hfn
  go_enter Try.func51, Try.ntmps51
  go_wp2_with fail
  go_loopg [8] n (fun gk i wr => ∃ k : Nat, gk = n - k ∧ k ≤ n ∧ i = .int .i64 k ∧ (l.take k).any p = false ∧ w = wr)
  case atStart => exact ⟨0, by omega, Nat.zero_le _, rfl, rfl, rfl⟩
  case round =>
    obtain ⟨k, hgk, hk, rfl, hno, rfl⟩ := hrel
    have Hgk := hide hgk
    have Hno := hide hno
    clear hgk hno
    by_cases hlt : k < n
    · obtain ⟨x, hx⟩ : ∃ x, l[k]? = some x := ⟨_, List.getElem?_eq_getElem (by rw [unhide Hln]; exact hlt)⟩
      obtain ⟨b1, o1, rfl, _, c1⟩ := (unhide Hl).at_ (k := k) (u := .string x) (by simp [hx])
      have hc := fun (w' : World) => (unhide Hfn) x w' ((unhide Hs) _ (List.mem_of_getElem? hx))
      cases hp : p x
      · have hno2 : (l.take (k + 1)).any p = false := by rw [List.take_add_one, hx]; simp [unhide Hno, hp]
        rw [hp] at hc
        have Hc := hide hc
        have Hno2 := hide hno2
        clear hc hno2 hp hx
        go_wp2_with ((with_reducible refine ((unhide Hc) _).mono ?_); rintro e w1 ⟨rfl, rfl⟩)
        go_roundg (n - (k + 1))
        case measure => have := unhide Hgk; omega
        case rel => exact ⟨k + 1, rfl, by omega, by go_num, unhide Hno2, rfl⟩
      · have hyes : l.any p = true := List.any_eq_true.2 ⟨x, List.mem_of_getElem? hx, hp⟩
        rw [hp] at hc
        have Hc := hide hc
        have Hyes := hide hyes
        clear hc hyes hp hx
        go_wp2_with ((with_reducible refine ((unhide Hc) _).mono ?_); rintro e w1 ⟨rfl, rfl⟩)
        go_ret
        exact ⟨k, rfl, by rw [unhide Hyes]; simp, rfl⟩
    · have hno2 : l.any p = false := by
        have := unhide Hno
        rwa [List.take_of_length_le (by have := unhide Hln; omega)] at this
      have Hno2 := hide hno2
      clear hno2
      go_wp2_with fail
      go_ret
      exact ⟨-1, rfl, by rw [unhide Hno2]; rfl, rfl⟩

theorem containsFunc_any (fn : FuncId) (p : ByteArray → Bool) (hcf : ∀ (args : Array Value) (w : World), (callFunc fn args).run Try.prog w = .ok (.enter fn args) w)
    (hfn : ∀ (x : ByteArray) (w : World), x.size ≤ maxLen → Calls Try.prog fn #[.string x] w fun e w' => e = .returned (.bool (p x)) ∧ w = w')
    (A : Option Addr) (n c B : Nat) (l : List ByteArray) (w : World) (hl : Rd w B 1 A n (l.map Value.string)) (hs : ∀ x ∈ l, x.size ≤ maxLen) (hn : n ≤ maxLen) :
    Calls Try.prog 41 #[.slice A n c, .func (.func fn) #[] #[]] w fun e w' => e = .returned (.bool (l.any p)) ∧ w = w' := by
  have hi := indexFunc_any fn p hcf hfn A n c B l w hl hs hn
  generalize l.any p = b at *
  have Hi := hide hi
  clear hi hl hs hfn hcf
  go_enter Try.func41, Try.ntmps41
  go_wp2_with (go_at_call 51; refine (unhide Hi).mono ?_; rintro e w1 ⟨r, rfl, hr, rfl⟩)
  go_ret
  exact ⟨ret_bool rfl, rfl⟩

theorem ck1_any (x : ByteArray) (w : World) (hx : x.size ≤ maxLen) : Calls Try.prog 42 #[.string x] w fun e w' => e = .returned (.bool (Cl.bigT x)) ∧ w = w' := by
  unfold maxLen at hx
  have e1 : Cl.bigT x = decide ((256 : Int) < (x.size : Int)) := by unfold Cl.bigT; rw [decide_eq_decide]; omega
  rw [e1]
  clear e1
  go_enter Try.func42, Try.ntmps42
  go_wp2_with fail
  go_ret
  exact ⟨rfl, rfl⟩
theorem nought_any (x : ByteArray) (w : World) : Calls Try.prog 43 #[.string x] w fun e w' => e = .returned (.bool (Cl.zeroT x)) ∧ w = w' := by
  have hc := fun (w' : World) => flipw (Try.strings_Contains_one x 0 w')
  have hcn := Lib.contains_iff_indexByte x.data.toList 0
  have e : decide (0 ≤ Lib.indexByte x.data.toList 0) = Cl.zeroT x := by
    unfold Cl.zeroT
    rw [← hcn]
  rw [e] at hc
  have Hc := hide hc
  clear hc hcn e
  go_enter Try.func43, Try.ntmps43
  go_wp2_with (go_at_call 33; refine ((unhide Hc) _).mono ?_; rintro e w1 ⟨rfl, rfl⟩)
  go_ret
  exact ⟨rfl, rfl⟩
theorem callFunc_ck1 (args : Array Value) (w : World) : (callFunc 42 args).run Try.prog w = .ok (.enter 42 args) w := by kernel_rfl
theorem callFunc_nought (args : Array Value) (w : World) : (callFunc 43 args).run Try.prog w = .ok (.enter 43 args) w := by kernel_rfl

set_option maxHeartbeats 1000000 in
theorem envCheck_any (A : Option Addr) (n c B : Nat) (l : List ByteArray) (w : World) (hl : Rd w B 1 A n (l.map Value.string)) (hs : ∀ x ∈ l, x.size ≤ maxLen) (hn : n ≤ maxLen) :
    Calls Try.prog 32 #[.slice A n c] w fun e w' => e = .returned (.int .i64 (Cl.envCk l)) ∧ w = w' := by
  have hln : l.length = n := by simpa using hl.len1
  have h1 := containsFunc_any 42 Cl.bigT callFunc_ck1 (fun x w' hx => ck1_any x w' hx) A n c B l w hl hs hn
  have h2 := containsFunc_any 43 Cl.zeroT callFunc_nought (fun x w' hx => nought_any x w') A n c B l w hl hs hn
  have hck : Cl.envCk l = if 32 < n then 12 else if l.any Cl.bigT then 12 else if l.any Cl.zeroT then 1 else 0 := by unfold Cl.envCk; rw [hln]
  rw [hck]
  unfold maxLen at hn
  generalize l.any Cl.bigT = b1 at *
  generalize l.any Cl.zeroT = b2 at *
  have H1 := hide h1
  have H2 := hide h2
  clear h1 h2 hck hl hs hln
  by_cases h32 : 32 < n
  · rw [if_pos h32]
    go_enter Try.func32, Try.ntmps32
    go_wp2_with fail
    go_ret
    exact ⟨rfl, rfl⟩
  · rw [if_neg h32]
    cases b1
    · cases b2
      all_goals
        go_enter Try.func32, Try.ntmps32
        go_wp2_with fail
        refine (unhide H1).mono ?_
        rintro e w1 ⟨rfl, rfl⟩
        go_wp2_with fail
        refine (unhide H2).mono ?_
        rintro e w1 ⟨rfl, rfl⟩
        go_wp2_with fail
        go_ret
        exact ⟨rfl, rfl⟩
    · go_enter Try.func32, Try.ntmps32
      go_wp2_with fail
      refine (unhide H1).mono ?_
      rintro e w1 ⟨rfl, rfl⟩
      go_wp2_with fail
      go_ret
      exact ⟨rfl, rfl⟩

set_option maxHeartbeats 1000000 in
theorem rhas_any (s : ByteArray) (w : World) (hs : s.size ≤ maxLen) : Calls Try.prog 47 #[.string s, .int .u8 0] w fun e w' => e = .returned (.bool (Cl.zeroT s)) ∧ w = w' := by
  unfold maxLen at hs
  obtain ⟨r, hr⟩ : ∃ r, Cl.zeroT s = r := ⟨_, rfl⟩
  rw [hr]
  have Hr := hide hr
  clear hr
  go_enter Try.func47, Try.ntmps47
  go_wp2_with fail
  go_loopg [5] s.size (fun gk i wr => ∃ k : Nat, gk = s.size - k ∧ k ≤ s.size ∧ i = .int .i64 k ∧ (s.data.toList.take k).contains 0 = false ∧ w = wr)
  case atStart => exact ⟨0, by omega, by omega, rfl, by simp, rfl⟩
  case round =>
    obtain ⟨k, hgk, hk, rfl, hz, rfl⟩ := hrel
    have Hz := hide hz
    have Hgk := hide hgk
    clear hz hgk
    by_cases hlt : k < s.size
    · by_cases hc : s[k] = 0
      · have b2 : (((s[k].toNat : Nat) : Int) == 0) = true := by rw [byte_0]; simpa using hc
        have hm : Cl.zeroT s = true := by
          unfold Cl.zeroT
          rw [List.contains_iff_mem, ← hc]
          exact Array.getElem_mem_toList _
        rw [unhide Hr] at hm
        subst hm
        clear hc
        go_wp2
        go_ret
        exact ⟨rfl, rfl⟩
      · have b2 : (((s[k].toNat : Nat) : Int) == 0) = false := by rw [byte_0]; simpa using hc
        have hz : (s.data.toList.take (k + 1)).contains 0 = false := by
          rw [List.take_succ_eq_append_getElem (by simpa using hlt), List.contains_append, unhide Hz]
          simp only [Bool.false_or]
          exact by simpa using fun h => hc h.symm
        have Hz2 := hide hz
        clear hz hc
        go_wp2
        go_roundg (s.size - (k + 1))
        case measure => have := unhide Hgk; omega
        case rel => exact ⟨k + 1, rfl, by omega, by go_num, unhide Hz2, rfl⟩
    · have hz : Cl.zeroT s = false := by
        have := unhide Hz
        unfold Cl.zeroT
        rwa [List.take_of_length_le (by simp; omega)] at this
      rw [unhide Hr] at hz
      subst hz
      go_wp2
      go_ret
      exact ⟨rfl, rfl⟩

set_option maxHeartbeats 2000000 in
theorem renvCheck_any (A : Option Addr) (n c B : Nat) (l : List ByteArray) (w : World) (hl : Rd w B 1 A n (l.map Value.string)) (hs : ∀ x ∈ l, x.size ≤ maxLen) (hn : n ≤ maxLen) :
    Calls Try.prog 35 #[.slice A n c] w fun e w' => e = .returned (.int .i64 (Cl.envCk l)) ∧ w = w' := by
  have hln : l.length = n := by simpa using hl.len1
  have hck : Cl.envCk l = if 32 < n then 12 else if l.any Cl.bigT then 12 else if l.any Cl.zeroT then 1 else 0 := by unfold Cl.envCk; rw [hln]
  unfold maxLen at hn
  obtain ⟨r, hr⟩ : ∃ r, Cl.envCk l = r := ⟨_, rfl⟩
  rw [hr]
  rw [hr] at hck
  have Hck := hide hck
  have Hl := hide hl
  have Hs := hide hs
  have Hln := hide hln
  clear hck hl hs hln hr
  by_cases h32 : 32 < n
  · have h := unhide Hck
    rw [if_pos h32] at h
    subst h
    go_enter Try.func35, Try.ntmps35
    go_wp2_with fail
    go_ret
    exact ⟨rfl, rfl⟩
  have hck := unhide Hck
  rw [if_neg h32] at hck
  replace Hck := hide hck
  clear hck
  go_enter Try.func35, Try.ntmps35
  go_wp2_with fail
  go_loopg [3] n (fun gk i wr => ∃ k : Nat, gk = n - k ∧ k ≤ n ∧ i = .int .i64 k ∧ (l.take k).any Cl.bigT = false ∧ w = wr)
  case atStart => exact ⟨0, by omega, by omega, rfl, rfl, rfl⟩
  case round =>
  obtain ⟨k, hgk, hk, rfl, hno, rfl⟩ := hrel
  have Hgk := hide hgk
  have Hno := hide hno
  clear hgk hno
  rcases Nat.lt_or_ge k n with hlt | hge
  case inl =>
    obtain ⟨x, hx⟩ : ∃ x, l[k]? = some x := ⟨_, List.getElem?_eq_getElem (by rw [unhide Hln]; exact hlt)⟩
    obtain ⟨b1, o1, rfl, _, c1⟩ := (unhide Hl).at_ (k := k) (u := .string x) (by simp [hx])
    have hxs := (unhide Hs) _ (List.mem_of_getElem? hx)
    unfold maxLen at hxs
    by_cases hb : 256 < x.size
    · have hyes : l.any Cl.bigT = true := List.any_eq_true.2 ⟨x, List.mem_of_getElem? hx, by simp [Cl.bigT, hb]⟩
      have h := unhide Hck
      rw [hyes, if_pos rfl] at h
      subst h
      clear hx hyes
      go_wp2_with fail
      go_ret
      exact ⟨rfl, rfl⟩
    · have hno2 : (l.take (k + 1)).any Cl.bigT = false := by rw [List.take_add_one, hx]; simp [unhide Hno, Cl.bigT]; omega
      have Hno2 := hide hno2
      clear hno2 hx
      go_wp2_with fail
      go_roundg (n - (k + 1))
      case measure => have := unhide Hgk; omega
      case rel => exact ⟨k + 1, rfl, by omega, by go_num, unhide Hno2, rfl⟩
  obtain rfl : k = n := by omega
  have hno2 : l.any Cl.bigT = false := by
    have := unhide Hno
    rwa [List.take_of_length_le (by have := unhide Hln; omega)] at this
  have hck := unhide Hck
  rw [hno2] at hck
  simp only [Bool.false_eq_true, if_false] at hck
  replace Hck := hide hck
  clear hck hno2 Hno Hgk
  go_wp2_with fail
  go_loopg [4] k (fun gk i wr => ∃ j : Nat, gk = k - j ∧ j ≤ k ∧ i = .int .i64 j ∧ (l.take j).any Cl.zeroT = false ∧ w = wr)
  case atStart => exact ⟨0, by omega, by omega, rfl, rfl, rfl⟩
  case round =>
  obtain ⟨j, hgk, hj, rfl, hno, rfl⟩ := hrel
  have Hgk := hide hgk
  have Hno := hide hno
  clear hgk hno
  rcases Nat.lt_or_ge j k with hlt | hge2
  case inl =>
    obtain ⟨x, hx⟩ : ∃ x, l[j]? = some x := ⟨_, List.getElem?_eq_getElem (by rw [unhide Hln]; exact hlt)⟩
    obtain ⟨b1, o1, rfl, _, c1⟩ := (unhide Hl).at_ (k := j) (u := .string x) (by simp [hx])
    have hh := fun (w' : World) => rhas_any x w' ((unhide Hs) _ (List.mem_of_getElem? hx))
    cases hb : Cl.zeroT x
    · have hno2 : (l.take (j + 1)).any Cl.zeroT = false := by rw [List.take_add_one, hx]; simp [unhide Hno, hb]
      rw [hb] at hh
      have Hno2 := hide hno2
      have Hh := hide hh
      clear hno2 hx hh hb
      go_wp2_with (go_at_call 47; refine ((unhide Hh) _).mono ?_; rintro e w1 ⟨rfl, rfl⟩)
      go_roundg (k - (j + 1))
      case measure => have := unhide Hgk; omega
      case rel => exact ⟨j + 1, rfl, by omega, by go_num, unhide Hno2, rfl⟩
    · have hyes : l.any Cl.zeroT = true := List.any_eq_true.2 ⟨x, List.mem_of_getElem? hx, hb⟩
      have h := unhide Hck
      rw [hyes, if_pos rfl] at h
      subst h
      rw [hb] at hh
      have Hh := hide hh
      clear hx hyes hh hb
      go_wp2_with (go_at_call 47; refine ((unhide Hh) _).mono ?_; rintro e w1 ⟨rfl, rfl⟩)
      go_ret
      exact ⟨rfl, rfl⟩
  have hno3 : l.any Cl.zeroT = false := by
    have := unhide Hno
    rwa [List.take_of_length_le (by have := unhide Hln; omega)] at this
  have h := unhide Hck
  rw [hno3] at h
  simp only [Bool.false_eq_true, if_false] at h
  subst h
  clear hno3
  go_wp2_with fail
  go_ret
  exact ⟨rfl, rfl⟩

end Go.Proofs.Ytmoenjmhogmcoaa
namespace Go.Proofs.Ytmoenjmhogmcoaa
set_option linter.unusedVariables false
set_option linter.unusedSimpArgs false
open Go.RowKit

/-- Pairs as cells. -/
def auxC : List (Nat × Nat) → List Value
  | [] => []
  | a :: r => .int .u64 (a.1 : Nat) :: .int .u64 (a.2 : Nat) :: auxC r
theorem auxC_len (l : List (Nat × Nat)) : (auxC l).length = l.length * 2 := by
  induction l with
  | nil => rfl
  | cons a r ih => simp [auxC, ih]; omega
theorem auxC_app (a b : List (Nat × Nat)) : auxC (a ++ b) = auxC a ++ auxC b := by
  induction a with
  | nil => rfl
  | cons s r ih => simp [auxC, ih]
theorem auxC_at {l : List (Nat × Nat)} {k : Nat} {a : Nat × Nat} (h : l[k]? = some a) : (auxC l)[k * 2]? = some (.int .u64 (a.1 : Nat)) ∧ (auxC l)[k * 2 + 1]? = some (.int .u64 (a.2 : Nat)) := by
  induction l generalizing k with
  | nil => simp at h
  | cons s r ih =>
    cases k with
    | zero => simp at h; subst h; exact ⟨rfl, rfl⟩
    | succ k =>
      obtain ⟨h1, h2⟩ := ih (k := k) (by simpa using h)
      rw [show (k + 1) * 2 = k * 2 + 2 from by omega]
      exact ⟨by simpa [auxC] using h1, by simpa [auxC] using h2⟩
theorem Rd.aux {w : World} {B n k : Nat} {A : Option Addr} {l : List (Nat × Nat)} {a : Nat × Nat} (h : Rd w B 2 A n (auxC l)) (hk : l[k]? = some a) : ∃ b o, A = some ⟨b, o, none⟩ ∧ b < B ∧ w.cell? ⟨b, o + k * 2, none⟩ = some (.int .u64 (a.1 : Nat)) ∧ w.cell? ⟨b, o + k * 2 + 1, none⟩ = some (.int .u64 (a.2 : Nat)) := by
  obtain ⟨h1, h2⟩ := auxC_at hk
  obtain ⟨b, o, e, hb, hc⟩ := h.open_ (fun e => by rw [e] at h1; simp at h1)
  exact ⟨b, o, e, hb, hc _ _ h1, hc _ _ h2⟩
theorem Rd.aux_len {w : World} {B n : Nat} {A : Option Addr} {l : List (Nat × Nat)} (h : Rd w B 2 A n (auxC l)) : l.length = n := by have := h.1; rw [auxC_len] at this; omega
def Stk.bad (a : Nat × Nat) : Bool := decide (a.1 = 0) || decide (a.1 = 31)
/-- May a program begin so? -/
def Stk.mayE (argv env : List ByteArray) (aux : List (Nat × Nat)) (path : ByteArray) : Int :=
  if Cl.envCk argv ≠ 0 then Cl.envCk argv else if Cl.envCk env ≠ 0 then Cl.envCk env else if 200 < path.size ∨ 16 < aux.length then 12 else if Cl.zeroT path then 1 else if aux.any Stk.bad then 1 else 0
theorem any_take {α : Type} {p : α → Bool} {l : List α} {k : Nat} {x : α} (hx : l[k]? = some x) (h : (l.take k).any p = false) (hp : p x = false) : (l.take (k + 1)).any p = false := by
  rw [List.take_add_one, hx, List.any_append, h]
  simp [hp]
theorem any_mem {α : Type} {p : α → Bool} {l : List α} {k : Nat} {x : α} (hx : l[k]? = some x) (hp : p x = true) : l.any p = true := List.any_eq_true.2 ⟨x, List.mem_of_getElem? hx, hp⟩
/-- What is handed in. -/
structure StkIn (w : World) (B : Nat) (A1 : Option Addr) (n1 : Nat) (argv : List ByteArray) (A2 : Option Addr) (n2 : Nat) (env : List ByteArray) (A3 : Option Addr) (n3 : Nat) (aux : List (Nat × Nat)) : Prop where
  r1 : Rd w B 1 A1 n1 (argv.map Value.string)
  r2 : Rd w B 1 A2 n2 (env.map Value.string)
  r3 : Rd w B 2 A3 n3 (auxC aux)
theorem StkIn.below {w w' : World} {B n1 n2 n3 : Nat} {A1 A2 A3 : Option Addr} {argv env : List ByteArray} {aux : List (Nat × Nat)} (h : StkIn w B A1 n1 argv A2 n2 env A3 n3 aux) (hb : Below B w w') : StkIn w' B A1 n1 argv A2 n2 env A3 n3 aux := ⟨h.r1.below hb, h.r2.below hb, h.r3.below hb⟩
/-- Nothing is longer than it may be. -/
structure StkFit (argv env : List ByteArray) (aux : List (Nat × Nat)) (path : ByteArray) : Prop where
  a1 : argv.length ≤ 4294967296
  a2 : ∀ x ∈ argv, x.size ≤ 4294967296
  e1 : env.length ≤ 4294967296
  e2 : ∀ x ∈ env, x.size ≤ 4294967296
  x1 : aux.length ≤ 4294967296
  x2 : ∀ a ∈ aux, a.1 < 18446744073709551616 ∧ a.2 < 18446744073709551616
  p : path.size ≤ 4294967296

set_option maxRecDepth 100000 in
set_option maxHeartbeats 4000000 in
theorem scheck_any (A1 A2 A3 : Option Addr) (n1 c1 n2 c2 n3 c3 B : Nat) (argv env : List ByteArray) (aux : List (Nat × Nat)) (path : ByteArray) (w : World) (hin : StkIn w B A1 n1 argv A2 n2 env A3 n3 aux) (hB : B ≤ w.heap.size) (hf : StkFit argv env aux path) :
    Calls Try.prog 19 #[.slice A1 n1 c1, .slice A2 n2 c2, .slice A3 n3 c3, .string path] w fun e w' => e = .returned (.int .i64 (Stk.mayE argv env aux path)) ∧ Below w.heap.size w w' := by
  have hn1 : argv.length = n1 := by simpa using hin.r1.len1
  have hn2 : env.length = n2 := by simpa using hin.r2.len1
  have hn3 : aux.length = n3 := hin.r3.aux_len
  have K1 := envCheck_any A1 n1 c1 B argv w hin.r1 (fun x hx => by have := hf.a2 x hx; unfold maxLen; omega) (by have := hf.a1; unfold maxLen; omega)
  have K2 := envCheck_any A2 n2 c2 B env w hin.r2 (fun x hx => by have := hf.e2 x hx; unfold maxLen; omega) (by have := hf.e1; unfold maxLen; omega)
  have K3 := flipw (Try.strings_Contains_one path 0 w)
  have hcn := Lib.contains_iff_indexByte path.data.toList 0
  have e3 : decide (0 ≤ Lib.indexByte path.data.toList 0) = Cl.zeroT path := by
    unfold Cl.zeroT
    rw [← hcn]
  rw [e3] at K3
  have hp := hf.p
  have hx1 := hf.x1
  rw [hn3] at hx1
  obtain ⟨res, hres⟩ : ∃ res, Stk.mayE argv env aux path = res := ⟨_, rfl⟩
  rw [hres]
  unfold Stk.mayE at hres
  rw [hn3] at hres
  have Hr3 := hide hin.r3
  have Hn3 := hide hn3
  clear hin hf hcn e3 hn1 hn2 hn3
  generalize Cl.envCk argv = v1 at *
  generalize Cl.envCk env = v2 at *
  generalize Cl.zeroT path = z at *
  replace K1 := hide K1
  replace K2 := hide K2
  replace K3 := hide K3
  go_enter Try.func19, Try.ntmps19
  go_wp2_with fail
  refine (unhide K1).mono ?_
  rintro e w1 ⟨rfl, rfl⟩
  by_cases h1 : v1 = 0
  case neg =>
    rw [if_pos h1] at hres
    subst hres
    have t1 : (v1 != 0) = true := by simpa using h1
    clear h1
    go_wp2_with fail
    go_ret
    exact ⟨rfl, Below.refl _ _⟩
  subst h1
  rw [if_neg (by simp)] at hres
  have Hres := hide hres
  clear hres
  go_wp2_with fail
  refine (unhide K2).mono ?_
  rintro e w1 ⟨rfl, rfl⟩
  by_cases h2 : v2 = 0
  case neg =>
    have hres := unhide Hres
    rw [if_pos h2] at hres
    subst hres
    have t1 : (v2 != 0) = true := by simpa using h2
    clear h2 Hres
    go_wp2_with fail
    go_ret
    exact ⟨rfl, Below.refl _ _⟩
  subst h2
  have hres := unhide Hres
  rw [if_neg (by simp)] at hres
  replace Hres := hide hres
  clear hres
  by_cases h3 : 200 < path.size
  · have hres := unhide Hres
    rw [if_pos (.inl h3)] at hres
    subst hres
    have h3' : (200 : Int) < (path.size : Int) := by omega
    clear Hres
    go_wp2_with fail
    go_ret
    exact ⟨rfl, Below.refl _ _⟩
  have h3' : ¬ (200 : Int) < (path.size : Int) := by omega
  by_cases h4 : 16 < n3
  · have hres := unhide Hres
    rw [if_pos (.inr h4)] at hres
    subst hres
    have h4' : (16 : Int) < (n3 : Int) := by omega
    clear Hres
    go_wp2_with fail
    go_ret
    exact ⟨rfl, Below.refl _ _⟩
  have h4' : ¬ (16 : Int) < (n3 : Int) := by omega
  have hres := unhide Hres
  rw [if_neg (by omega)] at hres
  replace Hres := hide hres
  clear hres h3 h4
  go_wp2_with fail
  refine (unhide K3).mono ?_
  rintro e w1 ⟨rfl, rfl⟩
  cases z
  case true =>
    have hres := unhide Hres
    rw [if_pos rfl] at hres
    subst hres
    clear Hres
    go_wp2_with fail
    go_ret
    exact ⟨rfl, Below.refl _ _⟩
  have hres := unhide Hres
  rw [if_neg (by simp)] at hres
  replace Hres := hide hres
  clear hres
  go_wp2_with fail
  go_loopg [35] n3 (fun gk iv wr => ∃ k : Nat, gk = n3 - k ∧ k ≤ n3 ∧ iv = .int .i64 k ∧ (aux.take k).any Stk.bad = false ∧ Below w.heap.size w wr)
  case atStart => exact ⟨0, by omega, by omega, rfl, by simp, Below.refl _ _⟩
  case round =>
  obtain ⟨k, hgk, hk, rfl, hno, hbr⟩ := hrel
  have Hgk := hide hgk
  have Hno := hide hno
  have Hbr := hide hbr
  clear hgk hno hbr
  rcases Nat.lt_or_ge k n3 with hlt | hge
  case inr =>
    have hres := unhide Hres
    have hno := unhide Hno
    rw [List.take_of_length_le (by rw [unhide Hn3]; omega)] at hno
    rw [hno, if_neg (by simp)] at hres
    subst hres
    clear Hres hno
    go_wp2_with fail
    go_ret
    exact ⟨rfl, unhide Hbr⟩
  obtain ⟨a, ha⟩ : ∃ a, aux[k]? = some a := ⟨_, List.getElem?_eq_getElem (by rw [unhide Hn3]; exact hlt)⟩
  obtain ⟨b, o, rfl, hb, y1, y2⟩ := ((unhide Hr3).below ((unhide Hbr).mono hB)).aux ha
  have hbw : Below w.heap.size w (wr.alloc (.cells #[.int .u64 (a.1 : Nat), .int .u64 (a.2 : Nat)] 43)) := (unhide Hbr).alloc (unhide Hbr).size _
  have Hbw := hide hbw
  have hbad : Stk.bad a = (decide (a.1 = 0) || decide (a.1 = 31)) := rfl
  by_cases g1 : a.1 = 0
  · have hm := any_mem ha (p := Stk.bad) (by rw [hbad]; simp [g1])
    have hres := unhide Hres
    rw [hm, if_pos rfl] at hres
    subst hres
    have t1 : (((a.1 : Nat) : Int) == 0) = true := by simp; omega
    clear Hres hm hbad g1 hbw ha
    go_wp2_with fail
    go_ret
    exact ⟨rfl, unhide Hbw⟩
  have t1 : (((a.1 : Nat) : Int) == 0) = false := by simp; omega
  by_cases g2 : a.1 = 31
  · have hm := any_mem ha (p := Stk.bad) (by rw [hbad]; simp [g2])
    have hres := unhide Hres
    rw [hm, if_pos rfl] at hres
    subst hres
    have t2 : (((a.1 : Nat) : Int) == 31) = true := by simp; omega
    clear Hres hm hbad g1 g2 hbw ha
    go_wp2_with fail
    go_ret
    exact ⟨rfl, unhide Hbw⟩
  have t2 : (((a.1 : Nat) : Int) == 31) = false := by simp; omega
  have hno2 := any_take ha (unhide Hno) (by rw [hbad]; simp [g1, g2])
  have Hno2 := hide hno2
  clear hbad g1 g2 hbw ha hno2
  go_wp2_with fail
  go_roundg (n3 - (k + 1))
  case measure => have := unhide Hgk; omega
  case rel => exact ⟨k + 1, rfl, by omega, by go_num, unhide Hno2, unhide Hbw⟩

set_option maxRecDepth 100000 in
set_option maxHeartbeats 4000000 in
theorem rmay_any (A1 A2 A3 : Option Addr) (n1 c1 n2 c2 n3 c3 B : Nat) (argv env : List ByteArray) (aux : List (Nat × Nat)) (path : ByteArray) (w : World) (hin : StkIn w B A1 n1 argv A2 n2 env A3 n3 aux) (hB : B ≤ w.heap.size) (hf : StkFit argv env aux path) :
    Calls Try.prog 23 #[.slice A1 n1 c1, .slice A2 n2 c2, .slice A3 n3 c3, .string path] w fun e w' => e = .returned (.int .i64 (Stk.mayE argv env aux path)) ∧ w = w' := by
  have hn1 : argv.length = n1 := by simpa using hin.r1.len1
  have hn2 : env.length = n2 := by simpa using hin.r2.len1
  have hn3 : aux.length = n3 := hin.r3.aux_len
  have K1 := renvCheck_any A1 n1 c1 B argv w hin.r1 (fun x hx => by have := hf.a2 x hx; unfold maxLen; omega) (by have := hf.a1; unfold maxLen; omega)
  have K2 := renvCheck_any A2 n2 c2 B env w hin.r2 (fun x hx => by have := hf.e2 x hx; unfold maxLen; omega) (by have := hf.e1; unfold maxLen; omega)
  have hp := hf.p
  have hx1 := hf.x1
  rw [hn3] at hx1
  obtain ⟨res, hres⟩ : ∃ res, Stk.mayE argv env aux path = res := ⟨_, rfl⟩
  rw [hres]
  unfold Stk.mayE at hres
  rw [hn3] at hres
  have Hr3 := hide hin.r3
  have Hn3 := hide hn3
  obtain ⟨z, hz⟩ : ∃ z, Cl.zeroT path = z := ⟨_, rfl⟩
  rw [hz] at hres
  have Hzz := hide hz
  clear hin hf hn1 hn2 hn3 hz
  generalize Cl.envCk argv = v1 at *
  generalize Cl.envCk env = v2 at *
  replace K1 := hide K1
  replace K2 := hide K2
  go_enter Try.func23, Try.ntmps23
  go_wp2_with fail
  refine (unhide K1).mono ?_
  rintro e w1 ⟨rfl, rfl⟩
  by_cases h1 : v1 = 0
  case neg =>
    rw [if_pos h1] at hres
    subst hres
    have t1 : (v1 != 0) = true := by simpa using h1
    clear h1
    go_wp2_with fail
    go_ret
    exact ⟨rfl, rfl⟩
  subst h1
  rw [if_neg (by simp)] at hres
  have Hres := hide hres
  clear hres
  go_wp2_with fail
  refine (unhide K2).mono ?_
  rintro e w1 ⟨rfl, rfl⟩
  by_cases h2 : v2 = 0
  case neg =>
    have hres := unhide Hres
    rw [if_pos h2] at hres
    subst hres
    have t1 : (v2 != 0) = true := by simpa using h2
    clear h2 Hres
    go_wp2_with fail
    go_ret
    exact ⟨rfl, rfl⟩
  subst h2
  have hres := unhide Hres
  rw [if_neg (by simp)] at hres
  replace Hres := hide hres
  clear hres
  by_cases h3 : 200 < path.size
  · have hres := unhide Hres
    rw [if_pos (.inl h3)] at hres
    subst hres
    have h3' : (200 : Int) < (path.size : Int) := by omega
    clear Hres
    go_wp2_with fail
    go_ret
    exact ⟨rfl, rfl⟩
  have h3' : ¬ (200 : Int) < (path.size : Int) := by omega
  by_cases h4 : 16 < n3
  · have hres := unhide Hres
    rw [if_pos (.inr h4)] at hres
    subst hres
    have h4' : (16 : Int) < (n3 : Int) := by omega
    clear Hres
    go_wp2_with fail
    go_ret
    exact ⟨rfl, rfl⟩
  have h4' : ¬ (16 : Int) < (n3 : Int) := by omega
  have hres := unhide Hres
  rw [if_neg (by omega)] at hres
  replace Hres := hide hres
  clear hres h3 h4
  go_wp2_with fail
  go_loopg [10] path.size (fun gk i wr => ∃ k : Nat, gk = path.size - k ∧ k ≤ path.size ∧ i = .int .i64 k ∧ (path.data.toList.take k).contains 0 = false ∧ w = wr)
  case atStart => exact ⟨0, by omega, by omega, rfl, by simp, rfl⟩
  case round =>
  obtain ⟨k, hgk, hk, rfl, hz, rfl⟩ := hrel
  have Hz := hide hz
  have Hgk := hide hgk
  clear hz hgk
  rcases Nat.lt_or_ge k path.size with hlt | hge
  case inl =>
    by_cases hc : path[k] = 0
    · have b2 : (((path[k].toNat : Nat) : Int) == 0) = true := by rw [byte_0]; simpa using hc
      have hm : Cl.zeroT path = true := by
        unfold Cl.zeroT
        rw [List.contains_iff_mem, ← hc]
        exact Array.getElem_mem_toList _
      rw [unhide Hzz] at hm
      subst hm
      have hres := unhide Hres
      rw [if_pos rfl] at hres
      subst hres
      clear hc Hres
      go_wp2_with fail
      go_ret
      exact ⟨rfl, rfl⟩
    · have b2 : (((path[k].toNat : Nat) : Int) == 0) = false := by rw [byte_0]; simpa using hc
      have hz : (path.data.toList.take (k + 1)).contains 0 = false := by
        rw [List.take_succ_eq_append_getElem (by simpa using hlt), List.contains_append, unhide Hz]
        simp only [Bool.false_or]
        exact by simpa using fun h => hc h.symm
      have Hz2 := hide hz
      clear hz hc
      go_wp2_with fail
      go_roundg (path.size - (k + 1))
      case measure => have := unhide Hgk; omega
      case rel => exact ⟨k + 1, rfl, by omega, by go_num, unhide Hz2, rfl⟩
  have hz : Cl.zeroT path = false := by
    have := unhide Hz
    unfold Cl.zeroT
    rwa [List.take_of_length_le (by simp; omega)] at this
  rw [unhide Hzz] at hz
  subst hz
  have hres := unhide Hres
  rw [if_neg (by simp)] at hres
  replace Hres := hide hres
  have d1 : decide (k < path.size) = false := by simp; omega
  clear hres hge Hgk Hz hk
  go_wp2_with fail
  go_loopg [11] n3 (fun gk iv wr => ∃ k : Nat, gk = n3 - k ∧ k ≤ n3 ∧ iv = .int .i64 k ∧ (aux.take k).any Stk.bad = false ∧ w = wr)
  case atStart => exact ⟨0, by omega, by omega, rfl, by simp, rfl⟩
  case round =>
  obtain ⟨k2, hgk, hk, rfl, hno, rfl⟩ := hrel
  have Hgk := hide hgk
  have Hno := hide hno
  clear hgk hno
  rcases Nat.lt_or_ge k2 n3 with hlt | hge
  case inr =>
    have hres := unhide Hres
    have hno := unhide Hno
    rw [List.take_of_length_le (by rw [unhide Hn3]; omega)] at hno
    rw [hno, if_neg (by simp)] at hres
    subst hres
    clear Hres hno
    go_wp2_with fail
    go_ret
    exact ⟨rfl, rfl⟩
  obtain ⟨a, ha⟩ : ∃ a, aux[k2]? = some a := ⟨_, List.getElem?_eq_getElem (by rw [unhide Hn3]; exact hlt)⟩
  obtain ⟨b, o, rfl, hb, y1, y2⟩ := (unhide Hr3).aux ha
  have hbad : Stk.bad a = (decide (a.1 = 0) || decide (a.1 = 31)) := rfl
  by_cases g1 : a.1 = 0
  · have hm := any_mem ha (p := Stk.bad) (by rw [hbad]; simp [g1])
    have hres := unhide Hres
    rw [hm, if_pos rfl] at hres
    subst hres
    have t1 : (((a.1 : Nat) : Int) == 0) = true := by simp; omega
    clear Hres hm hbad g1 ha
    go_wp2_with fail
    go_ret
    exact ⟨rfl, rfl⟩
  have t1 : (((a.1 : Nat) : Int) == 0) = false := by simp; omega
  by_cases g2 : a.1 = 31
  · have hm := any_mem ha (p := Stk.bad) (by rw [hbad]; simp [g2])
    have hres := unhide Hres
    rw [hm, if_pos rfl] at hres
    subst hres
    have t2 : (((a.1 : Nat) : Int) == 31) = true := by simp; omega
    clear Hres hm hbad g1 g2 ha
    go_wp2_with fail
    go_ret
    exact ⟨rfl, rfl⟩
  have t2 : (((a.1 : Nat) : Int) == 31) = false := by simp; omega
  have hno2 := any_take ha (unhide Hno) (by rw [hbad]; simp [g1, g2])
  have Hno2 := hide hno2
  clear hbad g1 g2 ha hno2
  go_wp2_with fail
  go_roundg (n3 - (k2 + 1))
  case measure => have := unhide Hgk; omega
  case rel => exact ⟨k2 + 1, rfl, by omega, by go_num, unhide Hno2, rfl⟩
end Go.Proofs.Ytmoenjmhogmcoaa
namespace Go.Proofs.Ytmoenjmhogmcoaa
set_option linter.unusedVariables false
set_option linter.unusedSimpArgs false
open Go.RowKit

theorem setRow_same {w : World} {g : Nat} {cs : Array Value} {t : TypeId} {fr : Nat × Nat} (h : w.heap[g]? = some (.cells cs t fr)) : w.setRow g cs = w := by
  have h1 := setRow_heap w g cs cs t fr h
  have h2 : (w.setRow g cs).heap = w.heap := by
    apply Array.ext_getElem?
    intro i
    by_cases e : i = g
    · subst e; rw [h1, h]
    · exact setRow_other w g i cs e
  unfold World.setRow at h2 ⊢
  simp only at h2
  rw [h2]
section
variable {P : Program} {ops : Array Oper} {W : World} {o : Oper} {a : Act}
theorem yields_load (hw : Region.wanted o (yielded ops a.tmps) = true) (ty : TypeId) (x : Operand) (ho : o.op = .load ty x)
    (g : Nat) (hx : a.eval x = .pointer (some ⟨g, 0, none⟩)) (t : TypeId) (cs : Array Value) (fr : Nat × Nat) (d : TypeDesc) (hg : W.heap[g]? = some (.cells cs t fr))
    (hu : P.underlying ty = some d) (hd : (match d with | .struct _ | .array _ _ => true | _ => false) = true) (hi : (P.info? ty).map (·.size) = some cs.size) :
    YieldsIf P ops (fun w' => w' = W) o (.agg cs) a := by
  refine .inl ⟨hw, fun w' hw' => ?_⟩
  subst hw'
  unfold execOp
  simp only [ho, hx, Instr.loadAt, Instr.sureAddr, Sem.run_bind, Sem.run_pure, Result.andThen_ok, run_loadVar_row _ g t ty cs fr d hg hu hd hi]
variable {S : World → Prop}
theorem yields_move (hw : Region.wanted o (yielded ops a.tmps) = true) (x : Operand) (ho : o.op = .move x) (v : Value) (hx : a.eval x = v) : YieldsIf P ops S o v a := by
  refine .inl ⟨hw, fun w' hw' => ?_⟩
  subst hx
  unfold execOp
  simp [ho]
theorem yields_assign (hw : Region.wanted o (yielded ops a.tmps) = true) (x : Operand) (ho : o.op = .assign x) (v : Value) (hx : a.eval x = v) : YieldsIf P ops S o v a := by
  refine .inl ⟨hw, fun w' hw' => ?_⟩
  subst hx
  unfold execOp
  simp [ho]
end
theorem takeD {P : Program} {md : Region.Mode} {ops : Array Oper} {Q : Exit → Act → World → Prop} {S : World → Prop} {i : Nat} {oi : Oper} {v : Value} {d : Option Tmp} {fuel : Nat} {listed : Array Bool} {a : Act} {w : World} (hi : ops[i]? = some oi) (hd : oi.dst = d)
    (hs : Region.noSelect ops = true) (hf : Region.free md ops listed i = true) (hr : (Region.ready md ops listed).contains i = true)
    (hQ : ∀ c a w, Q (.panic c) (a.put d v) w → Q (.panic c) a w) (hy : YieldsIf P ops S oi v a) (hS : S w)
    (h : wpAnyH P md ops Q S fuel (listed.setIfInBounds i true) (a.put d v) w) : wpAnyH P md ops Q S (fuel + 1) listed a w := by
  subst hd
  exact wpAnyH_take hi hs hf hr hQ hy hS h
/-- A store of what stands there already, where nothing else may come up. -/
theorem storeD {P : Program} {md : Region.Mode} {ops : Array Oper} {Q : Exit → Act → World → Prop} {W : World} {i : Nat} {oi : Oper} {fuel : Nat} {listed : Array Bool} {a : Act} (hi : ops[i]? = some oi) (hd : oi.dst = none)
    (hr : Region.ready md ops listed = [i]) (hw : Region.wanted oi (yielded ops a.tmps) = true) (ty : TypeId) (x y : Operand) (ho : oi.op = .store ty x y)
    (g : Nat) (cs : Array Value) (hx : a.eval x = .pointer (some ⟨g, 0, none⟩)) (hy : a.eval y = .agg cs)
    (t : TypeId) (hg : W.heap[g]? = some (.cells cs t (0, 0))) (hsz : (P.info? ty).map (·.size) = some cs.size) (h1 : cs.all (·.oneCell') = true)
    (h : wpAnyH P md ops Q (fun w' => w' = W) fuel (listed.setIfInBounds i true) a W) : wpAnyH P md ops Q (fun w' => w' = W) (fuel + 1) listed a W := by
  refine wpAnyH_ready (rs := [i]) hr (by simp) ?_
  refine AllReadyH.cons hi (fun K hK => ?_) AllReadyH.nil
  rw [if_pos hw]
  refine wp_store_row ty x y ho g cs hx hy t cs hg hsz rfl h1 ?_
  rw [setRow_same hg, hd]
  exact hK.out _ _ rfl (fun _ => h)
section
variable {ops : Array Oper} {W : World} {o : Oper} {a : Act} {S : World → Prop}
theorem yields_len (hw : Region.wanted o (yielded ops a.tmps) = true) (x : Operand) (ho : o.op = .call { callee := .builtin .len, args := #[x], argTypes := #[29] }) (A : Option Addr) (n c : Nat) (hx : a.eval x = .slice A n c) : YieldsIf Try.prog ops S o (.int .i64 n) a := by
  refine .inl ⟨hw, fun w' hw' => ?_⟩
  unfold execOp
  simp only [ho]
  simp [resolve, invoke, builtin, hx]
  go_simp
theorem yields_nil (hw : Region.wanted o (yielded ops a.tmps) = true) (x : Operand) (ho : o.op = .nilCheck x) (ad : Addr) (hx : a.eval x = .pointer (some ad)) : YieldsIf Try.prog ops S o (.pointer (some ad)) a := by
  refine .inl ⟨hw, fun w' hw' => ?_⟩
  unfold execOp
  simp [ho, hx]
theorem yields_sub (hw : Region.wanted o (yielded ops a.tmps) = true) (x y : Operand) (ho : o.op = .binOp .sub 3 x y 3) (m n : Int) (hx : a.eval x = .int .i64 m) (hy : a.eval y = .int .i64 n) (hr : IntKind.i64.wrap (m - n) = m - n) : YieldsIf Try.prog ops S o (.int .i64 (m - n)) a := by
  refine .inl ⟨hw, fun w' hw' => ?_⟩
  unfold execOp
  simp only [ho, hx, hy]
  go_simp
theorem yields_slice (hw : Region.wanted o (yielded ops a.tmps) = true) (x : Operand) (ho : o.op = .load 29 x) (g i : Nat) (hx : a.eval x = .pointer (some ⟨g, i, none⟩)) (A : Option Addr) (n c : Nat) (hc : W.cell? ⟨g, i, none⟩ = some (.slice A n c)) : YieldsIf Try.prog ops (fun w' => w' = W) o (.slice A n c) a := by
  refine .inl ⟨hw, fun w' hw' => ?_⟩
  subst hw'
  unfold execOp
  simp only [ho, hx]
  go_simp
end
theorem stepD {P : Program} {md : Region.Mode} {ops : Array Oper} {Q : Exit → Act → World → Prop} {S : World → Prop} {i : Nat} {oi : Oper} {d : Option Tmp} {fuel : Nat} {listed : Array Bool} {a : Act} {w : World} (hi : ops[i]? = some oi) (hd : oi.dst = d)
    (hr : Region.ready md ops listed = [i]) (hw : Region.wanted oi (yielded ops a.tmps) = true)
    (h : ∀ K : Act → World → Prop, (∀ v w', S w' → wpAnyH P md ops Q S fuel (listed.setIfInBounds i true) (a.put d v) w' → K (a.put oi.dst v) w') → oi.wp P a w K Q) : wpAnyH P md ops Q S (fuel + 1) listed a w := by
  refine wpAnyH_ready (rs := [i]) hr (by simp) ?_
  refine AllReadyH.cons hi (fun K hK => ?_) AllReadyH.nil
  rw [if_pos hw]
  subst hd
  exact h K (fun v w' hS hh => hK.out _ _ hS (fun _ => hh))
end Go.Proofs.Ytmoenjmhogmcoaa
namespace Go.Proofs.Ytmoenjmhogmcoaa
set_option linter.unusedVariables false
set_option linter.unusedSimpArgs false
open Go.RowKit

/-- Of what was there only blocks a and b have turned. -/
structure Only (w w' : World) (a b : Nat) : Prop where
  os : w'.os = w.os
  tape : w'.tape = w.tape
  output : w'.output = w.output
  size : w.heap.size ≤ w'.heap.size
  block : ∀ k, k < w.heap.size → k ≠ a → k ≠ b → w'.heap[k]? = w.heap[k]?
theorem Only.refl (w : World) (a b : Nat) : Only w w a b := ⟨rfl, rfl, rfl, Nat.le_refl _, fun _ _ _ _ => rfl⟩
theorem Only.trans {w w1 w2 : World} {a b : Nat} (h : Only w w1 a b) (k : Only w1 w2 a b) : Only w w2 a b := ⟨k.os.trans h.os, k.tape.trans h.tape, k.output.trans h.output, Nat.le_trans h.size k.size, fun i hi h1 h2 => (k.block i (Nat.lt_of_lt_of_le hi h.size) h1 h2).trans (h.block i hi h1 h2)⟩
theorem Only.set1 (w : World) (a b o : Nat) (u : Value) : Only w (w.setCell ⟨a, o, none⟩ u) a b := ⟨rfl, rfl, rfl, by simp, fun k _ h1 h2 => heap_setCell_other _ _ _ _ h1⟩
theorem Only.row (w : World) (a b : Nat) (cs : Array Value) : Only w (w.setRow b cs) a b := ⟨rfl, rfl, rfl, by simp [World.setRow], fun k _ h1 h2 => setRow_other w b k cs h2⟩
theorem Only.of_below {w w' : World} (a b : Nat) (h : Below w.heap.size w w') : Only w w' a b := ⟨h.os, h.tape, h.output, h.size, fun k hk _ _ => h.block k hk⟩
theorem Only.drew (w : World) (a b : Nat) : Only w w.drew a b := ⟨rfl, rfl, rfl, Nat.le_refl _, fun _ _ _ _ => rfl⟩
/-- A block that is new may be written. -/
theorem Only.new {w w' : World} {a b g o : Nat} (h : Only w w' a b) (hg : w.heap.size ≤ g) (u : Value) : Only w (w'.setCell ⟨g, o, none⟩ u) a b := ⟨h.os, h.tape, h.output, by simpa using h.size, fun k hk h1 h2 => (heap_setCell_other _ _ _ _ (by show k ≠ g; omega)).trans (h.block k hk h1 h2)⟩
theorem Only.below {w w' w0 : World} {a b B : Nat} (h : Only w w' a b) (hb : Below B w0 w) (ha : B ≤ a) (hb2 : B ≤ b) (hB : B ≤ w0.heap.size) : Below B w0 w' :=
  ⟨h.os.trans hb.os, h.tape.trans hb.tape, h.output.trans hb.output, Nat.le_trans hb.size h.size, fun k hk => (h.block k (by have := hb.size; omega) (by omega) (by omega)).trans (hb.block k hk)⟩
theorem Only.grow {w w1 w3 : World} {a b : Nat} {row : Option Nat} (h : Only w w1 a b) (hg : w1.grownBy w3 row) (hr : ∀ k, row = some k → w.heap.size ≤ k) : Only w w3 a b :=
  ⟨hg.os.trans h.os, hg.tape.trans h.tape, hg.output.trans h.output, Nat.le_trans h.size hg.size, fun k hk h1 h2 => (hg.block k (Nat.lt_of_lt_of_le hk h.size) (fun e => by have := hr k e.symm; omega)).trans (h.block k hk h1 h2)⟩
theorem cell_block {w w' : World} {b : Nat} (h : w'.heap[b]? = w.heap[b]?) (o : Nat) : w'.cell? ⟨b, o, none⟩ = w.cell? ⟨b, o, none⟩ := by
  unfold World.cell?
  simp only [h]
theorem Only.cell {w w' : World} {a b g : Nat} (h : Only w w' a b) (hg : g < w.heap.size) (h1 : g ≠ a) (h2 : g ≠ b) (o : Nat) : w'.cell? ⟨g, o, none⟩ = w.cell? ⟨g, o, none⟩ := cell_block (h.block g hg h1 h2) o
theorem Only.blk {w w' : World} {a b g : Nat} {t : TypeId} {l : List Value} (h : Only w w' a b) (hg : Blk w g t l) (h1 : g ≠ a) (h2 : g ≠ b) : Blk w' g t l := (h.block g hg.lt h1 h2).trans hg
theorem Only.rd {w w' : World} {a b B size n : Nat} {A : Option Addr} {xs : List Value} (h : Only w w' a b) (hr : Rd w B size A n xs) (h1 : B ≤ a) (h2 : B ≤ b) (hB : B ≤ w.heap.size) : Rd w' B size A n xs :=
  hr.below (h.below (Below.refl B w) h1 h2 hB)
theorem Only.own {w w' : World} {a b base n : Nat} {e : TypeId} {size : Nat} {v : Value} {xs : List Value} (h : Only w w' a b) (hr : w.ownsRow base e size v n xs) (h1 : v.ownBlock ≠ some a) (h2 : v.ownBlock ≠ some b) : w'.ownsRow base e size v n xs := by
  refine ⟨hr.1, hr.2.imp id ?_⟩
  rintro ⟨g, cap, cur, rfl, e2, e3, r⟩
  exact ⟨g, cap, cur, rfl, e2, (h.block g (lt_of_block e3) (fun e => h1 (by rw [e]; rfl)) (fun e => h2 (by rw [e]; rfl))).trans e3, r⟩

/-- A text with the byte 0 behind; texts, one behind the other; where they lie, if u bytes lie above. -/
def Stk.tx (s : ByteArray) : List UInt8 := s.data.toList ++ [0]
def Stk.txs : List ByteArray → List UInt8
  | [] => []
  | s :: r => Stk.tx s ++ Stk.txs r
theorem Stk.tx_len (s : ByteArray) : (Stk.tx s).length = s.size + 1 := by simp [Stk.tx]
theorem Stk.txs_app (a b : List ByteArray) : Stk.txs (a ++ b) = Stk.txs a ++ Stk.txs b := by
  induction a with
  | nil => rfl
  | cons s r ih => simp [Stk.txs, ih]
def Stk.top : Nat := 140737488351232
def Stk.adr (u : Nat) : List ByteArray → List Nat
  | [] => []
  | s :: r => (Stk.top - ((Stk.txs (s :: r)).length + u)) :: Stk.adr u r
theorem Stk.adr_len (u : Nat) (l : List ByteArray) : (Stk.adr u l).length = l.length := by
  induction l with
  | nil => rfl
  | cons s r ih => simp [Stk.adr, ih]
theorem Stk.txs_drop {l : List ByteArray} {k : Nat} {s : ByteArray} (h : l[k]? = some s) : Stk.txs (l.drop k) = Stk.tx s ++ Stk.txs (l.drop (k + 1)) := by
  rw [List.drop_eq_getElem_cons (List.getElem?_eq_some_iff.1 h).1, (List.getElem?_eq_some_iff.1 h).2]
  rfl
theorem Stk.adr_drop {l : List ByteArray} {k u : Nat} {s : ByteArray} (h : l[k]? = some s) : Stk.adr u (l.drop k) = (Stk.top - ((Stk.txs (l.drop k)).length + u)) :: Stk.adr u (l.drop (k + 1)) := by
  rw [List.drop_eq_getElem_cons (List.getElem?_eq_some_iff.1 h).1, (List.getElem?_eq_some_iff.1 h).2]
  rfl
theorem Stk.txs_take {l : List ByteArray} {k : Nat} {s : ByteArray} (h : l[k]? = some s) : (Stk.txs (l.take (k + 1))).length = (Stk.txs (l.take k)).length + (s.size + 1) := by
  rw [List.take_add_one, h, Stk.txs_app]
  simp [Stk.txs, Stk.tx_len]

/-- Where the closures of Lay stand: f bytes are free below what has been laid. -/
structure LayS (w : World) (gf gt gs gx S f : Nat) (dn : List UInt8) : Prop where
  free : Blk w gf 3 [.int .i64 (f : Nat)]
  txt : Blk w gt 29 [.slice (some ⟨gx, 0, none⟩) S S]
  size : Blk w gs 3 [.int .i64 (S : Nat)]
  row : Blk w gx 5 (bys (List.replicate f 0 ++ dn))
  len : f + dn.length = S
  n1 : gf ≠ gt
  n2 : gf ≠ gs
  n3 : gf ≠ gx
  n4 : gx ≠ gt
  n5 : gx ≠ gs
theorem LayS.keep {w w' : World} {gf gt gs gx S f : Nat} {dn : List UInt8} (h : LayS w gf gt gs gx S f dn) (hk : ∀ k, k < w.heap.size → w'.heap[k]? = w.heap[k]?) : LayS w' gf gt gs gx S f dn :=
  ⟨(hk _ h.free.lt).trans h.free, (hk _ h.txt.lt).trans h.txt, (hk _ h.size.lt).trans h.size, (hk _ h.row.lt).trans h.row, h.len, h.n1, h.n2, h.n3, h.n4, h.n5⟩
theorem LayS.below {w w' : World} {gf gt gs gx S f : Nat} {dn : List UInt8} (h : LayS w gf gt gs gx S f dn) (hb : Below w.heap.size w w') : LayS w' gf gt gs gx S f dn := h.keep hb.block
theorem LayS.other {w : World} {gf gt gs gx S f g o : Nat} {dn : List UInt8} (h : LayS w gf gt gs gx S f dn) (h1 : g ≠ gf) (h2 : g ≠ gt) (h3 : g ≠ gs) (h4 : g ≠ gx) (u : Value) : LayS (w.setCell ⟨g, o, none⟩ u) gf gt gs gx S f dn :=
  ⟨h.free.other (p := ⟨g, o, none⟩) h1 u, h.txt.other (p := ⟨g, o, none⟩) h2 u, h.size.other (p := ⟨g, o, none⟩) h3 u, h.row.other (p := ⟨g, o, none⟩) h4 u, h.len, h.n1, h.n2, h.n3, h.n4, h.n5⟩
def putS (xs : List UInt8) (p : Nat) (s : ByteArray) : List UInt8 := xs.take p ++ s.data.toList ++ xs.drop (p + s.size)
theorem putS_lay (f : Nat) (dn : List UInt8) (s : ByteArray) : putS (List.replicate (f + (s.size + 1)) 0 ++ dn) f s = List.replicate f 0 ++ (Stk.tx s ++ dn) := by
  unfold putS Stk.tx
  have e : List.replicate (f + (s.size + 1)) (0 : UInt8) ++ dn = List.replicate f 0 ++ (List.replicate s.size 0 ++ (0 :: dn)) := by
    rw [← List.replicate_append_replicate, List.replicate_succ', List.append_assoc, List.append_assoc]
    rfl
  rw [e, List.take_append_of_le_length (by simp), List.take_of_length_le (by simp)]
  rw [List.drop_append, List.drop_of_length_le (by simp)]
  simp
theorem byteCells_bys (l : List UInt8) : Lib.byteCells l = bys l := rfl
theorem u8size : (Try.prog.info? 5).map (·.size) = some 1 := by kernel_rfl
/-- copy(row[f:], s) -/
theorem wpList_copyS {w : World} {ops : Array Oper} {rest : List Oper} {o : Oper} {a : Act} {Q : Exit → Act → World → Prop} (hgd : o.guard = none) (d x : Operand)
    (ho : o.op = .call { callee := .builtin .copy, args := #[d, x], argTypes := #[29, 9] }) (g f n c : Nat) (xs : List UInt8) (s : ByteArray)
    (hd : a.eval d = .slice (some ⟨g, f, none⟩) n c) (hx : a.eval x = .string s) (hb : Blk w g 5 (bys xs)) (hle : s.size ≤ n) (hfit : f + s.size ≤ xs.length)
    (h : ∀ w', w' = w.setRow g (bys (putS xs f s)).toArray → wpList Try.prog ops Q rest (a.put o.dst (.int .i64 s.size)) w') : wpList Try.prog ops Q (o :: rest) a w := by
  refine wpList_plain hgd fun K hK => ?_
  have hr := Lib.run_copy_row_string (P := Try.prog) w 29 9 o.type 5 g f n c s (bys xs).toArray 5 Try.underlying29 u8size hb hle (by simpa [bys] using hfit)
  have e : ((bys xs).toArray.toList.take f ++ Lib.byteCells s.data.toList ++ (bys xs).toArray.toList.drop (f + s.size)).toArray = (bys (putS xs f s)).toArray := by
    simp [putS, bys, Lib.byteCells]
  rw [e] at hr
  unfold Oper.wp execOp
  simp only [ho, resolve, invoke, builtin, Sem.run_bind, Sem.run_pure, Result.andThen_ok, List.map_toArray, List.map_cons, List.map_nil, hd, hx, hr]
  exact hK _ _ (h _ rfl)

set_option maxRecDepth 100000 in
set_option maxHeartbeats 4000000 in
theorem lay1_any (gf gt gs gx S f : Nat) (dn : List UInt8) (s : ByteArray) (w : World) (h : LayS w gf gt gs gx S (f + (s.size + 1)) dn) (hS : S ≤ 4294967296) :
    Calls Try.prog 20 #[.string s, .pointer (some ⟨gf, 0, none⟩), .pointer (some ⟨gt, 0, none⟩), .pointer (some ⟨gs, 0, none⟩)] w fun e w' => e = .returned (.int .u64 ((Stk.top - (Stk.tx s ++ dn).length : Nat) : Int)) ∧ LayS w' gf gt gs gx S f (Stk.tx s ++ dn) ∧ Only w w' gf gx := by
  have c1 := h.free.cell (i := 0) rfl
  have f1 := h.free.free 0
  have c2 := (h.txt.other (p := ⟨gf, 0, none⟩) h.n1 (.int .i64 (f : Nat))).cell (i := 0) rfl
  have c3 := (h.free.set 0 (.int .i64 (f : Nat))).cell (i := 0) rfl
  have hlen := h.len
  have hlt : f + (s.size + 1) ≤ S := by omega
  have Hlen := hide hlen
  clear hlen
  have H := hide h
  have e1 : ((f + (s.size + 1) : Nat) : Int) - ((s.size : Int) + 1) = (f : Int) := by omega
  clear h
  go_enter Try.func20, Try.ntmps20
  have hrow := (unhide H).row.other (p := ⟨gf, 0, none⟩) (unhide H).n3 (.int .i64 (f : Nat))
  have Hrow := hide hrow
  clear hrow
  go_wp2_with ((with_reducible refine (@id (wpList _ _ _ (Oper.mk (some 15) _ _ _ _ none :: _) _ _) ?_)); refine wpList_copyS rfl _ _ rfl gx f (S - f) (S - f) _ s rfl rfl (unhide Hrow) (by omega) (by simp; omega) ?_; intro w2 hw2; have c4 : w2.cell? ⟨gf, 0, none⟩ = some (.int .i64 (f : Nat)) := (by rw [hw2]; exact Blk.cell (i := 0) (t := 3) (l := [.int .i64 (f : Nat)]) ((setRow_other _ _ _ _ (unhide H).n3).trans ((unhide H).free.set 0 (.int .i64 (f : Nat)))) rfl); have c5 : w2.cell? ⟨gs, 0, none⟩ = some (.int .i64 (S : Nat)) := (by rw [hw2]; exact Blk.cell (i := 0) (t := 3) (l := [.int .i64 (S : Nat)]) ((setRow_other _ _ _ _ (unhide H).n5.symm).trans ((unhide H).size.other (p := ⟨gf, 0, none⟩) (unhide H).n2 _)) rfl); have Hw2 := hide hw2; clear hw2)
  go_ret
  have h := unhide H
  have hw2 := unhide Hw2
  have htl : (Stk.tx s ++ dn).length = S - f := by rw [List.length_append, Stk.tx_len]; have := unhide Hlen; omega
  rw [htl]
  refine ⟨ret_int (by unfold Stk.top; omega), ⟨?_, ?_, ?_, ?_, by omega, h.n1, h.n2, h.n3, h.n4, h.n5⟩, ?_⟩
  · rw [hw2]; exact (setRow_other _ _ _ _ h.n3).trans (h.free.set 0 (.int .i64 (f : Nat)))
  · rw [hw2]; exact (setRow_other _ _ _ _ h.n4.symm).trans (h.txt.other (p := ⟨gf, 0, none⟩) h.n1 _)
  · rw [hw2]; exact (setRow_other _ _ _ _ h.n5.symm).trans (h.size.other (p := ⟨gf, 0, none⟩) h.n2 _)
  · rw [hw2, putS_lay]; exact setRow_heap _ _ _ _ _ _ (unhide Hrow)
  · rw [hw2]; exact (Only.set1 w gf gx 0 _).trans (Only.row _ gf gx _)
end Go.Proofs.Ytmoenjmhogmcoaa
namespace Go.Proofs.Ytmoenjmhogmcoaa
set_option linter.unusedVariables false
set_option linter.unusedSimpArgs false
open Go.RowKit

section
variable {ops : Array Oper} {o : Oper} {a : Act} {S : World → Prop}
theorem yieldsS_func (hw : Region.wanted o (yielded ops a.tmps) = true) (x : Operand) (ho : o.op = .load 49 x) (g i : Nat) (hx : a.eval x = .pointer (some ⟨g, i, none⟩)) (fn : FuncId) (cs : Array Value) (hc : ∀ w', S w' → w'.cell? ⟨g, i, none⟩ = some (.func (.func fn) #[] cs)) : YieldsIf Try.prog ops S o (.func (.func fn) #[] cs) a := by
  refine .inl ⟨hw, fun w' hw' => ?_⟩
  have hc' := hc w' hw'
  unfold execOp
  simp only [ho, hx]
  go_simp
theorem yieldsS_str (hw : Region.wanted o (yielded ops a.tmps) = true) (x : Operand) (ho : o.op = .load 9 x) (g i : Nat) (hx : a.eval x = .pointer (some ⟨g, i, none⟩)) (s : ByteArray) (hc : ∀ w', S w' → w'.cell? ⟨g, i, none⟩ = some (.string s)) : YieldsIf Try.prog ops S o (.string s) a := by
  refine .inl ⟨hw, fun w' hw' => ?_⟩
  have hc' := hc w' hw'
  unfold execOp
  simp only [ho, hx]
  go_simp
theorem yields_idxS (hw : Region.wanted o (yielded ops a.tmps) = true) (x i : Operand) (ho : o.op = .indexAddr 22 x i) (b f n c k : Nat) (hx : a.eval x = .slice (some ⟨b, f, none⟩) n c) (hi : a.eval i = .int .i64 (k : Nat)) (hk : (k : Int) < (n : Int)) (hk2 : k < n) : YieldsIf Try.prog ops S o (.pointer (some ⟨b, f + k, none⟩)) a := by
  refine .inl ⟨hw, fun w' hw' => ?_⟩
  unfold execOp
  simp only [ho, hx, hi]
  go_simp
theorem yields_idxU (hw : Region.wanted o (yielded ops a.tmps) = true) (x i : Operand) (ho : o.op = .indexAddr 50 x i) (b n c k : Nat) (hx : a.eval x = .slice (some ⟨b, 0, none⟩) n c) (hi : a.eval i = .int .i64 (k : Nat)) (hk : (k : Int) < (n : Int)) (hk2 : k < n) : YieldsIf Try.prog ops S o (.pointer (some ⟨b, k, none⟩)) a := by
  refine .inl ⟨hw, fun w' hw' => ?_⟩
  unfold execOp
  simp only [ho, hx, hi]
  go_simp
end
theorem wp_store_u64 {o : Oper} {a : Act} {w : World} {K : Act → World → Prop} {Q : Exit → Act → World → Prop} (x y : Operand) (ho : o.op = .store 30 x y) (g i : Nat) (hx : a.eval x = .pointer (some ⟨g, i, none⟩)) (n : Int) (hy : a.eval y = .int .u64 n) (u : Value) (hc : w.cell? ⟨g, i, none⟩ = some u) (hf : w.frozen? ⟨g, i, none⟩ = false)
    (h : K (a.put o.dst undef) (w.setCell ⟨g, i, none⟩ (.int .u64 n))) : o.wp Try.prog a w K Q := by
  unfold Oper.wp execOp
  simp only [ho, hx, hy]
  go_simp
  exact h
theorem callFunc_lay1 (args : Array Value) (w : World) : (callFunc 20 args).run Try.prog w = .ok (.enter 20 args) w := by kernel_rfl
theorem callFunc_lay2 (args : Array Value) (w : World) : (callFunc 21 args).run Try.prog w = .ok (.enter 21 args) w := by kernel_rfl
theorem wp_callv {o : Oper} {a : Act} {w : World} {K : Act → World → Prop} {Q : Exit → Act → World → Prop} (f x : Operand) (ho : o.op = .call { callee := .value f, args := #[x], argTypes := #[9] }) (p1 p2 p3 : Value) (s : ByteArray) (hf : a.eval f = .func (.func 20) #[] #[p1, p2, p3]) (hx : a.eval x = .string s)
    (h : Calls Try.prog 20 #[.string s, p1, p2, p3] w fun e w' => ∃ v, e = .returned v ∧ K (a.put o.dst v) w') : o.wp Try.prog a w K Q := by
  have hc := callFunc_lay1 #[.string s, p1, p2, p3] w
  unfold Oper.wp execOp
  simp [ho, hf, hx, resolve, invoke, hc]
  exact h.mono fun e w' ⟨v, he, hk⟩ => by subst he; exact hk

theorem zerosU (n : Nat) : (madeCells (Value.int .u64 0).cells (n * 1)).toList = List.replicate n (.int .u64 0) := by
  simp [Value.cells, toList_madeCells_one]
/-- What the addresses' row holds while it is filled from its end. -/
def backU (u : Nat) (l : List ByteArray) (k : Nat) : List Value := List.replicate k (.int .u64 0) ++ u64s (Stk.adr u (l.drop k))
theorem backU_set {u : Nat} {l : List ByteArray} {k : Nat} {s : ByteArray} (h : l[k]? = some s) : (backU u l (k + 1)).set k (.int .u64 ((Stk.top - ((Stk.txs (l.drop k)).length + u) : Nat) : Int)) = backU u l k := by
  unfold backU
  rw [Stk.adr_drop h, List.replicate_succ', List.append_assoc, List.set_append]
  simp [u64s]
theorem backU_at {u : Nat} {l : List ByteArray} {k : Nat} : (backU u l (k + 1))[k]? = some (.int .u64 0) := by
  unfold backU
  rw [List.getElem?_append_left (by simp)]
  simp

set_option maxRecDepth 100000 in
set_option maxHeartbeats 8000000 in
theorem lay2_any (gl gf gt gs gx S f : Nat) (dn : List UInt8) (A : Option Addr) (n c B : Nat) (l : List ByteArray) (w : World) (h : LayS w gf gt gs gx S (f + (Stk.txs l).length) dn) (hS : S ≤ 4294967296) (hl : Rd w B 1 A n (l.map Value.string)) (hB : B ≤ w.heap.size) (hBf : B ≤ gf) (hBx : B ≤ gx)
    (hcl : Blk w gl 49 [.func (.func 20) #[] #[.pointer (some ⟨gf, 0, none⟩), .pointer (some ⟨gt, 0, none⟩), .pointer (some ⟨gs, 0, none⟩)]]) (hf : gl ≠ gf) (hx : gl ≠ gx) (hn : n ≤ 4294967296) :
    Calls Try.prog 21 #[.slice A n c, .pointer (some ⟨gl, 0, none⟩)] w fun e w' => ∃ A' c', e = .returned (.slice A' n c') ∧ w'.ownsRow w.heap.size 30 1 (.slice A' n c') n (u64s (Stk.adr dn.length l)) ∧ LayS w' gf gt gs gx S f (Stk.txs l ++ dn) ∧ Only w w' gf gx := by
  obtain ⟨i, hi, hz0, hz1, hz2⟩ := info_parts u64Info
  have hln : l.length = n := by simpa using hl.len1
  have Hi := hide hi
  have Hz0 := hide hz0
  have Hz1 := hide hz1
  have Hz2 := hide hz2
  have H := hide h
  have Hl := hide hl
  have Hcl := hide hcl
  have Hln := hide hln
  have hltf := h.free.lt
  have hltx := h.row.lt
  have hltt := h.txt.lt
  have hlts := h.size.lt
  have hltl := hcl.lt
  clear hi hz0 hz1 hz2 h hl hcl hln
  go_enter Try.func21, Try.ntmps21
  go_wp2_with (at_make; refine wpList_make_full _ rfl _ _ 50 rfl w.heap.size 30 i (.int .u64 0) 1 Try.underlying50 (unhide Hi) (unhide Hz0) (unhide Hz1) _ _ _ _ n rfl rfl rfl rfl (by rw [unhide Hz2]; omega) (by unfold maxLen; omega) (Nat.le_refl _) ?_; intro w1 hown hgrow; have hb1 := (Below.refl w.heap.size w).grown hgrow (Nat.le_refl _) (fun k hk => by cases hk); have Hown := hide hown; have Hb1 := hide hb1; clear hown hgrow hb1)
  go_loopg [5] n (fun gk iv wr => ∃ k : Nat, gk = k ∧ k ≤ n ∧ iv = .int .i64 ((k : Int) - 1) ∧ wr.ownsRow w.heap.size 30 1 (.slice (some ⟨w.heap.size, 0, none⟩) n n) n (backU dn.length l k) ∧ LayS wr gf gt gs gx S (f + (Stk.txs (l.take k)).length) (Stk.txs (l.drop k) ++ dn) ∧ Only w wr gf gx)
  case atStart =>
    refine ⟨n, rfl, Nat.le_refl _, rfl, ?_, ?_, Only.of_below _ _ (unhide Hb1)⟩
    · have ho := unhide Hown
      rw [zerosU] at ho
      unfold backU
      rw [List.drop_of_length_le (by rw [unhide Hln]; exact Nat.le_refl _)]
      simpa [Stk.adr, u64s] using ho
    · rw [List.drop_of_length_le (by rw [unhide Hln]; exact Nat.le_refl _), List.take_of_length_le (by rw [unhide Hln]; exact Nat.le_refl _)]
      exact (unhide H).below (unhide Hb1)
  case round =>
  clear Hown Hb1
  obtain ⟨k, hgk, hk, rfl, hown, hL, hO⟩ := hrel
  have Hgk := hide hgk
  clear hgk
  have Hown := hide hown
  have HL := hide hL
  have HO := hide hO
  have hsz := hO.size
  clear hown hL hO
  rcases Nat.eq_zero_or_pos k with rfl | hpos
  · have h1 := unhide Hown
    have h2 := unhide HL
    simp only [backU, List.replicate_zero, List.nil_append, List.drop_zero] at h1
    simp only [List.take_zero, Stk.txs, List.length_nil, Nat.add_zero, List.drop_zero] at h2
    have Hown2 := hide h1
    have HL2 := hide h2
    clear h1 h2
    go_wp2_with fail
    go_ret
    exact ⟨some ⟨w.heap.size, 0, none⟩, n, rfl, unhide Hown2, unhide HL2, unhide HO⟩
  obtain ⟨j, rfl⟩ : ∃ j, k = j + 1 := ⟨k - 1, by omega⟩
  obtain ⟨s, hs⟩ : ∃ s, l[j]? = some s := ⟨_, List.getElem?_eq_getElem (by rw [unhide Hln]; omega)⟩
  have hrd := (unhide HO).rd (unhide Hl) hBf hBx hB
  obtain ⟨ab, ao, rfl, hab, cs⟩ := hrd.at_ (k := j) (u := .string s) (by simp [hs])
  have hcl := ((unhide HO).blk (unhide Hcl) hf hx).cell (i := 0) rfl
  have hL2 := unhide HL
  rw [Stk.txs_take hs, ← Nat.add_assoc] at hL2
  have KL := fun (w' : World) (hw : LayS w' gf gt gs gx S (f + (Stk.txs (l.take j)).length + (s.size + 1)) (Stk.txs (l.drop (j + 1)) ++ dn)) => lay1_any gf gt gs gx S (f + (Stk.txs (l.take j)).length) (Stk.txs (l.drop (j + 1)) ++ dn) s w' hw hS
  have e2 : Stk.tx s ++ (Stk.txs (l.drop (j + 1)) ++ dn) = Stk.txs (l.drop j) ++ dn := by rw [Stk.txs_drop hs, List.append_assoc]
  rw [e2] at KL
  have hset := fun (W : World) (hW : W.ownsRow w.heap.size 30 1 (.slice (some ⟨w.heap.size, 0, none⟩) n n) n (backU dn.length l (j + 1))) => own_set (i := j) hW (.int .u64 ((Stk.top - ((Stk.txs (l.drop j)).length + dn.length) : Nat) : Int))
  simp only [backU_set hs] at hset
  have hll : (Stk.txs (l.drop j) ++ dn).length = (Stk.txs (l.drop j)).length + dn.length := List.length_append
  rw [hll] at KL
  generalize hres : Stk.top - ((Stk.txs (l.drop j)).length + dn.length) = res at *
  have Hset := hide hset
  have HKL := hide KL
  have HL2 := hide hL2
  have e1 : ((j + 1 : Nat) : Int) - 1 = (j : Int) := by omega
  rw [e1]
  have hjn : j < n := by omega
  have hjn' : (j : Int) < (n : Int) := by omega
  clear hset KL hL2 hrd e1 e2 hll hres hs HL
  go_wp2_with fail
  have HS0 := hide (show wr.drew.cell? ⟨gl, 0, none⟩ = some (.func (.func 20) #[] #[.pointer (some ⟨gf, 0, none⟩), .pointer (some ⟨gt, 0, none⟩), .pointer (some ⟨gs, 0, none⟩)]) ∧ wr.drew.cell? ⟨ab, ao + j, none⟩ = some (.string s) from ⟨hcl, cs⟩)
  refine wp_region_held_drew (S := fun w' => w'.cell? ⟨gl, 0, none⟩ = some (.func (.func 20) #[] #[.pointer (some ⟨gf, 0, none⟩), .pointer (some ⟨gt, 0, none⟩), .pointer (some ⟨gs, 0, none⟩)]) ∧ w'.cell? ⟨ab, ao + j, none⟩ = some (.string s)) (by kernel_rfl) (unhide HS0) (fun hHeld => ?_)
  clear hHeld
  refine takeD (i := 0) (d := some 16) (v := .slice (some ⟨w.heap.size, 0, none⟩) n n) rfl rfl (by kernel_rfl) (by kernel_rfl) (by kernel_rfl) (fun _ _ _ h => h) (yields_move (by rfl) (.tmp 4) rfl _ rfl) (unhide HS0) ?_
  simp only [Act.put, List.setIfInBounds_toArray, List.set_cons_zero, List.set_cons_succ]
  refine takeD (i := 1) (d := some 17) (v := .int .i64 (j : Nat)) rfl rfl (by kernel_rfl) (by kernel_rfl) (by kernel_rfl) (fun _ _ _ h => h) (yields_move (by rfl) (.tmp 5) rfl _ rfl) (unhide HS0) ?_
  simp only [Act.put, List.setIfInBounds_toArray, List.set_cons_zero, List.set_cons_succ]
  refine takeD (i := 2) (d := some 18) (v := .func (.func 20) #[] #[.pointer (some ⟨gf, 0, none⟩), .pointer (some ⟨gt, 0, none⟩), .pointer (some ⟨gs, 0, none⟩)]) rfl rfl (by kernel_rfl) (by kernel_rfl) (by kernel_rfl) (fun _ _ _ h => h) (yieldsS_func (by rfl) (.tmp 1) rfl gl 0 rfl _ _ (fun w' h => h.1)) (unhide HS0) ?_
  simp only [Act.put, List.setIfInBounds_toArray, List.set_cons_zero, List.set_cons_succ]
  refine takeD (i := 3) (d := some 19) (v := .slice (some ⟨ab, ao, none⟩) n c) rfl rfl (by kernel_rfl) (by kernel_rfl) (by kernel_rfl) (fun _ _ _ h => h) (yields_move (by rfl) (.tmp 0) rfl _ rfl) (unhide HS0) ?_
  simp only [Act.put, List.setIfInBounds_toArray, List.set_cons_zero, List.set_cons_succ]
  refine takeD (i := 4) (d := some 20) (v := .int .i64 (j : Nat)) rfl rfl (by kernel_rfl) (by kernel_rfl) (by kernel_rfl) (fun _ _ _ h => h) (yields_move (by rfl) (.tmp 5) rfl _ rfl) (unhide HS0) ?_
  simp only [Act.put, List.setIfInBounds_toArray, List.set_cons_zero, List.set_cons_succ]
  refine takeD (i := 5) (d := some 21) (v := .pointer (some ⟨ab, ao + j, none⟩)) rfl rfl (by kernel_rfl) (by kernel_rfl) (by kernel_rfl) (fun _ _ _ h => h) (yields_idxS (by rfl) (.tmp 19) (.tmp 20) rfl ab ao n c j rfl rfl hjn' hjn) (unhide HS0) ?_
  simp only [Act.put, List.setIfInBounds_toArray, List.set_cons_zero, List.set_cons_succ]
  refine takeD (i := 6) (d := some 22) (v := .string s) rfl rfl (by kernel_rfl) (by kernel_rfl) (by kernel_rfl) (fun _ _ _ h => h) (yieldsS_str (by rfl) (.tmp 21) rfl ab (ao + j) rfl s (fun w' h => h.2)) (unhide HS0) ?_
  simp only [Act.put, List.setIfInBounds_toArray, List.set_cons_zero, List.set_cons_succ]
  refine stepD (i := 7) (d := some 23) rfl rfl (by kernel_rfl) (by rfl) (fun K hK => ?_)
  refine wp_callv (.tmp 18) (.tmp 22) rfl _ _ _ s rfl rfl ?_
  refine ((unhide HKL) wr.drew ((unhide HL2).below (below_drew' (Below.refl _ _)))).mono ?_
  rintro e w2 ⟨rfl, hL3, hO3⟩
  have hO4 := (Only.drew wr gf gx).trans hO3
  have hO5 := (unhide HO).trans hO4
  have hown3 := hO4.own (unhide Hown) (by simp [Value.ownBlock]; omega) (by simp [Value.ownBlock]; omega)
  have hS2 : w2.cell? ⟨gl, 0, none⟩ = some (.func (.func 20) #[] #[.pointer (some ⟨gf, 0, none⟩), .pointer (some ⟨gt, 0, none⟩), .pointer (some ⟨gs, 0, none⟩)]) ∧ w2.cell? ⟨ab, ao + j, none⟩ = some (.string s) := by
    refine ⟨(hO5.blk (unhide Hcl) hf hx).cell (i := 0) rfl, ?_⟩
    have h9 := (hO4.below (Below.refl B wr) hBf hBx (by omega)).cell (p := ⟨ab, ao + j, none⟩) hab
    exact h9.trans cs
  refine ⟨_, rfl, hK _ _ hS2 ?_⟩
  clear hK K
  have z1 := own_cell hown3 (i := j) backU_at
  have z2 := own_free hown3 j
  have hown4 := (unhide Hset) w2 hown3
  have hL5 := hL3.other (g := w.heap.size) (o := j) (by omega) (by omega) (by omega) (by omega) (.int .u64 (res : Nat))
  have hO6 := hO5.new (g := w.heap.size) (o := j) (Nat.le_refl _) (.int .u64 (res : Nat))
  have Hown4 := hide hown4
  have HL5 := hide hL5
  have HO6 := hide hO6
  have hne : ab ≠ w.heap.size := by omega
  clear hown3 hown4 hL3 hL5 hO3 hO4 hO5 hO6
  simp only [Act.put, List.setIfInBounds_toArray, List.set_cons_zero, List.set_cons_succ]
  refine takeD (i := 8) (d := some 24) (v := .pointer (some ⟨w.heap.size, j, none⟩)) rfl rfl (by kernel_rfl) (by kernel_rfl) (by kernel_rfl) (fun _ _ _ h => h) (yields_idxU (by rfl) (.tmp 16) (.tmp 17) rfl w.heap.size n n j rfl rfl hjn' hjn) hS2 ?_
  simp only [Act.put, List.setIfInBounds_toArray, List.set_cons_zero, List.set_cons_succ]
  refine stepD (i := 9) (d := none) rfl rfl (by kernel_rfl) (by rfl) (fun K hK => ?_)
  refine wp_store_u64 (.tmp 24) (.tmp 23) rfl w.heap.size j rfl _ rfl _ z1 z2 (hK _ _ ?_ ?_)
  · exact ⟨(World.cell?_setCell_other w2 _ _ _ (fun e => by injection e with e; omega)).trans hS2.1, (World.cell?_setCell_other w2 _ _ _ (fun e => by injection e with e; omega)).trans hS2.2⟩
  clear hK K
  refine wpAnyH_done (by kernel_rfl) ?_ _
  clear HS0 hS2 z1 z2 hcl cs Hset HKL HL2 HO Hown
  generalize w2.setCell ⟨w.heap.size, j, none⟩ (.int .u64 (res : Nat)) = w3 at *
  go_wp2_with fail
  go_roundg j
  case measure => have := unhide Hgk; omega
  case rel => exact ⟨j, rfl, by omega, by go_num, unhide Hown4, unhide HL5, unhide HO6⟩
end Go.Proofs.Ytmoenjmhogmcoaa
namespace Go.Proofs.Ytmoenjmhogmcoaa
set_option linter.unusedVariables false
set_option linter.unusedSimpArgs false
open Go.RowKit

theorem intTyp : Try.prog.underlying 3 = some (.int .i64) := Try.underlying3
theorem zeroL (k : Nat) : (Builtin.zeroCells (Value.int .u8 0).cells k).toList = bys (List.replicate k 0) := by
  show (madeCells #[Value.int .u8 0] (k * 1)).toList = _
  rw [toList_madeCells_one, Nat.mul_one]
  simp [bys]
set_option maxHeartbeats 1000000 in
theorem run_appZ (w : World) (base : Nat) (ty : TypeId) (v : Value) (n : Nat) (xs : List UInt8) (hown : w.ownsRow base 5 1 v n (bys xs)) (k : Nat) (hb : n + k ≤ 140737488355328) (hbase : base ≤ w.heap.size) :
    ∃ v' w', (Builtin.append_ #[29, 3] ty #[v, .int .i64 k]).run Try.prog w = .ok v' w' ∧ Grew w w' base v v' (n + k) (xs ++ List.replicate k 0) := by
  obtain ⟨i, hi, hz, hsize, hby⟩ := info_parts byteInfo
  have ht := Try.underlying29
  have htn := intTyp
  have hxl : (bys xs).length = n := by simpa using hown.1
  have hlen : (bys xs ++ bys (List.replicate k 0)).length = (n + k) * 1 := by rw [List.length_append, hxl]; simp [bys]
  have hzl : (bys (List.replicate k 0)).length = k := by simp [bys]
  have hw : IntKind.i64.wrap (k : Int) = k := by rw [IntKind.wrap_i64]; omega
  have hw0 : IntKind.i64.wrap 0 = 0 := rfl
  have hneg : ¬ ((k : Int) < 0) := by omega
  have h48i : ¬ (281474976710656 < (k : Int)) := by omega
  have grown : ∀ (old : Nat) (cs : Array Value), old < n + k → cs.toList = bys xs ++ bys (List.replicate k 0) ++ (Builtin.zeroCells (Value.int .u8 0).cells (grownCap w (n + k) old 5 - (n + k))).toList → ∀ (u : Value),
      Grew w (w.drew.alloc (.cells cs 5)) base u (.slice (some ⟨w.heap.size, 0, none⟩) (n + k) (grownCap w (n + k) old 5)) (n + k) (xs ++ List.replicate k 0) := by
    intro old cs ho hcs u
    have hge := grownCap_ge w (n + k) old 5
    have hcm : grownCap w (n + k) old 5 ≤ maxLen := grownCap_le_maxLen w (n + k) old 5 (by unfold maxLen; omega)
    refine ⟨?_, ⟨rfl, rfl, rfl, by simp, fun j hj _ => Below.heap_alloc _ _ _ hj⟩, fun k' hk' => .inr (by simp [Value.ownBlock] at hk'; omega)⟩
    rw [bys_app]
    refine ⟨hlen, .inr ⟨w.heap.size, _, cs, rfl, hbase, heap_alloc_new w.drew _, hge, hcm, ?_, ?_⟩⟩
    · rw [← Array.length_toList, hcs]
      have hz1 : (Value.int IntKind.u8 0).cells.size = 1 := rfl
      simp only [List.length_append, Array.length_toList, size_zeroCells, hz1, hxl, hzl]
      omega
    · rw [hcs, ← hlen]
      exact List.take_left
  rcases hown.2 with ⟨rfl, rfl⟩ | ⟨g, cap, cur, rfl, hbg, hg, hnc, hcm, hcs, htake⟩
  · have hx : xs = [] := by
      have h0 : (bys xs).length = 0 := hxl
      simpa [bys] using h0
    subst hx
    by_cases hm : k = 0
    · subst hm
      refine ⟨.slice none 0 0, w, ?_, ⟨by simpa [bys] using hown, World.grownBy.refl w _, fun k hk => .inl hk⟩⟩
      simp [Builtin.append_, run_underlying ht, run_underlying htn, sizeOf, typeInfo, hi, hsize, asInt, asIntOf, hw0]
    · have hr := Lib.run_append_nil_zeros (P := Try.prog) w 29 3 ty 5 i (.int .u8 0) .i64 .i64 ht htn hi hz k (by omega) (by omega) (by omega) (by rw [hby]; omega)
      refine ⟨_, _, hr, ?_⟩
      have hg := grown 0 (Builtin.zeroCells (Value.int .u8 0).cells k ++ Builtin.zeroCells (Value.int .u8 0).cells (grownCap w k 0 5 - k)) (by omega) (by rw [Array.toList_append, zeroL]; simp [bys]) (.slice none 0 0)
      simpa using hg
  · by_cases hroom : n + k ≤ cap
    · have hcs' : cur.size = cap := by simpa using hcs
      have hst := run_storeCells_at Try.prog g n 5 (bys (List.replicate k 0)) 0 cur w hg (by rw [hzl]; omega) (bys_one _)
      simp only [Nat.add_zero, hzl] at hst
      have hr : (Builtin.append_ #[29, 3] ty #[.slice (some ⟨g, 0, none⟩) n cap, .int .i64 k]).run Try.prog w = .ok (.slice (some ⟨g, 0, none⟩) (n + k) cap) (w.setRow g (cur.toList.take n ++ bys (List.replicate k 0) ++ cur.toList.drop (n + k)).toArray) := by
        by_cases hk0 : k = 0
        · subst hk0
          simp [bys] at hst
          simp [Builtin.append_, run_underlying ht, run_underlying htn, sizeOf, typeInfo, hi, hsize, asInt, asIntOf, zeroValue, hz, hby, hnc, Addr.add_lit, bys, hst, hw0]
        · have hns : ¬ (k = 0) := hk0
          simp [Builtin.append_, run_underlying ht, run_underlying htn, sizeOf, typeInfo, hi, hsize, asInt, asIntOf, zeroValue, hz, hby, hw, hneg, h48i, hroom, hns, Addr.add_lit, zeroL, hst]
      refine ⟨_, _, hr, ⟨?_, ⟨rfl, rfl, rfl, by simp, fun k' _ hk' => setRow_other w g k' _ (fun e => hk' (by simp [Value.ownBlock, e]))⟩, fun k' hk' => .inl hk'⟩⟩
      rw [bys_app]
      refine ⟨hlen, .inr ⟨g, cap, _, rfl, hbg, setRow_heap w g cur _ 5 _ hg, hroom, hcm, ?_, ?_⟩⟩
      · simp only [List.size_toArray, List.length_append, List.length_take, List.length_drop, Array.length_toList, hzl]
        omega
      · have ht' : cur.toList.take n = bys xs := by simpa using htake
        rw [ht', ← hlen]
        exact List.take_left
    · have holds : ∀ j u, (bys xs)[j]? = some u → w.cell? ((⟨g, 0, none⟩ : Addr).add j) = some u := hown.cells (g := g) rfl
      have hfo := run_firstCells_some (P := Try.prog) w.drew 1 n ⟨g, 0, none⟩ n cap (bys xs) (by simpa using hxl) (by simpa using holds)
      have hr := Lib.run_append_grow_zeros (P := Try.prog) w 29 3 ty 5 i (.int .u8 0) .i64 .i64 ht htn hi hz (some ⟨g, 0, none⟩) n cap (bys xs) (by rw [hsize]; exact hfo) k (by omega) (by omega) (by omega) (by omega) (by rw [hby]; omega) (by rw [hby]; exact growslice_fits (by omega) (by omega))
      exact ⟨_, _, hr, grown cap _ (by omega) (by rw [Array.toList_append, Array.toList_append, zeroL]) _⟩
/-- append(b, make([]byte, k)...) -/
theorem wpList_appZ {w : World} {ops : Array Oper} {rest : List Oper} {o : Oper} {a : Act} {Q : Exit → Act → World → Prop} (hgd : o.guard = none) (s x : Operand)
    (ho : o.op = .call { callee := .builtin .append, args := #[s, x], argTypes := #[29, 3] })
    (base : Nat) (v : Value) (n : Nat) (xs : List UInt8) (hs : a.eval s = v) (hown : w.ownsRow base 5 1 v n (bys xs)) (k : Nat) (hx : a.eval x = .int .i64 (k : Nat)) (hb : n + k ≤ 140737488355328) (hbase : base ≤ w.heap.size)
    (h : ∀ A' c' w', Grew w w' base v (.slice A' (n + k) c') (n + k) (xs ++ List.replicate k 0) → wpList Try.prog ops Q rest (a.put o.dst (.slice A' (n + k) c')) w') : wpList Try.prog ops Q (o :: rest) a w := by
  refine wpList_plain hgd fun K hK => ?_
  obtain ⟨v', w', hr, h2⟩ := run_appZ w base o.type v n xs hown k hb hbase
  obtain ⟨A', c', rfl⟩ := own_form h2.own
  unfold Oper.wp execOp
  simp only [ho, resolve, invoke, builtin, Sem.run_bind, Sem.run_pure, Result.andThen_ok, List.map_toArray, List.map_cons, List.map_nil, hs, hx, hr]
  exact hK _ _ (h A' c' w' h2)
end Go.Proofs.Ytmoenjmhogmcoaa
namespace Go.Proofs.Ytmoenjmhogmcoaa.Cl
set_option linter.unusedVariables false
set_option linter.unusedSimpArgs false
open Go.Proofs.Ytmoenjmhogmcoaa

/-- What a call that may be keeps to. -/
structure Small (q : C) : Prop where
  k1 : 1 ≤ q.kind
  k2 : q.kind ≤ 12
  only : onlyB q = true
  p : q.path.size ≤ 200
  a1 : q.argv.length ≤ 32
  a2 : ∀ x ∈ q.argv, x.size ≤ 256
  e1 : q.env.length ≤ 32
  e2 : ∀ x ∈ q.env, x.size ≤ 256
  b : q.bytes.length ≤ 4096
theorem envCk_small {l : List ByteArray} (h : envCk l = 0) : l.length ≤ 32 ∧ ∀ x ∈ l, x.size ≤ 256 := by
  unfold envCk at h
  split at h
  · cases h
  · rename_i h1
    split at h
    · cases h
    · rename_i h2
      refine ⟨by omega, fun x hx => ?_⟩
      rcases Nat.lt_or_ge 256 x.size with h3 | h3
      · exact absurd (List.any_eq_true.2 ⟨x, hx, by simp [bigT, h3]⟩) h2
      · exact h3
theorem fst2_zero {a b : Int} (h : fst2 a b = 0) : a = 0 ∧ b = 0 := by
  unfold fst2 at h
  split at h
  · exact ⟨by assumption, h⟩
  · exact absurd h (by assumption)
theorem only_at {q : C} (h : onlyB q = true) {f : Nat} (hf : f < 9) : (fsN q.kind).contains f = true ∨ emptyB q f = true := by
  have := List.all_eq_true.1 h f (List.mem_range.2 hf)
  unfold fieldB at this
  simpa using this
theorem has_field {k f : Nat} (h : (fsN k).contains f = true) : (f = 5 → k = 1 ∨ k = 10) ∧ (f = 6 → k = 1) ∧ (f = 7 → k = 1) ∧ (f = 8 → k = 9) := by
  have hall : ∀ k, k < 13 → ((fsN k).contains 5 = true → k = 1 ∨ k = 10) ∧ ((fsN k).contains 6 = true → k = 1) ∧ ((fsN k).contains 7 = true → k = 1) ∧ ((fsN k).contains 8 = true → k = 9) := by decide
  have hk : k < 13 := by
    rcases Nat.lt_or_ge k 13 with hk | hk
    · exact hk
    · have e : fsN k = [] := by
        unfold fsN
        split <;> first | rfl | omega
      rw [e] at h
      cases h
  obtain ⟨h5, h6, h7, h8⟩ := hall k hk
  exact ⟨fun e => h5 (e ▸ h), fun e => h6 (e ▸ h), fun e => h7 (e ▸ h), fun e => h8 (e ▸ h)⟩
theorem check_small {q : C} (h : check q = 0) : Small q := by
  unfold check at h
  split at h
  · cases h
  rename_i hk
  split at h
  · cases h
  rename_i ho
  have ho : onlyB q = true := by simpa using ho
  have hp : q.path.size ≤ 200 := by
    rcases only_at ho (f := 5) (by omega) with h1 | h1
    · rcases (has_field h1).1 rfl with h2 | h2
      · rw [if_pos h2] at h
        exact Pth.chk_size _ (fst2_zero h).1
      · rw [if_neg (by omega), if_neg (by omega), if_neg (by omega), if_pos h2] at h
        exact Pth.chk_size _ (fst2_zero h).1
    · have : q.path.size = 0 := of_decide_eq_true h1
      omega
  have ha : q.argv.length ≤ 32 ∧ ∀ x ∈ q.argv, x.size ≤ 256 := by
    rcases only_at ho (f := 6) (by omega) with h1 | h1
    · have h2 := (has_field h1).2.1 rfl
      rw [if_pos h2] at h
      exact envCk_small (fst2_zero (fst2_zero h).2).1
    · have h3 : q.argv.length = 0 := of_decide_eq_true h1
      have h4 : q.argv = [] := List.eq_nil_of_length_eq_zero h3
      rw [h4]
      simp
  have he : q.env.length ≤ 32 ∧ ∀ x ∈ q.env, x.size ≤ 256 := by
    rcases only_at ho (f := 7) (by omega) with h1 | h1
    · have h2 := (has_field h1).2.2.1 rfl
      rw [if_pos h2] at h
      exact envCk_small (fst2_zero (fst2_zero h).2).2
    · have h3 : q.env.length = 0 := of_decide_eq_true h1
      have h4 : q.env = [] := List.eq_nil_of_length_eq_zero h3
      rw [h4]
      simp
  have hb : q.bytes.length ≤ 4096 := by
    rcases only_at ho (f := 8) (by omega) with h1 | h1
    · have h2 := (has_field h1).2.2.2 rfl
      rw [if_neg (by omega), if_neg (by omega), if_pos h2] at h
      split at h
      · cases h
      · omega
    · have h3 : q.bytes.length = 0 := of_decide_eq_true h1
      omega
  exact ⟨by omega, by omega, ho, hp, ha.1, ha.2, he.1, he.2, hb⟩

/-- the numbers of a call fit -/
structure Nums (q : C) : Prop where
  a : q.a < 18446744073709551616
  b : q.b < 18446744073709551616
  c : q.c < 18446744073709551616
  d : q.d < 18446744073709551616
  e : q.e < 18446744073709551616

theorem take_app (x t : List UInt8) {n : Nat} (h : x.length = n) : take ⟨x ++ t, false⟩ n = (x, ⟨t, false⟩) := by
  unfold take
  rw [if_neg (by simp; omega)]
  simp only
  rw [List.take_append_of_le_length (by omega), List.drop_append_of_le_length (by omega), ← h, List.take_length, List.drop_length]
  rfl
theorem rnum_app {x n : Nat} (t : List UInt8) (h : x < 256 ^ n) : rnum ⟨lb x n ++ t, false⟩ n = (x, ⟨t, false⟩) := by
  unfold rnum
  rw [take_app _ _ (lb_len n x)]
  simp only
  rw [le_lb n x h]
theorem rtxt_app (s t : List UInt8) (h : s.length < 65536) : rtxt ⟨txt s ++ t, false⟩ = (s, ⟨t, false⟩) := by
  unfold rtxt txt
  rw [List.append_assoc, rnum_app _ (by omega)]
  exact take_app _ _ rfl
theorem rtxts_app (l : List ByteArray) (t : List UInt8) (h : ∀ x ∈ l, x.size < 65536) : rtxts l.length ⟨txts l ++ t, false⟩ = (l, ⟨t, false⟩) := by
  induction l with
  | nil => rfl
  | cons x r ih =>
    simp only [List.length_cons, txts, rtxts, Bool.false_eq_true, if_false, List.append_assoc]
    rw [rtxt_app _ _ (by rw [bl_len]; exact h x (.head _)), ih (fun y hy => h y (.tail _ hy)), ba_bl]
theorem rlst_app (l : List ByteArray) (t : List UInt8) (h : ∀ x ∈ l, x.size < 65536) (hl : l.length < 256) : rlst ⟨lst l ++ t, false⟩ = (l, ⟨t, false⟩) := by
  unfold rlst lst
  rw [List.append_assoc, rnum_app _ (by omega)]
  exact rtxts_app l t h
/-- a call with one field more -/
def setF (q s : C) : Nat → C
  | 5 => { s with path := q.path }
  | 6 => { s with argv := q.argv }
  | 7 => { s with env := q.env }
  | 8 => { s with bytes := q.bytes }
  | 0 => { s with a := q.a }
  | 1 => { s with b := q.b }
  | 2 => { s with c := q.c }
  | 3 => { s with d := q.d }
  | _ => { s with e := q.e }
def setFs (q : C) : List Nat → C → C
  | [], s => s
  | f :: r, s => setFs q r (setF q s f)
theorem rfld_app {q : C} (hs : Small q) (hn : Nums q) (s : C) (t : List UInt8) {f : Nat} (hf : f < 9) : rfld (s, ⟨fld q f ++ t, false⟩) f = (setF q s f, ⟨t, false⟩) := by
  obtain rfl | rfl | rfl | rfl | rfl | rfl | rfl | rfl | rfl : f = 0 ∨ f = 1 ∨ f = 2 ∨ f = 3 ∨ f = 4 ∨ f = 5 ∨ f = 6 ∨ f = 7 ∨ f = 8 := by omega
  · simp only [rfld, fld, num, setF]; rw [rnum_app _ hn.a]
  · simp only [rfld, fld, num, setF]; rw [rnum_app _ hn.b]
  · simp only [rfld, fld, num, setF]; rw [rnum_app _ hn.c]
  · simp only [rfld, fld, num, setF]; rw [rnum_app _ hn.d]
  · simp only [rfld, fld, num, setF]; rw [rnum_app _ hn.e]
  · simp only [rfld, fld, setF]; rw [rtxt_app _ _ (by rw [bl_len]; have := hs.p; omega), ba_bl]
  · simp only [rfld, fld, setF]; rw [rlst_app _ _ (fun x hx => by have := hs.a2 x hx; omega) (by have := hs.a1; omega)]
  · simp only [rfld, fld, setF]; rw [rlst_app _ _ (fun x hx => by have := hs.e2 x hx; omega) (by have := hs.e1; omega)]
  · simp only [rfld, fld, setF]; rw [rtxt_app _ _ (by have := hs.b; omega)]
theorem rflds_appR {q : C} (hs : Small q) (hn : Nums q) (l : List Nat) (hl : ∀ f ∈ l, f < 9) (s : C) (t : List UInt8) : rflds l (s, ⟨flds q l ++ t, false⟩) = (setFs q l s, ⟨t, false⟩) := by
  induction l generalizing s with
  | nil => rfl
  | cons f r ih =>
    simp only [rflds, flds, setFs, List.append_assoc]
    rw [rfld_app hs hn s _ (hl f (.head _))]
    exact ih (fun x hx => hl x (.tail _ hx)) _
theorem ba_nil {p : ByteArray} (h : p.size = 0) : p = ba [] := ByteArray.ext (Array.eq_empty_of_size_eq_zero h)
theorem emptyN {q : C} {f : Nat} (hf : f < 5) (h : emptyB q f = true) : num q f = 0 := by
  obtain rfl | rfl | rfl | rfl | rfl : f = 0 ∨ f = 1 ∨ f = 2 ∨ f = 3 ∨ f = 4 := by omega
  all_goals exact of_decide_eq_true (by simpa [emptyB] using h)
theorem setFs_all {q : C} (hs : Small q) : setFs q (fsN q.kind) (kindC q.kind) = q := by
  have ho : ∀ f, f < 9 → (fsN q.kind).contains f = true ∨ emptyB q f = true := fun f hf => only_at hs.only hf
  have h0 := ho 0 (by omega); have h1 := ho 1 (by omega); have h2 := ho 2 (by omega); have h3 := ho 3 (by omega); have h4 := ho 4 (by omega)
  have h5 := ho 5 (by omega); have h6 := ho 6 (by omega); have h7 := ho 7 (by omega); have h8 := ho 8 (by omega)
  have k1 := hs.k1
  have k2 := hs.k2
  clear ho hs
  obtain ⟨k, a, b, c, d, e, p, av, ev, bs⟩ := q
  simp only at *
  obtain rfl | rfl | rfl | rfl | rfl | rfl | rfl | rfl | rfl | rfl | rfl | rfl : k = 1 ∨ k = 2 ∨ k = 3 ∨ k = 4 ∨ k = 5 ∨ k = 6 ∨ k = 7 ∨ k = 8 ∨ k = 9 ∨ k = 10 ∨ k = 11 ∨ k = 12 := by omega
  all_goals
    simp [fsN, emptyB, num] at h0 h1 h2 h3 h4 h5 h6 h7 h8
    simp [setFs, setF, fsN, kindC, *]
    try rfl
theorem form_len_pos (q : C) : 0 < (form q).length := by simp [form]
theorem kind_byte {q : C} (hs : Small q) : (UInt8.ofNat q.kind).toNat = q.kind := by
  have := hs.k2
  simp
  omega
theorem rall_form {q : C} (hs : Small q) (hn : Nums q) (t : List UInt8) : rall q.kind (flds q (fsN q.kind) ++ t) = (q, ⟨t, false⟩) := by
  unfold rall
  rw [rflds_appR hs hn _ (fsN_ok q.kind).1, setFs_all hs]
/-- What is written is read, whatever stands behind. -/
theorem read_form {q : C} (h : check q = 0) (hn : Nums q) (t : List UInt8) : read (form q ++ t) = (q, (form q).length, 0) := by
  have hs := check_small h
  have k1 := hs.k1
  have k2 := hs.k2
  unfold form read
  simp only [List.cons_append]
  rw [kind_byte hs, rall_form hs hn t, if_neg (by omega), if_neg (by simp), if_pos h]
  simp only [List.length_cons, List.length_append]
  congr 2
  omega
/-- Cut, it is not. -/
theorem read_cut {q : C} (h : check q = 0) (hn : Nums q) {n : Nat} (hc : n < (form q).length) : read ((form q).take n) = (zeroC, 0, 24) := by
  have hs := check_small h
  have k1 := hs.k1
  have k2 := hs.k2
  cases n with
  | zero => rfl
  | succ n =>
    have hl : n < (flds q (fsN q.kind)).length := by simpa [form] using hc
    unfold form read
    simp only [List.take_succ_cons]
    rw [kind_byte hs, if_neg (by omega)]
    cases hg : (rall q.kind ((flds q (fsN q.kind)).take n)).2.gone
    · exfalso
      have h1 := rflds_more ((flds q (fsN q.kind)).drop n) (fsN q.kind) (s := (kindC q.kind, ⟨(flds q (fsN q.kind)).take n, false⟩)) (fsN_ok q.kind).1 (fsN_ok q.kind).2 hg
      have h2 := rall_form hs hn []
      unfold rall at h2
      rw [List.append_nil] at h2
      have e : more ((flds q (fsN q.kind)).drop n) ⟨(flds q (fsN q.kind)).take n, false⟩ = ⟨flds q (fsN q.kind), false⟩ := by unfold more; simp [List.take_append_drop]
      simp only at h1
      rw [e, h2] at h1
      have h3 := congrArg (fun s : C × R => s.2.b.length) h1
      simp [more] at h3
      omega
    · rfl
theorem rfld_kind (s : C × R) (f : Nat) : (rfld s f).1.kind = s.1.kind := by
  unfold rfld
  split <;> rfl
theorem rflds_kind (l : List Nat) (s : C × R) : (rflds l s).1.kind = s.1.kind := by
  induction l generalizing s with
  | nil => rfl
  | cons f r ih => simp only [rflds]; rw [ih, rfld_kind]
/-- What was read is written as it was. -/
theorem form_read {b : List UInt8} (h : (read b).2.2 = 0) : check (read b).1 = 0 ∧ b = form (read b).1 ++ b.drop (read b).2.1 ∧ (read b).2.1 = (form (read b).1).length := by
  cases b with
  | nil => cases h
  | cons k r =>
    unfold read at h ⊢
    simp only at h ⊢
    split at h
    · cases h
    rename_i hk
    split at h
    · cases h
    rename_i hg
    split at h
    · rename_i hc
      rw [if_neg hk, if_neg hg, if_pos hc]
      simp only
      have hg : (rall k.toNat r).2.gone = false := by simpa using hg
      obtain ⟨_, h1⟩ := rflds_went (fsN k.toNat) (s := (kindC k.toNat, ⟨r, false⟩)) (fsN_ok _).1 (fsN_ok _).2 hg
      have hkd : (rall k.toNat r).1.kind = k.toNat := rflds_kind _ _
      have h2 := h1.2.2
      simp only at h2
      have hfm : form (rall k.toNat r).1 = k :: flds (rall k.toNat r).1 (fsN k.toNat) := by
        unfold form
        rw [hkd]
        simp
      have hlen : r.length = (flds (rall k.toNat r).1 (fsN k.toNat)).length + (rall k.toNat r).2.b.length := by
        have := congrArg List.length h2
        rw [List.length_append] at this
        exact this
      have hn : r.length + 1 - (rall k.toNat r).2.b.length = (form (rall k.toNat r).1).length := by
        rw [hfm, List.length_cons]
        omega
      refine ⟨hc, ?_, hn⟩
      rw [hn]
      have h3 : k :: r = form (rall k.toNat r).1 ++ (rall k.toNat r).2.b := by
        rw [hfm, List.cons_append]
        congr 1
      conv => rhs; rw [h3]
      rw [List.drop_append_of_le_length (Nat.le_refl _), List.drop_length, List.nil_append]
      exact h3
    · rename_i hc
      exact absurd h hc
theorem read_bad {b : List UInt8} (h : (read b).2.2 ≠ 0) : (read b).1 = zeroC ∧ (read b).2.1 = 0 := by
  cases b with
  | nil => exact ⟨rfl, rfl⟩
  | cons k r =>
    unfold read at h ⊢
    simp only at h ⊢
    split
    · exact ⟨rfl, rfl⟩
    · split
      · exact ⟨rfl, rfl⟩
      · split
        · rename_i h1 h2 h3
          rw [if_neg h1, if_neg h2, if_pos h3] at h
          exact absurd rfl h
        · exact ⟨rfl, rfl⟩
/-- the numbers of what was read fit -/
theorem read_len (b : List UInt8) : (read b).2.1 ≤ b.length := by
  by_cases h : (read b).2.2 = 0
  · obtain ⟨_, h1, h2⟩ := form_read h
    rw [h2]
    conv => rhs; rw [h1, List.length_append]
    omega
  · rw [(read_bad h).2]
    omega
theorem rnum_lt (r : R) : (rnum r 8).1 < 18446744073709551616 := by
  have h := Wd.le_lt (take r 8).1
  have h2 : (take r 8).1.length ≤ 8 := by
    unfold take
    split
    · simp
    · simp; omega
  have h3 : (256 : Nat) ^ (take r 8).1.length ≤ 256 ^ 8 := Nat.pow_le_pow_right (by omega) h2
  show Wd.le (take r 8).1 < _
  omega
theorem rfld_nums (s : C × R) (f : Nat) (h : Nums s.1) : Nums (rfld s f).1 := by
  unfold rfld
  split
  · exact ⟨h.a, h.b, h.c, h.d, h.e⟩
  · exact ⟨h.a, h.b, h.c, h.d, h.e⟩
  · exact ⟨h.a, h.b, h.c, h.d, h.e⟩
  · exact ⟨h.a, h.b, h.c, h.d, h.e⟩
  · exact ⟨rnum_lt _, h.b, h.c, h.d, h.e⟩
  · exact ⟨h.a, rnum_lt _, h.c, h.d, h.e⟩
  · exact ⟨h.a, h.b, rnum_lt _, h.d, h.e⟩
  · exact ⟨h.a, h.b, h.c, rnum_lt _, h.e⟩
  · exact ⟨h.a, h.b, h.c, h.d, rnum_lt _⟩
theorem rflds_nums (l : List Nat) (s : C × R) (h : Nums s.1) : Nums (rflds l s).1 := by
  induction l generalizing s with
  | nil => exact h
  | cons f r ih => exact ih _ (rfld_nums s f h)
theorem kindC_nums (k : Nat) : Nums (kindC k) := ⟨by simp [kindC], by simp [kindC], by simp [kindC], by simp [kindC], by simp [kindC]⟩
theorem read_nums (b : List UInt8) : Nums (read b).1 := by
  cases b with
  | nil => exact kindC_nums 0
  | cons k r =>
    unfold read
    simp only
    split
    · exact kindC_nums 0
    · split
      · exact kindC_nums 0
      · split
        · exact rflds_nums _ _ (kindC_nums _)
        · exact kindC_nums 0

/-- The steps that bytes say. -/
def stepsF : Nat → List UInt8 → Nat → List (Nat × C) → List (Nat × C) × Int × Nat
  | 0, _, _, l => (l, 0, 0)
  | n + 1, [], _, l => (l, 0, 0)
  | n + 1, p :: r, at_, l => if (read r).2.2 = 0 then stepsF n (r.drop (read r).2.1) (at_ + 1 + (read r).2.1) (l ++ [(p.toNat, (read r).1)]) else ([], (read r).2.2, at_)
def steps (b : List UInt8) : List (Nat × C) × Int × Nat := stepsF b.length b 0 []
theorem stepsF_nil (n at_ : Nat) (l : List (Nat × C)) : stepsF n [] at_ l = (l, 0, 0) := by cases n <;> rfl
theorem stepsF_fuel (n m : Nat) (r : List UInt8) (at_ : Nat) (l : List (Nat × C)) (h1 : r.length ≤ n) (h2 : r.length ≤ m) : stepsF n r at_ l = stepsF m r at_ l := by
  induction n generalizing m r at_ l with
  | zero =>
    have : r = [] := List.eq_nil_of_length_eq_zero (by omega)
    subst this
    rw [stepsF_nil, stepsF_nil]
  | succ n ih =>
    cases r with
    | nil => rw [stepsF_nil, stepsF_nil]
    | cons p r =>
      obtain ⟨m, rfl⟩ : ∃ j, m = j + 1 := ⟨m - 1, by simp at h2; omega⟩
      simp only [stepsF]
      simp at h1 h2
      rw [ih m _ _ _ (by simp; omega) (by simp; omega)]
/-- One step: read or not. -/
theorem stepsF_cons (n : Nat) (p : UInt8) (r : List UInt8) (at_ : Nat) (l : List (Nat × C)) (h : r.length + 1 ≤ n) :
    stepsF n (p :: r) at_ l = if (read r).2.2 = 0 then stepsF n (r.drop (read r).2.1) (at_ + 1 + (read r).2.1) (l ++ [(p.toNat, (read r).1)]) else ([], (read r).2.2, at_) := by
  obtain ⟨m, rfl⟩ : ∃ j, n = j + 1 := ⟨n - 1, by omega⟩
  conv => lhs; simp only [stepsF]
  rw [stepsF_fuel m (m + 1) _ _ _ (by simp; omega) (by simp; omega)]

/-- Steps as bytes. -/
def script : List (Nat × C) → List UInt8
  | [] => []
  | s :: r => UInt8.ofNat s.1 :: form s.2 ++ script r
theorem script_app (a b : List (Nat × C)) : script (a ++ b) = script a ++ script b := by
  induction a with
  | nil => rfl
  | cons s r ih => simp [script, ih]
/-- steps that may be written -/
def Good (s : Nat × C) : Prop := s.1 < 256 ∧ check s.2 = 0 ∧ Nums s.2
theorem stepsF_script (L : List (Nat × C)) (hL : ∀ s ∈ L, Good s) (t : List UInt8) (n at_ : Nat) (l : List (Nat × C)) (h : (script L ++ t).length ≤ n) :
    stepsF n (script L ++ t) at_ l = stepsF n t (at_ + (script L).length) (l ++ L) := by
  induction L generalizing at_ l with
  | nil => simp [script]
  | cons s r ih =>
    obtain ⟨g1, g2, g3⟩ := hL s (.head _)
    have e : script (s :: r) ++ t = UInt8.ofNat s.1 :: (form s.2 ++ (script r ++ t)) := by simp [script]
    have hl : (script (s :: r) ++ t).length = (form s.2 ++ (script r ++ t)).length + 1 := by rw [e, List.length_cons]
    rw [e, stepsF_cons _ _ _ _ _ (by omega), read_form g2 g3]
    simp only [if_true]
    rw [List.drop_append_of_le_length (Nat.le_refl _), List.drop_length, List.nil_append, ih (fun x hx => hL x (.tail _ hx)) _ _ (by rw [hl, List.length_append] at h; omega)]
    congr 1
    · simp [script]; omega
    · have : (UInt8.ofNat s.1).toNat = s.1 := by simp; omega
      rw [this]
      simp
theorem steps_script (L : List (Nat × C)) (hL : ∀ s ∈ L, Good s) : steps (script L) = (L, 0, 0) := by
  have h := stepsF_script L hL [] (script L).length 0 [] (by simp)
  rw [List.append_nil, stepsF_nil] at h
  simpa [steps] using h
theorem steps_cut (L : List (Nat × C)) (hL : ∀ s ∈ L, Good s) (s : Nat × C) (hs : Good s) (n : Nat) (h : n < (form s.2).length) :
    steps (script L ++ UInt8.ofNat s.1 :: (form s.2).take n) = ([], 24, (script L).length) := by
  unfold steps
  rw [stepsF_script L hL _ _ _ _ (Nat.le_refl _), stepsF_cons _ _ _ _ _ (by simp), read_cut hs.2.1 hs.2.2 h]
  simp
end Go.Proofs.Ytmoenjmhogmcoaa.Cl
