/- The walks of slices.IndexFunc and slices.DeleteFunc at texts, over a predicate that holds one value. Conditions: no text is longer than the model's greatest length. The walk of slices.DeleteFunc at texts, over a row of the call's own. Conditions: no text is longer than the model's greatest length. What an argument that is a slice of bytes, of integers or of strings reads as: a list, cell by cell. No conditions. The walks of envs.of, slices.Clone, envs.Unset, envs.Get. Conditions: no text is longer than the model's greatest length. A map with whatever keys, its entries in their order: a new key put in, a key looked up. No conditions. Free of any chapter. The walks of envs.unsafe, of Scrub's predicate, of envs.Scrub. Conditions: no text is longer than the model's greatest length. Printed by gen_env5.py. The walk of envs.Set. Conditions: no text is longer than 2^32 bytes. The iterator that strings.SplitSeq hands back, at a colon: the pieces come one by one. Conditions: the text is no longer than the model's greatest length. A loop over the pieces that strings.SplitSeq's iterator gives, the body never leaving it early; envs.List. Conditions: the text is no longer than 2^32 bytes. The walk of envs.List. Conditions: the text is no longer than 2^32 bytes. The walks of the package paths: what Parts, Join, Base, Dir and Tail compute, of any text. Condition: the texts are no longer than the model's greatest length. The walks of paths.Join, Base, Dir, Tail and of the references' answers to these. Condition: the texts are shorter than 2^62 bytes. The rest of a slice, s[1:], told by one address whatever its capacity. No conditions. Free of any chapter. The walks of hostelref03.List, hostelref15.Dirs and Paths. Conditions: the texts have fewer than 2^32 bytes. Laws of the walk for append onto a slice that has no room behind it, read by 'Rd': 'append(l[:len(l):len(l)], ..)'. No conditions. The walks of search.Dirs and search.Paths. Conditions: the texts have fewer than 2^32 bytes. The walk of search.Paths; the walks of hostelref15.Dirs and Paths. Conditions: the texts have fewer than 2^32 bytes. A file system in memory: its nodes as blocks, told by number. Conditions: as each says. What is known of a node: the walk of Meta. Conditions: as each says. A nil file system: the walks of Walk, Read and Path. No conditions. The root of a file system; type assertions. Conditions: as each says. A file system in memory, whole: all its blocks are of a base on, told apart; its maps say its names. Conditions: as each says. The node at parts from the root on: the walk of at. Conditions: as it says. -/
import Derived.Test.YtchmdpkjipaafaaDoorSeB1
import Derived.Lib.SliceRun
import Derived.ChangeSlices
import Derived.SliceStrings
import Derived.OpenShut
import Derived.Maps.Own
import Derived.RangeFuncNested
import Derived.RangeFuncBound
import Derived.RangeFuncCalls
import Derived.RangeFuncLeaves
import Derived.Shelf.Abstract
import Derived.Shelf.RegionOpen
import Derived.OwnWalkIn
import Derived.TacticsInMore
import Derived.LoopNIn
import Derived.LoopIn
import Derived.RangeFuncOwn
import Derived.RangeFuncRecord
import Derived.Maps.AppendAt
import Derived.ArgAppend
import Derived.Deep.Upon
import Derived.Deep.RegionHeld3
namespace Go.Proofs.YtchmdpkjipaafaaDoor
set_option linter.unusedVariables false
set_option linter.unusedSimpArgs false
open Go.RowKit

def IdxE (l : List ByteArray) (p : ByteArray → Bool) (w : World) (e : Ending) (w' : World) : Prop :=
  ∃ r : Int, e = .returned (.int .i64 r) ∧ ((l.any p = false ∧ r = -1) ∨ ∃ k : Nat, r = k ∧ k = l.findIdx p ∧ k < l.length) ∧ ∃ q, w' = w.drewN q
theorem findIdx_first {l : List ByteArray} {p : ByteArray → Bool} {k : Nat} {x : ByteArray} (hx : l[k]? = some x) (hp : p x = true) (hno : (l.take k).any p = false) : k = l.findIdx p ∧ k < l.length := by
  have hlt := (List.getElem?_eq_some_iff.1 hx).1
  refine ⟨?_, hlt⟩
  have e : l = l.take k ++ x :: l.drop (k + 1) := by
    rw [← (List.getElem?_eq_some_iff.1 hx).2, ← List.drop_eq_getElem_cons hlt, List.take_append_drop]
  have : ∀ a b : List ByteArray, a.any p = false → (a ++ x :: b).findIdx p = a.length := by
    intro a b ha
    induction a with
    | nil => rw [List.nil_append, List.findIdx_cons, hp]; rfl
    | cons y r ih =>
      rw [List.any_cons, Bool.or_eq_false_iff] at ha
      rw [List.cons_append, List.findIdx_cons, ha.1, ih ha.2]
      rfl
  conv => rhs; rw [e]
  rw [this _ _ hno, List.length_take]
  omega

set_option maxHeartbeats 1000000 in
theorem idxf_any (fn : FuncId) (cp : Value) (p : ByteArray → Bool) (hcf : ∀ (args : Array Value) (w : World), (callFunc fn args).run Tryd.prog w = .ok (.enter fn args) w)
    (A : Option Addr) (n c B : Nat) (l : List ByteArray) (w : World)
    (hfn : ∀ (x : ByteArray) (j : Nat), x.size ≤ maxLen → Calls Tryd.prog fn #[.string x, cp] (w.drewN j) fun e w' => e = .returned (.bool (p x)) ∧ ∃ q, w' = (w.drewN j).drewN q)
    (hl : Rd w B 1 A n (l.map Value.string)) (hs : ∀ x ∈ l, x.size ≤ maxLen) (hn : n ≤ maxLen) :
    Calls Tryd.prog 37 #[.slice A n c, .func (.func fn) #[] #[cp]] w (IdxE l p w) := by
  have hln : l.length = n := by simpa using hl.len1
  unfold maxLen at hn
  have Hl := hide hl
  have Hln := hide hln
  have Hs := hide hs
  have Hfn := hide hfn
  clear hl hln hs hfn
  go_enter Tryd.func37, Tryd.ntmps37
  go_wp2_with fail
  go_loopg [8] n (fun gk i wr => ∃ k : Nat, gk = n - k ∧ k ≤ n ∧ i = .int .i64 k ∧ (l.take k).any p = false ∧ ∃ q, wr = w.drewN q)
  case atStart => exact ⟨0, by omega, Nat.zero_le _, rfl, rfl, 0, rfl⟩
  case round =>
    obtain ⟨k, hgk, hk, rfl, hno, q, rfl⟩ := hrel
    have Hgk := hide hgk
    have Hno := hide hno
    clear hgk hno
    by_cases hlt : k < n
    · obtain ⟨x, hx⟩ : ∃ x, l[k]? = some x := ⟨_, List.getElem?_eq_getElem (by rw [unhide Hln]; exact hlt)⟩
      obtain ⟨b1, o1, rfl, _, c1⟩ := ((unhide Hl).drewN q).at_ (k := k) (u := .string x) (by simp [hx])
      have hc := (unhide Hfn) x q ((unhide Hs) _ (List.mem_of_getElem? hx))
      cases hp : p x
      · have hno2 : (l.take (k + 1)).any p = false := by rw [List.take_add_one, hx]; simp [unhide Hno, hp]
        rw [hp] at hc
        have Hc := hide hc
        have Hno2 := hide hno2
        clear hc hno2 hp hx
        go_wp2_with ((with_reducible refine (unhide Hc).mono ?_); rintro e w1 ⟨rfl, q2, rfl⟩)
        go_roundg (n - (k + 1))
        case measure => have := unhide Hgk; omega
        case rel => exact ⟨k + 1, rfl, by omega, by go_num, unhide Hno2, q + q2, by simp⟩
      · have hf := findIdx_first hx hp (unhide Hno)
        rw [hp] at hc
        have Hc := hide hc
        have Hf := hide hf
        clear hc hf hp hx
        go_wp2_with ((with_reducible refine (unhide Hc).mono ?_); rintro e w1 ⟨rfl, q2, rfl⟩)
        go_ret
        exact ⟨k, rfl, .inr ⟨k, rfl, (unhide Hf).1, (unhide Hf).2⟩, q + q2, by simp⟩
    · have hno2 : l.any p = false := by
        have := unhide Hno
        rwa [List.take_of_length_le (by have := unhide Hln; omega)] at this
      have Hno2 := hide hno2
      clear hno2
      go_wp2_with fail
      go_ret
      exact ⟨-1, rfl, .inl ⟨unhide Hno2, rfl⟩, q, rfl⟩

/-- A slice of the call's own is cut to its first elements. -/
theorem own_front {w : World} {base : Nat} {e : TypeId} {A : Option Addr} {n c k : Nat} {xs : List Value} (h : w.ownsRow base e 1 (.slice A n c) n xs) (hk : k ≤ n) : w.ownsRow base e 1 (.slice A k c) k (xs.take k) := by
  refine ⟨by rw [List.length_take, h.1]; omega, ?_⟩
  rcases h.2 with ⟨e1, e2⟩ | ⟨g, cap, cur, e1, e2, e3, e4, e5, e6, e7⟩
  · injection e1 with e1 e1b e1c
    subst e1 e1c
    exact .inl ⟨by rw [show k = 0 by omega], by omega⟩
  · injection e1 with e1 _ e1c
    subst e1 e1c
    refine .inr ⟨g, c, cur, rfl, e2, e3, by omega, e5, e6, ?_⟩
    rw [← e7, List.take_take]
    congr 1
    omega
theorem own_setCells {base g n c : Nat} {e : TypeId} (vs : List Value) : ∀ (o : Nat) (w : World) (xs : List Value), w.ownsRow base e 1 (.slice (some ⟨g, 0, none⟩) n c) n xs → ∃ ys, (w.setCells g o vs).ownsRow base e 1 (.slice (some ⟨g, 0, none⟩) n c) n ys ∧ ys.take o = xs.take o := by
  induction vs with
  | nil => intro o w xs h; exact ⟨xs, h, rfl⟩
  | cons v r ih =>
    intro o w xs h
    obtain ⟨ys, h1, h2⟩ := ih (o + 1) (w.setCell ⟨g, o, none⟩ v) (xs.set o v) (own_set h v)
    refine ⟨ys, h1, ?_⟩
    have := congrArg (fun l : List Value => l.take o) h2
    simp only [List.take_take] at this
    rw [show min o (o + 1) = o by omega] at this
    rw [this, List.take_set_of_le (Nat.le_refl _)]
theorem grown_setCells {g : Nat} (vs : List Value) : ∀ (o : Nat) (w0 w : World), w0.grownBy w (some g) → w0.grownBy (w.setCells g o vs) (some g) := by
  induction vs with
  | nil => intro o w0 w h; exact h
  | cons v r ih => intro o w0 w h; exact ih (o + 1) w0 _ (grown_trans h ⟨rfl, rfl, rfl, by simp, fun k _ hk => heap_setCell_other _ _ _ _ (fun e => hk (by rw [e]))⟩)
end Go.Proofs.YtchmdpkjipaafaaDoor
namespace Go.Proofs.YtchmdpkjipaafaaDoor
set_option linter.unusedVariables false
set_option linter.unusedSimpArgs false
open Go.RowKit

def np (p : ByteArray → Bool) (x : ByteArray) : Bool := !p x
theorem np_keep {l : List ByteArray} {p : ByteArray → Bool} {j : Nat} {x : ByteArray} (hx : l[j]? = some x) (hp : p x = false) : (l.take (j + 1)).filter (np p) = (l.take j).filter (np p) ++ [x] := by
  rw [List.take_add_one, hx, List.filter_append]
  simp [np, hp]
theorem np_drop {l : List ByteArray} {p : ByteArray → Bool} {j : Nat} {x : ByteArray} (hx : l[j]? = some x) (hp : p x = true) : (l.take (j + 1)).filter (np p) = (l.take j).filter (np p) := by
  rw [List.take_add_one, hx, List.filter_append]
  simp [np, hp]
theorem np_all {l : List ByteArray} {p : ByteArray → Bool} (h : l.any p = false) : l.filter (np p) = l := by
  rw [List.filter_eq_self]
  intro x hx
  have := (List.any_eq_false.1 h) x hx
  simp [np, this]
theorem np_first {l : List ByteArray} {p : ByteArray → Bool} {k : Nat} (hk : k = l.findIdx p) (hlt : k < l.length) : (l.take (k + 1)).filter (np p) = l.take k := by
  subst hk
  have hx : l[l.findIdx p]? = some l[l.findIdx p] := List.getElem?_eq_getElem hlt
  have hp : p l[l.findIdx p] = true := List.findIdx_getElem (w := hlt)
  rw [np_drop hx hp]
  apply np_all
  rw [List.any_eq_false]
  intro x hm
  obtain ⟨j, hj, rfl⟩ := List.mem_iff_getElem.1 hm
  rw [List.length_take] at hj
  rw [List.getElem_take]
  have := List.not_of_lt_findIdx (p := p) (xs := l) (i := j) (by omega)
  simpa using this
/-- Where DeleteFunc stands: j texts are looked at, the kept ones stand ahead. -/
structure DelS (p : ByteArray → Bool) (l : List ByteArray) (n j i : Nat) (Y : List ByteArray) : Prop where
  len : Y.length = n
  front : Y.take i = (l.take j).filter (np p)
  i_ : ((l.take j).filter (np p)).length = i
  rest : ∀ m, j ≤ m → Y[m]? = l[m]?
theorem DelS.le {p : ByteArray → Bool} {l Y : List ByteArray} {n j i : Nat} (h : DelS p l n j i Y) : i ≤ j := by
  have := h.i_
  have h2 := List.length_filter_le (np p) (l.take j)
  have h3 : (l.take j).length ≤ j := List.length_take_le _ _
  omega
theorem DelS.skip {p : ByteArray → Bool} {l Y : List ByteArray} {n j i : Nat} {x : ByteArray} (h : DelS p l n j i Y) (hx : l[j]? = some x) (hp : p x = true) : DelS p l n (j + 1) i Y := by
  have e := np_drop hx hp
  exact ⟨h.len, by rw [e]; exact h.front, by rw [e]; exact h.i_, fun m hm => h.rest m (by omega)⟩
theorem DelS.keep {p : ByteArray → Bool} {l Y : List ByteArray} {n j i : Nat} {x : ByteArray} (h : DelS p l n j i Y) (hx : l[j]? = some x) (hp : p x = false) (hj : j < n) : DelS p l n (j + 1) (i + 1) (Y.set i x) := by
  have e := np_keep hx hp
  have hle := h.le
  have hY : i < Y.length := by rw [h.len]; omega
  refine ⟨by rw [List.length_set]; exact h.len, ?_, by rw [e, List.length_append, h.i_]; rfl, fun m hm => ?_⟩
  · rw [e, ← h.front, List.take_add_one, List.take_set_of_le (Nat.le_refl _), List.getElem?_set_self hY]
    rfl
  · rw [List.getElem?_set_ne (by omega)]
    exact h.rest m (by omega)

def DelE (base : Nat) (l' : List ByteArray) (v : Value) (w : World) (e : Ending) (w' : World) : Prop :=
  ∃ A' c', e = .returned (.slice A' l'.length c') ∧ w'.ownsRow base 9 1 (.slice A' l'.length c') l'.length (l'.map Value.string) ∧ w.grownBy w' v.ownBlock

end Go.Proofs.YtchmdpkjipaafaaDoor
namespace Go.Proofs.YtchmdpkjipaafaaDoor
set_option linter.unusedVariables false
set_option linter.unusedSimpArgs false
open Go.RowKit Go.ChangeShapes Go.WideShapes

theorem cell_lt {w : World} {a : Addr} {v : Value} (h : w.cell? a = some v) : a.block < w.heap.size := by
  unfold World.cell? at h
  split at h
  · rename_i hb
    exact (Array.getElem?_eq_some_iff.1 hb).1
  · cases h

section
variable {H : Type} {enc : TypeId × Value → H} {P : Program} {w : World} {base : Nat} {held : Bool} {t e : TypeId} {A : Option Addr} {n c : Nat} {d : DataW H} {p : List MemPlace}

theorem open_nums_rd {k : IntKind} (ht : P.underlying t = some (.slice e)) (he : P.underlying e = some (.int k)) (hc : P.cellsOf e = 1)
    (h : DataW.Trod enc P w base (fun _ => true) held t (.slice A n c) d p) :
    ∃ zs : List Int, Rd w w.heap.size 1 A n (zs.map (Value.int k)) ∧ n ≤ c ∧ c ≤ maxLen ∧ ∀ z ∈ zs, (Lit.int k z).wf = true := by
  obtain ⟨fuel, hf⟩ := h
  rcases open_ints ht he hc hf with ⟨h1, h2⟩ | ⟨a, len, cap, zs, h1, hb, hl, hm, hz, hx, hcell, hwz⟩
  · simp [Value.cells] at h1
    obtain ⟨rfl, rfl, rfl⟩ := h1
    exact ⟨[], Rd.none_ _ _ _ _, Nat.le_refl _, by unfold maxLen; omega, by simp⟩
  · simp [Value.cells] at h1
    obtain ⟨rfl, rfl, rfl⟩ := h1
    simp only [if_true] at hz
    refine ⟨zs.take n, ⟨by simp [hz]; omega, ?_⟩, hl, hm, fun z hz => hwz z (List.mem_of_mem_take hz)⟩
    by_cases h0 : n = 0
    · subst h0; exact .inl rfl
    · obtain ⟨b, off, rfl, hc2⟩ := ints_at hcell (by omega)
      have hblk := cell_lt (hc2 0 (by omega))
      refine .inr ⟨b, off, rfl, hblk, fun j u hu => ?_⟩
      simp only [List.getElem?_map, Option.map_eq_some_iff] at hu
      obtain ⟨z, hz1, rfl⟩ := hu
      have hj : j < n := by
        have := (List.getElem?_eq_some_iff.1 hz1).1
        simp at this
        omega
      rw [List.getElem?_take_of_lt hj] at hz1
      rw [hc2 j (by omega), List.getD_eq_getElem?_getD, hz1]
      rfl

theorem u8_of {z : Int} (h : (Lit.int .u8 z).wf = true) : ((UInt8.ofNat z.toNat).toNat : Int) = z := by
  have hb : 0 ≤ z ∧ z ≤ 255 := by
    simpa [Lit.wf, IntKind.min, IntKind.max, IntKind.signed, IntKind.bits] using h
  simp
  omega

theorem open_bytes_rd (ht : P.underlying t = some (.slice e)) (he : P.underlying e = some (.int .u8)) (hc : P.cellsOf e = 1)
    (h : DataW.Trod enc P w base (fun _ => true) held t (.slice A n c) d p) :
    ∃ b : List UInt8, Rd w w.heap.size 1 A n (b.map fun c => .int .u8 c.toNat) ∧ n ≤ c ∧ c ≤ maxLen := by
  obtain ⟨zs, h1, h2, h3, h4⟩ := open_nums_rd ht he hc h
  refine ⟨zs.map fun z => UInt8.ofNat z.toNat, ?_, h2, h3⟩
  have e1 : (zs.map fun z => UInt8.ofNat z.toNat).map (fun c : UInt8 => Value.int .u8 c.toNat) = zs.map (Value.int .u8) := by
    rw [List.map_map]
    refine List.map_congr_left fun z hz => ?_
    show Value.int .u8 ((UInt8.ofNat z.toNat).toNat : Int) = _
    rw [u8_of (h4 z hz)]
  rw [e1]
  exact h1

theorem open_ints_rd (ht : P.underlying t = some (.slice e)) (he : P.underlying e = some (.int .i64)) (hc : P.cellsOf e = 1)
    (h : DataW.Trod enc P w base (fun _ => true) held t (.slice A n c) d p) :
    ∃ zs : List Int, Rd w w.heap.size 1 A n (zs.map (Value.int .i64)) ∧ n ≤ c ∧ c ≤ maxLen ∧ ∀ z ∈ zs, -9223372036854775808 ≤ z ∧ z ≤ 9223372036854775807 := by
  obtain ⟨zs, h1, h2, h3, h4⟩ := open_nums_rd ht he hc h
  refine ⟨zs, h1, h2, h3, fun z hz => ?_⟩
  have := h4 z hz
  simpa [Lit.wf, IntKind.min, IntKind.max, IntKind.signed, IntKind.bits] using this

theorem open_strs_rd (ht : P.underlying t = some (.slice e)) (he : P.underlying e = some .string) (hc : P.cellsOf e = 1)
    (h : DataW.Trod enc P w base (fun _ => true) held t (.slice A n c) d p) :
    ∃ ss : List ByteArray, Rd w w.heap.size 1 A n (ss.map Value.string) ∧ n ≤ c ∧ c ≤ maxLen ∧ ∀ s ∈ ss, s.size ≤ maxLen := by
  obtain ⟨fuel, hf⟩ := h
  rcases open_strings ht he hc hf with ⟨h1, h2⟩ | ⟨a, len, cap, zs, h1, hb, hl, hm, hz, hx, hcell, hwz⟩
  · simp [Value.cells] at h1
    obtain ⟨rfl, rfl, rfl⟩ := h1
    exact ⟨[], Rd.none_ _ _ _ _, Nat.le_refl _, by unfold maxLen; omega, by simp⟩
  · simp [Value.cells] at h1
    obtain ⟨rfl, rfl, rfl⟩ := h1
    simp only [if_true] at hz
    refine ⟨zs.take n, ⟨by simp [hz]; omega, ?_⟩, hl, hm, fun z hz => hwz z (List.mem_of_mem_take hz)⟩
    by_cases h0 : n = 0
    · subst h0; exact .inl rfl
    · obtain ⟨b, off, spot⟩ := a
      have hs : spot = none := by simpa [Addr.add] using World.cell?_spot (hcell 0 (by omega))
      subst hs
      have hc2 : ∀ i, i < zs.length → w.cell? ⟨b, off + i, none⟩ = some (.string (zs.getD i ByteArray.empty)) := fun j hj => by
        rw [← Go.WideShapes.add_plain]; exact hcell j hj
      have hblk := cell_lt (hc2 0 (by omega))
      refine .inr ⟨b, off, rfl, hblk, fun j u hu => ?_⟩
      simp only [List.getElem?_map, Option.map_eq_some_iff] at hu
      obtain ⟨z, hz1, rfl⟩ := hu
      have hj : j < n := by
        have := (List.getElem?_eq_some_iff.1 hz1).1
        simp at this
        omega
      rw [List.getElem?_take_of_lt hj] at hz1
      rw [hc2 j (by omega), List.getD_eq_getElem?_getD, hz1]
      rfl
end
end Go.Proofs.YtchmdpkjipaafaaDoor
namespace Go.Proofs.YtchmdpkjipaafaaDoor
set_option linter.unusedVariables false
set_option linter.unusedSimpArgs false
open Go.RowKit

theorem cell_blk {w w' : World} {b : Nat} (h : w'.heap[b]? = w.heap[b]?) (o : Nat) : w'.cell? ⟨b, o, none⟩ = w.cell? ⟨b, o, none⟩ := by
  unfold World.cell?
  simp only [h]
def CloneE (l : List ByteArray) (n : Nat) (w : World) (e : Ending) (w' : World) : Prop :=
  ∃ A' c', e = .returned (.slice A' n c') ∧ w'.ownsRow w.heap.size 9 1 (.slice A' n c') n (l.map Value.string) ∧ Below w.heap.size w w'
def EnvE (l' : List ByteArray) (w : World) (e : Ending) (w' : World) : Prop :=
  ∃ A' c', e = .returned (.slice A' l'.length c') ∧ w'.ownsRow w.heap.size 9 1 (.slice A' l'.length c') l'.length (l'.map Value.string) ∧ Below w.heap.size w w'

end Go.Proofs.YtchmdpkjipaafaaDoor
namespace Go.Proofs.YtchmdpkjipaafaaDoor
set_option linter.unusedVariables false
set_option linter.unusedSimpArgs false
open Go.RowKit

/-- Block g is a map with just these entries, in their order; no key stands twice. -/
structure MapG (w : World) (g : Nat) (d : TypeDesc) (m : List (Value × Value)) : Prop where
  there : ∃ es clk, w.heap[g]? = some (.map es clk) ∧ es.toList.map (fun e => (e.key, e.val)) = m
  keys : ∀ p ∈ m, Go.MapKept.IsKey d p.1
  once : m.Pairwise (fun p q => p.1 ≠ q.1)

section
variable {P : Program} {t kt e : TypeId} {d : TypeDesc} {w : World} {g : Nat} {m : List (Value × Value)} {x v : Value}
theorem findG_no (hx : Go.MapKept.IsKey d x) : ∀ (es : List MapEntry) (m : List (Value × Value)) (i : Nat), es.map (fun e => (e.key, e.val)) = m → (∀ p ∈ m, Go.MapKept.IsKey d p.1) → (∀ p ∈ m, p.1 ≠ x) → Instr.findNow d x es i = some none := by
  intro es
  induction es with
  | nil => intro m i h hk hn; rfl
  | cons e es ih =>
    intro m i h hk hn
    subst h
    simp only [List.map_cons, List.mem_cons, forall_eq_or_imp] at hk hn
    obtain ⟨r, hr, hiff⟩ := Go.MapKept.sameNow_of_keys hx hk.1
    have hrf : r = false := by
      cases r with
      | false => rfl
      | true => exact absurd (hiff.1 rfl).symm hn.1
    unfold Instr.findNow
    rw [hr, hrf]
    exact ih _ _ rfl hk.2 hn.2
theorem findG_yes (hx : Go.MapKept.IsKey d x) : ∀ (es : List MapEntry) (m : List (Value × Value)) (i : Nat), es.map (fun e => (e.key, e.val)) = m → (∀ p ∈ m, Go.MapKept.IsKey d p.1) → m.Pairwise (fun p q => p.1 ≠ q.1) → (x, v) ∈ m → ∃ j, Instr.findNow d x es i = some (some (j, v)) := by
  intro es
  induction es with
  | nil => intro m i h hk hp hm; subst h; cases hm
  | cons e es ih =>
    intro m i h hk hp hm
    subst h
    simp only [List.map_cons, List.mem_cons, forall_eq_or_imp] at hk hm
    rw [List.map_cons, List.pairwise_cons] at hp
    obtain ⟨r, hr, hiff⟩ := Go.MapKept.sameNow_of_keys hx hk.1
    unfold Instr.findNow
    rw [hr]
    rcases hm with hm | hm
    · injection hm with h1 h2
      rw [hiff.2 h1]
      exact ⟨i, by rw [h2]⟩
    · have hrf : r = false := by
        cases r with
        | false => rfl
        | true => exact absurd (hiff.1 rfl).symm (hp.1 _ hm)
      rw [hrf]
      exact ih _ _ rfl hk.2 hp.2 hm
theorem run_putG (ht : P.underlying t = some (.map kt e)) (hk : P.underlying kt = some d) (hik : Go.MapKept.IsKey d x) (h : MapG w g d m) (hx : ∀ p ∈ m, p.1 ≠ x) :
    ∃ w', (Instr.mapUpdate t (.map (some g)) x v).run P w = .ok () w' ∧ MapG w' g d (m ++ [(x, v)]) ∧ w.grownBy w' (some g) ∧ w'.heap.size = w.heap.size := by
  obtain ⟨⟨es, clk, hg, hm⟩, hks, hone⟩ := h
  have hr := findG_no hik es.toList m 0 hm hks hx
  have hlt : g < w.heap.size := (Array.getElem?_eq_some_iff.1 hg).1
  refine ⟨{ w with heap := w.heap.setIfInBounds g (.map (es.push { key := x, val := v, born := clk }) (clk + 1)) }, ?_, ⟨?_, ?_, ?_⟩, ?_, by simp⟩
  · simp [Instr.mapUpdate, run_underlying ht, Go.MapKept.run_getObj_map hg, Go.MapKept.run_checkKey hk hik, Go.MapKept.run_findKey hk hr, Go.MapKept.run_setObj_map _ hg, Result.andThen]
  · refine ⟨_, _, (Go.MapKept.heap_set hg).1, ?_⟩
    simp [hm]
  · intro p hp
    rcases List.mem_append.1 hp with hp | hp
    · exact hks p hp
    · rw [List.mem_singleton] at hp
      subst hp
      exact hik
  · rw [List.pairwise_append]
    refine ⟨hone, by simp, fun a ha b hb => ?_⟩
    rw [List.mem_singleton] at hb
    subst hb
    exact hx a ha
  · exact ⟨rfl, rfl, rfl, by simp, fun i _ hi => (Go.MapKept.heap_set hg).2 i (fun e => hi (by rw [e]))⟩
theorem run_lookG_yes (ht : P.underlying t = some (.map kt e)) (hk : P.underlying kt = some d) (hik : Go.MapKept.IsKey d x) (h : MapG w g d m) (hx : (x, v) ∈ m) :
    (Instr.lookup t (.map (some g)) x true).run P w = .ok (.tuple #[v, .bool true]) w ∧ (Instr.lookup t (.map (some g)) x false).run P w = .ok v w := by
  obtain ⟨⟨es, clk, hg, hm⟩, hks, hone⟩ := h
  obtain ⟨j, hr⟩ := findG_yes hik es.toList m 0 hm hks hone hx
  constructor <;> simp [Instr.lookup, run_underlying ht, Go.MapKept.run_getObj_map hg, Go.MapKept.run_checkKey hk hik, Go.MapKept.run_findKey hk hr, Result.andThen]
theorem run_lookG_no (ht : P.underlying t = some (.map kt e)) (hk : P.underlying kt = some d) (hik : Go.MapKept.IsKey d x) {z : Value} (hz : (zeroValue e).run P w = .ok z w) (h : MapG w g d m) (hx : ∀ p ∈ m, p.1 ≠ x) :
    (Instr.lookup t (.map (some g)) x true).run P w = .ok (.tuple #[z, .bool false]) w ∧ (Instr.lookup t (.map (some g)) x false).run P w = .ok z w := by
  obtain ⟨⟨es, clk, hg, hm⟩, hks, hone⟩ := h
  have hr := findG_no hik es.toList m 0 hm hks hx
  constructor <;> simp [Instr.lookup, run_underlying ht, Go.MapKept.run_getObj_map hg, Go.MapKept.run_checkKey hk hik, Go.MapKept.run_findKey hk hr, hz, Result.andThen]
theorem MapG.nil (w : World) (d : TypeDesc) : MapG (w.alloc (.map #[] 0)) w.heap.size d [] := ⟨⟨#[], 0, heap_alloc_new _ _, rfl⟩, by simp, by simp⟩
theorem MapG.keep {w' : World} (h : MapG w g d m) (hk : w'.heap[g]? = w.heap[g]?) : MapG w' g d m := by
  obtain ⟨⟨es, clk, hg, hm⟩, hks, hone⟩ := h
  exact ⟨⟨es, clk, hk.trans hg, hm⟩, hks, hone⟩
theorem MapG.lt (h : MapG w g d m) : g < w.heap.size := by
  obtain ⟨⟨es, clk, hg, hm⟩, hks, hone⟩ := h
  exact (Array.getElem?_eq_some_iff.1 hg).1
theorem MapG.below {w' : World} {B : Nat} (h : MapG w g d m) (hb : Below B w w') (hg : g < B) : MapG w' g d m := h.keep (hb.block g hg)
theorem MapG.belowSz {w' : World} (h : MapG w g d m) (hb : Below w.heap.size w w') : MapG w' g d m := h.below hb h.lt

/-- 'm[x] = v' of a new key at the operation (a map literal). -/
theorem wpList_putG {ops : Array Oper} {rest : List Oper} {o : Oper} {a : Act} {Q : Exit → Act → World → Prop} (hgd : o.guard = none) (mo xo vo : Operand) (ho : o.op = .insert t mo xo vo)
    (ht : P.underlying t = some (.map kt e)) (hk : P.underlying kt = some d) (hik : Go.MapKept.IsKey d x) (hmo : a.eval mo = .map (some g)) (hxo : a.eval xo = x) (hvo : a.eval vo = v) (h : MapG w g d m) (hx : ∀ p ∈ m, p.1 ≠ x)
    (hK : ∀ w', MapG w' g d (m ++ [(x, v)]) → w.grownBy w' (some g) → w'.heap.size = w.heap.size → wpList P ops Q rest (a.put o.dst undef) w') : wpList P ops Q (o :: rest) a w := by
  obtain ⟨w', hrun, h1, h2, h3⟩ := run_putG (v := v) ht hk hik h hx
  refine wpList_plain hgd fun K hK' => ?_
  unfold Oper.wp
  simp [execOp, ho, hmo, hxo, hvo, hrun, Result.andThen]
  exact hK' _ _ (hK w' h1 h2 h3)
end
end Go.Proofs.YtchmdpkjipaafaaDoor
namespace Go.Proofs.YtchmdpkjipaafaaDoor
set_option linter.unusedVariables false
set_option linter.unusedSimpArgs false
open Go.RowKit

def umap (k : Nat) : List (Value × Value) := (Ev.unsafeL.take k).map fun u => (Value.string u, Value.bool true)
structure UM (w0 : World) (g k : Nat) (w : World) : Prop where
  m : MapG w g .string (umap k)
  b : Below w0.heap.size w0 w
  lo : w0.heap.size ≤ g
theorem UM.start (w0 : World) : UM w0 w0.heap.size 0 (w0.alloc (.map #[] 0)) := ⟨MapG.nil _ _, (Below.refl _ _).alloc (Nat.le_refl _) _, Nat.le_refl _⟩
end Go.Proofs.YtchmdpkjipaafaaDoor
namespace Go.Proofs.YtchmdpkjipaafaaDoor
set_option linter.unusedVariables false
set_option linter.unusedSimpArgs false
open Go.RowKit

/-- A slice of texts from a place on, as the walk spells it. -/
theorem Rd.strFrom {w : World} {B n k : Nat} {A : Option Addr} {l : List ByteArray} (h : Rd w B 1 A n (l.map Value.string)) (hk : k ≤ n) : ∀ A', (A = none → A' = none) → (∀ b o, A = some ⟨b, o, none⟩ → A' = some ⟨b, o + k, none⟩ ∨ k = n) → Rd w B 1 A' (n - k) ((l.drop k).map Value.string) := by
  intro A' h1 h2
  have hln : l.length = n := by simpa using h.len1
  refine ⟨by simp; omega, ?_⟩
  by_cases hkn : k = n
  · left
    rw [List.drop_of_length_le (by omega)]
    rfl
  · rcases h.2 with h0 | ⟨b, o, e, hb, hc⟩
    · have : l = [] := by simpa using h0
      subst this
      simp at hln
      omega
    · rcases h2 b o e with h3 | h3
      · refine .inr ⟨b, o + k, h3, hb, fun j u hu => ?_⟩
        have := hc (k + j) u (by rw [List.getElem?_map, List.getElem?_drop] at hu; rw [List.getElem?_map]; exact hu)
        rw [← this]
        congr 2
        omega
      · exact absurd h3 hkn
theorem Rd.strMap {w : World} {B n n' k : Nat} {A : Option Addr} {l : List ByteArray} (h : Rd w B 1 A n (l.map Value.string)) (hk : n' + k = n) : Rd w B 1 (Option.map (fun x => x.add k) A) n' ((l.drop k).map Value.string) := by
  obtain rfl : n' = n - k := by omega
  refine h.strFrom (by omega) _ (fun e => by rw [e]; rfl) (fun b o e => .inl ?_)
  rw [e]
  show some (Addr.add ⟨b, o, none⟩ k) = _
  by_cases hz : k = 0
  · subst hz; rfl
  · simp [Addr.add, hz]
theorem zeroT_eq (s : ByteArray) : Cl.zeroT s = s.data.toList.contains 0 := rfl
theorem pair_bytes (name value : ByteArray) : name ++ (⟨#[61]⟩ : ByteArray) ++ value = Ev.pair name value := by
  refine ByteArray.ext ?_
  apply Array.toList_inj.1
  simp [Ev.pair, Ev.ba]

theorem strs_oneE (l : List ByteArray) : ∀ u ∈ l.map Value.string, u.oneCell' = true := by
  intro u hu
  obtain ⟨s, _, rfl⟩ := List.mem_map.1 hu
  rfl
def SetE (l : List ByteArray) (name value : ByteArray) (w : World) (e : Ending) (w' : World) : Prop :=
  (Ev.badSet name value = true ∧ e = .returned (.tuple #[.slice none 0 0, .int .i64 1]) ∧ w = w') ∨
  (Ev.badSet name value = false ∧ ∃ A' c' k, e = .returned (.tuple #[.slice A' k c', .int .i64 0]) ∧ k = (Ev.set l name value).length ∧ w'.ownsRow w.heap.size 9 1 (.slice A' k c') k ((Ev.set l name value).map Value.string) ∧ Below w.heap.size w w')

end Go.Proofs.YtchmdpkjipaafaaDoor
namespace Go.Proofs.YtchmdpkjipaafaaDoor
open Go.RowKit
end Go.Proofs.YtchmdpkjipaafaaDoor
namespace Go.Proofs.YtchmdpkjipaafaaDoor
set_option linter.unusedVariables false
set_option linter.unusedSimpArgs false
open Go.RowKit Go.Shelf
attribute [local go_sem] Oper.semAt_some

theorem spl_no {v : List UInt8} (h : Lib.indexByte v 58 = -1) : Ev.spl [] v = [v] := by
  have hf : ∀ c ∈ v, c ≠ 58 := by
    intro c hc e
    subst e
    obtain ⟨k, hk⟩ := List.mem_iff_getElem?.1 hc
    exact Lib.indexByte_none h k hk
  have := Ev.spl_free [] v [] hf
  simp only [List.append_nil, List.nil_append] at this
  rw [this]
  rfl
theorem spl_at {v : List UInt8} {i : Nat} (h : Lib.indexByte v 58 = i) : Ev.spl [] v = v.take i :: Ev.spl [] (v.drop (i + 1)) := by
  obtain ⟨h1, h2⟩ := Lib.indexByte_some h
  have hlt := (List.getElem?_eq_some_iff.1 h1).1
  have e : v = v.take i ++ 58 :: v.drop (i + 1) := by
    have := (List.getElem?_eq_some_iff.1 h1).2
    rw [← this, ← List.drop_eq_getElem_cons hlt, List.take_append_drop]
  have hf : ∀ c ∈ v.take i, c ≠ 58 := by
    intro c hc e
    subst e
    obtain ⟨k, hk⟩ := List.mem_iff_getElem?.1 hc
    have hkl : k < i := by have := (List.getElem?_eq_some_iff.1 hk).1; rw [List.length_take] at this; omega
    exact h2 k hkl (by rw [List.getElem?_take_of_lt hkl] at hk; exact hk)
  conv => lhs; rw [e]
  rw [Ev.spl_free [] _ _ hf, List.nil_append]
  conv => lhs; unfold Ev.spl
  rw [if_pos rfl]
/-- What stands in the iterator's box: so many bytes are left. -/
def leftOf (B : Nat) (w : World) : Nat := match w.cell? ⟨B, 0, none⟩ with
  | some (.string s) => s.size
  | _ => 0
/-- The iterator's three boxes: what is left, the colon, how much of it is kept. -/
structure ItB (W : World) (B : Nat) (v : List UInt8) : Prop where
  s : Blk W B 9 [.string (Ev.ba v)]
  p : Blk W (B + 1) 9 [.string ⟨#[58]⟩]
  k : Blk W (B + 2) 3 [.int .i64 0]
theorem ItB.keep {W W' : World} {B : Nat} {v : List UInt8} (h : ItB W B v) (hk : ∀ j, B ≤ j → j < B + 3 → W'.heap[j]? = W.heap[j]?) : ItB W' B v :=
  ⟨(hk _ (by omega) (by omega)).trans h.s, (hk _ (by omega) (by omega)).trans h.p, (hk _ (by omega) (by omega)).trans h.k⟩
theorem ItB.left {W : World} {B : Nat} {v : List UInt8} (h : ItB W B v) : leftOf B W = v.length := by
  unfold leftOf
  rw [h.s.cell (i := 0) rfl]
  simp [Ev.ba, ByteArray.size]

set_option maxRecDepth 100000 in
set_option maxHeartbeats 2000000 in
theorem iter_any (F : Fence) (n : Nat) (h8 : F.fn 71) (hF5 : F.fn 49) (hIdx : ∀ (s : ByteArray) (w : World), CallsIn F (n - 1) Tryd.prog 49 #[.string s, .string ⟨#[58]⟩] w fun e w' => e = .returned (.int .i64 (Lib.indexByte s.data.toList 58)) ∧ w = w')
    (hro : F.round = none) (hn : 1 ≤ n) (l B : Nat) (v : List UInt8) (hv : v.length ≤ maxLen) (J : Nat → World → Prop)
    (hJs : ∀ k A u, J k A → J k (A.setCell ⟨B, 0, none⟩ u))
    (hY : ∀ k p W, J k W → (Ev.spl [] v)[k]? = some p → YieldAt F (n - 1) Tryd.prog l #[.string (Ev.ba p)] W fun e W' => e = .returned (.bool true) ∧ J (k + 1) W' ∧ ∀ j, B ≤ j → j < B + 3 → W'.heap[j]? = W.heap[j]?)
    (W : World) (hb : ItB W B v) (h0 : J 0 W) :
    CallsIn F n Tryd.prog 71 #[.func (.yield l) #[] #[], .pointer (some ⟨B + 1, 0, none⟩), .pointer (some ⟨B, 0, none⟩), .pointer (some ⟨B + 2, 0, none⟩)] W fun e W' => (∃ v, e = .returned v) ∧ J (Ev.spl [] v).length W' := by
  refine callsIn_of_wp Tryd.func71 rfl h8 ?_ hro
  simp only [Tryd.ntmps71, List.size_toArray, List.length_cons, List.length_nil, Nat.reduceAdd, Nat.reduceSub, Array.replicate_succ, Array.replicate_zero, List.push_toArray, List.append_toArray, List.nil_append, List.cons_append]
  unfold maxLen at hv
  have cp := hb.p.cell (i := 0) rfl
  have Hb := hide hb
  have HY := hide hY
  have HJs := hide hJs
  have H0 := hide h0
  have HI := hide hIdx
  clear hb hY hJs h0 hIdx
  gi_wp2
  gi_loopw [7] (fun _ wr => ∃ (k : Nat) (v' : List UInt8), ItB wr B v' ∧ J k wr ∧ (Ev.spl [] v).drop k = Ev.spl [] v' ∧ v'.length ≤ v.length) (fun _ wr => leftOf B wr)
  case atStart => exact ⟨0, v, unhide Hb, unhide H0, rfl, Nat.le_refl _⟩
  case round =>
    obtain ⟨k, v', hb', hJ, hdr, hle⟩ := hrel
    have cs := hb'.s.cell (i := 0) rfl
    have cp := hb'.p.cell (i := 0) rfl
    have ck := hb'.k.cell (i := 0) rfl
    have fs := hb'.s.free 0
    have hl := hb'.left
    have Hb' := hide hb'
    have HJ := hide hJ
    have Hdr := hide hdr
    have Hl := hide hl
    have hge := Lib.indexByte_ge v' 58
    have K := hide (fun w => (unhide HI) (Ev.ba v') w)
    have hdat : (Ev.ba v').data.toList = v' := Ev.ba_data v'
    have hsz : (Ev.ba v').size = v'.length := by simp [Ev.ba, ByteArray.size]
    by_cases hneg : Lib.indexByte v' 58 = -1
    · have hsp := spl_no hneg
      rw [hsp] at hdr
      have hk : (Ev.spl [] v)[k]? = some v' := by
        have := congrArg (fun L : List (List UInt8) => L[0]?) hdr
        simpa [List.getElem?_drop] using this
      have hlen : (Ev.spl [] v).length = k + 1 := by
        have := congrArg List.length hdr
        rw [List.length_drop] at this
        have hlt := (List.getElem?_eq_some_iff.1 hk).1
        simp at this
        omega
      have hy := (unhide HY) k v' wr hJ hk
      have K2 : ∀ w, CallsIn F (n - 1) Tryd.prog 49 #[.string (Ev.ba v'), .string ⟨#[58]⟩] w fun e w' => e = .returned (.int .i64 (-1)) ∧ w = w' := by
        intro w
        have := (unhide K) w
        rwa [hdat, hneg] at this
      replace K2 := hide K2
      have Hlen := hide hlen
      clear hdr hk hlen hJ hb' hl hle hsp hneg hge hdat hsz
      obtain ⟨fn, tmps, assign, body, hy, hR⟩ := hy
      gi_wp2_with (gi_at_call 49; refine ((unhide K2) _).mono ?_; rintro e w1 ⟨rfl, rfl⟩)
      refine hR.mono ?_
      rintro e W3 ⟨rfl, hJ3, -⟩
      gi_wp2
      refine bodyPost_end (results_none rfl _ _ _) rfl ?_
      exact ⟨⟨_, rfl⟩, by rw [unhide Hlen]; exact hJ3⟩
    · obtain ⟨i, hi⟩ := Int.eq_ofNat_of_zero_le (show 0 ≤ Lib.indexByte v' 58 by omega)
      have hsp := spl_at hi
      have hil : i < v'.length := (List.getElem?_eq_some_iff.1 (Lib.indexByte_some hi).1).1
      rw [hsp] at hdr
      have hk : (Ev.spl [] v)[k]? = some (v'.take i) := by
        have := congrArg (fun L : List (List UInt8) => L[0]?) hdr
        simpa [List.getElem?_drop] using this
      have hdr2 : (Ev.spl [] v).drop (k + 1) = Ev.spl [] (v'.drop (i + 1)) := by
        have := congrArg (fun L : List (List UInt8) => L.drop 1) hdr
        simpa [List.drop_drop, Nat.add_comm] using this
      have hy := (unhide HY) k (v'.take i) wr hJ hk
      have ex1 : (Ev.ba v').extract 0 i = Ev.ba (v'.take i) := by rw [extract_ba, hdat]; simp
      have ex2 : (Ev.ba v').extract (i + 1) (Ev.ba v').size = Ev.ba (v'.drop (i + 1)) := by
        rw [extract_ba, hdat, hsz, List.take_of_length_le (by simp)]
      rw [← ex1] at hy
      have K2 : ∀ w, CallsIn F (n - 1) Tryd.prog 49 #[.string (Ev.ba v'), .string ⟨#[58]⟩] w fun e w' => e = .returned (.int .i64 (i : Nat)) ∧ w = w' := by
        intro w
        have := (unhide K) w
        rwa [hdat, hi] at this
      replace K2 := hide K2
      have Hdr2 := hide hdr2
      have Ex2 := hide ex2
      have hszi : (i : Int) + 1 ≤ ((Ev.ba v').size : Int) := by rw [hsz]; omega
      have hszn : i + 1 ≤ (Ev.ba v').size := by rw [hsz]; omega
      have hsz2 : (Ev.ba v').size ≤ 9223372036854775807 := by rw [hsz]; omega
      have Hsz := hide hsz
      clear hdr hk hdr2 hJ hb' hl hsp hneg hge hdat hsz hi ex1 ex2
      obtain ⟨fn, tmps, assign, body, hy, hR⟩ := hy
      gi_wp2_with (gi_at_call 49; refine ((unhide K2) _).mono ?_; rintro e w1 ⟨rfl, rfl⟩)
      refine hR.mono ?_
      rintro e W3 ⟨rfl, hJ3, hk3⟩
      have hb3 := (unhide Hb').keep hk3
      have cs3 := hb3.s.cell (i := 0) rfl
      have cp3 := hb3.p.cell (i := 0) rfl
      have fs3 := hb3.s.free 0
      have Hb3 := hide hb3
      have HJ3 := hide hJ3
      clear hb3 hJ3 hk3 cs cp ck fs
      gi_wp2
      go_roundw
      case rel =>
        refine ⟨k + 1, v'.drop (i + 1), ⟨?_, ?_, ?_⟩, (unhide HJs) _ _ _ (unhide HJ3), unhide Hdr2, by rw [List.length_drop]; omega⟩
        · rw [unhide Ex2]
          exact (unhide Hb3).s.set 0 _
        · exact (unhide Hb3).p.other (by simp) _
        · exact (unhide Hb3).k.other (by simp) _
      case measure =>
        rw [unhide Ex2]
        have h1 : leftOf B (W3.setCell ⟨B, 0, none⟩ (.string (Ev.ba (v'.drop (i + 1))))) = (v'.drop (i + 1)).length := by
          unfold leftOf
          rw [((unhide Hb3).s.set 0 (.string (Ev.ba (v'.drop (i + 1))))).cell (i := 0) rfl]
          simp [Ev.ba, ByteArray.size]
        rw [h1, unhide Hl, List.length_drop]
        omega
end Go.Proofs.YtchmdpkjipaafaaDoor
namespace Go.Proofs.YtchmdpkjipaafaaDoor
set_option linter.unusedVariables false
set_option linter.unusedSimpArgs false
open Go.RowKit Go.Shelf
attribute [local go_sem] Oper.semAt_some

/-- How a round's body is left: off its end. -/
def roundEnd (I : Nat → World → Prop) (B k : Nat) (W : World) : Exit → Act → World → Prop
  | .normal, _, W' => KeepsOthers W W' ∧ (∀ j, B ≤ j → j < B + 3 → W'.heap[j]? = W.heap[j]?) ∧ I (k + 1) W'
  | _, _, _ => False

set_option maxHeartbeats 1000000 in
theorem range_split {F : Fence} {n : Nat} {Q : Exit → Act → World → Prop} {a : Act} {w : World} {g : Operand} {p : Tmp} {assign body : Code} (hro : F.round = none) (hn : 2 ≤ n) (h8 : F.fn 71) (hF5 : F.fn 49)
    (hIdx : ∀ (s : ByteArray) (w : World), CallsIn F (n - 1 - 1) Tryd.prog 49 #[.string s, .string ⟨#[58]⟩] w fun e w' => e = .returned (.int .i64 (Lib.indexByte s.data.toList 58)) ∧ w = w')
    (B : Nat) (hg : a.eval g = .func (.func 71) #[] #[.pointer (some ⟨B + 1, 0, none⟩), .pointer (some ⟨B, 0, none⟩), .pointer (some ⟨B + 2, 0, none⟩)]) (hB : B + 3 ≤ w.heap.size) (v : List UInt8) (hv : v.length ≤ maxLen) (hb : ItB w B v)
    (I : Nat → World → Prop) (hIs : ∀ k A u, I k A → I k (A.setCell ⟨B, 0, none⟩ u)) (hIa : ∀ k A o, w.heap.size ≤ A.heap.size → I k A → I k (A.alloc o)) (hIp : ∀ k A l o o', w.heap.size ≤ l → A.heap[l]? = some o → o.isCells = false → I k A → I k (A.putObj l o')) (h0 : I 0 w)
    (a₁ : List UInt8 → Act)
    (hassign : ∀ (l : Nat) (x : List UInt8) (W : World) (K : Act → World → Prop), K (a₁ x) W → assign.wpIn (F.inRound l) (n - 1 - 1) Tryd.prog (Exit.then K (fun _ _ _ => False)) { tmps := a.tmps.setIfInBounds p (.string (Ev.ba x)), defers := [] } W)
    (hbody : ∀ (l k : Nat) (x : List UInt8) (W : World), I k W → (Ev.spl [] v)[k]? = some x → body.wpIn (F.inRound l) (n - 1 - 1) Tryd.prog (roundEnd I B k W) (a₁ x) W)
    (hdone : ∀ (D : Nat) (W : World), I (Ev.spl [] v).length W → w.heap.size ≤ D → W.heap[D]? = some (.deferred (some [])) → Q .normal { a with defers := { target := .collected D, args := #[] } :: a.defers } W) :
    (Code.rangeFunc g #[p] assign body).wpIn F n Tryd.prog Q a w := by
  refine wpIn_rangeFunc ?_
  intro fn hfn
  rw [hro]
  obtain ⟨rc, hrc⟩ : ∃ rc : LoopState → Loop, rc = fun st => { state := st, pending := none, fn, tmps := a.tmps, params := #[p], assign, body, defers := w.heap.size } := ⟨_, rfl⟩
  obtain ⟨W1, hW1⟩ : ∃ W1, (w.alloc (.deferred (some []))).alloc (.loop (rc .ready)) = W1 := ⟨_, rfl⟩
  have hL1 : W1.heap[w.heap.size + 1]? = some (.loop (rc .ready)) := by
    rw [← hW1]; have := World.alloc_heap_new (w.alloc (.deferred (some []))) (.loop (rc .ready)); rwa [World.size_alloc] at this
  have hK1 : W1.heap[w.heap.size]? = some (.deferred (some [])) := by
    rw [← hW1]; exact (Below.heap_alloc _ _ _ (by simp)).trans (World.alloc_heap_new w _)
  have hI1 : I 0 W1 := by rw [← hW1]; exact hIa _ _ _ (by simp) (hIa _ _ _ (Nat.le_refl _) h0)
  have hb1 : ItB W1 B v := hb.keep (fun j _ hj => by rw [← hW1]; exact (Below.heap_alloc _ _ _ (by simp; omega)).trans (Below.heap_alloc _ _ _ (by omega)))
  refine ⟨w.heap.size + 1, [{ target := .collected w.heap.size, args := #[] }], W1, { target := .fn (.func 71) #[.pointer (some ⟨B + 1, 0, none⟩), .pointer (some ⟨B, 0, none⟩), .pointer (some ⟨B + 2, 0, none⟩)], args := #[.func (.yield (w.heap.size + 1)) #[] #[]] }, W1, 71,
    #[.func (.yield (w.heap.size + 1)) #[] #[], .pointer (some ⟨B + 1, 0, none⟩), .pointer (some ⟨B, 0, none⟩), .pointer (some ⟨B + 2, 0, none⟩)], W1, ?_, ?_, ?_, ?_, fun _ => by omega, ?_⟩
  · rw [← hW1, hrc]; exact run_enterLoop_outer _ _ _ _ _
  · simp only [resolve, hg]
    simp [go_sem]
  · intro f' hf'; simp [Target.leads] at hf'; subst hf'; exact h8
  · have eg : ∀ args w, (callFunc 71 args).run Tryd.prog w = .ok (.enter 71 args) w := fun args w => by kernel_rfl
    simp [invoke, go_sem, eg]
  · refine (iter_any F (n - 1) h8 hF5 hIdx hro (by omega) (w.heap.size + 1) B v hv
      (fun k W => I k W ∧ W.heap[w.heap.size + 1]? = some (.loop (rc .ready)) ∧ W.heap[w.heap.size]? = some (.deferred (some [])))
      (fun k A u h => ⟨hIs k A u h.1, (heap_setCell_other _ _ _ _ (by show w.heap.size + 1 ≠ B; omega)).trans h.2.1, (heap_setCell_other _ _ _ _ (by show w.heap.size ≠ B; omega)).trans h.2.2⟩)
      ?_ W1 hb1 ⟨hI1, hL1, hK1⟩).mono ?_
    · rintro k x W ⟨hi, hl, hk⟩ hx
      have hlt : w.heap.size + 1 < W.heap.size := (Array.getElem?_eq_some_iff.1 hl).1
      have hy := run_yield (P := Tryd.prog) (args := #[.string (Ev.ba x)]) hl (by rw [hrc]; rfl)
      rw [hrc] at hy
      refine ⟨fn, _, assign, body, hy, ?_⟩
      refine roundIn_of_wpIn hfn ?_
      have ez : ∀ t : Array Value, ((#[p] : Array Tmp).zip #[Value.string (Ev.ba x)]).foldl (fun tmps q => tmps.setIfInBounds q.1 q.2) t = t.setIfInBounds p (.string (Ev.ba x)) := fun t => by simp
      have ez2 := ez a.tmps
      simp only [] at ez2 ⊢
      rw [ez2]
      refine hassign _ x W _ ?_
      refine ⟨_, run_beginRound hl (by rw [hrc]), ?_⟩
      obtain ⟨W2, hW2⟩ : ∃ W2, W.putObj (w.heap.size + 1) (.loop { rc .ready with state := .busy }) = W2 := ⟨_, rfl⟩
      have hl2 : W2.heap[w.heap.size + 1]? = some (.loop { rc .ready with state := .busy }) := by rw [← hW2]; exact World.putObj_heap_same hlt
      have hk2 : W2.heap[w.heap.size]? = some (.deferred (some [])) := by rw [← hW2]; exact (World.putObj_heap_other (by omega)).trans hk
      have hb2 : ∀ j, B ≤ j → j < B + 3 → W2.heap[j]? = W.heap[j]? := fun j _ hj => by rw [← hW2]; exact World.putObj_heap_other (by omega)
      have hi2 : I k W2 := by rw [← hW2]; exact hIp _ _ _ _ _ (by omega) hl rfl hi
      rw [hW2]
      refine wpIn_mono (hbody _ k x W2 hi2 hx) ?_
      rintro e a3 W3 hp
      cases e with
      | normal =>
        obtain ⟨hk3, hb3, hi3⟩ := hp
        have hl3 := hk3.same _ _ hl2 rfl
        have hd3 := hk3.same _ _ hk2 rfl
        have hlt3 := (Array.getElem?_eq_some_iff.1 hl3).1
        have hr := run_endRound (P := Tryd.prog) none hl3
        refine ⟨_, _, hr, rfl, ⟨hIp _ _ _ _ _ (by omega) hl3 rfl hi3, ?_, (World.putObj_heap_other (by omega)).trans hd3⟩, fun j h1 h2 => ?_⟩
        · rw [World.putObj_heap_same hlt3, hrc]
          rfl
        · rw [World.putObj_heap_other (by omega), hb3 j h1 h2, hb2 j h1 h2]
      | ret => exact hp.elim
      | exit id => exact hp.elim
      | goto t => exact hp.elim
      | panic ch => exact hp.elim
      | outgrown => exact hp.elim
    · rintro e W2 ⟨⟨v', rfl⟩, hi, hl, hk⟩
      exact ⟨none, _, by have := run_endLoop (P := Tryd.prog) hl (by rw [hrc]; simp); rw [hrc] at this; exact this, hdone _ _ (hIp _ _ _ _ _ (by omega) hl rfl hi) (Nat.le_refl _) ((World.putObj_heap_other (by omega)).trans hk)⟩
end Go.Proofs.YtchmdpkjipaafaaDoor
namespace Go.Proofs.YtchmdpkjipaafaaDoor
set_option linter.unusedVariables false
set_option linter.unusedSimpArgs false
open Go.RowKit Go.Shelf
attribute [local go_sem] Oper.semAt_some

theorem splitSeq_any (s : ByteArray) (w : World) : Calls Tryd.prog 48 #[.string s, .string ⟨#[58]⟩] w fun e w' => e = .returned (.func (.func 71) #[] #[.pointer (some ⟨w.heap.size + 1, 0, none⟩), .pointer (some ⟨w.heap.size, 0, none⟩), .pointer (some ⟨w.heap.size + 2, 0, none⟩)]) ∧
    w' = ((w.alloc (.cells #[.string s] 9)).alloc (.cells #[.string ⟨#[58]⟩] 9)).alloc (.cells #[.int .i64 0] 3) := by
  have K : ∀ w, Calls Tryd.prog 64 #[.string s, .string ⟨#[58]⟩, .int .i64 0] w fun e w' => e = .returned (.func (.func 71) #[] #[.pointer (some ⟨w.heap.size + 1, 0, none⟩), .pointer (some ⟨w.heap.size, 0, none⟩), .pointer (some ⟨w.heap.size + 2, 0, none⟩)]) ∧
    w' = ((w.alloc (.cells #[.string s] 9)).alloc (.cells #[.string ⟨#[58]⟩] 9)).alloc (.cells #[.int .i64 0] 3) := by
    intro w
    go_enter Tryd.func64, Tryd.ntmps64
    go_wp2_with fail
    go_ret
    exact ⟨rfl, rfl⟩
  replace K := hide K
  go_enter Tryd.func48, Tryd.ntmps48
  go_wp2_with fail
  refine ((unhide K) _).mono ?_
  rintro e w1 ⟨rfl, rfl⟩
  go_wp2_with fail
  go_ret
  exact ⟨rfl, rfl⟩
end Go.Proofs.YtchmdpkjipaafaaDoor
namespace Go.Proofs.YtchmdpkjipaafaaDoor
set_option linter.unusedVariables false
set_option linter.unusedSimpArgs false
open Go.RowKit Go.Shelf
attribute [local go_sem] Oper.semAt_some

theorem strInfo9 : (Tryd.prog.info? 9).map (fun i => (i.zero, i.size, i.bytes)) = some (some (.string ⟨#[]⟩), 1, 16) := by kernel_rfl
def dots (v : List UInt8) (k : Nat) : List Value := ((Ev.spl [] v).take k).map fun x => Value.string (Ev.dot x)
/-- Where the loop stands: k pieces are in the list. -/
def LsI (w : World) (v : List UInt8) (k : Nat) (W : World) : Prop :=
  ∃ u, Blk W w.heap.size 25 [u] ∧ W.ownsRow (w.heap.size + 4) 9 1 u k (dots v k) ∧ Below w.heap.size w W ∧ w.heap.size + 4 ≤ W.heap.size
theorem ownBlk_ne {W : World} {base : Nat} {e : TypeId} {u : Value} {k : Nat} {xs : List Value} (h : W.ownsRow base e 1 u k xs) {b : Nat} (hb : b < base) : u.ownBlock = none ∨ u.ownBlock ≠ some b := by
  cases hu : u.ownBlock with
  | none => exact .inl rfl
  | some g => exact .inr (fun e => by injection e with e; have := (h.lt g hu).1; omega)
theorem own_keepB {W W' : World} {base : Nat} {e : TypeId} {u : Value} {k : Nat} {xs : List Value} (h : W.ownsRow base e 1 u k xs) (hk : ∀ g, u.ownBlock = some g → W'.heap[g]? = W.heap[g]?) : W'.ownsRow base e 1 u k xs :=
  ⟨h.1, h.2.imp id fun ⟨g, cap, cur, e1, e2, e3, r⟩ => ⟨g, cap, cur, e1, e2, (hk g (by rw [e1]; rfl)).trans e3, r⟩⟩
theorem LsI.set {w W : World} {v : List UInt8} {k : Nat} (h : LsI w v k W) (u' : Value) : LsI w v k (W.setCell ⟨w.heap.size + 1, 0, none⟩ u') := by
  obtain ⟨u, h1, h2, h3, h4⟩ := h
  exact ⟨u, h1.other (by simp) _, own_keepB h2 (fun g hg => heap_setCell_other _ _ _ _ (by have := (h2.lt g hg).1; show g ≠ w.heap.size + 1; omega)), h3.setCell (by simp) _, by simpa using h4⟩
theorem LsI.alloc {w W : World} {v : List UInt8} {k : Nat} (h : LsI w v k W) (o : Obj) : LsI w v k (W.alloc o) := by
  obtain ⟨u, h1, h2, h3, h4⟩ := h
  exact ⟨u, h1.alloc o, h2.alloc o, h3.alloc h3.size o, by simp; omega⟩
theorem LsI.put {w W : World} {v : List UInt8} {k l : Nat} {o o' : Obj} (h : LsI w v k W) (hl : w.heap.size + 4 ≤ l) (ho : W.heap[l]? = some o) (hc : o.isCells = false) : LsI w v k (W.putObj l o') := by
  obtain ⟨u, h1, h2, h3, h4⟩ := h
  refine ⟨u, (World.putObj_heap_other (by omega)).trans h1, ownsRow_putObj h2 o' ho hc, ?_, by simpa using h4⟩
  exact h3.trans ⟨rfl, rfl, rfl, by simp, fun k hk => World.putObj_heap_other (by omega)⟩
def ListE (v : List UInt8) (w : World) (e : Ending) (w' : World) : Prop :=
  ∃ u, e = .returned u ∧ w'.ownsRow w.heap.size 9 1 u (Ev.list v).length ((Ev.list v).map Value.string) ∧ Below w.heap.size w w'
theorem dots_all (v : List UInt8) (hv : v ≠ []) : dots v (Ev.spl [] v).length = (Ev.list v).map Value.string := by
  unfold dots Ev.list
  rw [if_neg hv, List.take_length, List.map_map]
  rfl
theorem dots_next {v x : List UInt8} {k : Nat} (h : (Ev.spl [] v)[k]? = some x) : dots v (k + 1) = dots v k ++ [Value.string (Ev.dot x)] := by
  unfold dots
  rw [List.take_add_one, h, List.map_append]
  rfl
theorem spl_len (v acc : List UInt8) : (Ev.spl acc v).length ≤ v.length + 1 := by
  induction v generalizing acc with
  | nil => simp [Ev.spl]
  | cons c r ih =>
    unfold Ev.spl
    split
    · have := ih []; simp; omega
    · have := ih (acc ++ [c]); simp; omega

set_option maxRecDepth 100000 in
set_option maxHeartbeats 4000000 in
theorem list_in (s : ByteArray) (w : World) (hs : s.size ≤ 4294967296) (hne : s.data.toList ≠ []) :
    CallsIn Fence.wide 4 Tryd.prog 27 #[.string s] w (ListE s.data.toList w) := by
  have hem : s.toList.isEmpty = false := by
    rw [Lib.toList_data]
    cases h : s.data.toList with
    | nil => exact absurd h hne
    | cons a r => rfl
  have q2 : ¬ s.toList = [] := by rw [← List.isEmpty_iff, hem]; simp
  have HIx : ∀ n (s : ByteArray) (w : World), CallsIn Fence.wide n Tryd.prog 49 #[.string s, .string ⟨#[58]⟩] w fun e w' => e = .returned (.int .i64 (Lib.indexByte s.data.toList 58)) ∧ w = w' := fun n s w => callsIn_wide.2 (flipw (Tryd.strings_Index_one s 58 w))
  have K1 := hide (fun w => splitSeq_any s w)
  have HI := hide HIx
  have Hne := hide hne
  clear HIx hne
  refine callsIn_of_wp_marks Tryd.func27 rfl trivial ?_ rfl
  simp only [Tryd.ntmps27, List.size_toArray, List.length_cons, List.length_nil, Nat.reduceAdd, Nat.reduceSub, Array.replicate_succ, Array.replicate_zero, List.push_toArray, List.append_toArray, List.nil_append, List.cons_append]
  gi_wp2
  refine ⟨trivial, ?_⟩
  refine (callsIn_wide.2 ((unhide K1) _)).mono ?_
  rintro e w1 ⟨rfl, rfl⟩
  obtain ⟨W0, hW0⟩ : ∃ W0, ((((w.alloc (.cells #[.slice none 0 0] 25)).alloc (.cells #[.string s] 9)).alloc (.cells #[.string ⟨#[58]⟩] 9)).alloc (.cells #[.int .i64 0] 3)) = W0 := ⟨_, rfl⟩
  have hsz0 : W0.heap.size = w.heap.size + 4 := by rw [← hW0]; simp
  have hB0 : Below w.heap.size w W0 := by rw [← hW0]; exact ((((Below.refl _ _).alloc (Nat.le_refl _) _).alloc (by simp) _).alloc (by simp; omega) _).alloc (by simp; omega) _
  have hb0 : Blk W0 w.heap.size 25 [.slice none 0 0] := by rw [← hW0]; exact (((Blk.new w 25 [.slice none 0 0]).alloc _).alloc _).alloc _
  have e1 : (w.alloc (.cells #[.slice none 0 0] 25)).heap.size = w.heap.size + 1 := by simp
  have hit : ItB W0 (w.heap.size + 1) s.data.toList := by
    have hss : Ev.ba s.data.toList = s := Ev.ba_self s
    refine ⟨?_, ?_, ?_⟩
    · rw [hss, ← hW0, ← e1]
      exact ((Blk.new _ 9 [.string s]).alloc _).alloc _
    · rw [← hW0]
      have := (Blk.new ((w.alloc (.cells #[.slice none 0 0] 25)).alloc (.cells #[.string s] 9)) 9 [.string ⟨#[58]⟩]).alloc (.cells #[.int .i64 0] 3)
      simp only [World.size_alloc] at this
      exact this
    · rw [← hW0]
      have := Blk.new (((w.alloc (.cells #[.slice none 0 0] 25)).alloc (.cells #[.string s] 9)).alloc (.cells #[.string ⟨#[58]⟩] 9)) 3 [.int .i64 0]
      simp only [World.size_alloc] at this
      exact this
  have hI0 : LsI w s.data.toList 0 W0 := ⟨.slice none 0 0, hb0, World.ownsRow_nil _ _ _ _, hB0, by omega⟩
  clear hb0
  rw [hW0]
  simp only [e1]
  gi_wp2
  refine range_split (n := 4) rfl (by omega) trivial trivial ((unhide HI) _) (w.heap.size + 1) rfl (by omega) s.data.toList (by unfold maxLen; simp; omega) hit
    (LsI w s.data.toList) (fun k A u h => h.set u) (fun k A o _ h => h.alloc o) (fun k A l o o' hl ho hc h => h.put (by omega) ho hc) hI0
    (fun x => { tmps := #[.string s, undef, .pointer (some ⟨w.heap.size, 0, none⟩), .string (Ev.ba x), .string s, .bool false, .string s, .func (.func 71) #[] #[.pointer (some ⟨w.heap.size + 1 + 1, 0, none⟩), .pointer (some ⟨w.heap.size + 1, 0, none⟩), .pointer (some ⟨w.heap.size + 1 + 2, 0, none⟩)], .string (Ev.ba x), undef, undef, undef, undef, undef, undef, undef], defers := [] }) ?assign ?body ?done
  case assign =>
    intro l x W K hK
    gi_wp2
    exact hK
  case body =>
    rintro l k x W ⟨u, hu, ho, hb, h4⟩ hx
    have hkl : k < (Ev.spl [] s.data.toList).length := (List.getElem?_eq_some_iff.1 hx).1
    have hsl := spl_len s.data.toList []
    have hsz : s.data.toList.length = s.size := by simp
    have hk32 : k ≤ 4294967297 := by omega
    have hnx := dots_next hx
    have cu := hu.cell (i := 0) rfl
    obtain ⟨i0, hi, hz0, hz1, hz2⟩ := info_parts strInfo9
    have hob := fun g (hg : u.ownBlock = some g) => (ho.lt g hg).1
    have Hu := hide hu
    have Ho := hide ho
    have Hb := hide hb
    have Hnx := hide hnx
    have Hob := hide hob
    obtain ⟨d, hd⟩ : ∃ d, Ev.dot x = d := ⟨_, rfl⟩
    rw [hd] at hnx
    have Hd := hide hd
    have fin : ∀ (v' : Value) (w1 : World) (tmp : Obj), w1.ownsRow (w.heap.size + 4) 9 1 v' (k + 1) (dots s.data.toList k ++ [Value.string d]) → (W.alloc tmp).grownBy w1 u.ownBlock → tmp.isCells = true → (w1.cell? ⟨w.heap.size, 0, none⟩ = some u ∧ w1.frozen? ⟨w.heap.size, 0, none⟩ = false) ∧ KeepsOthers W (w1.setCell ⟨w.heap.size, 0, none⟩ v') ∧ (∀ j, w.heap.size + 1 ≤ j → j < w.heap.size + 1 + 3 → (w1.setCell ⟨w.heap.size, 0, none⟩ v').heap[j]? = W.heap[j]?) ∧ LsI w s.data.toList (k + 1) (w1.setCell ⟨w.heap.size, 0, none⟩ v') := by
      intro v' w1 tmp ho1 hg1 htc
      have hne : ∀ j, j < w.heap.size + 4 → u.ownBlock ≠ some j := fun j hj e => by have := (unhide Hob) _ e; omega
      have hsame : ∀ j, j < w.heap.size + 4 → w1.heap[j]? = W.heap[j]? := fun j hj => (hg1.block j (by simp; omega) (fun e => hne j hj e.symm)).trans (Below.heap_alloc _ _ _ (by omega))
      have hbx : Blk w1 w.heap.size 25 [u] := (hsame _ (by omega)).trans (unhide Hu)
      refine ⟨⟨hbx.cell (i := 0) rfl, hbx.free 0⟩, ?_, fun j h1 h2 => ?_, ⟨v', ?_, ?_, ?_, ?_⟩⟩
      · refine ((KeepsOthers.alloc W tmp).trans (KeepsOthers.of_grownBy hg1 fun j o ej hj => ?_)).trans (KeepsOthers.setCell _ _ _)
        rcases ((unhide Ho).alloc tmp).2 with ⟨rfl, _⟩ | ⟨g, cap, cur, rfl, _, hgb, _⟩
        · simp [Value.ownBlock] at ej
        · obtain rfl : g = j := by simpa [Value.ownBlock] using ej
          rw [hgb] at hj; cases hj; rfl
      · exact (heap_setCell_other _ _ _ _ (by show j ≠ w.heap.size; omega)).trans (hsame j (by omega))
      · exact hbx.set 0 v'
      · rw [dots_next hx, hd]
        exact own_keepB ho1 (fun g hg => heap_setCell_other _ _ _ _ (by have := (ho1.lt g hg).1; show g ≠ w.heap.size; omega))
      · exact (((unhide Hb).alloc (unhide Hb).size tmp).grown hg1 (by simp; omega) (fun g hg => by have := (unhide Hob) g hg; omega)).setCell (by simp) _
      · have := hg1.size
        simp at this ⊢
        omega
    have Hfin := hide fin
    clear hu ho hb hnx hob fin hx hd
    by_cases hxe : x = []
    · subst hxe
      have b1 : (Ev.ba []).toList.isEmpty = true := by rw [ba_isEmpty]; rfl
      have b2 : (Ev.ba []).toList = [] := List.isEmpty_iff.1 b1
      obtain rfl : Ev.ba [46] = d := unhide Hd
      gi_wp2_with (gi_at_builtin; refine wpListIn_append_own _ rfl _ _ 25 rfl (w.heap.size + 4) 9 i0 (.string ⟨#[]⟩) 1 16 Tryd.underlying25 hi hz0 hz1 hz2 rfl (by decide) _ _ _ rfl ((unhide Ho).alloc _) ⟨W.heap.size, 0, none⟩ 1 1 [.string ⟨#[46]⟩] rfl rfl (cell_one_new _ _ _) (by simp [Value.oneCell']) (by unfold maxLen; omega) (by omega) (by simp; omega) ?_; intro v' w1 hown' hgrow _; obtain ⟨g', cap', rfl⟩ := ownsRow_succ hown'; obtain ⟨⟨hc1, hf1⟩, hko, hbs, hls⟩ := (unhide Hfin) _ _ _ hown' hgrow rfl; have Hko := hide hko; have Hbs := hide hbs; have Hls := hide hls; clear hko hbs hls hown' hgrow)
      exact ⟨unhide Hko, unhide Hbs, unhide Hls⟩
    · have b1 : (Ev.ba x).toList.isEmpty = false := by
        rw [ba_isEmpty]
        cases x with
        | nil => exact absurd rfl hxe
        | cons a r => rfl
      have b2 : ¬ (Ev.ba x).toList = [] := by rw [← List.isEmpty_iff, b1]; simp
      obtain rfl : Ev.ba x = d := by have := unhide Hd; unfold Ev.dot at this; rwa [if_neg hxe] at this
      gi_wp2_with (gi_at_builtin; refine wpListIn_append_own _ rfl _ _ 25 rfl (w.heap.size + 4) 9 i0 (.string ⟨#[]⟩) 1 16 Tryd.underlying25 hi hz0 hz1 hz2 rfl (by decide) _ _ _ rfl ((unhide Ho).alloc _) ⟨W.heap.size, 0, none⟩ 1 1 [.string (Ev.ba x)] rfl rfl (cell_one_new _ _ _) (by simp [Value.oneCell']) (by unfold maxLen; omega) (by omega) (by simp; omega) ?_; intro v' w1 hown' hgrow _; obtain ⟨g', cap', rfl⟩ := ownsRow_succ hown'; obtain ⟨⟨hc1, hf1⟩, hko, hbs, hls⟩ := (unhide Hfin) _ _ _ hown' hgrow rfl; have Hko := hide hko; have Hbs := hide hbs; have Hls := hide hls; clear hko hbs hls hown' hgrow)
      exact ⟨unhide Hko, unhide Hbs, unhide Hls⟩
  case done =>
    rintro D W ⟨u, hu, ho, hb, h4⟩ hD hK
    rw [dots_all _ (unhide Hne)] at ho
    have hll : (Ev.list s.data.toList).length = (Ev.spl [] s.data.toList).length := by unfold Ev.list; rw [if_neg (unhide Hne), List.length_map]
    obtain ⟨A, c, rfl⟩ := own_form ho
    have cu := hu.cell (i := 0) rfl
    have fu := hu.free 0
    have hK' := (KeepsOthers.setCell W ⟨w.heap.size, 0, none⟩ (.slice A (Ev.spl [] s.data.toList).length c)).same D _ hK rfl
    have hset : Blk (W.setCell ⟨w.heap.size, 0, none⟩ (.slice A (Ev.spl [] s.data.toList).length c)) w.heap.size 25 [.slice A (Ev.spl [] s.data.toList).length c] := hu.set 0 _
    have hos : (W.setCell ⟨w.heap.size, 0, none⟩ (.slice A (Ev.spl [] s.data.toList).length c)).ownsRow (w.heap.size + 4) 9 1 (.slice A (Ev.spl [] s.data.toList).length c) (Ev.spl [] s.data.toList).length ((Ev.list s.data.toList).map Value.string) := own_keepB ho (fun g hg => heap_setCell_other _ _ _ _ (by have := (ho.lt g hg).1; show g ≠ w.heap.size; omega))
    have hbs : Below w.heap.size w (W.setCell ⟨w.heap.size, 0, none⟩ (.slice A (Ev.spl [] s.data.toList).length c)) := hb.setCell (by simp) _
    have Hs := hide (And.intro hset (And.intro hos hbs))
    have HK' := hide hK'
    have Hll := hide hll
    clear hu ho hb hK hK' hset hos hbs hll
    gi_wp2
    refine ⟨by simp, .inl ⟨_, _, rfl, run_takeDeferred (unhide HK'), ?_⟩⟩
    obtain ⟨hset, hos, hbs⟩ := unhide Hs
    have hDl : D ≠ w.heap.size := by omega
    have hc5 : ((W.setCell ⟨w.heap.size, 0, none⟩ (.slice A (Ev.spl [] s.data.toList).length c)).putObj D (.deferred none)).cell? ⟨w.heap.size, 0, none⟩ = some (.slice A (Ev.spl [] s.data.toList).length c) := Blk.cell (i := 0) ((World.putObj_heap_other hDl.symm).trans hset) rfl
    refine ⟨.slice A (Ev.spl [] s.data.toList).length c, ?_, .slice A (Ev.spl [] s.data.toList).length c, rfl, ?_, ?_⟩
    · simp [results, Tryd.f27, go_sem, hc5]
    · rw [unhide Hll]
      exact own_base (ownsRow_putObj hos _ (unhide HK') rfl) (by omega)
    · exact hbs.trans ⟨rfl, rfl, rfl, by simp, fun k hk => World.putObj_heap_other (by omega)⟩
end Go.Proofs.YtchmdpkjipaafaaDoor
namespace Go.Proofs.YtchmdpkjipaafaaDoor
open Go.RowKit
theorem list_any (s : ByteArray) (w : World) (hs : s.size ≤ 4294967296) : Calls Tryd.prog 27 #[.string s] w (ListE s.data.toList w) := by
  by_cases hne : s.data.toList = []
  · have hem : s.toList.isEmpty = true := by rw [Lib.toList_data, hne]; rfl
    have q2 : s.toList = [] := List.isEmpty_iff.1 hem
    rw [hne]
    clear hne
    go_enter Tryd.func27, Tryd.ntmps27
    go_wp2_with fail
    exact bodyPost_ret (v := .slice none 0 0) (by simp [results, Tryd.f27, go_sem]) rfl ⟨.slice none 0 0, rfl, World.ownsRow_nil _ _ _ _, (Below.refl _ _).alloc (Nat.le_refl _) _⟩
  · exact callsIn_wide.1 (list_in s w hs hne)
end Go.Proofs.YtchmdpkjipaafaaDoor
namespace Go.Proofs.YtchmdpkjipaafaaDoor
set_option linter.unusedVariables false
set_option linter.unusedSimpArgs false
open Go.RowKit Go.Lib

/-- What Parts' yield keeps: its list in block g. -/
def PrtI (w0 : World) (g : Nat) (n : Nat) (l : List ByteArray) (w : World) : Prop :=
  ∃ A c, w.heap[g]? = some (.cells #[.slice A l.length c] 25 (0, 0)) ∧ w.ownsRow w0.heap.size 9 1 (.slice A l.length c) l.length (l.map Value.string) ∧ Below w0.heap.size w0 w ∧ (Value.slice A l.length c).ownBlock ≠ some g ∧ l.length ≤ n

theorem PrtI.stable {w0 : World} {g : Nat} (n : Nat) (l : List ByteArray) (w w' : World) (h : ItKp w0.heap.size w w') (hI : PrtI w0 g n l w) : PrtI w0 g n l w' := by
  obtain ⟨A, c, h1, h2, h3, h4, h5⟩ := hI
  refine ⟨A, c, h.rest _ _ h1 (fun _ _ => by simp), ?_, h3.trans ⟨h.os, h.tape, h.output, h.size, h.low⟩, h4, h5⟩
  refine ⟨h2.1, h2.2.imp id fun ⟨g', cap, cur, e, hb, hh, r⟩ => ⟨g', cap, cur, e, hb, h.rest _ _ hh (fun _ _ => by simp), r⟩⟩

theorem iterKept_trans {a b c : World} (h : IterKept a b) (k : IterKept b c) : IterKept a c := fun i s p hi => k i s p (h i s p hi)
theorem iterKept_grown {w w' : World} {row : Option Nat} (h : w.grownBy w' row) (hr : ∀ k, row = some k → ∃ cs t fz, w.heap[k]? = some (.cells cs t fz)) : IterKept w w' := by
  intro k s p hk
  rw [h.block k (Array.getElem?_eq_some_iff.1 hk).1]
  · exact hk
  · intro e
    obtain ⟨cs, t, fz, hc⟩ := hr k e.symm
    rw [hk] at hc
    cases hc

theorem parts1_any (w0 : World) (g : Nat) (hg : w0.heap.size ≤ g) (n : Nat) (hn : n ≤ 4294967296) (l : List ByteArray) (w : World) (x : ByteArray) (hI : PrtI w0 g n l w) :
    Calls Tryd.prog 62 #[.string x, .pointer (some ⟨g, 0, none⟩)] w fun r w' => r = .returned (.bool (Pth.partsStep l x).2) ∧ PrtI w0 g (n + 1) (Pth.partsStep l x).1 w' ∧ IterKept w w' := by
  have HI := hide hI
  obtain ⟨A, c, hc, hown, hb, hne, hln⟩ := hI
  have Hc := hide hc
  have h1 := cell_of_one hc
  have hgs := lt_of_block hc
  have hbs := hb.size
  have e1 : x.toList.isEmpty = decide (x.data.toList = []) := by rw [Lib.toList_data, Bool.eq_iff_iff]; simp
  have e2 : (x.toList == [46]) = decide (x.data.toList = [46]) := by rw [Lib.toList_data, Bool.eq_iff_iff]; simp
  by_cases hx : x.data.toList = [] ∨ x.data.toList = [46]
  · have hp : Pth.isPart x = false := by rcases hx with h | h <;> simp [Pth.isPart, h]
    have Hp := hide hp
    clear hp hc
    rcases hx with hx | hx
    · have q1 : x.toList.isEmpty = true := by rw [e1]; simpa using hx
      clear e1 e2 hx
      go_enter Tryd.func62, Tryd.ntmps62
      go_wp2
      go_ret
      exact ⟨rfl, by
        have e : (Pth.partsStep l x).1 = l := by simp [Pth.partsStep, unhide Hp]
        rw [e]
        exact ⟨A, c, unhide Hc, hown, hb, hne, by omega⟩, fun _ _ _ h => h⟩
    · have q1 : x.toList.isEmpty = false := by rw [e1]; simp [hx]
      have q2 : (x.toList == [46]) = true := by rw [e2]; simpa using hx
      clear e1 e2 hx
      go_enter Tryd.func62, Tryd.ntmps62
      go_wp2
      go_ret
      exact ⟨rfl, by
        have e : (Pth.partsStep l x).1 = l := by simp [Pth.partsStep, unhide Hp]
        rw [e]
        exact ⟨A, c, unhide Hc, hown, hb, hne, by omega⟩, fun _ _ _ h => h⟩
  · have hp : Pth.isPart x = true := by simp only [Pth.isPart]; simp; simpa using hx
    have Hp := hide hp
    have q1 : x.toList.isEmpty = false := by rw [e1]; simp; exact fun h => hx (.inl (by simpa using h))
    have q2 : (x.toList == [46]) = false := by rw [e2]; simp; exact fun h => hx (.inr (by simpa using h))
    clear e1 e2 hx hp hc
    go_enter Tryd.func62, Tryd.ntmps62
    go_wp2_with (at_builtin; refine wpList_app1 strTy rfl _ _ rfl w0.heap.size (.slice A l.length c) l.length (l.map Value.string) rfl hown #[.string x] rfl rfl (by simp [Value.oneCell']) (by omega) (by omega) ?_; intro A' c' w1 hown' hgrow hat; have hg1 := (hgrow.block g hgs (fun e => hne e.symm)).trans (unhide Hc); have hc1 := cell_of_one hg1; have hf1 := free_of_one hg1; have Hg1 := hide hg1; have Hgr := hide hgrow; have Hat := hide hat; clear hg1 hgrow hat)
    go_ret
    have hne' : (Value.slice A' (l.length + 1) c').ownBlock ≠ some g := by
      intro e
      rcases unhide Hat _ e with h | h
      · exact hne h
      · omega
    refine ⟨rfl, ?_, ?_⟩
    · have e : (Pth.partsStep l x).1 = l ++ [x] := by simp [Pth.partsStep, unhide Hp]
      rw [e]
      refine ⟨A', c', ?_, ?_, ?_, ?_, ?_⟩
      · rw [List.length_append]
        exact one_setCell (unhide Hg1)
      · rw [List.length_append, List.map_append]
        exact ownsRow_setCell_other hown' (a := ⟨g, 0, none⟩) hne' _
      · exact (hb.grown (unhide Hgr) hbs (fun k hk => (hown.lt k hk).1)).setCell hg _
      · rw [List.length_append]
        exact hne'
      · rw [List.length_append]
        simp only [List.length_cons, List.length_nil]
        omega
    · refine iterKept_trans (iterKept_grown (unhide Hgr) (fun k hk => ?_)) (iterKept_setCell (unhide Hg1) _ _)
      rcases hown.2 with ⟨e, _⟩ | ⟨g', cap, cur, e, _, hh, _⟩
      · rw [e] at hk
        simp [Value.ownBlock] at hk
      · rw [e] at hk
        simp [Value.ownBlock] at hk
        exact ⟨_, _, _, hk ▸ hh⟩

theorem prt_start {w w1 : World} (hb : Below (w.alloc (.cells #[.slice none 0 0] 25)).heap.size (w.alloc (.cells #[.slice none 0 0] 25)) w1) : PrtI w w.heap.size 0 [] w1 :=
  ⟨none, 0, (hb.block _ (by simp)).trans (heap_alloc_new _ _), World.ownsRow_nil _ _ _ _, ((Below.refl _ _).alloc (Nat.le_refl _) _).trans (hb.mono (by simp)), by simp [Value.ownBlock], Nat.le_refl _⟩
theorem PrtI.sz {w0 w : World} {g n : Nat} {l : List ByteArray} (h : PrtI w0 g n l w) : w0.heap.size ≤ w.heap.size := h.choose_spec.choose_spec.2.2.1.size

theorem callFunc_parts1 (args : Array Value) (w : World) : (callFunc 62 args).run Tryd.prog w = .ok (.enter 62 args) w := by kernel_rfl

theorem parts_any (p : ByteArray) (hp : p.size ≤ maxLen) (w : World) :
    Calls Tryd.prog 43 #[.string p] w fun e w' => ∃ A c, e = .returned (.tuple #[.slice A (Pth.partsL p).length c, .bool (Pth.rootB p), .int .i64 (Pth.chk p)]) ∧
      w'.ownsRow w.heap.size 9 1 (.slice A (Pth.partsL p).length c) (Pth.partsL p).length ((Pth.partsL p).map Value.string) ∧ Below w.heap.size w w' := by
  have hck := Pth.chk_size p
  by_cases h0 : Pth.chk p = 0
  · have hrl : Pth.partsL p = Pth.goF Pth.partsStep [] (Pth.pcs p) := by rw [Pth.goF_parts]; simp [Pth.partsL, h0, Pth.parts]
    have hrb : Pth.rootB p = Lib.hasPrefix p.data.toList [47] := by simp [Pth.rootB, h0]
    have Hrl := hide hrl
    have Hrb := hide hrb
    have hs := hck h0
    have b0 : (Pth.chk p == 0) = true := by simpa using h0
    have b1 : (Pth.chk p != 0) = false := by simpa using h0
    have hmf : ∀ (fn : Fn) (first cap : Array Value) (w : World), (Instr.makeFunc fn first cap).run Tryd.prog w = .ok (.func fn first cap) w := fun _ _ _ _ => rfl
    have H0 := hide h0
    clear hck hrl hrb h0
    go_enter Tryd.func43, Tryd.ntmps43
    go_wp2_with (first
      | (go_at_call 60; refine (check_any p hp _).mono ?_; rintro e w1 ⟨rfl, hb1⟩; have Hini := hide (prt_start hb1); clear hb1)
      | (go_at_call 61; refine (pieces_any 62 _ (PrtI w w.heap.size) Pth.partsStep w.heap.size p hp callFunc_parts1 PrtI.stable (fun n s w' x hn _ hI => parts1_any w w.heap.size (Nat.le_refl _) n (by omega) s w' x hI) [] _ (PrtI.sz (unhide Hini)) (unhide Hini)).mono ?_; rintro e w2 ⟨rfl, n, hI2⟩; have HI2 := hide hI2; clear hI2))
    have HI3 := unhide HI2
    rw [← unhide Hrl] at HI3
    obtain ⟨A, c, hc, hown, hb, hne, hln⟩ := HI3
    have hc1 := cell_of_one hc
    have hf1 := free_of_one hc
    have hc2 := cell_of_one (one_setCell (u := .slice A (Pth.partsL p).length c) hc)
    have Hc := hide hc
    clear hc
    go_region_with (go_at_call 50; refine (flipw (Tryd.strings_HasPrefix _ _ _)).mono ?_; rintro e w3 ⟨rfl, rfl⟩)
    all_goals
      go_wp2
      refine bodyPost_ret (v := .tuple #[.slice A (Pth.partsL p).length c, .bool (Lib.hasPrefix p.data.toList [47]), .int .i64 0]) (by simp [results, Tryd.results43, go_sem, hc2]) rfl ?_
      exact ⟨A, c, by rw [unhide Hrb, unhide H0], ownsRow_setCell_other hown (a := ⟨w.heap.size, 0, none⟩) hne _, (hb.setCell (p := ⟨w.heap.size, 0, none⟩) (Nat.le_refl _) _).drew⟩
  · have b0 : (Pth.chk p == 0) = false := by simpa using h0
    have b1 : (Pth.chk p != 0) = true := by simpa using h0
    have e1 : Pth.partsL p = [] := by simp [Pth.partsL, h0]
    have e2 : Pth.rootB p = false := by simp [Pth.rootB, h0]
    rw [e1, e2]
    clear hck e1 e2 h0
    go_enter Tryd.func43, Tryd.ntmps43
    go_wp2_with (go_at_call 60; refine (check_any p hp _).mono ?_; rintro e w1 ⟨rfl, hb1⟩; have hn := newblk hb1; have Hb := hide (below_new hb1); clear hb1; have hc := cell_of_one hn; have hf := free_of_one hn; have hc2 := cell_of_one (one_setCell (u := .slice none 0 0) hn); clear hn)
    refine bodyPost_ret (v := .tuple #[.slice none 0 0, .bool false, .int .i64 (Pth.chk p)]) (by simp [results, Tryd.results43, go_sem, hc2]) rfl ?_
    exact ⟨none, 0, rfl, World.ownsRow_nil _ _ _ _, (unhide Hb).setCell (p := ⟨w.heap.size, 0, none⟩) (Nat.le_refl _) _⟩

end Go.Proofs.YtchmdpkjipaafaaDoor
namespace Go.Proofs.YtchmdpkjipaafaaDoor
set_option linter.unusedVariables false
set_option linter.unusedSimpArgs false
open Go.RowKit

theorem tail_any (p : ByteArray) (hp : p.size ≤ 4611686018427387903) (w : World) :
    Calls Tryd.prog 45 #[.string p] w fun e w' => e = .returned (.bool (Pth.tailB p)) ∧ w = w' := by
  go_enter Tryd.func45, Tryd.ntmps45
  go_wp2_with (go_at_call 63; refine (flipw (Tryd.strings_HasSuffix _ _ _ (by omega))).mono ?_; rintro e w1 ⟨rfl, rfl⟩)
  go_ret
  exact ⟨rfl, rfl⟩

theorem rtail_any (p : ByteArray) (hp : p.size ≤ 4611686018427387903) (w : World) :
    Calls Tryd.prog 51 #[.string p] w fun e w' => e = .returned (.bool (Pth.tailB p)) ∧ w = w' := by
  by_cases h0 : p.size = 0
  · have h1 : ¬ (0 < p.size) := by omega
    rw [Pth.tailB_empty p h0]
    have H0 := hide h0
    clear h0
    go_enter Tryd.func51, Tryd.ntmps51
    go_wp2
    go_ret
    exact ⟨rfl, rfl⟩
  · rw [Pth.tailB_iff p (by omega)]
    have h1 : 0 < p.size := by omega
    go_enter Tryd.func51, Tryd.ntmps51
    go_wp2
    go_ret
    exact ⟨by rw [← byte_47]; rfl, rfl⟩

theorem rjoin_any (d p : ByteArray) (hd : d.size ≤ 4611686018427387903) (hp : p.size ≤ 4611686018427387903) (w : World) :
    Calls Tryd.prog 31 #[.string d, .string p] w fun e w' => e = .returned (.string (Pth.joinB d p)) ∧ w = w' := by
  have he0 := isEmpty_toList d
  by_cases h0 : d.size = 0
  · have hr : Pth.joinB d p = p := by simp [Pth.joinB, h0]
    rw [hr]
    have q : d.toList.isEmpty = true := by rw [he0]; simpa using h0
    clear he0 h0 hr
    go_enter Tryd.func31, Tryd.ntmps31
    go_wp2_with fail
    go_ret
    exact ⟨rfl, rfl⟩
  · have q : d.toList.isEmpty = false := by rw [he0]; simpa using h0
    have hh := Pth.headB_iff p
    by_cases h1 : Pth.headB p = true
    · have hr : Pth.joinB d p = p := by simp [Pth.joinB, h1]
      rw [hr]
      rw [h1] at hh
      obtain ⟨hp0, hp1⟩ := of_decide_eq_true hh.symm
      have b : (((p[0].toNat : Nat) : Int) == 47) = true := by rw [byte_47]; simpa using hp1
      clear he0 h0 hr hh hp1 h1
      go_enter Tryd.func31, Tryd.ntmps31
      go_wp2_with fail
      go_ret
      exact ⟨rfl, rfl⟩
    · rw [Bool.not_eq_true] at h1
      rw [h1] at hh
      have hn := of_decide_eq_false hh.symm
      have fin : Calls Tryd.prog 31 #[.string d, .string p] w fun e w' => e = .returned (.string (if Pth.tailB d = true then d ++ p else d ++ Pth.slash ++ p)) ∧ w = w' := by
        by_cases hz : 0 < p.size
        · have b : (((p[0].toNat : Nat) : Int) == 47) = false := by rw [byte_47]; simpa using fun e => hn ⟨hz, e⟩
          clear he0 h0 hh hn h1
          by_cases h2 : Pth.tailB d = true
          · rw [if_pos h2]
            go_enter Tryd.func31, Tryd.ntmps31
            go_wp2_with (go_at_call 51; refine (rtail_any d hd _).mono ?_; rintro e w1 ⟨rfl, rfl⟩)
            go_ret
            exact ⟨rfl, rfl⟩
          · rw [if_neg h2]
            rw [Bool.not_eq_true] at h2
            go_enter Tryd.func31, Tryd.ntmps31
            go_wp2_with (go_at_call 51; refine (rtail_any d hd _).mono ?_; rintro e w1 ⟨rfl, rfl⟩)
            go_ret
            exact ⟨rfl, rfl⟩
        · clear he0 h0 hh hn h1
          by_cases h2 : Pth.tailB d = true
          · rw [if_pos h2]
            go_enter Tryd.func31, Tryd.ntmps31
            go_wp2_with (go_at_call 51; refine (rtail_any d hd _).mono ?_; rintro e w1 ⟨rfl, rfl⟩)
            go_ret
            exact ⟨rfl, rfl⟩
          · rw [if_neg h2]
            rw [Bool.not_eq_true] at h2
            go_enter Tryd.func31, Tryd.ntmps31
            go_wp2_with (go_at_call 51; refine (rtail_any d hd _).mono ?_; rintro e w1 ⟨rfl, rfl⟩)
            go_ret
            exact ⟨rfl, rfl⟩
      have hr : Pth.joinB d p = if Pth.tailB d = true then d ++ p else d ++ Pth.slash ++ p := by simp only [Pth.joinB, h0, h1, Bool.false_eq_true, or_self, if_false]
      rw [hr]
      exact fin

theorem join_any (d p : ByteArray) (hd : d.size ≤ 4611686018427387903) (hp : p.size ≤ 4611686018427387903) (w : World) :
    Calls Tryd.prog 29 #[.string d, .string p] w fun e w' => e = .returned (.string (Pth.joinB d p)) ∧ w = w' := by
  have he0 := isEmpty_toList d
  by_cases h0 : d.size = 0
  · have hr : Pth.joinB d p = p := by simp [Pth.joinB, h0]
    rw [hr]
    have q : d.toList.isEmpty = true := by rw [he0]; simpa using h0
    clear he0 h0 hr
    go_enter Tryd.func29, Tryd.ntmps29
    go_wp2_with fail
    go_ret
    exact ⟨rfl, rfl⟩
  · have q : d.toList.isEmpty = false := by rw [he0]; simpa using h0
    have hp1 : ∀ w, Calls Tryd.prog 50 #[.string p, .string ⟨#[47]⟩] w fun e w' => e = .returned (.bool (Pth.headB p)) ∧ w = w' := fun w => flipw (Tryd.strings_HasPrefix p ⟨#[47]⟩ w)
    have Hp1 := hide hp1
    by_cases h1 : Pth.headB p = true
    · have hr : Pth.joinB d p = p := by simp [Pth.joinB, h1]
      rw [hr]
      clear he0 h0 hr hp1
      go_enter Tryd.func29, Tryd.ntmps29
      go_wp2_with (go_at_call 50; refine ((unhide Hp1) _).mono ?_; rintro e w1 ⟨rfl, rfl⟩)
      go_ret
      exact ⟨rfl, rfl⟩
    · rw [Bool.not_eq_true] at h1
      by_cases h2 : Pth.tailB d = true
      · have hr : Pth.joinB d p = d ++ p := by simp [Pth.joinB, h0, h1, h2]
        rw [hr]
        clear he0 h0 hr hp1
        go_enter Tryd.func29, Tryd.ntmps29
        go_wp2_with (first | (go_at_call 50; refine ((unhide Hp1) _).mono ?_; rintro e w1 ⟨rfl, rfl⟩) | (go_at_call 45; refine (tail_any d hd _).mono ?_; rintro e w1 ⟨rfl, rfl⟩))
        go_ret
        exact ⟨rfl, rfl⟩
      · rw [Bool.not_eq_true] at h2
        have hr : Pth.joinB d p = d ++ Pth.slash ++ p := by simp [Pth.joinB, h0, h1, h2]
        rw [hr]
        clear he0 h0 hr hp1
        go_enter Tryd.func29, Tryd.ntmps29
        go_wp2_with (first | (go_at_call 50; refine ((unhide Hp1) _).mono ?_; rintro e w1 ⟨rfl, rfl⟩) | (go_at_call 45; refine (tail_any d hd _).mono ?_; rintro e w1 ⟨rfl, rfl⟩))
        go_ret
        exact ⟨rfl, rfl⟩
end Go.Proofs.YtchmdpkjipaafaaDoor
namespace Go.Proofs.YtchmdpkjipaafaaDoor
set_option linter.unusedVariables false
set_option linter.unusedSimpArgs false
open Go.RowKit

def tailA (A : Option Addr) (c : Nat) : Option Addr := if c = 1 then A else A.map (·.add 1)
theorem run_tail {P : Program} {t e : TypeId} (ht : P.underlying t = some (.slice e)) (he : (P.info? e).map (·.size) = some 1) (A : Option Addr) (n c : Nat) (w : World) :
    (Instr.slice t (.slice A (n + 1) c) (some (.int .i64 1)) none none).run P w = .ok (.slice (tailA A c) n (c - 1)) w := by
  have hel : P.elem t = e := by simp [Program.elem, ht]
  have hs : (sizeOf e).run P w = .ok 1 w := by
    cases hi : P.info? e with
    | none => simp [hi] at he
    | some i => simp [hi] at he; simp [sizeOf, typeInfo, hi, he]
  rw [run_slice_l w t A (n + 1) c (by rw [hel]; exact ht) .i64 1 (by omega) (by omega), hel, hs]
  simp only [Result.andThen_ok]
  unfold sliced tailA
  have e1 : (1 : Int).toNat = 1 := rfl
  rw [e1]
  simp
theorem Rd.tail {w : World} {B n c : Nat} {A : Option Addr} {x : Value} {xs : List Value} (h : Rd w B 1 A (n + 1) (x :: xs)) (hc : n + 1 ≤ c) : Rd w B 1 (tailA A c) n xs := by
  have hl := h.1
  simp only [List.length_cons] at hl
  refine ⟨by omega, ?_⟩
  by_cases h0 : xs = []
  · exact .inl h0
  · obtain ⟨b, off, rfl, hb, hcl⟩ := h.open_ (by simp)
    have h1 : 0 < xs.length := List.length_pos_iff.2 h0
    refine .inr ⟨b, off + 1, ?_, hb, fun j u hu => ?_⟩
    · unfold tailA
      rw [if_neg (by omega)]
      rfl
    · have := hcl (j + 1) u (by simpa using hu)
      rwa [show off + 1 + j = off + (j + 1) by omega]
theorem size_one {P : Program} {e : TypeId} (he : (P.info? e).map (·.size) = some 1) (w : World) : (sizeOf e).run P w = .ok 1 w := by
  cases hi : P.info? e with
  | none => simp [hi] at he
  | some i => simp [hi] at he; simp [sizeOf, typeInfo, hi, he]
/-- s[k:] and s[:k] of elements of one cell. -/
def fromA (A : Option Addr) (c k : Nat) : Option Addr := if c = k then A else A.map (·.add k)
theorem run_from {P : Program} {t e : TypeId} (ht : P.underlying t = some (.slice e)) (he : (P.info? e).map (·.size) = some 1) (A : Option Addr) (n c k : Nat) (hk : k ≤ n) (w : World) :
    (Instr.slice t (.slice A n c) (some (.int .i64 (k : Nat))) none none).run P w = .ok (.slice (fromA A c k) (n - k) (c - k)) w := by
  have hel : P.elem t = e := by simp [Program.elem, ht]
  rw [run_slice_l w t A n c (by rw [hel]; exact ht) .i64 (k : Nat) (by omega) (by omega), hel, size_one he]
  simp only [Result.andThen_ok, Int.toNat_natCast]
  unfold sliced fromA
  simp
theorem run_to {P : Program} {t e : TypeId} (ht : P.underlying t = some (.slice e)) (he : (P.info? e).map (·.size) = some 1) (A : Option Addr) (n c k : Nat) (hk : k ≤ c) (w : World) :
    (Instr.slice t (.slice A n c) none (some (.int .i64 (k : Nat))) none).run P w = .ok (.slice A k c) w := by
  have hel : P.elem t = e := by simp [Program.elem, ht]
  rw [run_slice_h w t A n c (by rw [hel]; exact ht) .i64 (k : Nat) (by omega) (by omega), hel, size_one he]
  simp only [Result.andThen_ok, Int.toNat_natCast]
  unfold sliced
  have h0 : ∀ A : Option Addr, A.map (·.add (0 * 1)) = A := by
    intro A
    cases A with
    | none => rfl
    | some a => cases a; rfl
  rw [h0]
  simp
theorem Rd.from_ {w : World} {B n c k : Nat} {A : Option Addr} {xs : List Value} (h : Rd w B 1 A n xs) (hk : k ≤ n) (hc : n ≤ c) : Rd w B 1 (fromA A c k) (n - k) (xs.drop k) := by
  have hl := h.1
  refine ⟨by rw [List.length_drop]; omega, ?_⟩
  by_cases h0 : xs.drop k = []
  · exact .inl h0
  · have h1 : 0 < (xs.drop k).length := List.length_pos_iff.2 h0
    rw [List.length_drop] at h1
    obtain ⟨b, off, rfl, hb, hcl⟩ := h.open_ (by rintro rfl; simp at h1)
    refine .inr ⟨b, off + k, ?_, hb, fun j u hu => ?_⟩
    · unfold fromA
      rw [if_neg (by omega), Option.map_some, Addr.add_lit]
    · rw [List.getElem?_drop] at hu
      have := hcl (k + j) u hu
      rwa [show off + k + j = off + (k + j) by omega]
theorem Rd.to_ {w : World} {B n k : Nat} {A : Option Addr} {xs : List Value} (h : Rd w B 1 A n xs) (hk : k ≤ n) : Rd w B 1 A k (xs.take k) := by
  have hl := h.1
  refine ⟨by rw [List.length_take]; omega, ?_⟩
  rcases h.2 with h0 | ⟨b, off, e, hb, hc⟩
  · exact .inl (by rw [h0]; simp)
  · refine .inr ⟨b, off, e, hb, fun j u hu => hc j u ?_⟩
    rw [List.getElem?_take] at hu
    split at hu
    · exact hu
    · cases hu
end Go.Proofs.YtchmdpkjipaafaaDoor
namespace Go.Proofs.YtchmdpkjipaafaaDoor
set_option linter.unusedVariables false
set_option linter.unusedSimpArgs false
open Go.RowKit

theorem spl_step {v : List UInt8} {k : Nat} {c : UInt8} (hc : v[k]? = some c) (acc : List UInt8) : Ev.spl acc (v.drop k) = if c = 58 then acc :: Ev.spl [] (v.drop (k + 1)) else Ev.spl (acc ++ [c]) (v.drop (k + 1)) := by
  obtain ⟨h1, h2⟩ := List.getElem?_eq_some_iff.1 hc
  rw [List.drop_eq_getElem_cons h1, h2]
  rfl
theorem byte_ne58 (c : UInt8) : (((c.toNat : Nat) : Int) != 58) = !decide (c = 58) := by
  rw [bne, Bool.not_inj_iff, Bool.eq_iff_iff, beq_iff_eq, decide_eq_true_eq]
  constructor
  · intro h
    apply UInt8.toNat_inj.1
    have : (58 : UInt8).toNat = 58 := rfl
    omega
  · rintro rfl
    rfl
/-- Where List stands: i bytes are looked at, the piece at hand begins at f. -/
structure RlS (v : List UInt8) (n i f : Nat) (D : List (List UInt8)) : Prop where
  fi : i ≤ n → f ≤ i
  at_ : i ≤ n → Ev.spl [] v = D ++ Ev.spl ((v.drop f).take (i - f)) (v.drop i)
  over : n < i → D = Ev.spl [] v
  few : D.length ≤ i

set_option maxRecDepth 100000 in
set_option maxHeartbeats 4000000 in
theorem rlist_any (s : ByteArray) (w : World) (hs : s.size ≤ 4294967296) : Calls Tryd.prog 30 #[.string s] w (ListE s.data.toList w) := by
  have hsl : s.data.toList.length = s.size := by simp
  have hem := isEmpty_toList s
  by_cases h0 : s.size = 0
  · have hnil : s.data.toList = [] := List.eq_nil_of_length_eq_zero (by omega)
    rw [decide_eq_true h0] at hem
    unfold ListE
    rw [hnil]
    have hls : Ev.list [] = [] := rfl
    rw [hls]
    have q2 : s.toList = [] := by rw [← List.isEmpty_iff, hem]
    have hsz : (s.size : Int) = 0 := by omega
    clear hsl hnil hls h0
    go_enter Tryd.func30, Tryd.ntmps30
    go_wp2_with fail
    go_loopg [3, 4, 5] 0 (fun gk lv fv iv wr => gk = 0 ∧ lv = .slice none 0 0 ∧ iv = .int .i64 0 ∧ w = wr)
    case atStart => exact ⟨rfl, rfl, rfl, rfl⟩
    case round =>
    obtain ⟨hgk, rfl, rfl, rfl⟩ := hrel
    go_wp2_with fail
    go_ret
    exact ⟨_, rfl, World.ownsRow_nil _ _ _ _, Below.refl _ _⟩
  have hne : s.data.toList ≠ [] := by intro e; rw [e] at hsl; simp at hsl; omega
  have hlist : Ev.list s.data.toList = (Ev.spl [] s.data.toList).map Ev.dot := by unfold Ev.list; rw [if_neg hne]
  rw [decide_eq_false h0] at hem
  have q2 : ¬ s.toList = [] := by rw [← List.isEmpty_iff, hem]; simp
  obtain ⟨v, hv⟩ : ∃ v, s.data.toList = v := ⟨_, rfl⟩
  unfold ListE
  rw [hv] at hlist ⊢
  have Hv := hide hv
  have Hsl := hide hsl
  have Hlist := hide hlist
  have S0 : RlS v s.size 0 0 [] := ⟨fun _ => Nat.le_refl _, fun _ => by simp, fun h => by omega, Nat.zero_le _⟩
  have HS0 := hide S0
  clear hne hlist hv hsl S0
  go_enter Tryd.func30, Tryd.ntmps30
  go_wp2_with fail
  go_loopg [3, 4, 5] (s.size + 1) (fun gk lv fv iv wr => ∃ (i f : Nat) (D : List (List UInt8)) (m : Nat) (A : Option Addr) (c : Nat), gk = s.size + 1 - i ∧ i ≤ s.size + 1 ∧ f ≤ s.size + 1 ∧ iv = .int .i64 i ∧ fv = .int .i64 f ∧ lv = .slice A m c ∧ m ≤ i ∧ m = D.length ∧ RlS v s.size i f D ∧ wr.ownsRow w.heap.size 9 1 (.slice A m c) m (D.map fun p => Value.string (Ev.dot p)) ∧ Below w.heap.size w wr)
  case atStart => exact ⟨0, 0, [], 0, none, 0, by omega, Nat.zero_le _, Nat.zero_le _, rfl, rfl, rfl, Nat.le_refl _, rfl, unhide HS0, World.ownsRow_nil _ _ _ _, Below.refl _ _⟩
  case round =>
  obtain ⟨i, f, D, m, A, c, hgk, hi, hf, rfl, rfl, rfl, hmi, hmD, hS, ho, hb⟩ := hrel
  have Hgk := hide hgk
  have HmD := hide hmD
  have HS := hide hS
  have Ho := hide ho
  have Hb := hide hb
  have hwr := hb.size
  clear hgk hmD hS ho hb HS0
  by_cases hlt : i ≤ s.size
  case neg =>
    obtain rfl : i = s.size + 1 := by omega
    have hD := (unhide HS).over (by omega)
    have hfin : m = (Ev.list s.data.toList).length ∧ D.map (fun p => Value.string (Ev.dot p)) = (Ev.list s.data.toList).map Value.string := by
      rw [unhide Hv, unhide Hlist, unhide HmD, hD]
      exact ⟨by simp, by simp⟩
    have Hfin := hide hfin
    have i1 : ¬ ((s.size + 1 : Nat) : Int) ≤ (s.size : Int) := by omega
    clear hD hfin
    go_wp2_with fail
    go_ret
    have ho := unhide Ho
    have e1 := (unhide Hfin).1
    have e2 := (unhide Hfin).2
    rw [unhide Hv] at e1 e2
    rw [e2] at ho
    rw [← e1]
    exact ⟨_, rfl, ho, unhide Hb⟩
  have hfi := (unhide HS).fi hlt
  have i1 : (i : Int) ≤ (s.size : Int) := by omega
  have key : (i = s.size ∨ v[i]? = some 58) → RlS v s.size (i + 1) (i + 1) (D ++ [(v.drop f).take (i - f)]) := by
    intro h
    have h1 := (unhide HS).at_ hlt
    have hvl : v.length = s.size := by rw [← unhide Hv]; exact unhide Hsl
    refine ⟨fun _ => Nat.le_refl _, fun h2 => ?_, fun h2 => ?_, by rw [List.length_append, List.length_singleton]; have := (unhide HS).few; omega⟩
    · rcases h with h | h
      · omega
      · rw [h1, spl_step h, if_pos rfl, Nat.sub_self, List.take_zero, List.append_assoc]
        rfl
    · have hii : i = s.size := by omega
      rw [h1, hii, List.drop_of_length_le (by omega : v.length ≤ s.size)]
      rfl
  have Hkey := hide key
  have hms : m ≤ 4294967297 := by omega
  clear key
  by_cases hrun : i < s.size ∧ v[i]? ≠ some 58
  · obtain ⟨hil, hc⟩ := hrun
    have hat : v[i]? = some s[i] := by rw [← unhide Hv, List.getElem?_eq_getElem (by rw [unhide Hsl]; exact hil)]; rfl
    have hne : s[i] ≠ 58 := by intro e; rw [e] at hat; exact hc hat
    have b2 : (((s[i].toNat : Nat) : Int) != 58) = true := by rw [byte_ne58]; simpa using hne
    have hS2 : RlS v s.size (i + 1) f D := by
      have h1 := (unhide HS).at_ hlt
      refine ⟨fun _ => by omega, fun _ => ?_, fun h => by omega, by have := (unhide HS).few; omega⟩
      rw [h1, spl_step hat, if_neg hne]
      congr 2
      rw [show i + 1 - f = (i - f) + 1 by omega, List.take_add_one]
      congr 1
      rw [List.getElem?_drop, show f + (i - f) = i by omega, hat]
      rfl
    have HS2 := hide hS2
    clear hc hat hne hS2 hfi
    go_wp2_with fail
    go_roundg (s.size + 1 - (i + 1))
    case measure => have := unhide Hgk; omega
    case rel => exact ⟨i + 1, f, D, m, A, c, rfl, by omega, hf, by go_num, rfl, rfl, by omega, unhide HmD, unhide HS2, unhide Ho, unhide Hb⟩
  · have hB : i = s.size ∨ v[i]? = some 58 := by
      by_cases h : i < s.size
      · right
        by_cases h2 : v[i]? = some 58
        · exact h2
        · exact absurd ⟨h, h2⟩ hrun
      · left; omega
    have HS2 := hide ((unhide Hkey) hB)
    have hF : f ≤ s.size := by omega
    clear hrun
    by_cases hfe : f = i
    · subst hfe
      have hpc : Ev.dot ((v.drop f).take (f - f)) = ⟨#[46]⟩ := by rw [Nat.sub_self, List.take_zero]; rfl
      have b3 : ((f : Int) == (f : Int)) = true := beq_self_eq_true _
      have Hpc := hide hpc
      clear hpc
      rcases hB with hB | hB
      · have hge : ¬ (f : Int) < (s.size : Int) := by omega
        clear hB
        go_wp2_with (at_builtin; refine wpList_app1 strTy rfl _ _ rfl w.heap.size (.slice A m c) m _ rfl (unhide Ho) _ rfl rfl (by simp [Value.oneCell']) (by omega) hwr ?_; intro A3 c3 w3 ho3 hg3 hat3; have hb3 := (unhide Hb).grown hg3 hwr (fun k' hk' => ((unhide Ho).lt k' hk').1); have Ho3 := hide ho3; have Hb3 := hide hb3; clear ho3 hg3 hat3 hb3)
        go_roundg (s.size + 1 - (f + 1))
        case measure => have := unhide Hgk; omega
        case rel => exact ⟨f + 1, f + 1, D ++ [(v.drop f).take (f - f)], m + 1, A3, c3, rfl, by omega, by omega, by go_num, by go_num, rfl, by omega, by rw [List.length_append, List.length_singleton, ← unhide HmD], unhide HS2, by rw [List.map_append, List.map_singleton, unhide Hpc]; exact unhide Ho3, unhide Hb3⟩
      · have hil : f < s.size := by have h := (List.getElem?_eq_some_iff.1 hB).1; rw [← unhide Hv, unhide Hsl] at h; exact h
        have hat : v[f]? = some s[f] := by rw [← unhide Hv, List.getElem?_eq_getElem (by rw [unhide Hsl]; exact hil)]; rfl
        have hbe : s[f] = 58 := by rw [hB] at hat; injection hat with hat; exact hat.symm
        have b2 : (((s[f].toNat : Nat) : Int) != 58) = false := by rw [byte_ne58]; simpa using hbe
        clear hB hat hbe
        go_wp2_with (at_builtin; refine wpList_app1 strTy rfl _ _ rfl w.heap.size (.slice A m c) m _ rfl (unhide Ho) _ rfl rfl (by simp [Value.oneCell']) (by omega) hwr ?_; intro A3 c3 w3 ho3 hg3 hat3; have hb3 := (unhide Hb).grown hg3 hwr (fun k' hk' => ((unhide Ho).lt k' hk').1); have Ho3 := hide ho3; have Hb3 := hide hb3; clear ho3 hg3 hat3 hb3)
        go_roundg (s.size + 1 - (f + 1))
        case measure => have := unhide Hgk; omega
        case rel => exact ⟨f + 1, f + 1, D ++ [(v.drop f).take (f - f)], m + 1, A3, c3, rfl, by omega, by omega, by go_num, by go_num, rfl, by omega, by rw [List.length_append, List.length_singleton, ← unhide HmD], unhide HS2, by rw [List.map_append, List.map_singleton, unhide Hpc]; exact unhide Ho3, unhide Hb3⟩
    · have hfl : f < i := by omega
      have hpc : Ev.dot ((v.drop f).take (i - f)) = s.extract f i := by
        rw [extract_ba, unhide Hv]
        unfold Ev.dot
        rw [if_neg]
        intro e
        have h1 := congrArg List.length e
        have hvl : v.length = s.size := by rw [← unhide Hv]; exact unhide Hsl
        simp only [List.length_take, List.length_drop, List.length_nil] at h1
        omega
      have b3 : ((i : Int) == (f : Int)) = false := by rw [beq_eq_false_iff_ne]; omega
      have Hpc := hide hpc
      have hfi2 : (f : Int) ≤ (i : Int) := by omega
      clear hpc hfe
      rcases hB with hB | hB
      · have hge : ¬ (i : Int) < (s.size : Int) := by omega
        clear hB
        go_wp2_with (at_builtin; refine wpList_app1 strTy rfl _ _ rfl w.heap.size (.slice A m c) m _ rfl (unhide Ho) _ rfl rfl (by simp [Value.oneCell']) (by omega) hwr ?_; intro A3 c3 w3 ho3 hg3 hat3; have hb3 := (unhide Hb).grown hg3 hwr (fun k' hk' => ((unhide Ho).lt k' hk').1); have Ho3 := hide ho3; have Hb3 := hide hb3; clear ho3 hg3 hat3 hb3)
        go_roundg (s.size + 1 - (i + 1))
        case measure => have := unhide Hgk; omega
        case rel => exact ⟨i + 1, i + 1, D ++ [(v.drop f).take (i - f)], m + 1, A3, c3, rfl, by omega, by omega, by go_num, by go_num, rfl, by omega, by rw [List.length_append, List.length_singleton, ← unhide HmD], unhide HS2, by rw [List.map_append, List.map_singleton, unhide Hpc]; exact unhide Ho3, unhide Hb3⟩
      · have hil : i < s.size := by have h := (List.getElem?_eq_some_iff.1 hB).1; rw [← unhide Hv, unhide Hsl] at h; exact h
        have hat : v[i]? = some s[i] := by rw [← unhide Hv, List.getElem?_eq_getElem (by rw [unhide Hsl]; exact hil)]; rfl
        have hbe : s[i] = 58 := by rw [hB] at hat; injection hat with hat; exact hat.symm
        have b2 : (((s[i].toNat : Nat) : Int) != 58) = false := by rw [byte_ne58]; simpa using hbe
        clear hB hat hbe
        go_wp2_with (at_builtin; refine wpList_app1 strTy rfl _ _ rfl w.heap.size (.slice A m c) m _ rfl (unhide Ho) _ rfl rfl (by simp [Value.oneCell']) (by omega) hwr ?_; intro A3 c3 w3 ho3 hg3 hat3; have hb3 := (unhide Hb).grown hg3 hwr (fun k' hk' => ((unhide Ho).lt k' hk').1); have Ho3 := hide ho3; have Hb3 := hide hb3; clear ho3 hg3 hat3 hb3)
        go_roundg (s.size + 1 - (i + 1))
        case measure => have := unhide Hgk; omega
        case rel => exact ⟨i + 1, i + 1, D ++ [(v.drop f).take (i - f)], m + 1, A3, c3, rfl, by omega, by omega, by go_num, by go_num, rfl, by omega, by rw [List.length_append, List.length_singleton, ← unhide HmD], unhide HS2, by rw [List.map_append, List.map_singleton, unhide Hpc]; exact unhide Ho3, unhide Hb3⟩
end Go.Proofs.YtchmdpkjipaafaaDoor
namespace Go.Proofs.YtchmdpkjipaafaaDoor
set_option linter.unusedVariables false
set_option linter.unusedSimpArgs false
open Go.RowKit

section
variable {P : Program} {t e : TypeId} {size bytes : Nat}
theorem rd_src (T : SlTy P t e size bytes) {w : World} {B : Nat} {A : Option Addr} {m : Nat} {xs : List Value} (h : Rd w B size A m xs) (hm : 0 < m) : ∃ ad, A = some ad ∧ ∀ j u, xs[j]? = some u → w.cell? (ad.add j) = some u := by
  rcases h.2 with rfl | ⟨b, off, rfl, _, hc⟩
  · exfalso
    have h1 := h.1
    simp only [List.length_nil] at h1
    have := Nat.mul_pos hm T.hsz
    omega
  · exact ⟨_, rfl, fun j u hu => by rw [Addr.add_lit]; exact hc j u hu⟩
theorem run_appG (T : SlTy P t e size bytes) (w : World) (ty : TypeId) (A : Option Addr) (n B : Nat) (olds : List Value) (hr : Rd w B size A n olds) (B2 : Nat) (A2 : Option Addr) (m c : Nat) (news : List Value) (hr2 : Rd w B2 size A2 m news)
    (h1 : ∀ u ∈ news, u.oneCell' = true) (hb : (n + m) * bytes ≤ 140737488355328) :
    ∃ v' w', (Builtin.append_ #[t, t] ty #[.slice A n n, .slice A2 m c]).run P w = .ok v' w' ∧ ((m = 0 ∧ v' = .slice A n n ∧ w' = w) ∨ (0 < m ∧ w'.ownsRow w.heap.size e size v' (n + m) (olds ++ news) ∧ w.grownBy w' none)) := by
  have T' := T
  obtain ⟨ht, ⟨i, z, hi, hz, hs, hby, hzs⟩, hsz, hbp⟩ := T
  have h63 : n + m ≤ maxLen := by
    have : (n + m) * 1 ≤ (n + m) * bytes := Nat.mul_le_mul_left _ hbp
    unfold maxLen
    omega
  rcases Nat.eq_zero_or_pos m with rfl | hm
  · have hn0 : news = [] := List.eq_nil_of_length_eq_zero (by simpa using hr2.1)
    subst hn0
    refine ⟨_, _, ?_, .inl ⟨rfl, rfl, rfl⟩⟩
    cases A2 with
    | none => exact run_append_nothing w t t ty e i ht hi A n n (Nat.le_refl _) _ (Src.ofNil w ht c)
    | some a => exact run_append_nothing w t t ty e i ht hi A n n (Nat.le_refl _) _ (Src.ofSlice w ht a 0 c [] (by simp) (by simp) (by simp))
  · obtain ⟨ad, rfl, hc2⟩ := rd_src T' hr2 hm
    cases A with
    | some b0 =>
      have hc : ∀ j u, olds[j]? = some u → w.cell? (b0.add j) = some u := by
        intro j u hu
        rcases hr.2 with rfl | ⟨b, off, ha, _, hc⟩
        · simp at hu
        · injection ha with ha
          subst ha
          rw [Addr.add_lit]
          exact hc j u hu
      obtain ⟨v', w', hrun, r1, r2⟩ := run_append_arg_grows (P := P) w t ty e i z size bytes ht hi hz hs hby hzs hsz b0 n n olds hr.1 hc ad m c news hr2.1 hc2 (by omega) h63 hb
      exact ⟨v', w', hrun, .inr ⟨hm, r1, r2⟩⟩
    | none =>
      have hn : n = 0 ∧ olds = [] := by
        rcases hr.2 with rfl | ⟨b, off, ha, _, _⟩
        · have h1 := hr.1
          simp only [List.length_nil] at h1
          refine ⟨?_, rfl⟩
          rcases Nat.eq_zero_or_pos n with h | h
          · exact h
          · have := Nat.mul_pos h hsz
            omega
        · cases ha
      obtain ⟨rfl, rfl⟩ := hn
      obtain ⟨v', w', hrun, r1, r2, _⟩ := run_append_own (P := P) w w.heap.size t ty e i z size bytes ht hi hz hs hby hzs hsz (.slice none 0 0) 0 [] (World.ownsRow_nil w _ e size) ad m c news hr2.1 hc2 h1 h63 hb (Nat.le_refl _)
      exact ⟨v', w', hrun, .inr ⟨hm, r1, r2⟩⟩
/-- Whatever is appended, nothing also. -/
theorem wp_appG (T : SlTy P t e size bytes) {w : World} {o : Oper} {a : Act} {K : Act → World → Prop} {Q : Exit → Act → World → Prop} (s x : Operand)
    (ho : o.op = .call { callee := .builtin .append, args := #[s, x], argTypes := #[t, t] })
    (A : Option Addr) (n B : Nat) (olds : List Value) (hs : a.eval s = .slice A n n) (hr : Rd w B size A n olds) (hB : B ≤ w.heap.size)
    (B2 : Nat) (A2 : Option Addr) (m c : Nat) (news : List Value) (hx : a.eval x = .slice A2 m c) (hr2 : Rd w B2 size A2 m news) (h1 : ∀ u ∈ news, u.oneCell' = true)
    (hb : (n + m) * bytes ≤ 140737488355328)
    (h : ∀ A' c' w', n + m ≤ c' → Rd w' w'.heap.size size A' (n + m) (olds ++ news) → Below w.heap.size w w' → K (a.put o.dst (.slice A' (n + m) c')) w') : o.wp P a w K Q := by
  obtain ⟨v', w', hrun, h2⟩ := run_appG T w o.type A n B olds hr B2 A2 m c news hr2 h1 hb
  unfold Oper.wp execOp
  simp only [ho, resolve, invoke, builtin, Sem.run_bind, Sem.run_pure, Result.andThen_ok, List.map_toArray, List.map_cons, List.map_nil, hs, hx, hrun]
  rcases h2 with ⟨rfl, rfl, rfl⟩ | ⟨hm, h3, h4⟩
  · have hn0 : news = [] := List.eq_nil_of_length_eq_zero (by simpa using hr2.1)
    subst hn0
    rw [List.append_nil] at h
    exact h A n w' (Nat.le_refl _) (hr.more hB) (Below.refl _ _)
  · obtain ⟨A', c', rfl⟩ := own_form h3
    refine h A' c' w' ?_ (Rd.of_own h3) ((Below.refl _ _).grown h4 (Nat.le_refl _) (fun k hk => by cases hk))
    rcases h3.2 with ⟨e1, e2⟩ | ⟨g, cap, cur, e1, _, _, e4, _⟩
    · omega
    · injection e1 with _ _ e1
      omega
theorem wpList_appG (T : SlTy P t e size bytes) {w : World} {ops : Array Oper} {rest : List Oper} {o : Oper} {a : Act} {Q : Exit → Act → World → Prop} (hgd : o.guard = none) (s x : Operand)
    (ho : o.op = .call { callee := .builtin .append, args := #[s, x], argTypes := #[t, t] })
    (A : Option Addr) (n B : Nat) (olds : List Value) (hs : a.eval s = .slice A n n) (hr : Rd w B size A n olds) (hB : B ≤ w.heap.size)
    (B2 : Nat) (A2 : Option Addr) (m c : Nat) (news : List Value) (hx : a.eval x = .slice A2 m c) (hr2 : Rd w B2 size A2 m news) (h1 : ∀ u ∈ news, u.oneCell' = true)
    (hb : (n + m) * bytes ≤ 140737488355328)
    (h : ∀ A' c' w', n + m ≤ c' → Rd w' w'.heap.size size A' (n + m) (olds ++ news) → Below w.heap.size w w' → wpList P ops Q rest (a.put o.dst (.slice A' (n + m) c')) w') : wpList P ops Q (o :: rest) a w :=
  wpList_plain hgd fun _ hK => wp_appG T s x ho A n B olds hs hr hB B2 A2 m c news hx hr2 h1 hb fun A' c' w' h2 h3 h4 => hK _ _ (h A' c' w' h2 h3 h4)
/-- Something is appended: the row is new. -/
theorem wpList_appGo (T : SlTy P t e size bytes) {w : World} {ops : Array Oper} {rest : List Oper} {o : Oper} {a : Act} {Q : Exit → Act → World → Prop} (hgd : o.guard = none) (s x : Operand)
    (ho : o.op = .call { callee := .builtin .append, args := #[s, x], argTypes := #[t, t] })
    (A : Option Addr) (n B : Nat) (olds : List Value) (hs : a.eval s = .slice A n n) (hr : Rd w B size A n olds)
    (B2 : Nat) (A2 : Option Addr) (m c : Nat) (news : List Value) (hx : a.eval x = .slice A2 m c) (hr2 : Rd w B2 size A2 m news) (h1 : ∀ u ∈ news, u.oneCell' = true)
    (hb : (n + m) * bytes ≤ 140737488355328) (hm : 0 < m)
    (h : ∀ A' c' w', w'.ownsRow w.heap.size e size (.slice A' (n + m) c') (n + m) (olds ++ news) → Below w.heap.size w w' → wpList P ops Q rest (a.put o.dst (.slice A' (n + m) c')) w') : wpList P ops Q (o :: rest) a w := by
  refine wpList_plain hgd fun _ hK => ?_
  obtain ⟨v', w', hrun, h2⟩ := run_appG T w o.type A n B olds hr B2 A2 m c news hr2 h1 hb
  unfold Oper.wp execOp
  simp only [ho, resolve, invoke, builtin, Sem.run_bind, Sem.run_pure, Result.andThen_ok, List.map_toArray, List.map_cons, List.map_nil, hs, hx, hrun]
  rcases h2 with ⟨rfl, _⟩ | ⟨_, h3, h4⟩
  · omega
  · obtain ⟨A', c', rfl⟩ := own_form h3
    exact hK _ _ (h A' c' w' h3 ((Below.refl _ _).grown h4 (Nat.le_refl _) (fun k hk => by cases hk)))
end
end Go.Proofs.YtchmdpkjipaafaaDoor
namespace Go.Proofs.YtchmdpkjipaafaaDoor
set_option linter.unusedVariables false
set_option linter.unusedSimpArgs false
open Go.RowKit

/-- A list of texts in new memory. -/
def TxE (l : List ByteArray) (w : World) (e : Ending) (w' : World) : Prop :=
  ∃ A' c', e = .returned (.slice A' l.length c') ∧ w'.ownsRow w.heap.size 9 1 (.slice A' l.length c') l.length (l.map Value.string) ∧ Below w.heap.size w w'
theorem listE_tx {v : List UInt8} {w : World} {e : Ending} {w' : World} (h : ListE v w e w') : TxE (Ev.list v) w e w' := by
  obtain ⟨u, rfl, h1, h2⟩ := h
  obtain ⟨A', c', rfl⟩ := own_form h1
  exact ⟨A', c', rfl, h1, h2⟩
theorem list_len (v : List UInt8) : (Ev.list v).length ≤ v.length + 1 := by
  unfold Ev.list
  split
  · simp
  · rw [List.length_map]; exact spl_len v []
theorem str_one (l : List ByteArray) : ∀ u ∈ l.map Value.string, u.oneCell' = true := by
  intro u hu
  obtain ⟨x, _, rfl⟩ := List.mem_map.1 hu
  simp [Value.oneCell']

set_option maxRecDepth 100000 in
set_option maxHeartbeats 4000000 in
theorem dirs_any (run lib : ByteArray) (sec : Bool) (w : World) (hr : run.size ≤ 4294967296) (hlb : lib.size ≤ 4294967296) : Calls Tryd.prog 10 #[.string run, .string lib, .bool sec] w (TxE (Se.dirs run lib sec) w) := by
  have K1 := hide (fun e w' h => listE_tx (v := run.data.toList) (w := w) (e := e) (w' := w') h)
  have KL := hide (list_any run w hr)
  have hlr := list_len run.data.toList
  have hll := list_len lib.data.toList
  have hrs : run.data.toList.length = run.size := by simp
  have hls : lib.data.toList.length = lib.size := by simp
  obtain ⟨L1, hL1⟩ : ∃ L, Ev.list run.data.toList = L := ⟨_, rfl⟩
  obtain ⟨L2, hL2⟩ : ∃ L, Ev.list lib.data.toList = L := ⟨_, rfl⟩
  have hd1 : Se.dirs run lib true = L1 ++ Se.libs := by rw [Se.dirs_true, hL1]
  have hd2 : Se.dirs run lib false = L1 ++ (L2 ++ Se.libs) := by rw [Se.dirs_false, hL1, hL2]
  have kl2 := fun w' => list_any lib w' hlb
  have ke2 := fun w1 e w' h => listE_tx (v := lib.data.toList) (w := w1) (e := e) (w' := w') h
  rw [hL1] at K1 hlr
  rw [hL2] at ke2 hll
  obtain ⟨n1, hn1⟩ : ∃ n, L1.length = n := ⟨_, rfl⟩
  obtain ⟨n2, hn2⟩ : ∃ n, L2.length = n := ⟨_, rfl⟩
  have KL2 : Hid (∀ w', Calls Tryd.prog 27 #[.string lib] w' fun e w2 => ∃ A' c', e = .returned (.slice A' n2 c') ∧ w2.ownsRow w'.heap.size 9 1 (.slice A' n2 c') n2 (L2.map Value.string) ∧ Below w'.heap.size w' w2) := hide fun w' => (kl2 w').mono fun e w2 h => by
    have h2 := ke2 _ _ _ h
    unfold TxE at h2
    rw [hn2] at h2
    exact h2
  clear kl2 ke2
  have hb1 : n1 ≤ 4294967297 := by omega
  have hb2 : n2 ≤ 4294967297 := by omega
  have H1 := hide hn1
  have H2 := hide hn2
  have D1 := hide hd1
  have D2 := hide hd2
  clear hlr hll hrs hls hL1 hL2 hd1 hd2 hn1 hn2
  go_enter Tryd.func10, Tryd.ntmps10
  go_wp2_with fail
  refine (unhide KL).mono ?_
  intro e w1 h1
  obtain ⟨A1, c1, rfl, ho1, hbl1⟩ := (unhide K1) _ _ h1
  rw [unhide H1] at ho1 ⊢
  have hc1 := own_cap ho1
  have Ho1 := hide ho1
  have Hb1 := hide hbl1
  clear h1 KL K1 ho1 hbl1
  have hlen1 : (L1 ++ Se.libs).length = n1 + 2 := by rw [List.length_append, unhide H1]; rfl
  have hlen2 : (L1 ++ (L2 ++ Se.libs)).length = n1 + n2 + 2 := by rw [List.length_append, List.length_append, unhide H1, unhide H2]; show n1 + (n2 + 2) = _; omega
  have Hlen1 := hide hlen1
  have Hlen2 := hide hlen2
  have hsz1 := (unhide Hb1).size
  clear hlen1 hlen2
  cases sec with
  | true =>
    go_wp2_with (at_builtin; refine wpList_appGo strTy rfl _ _ rfl A1 n1 _ (L1.map Value.string) rfl ((Rd.of_own (unhide Ho1)).alloc (by simp) _) _ _ 2 2 (Se.libs.map Value.string) rfl (Rd.rowF (cs := #[.string ⟨#[47, 108, 105, 98]⟩, .string ⟨#[47, 117, 115, 114, 47, 108, 105, 98]⟩]) (n := 2) rfl) (str_one _) (by omega) (by omega) ?_; intro A3 c3 w3 ho3 hb3; have Ho3 := hide ho3; have Hb3 := hide hb3; clear ho3 hb3)
    go_ret
    unfold TxE
    rw [unhide D1, unhide Hlen1, List.map_append]
    exact ⟨A3, c3, rfl, own_base (unhide Ho3) (by simp; omega), ((unhide Hb1).alloc hsz1 _).trans ((unhide Hb3).mono (by simp; omega))⟩
  | false =>
    go_wp2_with fail
    go_region_held3 (fun w' => Below w1.heap.size w1 w') (first | exact (below_drew' (Below.refl _ _)) | exact (unhide hbn2) | exact (unhide hbn)) (first
      | (go_at_call 27; rename Below _ _ _ => hH; refine ((unhide KL2) _).mono ?_; rintro e w5 ⟨A5, c5, rfl, ho5, hb5⟩; have Ho5 := hide ho5; have hbn := hide (hH.trans (hb5.mono hH.size)); clear ho5 hb5)
      | (refine wp_appG strTy _ _ rfl A1 n1 _ (L1.map Value.string) rfl (Rd.of_own (own_below (unhide Ho1) (unhide hbn))) (Nat.le_refl _) _ A5 n2 c5 (L2.map Value.string) rfl (Rd.of_own (unhide Ho5)) (str_one _) (by omega) ?_; intro A6 c6 w6 hc6 hr6 hb6; have Hr6 := hide hr6; have hbn2 := hide ((unhide hbn).trans (hb6.mono (unhide hbn).size)); clear hr6 hb6))
    have hsz6 := (unhide hbn2).size
    go_wp2_with (at_builtin; refine wpList_appGo strTy rfl _ _ rfl A6 (n1 + n2) _ (L1.map Value.string ++ L2.map Value.string) rfl ((unhide Hr6).alloc (by simp) _) _ _ 2 2 (Se.libs.map Value.string) rfl (Rd.rowF (cs := #[.string ⟨#[47, 108, 105, 98]⟩, .string ⟨#[47, 117, 115, 114, 47, 108, 105, 98]⟩]) (n := 2) rfl) (str_one _) (by omega) (by omega) ?_; intro A3 c3 w3 ho3 hb3; have Ho3 := hide ho3; have Hb3 := hide hb3; clear ho3 hb3)
    go_ret
    unfold TxE
    rw [unhide D2, unhide Hlen2, List.map_append, List.map_append, ← List.append_assoc]
    exact ⟨A3, c3, rfl, own_base (unhide Ho3) (by simp; omega), (((unhide Hb1).trans ((unhide hbn2).mono hsz1)).alloc (Nat.le_trans hsz1 hsz6) _).trans ((unhide Hb3).mono (by simp; omega))⟩
end Go.Proofs.YtchmdpkjipaafaaDoor
namespace Go.Proofs.YtchmdpkjipaafaaDoor
set_option linter.unusedVariables false
set_option linter.unusedSimpArgs false
open Go.RowKit

theorem ib_has (l : List UInt8) (c : UInt8) : decide (0 ≤ Lib.indexByte l c) = l.contains c := by
  have hge := Lib.indexByte_ge l c
  by_cases h : Lib.indexByte l c = -1
  · rw [h]
    have : l.contains c = false := by
      rw [Bool.eq_false_iff]
      intro hc
      rw [List.contains_iff_mem] at hc
      obtain ⟨k, hk⟩ := List.mem_iff_getElem?.1 hc
      exact Lib.indexByte_none h k hk
    rw [this]
    rfl
  · obtain ⟨o, ho⟩ := Int.eq_ofNat_of_zero_le (show 0 ≤ Lib.indexByte l c by omega)
    have hm := List.mem_of_getElem? (Lib.indexByte_some ho).1
    rw [List.contains_iff_mem.2 hm, ho]
    simp
theorem spl_sz (v acc p : List UInt8) (h : p ∈ Ev.spl acc v) : p.length ≤ acc.length + v.length := by
  induction v generalizing acc with
  | nil =>
    have : p = acc := by simpa [Ev.spl] using h
    subst this
    simp
  | cons c r ih =>
    unfold Ev.spl at h
    split at h
    · rcases List.mem_cons.1 h with rfl | h
      · simp only [List.length_cons]; omega
      · have := ih [] h
        simp only [List.length_nil, List.length_cons] at *
        omega
    · have := ih (acc ++ [c]) h
      simp only [List.length_append, List.length_cons, List.length_nil] at *
      omega
theorem list_sz {v : List UInt8} {x : ByteArray} (h : x ∈ Ev.list v) : x.size ≤ v.length + 1 := by
  unfold Ev.list at h
  split at h
  · cases h
  · obtain ⟨p, hp, rfl⟩ := List.mem_map.1 h
    have h1 := spl_sz v [] p hp
    unfold Ev.dot
    split
    · show 1 ≤ _; omega
    · have : (Ev.ba p).size = p.length := by show p.toArray.size = p.length; simp
      simp only [List.length_nil] at h1
      omega
theorem dirs_sz {run lib : ByteArray} {sec : Bool} (hr : run.size ≤ 4294967296) (hlb : lib.size ≤ 4294967296) {x : ByteArray} (h : x ∈ Se.dirs run lib sec) : x.size ≤ 4294967297 := by
  have h1 : run.data.toList.length = run.size := by simp
  have h2 : lib.data.toList.length = lib.size := by simp
  have hlibs : ∀ x ∈ Se.libs, x.size ≤ 8 := by decide
  have key : x ∈ Ev.list run.data.toList ∨ x ∈ Ev.list lib.data.toList ∨ x ∈ Se.libs := by
    cases sec with
    | true => rw [Se.dirs_true] at h; rcases List.mem_append.1 h with h | h; exact .inl h; exact .inr (.inr h)
    | false => rw [Se.dirs_false] at h; rcases List.mem_append.1 h with h | h; exact .inl h; rcases List.mem_append.1 h with h | h; exact .inr (.inl h); exact .inr (.inr h)
  rcases key with h | h | h
  · have := list_sz h; omega
  · have := list_sz h; omega
  · have := hlibs x h; omega
theorem dirs_len {run lib : ByteArray} {sec : Bool} (hr : run.size ≤ 4294967296) (hlb : lib.size ≤ 4294967296) : 2 ≤ (Se.dirs run lib sec).length ∧ (Se.dirs run lib sec).length ≤ 8589934600 := by
  have h1 : run.data.toList.length = run.size := by simp
  have h2 : lib.data.toList.length = lib.size := by simp
  have h3 := list_len run.data.toList
  have h4 := list_len lib.data.toList
  have h5 : Se.libs.length = 2 := rfl
  cases sec with
  | true => rw [Se.dirs_true, List.length_append, h5]; omega
  | false => rw [Se.dirs_false, List.length_append, List.length_append, h5]; omega
/-- What the row holds while it is joined. -/
def joinsAt (l : List ByteArray) (name : ByteArray) (k : Nat) : List ByteArray := (l.take k).map (fun d => Pth.joinB d name) ++ l.drop k
theorem joinsAt_zero (l : List ByteArray) (name : ByteArray) : joinsAt l name 0 = l := by simp [joinsAt]
theorem joinsAt_all {l : List ByteArray} {name : ByteArray} {k : Nat} (h : l.length ≤ k) : joinsAt l name k = l.map fun d => Pth.joinB d name := by
  unfold joinsAt
  rw [List.take_of_length_le h, List.drop_of_length_le h, List.append_nil]
theorem joinsAt_at {l : List ByteArray} {name x : ByteArray} {k : Nat} (h : l[k]? = some x) : (joinsAt l name k)[k]? = some x := by
  have hk := (List.getElem?_eq_some_iff.1 h).1
  unfold joinsAt
  rw [List.getElem?_append_right (by simp; omega), List.length_map, List.length_take, Nat.min_eq_left (by omega), Nat.sub_self, List.getElem?_drop, Nat.add_zero]
  exact h
theorem joinsAt_set {l : List ByteArray} {name x : ByteArray} {k : Nat} (h : l[k]? = some x) : (joinsAt l name k).set k (Pth.joinB x name) = joinsAt l name (k + 1) := by
  obtain ⟨hk, hx⟩ := List.getElem?_eq_some_iff.1 h
  unfold joinsAt
  rw [List.set_append, if_neg (by simp; omega), List.length_map, List.length_take, Nat.min_eq_left (by omega), Nat.sub_self, List.drop_eq_getElem_cons hk, List.set_cons_zero, List.take_add_one, h]
  simp

set_option maxRecDepth 100000 in
set_option maxHeartbeats 4000000 in
theorem paths_any (name run lib : ByteArray) (sec : Bool) (w : World) (hn : name.size ≤ 4294967296) (hr : run.size ≤ 4294967296) (hlb : lib.size ≤ 4294967296) :
    Calls Tryd.prog 11 #[.string name, .string run, .string lib, .bool sec] w (TxE (Se.paths name run lib sec) w) := by
  have KC := hide (Tryd.strings_Contains_one name 47 w)
  have KD := hide (dirs_any run lib sec w hr hlb)
  have hdl := dirs_len (sec := sec) hr hlb
  have hds : ∀ x ∈ Se.dirs run lib sec, x.size ≤ 4294967297 := fun x hx => dirs_sz hr hlb hx
  have hib := ib_has name.data.toList 47
  by_cases hc : name.data.toList.contains 47 = true
  · have hp : Se.paths name run lib sec = [name] := by unfold Se.paths; rw [if_pos hc]
    rw [hc] at hib
    rw [hib] at KC
    rw [hp]
    have hb0 := (Below.refl w.heap.size w).alloc (Nat.le_refl _) (.cells #[.string name] 9)
    have ho0 : (w.alloc (.cells #[.string name] 9)).ownsRow w.heap.size 9 1 (.slice (some ⟨w.heap.size, 0, none⟩) 1 1) 1 [.string name] :=
      ⟨rfl, .inr ⟨w.heap.size, 1, #[.string name], rfl, Nat.le_refl _, heap_alloc_new _ _, Nat.le_refl _, by unfold maxLen; omega, rfl, rfl⟩⟩
    have Hb0 := hide hb0
    have Ho0 := hide ho0
    clear hdl hds hib hc hp hb0 ho0 KD
    go_enter Tryd.func11, Tryd.ntmps11
    go_wp2_with fail
    refine (unhide KC).mono ?_
    rintro e w1 ⟨rfl, rfl⟩
    go_wp2_with fail
    go_ret
    exact ⟨_, _, rfl, unhide Ho0, unhide Hb0⟩
  · have hp : Se.paths name run lib sec = (Se.dirs run lib sec).map fun d => Pth.joinB d name := by unfold Se.paths; rw [if_neg hc]
    have hcf : name.data.toList.contains 47 = false := by simpa using hc
    rw [hcf] at hib
    rw [hib] at KC
    obtain ⟨L, hL⟩ : ∃ L, Se.dirs run lib sec = L := ⟨_, rfl⟩
    rw [hL] at hp hds hdl KD
    obtain ⟨n, hln⟩ : ∃ n, L.length = n := ⟨_, rfl⟩
    unfold TxE at KD
    rw [hln] at KD hdl
    have hpl : ((L.map fun d => Pth.joinB d name).length = n) := by rw [List.length_map, hln]
    rw [hp]
    unfold TxE
    rw [hpl]
    have Hds := hide hds
    have Hln := hide hln
    clear hp hds hib hc hL hln hpl hcf
    go_enter Tryd.func11, Tryd.ntmps11
    go_wp2_with fail
    refine (unhide KC).mono ?_
    rintro e w1 ⟨rfl, rfl⟩
    go_wp2_with fail
    refine (unhide KD).mono ?_
    rintro e w2 ⟨A2, c2, rfl, ho2, hb2⟩
    obtain ⟨g, rfl, hg, _⟩ := own_some ho2 (by omega)
    have Ho2 := hide ho2
    have Hb2 := hide hb2
    clear ho2 hb2 KD KC
    go_wp2_with fail
    go_loopg [22] n (fun gk iv wr => ∃ k : Nat, gk = n - k ∧ k ≤ n ∧ iv = .int .i64 k ∧ wr.ownsRow w1.heap.size 9 1 (.slice (some ⟨g, 0, none⟩) n c2) n ((joinsAt L name k).map Value.string) ∧ Below w1.heap.size w1 wr)
    case atStart => exact ⟨0, by omega, Nat.zero_le _, rfl, by rw [joinsAt_zero]; exact unhide Ho2, unhide Hb2⟩
    case round =>
    obtain ⟨k, hgk, hk, rfl, ho, hb⟩ := hrel
    have Hgk := hide hgk
    have Ho := hide ho
    have Hb := hide hb
    clear hgk ho hb
    by_cases hlt : k < n
    · obtain ⟨x, hx⟩ : ∃ x, L[k]? = some x := ⟨_, List.getElem?_eq_getElem (by rw [unhide Hln]; exact hlt)⟩
      have hxs := (unhide Hds) x (List.mem_of_getElem? hx)
      have hat := joinsAt_at (name := name) hx
      have hcell : wr.cell? ⟨g, k, none⟩ = some (.string x) := own_cell (unhide Ho) (by rw [List.getElem?_map, hat]; rfl)
      have hfr : wr.frozen? ⟨g, k, none⟩ = false := own_free (unhide Ho) k
      have KJ := hide (join_any x name (by omega) (by omega) wr)
      have ho3 : (wr.setCell ⟨g, k, none⟩ (.string (Pth.joinB x name))).ownsRow w1.heap.size 9 1 (.slice (some ⟨g, 0, none⟩) n c2) n ((joinsAt L name (k + 1)).map Value.string) := by
        have := own_set (i := k) (unhide Ho) (.string (Pth.joinB x name))
        rwa [← List.map_set, joinsAt_set hx] at this
      have hb3 := (unhide Hb).setCell (p := ⟨g, k, none⟩) hg (.string (Pth.joinB x name))
      have Ho3 := hide ho3
      have Hb3 := hide hb3
      have ilt : (k : Int) < (n : Int) := by omega
      clear hx hat ho3 hb3
      go_wp2_with fail
      refine (unhide KJ).mono ?_
      rintro e w4 ⟨rfl, rfl⟩
      go_wp2_with fail
      go_roundg (n - (k + 1))
      case measure => have := unhide Hgk; omega
      case rel => exact ⟨k + 1, rfl, by omega, by go_num, unhide Ho3, unhide Hb3⟩
    · have hall := joinsAt_all (l := L) (name := name) (k := k) (by have := unhide Hln; omega)
      have ho := unhide Ho
      rw [hall] at ho
      have Ho3 := hide ho
      have ige : ¬ (k : Int) < (n : Int) := by omega
      clear ho hall
      go_wp2_with fail
      go_ret
      exact ⟨_, _, rfl, by rw [← List.map_map]; exact unhide Ho3, unhide Hb⟩

set_option maxRecDepth 100000 in
set_option maxHeartbeats 4000000 in
theorem rdirs_any (run lib : ByteArray) (sec : Bool) (w : World) (hr : run.size ≤ 4294967296) (hlb : lib.size ≤ 4294967296) : Calls Tryd.prog 13 #[.string run, .string lib, .bool sec] w (TxE (Se.dirs run lib sec) w) := by
  have kl1 := (rlist_any run w hr).mono fun e w' h => listE_tx h
  have kl2 := fun w' => (rlist_any lib w' hlb).mono fun e w2 h => listE_tx h
  have hlr := list_len run.data.toList
  have hll := list_len lib.data.toList
  have hrs : run.data.toList.length = run.size := by simp
  have hls : lib.data.toList.length = lib.size := by simp
  obtain ⟨L1, hL1⟩ : ∃ L, Ev.list run.data.toList = L := ⟨_, rfl⟩
  obtain ⟨L2, hL2⟩ : ∃ L, Ev.list lib.data.toList = L := ⟨_, rfl⟩
  have hd1 : Se.dirs run lib true = L1 ++ Se.libs := by rw [Se.dirs_true, hL1]
  have hd2 : Se.dirs run lib false = L1 ++ (L2 ++ Se.libs) := by rw [Se.dirs_false, hL1, hL2]
  rw [hL1] at kl1 hlr
  rw [hL2] at kl2 hll
  obtain ⟨n1, hn1⟩ : ∃ n, L1.length = n := ⟨_, rfl⟩
  obtain ⟨n2, hn2⟩ : ∃ n, L2.length = n := ⟨_, rfl⟩
  unfold TxE at kl1 kl2
  rw [hn1] at kl1
  rw [hn2] at kl2
  have hb1 : n1 ≤ 4294967297 := by omega
  have hb2 : n2 ≤ 4294967297 := by omega
  have hlen1 : (L1 ++ Se.libs).length = n1 + 2 := by rw [List.length_append, hn1]; rfl
  have hlen2 : (L1 ++ (L2 ++ Se.libs)).length = n1 + n2 + 2 := by rw [List.length_append, List.length_append, hn1, hn2]; show n1 + (n2 + 2) = _; omega
  have Hlen1 := hide hlen1
  have Hlen2 := hide hlen2
  have D1 := hide hd1
  have D2 := hide hd2
  have K1 := hide kl1
  have K2 := hide kl2
  clear hlr hll hrs hls hL1 hL2 hd1 hd2 hn1 hn2 hlen1 hlen2 kl1 kl2
  go_enter Tryd.func13, Tryd.ntmps13
  go_wp2_with fail
  refine (unhide K1).mono ?_
  rintro e w1 ⟨A1, c1, rfl, ho1, hb1'⟩
  have Ho1 := hide ho1
  have Hb1 := hide hb1'
  have hsz1 := hb1'.size
  clear ho1 hb1'
  cases sec with
  | true =>
    go_wp2_with (at_builtin; refine wpList_app strTy rfl _ _ rfl w.heap.size (.slice A1 n1 c1) n1 (L1.map Value.string) rfl ((unhide Ho1).alloc _) _ _ 2 2 (Se.libs.map Value.string) rfl (Rd.rowF (cs := #[.string ⟨#[47, 108, 105, 98]⟩, .string ⟨#[47, 117, 115, 114, 47, 108, 105, 98]⟩]) (n := 2) rfl) (str_one _) (by omega) (by simp; omega) ?_; intro A3 c3 w3 ho3 hg3 hat3; have hb3 := ((unhide Hb1).alloc hsz1 (.cells #[.string ⟨#[47, 108, 105, 98]⟩, .string ⟨#[47, 117, 115, 114, 47, 108, 105, 98]⟩] 9)).grown hg3 (by simp; omega) (fun k' hk' => ((unhide Ho1).lt k' hk').1); have Ho3 := hide ho3; have Hb3 := hide hb3; clear ho3 hg3 hat3 hb3)
    go_ret
    unfold TxE
    rw [unhide D1, unhide Hlen1, List.map_append]
    exact ⟨A3, c3, rfl, unhide Ho3, unhide Hb3⟩
  | false =>
    go_wp2_with fail
    refine ((unhide K2) _).mono ?_
    rintro e w2 ⟨A2, c2, rfl, ho2, hb2'⟩
    have Ho1' := hide (own_below (unhide Ho1) hb2')
    have Hr2 := hide (Rd.of_own ho2)
    have Hb2 := hide ((unhide Hb1).trans (hb2'.mono hsz1))
    have hsz2 := (unhide Hb2).size
    clear ho2 hb2' Ho1
    go_wp2_with (first
      | (at_builtin; refine wpList_app strTy rfl _ _ rfl w.heap.size (.slice A1 n1 c1) n1 (L1.map Value.string) rfl (unhide Ho1') _ A2 n2 c2 (L2.map Value.string) rfl (unhide Hr2) (str_one _) (by omega) hsz2 ?_; intro A4 c4 w4 ho4 hg4 hat4; have hb4 := (unhide Hb2).grown hg4 hsz2 (fun k' hk' => ((unhide Ho1').lt k' hk').1); have hsz4 := hb4.size; have Ho4 := hide ho4; have Hb4 := hide hb4; clear ho4 hg4 hat4 hb4)
      | (at_builtin; refine wpList_app strTy rfl _ _ rfl w.heap.size (.slice A4 (n1 + n2) c4) (n1 + n2) (L1.map Value.string ++ L2.map Value.string) rfl ((unhide Ho4).alloc _) _ _ 2 2 (Se.libs.map Value.string) rfl (Rd.rowF (cs := #[.string ⟨#[47, 108, 105, 98]⟩, .string ⟨#[47, 117, 115, 114, 47, 108, 105, 98]⟩]) (n := 2) rfl) (str_one _) (by omega) (by simp; omega) ?_; intro A3 c3 w3 ho3 hg3 hat3; have hb3 := ((unhide Hb4).alloc hsz4 (.cells #[.string ⟨#[47, 108, 105, 98]⟩, .string ⟨#[47, 117, 115, 114, 47, 108, 105, 98]⟩] 9)).grown hg3 (by simp; omega) (fun k' hk' => ((unhide Ho4).lt k' hk').1); have Ho3 := hide ho3; have Hb3 := hide hb3; clear ho3 hg3 hat3 hb3))
    go_ret
    unfold TxE
    rw [unhide D2, unhide Hlen2, List.map_append, List.map_append, ← List.append_assoc]
    exact ⟨A3, c3, rfl, unhide Ho3, unhide Hb3⟩

set_option maxRecDepth 100000 in
set_option maxHeartbeats 4000000 in
theorem rpaths_any (name run lib : ByteArray) (sec : Bool) (w : World) (hn : name.size ≤ 4294967296) (hr : run.size ≤ 4294967296) (hlb : lib.size ≤ 4294967296) :
    Calls Tryd.prog 14 #[.string name, .string run, .string lib, .bool sec] w (TxE (Se.paths name run lib sec) w) := by
  have KD := hide (rdirs_any run lib sec w hr hlb)
  have hdl := dirs_len (sec := sec) hr hlb
  have hds : ∀ x ∈ Se.dirs run lib sec, x.size ≤ 4294967297 := fun x hx => dirs_sz hr hlb hx
  have hb0 := (Below.refl w.heap.size w).alloc (Nat.le_refl _) (.cells #[.string name] 9)
  have ho0 : (w.alloc (.cells #[.string name] 9)).ownsRow w.heap.size 9 1 (.slice (some ⟨w.heap.size, 0, none⟩) 1 1) 1 [.string name] :=
    ⟨rfl, .inr ⟨w.heap.size, 1, #[.string name], rfl, Nat.le_refl _, heap_alloc_new _ _, Nat.le_refl _, by unfold maxLen; omega, rfl, rfl⟩⟩
  have hp1 : name.data.toList.contains 47 = true → Se.paths name run lib sec = [name] := fun hc => by unfold Se.paths; rw [if_pos hc]
  have hp2 : name.data.toList.contains 47 = false → Se.paths name run lib sec = (Se.dirs run lib sec).map fun d => Pth.joinB d name := fun hc => by unfold Se.paths; rw [if_neg (by rw [hc]; simp)]
  obtain ⟨P, hP⟩ : ∃ P, Se.paths name run lib sec = P := ⟨_, rfl⟩
  rw [hP] at hp1 hp2 ⊢
  obtain ⟨L, hL⟩ : ∃ L, Se.dirs run lib sec = L := ⟨_, rfl⟩
  rw [hL] at hp2 hds hdl KD
  obtain ⟨n, hln⟩ : ∃ n, L.length = n := ⟨_, rfl⟩
  unfold TxE at KD
  rw [hln] at KD hdl
  have Hb0 := hide hb0
  have Ho0 := hide ho0
  have Hds := hide hds
  have Hln := hide hln
  have Hp1 := hide hp1
  have Hp2 := hide hp2
  clear hds hln hb0 ho0 hp1 hp2 hP hL
  go_enter Tryd.func14, Tryd.ntmps14
  go_wp2_with fail
  go_loopg [9] name.size (fun gk iv wr => ∃ k : Nat, gk = name.size - k ∧ k ≤ name.size ∧ iv = .int .i64 k ∧ (name.data.toList.take k).contains 47 = false ∧ w = wr)
  case atStart => exact ⟨0, by omega, Nat.zero_le _, rfl, by simp, rfl⟩
  case round =>
  obtain ⟨k, hgk, hk, rfl, hz, rfl⟩ := hrel
  have Hz := hide hz
  have Hgk := hide hgk
  clear hz hgk
  by_cases hlt : k < name.size
  · by_cases hc : name[k] = 47
    · have b2 : (((name[k].toNat : Nat) : Int) == 47) = true := by rw [byte_47]; simpa using hc
      have hm : name.data.toList.contains 47 = true := by
        rw [List.contains_iff_mem, ← hc]
        exact Array.getElem_mem_toList _
      have hpp := (unhide Hp1) hm
      have Hpp := hide hpp
      clear hc hm hpp
      go_wp2_with fail
      go_ret
      rw [unhide Hpp]
      exact ⟨_, _, rfl, unhide Ho0, unhide Hb0⟩
    · have b2 : (((name[k].toNat : Nat) : Int) == 47) = false := by rw [byte_47]; simpa using hc
      have hz : (name.data.toList.take (k + 1)).contains 47 = false := by
        rw [List.take_succ_eq_append_getElem (by simpa using hlt), List.contains_append, unhide Hz]
        simp only [Bool.false_or]
        exact by simpa using fun h => hc h.symm
      have Hz2 := hide hz
      clear hz hc
      go_wp2_with fail
      go_roundg (name.size - (k + 1))
      case measure => have := unhide Hgk; omega
      case rel => exact ⟨k + 1, rfl, by omega, by go_num, unhide Hz2, rfl⟩
  · have hz : name.data.toList.contains 47 = false := by
      have := unhide Hz
      rwa [List.take_of_length_le (by simp; omega)] at this
    have hpp := (unhide Hp2) hz
    have Hpp := hide hpp
    have ige : ¬ (k : Int) < (name.size : Int) := by omega
    clear hz hpp
    go_wp2_with fail
    refine (unhide KD).mono ?_
    rintro e w2 ⟨A2, c2, rfl, ho2, hb2⟩
    obtain ⟨g, rfl, hg, _⟩ := own_some ho2 (by omega)
    have Ho2 := hide ho2
    have Hb2 := hide hb2
    clear ho2 hb2 KD
    go_wp2_with fail
    go_loopg [11] n (fun gk iv wr => ∃ k : Nat, gk = n - k ∧ k ≤ n ∧ iv = .int .i64 k ∧ wr.ownsRow w.heap.size 9 1 (.slice (some ⟨g, 0, none⟩) n c2) n ((joinsAt L name k).map Value.string) ∧ Below w.heap.size w wr)
    case atStart => exact ⟨0, by omega, Nat.zero_le _, rfl, by rw [joinsAt_zero]; exact unhide Ho2, unhide Hb2⟩
    case round =>
    obtain ⟨j, hgk, hj, rfl, ho, hb⟩ := hrel
    have Hgk2 := hide hgk
    have Ho := hide ho
    have Hb := hide hb
    clear hgk ho hb
    by_cases hlt2 : j < n
    · obtain ⟨x, hx⟩ : ∃ x, L[j]? = some x := ⟨_, List.getElem?_eq_getElem (by rw [unhide Hln]; exact hlt2)⟩
      have hxs := (unhide Hds) x (List.mem_of_getElem? hx)
      have hat := joinsAt_at (name := name) hx
      have hcell : wr.cell? ⟨g, j, none⟩ = some (.string x) := own_cell (unhide Ho) (by rw [List.getElem?_map, hat]; rfl)
      have hfr : wr.frozen? ⟨g, j, none⟩ = false := own_free (unhide Ho) j
      have KJ := hide (rjoin_any x name (by omega) (by omega) wr)
      have ho3 : (wr.setCell ⟨g, j, none⟩ (.string (Pth.joinB x name))).ownsRow w.heap.size 9 1 (.slice (some ⟨g, 0, none⟩) n c2) n ((joinsAt L name (j + 1)).map Value.string) := by
        have := own_set (i := j) (unhide Ho) (.string (Pth.joinB x name))
        rwa [← List.map_set, joinsAt_set hx] at this
      have hb3 := (unhide Hb).setCell (p := ⟨g, j, none⟩) hg (.string (Pth.joinB x name))
      have Ho3 := hide ho3
      have Hb3 := hide hb3
      have ilt : (j : Int) < (n : Int) := by omega
      clear hx hat ho3 hb3
      go_wp2_with fail
      refine (unhide KJ).mono ?_
      rintro e w4 ⟨rfl, rfl⟩
      go_wp2_with fail
      go_roundg (n - (j + 1))
      case measure => have := unhide Hgk2; omega
      case rel => exact ⟨j + 1, rfl, by omega, by go_num, unhide Ho3, unhide Hb3⟩
    · have hall := joinsAt_all (l := L) (name := name) (k := j) (by have := unhide Hln; omega)
      have ho := unhide Ho
      rw [hall] at ho
      have Ho3 := hide ho
      have ige2 : ¬ (j : Int) < (n : Int) := by omega
      clear ho hall
      go_wp2_with fail
      go_ret
      unfold TxE
      rw [unhide Hpp, List.length_map, unhide Hln]
      exact ⟨_, _, rfl, unhide Ho3, unhide Hb⟩
end Go.Proofs.YtchmdpkjipaafaaDoor
namespace Go.Proofs.YtchmdpkjipaafaaDoor
set_option linter.unusedVariables false
set_option linter.unusedSimpArgs false
open Go.RowKit

/-- Where a node lies: its block; a directory's map, a file's bytes. -/
structure Pl where
  q : Nat
  g : Nat
  A : Option Addr
  n : Nat
  c : Nat
def ptrV (q : Nat) : Value := .pointer (some ⟨q, 0, none⟩)
def kindT (k : Nat) : TypeId := if k = 2 then 68 else if k = 1 then 107 else 110
def blkT (k : Nat) : TypeId := if k = 2 then 73 else if k = 1 then 109 else 112
/-- A node as an interface's value. -/
def ndV (x : Vf.Nd) (p : Pl) : Value := .iface (kindT x.m.kind) (ptrV p.q)
def lastV (x : Vf.Nd) (p : Pl) : Value := if x.m.kind = 2 then .map (some p.g) else if x.m.kind = 1 then .slice p.A p.n p.c else .string x.to
/-- A node's cells: up is the block of its directory. -/
def ndC (x : Vf.Nd) (i up : Nat) (p : Pl) : List Value := [.int .u8 (x.m.kind : Nat), .int .u16 (x.m.mode : Nat), .int .u32 (x.m.uid : Nat), .int .u32 (x.m.gid : Nat), .int .i64 (x.m.size : Nat), .int .i64 (i : Nat), ptrV up, .string x.name, lastV x p]
/-- A directory's entries, in the order of their numbers. -/
def kidsM (F : List Vf.Nd) (L : List Pl) (d : Nat) : List (Value × Value) := ((F.zip L).drop 1).filterMap fun y => if y.1.up = d then some (.string y.1.name, ndV y.1 y.2) else none
/-- A file system that can be read: F its nodes, L where they lie, f its own block; all below B. -/
structure FsR (w : World) (B f : Nat) (A : Option Addr) (c : Nat) (F : List Vf.Nd) (L : List Pl) : Prop where
  len : L.length = F.length
  lt : f < B
  fs : Blk w f 76 [.slice A F.length c]
  row : Rd w B 1 A F.length ((F.zip L).map fun y => ndV y.1 y.2)
  nd : ∀ (i : Nat) (x : Vf.Nd) (p : Pl), F[i]? = some x → L[i]? = some p → p.q < B ∧ ∃ u, L[x.up]? = some u ∧ Blk w p.q (blkT x.m.kind) (ndC x i u.q p)
  byt : ∀ (i : Nat) (x : Vf.Nd) (p : Pl), F[i]? = some x → L[i]? = some p → x.m.kind = 1 → p.n = x.data.length ∧ Rd w B 1 p.A p.n (x.data.map fun b => Value.int .u8 (b.toNat : Nat))
theorem FsR.at_ {w : World} {B f : Nat} {A : Option Addr} {c : Nat} {F : List Vf.Nd} {L : List Pl} (h : FsR w B f A c F L) {i : Nat} (hi : i < F.length) : ∃ x p, F[i]? = some x ∧ L[i]? = some p ∧ ((F.zip L).map fun y => ndV y.1 y.2)[i]? = some (ndV x p) := by
  have hl : i < L.length := by rw [h.len]; exact hi
  refine ⟨F[i], L[i], List.getElem?_eq_getElem hi, List.getElem?_eq_getElem hl, ?_⟩
  rw [List.getElem?_map, List.getElem?_eq_getElem (by rw [List.length_zip]; omega), List.getElem_zip]
  rfl
theorem FsR.drewN {w : World} {B f : Nat} {A : Option Addr} {c : Nat} {F : List Vf.Nd} {L : List Pl} (h : FsR w B f A c F L) (j : Nat) : FsR (w.drewN j) B f A c F L := ⟨h.len, h.lt, h.fs, h.row.drewN j, h.nd, fun i x p h1 h2 h3 => ⟨(h.byt i x p h1 h2 h3).1, (h.byt i x p h1 h2 h3).2.drewN j⟩⟩
theorem FsR.below {w w' : World} {B f : Nat} {A : Option Addr} {c : Nat} {F : List Vf.Nd} {L : List Pl} (h : FsR w B f A c F L) (hb : Below B w w') : FsR w' B f A c F L :=
  ⟨h.len, h.lt, h.fs.below hb h.lt, h.row.below hb, fun i x p h1 h2 => by
    obtain ⟨a, u, b, d⟩ := h.nd i x p h1 h2
    exact ⟨a, u, b, d.below hb a⟩, fun i x p h1 h2 h3 => ⟨(h.byt i x p h1 h2 h3).1, (h.byt i x p h1 h2 h3).2.below hb⟩⟩
/-- What node answers. -/
def nodeV (F : List Vf.Nd) (L : List Pl) (ino : Int) : Value := if ino < 0 ∨ F.length ≤ ino.toNat then .nilIface else ((F.zip L).map fun y => ndV y.1 y.2)[ino.toNat]?.getD .nilIface

theorem node_any (F : List Vf.Nd) (L : List Pl) (f c B : Nat) (A : Option Addr) (ino : Int) (w : World) (h : FsR w B f A c F L) (hn : F.length ≤ 65) :
    Calls Tryd.prog 42 #[ptrV f, .int .i64 ino] w fun e w' => e = .returned (nodeV F L ino) ∧ w = w' := by
  have H := hide h
  have v0 := h.fs.cell (i := 0) rfl
  obtain ⟨n, hfn⟩ : ∃ n, F.length = n := ⟨_, rfl⟩
  rw [hfn] at v0 hn
  have Hfn := hide hfn
  clear h hfn
  unfold ptrV
  obtain ⟨r, hr⟩ : ∃ r, nodeV F L ino = r := ⟨_, rfl⟩
  rw [hr]
  have Hr := hide hr
  clear hr
  by_cases h0 : ino < 0
  · have hr : r = .nilIface := by rw [← unhide Hr]; unfold nodeV; rw [if_pos (.inl h0)]
    go_enter Tryd.func42, Tryd.ntmps42
    go_wp2_with fail
    go_ret
    subst hr
    exact ⟨rfl, rfl⟩
  · obtain ⟨i, rfl⟩ := Int.eq_ofNat_of_zero_le (show 0 ≤ ino by omega)
    by_cases h1 : i < n
    · obtain ⟨x, p, hx, hp, hv⟩ := (unhide H).at_ (i := i) (by rw [unhide Hfn]; exact h1)
      have hr : r = ndV x p := by
        rw [← unhide Hr]
        unfold nodeV
        rw [if_neg (by rw [unhide Hfn]; simp; omega)]
        simp only [Int.toNat_natCast]
        rw [hv]
        rfl
      obtain ⟨b3, o3, rfl, _, c3⟩ := (unhide H).row.at_ (k := i) hv
      have i1 : (i : Int) < (n : Int) := by omega
      have i2 : ¬ (n : Int) ≤ (i : Int) := by omega
      clear hx hp hv
      rw [hr]
      generalize ndV x p = z at *
      clear hr Hr
      go_enter Tryd.func42, Tryd.ntmps42
      go_wp2_with fail
      go_ret
      exact ⟨rfl, rfl⟩
    · have hr : r = .nilIface := by rw [← unhide Hr]; unfold nodeV; rw [if_pos (.inr (by rw [unhide Hfn]; simp; omega))]
      have i2 : (n : Int) ≤ (i : Int) := by omega
      go_enter Tryd.func42, Tryd.ntmps42
      go_wp2_with fail
      go_ret
      subst hr
      exact ⟨rfl, rfl⟩
end Go.Proofs.YtchmdpkjipaafaaDoor
namespace Go.Proofs.YtchmdpkjipaafaaDoor
set_option linter.unusedVariables false
set_option linter.unusedSimpArgs false
open Go.RowKit

/-- 'n.about()' through the interface: the base's own method, whatever the node (258: the table's types and Made.depth). -/
theorem about_dir (w : World) (q : Nat) : (method 258 68 (.pointer (some ⟨q, 0, none⟩)) "hostel/vfs.about").run Tryd.prog w = .ok (100, .pointer (some ⟨q, 0, none⟩)) w := by kernel_rfl
theorem about_file (w : World) (q : Nat) : (method 258 107 (.pointer (some ⟨q, 0, none⟩)) "hostel/vfs.about").run Tryd.prog w = .ok (100, .pointer (some ⟨q, 0, none⟩)) w := by kernel_rfl
theorem about_link (w : World) (q : Nat) : (method 258 110 (.pointer (some ⟨q, 0, none⟩)) "hostel/vfs.about").run Tryd.prog w = .ok (100, .pointer (some ⟨q, 0, none⟩)) w := by kernel_rfl
theorem about_any (a : Addr) (w : World) : Calls Tryd.prog 100 #[.pointer (some a)] w fun e w' => e = .returned (.pointer (some a)) ∧ w = w' := by
  go_enter Tryd.func100, Tryd.ntmps100
  go_wp2_with fail
  go_ret
  exact ⟨rfl, rfl⟩
theorem ndCells {w : World} {x : Vf.Nd} {i up : Nat} {p : Pl} {t : TypeId} (h : Blk w p.q t (ndC x i up p)) : w.cell? ⟨p.q, 0, none⟩ = some (.int .u8 (x.m.kind : Nat)) ∧ w.cell? ⟨p.q, 1, none⟩ = some (.int .u16 (x.m.mode : Nat)) ∧ w.cell? ⟨p.q, 2, none⟩ = some (.int .u32 (x.m.uid : Nat)) ∧ w.cell? ⟨p.q, 3, none⟩ = some (.int .u32 (x.m.gid : Nat)) ∧ w.cell? ⟨p.q, 4, none⟩ = some (.int .i64 (x.m.size : Nat)) :=
  ⟨h.cell rfl, h.cell rfl, h.cell rfl, h.cell rfl, h.cell rfl⟩
theorem metaInfo : (Tryd.prog.info? 56).map (·.size) = some 5 := by kernel_rfl
theorem meta_nil (ino : Int) (w : World) : Calls Tryd.prog 25 #[.pointer none, .int .i64 ino] w fun e w' => e = .returned (.tuple #[metaV Vf.zeroMeta, .int .i64 2]) ∧ Below w.heap.size w w' := by
  go_enter Tryd.func25, Tryd.ntmps25
  go_wp2_with fail
  refine bodyPost_ret (results_cell_tmp (P := Tryd.prog) rfl _ _ w.heap.size 56 #[.int .u8 0, .int .u16 0, .int .u32 0, .int .u32 0, .int .i64 0] (0, 0) _ rfl (heap_alloc_new _ _) Tryd.underlying56 rfl metaInfo) rfl ?_
  exact ⟨rfl, (Below.refl w.heap.size w).alloc (Nat.le_refl _) _⟩
set_option maxRecDepth 100000 in
theorem meta_any (F : List Vf.Nd) (L : List Pl) (f c B : Nat) (A : Option Addr) (ino : Int) (w : World) (h : FsR w B f A c F L) (hB : B ≤ w.heap.size) (hn : F.length ≤ 65) (hkd : ∀ (i : Nat) (x : Vf.Nd), F[i]? = some x → 1 ≤ x.m.kind ∧ x.m.kind ≤ 3) :
    Calls Tryd.prog 25 #[ptrV f, .int .i64 ino] w fun e w' => e = .returned (.tuple #[metaV (Vf.metaOf F ino).1, .int .i64 (Vf.metaOf F ino).2]) ∧ Below w.heap.size w w' := by
  have K : ∀ w', Below w.heap.size w w' → Calls Tryd.prog 42 #[.pointer (some ⟨f, 0, none⟩), .int .i64 ino] w' fun e w2 => e = .returned (nodeV F L ino) ∧ w' = w2 :=
    fun w' hb => node_any F L f c B A ino w' (h.below (hb.mono hB)) hn
  obtain ⟨⟨rm, re⟩, hr⟩ : ∃ r, Vf.metaOf F ino = r := ⟨_, rfl⟩
  rw [hr]
  dsimp only
  have Hr := hide hr
  clear hr
  have HK := hide K
  have H := hide h
  clear h K
  unfold ptrV
  have qn : ∀ w', (binOp .eql 91 .nilIface .nilIface).run Tryd.prog w' = .ok (.bool true) w' := fun w' => by kernel_rfl
  have qi : ∀ w' t v, (binOp .eql 91 (.iface t v) .nilIface).run Tryd.prog w' = .ok (.bool false) w' := fun w' t v => by kernel_rfl
  have HB := hide ((Below.refl w.heap.size w).alloc (Nat.le_refl _) (.cells #[.int .u8 0, .int .u16 0, .int .u32 0, .int .u32 0, .int .i64 0] 56))
  go_enter Tryd.func25, Tryd.ntmps25
  go_wp2_with fail
  refine ((unhide HK) _ (unhide HB)).mono ?_
  rintro e w2 ⟨rfl, rfl⟩
  by_cases ho : ino < 0 ∨ F.length ≤ ino.toNat
  · have e1 : nodeV F L ino = .nilIface := by unfold nodeV; rw [if_pos ho]
    have e2 : Vf.metaOf F ino = (Vf.zeroMeta, 3) := by unfold Vf.metaOf; rw [if_pos ho]
    rw [e1]
    obtain ⟨rfl, rfl⟩ := Prod.mk.inj ((unhide Hr).symm.trans e2)
    clear e1 e2 ho
    go_wp2_with fail
    refine bodyPost_ret (results_cell_tmp (P := Tryd.prog) rfl _ _ w.heap.size 56 #[.int .u8 0, .int .u16 0, .int .u32 0, .int .u32 0, .int .i64 0] (0, 0) _ rfl (heap_alloc_new _ _) Tryd.underlying56 rfl metaInfo) rfl ?_
    exact ⟨rfl, unhide HB⟩
  · obtain ⟨i, rfl⟩ := Int.eq_ofNat_of_zero_le (show 0 ≤ ino by omega)
    have hi : i < F.length := by simp at ho; omega
    obtain ⟨x, p, hx, hp, hv⟩ := (unhide H).at_ hi
    obtain ⟨hq, u, hu, hk⟩ := (unhide H).nd i x p hx hp
    have e1 : nodeV F L (i : Nat) = ndV x p := by
      unfold nodeV
      rw [if_neg ho]
      simp only [Int.toNat_natCast]
      rw [hv]
      rfl
    have e2 : Vf.metaOf F (i : Nat) = (x.m, 0) := by
      unfold Vf.metaOf Vf.nd
      rw [if_neg ho]
      simp only [Int.toNat_natCast]
      rw [hx]
      rfl
    rw [e1]
    obtain ⟨rfl, rfl⟩ := Prod.mk.inj ((unhide Hr).symm.trans e2)
    unfold ndV ptrV
    clear e1 e2 ho
    obtain ⟨k1, k3⟩ : 1 ≤ x.m.kind ∧ x.m.kind ≤ 3 := hkd i x hx
    rcases (show x.m.kind = 1 ∨ x.m.kind = 2 ∨ x.m.kind = 3 by omega) with h1 | h1 | h1
    · have et : kindT x.m.kind = 107 := by rw [h1]; rfl
      rw [et]
      have hm := fun w' => about_file w' p.q
      have hk2 := hk.below ((unhide HB).mono hB) hq
      obtain ⟨y0, y1, y2, y3, y4⟩ := ndCells hk2
      have Hn := hide h1
      clear hk hk2 et h1 k1 k3 hx hp hu hv hi
      go_wp2_with fail
      refine (about_any _ _).mono ?_
      rintro e w3 ⟨rfl, rfl⟩
      go_wp2_with fail
      refine bodyPost_ret (results_cell_tmp (P := Tryd.prog) rfl _ _ w.heap.size 56 #[.int .u8 (x.m.kind : Nat), .int .u16 (x.m.mode : Nat), .int .u32 (x.m.uid : Nat), .int .u32 (x.m.gid : Nat), .int .i64 (x.m.size : Nat)] (0, 0) _ rfl (heap_alloc_new _ _) Tryd.underlying56 rfl metaInfo) rfl ?_
      exact ⟨rfl, (Below.refl w.heap.size w).alloc (Nat.le_refl _) _⟩
    · have et : kindT x.m.kind = 68 := by rw [h1]; rfl
      rw [et]
      have hm := fun w' => about_dir w' p.q
      have hk2 := hk.below ((unhide HB).mono hB) hq
      obtain ⟨y0, y1, y2, y3, y4⟩ := ndCells hk2
      have Hn := hide h1
      clear hk hk2 et h1 k1 k3 hx hp hu hv hi
      go_wp2_with fail
      refine (about_any _ _).mono ?_
      rintro e w3 ⟨rfl, rfl⟩
      go_wp2_with fail
      refine bodyPost_ret (results_cell_tmp (P := Tryd.prog) rfl _ _ w.heap.size 56 #[.int .u8 (x.m.kind : Nat), .int .u16 (x.m.mode : Nat), .int .u32 (x.m.uid : Nat), .int .u32 (x.m.gid : Nat), .int .i64 (x.m.size : Nat)] (0, 0) _ rfl (heap_alloc_new _ _) Tryd.underlying56 rfl metaInfo) rfl ?_
      exact ⟨rfl, (Below.refl w.heap.size w).alloc (Nat.le_refl _) _⟩
    · have et : kindT x.m.kind = 110 := by rw [h1]; rfl
      rw [et]
      have hm := fun w' => about_link w' p.q
      have hk2 := hk.below ((unhide HB).mono hB) hq
      obtain ⟨y0, y1, y2, y3, y4⟩ := ndCells hk2
      have Hn := hide h1
      clear hk hk2 et h1 k1 k3 hx hp hu hv hi
      go_wp2_with fail
      refine (about_any _ _).mono ?_
      rintro e w3 ⟨rfl, rfl⟩
      go_wp2_with fail
      refine bodyPost_ret (results_cell_tmp (P := Tryd.prog) rfl _ _ w.heap.size 56 #[.int .u8 (x.m.kind : Nat), .int .u16 (x.m.mode : Nat), .int .u32 (x.m.uid : Nat), .int .u32 (x.m.gid : Nat), .int .i64 (x.m.size : Nat)] (0, 0) _ rfl (heap_alloc_new _ _) Tryd.underlying56 rfl metaInfo) rfl ?_
      exact ⟨rfl, (Below.refl w.heap.size w).alloc (Nat.le_refl _) _⟩
end Go.Proofs.YtchmdpkjipaafaaDoor
namespace Go.Proofs.YtchmdpkjipaafaaDoor
set_option linter.unusedVariables false
set_option linter.unusedSimpArgs false
open Go.RowKit

theorem walk_nil (c : Vf.Cred) (A : Option Addr) (n k : Nat) (src : Int) (path : ByteArray) (last : Bool) (w : World) : Calls Tryd.prog 24 #[.pointer none, credV c A n k, .int .i64 src, .string path, .bool last] w fun e w' => e = .returned (.tuple #[.int .i64 0, .int .i64 2]) ∧ Below w.heap.size w w' := by
  unfold credV
  go_enter Tryd.func24, Tryd.ntmps24
  go_wp2_with fail
  go_ret2
  exact ⟨rfl, (Below.refl _ _).alloc (Nat.le_refl _) _⟩
end Go.Proofs.YtchmdpkjipaafaaDoor
namespace Go.Proofs.YtchmdpkjipaafaaDoor
set_option linter.unusedVariables false
set_option linter.unusedSimpArgs false
open Go.RowKit

theorem as_dir (v : Value) (w : World) : (Instr.typeAssert (.iface 68 v) 91 68 false).run Tryd.prog w = .ok v w := by
  simp [Instr.typeAssert, run_underlying Tryd.underlying68, go_sem, Result.andThen]
theorem is_dir (v : Value) (w : World) : (Instr.typeAssert (.iface 68 v) 91 68 true).run Tryd.prog w = .ok (.tuple #[v, .bool true]) w := by
  simp [Instr.typeAssert, run_underlying Tryd.underlying68, go_sem, Result.andThen]
theorem zero_dir (w : World) : (zeroValue 68).run Tryd.prog w = .ok (.pointer none) w := by kernel_rfl
theorem file_no_dir (v : Value) (w : World) : (Instr.typeAssert (.iface 107 v) 91 68 true).run Tryd.prog w = .ok (.tuple #[.pointer none, .bool false]) w := by
  simp [Instr.typeAssert, run_underlying Tryd.underlying68, zero_dir, go_sem, Result.andThen]
theorem link_no_dir (v : Value) (w : World) : (Instr.typeAssert (.iface 110 v) 91 68 true).run Tryd.prog w = .ok (.tuple #[.pointer none, .bool false]) w := by
  simp [Instr.typeAssert, run_underlying Tryd.underlying68, zero_dir, go_sem, Result.andThen]
theorem nil_no_dir (w : World) : (Instr.typeAssert .nilIface 91 68 true).run Tryd.prog w = .ok (.tuple #[.pointer none, .bool false]) w := by
  simp [Instr.typeAssert, run_underlying Tryd.underlying68, zero_dir, go_sem, Result.andThen]
theorem root_any (F : List Vf.Nd) (L : List Pl) (f c B : Nat) (A : Option Addr) (w : World) (h : FsR w B f A c F L) (hn : F.length ≤ 65) (x : Vf.Nd) (p : Pl) (hx : F[0]? = some x) (hp : L[0]? = some p) (hk : x.m.kind = 2) :
    Calls Tryd.prog 44 #[ptrV f] w fun e w' => e = .returned (ptrV p.q) ∧ w = w' := by
  have hl : 0 < F.length := (List.getElem?_eq_some_iff.1 hx).1
  obtain ⟨x', p', hx', hp', hv⟩ := h.at_ hl
  obtain rfl : x = x' := Option.some.inj (hx.symm.trans hx')
  obtain rfl : p = p' := Option.some.inj (hp.symm.trans hp')
  obtain ⟨b3, o3, rfl, _, c3⟩ := h.row.at_ (k := 0) hv
  have v0 := h.fs.cell (i := 0) rfl
  obtain ⟨n, hfn⟩ : ∃ n, F.length = n := ⟨_, rfl⟩
  rw [hfn] at v0 hl
  have e : ndV x p = .iface 68 (.pointer (some ⟨p.q, 0, none⟩)) := by unfold ndV kindT ptrV; rw [if_pos hk]
  rw [e, Nat.add_zero] at c3
  have ha := as_dir (.pointer (some ⟨p.q, 0, none⟩))
  have i1 : (0 : Int) < (n : Int) := by omega
  clear h hx hp hx' hp' hv e hfn hk hn
  unfold ptrV
  go_enter Tryd.func44, Tryd.ntmps44
  go_wp2_with fail
  go_ret
  exact ⟨rfl, rfl⟩
end Go.Proofs.YtchmdpkjipaafaaDoor
namespace Go.Proofs.YtchmdpkjipaafaaDoor
set_option linter.unusedVariables false
set_option linter.unusedSimpArgs false
open Go.RowKit

/-- Cells that are read, all in one block of elements t of a base on. -/
def RdI (w : World) (lo : Nat) (t : TypeId) (size : Nat) (A : Option Addr) (n : Nat) (xs : List Value) : Prop :=
  xs.length = n * size ∧ (xs = [] ∨ ∃ b off cs fz, A = some ⟨b, off, none⟩ ∧ lo ≤ b ∧ w.heap[b]? = some (.cells cs t fz) ∧ ∀ j u, xs[j]? = some u → cs[off + j]? = some u)
theorem RdI.rd {w : World} {lo : Nat} {t : TypeId} {size : Nat} {A : Option Addr} {n : Nat} {xs : List Value} (h : RdI w lo t size A n xs) : Rd w w.heap.size size A n xs :=
  ⟨h.1, h.2.imp id fun ⟨b, off, cs, fz, e, hlo, hb, hc⟩ => ⟨b, off, e, (Array.getElem?_eq_some_iff.1 hb).1, fun j u hu => by rw [cell_of_row _ _ _ _ _ _ hb]; exact hc j u hu⟩⟩
theorem RdI.keep {w w' : World} {lo : Nat} {t : TypeId} {size : Nat} {A : Option Addr} {n : Nat} {xs : List Value} (h : RdI w lo t size A n xs) (hk : ∀ k o, lo ≤ k → w.heap[k]? = some o → (∃ cs fz, o = .cells cs t fz) → w'.heap[k]? = some o) : RdI w' lo t size A n xs :=
  ⟨h.1, h.2.imp id fun ⟨b, off, cs, fz, e, hlo, hb, hc⟩ => ⟨b, off, cs, fz, e, hlo, hk b _ hlo hb ⟨_, _, rfl⟩, hc⟩⟩
theorem RdI.of_own {w : World} {base : Nat} {t : TypeId} {size c : Nat} {A : Option Addr} {n : Nat} {xs : List Value} (h : w.ownsRow base t size (.slice A n c) n xs) : RdI w base t size A n xs := by
  refine ⟨h.1, ?_⟩
  rcases h.2 with ⟨_, h0⟩ | ⟨g, cap, cur, hv, hbg, hh, hcap, hcm, hsz, htk⟩
  · exact .inl (List.eq_nil_of_length_eq_zero (by rw [h.1, h0]; simp))
  · have hA : A = some ⟨g, 0, none⟩ := by injection hv
    refine .inr ⟨g, 0, cur, (0, 0), hA, hbg, hh, fun j u hu => ?_⟩
    rw [Nat.zero_add]
    rw [← htk, List.getElem?_take] at hu
    split at hu
    · simpa using hu
    · cases hu

theorem own_keepA {w w' : World} {lo : Nat} {e : TypeId} {u : Value} {k size : Nat} {xs : List Value} (h : w.ownsRow lo e size u k xs) (hk : ∀ k, lo ≤ k → k < w.heap.size → w'.heap[k]? = w.heap[k]?) : w'.ownsRow lo e size u k xs :=
  ⟨h.1, h.2.imp id fun ⟨g, cap, cur, e1, e2, e3, r⟩ => ⟨g, cap, cur, e1, e2, (hk g e2 (Array.getElem?_eq_some_iff.1 e3).1).trans e3, r⟩⟩

/-- A file system whole: F its nodes, L where they lie, f its own block, all of a base on. -/
structure FsM (w : World) (lo f : Nat) (A : Option Addr) (c : Nat) (F : List Vf.Nd) (L : List Pl) : Prop where
  len : L.length = F.length
  lf : lo ≤ f
  fs : Blk w f 76 [.slice A F.length c]
  row : w.ownsRow lo 91 1 (.slice A F.length c) F.length ((F.zip L).map fun y => ndV y.1 y.2)
  nd : ∀ (i : Nat) (x : Vf.Nd) (p : Pl), F[i]? = some x → L[i]? = some p → lo ≤ p.q ∧ ∃ u, L[x.up]? = some u ∧ Blk w p.q (blkT x.m.kind) (ndC x i u.q p)
  byt : ∀ (i : Nat) (x : Vf.Nd) (p : Pl), F[i]? = some x → L[i]? = some p → x.m.kind = 1 → p.n = x.data.length ∧ p.n ≤ p.c ∧ RdI w lo 5 1 p.A p.n (x.data.map fun b => Value.int .u8 (b.toNat : Nat))
  map : ∀ (i : Nat) (x : Vf.Nd) (p : Pl), F[i]? = some x → L[i]? = some p → x.m.kind = 2 → lo ≤ p.g ∧ MapG w p.g .string (kidsM F L i)
  one : ∀ (i j : Nat) (x y : Vf.Nd) (p r : Pl), F[i]? = some x → F[j]? = some y → L[i]? = some p → L[j]? = some r → x.m.kind = 2 → y.m.kind = 2 → p.g = r.g → i = j
section
variable {w w' : World} {lo f c : Nat} {A : Option Addr} {F : List Vf.Nd} {L : List Pl}
/-- It stays where its blocks stay. -/
theorem FsM.keep (h : FsM w lo f A c F L) (hk : ∀ k, lo ≤ k → k < w.heap.size → w'.heap[k]? = w.heap[k]?) : FsM w' lo f A c F L where
  len := h.len
  lf := h.lf
  fs := (hk f h.lf h.fs.lt).trans h.fs
  row := own_keepA h.row hk
  nd := fun i x p h1 h2 => by
    obtain ⟨a, u, b, d⟩ := h.nd i x p h1 h2
    exact ⟨a, u, b, (hk _ a d.lt).trans d⟩
  byt := fun i x p h1 h2 h3 => by
    obtain ⟨a, a2, b⟩ := h.byt i x p h1 h2 h3
    exact ⟨a, a2, b.keep fun k o hl ho _ => (hk k hl (Array.getElem?_eq_some_iff.1 ho).1).trans ho⟩
  map := fun i x p h1 h2 h3 => by
    obtain ⟨a, b⟩ := h.map i x p h1 h2 h3
    exact ⟨a, b.keep (hk _ a b.lt)⟩
  one := h.one
theorem FsM.belowSz (h : FsM w lo f A c F L) (hb : Below w.heap.size w w') : FsM w' lo f A c F L := h.keep fun k _ hk => hb.block k hk
theorem FsM.toR (h : FsM w lo f A c F L) : FsR w w.heap.size f A c F L :=
  ⟨h.len, h.fs.lt, h.fs, Rd.of_own h.row, fun i x p h1 h2 => by
    obtain ⟨a, u, b, d⟩ := h.nd i x p h1 h2
    exact ⟨d.lt, u, b, d⟩, fun i x p h1 h2 h3 => ⟨(h.byt i x p h1 h2 h3).1, (h.byt i x p h1 h2 h3).2.2.rd⟩⟩
theorem FsM.base {lo' : Nat} (h : FsM w lo f A c F L) (hl : lo' ≤ lo) : FsM w lo' f A c F L where
  len := h.len
  lf := Nat.le_trans hl h.lf
  fs := h.fs
  row := own_base h.row hl
  nd := fun i x p h1 h2 => by
    obtain ⟨a, b⟩ := h.nd i x p h1 h2
    exact ⟨Nat.le_trans hl a, b⟩
  byt := fun i x p h1 h2 h3 => by
    obtain ⟨a, a2, b1, b2⟩ := h.byt i x p h1 h2 h3
    exact ⟨a, a2, b1, b2.imp id fun ⟨b, off, cs, fz, e, h4, h5⟩ => ⟨b, off, cs, fz, e, Nat.le_trans hl h4, h5⟩⟩
  map := fun i x p h1 h2 h3 => by
    obtain ⟨a, b⟩ := h.map i x p h1 h2 h3
    exact ⟨Nat.le_trans hl a, b⟩
  one := h.one
theorem FsM.at_ (h : FsM w lo f A c F L) {i : Nat} {x : Vf.Nd} (hx : F[i]? = some x) : ∃ p, L[i]? = some p ∧ (F.zip L)[i]? = some (x, p) ∧ ((F.zip L).map fun y => ndV y.1 y.2)[i]? = some (ndV x p) := by
  have hi : i < F.length := (List.getElem?_eq_some_iff.1 hx).1
  have hl : i < L.length := by rw [h.len]; exact hi
  have hz : (F.zip L)[i]? = some (x, L[i]) := by
    rw [List.getElem?_eq_getElem (by rw [List.length_zip]; omega), List.getElem_zip, (List.getElem?_eq_some_iff.1 hx).2]
  exact ⟨L[i], List.getElem?_eq_getElem hl, hz, by rw [List.getElem?_map, hz]; rfl⟩
/-! A directory's entries. -/
theorem kids_mem {d : Nat} {e : Value × Value} : e ∈ kidsM F L d ↔ ∃ i x p, 1 ≤ i ∧ (F.zip L)[i]? = some (x, p) ∧ x.up = d ∧ e = (.string x.name, ndV x p) := by
  unfold kidsM
  rw [List.mem_filterMap]
  constructor
  · rintro ⟨⟨x, p⟩, hm, he⟩
    obtain ⟨j, hj⟩ := List.getElem?_of_mem hm
    rw [List.getElem?_drop] at hj
    split at he
    · next hu => exact ⟨1 + j, x, p, by omega, hj, hu, (Option.some.inj he).symm⟩
    · cases he
  · rintro ⟨i, x, p, h1, hx, hu, rfl⟩
    refine ⟨(x, p), ?_, by rw [if_pos hu]⟩
    refine List.mem_of_getElem? (i := i - 1) ?_
    rw [List.getElem?_drop, show 1 + (i - 1) = i by omega]
    exact hx
theorem zip_at {i : Nat} {x : Vf.Nd} {p : Pl} (h : (F.zip L)[i]? = some (x, p)) : F[i]? = some x ∧ L[i]? = some p := by
  rw [List.getElem?_zip_eq_some] at h
  exact h
theorem kids_yes (hF : Vf.Good F) (h : FsM w lo f A c F L) {d j : Nat} {nm : ByteArray} (hc : Vf.child F d nm = some j) : ∃ x p, F[j]? = some x ∧ L[j]? = some p ∧ x.up = d ∧ x.name = nm ∧ (Value.string nm, ndV x p) ∈ kidsM F L d := by
  obtain ⟨h1, x, hx, hu, hn⟩ := (Vf.child_some hF).1 hc
  obtain ⟨p, hp, hz, _⟩ := h.at_ hx
  exact ⟨x, p, hx, hp, hu, hn, kids_mem.2 ⟨j, x, p, h1, hz, hu, by rw [hn]⟩⟩
theorem kids_no (hF : Vf.Good F) {d : Nat} {nm : ByteArray} (hc : Vf.child F d nm = none) : ∀ e ∈ kidsM F L d, e.1 ≠ Value.string nm := by
  intro e he e1
  obtain ⟨i, x, p, h1, hz, hu, rfl⟩ := kids_mem.1 he
  injection e1 with e1
  have := (Vf.child_some hF).2 ⟨h1, x, (zip_at hz).1, hu, e1⟩
  rw [hc] at this
  cases this
/-- A name looked up in a directory. -/
theorem look_yes (hF : Vf.Good F) (h : FsM w lo f A c F L) {d j : Nat} {nm : ByteArray} {xd : Vf.Nd} {pd : Pl} (hd : F[d]? = some xd) (hp : L[d]? = some pd) (hk : xd.m.kind = 2) (hc : Vf.child F d nm = some j) :
    ∃ x p, F[j]? = some x ∧ L[j]? = some p ∧ (Instr.lookup 71 (.map (some pd.g)) (.string nm) true).run Tryd.prog w = .ok (.tuple #[ndV x p, .bool true]) w := by
  obtain ⟨x, p, hx, hpx, _, _, hm⟩ := kids_yes hF h hc
  exact ⟨x, p, hx, hpx, (run_lookG_yes (P := Tryd.prog) Tryd.underlying71 Tryd.underlying9 (by simp [Go.MapKept.IsKey]) (h.map d xd pd hd hp hk).2 hm).1⟩
theorem look_no (hF : Vf.Good F) (h : FsM w lo f A c F L) {d : Nat} {nm : ByteArray} {xd : Vf.Nd} {pd : Pl} (hd : F[d]? = some xd) (hp : L[d]? = some pd) (hk : xd.m.kind = 2) (hc : Vf.child F d nm = none) :
    (Instr.lookup 71 (.map (some pd.g)) (.string nm) true).run Tryd.prog w = .ok (.tuple #[.nilIface, .bool false]) w :=
  (run_lookG_no (P := Tryd.prog) (z := .nilIface) Tryd.underlying71 Tryd.underlying9 (by simp [Go.MapKept.IsKey]) (by kernel_rfl) (h.map d xd pd hd hp hk).2 (kids_no hF hc)).1
end
end Go.Proofs.YtchmdpkjipaafaaDoor
namespace Go.Proofs.YtchmdpkjipaafaaDoor
set_option linter.unusedVariables false
set_option linter.unusedSimpArgs false
open Go.RowKit

/-- Node i as an interface's value. -/
def ndA (F : List Vf.Nd) (L : List Pl) (i : Nat) : Value := ((F.zip L).map fun y => ndV y.1 y.2)[i]?.getD .nilIface
def atV (F : List Vf.Nd) (L : List Pl) : Option Nat → Value
  | none => .nilIface
  | some i => ndA F L i
theorem FsM.ndA_eq {w : World} {lo f c : Nat} {A : Option Addr} {F : List Vf.Nd} {L : List Pl} (h : FsM w lo f A c F L) {i : Nat} {x : Vf.Nd} {p : Pl} (hx : F[i]? = some x) (hp : L[i]? = some p) : ndA F L i = .iface (kindT x.m.kind) (.pointer (some ⟨p.q, 0, none⟩)) := by
  obtain ⟨p', hp', _, hv⟩ := h.at_ hx
  obtain rfl : p = p' := Option.some.inj (hp.symm.trans hp')
  unfold ndA
  rw [hv]
  rfl
theorem kind3 {F : List Vf.Nd} (h : Vf.Good F) {i : Nat} {x : Vf.Nd} (hx : F[i]? = some x) : x.m.kind = 1 ∨ x.m.kind = 2 ∨ x.m.kind = 3 := by
  have := h.kind i x hx
  omega

set_option maxRecDepth 100000 in
set_option maxHeartbeats 1000000 in
theorem at_any (F : List Vf.Nd) (L : List Pl) (lo f c : Nat) (A A' : Option Addr) (n' c' B : Nat) (l : List ByteArray) (w : World) (hF : Vf.Good F) (h : FsM w lo f A c F L) (hn : F.length ≤ 65) (hl : Rd w B 1 A' n' (l.map Value.string)) (hn' : n' ≤ 4294967296) :
    Calls Tryd.prog 53 #[ptrV f, .slice A' n' c'] w fun e w' => e = .returned (atV F L (Vf.at_ F 0 l)) ∧ w = w' := by
  have hll : l.length = n' := by simpa using hl.len1
  obtain ⟨x0, hx0⟩ : ∃ x, F[0]? = some x := ⟨_, hF.r⟩
  obtain ⟨p0, hp0, _, hv0⟩ := h.at_ hx0
  obtain ⟨b3, o3, rfl, _, c3⟩ := (Rd.of_own h.row).at_ (k := 0) hv0
  have v0 := h.fs.cell (i := 0) rfl
  have e0 := h.ndA_eq hx0 hp0
  have e0' : ndA F L 0 = ndV x0 p0 := by unfold ndA; rw [hv0]; rfl
  rw [← e0', Nat.add_zero] at c3
  obtain ⟨n, hfn⟩ : ∃ n, F.length = n := ⟨_, rfl⟩
  have hpos := Vf.good_pos hF
  have i1 : (0 : Int) < (n : Int) := by omega
  rw [hfn] at v0
  obtain ⟨r, hr⟩ : ∃ r, Vf.at_ F 0 l = r := ⟨_, rfl⟩
  have Hr := hide hr
  rw [hr]
  have H := hide h
  have HF := hide hF
  have Hl := hide hl
  have Hll := hide hll
  have Hfn := hide hfn
  obtain ⟨z0, hz0⟩ : ∃ z, ndA F L 0 = z := ⟨_, rfl⟩
  rw [hz0] at c3
  have Hz0 := hide hz0
  clear hr h hF hl hll hv0 e0 e0' hfn hpos hx0 hp0 hz0
  unfold ptrV
  go_enter Tryd.func53, Tryd.ntmps53
  go_wp2_with fail
  go_loop [5, 18] (fun nv iv => ∃ k i : Nat, k ≤ n' ∧ iv = .int .i64 k ∧ Vf.at_ F 0 (l.take k) = some i ∧ i < F.length ∧ nv = ndA F L i) (fun _ i => n' - (intOf i).toNat)
  case atStart => exact ⟨0, 0, Nat.zero_le _, rfl, rfl, Vf.good_pos (unhide HF), (unhide Hz0).symm⟩
  case round =>
    obtain ⟨k, i, hk, rfl, hat, hi, rfl⟩ := hrel
    have Hat := hide hat
    obtain ⟨x, hx⟩ : ∃ x, F[i]? = some x := ⟨_, List.getElem?_eq_getElem hi⟩
    obtain ⟨p, hp, _, _⟩ := (unhide H).at_ hx
    have e1 := (unhide H).ndA_eq hx hp
    have Hi := hide hi
    by_cases hlt : k < n'
    · obtain ⟨nm, hnm⟩ : ∃ nm, l[k]? = some nm := ⟨_, List.getElem?_eq_getElem (by rw [unhide Hll]; exact hlt)⟩
      obtain ⟨b1, o1, rfl, _, c1⟩ := (unhide Hl).at_ (k := k) (u := .string nm) (by simp [hnm])
      have hnx := Vf.at_next hat hnm
      have ilt : (k : Int) < (n' : Int) := by omega
      rcases kind3 (unhide HF) hx with hk1 | hk1 | hk1
      · have et : kindT x.m.kind = 107 := by rw [hk1]; rfl
        rw [et] at e1
        rw [e1]
        have ha := file_no_dir (.pointer (some ⟨p.q, 0, none⟩))
        have hr0 : r = none := by
          rw [← unhide Hr]
          exact Vf.at_stop (k := k + 1) (hnx.trans (Vf.child_none (unhide HF) (by rw [Vf.kindAt_eq hx, hk1]; decide)))
        clear e1 et hk1 hnx hx hp hat hnm hi
        go_wp2_with fail
        go_ret
        subst hr0
        exact ⟨rfl, rfl⟩
      · have et : kindT x.m.kind = 68 := by rw [hk1]; rfl
        rw [et] at e1
        rw [e1]
        have ha := is_dir (.pointer (some ⟨p.q, 0, none⟩))
        obtain ⟨_, u, hu, hb⟩ := (unhide H).nd i x p hx hp
        have c8 : w.cell? ⟨p.q, 8, none⟩ = some (lastV x p) := hb.cell rfl
        have e8 : lastV x p = .map (some p.g) := by unfold lastV; rw [if_pos hk1]
        rw [e8] at c8
        cases hc : Vf.child F i nm with
        | none =>
          have hlk := look_no (unhide HF) (unhide H) hx hp hk1 hc
          have hr0 : r = none := by
            rw [← unhide Hr]
            exact Vf.at_stop (k := k + 1) (hnx.trans hc)
          clear e1 et hk1 hnx hx hp hat hnm hi hu hb e8 hc
          go_wp2_with fail
          go_ret
          subst hr0
          exact ⟨rfl, rfl⟩
        | some j =>
          obtain ⟨xj, pj, hxj, hpj, hlk⟩ := look_yes (unhide HF) (unhide H) hx hp hk1 hc
          have ej : ndA F L j = ndV xj pj := (unhide H).ndA_eq hxj hpj
          rw [← ej] at hlk
          obtain ⟨zj, hzj⟩ : ∃ z, ndA F L j = z := ⟨_, rfl⟩
          rw [hzj] at hlk
          have Hzj := hide hzj
          have Hnx := hide (hnx.trans hc)
          have Hj := hide ((List.getElem?_eq_some_iff.1 hxj).1)
          clear e1 et hk1 hnx hx hp hat hnm hi hu hb e8 hc hxj hpj ej hzj
          go_wp2_with fail
          go_round
          case rel => exact ⟨k + 1, j, by omega, by go_num, unhide Hnx, unhide Hj, (unhide Hzj).symm⟩
          case measure => simp [intOf]; omega
      · have et : kindT x.m.kind = 110 := by rw [hk1]; rfl
        rw [et] at e1
        rw [e1]
        have ha := link_no_dir (.pointer (some ⟨p.q, 0, none⟩))
        have hr0 : r = none := by
          rw [← unhide Hr]
          exact Vf.at_stop (k := k + 1) (hnx.trans (Vf.child_none (unhide HF) (by rw [Vf.kindAt_eq hx, hk1]; decide)))
        clear e1 et hk1 hnx hx hp hat hnm hi
        go_wp2_with fail
        go_ret
        subst hr0
        exact ⟨rfl, rfl⟩
    · have ilt : ¬ (k : Int) < (n' : Int) := by omega
      have hr0 : r = some i := by
        rw [← unhide Hr, ← hat, List.take_of_length_le (by have := unhide Hll; omega)]
      obtain ⟨z, hz⟩ : ∃ z, ndA F L i = z := ⟨_, rfl⟩
      rw [hz]
      have Hz := hide hz
      clear hat hi hx hp e1 hz
      go_wp2_with fail
      go_ret
      subst hr0
      exact ⟨ret_val (unhide Hz).symm, rfl⟩
end Go.Proofs.YtchmdpkjipaafaaDoor
