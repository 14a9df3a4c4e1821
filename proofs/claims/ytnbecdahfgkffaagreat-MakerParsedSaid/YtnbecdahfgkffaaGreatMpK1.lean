/- Texts of the claim LawMakerParsed (Base, Own, More, Bytes, App, Grew, CopyB, WordsPure, Words, PathsPure, CallsPure, ClForm, App2, Put1, AppS, Apart1, Blk, Apart2, Fr, AppZ, MkRow, ElfPure, DyPure, MkPure, Mark, Dy1, MkR1, Slc, SlcU, Conv, Dy2, WordsU, Elf1g): what the functions that the statement reaches compute, and plain laws of it. Conditions: those that each theorem states. -/
import Derived.WalkKit
import Derived.Below
import Derived.Lib.Hide
import Derived.Lib.OthersKept
import Derived.Deep.Draws
import Derived.Laws.OwnMore
import Derived.WalkSmall
import Derived.OneCell
import Derived.Lib.Strings
import Derived.OwnWalk
import Derived.Laws.Rows
import Derived.Laws.Tables
import Derived.Laws.ResultCell
import Derived.Test.YtnbecdahfgkffaaGreatProg
import Derived.WalkSpells
import Derived.WalkLawsBesides
import Derived.BigQuiet
import Derived.Deep.QuietTactic
import Derived.Deep.LoopGhost
import Derived.Maps.AppendAt
import Derived.Laws.BitsAllLaws
import Derived.Laws.Entries
import Derived.Laws.RangeAny
import Derived.Lib.LastIndexByte
import Derived.Lib.AppendStr
import Derived.Lib.SliceRun
import Derived.Lib.AppendZerosOnto
import Derived.Laws.CopyRow
import Derived.Laws.IdiomStrings
import Derived.Laws.BytesArg
import Derived.Test.YtnbecdahfgkffaaGreatShelf
import Derived.Lib.IndexLaws
import Derived.Lib.SlBytesConst
set_option linter.unusedVariables false
set_option linter.unusedSimpArgs false
namespace Go.Proofs.YtnbecdahfgkffaaGreat
open Go.RowKit
theorem flipw {P : Program} {f : FuncId} {args : Array Value} {w : World} {r : Ending} (h : Calls P f args w fun e w' => e = r /\ w' = w) : Calls P f args w fun e w' => e = r /\ w = w' :=
 h.mono fun _ _ ⟨a, b⟩ => ⟨a, b.symm⟩
theorem zJ2 {p : Prop} (h : p) : Hid p := h
theorem zJ1 {p : Prop} (h : Hid p) : p := h
theorem yJ3 {k : IntKind} {a b : Int} (h : a = b) : Ending.returned (.int k a) = .returned (.int k b) := by rw [h]
theorem yJq {a b : Bool} (h : a = b) : Ending.returned (.bool a) = .returned (.bool b) := by rw [h]
theorem newblk {w w1 : World} {o : Obj} (hb : Below (w.alloc o).heap.size (w.alloc o) w1) : w1.heap[w.heap.size]? = some o :=
 (hb.block _ (by simp)).trans (heap_alloc_new _ _)
theorem zJd {w w1 : World} {o : Obj} (hb : Below (w.alloc o).heap.size (w.alloc o) w1) : Below w.heap.size w w1 :=
 ((Below.refl _ _).alloc (Nat.le_refl _) _).trans (hb.mono (by simp))
theorem below_drewN' {B : Nat} {a w : World} (h : Below B a w) (n : Nat) : Below B a (w.drewN n) := ⟨h.os, h.tape, h.output, h.size, h.block⟩
theorem byte_eq (c d : UInt8) : (((c.toNat : Nat) : Int) == ((d.toNat : Nat) : Int)) = decide (c = d) := by
 rw [Bool.eq_iff_iff, beq_iff_eq, decide_eq_true_eq]
 exact ⟨fun h => UInt8.toNat_inj.1 (by omega), fun h => by rw [h]⟩
theorem zJi (p : ByteArray) : p.toList.isEmpty = decide (p.size = 0) := by
 rw [Lib.toList_data, Bool.eq_iff_iff, List.isEmpty_iff_length_eq_zero, decide_eq_true_eq]
 exact Iff.rfl
theorem beq_toList (p q : ByteArray) : (p.toList == q.toList) = decide (p = q) := by
 rw [Lib.toList_data, Lib.toList_data, Bool.eq_iff_iff, beq_iff_eq, decide_eq_true_eq]
 exact ⟨fun h => ByteArray.ext (Array.toList_inj.1 h), fun h => by rw [h]⟩
def Rd (w : World) (B size : Nat) (A : Option Addr) (n : Nat) (xs : List Value) : Prop :=
 xs.length = n * size /\ (xs = [] \/ ∃ b off, A = some ⟨b, off, none⟩ /\ b < B /\ ∀ j u, xs[j]? = some u -> w.cell? ⟨b, off + j, none⟩ = some u)
section
variable {w w' : World} {B B' size n : Nat} {A : Option Addr} {xs : List Value}
theorem Rd.none_ (w : World) (B size : Nat) (A : Option Addr) : Rd w B size A 0 [] := ⟨by simp, .inl rfl⟩
theorem Rd.len1 (h : Rd w B 1 A n xs) : xs.length = n := by have := h.1; omega
theorem Rd.at_ {k : Nat} {u : Value} (h : Rd w B 1 A n xs) (hk : xs[k]? = some u) : ∃ b off, A = some ⟨b, off, none⟩ /\ b < B /\ w.cell? ⟨b, off + k, none⟩ = some u := by
 rcases h.2 with rfl | ⟨b, off, e, hb, hc⟩
 ·simp at hk
 ·exact ⟨b, off, e, hb, hc _ _ hk⟩
theorem Rd.open_ (h : Rd w B size A n xs) (hn : xs ≠ []) : ∃ b off, A = some ⟨b, off, none⟩ /\ b < B /\ ∀ j u, xs[j]? = some u -> w.cell? ⟨b, off + j, none⟩ = some u := by
 rcases h.2 with h0 | h1
 ·exact absurd h0 hn
 ·exact h1
theorem Rd.keep (h : Rd w B size A n xs) (hk : ∀ p : Addr, p.block < B -> w'.cell? p = w.cell? p) : Rd w' B size A n xs :=
 ⟨h.1, h.2.imp id fun ⟨b, off, e, hb, hc⟩ => ⟨b, off, e, hb, fun j u hu => (hk _ hb).trans (hc j u hu)⟩⟩
theorem Rd.more (h : Rd w B size A n xs) (hB : B <= B') : Rd w B' size A n xs :=
 ⟨h.1, h.2.imp id fun ⟨b, off, e, hb, hc⟩ => ⟨b, off, e, by omega, hc⟩⟩
theorem Rd.below (h : Rd w B size A n xs) (hb : Below B w w') : Rd w' B size A n xs := h.keep fun _ hp => hb.cell hp
theorem Rd.belowSz (h : Rd w w.heap.size size A n xs) (hb : Below w.heap.size w w') : Rd w' w'.heap.size size A n xs := (h.below hb).more hb.size
theorem Rd.drew (h : Rd w B size A n xs) : Rd w.drew B size A n xs := h
theorem Rd.drewN (h : Rd w B size A n xs) (k : Nat) : Rd (w.drewN k) B size A n xs := h
theorem Rd.alloc (h : Rd w B size A n xs) (hB : B <= w.heap.size) (o : Obj) : Rd (w.alloc o) B size A n xs := h.keep fun p hp => World.cell?_alloc_lt w o p (by omega)
theorem Rd.setCell (h : Rd w B size A n xs) {p : Addr} (hB : B <= p.block) (u : Value) : Rd (w.setCell p u) B size A n xs :=
 h.keep fun q hq => World.cell?_setCell_other w p q u (fun e => by subst e; omega)
theorem Rd.of_own {base : Nat} {e : TypeId} {c : Nat} (h : w.ownsRow base e size (.slice A n c) n xs) : Rd w w.heap.size size A n xs := by
 refine ⟨h.1, ?_⟩
 by_cases h0 : xs = []
 ·exact .inl h0
 ·have h2 := h.2
  rcases h2 with ⟨_, h3⟩ | ⟨g, cap, cur, hv, hbg, hh, hcap, hcm, hsz, htk⟩
  ·subst h3
   exact absurd (List.eq_nil_of_length_eq_zero (by simpa using h.1)) h0
  ·have hA : A = some ⟨g, 0, none⟩ := by injection hv
   refine .inr ⟨g, 0, hA, (Array.getElem?_eq_some_iff.1 hh).1, fun j u hu => ?_⟩
   rw [cell_of_row w g (0 + j) cur e (0, 0) hh, Nat.zero_add]
   rw [<- htk, List.getElem?_take] at hu
   split at hu
   ·simpa using hu
   ·cases hu
theorem yJt {base : Nat} {e : TypeId} {v : Value} (h : w.ownsRow base e size v n xs) : ∃ A c, v = .slice A n c := by
 rcases h.2 with ⟨rfl, rfl⟩ | ⟨g, cap, cur, rfl, _⟩
 ·exact ⟨_, _, rfl⟩
 ·exact ⟨_, _, rfl⟩
end
theorem zJh {w : World} {base base' : Nat} {e : TypeId} {size n : Nat} {v : Value} {xs : List Value} (h : w.ownsRow base e size v n xs) (hb : base' <= base) : w.ownsRow base' e size v n xs :=
 ⟨h.1, h.2.imp id fun ⟨g, cap, cur, e1, e2, r⟩ => ⟨g, cap, cur, e1, Nat.le_trans hb e2, r⟩⟩
theorem own_below {w w' : World} {base : Nat} {e : TypeId} {size n : Nat} {v : Value} {xs : List Value} (h : w.ownsRow base e size v n xs) (hb : Below w.heap.size w w') : w'.ownsRow base e size v n xs :=
 ⟨h.1, h.2.imp id fun ⟨g, cap, cur, e1, e2, e3, r⟩ => ⟨g, cap, cur, e1, e2, (hb.block g (Array.getElem?_eq_some_iff.1 e3).1).trans e3, r⟩⟩
theorem xJ9 {w : World} {base : Nat} {e : TypeId} {size n c : Nat} {A : Option Addr} {xs : List Value} (h : w.ownsRow base e size (.slice A n c) n xs) (hn : 0 < n) : ∃ g, A = some ⟨g, 0, none⟩ /\ base <= g /\ g < w.heap.size := by
 rcases h.2 with ⟨_, h0⟩ | ⟨g, cap, cur, e1, e2, e3, _⟩
 ·omega
 ·injection e1 with e1
  exact ⟨g, e1, e2, (Array.getElem?_eq_some_iff.1 e3).1⟩
theorem yJm {a b c : World} {row : Option Nat} (h : a.grownBy b row) (k : b.grownBy c row) : a.grownBy c row :=
 ⟨k.os.trans h.os, k.tape.trans h.tape, k.output.trans h.output, Nat.le_trans h.size k.size, fun i hi hr => (k.block i (Nat.lt_of_lt_of_le hi h.size) hr).trans (h.block i hi hr)⟩
open Go.RowKit
theorem vJv {w : World} {base g n c i : Nat} {e : TypeId} {xs : List Value} (h : w.ownsRow base e 1 (.slice (some ⟨g, 0, none⟩) n c) n xs) (u : Value) :
  (w.setCell ⟨g, i, none⟩ u).ownsRow base e 1 (.slice (some ⟨g, 0, none⟩) n c) n (xs.set i u) := by
 obtain ⟨hl, hn | ⟨g', cap, cur, hv, hb, hg, h1, h2, h3, h4⟩⟩ := h
 ·exact absurd hn.1 (by simp)
 ·obtain ⟨rfl, rfl⟩ : g = g' /\ c = cap := by simpa using hv
  refine ⟨by simpa using hl, .inr ⟨g, c, cur.setIfInBounds i u, rfl, hb, heap_setCell_same _ _ _ _ _ _ hg, h1, h2, by simpa using h3, ?_⟩⟩
  rw [Array.toList_setIfInBounds, List.take_set, h4]
theorem xJp {w : World} {base g n c i : Nat} {e : TypeId} {xs : List Value} (h : w.ownsRow base e 1 (.slice (some ⟨g, 0, none⟩) n c) n xs) {u : Value} (hi : xs[i]? = some u) : w.cell? ⟨g, i, none⟩ = some u := by
 obtain ⟨b, off, ha, _, hc⟩ := (Rd.of_own h).at_ hi
 obtain ⟨rfl, rfl⟩ : g = b /\ 0 = off := by simpa using ha
 simpa using hc
theorem wJa {w : World} {base g n c : Nat} {e : TypeId} {xs : List Value} (h : w.ownsRow base e 1 (.slice (some ⟨g, 0, none⟩) n c) n xs) (i : Nat) : w.frozen? ⟨g, i, none⟩ = false := by
 obtain ⟨hl, hn | ⟨g', cap, cur, hv, hb, hg, h1, h2, h3, h4⟩⟩ := h
 ·exact absurd hn.1 (by simp)
 ·obtain ⟨rfl, rfl⟩ : g = g' /\ c = cap := by simpa using hv
  exact frozen_of_row _ _ _ _ _ hg
theorem wJb {w : World} {base g n c : Nat} {e : TypeId} {xs : List Value} (h : w.ownsRow base e 1 (.slice (some ⟨g, 0, none⟩) n c) n xs) : base <= g /\ g < w.heap.size /\ n <= c := by
 obtain ⟨hl, hn | ⟨g', cap, cur, hv, hb, hg, h1, h2, h3, h4⟩⟩ := h
 ·exact absurd hn.1 (by simp)
 ·obtain ⟨rfl, rfl⟩ : g = g' /\ c = cap := by simpa using hv
  exact ⟨hb, lt_of_block hg, h1⟩
theorem results_cell_tmp {P : Program} {fn : Func} {p q : Tmp} {ty : TypeId} (h : fn.results = #[.cell p ty, .tmp q]) (tmps : Array Value) (w : World) (g : Nat) (t : TypeId) (cs : Array Value) (fr : Nat × Nat) (d : TypeDesc)
  (hp : tmps.getD p undef = .pointer (some ⟨g, 0, none⟩)) (hg : w.heap[g]? = some (.cells cs t fr))
  (hu : P.underlying ty = some d) (hd : (match d with | .struct _ | .array _ _ => true | _ => false) = true) (hi : (P.info? ty).map (·.size) = some cs.size) :
  (results fn tmps).run P w = .ok (.tuple #[.agg cs, tmps.getD q undef]) w := by
 have hp' : tmps[p]?.getD undef = .pointer (some ⟨g, 0, none⟩) := by simpa using hp
 simp [results, h, hp', asAddr, run_loadVar_row w g t ty cs fr d hg hu hd hi]
theorem zJ5 {B : Nat} {a w : World} (h : Below B a w) : Below B a w.drew := ⟨h.os, h.tape, h.output, h.size, h.block⟩
def bys (b : List UInt8) : List Value := b.map fun c => .int .u8 c.toNat
theorem bys_len (b : List UInt8) : (bys b).length = b.length := by simp [bys]
theorem uJ4 {b : List UInt8} {i : Nat} {x : UInt8} (h : b[i]? = some x) : (bys b)[i]? = some (.int .u8 x.toNat) := by simp [bys, h]
theorem bys_set (b : List UInt8) (i : Nat) (x : UInt8) : (bys b).set i (.int .u8 x.toNat) = bys (b.set i x) := by simp [bys, List.map_set]
theorem xJ0 (a b : List UInt8) : bys (a ++ b) = bys a ++ bys b := by simp [bys]
theorem take_ext' {α : Type} {xs ys : List α} {k : Nat} {x : α} (h : xs.take k = ys.take k) (hx : xs[k]? = some x) (hy : ys[k]? = some x) : xs.take (k + 1) = ys.take (k + 1) := by
 rw [List.take_add_one, List.take_add_one, h, hx, hy]
set_option maxRecDepth 100000 in
set_option maxHeartbeats 2000000 in
theorem eqBytes_any (A B : Option Addr) (n m c d K : Nat) (xs ys : List UInt8) (w : World) (ha : Rd w K 1 A n (bys xs)) (hb : Rd w K 1 B m (bys ys)) (hn : n <= maxLen) (hm : m <= maxLen) :
  Calls Tryz.prog 11 #[.slice A n c, .slice B m d] w fun e w' => e = .returned (.bool (decide (xs = ys))) /\ ∃ j, w' = w.drewN j := by
 have hxl : xs.length = n := by simpa [bys] using ha.len1
 have hyl : ys.length = m := by simpa [bys] using hb.len1
 unfold maxLen at hn hm
 have Hxl := zJ2 hxl
 have Hyl := zJ2 hyl
 have Ha := zJ2 ha
 have Hb := zJ2 hb
 clear hxl hyl ha hb
 go_enter Tryz.func11, Tryz.ntmps11
 go_wp2
 go_loopw [5] (fun at_ wr => ∃ k j : Nat, at_ = .int .i64 k /\ k <= n /\ k <= m /\ xs.take k = ys.take k /\ wr = w.drewN j) (fun at_ _ => n - (intOf at_).toNat)
 case atStart => exact ⟨0, 0, rfl, Nat.zero_le _, Nat.zero_le _, rfl, rfl⟩
 case round =>
  obtain ⟨k, j, rfl, hkn, hkm, htk, rfl⟩ := hrel
  have Htk := zJ2 htk
  clear htk
  by_cases h1 : k < n
  ·have d1 : decide (k < n) = true := by simpa using h1
   have i1 : (k : Int) < (n : Int) := by omega
   by_cases h2 : k < m
   ·have d2 : decide (k < m) = true := by simpa using h2
    have i2 : (k : Int) < (m : Int) := by omega
    obtain ⟨x, hx⟩ : ∃ x, xs[k]? = some x := ⟨_, List.getElem?_eq_getElem (by rw [zJ1 Hxl]; exact h1)⟩
    obtain ⟨y, hy⟩ : ∃ y, ys[k]? = some y := ⟨_, List.getElem?_eq_getElem (by rw [zJ1 Hyl]; exact h2)⟩
    obtain ⟨b1, o1, rfl, _, c1⟩ := (zJ1 Ha).at_ (k := k) (u := .int .u8 x.toNat) (uJ4 hx)
    obtain ⟨b2, o2, rfl, _, c2⟩ := (zJ1 Hb).at_ (k := k) (u := .int .u8 y.toNat) (uJ4 hy)
    have Hx := zJ2 hx
    have Hy := zJ2 hy
    have hbq := byte_eq x y
    clear hx hy
    by_cases he : x = y
    ·have q : (((x.toNat : Nat) : Int) == ((y.toNat : Nat) : Int)) = true := by rw [hbq]; simpa using he
     subst he
     clear hbq
     go_wp2
     go_quiet (fail)
     go_wp2
     go_round
     case rel => exact ⟨k + 1, j + nq, by go_num, by omega, by omega, take_ext' (zJ1 Htk) (zJ1 Hx) (zJ1 Hy), rfl⟩
     case measure => simp [intOf]; omega
    ·have q : (((x.toNat : Nat) : Int) == ((y.toNat : Nat) : Int)) = false := by rw [hbq]; simpa using he
     have He := zJ2 he
     clear hbq he
     generalize hxn : ((x.toNat : Nat) : Int) = xn at *
     generalize hyn : ((y.toNat : Nat) : Int) = yn at *
     clear hxn hyn
     go_wp2
     go_quiet (fail)
     go_wp2
     go_ret
     refine ⟨yJq ?_, _, rfl⟩
     symm
     simp only [decide_eq_false_iff_not]
     rintro rfl
     exact zJ1 He (Option.some.inj ((zJ1 Hx).symm.trans (zJ1 Hy)))
   ·have d2 : decide (k < m) = false := by simpa using h2
    go_wp2
    go_quiet (fail)
    go_wp2
    go_ret
    refine ⟨yJq ?_, _, rfl⟩
    symm
    simp only [decide_eq_false_iff_not]
    rintro rfl
    have := zJ1 Hxl
    have := zJ1 Hyl
    omega
  ·have d1 : decide (k < n) = false := by simpa using h1
   go_wp2
   go_quiet (fail)
   go_wp2
   go_ret
   refine ⟨yJq ?_, _, rfl⟩
   have hl1 := zJ1 Hxl
   have hl2 := zJ1 Hyl
   rw [Bool.eq_iff_iff, beq_iff_eq, decide_eq_true_eq]
   constructor
   ·intro e
    have e' := zJ1 Htk
    rwa [List.take_of_length_le (by omega), List.take_of_length_le (by omega)] at e'
   ·rintro rfl
    omega
structure SlTy (P : Program) (t e : TypeId) (size bytes : Nat) : Prop where
 ht : P.underlying t = some (.slice e)
 hi : ∃ i z, P.info? e = some i /\ i.zero = some z /\ i.size = size /\ i.bytes = bytes /\ z.cells.size = size
 hsz : 0 < size
 hby : 0 < bytes
theorem yJx {P : Program} {t e : TypeId} {size bytes : Nat} {z : Value} (ht : P.underlying t = some (.slice e)) (h : (P.info? e).map (fun i => (i.zero, i.size, i.bytes)) = some (some z, size, bytes))
  (hz : z.cells.size = size) (hsz : 0 < size) (hby : 0 < bytes) : SlTy P t e size bytes := by
 refine ⟨ht, ?_, hsz, hby⟩
 cases hi : P.info? e with
 | none => simp [hi] at h
 | some i =>
  simp [hi] at h
  exact ⟨i, z, rfl, h.1, h.2.1, h.2.2, hz⟩
theorem Rd.row {w : World} {cs : Array Value} {e : TypeId} {size : Nat} (hc : cs.size = size) : Rd (w.alloc (.cells cs e)) (w.heap.size + 1) size (some ⟨w.heap.size, 0, none⟩) 1 cs.toList := by
 refine ⟨by simp [hc], .inr ⟨w.heap.size, 0, rfl, by omega, fun j u hu => ?_⟩⟩
 rw [cell_of_row _ w.heap.size (0 + j) cs e (0, 0) (heap_alloc_new _ _), Nat.zero_add]
 simpa using hu
theorem Rd.rowF {w : World} {cs : Array Value} {e : TypeId} {size n : Nat} {fz : Nat × Nat} (hc : cs.size = n * size) : Rd (w.alloc (.cells cs e fz)) (w.heap.size + 1) size (some ⟨w.heap.size, 0, none⟩) n cs.toList := by
 refine ⟨by simp [hc], .inr ⟨w.heap.size, 0, rfl, by omega, fun j u hu => ?_⟩⟩
 rw [cell_of_row _ w.heap.size (0 + j) cs e fz (heap_alloc_new _ _), Nat.zero_add]
 simpa using hu
section
variable {P : Program} {t e : TypeId} {size bytes : Nat}
theorem run_app (T : SlTy P t e size bytes) (w : World) (base : Nat) (ty : TypeId) (v : Value) (n : Nat) (xs : List Value) (hown : w.ownsRow base e size v n xs)
  (B : Nat) (A : Option Addr) (m c : Nat) (news : List Value) (hr : Rd w B size A m news) (h1 : ∀ u ∈ news, u.oneCell' = true)
  (hb : (n + m) * bytes <= 140737488355328) (hbase : base <= w.heap.size) :
  ∃ v' w', (Builtin.append_ #[t, t] ty #[v, .slice A m c]).run P w = .ok v' w' /\ w'.ownsRow base e size v' (n + m) (xs ++ news) /\ w.grownBy w' v.ownBlock /\
   (∀ k, v'.ownBlock = some k -> v.ownBlock = some k \/ w.heap.size <= k) := by
 obtain ⟨ht, ⟨i, z, hi, hz, hs, hby, hzs⟩, hsz, hbp⟩ := T
 have h63 : n + m <= maxLen := by
  have : (n + m) * 1 <= (n + m) * bytes := Nat.mul_le_mul_left _ hbp
  unfold maxLen
  omega
 by_cases hn0 : m = 0 /\ A = none
 ·obtain ⟨rfl, rfl⟩ := hn0
  have hn : news = [] := List.eq_nil_of_length_eq_zero (by simpa using hr.1)
  subst hn
  refine ⟨v, w, ?_, by simpa using hown, World.grownBy.refl w _, fun k hk => .inl hk⟩
  rcases hown.2 with ⟨rfl, rfl⟩ | ⟨g, cap, cur, rfl, _, _, hnc, _⟩
  ·simp [Builtin.append_, run_underlying ht, sizeOf, typeInfo, hi, Builtin.lenOf, Builtin.firstCells]
  ·simp [Builtin.append_, run_underlying ht, sizeOf, typeInfo, hi, Builtin.lenOf, Builtin.firstCells, hnc, storeCells]
 ·obtain ⟨ad, rfl, hcells⟩ : ∃ ad, A = some ad /\ ∀ j u, news[j]? = some u -> w.cell? (ad.add j) = some u := by
   rcases hr.2 with rfl | ⟨b, off, rfl, _, hc⟩
   ·have hm : m = 0 := by
     have := hr.1
     simp only [List.length_nil] at this
     rcases Nat.eq_zero_or_pos m with h | h
     ·exact h
     ·have := Nat.mul_pos h hsz
      omega
    cases A with
    | none => exact absurd ⟨hm, rfl⟩ hn0
    | some ad => exact ⟨ad, rfl, fun j u hu => by simp at hu⟩
   ·exact ⟨_, rfl, fun j u hu => by rw [Addr.add_lit]; exact hc j u hu⟩
  obtain ⟨v', w', hrun, h2, h3, h4, h5⟩ := run_append_own_at (P := P) w base t ty e i z size bytes ht hi hz hs hby hzs hsz v n xs hown ad m c news hr.1 hcells h1 h63 hb hbase
  refine ⟨v', w', hrun, h2, h3, fun k hk => ?_⟩
  rcases h5 with h5 | h5
  ·exact .inl (h5 ▸ hk)
  ·rw [h5] at hk
   injection hk with hk
   exact .inr (by omega)
theorem wp_app (T : SlTy P t e size bytes) {w : World} {o : Oper} {a : Act} {K : Act -> World -> Prop} {Q : Exit -> Act -> World -> Prop} (s x : Operand)
  (ho : o.op = .call { callee := .builtin .append, args := #[s, x], argTypes := #[t, t] })
  (base : Nat) (v : Value) (n : Nat) (xs : List Value) (hs : a.eval s = v) (hown : w.ownsRow base e size v n xs)
  (B : Nat) (A : Option Addr) (m c : Nat) (news : List Value) (hx : a.eval x = .slice A m c) (hr : Rd w B size A m news) (h1 : ∀ u ∈ news, u.oneCell' = true)
  (hb : (n + m) * bytes <= 140737488355328) (hbase : base <= w.heap.size)
  (h : ∀ v' w', w'.ownsRow base e size v' (n + m) (xs ++ news) -> w.grownBy w' v.ownBlock -> (∀ k, v'.ownBlock = some k -> v.ownBlock = some k \/ w.heap.size <= k) -> K (a.put o.dst v') w') : o.wp P a w K Q := by
 obtain ⟨v', w', hrun, h2, h3, h4⟩ := run_app T w base o.type v n xs hown B A m c news hr h1 hb hbase
 unfold Oper.wp execOp
 simp only [ho, resolve, invoke, builtin, Sem.run_bind, Sem.run_pure, Result.andThen_ok, List.map_toArray, List.map_cons, List.map_nil, hs, hx, hrun]
 exact h v' w' h2 h3 h4
theorem zJq (T : SlTy P t e size bytes) {w : World} {ops : Array Oper} {rest : List Oper} {o : Oper} {a : Act} {Q : Exit -> Act -> World -> Prop} (hgd : o.guard = none) (s x : Operand)
  (ho : o.op = .call { callee := .builtin .append, args := #[s, x], argTypes := #[t, t] })
  (base : Nat) (v : Value) (n : Nat) (xs : List Value) (hs : a.eval s = v) (hown : w.ownsRow base e size v n xs)
  (B : Nat) (A : Option Addr) (m c : Nat) (news : List Value) (hx : a.eval x = .slice A m c) (hr : Rd w B size A m news) (h1 : ∀ u ∈ news, u.oneCell' = true)
  (hb : (n + m) * bytes <= 140737488355328) (hbase : base <= w.heap.size)
  (h : ∀ A' c' w', w'.ownsRow base e size (.slice A' (n + m) c') (n + m) (xs ++ news) -> w.grownBy w' v.ownBlock -> (∀ k, (Value.slice A' (n + m) c').ownBlock = some k -> v.ownBlock = some k \/ w.heap.size <= k) -> wpList P ops Q rest (a.put o.dst (.slice A' (n + m) c')) w') : wpList P ops Q (o :: rest) a w :=
 wpList_plain hgd fun _ hK => wp_app T s x ho base v n xs hs hown B A m c news hx hr h1 hb hbase fun v' w' h2 h3 h4 => by
  obtain ⟨A', c', rfl⟩ := yJt h2
  exact hK _ _ (h A' c' w' h2 h3 h4)
theorem wpList_app1 (T : SlTy P t e size bytes) {W : World} {ops : Array Oper} {rest : List Oper} {o : Oper} {a : Act} {Q : Exit -> Act -> World -> Prop} (hgd : o.guard = none) (s x : Operand)
  (ho : o.op = .call { callee := .builtin .append, args := #[s, x], argTypes := #[t, t] })
  (base : Nat) (v : Value) (n : Nat) (xs : List Value) (hs : a.eval s = v) (hown : W.ownsRow base e size v n xs)
  (cs : Array Value) (hx : a.eval x = .slice (some ⟨W.heap.size, 0, none⟩) 1 1) (hcs : cs.size = size) (h1 : ∀ u ∈ cs.toList, u.oneCell' = true)
  (hb : (n + 1) * bytes <= 140737488355328) (hbase : base <= W.heap.size)
  (h : ∀ A' c' w', w'.ownsRow base e size (.slice A' (n + 1) c') (n + 1) (xs ++ cs.toList) -> W.grownBy w' v.ownBlock -> (∀ k, (Value.slice A' (n + 1) c').ownBlock = some k -> v.ownBlock = some k \/ W.heap.size <= k) -> wpList P ops Q rest (a.put o.dst (.slice A' (n + 1) c')) w') : wpList P ops Q (o :: rest) a (W.alloc (.cells cs e)) :=
 zJq T hgd s x ho base v n xs hs (hown.alloc _) (W.heap.size + 1) (some ⟨W.heap.size, 0, none⟩) 1 1 cs.toList hx (Rd.row hcs) h1 hb (by simp; omega)
  fun A' c' w' h2 h3 h4 => h A' c' w' h2 (yJm (World.grownBy_alloc W _ _) h3) fun k hk => (h4 k hk).imp id fun h5 => by simp at h5; omega
end
open Go.RowKit
theorem yJw : (Tryz.prog.info? 5).map (fun i => (i.zero, i.size, i.bytes)) = some (some (.int .u8 0), 1, 1) := by kernel_rfl
theorem vJ3 : SlTy Tryz.prog 24 5 1 1 := yJx (z := .int .u8 0) Tryz.underlying24 yJw rfl (by omega) (by omega)
theorem xJc (l : List UInt8) : ∀ u ∈ bys l, u.oneCell' = true := by
 intro u hu
 simp only [bys, List.mem_map] at hu
 obtain ⟨c, _, rfl⟩ := hu
 rfl
structure Grew (w w' : World) (base : Nat) (v v' : Value) (n : Nat) (xs : List UInt8) : Prop where
 own : w'.ownsRow base 5 1 v' n (bys xs)
 kept : w.grownBy w' v.ownBlock
 at_ : ∀ k, v'.ownBlock = some k -> v.ownBlock = some k \/ w.heap.size <= k
section
variable {a b c : World} {base : Nat} {u v x : Value} {n m : Nat} {xs ys : List UInt8}
theorem Grew.trans (h : Grew a b base u v n xs) (k : Grew b c base v x m ys) : Grew a c base u x m ys :=
 ⟨k.own, ⟨k.kept.os.trans h.kept.os, k.kept.tape.trans h.kept.tape, k.kept.output.trans h.kept.output, Nat.le_trans h.kept.size k.kept.size, fun i hi hr => (k.kept.block i (Nat.lt_of_lt_of_le hi h.kept.size) (fun e => by
  rcases h.at_ i e.symm with h1 | h1
  ·exact hr h1.symm
  ·omega)).trans (h.kept.block i hi hr)⟩, fun i hi => by
  rcases k.at_ i hi with h1 | h1
  ·exact h.at_ i h1
  ·exact .inr (Nat.le_trans h.kept.size h1)⟩
theorem xJd {row : Option Nat} (h : Below a.heap.size a b) : a.grownBy b row := ⟨h.os, h.tape, h.output, h.size, fun k hk _ => h.block k hk⟩
theorem Grew.after (hb : Below a.heap.size a b) (h : Grew b c base u v n xs) : Grew a c base u v n xs :=
 ⟨h.own, yJm (xJd hb) h.kept, fun k hk => (h.at_ k hk).imp id fun h1 => Nat.le_trans hb.size h1⟩
theorem Grew.then (h : Grew a b base u v n xs) (hb : Below b.heap.size b c) : Grew a c base u v n xs :=
 ⟨own_below h.own hb, yJm h.kept (xJd hb), h.at_⟩
theorem Grew.below {B : Nat} (h : Grew a b base u v n xs) (hB : B <= a.heap.size) (hr : ∀ k, u.ownBlock = some k -> B <= k) : Below B a b := (Below.refl B a).grown h.kept hB hr
theorem Grew.blk {g : Nat} (h : Grew a b base u v n xs) (hg : g < a.heap.size) (hne : u.ownBlock ≠ some g) {o : Obj} (ho : a.heap[g]? = some o) : b.heap[g]? = some o :=
 (h.kept.block g hg (fun e => hne e.symm)).trans ho
end
open Go.RowKit
theorem bys_at' {b : List UInt8} {i : Nat} {x : UInt8} (h : b[i]? = some x) : (bys b)[i]? = some (.int .u8 x.toNat) := by simp [bys, h]
def backTo (b : List UInt8) (k : Nat) : List Value := List.replicate k (.int .u8 0) ++ bys (b.drop k)
theorem backTo_set {b : List UInt8} {k : Nat} {x : UInt8} (h : b[k]? = some x) : (backTo b (k + 1)).set k (.int .u8 x.toNat) = backTo b k := by
 unfold backTo
 rw [List.drop_eq_getElem_cons (i := k) (by have := (List.getElem?_eq_some_iff.1 h).1; exact this)]
 have hx : b[k]'((List.getElem?_eq_some_iff.1 h).1) = x := (List.getElem?_eq_some_iff.1 h).2
 rw [hx, List.replicate_succ', List.append_assoc]
 rw [List.set_append]
 simp [bys]
set_option maxRecDepth 20000 in
set_option maxHeartbeats 1000000 in
theorem wJm (A : Option Addr) (m c B : Nat) (b : List UInt8) (w : World) (hB : B <= w.heap.size) (hb : Rd w B 1 A m (bys b)) (hm : m <= 4294967296) :
  Calls Tryz.prog 23 #[.slice A m c] w fun e w' => ∃ A' c', e = .returned (.slice A' m c') /\ w'.ownsRow w.heap.size 5 1 (.slice A' m c') m (bys b) /\ Below w.heap.size w w' := by
 have hbl : b.length = m := by simpa [bys] using hb.len1
 rcases Nat.eq_zero_or_pos m with rfl | hpos
 ·have hb0 : b = [] := List.eq_nil_of_length_eq_zero hbl
  subst hb0
  clear hb hbl
  go_enter Tryz.func23, Tryz.ntmps23
  go_wp2
  go_ret
  exact ⟨none, 0, rfl, World.ownsRow_nil _ _ _ _, Below.refl _ _⟩
 have hne : decide (m = 0) = false := by simp; omega
 obtain ⟨i, hi, hz0, hz1, hz2⟩ := info_parts yJw
 have Hb := zJ2 hb
 have Hbl := zJ2 hbl
 have Hi := zJ2 hi
 have Hz0 := zJ2 hz0
 have Hz1 := zJ2 hz1
 have Hz2 := zJ2 hz2
 clear hb hbl hi hz0 hz1 hz2
 go_enter Tryz.func23, Tryz.ntmps23
 go_wp2_with (at_make; refine wpList_make_full _ rfl _ _ 24 rfl w.heap.size 5 i (.int .u8 0) 1 Tryz.underlying24 (zJ1 Hi) (zJ1 Hz0) (zJ1 Hz1) _ _ _ _ m rfl rfl rfl rfl (by rw [zJ1 Hz2]; omega) (by unfold maxLen; omega) (Nat.le_refl _) ?_; intro w1 hown hgrow; have hb1 := (Below.refl w.heap.size w).grown hgrow (Nat.le_refl _) (fun k hk => by cases hk); have Hown := zJ2 hown; have Hb1 := zJ2 hb1; clear hown hgrow hb1)
 go_loopw [4] (fun at_ wr => ∃ k : Nat, k <= m /\ at_ = .int .i64 ((k : Int) - 1) /\ wr.ownsRow w.heap.size 5 1 (.slice (some ⟨w.heap.size, 0, none⟩) m m) m (backTo b k) /\ Below w.heap.size w wr) (fun at_ _ => (intOf at_ + 1).toNat)
 case atStart =>
  refine ⟨m, Nat.le_refl _, rfl, ?_, zJ1 Hb1⟩
  have := zJ1 Hown
  have e : (madeCells (Value.int .u8 0).cells (m * 1)).toList = backTo b m := by
   unfold backTo
   rw [List.drop_eq_nil_of_le (by rw [zJ1 Hbl]; exact Nat.le_refl _)]
   simp [bys, Value.cells, toList_madeCells_one]
  rwa [e] at this
 case round =>
 clear Hown Hb1
 obtain ⟨k, hk, rfl, hown, hb2⟩ := hrel
 have Hown := zJ2 hown
 have Hb2 := zJ2 hb2
 clear hown hb2
 by_cases hk0 : k = 0
 ·subst hk0
  go_wp2
  go_ret
  refine ⟨_, _, rfl, ?_, zJ1 Hb2⟩
  have := zJ1 Hown
  simpa [backTo] using this
 ·obtain ⟨j, rfl⟩ : ∃ j, k = j + 1 := ⟨k - 1, by omega⟩
  obtain ⟨x, hx⟩ : ∃ x, b[j]? = some x := ⟨_, List.getElem?_eq_getElem (by rw [zJ1 Hbl]; omega)⟩
  obtain ⟨ab, ao, rfl, hlt, hc⟩ := ((zJ1 Hb).below ((zJ1 Hb2).mono hB)).at_ (bys_at' hx)
  have hset := vJv (i := j) (zJ1 Hown) (.int .u8 x.toNat)
  rw [backTo_set hx] at hset
  have hcl : (backTo b (j + 1))[j]? = some (.int .u8 0) := by simp [backTo, List.getElem?_append]
  have hc2 := xJp (zJ1 Hown) hcl
  have hf2 := wJa (zJ1 Hown) j
  have hge := wJb (zJ1 Hown)
  have e1 : ((j + 1 : Nat) : Int) - 1 = (j : Int) := by omega
  rw [e1]
  have Hset := zJ2 hset
  clear hset hcl hx
  go_wp2
  go_roundw
  case rel => exact ⟨j, by omega, rfl, zJ1 Hset, (zJ1 Hb2).setCell (Nat.le_refl _) _⟩
  case measure => simp [intOf]
end Go.Proofs.YtnbecdahfgkffaaGreat
namespace Go.Proofs.YtnbecdahfgkffaaGreat.Wd
def top : Int := 18446744073709551615
theorem xor_top (b : Int) (h0 : 0 <= b) (h1 : b <= 18446744073709551615) : bits .xor .u64 IntKind.u64.max b = 18446744073709551615 - b := by
 obtain ⟨n, rfl⟩ := Int.eq_ofNat_of_zero_le h0
 have e : IntKind.u64.max = ((18446744073709551615 : Nat) : Int) := rfl
 rw [e, u64_xor_nat _ _ (by omega) (by omega)]
 have h2 : n < 2 ^ 64 := by omega
 have h3 : (18446744073709551615 : Nat) ^^^ n = 2 ^ 64 - 1 - n := by
  have h4 := BitVec.toNat_not (x := BitVec.ofNat 64 n)
  rw [<- BitVec.xor_allOnes, BitVec.toNat_xor, BitVec.toNat_ofNat, BitVec.toNat_allOnes, Nat.mod_eq_of_lt h2, Nat.xor_comm] at h4
  exact h4
 rw [h3]
 omega
theorem andNot_page (a : Int) (h0 : 0 <= a) (h1 : a <= 18446744073709551615) : bits .andNot .u64 a 4095 = a - a % 4096 := by
 obtain ⟨n, rfl⟩ := Int.eq_ofNat_of_zero_le h0
 have e : (4095 : Int) = ((4095 : Nat) : Int) := rfl
 rw [e, u64_andNot_nat _ _ (by omega) (by omega)]
 have h2 : n < 2 ^ 64 := by omega
 have h3 : n &&& (18446744073709551615 - 4095) = n - n % 4096 := by
  have h5 : (18446744073709551615 - 4095 : Nat) ^^^ 4095 = 2 ^ 64 - 1 := by decide
  have h6 : n &&& (2 ^ 64 - 1) = n := by rw [Nat.and_two_pow_sub_one_eq_mod]; exact Nat.mod_eq_of_lt h2
  have h7 : n &&& 4095 = n % 4096 := Nat.and_two_pow_sub_one_eq_mod n 12
  have h8 : (n &&& (18446744073709551615 - 4095)) + (n &&& 4095) = n := by
   have h9 : (n &&& (18446744073709551615 - 4095)) ||| (n &&& 4095) = n := by
    rw [<- Nat.and_or_distrib_left]
    have : (18446744073709551615 - 4095 : Nat) ||| 4095 = 2 ^ 64 - 1 := by decide
    rw [this, h6]
   have h10 : (n &&& (18446744073709551615 - 4095)) ||| (n &&& 4095) = (n &&& (18446744073709551615 - 4095)) + (n &&& 4095) := by
    refine nat_join 12 _ _ ?_ ?_
    ·have e2 : (18446744073709551615 - 4095 : Nat) = (2 ^ 52 - 1) <<< 12 := by decide
     rw [e2, <- Nat.and_two_pow_sub_one_eq_mod, Nat.and_assoc]
     have : ((2 ^ 52 - 1 : Nat) <<< 12) &&& (2 ^ 12 - 1) = 0 := by decide
     rw [this, Nat.and_zero]
    ·rw [h7]
     exact Nat.mod_lt _ (by decide)
   omega
  omega
 rw [h3]
 omega
def le : List UInt8 -> Nat
 | [] => 0
 | c :: r => c.toNat + 256 * le r
def num (b : List UInt8) (p n : Nat) : Nat := le ((b.drop p).take n)
theorem le_snoc (l : List UInt8) (c : UInt8) : le (l ++ [c]) = le l + 256 ^ l.length * c.toNat := by
 induction l with
 | nil => simp [le]
 | cons a r ih =>
  simp only [List.cons_append, le, ih, List.length_cons, Nat.pow_succ, Nat.mul_add]
  rw [Nat.add_assoc, <- Nat.mul_assoc, Nat.mul_comm 256 (256 ^ r.length)]
theorem le_lt (l : List UInt8) : le l < 256 ^ l.length := by
 induction l with
 | nil => simp [le]
 | cons a r ih =>
  have := a.toNat_lt
  simp only [le, List.length_cons, Nat.pow_succ]
  omega
theorem num_zero (b : List UInt8) (p : Nat) : num b p 0 = 0 := by simp [num, le]
theorem num_succ (b : List UInt8) (p n : Nat) (c : UInt8) (h : b[p + n]? = some c) : num b p (n + 1) = num b p n + 256 ^ n * c.toNat := by
 unfold num
 have hl : p + n < b.length := by
  rcases Nat.lt_or_ge (p + n) b.length with h1 | h1
  ·exact h1
  ·rw [List.getElem?_eq_none h1] at h; cases h
 rw [List.take_add_one, List.getElem?_drop, h]
 simp only [Option.toList_some]
 rw [le_snoc, List.length_take, List.length_drop, Nat.min_eq_left (by omega)]
theorem num_lt (b : List UInt8) (p n : Nat) : num b p n < 256 ^ n := by
 unfold num
 refine Nat.lt_of_lt_of_le (le_lt _) (Nat.pow_le_pow_right (by omega) (List.length_take_le _ _))
theorem or_step (x c i : Nat) (h : x < 256 ^ i) : x ||| (c * 2 ^ (8 * i)) = x + 256 ^ i * c := by
 have e : 2 ^ (8 * i) = 256 ^ i := by rw [Nat.pow_mul]
 rw [Nat.or_comm, e, nat_join (8 * i) (c * 256 ^ i) x (by rw [e]; exact Nat.mul_mod_left _ _) (by rw [e]; exact h)]
 rw [Nat.mul_comm, Nat.add_comm]
def memB (v : Int) (xs : List Int) : Bool := decide (v ∈ xs)
def sizedB (n : Int) : Bool := memB n [1, 2, 4, 8]
theorem sizedB_yes {n : Int} (h : n = 1 \/ n = 2 \/ n = 4 \/ n = 8) : sizedB n = true := by simpa [sizedB, memB] using h
theorem or_val (N x k : Nat) (h : N < 256 ^ k) (hx : x < 256) (hk : k < 8) :
  bits .or .u64 (N : Int) (IntKind.u64.wrap (IntKind.u64.wrap (x : Int) * 2 ^ (8 * k))) = ((N + 256 ^ k * x : Nat) : Int) := by
 have e1 : IntKind.u64.wrap (x : Int) = (x : Int) := by rw [IntKind.wrap_u64]; omega
 have hle : 2 ^ (8 * k) <= 2 ^ 56 := Nat.pow_le_pow_right (by omega) (by omega)
 have hp : x * 2 ^ (8 * k) < 18446744073709551616 := by
  have h1 : x * 2 ^ (8 * k) <= 255 * 2 ^ 56 := Nat.mul_le_mul (by omega) hle
  omega
 have e2 : ((x : Int) * 2 ^ (8 * k)) = ((x * 2 ^ (8 * k) : Nat) : Int) := by push_cast; rfl
 have e3 : IntKind.u64.wrap ((x * 2 ^ (8 * k) : Nat) : Int) = ((x * 2 ^ (8 * k) : Nat) : Int) := by rw [IntKind.wrap_u64]; omega
 have hN : N < 18446744073709551616 := by
  have h1 : (256 : Nat) ^ k <= 256 ^ 8 := Nat.pow_le_pow_right (by omega) (by omega)
  omega
 rw [e1, e2, e3, u64_or_nat _ _ hN hp, or_step N x k h]
end Go.Proofs.YtnbecdahfgkffaaGreat.Wd
namespace Go.Proofs.YtnbecdahfgkffaaGreat
open Go.RowKit
theorem add_yes (a b : Int) (w : World) (h0 : 0 <= a) (h2 : 0 <= b) (h : a + b <= 18446744073709551615) :
  Calls Tryz.prog 92 #[.int .u64 a, .int .u64 b] w fun e w' => e = .returned (.tuple #[.int .u64 (a + b), .bool true]) /\ w = w' := by
 obtain ⟨c, hc, hcb⟩ : ∃ c, bits .xor .u64 IntKind.u64.max b = c /\ c = 18446744073709551615 - b := ⟨_, rfl, Wd.xor_top b h2 (by omega)⟩
 have hc2 : ¬ c < a := by omega
 have hs : IntKind.u64.signed = false := rfl
 clear hcb
 go_enter Tryz.func92, Tryz.ntmps92
 go_wp2
 go_ret2
 exact ⟨rfl, rfl⟩
theorem add_no (a b : Int) (w : World) (h1 : a <= 18446744073709551615) (h2 : 0 <= b) (h3 : b <= 18446744073709551615) (h : 18446744073709551615 < a + b) :
  Calls Tryz.prog 92 #[.int .u64 a, .int .u64 b] w fun e w' => e = .returned (.tuple #[.int .u64 0, .bool false]) /\ w = w' := by
 obtain ⟨c, hc, hcb⟩ : ∃ c, bits .xor .u64 IntKind.u64.max b = c /\ c = 18446744073709551615 - b := ⟨_, rfl, Wd.xor_top b h2 (by omega)⟩
 have hc2 : c < a := by omega
 have hs : IntKind.u64.signed = false := rfl
 clear hcb
 go_enter Tryz.func92, Tryz.ntmps92
 go_wp2
 go_ret2
 exact ⟨rfl, rfl⟩
theorem zJk (a b c : Int) (w : World) (h0 : 0 <= a) (h1 : a <= 18446744073709551615) (h2 : 0 <= b) (h3 : b <= 18446744073709551615) (h5 : c <= 18446744073709551615) :
  Calls Tryz.prog 46 #[.int .u64 a, .int .u64 b, .int .u64 c] w fun e w' => e = .returned (.bool (decide (a + b <= c))) /\ w = w' := by
 by_cases h : a + b <= 18446744073709551615
 ·go_enter Tryz.func46, Tryz.ntmps46
  go_wp2_with (go_at_call 92; refine (add_yes _ _ _ h0 h2 h).mono ?_; rintro e w' ⟨rfl, rfl⟩)
  go_ret
  exact ⟨rfl, rfl⟩
 ·have h' : 18446744073709551615 < a + b := by omega
  have hr : decide (a + b <= c) = false := decide_eq_false (by omega)
  rw [hr]
  clear hr
  go_enter Tryz.func46, Tryz.ntmps46
  go_wp2_with (go_at_call 92; refine (add_no _ _ _ h1 h2 h3 h').mono ?_; rintro e w' ⟨rfl, rfl⟩)
  go_ret
  exact ⟨rfl, rfl⟩
def IdxInt (xs : List Int) (v : Int) (w : World) (e : Ending) (w' : World) : Prop := ∃ r : Int, e = .returned (.int .i64 r) /\ (0 <= r ↔ v ∈ xs) /\ w = w'
theorem indexInt_any (A : Option Addr) (n c B : Nat) (xs : List Int) (v : Int) (w : World) (hx : Rd w B 1 A n (xs.map (Value.int .i64))) (hn : n <= maxLen) :
  Calls Tryz.prog 143 #[.slice A n c, .int .i64 v] w (IdxInt xs v w) := by
 have hxl : xs.length = n := by simpa using hx.len1
 unfold maxLen at hn
 have Hx := zJ2 hx
 have Hxl := zJ2 hxl
 clear hx hxl
 go_enter Tryz.func143, Tryz.ntmps143
 go_wp2
 go_loop [8] (fun i => ∃ k : Nat, k <= n /\ i = .int .i64 k /\ v ∉ xs.take k) (fun i => n - (intOf i).toNat)
 case atStart => exact ⟨0, Nat.zero_le _, rfl, by simp⟩
 case round =>
  obtain ⟨k, hk, rfl, hv⟩ := hrel
  have Hv := zJ2 hv
  clear hv
  by_cases hlt : k < n
  ·obtain ⟨x, hxk⟩ : ∃ x, xs[k]? = some x := ⟨_, List.getElem?_eq_getElem (by rw [zJ1 Hxl]; exact hlt)⟩
   obtain ⟨b1, o1, rfl, _, c1⟩ := (zJ1 Hx).at_ (k := k) (u := .int .i64 x) (by simp [hxk])
   by_cases he : v = x
   ·have hb : (v == x) = true := by simpa using he
    have hm : v ∈ xs := by rw [he]; exact List.mem_of_getElem? hxk
    have Hm := zJ2 hm
    clear he hxk hm
    go_wp2
    go_ret
    exact ⟨k, rfl, ⟨fun _ => zJ1 Hm, fun _ => by omega⟩, rfl⟩
   ·have hb : (v == x) = false := by simpa using he
    have hm : v ∉ xs.take (k + 1) := by
     rw [List.take_add_one, hxk, List.mem_append]
     simp [he, zJ1 Hv]
    have Hm := zJ2 hm
    clear he hxk hm
    go_wp2
    go_round
    case rel => exact ⟨k + 1, by omega, by go_num, zJ1 Hm⟩
    case measure => simp [intOf]; omega
  ·have hm : v ∉ xs := by
    have := zJ1 Hv
    rwa [List.take_of_length_le (by have := zJ1 Hxl; omega)] at this
   have Hm := zJ2 hm
   clear hm
   go_wp2
   go_ret
   exact ⟨-1, rfl, ⟨fun h => by omega, fun h => absurd h (zJ1 Hm)⟩, rfl⟩
theorem uJ1 (A : Option Addr) (n c B : Nat) (xs : List Int) (v : Int) (w : World) (hx : Rd w B 1 A n (xs.map (Value.int .i64))) (hn : n <= maxLen) :
  Calls Tryz.prog 138 #[.slice A n c, .int .i64 v] w fun e w' => e = .returned (.bool (Wd.memB v xs)) /\ w = w' := by
 have Hx := zJ2 hx
 clear hx
 go_enter Tryz.func138, Tryz.ntmps138
 go_wp2_with (go_at_call 143; refine (indexInt_any _ _ _ _ _ _ _ (zJ1 Hx) hn).mono ?_; rintro e w1 ⟨r, rfl, hr, rfl⟩; have Hr := zJ2 hr; clear hr)
 go_ret
 refine ⟨yJq ?_, rfl⟩
 unfold Wd.memB
 rw [Bool.eq_iff_iff, decide_eq_true_eq, decide_eq_true_eq]
 exact zJ1 Hr
theorem sized_any (n : Int) (w : World) :
  Calls Tryz.prog 127 #[.int .i64 n] w fun e w' => e = .returned (.bool (Wd.sizedB n)) /\ Below w.heap.size w w' := by
 have hr := Rd.row (w := w) (cs := #[.int .i64 1, .int .i64 2, .int .i64 4, .int .i64 8]) (e := 212) (size := 4) rfl
 have hr2 : Rd (w.alloc (.cells #[.int .i64 1, .int .i64 2, .int .i64 4, .int .i64 8] 212)) (w.heap.size + 1) 1 (some ⟨w.heap.size, 0, none⟩) 4 (([1, 2, 4, 8] : List Int).map (Value.int .i64)) := ⟨rfl, hr.2⟩
 have Hr := zJ2 hr2
 clear hr hr2
 go_enter Tryz.func127, Tryz.ntmps127
 go_wp2_with (go_at_call 138; refine (uJ1 _ _ _ _ _ _ _ (zJ1 Hr) (by unfold maxLen; omega)).mono ?_; rintro e w1 ⟨rfl, rfl⟩)
 go_ret
 exact ⟨rfl, (Below.refl _ _).alloc (Nat.le_refl _) _⟩
theorem check_yes (A : Option Addr) (m c : Nat) (p s : Int) (w : World) (hm : m <= maxLen) (hs : s = 1 \/ s = 2 \/ s = 4 \/ s = 8) (h0 : 0 <= p) (hp : p <= 18446744073709551615) (hin : p + s <= m) :
  Calls Tryz.prog 119 #[.slice A m c, .int .u64 p, .int .i64 s] w fun e w' => e = .returned (.int .i64 0) /\ Below w.heap.size w w' := by
 unfold maxLen at hm
 have hd : Wd.sizedB s = true := Wd.sizedB_yes hs
 have hd2 : decide (p + s <= (m : Int)) = true := by simpa using hin
 have hs1 : 1 <= s := by omega
 have hs8 : s <= 8 := by omega
 clear hs
 go_enter Tryz.func119, Tryz.ntmps119
 go_wp2_with (first
  | (go_at_call 127; refine (sized_any _ _).mono ?_; rintro e w1 ⟨rfl, hb1⟩)
  | (go_at_call 46; refine (zJk _ _ _ _ h0 hp (by omega) (by omega) (by omega)).mono ?_; rintro e w2 ⟨rfl, rfl⟩))
 go_ret
 exact ⟨rfl, hb1⟩
set_option maxHeartbeats 800000 in
theorem get_loop (A : Option Addr) (m c : Nat) (B : Nat) (b : List UInt8) (p s : Nat) (w : World) (hB : B <= w.heap.size) (hb : Rd w B 1 A m (b.map fun c => .int .u8 c.toNat)) (hm : m <= maxLen) (hs : s = 1 \/ s = 2 \/ s = 4 \/ s = 8) (hin : p + s <= m)
  (hck : ∀ w, Calls Tryz.prog 119 #[.slice A m c, .int .u64 p, .int .i64 s] w fun e w' => e = .returned (.int .i64 0) /\ Below w.heap.size w w') :
  Calls Tryz.prog 91 #[.slice A m c, .int .u64 p, .int .i64 s] w fun e w' => e = .returned (.tuple #[.int .u64 (Wd.num b p s), .int .i64 0]) /\ Below w.heap.size w w' := by
 have hs8 : s <= 8 := by omega
 have hbl : b.length = m := by simpa using hb.len1
 unfold maxLen at hm
 have Hb := zJ2 hb
 have Hck := zJ2 hck
 have Hbl := zJ2 hbl
 clear hb hck hs hbl
 go_enter Tryz.func91, Tryz.ntmps91
 go_wp2_with (go_at_call 119; refine ((zJ1 Hck) _).mono ?_; rintro e w1 ⟨rfl, hb1⟩)
 go_loop [6, 18] (fun x i => ∃ k : Nat, k <= s /\ i = .int .i64 k /\ x = .int .u64 (Wd.num b p k)) (fun _ i => s - (intOf i).toNat)
 case atStart => exact ⟨0, Nat.zero_le _, rfl, by rw [Wd.num_zero]; rfl⟩
 case round =>
  obtain ⟨k, hk, rfl, rfl⟩ := hrel
  by_cases hlt : k < s
  ·obtain ⟨x, hx⟩ : ∃ x, b[p + k]? = some x := ⟨_, List.getElem?_eq_getElem (by rw [zJ1 Hbl]; omega)⟩
   obtain ⟨b1, o1, rfl, _, c1⟩ := ((zJ1 Hb).below (hb1.mono hB)).at_ (k := p + k) (u := .int .u8 x.toNat) (by simp [hx])
   have hst := Wd.num_succ b p k x hx
   have hlt2 := Wd.num_lt b p s
   have Hst := zJ2 hst
   have hval := Wd.or_val (Wd.num b p k) x.toNat k (Wd.num_lt b p k) x.toNat_lt (by omega)
   rw [<- hst] at hval
   have Hval := zJ2 hval
   clear hst hx hlt2 hval
   go_wp2
   go_round
   case rel => exact ⟨k + 1, by omega, by go_num, by rw [zJ1 Hval]⟩
   case measure => simp [intOf]; omega
  ·obtain rfl : k = s := by omega
   go_wp2
   go_ret2
   exact ⟨rfl, hb1⟩
theorem get_yes (A : Option Addr) (m c : Nat) (B : Nat) (b : List UInt8) (p s : Nat) (w : World) (hB : B <= w.heap.size) (hb : Rd w B 1 A m (b.map fun c => .int .u8 c.toNat)) (hm : m <= maxLen) (hs : s = 1 \/ s = 2 \/ s = 4 \/ s = 8) (hin : p + s <= m) :
  Calls Tryz.prog 91 #[.slice A m c, .int .u64 p, .int .i64 s] w fun e w' => e = .returned (.tuple #[.int .u64 (Wd.num b p s), .int .i64 0]) /\ Below w.heap.size w w' :=
 get_loop A m c B b p s w hB hb hm hs hin fun w => check_yes A m c p s w hm (by omega) (by omega) (by unfold maxLen at hm; omega) (by omega)
end Go.Proofs.YtnbecdahfgkffaaGreat
namespace Go.Proofs.YtnbecdahfgkffaaGreat.Pth
def pcsL (s : ByteArray) : List UInt8 -> Nat -> Nat -> List ByteArray
 | [], i, f => [s.extract f i]
 | c :: r, i, f => if c = 47 then s.extract f i :: pcsL s r (i + 1) (i + 1) else pcsL s r (i + 1) f
def pcs (s : ByteArray) : List ByteArray := pcsL s s.data.toList 0 0
def pcsAt (s : ByteArray) (i f : Nat) : List ByteArray := pcsL s (s.data.toList.drop i) i f
theorem drop_cons (s : ByteArray) (i : Nat) (h : i < s.size) : s.data.toList.drop i = s[i] :: s.data.toList.drop (i + 1) := by
 have h' : i < s.data.toList.length := by simpa using h
 rw [List.drop_eq_getElem_cons h']
 rfl
theorem pcsAt_end (s : ByteArray) (f : Nat) : pcsAt s s.size f = [s.extract f s.size] := by
 unfold pcsAt
 rw [List.drop_of_length_le (by simp)]
 rfl
theorem pcsAt_slash (s : ByteArray) (i f : Nat) (h : i < s.size) (hc : s[i] = 47) : pcsAt s i f = s.extract f i :: pcsAt s (i + 1) (i + 1) := by
 unfold pcsAt
 rw [drop_cons s i h]
 simp [pcsL, hc]
theorem pcsAt_skip (s : ByteArray) (i f : Nat) (h : i < s.size) (hc : s[i] ≠ 47) : pcsAt s i f = pcsAt s (i + 1) f := by
 unfold pcsAt
 rw [drop_cons s i h]
 simp [pcsL, hc]
theorem pcsAt_skips (s : ByteArray) (f : Nat) (d : Nat) : ∀ i, (∀ j, i <= j -> j < i + d -> ∃ h : j < s.size, s[j] ≠ 47) -> pcsAt s i f = pcsAt s (i + d) f := by
 induction d with
 | zero => intro i _; rfl
 | succ d ih =>
  intro i h
  obtain ⟨hi, hc⟩ := h i (Nat.le_refl _) (by omega)
  rw [pcsAt_skip s i f hi hc, ih (i + 1) (fun j h1 h2 => h j (by omega) (by omega))]
  congr 1
  omega
theorem get_at (s : ByteArray) (pos k : Nat) (h : pos + k < s.size) : s.get! (pos + k) = s[pos + k]'h := by
 simp [ByteArray.get!, getElem!_pos, h]
 rfl
theorem high_ne (c : UInt8) (h : c.toNat / 64 = 2) : c ≠ 47 := by
 intro e
 subst e
 simp at h
theorem decode_cover (s : ByteArray) (pos : Nat) (h : pos < s.size) :
  1 <= (Utf8.decode s pos).2 /\ pos + (Utf8.decode s pos).2 <= s.size /\ ((Utf8.decode s pos).1 = 47 ↔ s[pos] = 47) /\ (s[pos] = 47 -> (Utf8.decode s pos).2 = 1) /\
  (s[pos] ≠ 47 -> ∀ j, pos <= j -> j < pos + (Utf8.decode s pos).2 -> ∃ hj : j < s.size, s[j] ≠ 47) := by
 have e0 : s.get! (pos + 0) = s[pos] := get_at s pos 0 (by simpa using h)
 have eq47 : s[pos] = 47 ↔ s[pos].toNat = 47 := by
  constructor
  ·intro e; rw [e]; rfl
  ·intro e; exact UInt8.toNat_inj.1 (by rw [e]; rfl)
 by_cases ha : s[pos].toNat < 128
 ·have hd : Utf8.decode s pos = (s[pos].toNat, 1) := decode_ascii s pos h ha
  rw [hd]
  refine ⟨Nat.le_refl _, by simp only; omega, by simp only [eq47], fun _ => rfl, fun hn j h1 h2 => ?_⟩
  obtain rfl : j = pos := by simp only at h2; omega
  exact ⟨h, hn⟩
 ·have hn47 : s[pos] ≠ 47 := by rw [ne_eq, eq47]; omega
  have key : ∃ c d, Utf8.decode s pos = (c, d) /\ 1 <= d /\ pos + d <= s.size /\ c ≠ 47 /\ ∀ k, 1 <= k -> k < d -> pos + k < s.size /\ (s.get! (pos + k)).toNat / 64 = 2 := by
   simp only [Utf8.decode, e0, ha, if_false]
   repeat' split
   all_goals (refine ⟨_, _, rfl, by omega, ?_, ?_, ?_⟩)
   all_goals simp only [Bool.and_eq_true, decide_eq_true_eq, beq_iff_eq] at *
   all_goals first
    | omega
    | (simp [Utf8.runeError]; done)
    | (intro k h1 h2; omega)
    | (intro k h1 h2
       have hk : k = 1 \/ k = 2 \/ k = 3 := by omega
       rcases hk with rfl | rfl | rfl <;> first | (exfalso; omega) | (refine ⟨?_, ?_⟩ <;> omega))
  obtain ⟨c, d, hd, h1, h2, h3, h4⟩ := key
  rw [hd]
  refine ⟨h1, h2, by simp [h3, hn47], fun e => absurd e hn47, fun _ j hj1 hj2 => ?_⟩
  rcases Nat.eq_or_lt_of_le hj1 with rfl | hlt
  ·exact ⟨h, hn47⟩
  ·obtain ⟨k, rfl⟩ : ∃ k, j = pos + k := ⟨j - pos, by omega⟩
   obtain ⟨hs, hh⟩ := h4 k (by omega) (by simpa using hj2)
   refine ⟨hs, ?_⟩
   rw [get_at s pos k hs] at hh
   exact high_ne _ hh
def goF {S : Type} (step : S -> ByteArray -> S × Bool) : S -> List ByteArray -> S
 | s, [] => s
 | s, x :: r => if (step s x).2 then goF step (step s x).1 r else (step s x).1
def tooLong (x : ByteArray) : Bool := decide (32 < x.size)
def chk (p : ByteArray) : Int :=
 if p.size = 0 then 3 else if p.data.toList.contains 0 then 1 else if 200 < p.size then 11 else if (pcs p).any tooLong then 11 else 0
def checkStep (e : Int) (x : ByteArray) : Int × Bool := if 32 < x.size then (11, false) else (e, e == 0)
theorem goF_check (l : List ByteArray) : goF checkStep 0 l = if l.any tooLong then 11 else 0 := by
 induction l with
 | nil => rfl
 | cons x r ih =>
  by_cases h : 32 < x.size
  ·simp [goF, checkStep, h, tooLong]
  ·simp [goF, checkStep, h, tooLong, ih]
def isPart (x : ByteArray) : Bool := !(x.data.toList == []) && !(x.data.toList == [46])
def parts (p : ByteArray) : List ByteArray := (pcs p).filter isPart
theorem chk_size (p : ByteArray) (h : chk p = 0) : p.size <= 200 := by
 unfold chk at h
 repeat' split at h
 all_goals first | omega | (cases h)
/-! ### Join, Base, Dir, Tail -/
def slash : ByteArray := ⟨#[47]⟩
end Go.Proofs.YtnbecdahfgkffaaGreat.Pth
namespace Go.Proofs.YtnbecdahfgkffaaGreat.Cl
open Go.Proofs.YtnbecdahfgkffaaGreat
structure C where
 kind : Nat
 a : Nat
 b : Nat
 c : Nat
 d : Nat
 e : Nat
 path : ByteArray
 argv : List ByteArray
 env : List ByteArray
 bytes : List UInt8
def fsN : Nat -> List Nat
 | 1 => [5, 6, 7]
 | 3 => [0]
 | 5 => [0, 1, 2, 3, 4]
 | 6 => [0, 1]
 | 7 => [0, 1, 2]
 | 8 => [0, 1]
 | 9 => [0, 8]
 | 10 => [5, 0]
 | 11 => [0]
 | 12 => [0, 1]
 | _ => []
def num (c : C) : Nat -> Nat
 | 0 => c.a
 | 1 => c.b
 | 2 => c.c
 | 3 => c.d
 | _ => c.e
def emptyB (c : C) : Nat -> Bool
 | 5 => decide (c.path.size = 0)
 | 6 => decide (c.argv.length = 0)
 | 7 => decide (c.env.length = 0)
 | 8 => decide (c.bytes.length = 0)
 | f => num c f == 0
def fieldB (c : C) (f : Nat) : Bool := (fsN c.kind).contains f || emptyB c f
def onlyB (c : C) : Bool := (List.range 9).all (fieldB c)
def bigT (s : ByteArray) : Bool := decide (256 < s.size)
def zeroT (s : ByteArray) : Bool := s.data.toList.contains 0
def envCk (l : List ByteArray) : Int := if 32 < l.length then 12 else if l.any bigT then 12 else if l.any zeroT then 1 else 0
def fst2 (a b : Int) : Int := if a = 0 then b else a
def check (c : C) : Int :=
 if c.kind = 0 \/ 12 < c.kind then 23 else if onlyB c = false then 1
 else if c.kind = 1 then fst2 (Pth.chk c.path) (fst2 (envCk c.argv) (envCk c.env))
 else if c.kind = 8 \/ c.kind = 12 then (if 4096 < c.b then 12 else 0)
 else if c.kind = 9 then (if 4096 < c.bytes.length then 12 else 0)
 else if c.kind = 10 then fst2 (Pth.chk c.path) (if 1 < c.a then 1 else 0)
 else 0
end Go.Proofs.YtnbecdahfgkffaaGreat.Cl
namespace Go.Proofs.YtnbecdahfgkffaaGreat.Cl
open Go.Proofs.YtnbecdahfgkffaaGreat
def lb : Nat -> Nat -> List UInt8
 | _, 0 => []
 | x, n + 1 => UInt8.ofNat (x % 256) :: lb (x / 256) n
theorem lb_len (n x : Nat) : (lb x n).length = n := by
 induction n generalizing x with
 | zero => rfl
 | succ n ih => simp [lb, ih]
theorem uJ6 (n x : Nat) (h : x < 256 ^ n) : Wd.le (lb x n) = x := by
 induction n generalizing x with
 | zero => simp at h; subst h; rfl
 | succ n ih =>
  rw [Nat.pow_succ] at h
  simp only [lb, Wd.le]
  rw [ih (x / 256) (by omega)]
  have e : (UInt8.ofNat (x % 256)).toNat = x % 256 := by simp
  omega
def bl (s : ByteArray) : List UInt8 := s.data.toList
def ba (l : List UInt8) : ByteArray := ⟨l.toArray⟩
structure R where
 b : List UInt8
 gone : Bool
def take (r : R) (n : Nat) : List UInt8 × R := if r.gone = true \/ r.b.length < n then ([], ⟨r.b, true⟩) else (r.b.take n, ⟨r.b.drop n, false⟩)
def rnum (r : R) (s : Nat) : Nat × R := (Wd.le (take r s).1, (take r s).2)
def rtxt (r : R) : List UInt8 × R := take (rnum r 2).2 (rnum r 2).1
def rtxts : Nat -> R -> List ByteArray × R
 | 0, r => ([], r)
 | n + 1, r => if r.gone = true then ([], r) else (ba (rtxt r).1 :: (rtxts n (rtxt r).2).1, (rtxts n (rtxt r).2).2)
def rlst (r : R) : List ByteArray × R := rtxts (rnum r 1).1 (rnum r 1).2
def rfld (s : C × R) : Nat -> C × R
 | 5 => ({ s.1 with path := ba (rtxt s.2).1 }, (rtxt s.2).2)
 | 6 => ({ s.1 with argv := (rlst s.2).1 }, (rlst s.2).2)
 | 7 => ({ s.1 with env := (rlst s.2).1 }, (rlst s.2).2)
 | 8 => ({ s.1 with bytes := (rtxt s.2).1 }, (rtxt s.2).2)
 | 0 => ({ s.1 with a := (rnum s.2 8).1 }, (rnum s.2 8).2)
 | 1 => ({ s.1 with b := (rnum s.2 8).1 }, (rnum s.2 8).2)
 | 2 => ({ s.1 with c := (rnum s.2 8).1 }, (rnum s.2 8).2)
 | 3 => ({ s.1 with d := (rnum s.2 8).1 }, (rnum s.2 8).2)
 | _ => ({ s.1 with e := (rnum s.2 8).1 }, (rnum s.2 8).2)
def rflds : List Nat -> C × R -> C × R
 | [], s => s
 | f :: r, s => rflds r (rfld s f)
def zeroC : C := ⟨0, 0, 0, 0, 0, 0, ba [], [], [], []⟩
def kindC (k : Nat) : C := ⟨k, 0, 0, 0, 0, 0, ba [], [], [], []⟩
def rall (k : Nat) (b : List UInt8) : C × R := rflds (fsN k) (kindC k, ⟨b, false⟩)
def read : List UInt8 -> C × Nat × Int
 | [] => (zeroC, 0, 24)
 | k :: r => if k.toNat = 0 \/ 12 < k.toNat then (zeroC, 0, 23)
   else if (rall k.toNat r).2.gone = true then (zeroC, 0, 24)
   else if check (rall k.toNat r).1 = 0 then ((rall k.toNat r).1, r.length + 1 - (rall k.toNat r).2.b.length, 0)
   else (zeroC, 0, check (rall k.toNat r).1)
def Went (r r' : R) (x : List UInt8) : Prop := r.gone = false /\ r'.gone = false /\ r.b = x ++ r'.b
theorem Went.trans {a b c : R} {x y : List UInt8} (h : Went a b x) (k : Went b c y) : Went a c (x ++ y) :=
 ⟨h.1, k.2.1, by rw [h.2.2, k.2.2, List.append_assoc]⟩
def more (t : List UInt8) (r : R) : R := ⟨r.b ++ t, r.gone⟩
end Go.Proofs.YtnbecdahfgkffaaGreat.Cl
namespace Go.Proofs.YtnbecdahfgkffaaGreat
open Go.RowKit
section
variable {P : Program} {t e : TypeId} {size bytes : Nat}
theorem zJl (T : SlTy P t e size bytes) {W : World} {ops : Array Oper} {rest : List Oper} {o : Oper} {a : Act} {Q : Exit -> Act -> World -> Prop} (hgd : o.guard = none) (s x : Operand)
  (ho : o.op = .call { callee := .builtin .append, args := #[s, x], argTypes := #[t, t] })
  (base : Nat) (v : Value) (n : Nat) (xs : List Value) (hs : a.eval s = v) (hown : W.ownsRow base e size v n xs)
  (cs : Array Value) (g : Nat) (hx : a.eval x = .slice (some ⟨g, 0, none⟩) 1 1) (hg : g = W.heap.size) (hcs : cs.size = size) (h1 : ∀ u ∈ cs.toList, u.oneCell' = true)
  (hb : (n + 1) * bytes <= 140737488355328) (hbase : base <= W.heap.size)
  (h : ∀ A' c' w', w'.ownsRow base e size (.slice A' (n + 1) c') (n + 1) (xs ++ cs.toList) -> W.grownBy w' v.ownBlock -> (∀ k, (Value.slice A' (n + 1) c').ownBlock = some k -> v.ownBlock = some k \/ W.heap.size <= k) -> wpList P ops Q rest (a.put o.dst (.slice A' (n + 1) c')) w') : wpList P ops Q (o :: rest) a (W.alloc (.cells cs e)) := by
 subst hg
 exact wpList_app1 T hgd s x ho base v n xs hs hown cs hx hcs h1 hb hbase h
end
open Go.RowKit
theorem nilq (w : World) (a : Option Addr) (n c n' c' : Nat) : (binOp .eql 24 (.slice a n c) (.slice none n' c')).run Tryz.prog w = .ok (.bool a.isNone) w := Lib.run_eql_slice_nil w _ _ a n c n' c' Tryz.underlying24
theorem own_empty (w : World) (e : TypeId) (base : Nat) (hb : base <= w.heap.size) : (w.alloc (.cells #[] e)).ownsRow base e 1 (.slice (some ⟨w.heap.size, 0, none⟩) 0 0) 0 [] :=
 ⟨rfl, .inr ⟨w.heap.size, 0, #[], rfl, hb, heap_alloc_new _ _, Nat.le_refl _, by decide, rfl, rfl⟩⟩
theorem grown_below {w w1 w2 : World} {row : Option Nat} (hb : Below w.heap.size w w1) (hg : w1.grownBy w2 row) (hr : ∀ k, row = some k -> w.heap.size <= k) : Below w.heap.size w w2 := hb.grown hg hb.size hr
set_option maxRecDepth 100000 in
set_option maxHeartbeats 1000000 in
theorem clone_any (A : Option Addr) (m c B : Nat) (b : List UInt8) (w : World) (hB : B <= w.heap.size) (hb : Rd w B 1 A m (bys b)) (hm : m <= 4294967296) (hA : A ≠ none) :
  Calls Tryz.prog 125 #[.slice A m c] w fun e w' => ∃ A' c', e = .returned (.slice A' m c') /\ w'.ownsRow w.heap.size 5 1 (.slice A' m c') m (bys b) /\ Below w.heap.size w w' := by
 obtain ⟨ad, rfl⟩ : ∃ ad, A = some ad := by cases A with | none => exact absurd rfl hA | some ad => exact ⟨ad, rfl⟩
 have Hb := zJ2 hb
 clear hb hA
 have q22 := nilq
 go_enter Tryz.func125, Tryz.ntmps125
 go_wp2_with (first
  | (at_builtin; refine zJq vJ3 rfl _ _ rfl w.heap.size (.slice (some ⟨w.heap.size, 0, none⟩) 0 0) 0 [] rfl (own_empty w _ _ (Nat.le_refl _)) B (some ad) m c (bys b) rfl ((zJ1 Hb).alloc hB _) (xJc b) (by omega) (by simp) ?_; intro A2 c2 w1 hown hgrow hat; have Hb1 := zJ2 (grown_below ((Below.refl w.heap.size w).alloc (Nat.le_refl _) _) hgrow (fun k hk => (by simp [Value.ownBlock] at hk; omega))); have Hown := zJ2 hown; clear hgrow hat hown))
 go_ret
 have h := zJ1 Hown
 simp only [Nat.zero_add, List.nil_append] at h
 exact ⟨A2, c2, by simp, h, zJ1 Hb1⟩
def setK (b : List UInt8) (p x : Nat) : Nat -> List UInt8
 | 0 => b
 | i + 1 => (setK b p x i).set (p + i) (UInt8.ofNat (x / 256 ^ i % 256))
theorem setK_len (b : List UInt8) (p x i : Nat) : (setK b p x i).length = b.length := by
 induction i with
 | zero => rfl
 | succ i ih => simp [setK, ih]
theorem lb_snoc (n x : Nat) : Cl.lb x (n + 1) = Cl.lb x n ++ [UInt8.ofNat (x / 256 ^ n % 256)] := by
 induction n generalizing x with
 | zero => simp [Cl.lb]
 | succ n ih =>
  have e : Cl.lb x (n + 1 + 1) = UInt8.ofNat (x % 256) :: Cl.lb (x / 256) (n + 1) := rfl
  rw [e, ih (x / 256), Nat.div_div_eq_div_mul, Nat.pow_succ, Nat.mul_comm 256]
  rfl
theorem setK_zero (s x i : Nat) (h : i <= s) : setK (List.replicate s 0) 0 x i = Cl.lb x i ++ List.replicate (s - i) 0 := by
 induction i with
 | zero => simp [setK, Cl.lb]
 | succ i ih =>
  have e : s - i = (s - (i + 1)) + 1 := by omega
  rw [setK, ih (by omega), lb_snoc, e, List.replicate_succ, Nat.zero_add, List.set_append_right _ _ (by rw [Cl.lb_len]; exact Nat.le_refl _), Cl.lb_len, Nat.sub_self, List.set_cons_zero, List.append_assoc]
  rfl
theorem uJq (s x : Nat) : setK (List.replicate s 0) 0 x s = Cl.lb x s := by
 rw [setK_zero s x s (Nat.le_refl _), Nat.sub_self]
 simp
section
variable {P : Program}
theorem appS_at {w w' : World} {base : Nat} {t u ty e : TypeId} {i : TypeInfo} (ht : P.underlying t = some (.slice e)) (hu : P.underlying u = some .string) (hi : P.info? e = some i) (hz : i.zero = some (.int .u8 0))
  (hs : i.size = 1) (hby : i.bytes = 1) {v v' : Value} {n : Nat} {xs : List Value} (hown : w.ownsRow base e 1 v n xs) {s : ByteArray} (hb : n + s.size <= 140737488355328)
  (hr : (Builtin.append_ #[t, u] ty #[v, .string s]).run P w = .ok v' w') : ∀ k, v'.ownBlock = some k -> v.ownBlock = some k \/ w.heap.size <= k := by
 have hl := hown.1
 rcases hown.2 with ⟨rfl, rfl⟩ | ⟨g, cap, cur, rfl, h1, h2, h3, h4, h5, h6⟩
 ·by_cases h0 : s.size = 0
  ·have hf := Lib.run_firstCells_string (P := P) w 1 s
   rw [h0] at hf
   have hn : Lib.strCells s = [] := List.eq_nil_of_length_eq_zero (by rw [Lib.strCells_length]; exact h0)
   rw [hn] at hf
   simp [Builtin.append_, run_underlying ht, run_underlying hu, sizeOf, typeInfo, hi, hs, Builtin.lenOf, h0, hf] at hr
   obtain ⟨rfl, rfl⟩ := hr
   intro k hk
   cases hk
  ·rw [run_append_nil_string (P := P) w t u ty e i (.int .u8 0) ht hu hi hz s (by omega) (by omega) (by rw [hby]; omega)] at hr
   injection hr with e1 e2
   subst e1
   intro k hk
   simp [Value.ownBlock] at hk
   exact .inr (by omega)
 ·by_cases hroom : n + s.size <= cap
  ·rw [Lib.run_append_room_string (P := P) w t u ty e i ht hu hi hs g n cap cur h2 s hroom (by omega)] at hr
   injection hr with e1 e2
   subst e1
   exact fun k hk => .inl hk
  ·have hc : ∀ j u, xs[j]? = some u -> w.cell? ((⟨g, 0, none⟩ : Addr).add j) = some u := hown.cells (g := g) rfl
   rw [Lib.run_append_grow_string (P := P) w t u ty e i (.int .u8 0) ht hu hi hz ⟨g, 0, none⟩ n cap xs (by rw [hs]; exact hl) hc s (by omega) (by omega) (by rw [hby]; exact growslice_fits (by omega) (by omega))] at hr
   injection hr with e1 e2
   subst e1
   intro k hk
   simp [Value.ownBlock] at hk
   exact .inr (by omega)
end
theorem strTyp : Tryz.prog.underlying 9 = some .string := Tryz.underlying9
theorem wpList_appS {w : World} {ops : Array Oper} {rest : List Oper} {o : Oper} {a : Act} {Q : Exit -> Act -> World -> Prop} (hgd : o.guard = none) (sl x : Operand)
  (ho : o.op = .call { callee := .builtin .append, args := #[sl, x], argTypes := #[24, 9] })
  (base : Nat) (v : Value) (n : Nat) (xs : List UInt8) (hs : a.eval sl = v) (hown : w.ownsRow base 5 1 v n (bys xs)) (s : ByteArray) (hx : a.eval x = .string s)
  (hb : n + s.size <= 140737488355328) (hbase : base <= w.heap.size)
  (h : ∀ A' c' w', Grew w w' base v (.slice A' (n + s.size) c') (n + s.size) (xs ++ s.data.toList) -> wpList Tryz.prog ops Q rest (a.put o.dst (.slice A' (n + s.size) c')) w') : wpList Tryz.prog ops Q (o :: rest) a w := by
 obtain ⟨i, hi, hz0, hz1, hz2⟩ := info_parts yJw
 refine wpList_plain hgd fun K hK => ?_
 obtain ⟨v', w', hr, h2, h3, h4⟩ := Lib.run_append_own_string (P := Tryz.prog) w base 24 9 o.type 5 i Tryz.underlying24 strTyp hi hz0 hz1 hz2 v n (bys xs) hown s (by unfold maxLen; omega) hb hbase
 have h5 := appS_at Tryz.underlying24 strTyp hi hz0 hz1 hz2 hown hb hr
 obtain ⟨A', c', rfl⟩ := yJt h2
 unfold Oper.wp execOp
 simp only [ho, resolve, invoke, builtin, Sem.run_bind, Sem.run_pure, Result.andThen_ok, List.map_toArray, List.map_cons, List.map_nil, hs, hx, hr]
 refine hK _ _ (h A' c' w' ⟨?_, h3, h5⟩)
 rw [xJ0]
 exact h2
open Go.RowKit
def Blk (w : World) (g : Nat) (t : TypeId) (l : List Value) : Prop := w.heap[g]? = some (.cells l.toArray t (0, 0))
section
variable {w w' : World} {g g' B i : Nat} {t : TypeId} {l : List Value} {u : Value}
theorem Blk.cell (h : Blk w g t l) (hi : l[i]? = some u) : w.cell? ⟨g, i, none⟩ = some u := by
 rw [cell_of_row _ _ _ _ _ _ h]
 simpa using hi
theorem Blk.free (h : Blk w g t l) (i : Nat) : w.frozen? ⟨g, i, none⟩ = false := frozen_of_row _ _ _ _ _ h
theorem Blk.set (h : Blk w g t l) (i : Nat) (u : Value) : Blk (w.setCell ⟨g, i, none⟩ u) g t (l.set i u) := by
 have h1 := heap_setCell_same _ _ i _ _ u h
 unfold Blk
 rw [h1]
 simp [List.setIfInBounds_toArray]
theorem Blk.below (h : Blk w g t l) (hb : Below B w w') (hg : g < B) : Blk w' g t l := (hb.block g hg).trans h
theorem Blk.lt (h : Blk w g t l) : g < w.heap.size := lt_of_block h
theorem Blk.belowSz (h : Blk w g t l) (hb : Below w.heap.size w w') : Blk w' g t l := h.below hb h.lt
theorem Blk.drewN (h : Blk w g t l) (k : Nat) : Blk (w.drewN k) g t l := h
theorem Blk.drew (h : Blk w g t l) : Blk w.drew g t l := h
theorem Blk.alloc (h : Blk w g t l) (o : Obj) : Blk (w.alloc o) g t l := h.belowSz ((Below.refl _ _).alloc (Nat.le_refl _) o)
theorem Blk.new (w : World) (t : TypeId) (l : List Value) : Blk (w.alloc (.cells l.toArray t)) w.heap.size t l := heap_alloc_new _ _
theorem Blk.other (h : Blk w g t l) {p : Addr} (hp : p.block ≠ g) (u : Value) : Blk (w.setCell p u) g t l := (heap_setCell_other _ _ _ _ hp.symm).trans h
end
open Go.RowKit
theorem xJ2 {w w' : World} {base : Nat} {e : TypeId} {size n : Nat} {v : Value} {xs : List Value} {row : Option Nat} (h : w.ownsRow base e size v n xs) (hg : w.grownBy w' row) (hne : ∀ g, v.ownBlock = some g -> row ≠ some g) : w'.ownsRow base e size v n xs := by
 refine ⟨h.1, h.2.imp id ?_⟩
 rintro ⟨g, cap, cur, rfl, e2, e3, r⟩
 exact ⟨g, cap, cur, rfl, e2, (hg.block g (lt_of_block e3) (fun e => hne g rfl e.symm)).trans e3, r⟩
theorem uJf {w : World} {base : Nat} {e : TypeId} {n m c : Nat} {A : Option Addr} {xs ys : List Value} (h : w.ownsRow base e 1 (.slice A (n + m) c) (n + m) (xs ++ ys)) (hl : xs.length = n) : w.ownsRow base e 1 (.slice A n c) n xs := by
 refine ⟨by omega, ?_⟩
 rcases h.2 with ⟨h1, h2⟩ | ⟨g, cap, cur, h1, h2, h3, h4, h5, h6, h7⟩
 ·injection h1 with e1 e2 e3
  have hn : n = 0 := by omega
  subst e1 e3 hn
  exact .inl ⟨rfl, rfl⟩
 ·injection h1 with e1 e2 e3
  subst e1 e3
  refine .inr ⟨g, c, cur, rfl, h2, h3, by omega, h5, h6, ?_⟩
  have h8 := congrArg (List.take (n * 1)) h7
  rw [List.take_take, Nat.min_eq_left (by omega)] at h8
  rw [h8, List.take_append_of_le_length (by omega), List.take_of_length_le (by omega)]
structure Gone (w wr : World) (base : Nat) (A : Option Addr) (n c : Nat) (xs : List UInt8) (mark : UInt8) (k : Nat) (A' : Option Addr) (c' : Nat) : Prop where
 grew : Grew w wr base (.slice A n c) (.slice A' (n + k) c') (n + k) (xs ++ List.replicate k mark)
 old : (A' = A /\ c' = c) \/ (wr.ownsRow base 5 1 (.slice A n c) n (bys xs) /\ ∀ g, (Value.slice A n c).ownBlock = some g -> (Value.slice A' (n + k) c').ownBlock ≠ some g)
section
variable {w wr w' : World} {base n c k c' c'' : Nat} {A A' A'' : Option Addr} {xs : List UInt8} {mark : UInt8}
theorem Gone.keeps (h : Gone w wr base A n c xs mark k A' c') : wr.ownsRow base 5 1 (.slice A n c) n (bys xs) := by
 rcases h.old with ⟨rfl, rfl⟩ | ⟨h1, _⟩
 ·have h1 := h.grew.own
  have hl := h1.1
  rw [xJ0] at h1
  exact uJf h1 (by simp [bys] at hl ⊢; omega)
 ·exact h1
theorem Gone.step (h : Gone w wr base A n c xs mark k A' c') (hg : Grew wr w' base (.slice A' (n + k) c') (.slice A'' (n + k + 1) c'') (n + k + 1) (xs ++ List.replicate k mark ++ [mark]))
  (ho : (∃ A0 c0, Value.slice A' (n + k) c' = .slice A0 (n + k) c0 /\ Value.slice A'' (n + k + 1) c'' = .slice A0 (n + k + 1) c0) \/ (Below wr.heap.size wr w' /\ ∀ k', (Value.slice A'' (n + k + 1) c'').ownBlock = some k' -> wr.heap.size <= k')) : Gone w w' base A n c xs mark (k + 1) A'' c'' := by
 have e : xs ++ List.replicate k mark ++ [mark] = xs ++ List.replicate (k + 1) mark := by rw [List.replicate_succ', List.append_assoc]
 rw [e] at hg
 refine ⟨h.grew.trans hg, ?_⟩
 have hk := h.keeps
 have hlt : ∀ g, (Value.slice A n c).ownBlock = some g -> g < wr.heap.size := fun g hg => (hk.lt g hg).2
 rcases ho with ⟨A0, c0, e1, e2⟩ | ⟨hb, hn⟩
 ·injection e1 with e1 _ e3
  injection e2 with e4 _ e6
  subst e1 e3 e4 e6
  rcases h.old with h1 | ⟨h1, h2⟩
  ·exact .inl h1
  ·refine .inr ⟨xJ2 h1 hg.kept (fun g hg => h2 g hg), fun g hg => ?_⟩
   have := h2 g hg
   cases A'' with
   | none => simp [Value.ownBlock]
   | some a => simpa [Value.ownBlock] using this
 ·exact .inr ⟨own_below hk hb, fun g hg e => by have := hlt g hg; have := hn g e; omega⟩
end
open Go.RowKit
def Fr (w : World) (row : Option Nat) (A : Option Addr) (n : Nat) (xs : List Value) : Prop := xs.length = n /\ (xs = [] \/ ∃ b off cs t fr, A = some ⟨b, off, none⟩ /\ some b ≠ row /\ w.heap[b]? = some (.cells cs t fr) /\ ∀ j u, xs[j]? = some u -> cs[off + j]? = some u)
section
variable {w w' : World} {row row' : Option Nat} {base n : Nat} {A : Option Addr} {xs : List Value}
theorem Fr.below (h : Fr w row A n xs) (hb : Below w.heap.size w w') : Fr w' row A n xs := by
 refine ⟨h.1, h.2.imp id ?_⟩
 rintro ⟨b, off, cs, t, fr, e, hne, hg, hc⟩
 exact ⟨b, off, cs, t, fr, e, hne, (hb.block b (lt_of_block hg)).trans hg, hc⟩
theorem Fr.grown (h : Fr w row A n xs) (hg : w.grownBy w' row) (hr : ∀ k, row' = some k -> row = some k \/ w.heap.size <= k) : Fr w' row' A n xs := by
 refine ⟨h.1, h.2.imp id ?_⟩
 rintro ⟨b, off, cs, t, fr, e, hne, hgb, hc⟩
 refine ⟨b, off, cs, t, fr, e, fun e2 => ?_, (hg.block b (lt_of_block hgb) hne).trans hgb, hc⟩
 rcases hr b e2.symm with h1 | h1
 ·exact hne h1.symm
 ·have := lt_of_block hgb; omega
end
def u64s (l : List Nat) : List Value := l.map fun x => .int .u64 (x : Nat)
open Go.RowKit
theorem zJ4 {w w' : World} {b : Nat} (h : w'.heap[b]? = w.heap[b]?) (o : Nat) : w'.cell? ⟨b, o, none⟩ = w.cell? ⟨b, o, none⟩ := by
 unfold World.cell?
 simp only [h]
def bk (A : Option Addr) : Option Nat := A.map (·.block)
theorem zJr (A : Option Addr) (n c : Nat) : (Value.slice A n c).ownBlock = bk A := by cases A <;> rfl
structure FiM (w : World) (t : TypeId) (g o : Nat) (l : List Value) (base : Nat) (A : Option Addr) (n c : Nat) (xs : List UInt8) : Prop where
 blk : Blk w g t l
 at_ : l[o]? = some (.slice A n c)
 row : w.ownsRow base 5 1 (.slice A n c) n (bys xs)
 ne : bk A ≠ some g
structure FiE (t : TypeId) (g o : Nat) (l : List Value) (base : Nat) (A : Option Addr) (w w' : World) (A' : Option Addr) (n' c' : Nat) (xs' : List UInt8) : Prop where
 m : FiM w' t g o (l.set o (.slice A' n' c')) base A' n' c' xs'
 os : w'.os = w.os
 tape : w'.tape = w.tape
 output : w'.output = w.output
 size : w.heap.size <= w'.heap.size
 block : ∀ k, k < w.heap.size -> k ≠ g -> bk A ≠ some k -> w'.heap[k]? = w.heap[k]?
 at_ : ∀ k, bk A' = some k -> bk A = some k \/ w.heap.size <= k
section
variable {t : TypeId} {g o base n c n' c' n1 c1 n2 c2 : Nat} {l : List Value} {A A' A1 A2 : Option Addr} {w w' w1 w2 : World} {xs xs' xs1 xs2 : List UInt8}
theorem FiM.len (h : FiM w t g o l base A n c xs) : xs.length = n := by have := h.row.1; simpa [bys] using this
theorem FiM.cell (h : FiM w t g o l base A n c xs) : w.cell? ⟨g, o, none⟩ = some (.slice A n c) := h.blk.cell h.at_
theorem FiM.free (h : FiM w t g o l base A n c xs) : w.frozen? ⟨g, o, none⟩ = false := h.blk.free o
theorem FiM.lt (h : FiM w t g o l base A n c xs) : ∀ k, bk A = some k -> base <= k /\ k < w.heap.size := fun k hk => by
 have := h.row.lt k (by rw [zJr]; exact hk)
 exact this
theorem FiM.below (h : FiM w t g o l base A n c xs) (hb : Below w.heap.size w w') : FiM w' t g o l base A n c xs := ⟨h.blk.belowSz hb, h.at_, own_below h.row hb, h.ne⟩
theorem set_self {l : List Value} {o : Nat} {v : Value} (h : l[o]? = some v) : l.set o v = l := by
 apply List.ext_getElem?
 intro i
 by_cases e : o = i
 ·subst e
  rw [List.getElem?_set_self (List.getElem?_eq_some_iff.1 h).1, h]
 ·rw [List.getElem?_set_ne e]
theorem FiE.refl (h : FiM w t g o l base A n c xs) : FiE t g o l base A w w A n c xs :=
 ⟨by rw [set_self h.at_]; exact h, rfl, rfl, rfl, Nat.le_refl _, fun _ _ _ _ => rfl, fun k hk => .inl hk⟩
theorem FiE.trans (h : FiE t g o l base A w w1 A1 n1 c1 xs1) (k : FiE t g o (l.set o (.slice A1 n1 c1)) base A1 w1 w2 A2 n2 c2 xs2) : FiE t g o l base A w w2 A2 n2 c2 xs2 := by
 refine ⟨by have := k.m; rwa [List.set_set] at this, k.os.trans h.os, k.tape.trans h.tape, k.output.trans h.output, Nat.le_trans h.size k.size, fun i hi h1 h2 => (k.block i (Nat.lt_of_lt_of_le hi h.size) h1 (fun e => ?_)).trans (h.block i hi h1 h2), fun i hi => ?_⟩
 ·rcases h.at_ i e with h3 | h3
  ·exact h2 h3
  ·omega
 ·rcases k.at_ i hi with h3 | h3
  ·exact h.at_ i h3
  ·exact .inr (Nat.le_trans h.size h3)
theorem FiE.then_ (h : FiE t g o l base A w w1 A1 n1 c1 xs1) (hb : Below w1.heap.size w1 w2) : FiE t g o l base A w w2 A1 n1 c1 xs1 :=
 ⟨h.m.below hb, hb.os.trans h.os, hb.tape.trans h.tape, hb.output.trans h.output, Nat.le_trans h.size hb.size, fun k hk h1 h2 => (hb.block k (Nat.lt_of_lt_of_le hk h.size)).trans (h.block k hk h1 h2), h.at_⟩
theorem FiE.after (hb : Below w.heap.size w w1) (h : FiE t g o l base A w1 w2 A2 n2 c2 xs2) : FiE t g o l base A w w2 A2 n2 c2 xs2 :=
 ⟨h.m, h.os.trans hb.os, h.tape.trans hb.tape, h.output.trans hb.output, Nat.le_trans hb.size h.size, fun k hk h1 h2 => (h.block k (Nat.lt_of_lt_of_le hk hb.size) h1 h2).trans (hb.block k hk), fun k hk => (h.at_ k hk).imp id fun h3 => Nat.le_trans hb.size h3⟩
theorem FiE.below {B : Nat} (h : FiE t g o l base A w w' A' n' c' xs') (hg : B <= g) (hA : ∀ k, bk A = some k -> B <= k) (hB : B <= w.heap.size) : Below B w w' :=
 ⟨h.os, h.tape, h.output, h.size, fun k hk => h.block k (by omega) (by omega) (fun e => by have := hA k e; omega)⟩
theorem FiE.blk {k : Nat} {t2 : TypeId} {l2 : List Value} (h : FiE t g o l base A w w' A' n' c' xs') (b : Blk w k t2 l2) (h1 : k ≠ g) (h2 : bk A ≠ some k) : Blk w' k t2 l2 := (h.block k b.lt h1 h2).trans b
theorem FiE.own {base2 size : Nat} {e : TypeId} {ys : List Value} (h : FiE t g o l base A w w' A' n' c' xs') (r : w.ownsRow base2 e size (.slice A2 n2 c2) n2 ys) (h1 : bk A2 ≠ some g) (h2 : ∀ k, bk A2 = some k -> bk A ≠ some k) :
  w'.ownsRow base2 e size (.slice A2 n2 c2) n2 ys /\ ∀ k, bk A2 = some k -> bk A' ≠ some k := by
 refine ⟨⟨r.1, r.2.imp id ?_⟩, fun k hk hk' => ?_⟩
 ·rintro ⟨k, cap, cur, e1, e2, e3, r'⟩
  have hk : bk A2 = some k := by injection e1 with e1; rw [e1]; rfl
  exact ⟨k, cap, cur, e1, e2, (h.block k (lt_of_block e3) (fun e => h1 (by rw [hk, e])) (h2 k hk)).trans e3, r'⟩
 ·have hlt := (r.lt k (by rw [zJr]; exact hk)).2
  rcases h.at_ k hk' with h3 | h3
  ·exact h2 k hk h3
  ·omega
theorem FiM.grown (h : FiM w t g o l base A n c xs) (hg : w.grownBy w' (bk A2)) (h1 : bk A2 ≠ some g) (h2 : ∀ k, bk A = some k -> bk A2 ≠ some k) : FiM w' t g o l base A n c xs := by
 refine ⟨(hg.block g h.blk.lt (fun e => h1 e.symm)).trans h.blk, h.at_, ⟨h.row.1, h.row.2.imp id ?_⟩, h.ne⟩
 rintro ⟨k, cap, cur, e1, e2, e3, r'⟩
 have hk : bk A = some k := by injection e1 with e1; rw [e1]; rfl
 exact ⟨k, cap, cur, e1, e2, (hg.block k (lt_of_block e3) (fun e => h2 k hk e.symm)).trans e3, r'⟩
theorem FiE.grown (h : FiE t g o l base A w w1 A1 n1 c1 xs1) (hg : w1.grownBy w2 (bk A2)) (h1 : bk A2 ≠ some g) (h2 : ∀ k, bk A1 = some k -> bk A2 ≠ some k) (h3 : ∀ k, bk A2 = some k -> w.heap.size <= k) : FiE t g o l base A w w2 A1 n1 c1 xs1 :=
 ⟨h.m.grown hg h1 h2, hg.os.trans h.os, hg.tape.trans h.tape, hg.output.trans h.output, Nat.le_trans h.size hg.size, fun k hk e1 e2 => (hg.block k (Nat.lt_of_lt_of_le hk h.size) (fun e => by have := h3 k e.symm; omega)).trans (h.block k hk e1 e2), h.at_⟩
theorem FiE.new (h : FiE t g o l base A w w1 A1 n1 c1 xs1) {p : Addr} (hp : w.heap.size <= p.block) (hg : p.block ≠ g) (hA : bk A1 ≠ some p.block) (u : Value) : FiE t g o l base A w (w1.setCell p u) A1 n1 c1 xs1 := by
 refine ⟨⟨h.m.blk.other hg u, h.m.at_, ⟨h.m.row.1, h.m.row.2.imp id ?_⟩, h.m.ne⟩, h.os, h.tape, h.output, by simpa using h.size, fun k hk e1 e2 => (heap_setCell_other _ _ _ _ (by omega)).trans (h.block k hk e1 e2), h.at_⟩
 rintro ⟨k, cap, cur, e1, e2, e3, r'⟩
 have hk : bk A1 = some k := by injection e1 with e1; rw [e1]; rfl
 exact ⟨k, cap, cur, e1, e2, (heap_setCell_other _ _ _ _ (fun e => hA (by rw [hk, e]))).trans e3, r'⟩
theorem FiM.app (h : FiM w t g o l base A n c xs) (k : Grew w w1 base (.slice A n c) (.slice A' n' c') n' xs') :
  Blk w1 g t l /\ FiE t g o l base A w (w1.setCell ⟨g, o, none⟩ (.slice A' n' c')) A' n' c' xs' := by
 have hg := h.blk.lt
 have hb : Blk w1 g t l := (k.kept.block g hg (fun e => h.ne (by rw [zJr] at e; exact e.symm))).trans h.blk
 have hne : bk A' ≠ some g := fun e => by
  rcases k.at_ g (by rw [zJr]; exact e) with h3 | h3
  ·rw [zJr] at h3; exact h.ne h3
  ·omega
 refine ⟨hb, ⟨hb.set o _, ?_, ⟨k.own.1, k.own.2.imp id ?_⟩, hne⟩, k.kept.os, k.kept.tape, k.kept.output, by simpa using k.kept.size, fun i hi h1 h2 => (heap_setCell_other _ _ _ _ (by show i ≠ g; exact h1)).trans (k.kept.block i hi (fun e => h2 (by rw [zJr] at e; exact e.symm))), fun i hi => ?_⟩
 ·rw [List.getElem?_set_self (List.getElem?_eq_some_iff.1 h.at_).1]
 ·rintro ⟨i, cap, cur, e1, e2, e3, r'⟩
  have hi : bk A' = some i := by injection e1 with e1; rw [e1]; rfl
  exact ⟨i, cap, cur, e1, e2, (heap_setCell_other _ _ _ _ (by show i ≠ g; exact fun e => hne (by rw [hi, e]))).trans e3, r'⟩
 ·have := k.at_ i (by rw [zJr]; exact hi)
  rwa [zJr] at this
end
end Go.Proofs.YtnbecdahfgkffaaGreat
namespace Go.Proofs.YtnbecdahfgkffaaGreat.El
open Wd (num)
structure Sg where
 kind : Nat
 flags : Nat
 off : Nat
 addr : Nat
 fsz : Nat
 msz : Nat
structure Hd where
 type : Nat
 entry : Nat
 phoff : Nat
 segs : List Sg
def segAt (b : List UInt8) (p : Nat) : Sg := ⟨num b p 4, num b (p + 4) 4, num b (p + 8) 8, num b (p + 16) 8, num b (p + 32) 8, num b (p + 40) 8⟩
def knownB (k : Nat) : Bool := k == 1 || k == 2 || k == 3 || k == 6
def endOf (ty : Nat) : Nat := if ty = 3 then 4294967296 else 140737488355328
def flagsB (s : Sg) : Bool := decide (s.flags <= 7)
def insideB (n : Nat) (s : Sg) : Bool := decide (s.fsz <= s.msz) && decide (s.off + s.fsz <= n)
def endB (ty : Nat) (s : Sg) : Bool := !knownB s.kind || decide (s.addr + s.msz <= endOf ty)
def alignB (al : Nat) (s : Sg) : Bool := !(s.kind == 1) || (al == 4096 && s.off % 4096 == s.addr % 4096 && decide (0 < s.msz))
def segOk (b : List UInt8) (p ty : Nat) : Bool := flagsB (segAt b p) && insideB b.length (segAt b p) && endB ty (segAt b p) && alignB (num b (p + 48) 8) (segAt b p)
def magic : List UInt8 := [127, 69, 76, 70, 2, 1, 1]
def hdrOk (b : List UInt8) : Bool :=
 decide (64 <= b.length) && Lib.hasPrefix b magic && (num b 16 2 == 2 || num b 16 2 == 3) && (num b 18 2 == 62 && num b 20 4 == 1 && num b 54 2 == 56) && (decide (0 < num b 56 2) && decide (num b 56 2 <= 8))
def isLoad (s : Sg) : Bool := s.kind == 1
def loads (l : List Sg) : List Sg := l.filter isLoad
def up (a : Nat) : Nat := a + 4095 - (a + 4095) % 4096
def rises : List Sg -> Nat -> Bool
 | [], _ => true
 | s :: r, t => if isLoad s then decide (t <= s.addr) && rises r (up (s.addr + s.msz)) else rises r t
def holds (s l : Sg) : Bool := decide (l.addr <= s.addr) && decide (s.addr - l.addr + s.fsz <= l.fsz)
def w64 (a b : Nat) : Nat := (a + 18446744073709551616 - b) % 18446744073709551616
def filled (h : Hd) (s : Sg) : Bool :=
 match (loads h.segs).find? (holds s) with
 | some l => w64 s.off l.off == s.addr - l.addr
 | none => false
def entersBy (h : Hd) (s : Sg) : Bool := isLoad s && (s.flags % 2 == 1 && decide (w64 h.entry s.addr < s.msz))
def enters (h : Hd) : Bool := (h.type == 3 && h.entry == 0) || h.segs.any (entersBy h)
def countK (l : List Sg) (k : Nat) : Nat := (l.filter fun s => s.kind == k).length
def segWhole (h : Hd) (s : Sg) : Bool :=
 if s.kind == 2 || s.kind == 6 then filled h s else if s.kind == 3 then decide (0 < s.fsz) && decide (s.fsz <= 201) else true
def wholeOk (h : Hd) : Bool := h.segs.all (segWhole h) && (decide (0 < countK h.segs 1) && decide (countK h.segs 2 < 2) && decide (countK h.segs 3 < 2) && decide (countK h.segs 6 < 2) && enters h)
def segsOf (b : List UInt8) (n : Nat) : List Sg := (List.range n).map fun i => segAt b (num b 32 8 + i * 56)
def headOf (b : List UInt8) : Hd := ⟨num b 16 2, num b 24 8, num b 32 8, segsOf b (num b 56 2)⟩
def formOk (b : List UInt8) : Bool :=
 decide (num b 32 8 + num b 56 2 * 56 <= b.length) && (List.range (num b 56 2)).all (fun i => segOk b (num b 32 8 + i * 56) (num b 16 2)) && rises (segsOf b (num b 56 2)) 0 && wholeOk (headOf b)
def parse (b : List UInt8) : Int × Hd := if hdrOk b then (if formOk b then (0, headOf b) else (25, ⟨0, 0, 0, []⟩)) else (13, ⟨0, 0, 0, []⟩)
end Go.Proofs.YtnbecdahfgkffaaGreat.El
namespace Go.Proofs.YtnbecdahfgkffaaGreat.Dy
open Wd (num)
open El (Sg)
structure Sym where
 name : ByteArray
 value : Nat
 size : Nat
 bind : Nat
 isdef : Bool
structure Rel where
 off : Nat
 type : Nat
 sym : Nat
 add : Nat
structure Dyn where
 needed : List ByteArray
 soname : ByteArray
 run : ByteArray
 syms : List Sym
 relas : List Rel
def zero : Dyn := ⟨[], ⟨#[]⟩, ⟨#[]⟩, [], []⟩
def ents (b : List UInt8) : Nat -> Nat -> Option (List (Nat × Nat))
 | 0, _ => none
 | k + 1, p => if num b p 8 = 0 then some [] else (ents b k (p + 16)).map ((num b p 8, num b (p + 8) 8) :: ·)
def once (t : Nat) : Bool := [2, 4, 5, 6, 7, 8, 9, 10, 11, 14, 15, 20, 23, 29].contains t
def val : List (Nat × Nat) -> Nat -> Option Nat
 | [], _ => none
 | e :: r, t => if e.1 = t then some e.2 else val r t
def twice : List (Nat × Nat) -> Bool
 | [] => false
 | e :: r => (once e.1 && (val r e.1).isSome) || twice r
def isV (o : Option Nat) (v : Nat) : Bool := match o with
 | none => true
 | some x => decide (x = v)
def pair (L : List (Nat × Nat)) (a b : Nat) : Bool := (val L a).isSome == (val L b).isSome
def fits (L : List (Nat × Nat)) : Bool := !twice L && (isV (val L 11) 24 && isV (val L 9) 24 && isV (val L 20) 7) && (pair L 5 10 && pair L 4 6 && pair L 7 8 && pair L 23 2)
def many (L : List (Nat × Nat)) : Nat := (L.filter fun e => e.1 == 1).length
def may (L : List (Nat × Nat)) : Int := if fits L = false then 25 else if 8 < many L then 12 else 0
def laid (n : Nat) (l : List Sg) (addr size : Nat) : Option Nat :=
 match l.find? (fun s => decide (s.addr <= addr) && decide (addr - s.addr + size <= s.fsz)) with
 | none => none
 | some s => if s.off + (addr - s.addr) < 18446744073709551616 /\ s.off + (addr - s.addr) + size <= n then some (s.off + (addr - s.addr)) else none
def cut (b : List UInt8) (off size : Nat) : List UInt8 := (b.drop off).take size
def table (n : Nat) (l : List Sg) (L : List (Nat × Nat)) (at_ size : Nat) : Option (Nat × Nat) :=
 match val L at_ with
 | none => some (0, 0)
 | some a => (laid n l a ((val L size).getD 0)).map fun o => (o, (val L size).getD 0)
def text (t : List UInt8) (p : Nat) : Option ByteArray :=
 if t.length <= p then none else if (t.drop p).contains 0 = true then some ⟨((t.drop p).takeWhile fun c => c != 0).toArray⟩ else none
structure Names where
 buckets : Nat
 chain : Nat
 hash : Nat
 syms : Nat
def names (b : List UInt8) (l : List Sg) (L : List (Nat × Nat)) : Int × Names :=
 match val L 4 with
 | none => (0, ⟨0, 0, 0, 0⟩)
 | some at_ =>
  match laid b.length l at_ 8 with
  | none => (25, ⟨0, 0, 0, 0⟩)
  | some p =>
   if 65 < num b (p + 4) 4 then (12, ⟨0, 0, 0, 0⟩)
   else match laid b.length l at_ (8 + 4 * num b p 4 + 4 * num b (p + 4) 4), laid b.length l ((val L 6).getD 0) (24 * num b (p + 4) 4) with
    | some h, some s => (0, ⟨num b p 4, num b (p + 4) 4, h, s⟩)
    | _, _ => (25, ⟨0, 0, 0, 0⟩)
def relaB (b : List UInt8) (l : List Sg) (L : List (Nat × Nat)) : Int × List UInt8 :=
 if ((val L 8).getD 0) % 24 ≠ 0 \/ ((val L 2).getD 0) % 24 ≠ 0 then (25, [])
 else if 1536 < (val L 8).getD 0 + (val L 2).getD 0 then (12, [])
 else match table b.length l L 7 8, table b.length l L 23 2 with
  | some x, some y => (0, cut b x.1 x.2 ++ cut b y.1 y.2)
  | _, _ => (25, [])
def texts (t : List UInt8) (run : Bool) : List (Nat × Nat) -> Dyn -> Option Dyn
 | [], d => some d
 | e :: r, d =>
  if e.1 = 1 \/ e.1 = 14 \/ e.1 = 15 \/ e.1 = 29 then
   match text t e.2 with
   | none => none
   | some s => texts t run r (if e.1 = 1 then { d with needed := d.needed ++ [s] } else if e.1 = 14 then { d with soname := s } else if e.1 = 29 \/ run = false then { d with run := s } else d)
  else texts t run r d
def symAt (t : List UInt8) (b : List UInt8) (p : Nat) : Option Sym :=
 match text t (num b p 4) with
 | none => none
 | some s => if 2 < num b (p + 4) 1 / 16 then none else some ⟨s, num b (p + 8) 8, num b (p + 16) 8, num b (p + 4) 1 / 16, decide (num b (p + 6) 2 ≠ 0)⟩
def symsFrom (t : List UInt8) (b : List UInt8) : Nat -> Nat -> Option (List Sym)
 | 0, _ => some []
 | k + 1, p => match symAt t b p with
  | none => none
  | some s => (symsFrom t b k (p + 24)).map (s :: ·)
def relAt (b : List UInt8) (p : Nat) : Rel := ⟨num b p 8, num b (p + 8) 4, num b (p + 12) 4, num b (p + 16) 8⟩
def relsFrom (m : Nat) (b : List UInt8) : Nat -> Nat -> Option (List Rel)
 | 0, _ => some []
 | k + 1, p => if m < num b (p + 12) 4 then none else (relsFrom m b k (p + 24)).map (relAt b p :: ·)
def open_ (b : List UInt8) (segs : List Sg) : Int × Option (List (Nat × Nat)) :=
 match segs.find? (fun s => s.kind == 2) with
 | none => (0, none)
 | some s =>
  if s.fsz % 16 ≠ 0 \/ b.length < s.off + s.fsz then (25, none)
  else match ents b (s.fsz / 16) s.off with
   | none => (25, none)
   | some L => if may L = 0 then (0, some L) else (may L, none)
def parse (b : List UInt8) (segs : List Sg) : Dyn × Int :=
 match open_ b segs with
 | (e, none) => (zero, e)
 | (_, some L) =>
  match table b.length (El.loads segs) L 5 10 with
  | none => (zero, 25)
  | some t =>
   if (names b (El.loads segs) L).1 ≠ 0 then (zero, (names b (El.loads segs) L).1)
   else if (relaB b (El.loads segs) L).1 ≠ 0 then (zero, (relaB b (El.loads segs) L).1)
   else match texts (cut b t.1 t.2) (val L 29).isSome L zero with
    | none => (zero, 25)
    | some d =>
     match symsFrom (cut b t.1 t.2) b ((names b (El.loads segs) L).2.chain - 1) ((names b (El.loads segs) L).2.syms + 24) with
     | none => (zero, 25)
     | some ss =>
      match relsFrom ss.length (relaB b (El.loads segs) L).2 ((relaB b (El.loads segs) L).2.length / 24) 0 with
      | none => (zero, 25)
      | some rs => ({ d with syms := ss, relas := rs }, 0)
def hashStep (h : Nat) (c : UInt8) : Nat :=
 let x := (h * 16 + c.toNat) % 4294967296
 (x ^^^ (x / 268435456 * 16)) % 268435456
def hash (s : List UInt8) : Nat := s.foldl hashStep 0
def linksFrom (b : List UInt8) (n : Names) : Nat -> Nat -> List Nat × Bool
 | 0, i => ([], decide (i = 0))
 | k + 1, i => if i = 0 then ([], true) else if n.chain <= i then ([], false)
  else (i :: (linksFrom b n k (num b (n.hash + 8 + 4 * n.buckets + 4 * i) 4)).1, (linksFrom b n k (num b (n.hash + 8 + 4 * n.buckets + 4 * i) 4)).2)
def links (b : List UInt8) (n : Names) (name : List UInt8) : List Nat × Bool :=
 if n.buckets = 0 then ([], true) else linksFrom b n n.chain (num b (n.hash + 8 + 4 * (hash name % n.buckets)) 4)
def rightFrom (b : List UInt8) (n : Names) : List Sym -> Nat -> Bool
 | [], _ => true
 | s :: r, k => (decide (s.name.size = 0) || ((links b n s.name.data.toList).2 && (links b n s.name.data.toList).1.contains (k + 1))) && rightFrom b n r (k + 1)
def right (b : List UInt8) (segs : List Sg) : Bool :=
 if (parse b segs).2 ≠ 0 then false
 else match (open_ b segs).2 with
  | none => true
  | some L => rightFrom b (names b (El.loads segs) L).2 (parse b segs).1.syms 0
end Go.Proofs.YtnbecdahfgkffaaGreat.Dy
namespace Go.Proofs.YtnbecdahfgkffaaGreat.Mk
open Cl (lb)
structure Rel where
 off : Nat
 type : Nat
 sym : Int
 add : Int
structure Dyn where
 needed : List ByteArray
 soname : ByteArray
 run : ByteArray
 syms : List Dy.Sym
 relas : List Rel
structure Spec where
 type : Nat
 entry : Nat
 interp : ByteArray
 text : List UInt8
 data : List UInt8
 more : Nat
 dynamic : Bool
 dyn : Dyn
 apart : Int
def base (x : Spec) : Nat := if x.type = 2 then 4194304 else 0
def has (s : ByteArray) : Bool := s.data.toList.contains 0
def within (x : Spec) : Bool := decide (base x + 65536 <= x.entry) && decide (x.entry - (base x + 65536) < x.text.length)
def enters (x : Spec) : Bool := within x || (decide (x.type = 3) && decide (x.entry = 0))
def empty (d : Dyn) : Bool := decide (d.needed.length + d.syms.length + d.relas.length = 0) && (decide (d.soname.size = 0) && decide (d.run.size = 0))
def badSym (s : Dy.Sym) : Bool := has s.name || decide (2 < s.bind)
def badRel (n : Nat) (r : Rel) : Bool := decide (r.sym < 0) || decide ((n : Int) < r.sym)
def bad (d : Dyn) : Bool := has d.soname || has d.run || d.needed.any has || d.syms.any badSym || d.relas.any (badRel d.syms.length)
def tooBig (x : Spec) : Bool := decide (8 < x.dyn.needed.length) || decide (64 < x.dyn.syms.length) || decide (64 < x.dyn.relas.length) || decide (65536 < x.text.length) || decide (1048576 < x.more)
def bad1 (x : Spec) : Bool := (!(decide (x.type = 2) || decide (x.type = 3))) || !enters x || (decide (x.interp.size ≠ 0) && decide (Pth.chk x.interp ≠ 0))
def bad2 (x : Spec) : Bool := (!x.dynamic && !empty x.dyn) || decide (x.apart < 0) || decide ((x.dyn.relas.length : Int) < x.apart)
def may (x : Spec) : Int := if bad1 x = true then 1 else if bad2 x = true then 1 else if bad x.dyn = true then 1 else if tooBig x = true then 12 else 0
def place (t : List UInt8) (s : ByteArray) : Nat := if s.size = 0 then 0 else t.length
def put (t : List UInt8) (s : ByteArray) : List UInt8 := if s.size = 0 then t else t ++ s.data.toList ++ [0]
def puts (t : List UInt8) (l : List ByteArray) : List UInt8 := l.foldl put t
def places : List UInt8 -> List ByteArray -> List Nat
 | _, [] => []
 | t, s :: r => place t s :: places (put t s) r
def symB (p : Nat) (s : Dy.Sym) : List UInt8 := lb p 4 ++ (lb (s.bind * 16) 1 ++ lb 0 1) ++ lb (if s.isdef = true then 1 else 0) 2 ++ lb s.value 8 ++ lb s.size 8
def zs (n : Nat) : List UInt8 := List.replicate n 0
def symRows (t : List UInt8) : List Dy.Sym -> List UInt8
 | [] => []
 | s :: r => symB (place t s.name) s ++ symRows (put t s.name) r
def symsB (t : List UInt8) (l : List Dy.Sym) : List UInt8 := zs 24 ++ symRows t l
def names (l : List Dy.Sym) : List ByteArray := l.map (·.name)
def hashOf (s : Dy.Sym) : Nat := Dy.hash s.name.data.toList
def nextL (n b : Nat) : List Dy.Sym -> Nat -> Nat
 | [], _ => 0
 | s :: r, i => if hashOf s % n = b then i + 1 else nextL n b r (i + 1)
def next (l : List Dy.Sym) (n b i : Nat) : Nat := nextL n b (l.drop i) i
def lbs (k : Nat) : List Nat -> List UInt8
 | [] => []
 | x :: r => lb x k ++ lbs k r
def buckets (l : List Dy.Sym) : Nat := l.length / 2 + 1
def heads (l : List Dy.Sym) : List Nat := (List.range (buckets l)).map fun b => next l (buckets l) b 0
def linkOf (l : List Dy.Sym) (i : Nat) : Nat := match l[i]? with
 | none => 0
 | some s => next l (buckets l) (hashOf s % buckets l) (i + 1)
def links (l : List Dy.Sym) : List Nat := 0 :: (List.range l.length).map (linkOf l)
def hashB (l : List Dy.Sym) : List UInt8 := lb (buckets l) 4 ++ lb (l.length + 1) 4 ++ lbs 4 (heads l) ++ lbs 4 (links l)
def word (x : Int) : Nat := (x % 18446744073709551616).toNat
def relB (r : Rel) : List UInt8 := lb r.off 8 ++ lb r.type 4 ++ lb (word r.sym) 4 ++ lb (word r.add) 8
def relsB (l : List Rel) : List UInt8 := l.flatMap relB
def tell (k at_ n : Nat) : List (Nat × Nat) := match k with
 | 0 => [(4, at_)]
 | 1 => [(6, at_), (11, 24)]
 | 2 => [(7, at_), (8, n), (9, 24)]
 | 3 => [(23, at_), (2, n), (20, 7)]
 | _ => [(5, at_), (10, n), (0, 0)]
def texts0 (d : Dyn) : List UInt8 := puts [0] d.needed
def texts1 (d : Dyn) : List UInt8 := put (texts0 d) d.soname
def texts2 (d : Dyn) : List UInt8 := put (texts1 d) d.run
def texts3 (d : Dyn) : List UInt8 := puts (texts2 d) (names d.syms)
def heads0 (d : Dyn) : List (Nat × Nat) := (places [0] d.needed).map fun p => (1, p)
def heads1 (d : Dyn) : List (Nat × Nat) := if d.soname.size = 0 then heads0 d else heads0 d ++ [(14, place (texts0 d) d.soname)]
def heads2 (d : Dyn) : List (Nat × Nat) := if d.run.size = 0 then heads1 d else heads1 d ++ [(29, place (texts1 d) d.run)]
def last (x : Spec) : Nat := x.dyn.relas.length - x.apart.toNat
def partSyms (d : Dyn) : List (Nat × List UInt8) := if d.syms.length = 0 then [] else [(0, hashB d.syms), (1, symsB (texts2 d) d.syms)]
def partOne (x : Spec) : List (Nat × List UInt8) := if last x = 0 then [] else [(2, relsB (x.dyn.relas.take (last x)))]
def partTwo (x : Spec) : List (Nat × List UInt8) := if x.apart.toNat = 0 then [] else [(3, relsB (x.dyn.relas.drop (last x)))]
def parts (x : Spec) : List (Nat × List UInt8) := partSyms x.dyn ++ partOne x ++ partTwo x ++ [(4, texts3 x.dyn)]
def pairB (e : Nat × Nat) : List UInt8 := lb e.1 8 ++ lb e.2 8
def entsB (l : List (Nat × Nat)) : List UInt8 := l.flatMap pairB
def gap (m n : Nat) : Nat := (m - n % m) % m
def pad (m : Nat) (f : List UInt8) : List UInt8 := f ++ zs (gap m f.length)
def stepPart (base : Nat) (q : List UInt8 × List (Nat × Nat)) (p : Nat × List UInt8) : List UInt8 × List (Nat × Nat) :=
 (pad 8 q.1 ++ p.2, q.2 ++ tell p.1 (base + (pad 8 q.1).length) p.2.length)
def told (l : List (Nat × List UInt8)) : List (Nat × Nat) := l.flatMap fun p => tell p.1 0 0
def room (x : Spec) : Nat := 16 * (heads2 x.dyn ++ told (parts x)).length
def laidParts (x : Spec) (f : List UInt8) : List UInt8 × List (Nat × Nat) := (parts x).foldl (stepPart (base x)) (pad 8 f ++ zs (room x), heads2 x.dyn)
def over (f : List UInt8) (p : Nat) (b : List UInt8) : List UInt8 := f.take p ++ b ++ f.drop (p + b.length)
def section_ (x : Spec) (f : List UInt8) : List UInt8 := over (laidParts x f).1 (pad 8 f).length (entsB (laidParts x f).2)
structure Row where
 kind : Nat
 flags : Nat
 off : Nat
 addr : Nat
 fsz : Nat
 msz : Nat
 align : Nat
def rowB (r : Row) : List UInt8 := lb r.kind 4 ++ lb r.flags 4 ++ lb r.off 8 ++ lb r.addr 8 ++ lb r.addr 8 ++ lb r.fsz 8 ++ lb r.msz 8 ++ lb r.align 8
def rowsB (l : List Row) : List UInt8 := l.flatMap rowB
def magic : List UInt8 := [127, 69, 76, 70, 2, 1, 1, 0, 0, 0, 0, 0, 0, 0, 0, 0]
def head (x : Spec) (l : List Row) : List UInt8 :=
 magic ++ lb x.type 2 ++ lb 62 2 ++ lb 1 4 ++ lb x.entry 8 ++ lb 64 8 ++ lb 0 8 ++ lb 0 4 ++ lb 64 2 ++ lb 56 2 ++ lb l.length 2 ++ lb 64 2 ++ lb 0 2 ++ lb 0 2 ++ rowsB l
def isInterp (x : Spec) : Bool := decide (x.interp.size ≠ 0)
def isText (x : Spec) : Bool := decide (0 < x.text.length)
def isData (x : Spec) : Bool := decide (0 < x.data.length) || decide (0 < x.more)
def one (b : Bool) : Nat := if b = true then 1 else 0
def many (x : Spec) : Nat := 2 + one (isInterp x) + one x.dynamic + one (isText x) + one (isData x)
def front0 (x : Spec) : List UInt8 := zs (64 + 56 * many x)
def interpB (x : Spec) : List UInt8 := x.interp.data.toList ++ [0]
def front1 (x : Spec) : List UInt8 := if isInterp x = true then pad 8 (front0 x) ++ interpB x else front0 x
def front2 (x : Spec) : List UInt8 := if x.dynamic = true then section_ x (front1 x) else front1 x
def out1 (x : Spec) : List UInt8 := if isText x = true then pad 4096 (front2 x) ++ x.text else front2 x
def out2 (x : Spec) : List UInt8 := if isData x = true then pad 4096 (out1 x) ++ x.data else out1 x
def inRow (x : Spec) (k off size al : Nat) : Row := ⟨k, 4, off, base x + off, size, size, al⟩
def rowPhdr (x : Spec) : List Row := [inRow x 6 64 (56 * many x) 8]
def rowInterp (x : Spec) : List Row := if isInterp x = true then [inRow x 3 (pad 8 (front0 x)).length (x.interp.size + 1) 1] else []
def rowFirst (x : Spec) : List Row := [inRow x 1 0 (front2 x).length 4096]
def rowText (x : Spec) : List Row := if isText x = true then [⟨1, 5, (pad 4096 (front2 x)).length, base x + 65536, x.text.length, x.text.length, 4096⟩] else []
def rowData (x : Spec) : List Row := if isData x = true then [⟨1, 6, (pad 4096 (out1 x)).length, base x + 131072, x.data.length, x.data.length + x.more, 4096⟩] else []
def rowDyn (x : Spec) : List Row := if x.dynamic = true then [inRow x 2 (pad 8 (front1 x)).length (room x) 8] else []
def rows (x : Spec) : List Row := rowPhdr x ++ rowInterp x ++ rowFirst x ++ rowText x ++ rowData x ++ rowDyn x
def file (x : Spec) : List UInt8 := over (out2 x) 0 (head x (rows x))
def make (x : Spec) : List UInt8 × Int := if may x ≠ 0 then ([], may x) else if 65536 < (front2 x).length \/ 65536 < (out2 x).length then ([], 12) else (file x, 0)
end Go.Proofs.YtnbecdahfgkffaaGreat.Mk
namespace Go.Proofs.YtnbecdahfgkffaaGreat
open Go.RowKit
def OwnM (w : World) (base : Nat) (A : Option Addr) (n c : Nat) (xs : List UInt8) : Prop :=
 xs.length = n /\ ∃ (g : Nat) (cur : Array Value) (fr : Nat × Nat), A = some ⟨g, 0, none⟩ /\ base <= g /\ w.heap[g]? = some (.cells cur 5 fr) /\ (fr = (0, 0) \/ cur.size <= fr.1) /\ n <= c /\ c <= maxLen /\ cur.size = c /\ cur.toList.take n = bys xs
section
variable {w w' : World} {base B n c : Nat} {A : Option Addr} {xs : List UInt8}
theorem OwnM.rd (h : OwnM w base A n c xs) : Rd w w.heap.size 1 A n (bys xs) := by
 obtain ⟨hl, g, cur, fr, rfl, hb, hg, _, hn, _, hc, ht⟩ := h
 refine ⟨by simp [bys]; omega, .inr ⟨g, 0, rfl, lt_of_block hg, fun j u hu => ?_⟩⟩
 have hj : j < n := by have := (List.getElem?_eq_some_iff.1 hu).1; simp [bys] at this; omega
 rw [cell_of_row w g (0 + j) cur _ fr hg, Nat.zero_add]
 rw [<- ht, List.getElem?_take_of_lt hj] at hu
 simpa using hu
theorem OwnM.below (h : OwnM w base A n c xs) (hb : Below w.heap.size w w') : OwnM w' base A n c xs := by
 obtain ⟨hl, g, cur, fr, rfl, h1, hg, r⟩ := h
 exact ⟨hl, g, cur, fr, rfl, h1, (hb.block g (lt_of_block hg)).trans hg, r⟩
theorem OwnM.low (h : OwnM w base A n c xs) (hb : B <= base) : OwnM w B A n c xs := by
 obtain ⟨hl, g, cur, fr, rfl, h1, r⟩ := h
 exact ⟨hl, g, cur, fr, rfl, Nat.le_trans hb h1, r⟩
theorem OwnM.keep (h : OwnM w base A n c xs) {k : Nat} (hk : ∀ g, g < w.heap.size -> g ≠ k -> w'.heap[g]? = w.heap[g]?) (hne : ∀ o, A ≠ some ⟨k, o, none⟩) : OwnM w' base A n c xs := by
 obtain ⟨hl, g, cur, fr, rfl, h1, hg, r⟩ := h
 exact ⟨hl, g, cur, fr, rfl, h1, (hk g (lt_of_block hg) (fun e => hne 0 (by rw [e]))).trans hg, r⟩
theorem OwnM.at_ (h : OwnM w base A n c xs) : ∃ g, A = some ⟨g, 0, none⟩ /\ base <= g /\ g < w.heap.size /\ n <= c := by
 obtain ⟨hl, g, cur, fr, rfl, h1, hg, _, hn, _⟩ := h
 exact ⟨g, rfl, h1, lt_of_block hg, hn⟩
theorem OwnM.conv (w : World) (s : ByteArray) (hs : s.size <= maxLen) : OwnM (w.drew.alloc (.cells (bytesRow s (grownCap w s.size 0 5)) 5 ((bytesRow s (grownCap w s.size 0 5)).size, (bytesRow s (grownCap w s.size 0 5)).size + 1))) w.heap.size (some ⟨w.heap.size, 0, none⟩) s.size (grownCap w s.size 0 5) s.data.toList := by
 have hge := grownCap_ge w s.size 0 5
 refine ⟨rfl, w.heap.size, _, _, rfl, Nat.le_refl _, heap_alloc_new w.drew _, .inr (Nat.le_refl _), hge, grownCap_le_maxLen w s.size 0 5 hs, ?_, ?_⟩
 ·simp [bytesRow]
  omega
 ·unfold bytesRow
  rw [Array.toList_append, List.take_append_of_le_length (by simp), List.take_of_length_le (by simp)]
  simp [bys]
end
open Go.RowKit
namespace Dy
theorem tb_hi {y i : Nat} (hy : y < 2 ^ 32) (hi : 32 <= i) : y.testBit i = false :=
 Nat.testBit_lt_two_pow (Nat.lt_of_lt_of_le hy (Nat.pow_le_pow_right (by omega) hi))
theorem hash_top {y : Nat} (hy : y < 2 ^ 32) : y &&& 4026531840 = y / 268435456 * 268435456 := by
 have e : (4026531840 : Nat) = 15 * 2 ^ 28 := by decide
 have e2 : (268435456 : Nat) = 2 ^ 28 := by decide
 rw [e, e2]
 apply Nat.eq_of_testBit_eq
 intro i
 rw [Nat.testBit_and, Nat.testBit_mul_two_pow, Nat.testBit_mul_two_pow, Nat.testBit_div_two_pow]
 by_cases h : 28 <= i
 ·rw [Nat.sub_add_cancel h]
  by_cases h2 : i < 32
  ·have : (15 : Nat).testBit (i - 28) = true := by
    have h3 : i - 28 = 0 \/ i - 28 = 1 \/ i - 28 = 2 \/ i - 28 = 3 := by omega
    rcases h3 with h3 | h3 | h3 | h3 <;> rw [h3] <;> decide
   simp [h, this]
  ·rw [tb_hi hy (by omega)]
   simp
 ·simp [h]
theorem hash_cut {y : Nat} (hy : y < 2 ^ 32) : (y ^^^ (y / 268435456 * 16)) &&& (4294967295 - y / 268435456 * 268435456) = (y ^^^ (y / 268435456 * 16)) % 268435456 := by
 have e2 : (268435456 : Nat) = 2 ^ 28 := by decide
 have e4 : (16 : Nat) = 2 ^ 4 := by decide
 have ht : y / 2 ^ 28 * 2 ^ 28 < 2 ^ 32 := Nat.lt_of_le_of_lt (Nat.div_mul_le_self _ _) hy
 have e3 : 4294967295 - y / 2 ^ 28 * 2 ^ 28 = 2 ^ 32 - (y / 2 ^ 28 * 2 ^ 28 + 1) := by omega
 rw [e2, e3, e4]
 apply Nat.eq_of_testBit_eq
 intro i
 rw [Nat.testBit_and, Nat.testBit_two_pow_sub_succ ht, Nat.testBit_mod_two_pow, Nat.testBit_xor, Nat.testBit_mul_two_pow, Nat.testBit_mul_two_pow, Nat.testBit_div_two_pow, Nat.testBit_div_two_pow]
 by_cases h : 28 <= i
 ·have h1 : ¬ i < 28 := by omega
  rw [tb_hi (i := i - 4 + 28) hy (by omega), Nat.sub_add_cancel h]
  simp [h, h1]
  intro a _
  exact a
 ·have h1 : i < 28 := by omega
  have h2 : i < 32 := by omega
  simp [h, h1, h2]
theorem hashStep_eq (h : Nat) (c : UInt8) : hashStep h c = ((h * 16 + c.toNat) % 4294967296 ^^^ ((h * 16 + c.toNat) % 4294967296 / 268435456 * 16)) % 268435456 := rfl
theorem hashStep_lt (h : Nat) (c : UInt8) : hashStep h c < 268435456 := by rw [hashStep_eq]; exact Nat.mod_lt _ (by decide)
theorem hash_snoc (l : List UInt8) (c : UInt8) : hash (l ++ [c]) = hashStep (hash l) c := by unfold hash; rw [List.foldl_append]; rfl
theorem hash_lt (l : List UInt8) : hash l < 268435456 := by
 rcases List.eq_nil_or_concat l with rfl | ⟨r, c, rfl⟩
 ·decide
 ·rw [List.concat_eq_append, hash_snoc]; exact hashStep_lt _ _
theorem hash_val (h x : Nat) : bits .andNot .u32 (bits .xor .u32 (((h : Int) * 16 + (x : Int)) % 4294967296) (bits .and .u32 (((h : Int) * 16 + (x : Int)) % 4294967296) 4026531840 / 16777216)) (bits .and .u32 (((h : Int) * 16 + (x : Int)) % 4294967296) 4026531840) =
  (((((h * 16 + x) % 4294967296 ^^^ ((h * 16 + x) % 4294967296 / 268435456 * 16)) % 268435456 : Nat)) : Int) := by
 obtain ⟨y, hy⟩ : ∃ y, (h * 16 + x) % 4294967296 = y := ⟨_, rfl⟩
 have hy2 : ((h : Int) * 16 + (x : Int)) % 4294967296 = (y : Int) := by omega
 have hlt : y < 2 ^ 32 := by omega
 rw [hy, hy2]
 have e1 : (4026531840 : Int) = ((4026531840 : Nat) : Int) := rfl
 rw [e1, u32_and_nat _ _ (by omega) (by omega), hash_top hlt]
 have e2 : (((y / 268435456 * 268435456 : Nat)) : Int) / 16777216 = ((y / 268435456 * 16 : Nat) : Int) := by omega
 rw [e2, u32_xor_nat _ _ (by omega) (by omega)]
 have hx : y ^^^ y / 268435456 * 16 < 2 ^ 32 := Nat.xor_lt_two_pow hlt (by omega)
 rw [u32_andNot_nat _ _ (by omega) (by omega), hash_cut hlt]
end Dy
namespace Wd
theorem num_cons (b : List UInt8) (q n : Nat) (c : UInt8) (h : b[q]? = some c) : num b q (n + 1) = c.toNat + 256 * num b (q + 1) n := by
 unfold num
 have hl : q < b.length := (List.getElem?_eq_some_iff.1 h).1
 rw [List.drop_eq_getElem_cons hl, (List.getElem?_eq_some_iff.1 h).2]
 rfl
end Wd
theorem yJ8 (A : Option Addr) (m c B : Nat) (b : List UInt8) (p s : Nat) (w : World) (hB : B <= w.heap.size) (hb : Rd w B 1 A m (bys b)) (hm : m <= maxLen) (hs : s = 1 \/ s = 2 \/ s = 4 \/ s = 8) (hin : p + s <= m) :
  Calls Tryz.prog 63 #[.slice A m c, .int .u64 p, .int .i64 s] w fun e w' => e = .returned (.int .u64 (Wd.num b p s)) /\ Below w.heap.size w w' := by
 have K := zJ2 (get_yes A m c B b p s w hB hb hm hs hin)
 clear hb hs hin
 go_enter Tryz.func63, Tryz.ntmps63
 go_wp2_with fail
 refine (zJ1 K).mono ?_
 rintro e w1 ⟨rfl, hb1⟩
 go_wp2_with fail
 go_ret
 exact ⟨rfl, hb1⟩
set_option maxRecDepth 100000 in
set_option maxHeartbeats 1000000 in
theorem hash_any (s : ByteArray) (w : World) (hs : s.size <= 4294967296) :
  Calls Tryz.prog 95 #[.string s] w fun e w' => e = .returned (.int .u32 (Dy.hash s.data.toList : Nat)) /\ Below w.heap.size w w' := by
 have hcv := run_bytes_of_string (P := Tryz.prog) w 9 24 5 s Tryz.underlying9 Tryz.underlying24 Tryz.underlying5
 have hm := OwnM.conv w s (by unfold maxLen; omega)
 have hb1 : Below w.heap.size w (w.drew.alloc (.cells (bytesRow s (grownCap w s.size 0 5)) 5 ((bytesRow s (grownCap w s.size 0 5)).size, (bytesRow s (grownCap w s.size 0 5)).size + 1))) := (zJ5 (Below.refl _ _)).alloc (Nat.le_refl _) _
 generalize (w.drew.alloc (.cells (bytesRow s (grownCap w s.size 0 5)) 5 ((bytesRow s (grownCap w s.size 0 5)).size, (bytesRow s (grownCap w s.size 0 5)).size + 1))) = w1 at *
 generalize grownCap w s.size 0 5 = cc at *
 obtain ⟨n, hn⟩ : ∃ n, s.size = n := ⟨_, rfl⟩
 rw [hn] at hcv hm
 have hr := hm.rd
 have hlen : s.data.toList.length = n := hn
 have Hr := zJ2 hr
 have Hb1 := zJ2 hb1
 have Hlen := zJ2 hlen
 have Hn := zJ2 hn
 have hs2 : n <= 4294967296 := by omega
 clear hm hr hb1 hlen hn
 go_enter Tryz.func95, Tryz.ntmps95
 go_wp2_with fail
 go_loopg [3, 10] n (fun gk hv iv wr => ∃ k : Nat, gk = n - k /\ k <= n /\ iv = .int .i64 k /\ hv = .int .u32 (Dy.hash (s.data.toList.take k) : Nat) /\ w1 = wr)
 case atStart => exact ⟨0, by omega, Nat.zero_le _, rfl, rfl, rfl⟩
 case round =>
 obtain ⟨k, hgk, hk, rfl, rfl, rfl⟩ := hrel
 have Hgk := zJ2 hgk
 clear hgk
 by_cases hlt : k < n
 case neg =>
  obtain rfl : k = n := by omega
  have htk : s.data.toList.take k = s.data.toList := List.take_of_length_le (by rw [zJ1 Hlen]; exact Nat.le_refl _)
  rw [htk]
  clear htk
  have ige : ¬ (k : Int) < (k : Int) := by omega
  go_wp2_with fail
  go_ret
  exact ⟨rfl, zJ1 Hb1⟩
 obtain ⟨x, hx⟩ : ∃ x, s.data.toList[k]? = some x := ⟨_, List.getElem?_eq_getElem (by rw [zJ1 Hlen]; exact hlt)⟩
 obtain ⟨b2, o2, hA, _, c2⟩ := (zJ1 Hr).at_ (k := k) (u := .int .u8 x.toNat) (uJ4 hx)
 obtain ⟨rfl, rfl⟩ : w.heap.size = b2 /\ 0 = o2 := by simpa using hA
 have hst : Dy.hash (s.data.toList.take (k + 1)) = Dy.hashStep (Dy.hash (s.data.toList.take k)) x := by rw [List.take_add_one, hx, <- Dy.hash_snoc]; rfl
 have hh := Dy.hash_lt (s.data.toList.take k)
 obtain ⟨h, hh0⟩ : ∃ h, Dy.hash (s.data.toList.take k) = h := ⟨_, rfl⟩
 rw [hh0] at hst hh ⊢
 rw [Dy.hashStep_eq] at hst
 obtain ⟨y, hy⟩ : ∃ y, (h * 16 + x.toNat) % 4294967296 = y := ⟨_, rfl⟩
 rw [hy] at hst
 have hy32 : y < 4294967296 := by omega
 have hx8 := x.toNat_lt
 have Hst := zJ2 hst
 have Hy := zJ2 hy
 rw [Nat.zero_add] at c2
 clear hst hh0 hx hA hy
 go_wp2_with fail
 go_roundg (n - (k + 1))
 case measure => have := zJ1 Hgk; omega
 case rel => exact ⟨k + 1, rfl, by omega, by go_num, by rw [zJ1 Hst, <- zJ1 Hy]; exact congrArg (Value.int .u32) (Dy.hash_val h x.toNat), rfl⟩
open Go.RowKit
theorem uJ7 (s : Nat) : (madeCells (Value.int .u8 0).cells (s * 1)).toList = bys (List.replicate s 0) := by
 simp [bys, Value.cells, toList_madeCells_one]
theorem uJp {P : Program} {e : TypeId} (he : (P.info? e).map (·.size) = some 1) (w : World) : (sizeOf e).run P w = .ok 1 w := by
 cases hi : P.info? e with
 | none => simp [hi] at he
 | some i => simp [hi] at he; simp [sizeOf, typeInfo, hi, he]
def fromA (A : Option Addr) (c k : Nat) : Option Addr := if c = k then A else A.map (·.add k)
theorem Rd.from_ {w : World} {B n c k : Nat} {A : Option Addr} {xs : List Value} (h : Rd w B 1 A n xs) (hk : k <= n) (hc : n <= c) : Rd w B 1 (fromA A c k) (n - k) (xs.drop k) := by
 have hl := h.1
 refine ⟨by rw [List.length_drop]; omega, ?_⟩
 by_cases h0 : xs.drop k = []
 ·exact .inl h0
 ·have h1 : 0 < (xs.drop k).length := List.length_pos_iff.2 h0
  rw [List.length_drop] at h1
  obtain ⟨b, off, rfl, hb, hcl⟩ := h.open_ (by rintro rfl; simp at h1)
  refine .inr ⟨b, off + k, ?_, hb, fun j u hu => ?_⟩
  ·unfold fromA
   rw [if_neg (by omega), Option.map_some, Addr.add_lit]
  ·rw [List.getElem?_drop] at hu
   have := hcl (k + j) u hu
   rwa [show off + k + j = off + (k + j) by omega]
theorem Rd.to_ {w : World} {B n k : Nat} {A : Option Addr} {xs : List Value} (h : Rd w B 1 A n xs) (hk : k <= n) : Rd w B 1 A k (xs.take k) := by
 have hl := h.1
 refine ⟨by rw [List.length_take]; omega, ?_⟩
 rcases h.2 with h0 | ⟨b, off, e, hb, hc⟩
 ·exact .inl (by rw [h0]; simp)
 ·refine .inr ⟨b, off, e, hb, fun j u hu => hc j u ?_⟩
  rw [List.getElem?_take] at hu
  split at hu
  ·exact hu
  ·cases hu
theorem xJ1 {P : Program} {t e : TypeId} (ht : P.underlying t = some (.slice e)) (he : (P.info? e).map (·.size) = some 1) (κ : IntKind) (A : Option Addr) (n c k : Nat) (hk : k <= n) (w : World) :
  (Instr.slice t (.slice A n c) (some (.int κ (k : Nat))) none none).run P w = .ok (.slice (fromA A c k) (n - k) (c - k)) w := by
 have hel : P.elem t = e := by simp [Program.elem, ht]
 rw [run_slice_l w t A n c (by rw [hel]; exact ht) κ (k : Nat) (by omega) (by omega), hel, uJp he]
 simp only [Result.andThen_ok, Int.toNat_natCast]
 unfold sliced fromA
 simp
theorem wJ0 {P : Program} {t e : TypeId} (ht : P.underlying t = some (.slice e)) (he : (P.info? e).map (·.size) = some 1) (κ κ2 : IntKind) (A : Option Addr) (n c k j : Nat) (hk : k <= j) (hj : j <= c) (w : World) :
  (Instr.slice t (.slice A n c) (some (.int κ (k : Nat))) (some (.int κ2 (j : Nat))) none).run P w = .ok (.slice (fromA A c k) (j - k) (c - k)) w := by
 have hel : P.elem t = e := by simp [Program.elem, ht]
 rw [run_slice_lh w t A n c (by rw [hel]; exact ht) κ κ2 (k : Nat) (j : Nat) (by omega) (by omega) (by omega), hel, uJp he]
 simp only [Result.andThen_ok, Int.toNat_natCast]
 unfold sliced fromA
 simp
theorem run_toK {P : Program} {t e : TypeId} (ht : P.underlying t = some (.slice e)) (he : (P.info? e).map (·.size) = some 1) (κ : IntKind) (A : Option Addr) (n c k : Nat) (hk : k <= c) (w : World) :
  (Instr.slice t (.slice A n c) none (some (.int κ (k : Nat))) none).run P w = .ok (.slice A k c) w := by
 have hel : P.elem t = e := by simp [Program.elem, ht]
 rw [run_slice_h w t A n c (by rw [hel]; exact ht) κ (k : Nat) (by omega) (by omega), hel, uJp he]
 simp only [Result.andThen_ok, Int.toNat_natCast]
 unfold sliced
 have h0 : ∀ A : Option Addr, A.map (·.add (0 * 1)) = A := by
  intro A
  cases A with
  | none => rfl
  | some a => cases a; rfl
 rw [h0]
 simp
theorem Rd.cut {w : World} {B n c k j : Nat} {A : Option Addr} {xs : List Value} (h : Rd w B 1 A n xs) (hk : k <= j) (hj : j <= n) (hc : n <= c) : Rd w B 1 (fromA A c k) (j - k) ((xs.drop k).take (j - k)) :=
 ((h.from_ (k := k) (by omega) hc).to_ (k := j - k) (by omega))
theorem Rd.sub {w : World} {B n : Nat} {b1 o1 : Nat} {xs : List Value} (h : Rd w B 1 (some ⟨b1, o1, none⟩) n xs) {off k : Nat} (hk : off + k <= n) : Rd w B 1 (some ⟨b1, o1 + off, none⟩) k ((xs.drop off).take k) := by
 have hl := h.len1
 refine ⟨by simp; omega, ?_⟩
 rcases h.2 with h0 | ⟨b, o, e, hb, hc⟩
 ·exact .inl (by simp [h0])
 ·obtain ⟨rfl, rfl⟩ : b1 = b /\ o1 = o := by injection e with e; injection e with h1 h2 h3; exact ⟨h1, h2⟩
  refine .inr ⟨b1, o1 + off, rfl, hb, fun j u hu => ?_⟩
  by_cases hj : j < k
  ·rw [List.getElem?_take_of_lt hj, List.getElem?_drop] at hu
   rw [Nat.add_assoc]
   exact hc _ _ hu
  ·rw [List.getElem?_take_eq_none (by omega)] at hu
   cases hu
theorem conv_any {P : Program} {w : World} {B n c : Nat} {A : Option Addr} {l : List UInt8} {src dst e : TypeId} (h : Rd w B 1 A n (bys l)) (hs : P.underlying src = some (.slice e)) (he : P.underlying e = some (.int .u8)) (hd : P.underlying dst = some .string) :
  (convert src dst (.slice A n c)).run P w = .ok (.string ⟨l.toArray⟩) w := by
 have hl : l.length = n := by simpa [bys] using h.len1
 subst hl
 cases A with
 | none =>
  have h0 : l = [] := by
   rcases h.2 with h0 | ⟨b, o, e1, _⟩
   ·simpa [bys] using h0
   ·cases e1
  subst h0
  exact run_convert_bytes_nil w src e hs he _ c dst hd
 | some ad =>
  refine run_convert_bytes_back w src dst e ad c l hs he hd fun j hj => ?_
  obtain ⟨b, o, e1, _, hc⟩ := h.at_ (k := j) (u := .int .u8 (l[j].toNat : Nat)) (uJ4 (List.getElem?_eq_getElem hj))
  injection e1 with e1
  subst e1
  rw [Addr.add_lit]
  exact hc
theorem Rd.from {w : World} {B n : Nat} {b1 o1 k : Nat} {l : List UInt8} (h : Rd w B 1 (some ⟨b1, o1, none⟩) n (bys l)) (hk : k <= n) : Rd w B 1 (some ⟨b1, o1 + k, none⟩) (n - k) (bys (l.drop k)) := by
 have hl : l.length = n := by simpa [bys] using h.len1
 have h1 := h.sub (off := k) (k := n - k) (by omega)
 have e : ((bys l).drop k).take (n - k) = bys (l.drop k) := by
  unfold bys
  rw [<- List.map_drop, <- List.map_take, List.take_of_length_le (by simp; omega)]
 rwa [e] at h1
theorem bytesOf_ints (b : List UInt8) : Lib.bytesOf (b.map fun c => ((c.toNat : Nat) : Int)) = b := by
 unfold Lib.bytesOf
 rw [List.map_map]
 have : ((fun n : Int => UInt8.ofNat n.toNat) ∘ fun c : UInt8 => ((c.toNat : Nat) : Int)) = id := by
  funext c
  simp
 rw [this, List.map_id]
namespace Dy
def nz (c : UInt8) : Bool := c != 0
theorem idx_some {l : List UInt8} {k : Nat} (h : Lib.indexByte l 0 = (k : Int)) : l.contains 0 = true /\ l.takeWhile nz = l.take k /\ k < l.length := by
 obtain ⟨h1, h2⟩ := Lib.indexByte_some h
 have hk := (List.getElem?_eq_some_iff.1 h1).1
 refine ⟨?_, ?_, hk⟩
 ·rw [List.contains_iff_mem]; exact List.mem_of_getElem? h1
 ·clear h
  induction l generalizing k with
  | nil => simp at hk
  | cons x r ih =>
   cases k with
   | zero =>
    obtain rfl : x = 0 := by simpa using h1
    rw [List.takeWhile_cons_of_neg (by decide)]; rfl
   | succ k =>
    have hx : x ≠ 0 := by have := h2 0 (by omega); simpa using this
    rw [List.takeWhile_cons_of_pos (by unfold nz; simpa using hx), List.take_succ_cons, ih (by simpa using h1) (fun j hj => by have := h2 (j + 1) (by omega); simpa using this) (by simpa using hk)]
theorem idx_none {l : List UInt8} (h : Lib.indexByte l 0 < 0) : l.contains 0 = false := by
 have hge := Lib.indexByte_ge l 0
 have h2 := Lib.indexByte_none (show Lib.indexByte l 0 = -1 by omega)
 rw [Bool.eq_false_iff]
 intro hc
 rw [List.contains_iff_mem] at hc
 obtain ⟨k, hk⟩ := List.getElem?_of_mem hc
 exact h2 k hk
theorem text_eq (t : List UInt8) (p : Nat) : text t p = if t.length <= p then none else if (t.drop p).contains 0 = true then some ⟨((t.drop p).takeWhile nz).toArray⟩ else none := rfl
end Dy
theorem dcut_any (b1 o1 n c d p2 B : Nat) (l : List UInt8) (w : World) (hr : Rd w B 1 (some ⟨b1, o1, none⟩) n (bys l)) (hz : w.cell? ⟨p2, 0, none⟩ = some (.int .u8 0)) (hnc : n <= c) (hn : n <= 4294967296) (hpos : 0 < n) :
  Calls Tryz.prog 108 #[.slice (some ⟨b1, o1, none⟩) n c, .slice (some ⟨p2, 0, none⟩) 1 d] w fun e w' => e = .returned (Lib.cutV (some ⟨b1, o1, none⟩) n c 1 (Lib.indexByte l 0)) /\ ∃ q, w' = w.drewN q := by
 have hl : l.length = n := by simpa [bys] using hr.len1
 have hi := Tryz.bytes_Index_one b1 o1 n c p2 0 d (l.map fun c => ((c.toNat : Nat) : Int)) 0 w (by simpa using hl) (fun i hi => by
  obtain ⟨b, o, e, _, hc⟩ := hr.at_ (k := i) (u := .int .u8 ((l[i]'(by omega)).toNat : Nat)) (uJ4 (List.getElem?_eq_getElem (by omega)))
  injection e with e
  injection e with e1 e2
  subst e1 e2
  rw [hc]
  simp [List.getD_eq_getElem?_getD, List.getElem?_eq_getElem (show i < l.length by omega)]) hz
 rw [bytesOf_ints] at hi
 have h0 : (0 : Int).toNat.toUInt8 = 0 := rfl
 rw [h0] at hi
 refine Tryz.bytes_Cut_of (some ⟨b1, o1, none⟩) (some ⟨p2, 0, none⟩) n c 1 d (Lib.indexByte l 0) w hnc (Lib.indexByte_ge l 0) (fun h => ?_) (by omega) (hi.mono fun e w' ⟨a, b⟩ => ⟨a, 0, by rw [b]; rfl⟩)
 obtain ⟨k, hk⟩ := Int.eq_ofNat_of_zero_le h
 have := (List.getElem?_eq_some_iff.1 (Lib.indexByte_some hk).1).1
 omega
def TextE (t : Option ByteArray) (w : World) (e : Ending) (w' : World) : Prop :=
 ∃ s b, e = .returned (.tuple #[.string s, .bool b]) /\ ((b = true /\ t = some s) \/ (b = false /\ t = none)) /\ Below w.heap.size w w'
set_option maxRecDepth 100000 in
set_option maxHeartbeats 1000000 in
theorem text_any (A : Option Addr) (m c B : Nat) (t : List UInt8) (p : Nat) (w : World) (hB : B <= w.heap.size) (hb : Rd w B 1 A m (bys t)) (hm : m <= 4294967296) (hmc : m <= c) (hp : p < 18446744073709551616) :
  Calls Tryz.prog 62 #[.slice A m c, .int .u64 p] w (TextE (Dy.text t p) w) := by
 have htl : t.length = m := by simpa [bys] using hb.len1
 rw [Dy.text_eq, htl]
 by_cases hpm : m <= p
 ·rw [if_pos hpm]
  have g1 : (p : Int) ≥ (m : Int) := by omega
  have g2 : decide (m <= p) = true := by simpa using hpm
  clear hb htl
  go_enter Tryz.func62, Tryz.ntmps62
  go_wp2_with fail
  go_ret2
  exact ⟨_, _, rfl, .inr ⟨rfl, rfl⟩, Below.refl _ _⟩
 rw [if_neg hpm]
 obtain ⟨tx, htx⟩ : ∃ tx, (if (t.drop p).contains 0 = true then some (⟨((t.drop p).takeWhile Dy.nz).toArray⟩ : ByteArray) else none) = tx := ⟨_, rfl⟩
 rw [htx]
 have g2 : decide (m <= p) = false := by simpa using hpm
 have kf := fun w' => xJ1 (P := Tryz.prog) Tryz.underlying24 (e := 5) (by kernel_rfl) .u64 A m c p (by omega) w'
 have hr := hb.from_ (k := p) (by omega) hmc
 have hdr : (bys t).drop p = bys (t.drop p) := by unfold bys; rw [List.map_drop]
 rw [hdr] at hr
 obtain ⟨b1, o1, hA, _, _⟩ := hr.open_ (by intro e; have := hr.len1; rw [e] at this; simp at this; omega)
 rw [hA] at kf hr
 obtain ⟨l, hl⟩ : ∃ l, t.drop p = l := ⟨_, rfl⟩
 rw [hl] at hr htx
 obtain ⟨W, hW⟩ : ∃ W, w.alloc (.cells #[.int .u8 0] 5) = W := ⟨_, rfl⟩
 have hrW : Rd W B 1 (some ⟨b1, o1, none⟩) (m - p) (bys l) := by rw [<- hW]; exact hr.alloc hB _
 have hz : W.cell? ⟨w.heap.size, 0, none⟩ = some (.int .u8 0) := by rw [<- hW]; exact World.cell?_alloc_mark w #[.int .u8 0] 5 (0, 0) 0
 have hbel : Below w.heap.size w W := by rw [<- hW]; exact (Below.refl _ _).alloc (Nat.le_refl _) _
 have K := dcut_any b1 o1 (m - p) (c - p) 1 w.heap.size B l W hrW hz (by omega) (by omega) (by omega)
 have hll : l.length = m - p := by simpa [bys] using hrW.len1
 have H2 : ∀ (k : Nat), Lib.indexByte l 0 = (k : Int) -> tx = some ⟨(l.take k).toArray⟩ /\ k < l.length := fun k h => by
  obtain ⟨a1, a2, a3⟩ := Dy.idx_some h
  rw [<- htx, if_pos a1, a2]
  exact ⟨rfl, a3⟩
 have H3 : Lib.indexByte l 0 < 0 -> tx = none := fun h => by rw [<- htx, if_neg (by rw [Dy.idx_none h]; decide)]
 obtain ⟨ix, hix⟩ : ∃ i, Lib.indexByte l 0 = i := ⟨_, rfl⟩
 rw [hix] at K H2 H3
 have HK := zJ2 K
 have HrW := zJ2 hrW
 have HH2 := zJ2 H2
 have HH3 := zJ2 H3
 have Hbel := zJ2 hbel
 have Hll := zJ2 hll
 clear K hr hrW hz hA hdr hl hix H2 H3 hb htl hll hpm hbel htx
 go_enter Tryz.func62, Tryz.ntmps62
 go_wp2_with fail
 refine (zJ1 HK).mono ?_
 rintro e w2 ⟨rfl, q, rfl⟩
 unfold Lib.cutV
 by_cases hi : 0 <= ix
 ·obtain ⟨k, rfl⟩ := Int.eq_ofNat_of_zero_le hi
  obtain ⟨htx, hkl⟩ := (zJ1 HH2) k rfl
  subst htx
  rw [if_pos hi]
  have hl2 := ((zJ1 HrW).to_ (k := k) (by have := zJ1 Hll; omega)).drewN q
  have e2 : (bys l).take k = bys (l.take k) := by unfold bys; rw [List.map_take]
  rw [e2] at hl2
  have hcv := fun (c' : Nat) => conv_any (c := c') hl2 Tryz.underlying24 Tryz.underlying5 Tryz.underlying9
  obtain ⟨x, hx⟩ : ∃ x, Lib.fromV (some ⟨b1, o1, none⟩) (m - p) (c - p) ((k : Int).toNat + 1) = x := ⟨_, rfl⟩
  rw [hx, Int.toNat_natCast]
  have Hb2 := zJ2 (below_drewN' (zJ1 Hbel) q)
  generalize l.take k = lk at *
  clear hx hl2 e2 HH2 HH3 hi HK HrW
  go_wp2_with fail
  go_ret2
  exact ⟨_, _, rfl, .inl ⟨rfl, rfl⟩, zJ1 Hb2⟩
 ·have htx := (zJ1 HH3) (by omega)
  subst htx
  rw [if_neg hi]
  have hcv := fun (c' : Nat) => conv_any (c := c') ((zJ1 HrW).drewN q) Tryz.underlying24 Tryz.underlying5 Tryz.underlying9
  have Hb2 := zJ2 (below_drewN' (zJ1 Hbel) q)
  clear HH2 HH3 hi HK HrW
  go_wp2_with fail
  go_ret2
  exact ⟨_, _, rfl, .inr ⟨rfl, rfl⟩, zJ1 Hb2⟩
open Go.RowKit
theorem down_any (a : Int) (w : World) (h0 : 0 <= a) (h1 : a <= 18446744073709551615) :
  Calls Tryz.prog 93 #[.int .u64 a] w fun e w' => e = .returned (.int .u64 (a - a % 4096)) /\ w = w' := by
 have hb := zJ2 (Wd.andNot_page a h0 h1)
 go_enter Tryz.func93, Tryz.ntmps93
 go_wp2
 go_ret
 exact ⟨yJ3 (zJ1 hb), rfl⟩
theorem up_yes (a : Int) (w : World) (h0 : 0 <= a) (h : a + 4095 <= 18446744073709551615) :
  Calls Tryz.prog 48 #[.int .u64 a] w fun e w' => e = .returned (.tuple #[.int .u64 (a + 4095 - (a + 4095) % 4096), .bool true]) /\ w = w' := by
 go_enter Tryz.func48, Tryz.ntmps48
 go_wp2_with (first
  | (go_at_call 92; refine (add_yes _ _ _ h0 (by omega) h).mono ?_; rintro e w' ⟨rfl, rfl⟩)
  | (go_at_call 93; refine (down_any _ _ (by omega) (by omega)).mono ?_; rintro e w' ⟨rfl, rfl⟩))
 go_ret2
 exact ⟨rfl, rfl⟩
abbrev u8s (b : List UInt8) : List Value := b.map fun c => .int .u8 c.toNat
theorem yJi {w : World} {B n : Nat} {A : Option Addr} {b : List UInt8} (h : Rd w B 1 A n (u8s b)) : Lib.BytesIn w A n (b.map fun c => ((c.toNat : Nat) : Int)) := by
 intro hn
 have hl : b.length = n := by simpa using h.len1
 obtain ⟨b1, o1, e, _, hc⟩ := h.open_ (by intro e; rw [List.map_eq_nil_iff] at e; subst e; simp at hl; omega)
 refine ⟨b1, o1, e, fun i hi => hc i _ ?_⟩
 have hi' : i < b.length := by omega
 simp [List.getElem?_eq_getElem hi', List.getD_eq_getElem?_getD]
theorem bytesOf_map (b : List UInt8) : Lib.bytesOf (b.map fun c => ((c.toNat : Nat) : Int)) = b := by
 unfold Lib.bytesOf
 rw [List.map_map]
 have : ((fun n : Int => UInt8.ofNat n.toNat) ∘ fun c : UInt8 => ((c.toNat : Nat) : Int)) = id := by
  funext c
  simp
 rw [this, List.map_id]
abbrev wrongs (e : Int) : Ending := .panicked [{ v := .iface 102 (.int .i64 e), recovered := false }]
theorem zJ8 (e : Int) (w : World) : Calls Tryz.prog 45 #[.bool true, .int .i64 e] w fun r w' => r = .returned (.tuple #[]) /\ w = w' := by
 go_enter Tryz.func45, Tryz.ntmps45
 go_wp2
 go_end0
 exact ⟨rfl, rfl⟩
theorem zJe (e : Int) (w : World) : Calls Tryz.prog 45 #[.bool false, .int .i64 e] w fun r w' => r = wrongs e /\ w = w' := by
 go_enter Tryz.func45, Tryz.ntmps45
 go_wp2
 exact ⟨rfl, rfl, rfl⟩
theorem xJe (A : Option Addr) (m c : Nat) (B : Nat) (b : List UInt8) (p s : Nat) (w : World) (hB : B <= w.heap.size) (hb : Rd w B 1 A m (u8s b)) (hm : m <= maxLen) (hs : s = 1 \/ s = 2 \/ s = 4 \/ s = 8) (hin : p + s <= m) :
  Calls Tryz.prog 44 #[.slice A m c, .int .u64 p, .int .i64 s] w fun e w' => e = .returned (.int .u64 (Wd.num b p s)) /\ Below w.heap.size w w' := by
 have hg := get_yes A m c B b p s w hB hb hm hs hin
 have Hg := zJ2 hg
 clear hg hb hs hin
 go_enter Tryz.func44, Tryz.ntmps44
 go_wp2_with (first
  | (go_at_call 91; refine (zJ1 Hg).mono ?_; rintro e w1 ⟨rfl, hb1⟩)
  | (go_at_call 45; refine (zJ8 _ _).mono ?_; rintro e w2 ⟨rfl, rfl⟩))
 go_ret
 exact ⟨rfl, hb1⟩
theorem magic_row (w : World) (fz : Nat × Nat) : Rd (w.alloc (.cells #[.int .u8 127, .int .u8 69, .int .u8 76, .int .u8 70, .int .u8 2, .int .u8 1, .int .u8 1] 5 fz)) (w.heap.size + 1) 1 (some ⟨w.heap.size, 0, none⟩) 7 (u8s El.magic) := Rd.rowF (size := 1) (n := 7) rfl
theorem uJd (A A2 : Option Addr) (m c d B B2 : Nat) (b : List UInt8) (W : World) (hmc : m <= c) (h1 : Rd W B 1 A m (u8s b)) (h2 : Rd W B2 1 A2 7 (u8s El.magic)) :
  Calls Tryz.prog 90 #[.slice A m c, .slice A2 7 d] W fun e w' => e = .returned (.bool (Lib.hasPrefix b El.magic)) /\ W = w' := by
 have h := Tryz.bytes_HasPrefix_all A A2 m c 7 d _ _ W (by simpa using h1.len1) rfl hmc (yJi h1) (yJi h2)
 rw [bytesOf_map, bytesOf_map] at h
 exact flipw h
set_option maxHeartbeats 60000000 in
theorem zJu (A : Option Addr) (m c : Nat) (B : Nat) (b : List UInt8) (w : World) (hB : B <= w.heap.size) (hb : Rd w B 1 A m (u8s b)) (hm : m <= maxLen) (hmc : m <= c)
  (hq : ((64 <= m) /\ (Lib.hasPrefix b El.magic = true) /\ (Wd.num b 16 2 = 2) /\ (Wd.num b 18 2 ≠ 62))
  \/ ((64 <= m) /\ (Lib.hasPrefix b El.magic = true) /\ (Wd.num b 16 2 = 2) /\ (Wd.num b 18 2 = 62) /\ (Wd.num b 20 4 ≠ 1))
  \/ ((64 <= m) /\ (Lib.hasPrefix b El.magic = true) /\ (Wd.num b 16 2 = 2) /\ (Wd.num b 18 2 = 62) /\ (Wd.num b 20 4 = 1) /\ (Wd.num b 54 2 ≠ 56))
  \/ ((64 <= m) /\ (Lib.hasPrefix b El.magic = true) /\ (Wd.num b 16 2 = 2) /\ (Wd.num b 18 2 = 62) /\ (Wd.num b 20 4 = 1) /\ (Wd.num b 54 2 = 56) /\ (¬ 0 < Wd.num b 56 2))
  \/ ((64 <= m) /\ (Lib.hasPrefix b El.magic = true) /\ (Wd.num b 16 2 = 2) /\ (Wd.num b 18 2 = 62) /\ (Wd.num b 20 4 = 1) /\ (Wd.num b 54 2 = 56) /\ (0 < Wd.num b 56 2) /\ (¬ Wd.num b 56 2 <= 8))
  \/ ((64 <= m) /\ (Lib.hasPrefix b El.magic = true) /\ (Wd.num b 16 2 = 3) /\ (Wd.num b 18 2 ≠ 62))
  \/ ((64 <= m) /\ (Lib.hasPrefix b El.magic = true) /\ (Wd.num b 16 2 = 3) /\ (Wd.num b 18 2 = 62) /\ (Wd.num b 20 4 ≠ 1))
  \/ ((64 <= m) /\ (Lib.hasPrefix b El.magic = true) /\ (Wd.num b 16 2 = 3) /\ (Wd.num b 18 2 = 62) /\ (Wd.num b 20 4 = 1) /\ (Wd.num b 54 2 ≠ 56))
  \/ ((64 <= m) /\ (Lib.hasPrefix b El.magic = true) /\ (Wd.num b 16 2 = 3) /\ (Wd.num b 18 2 = 62) /\ (Wd.num b 20 4 = 1) /\ (Wd.num b 54 2 = 56) /\ (¬ 0 < Wd.num b 56 2))
  \/ ((64 <= m) /\ (Lib.hasPrefix b El.magic = true) /\ (Wd.num b 16 2 = 3) /\ (Wd.num b 18 2 = 62) /\ (Wd.num b 20 4 = 1) /\ (Wd.num b 54 2 = 56) /\ (0 < Wd.num b 56 2) /\ (¬ Wd.num b 56 2 <= 8))
  \/ ((64 <= m) /\ (Lib.hasPrefix b El.magic = true) /\ (Wd.num b 16 2 ≠ 2) /\ (Wd.num b 16 2 ≠ 3))
  \/ ((64 <= m) /\ (Lib.hasPrefix b El.magic = false))) :
  Calls Tryz.prog 43 #[.slice A m c] w fun e w' => e = wrongs 13 /\ Below w.heap.size w w' := by
 have hbl : b.length = m := by simpa using hb.len1
 have G1 := zJ2 (fun (w' : World) (h : Below w.heap.size w w') => xJe A m c B b 16 2 w' (Nat.le_trans hB h.size) ((hb).below (h.mono hB)) hm (by omega) (by omega))
 have G2 := zJ2 (fun (w' : World) (h : Below w.heap.size w w') => xJe A m c B b 56 2 w' (Nat.le_trans hB h.size) ((hb).below (h.mono hB)) hm (by omega) (by omega))
 have G3 := zJ2 (fun (w' : World) (h : Below w.heap.size w w') => xJe A m c B b 18 2 w' (Nat.le_trans hB h.size) ((hb).below (h.mono hB)) hm (by omega) (by omega))
 have G4 := zJ2 (fun (w' : World) (h : Below w.heap.size w w') => xJe A m c B b 20 4 w' (Nat.le_trans hB h.size) ((hb).below (h.mono hB)) hm (by omega) (by omega))
 have G5 := zJ2 (fun (w' : World) (h : Below w.heap.size w w') => xJe A m c B b 54 2 w' (Nat.le_trans hB h.size) ((hb).below (h.mono hB)) hm (by omega) (by omega))
 have kc := fun (w : World) (C : Array Value) (n c : Nat) => Lib.run_convert_bytes_const (P := Tryz.prog) w 24 5 C n c Tryz.underlying24 Tryz.underlying5
 have hl16 : Wd.num b 16 2 < 65536 := Wd.num_lt b 16 2
 generalize Wd.num b 16 2 = n16 at *
 generalize Wd.num b 56 2 = n56 at *
 generalize Wd.num b 18 2 = n18 at *
 generalize Wd.num b 20 4 = n20 at *
 generalize Wd.num b 54 2 = n54 at *
 have Hb := zJ2 hb
 clear hb hbl
 rcases hq with ⟨h64, h2, h3, h4⟩ | ⟨h64, h2, h3, h4, h5⟩ | ⟨h64, h2, h3, h4, h5, h6⟩ | ⟨h64, h2, h3, h4, h5, h6, h7⟩ | ⟨h64, h2, h3, h4, h5, h6, h7, h8⟩ | ⟨h64, h2, h3, h4⟩ | ⟨h64, h2, h3, h4, h5⟩ | ⟨h64, h2, h3, h4, h5, h6⟩ | ⟨h64, h2, h3, h4, h5, h6, h7⟩ | ⟨h64, h2, h3, h4, h5, h6, h7, h8⟩ | ⟨h64, h2, h3, h3'⟩ | ⟨h64, h2⟩
 have i64 : (64 : Int) <= (m : Int) := by omega
 have H2 := zJ2 h2
 clear h2
 have e162 : (((n16 : Nat) : Int) == 2) = true := by simp; omega
 have e1862 : (((n18 : Nat) : Int) == 62) = false := by simp; omega
 clear h3 h4
 rotate_left
 have i64 : (64 : Int) <= (m : Int) := by omega
 have H2 := zJ2 h2
 clear h2
 have e162 : (((n16 : Nat) : Int) == 2) = true := by simp; omega
 have e1862 : (((n18 : Nat) : Int) == 62) = true := by simp; omega
 have e201 : (((n20 : Nat) : Int) == 1) = false := by simp; omega
 clear h3 h4 h5
 rotate_left
 have i64 : (64 : Int) <= (m : Int) := by omega
 have H2 := zJ2 h2
 clear h2
 have e162 : (((n16 : Nat) : Int) == 2) = true := by simp; omega
 have e1862 : (((n18 : Nat) : Int) == 62) = true := by simp; omega
 have e201 : (((n20 : Nat) : Int) == 1) = true := by simp; omega
 have e5456 : (((n54 : Nat) : Int) == 56) = false := by simp; omega
 clear h3 h4 h5 h6
 rotate_left
 have i64 : (64 : Int) <= (m : Int) := by omega
 have H2 := zJ2 h2
 clear h2
 have e162 : (((n16 : Nat) : Int) == 2) = true := by simp; omega
 have e1862 : (((n18 : Nat) : Int) == 62) = true := by simp; omega
 have e201 : (((n20 : Nat) : Int) == 1) = true := by simp; omega
 have e5456 : (((n54 : Nat) : Int) == 56) = true := by simp; omega
 have i7 : ¬ (0 : Int) < ((n56 : Nat) : Int) := by omega
 clear h3 h4 h5 h6 h7
 rotate_left
 have i64 : (64 : Int) <= (m : Int) := by omega
 have H2 := zJ2 h2
 clear h2
 have e162 : (((n16 : Nat) : Int) == 2) = true := by simp; omega
 have e1862 : (((n18 : Nat) : Int) == 62) = true := by simp; omega
 have e201 : (((n20 : Nat) : Int) == 1) = true := by simp; omega
 have e5456 : (((n54 : Nat) : Int) == 56) = true := by simp; omega
 have i7 : (0 : Int) < ((n56 : Nat) : Int) := by omega
 have i8 : decide (((n56 : Nat) : Int) <= 8) = false := by simp; omega
 clear h3 h4 h5 h6 h7 h8
 rotate_left
 have i64 : (64 : Int) <= (m : Int) := by omega
 have H2 := zJ2 h2
 clear h2
 have e162 : (((n16 : Nat) : Int) == 2) = false := by simp; omega
 have e163 : (((n16 : Nat) : Int) == 3) = true := by simp; omega
 have e1862 : (((n18 : Nat) : Int) == 62) = false := by simp; omega
 clear h3 h4
 rotate_left
 have i64 : (64 : Int) <= (m : Int) := by omega
 have H2 := zJ2 h2
 clear h2
 have e162 : (((n16 : Nat) : Int) == 2) = false := by simp; omega
 have e163 : (((n16 : Nat) : Int) == 3) = true := by simp; omega
 have e1862 : (((n18 : Nat) : Int) == 62) = true := by simp; omega
 have e201 : (((n20 : Nat) : Int) == 1) = false := by simp; omega
 clear h3 h4 h5
 rotate_left
 have i64 : (64 : Int) <= (m : Int) := by omega
 have H2 := zJ2 h2
 clear h2
 have e162 : (((n16 : Nat) : Int) == 2) = false := by simp; omega
 have e163 : (((n16 : Nat) : Int) == 3) = true := by simp; omega
 have e1862 : (((n18 : Nat) : Int) == 62) = true := by simp; omega
 have e201 : (((n20 : Nat) : Int) == 1) = true := by simp; omega
 have e5456 : (((n54 : Nat) : Int) == 56) = false := by simp; omega
 clear h3 h4 h5 h6
 rotate_left
 have i64 : (64 : Int) <= (m : Int) := by omega
 have H2 := zJ2 h2
 clear h2
 have e162 : (((n16 : Nat) : Int) == 2) = false := by simp; omega
 have e163 : (((n16 : Nat) : Int) == 3) = true := by simp; omega
 have e1862 : (((n18 : Nat) : Int) == 62) = true := by simp; omega
 have e201 : (((n20 : Nat) : Int) == 1) = true := by simp; omega
 have e5456 : (((n54 : Nat) : Int) == 56) = true := by simp; omega
 have i7 : ¬ (0 : Int) < ((n56 : Nat) : Int) := by omega
 clear h3 h4 h5 h6 h7
 rotate_left
 have i64 : (64 : Int) <= (m : Int) := by omega
 have H2 := zJ2 h2
 clear h2
 have e162 : (((n16 : Nat) : Int) == 2) = false := by simp; omega
 have e163 : (((n16 : Nat) : Int) == 3) = true := by simp; omega
 have e1862 : (((n18 : Nat) : Int) == 62) = true := by simp; omega
 have e201 : (((n20 : Nat) : Int) == 1) = true := by simp; omega
 have e5456 : (((n54 : Nat) : Int) == 56) = true := by simp; omega
 have i7 : (0 : Int) < ((n56 : Nat) : Int) := by omega
 have i8 : decide (((n56 : Nat) : Int) <= 8) = false := by simp; omega
 clear h3 h4 h5 h6 h7 h8
 rotate_left
 have i64 : (64 : Int) <= (m : Int) := by omega
 have H2 := zJ2 h2
 clear h2
 have e162 : (((n16 : Nat) : Int) == 2) = false := by simp; omega
 have e163 : (((n16 : Nat) : Int) == 3) = false := by simp; omega
 clear h3 h3'
 rotate_left
 have i64 : (64 : Int) <= (m : Int) := by omega
 have H2 := zJ2 h2
 clear h2
 rotate_left
 all_goals (
  go_enter Tryz.func43, Tryz.ntmps43
  go_wp2_with (first
   | (go_at_call 90; refine (uJd _ _ _ _ _ _ _ b _ hmc (((zJ1 Hb).more hB).alloc (Nat.le_refl _) _) (magic_row _ _)).mono ?_; rintro e w0 ⟨rfl, rfl⟩; rw [zJ1 H2]; have HB := zJ2 ((Below.refl w.heap.size w).alloc (Nat.le_refl _) (.cells #[.int .u8 127, .int .u8 69, .int .u8 76, .int .u8 70, .int .u8 2, .int .u8 1, .int .u8 1] 5 (7, 8))))
   | (go_at_call_of 44 (Value.int IntKind.u64 16); refine ((zJ1 G1) _ (zJ1 HB)).mono ?_; rintro e w1 ⟨rfl, hx⟩; replace HB := zJ2 ((zJ1 HB).trans (hx.mono (zJ1 HB).size)); clear hx)
   | (go_at_call_of 44 (Value.int IntKind.u64 56); refine ((zJ1 G2) _ (zJ1 HB)).mono ?_; rintro e w1 ⟨rfl, hx⟩; replace HB := zJ2 ((zJ1 HB).trans (hx.mono (zJ1 HB).size)); clear hx)
   | (go_at_call_of 44 (Value.int IntKind.u64 18); refine ((zJ1 G3) _ (zJ1 HB)).mono ?_; rintro e w1 ⟨rfl, hx⟩; replace HB := zJ2 ((zJ1 HB).trans (hx.mono (zJ1 HB).size)); clear hx)
   | (go_at_call_of 44 (Value.int IntKind.u64 20); refine ((zJ1 G4) _ (zJ1 HB)).mono ?_; rintro e w1 ⟨rfl, hx⟩; replace HB := zJ2 ((zJ1 HB).trans (hx.mono (zJ1 HB).size)); clear hx)
   | (go_at_call_of 44 (Value.int IntKind.u64 54); refine ((zJ1 G5) _ (zJ1 HB)).mono ?_; rintro e w1 ⟨rfl, hx⟩; replace HB := zJ2 ((zJ1 HB).trans (hx.mono (zJ1 HB).size)); clear hx)
   | (go_at_call_of 45 (Value.bool true); refine (zJ8 _ _).mono ?_; rintro e w1 ⟨rfl, rfl⟩)
   | (go_at_call_of 45 (Value.bool false); refine (zJe _ _).mono ?_; rintro e w1 ⟨rfl, rfl⟩))
  exact ⟨rfl, rfl, zJ1 HB⟩)
set_option maxHeartbeats 60000000 in
theorem uJk (A : Option Addr) (m c : Nat) (B : Nat) (b : List UInt8) (w : World) (hB : B <= w.heap.size) (hb : Rd w B 1 A m (u8s b)) (hm : m <= maxLen) (hmc : m <= c)
  (hq : ((64 <= m) /\ (Lib.hasPrefix b El.magic = true) /\ (Wd.num b 16 2 = 2) /\ (Wd.num b 18 2 = 62) /\ (Wd.num b 20 4 = 1) /\ (Wd.num b 54 2 = 56) /\ (0 < Wd.num b 56 2) /\ (Wd.num b 56 2 <= 8))
  \/ ((64 <= m) /\ (Lib.hasPrefix b El.magic = true) /\ (Wd.num b 16 2 = 3) /\ (Wd.num b 18 2 = 62) /\ (Wd.num b 20 4 = 1) /\ (Wd.num b 54 2 = 56) /\ (0 < Wd.num b 56 2) /\ (Wd.num b 56 2 <= 8))) :
  Calls Tryz.prog 43 #[.slice A m c] w fun e w' => e = .returned (.int .u64 (Wd.num b 56 2)) /\ Below w.heap.size w w' := by
 have hbl : b.length = m := by simpa using hb.len1
 have G1 := zJ2 (fun (w' : World) (h : Below w.heap.size w w') => xJe A m c B b 16 2 w' (Nat.le_trans hB h.size) ((hb).below (h.mono hB)) hm (by omega) (by omega))
 have G2 := zJ2 (fun (w' : World) (h : Below w.heap.size w w') => xJe A m c B b 56 2 w' (Nat.le_trans hB h.size) ((hb).below (h.mono hB)) hm (by omega) (by omega))
 have G3 := zJ2 (fun (w' : World) (h : Below w.heap.size w w') => xJe A m c B b 18 2 w' (Nat.le_trans hB h.size) ((hb).below (h.mono hB)) hm (by omega) (by omega))
 have G4 := zJ2 (fun (w' : World) (h : Below w.heap.size w w') => xJe A m c B b 20 4 w' (Nat.le_trans hB h.size) ((hb).below (h.mono hB)) hm (by omega) (by omega))
 have G5 := zJ2 (fun (w' : World) (h : Below w.heap.size w w') => xJe A m c B b 54 2 w' (Nat.le_trans hB h.size) ((hb).below (h.mono hB)) hm (by omega) (by omega))
 have kc := fun (w : World) (C : Array Value) (n c : Nat) => Lib.run_convert_bytes_const (P := Tryz.prog) w 24 5 C n c Tryz.underlying24 Tryz.underlying5
 have hl16 : Wd.num b 16 2 < 65536 := Wd.num_lt b 16 2
 generalize Wd.num b 16 2 = n16 at *
 generalize Wd.num b 56 2 = n56 at *
 generalize Wd.num b 18 2 = n18 at *
 generalize Wd.num b 20 4 = n20 at *
 generalize Wd.num b 54 2 = n54 at *
 have Hb := zJ2 hb
 clear hb hbl
 rcases hq with ⟨h64, h2, h3, h4, h5, h6, h7, h8⟩ | ⟨h64, h2, h3, h4, h5, h6, h7, h8⟩
 have i64 : (64 : Int) <= (m : Int) := by omega
 have H2 := zJ2 h2
 clear h2
 have e162 : (((n16 : Nat) : Int) == 2) = true := by simp; omega
 have e1862 : (((n18 : Nat) : Int) == 62) = true := by simp; omega
 have e201 : (((n20 : Nat) : Int) == 1) = true := by simp; omega
 have e5456 : (((n54 : Nat) : Int) == 56) = true := by simp; omega
 have i7 : (0 : Int) < ((n56 : Nat) : Int) := by omega
 have i8 : ((n56 : Nat) : Int) <= 8 := by omega
 clear h3 h4 h5 h6 h7 h8
 rotate_left
 have i64 : (64 : Int) <= (m : Int) := by omega
 have H2 := zJ2 h2
 clear h2
 have e162 : (((n16 : Nat) : Int) == 2) = false := by simp; omega
 have e163 : (((n16 : Nat) : Int) == 3) = true := by simp; omega
 have e1862 : (((n18 : Nat) : Int) == 62) = true := by simp; omega
 have e201 : (((n20 : Nat) : Int) == 1) = true := by simp; omega
 have e5456 : (((n54 : Nat) : Int) == 56) = true := by simp; omega
 have i7 : (0 : Int) < ((n56 : Nat) : Int) := by omega
 have i8 : ((n56 : Nat) : Int) <= 8 := by omega
 clear h3 h4 h5 h6 h7 h8
 rotate_left
 all_goals (
  go_enter Tryz.func43, Tryz.ntmps43
  go_wp2_with (first
   | (go_at_call 90; refine (uJd _ _ _ _ _ _ _ b _ hmc (((zJ1 Hb).more hB).alloc (Nat.le_refl _) _) (magic_row _ _)).mono ?_; rintro e w0 ⟨rfl, rfl⟩; rw [zJ1 H2]; have HB := zJ2 ((Below.refl w.heap.size w).alloc (Nat.le_refl _) (.cells #[.int .u8 127, .int .u8 69, .int .u8 76, .int .u8 70, .int .u8 2, .int .u8 1, .int .u8 1] 5 (7, 8))))
   | (go_at_call_of 44 (Value.int IntKind.u64 16); refine ((zJ1 G1) _ (zJ1 HB)).mono ?_; rintro e w1 ⟨rfl, hx⟩; replace HB := zJ2 ((zJ1 HB).trans (hx.mono (zJ1 HB).size)); clear hx)
   | (go_at_call_of 44 (Value.int IntKind.u64 56); refine ((zJ1 G2) _ (zJ1 HB)).mono ?_; rintro e w1 ⟨rfl, hx⟩; replace HB := zJ2 ((zJ1 HB).trans (hx.mono (zJ1 HB).size)); clear hx)
   | (go_at_call_of 44 (Value.int IntKind.u64 18); refine ((zJ1 G3) _ (zJ1 HB)).mono ?_; rintro e w1 ⟨rfl, hx⟩; replace HB := zJ2 ((zJ1 HB).trans (hx.mono (zJ1 HB).size)); clear hx)
   | (go_at_call_of 44 (Value.int IntKind.u64 20); refine ((zJ1 G4) _ (zJ1 HB)).mono ?_; rintro e w1 ⟨rfl, hx⟩; replace HB := zJ2 ((zJ1 HB).trans (hx.mono (zJ1 HB).size)); clear hx)
   | (go_at_call_of 44 (Value.int IntKind.u64 54); refine ((zJ1 G5) _ (zJ1 HB)).mono ?_; rintro e w1 ⟨rfl, hx⟩; replace HB := zJ2 ((zJ1 HB).trans (hx.mono (zJ1 HB).size)); clear hx)
   | (go_at_call_of 45 (Value.bool true); refine (zJ8 _ _).mono ?_; rintro e w1 ⟨rfl, rfl⟩)
   | (go_at_call_of 45 (Value.bool false); refine (zJe _ _).mono ?_; rintro e w1 ⟨rfl, rfl⟩))
  go_ret
  exact ⟨rfl, zJ1 HB⟩)
theorem header_bs (A : Option Addr) (m c : Nat) (B : Nat) (b : List UInt8) (w : World) (hB : B <= w.heap.size) (hb : Rd w B 1 A m (u8s b)) (hm : m <= maxLen) (hmc : m <= c) (h64 : ¬ 64 <= m) :
  Calls Tryz.prog 43 #[.slice A m c] w fun e w' => e = wrongs 13 /\ Below w.heap.size w w' := by
 have i64 : ¬ (64 : Int) <= (m : Int) := by omega
 unfold maxLen at hm
 go_enter Tryz.func43, Tryz.ntmps43
 go_wp2_with (go_at_call_of 45 (Value.bool false); refine (zJe _ _).mono ?_; rintro e w1 ⟨rfl, rfl⟩)
 exact ⟨rfl, rfl, Below.refl _ _⟩
theorem header_ok (A : Option Addr) (m c : Nat) (B : Nat) (b : List UInt8) (w : World) (hB : B <= w.heap.size) (hb : Rd w B 1 A m (u8s b)) (hm : m <= maxLen) (hmc : m <= c) (h : El.hdrOk b = true) :
  Calls Tryz.prog 43 #[.slice A m c] w fun e w' => e = .returned (.int .u64 (Wd.num b 56 2)) /\ Below w.heap.size w w' := by
 have hbl : b.length = m := by simpa using hb.len1
 unfold El.hdrOk at h
 simp only [Bool.and_eq_true, Bool.or_eq_true, beq_iff_eq, decide_eq_true_eq] at h
 obtain ⟨⟨⟨⟨h1, h2⟩, h3⟩, ⟨h4, h5⟩, h6⟩, h7, h8⟩ := h
 have h64 : 64 <= m := by omega
 rcases h3 with h3 | h3
 ·exact uJk A m c B b w hB hb hm hmc (.inl ⟨h64, h2, h3, h4, h5, h6, h7, h8⟩)
 ·exact uJk A m c B b w hB hb hm hmc (.inr ⟨h64, h2, h3, h4, h5, h6, h7, h8⟩)
theorem header_bad (A : Option Addr) (m c : Nat) (B : Nat) (b : List UInt8) (w : World) (hB : B <= w.heap.size) (hb : Rd w B 1 A m (u8s b)) (hm : m <= maxLen) (hmc : m <= c) (h : El.hdrOk b = false) :
  Calls Tryz.prog 43 #[.slice A m c] w fun e w' => e = wrongs 13 /\ Below w.heap.size w w' := by
 have hbl : b.length = m := by simpa using hb.len1
 by_cases h1 : 64 <= m
 ·by_cases h2 : Lib.hasPrefix b El.magic = true
  ·by_cases h3 : Wd.num b 16 2 = 2 \/ Wd.num b 16 2 = 3
   ·by_cases h4 : Wd.num b 18 2 = 62
    ·by_cases h5 : Wd.num b 20 4 = 1
     ·by_cases h6 : Wd.num b 54 2 = 56
      ·by_cases h7 : 0 < Wd.num b 56 2
       ·by_cases h8 : Wd.num b 56 2 <= 8
        ·exfalso
         have : El.hdrOk b = true := by
          unfold El.hdrOk
          simp only [Bool.and_eq_true, Bool.or_eq_true, beq_iff_eq, decide_eq_true_eq]
          exact ⟨⟨⟨⟨by omega, h2⟩, h3⟩, ⟨h4, h5⟩, h6⟩, h7, h8⟩
         rw [this] at h
         cases h
        ·rcases h3 with h3 | h3
         ·exact zJu A m c B b w hB hb hm hmc (.inr (.inr (.inr (.inr (.inl ⟨h1, h2, h3, h4, h5, h6, h7, h8⟩)))))
         ·exact zJu A m c B b w hB hb hm hmc (.inr (.inr (.inr (.inr (.inr (.inr (.inr (.inr (.inr (.inl ⟨h1, h2, h3, h4, h5, h6, h7, h8⟩))))))))))
       ·rcases h3 with h3 | h3
        ·exact zJu A m c B b w hB hb hm hmc (.inr (.inr (.inr (.inl ⟨h1, h2, h3, h4, h5, h6, h7⟩))))
        ·exact zJu A m c B b w hB hb hm hmc (.inr (.inr (.inr (.inr (.inr (.inr (.inr (.inr (.inl ⟨h1, h2, h3, h4, h5, h6, h7⟩)))))))))
      ·rcases h3 with h3 | h3
       ·exact zJu A m c B b w hB hb hm hmc (.inr (.inr (.inl ⟨h1, h2, h3, h4, h5, h6⟩)))
       ·exact zJu A m c B b w hB hb hm hmc (.inr (.inr (.inr (.inr (.inr (.inr (.inr (.inl ⟨h1, h2, h3, h4, h5, h6⟩))))))))
     ·rcases h3 with h3 | h3
      ·exact zJu A m c B b w hB hb hm hmc (.inr (.inl ⟨h1, h2, h3, h4, h5⟩))
      ·exact zJu A m c B b w hB hb hm hmc (.inr (.inr (.inr (.inr (.inr (.inr (.inl ⟨h1, h2, h3, h4, h5⟩)))))))
    ·rcases h3 with h3 | h3
     ·exact zJu A m c B b w hB hb hm hmc (.inl ⟨h1, h2, h3, h4⟩)
     ·exact zJu A m c B b w hB hb hm hmc (.inr (.inr (.inr (.inr (.inr (.inl ⟨h1, h2, h3, h4⟩))))))
   ·rw [not_or] at h3
    exact zJu A m c B b w hB hb hm hmc (.inr (.inr (.inr (.inr (.inr (.inr (.inr (.inr (.inr (.inr (.inl ⟨h1, h2, h3.1, h3.2⟩)))))))))))
  ·exact zJu A m c B b w hB hb hm hmc (.inr (.inr (.inr (.inr (.inr (.inr (.inr (.inr (.inr (.inr (.inr ⟨h1, (by simpa using h2)⟩)))))))))))
 ·exact header_bs A m c B b w hB hb hm hmc h1
end Go.Proofs.YtnbecdahfgkffaaGreat
