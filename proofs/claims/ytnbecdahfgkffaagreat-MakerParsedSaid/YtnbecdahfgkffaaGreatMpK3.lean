/- Texts of the claim LawMakerParsed (MkR2, MkR3, MkR4, MkR5, MkR4b, MkR6, MkR6b, PathsC, Paths, Paths2, Eq, RefC, PathsRef, MkFit, MkR9, MkL1, Put2, AppK, MkP1, MkP2, MkP3, MkP4): what the functions that the statement reaches compute, and plain laws of it. Conditions: those that each theorem states. -/
import Derived.Test.YtnbecdahfgkffaaGreatMpK1
import Derived.Test.YtnbecdahfgkffaaGreatMpK2
import Derived.Laws.CopyRow
import Derived.Deep.DeepCutAuto
import Derived.Deep.CutBlock
import Derived.Test.YtnbecdahfgkffaaGreatProg
import Derived.Test.YtnbecdahfgkffaaGreatShelf
import Derived.Lib.IndexAny
import Derived.WalkLawsBesides
import Derived.WalkSpells
import Derived.Deep.RegionWith
import Derived.BigQuiet
import Derived.Deep.QuietTactic
import Derived.Laws.EntriesVeiled
set_option linter.unusedVariables false
set_option linter.unusedSimpArgs false
namespace Go.Proofs.YtnbecdahfgkffaaGreat
open Go.RowKit
theorem yJp {s : ByteArray} (h : s.size = 0) : s.toList.isEmpty = true := by rw [zJi, decide_eq_true_eq]; exact h
theorem toList_some {s : ByteArray} (h : s.size ≠ 0) : s.toList.isEmpty = false := by rw [zJi, decide_eq_false_iff_not]; exact h
theorem FiE.more {t : TypeId} {g o base n1 c1 n2 c2 : Nat} {l : List Value} {A A1 A2 : Option Addr} {w w1 w2 w3 : World} {xs1 xs2 : List UInt8} (h : FiE t g o l base A w w1 A1 n1 c1 xs1) (hb : Below w1.heap.size w1 w2) (k : Grew w2 w3 base (.slice A1 n1 c1) (.slice A2 n2 c2) n2 xs2) :
  Blk w3 g t (l.set o (.slice A1 n1 c1)) /\ FiE t g o l base A w (w3.setCell ⟨g, o, none⟩ (.slice A2 n2 c2)) A2 n2 c2 xs2 := by
 obtain ⟨h1, h2⟩ := (h.m.below hb).app k
 exact ⟨h1, h.trans (FiE.after hb h2)⟩
theorem FiE.rdK {t : TypeId} {g o base n' c' B m size : Nat} {l : List Value} {A A' A2 : Option Addr} {w w' : World} {xs' : List UInt8} {ys : List Value} (h : FiE t g o l base A w w' A' n' c' xs') (r : Rd w B size A2 m ys) (hB : B <= w.heap.size) (h1 : bk A2 ≠ some g) (h2 : ∀ k, bk A2 = some k -> bk A ≠ some k) : Rd w' B size A2 m ys := by
 refine ⟨r.1, r.2.imp id ?_⟩
 rintro ⟨b, off, rfl, hb, hc⟩
 refine ⟨b, off, rfl, hb, fun j u hu => (zJ4 (h.block b (by omega) (fun e => h1 (by rw [<- e]; rfl)) (h2 b rfl)) (off + j)).trans (hc j u hu)⟩
theorem litA (w : World) : Rd (w.alloc (.cells #[.int .u8 0] 5)) (w.heap.size + 1) 1 (some ⟨w.heap.size, 0, none⟩) 1 (bys [0]) := Rd.row (w := w) rfl
theorem modT (a n : Nat) : (a : Int).tmod (n : Int) = ((a % n : Nat) : Int) := by rw [Int.tmod_eq_emod_of_nonneg (by omega)]; omega
theorem gap_next {m n k : Nat} (hm : 0 < m) (h : k < Mk.gap m n) : (n + k) % m ≠ 0 := by
 unfold Mk.gap at h
 intro e
 have h1 : n % m < m := Nat.mod_lt _ hm
 by_cases h0 : n % m = 0
 ·rw [h0, Nat.sub_zero, Nat.mod_self] at h; omega
 ·rw [Nat.mod_eq_of_lt (by omega)] at h
  have h2 : n + k = m * (n / m) + (n % m + k) := by have := Nat.div_add_mod n m; omega
  rw [h2, Nat.mul_add_mod, Nat.mod_eq_of_lt (by omega)] at e
  omega
theorem gap_end {m n : Nat} (hm : 0 < m) : (n + Mk.gap m n) % m = 0 := by
 unfold Mk.gap
 have h1 : n % m < m := Nat.mod_lt _ hm
 by_cases h0 : n % m = 0
 ·rw [h0, Nat.sub_zero, Nat.mod_self, Nat.add_zero]; exact h0
 ·rw [Nat.mod_eq_of_lt (by omega : m - n % m < m)]
  have h2 : n + (m - n % m) = m * (n / m) + m := by have := Nat.div_add_mod n m; omega
  rw [h2, Nat.mul_add_mod, Nat.mod_self]
theorem gap_lt {m n : Nat} (hm : 0 < m) : Mk.gap m n < m := Nat.mod_lt _ hm
theorem zs_snoc (k : Nat) : Mk.zs k ++ [0] = Mk.zs (k + 1) := by unfold Mk.zs; rw [List.replicate_succ']
theorem yJj (k : Nat) : (Mk.zs k).length = k := by simp [Mk.zs]
theorem tJ8 {α : Type} (f : α -> List Value) (z : Nat) (hf : ∀ x, (f x).length = z) (l : List α) : ∀ (k : Nat) (x : α), l[k]? = some x -> ∀ j v, (f x)[j]? = some v -> (l.flatMap f)[k * z + j]? = some v := by
 induction l with
 | nil => intro k x h; simp at h
 | cons a r ih =>
  intro k x h j v hv
  have hj : j < z := by have := (List.getElem?_eq_some_iff.1 hv).1; rwa [hf] at this
  cases k with
  | zero =>
   simp at h
   subst h
   rw [List.flatMap_cons, List.getElem?_append_left (by rw [hf]; omega), Nat.zero_mul, Nat.zero_add]
   exact hv
  | succ k =>
   simp at h
   rw [List.flatMap_cons, List.getElem?_append_right (by rw [hf, Nat.succ_mul]; omega), hf, show (k + 1) * z + j - z = k * z + j from by rw [Nat.succ_mul]; omega]
   exact ih k x h j v hv
def mrV (r : Mk.Rel) : List Value := [.int .u64 (r.off : Nat), .int .u32 (r.type : Nat), .int .i64 r.sym, .int .i64 r.add]
def mrC (l : List Mk.Rel) : List Value := l.flatMap mrV
theorem xJq {w : World} {B n : Nat} {A : Option Addr} {l : List Dy.Sym} (h : Rd w B 5 A n (symC l)) {k : Nat} {x : Dy.Sym} (hk : l[k]? = some x) :
  ∃ b off, A = some ⟨b, off, none⟩ /\ b < B /\ w.cell? ⟨b, off + k * 5, none⟩ = some (.string x.name) /\ w.cell? ⟨b, off + k * 5 + 1, none⟩ = some (.int .u64 (x.value : Nat)) /\ w.cell? ⟨b, off + k * 5 + 2, none⟩ = some (.int .u64 (x.size : Nat)) /\ w.cell? ⟨b, off + k * 5 + 3, none⟩ = some (.int .u8 (x.bind : Nat)) /\ w.cell? ⟨b, off + k * 5 + 4, none⟩ = some (.bool x.isdef) := by
 have hc := tJ8 symV 5 (fun _ => rfl) l k x hk
 obtain ⟨b, off, ea, hb, hx⟩ := h.open_ (by intro e0; have := hc 0 _ rfl; rw [show l.flatMap symV = symC l from rfl, e0] at this; simp at this)
 refine ⟨b, off, ea, hb, ?_, ?_, ?_, ?_, ?_⟩
 ·exact hx _ _ (hc 0 _ rfl)
 ·rw [Nat.add_assoc]; exact hx _ _ (hc 1 _ rfl)
 ·rw [Nat.add_assoc]; exact hx _ _ (hc 2 _ rfl)
 ·rw [Nat.add_assoc]; exact hx _ _ (hc 3 _ rfl)
 ·rw [Nat.add_assoc]; exact hx _ _ (hc 4 _ rfl)
theorem vJb {w : World} {B n : Nat} {A : Option Addr} {l : List Mk.Rel} (h : Rd w B 4 A n (mrC l)) {k : Nat} {x : Mk.Rel} (hk : l[k]? = some x) :
  ∃ b off, A = some ⟨b, off, none⟩ /\ b < B /\ w.cell? ⟨b, off + k * 4, none⟩ = some (.int .u64 (x.off : Nat)) /\ w.cell? ⟨b, off + k * 4 + 1, none⟩ = some (.int .u32 (x.type : Nat)) /\ w.cell? ⟨b, off + k * 4 + 2, none⟩ = some (.int .i64 x.sym) /\ w.cell? ⟨b, off + k * 4 + 3, none⟩ = some (.int .i64 x.add) := by
 have hc := tJ8 mrV 4 (fun _ => rfl) l k x hk
 obtain ⟨b, off, ea, hb, hx⟩ := h.open_ (by intro e0; have := hc 0 _ rfl; rw [show l.flatMap mrV = mrC l from rfl, e0] at this; simp at this)
 refine ⟨b, off, ea, hb, ?_, ?_, ?_, ?_⟩
 ·exact hx _ _ (hc 0 _ rfl)
 ·rw [Nat.add_assoc]; exact hx _ _ (hc 1 _ rfl)
 ·rw [Nat.add_assoc]; exact hx _ _ (hc 2 _ rfl)
 ·rw [Nat.add_assoc]; exact hx _ _ (hc 3 _ rfl)
structure Dq where
 d : Mk.Dyn
 A1 : Option Addr
 c1 : Nat
 A2 : Option Addr
 c2 : Nat
 A3 : Option Addr
 c3 : Nat
def Dq.l (q : Dq) : List Value := [.slice q.A1 q.d.needed.length q.c1, .string q.d.soname, .string q.d.run, .slice q.A2 q.d.syms.length q.c2, .slice q.A3 q.d.relas.length q.c3]
structure DqM (w : World) (B : Nat) (q : Dq) : Prop where
 needed : Rd w B 1 q.A1 q.d.needed.length (q.d.needed.map Value.string)
 syms : Rd w B 5 q.A2 q.d.syms.length (symC q.d.syms)
 relas : Rd w B 4 q.A3 q.d.relas.length (mrC q.d.relas)
theorem DqM.below {w w' : World} {B : Nat} {q : Dq} (h : DqM w B q) (hb : Below B w w') : DqM w' B q := ⟨h.needed.below hb, h.syms.below hb, h.relas.below hb⟩
theorem DqM.more {w : World} {B B' : Nat} {q : Dq} (h : DqM w B q) (hB : B <= B') : DqM w B' q := ⟨h.needed.more hB, h.syms.more hB, h.relas.more hB⟩
structure DqOk (q : Dq) : Prop where
 n1 : q.d.needed.length <= 4294967296
 n2 : q.d.syms.length <= 4294967296
 n3 : q.d.relas.length <= 4294967296
 s1 : ∀ s ∈ q.d.needed, s.size <= 4294967296
 s2 : ∀ s ∈ q.d.syms, s.name.size <= 4294967296
 s3 : q.d.soname.size <= 4294967296
 s4 : q.d.run.size <= 4294967296
 c1 : q.d.needed.length <= q.c1
 c2 : q.d.syms.length <= q.c2
 c3 : q.d.relas.length <= q.c3
theorem Grew.refl {w : World} {base n c : Nat} {A : Option Addr} {xs : List UInt8} (h : w.ownsRow base 5 1 (.slice A n c) n (bys xs)) : Grew w w base (.slice A n c) (.slice A n c) n xs := ⟨h, World.grownBy.refl w _, fun k hk => .inl hk⟩
structure MrOk (r : Mk.Rel) : Prop where
 off : r.off < 18446744073709551616
 type : r.type < 4294967296
theorem word_cast (x : Int) : IntKind.u64.wrap x = ((Mk.word x : Nat) : Int) := by
 unfold Mk.word
 rw [IntKind.wrap_u64]
 omega
theorem word_lt (x : Int) : Mk.word x < 18446744073709551616 := by unfold Mk.word; omega
theorem relsB_next {l : List Mk.Rel} {j : Nat} {x : Mk.Rel} (h : l[j]? = some x) : Mk.relsB (l.take (j + 1)) = Mk.relsB (l.take j) ++ Mk.relB x := by
 unfold Mk.relsB
 rw [List.take_add_one, h, List.flatMap_append]
 simp
-- PIECE
theorem symRows_app (t : List UInt8) (a b : List Dy.Sym) : Mk.symRows t (a ++ b) = Mk.symRows t a ++ Mk.symRows (Mk.puts t (Mk.names a)) b := by
 induction a generalizing t with
 | nil => rfl
 | cons s r ih =>
  rw [List.cons_append, Mk.symRows, ih, Mk.symRows, List.append_assoc]
  rfl
theorem uJu (t : List UInt8) (a b : List ByteArray) : Mk.puts t (a ++ b) = Mk.puts (Mk.puts t a) b := List.foldl_append
theorem symRows_next {t : List UInt8} {l : List Dy.Sym} {j : Nat} {x : Dy.Sym} (h : l[j]? = some x) : Mk.symRows t (l.take (j + 1)) = Mk.symRows t (l.take j) ++ Mk.symB (Mk.place (Mk.puts t (Mk.names (l.take j))) x.name) x := by
 rw [List.take_add_one, h, symRows_app]
 simp [Mk.symRows]
theorem puts_next {t : List UInt8} {l : List Dy.Sym} {j : Nat} {x : Dy.Sym} (h : l[j]? = some x) : Mk.puts t (Mk.names (l.take (j + 1))) = Mk.put (Mk.puts t (Mk.names (l.take j))) x.name := by
 rw [List.take_add_one, h]
 unfold Mk.names
 rw [List.map_append, uJu]
 rfl
theorem put_le {t : List UInt8} {s : ByteArray} (h : s.size <= 4294967296) : (Mk.put t s).length <= t.length + 4294967297 := by
 unfold Mk.put
 split
 ·omega
 ·simp only [List.length_append, List.length_cons, List.length_nil, Array.length_toList]
  have : s.data.size = s.size := rfl
  omega
theorem puts_le {t : List UInt8} {l : List ByteArray} (h : ∀ s ∈ l, s.size <= 4294967296) : (Mk.puts t l).length <= t.length + l.length * 4294967297 := by
 induction l generalizing t with
 | nil => simp [Mk.puts]
 | cons s r ih =>
  have h1 := put_le (t := t) (h s (by simp))
  have h2 := ih (t := Mk.put t s) (fun s hs => h s (by simp [hs]))
  show (Mk.puts (Mk.put t s) r).length <= _
  rw [List.length_cons, Nat.succ_mul]
  omega
structure SyOk (s : Dy.Sym) : Prop where
 value : s.value < 18446744073709551616
 size : s.size < 18446744073709551616
 bind : s.bind <= 2
theorem lbs_snoc (k : Nat) (a : List Nat) (x : Nat) : Mk.lbs k (a ++ [x]) = Mk.lbs k a ++ Cl.lb x k := by
 induction a with
 | nil => simp [Mk.lbs]
 | cons y r ih => simp [Mk.lbs, ih]
theorem tJ0 (n b : Nat) (l : List Dy.Sym) : ∀ i, Mk.nextL n b l i <= i + l.length := by
 induction l with
 | nil => intro i; simp [Mk.nextL]
 | cons s r ih =>
  intro i
  unfold Mk.nextL
  split
  ·simp
  ·have := ih (i + 1)
   simp at this ⊢
   omega
def rowV (r : Mk.Row) : List Value := [.int .u64 (r.kind : Nat), .int .u64 (r.flags : Nat), .int .u64 (r.off : Nat), .int .u64 (r.addr : Nat), .int .u64 (r.fsz : Nat), .int .u64 (r.msz : Nat), .int .u64 (r.align : Nat)]
def rowC (l : List Mk.Row) : List Value := l.flatMap rowV
structure RowOk (r : Mk.Row) : Prop where
 kind : r.kind < 18446744073709551616
 flags : r.flags < 18446744073709551616
 off : r.off < 18446744073709551616
 addr : r.addr < 18446744073709551616
 fsz : r.fsz < 18446744073709551616
 msz : r.msz < 18446744073709551616
 align : r.align < 18446744073709551616
theorem mkrow_at {w : World} {B n : Nat} {A : Option Addr} {l : List Mk.Row} (h : Rd w B 7 A n (rowC l)) {k : Nat} {x : Mk.Row} (hk : l[k]? = some x) :
  ∃ b off, A = some ⟨b, off, none⟩ /\ b < B /\ w.cell? ⟨b, off + k * 7, none⟩ = some (.int .u64 (x.kind : Nat)) /\ w.cell? ⟨b, off + k * 7 + 1, none⟩ = some (.int .u64 (x.flags : Nat)) /\ w.cell? ⟨b, off + k * 7 + 2, none⟩ = some (.int .u64 (x.off : Nat)) /\ w.cell? ⟨b, off + k * 7 + 3, none⟩ = some (.int .u64 (x.addr : Nat)) /\ w.cell? ⟨b, off + k * 7 + 4, none⟩ = some (.int .u64 (x.fsz : Nat)) /\ w.cell? ⟨b, off + k * 7 + 5, none⟩ = some (.int .u64 (x.msz : Nat)) /\ w.cell? ⟨b, off + k * 7 + 6, none⟩ = some (.int .u64 (x.align : Nat)) := by
 have hc := tJ8 rowV 7 (fun _ => rfl) l k x hk
 obtain ⟨b, off, ea, hb, hx⟩ := h.open_ (by intro e0; have := hc 0 _ rfl; rw [show l.flatMap rowV = rowC l from rfl, e0] at this; simp at this)
 refine ⟨b, off, ea, hb, ?_, ?_, ?_, ?_, ?_, ?_, ?_⟩
 ·exact hx _ _ (hc 0 _ rfl)
 all_goals rw [Nat.add_assoc]
 ·exact hx _ _ (hc 1 _ rfl)
 ·exact hx _ _ (hc 2 _ rfl)
 ·exact hx _ _ (hc 3 _ rfl)
 ·exact hx _ _ (hc 4 _ rfl)
 ·exact hx _ _ (hc 5 _ rfl)
 ·exact hx _ _ (hc 6 _ rfl)
theorem rowsB_next {l : List Mk.Row} {j : Nat} {x : Mk.Row} (h : l[j]? = some x) : Mk.rowsB (l.take (j + 1)) = Mk.rowsB (l.take j) ++ Mk.rowB x := by
 unfold Mk.rowsB
 rw [List.take_add_one, h, List.flatMap_append]
 simp
structure Xq where
 x : Mk.Spec
 At : Option Addr
 ct : Nat
 Ad : Option Addr
 cd : Nat
 A1 : Option Addr
 c1 : Nat
 A2 : Option Addr
 c2 : Nat
 A3 : Option Addr
 c3 : Nat
def Xq.q (s : Xq) : Dq := ⟨s.x.dyn, s.A1, s.c1, s.A2, s.c2, s.A3, s.c3⟩
def Xq.l (s : Xq) : List Value := [.int .u16 (s.x.type : Nat), .int .u64 (s.x.entry : Nat), .string s.x.interp, .slice s.At s.x.text.length s.ct, .slice s.Ad s.x.data.length s.cd, .int .u64 (s.x.more : Nat), .bool s.x.dynamic, .slice s.A1 s.x.dyn.needed.length s.c1, .string s.x.dyn.soname, .string s.x.dyn.run, .slice s.A2 s.x.dyn.syms.length s.c2, .slice s.A3 s.x.dyn.relas.length s.c3, .int .i64 s.x.apart]
structure XqM (w : World) (B : Nat) (s : Xq) : Prop where
 text : Rd w B 1 s.At s.x.text.length (bys s.x.text)
 data : Rd w B 1 s.Ad s.x.data.length (bys s.x.data)
 dyn : DqM w B s.q
theorem XqM.below {w w' : World} {B : Nat} {s : Xq} (h : XqM w B s) (hb : Below B w w') : XqM w' B s := ⟨h.text.below hb, h.data.below hb, h.dyn.below hb⟩
structure XqOk (s : Xq) : Prop where
 type : s.x.type < 65536
 entry : s.x.entry < 18446744073709551616
 more : s.x.more < 18446744073709551616
 interp : s.x.interp.size <= 4294967296
 text : s.x.text.length <= 4294967296
 data : s.x.data.length <= 4294967296
 tc : s.x.text.length <= s.ct
 dc : s.x.data.length <= s.cd
 dyn : DqOk s.q
theorem zJx {w : World} {g : Nat} {s : Xq} (h : Blk w g 31 s.l) : w.cell? ⟨g, 0, none⟩ = some (.int .u16 (s.x.type : Nat)) /\ w.cell? ⟨g, 1, none⟩ = some (.int .u64 (s.x.entry : Nat)) /\ w.cell? ⟨g, 2, none⟩ = some (.string s.x.interp) /\ w.cell? ⟨g, 3, none⟩ = some (.slice s.At s.x.text.length s.ct) /\ w.cell? ⟨g, 4, none⟩ = some (.slice s.Ad s.x.data.length s.cd) /\ w.cell? ⟨g, 5, none⟩ = some (.int .u64 (s.x.more : Nat)) /\ w.cell? ⟨g, 6, none⟩ = some (.bool s.x.dynamic) /\ w.cell? ⟨g, 7, none⟩ = some (.slice s.A1 s.x.dyn.needed.length s.c1) /\ w.cell? ⟨g, 8, none⟩ = some (.string s.x.dyn.soname) /\ w.cell? ⟨g, 9, none⟩ = some (.string s.x.dyn.run) /\ w.cell? ⟨g, 10, none⟩ = some (.slice s.A2 s.x.dyn.syms.length s.c2) /\ w.cell? ⟨g, 11, none⟩ = some (.slice s.A3 s.x.dyn.relas.length s.c3) /\ w.cell? ⟨g, 12, none⟩ = some (.int .i64 s.x.apart) :=
 ⟨h.cell (i := 0) rfl, h.cell (i := 1) rfl, h.cell (i := 2) rfl, h.cell (i := 3) rfl, h.cell (i := 4) rfl, h.cell (i := 5) rfl, h.cell (i := 6) rfl, h.cell (i := 7) rfl, h.cell (i := 8) rfl, h.cell (i := 9) rfl, h.cell (i := 10) rfl, h.cell (i := 11) rfl, h.cell (i := 12) rfl⟩
theorem size_z {P : Program} {e : TypeId} {z : Nat} (he : (P.info? e).map (·.size) = some z) (w : World) : (sizeOf e).run P w = .ok z w := by
 cases hi : P.info? e with
 | none => simp [hi] at he
 | some i => simp [hi] at he; simp [sizeOf, typeInfo, hi, he]
def fromZ (z : Nat) (A : Option Addr) (c k : Nat) : Option Addr := if c = k then A else A.map (·.add (k * z))
theorem run_fromZ {P : Program} {t e : TypeId} {z : Nat} (ht : P.underlying t = some (.slice e)) (he : (P.info? e).map (·.size) = some z) (A : Option Addr) (n c k : Nat) (hk : k <= n) (w : World) :
  (Instr.slice t (.slice A n c) (some (.int .i64 (k : Nat))) none none).run P w = .ok (.slice (fromZ z A c k) (n - k) (c - k)) w := by
 have hel : P.elem t = e := by simp [Program.elem, ht]
 rw [run_slice_l w t A n c (by rw [hel]; exact ht) .i64 (k : Nat) (by omega) (by omega), hel, size_z he]
 simp only [Result.andThen_ok, Int.toNat_natCast]
 unfold sliced fromZ
 simp
theorem run_toZ {P : Program} {t e : TypeId} {z : Nat} (ht : P.underlying t = some (.slice e)) (he : (P.info? e).map (·.size) = some z) (A : Option Addr) (n c k : Nat) (hk : k <= c) (w : World) :
  (Instr.slice t (.slice A n c) none (some (.int .i64 (k : Nat))) none).run P w = .ok (.slice A k c) w := by
 have hel : P.elem t = e := by simp [Program.elem, ht]
 rw [run_slice_h w t A n c (by rw [hel]; exact ht) .i64 (k : Nat) (by omega) (by omega), hel, size_z he]
 simp only [Result.andThen_ok, Int.toNat_natCast]
 unfold sliced
 have h0 : ∀ A : Option Addr, A.map (·.add (0 * z)) = A := by
  intro A
  rw [Nat.zero_mul]
  cases A with
  | none => rfl
  | some a => cases a; rfl
 rw [h0]
 simp
theorem Rd.fromZ {w : World} {B n c k z : Nat} {A : Option Addr} {xs : List Value} (h : Rd w B z A n xs) (hz : 0 < z) (hk : k <= n) (hc : n <= c) : Rd w B z (fromZ z A c k) (n - k) (xs.drop (k * z)) := by
 have hl := h.1
 refine ⟨by rw [List.length_drop, hl, Nat.sub_mul], ?_⟩
 by_cases h0 : xs.drop (k * z) = []
 ·exact .inl h0
 ·have h1 : 0 < (xs.drop (k * z)).length := List.length_pos_iff.2 h0
  rw [List.length_drop, hl] at h1
  have hkn : k < n := by
   rcases Nat.lt_or_ge k n with h | h
   ·exact h
   ·have := Nat.mul_le_mul_right z h; omega
  obtain ⟨b, off, rfl, hb, hcl⟩ := h.open_ (by intro e; rw [e] at h0; exact h0 (by simp))
  refine .inr ⟨b, off + k * z, ?_, hb, fun j u hu => ?_⟩
  ·unfold Go.Proofs.YtnbecdahfgkffaaGreat.fromZ
   rw [if_neg (by omega), Option.map_some, Addr.add_lit]
  ·rw [List.getElem?_drop] at hu
   have := hcl (k * z + j) u hu
   rwa [show off + k * z + j = off + (k * z + j) by omega]
theorem Rd.toZ {w : World} {B n k z : Nat} {A : Option Addr} {xs : List Value} (h : Rd w B z A n xs) (hk : k <= n) : Rd w B z A k (xs.take (k * z)) := by
 have hl := h.1
 have hm := Nat.mul_le_mul_right z hk
 refine ⟨by rw [List.length_take]; omega, ?_⟩
 rcases h.2 with h0 | ⟨b, off, e, hb, hc⟩
 ·exact .inl (by rw [h0]; simp)
 ·refine .inr ⟨b, off, e, hb, fun j u hu => hc j u ?_⟩
  rw [List.getElem?_take] at hu
  split at hu
  ·exact hu
  ·cases hu
theorem flat_take {α : Type} (f : α -> List Value) (z : Nat) (hf : ∀ x, (f x).length = z) : ∀ (l : List α) (k : Nat), (l.flatMap f).take (k * z) = (l.take k).flatMap f /\ (l.flatMap f).drop (k * z) = (l.drop k).flatMap f := by
 intro l
 induction l with
 | nil => intro k; simp
 | cons a r ih =>
  intro k
  cases k with
  | zero => simp
  | succ k =>
   have hk : (k + 1) * z = (f a).length + k * z := by rw [hf, Nat.succ_mul]; omega
   rw [List.flatMap_cons, hk, List.take_length_add_append, List.drop_length_add_append, (ih k).1, (ih k).2]
   simp
theorem yJ1 {P : Program} {t e : TypeId} {size bytes : Nat} (T : SlTy P t e size bytes) {W : World} {o : Oper} {a : Act} {K : Act -> World -> Prop} {Q : Exit -> Act -> World -> Prop} (s x : Operand)
  (ho : o.op = .call { callee := .builtin .append, args := #[s, x], argTypes := #[t, t] })
  (base : Nat) (v : Value) (n : Nat) (xs : List Value) (hs : a.eval s = v) (hown : W.ownsRow base e size v n xs)
  (cs : Array Value) (g : Nat) (hx : a.eval x = .slice (some ⟨g, 0, none⟩) 1 1) (hg : g = W.heap.size) (hcs : cs.size = size) (h1 : ∀ u ∈ cs.toList, u.oneCell' = true)
  (hb : (n + 1) * bytes <= 140737488355328) (hbase : base <= W.heap.size)
  (h : ∀ A' c' w', w'.ownsRow base e size (.slice A' (n + 1) c') (n + 1) (xs ++ cs.toList) -> W.grownBy w' v.ownBlock -> (∀ k, (Value.slice A' (n + 1) c').ownBlock = some k -> v.ownBlock = some k \/ W.heap.size <= k) -> K (a.put o.dst (.slice A' (n + 1) c')) w') : o.wp P a (W.alloc (.cells cs e)) K Q := by
 subst hg
 refine wp_app T s x ho base v n xs hs (hown.alloc _) (W.heap.size + 1) (some ⟨W.heap.size, 0, none⟩) 1 1 cs.toList hx (Rd.row hcs) h1 hb (by simp; omega) fun v' w' h2 h3 h4 => ?_
 obtain ⟨A', c', rfl⟩ := yJt h2
 refine h A' c' w' h2 (yJm (World.grownBy_alloc W _ _) h3) (fun k hk => ?_)
 rcases h4 k hk with h5 | h5
 ·exact .inl h5
 ·refine .inr ?_
  simp at h5
  omega
theorem zJm {w : World} {base n c size : Nat} {A : Option Addr} {e : TypeId} {xs : List Value} (h : w.ownsRow base e size (.slice A n c) n xs) {p : Addr} (hp : bk A ≠ some p.block) (u : Value) : (w.setCell p u).ownsRow base e size (.slice A n c) n xs := by
 refine ⟨h.1, h.2.imp id ?_⟩
 rintro ⟨k, cap, cur, e1, e2, e3, r'⟩
 have hk : bk A = some k := by injection e1 with e1; rw [e1]; rfl
 exact ⟨k, cap, cur, e1, e2, (heap_setCell_other _ _ _ _ (fun e => hp (by rw [hk, e]))).trans e3, r'⟩
theorem xJo {w w' : World} {base n c size : Nat} {A A2 : Option Addr} {e : TypeId} {xs : List Value} (h : w.ownsRow base e size (.slice A n c) n xs) (hg : w.grownBy w' (bk A2)) (hp : ∀ k, bk A = some k -> bk A2 ≠ some k) : w'.ownsRow base e size (.slice A n c) n xs := by
 refine ⟨h.1, h.2.imp id ?_⟩
 rintro ⟨k, cap, cur, e1, e2, e3, r'⟩
 have hk : bk A = some k := by injection e1 with e1; rw [e1]; rfl
 exact ⟨k, cap, cur, e1, e2, (hg.block k (lt_of_block e3) (fun e => hp k hk e.symm)).trans e3, r'⟩
theorem zJ7 {w : World} {base n c size : Nat} {A : Option Addr} {e : TypeId} {xs : List Value} (h : w.ownsRow base e size (.slice A n c) n xs) : ∀ k, bk A = some k -> base <= k /\ k < w.heap.size := fun k hk => h.lt k (by rw [zJr]; exact hk)
structure Tb where
 Ah : Option Addr
 nh : Nat
 ch : Nat
 As : Option Addr
 ns : Nat
 cs : Nat
 Ao : Option Addr
 no : Nat
 co : Nat
 Aw : Option Addr
 nw : Nat
 cw : Nat
 At : Option Addr
 nt : Nat
 ct : Nat
 An : Option Addr
 nn : Nat
 cn : Nat
 so : Nat
 ru : Nat
def Tb.l (q : Tb) : List Value := [.slice q.Ah q.nh q.ch, .slice q.As q.ns q.cs, .slice q.Ao q.no q.co, .slice q.Aw q.nw q.cw, .slice q.At q.nt q.ct, .slice q.An q.nn q.cn, .int .u64 (q.so : Nat), .int .u64 (q.ru : Nat)]
structure TbM (w0 wr : World) (b0 gt : Nat) (q : Tb) (ts : List UInt8) (ps : List Nat) : Prop where
 blk : Blk wr gt 96 q.l
 texts : wr.ownsRow b0 5 1 (.slice q.At q.nt q.ct) q.nt (bys ts)
 needed : wr.ownsRow b0 23 1 (.slice q.An q.nn q.cn) q.nn (u64s ps)
 d1 : bk q.At ≠ some gt
 d2 : bk q.An ≠ some gt
 d3 : ∀ k, bk q.An = some k -> bk q.At ≠ some k
 bel : Below b0 w0 wr
 hg : b0 <= gt
 h0 : b0 <= w0.heap.size
section
variable {w0 wr w' w8 : World} {b0 gt : Nat} {q : Tb} {ts ts' : List UInt8} {ps : List Nat}
theorem TbM.sz (h : TbM w0 wr b0 gt q ts ps) : b0 <= wr.heap.size := Nat.le_trans h.h0 h.bel.size
theorem TbM.fi (h : TbM w0 wr b0 gt q ts ps) : FiM wr 96 gt 4 q.l b0 q.At q.nt q.ct ts := ⟨h.blk, rfl, h.texts, h.d1⟩
theorem TbM.put {At' : Option Addr} {nt' ct' : Nat} (h : TbM w0 wr b0 gt q ts ps) (e : FiE 96 gt 4 q.l b0 q.At wr w' At' nt' ct' ts') : TbM w0 w' b0 gt { q with At := At', nt := nt', ct := ct' } ts' ps := by
 obtain ⟨h1, h2⟩ := e.own h.needed h.d2 h.d3
 exact ⟨e.m.blk, e.m.row, h1, e.m.ne, h.d2, h2, h.bel.trans (e.below h.hg (fun k hk => (zJ7 h.texts k hk).1) h.sz), h.hg, h.h0⟩
theorem TbM.below (h : TbM w0 wr b0 gt q ts ps) (hb : Below wr.heap.size wr w') : TbM w0 w' b0 gt q ts ps := ⟨h.blk.belowSz hb, own_below h.texts hb, own_below h.needed hb, h.d1, h.d2, h.d3, h.bel.trans (hb.mono h.sz), h.hg, h.h0⟩
theorem TbM.set (h : TbM w0 wr b0 gt q ts ps) {q' : Tb} {i : Nat} {v : Value} (hl : q.l.set i v = q'.l) (h1 : q'.At = q.At) (h2 : q'.nt = q.nt) (h3 : q'.ct = q.ct) (h4 : q'.An = q.An) (h5 : q'.nn = q.nn) (h6 : q'.cn = q.cn) : TbM w0 (wr.setCell ⟨gt, i, none⟩ v) b0 gt q' ts ps := by
 refine ⟨by rw [<- hl]; exact h.blk.set i v, by rw [h1, h2, h3]; exact zJm h.texts h.d1 v, by rw [h4, h5, h6]; exact zJm h.needed h.d2 v, by rw [h1]; exact h.d1, by rw [h4]; exact h.d2, by rw [h1, h4]; exact h.d3, h.bel.setCell h.hg v, h.hg, h.h0⟩
end
theorem uJe (t : List UInt8) (a b : List ByteArray) : Mk.places t (a ++ b) = Mk.places t a ++ Mk.places (Mk.puts t a) b := by
 induction a generalizing t with
 | nil => rfl
 | cons s r ih =>
  show _ :: Mk.places (Mk.put t s) (r ++ b) = _
  rw [ih]
  rfl
theorem places_next {t : List UInt8} {l : List ByteArray} {j : Nat} {x : ByteArray} (h : l[j]? = some x) : Mk.places t (l.take (j + 1)) = Mk.places t (l.take j) ++ [Mk.place (Mk.puts t (l.take j)) x] /\ Mk.puts t (l.take (j + 1)) = Mk.put (Mk.puts t (l.take j)) x := by
 rw [List.take_add_one, h, uJe, uJu]
 exact ⟨rfl, rfl⟩
theorem yJf (t : List UInt8) (l : List ByteArray) : (Mk.places t l).length = l.length := by
 induction l generalizing t with
 | nil => rfl
 | cons s r ih => simp [Mk.places, ih]
structure DqFit (q : Dq) : Prop where
 n1 : q.d.needed.length <= 8
 n2 : q.d.syms.length <= 64
 n3 : q.d.relas.length <= 64
 sy : ∀ s ∈ q.d.syms, SyOk s
 re : ∀ r ∈ q.d.relas, MrOk r
open Go.RowKit
structure SeS (g base : Nat) (A : Option Addr) (l : List Value) (W0 wr : World) (fs : List UInt8) (es : List (Nat × Nat)) (Ab : Option Addr) (nb cb : Nat) : Prop where
 fi : ∃ Af nf cf, FiE 87 g 0 l base A W0 wr Af nf cf fs /\ ∀ k, bk Ab = some k -> bk Af ≠ some k
 row : wr.ownsRow W0.heap.size 5 1 (.slice Ab nb cb) nb (bys (Mk.entsB es))
 hg : g < W0.heap.size
 hA : ∀ k, bk A = some k -> base <= k /\ k < W0.heap.size
section
variable {g base nb cb : Nat} {A Ab : Option Addr} {l : List Value} {W0 wr w' : World} {fs fs' ps : List UInt8} {es : List (Nat × Nat)}
theorem SeS.size (h : SeS g base A l W0 wr fs es Ab nb cb) : W0.heap.size <= wr.heap.size := by
 obtain ⟨Af, nf, cf, hE, -⟩ := h.fi
 exact hE.size
theorem SeS.abg (h : SeS g base A l W0 wr fs es Ab nb cb) : bk Ab ≠ some g := fun e => by have := (zJ7 h.row g e).1; have := h.hg; omega
theorem xJu (es : List (Nat × Nat)) (e : Nat × Nat) : Mk.entsB (es ++ [e]) = Mk.entsB es ++ Mk.pairB e := by unfold Mk.entsB; simp
theorem SeS.pair {a v c2 : Nat} {A2 : Option Addr} (h : SeS g base A l W0 wr fs es Ab nb cb) (G : Grew wr w' W0.heap.size (.slice Ab nb cb) (.slice A2 (nb + 16) c2) (nb + 16) (Mk.entsB es ++ Mk.pairB (a, v))) : SeS g base A l W0 w' fs (es ++ [(a, v)]) A2 (nb + 16) c2 := by
 obtain ⟨Af, nf, cf, hE, hd⟩ := h.fi
 have hk : wr.grownBy w' (bk Ab) := by have := G.kept; rwa [zJr] at this
 refine ⟨⟨Af, nf, cf, hE.grown hk h.abg (fun k hk1 hk2 => hd k hk2 hk1) (fun k hk => (zJ7 h.row k hk).1), fun k hk1 hk2 => ?_⟩, by rw [xJu]; exact G.own, h.hg, h.hA⟩
 rcases G.at_ k (by rw [zJr]; exact hk1) with h1 | h1
 ·rw [zJr] at h1; exact hd k h1 hk2
 ·have := hE.m.lt k hk2; omega
theorem SeS.own {b2 size n2 c2 : Nat} {A2 : Option Addr} {e : TypeId} {ys : List Value} (h : SeS g base A l W0 wr fs es Ab nb cb) (r : W0.ownsRow b2 e size (.slice A2 n2 c2) n2 ys) (h1 : bk A2 ≠ some g) (h2 : ∀ k, bk A2 = some k -> bk A ≠ some k) :
  wr.ownsRow b2 e size (.slice A2 n2 c2) n2 ys := by
 obtain ⟨Af, nf, cf, hE, -⟩ := h.fi
 exact (hE.own r h1 h2).1
theorem SeS.blk {t : TypeId} {k : Nat} {l2 : List Value} (h : SeS g base A l W0 wr fs es Ab nb cb) (b : Blk W0 k t l2) (h1 : k ≠ g) (h2 : bk A ≠ some k) : Blk wr k t l2 := by
 obtain ⟨Af, nf, cf, hE, -⟩ := h.fi
 exact hE.blk b h1 h2
end
theorem lbs_len (k : Nat) (l : List Nat) : (Mk.lbs k l).length = k * l.length := by
 induction l with
 | nil => simp [Mk.lbs]
 | cons x r ih => rw [Mk.lbs, List.length_append, Cl.lb_len, ih, List.length_cons, Nat.mul_succ]; omega
theorem hashB_len (l : List Dy.Sym) : (Mk.hashB l).length = 8 + 4 * (l.length / 2 + 1) + 4 * (l.length + 1) := by
 unfold Mk.hashB Mk.heads Mk.links Mk.buckets
 simp [Cl.lb_len, lbs_len]
 omega
theorem symB_len (p : Nat) (s : Dy.Sym) : (Mk.symB p s).length = 24 := by unfold Mk.symB; simp [Cl.lb_len]
theorem xJz (t : List UInt8) (l : List Dy.Sym) : (Mk.symRows t l).length = 24 * l.length := by
 induction l generalizing t with
 | nil => rfl
 | cons s r ih => rw [Mk.symRows, List.length_append, symB_len, ih, List.length_cons, Nat.mul_succ]; omega
theorem symsB_len (t : List UInt8) (l : List Dy.Sym) : (Mk.symsB t l).length = 24 * (l.length + 1) := by
 unfold Mk.symsB
 rw [List.length_append, yJj, xJz]
 omega
theorem relB_len (r : Mk.Rel) : (Mk.relB r).length = 24 := by unfold Mk.relB; simp [Cl.lb_len]
theorem xJg (l : List Mk.Rel) : (Mk.relsB l).length = 24 * l.length := by
 unfold Mk.relsB
 induction l with
 | nil => rfl
 | cons s r ih => rw [List.flatMap_cons, List.length_append, relB_len, ih, List.length_cons, Nat.mul_succ]; omega
theorem xJj (m : Nat) (hm : 0 < m) (f : List UInt8) : (Mk.pad m f).length < f.length + m := by
 unfold Mk.pad
 rw [List.length_append, yJj]
 have := gap_lt (m := m) (n := f.length) hm
 omega
def Mk.st0 (x : Mk.Spec) (f : List UInt8) : List UInt8 × List (Nat × Nat) := (Mk.pad 8 f ++ Mk.zs (Mk.room x), Mk.heads2 x.dyn)
def Mk.st1 (x : Mk.Spec) (f : List UInt8) := (Mk.partSyms x.dyn).foldl (Mk.stepPart (Mk.base x)) (Mk.st0 x f)
def Mk.st2 (x : Mk.Spec) (f : List UInt8) := (Mk.partOne x).foldl (Mk.stepPart (Mk.base x)) (Mk.st1 x f)
def Mk.st3 (x : Mk.Spec) (f : List UInt8) := (Mk.partTwo x).foldl (Mk.stepPart (Mk.base x)) (Mk.st2 x f)
theorem laid_st (x : Mk.Spec) (f : List UInt8) : Mk.laidParts x f = Mk.stepPart (Mk.base x) (Mk.st3 x f) (4, Mk.texts3 x.dyn) := by
 unfold Mk.laidParts Mk.parts Mk.st3 Mk.st2 Mk.st1 Mk.st0
 rw [List.foldl_append, List.foldl_append, List.foldl_append]
 rfl
theorem xJn (t : List UInt8) (l : List ByteArray) : t.length <= (Mk.puts t l).length := by
 induction l generalizing t with
 | nil => exact Nat.le_refl _
 | cons s r ih =>
  have h1 := ih (Mk.put t s)
  have h2 : t.length <= (Mk.put t s).length := by unfold Mk.put; split <;> simp <;> omega
  exact Nat.le_trans h2 h1
theorem uJo (a b : List (Nat × List UInt8)) : Mk.told (a ++ b) = Mk.told a ++ Mk.told b := by unfold Mk.told; simp
open Go.RowKit
theorem FiE.copy {t : TypeId} {g o base n1 c1 kf : Nat} {l : List Value} {A : Option Addr} {w w1 : World} {xs1 ys : List UInt8} (h : FiE t g o l base A w w1 (some ⟨kf, 0, none⟩) n1 c1 xs1) (cs : Array Value) (ho : (w1.setRow kf cs).ownsRow base 5 1 (.slice (some ⟨kf, 0, none⟩) n1 c1) n1 (bys ys)) : FiE t g o l base A w (w1.setRow kf cs) (some ⟨kf, 0, none⟩) n1 c1 ys :=
 ⟨⟨(setRow_other w1 kf g cs (fun e => h.m.ne (by rw [e]; rfl))).trans h.m.blk, h.m.at_, ho, h.m.ne⟩, h.os, h.tape, h.output, by simpa [World.setRow] using h.size, fun k hk h1 h2 => (setRow_other w1 kf k cs (fun e => by
  rcases h.at_ kf rfl with h3 | h3
  ·rw [<- e] at h3; exact h2 h3
  ·omega)).trans (h.block k hk h1 h2), h.at_⟩
theorem pairB_len (e : Nat × Nat) : (Mk.pairB e).length = 16 := by unfold Mk.pairB; simp [Cl.lb_len]
theorem yJ0 (l : List (Nat × Nat)) : (Mk.entsB l).length = 16 * l.length := by
 unfold Mk.entsB
 induction l with
 | nil => rfl
 | cons s r ih => rw [List.flatMap_cons, List.length_append, pairB_len, ih, List.length_cons, Nat.mul_succ]; omega
theorem tell_len (k a n : Nat) : (Mk.tell k a n).length = (Mk.tell k 0 0).length := by
 unfold Mk.tell
 split <;> rfl
theorem tJ7 (b : Nat) (l : List (Nat × List UInt8)) : ∀ st, (l.foldl (Mk.stepPart b) st).2.length = st.2.length + (Mk.told l).length /\ st.1.length <= (l.foldl (Mk.stepPart b) st).1.length := by
 induction l with
 | nil => intro st; simp [Mk.told]
 | cons p r ih =>
  intro st
  obtain ⟨h1, h2⟩ := ih (Mk.stepPart b st p)
  rw [List.foldl_cons, h1]
  refine ⟨?_, Nat.le_trans ?_ h2⟩
  ·unfold Mk.stepPart Mk.told
   simp only [List.length_append, List.flatMap_cons]
   rw [tell_len]
   omega
  ·unfold Mk.stepPart Mk.pad
   simp only [List.length_append]
   omega
theorem laid_len (x : Mk.Spec) (f : List UInt8) : (Mk.laidParts x f).2.length = (Mk.heads2 x.dyn ++ Mk.told (Mk.parts x)).length := by
 unfold Mk.laidParts
 rw [(tJ7 _ _ _).1, List.length_append]
theorem wJe (x : Mk.Spec) (f : List UInt8) : (Mk.st0 x f).1.length <= (Mk.laidParts x f).1.length := by
 unfold Mk.laidParts Mk.st0
 exact (tJ7 _ _ _).2
theorem places_le (t : List UInt8) (l : List ByteArray) : ∀ p ∈ Mk.places t l, p <= (Mk.puts t l).length := by
 induction l generalizing t with
 | nil => intro p h; cases h
 | cons s r ih =>
  intro p h
  rcases List.mem_cons.1 h with rfl | h
  ·have h1 : Mk.place t s <= t.length := by unfold Mk.place; split <;> omega
   exact Nat.le_trans h1 (xJn t (s :: r))
  ·exact ih (Mk.put t s) p h
theorem u8sz : (Tryz.prog.info? 5).map (·.size) = some 1 := by kernel_rfl
theorem over_take {l ys : List Value} {p m n : Nat} (hm : ys.length = m) (h : p + m <= n) (hn : n <= l.length) : (l.take p ++ ys ++ l.drop (p + m)).take n = (l.take n).take p ++ ys ++ (l.take n).drop (p + m) := by
 have h1 : (l.take p ++ ys).length = p + m := by rw [List.length_append, List.length_take, hm]; omega
 rw [List.take_append, h1, List.take_of_length_le (by omega), List.take_take, Nat.min_eq_left (by omega), List.drop_take]
theorem wp_copyB {o : Oper} {a : Act} {w : World} {K : Act -> World -> Prop} {Q : Exit -> Act -> World -> Prop} (d x : Operand) (ho : o.op = .call { callee := .builtin .copy, args := #[d, x], argTypes := #[24, 24] }) (k p dn dc base nf cf : Nat) (fs ys : List UInt8)
  (hd : a.eval d = .slice (some ⟨k, p, none⟩) dn dc) (hown : w.ownsRow base 5 1 (.slice (some ⟨k, 0, none⟩) nf cf) nf (bys fs)) (b2 o2 m cx B : Nat) (hx : a.eval x = .slice (some ⟨b2, o2, none⟩) m cx) (hr : Rd w B 1 (some ⟨b2, o2, none⟩) m (bys ys)) (hm : m <= dn) (hdn : p + m <= nf)
  (h : ∀ w', w'.ownsRow base 5 1 (.slice (some ⟨k, 0, none⟩) nf cf) nf (bys (Mk.over fs p ys)) -> (∃ cs, w' = w.setRow k cs) -> K (a.put o.dst (.int .i64 m)) w') : o.wp Tryz.prog a w K Q := by
 have hml : (bys ys).length = m := hr.len1
 have hyl : ys.length = m := by simpa [bys] using hml
 rcases hown.2 with ⟨e0, _⟩ | ⟨g, cap, cur, e0, hb, hg, hnc, hcm, hcs, ht⟩
 ·injection e0 with e0; cases e0
 ·injection e0 with e0 _ e3
  injection e0 with e0
  injection e0 with e0
  subst e0 e3
  have hcs' : cur.size = cf := by simpa using hcs
  have hcell : ∀ j v, (bys ys)[j]? = some v -> w.cell? ((⟨b2, o2, none⟩ : Addr).add j) = some v := by
   intro j v hv
   obtain ⟨b, o', e, _, hc⟩ := hr.at_ hv
   injection e with e
   injection e with e4 e5
   subst e4 e5
   rw [Addr.add_lit]
   exact hc
  have hrr := run_copy_row (P := Tryz.prog) w 24 24 o.type 5 k p dn dc ⟨b2, o2, none⟩ m cx cur 5 (bys ys) Tryz.underlying24 u8sz hg (by rw [hml]; exact (Nat.min_eq_left hm).symm) hcell (by rw [hml]; omega) (xJc _)
  unfold Oper.wp execOp
  simp only [ho, resolve, invoke, builtin, Sem.run_bind, Sem.run_pure, Result.andThen_ok, List.map_toArray, List.map_cons, List.map_nil, hd, hx, hrr, hml]
  refine h _ ⟨?_, .inr ⟨k, cf, _, rfl, hb, setRow_heap _ _ _ _ _ _ hg, hnc, hcm, ?_, ?_⟩⟩ ⟨_, rfl⟩
  ·have h1 := hown.1
   simp only [bys, List.length_map] at h1 ⊢
   unfold Mk.over
   simp only [List.length_append, List.length_take, List.length_drop]
   omega
  ·simp only [List.size_toArray, List.length_append, List.length_take, List.length_drop, Array.length_toList, hml]
   omega
  ·rw [show nf * 1 = nf from Nat.mul_one _] at ht ⊢
   show (cur.toList.take p ++ bys ys ++ cur.toList.drop (p + m)).take nf = _
   rw [over_take hml hdn (by rw [Array.length_toList]; omega), ht]
   unfold Mk.over
   rw [hyl]
   simp [bys, List.map_take, List.map_drop]
end Go.Proofs.YtnbecdahfgkffaaGreat
namespace Go.Proofs.YtnbecdahfgkffaaGreat
open Go.RowKit Go.Lib
structure ItKp (B : Nat) (w w' : World) : Prop where
 os : w'.os = w.os
 tape : w'.tape = w.tape
 output : w'.output = w.output
 size : w.heap.size <= w'.heap.size
 low : ∀ k, k < B -> w'.heap[k]? = w.heap[k]?
 rest : ∀ (k : Nat) (o : Obj), w.heap[k]? = some o -> (∀ s p, o ≠ .stringIter s p) -> w'.heap[k]? = some o
def IterKept (w w' : World) : Prop := ∀ (k : Nat) (s : ByteArray) (p : Nat), w.heap[k]? = some (.stringIter s p) -> w'.heap[k]? = some (.stringIter s p)
theorem ItKp.iter {B : Nat} {w : World} (hB : B <= w.heap.size) (s : ByteArray) (p : Nat) : ItKp B w (w.iter s p) :=
 ⟨rfl, rfl, rfl, by simp [World.iter], fun k hk => Below.heap_alloc _ _ _ (by omega), fun k o h _ => by
  rw [<- h]
  exact Below.heap_alloc _ _ _ (Array.getElem?_eq_some_iff.1 h).1⟩
theorem ItKp.iterAt {B : Nat} {w : World} {k : Nat} (hB : B <= k) (s : ByteArray) (p q : Nat) (h : w.heap[k]? = some (.stringIter s q)) : ItKp B w (w.iterAt k s p) :=
 ⟨rfl, rfl, rfl, by rw [iterAt_size]; exact Nat.le_refl _, fun j hj => iterAt_other _ _ _ _ _ (by omega), fun j o hj hn => by
  by_cases e : j = k
  ·subst e
   rw [h] at hj
   exact absurd (Option.some.inj hj).symm (hn _ _)
  ·rw [iterAt_other _ _ _ _ _ e]
   exact hj⟩
set_option maxHeartbeats 800000 in
theorem pieces_any {S : Type} (fn : FuncId) (c : Value) (I : Nat -> S -> World -> Prop) (step : S -> ByteArray -> S × Bool) (B : Nat) (p : ByteArray) (hp : p.size <= maxLen)
  (hf : ∀ (args : Array Value) (w : World), (callFunc fn args).run Tryz.prog w = .ok (.enter fn args) w)
  (hI : ∀ n s w w', ItKp B w w' -> I n s w -> I n s w')
  (hcall : ∀ n s w (x : ByteArray), n <= p.size -> x.size <= p.size -> I n s w -> Calls Tryz.prog fn #[.string x, c] w fun e w' => e = .returned (.bool (step s x).2) /\ I (n + 1) (step s x).1 w' /\ IterKept w w')
  (s0 : S) (w : World) (hB : B <= w.heap.size) (h0 : I 0 s0 w) :
  Calls Tryz.prog 97 #[.string p, .func (.func fn) #[] #[c]] w fun e w' => e = .returned (.tuple #[]) /\ ∃ n, I n (Pth.goF step s0 (Pth.pcs p)) w' := by
 have Hc := zJ2 hcall
 have HI := zJ2 hI
 clear hcall hI
 unfold maxLen at hp
 go_enter Tryz.func97, Tryz.ntmps97
 go_wp2
 go_loopw [4] (fun f wr => ∃ (n pos fr : Nat) (s : S), n <= pos /\ f = .int .i64 fr /\ fr <= pos /\ pos <= p.size /\ wr.heap[w.heap.size]? = some (.stringIter p pos) /\ I n s wr /\ Pth.goF step s (Pth.pcsAt p pos fr) = Pth.goF step s0 (Pth.pcs p)) (fun _ wr => p.size - wr.iterPos w.heap.size)
 case atStart => exact ⟨0, 0, 0, s0, Nat.le_refl _, rfl, Nat.le_refl _, Nat.zero_le _, World.iter_heap _ _ _, zJ1 HI _ _ _ _ (ItKp.iter hB _ _) h0, rfl⟩
 case round =>
  obtain ⟨n, pos, fr, s, hnp, rfl, hfr, hps, hit, hIs, hg⟩ := hrel
  have Hg := zJ2 hg
  clear hg
  by_cases hlt : pos < p.size
  ·obtain ⟨c1, c2, c3, c4, c5⟩ := Pth.decode_cover p pos hlt
   have hI1 : I n s (wr.iterAt w.heap.size p (pos + (Utf8.decode p pos).2))   := zJ1 HI _ _ _ _ (ItKp.iterAt hB _ _ _ hit) hIs
   have hit1 := iterAt_heap wr w.heap.size p pos (pos + (Utf8.decode p pos).2) hit
   have hip := iterPos_of hit
   have hip1 := iterPos_of hit1
   have hnx := fun ty => run_next_any_at (P := Tryz.prog) wr w.heap.size p pos ty hit hlt
   by_cases hc : p[pos] = 47
   ·have hd1 := c4 hc
    have hc' := c3.2 hc
    rw [hd1] at hI1 hit1 hip1 hnx
    rw [hc'] at hnx
    have hgoal : Pth.goF step s (p.extract fr pos :: Pth.pcsAt p (pos + 1) (pos + 1)) = Pth.goF step s0 (Pth.pcs p) := by rw [<- Pth.pcsAt_slash p pos fr hlt hc]; exact zJ1 Hg
    have Hgoal := zJ2 hgoal
    have Hip := zJ2 hip
    have Hit := zJ2 hit1
    clear hgoal hd1 hc' hc hip hip1 hit1 hit c3 c4 c5 c1 c2
    go_wp2_with (refine ((zJ1 Hc) n s _ (p.extract fr pos) (by omega) (by simp only [ByteArray.size_extract]; omega) hI1).mono ?_; rintro e w1 ⟨rfl, hI2, hk2⟩)
    ·have hst : (step s (p.extract fr pos)).2 = false := by
      have h : (!(step s (p.extract fr pos)).2) = true := by assumption
      simpa using h
     refine bodyPost_ret (results_none rfl _ _ _) rfl ⟨rfl, n + 1, ?_⟩
     rw [<- zJ1 Hgoal]
     simp only [Pth.goF, hst, if_false, Bool.false_eq_true]
     exact hI2
    ·have hit2 := hk2 _ _ _ (zJ1 Hit)
     have hip2 := iterPos_of hit2
     have hst : (step s (p.extract fr pos)).2 = true := by
      have h : (!(step s (p.extract fr pos)).2) = false := by assumption
      simpa using h
     go_roundw
     case rel => exact ⟨n + 1, pos + 1, pos + 1, _, by omega, by go_num, Nat.le_refl _, by omega, hit2, hI2, by rw [<- zJ1 Hgoal]; simp [Pth.goF, hst]⟩
     case measure => rw [hip2, zJ1 Hip]; omega
   ·have hne : ((((Utf8.decode p pos).1 : Nat) : Int) != 47) = true := by
     have : (Utf8.decode p pos).1 ≠ 47 := fun e => hc (c3.1 e)
     rw [bne_iff_ne]; omega
    have hgoal : Pth.goF step s (Pth.pcsAt p (pos + (Utf8.decode p pos).2) fr) = Pth.goF step s0 (Pth.pcs p) := by
     rw [<- Pth.pcsAt_skips p fr _ pos (c5 hc)]; exact zJ1 Hg
    have Hgoal := zJ2 hgoal
    have Hip := zJ2 hip
    have Hip1 := zJ2 hip1
    have Hit := zJ2 hit1
    clear hgoal hip hip1 hit1 c3 c4 c5
    go_wp2
    go_roundw
    case rel => exact ⟨n, pos + (Utf8.decode p pos).2, fr, s, by omega, rfl, by omega, c2, zJ1 Hit, hI1, zJ1 Hgoal⟩
    case measure => rw [zJ1 Hip, zJ1 Hip1]; omega
  ·have hnx := fun ty => run_next_end_at (P := Tryz.prog) wr w.heap.size p pos ty hit hlt
   obtain rfl : pos = p.size := by omega
   have hgoal : Pth.goF step s [p.extract fr p.size] = Pth.goF step s0 (Pth.pcs p) := by rw [<- Pth.pcsAt_end]; exact zJ1 Hg
   have Hgoal := zJ2 hgoal
   clear hgoal hps hlt
   go_wp2_with (refine ((zJ1 Hc) n s _ (p.extract fr p.size) (by omega) (by simp only [ByteArray.size_extract]; omega) hIs).mono ?_; rintro e w1 ⟨rfl, hI2, hk2⟩)
   go_end0
   refine ⟨rfl, n + 1, ?_⟩
   rw [<- zJ1 Hgoal]
   simp only [Pth.goF]
   split <;> exact hI2
def ChkI (w0 : World) (g : Nat) (e : Int) (w : World) : Prop := w.heap[g]? = some (.cells #[.int .i64 e] 35 (0, 0)) /\ Below w0.heap.size w0 w
theorem ChkI.stable {w0 : World} {g : Nat} (e : Int) (w w' : World) (h : ItKp w0.heap.size w w') (hI : ChkI w0 g e w) : ChkI w0 g e w' :=
 ⟨h.rest _ _ hI.1 (fun _ _ => by simp), hI.2.trans ⟨h.os, h.tape, h.output, h.size, h.low⟩⟩
theorem vJ5 {w : World} {g : Nat} {cs : Array Value} {t : TypeId} {fz : Nat × Nat} (h : w.heap[g]? = some (.cells cs t fz)) (o : Nat) (v : Value) : IterKept w (w.setCell ⟨g, o, none⟩ v) := by
 intro k s p hk
 rw [Below.heap_setCell _ _ _ _ ?_]
 ·exact hk
 ·rintro rfl
  rw [h] at hk
  cases hk
theorem check1_any (w0 : World) (g : Nat) (hg : w0.heap.size <= g) (e : Int) (w : World) (x : ByteArray) (hx : x.size <= maxLen) (hI : ChkI w0 g e w) :
  Calls Tryz.prog 98 #[.string x, .pointer (some ⟨g, 0, none⟩)] w fun r w' => r = .returned (.bool (Pth.checkStep e x).2) /\ ChkI w0 g (Pth.checkStep e x).1 w' /\ IterKept w w' := by
 have HI := zJ2 hI
 obtain ⟨hc, hb⟩ := hI
 have h1 := cell_of_one hc
 have h2 := free_of_one hc
 have h3 := cell_of_one (one_setCell (u := .int .i64 11) hc)
 clear hc hb
 unfold maxLen at hx
 by_cases hl : 32 < x.size
 ·go_enter Tryz.func98, Tryz.ntmps98
  go_wp2
  go_ret
  refine ⟨by simp [Pth.checkStep, hl], ⟨?_, ?_⟩, ?_⟩
  ·simp only [Pth.checkStep, hl, if_true]
   exact one_setCell (zJ1 HI).1
  ·exact (zJ1 HI).2.setCell hg _
  ·exact vJ5 (zJ1 HI).1 _ _
 ·go_enter Tryz.func98, Tryz.ntmps98
  go_wp2
  go_ret
  exact ⟨by simp [Pth.checkStep, hl], by simpa [Pth.checkStep, hl] using zJ1 HI, fun _ _ _ h => h⟩
theorem uJ3 (args : Array Value) (w : World) : (callFunc 98 args).run Tryz.prog w = .ok (.enter 98 args) w := by kernel_rfl
theorem check_any (p : ByteArray) (hp : p.size <= maxLen) (w : World) :
  Calls Tryz.prog 54 #[.string p] w fun e w' => e = .returned (.int .i64 (Pth.chk p)) /\ Below w.heap.size w w' := by
 have hp' := hp
 unfold maxLen at hp
 have hmf : ∀ (fn : Fn) (first cap : Array Value) (w : World), (Instr.makeFunc fn first cap).run Tryz.prog w = .ok (.func fn first cap) w := fun _ _ _ _ => rfl
 have he0 : p.toList.isEmpty = decide (p.size = 0) := zJi p
 have hcn := Lib.contains_iff_indexByte p.data.toList 0
 by_cases h0 : p.size = 0
 ·have hr : Pth.chk p = 3 := by simp [Pth.chk, h0]
  have Hr := zJ2 hr
  have he : p.toList.isEmpty = true := by rw [he0]; simpa using h0
  clear he0 hr h0 hcn
  go_enter Tryz.func54, Tryz.ntmps54
  go_wp2_with fail
  go_ret
  exact ⟨by rw [zJ1 Hr]; rfl, Below.refl _ _⟩
 ·have he : p.toList.isEmpty = false := by rw [he0]; simpa using h0
  by_cases h1 : p.data.toList.contains 0 = true
  ·have hr : Pth.chk p = 1 := by simp only [Pth.chk, h0, h1, if_true, if_false]
   have Hr := zJ2 hr
   have hi : decide (0 <= Lib.indexByte p.data.toList 0) = true := by rw [<- hcn]; exact h1
   clear he0 hr h0 hcn h1
   go_enter Tryz.func54, Tryz.ntmps54
   go_wp2_with (go_at_call 69; refine (flipw (Tryz.strings_Contains_one _ _ _)).mono ?_; rintro e w1 ⟨rfl, rfl⟩)
   go_ret
   exact ⟨by rw [zJ1 Hr]; rfl, Below.refl _ _⟩
  ·have hi : decide (0 <= Lib.indexByte p.data.toList 0) = false := by rw [<- hcn]; simpa using h1
   by_cases h2 : 200 < p.size
   ·have hr : Pth.chk p = 11 := by simp only [Pth.chk, h0, h1, h2, if_true, if_false, Bool.false_eq_true]
    have Hr := zJ2 hr
    clear he0 hr h0 hcn h1
    go_enter Tryz.func54, Tryz.ntmps54
    go_wp2_with (go_at_call 69; refine (flipw (Tryz.strings_Contains_one _ _ _)).mono ?_; rintro e w1 ⟨rfl, rfl⟩)
    go_ret
    exact ⟨by rw [zJ1 Hr]; rfl, Below.refl _ _⟩
   ·have hr : Pth.chk p = Pth.goF Pth.checkStep 0 (Pth.pcs p) := by rw [Pth.goF_check]; simp only [Pth.chk, h0, h1, h2, if_false, Bool.false_eq_true]
    have Hr := zJ2 hr
    clear he0 hr h0 hcn h1
    have hini : ChkI w w.heap.size 0 (w.alloc (.cells #[.int .i64 0] 35)) := ⟨heap_alloc_new _ _, (Below.refl _ _).alloc (Nat.le_refl _) _⟩
    have Hini := zJ2 hini
    clear hini
    go_enter Tryz.func54, Tryz.ntmps54
    go_wp2_with (first
     | (go_at_call 69; refine (flipw (Tryz.strings_Contains_one _ _ _)).mono ?_; rintro e w1 ⟨rfl, rfl⟩)
     | (go_at_call 97; refine (pieces_any 98 _ (fun _ => ChkI w w.heap.size) Pth.checkStep w.heap.size p hp' uJ3 (fun _ => ChkI.stable) (fun _ s w' x _ hx hI => check1_any w w.heap.size (Nat.le_refl _) s w' x (Nat.le_trans hx hp') hI) 0 _ (Nat.le_of_lt (by simp)) (zJ1 Hini)).mono ?_; rintro e w1 ⟨rfl, _, hI⟩; have h9 := cell_of_one hI.1; have HI9 := zJ2 hI; clear hI))
    go_ret
    exact ⟨by rw [zJ1 Hr]; rfl, (zJ1 HI9).2⟩
theorem strTy : SlTy Tryz.prog 25 9 1 16 := yJx (z := .string ⟨#[]⟩) Tryz.underlying25 (by kernel_rfl) rfl (by omega) (by omega)
def PrtI (w0 : World) (g : Nat) (n : Nat) (l : List ByteArray) (w : World) : Prop :=
 ∃ A c, w.heap[g]? = some (.cells #[.slice A l.length c] 25 (0, 0)) /\ w.ownsRow w0.heap.size 9 1 (.slice A l.length c) l.length (l.map Value.string) /\ Below w0.heap.size w0 w /\ (Value.slice A l.length c).ownBlock ≠ some g /\ l.length <= n
theorem PrtI.sz {w0 w : World} {g n : Nat} {l : List ByteArray} (h : PrtI w0 g n l w) : w0.heap.size <= w.heap.size := h.choose_spec.choose_spec.2.2.1.size
end Go.Proofs.YtnbecdahfgkffaaGreat
namespace Go.Proofs.YtnbecdahfgkffaaGreat
open Go.RowKit
theorem take_ext {α : Type} {xs ys : List α} {k : Nat} {x : α} (h : xs.take k = ys.take k) (hx : xs[k]? = some x) (hy : ys[k]? = some x) : xs.take (k + 1) = ys.take (k + 1) := by
 rw [List.take_add_one, List.take_add_one, h, hx, hy]
set_option maxHeartbeats 1000000 in
theorem eqTexts_any (A B : Option Addr) (n m c d K : Nat) (xs ys : List ByteArray) (w : World) (ha : Rd w K 1 A n (xs.map Value.string)) (hb : Rd w K 1 B m (ys.map Value.string)) (hn : n <= maxLen) (hm : m <= maxLen) :
  Calls Tryz.prog 66 #[.slice A n c, .slice B m d] w fun e w' => e = .returned (.bool (decide (xs = ys))) /\ ∃ j, w' = w.drewN j := by
 have hxl : xs.length = n := by simpa using ha.len1
 have hyl : ys.length = m := by simpa using hb.len1
 unfold maxLen at hn hm
 have Hxl := zJ2 hxl
 have Hyl := zJ2 hyl
 have Ha := zJ2 ha
 have Hb := zJ2 hb
 clear hxl hyl ha hb
 go_enter Tryz.func66, Tryz.ntmps66
 go_wp2
 go_loopw [5] (fun at_ wr => ∃ k j : Nat, at_ = .int .i64 k /\ k <= n /\ k <= m /\ xs.take k = ys.take k /\ wr = w.drewN j) (fun at_ _ => n - (intOf at_).toNat)
 case atStart => exact ⟨0, 0, rfl, Nat.zero_le _, Nat.zero_le _, rfl, rfl⟩
 case round =>
  obtain ⟨k, j, rfl, hkn, hkm, htk, rfl⟩ := hrel
  have Htk := zJ2 htk
  clear htk
  by_cases h1 : k < n
  ·have d1 : decide (k < n) = true := by simpa using h1
   have i1 : (k : Int) < (n : Int) := by omega
   by_cases h2 : k < m
   ·have d2 : decide (k < m) = true := by simpa using h2
    have i2 : (k : Int) < (m : Int) := by omega
    obtain ⟨x, hx⟩ : ∃ x, xs[k]? = some x := ⟨_, List.getElem?_eq_getElem (by rw [zJ1 Hxl]; exact h1)⟩
    obtain ⟨y, hy⟩ : ∃ y, ys[k]? = some y := ⟨_, List.getElem?_eq_getElem (by rw [zJ1 Hyl]; exact h2)⟩
    obtain ⟨b1, o1, rfl, _, c1⟩ := (zJ1 Ha).at_ (k := k) (u := .string x) (by simp [hx])
    obtain ⟨b2, o2, rfl, _, c2⟩ := (zJ1 Hb).at_ (k := k) (u := .string y) (by simp [hy])
    have Hx := zJ2 hx
    have Hy := zJ2 hy
    have hbq := beq_toList x y
    clear hx hy
    by_cases he : x = y
    ·have q : (x.toList == y.toList) = true := by rw [hbq]; simpa using he
     subst he
     clear hbq
     go_wp2
     go_quiet (fail)
     go_wp2
     go_round
     case rel => exact ⟨k + 1, j + nq, by go_num, by omega, by omega, take_ext (zJ1 Htk) (zJ1 Hx) (zJ1 Hy), rfl⟩
     case measure => simp [intOf]; omega
    ·have q : (x.toList == y.toList) = false := by rw [hbq]; simpa using he
     have He := zJ2 he
     clear hbq he
     go_wp2
     go_quiet (fail)
     go_wp2
     go_ret
     refine ⟨yJq ?_, _, rfl⟩
     symm
     simp only [decide_eq_false_iff_not]
     rintro rfl
     exact zJ1 He (Option.some.inj ((zJ1 Hx).symm.trans (zJ1 Hy)))
   ·have d2 : decide (k < m) = false := by simpa using h2
    go_wp2
    go_quiet (fail)
    go_wp2
    go_ret
    refine ⟨yJq ?_, _, rfl⟩
    symm
    simp only [decide_eq_false_iff_not]
    rintro rfl
    have := zJ1 Hxl
    have := zJ1 Hyl
    omega
  ·have d1 : decide (k < n) = false := by simpa using h1
   go_wp2
   go_quiet (fail)
   go_wp2
   go_ret
   refine ⟨yJq ?_, _, rfl⟩
   have hl1 := zJ1 Hxl
   have hl2 := zJ1 Hyl
   rw [Bool.eq_iff_iff, beq_iff_eq, decide_eq_true_eq]
   constructor
   ·intro e
    have e' := zJ1 Htk
    rwa [List.take_of_length_le (by omega), List.take_of_length_le (by omega)] at e'
   ·rintro rfl
    omega
end Go.Proofs.YtnbecdahfgkffaaGreat
namespace Go.Proofs.YtnbecdahfgkffaaGreat
structure MayOk (x : Mk.Spec) : Prop where
 type : x.type = 2 \/ x.type = 3
 enters : Mk.enters x = true
 interp : x.interp.size ≠ 0 -> Pth.chk x.interp = 0
 empty : x.dynamic = false -> Mk.empty x.dyn = true
 n1 : x.dyn.needed.length <= 8
 n2 : x.dyn.syms.length <= 64
 n3 : x.dyn.relas.length <= 64
 text : x.text.length <= 65536
 more : x.more <= 1048576
 a0 : 0 <= x.apart
 a1 : x.apart <= x.dyn.relas.length
 s1 : ∀ s ∈ x.dyn.needed, Mk.has s = false
 s2 : ∀ s ∈ x.dyn.syms, Mk.has s.name = false /\ s.bind <= 2
 s3 : Mk.has x.dyn.soname = false
 s4 : Mk.has x.dyn.run = false
 rel : ∀ r ∈ x.dyn.relas, 0 <= r.sym /\ r.sym <= x.dyn.syms.length
theorem tJ1 {x : Mk.Spec} (h : Mk.may x = 0) : MayOk x := by
 unfold Mk.may at h
 split at h
 ·cases h
 rename_i h1
 split at h
 ·cases h
 rename_i h2
 split at h
 ·cases h
 rename_i h3
 split at h
 ·cases h
 rename_i h4
 simp only [Mk.bad1, Mk.bad2, Mk.bad, Mk.tooBig, Bool.or_eq_true, Bool.and_eq_true, Bool.not_eq_true', decide_eq_true_eq, decide_eq_false_iff_not, List.any_eq_true, not_or, not_and, not_exists, Bool.or_eq_false_iff, Bool.not_eq_true, Bool.not_eq_false] at h1 h2 h3 h4
 obtain ⟨⟨h1a, h1b⟩, h1c⟩ := h1
 obtain ⟨⟨h2a, h2b⟩, h2c⟩ := h2
 obtain ⟨⟨⟨⟨h3a, h3b⟩, h3c⟩, h3d⟩, h3e⟩ := h3
 obtain ⟨⟨⟨⟨h4a, h4b⟩, h4c⟩, h4d⟩, h4e⟩ := h4
 refine ⟨?_, h1b, fun e => ?_, h2a, by omega, by omega, by omega, by omega, by omega, by omega, by omega, h3c, fun s hs => ?_, h3a, h3b, fun r hr => ?_⟩
 ·by_cases a : x.type = 2
  ·exact .inl a
  ·exact .inr (Decidable.not_not.1 (h1a a))
 ·exact Decidable.not_not.1 (h1c e)
 ·have h5 := h3d s hs
  unfold Mk.badSym at h5
  rw [Bool.or_eq_false_iff, decide_eq_false_iff_not] at h5
  exact ⟨h5.1, by omega⟩
 ·have h5 := h3e r hr
  unfold Mk.badRel at h5
  rw [Bool.or_eq_false_iff, decide_eq_false_iff_not, decide_eq_false_iff_not] at h5
  omega
theorem yJb (m : Nat) (f : List UInt8) : (Mk.pad m f).length = f.length + Mk.gap m f.length := by unfold Mk.pad; rw [List.length_append, yJj]
theorem pad_up (f : List UInt8) : (Mk.pad 4096 f).length = (f.length + 4095) / 4096 * 4096 := by
 rw [yJb]
 have h1 := gap_end (m := 4096) (n := f.length) (by omega)
 have h2 := gap_lt (m := 4096) (n := f.length) (by omega)
 generalize Mk.gap 4096 f.length = g at *
 omega
theorem fold_le (b : Nat) (l : List (Nat × List UInt8)) (m : Nat) : ∀ st, (∀ p ∈ l, p.2.length + 8 <= m) -> (l.foldl (Mk.stepPart b) st).1.length <= st.1.length + m * l.length := by
 induction l with
 | nil => intro st _; simp
 | cons p r ih =>
  intro st h
  have h1 := ih (Mk.stepPart b st p) (fun q hq => h q (List.mem_cons_of_mem _ hq))
  have h2 := h p List.mem_cons_self
  have h3 := xJj 8 (by omega) st.1
  have h4 : (Mk.stepPart b st p).1.length = (Mk.pad 8 st.1).length + p.2.length := by unfold Mk.stepPart; simp
  rw [List.foldl_cons, List.length_cons, Nat.mul_succ]
  omega
theorem part_len (x : Mk.Spec) (h2 : x.dyn.syms.length <= 64) (h3 : x.dyn.relas.length <= 64) (T : Nat) (hT : (Mk.texts3 x.dyn).length <= T) : ∀ p ∈ Mk.parts x, p.2.length + 8 <= T + 1600 := by
 intro p hp
 unfold Mk.parts Mk.partSyms Mk.partOne Mk.partTwo at hp
 simp only [List.mem_append, List.mem_singleton] at hp
 rcases hp with ((hp | hp) | hp) | hp
 ·split at hp
  ·cases hp
  ·simp only [List.mem_cons, List.not_mem_nil, or_false] at hp
   rcases hp with rfl | rfl
   ·rw [hashB_len]; omega
   ·rw [symsB_len]; omega
 ·split at hp
  ·cases hp
  ·simp only [List.mem_singleton] at hp
   subst hp
   show (Mk.relsB _).length + 8 <= _
   rw [xJg, List.length_take]
   omega
 ·split at hp
  ·cases hp
  ·simp only [List.mem_singleton] at hp
   subst hp
   show (Mk.relsB _).length + 8 <= _
   rw [xJg, List.length_drop]
   omega
 ·subst hp
  show (Mk.texts3 x.dyn).length + 8 <= _
  omega
theorem vJs (x : Mk.Spec) : (Mk.parts x).length <= 5 := by
 unfold Mk.parts Mk.partSyms Mk.partOne Mk.partTwo
 simp only [List.length_append]
 split <;> split <;> split <;> simp
theorem told_len (l : List (Nat × List UInt8)) : (Mk.told l).length <= 3 * l.length := by
 induction l with
 | nil => simp [Mk.told]
 | cons p r ih =>
  unfold Mk.told at ih ⊢
  rw [List.flatMap_cons, List.length_append, List.length_cons]
  have : (Mk.tell p.1 0 0).length <= 3 := by unfold Mk.tell; split <;> simp
  omega
theorem xJr (d : Mk.Dyn) : (Mk.heads2 d).length <= d.needed.length + 2 := by
 unfold Mk.heads2 Mk.heads1 Mk.heads0
 split <;> split <;> simp [yJf]
theorem room_le (x : Mk.Spec) (h1 : x.dyn.needed.length <= 8) : Mk.room x <= 400 := by
 unfold Mk.room
 rw [List.length_append]
 have := xJr x.dyn
 have := told_len (Mk.parts x)
 have := vJs x
 omega
theorem vJ9 (f : List UInt8) (p : Nat) (b : List UInt8) (h : p + b.length <= f.length) : (Mk.over f p b).length = f.length := by
 unfold Mk.over
 simp only [List.length_append, List.length_take, List.length_drop]
 omega
theorem xJb (x : Mk.Spec) (f : List UInt8) : (Mk.entsB (Mk.laidParts x f).2).length = Mk.room x := by
 rw [yJ0, laid_len]
 rfl
theorem xJ7 (x : Mk.Spec) (f : List UInt8) : (Mk.section_ x f).length = (Mk.laidParts x f).1.length := by
 unfold Mk.section_
 refine vJ9 _ _ _ ?_
 rw [xJb]
 have h1 := wJe x f
 unfold Mk.st0 at h1
 rw [List.length_append, yJj] at h1
 exact h1
theorem section_ge (x : Mk.Spec) (f : List UInt8) : f.length + Mk.room x <= (Mk.section_ x f).length := by
 rw [xJ7]
 have h1 := wJe x f
 unfold Mk.st0 at h1
 rw [List.length_append, yJj, yJb] at h1
 omega
theorem xJm (x : Mk.Spec) : 2 <= Mk.many x /\ Mk.many x <= 6 := by
 have h : ∀ b, Mk.one b <= 1 := by intro b; cases b <;> decide
 have := h (Mk.isInterp x)
 have := h x.dynamic
 have := h (Mk.isText x)
 have := h (Mk.isData x)
 unfold Mk.many
 omega
theorem yJ9 (x : Mk.Spec) : (Mk.front0 x).length = 64 + 56 * Mk.many x := by unfold Mk.front0; rw [yJj]
theorem vJx (x : Mk.Spec) : (Mk.interpB x).length = x.interp.size + 1 := by unfold Mk.interpB; simp
theorem xJ4 (x : Mk.Spec) : (Mk.front0 x).length <= (Mk.front1 x).length /\ (Mk.front1 x).length <= (Mk.front0 x).length + x.interp.size + 9 := by
 unfold Mk.front1
 split
 ·have h1 := xJj 8 (by omega) (Mk.front0 x)
  have h2 := yJb 8 (Mk.front0 x)
  rw [List.length_append, vJx]
  omega
 ·omega
theorem xJs (x : Mk.Spec) : (Mk.front1 x).length <= (Mk.front2 x).length := by
 unfold Mk.front2
 split
 ·have := section_ge x (Mk.front1 x); omega
 ·omega
theorem rowB_len (r : Mk.Row) : (Mk.rowB r).length = 56 := by unfold Mk.rowB; simp [Cl.lb_len]
theorem vJn (l : List Mk.Row) : (Mk.rowsB l).length = 56 * l.length := by
 unfold Mk.rowsB
 induction l with
 | nil => rfl
 | cons s r ih => rw [List.flatMap_cons, List.length_append, rowB_len, ih, List.length_cons, Nat.mul_succ]; omega
theorem wJf (x : Mk.Spec) (l : List Mk.Row) : (Mk.head x l).length = 64 + 56 * l.length := by
 unfold Mk.head
 simp only [List.length_append, Cl.lb_len, vJn]
 show 16 + 2 + 2 + 4 + 8 + 8 + 8 + 4 + 2 + 2 + 2 + 2 + 2 + 2 + _ = _
 omega
theorem yJd (x : Mk.Spec) : (Mk.rows x).length = Mk.many x := by
 unfold Mk.rows Mk.many Mk.rowPhdr Mk.rowInterp Mk.rowFirst Mk.rowText Mk.rowData Mk.rowDyn Mk.one
 simp only [List.length_append, List.length_singleton]
 split <;> split <;> split <;> split <;> simp [*]
theorem zs_add (a b : Nat) : Mk.zs (a + b) = Mk.zs a ++ Mk.zs b := by
 unfold Mk.zs
 exact (List.replicate_append_replicate ..).symm
theorem over_mid (a b c d : List UInt8) (p : Nat) (hp : p = a.length) (h : d.length = b.length) : Mk.over (a ++ b ++ c) p d = a ++ d ++ c := by
 subst hp
 unfold Mk.over
 rw [h, <- List.length_append, List.drop_left, List.append_assoc a b c, List.take_left, List.append_assoc]
def Mk.textAt (x : Mk.Spec) : Nat := (Mk.pad 4096 (Mk.front2 x)).length
def Mk.dataAt (x : Mk.Spec) : Nat := (Mk.pad 4096 (Mk.out1 x)).length
theorem text_up (x : Mk.Spec) : Mk.textAt x = ((Mk.front2 x).length + 4095) / 4096 * 4096 := pad_up _
theorem data_up (x : Mk.Spec) : Mk.dataAt x = (Mk.textAt x + x.text.length + 4095) / 4096 * 4096 := by
 unfold Mk.dataAt
 rw [pad_up]
 unfold Mk.out1
 split
 ·rw [List.length_append]; rfl
 ·rename_i h
  have : x.text.length = 0 := by unfold Mk.isText at h; simp at h; simp [h]
  rw [this, text_up]
  omega
theorem uJz (x : Mk.Spec) : (Mk.front2 x).length <= (Mk.out1 x).length := by
 unfold Mk.out1
 split
 ·rw [List.length_append, yJb]; omega
 ·omega
theorem uJy (x : Mk.Spec) : (Mk.out1 x).length <= (Mk.out2 x).length := by
 unfold Mk.out2
 split
 ·rw [List.length_append, yJb]; omega
 ·omega
def Mk.blank (x : Mk.Spec) : List UInt8 := Mk.front2 x ++ Mk.zs ((Mk.out2 x).length - (Mk.front2 x).length)
def Mk.withText (x : Mk.Spec) : List UInt8 := Mk.out1 x ++ Mk.zs ((Mk.out2 x).length - (Mk.out1 x).length)
theorem text_eq (x : Mk.Spec) : (if Mk.isText x = true then Mk.over (Mk.blank x) (Mk.textAt x) x.text else Mk.blank x) = Mk.withText x := by
 have h1 := uJz x
 have h2 := uJy x
 split
 ·rename_i h
  have e1 : Mk.out1 x = Mk.pad 4096 (Mk.front2 x) ++ x.text := by unfold Mk.out1; rw [if_pos h]
  have e2 : (Mk.out1 x).length = Mk.textAt x + x.text.length := by rw [e1, List.length_append]; rfl
  have e3 : Mk.textAt x = (Mk.front2 x).length + Mk.gap 4096 (Mk.front2 x).length := yJb _ _
  have e4 : Mk.blank x = Mk.pad 4096 (Mk.front2 x) ++ Mk.zs x.text.length ++ Mk.zs ((Mk.out2 x).length - (Mk.out1 x).length) := by
   unfold Mk.blank Mk.pad
   rw [List.append_assoc, List.append_assoc, <- zs_add, <- zs_add]
   congr 2
   omega
  rw [e4, over_mid _ _ _ _ (Mk.textAt x) rfl (by rw [yJj])]
  unfold Mk.withText
  rw [e1]
 ·rename_i h
  unfold Mk.withText Mk.blank Mk.out1
  rw [if_neg h]
theorem rows_ok (x : Mk.Spec) (M : Nat) (hM : M <= 4294967296) (h1 : (Mk.front2 x).length <= M) (h2 : Mk.textAt x <= M) (h3 : Mk.dataAt x <= M) (h4 : x.text.length <= M) (h5 : x.data.length <= M) (h6 : x.more <= M) (h7 : x.interp.size <= M) (h8 : Mk.room x <= M) : ∀ r ∈ Mk.rows x, RowOk r := by
 have hb : Mk.base x <= 4194304 := by unfold Mk.base; split <;> omega
 have hm := xJm x
 have f0 := yJ9 x
 have f1 := xJ4 x
 have f2 := xJs x
 have p0 := xJj 8 (by omega) (Mk.front0 x)
 have p1 := xJj 8 (by omega) (Mk.front1 x)
 intro r hr
 unfold Mk.rows Mk.rowPhdr Mk.rowInterp Mk.rowFirst Mk.rowText Mk.rowData Mk.rowDyn at hr
 simp only [List.mem_append, List.mem_singleton] at hr
 have key : ∀ k fl off ad fs ms al : Nat, k < 100 -> fl < 100 -> off <= 2 * M + 4096 -> ad <= 2 * M + 8388608 -> fs <= 2 * M + 4096 -> ms <= 2 * M + 4096 -> al <= 4096 -> RowOk ⟨k, fl, off, ad, fs, ms, al⟩ := fun k fl off ad fs ms al a b c d e f g =>
  ⟨by show k < _; omega, by show fl < _; omega, by show off < _; omega, by show ad < _; omega, by show fs < _; omega, by show ms < _; omega, by show al < _; omega⟩
 have kin : ∀ k off size al : Nat, k < 100 -> off <= 2 * M + 4096 -> size <= 2 * M + 4096 -> al <= 4096 -> RowOk (Mk.inRow x k off size al) := fun k off size al a b c d => key k 4 off (Mk.base x + off) size size al a (by omega) b (by omega) c c d
 rcases hr with ((((hr | hr) | hr) | hr) | hr) | hr
 ·subst hr; exact kin _ _ _ _ (by omega) (by omega) (by omega) (by omega)
 ·split at hr
  ·simp only [List.mem_singleton] at hr; subst hr; exact kin _ _ _ _ (by omega) (by omega) (by omega) (by omega)
  ·cases hr
 ·subst hr; exact kin _ _ _ _ (by omega) (by omega) (by omega) (by omega)
 ·split at hr
  ·simp only [List.mem_singleton] at hr; subst hr
   have h9 : Mk.textAt x = (Mk.pad 4096 (Mk.front2 x)).length := rfl
   exact key _ _ _ _ _ _ _ (by omega) (by omega) (by omega) (by omega) (by omega) (by omega) (by omega)
  ·cases hr
 ·split at hr
  ·simp only [List.mem_singleton] at hr; subst hr
   have h9 : Mk.dataAt x = (Mk.pad 4096 (Mk.out1 x)).length := rfl
   exact key _ _ _ _ _ _ _ (by omega) (by omega) (by omega) (by omega) (by omega) (by omega) (by omega)
  ·cases hr
 ·split at hr
  ·simp only [List.mem_singleton] at hr; subst hr; exact kin _ _ _ _ (by omega) (by omega) (by omega) (by omega)
  ·cases hr
end Go.Proofs.YtnbecdahfgkffaaGreat
namespace Go.Proofs.YtnbecdahfgkffaaGreat
open Go.RowKit
def dropC : Nat -> Code -> Code
 | 0, c => c
 | n + 1, .seq _ b => dropC n b
 | _ + 1, c => c
theorem yJ5 (r : Mk.Row) : ∀ u ∈ rowV r, u.oneCell' = true := by
 intro u hu
 simp only [rowV, List.mem_cons, List.not_mem_nil, or_false] at hu
 rcases hu with rfl | rfl | rfl | rfl | rfl | rfl | rfl <;> rfl
theorem rowC_snoc (l : List Mk.Row) (r : Mk.Row) : rowC (l ++ [r]) = rowC l ++ rowV r := by unfold rowC; simp
structure MkFit (s : Xq) : Prop where
 ok : XqOk s
 interp : s.x.interp.size <= 1048576
 data : s.x.data.length <= 1048576
 texts : (Mk.texts3 s.x.dyn).length <= 16777216
 sy : ∀ y ∈ s.x.dyn.syms, y.value < 18446744073709551616 /\ y.size < 18446744073709551616
 re : ∀ r ∈ s.x.dyn.relas, MrOk r
theorem MkFit.dq {s : Xq} (h : MkFit s) (hm : MayOk s.x) : DqFit s.q :=
 ⟨hm.n1, hm.n2, hm.n3, fun y hy => ⟨(h.sy y hy).1, (h.sy y hy).2, (hm.s2 y hy).2⟩, h.re⟩
def MkE (x : Mk.Spec) (w : World) (e : Ending) (w' : World) : Prop :=
 Below w.heap.size w w' /\ ∃ A n c, e = .returned (.tuple #[.slice A n c, .int .i64 (Mk.make x).2]) /\ w'.ownsRow w.heap.size 5 1 (.slice A n c) n (bys (Mk.make x).1)
structure MaS (b0 : Nat) (W1 : World) (gf : Nat) (L : Option (Nat × List Value)) (wr : World) (fs : List UInt8) (rs : List Mk.Row) (Al : Option Addr) (nl cl : Nat) : Prop where
 below : Below W1.heap.size W1 wr
 hg : W1.heap.size <= gf
 fi : ∃ A n c, FiM wr 87 gf 0 [.slice A n c, .int .u64 (b0 : Nat)] W1.heap.size A n c fs /\ (∀ k, bk Al = some k -> bk A ≠ some k) /\ ∀ p, L = some p -> bk A ≠ some p.1
 len : nl = rs.length
 row : wr.ownsRow W1.heap.size 89 7 (.slice Al nl cl) nl (rowC rs)
 gl : bk Al ≠ some gf
 last : ∀ p, L = some p -> Blk wr p.1 89 p.2 /\ W1.heap.size <= p.1 /\ p.1 ≠ gf /\ bk Al ≠ some p.1
section
variable {b0 gf nl cl : Nat} {W1 wr w' : World} {L : Option (Nat × List Value)} {fs fs' : List UInt8} {rs : List Mk.Row} {Al : Option Addr}
theorem MaS.size (h : MaS b0 W1 gf L wr fs rs Al nl cl) : W1.heap.size <= wr.heap.size := h.below.size
theorem MaS.calm (h : MaS b0 W1 gf L wr fs rs Al nl cl) (hb : Below wr.heap.size wr w') : MaS b0 W1 gf L w' fs rs Al nl cl := by
 obtain ⟨A, n, c, hf, h1, h2⟩ := h.fi
 exact ⟨h.below.trans (hb.mono h.size), h.hg, ⟨A, n, c, hf.below hb, h1, h2⟩, h.len, own_below h.row hb, h.gl, fun p hp => ⟨(h.last p hp).1.belowSz hb, (h.last p hp).2⟩⟩
theorem MaS.front {A A' : Option Addr} {n c n' c' : Nat} (h : MaS b0 W1 gf L wr fs rs Al nl cl) (hf : FiM wr 87 gf 0 [.slice A n c, .int .u64 (b0 : Nat)] W1.heap.size A n c fs) (h1 : ∀ k, bk Al = some k -> bk A ≠ some k) (h2 : ∀ p, L = some p -> bk A ≠ some p.1) (E : FiE 87 gf 0 [.slice A n c, .int .u64 (b0 : Nat)] W1.heap.size A wr w' A' n' c' fs') : MaS b0 W1 gf L w' fs' rs Al nl cl := by
 obtain ⟨r1, r2⟩ := E.own h.row h.gl h1
 refine ⟨h.below.trans (E.below h.hg (fun k hk => (hf.lt k hk).1) h.size), h.hg, ⟨A', n', c', E.m, r2, fun p hp e => ?_⟩, h.len, r1, h.gl, fun p hp => ⟨E.blk (h.last p hp).1 (h.last p hp).2.2.1 (h2 p hp), (h.last p hp).2⟩⟩
 rcases E.at_ _ e with h3 | h3
 ·exact h2 p hp h3
 ·have := (h.last p hp).1.lt; omega
theorem MaS.push {A2 : Option Addr} {c2 : Nat} (h : MaS b0 W1 gf L wr fs rs Al nl cl) (r : Mk.Row) (ho : w'.ownsRow W1.heap.size 89 7 (.slice A2 (nl + 1) c2) (nl + 1) (rowC rs ++ rowV r)) (hg : wr.grownBy w' (Value.slice Al nl cl).ownBlock) (hat : ∀ k, (Value.slice A2 (nl + 1) c2).ownBlock = some k -> (Value.slice Al nl cl).ownBlock = some k \/ wr.heap.size <= k) : MaS b0 W1 gf L w' fs (rs ++ [r]) A2 (nl + 1) c2 := by
 rw [zJr] at hg
 simp only [zJr] at hat
 obtain ⟨A, n, c, hf, h1, h2⟩ := h.fi
 refine ⟨h.below.grown hg h.size (fun k hk => (zJ7 h.row k hk).1), h.hg, ⟨A, n, c, hf.grown hg h.gl (fun k hk e => h1 k e hk), fun k hk e => ?_, h2⟩, by rw [h.len, List.length_append]; rfl, by rw [rowC_snoc]; exact ho, fun e => ?_, fun p hp => ⟨(hg.block p.1 (h.last p hp).1.lt (fun e => (h.last p hp).2.2.2 e.symm)).trans (h.last p hp).1, (h.last p hp).2.1, (h.last p hp).2.2.1, fun e => ?_⟩⟩
 ·rcases hat k hk with h3 | h3
  ·exact h1 k h3 e
  ·have := hf.lt k e; omega
 ·rcases hat _ e with h3 | h3
  ·exact h.gl h3
  ·have := hf.blk.lt; omega
 ·rcases hat _ e with h3 | h3
  ·exact (h.last p hp).2.2.2 h3
  ·have := (h.last p hp).1.lt; omega
theorem MaS.lt (h : MaS b0 W1 gf L wr fs rs Al nl cl) : gf < wr.heap.size := by
 obtain ⟨A, n, c, hf, h1, h2⟩ := h.fi
 exact hf.blk.lt
theorem rowV_all (r : Mk.Row) : (rowV r).toArray.all (·.oneCell') = true := by simp [rowV, Value.oneCell']
theorem MaS.lay {l : List Value} (h : MaS b0 W1 gf none wr fs rs Al nl cl) : MaS b0 W1 gf (some (wr.heap.size, l)) (wr.alloc (.cells l.toArray 89)) fs rs Al nl cl := by
 have hb : Below wr.heap.size wr (wr.alloc (.cells l.toArray 89)) := (Below.refl _ _).alloc (Nat.le_refl _) _
 have h1 := h.calm hb
 obtain ⟨A, n, c, hf, e1, e2⟩ := h.fi
 refine ⟨h1.below, h1.hg, ⟨A, n, c, hf.below hb, e1, fun p hp e => ?_⟩, h1.len, h1.row, h1.gl, fun p hp => ?_⟩
 ·injection hp with hp; subst hp; have := hf.lt _ e; simp at this
 ·injection hp with hp; subst hp
  refine ⟨Blk.new wr _ l, h.size, fun e => ?_, fun e => ?_⟩
  ·have := hf.blk.lt; simp at e; omega
  ·have := zJ7 h.row _ e; simp at this
end
theorem below_setRow {B k : Nat} {a w : World} (h : Below B a w) (hk : B <= k) (cs : Array Value) : Below B a (w.setRow k cs) :=
 ⟨h.os, h.tape, h.output, by simpa [World.setRow] using h.size, fun j hj => (setRow_other w k j cs (by omega)).trans (h.block j hj)⟩
structure CpM (W8 wr : World) (kb n : Nat) (cur : List UInt8) : Prop where
 below : Below W8.heap.size W8 wr
 hk : W8.heap.size <= kb
 row : wr.ownsRow W8.heap.size 5 1 (.slice (some ⟨kb, 0, none⟩) n n) n (bys cur)
theorem CpM.calm {W8 wr w' : World} {kb n : Nat} {cur : List UInt8} (h : CpM W8 wr kb n cur) (hb : Below wr.heap.size wr w') : CpM W8 w' kb n cur := ⟨h.below.trans (hb.mono h.below.size), h.hk, own_below h.row hb⟩
theorem CpM.copied {W8 wr : World} {kb n : Nat} {cur cur' : List UInt8} (h : CpM W8 wr kb n cur) {w' : World} (ho : w'.ownsRow W8.heap.size 5 1 (.slice (some ⟨kb, 0, none⟩) n n) n (bys cur')) (he : ∃ cs, w' = wr.setRow kb cs) : CpM W8 w' kb n cur' := by
 obtain ⟨cs, rfl⟩ := he
 exact ⟨below_setRow h.below h.hk cs, h.hk, ho⟩
theorem CpM.drew {W8 wr : World} {kb n : Nat} {cur : List UInt8} (h : CpM W8 wr kb n cur) (q : Nat) : CpM W8 (wr.drewN q) kb n cur := ⟨below_drewN' h.below q, h.hk, h.row⟩
open Go.RowKit
structure XqMax (s : Xq) : Prop where
 text : s.x.text.length <= 140737488355328
 data : s.x.data.length <= 140737488355328
 interp : s.x.interp.size <= 140737488355328
 so : s.x.dyn.soname.size <= 140737488355328
 ru : s.x.dyn.run.size <= 140737488355328
 n1 : s.x.dyn.needed.length <= 140737488355328
 n2 : s.x.dyn.syms.length <= 140737488355328
 n3 : s.x.dyn.relas.length <= 140737488355328
 s1 : ∀ y ∈ s.x.dyn.needed, y.size <= 140737488355328
 s2 : ∀ y ∈ s.x.dyn.syms, y.name.size <= 140737488355328
def sumN (l : List ByteArray) : Nat := (l.map (·.size)).foldr (· + ·) 0
theorem sumN_next {l : List ByteArray} {i : Nat} {x : ByteArray} (h : l[i]? = some x) : sumN (l.take (i + 1)) = sumN (l.take i) + x.size := by
 rw [List.take_add_one, h]
 unfold sumN
 simp only [List.map_append, List.foldr_append, Option.toList_some, List.map_cons, List.map_nil, List.foldr_cons, List.foldr_nil]
 generalize List.map (fun x => x.size) (l.take i) = m
 induction m with
 | nil => simp
 | cons a r ih => simp only [List.foldr_cons, ih]; omega
def large0 (x : Mk.Spec) : Nat := x.text.length + x.data.length + x.interp.size + x.dyn.soname.size + x.dyn.run.size + 40 * x.dyn.syms.length + 30 * x.dyn.relas.length + 16 * x.dyn.needed.length
def LgOk (x : Mk.Spec) : Prop := large0 x + sumN x.dyn.needed + sumN (Mk.names x.dyn.syms) <= 524288
def LargeE (s : Xq) (w : World) (e : Ending) (w' : World) : Prop := ∃ r, e = .returned (.bool r) /\ Below w.heap.size w w' /\ (r = false -> LgOk s.x)
set_option maxRecDepth 100000 in
set_option maxHeartbeats 60000000 in
theorem large14_any (s : Xq) (B : Nat) (w : World) (hB : B <= w.heap.size) (h : XqM w B s) (hm : XqMax s) :
  Calls Tryz.prog 6 #[.agg s.l.toArray] w (LargeE s w) := by
 have hb1 : Below w.heap.size w ((w.alloc (.cells #[.int .u16 (s.x.type : Nat), .int .u64 (s.x.entry : Nat), .string s.x.interp, .slice s.At s.x.text.length s.ct, .slice s.Ad s.x.data.length s.cd, .int .u64 (s.x.more : Nat), .bool s.x.dynamic, .slice s.A1 s.x.dyn.needed.length s.c1, .string s.x.dyn.soname, .string s.x.dyn.run, .slice s.A2 s.x.dyn.syms.length s.c2, .slice s.A3 s.x.dyn.relas.length s.c3, .int .i64 s.x.apart] 31)).alloc (.cells #[.slice s.A1 s.x.dyn.needed.length s.c1, .string s.x.dyn.soname, .string s.x.dyn.run, .slice s.A2 s.x.dyn.syms.length s.c2, .slice s.A3 s.x.dyn.relas.length s.c3] 29)) := ((Below.refl _ _).alloc (Nat.le_refl _) _).alloc (by simp) _
 have hbx := (Blk.new w 31 s.l).alloc (.cells #[.slice s.A1 s.x.dyn.needed.length s.c1, .string s.x.dyn.soname, .string s.x.dyn.run, .slice s.A2 s.x.dyn.syms.length s.c2, .slice s.A3 s.x.dyn.relas.length s.c3] 29)
 have hbd := Blk.new (w.alloc (.cells #[.int .u16 (s.x.type : Nat), .int .u64 (s.x.entry : Nat), .string s.x.interp, .slice s.At s.x.text.length s.ct, .slice s.Ad s.x.data.length s.cd, .int .u64 (s.x.more : Nat), .bool s.x.dynamic, .slice s.A1 s.x.dyn.needed.length s.c1, .string s.x.dyn.soname, .string s.x.dyn.run, .slice s.A2 s.x.dyn.syms.length s.c2, .slice s.A3 s.x.dyn.relas.length s.c3, .int .i64 s.x.apart] 31)) 29 s.q.l
 have e1 : (w.alloc (.cells #[.int .u16 (s.x.type : Nat), .int .u64 (s.x.entry : Nat), .string s.x.interp, .slice s.At s.x.text.length s.ct, .slice s.Ad s.x.data.length s.cd, .int .u64 (s.x.more : Nat), .bool s.x.dynamic, .slice s.A1 s.x.dyn.needed.length s.c1, .string s.x.dyn.soname, .string s.x.dyn.run, .slice s.A2 s.x.dyn.syms.length s.c2, .slice s.A3 s.x.dyn.relas.length s.c3, .int .i64 s.x.apart] 31)).heap.size = w.heap.size + 1 := by simp
 rw [e1] at hbd
 have hx := h.below (hb1.mono hB)
 obtain ⟨a0, a1, a2, a3, a4, a5, a6, a7, a8, a9, a10, a11, a12⟩ := zJx (show Blk ((w.alloc (.cells #[.int .u16 (s.x.type : Nat), .int .u64 (s.x.entry : Nat), .string s.x.interp, .slice s.At s.x.text.length s.ct, .slice s.Ad s.x.data.length s.cd, .int .u64 (s.x.more : Nat), .bool s.x.dynamic, .slice s.A1 s.x.dyn.needed.length s.c1, .string s.x.dyn.soname, .string s.x.dyn.run, .slice s.A2 s.x.dyn.syms.length s.c2, .slice s.A3 s.x.dyn.relas.length s.c3, .int .i64 s.x.apart] 31)).alloc (.cells #[.slice s.A1 s.x.dyn.needed.length s.c1, .string s.x.dyn.soname, .string s.x.dyn.run, .slice s.A2 s.x.dyn.syms.length s.c2, .slice s.A3 s.x.dyn.relas.length s.c3] 29)) w.heap.size 31 s.l from hbx)
 have d0 : ((w.alloc (.cells #[.int .u16 (s.x.type : Nat), .int .u64 (s.x.entry : Nat), .string s.x.interp, .slice s.At s.x.text.length s.ct, .slice s.Ad s.x.data.length s.cd, .int .u64 (s.x.more : Nat), .bool s.x.dynamic, .slice s.A1 s.x.dyn.needed.length s.c1, .string s.x.dyn.soname, .string s.x.dyn.run, .slice s.A2 s.x.dyn.syms.length s.c2, .slice s.A3 s.x.dyn.relas.length s.c3, .int .i64 s.x.apart] 31)).alloc (.cells #[.slice s.A1 s.x.dyn.needed.length s.c1, .string s.x.dyn.soname, .string s.x.dyn.run, .slice s.A2 s.x.dyn.syms.length s.c2, .slice s.A3 s.x.dyn.relas.length s.c3] 29)).cell? ⟨w.heap.size + 1, 0, none⟩ = some (.slice s.A1 s.x.dyn.needed.length s.c1) := hbd.cell (i := 0) rfl
 have d1 : ((w.alloc (.cells #[.int .u16 (s.x.type : Nat), .int .u64 (s.x.entry : Nat), .string s.x.interp, .slice s.At s.x.text.length s.ct, .slice s.Ad s.x.data.length s.cd, .int .u64 (s.x.more : Nat), .bool s.x.dynamic, .slice s.A1 s.x.dyn.needed.length s.c1, .string s.x.dyn.soname, .string s.x.dyn.run, .slice s.A2 s.x.dyn.syms.length s.c2, .slice s.A3 s.x.dyn.relas.length s.c3, .int .i64 s.x.apart] 31)).alloc (.cells #[.slice s.A1 s.x.dyn.needed.length s.c1, .string s.x.dyn.soname, .string s.x.dyn.run, .slice s.A2 s.x.dyn.syms.length s.c2, .slice s.A3 s.x.dyn.relas.length s.c3] 29)).cell? ⟨w.heap.size + 1, 1, none⟩ = some (.string s.x.dyn.soname) := hbd.cell (i := 1) rfl
 have d2 : ((w.alloc (.cells #[.int .u16 (s.x.type : Nat), .int .u64 (s.x.entry : Nat), .string s.x.interp, .slice s.At s.x.text.length s.ct, .slice s.Ad s.x.data.length s.cd, .int .u64 (s.x.more : Nat), .bool s.x.dynamic, .slice s.A1 s.x.dyn.needed.length s.c1, .string s.x.dyn.soname, .string s.x.dyn.run, .slice s.A2 s.x.dyn.syms.length s.c2, .slice s.A3 s.x.dyn.relas.length s.c3, .int .i64 s.x.apart] 31)).alloc (.cells #[.slice s.A1 s.x.dyn.needed.length s.c1, .string s.x.dyn.soname, .string s.x.dyn.run, .slice s.A2 s.x.dyn.syms.length s.c2, .slice s.A3 s.x.dyn.relas.length s.c3] 29)).cell? ⟨w.heap.size + 1, 2, none⟩ = some (.string s.x.dyn.run) := hbd.cell (i := 2) rfl
 have d3 : ((w.alloc (.cells #[.int .u16 (s.x.type : Nat), .int .u64 (s.x.entry : Nat), .string s.x.interp, .slice s.At s.x.text.length s.ct, .slice s.Ad s.x.data.length s.cd, .int .u64 (s.x.more : Nat), .bool s.x.dynamic, .slice s.A1 s.x.dyn.needed.length s.c1, .string s.x.dyn.soname, .string s.x.dyn.run, .slice s.A2 s.x.dyn.syms.length s.c2, .slice s.A3 s.x.dyn.relas.length s.c3, .int .i64 s.x.apart] 31)).alloc (.cells #[.slice s.A1 s.x.dyn.needed.length s.c1, .string s.x.dyn.soname, .string s.x.dyn.run, .slice s.A2 s.x.dyn.syms.length s.c2, .slice s.A3 s.x.dyn.relas.length s.c3] 29)).cell? ⟨w.heap.size + 1, 3, none⟩ = some (.slice s.A2 s.x.dyn.syms.length s.c2) := hbd.cell (i := 3) rfl
 have d4 : ((w.alloc (.cells #[.int .u16 (s.x.type : Nat), .int .u64 (s.x.entry : Nat), .string s.x.interp, .slice s.At s.x.text.length s.ct, .slice s.Ad s.x.data.length s.cd, .int .u64 (s.x.more : Nat), .bool s.x.dynamic, .slice s.A1 s.x.dyn.needed.length s.c1, .string s.x.dyn.soname, .string s.x.dyn.run, .slice s.A2 s.x.dyn.syms.length s.c2, .slice s.A3 s.x.dyn.relas.length s.c3, .int .i64 s.x.apart] 31)).alloc (.cells #[.slice s.A1 s.x.dyn.needed.length s.c1, .string s.x.dyn.soname, .string s.x.dyn.run, .slice s.A2 s.x.dyn.syms.length s.c2, .slice s.A3 s.x.dyn.relas.length s.c3] 29)).cell? ⟨w.heap.size + 1, 4, none⟩ = some (.slice s.A3 s.x.dyn.relas.length s.c3) := hbd.cell (i := 4) rfl
 obtain ⟨m1, m2, m3, m4, m5, m6, m7, m8, m9, m10⟩ := hm
 have Hb1 := zJ2 hb1
 have Hx := zJ2 hx
 have H9 := zJ2 m9
 have H10 := zJ2 m10
 obtain ⟨L0, hL0⟩ : ∃ L0, large0 s.x = L0 := ⟨_, rfl⟩
 have HL0 := zJ2 hL0
 have hLb : L0 <= 36028797018963968 := by rw [<- hL0]; unfold large0; omega
 have hnv : ((s.x.text.length : Nat) : Int) + (s.x.data.length : Nat) + (s.x.interp.size : Nat) + (s.x.dyn.soname.size : Nat) + (s.x.dyn.run.size : Nat) + 40 * (s.x.dyn.syms.length : Nat) + 30 * (s.x.dyn.relas.length : Nat) + 16 * (s.x.dyn.needed.length : Nat) = (L0 : Int) := by rw [<- hL0]; unfold large0; omega
 have Hnv := zJ2 hnv
 show Calls _ _ #[.agg #[.int .u16 (s.x.type : Nat), .int .u64 (s.x.entry : Nat), .string s.x.interp, .slice s.At s.x.text.length s.ct, .slice s.Ad s.x.data.length s.cd, .int .u64 (s.x.more : Nat), .bool s.x.dynamic, .slice s.A1 s.x.dyn.needed.length s.c1, .string s.x.dyn.soname, .string s.x.dyn.run, .slice s.A2 s.x.dyn.syms.length s.c2, .slice s.A3 s.x.dyn.relas.length s.c3, .int .i64 s.x.apart]] w _
 clear hb1 hbx hbd e1 hx h m9 m10 hL0 hnv
 go_enter Tryz.func6, Tryz.ntmps6
 go_upto_region 3 with fail
 obtain ⟨W, hW⟩ : ∃ W, ((w.alloc (.cells #[.int .u16 (s.x.type : Nat), .int .u64 (s.x.entry : Nat), .string s.x.interp, .slice s.At s.x.text.length s.ct, .slice s.Ad s.x.data.length s.cd, .int .u64 (s.x.more : Nat), .bool s.x.dynamic, .slice s.A1 s.x.dyn.needed.length s.c1, .string s.x.dyn.soname, .string s.x.dyn.run, .slice s.A2 s.x.dyn.syms.length s.c2, .slice s.A3 s.x.dyn.relas.length s.c3, .int .i64 s.x.apart] 31)).alloc (.cells #[.slice s.A1 s.x.dyn.needed.length s.c1, .string s.x.dyn.soname, .string s.x.dyn.run, .slice s.A2 s.x.dyn.syms.length s.c2, .slice s.A3 s.x.dyn.relas.length s.c3] 29)) = W := ⟨_, rfl⟩
 rw [hW] at d0 d3
 have Hb1' : Hid (Below w.heap.size w W) := zJ2 (by rw [<- hW]; exact zJ1 Hb1)
 have Hx' : Hid (XqM W B s) := zJ2 (by rw [<- hW]; exact zJ1 Hx)
 rw [zJ1 Hnv, hW]
 obtain ⟨N, hN⟩ : ∃ N, s.x.dyn.needed.length = N := ⟨_, rfl⟩
 obtain ⟨M, hM⟩ : ∃ M, s.x.dyn.syms.length = M := ⟨_, rfl⟩
 obtain ⟨A1, hA1⟩ : ∃ A, s.A1 = A := ⟨_, rfl⟩
 obtain ⟨A2, hA2⟩ : ∃ A, s.A2 = A := ⟨_, rfl⟩
 rw [hN, hA1] at d0
 rw [hM, hA2] at d3
 have HN := zJ2 hN
 have HM := zJ2 hM
 have HrN : Hid (Rd W B 1 A1 N (s.x.dyn.needed.map Value.string)) := zJ2 (by have h9 := (zJ1 Hx').dyn.needed; rw [show s.q.A1 = s.A1 from rfl, hA1, show s.q.d.needed = s.x.dyn.needed from rfl, hN] at h9; exact h9)
 have HrM : Hid (Rd W B 5 A2 M (symC s.x.dyn.syms)) := zJ2 (by have h9 := (zJ1 Hx').dyn.syms; rw [show s.q.A2 = s.A2 from rfl, hA2, show s.q.d.syms = s.x.dyn.syms from rfl, hM] at h9; exact h9)
 have hNb : N <= 140737488355328 := by omega
 have hMb : M <= 140737488355328 := by omega
 clear hW hN hM hA1 hA2 d1 d2 d4 a0 a1 a2 a3 a4 a5 a6 a7 a8 a9 a10 a11 a12 Hb1 Hx Hnv m1 m2 m3 m4 m5 m6 m7 m8
 go_upto_block 0 with fail
 go_cut [4] (fun nv wx => ∃ n : Nat, nv = .int .i64 n /\ n <= 144115188075855872 /\ (n <= 524288 -> L0 + sumN s.x.dyn.needed = n) /\ W = wx)
 case first =>
  go_wp2_with fail
  go_loopg [4, 5] N (fun gk nv iv wr => ∃ i n : Nat, gk = N - i /\ i <= N /\ iv = .int .i64 i /\ nv = .int .i64 n /\ n <= 144115188075855872 /\ (L0 + sumN (s.x.dyn.needed.take i) = n) /\ W = wr)
  case atStart => exact ⟨0, _, by omega, by omega, rfl, rfl, by omega, by simp [sumN], rfl⟩
  case round =>
  obtain ⟨i, n, hgk, hi, rfl, rfl, hn, hsum, rfl⟩ := hrel
  have Hgk := zJ2 hgk
  have Hsum := zJ2 hsum
  clear hgk hsum
  by_cases hlt : i < N
  ·have ilt : (i : Int) < (N : Int) := by omega
   by_cases hle : n <= 524288
   ·have nle : (n : Int) <= 524288 := by omega
    obtain ⟨x, hx⟩ : ∃ x, s.x.dyn.needed[i]? = some x := ⟨_, List.getElem?_eq_getElem (by rw [zJ1 HN]; exact hlt)⟩
    have hxs := (zJ1 H9) x (List.mem_of_getElem? hx)
    obtain ⟨b1, o1, hA, -, st⟩ := (zJ1 HrN).at_ (k := i) (u := .string x) (by simp [hx])
    subst hA
    have Hs := zJ2 (sumN_next hx)
    have hn2 : n + x.size <= 144115188075855872 := by omega
    clear hx hxs
    go_wp2_with fail
    go_roundg (N - (i + 1))
    case measure => have := zJ1 Hgk; omega
    case rel => exact ⟨i + 1, n + x.size, rfl, by omega, by go_num, by go_num, hn2, by have := zJ1 Hs; have := zJ1 Hsum; omega, rfl⟩
   ·have nle : ¬ (n : Int) <= 524288 := by omega
    go_wp2_with fail
    go_meet
    case rel => exact ⟨n, rfl, hn, fun e => absurd e hle, rfl⟩
  ·have ilt : ¬ (i : Int) < (N : Int) := by omega
   have hiN : i = N := by omega
   have Hfin : Hid (n <= 524288 -> L0 + sumN s.x.dyn.needed = n) := zJ2 (by have h9 := zJ1 Hsum; rw [List.take_of_length_le (by rw [zJ1 HN, hiN]; exact Nat.le_refl _)] at h9; exact fun _ => h9)
   clear hiN
   go_wp2_with fail
   go_meet
   case rel => exact ⟨n, rfl, hn, zJ1 Hfin, rfl⟩
 case rest =>
  obtain ⟨n1, rfl, hn1, hc1, rfl⟩ := hcut
  have Hc1 := zJ2 hc1
  clear hc1
  go_upto_block 2 with fail
  go_cut [4] (fun nv wx => ∃ n : Nat, nv = .int .i64 n /\ n <= 144115188075855872 /\ (n <= 524288 -> n1 + sumN (Mk.names s.x.dyn.syms) = n) /\ W = wx)
  case first =>
   go_wp2_with fail
   go_loopg [4, 6] M (fun gk nv iv wr => ∃ i n : Nat, gk = M - i /\ i <= M /\ iv = .int .i64 i /\ nv = .int .i64 n /\ n <= 144115188075855872 /\ (n1 + sumN ((Mk.names s.x.dyn.syms).take i) = n) /\ W = wr)
   case atStart => exact ⟨0, _, by omega, by omega, rfl, rfl, hn1, by simp [sumN], rfl⟩
   case round =>
   obtain ⟨i, n, hgk, hi, rfl, rfl, hn, hsum, rfl⟩ := hrel
   have Hgk := zJ2 hgk
   have Hsum := zJ2 hsum
   clear hgk hsum
   by_cases hlt : i < M
   ·have ilt : (i : Int) < (M : Int) := by omega
    by_cases hle : n <= 524288
    ·have nle : (n : Int) <= 524288 := by omega
     obtain ⟨y, hy⟩ : ∃ y, s.x.dyn.syms[i]? = some y := ⟨_, List.getElem?_eq_getElem (by rw [zJ1 HM]; exact hlt)⟩
     obtain ⟨x, hxe⟩ : ∃ x, y.name = x := ⟨_, rfl⟩
     have hxs := (zJ1 H10) y (List.mem_of_getElem? hy)
     have hx : (Mk.names s.x.dyn.syms)[i]? = some x := by unfold Mk.names; rw [List.getElem?_map, hy, <- hxe]; rfl
     obtain ⟨b1, o1, hA, -, st, -⟩ := xJq (zJ1 HrM) hy
     rw [hxe] at st hxs
     subst hA
     clear hy hxe
     have Hs := zJ2 (sumN_next hx)
     have hn2 : n + x.size <= 144115188075855872 := by omega
     clear hx hxs
     go_wp2_with fail
     go_roundg (M - (i + 1))
     case measure => have := zJ1 Hgk; omega
     case rel => exact ⟨i + 1, n + x.size, rfl, by omega, by go_num, by go_num, hn2, by have := zJ1 Hs; have := zJ1 Hsum; omega, rfl⟩
    ·have nle : ¬ (n : Int) <= 524288 := by omega
     go_wp2_with fail
     go_meet
     case rel => exact ⟨n, rfl, hn, fun e => absurd e hle, rfl⟩
   ·have ilt : ¬ (i : Int) < (M : Int) := by omega
    have hiN : i = M := by omega
    have Hfin : Hid (n <= 524288 -> n1 + sumN (Mk.names s.x.dyn.syms) = n) := zJ2 (by have h9 := zJ1 Hsum; rw [List.take_of_length_le (by rw [show (Mk.names s.x.dyn.syms).length = M from by unfold Mk.names; rw [List.length_map]; exact zJ1 HM, hiN]; exact Nat.le_refl _)] at h9; exact fun _ => h9)
    clear hiN
    go_wp2_with fail
    go_meet
    case rel => exact ⟨n, rfl, hn, zJ1 Hfin, rfl⟩
  case rest =>
   obtain ⟨n2, rfl, hn2, hc2, rfl⟩ := hcut
   have Hc2 := zJ2 hc2
   clear hc2
   by_cases hbig : 524288 < n2
   ·have hbi : (524288 : Int) < (n2 : Int) := by omega
    go_wp2_with fail
    go_ret
    exact ⟨true, by first | rfl | simp [hbig], zJ1 Hb1', fun e => by cases e⟩
   ·have hbi : ¬ (524288 : Int) < (n2 : Int) := by omega
    go_wp2_with fail
    go_ret
    refine ⟨false, by first | rfl | simp [hbig], zJ1 Hb1', fun _ => ?_⟩
    have h2 := (zJ1 Hc2) (by omega)
    have h1 := (zJ1 Hc1) (by omega)
    unfold LgOk
    rw [zJ1 HL0]
    omega
set_option maxRecDepth 100000 in
set_option maxHeartbeats 1000000 in
theorem set_yes (g0 : Nat) (m c B : Nat) (b : List UInt8) (p s x : Nat) (w : World) (hB : B <= w.heap.size) (hb : Rd w B 1 (some ⟨g0, 0, none⟩) m (bys b)) (hm : m <= 4294967296) (hs : s = 1 \/ s = 2 \/ s = 4 \/ s = 8) (h : p + s <= m) (hx : x < 18446744073709551616) :
  Calls Tryz.prog 113 #[.slice (some ⟨g0, 0, none⟩) m c, .int .u64 p, .int .i64 s, .int .u64 x] w fun e w' => ∃ A' c', e = .returned (.tuple #[.slice A' m c', .int .i64 0]) /\ w'.ownsRow w.heap.size 5 1 (.slice A' m c') m (bys (setK b p x s)) /\ Below w.heap.size w w' := by
 have hbl : b.length = m := by simpa [bys] using hb.len1
 have hs8 : s <= 8 := by omega
 have hs0 : 0 < s := by omega
 have Hck := zJ2 (check_yes (some ⟨g0, 0, none⟩) m c p s w (by unfold maxLen; omega) (by omega) (by omega) (by omega) (by omega))
 have Hb := zJ2 hb
 have Hbl := zJ2 hbl
 clear hbl hb hs
 go_enter Tryz.func113, Tryz.ntmps113
 go_wp2_with (first
  | (go_at_call 119; refine (zJ1 Hck).mono ?_; rintro e w1 ⟨rfl, hb1⟩; have Hb1 := zJ2 hb1; clear hb1)
  | (go_at_call 125; refine (clone_any _ m c B b _ (Nat.le_trans hB (zJ1 Hb1).size) ((zJ1 Hb).below ((zJ1 Hb1).mono hB)) hm (by simp)).mono ?_; rintro e w2 ⟨A', c', rfl, hown, hb2⟩; obtain ⟨g, rfl, hg1, hg2⟩ := xJ9 hown (by omega); have Hown := zJ2 (zJh hown (zJ1 Hb1).size); have Hb2 := zJ2 ((zJ1 Hb1).trans (hb2.mono (zJ1 Hb1).size)); have hg3 := (zJ1 Hb1).size; clear hown hb2))
 go_loopg [23] s (fun gk i wr => ∃ k : Nat, gk = s - k /\ k <= s /\ i = .int .i64 k /\ wr.ownsRow w.heap.size 5 1 (.slice (some ⟨g, 0, none⟩) m c') m (bys (setK b p x k)) /\ Below w.heap.size w wr)
 case atStart => exact ⟨0, by omega, by omega, rfl, zJ1 Hown, zJ1 Hb2⟩
 case round =>
 clear Hown Hb2
 obtain ⟨k, hgk, hk, rfl, hown, hb2⟩ := hrel
 have Hgk := zJ2 hgk
 have Hown := zJ2 hown
 have Hb2 := zJ2 hb2
 clear hown hb2 hgk
 rcases Nat.lt_or_ge k s with hlt | hge
 case inr =>
  obtain rfl : k = s := by omega
  go_wp2
  go_ret2
  exact ⟨_, _, rfl, zJ1 Hown, zJ1 Hb2⟩
 obtain ⟨z, hz⟩ : ∃ z, (setK b p x k)[p + k]? = some z := ⟨_, List.getElem?_eq_getElem (by rw [setK_len, zJ1 Hbl]; omega)⟩
 have hset := vJv (i := p + k) (zJ1 Hown) (.int .u8 (UInt8.ofNat (x / 256 ^ k % 256)).toNat)
 rw [bys_set] at hset
 have hc2 := xJp (zJ1 Hown) (uJ4 hz)
 have hf2 := wJa (zJ1 Hown) (p + k)
 obtain ⟨hg3, hg4, hg5⟩ := wJb (zJ1 Hown)
 have hy3 : (UInt8.ofNat (x / 256 ^ k % 256)).toNat = x / 256 ^ k % 256 := by simp
 rw [show (setK b p x k).set (p + k) (UInt8.ofNat (x / 256 ^ k % 256)) = setK b p x (k + 1) from rfl, hy3] at hset
 have Hset := zJ2 hset
 clear hset hy3 hz
 go_wp2
 go_roundg (s - (k + 1))
 case measure => have := zJ1 Hgk; omega
 case rel =>
  refine ⟨k + 1, rfl, by omega, by go_num, ?_, (zJ1 Hb2).setCell hg3 _⟩
  have e : ((x : Int) / 2 ^ (8 * k) % 256) = ((x / 256 ^ k % 256 : Nat) : Int) := by
   have h2 : (256 : Nat) ^ k = 2 ^ (8 * k) := by rw [Nat.pow_mul]
   rw [h2]
   push_cast
   rfl
  rw [e]
  exact zJ1 Hset
section
variable {P : Program} {t e : TypeId} {size bytes : Nat}
def KeptK (P : Program) (e : TypeId) (size : Nat) (w w' : World) (A : Option Addr) (n c : Nat) (A' : Option Addr) (c' : Nat) : Prop :=
 ((A' = A /\ c' = c) \/ ∀ k, bk A' = some k -> w.heap.size <= k) /\ ∀ n0 base0 xs0, n0 <= n -> w.ownsRow base0 e size (.slice A n0 c) n0 xs0 -> w'.ownsRow base0 e size (.slice A n0 c) n0 xs0
theorem run_app_keep (T : SlTy P t e size bytes) (w w' : World) (base : Nat) (ty : TypeId) (A : Option Addr) (n c : Nat) (xs : List Value) (hown : w.ownsRow base e size (.slice A n c) n xs)
  (B : Nat) (As : Option Addr) (m cs : Nat) (news : List Value) (hr : Rd w B size As m news) (h1 : ∀ u ∈ news, u.oneCell' = true) (hm : 0 < m)
  (hb : (n + m) * bytes <= 140737488355328) (hbase : base <= w.heap.size) (A' : Option Addr) (c' : Nat)
  (hrun : (Builtin.append_ #[t, t] ty #[.slice A n c, .slice As m cs]).run P w = .ok (.slice A' (n + m) c') w') : KeptK P e size w w' A n c A' c' := by
 obtain ⟨ht, ⟨i, z, hi, hz, hs, hby, hzs⟩, hsz, hbp⟩ := T
 have h63 : n + m <= maxLen := by
  have : (n + m) * 1 <= (n + m) * bytes := Nat.mul_le_mul_left _ hbp
  unfold maxLen
  omega
 have hsmall : n + m <= 9223372036854775807 := by simp only [maxLen] at h63; omega
 subst hs hby
 have hnl := hr.1
 obtain ⟨ad, rfl, hcells⟩ : ∃ ad, As = some ad /\ ∀ j u, news[j]? = some u -> w.cell? (ad.add j) = some u := by
  rcases hr.2 with rfl | ⟨b, off, rfl, _, hc⟩
  ·simp only [List.length_nil] at hnl
   have := Nat.mul_pos hm hsz
   omega
  ·exact ⟨_, rfl, fun j u hu => by rw [Addr.add_lit]; exact hc j u hu⟩
 rcases hown.2 with ⟨e1, hn0⟩ | ⟨g, cap, cur, e1, hbg, hg, hnc, hcm, hcs, htake⟩
 ·subst hn0
  injection e1 with e1 e2 e3
  subst e1 e3
  have hx : xs = [] := List.eq_nil_of_length_eq_zero (by simpa using hown.1)
  subst hx
  rw [run_append_nil (P := P) w t ty e i z ht hi hz ad m cs news hnl hcells (by omega) (by omega) (by have hb := hb; simp only [Nat.zero_add] at hb; omega)] at hrun
  injection hrun with e4 e5
  injection e4 with e4 e6 e7
  subst e4
  refine ⟨.inr fun k hk => by injection hk with hk; have h9 : w.heap.size = k := hk; omega, fun n0 base0 xs0 h0 h2 => ?_⟩
  have : n0 = 0 := by omega
  subst this
  have : xs0 = [] := List.eq_nil_of_length_eq_zero (by simpa using h2.1)
  subst this
  exact World.ownsRow_nil _ _ _ _
 ·injection e1 with e1 e2 e3
  subst e1 e3
  by_cases hroom : n + m <= c
  ·have hfit : n * i.size + news.length <= cur.size := by rw [hnl, hcs, <- Nat.add_mul]; exact Nat.mul_le_mul_right _ hroom
   rw [run_append_room (P := P) w t ty e i ht hi g n c cur hg ad m cs news hnl hcells h1 hroom hfit] at hrun
   injection hrun with e4 e5
   injection e4 with e4 e6 e7
   subst e4 e7 e5
   refine ⟨.inl ⟨rfl, rfl⟩, fun n0 base0 xs0 h0 h2 => ⟨h2.1, ?_⟩⟩
   rcases h2.2 with ⟨e8, -⟩ | ⟨g2, cap2, cur2, e8, hbg2, hg2, hnc2, hcm2, hcs2, htake2⟩
   ·injection e8 with e8; cases e8
   ·injection e8 with e8 e9 e10
    injection e8 with e8
    injection e8 with e8
    subst e8 e10
    rw [hg] at hg2
    injection hg2 with hg2
    injection hg2 with hg2
    subst hg2
    refine .inr ⟨g, c, _, rfl, hbg2, setRow_heap w g cur _ e _ hg, hnc2, hcm2, ?_, ?_⟩
    ·simp only [List.size_toArray, List.length_append, List.length_take, List.length_drop, Array.length_toList]
     omega
    ·have h3 : n0 * i.size <= n * i.size := Nat.mul_le_mul_right _ h0
     rw [<- htake2]
     simp only [List.append_assoc]
     rw [List.take_append_of_le_length (by rw [List.length_take, Array.length_toList]; omega), List.take_take, Nat.min_eq_left h3]
  ·have holds : ∀ j u, xs[j]? = some u -> w.cell? ((⟨g, 0, none⟩ : Addr).add j) = some u := hown.cells (g := g) rfl
   rw [run_append_grow (P := P) w t ty e i z ht hi hz ⟨g, 0, none⟩ n c xs hown.1 holds ad m cs news hnl hcells (by omega) (by omega) (growslice_fits (by omega) hb)] at hrun
   injection hrun with e4 e5
   injection e4 with e4 e6 e7
   subst e4 e5
   refine ⟨.inr fun k hk => by injection hk with hk; have h9 : w.heap.size = k := hk; omega, fun n0 base0 xs0 h0 h2 => ?_⟩
   exact own_below h2 ((zJ5 (Below.refl _ _)).alloc (Nat.le_refl _) _)
theorem wJw (T : SlTy P t e size bytes) {w : World} {ops : Array Oper} {rest : List Oper} {o : Oper} {a : Act} {Q : Exit -> Act -> World -> Prop} (hgd : o.guard = none) (s x : Operand)
  (ho : o.op = .call { callee := .builtin .append, args := #[s, x], argTypes := #[t, t] })
  (base : Nat) (A : Option Addr) (n c : Nat) (xs : List Value) (hs : a.eval s = .slice A n c) (hown : w.ownsRow base e size (.slice A n c) n xs)
  (B : Nat) (As : Option Addr) (m cs : Nat) (news : List Value) (hx : a.eval x = .slice As m cs) (hr : Rd w B size As m news) (h1 : ∀ u ∈ news, u.oneCell' = true) (hm : 0 < m)
  (hb : (n + m) * bytes <= 140737488355328) (hbase : base <= w.heap.size)
  (h : ∀ A' c' w', w'.ownsRow base e size (.slice A' (n + m) c') (n + m) (xs ++ news) -> w.grownBy w' (Value.slice A n c).ownBlock -> (∀ k, (Value.slice A' (n + m) c').ownBlock = some k -> (Value.slice A n c).ownBlock = some k \/ w.heap.size <= k) -> KeptK P e size w w' A n c A' c' -> wpList P ops Q rest (a.put o.dst (.slice A' (n + m) c')) w') : wpList P ops Q (o :: rest) a w := by
 refine wpList_plain hgd fun K hK => ?_
 obtain ⟨v', w', hrun, h2, h3, h4⟩ := run_app T w base o.type (.slice A n c) n xs hown B As m cs news hr h1 hb hbase
 obtain ⟨A', c', rfl⟩ := yJt h2
 have h5 := run_app_keep T w w' base o.type A n c xs hown B As m cs news hr h1 hm hb hbase A' c' hrun
 unfold Oper.wp execOp
 simp only [ho, resolve, invoke, builtin, Sem.run_bind, Sem.run_pure, Result.andThen_ok, List.map_toArray, List.map_cons, List.map_nil, hs, hx, hrun]
 exact hK _ _ (h A' c' w' h2 h3 h4 h5)
structure OldK (e : TypeId) (size : Nat) (w : World) (base : Nat) (A : Option Addr) (n c : Nat) (xs : List Value) (A1 : Option Addr) (n1 c1 : Nat) : Prop where
 own : w.ownsRow base e size (.slice A n c) n xs
 at_ : (A1 = A /\ c1 = c /\ n <= n1) \/ ∀ k, bk A = some k -> bk A1 ≠ some k
variable {w w' : World} {base n c n1 c1 n2 c2 : Nat} {A A1 A2 : Option Addr} {xs : List Value}
theorem OldK.refl (h : w.ownsRow base e size (.slice A n c) n xs) : OldK e size w base A n c xs A n c := ⟨h, .inl ⟨rfl, rfl, Nat.le_refl _⟩⟩
theorem OldK.below (h : OldK e size w base A n c xs A1 n1 c1) (hb : Below w.heap.size w w') : OldK e size w' base A n c xs A1 n1 c1 := ⟨own_below h.own hb, h.at_⟩
theorem OldK.set (h : OldK e size w base A n c xs A1 n1 c1) {p : Addr} (hp : bk A ≠ some p.block) (u : Value) : OldK e size (w.setCell p u) base A n c xs A1 n1 c1 := ⟨zJm h.own hp u, h.at_⟩
theorem OldK.app (h : OldK e size w base A n c xs A1 n1 c1) (hn : n1 <= n2) (hg : w.grownBy w' (Value.slice A1 n1 c1).ownBlock) (hat : ∀ k, (Value.slice A2 n2 c2).ownBlock = some k -> (Value.slice A1 n1 c1).ownBlock = some k \/ w.heap.size <= k) (hk : KeptK P e size w w' A1 n1 c1 A2 c2) : OldK e size w' base A n c xs A2 n2 c2 := by
 rw [zJr] at hg
 simp only [zJr] at hat
 have hlt := zJ7 h.own
 rcases h.at_ with ⟨rfl, rfl, h1⟩ | h1
 ·refine ⟨hk.2 n base xs h1 h.own, ?_⟩
  rcases hk.1 with ⟨h2, h3⟩ | h2
  ·exact .inl ⟨h2, h3, by omega⟩
  ·exact .inr fun k e1 e2 => by have := h2 k e2; have := (hlt k e1).2; omega
 ·refine ⟨xJo h.own hg h1, .inr fun k e1 e2 => ?_⟩
  rcases hat k e2 with h2 | h2
  ·exact h1 k e1 h2
  ·have := (hlt k e1).2; omega
end
open Go.RowKit
theorem zJy (k : Nat) (l : List Nat) : (Mk.lbs k l).length = k * l.length := by
 induction l with
 | nil => simp [Mk.lbs]
 | cons x r ih => rw [Mk.lbs, List.length_append, Cl.lb_len, ih, List.length_cons, Nat.mul_succ]; omega
theorem pad_lt8 (f : List UInt8) : (Mk.pad 8 f).length < f.length + 8 := by
 unfold Mk.pad
 rw [List.length_append, yJj]
 have := gap_lt (m := 8) (n := f.length) (by omega)
 omega
set_option maxRecDepth 100000 in
set_option maxHeartbeats 8000000 in
theorem zJp (t : TypeId) (g o : Nat) (l : List Value) (base : Nat) (A : Option Addr) (n c : Nat) (xs : List UInt8) (kv ov m cv s : Nat) (vs : List Nat) (w : World) (h : FiM w t g o l base A n c xs) (hbase : base <= w.heap.size)
  (hr : Rd w w.heap.size 1 (some ⟨kv, ov, none⟩) m (u64s vs)) (hbg : kv ≠ g) (hbA : bk A ≠ some kv) (hv : ∀ v ∈ vs, v < 18446744073709551616) (hs : s = 1 \/ s = 2 \/ s = 4 \/ s = 8) (hn : n <= 17592186044416) (hm : m <= 1048576) :
  Calls Tryz.prog 72 #[.pointer (some ⟨g, o, none⟩), .int .i64 s, .slice (some ⟨kv, ov, none⟩) m cv] w fun e w' => e = .returned (.tuple #[]) /\ ∃ A' c', FiE t g o l base A w w' A' (n + s * m) c' (xs ++ Mk.lbs s vs) /\ OldK 5 1 w' base A n c (bys xs) A' (n + s * m) c' := by
 have hvl : vs.length = m := by have := hr.1; simp [u64s] at this; omega
 have hs8 : s <= 8 := by omega
 have hsp : 0 < s := by omega
 obtain ⟨i, hi, hz0, hz1, hz2⟩ := info_parts yJw
 have Hi := zJ2 hi
 have Hz0 := zJ2 hz0
 have Hz1 := zJ2 hz1
 have Hz2 := zJ2 hz2
 have H := zJ2 h
 have Hr := zJ2 hr
 have Hbg := zJ2 hbg
 have HbA := zJ2 hbA
 have Hv := zJ2 hv
 have Hs := zJ2 hs
 have Hvl := zJ2 hvl
 clear h hr hbg hbA hv hs hvl hi hz0 hz1 hz2
 go_enter Tryz.func72, Tryz.ntmps72
 go_wp2_with fail
 go_loopg [12] m (fun gk iv wr => ∃ (j : Nat) (A1 : Option Addr) (c1 : Nat), gk = m - j /\ j <= m /\ iv = .int .i64 j /\ FiE t g o l base A w wr A1 (n + s * j) c1 (xs ++ Mk.lbs s (vs.take j)) /\ OldK 5 1 wr base A n c (bys xs) A1 (n + s * j) c1)
 case atStart => exact ⟨0, A, c, by omega, by omega, rfl, by simpa [Mk.lbs] using FiE.refl (zJ1 H), OldK.refl (zJ1 H).row⟩
 case round =>
 obtain ⟨j, A1, c1, hgk, hj, rfl, hE, hK⟩ := hrel
 have hne := (zJ1 H).ne
 have Hne := zJ2 hne
 have HK := zJ2 hK
 have Hgk := zJ2 hgk
 have hsz := hE.size
 have HE := zJ2 hE
 clear hgk hE hK hne
 rcases Nat.lt_or_ge j m with hlt | hge
 ·obtain ⟨x, hx⟩ : ∃ x, vs[j]? = some x := ⟨_, List.getElem?_eq_getElem (by rw [zJ1 Hvl]; exact hlt)⟩
  have hx64 := (zJ1 Hv) x (List.mem_of_getElem? hx)
  obtain ⟨b1, o1, hA1, hb1, st⟩ := ((zJ1 HE).rdK (zJ1 Hr) (Nat.le_refl _) (fun e => (zJ1 Hbg) (by injection e)) (fun k e => by injection e with e; exact e ▸ zJ1 HbA)).at_ (k := j) (u := .int .u64 (x : Nat)) (by simp [u64s, hx])
  injection hA1 with hA1
  injection hA1 with hA1 hA2
  subst hA1 hA2
  have Hx := zJ2 hx
  have hsj : s * j <= 8388608 := Nat.le_trans (Nat.mul_le_mul hs8 (by omega)) (by omega : 8 * 1048576 <= 8388608)
  have hji : (j : Int) < (m : Int) := by omega
  clear hx
  go_wp2_with (at_make; refine wpList_make_full _ rfl _ _ 24 rfl wr.heap.size 5 i (.int .u8 0) 1 Tryz.underlying24 (zJ1 Hi) (zJ1 Hz0) (zJ1 Hz1) _ _ _ _ s rfl (by rfl) rfl (by rfl) (by rw [zJ1 Hz2]; omega) (by unfold maxLen; omega) (Nat.le_refl _) ?_; intro w1 hown hgrow; rw [uJ7] at hown; have hb1 := (Below.refl wr.heap.size wr).grown hgrow (Nat.le_refl _) (fun k hk => by cases hk); have Hown := zJ2 hown; have Hb1 := zJ2 hb1; clear hown hgrow hb1)
  have ho := zJ1 Hown
  have KS := zJ2 (set_yes wr.heap.size s s w1.heap.size (List.replicate s 0) 0 s x w1 (Nat.le_refl _) (Rd.of_own ho) (by omega) (zJ1 Hs) (by omega) hx64)
  clear ho
  refine (zJ1 KS).mono ?_
  rintro e w2 ⟨A2, c2, rfl, ho2, hb2⟩
  rw [uJq] at ho2
  have hs1 := (zJ1 Hb1).size
  have hb12 := (zJ1 Hb1).trans (hb2.mono hs1)
  have hE2 := (zJ1 HE).then_ hb12
  have y0 := hE2.m.cell
  have z0 := hE2.m.blk.free o
  have HK2 := zJ2 ((zJ1 HK).below hb12)
  have HE2 := zJ2 hE2
  have Ho2 := zJ2 ho2
  have hs2 := hb12.size
  clear KS ho2 hb2 hb12 hE2 HE
  go_wp2_with (at_builtin; refine wJw vJ3 rfl _ _ rfl base A1 (n + s * j) c1 _ rfl (zJ1 HE2).m.row w2.heap.size A2 s c2 (bys (Cl.lb x s)) rfl (Rd.of_own (zJ1 Ho2)) (xJc _) hsp (by omega) (by omega) ?_; intro A3 c3 w3 ho3 hg3 ha3 hk3; have HK3 := zJ2 (((zJ1 HK2).app (by omega) hg3 ha3 hk3).set (p := ⟨g, o, none⟩) (zJ1 Hne) (.slice A3 (n + s * j + s) c3)); clear hk3; obtain ⟨hb3, hE3⟩ := (zJ1 HE2).more (Below.refl _ _) (show Grew _ w3 base _ _ (n + s * j + s) (xs ++ Mk.lbs s (vs.take j) ++ Cl.lb x s) from ⟨by rw [xJ0]; exact ho3, hg3, ha3⟩); have z2 := hb3.cell (zJ1 HE2).m.at_; have z3 := hb3.free o; have HE3 := zJ2 hE3; clear ho3 hg3 ha3 hb3 hE3 y0 z0)
  go_roundg (m - (j + 1))
  case measure => have := zJ1 Hgk; omega
  case rel => exact ⟨j + 1, A3, c3, rfl, by omega, by go_num, by
   have h9 := zJ1 HE3
   rw [List.take_add_one, zJ1 Hx, Option.toList_some, lbs_snoc, <- List.append_assoc, Nat.mul_succ, <- Nat.add_assoc]
   exact h9, by rw [Nat.mul_succ, <- Nat.add_assoc]; exact zJ1 HK3⟩
 ·obtain rfl : j = m := by omega
  have ige : ¬ (j : Int) < (j : Int) := by omega
  have hE := zJ1 HE
  rw [List.take_of_length_le (by rw [zJ1 Hvl]; omega)] at hE
  have HE3 := zJ2 hE
  clear hE HE
  go_wp2_with fail
  go_end0
  exact ⟨rfl, A1, c1, zJ1 HE3, zJ1 HK⟩
theorem modTm (a n r : Nat) (h : a % n = r) : (a : Int).tmod (n : Int) = (r : Int) := by rw [modT, h]
set_option maxRecDepth 100000 in
set_option maxHeartbeats 8000000 in
theorem ppad_any (t : TypeId) (g o : Nat) (l : List Value) (base : Nat) (A : Option Addr) (n c m : Nat) (xs : List UInt8) (w : World) (h : FiM w t g o l base A n c xs) (hbase : base <= w.heap.size) (hn : n <= 17592186044416) (hm0 : 0 < m) (hm : m <= 4096) :
  Calls Tryz.prog 31 #[.pointer (some ⟨g, o, none⟩), .int .i64 m] w fun e w' => e = .returned (.tuple #[]) /\ ∃ A' n' c', FiE t g o l base A w w' A' n' c' (Mk.pad m xs) := by
 have hlen := h.len
 have hpe : Mk.pad m xs = xs ++ Mk.zs (Mk.gap m n) := by unfold Mk.pad; rw [hlen]
 rw [hpe]
 have hgl : Mk.gap m n < m := gap_lt hm0
 have hgn : ∀ k, k < Mk.gap m n -> (n + k) % m ≠ 0 := fun k hk => gap_next hm0 hk
 have hge : (n + Mk.gap m n) % m = 0 := gap_end hm0
 generalize Mk.gap m n = G at *
 have H := zJ2 h
 have Hgn := zJ2 hgn
 have Hge := zJ2 hge
 have hm1 : ((m : Nat) : Int) ≠ 0 := by omega
 clear h hgn hge hpe hlen
 go_enter Tryz.func31, Tryz.ntmps31
 go_wp2_with fail
 go_loopg [] G (fun gk wr => ∃ (k : Nat) (A1 : Option Addr) (c1 : Nat), gk = G - k /\ k <= G /\ FiE t g o l base A w wr A1 (n + k) c1 (xs ++ Mk.zs k))
 case atStart => exact ⟨0, A, c, by omega, by omega, by simpa [Mk.zs] using FiE.refl (zJ1 H)⟩
 case round =>
 obtain ⟨k, A1, c1, hgk, hk, hE⟩ := hrel
 have Hgk := zJ2 hgk
 have y0 := hE.m.cell
 have hsz := hE.size
 have HE := zJ2 hE
 clear hgk hE
 rcases Nat.lt_or_ge k G with hlt | hge
 ·obtain ⟨r, hr⟩ : ∃ r, (n + k) % m = r := ⟨_, rfl⟩
  have hr0 : ((r : Int) != 0) = true := by
   have := (zJ1 Hgn) k hlt
   rw [bne_iff_ne]
   omega
  have hrm := modTm _ _ _ hr
  obtain ⟨v, hv⟩ : ∃ v, n + k = v := ⟨_, rfl⟩
  rw [hv] at y0 hrm
  have hE := zJ1 HE
  rw [hv] at hE
  have HE2 := zJ2 hE
  have Hv := zJ2 hv
  have hv2 : v <= 17592186048512 := by omega
  clear HE hE hr hv
  go_wp2_with (at_builtin; refine zJq vJ3 rfl _ _ rfl base (.slice A1 v c1) v _ rfl ((zJ1 HE2).m.row.alloc (.cells #[.int .u8 0] 5)) (wr.heap.size + 1) (some ⟨wr.heap.size, 0, none⟩) 1 1 (bys [0]) rfl (litA _) (xJc _) (by omega) (by simp; omega) ?_; intro A2 c2 w2 ho2 hg2 ha2; obtain ⟨hb2, hE2⟩ := (zJ1 HE2).more ((Below.refl _ _).alloc (Nat.le_refl _) (.cells #[.int .u8 0] 5)) (show Grew _ w2 base _ _ (v + 1) (xs ++ Mk.zs k ++ [0]) from ⟨by rw [xJ0]; exact ho2, hg2, ha2⟩); have z2 := hb2.cell (zJ1 HE2).m.at_; have z3 := hb2.free o; have HE3 := zJ2 hE2; clear ho2 hg2 ha2 hb2 hE2 y0)
  have h3 := zJ1 HE3
  rw [List.append_assoc, zs_snoc] at h3
  have HE4 := zJ2 h3
  clear h3 HE3
  go_roundg (G - (k + 1))
  case measure => have := zJ1 Hgk; omega
  case rel => exact ⟨k + 1, A2, c2, rfl, by omega, by rw [show n + (k + 1) = v + 1 from by have := zJ1 Hv; omega]; exact zJ1 HE4⟩
 ·obtain rfl : k = G := by omega
  have hrm := modTm _ _ _ (zJ1 Hge)
  have hr0 : (((0 : Nat) : Int) != 0) = false := rfl
  obtain ⟨v, hv⟩ : ∃ v, n + k = v := ⟨_, rfl⟩
  rw [hv] at y0 hrm
  have Hv := zJ2 hv
  have hv2 : v <= 17592186048512 := by omega
  clear hv Hge
  go_wp2_with fail
  go_end0
  exact ⟨rfl, A1, n + k, c1, zJ1 HE⟩
set_option maxRecDepth 100000 in
set_option maxHeartbeats 8000000 in
theorem pput_any (t : TypeId) (g o : Nat) (l : List Value) (base : Nat) (A : Option Addr) (n c : Nat) (xs : List UInt8) (Ab : Option Addr) (m cb : Nat) (b : List UInt8) (w : World) (h : FiM w t g o l base A n c xs) (hbase : base <= w.heap.size) (hn : n <= 4294967296) (hm : m <= 4294967296)
  (hr : Rd w w.heap.size 1 Ab m (bys b)) (hbg : bk Ab ≠ some g) (hbA : ∀ k, bk Ab = some k -> bk A ≠ some k) :
  Calls Tryz.prog 28 #[.pointer (some ⟨g, o, none⟩), .slice Ab m cb] w fun e w' => ∃ A' n' c', e = .returned (.int .u64 ((Mk.pad 8 xs).length : Nat)) /\ FiE t g o l base A w w' A' n' c' (Mk.pad 8 xs ++ b) := by
 have hpl := pad_lt8 xs
 have hxl := h.len
 have KP := zJ2 (ppad_any t g o l base A n c 8 xs w h hbase (by omega) (by omega) (by omega))
 have Hr := zJ2 hr
 have Hbg := zJ2 hbg
 have HbA := zJ2 hbA
 clear h hr hbg hbA
 go_enter Tryz.func28, Tryz.ntmps28
 go_wp2_with fail
 refine (zJ1 KP).mono ?_
 rintro e w1 ⟨rfl, A1, n1, c1, hE⟩
 have hl1 := hE.m.len
 have y0 := hE.m.cell
 have z0 := hE.m.blk.free o
 have hsz := hE.size
 rw [hl1] at hpl
 have hn1 : n1 <= 4294967304 := by omega
 have Hl1 := zJ2 hl1
 have HE := zJ2 hE
 clear KP hE hl1 hxl hpl
 go_wp2_with (at_builtin; refine zJq vJ3 rfl _ _ rfl base (.slice A1 n1 c1) n1 _ rfl (zJ1 HE).m.row w.heap.size Ab m cb (bys b) rfl ((zJ1 HE).rdK (zJ1 Hr) (Nat.le_refl _) (zJ1 Hbg) (zJ1 HbA)) (xJc _) (by omega) (by omega) ?_; intro A2 c2 w2 ho2 hg2 ha2; obtain ⟨hb2, hE2⟩ := (zJ1 HE).more (Below.refl _ _) (show Grew _ w2 base _ _ (n1 + m) (Mk.pad 8 xs ++ b) from ⟨by rw [xJ0]; exact ho2, hg2, ha2⟩); have z2 := hb2.cell (zJ1 HE).m.at_; have z3 := hb2.free o; have HE3 := zJ2 hE2; clear ho2 hg2 ha2 hb2 hE2 y0 z0)
 go_ret
 rw [zJ1 Hl1]
 exact ⟨A2, n1 + m, c2, rfl, zJ1 HE3⟩
set_option maxRecDepth 100000 in
set_option maxHeartbeats 8000000 in
theorem ptext_any (t : TypeId) (g o : Nat) (l : List Value) (base : Nat) (A : Option Addr) (n c : Nat) (xs : List UInt8) (s : ByteArray) (w : World) (h : FiM w t g o l base A n c xs) (hbase : base <= w.heap.size) (hn : n <= 35184372088832) (hs : s.size <= 4294967296) :
  Calls Tryz.prog 71 #[.pointer (some ⟨g, o, none⟩), .string s] w fun e w' => ∃ A' n' c', e = .returned (.int .u64 (Mk.place xs s : Nat)) /\ FiE t g o l base A w w' A' n' c' (Mk.put xs s) := by
 have hlen := h.len
 by_cases h0 : s.size = 0
 ·have hq := yJp h0
  have hE := FiE.refl h
  have e1 : Mk.place xs s = 0 := by unfold Mk.place; rw [if_pos h0]
  have e2 : Mk.put xs s = xs := by unfold Mk.put; rw [if_pos h0]
  rw [e1, e2]
  have HE := zJ2 hE
  clear hE e1 e2 h hlen h0
  go_enter Tryz.func71, Tryz.ntmps71
  go_wp2_with fail
  go_ret
  exact ⟨A, n, c, rfl, zJ1 HE⟩
 have hq := toList_some h0
 have e1 : Mk.place xs s = n := by unfold Mk.place; rw [if_neg h0, hlen]
 have e2 : Mk.put xs s = xs ++ s.data.toList ++ [0] := by unfold Mk.put; rw [if_neg h0]
 rw [e1, e2]
 have y0 := h.cell
 have H := zJ2 h
 clear e1 e2 h hlen h0
 go_enter Tryz.func71, Tryz.ntmps71
 go_wp2_with (first
  | (at_builtin; refine wpList_appS rfl _ _ rfl base (.slice A n c) n xs rfl (zJ1 H).row s rfl (by omega) (by omega) ?_; intro A1 c1 w1 hG; have hgs := hG.kept.size; have HG := zJ2 hG; clear hG y0)
  | (at_builtin; refine zJq vJ3 rfl _ _ rfl base (.slice A1 (n + s.size) c1) (n + s.size) _ rfl ((zJ1 HG).own.alloc (.cells #[.int .u8 0] 5)) (w1.heap.size + 1) (some ⟨w1.heap.size, 0, none⟩) 1 1 (bys [0]) rfl (litA _) (xJc _) (by omega) (by simp; omega) ?_; intro A2 c2 w2 ho2 hg2 ha2; obtain ⟨hb2, hE2⟩ := (zJ1 H).app ((zJ1 HG).trans (Grew.after ((Below.refl _ _).alloc (Nat.le_refl _) (.cells #[.int .u8 0] 5)) (show Grew _ w2 base (.slice A1 (n + s.size) c1) (.slice A2 (n + s.size + 1) c2) (n + s.size + 1) (xs ++ s.data.toList ++ [0]) from ⟨by rw [xJ0]; exact ho2, hg2, ha2⟩))); have z2 := hb2.cell (zJ1 H).at_; have z3 := hb2.free o; have HE2 := zJ2 hE2; clear ho2 hg2 ha2 hb2 hE2))
 go_ret
 exact ⟨A2, n + s.size + 1, c2, rfl, zJ1 HE2⟩
section
variable {t : TypeId} {g o base n1 c1 : Nat} {l : List Value} {A A1 : Option Addr} {w w1 w2 : World} {xs1 : List UInt8}
theorem FiE.number (h : FiE t g o l base A w w1 A1 n1 c1 xs1) (hb : Below w1.heap.size w1 w2) (hbase : base <= w.heap.size) {kv m cv s : Nat} {sv : Int} {vs : List Nat} {us : List Value} (hkv : w1.heap.size <= kv) (hr : Rd w2 w2.heap.size 1 (some ⟨kv, 0, none⟩) m us) (hu : us = u64s vs) (hv : ∀ v ∈ vs, v < 18446744073709551616) (hsv : sv = (s : Nat)) (hs : s = 1 \/ s = 2 \/ s = 4 \/ s = 8) (hn : n1 <= 17592186044416) (hm : m <= 1048576) :
  Calls Tryz.prog 72 #[.pointer (some ⟨g, o, none⟩), .int .i64 sv, .slice (some ⟨kv, 0, none⟩) m cv] w2 fun e w3 => e = .returned (.tuple #[]) /\ ∃ A' c', FiE t g o l base A w w3 A' (n1 + s * m) c' (xs1 ++ Mk.lbs s vs) /\ FiE t g o (l.set o (.slice A1 n1 c1)) base A1 w2 w3 A' (n1 + s * m) c' (xs1 ++ Mk.lbs s vs) := by
 subst hsv hu
 have h2 := h.m.below hb
 have hg := h.m.blk.lt
 have hlt := h.m.lt
 refine (zJp t g o _ base A1 n1 c1 xs1 kv 0 m cv s vs w2 h2 (Nat.le_trans hbase (Nat.le_trans h.size hb.size)) hr (by omega) (fun e => by have := (hlt kv e).2; omega) hv hs hn hm).mono ?_
 rintro e w3 ⟨rfl, A', c', hE, -⟩
 exact ⟨rfl, A', c', (h.then_ hb).trans hE, hE⟩
end
theorem lit1 (w : World) (a : Int) : Rd (w.alloc (.cells #[.int .u64 a] 23)) (w.alloc (.cells #[.int .u64 a] 23)).heap.size 1 (some ⟨w.heap.size, 0, none⟩) 1 [.int .u64 a] := by
 rw [show (w.alloc (.cells #[.int .u64 a] 23)).heap.size = w.heap.size + 1 by simp]
 exact Rd.rowF (n := 1) (size := 1) rfl
theorem lit2 (w : World) (a b : Int) : Rd (w.alloc (.cells #[.int .u64 a, .int .u64 b] 23)) (w.alloc (.cells #[.int .u64 a, .int .u64 b] 23)).heap.size 1 (some ⟨w.heap.size, 0, none⟩) 2 [.int .u64 a, .int .u64 b] := by
 rw [show (w.alloc (.cells #[.int .u64 a, .int .u64 b] 23)).heap.size = w.heap.size + 1 by simp]
 exact Rd.rowF (n := 2) (size := 1) rfl
theorem zJ3 (w : World) (c : Obj) : Below w.heap.size w (w.alloc c) := (Below.refl _ _).alloc (Nat.le_refl _) _
set_option maxRecDepth 100000 in
set_option maxHeartbeats 8000000 in
theorem uJc (A : Option Addr) (n c B : Nat) (l : List Mk.Rel) (w : World) (hB : B <= w.heap.size) (h : Rd w B 4 A n (mrC l)) (hl : l.length = n) (hn : n <= 65536) (ho : ∀ r ∈ l, MrOk r) :
  Calls Tryz.prog 77 #[.slice A n c] w fun e w' => ∃ A' c', e = .returned (.slice A' (24 * n) c') /\ w'.ownsRow w.heap.size 5 1 (.slice A' (24 * n) c') (24 * n) (bys (Mk.relsB l)) /\ Below w.heap.size w w' := by
 have hb1 := zJ3 w (.cells #[.slice none 0 0] 71)
 have hbl := Blk.new w 71 [.slice none 0 0]
 have hs1 : (w.alloc (.cells #[.slice none 0 0] 71)).heap.size = w.heap.size + 1 := by simp
 have hF0 : FiM (w.alloc (.cells #[.slice none 0 0] 71)) 71 w.heap.size 0 [.slice none 0 0] w.heap.size none 0 0 [] := ⟨hbl, rfl, World.ownsRow_nil _ _ _ _, by simp [bk]⟩
 have hr1 := h.below (hb1.mono hB)
 have Hr := zJ2 hr1
 have HF0 := zJ2 (FiE.refl hF0)
 have Hb1 := zJ2 hb1
 have Hl := zJ2 hl
 have Ho := zJ2 ho
 have Hs1 := zJ2 hs1
 clear h hl ho hb1 hbl hs1 hF0 hr1
 go_enter Tryz.func77, Tryz.ntmps77
 go_wp2_with fail
 generalize w.alloc (.cells #[.slice none 0 0] 71) = W1 at *
 go_loopg [10] n (fun gk iv wr => ∃ (j : Nat) (A1 : Option Addr) (c1 : Nat), gk = n - j /\ j <= n /\ iv = .int .i64 j /\ FiE 71 w.heap.size 0 [.slice none 0 0] w.heap.size none W1 wr A1 (24 * j) c1 (Mk.relsB (l.take j)))
 case atStart => exact ⟨0, none, 0, by omega, by omega, rfl, by simpa [Mk.relsB] using zJ1 HF0⟩
 case round =>
 obtain ⟨j, A1, c1, hgk, hj, rfl, hE⟩ := hrel
 have Hgk := zJ2 hgk
 have hsz := hE.size
 have hW1 := zJ1 Hs1
 have hbw := hE.below (B := w.heap.size) (Nat.le_refl _) (fun k hk => by cases hk) (by omega)
 have HE := zJ2 hE
 have Hbw := zJ2 hbw
 clear hgk hE hbw HF0
 rcases Nat.lt_or_ge j n with hlt | hge
 ·obtain ⟨x, hx⟩ : ∃ x, l[j]? = some x := ⟨_, List.getElem?_eq_getElem (by rw [zJ1 Hl]; exact hlt)⟩
  have hxo := (zJ1 Ho) x (List.mem_of_getElem? hx)
  have ho1 := hxo.off
  have ho2 := hxo.type
  obtain ⟨b1, o1, hA1, hb1, st0, st1, st2, st3⟩ := vJb ((zJ1 Hr).below ((zJ1 Hbw).mono hB)) hx
  subst hA1
  have ilt : (j : Int) < (n : Int) := by omega
  have Hx := zJ2 hx
  have hb2 := zJ3 wr (.cells #[.int .u64 (x.off : Nat), .int .u32 (x.type : Nat), .int .i64 x.sym, .int .i64 x.add] 141)
  have hbx := Blk.new wr 141 [.int .u64 (x.off : Nat), .int .u32 (x.type : Nat), .int .i64 x.sym, .int .i64 x.add]
  have hsx : (wr.alloc (.cells #[.int .u64 (x.off : Nat), .int .u32 (x.type : Nat), .int .i64 x.sym, .int .i64 x.add] 141)).heap.size = wr.heap.size + 1 := by simp
  have Hb2 := zJ2 hb2
  have Hbx : Hid (Blk (wr.alloc (.cells #[.int .u64 (x.off : Nat), .int .u32 (x.type : Nat), .int .i64 x.sym, .int .i64 x.add] 141)) wr.heap.size 141 [.int .u64 (x.off : Nat), .int .u32 (x.type : Nat), .int .i64 x.sym, .int .i64 x.add]) := zJ2 hbx
  have Hsx := zJ2 hsx
  clear hx hxo hb2 hbx hsx hb1
  go_wp2_with fail
  have H1 := zJ2 (lit1 (wr.alloc (.cells #[.int .u64 (x.off : Nat), .int .u32 (x.type : Nat), .int .i64 x.sym, .int .i64 x.add] 141)) (x.off : Nat))
  rw [zJ1 Hsx] at H1
  have KN1 := zJ2 ((zJ1 HE).number (w2 := (wr.alloc (.cells #[.int .u64 (x.off : Nat), .int .u32 (x.type : Nat), .int .i64 x.sym, .int .i64 x.add] 141)).alloc (.cells #[.int .u64 (x.off : Nat)] 23)) ((zJ1 Hb2).alloc (by simp) _) (by omega) (kv := wr.heap.size + 1) (m := 1) (cv := 1) (s := 8) (sv := 8) (vs := [x.off]) (by omega) (zJ1 H1) rfl (by intro v hv; simp at hv; subst hv; exact ho1) rfl (by omega) (by omega) (by omega))
  have Hbx2 := zJ2 ((zJ1 Hbx).alloc (.cells #[.int .u64 (x.off : Nat)] 23))
  go_wp2_with fail
  refine (zJ1 KN1).mono ?_
  rintro e w3 ⟨rfl, A3, c3, hE3, hD3⟩
  have hkA : bk A1 ≠ some wr.heap.size := fun e => by have := ((zJ1 HE).m.lt _ e).2; omega
  have hbx3 := hD3.blk (zJ1 Hbx2) (by omega) hkA
  have z1 := hbx3.cell (i := 1) rfl
  have z2 := hbx3.cell (i := 2) rfl
  have hs3 := hD3.size
  have hs3' : wr.heap.size + 2 <= w3.heap.size := by have := hD3.size; simp at this; omega
  have HkA3 := zJ2 (show bk A3 ≠ some wr.heap.size from fun e => by
   rcases hD3.at_ _ e with h9 | h9
   ·exact hkA h9
   ·have h8 : wr.heap.size + 2 <= wr.heap.size := by simpa using h9
    omega)
  have Hbx3 := zJ2 hbx3
  have HE3 := zJ2 hE3
  have H2 := zJ2 (lit2 w3 (x.type : Nat) (IntKind.u64.wrap x.sym))
  have KN2 := zJ2 ((zJ1 HE3).number (w2 := w3.alloc (.cells #[.int .u64 (x.type : Nat), .int .u64 (IntKind.u64.wrap x.sym)] 23)) (zJ3 _ _) (by omega) (kv := w3.heap.size) (m := 2) (cv := 2) (s := 4) (sv := 4) (vs := [x.type, Mk.word x.sym]) (by omega) (zJ1 H2) (by rw [word_cast]; rfl) (by intro v hv; simp at hv; rcases hv with rfl | rfl; exact Nat.lt_trans ho2 (by omega); exact word_lt _) rfl (by omega) (by omega) (by omega))
  have Hbx4 := zJ2 ((zJ1 Hbx3).alloc (.cells #[.int .u64 (x.type : Nat), .int .u64 (IntKind.u64.wrap x.sym)] 23))
  clear hE3 hD3 hbx3 hs3 KN1 H1 Hbx2 HE Hbx Hb2
  go_wp2_with fail
  refine (zJ1 KN2).mono ?_
  rintro e w4 ⟨rfl, A4, c4, hE4, hD4⟩
  have hbx5 := hD4.blk (zJ1 Hbx4) (by omega) (zJ1 HkA3)
  have z3 := hbx5.cell (i := 3) rfl
  have hs4 := hD4.size
  have HE4 := zJ2 hE4
  have H3 := zJ2 (lit1 w4 (IntKind.u64.wrap x.add))
  have KN3 := zJ2 ((zJ1 HE4).number (w2 := w4.alloc (.cells #[.int .u64 (IntKind.u64.wrap x.add)] 23)) (zJ3 _ _) (by omega) (kv := w4.heap.size) (m := 1) (cv := 1) (s := 8) (sv := 8) (vs := [Mk.word x.add]) (by omega) (zJ1 H3) (by rw [word_cast]; rfl) (by intro v hv; simp at hv; subst hv; exact word_lt _) rfl (by omega) (by omega) (by omega))
  clear hE4 hD4 hbx5 hs4 KN2 H2 Hbx3 Hbx4 HE3 z1 z2
  go_wp2_with fail
  refine (zJ1 KN3).mono ?_
  rintro e w5 ⟨rfl, A5, c5, hE5, -⟩
  have HE5 := zJ2 hE5
  clear hE5 KN3 H3 HE4 z3
  go_wp2_with fail
  go_roundg (n - (j + 1))
  case measure => have := zJ1 Hgk; omega
  case rel => exact ⟨j + 1, A5, c5, rfl, by omega, by go_num, by
   have h9 := zJ1 HE5
   rw [relsB_next (zJ1 Hx), Nat.mul_succ]
   simpa [Mk.relB, Mk.lbs, List.append_assoc, Nat.add_assoc] using h9⟩
 ·obtain rfl : j = n := by omega
  have ige : ¬ (j : Int) < (j : Int) := by omega
  have y0 := (zJ1 HE).m.cell
  have hE := zJ1 HE
  rw [List.take_of_length_le (by rw [zJ1 Hl]; omega)] at hE
  have HE3 := zJ2 hE
  clear hE HE
  go_wp2_with fail
  go_ret
  exact ⟨A1, c1, rfl, (zJ1 HE3).m.row, (zJ1 Hb1).trans (zJ1 Hbw)⟩
open Go.RowKit
section
variable {t t2 : TypeId} {g o base g2 o2 base2 n1 c1 n2 c2 n3 c3 : Nat} {l l2 : List Value} {A A1 A2 A3 : Option Addr} {w w1 w2 w3 : World} {xs1 xs2 xs3 : List UInt8}
theorem FiM.aside (h : FiM w1 t g o l base A1 n1 c1 xs1) (E : FiE t2 g2 o2 l2 base2 A2 w1 w2 A3 n3 c3 xs3) (h1 : g ≠ g2) (h2 : bk A2 ≠ some g) (h3 : bk A1 ≠ some g2) (h4 : ∀ k, bk A1 = some k -> bk A2 ≠ some k) :
  FiM w2 t g o l base A1 n1 c1 xs1 /\ ∀ k, bk A1 = some k -> bk A3 ≠ some k := by
 obtain ⟨r1, r2⟩ := E.own h.row h3 h4
 exact ⟨⟨E.blk h.blk h1 h2, h.at_, r1, h.ne⟩, r2⟩
theorem FiE.aside (h : FiE t g o l base A w w1 A1 n1 c1 xs1) (E : FiE t2 g2 o2 l2 base2 A2 w1 w2 A3 n3 c3 xs3) (hg2 : w.heap.size <= g2) (hA2 : ∀ k, bk A2 = some k -> w.heap.size <= k) (h1 : g ≠ g2) (h2 : bk A2 ≠ some g) (h3 : bk A1 ≠ some g2) (h4 : ∀ k, bk A1 = some k -> bk A2 ≠ some k) :
  FiE t g o l base A w w2 A1 n1 c1 xs1 /\ ∀ k, bk A1 = some k -> bk A3 ≠ some k := by
 obtain ⟨m1, m2⟩ := h.m.aside E h1 h2 h3 h4
 refine ⟨⟨m1, E.os.trans h.os, E.tape.trans h.tape, E.output.trans h.output, Nat.le_trans h.size E.size, fun k hk e1 e2 => (E.block k (Nat.lt_of_lt_of_le hk h.size) (fun e => by omega) (fun e => by have := hA2 k e; omega)).trans (h.block k hk e1 e2), h.at_⟩, m2⟩
end
structure SyS (tt : TypeId) (gt ot bt gF : Nat) (lt : List Value) (A0 : Option Addr) (w wr : World) (ts fs : List UInt8) (L : Option (Nat × TypeId × List Value)) : Prop where
 tx : ∃ At nt ct Af cf, FiE tt gt ot lt bt A0 w wr At nt ct ts /\ FiM wr 71 gF 0 [.slice Af fs.length cf] w.heap.size Af fs.length cf fs /\ (∀ k, bk Af = some k -> bk At ≠ some k) /\ bk At ≠ some gF /\ (∀ p, L = some p -> Blk wr p.1 p.2.1 p.2.2 /\ p.1 ≠ gF /\ w.heap.size <= p.1 /\ bk At ≠ some p.1 /\ bk Af ≠ some p.1)
 hgF : w.heap.size <= gF
 hgt : gt < w.heap.size
 hbt : bt <= w.heap.size
section
variable {tt : TypeId} {gt ot bt gF : Nat} {lt : List Value} {A0 : Option Addr} {w wr w' : World} {ts fs : List UInt8} {L : Option (Nat × TypeId × List Value)}
theorem SyS.size (h : SyS tt gt ot bt gF lt A0 w wr ts fs L) : w.heap.size <= wr.heap.size := by
 obtain ⟨At, nt, ct, Af, cf, T, -⟩ := h.tx
 exact T.size
theorem SyS.calm (h : SyS tt gt ot bt gF lt A0 w wr ts fs L) (hb : Below wr.heap.size wr w') : SyS tt gt ot bt gF lt A0 w w' ts fs L := by
 obtain ⟨At, nt, ct, Af, cf, T, F, d1, d2, d3⟩ := h.tx
 exact ⟨⟨At, nt, ct, Af, cf, T.then_ hb, F.below hb, d1, d2, fun p hp => ⟨(d3 p hp).1.belowSz hb, (d3 p hp).2⟩⟩, h.hgF, h.hgt, h.hbt⟩
theorem SyS.drop (h : SyS tt gt ot bt gF lt A0 w wr ts fs L) : SyS tt gt ot bt gF lt A0 w wr ts fs none := by
 obtain ⟨At, nt, ct, Af, cf, T, F, d1, d2, d3⟩ := h.tx
 exact ⟨⟨At, nt, ct, Af, cf, T, F, d1, d2, fun p hp => by cases hp⟩, h.hgF, h.hgt, h.hbt⟩
theorem SyS.lay (h : SyS tt gt ot bt gF lt A0 w wr ts fs L) (t3 : TypeId) (l3 : List Value) : SyS tt gt ot bt gF lt A0 w (wr.alloc (.cells l3.toArray t3)) ts fs (some (wr.heap.size, t3, l3)) := by
 have hb : Below wr.heap.size wr (wr.alloc (.cells l3.toArray t3)) := zJ3 _ _
 obtain ⟨At, nt, ct, Af, cf, T, F, d1, d2, d3⟩ := h.tx
 refine ⟨⟨At, nt, ct, Af, cf, T.then_ hb, F.below hb, d1, d2, fun p hp => ?_⟩, h.hgF, h.hgt, h.hbt⟩
 injection hp with hp
 subst hp
 refine ⟨Blk.new wr t3 l3, fun e => ?_, T.size, fun e => ?_, fun e => ?_⟩
 ·have := F.blk.lt; simp at e; omega
 ·have := (T.m.lt _ e).2; simp at this
 ·have := (F.lt _ e).2; simp at this
theorem SyS.text {At : Option Addr} {nt ct : Nat} {s : ByteArray} {At' : Option Addr} {nt' ct' : Nat} {ts' : List UInt8} (h1 : ∃ Af cf, FiE tt gt ot lt bt A0 w wr At nt ct ts /\ FiM wr 71 gF 0 [.slice Af fs.length cf] w.heap.size Af fs.length cf fs /\ (∀ k, bk Af = some k -> bk At ≠ some k) /\ bk At ≠ some gF /\ (∀ p, L = some p -> Blk wr p.1 p.2.1 p.2.2 /\ p.1 ≠ gF /\ w.heap.size <= p.1 /\ bk At ≠ some p.1 /\ bk Af ≠ some p.1)) (hgF : w.heap.size <= gF) (hgt : gt < w.heap.size) (hbt : bt <= w.heap.size) (E : FiE tt gt ot (lt.set ot (.slice At nt ct)) bt At wr w' At' nt' ct' ts') : SyS tt gt ot bt gF lt A0 w w' ts' fs L := by
 obtain ⟨Af, cf, T, F, d1, d2, d3⟩ := h1
 obtain ⟨F', d1'⟩ := F.aside E (by omega) d2 (fun e => by have := (F.lt _ e).1; omega) d1
 have hF := F.blk.lt
 refine ⟨⟨At', nt', ct', Af, cf, T.trans E, F', d1', fun e => ?_, fun p hp => ?_⟩, hgF, hgt, hbt⟩
 ·rcases E.at_ _ e with h9 | h9
  ·exact d2 h9
  ·omega
 ·obtain ⟨q1, q2, q3, q4, q5⟩ := d3 p hp
  refine ⟨E.blk q1 (by omega) q4, q2, q3, fun e => ?_, q5⟩
  rcases E.at_ _ e with h9 | h9
  ·exact q4 h9
  ·have := q1.lt; omega
theorem SyS.callText (h : SyS tt gt ot bt gF lt A0 w wr ts fs L) (hts : ts.length <= 35184372088832) (s : ByteArray) (hs : s.size <= 4294967296) :
  Calls Tryz.prog 71 #[.pointer (some ⟨gt, ot, none⟩), .string s] wr fun e w' => e = .returned (.int .u64 (Mk.place ts s : Nat)) /\ SyS tt gt ot bt gF lt A0 w w' (Mk.put ts s) fs L := by
 obtain ⟨At, nt, ct, Af, cf, T, F, d⟩ := h.tx
 have hl := T.m.len
 refine (ptext_any tt gt ot _ bt At nt ct ts s wr T.m (Nat.le_trans h.hbt T.size) (by omega) hs).mono ?_
 rintro e w' ⟨A', n', c', rfl, E⟩
 exact ⟨rfl, SyS.text (s := s) ⟨Af, cf, T, F, d⟩ h.hgF h.hgt h.hbt E⟩
theorem SyS.callNumber (h : SyS tt gt ot bt gF lt A0 w wr ts fs L) {w2 : World} (hb : Below wr.heap.size wr w2) {kv m cv s : Nat} {sv : Int} {vs : List Nat} {us : List Value} (hkv : wr.heap.size <= kv) (hr : Rd w2 w2.heap.size 1 (some ⟨kv, 0, none⟩) m us) (hu : us = u64s vs) (hv : ∀ v ∈ vs, v < 18446744073709551616) (hsv : sv = (s : Nat)) (hs : s = 1 \/ s = 2 \/ s = 4 \/ s = 8) (hn : fs.length <= 17592186044416) (hm : m <= 1048576) :
  Calls Tryz.prog 72 #[.pointer (some ⟨gF, 0, none⟩), .int .i64 sv, .slice (some ⟨kv, 0, none⟩) m cv] w2 fun e w3 => e = .returned (.tuple #[]) /\ SyS tt gt ot bt gF lt A0 w w3 ts (fs ++ Mk.lbs s vs) L := by
 subst hsv hu
 obtain ⟨At, nt, ct, Af, cf, T, F, d1, d2, d3⟩ := h.tx
 have F2 := F.below hb
 have T2 := T.then_ hb
 have hlt := F.lt
 have hgl := F.blk.lt
 have hvl : vs.length = m := by have := hr.1; simp [u64s] at this; omega
 refine (zJp _ gF 0 _ w.heap.size Af fs.length cf fs kv 0 m cv s vs w2 F2 T2.size hr (by omega) (fun e => by have := (hlt kv e).2; omega) hv hs hn hm).mono ?_
 rintro e w3 ⟨rfl, A', c', E, -⟩
 have hnl : fs.length + s * m = (fs ++ Mk.lbs s vs).length := by rw [List.length_append, zJy, hvl]
 rw [hnl] at E
 obtain ⟨T3, d4⟩ := T2.aside E h.hgF (fun k hk => (hlt k hk).1) (by have := h.hgt; have := h.hgF; omega) (fun e => by have := (hlt _ e).1; have := h.hgt; omega) d2 (fun k h1 h2 => d1 k h2 h1)
 refine ⟨rfl, ⟨⟨At, nt, ct, A', c', T3, E.m, fun k h1 h2 => d4 k h2 h1, d2, fun p hp => ?_⟩, h.hgF, h.hgt, h.hbt⟩⟩
 obtain ⟨q1, q2, q3, q4, q5⟩ := d3 p hp
 refine ⟨E.blk (q1.belowSz hb) q2 q5, q2, q3, q4, fun e => ?_⟩
 rcases E.at_ _ e with h9 | h9
 ·exact q5 h9
 ·have := (q1.belowSz hb).lt; omega
end
open Go.RowKit
theorem SyS.bel {tt : TypeId} {gt ot bt gF B : Nat} {lt : List Value} {A0 : Option Addr} {w wr : World} {ts fs : List UInt8} {L : Option (Nat × TypeId × List Value)} (h : SyS tt gt ot bt gF lt A0 w wr ts fs L) (h1 : B <= gt) (h2 : ∀ k, bk A0 = some k -> B <= k) (h3 : B <= w.heap.size) : Below B w wr := by
 obtain ⟨At, nt, ct, Af, cf, T, -⟩ := h.tx
 exact T.below h1 h2 h3
theorem SyS.cell {tt : TypeId} {gt ot bt gF k i : Nat} {t3 : TypeId} {lt l3 : List Value} {A0 : Option Addr} {w wr : World} {ts fs : List UInt8} {v : Value} (h : SyS tt gt ot bt gF lt A0 w wr ts fs (some (k, t3, l3))) (hi : l3[i]? = some v) : wr.cell? ⟨k, i, none⟩ = some v := by
 obtain ⟨At, nt, ct, Af, cf, T, F, d1, d2, d3⟩ := h.tx
 exact (d3 _ rfl).1.cell hi
theorem SyS.bind {tt : TypeId} {gt ot bt gF : Nat} {lt : List Value} {A0 : Option Addr} {w wr : World} {ts ts' fs fs' : List UInt8} {L : Option (Nat × TypeId × List Value)} (h : SyS tt gt ot bt gF lt A0 w wr ts fs L) (h1 : ts = ts') (h2 : fs = fs') : SyS tt gt ot bt gF lt A0 w wr ts' fs' L := by subst h1 h2; exact h
set_option maxRecDepth 100000 in
set_option maxHeartbeats 16000000 in
theorem psymbols_any (tt : TypeId) (gt ot bt : Nat) (lt : List Value) (At : Option Addr) (nt ct : Nat) (ts : List UInt8) (A : Option Addr) (m c B : Nat) (l : List Dy.Sym) (w : World) (hB : B <= w.heap.size) (h : Rd w B 5 A m (symC l)) (hl : l.length = m) (h64 : m <= 64) (hsy : ∀ s ∈ l, SyOk s) (hnm : ∀ s ∈ l, s.name.size <= 4294967296)
  (hT : FiM w tt gt ot lt bt At nt ct ts) (hts : ts.length <= 1099511627776) (hbt : bt <= w.heap.size) (hBg : B <= gt) (hBb : B <= bt) :
  Calls Tryz.prog 73 #[.slice A m c, .func (.func 71) #[.pointer (some ⟨gt, ot, none⟩)] #[]] w fun e w' => ∃ A' c' At' nt' ct', e = .returned (.slice A' (24 * (m + 1)) c') /\ w'.ownsRow w.heap.size 5 1 (.slice A' (24 * (m + 1)) c') (24 * (m + 1)) (bys (Mk.symsB ts l)) /\ FiE tt gt ot lt bt At w w' At' nt' ct' (Mk.puts ts (Mk.names l)) /\ ∀ k, bk A' = some k -> bk At' ≠ some k := by
 obtain ⟨i, hi, hz0, hz1, hz2⟩ := info_parts yJw
 have Hi := zJ2 hi
 have Hz0 := zJ2 hz0
 have Hz1 := zJ2 hz1
 have Hz2 := zJ2 hz2
 have hgt := hT.blk.lt
 have hlt := hT.lt
 have H := zJ2 h
 have Hl := zJ2 hl
 have Hsy := zJ2 hsy
 have Hnm := zJ2 hnm
 have HT := zJ2 hT
 have Hlt := zJ2 hlt
 clear h hl hsy hnm hT hlt hi hz0 hz1 hz2
 go_enter Tryz.func73, Tryz.ntmps73
 go_wp2_with (at_make; refine wpList_make_full _ rfl _ _ 24 rfl w.heap.size 5 i (.int .u8 0) 1 Tryz.underlying24 (zJ1 Hi) (zJ1 Hz0) (zJ1 Hz1) _ _ _ _ 24 rfl rfl rfl rfl (by rw [zJ1 Hz2]; omega) (by unfold maxLen; omega) (Nat.le_refl _) ?_; intro w1 hown hgrow; rw [uJ7] at hown; have hb1 := (Below.refl w.heap.size w).grown hgrow (Nat.le_refl _) (fun k hk => by cases hk); have Hown := zJ2 hown; have Hb1 := zJ2 hb1; clear hown hgrow hb1)
 have hs1 := (zJ1 Hb1).size
 have hS0 : SyS tt gt ot bt w1.heap.size lt At w (w1.alloc (.cells #[.slice (some ⟨w.heap.size, 0, none⟩) 24 24] 71)) ts (Mk.zs 24) none := by
  have hb2 : Below w1.heap.size w1 (w1.alloc (.cells #[.slice (some ⟨w.heap.size, 0, none⟩) 24 24] 71)) := zJ3 _ _
  have hlt1 := zJ7 (zJ1 Hown)
  refine ⟨⟨At, nt, ct, some ⟨w.heap.size, 0, none⟩, 24, (FiE.refl (zJ1 HT)).then_ ((zJ1 Hb1).trans (hb2.mono hs1)), ⟨Blk.new w1 _ _, rfl, own_below (zJ1 Hown) hb2, fun e => ?_⟩, fun k h1 h2 => ?_, fun e => ?_, fun p hp => by cases hp⟩, hs1, hgt, hbt⟩
  ·have := (hlt1 _ e).2; omega
  ·have h3 := (hlt1 k h1).1
   have h4 := ((zJ1 Hlt) k h2).2
   omega
  ·have := ((zJ1 Hlt) _ e).2; omega
 have HS0 := zJ2 hS0
 generalize (w1.alloc (.cells #[.slice (some ⟨w.heap.size, 0, none⟩) 24 24] 71)) = W1 at *
 generalize w1.heap.size = gF at *
 clear hS0
 go_wp2_with fail
 go_loopg [14] m (fun gk iv wr => ∃ j : Nat, gk = m - j /\ j <= m /\ iv = .int .i64 j /\ SyS tt gt ot bt gF lt At w wr (Mk.puts ts (Mk.names (l.take j))) (Mk.zs 24 ++ Mk.symRows ts (l.take j)) none)
 case atStart => exact ⟨0, by omega, by omega, rfl, by simpa [Mk.puts, Mk.names, Mk.symRows] using zJ1 HS0⟩
 case round =>
 clear HS0 Hown Hb1
 obtain ⟨j, hgk, hj, rfl, hS⟩ := hrel
 have Hgk := zJ2 hgk
 have hsz := hS.size
 have hbB := hS.bel hBg (fun k hk => by have := ((zJ1 Hlt) k hk).1; omega) hB
 have HS := zJ2 hS
 have HbB := zJ2 hbB
 clear hgk hS hbB
 rcases Nat.lt_or_ge j m with hlt | hge
 ·obtain ⟨x, hx⟩ : ∃ x, l[j]? = some x := ⟨_, List.getElem?_eq_getElem (by rw [zJ1 Hl]; exact hlt)⟩
  have hxo := (zJ1 Hsy) x (List.mem_of_getElem? hx)
  have hxn := (zJ1 Hnm) x (List.mem_of_getElem? hx)
  have ho1 := hxo.value
  have ho2 := hxo.size
  have ho3 := hxo.bind
  obtain ⟨b1, o1, hA1, hb1, st0, st1, st2, st3, st4⟩ := xJq ((zJ1 H).below (zJ1 HbB)) hx
  have Hsx := zJ2 (symRows_next (t := ts) hx)
  have Hpx := zJ2 (puts_next (t := ts) hx)
  have htj : (Mk.puts ts (Mk.names (l.take j))).length <= 1374389534784 := by
   have h8 := puts_le (t := ts) (l := Mk.names (l.take j)) (fun s hs => by
    unfold Mk.names at hs
    obtain ⟨y, hy, rfl⟩ := List.mem_map.1 hs
    exact (zJ1 Hnm) y (List.mem_of_mem_take hy))
   have h9 : (Mk.names (l.take j)).length <= 64 := by unfold Mk.names; rw [List.length_map, List.length_take]; omega
   have h7 : (Mk.names (l.take j)).length * 4294967297 <= 64 * 4294967297 := Nat.mul_le_mul_right _ h9
   omega
  generalize Mk.puts ts (Mk.names (l.take j)) = tj at *
  have hfj : (Mk.zs 24 ++ Mk.symRows ts (l.take j)).length <= 1560 := by
   rw [List.length_append, yJj, xJz, List.length_take]
   omega
  obtain ⟨fj, hfe⟩ : ∃ fj, Mk.zs 24 ++ Mk.symRows ts (l.take j) = fj := ⟨_, rfl⟩
  have Hfe := zJ2 hfe
  rw [hfe] at hfj HS
  subst hA1
  have ilt : (j : Int) < (m : Int) := by omega
  have Hx := zJ2 hx
  have hSl := (zJ1 HS).lay 48 [.string x.name, .int .u64 (x.value : Nat), .int .u64 (x.size : Nat), .int .u8 (x.bind : Nat), .bool x.isdef]
  have HSl : Hid (SyS tt gt ot bt gF lt At w (wr.alloc (.cells #[.string x.name, .int .u64 (x.value : Nat), .int .u64 (x.size : Nat), .int .u8 (x.bind : Nat), .bool x.isdef] 48)) tj fj (some (wr.heap.size, 48, [.string x.name, .int .u64 (x.value : Nat), .int .u64 (x.size : Nat), .int .u8 (x.bind : Nat), .bool x.isdef]))) := zJ2 hSl
  have KT := zJ2 ((zJ1 HSl).callText (by omega) x.name hxn)
  clear hx hxo hb1 hfe hSl hxn HS
  go_wp2_with fail
  refine (zJ1 KT).mono ?_
  rintro e w5 ⟨rfl, hS5⟩
  have hpv : Mk.place tj x.name <= 1374389534784 := by unfold Mk.place; split <;> omega
  obtain ⟨pv, hpe⟩ : ∃ pv, Mk.place tj x.name = pv := ⟨_, rfl⟩
  have Hpe := zJ2 hpe
  rw [hpe] at hpv ⊢
  have H1 := zJ2 (lit1 w5 (pv : Nat))
  have KN1 := zJ2 (hS5.callNumber (w2 := w5.alloc (.cells #[.int .u64 (pv : Nat)] 23)) (zJ3 _ _) (kv := w5.heap.size) (m := 1) (cv := 1) (s := 4) (sv := 4) (vs := [pv]) (Nat.le_refl _) (zJ1 H1) rfl (by intro v hv; simp at hv; subst hv; omega) rfl (by omega) (by omega) (by omega))
  clear hS5 KT hpe HSl
  go_wp2_with fail
  refine (zJ1 KN1).mono ?_
  rintro e w6 ⟨rfl, hS6⟩
  have z3 := hS6.cell (i := 3) rfl
  have HS6 := zJ2 hS6
  clear hS6 KN1 H1
  have hf6 : (fj ++ Mk.lbs 4 [pv]).length <= 1700 := by rw [List.length_append, zJy]; simp; omega
  go_wp2_with fail
  have H2 := zJ2 (lit2 w6 ((x.bind : Nat) * 16) 0)
  have KN2 := zJ2 ((zJ1 HS6).callNumber (w2 := w6.alloc (.cells #[.int .u64 ((x.bind : Nat) * 16), .int .u64 0] 23)) (zJ3 _ _) (kv := w6.heap.size) (m := 2) (cv := 2) (s := 1) (sv := 1) (vs := [x.bind * 16, 0]) (Nat.le_refl _) (zJ1 H2) rfl (by intro v hv; simp at hv; omega) rfl (by omega) (by omega) (by omega))
  refine (zJ1 KN2).mono ?_
  rintro e w7 ⟨rfl, hS7⟩
  have z4 := hS7.cell (i := 4) rfl
  have HS7 := zJ2 hS7
  clear hS7 KN2 H2 HS6 z3
  have hf7 : (fj ++ Mk.lbs 4 [pv] ++ Mk.lbs 1 [x.bind * 16, 0]).length <= 1800 := by rw [List.length_append, zJy]; simp at hf6 ⊢; omega
  obtain ⟨df, hdf⟩ : ∃ df, x.isdef = df := ⟨_, rfl⟩
  rw [hdf] at z4
  cases df
  case false =>
   have HdF := zJ2 hdf
   clear hdf
   have H3 := zJ2 (lit1 w7 0)
   have KN3 := zJ2 ((zJ1 HS7).callNumber (w2 := w7.alloc (.cells #[.int .u64 0] 23)) (zJ3 _ _) (kv := w7.heap.size) (m := 1) (cv := 1) (s := 2) (sv := 2) (vs := [0]) (Nat.le_refl _) (zJ1 H3) rfl (by intro v hv; simp at hv; omega) rfl (by omega) (by omega) (by omega))
   go_wp2_with fail
   refine (zJ1 KN3).mono ?_
   rintro e w8 ⟨rfl, hS8⟩
   have z1 := hS8.cell (i := 1) rfl
   have z2 := hS8.cell (i := 2) rfl
   have hf8 : (fj ++ Mk.lbs 4 [pv] ++ Mk.lbs 1 [x.bind * 16, 0] ++ Mk.lbs 2 [0]).length <= 1900 := by rw [List.length_append, zJy]; simp at hf7 ⊢; omega
   have H4 := zJ2 (lit2 w8 (x.value : Nat) (x.size : Nat))
   have KN4 := zJ2 (hS8.callNumber (w2 := w8.alloc (.cells #[.int .u64 (x.value : Nat), .int .u64 (x.size : Nat)] 23)) (zJ3 _ _) (kv := w8.heap.size) (m := 2) (cv := 2) (s := 8) (sv := 8) (vs := [x.value, x.size]) (Nat.le_refl _) (zJ1 H4) rfl (by intro v hv; simp at hv; rcases hv with rfl | rfl <;> assumption) rfl (by omega) (by omega) (by omega))
   clear hS8 KN3 H3 HS7 z4
   go_wp2_with fail
   refine (zJ1 KN4).mono ?_
   rintro e w9 ⟨rfl, hS9⟩
   have HS9 := zJ2 hS9
   clear hS9 KN4 H4 z1 z2
   go_wp2_with fail
   go_roundg (m - (j + 1))
   case measure => have := zJ1 Hgk; omega
   case rel => exact ⟨j + 1, rfl, by omega, by go_num, (zJ1 HS9).drop.bind (zJ1 Hpx).symm (by rw [zJ1 Hsx, <- List.append_assoc, zJ1 Hfe, zJ1 Hpe]; simp [Mk.symB, Mk.lbs, List.append_assoc, zJ1 HdF])⟩
  case true =>
   have HdF := zJ2 hdf
   clear hdf
   have H3 := zJ2 (lit1 w7 1)
   have KN3 := zJ2 ((zJ1 HS7).callNumber (w2 := w7.alloc (.cells #[.int .u64 1] 23)) (zJ3 _ _) (kv := w7.heap.size) (m := 1) (cv := 1) (s := 2) (sv := 2) (vs := [1]) (Nat.le_refl _) (zJ1 H3) rfl (by intro v hv; simp at hv; omega) rfl (by omega) (by omega) (by omega))
   go_wp2_with fail
   refine (zJ1 KN3).mono ?_
   rintro e w8 ⟨rfl, hS8⟩
   have z1 := hS8.cell (i := 1) rfl
   have z2 := hS8.cell (i := 2) rfl
   have hf8 : (fj ++ Mk.lbs 4 [pv] ++ Mk.lbs 1 [x.bind * 16, 0] ++ Mk.lbs 2 [1]).length <= 1900 := by rw [List.length_append, zJy]; simp at hf7 ⊢; omega
   have H4 := zJ2 (lit2 w8 (x.value : Nat) (x.size : Nat))
   have KN4 := zJ2 (hS8.callNumber (w2 := w8.alloc (.cells #[.int .u64 (x.value : Nat), .int .u64 (x.size : Nat)] 23)) (zJ3 _ _) (kv := w8.heap.size) (m := 2) (cv := 2) (s := 8) (sv := 8) (vs := [x.value, x.size]) (Nat.le_refl _) (zJ1 H4) rfl (by intro v hv; simp at hv; rcases hv with rfl | rfl <;> assumption) rfl (by omega) (by omega) (by omega))
   clear hS8 KN3 H3 HS7 z4
   go_wp2_with fail
   refine (zJ1 KN4).mono ?_
   rintro e w9 ⟨rfl, hS9⟩
   have HS9 := zJ2 hS9
   clear hS9 KN4 H4 z1 z2
   go_wp2_with fail
   go_roundg (m - (j + 1))
   case measure => have := zJ1 Hgk; omega
   case rel => exact ⟨j + 1, rfl, by omega, by go_num, (zJ1 HS9).drop.bind (zJ1 Hpx).symm (by rw [zJ1 Hsx, <- List.append_assoc, zJ1 Hfe, zJ1 Hpe]; simp [Mk.symB, Mk.lbs, List.append_assoc, zJ1 HdF])⟩
 ·obtain rfl : j = m := by omega
  have ige : ¬ (j : Int) < (j : Int) := by omega
  have hS := zJ1 HS
  rw [List.take_of_length_le (by rw [zJ1 Hl]; omega)] at hS
  obtain ⟨At', nt', ct', Af, cf, T, F, d1, d2, -⟩ := hS.tx
  have y0 := F.cell
  have hfl : (Mk.zs 24 ++ Mk.symRows ts l).length = 24 * (j + 1) := by rw [List.length_append, yJj, xJz, zJ1 Hl]; omega
  rw [hfl] at y0 F
  have HF := zJ2 F
  have HT2 := zJ2 T
  have Hd1 := zJ2 d1
  clear HS hS T F d1 d2 hfl
  go_wp2_with fail
  go_ret
  exact ⟨Af, cf, rfl, (zJ1 HF).row, At', ⟨nt', ct', zJ1 HT2⟩, zJ1 Hd1⟩
end Go.Proofs.YtnbecdahfgkffaaGreat
