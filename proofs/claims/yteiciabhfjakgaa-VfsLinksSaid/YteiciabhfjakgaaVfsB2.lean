/- A file system that gets one node more: put together behind the walk's last store. No conditions beyond those named. What an argument that is a slice of bytes, of integers or of strings reads as: a list, cell by cell. No conditions. One entry more: the walk of add. Conditions: as it says. What an argument that is a struct, or a slice of structs, reads as, where each field is one cell. No conditions. Free of any chapter. A file system of entries: the walk of New. Conditions: as it says. The bytes of a file: the walk of Read. Conditions: as it says. The plain file system: the names from the root on. No conditions. slices.Reverse of a row of texts of the call's own; strings.Join of texts. Conditions: as each says. A node's path: the walk of Path. Conditions: as it says. small: are credentials and a path within what a statement goes through? No conditions. string(b) of bytes that are read; parts of what is read. No conditions. The anchor of the chapter's laws: the walk of works. No conditions. What the arguments of the chapter's laws read as: credentials, a way, two numbers, entries. No conditions. The walk of hostelref00.CopyBytes (as Elf8, for any chapter). Conditions: there are fewer than 2^32 bytes. Copies of credentials and of entries; how great entries are. Conditions: as each says. One more law for append: the new element's block spelt by a number that is the heap's size. No conditions. Entries copied into memory of their own: the walk of CopyEntries. Conditions: as it says. The plain file system: who is not refused goes where Euid 0 goes. No conditions. VfsRights: the law's walk. Conditions: those of the arguments. The plain laws of paths over lists of bytes: what the statements of stage 2 ask of pieces, parts, joins, bases and directories. No program in sight. No conditions. The plain file system: a node's path is a path again, and leads to it. No conditions. The plain file system: what New makes of entries; where a node's own path leads; where links lead. No conditions. The plain file system: where links lead. No conditions. VfsLinks: the law's walk. Conditions: those of the arguments. Printed by gen_law06c.py. -/
import Derived.Test.YteiciabhfjakgaaVfsB1
import Derived.ChangeSlices
import Derived.SliceStrings
import Derived.OpenShut
import Derived.StillTailTactics
import Derived.Deep.Slices
import Derived.Lib.SmallJoins
import Derived.Deep.LoopGhost
import Derived.Lib.Join
import Derived.Test.YteiciabhfjakgaaShelf
import Derived.Laws.IdiomCopy
import Derived.Lib.RowBridge
import Derived.Laws.BytesArg
import Derived.Laws.IdiomStrings
import Derived.Laws.IdiomArrays
import Derived.Laws.Rows
namespace Go.Proofs.Yteiciabhfjakgaa
set_option linter.unusedVariables false
set_option linter.unusedSimpArgs false
open Go.RowKit
theorem own_keepB' {W W' : World} {base n : Nat} {e : TypeId} {u : Value} {xs : List Value} (h : W.ownsRow base e 1 u n xs) (hk : ∀ g, u.ownBlock = some g → W'.heap[g]? = W.heap[g]?) : W'.ownsRow base e 1 u n xs :=
  ⟨h.1, h.2.imp id fun ⟨g, cap, cur, e1, e2, e3, r⟩ => ⟨g, cap, cur, e1, e2, (hk g (by rw [e1]; rfl)).trans e3, r⟩⟩
section
variable {w1 V V2 V3 : World} {lo f c : Nat} {A : Option Addr} {F : List Vf.Nd} {L : List Pl}
theorem FsM.fOwn (h : FsM w1 lo f A c F L) : (Value.slice A F.length c).ownBlock ≠ some f := by
  intro e
  obtain ⟨cs, h1⟩ := row_blk h.row e
  have h2 := h.fs
  unfold Blk at h2
  rw [h1] at h2
  injection h2 with h2
  injection h2 with _ h3
  exact absurd h3 (by decide)
theorem FsM.fMap (h : FsM w1 lo f A c F L) {g : Nat} {m : List (Value × Value)} (hm : MapG w1 g .string m) : f ≠ g := by
  rintro rfl
  obtain ⟨es, clk, h1, _⟩ := hm.there
  have h2 := h.fs
  unfold Blk at h2
  rw [h1] at h2
  cases h2
theorem FsM.ownMap (h : FsM w1 lo f A c F L) {g : Nat} {m : List (Value × Value)} (hm : MapG w1 g .string m) : (Value.slice A F.length c).ownBlock ≠ some g := by
  intro e
  obtain ⟨cs, h1⟩ := row_blk h.row e
  obtain ⟨es, clk, h2, _⟩ := hm.there
  rw [h1] at h2
  cases h2
/-- f's block stands behind the map's update, and behind the append. -/
theorem FsM.addF (h : FsM w1 lo f A c F L) {xu : Vf.Nd} {pu : Pl} {up : Nat} (hxu : F[up]? = some xu) (hpu : L[up]? = some pu) (hku : xu.m.kind = 2) (hb : Below w1.heap.size w1 V) (hg2 : V.grownBy V2 (some pu.g)) :
    Blk V2 f 104 [.slice A F.length c] ∧ V2.ownsRow lo 68 1 (.slice A F.length c) F.length ((F.zip L).map fun y => ndV y.1 y.2) ∧ w1.heap.size ≤ V2.heap.size ∧ ∀ V3 : World, V2.grownBy V3 (Value.slice A F.length c).ownBlock → Blk V3 f 104 [.slice A F.length c] := by
  have hm := (h.map up xu pu hxu hpu hku).2
  have hkp : ∀ k, k < w1.heap.size → k ≠ pu.g → V2.heap[k]? = w1.heap[k]? := fun k hk hne => (hg2.block k (Nat.lt_of_lt_of_le hk hb.size) (fun e => hne (by injection e))).trans (hb.block k hk)
  have h2 : Blk V2 f 104 [.slice A F.length c] := (hkp f h.fs.lt (h.fMap hm)).trans h.fs
  refine ⟨h2, ?_, Nat.le_trans hb.size hg2.size, fun V3 hg3 => (hg3.block f h2.lt (fun e => h.fOwn e.symm)).trans h2⟩
  refine own_keepB' h.row (fun g hg => hkp g (h.row.lt g hg).2 ?_)
  rintro rfl
  exact h.ownMap hm hg
theorem FsM.addFin (h : FsM w1 lo f A c F L) (hF : Vf.Good F) (x : Vf.Nd) (p : Pl) (xu : Vf.Nd) (pu : Pl) (hxu : F[x.up]? = some xu) (hpu : L[x.up]? = some pu) (hku : xu.m.kind = 2) (hlo : lo ≤ w1.heap.size)
    (hb : Below w1.heap.size w1 V) (hm2 : MapG V2 pu.g .string (kidsM F L x.up ++ [(.string x.name, ndV x p)])) (hg2 : V.grownBy V2 (some pu.g)) (A' : Option Addr) (c' : Nat)
    (ho3 : V3.ownsRow lo 68 1 (.slice A' (F.length + 1) c') (F.length + 1) ((F.zip L).map (fun y => ndV y.1 y.2) ++ [ndV x p])) (hg3 : V2.grownBy V3 (Value.slice A F.length c).ownBlock)
    (hq : w1.heap.size ≤ p.q) (hnd : Blk V p.q (blkT x.m.kind) (ndC x F.length pu.q p))
    (hby : x.m.kind = 1 → p.n = x.data.length ∧ p.n ≤ p.c ∧ RdI V w1.heap.size 5 1 p.A p.n (x.data.map fun b => Value.int .u8 (b.toNat : Nat)))
    (hdm : x.m.kind = 2 → w1.heap.size ≤ p.g ∧ MapG V p.g .string []) :
    FsM (V3.setCell ⟨f, 0, none⟩ (.slice A' (F.length + 1) c')) lo f A' c' (F ++ [x]) (L ++ [p]) ∧ Below lo w1 (V3.setCell ⟨f, 0, none⟩ (.slice A' (F.length + 1) c')) := by
  have hm := (h.map x.up xu pu hxu hpu hku).2
  obtain ⟨hf2, hr2, hs2, hf3'⟩ := h.addF hxu hpu hku hb hg2
  have hf3 := hf3' V3 hg3
  have hgl := hm.lt
  have hfl := h.fs.lt
  have hol : ∀ k, (Value.slice A F.length c).ownBlock = some k → lo ≤ k ∧ k < w1.heap.size := fun k hk => h.row.lt k hk
  have hset : ∀ k, k ≠ f → (V3.setCell ⟨f, 0, none⟩ (.slice A' (F.length + 1) c')).heap[k]? = V3.heap[k]? := fun k hk => heap_setCell_other _ _ _ _ hk
  have hV : ∀ k, k < V.heap.size → k ≠ f → k ≠ pu.g → (Value.slice A F.length c).ownBlock ≠ some k → (V3.setCell ⟨f, 0, none⟩ (.slice A' (F.length + 1) c')).heap[k]? = V.heap[k]? := fun k hk h1 h2 h3 =>
    (hset k h1).trans ((hg3.block k (Nat.lt_of_lt_of_le hk hg2.size) (fun e => h3 e.symm)).trans (hg2.block k hk (fun e => h2 (by injection e))))
  have hVn : ∀ k, w1.heap.size ≤ k → k < V.heap.size → (V3.setCell ⟨f, 0, none⟩ (.slice A' (F.length + 1) c')).heap[k]? = V.heap[k]? := fun k hk hl =>
    hV k hl (by omega) (by omega) (fun e => by have := hol k e; omega)
  refine ⟨h.addNd hF x p xu pu hxu hpu hku A' c' ?_ ?_ ?_ ?_ ?_ ?_ ?_ ?_, ?_⟩
  · refine own_keepB' ho3 (fun g hg => hset g ?_)
    rintro rfl
    obtain ⟨cs, h1⟩ := row_blk ho3 hg
    unfold Blk at hf3
    rw [h1] at hf3
    injection hf3 with hf3
    injection hf3 with _ h3
    exact absurd h3 (by decide)
  · exact hf3.set 0 _
  · refine hm2.keep ((hset _ (fun e => h.fMap hm e.symm)).trans (hg3.block _ hm2.lt (fun e => h.ownMap hm e.symm)))
  · intro k h1 h2 h3 h4 h5
    exact (hV k (Nat.lt_of_lt_of_le h2 hb.size) h3 h4 h5).trans (hb.block k h2)
  · exact Nat.le_trans hlo hq
  · exact (hVn _ hq hnd.lt).trans hnd
  · intro h1
    obtain ⟨a, b, d1, d2⟩ := hby h1
    refine ⟨a, b, d1, d2.imp id fun ⟨bb, off, cs, fz, e, h4, h5, h6⟩ => ⟨bb, off, cs, fz, e, Nat.le_trans hlo h4, ?_, h6⟩⟩
    exact (hVn _ h4 (Array.getElem?_eq_some_iff.1 h5).1).trans h5
  · intro h1
    obtain ⟨a, b⟩ := hdm h1
    exact ⟨Nat.le_trans hlo a, a, b.keep (hVn _ a b.lt)⟩
  · have b1 : Below lo w1 V := hb.mono hlo
    have b2 : Below lo w1 V2 := b1.grown hg2 (Nat.le_trans hlo b1.size) (fun k hk => by injection hk with hk; rw [← hk]; exact (h.map x.up xu pu hxu hpu hku).1)
    have b3 : Below lo w1 V3 := b2.grown hg3 (Nat.le_trans hlo b2.size) (fun k hk => (hol k hk).1)
    exact b3.setCell h.lf _
end
end Go.Proofs.Yteiciabhfjakgaa
namespace Go.Proofs.Yteiciabhfjakgaa
set_option linter.unusedVariables false
set_option linter.unusedSimpArgs false
open Go.RowKit Go.ChangeShapes Go.WideShapes

theorem cell_lt {w : World} {a : Addr} {v : Value} (h : w.cell? a = some v) : a.block < w.heap.size := by
  unfold World.cell? at h
  split at h
  · rename_i hb
    exact (Array.getElem?_eq_some_iff.1 hb).1
  · cases h

section
variable {H : Type} {enc : TypeId × Value → H} {P : Program} {w : World} {base : Nat} {held : Bool} {t e : TypeId} {A : Option Addr} {n c : Nat} {d : DataW H} {p : List MemPlace}

theorem open_nums_rd {k : IntKind} (ht : P.underlying t = some (.slice e)) (he : P.underlying e = some (.int k)) (hc : P.cellsOf e = 1)
    (h : DataW.Trod enc P w base (fun _ => true) held t (.slice A n c) d p) :
    ∃ zs : List Int, Rd w w.heap.size 1 A n (zs.map (Value.int k)) ∧ n ≤ c ∧ c ≤ maxLen ∧ ∀ z ∈ zs, (Lit.int k z).wf = true := by
  obtain ⟨fuel, hf⟩ := h
  rcases open_ints ht he hc hf with ⟨h1, h2⟩ | ⟨a, len, cap, zs, h1, hb, hl, hm, hz, hx, hcell, hwz⟩
  · simp [Value.cells] at h1
    obtain ⟨rfl, rfl, rfl⟩ := h1
    exact ⟨[], Rd.none_ _ _ _ _, Nat.le_refl _, by unfold maxLen; omega, by simp⟩
  · simp [Value.cells] at h1
    obtain ⟨rfl, rfl, rfl⟩ := h1
    simp only [if_true] at hz
    refine ⟨zs.take n, ⟨by simp [hz]; omega, ?_⟩, hl, hm, fun z hz => hwz z (List.mem_of_mem_take hz)⟩
    by_cases h0 : n = 0
    · subst h0; exact .inl rfl
    · obtain ⟨b, off, rfl, hc2⟩ := ints_at hcell (by omega)
      have hblk := cell_lt (hc2 0 (by omega))
      refine .inr ⟨b, off, rfl, hblk, fun j u hu => ?_⟩
      simp only [List.getElem?_map, Option.map_eq_some_iff] at hu
      obtain ⟨z, hz1, rfl⟩ := hu
      have hj : j < n := by
        have := (List.getElem?_eq_some_iff.1 hz1).1
        simp at this
        omega
      rw [List.getElem?_take_of_lt hj] at hz1
      rw [hc2 j (by omega), List.getD_eq_getElem?_getD, hz1]
      rfl

theorem u8_of {z : Int} (h : (Lit.int .u8 z).wf = true) : ((UInt8.ofNat z.toNat).toNat : Int) = z := by
  have hb : 0 ≤ z ∧ z ≤ 255 := by
    simpa [Lit.wf, IntKind.min, IntKind.max, IntKind.signed, IntKind.bits] using h
  simp
  omega

theorem open_bytes_rd (ht : P.underlying t = some (.slice e)) (he : P.underlying e = some (.int .u8)) (hc : P.cellsOf e = 1)
    (h : DataW.Trod enc P w base (fun _ => true) held t (.slice A n c) d p) :
    ∃ b : List UInt8, Rd w w.heap.size 1 A n (b.map fun c => .int .u8 c.toNat) ∧ n ≤ c ∧ c ≤ maxLen := by
  obtain ⟨zs, h1, h2, h3, h4⟩ := open_nums_rd ht he hc h
  refine ⟨zs.map fun z => UInt8.ofNat z.toNat, ?_, h2, h3⟩
  have e1 : (zs.map fun z => UInt8.ofNat z.toNat).map (fun c : UInt8 => Value.int .u8 c.toNat) = zs.map (Value.int .u8) := by
    rw [List.map_map]
    refine List.map_congr_left fun z hz => ?_
    show Value.int .u8 ((UInt8.ofNat z.toNat).toNat : Int) = _
    rw [u8_of (h4 z hz)]
  rw [e1]
  exact h1

theorem open_ints_rd (ht : P.underlying t = some (.slice e)) (he : P.underlying e = some (.int .i64)) (hc : P.cellsOf e = 1)
    (h : DataW.Trod enc P w base (fun _ => true) held t (.slice A n c) d p) :
    ∃ zs : List Int, Rd w w.heap.size 1 A n (zs.map (Value.int .i64)) ∧ n ≤ c ∧ c ≤ maxLen ∧ ∀ z ∈ zs, -9223372036854775808 ≤ z ∧ z ≤ 9223372036854775807 := by
  obtain ⟨zs, h1, h2, h3, h4⟩ := open_nums_rd ht he hc h
  refine ⟨zs, h1, h2, h3, fun z hz => ?_⟩
  have := h4 z hz
  simpa [Lit.wf, IntKind.min, IntKind.max, IntKind.signed, IntKind.bits] using this

theorem open_strs_rd (ht : P.underlying t = some (.slice e)) (he : P.underlying e = some .string) (hc : P.cellsOf e = 1)
    (h : DataW.Trod enc P w base (fun _ => true) held t (.slice A n c) d p) :
    ∃ ss : List ByteArray, Rd w w.heap.size 1 A n (ss.map Value.string) ∧ n ≤ c ∧ c ≤ maxLen ∧ ∀ s ∈ ss, s.size ≤ maxLen := by
  obtain ⟨fuel, hf⟩ := h
  rcases open_strings ht he hc hf with ⟨h1, h2⟩ | ⟨a, len, cap, zs, h1, hb, hl, hm, hz, hx, hcell, hwz⟩
  · simp [Value.cells] at h1
    obtain ⟨rfl, rfl, rfl⟩ := h1
    exact ⟨[], Rd.none_ _ _ _ _, Nat.le_refl _, by unfold maxLen; omega, by simp⟩
  · simp [Value.cells] at h1
    obtain ⟨rfl, rfl, rfl⟩ := h1
    simp only [if_true] at hz
    refine ⟨zs.take n, ⟨by simp [hz]; omega, ?_⟩, hl, hm, fun z hz => hwz z (List.mem_of_mem_take hz)⟩
    by_cases h0 : n = 0
    · subst h0; exact .inl rfl
    · obtain ⟨b, off, spot⟩ := a
      have hs : spot = none := by simpa [Addr.add] using World.cell?_spot (hcell 0 (by omega))
      subst hs
      have hc2 : ∀ i, i < zs.length → w.cell? ⟨b, off + i, none⟩ = some (.string (zs.getD i ByteArray.empty)) := fun j hj => by
        rw [← Go.WideShapes.add_plain]; exact hcell j hj
      have hblk := cell_lt (hc2 0 (by omega))
      refine .inr ⟨b, off, rfl, hblk, fun j u hu => ?_⟩
      simp only [List.getElem?_map, Option.map_eq_some_iff] at hu
      obtain ⟨z, hz1, rfl⟩ := hu
      have hj : j < n := by
        have := (List.getElem?_eq_some_iff.1 hz1).1
        simp at this
        omega
      rw [List.getElem?_take_of_lt hj] at hz1
      rw [hc2 j (by omega), List.getD_eq_getElem?_getD, hz1]
      rfl
end
end Go.Proofs.Yteiciabhfjakgaa
namespace Go.Proofs.Yteiciabhfjakgaa
set_option linter.unusedVariables false
set_option linter.unusedSimpArgs false
open Go.RowKit

theorem nodeTy : SlTy Try.prog 102 68 1 16 := slTy_mk (z := .nilIface) Try.underlying102 (by kernel_rfl) rfl (by omega) (by omega)
/-- What add answers; where it is none, the file system has one node more. -/
def AddE (F : List Vf.Nd) (L : List Pl) (lo f : Nat) (x : Vf.Ent) (w : World) (e : Ending) (w' : World) : Prop :=
  e = .returned (.int .i64 (Vf.add F x).1) ∧ ((Vf.add F x).1 = 0 → ∃ L' A' c', FsM w' lo f A' c' (Vf.add F x).2 L') ∧ Below lo w w'
theorem addE_no {F : List Vf.Nd} {L : List Pl} {lo f : Nat} {x : Vf.Ent} {w w' : World} {er : Int} (h : (Vf.add F x).1 = er) (h0 : er ≠ 0) (hb : Below lo w w') : AddE F L lo f x w (.returned (.int .i64 er)) w' := by
  unfold AddE
  rw [h]
  exact ⟨rfl, fun h1 => absurd h1 h0, hb⟩
theorem atV_ne {w : World} {lo f c : Nat} {A : Option Addr} {F : List Vf.Nd} {L : List Pl} (hF : Vf.Good F) (h : FsM w lo f A c F L) {l : List ByteArray} {i : Nat} (hi : Vf.at_ F 0 l = some i) : ∃ x p, F[i]? = some x ∧ L[i]? = some p ∧ atV F L (Vf.at_ F 0 l) = .iface (kindT x.m.kind) (.pointer (some ⟨p.q, 0, none⟩)) := by
  have hl := Vf.at_lt hF l 0 i (Vf.good_pos hF) hi
  obtain ⟨x, hx⟩ : ∃ x, F[i]? = some x := ⟨_, List.getElem?_eq_getElem hl⟩
  obtain ⟨p, hp, _, _⟩ := h.at_ hx
  exact ⟨x, p, hx, hp, by rw [hi]; exact h.ndA_eq hx hp⟩

set_option maxRecDepth 100000 in
set_option maxHeartbeats 4000000 in
theorem add_any (F : List Vf.Nd) (L : List Pl) (lo f c : Nat) (A Ax : Option Addr) (n cx : Nat) (x : Vf.Ent) (w : World) (hF : Vf.Good F) (h : FsM w lo f A c F L) (hlo : lo ≤ w.heap.size) (hn : F.length ≤ 64)
    (hd : Rd w w.heap.size 1 Ax n (bys x.data)) (hnn : n ≤ 4294967296) (hps : x.path.size ≤ 4294967296) (hto : x.to.size ≤ 4294967296) (hmd : x.mode < 65536) :
    Calls Try.prog 46 #[ptrV f, entV x Ax n cx] w (AddE F L lo f x w) := by
  have hdl : x.data.length = n := by simpa [bys] using hd.len1
  have hb0 : Below w.heap.size w (w.alloc (.cells (entC x Ax n cx).toArray 60)) := (Below.refl _ _).alloc (Nat.le_refl _) _
  have hbk : Blk (w.alloc (.cells (entC x Ax n cx).toArray 60)) w.heap.size 60 (entC x Ax n cx) := Blk.new w 60 _
  have KP := hide (partsV_any x Ax n cx (w.alloc (.cells (entC x Ax n cx).toArray 60)) hdl hnn hps hto hmd)
  have KAt : ∀ w', Below w.heap.size w w' → ∀ (A' : Option Addr) (n' c' : Nat) (l : List ByteArray), Rd w' w'.heap.size 1 A' n' (l.map Value.string) → n' ≤ 4294967296 → Calls Try.prog 63 #[.pointer (some ⟨f, 0, none⟩), .slice A' n' c'] w' fun e w2 => e = .returned (atV F L (Vf.at_ F 0 l)) ∧ w' = w2 :=
    fun w' hb A' n' c' l hl hn' => at_any F L lo f c A A' n' c' _ l w' hF (h.belowSz hb) (by omega) hl hn'
  have qn : ∀ w', (binOp .eql 68 .nilIface .nilIface).run Try.prog w' = .ok (.bool true) w' := fun w' => by kernel_rfl
  have qi : ∀ w' t v, (binOp .eql 68 (.iface t v) .nilIface).run Try.prog w' = .ok (.bool false) w' := fun w' t v => by kernel_rfl
  have qn2 : ∀ w', (binOp .neq 68 .nilIface .nilIface).run Try.prog w' = .ok (.bool false) w' := fun w' => by kernel_rfl
  have qi2 : ∀ w' t v, (binOp .neq 68 (.iface t v) .nilIface).run Try.prog w' = .ok (.bool true) w' := fun w' t v => by kernel_rfl
  have HF := hide hF
  have H := hide h
  have HKAt := hide KAt
  have Hb0 := hide hb0
  have Hbk := hide hbk
  have Hd := hide hd
  have Hdl := hide hdl
  unfold entV at KP ⊢
  unfold ptrV
  clear hF h KAt hb0 hbk hd hdl hps hto
  unfold entC at KP
  go_enter Try.func46, Try.ntmps46
  go_wp2_with fail
  refine (unhide KP).mono ?_
  rintro e w1 ⟨A1, n1, c1, rfl, ho1, hb1⟩
  have Hbk1 := hide ((unhide Hbk).belowSz hb1)
  have Hb1 := hide ((unhide Hb0).trans (hb1.mono (by simp)))
  have Ho1 := hide ho1
  clear ho1 hb1 KP Hbk
  by_cases hm : Vf.may x = 0
  case neg =>
    have hr : (Vf.add F x).1 = Vf.may x := by unfold Vf.add; rw [if_pos hm]
    have Hr := hide hr
    have Hm := hide hm
    obtain ⟨me, hme⟩ : ∃ v, Vf.may x = v := ⟨_, rfl⟩
    rw [hme] at Hr Hm hm ⊢
    have q1 : (me != 0) = true := by simp [hm]
    have Hb := hide ((unhide Hb1).mono hlo)
    clear hr hm hme
    go_wp2_with fail
    go_ret
    exact addE_no (unhide Hr) (unhide Hm) (unhide Hb)
  obtain ⟨hn1, ho2⟩ := (unhide Ho1) hm
  obtain ⟨m1, m2, m3, m4, m5, m6, m7, m8, m9, m10, m11⟩ := Vf.may_ok hm
  have hpl := Vf.parts_len x.path
  have hadd : Vf.add F x = if (Vf.at_ F 0 (Pth.partsL x.path)).isSome then ((7 : Int), F) else match Vf.at_ F 0 (Pth.partsL x.path).dropLast with
    | none => ((3 : Int), F)
    | some up => if Vf.kindAt F up ≠ 2 then ((8 : Int), F) else ((0 : Int), F ++ [Vf.ndOf x up]) := by
    unfold Vf.add
    rw [if_neg (by simp [hm])]
    rfl
  rw [hm]
  have q1 : ((0 : Int) != 0) = false := rfl
  have hn0 : 0 < n1 := by rw [hn1]; exact List.length_pos_iff.2 m5
  have hr1 := Rd.of_own ho2
  have HKA := hide ((unhide HKAt) w1 (unhide Hb1) A1 n1 c1 (Pth.partsL x.path) hr1 (by omega))
  have hcp := own_cap ho2
  have rs := fun w' => run_to (P := Try.prog) Try.underlying85 (e := 9) (by kernel_rfl) A1 n1 c1 (n1 - 1) (by omega) w'
  have hdrop : ((Pth.partsL x.path).map Value.string).take (n1 - 1) = (Pth.partsL x.path).dropLast.map Value.string := by
    rw [hn1, List.dropLast_eq_take, List.map_take]
  have hr2 : Rd w1 w1.heap.size 1 A1 (n1 - 1) ((Pth.partsL x.path).dropLast.map Value.string) := by
    rw [← hdrop]
    exact hr1.to_ (by omega)
  have HKA2 := hide ((unhide HKAt) w1 (unhide Hb1) A1 (n1 - 1) c1 (Pth.partsL x.path).dropLast hr2 (by omega))
  obtain ⟨k1, hk1⟩ : ∃ k1, n1 - 1 = k1 := ⟨_, rfl⟩
  have ei : IntKind.i64.wrap ((n1 : Int) - 1) = (k1 : Int) := by rw [IntWalk.i64_in _ (by omega)]; omega
  have j1 : (k1 : Int) < (n1 : Int) := by omega
  rw [hk1] at rs HKA2
  have Hk1 := hide hk1
  clear hk1
  have Hadd := hide hadd
  have Hm := hide hm
  have Hr1 := hide hr1
  have Hn1 := hide hn1
  have Hm11 := hide m11
  have Hm5 := hide m5
  have hn1b : n1 ≤ 201 := by omega
  obtain ⟨pl, hple⟩ : ∃ l, Pth.partsL x.path = l := ⟨_, rfl⟩
  have Hple := hide hple
  clear ho2 m1 m2 m3 m4 m5 m6 m7 m8 m9 m10 m11 hpl hadd hm hr1 hcp hdrop hr2 Ho1 hn1 hple
  cases ha : Vf.at_ F 0 (Pth.partsL x.path) with
  | some i =>
    obtain ⟨xi, pi, _, _, ea⟩ := atV_ne (unhide HF) (unhide H) ha
    rw [ea] at HKA
    have hr : (Vf.add F x).1 = 7 := by rw [unhide Hadd, ha]; rfl
    have Hr := hide hr
    have Hb := hide ((unhide Hb1).mono hlo)
    clear hr ha ea
    go_wp2_with fail
    refine (unhide HKA).mono ?_
    rintro e w2 ⟨rfl, rfl⟩
    go_wp2_with fail
    go_ret
    exact addE_no (unhide Hr) (by decide) (unhide Hb)
  | none =>
    have hadd := unhide Hadd
    rw [ha] at hadd HKA
    simp only [Option.isSome_none, Bool.false_eq_true, if_false] at hadd
    have ea : atV F L none = .nilIface := rfl
    rw [ea] at HKA
    have Hat0 := hide ha
    clear ha ea Hadd
    go_wp2_with fail
    refine (unhide HKA).mono ?_
    rintro e w2 ⟨rfl, rfl⟩
    go_wp2_with fail
    refine (unhide HKA2).mono ?_
    rintro e w2 ⟨rfl, rfl⟩
    cases hu : Vf.at_ F 0 (Pth.partsL x.path).dropLast with
    | none =>
      have ea : atV F L none = .nilIface := rfl
      rw [ea]
      rw [hu] at hadd
      have hr : (Vf.add F x).1 = 3 := by rw [hadd]
      have Hr := hide hr
      have Hb := hide ((unhide Hb1).mono hlo)
      clear hr hu ea hadd
      go_wp2_with fail
      go_ret
      exact addE_no (unhide Hr) (by decide) (unhide Hb)
    | some up =>
      obtain ⟨xu, pu, hxu, hpu, ea⟩ := atV_ne (unhide HF) (unhide H) hu
      rw [hu] at ea hadd
      rw [ea]
      simp only at hadd
      rw [Vf.kindAt_eq hxu] at hadd
      by_cases hk : xu.m.kind = 2
      case neg =>
        rw [if_pos hk] at hadd
        have hr : (Vf.add F x).1 = 8 := by rw [hadd]
        have Hr := hide hr
        have Hb := hide ((unhide Hb1).mono hlo)
        have ha1 := file_no_dir (.pointer (some ⟨pu.q, 0, none⟩))
        have ha2 := link_no_dir (.pointer (some ⟨pu.q, 0, none⟩))
        have et : kindT xu.m.kind = 80 ∨ kindT xu.m.kind = 121 := by
          rcases kind3 (unhide HF) hxu with h1 | h1 | h1
          · exact .inl (by rw [h1]; rfl)
          · exact absurd h1 hk
          · exact .inr (by rw [h1]; rfl)
        clear hr hadd hxu hpu ea hu hk
        rcases et with et | et
        all_goals
          rw [et]
          clear et
          go_wp2_with fail
          go_ret
          exact addE_no (unhide Hr) (by decide) (unhide Hb)
      rw [if_neg (by simp [hk])] at hadd
      have et : kindT xu.m.kind = 70 := by rw [hk]; rfl
      rw [et]
      have ha1 := is_dir (.pointer (some ⟨pu.q, 0, none⟩))
      have Hadd := hide hadd
      have Hxu := hide hxu
      have Hpu := hide hpu
      have Hk := hide hk
      have Hu := hide hu
      have HW1 := hide ((unhide H).belowSz (unhide Hb1))
      have hfs1 := (unhide HW1).fs
      obtain ⟨flen, hfl⟩ : ∃ n, F.length = n := ⟨_, rfl⟩
      have Hfl := hide hfl
      rw [hfl] at hfs1 hn
      have hbk1 := unhide Hbk1
      obtain ⟨nm, hnm⟩ : ∃ nm, Vf.lastOf (Pth.partsL x.path) = nm := ⟨_, rfl⟩
      have hlast : ((Pth.partsL x.path).map Value.string)[k1]? = some (.string nm) := by
        rw [← unhide Hk1, unhide Hn1, ← List.length_map (f := Value.string), ← List.getLast?_eq_getElem?, List.getLast?_map, ← hnm]
        unfold Vf.lastOf
        rw [List.getLast?_eq_some_getLast (unhide Hm5)]
        rfl
      obtain ⟨b3, o3, hA1, _, c3⟩ := (unhide Hr1).at_ (k := k1) hlast
      subst hA1
      have Hnm := hide hnm
      have hcn : Vf.child F up nm = none := by
        have h1 := unhide Hat0
        rw [Vf.lastOf_app (unhide Hm5), Vf.at_app, hu, hnm] at h1
        cases hq : Vf.child F up nm with
        | none => rfl
        | some j => simp [Vf.at_, hq] at h1
      have HSK : ∀ w', Below w1.heap.size w1 w' → (Below w1.heap.size w1 w' ∧ w'.cell? ⟨w.heap.size, 1, none⟩ = some (.int .u8 (x.kind : Nat)) ∧ w'.cell? ⟨w.heap.size, 2, none⟩ = some (.int .u16 (x.mode : Nat)) ∧ w'.cell? ⟨w.heap.size, 3, none⟩ = some (.int .u32 (x.uid : Nat)) ∧ w'.cell? ⟨w.heap.size, 4, none⟩ = some (.int .u32 (x.gid : Nat)) ∧ w'.cell? ⟨w.heap.size, 5, none⟩ = some (.slice Ax n cx) ∧ w'.cell? ⟨f, 0, none⟩ = some (.slice A flen c) ∧ w'.cell? ⟨b3, o3 + k1, none⟩ = some (.string nm)) := by
        intro w' hbw
        have h1 := hbk1.belowSz hbw
        have h2 := hfs1.belowSz hbw
        refine ⟨hbw, h1.cell rfl, h1.cell rfl, h1.cell rfl, h1.cell rfl, h1.cell rfl, h2.cell rfl, (hbw.cell (p := ⟨b3, o3 + k1, none⟩) (cell_lt c3)).trans c3⟩
      have v := HSK w1 (Below.refl _ _)
      obtain ⟨-, v1, v2, v3, v4, v5, v6, v7⟩ := v
      have HSK' := hide HSK
      have hbW : Below w1.heap.size w1 (w1.alloc (.cells #[.int .u8 (x.kind : Nat), .int .u16 (x.mode : Nat), .int .u32 (x.uid : Nat), .int .u32 (x.gid : Nat), .int .i64 (n : Nat), .int .i64 (flen : Nat), .pointer (some ⟨pu.q, 0, none⟩), .string nm] 72)).drew := below_drew' ((Below.refl _ _).alloc (Nat.le_refl _) _)
      have hBb : Blk (w1.alloc (.cells #[.int .u8 (x.kind : Nat), .int .u16 (x.mode : Nat), .int .u32 (x.uid : Nat), .int .u32 (x.gid : Nat), .int .i64 (n : Nat), .int .i64 (flen : Nat), .pointer (some ⟨pu.q, 0, none⟩), .string nm] 72)).drew w1.heap.size 72 [.int .u8 (x.kind : Nat), .int .u16 (x.mode : Nat), .int .u32 (x.uid : Nat), .int .u32 (x.gid : Nat), .int .i64 (n : Nat), .int .i64 (flen : Nat), .pointer (some ⟨pu.q, 0, none⟩), .string nm] := Blk.new w1 _ _
      have HbW := hide hbW
      have HBb := hide hBb
      clear hbW hBb
      clear hadd hxu hpu ea hu hk et HSK c3 hlast hnm hbk1 hfs1 hfl
      go_wp2_with fail
      go_region_held3 (fun w' => Below w1.heap.size w1 w' ∧ w'.cell? ⟨w.heap.size, 1, none⟩ = some (.int .u8 (x.kind : Nat)) ∧ w'.cell? ⟨w.heap.size, 2, none⟩ = some (.int .u16 (x.mode : Nat)) ∧ w'.cell? ⟨w.heap.size, 3, none⟩ = some (.int .u32 (x.uid : Nat)) ∧ w'.cell? ⟨w.heap.size, 4, none⟩ = some (.int .u32 (x.gid : Nat)) ∧ w'.cell? ⟨w.heap.size, 5, none⟩ = some (.slice Ax n cx) ∧ w'.cell? ⟨f, 0, none⟩ = some (.slice A flen c) ∧ w'.cell? ⟨b3, o3 + k1, none⟩ = some (.string nm)) (first | exact (unhide HSK') _ (below_drew' (Below.refl _ _)) | exact (unhide HSK') _ (below_drew' ((Below.refl _ _).alloc (Nat.le_refl _) _)) | exact (unhide HSK') _ (unhide HbW)) (fail)
      clear v1 v2 v3 v4 v5 v6 v7
      generalize (w1.alloc (.cells #[.int .u8 (x.kind : Nat), .int .u16 (x.mode : Nat), .int .u32 (x.uid : Nat), .int .u32 (x.gid : Nat), .int .i64 (n : Nat), .int .i64 (flen : Nat), .pointer (some ⟨pu.q, 0, none⟩), .string nm] 72)).drew = W at *
      obtain ⟨-, v1, v2, v3, v4, v5, v6, v7⟩ := (unhide HSK') W (unhide HbW)
      have hB2 := (unhide HBb)
      obtain ⟨y0, y1, y2, y3, y4, y5, y6, y7⟩ : W.cell? ⟨w1.heap.size, 0, none⟩ = some (.int .u8 (x.kind : Nat)) ∧ W.cell? ⟨w1.heap.size, 1, none⟩ = some (.int .u16 (x.mode : Nat)) ∧ W.cell? ⟨w1.heap.size, 2, none⟩ = some (.int .u32 (x.uid : Nat)) ∧ W.cell? ⟨w1.heap.size, 3, none⟩ = some (.int .u32 (x.gid : Nat)) ∧ W.cell? ⟨w1.heap.size, 4, none⟩ = some (.int .i64 (n : Nat)) ∧ W.cell? ⟨w1.heap.size, 5, none⟩ = some (.int .i64 (flen : Nat)) ∧ W.cell? ⟨w1.heap.size, 6, none⟩ = some (.pointer (some ⟨pu.q, 0, none⟩)) ∧ W.cell? ⟨w1.heap.size, 7, none⟩ = some (.string nm) := ⟨hB2.cell rfl, hB2.cell rfl, hB2.cell rfl, hB2.cell rfl, hB2.cell rfl, hB2.cell rfl, hB2.cell rfl, hB2.cell rfl⟩
      clear hB2
      have hmm := @run_makeMap Try.prog
      have hkind := (Vf.may_ok (unhide Hm)).1
      rcases (show x.kind = 1 ∨ x.kind = 2 ∨ x.kind = 3 by omega) with hk | hk | hk
      · have q2 : ((x.kind : Int) == 2) = false := by rw [hk]; rfl
        have q3 : ((x.kind : Int) == 1) = true := by rw [hk]; rfl
        have KC : ∀ w', Below W.heap.size W w' → Calls Try.prog 31 #[.slice Ax n cx] w' (CloneBE n x.data w') := fun w' hb =>
          cloneB_any Ax n cx w.heap.size x.data w' ((unhide Hd).below ((unhide Hb1).trans (((unhide HbW).mono (unhide Hb1).size).trans (hb.mono (Nat.le_trans (unhide Hb1).size (unhide HbW).size))))) (Nat.le_trans (Nat.le_trans (unhide Hb1).size (unhide HbW).size) hb.size) hnn
        have HSC : ∀ w', Below W.heap.size W w' → (Below W.heap.size W w' ∧ w'.cell? ⟨w1.heap.size, 0, none⟩ = some (.int .u8 (x.kind : Nat)) ∧ w'.cell? ⟨w1.heap.size, 1, none⟩ = some (.int .u16 (x.mode : Nat)) ∧ w'.cell? ⟨w1.heap.size, 2, none⟩ = some (.int .u32 (x.uid : Nat)) ∧ w'.cell? ⟨w1.heap.size, 3, none⟩ = some (.int .u32 (x.gid : Nat)) ∧ w'.cell? ⟨w1.heap.size, 4, none⟩ = some (.int .i64 (n : Nat)) ∧ w'.cell? ⟨w1.heap.size, 5, none⟩ = some (.int .i64 (flen : Nat)) ∧ w'.cell? ⟨w1.heap.size, 6, none⟩ = some (.pointer (some ⟨pu.q, 0, none⟩)) ∧ w'.cell? ⟨w1.heap.size, 7, none⟩ = some (.string nm) ∧ w'.cell? ⟨w.heap.size, 5, none⟩ = some (.slice Ax n cx)) := by
          intro w' hb
          have h1 := (unhide HBb).belowSz hb
          have h2 := (unhide HSK') w' ((unhide HbW).trans (hb.mono (unhide HbW).size))
          exact ⟨hb, h1.cell rfl, h1.cell rfl, h1.cell rfl, h1.cell rfl, h1.cell rfl, h1.cell rfl, h1.cell rfl, h1.cell rfl, h2.2.2.2.2.2.1⟩
        have Hkk := hide hk
        have HKC := hide KC
        have HSC' := hide HSC
        clear hk hkind KC HSC
        go_wp2_with fail
        go_region_held3 (fun w' => Below W.heap.size W w' ∧ w'.cell? ⟨w1.heap.size, 0, none⟩ = some (.int .u8 (x.kind : Nat)) ∧ w'.cell? ⟨w1.heap.size, 1, none⟩ = some (.int .u16 (x.mode : Nat)) ∧ w'.cell? ⟨w1.heap.size, 2, none⟩ = some (.int .u32 (x.uid : Nat)) ∧ w'.cell? ⟨w1.heap.size, 3, none⟩ = some (.int .u32 (x.gid : Nat)) ∧ w'.cell? ⟨w1.heap.size, 4, none⟩ = some (.int .i64 (n : Nat)) ∧ w'.cell? ⟨w1.heap.size, 5, none⟩ = some (.int .i64 (flen : Nat)) ∧ w'.cell? ⟨w1.heap.size, 6, none⟩ = some (.pointer (some ⟨pu.q, 0, none⟩)) ∧ w'.cell? ⟨w1.heap.size, 7, none⟩ = some (.string nm) ∧ w'.cell? ⟨w.heap.size, 5, none⟩ = some (.slice Ax n cx)) (first | exact (unhide HSC') _ (below_drew' (Below.refl _ _)) | exact (unhide HSC') _ (unhide hbn) | exact (unhide HSC') _ ((unhide hbn).alloc (unhide hbn).size _)) (first
          | (go_at_call 31; rename Below _ _ _ ∧ _ => hH; refine ((unhide HKC) _ hH.1).mono ?_; rintro e w3 ⟨A5, c5, rfl, ho5, hb5⟩; have hbn := hide (hH.1.trans (hb5.mono hH.1.size)); have Ho5 := hide ho5; have Hlo5 := hide (Nat.le_trans (unhide HbW).size hH.1.size); clear ho5 hb5))
        have HbW3 := hide ((unhide HbW).trans ((unhide hbn).mono (unhide HbW).size))
        go_wp2_with fail
        obtain ⟨np, hnp⟩ : ∃ np : Pl, (⟨w3.heap.size, 0, A5, n, c5⟩ : Pl) = np := ⟨_, rfl⟩
        have hbV : Below w1.heap.size w1 (w3.alloc (.cells #[.int .u8 (x.kind : Nat), .int .u16 (x.mode : Nat), .int .u32 (x.uid : Nat), .int .u32 (x.gid : Nat), .int .i64 (n : Nat), .int .i64 (flen : Nat), .pointer (some ⟨pu.q, 0, none⟩), .string nm, .slice A5 n c5] 83)) := (unhide HbW3).alloc (unhide HbW3).size _
        have hndV : Blk (w3.alloc (.cells #[.int .u8 (x.kind : Nat), .int .u16 (x.mode : Nat), .int .u32 (x.uid : Nat), .int .u32 (x.gid : Nat), .int .i64 (n : Nat), .int .i64 (flen : Nat), .pointer (some ⟨pu.q, 0, none⟩), .string nm, .slice A5 n c5] 83)) np.q (blkT (Vf.ndOf x up).m.kind) (ndC (Vf.ndOf x up) F.length pu.q np) := by
          have e1 : ndC (Vf.ndOf x up) F.length pu.q np = [.int .u8 (x.kind : Nat), .int .u16 (x.mode : Nat), .int .u32 (x.uid : Nat), .int .u32 (x.gid : Nat), .int .i64 (n : Nat), .int .i64 (flen : Nat), .pointer (some ⟨pu.q, 0, none⟩), .string nm, .slice A5 n c5] := by
            unfold ndC lastV
            rw [show (Vf.ndOf x up).m.kind = x.kind from rfl, if_neg (by rw [unhide Hkk]; decide), if_pos (unhide Hkk), unhide Hfl]
            try rw [← hnp]
            simp only [Vf.ndOf, unhide Hdl, unhide Hnm]
            rfl
          have e2 : blkT (Vf.ndOf x up).m.kind = 83 := by rw [show (Vf.ndOf x up).m.kind = x.kind from rfl, unhide Hkk]; rfl
          rw [e1, e2, ← hnp]
          exact Blk.new w3 83 [.int .u8 (x.kind : Nat), .int .u16 (x.mode : Nat), .int .u32 (x.uid : Nat), .int .u32 (x.gid : Nat), .int .i64 (n : Nat), .int .i64 (flen : Nat), .pointer (some ⟨pu.q, 0, none⟩), .string nm, .slice A5 n c5]
        have hbyV : (Vf.ndOf x up).m.kind = 1 → np.n = (Vf.ndOf x up).data.length ∧ np.n ≤ np.c ∧ RdI (w3.alloc (.cells #[.int .u8 (x.kind : Nat), .int .u16 (x.mode : Nat), .int .u32 (x.uid : Nat), .int .u32 (x.gid : Nat), .int .i64 (n : Nat), .int .i64 (flen : Nat), .pointer (some ⟨pu.q, 0, none⟩), .string nm, .slice A5 n c5] 83)) w1.heap.size 5 1 np.A np.n ((Vf.ndOf x up).data.map fun b => Value.int .u8 (b.toNat : Nat)) := by
          intro _
          rw [← hnp]
          refine ⟨(unhide Hdl).symm, own_cap (unhide Ho5), ?_⟩
          have h5 : RdI w3 w1.heap.size 5 1 A5 n (bys x.data) := RdI.of_own (own_base (unhide Ho5) (unhide Hlo5))
          exact h5.keep fun k o _ ho _ => (Below.heap_alloc _ _ _ (Array.getElem?_eq_some_iff.1 ho).1).trans ho
        have hdmV : (Vf.ndOf x up).m.kind = 2 → w1.heap.size ≤ np.g ∧ MapG (w3.alloc (.cells #[.int .u8 (x.kind : Nat), .int .u16 (x.mode : Nat), .int .u32 (x.uid : Nat), .int .u32 (x.gid : Nat), .int .i64 (n : Nat), .int .i64 (flen : Nat), .pointer (some ⟨pu.q, 0, none⟩), .string nm, .slice A5 n c5] 83)) np.g .string [] := by
          intro h
          have : x.kind = 2 := h
          rw [unhide Hkk] at this
          cases this
        have hnpq : w1.heap.size ≤ np.q := by rw [← hnp]; exact (unhide HbW3).size
        have hnpe : np.q = w3.heap.size := by rw [← hnp]
        clear hnp
        generalize (w3.alloc (.cells #[.int .u8 (x.kind : Nat), .int .u16 (x.mode : Nat), .int .u32 (x.uid : Nat), .int .u32 (x.gid : Nat), .int .i64 (n : Nat), .int .i64 (flen : Nat), .pointer (some ⟨pu.q, 0, none⟩), .string nm, .slice A5 n c5] 83)) = V at *
        rw [← hnpe]
        clear hnpe
        have HbV := hide hbV
        have HnV := hide hndV
        have HyV := hide hbyV
        have HdV := hide hdmV
        clear hbV hndV hbyV hdmV
        obtain ⟨-, z1, z2, z3, z4, z5, z6, z7⟩ := (unhide HSK') V (unhide HbV)
        have hmu := ((unhide HW1).map up xu pu (unhide Hxu) (unhide Hpu) (unhide Hk)).2.belowSz (unhide HbV)
        obtain ⟨_, uu, _, hbu⟩ := (unhide HW1).nd up xu pu (unhide Hxu) (unhide Hpu)
        have e8 : lastV xu pu = .map (some pu.g) := by unfold lastV; rw [if_pos (unhide Hk)]
        have z8 : V.cell? ⟨pu.q, 8, none⟩ = some (lastV xu pu) := (hbu.belowSz (unhide HbV)).cell rfl
        rw [e8] at z8
        have z7' : World.cell? { heap := V.heap, tape := V.tape, drawn := V.drawn + 1, os := V.os, output := V.output } ⟨b3, o3 + k1, none⟩ = some (.string nm) := z7
        have z8' : World.cell? { heap := V.heap, tape := V.tape, drawn := V.drawn + 1, os := V.os, output := V.output } ⟨pu.q, 8, none⟩ = some (.map (some pu.g)) := z8
        have hmuD : MapG V.drew pu.g .string (kidsM F L up) := ⟨hmu.there, hmu.keys, hmu.once⟩
        have hnone := kids_no (unhide HF) (L := L) (hcn)
        have HmuD := hide hmuD
        have Hnone := hide hnone
        clear v1 v2 v3 v4 v5 v6 v7 y0 y1 y2 y3 y4 y5 y6 y7 z1 z2 z3 z4 z5 z6 hmu hbu e8 hmuD hnone
        go_still_tail 9, (by kernel_rfl)
        change wpList _ _ _ _ _ V.drew
        refine wpList_updG (x := .string nm) (g := pu.g) rfl _ _ _ rfl Try.underlying86 Try.underlying9 (by simp [Go.MapKept.IsKey]) rfl rfl rfl (unhide HmuD) (unhide Hnone) ?_
        intro V2 hm2 hg2 hs2
        have HbV' : Hid (Below w1.heap.size w1 V.drew) := hide (below_drew' (unhide HbV))
        obtain ⟨f2, r2, s2, f3⟩ := (unhide HW1).addF (unhide Hxu) (unhide Hpu) (unhide Hk) (unhide HbV') hg2
        have u0 : V2.cell? ⟨f, 0, none⟩ = some (.slice A F.length c) := f2.cell rfl
        rw [unhide Hfl] at u0
        have Hr2 := hide r2
        have Hf3 := hide f3
        have Hm2 := hide hm2
        have Hg2 := hide hg2
        have hlo2 : lo ≤ V2.heap.size := by have := (unhide Hb1).size; omega
        clear f2 r2 s2 f3 hm2 hg2 hs2 z7 z8 z7' z8'
        go_wp2_with (at_builtin; refine wpList_app1 nodeTy rfl _ _ rfl lo (.slice A flen c) flen _ rfl (by have := unhide Hr2; rw [unhide Hfl] at this; exact this) #[.iface 80 (.pointer (some ⟨np.q, 0, none⟩))] rfl rfl (by simp [Value.oneCell']) (by omega) hlo2 ?_; intro A4 c4 V3 ho3 hg3 hat3; have hff := (unhide Hf3) V3 (by rw [unhide Hfl]; exact hg3); have t0 : V3.cell? ⟨f, 0, none⟩ = some (.slice A F.length c) := hff.cell rfl; rw [unhide Hfl] at t0; have tf : V3.frozen? ⟨f, 0, none⟩ = false := hff.free 0; have Ho3 := hide ho3; have Hg3 := hide hg3; clear ho3 hg3 hat3 hff)
        go_ret
        have hnd0 : ndV (Vf.ndOf x up) np = .iface 80 (.pointer (some ⟨np.q, 0, none⟩)) := by unfold ndV kindT; rw [show (Vf.ndOf x up).m.kind = x.kind from rfl, unhide Hkk]; rfl
        have hnm0 : (Vf.ndOf x up).name = nm := unhide Hnm
        have hfin := (unhide HW1).addFin (V := V.drew) (V2 := V2) (V3 := V3) (unhide HF) (Vf.ndOf x up) np xu pu (unhide Hxu) (unhide Hpu) (unhide Hk) (by have := (unhide Hb1).size; omega) (unhide HbV') (by rw [hnm0, hnd0]; exact unhide Hm2) (unhide Hg2) A4 c4 (by rw [hnd0, unhide Hfl]; exact unhide Ho3) (by rw [unhide Hfl]; exact unhide Hg3) hnpq (unhide HnV) (unhide HyV) (fun h => ⟨((unhide HdV) h).1, ((unhide HdV) h).2.keep rfl⟩)
        rw [unhide Hfl] at hfin
        unfold AddE
        rw [unhide Hadd]
        exact ⟨rfl, fun _ => ⟨_, A4, c4, hfin.1⟩, ((unhide Hb1).mono hlo).trans hfin.2⟩
      · have q2 : ((x.kind : Int) == 2) = true := by rw [hk]; rfl
        have Hkk := hide hk
        clear hk hkind
        go_wp2_with fail
        obtain ⟨np, hnp⟩ : ∃ np : Pl, (⟨W.heap.size + 1, W.heap.size, none, 0, 0⟩ : Pl) = np := ⟨_, rfl⟩
        have hbV : Below w1.heap.size w1 ((W.alloc (.map #[] 0)).alloc (.cells #[.int .u8 (x.kind : Nat), .int .u16 (x.mode : Nat), .int .u32 (x.uid : Nat), .int .u32 (x.gid : Nat), .int .i64 (n : Nat), .int .i64 (flen : Nat), .pointer (some ⟨pu.q, 0, none⟩), .string nm, .map (some W.heap.size)] 88)) := ((unhide HbW).alloc (unhide HbW).size _).alloc (by have := (unhide HbW).size; simp; omega) _
        have hndV : Blk ((W.alloc (.map #[] 0)).alloc (.cells #[.int .u8 (x.kind : Nat), .int .u16 (x.mode : Nat), .int .u32 (x.uid : Nat), .int .u32 (x.gid : Nat), .int .i64 (n : Nat), .int .i64 (flen : Nat), .pointer (some ⟨pu.q, 0, none⟩), .string nm, .map (some W.heap.size)] 88)) np.q (blkT (Vf.ndOf x up).m.kind) (ndC (Vf.ndOf x up) F.length pu.q np) := by
          have e1 : ndC (Vf.ndOf x up) F.length pu.q np = [.int .u8 (x.kind : Nat), .int .u16 (x.mode : Nat), .int .u32 (x.uid : Nat), .int .u32 (x.gid : Nat), .int .i64 (n : Nat), .int .i64 (flen : Nat), .pointer (some ⟨pu.q, 0, none⟩), .string nm, .map (some W.heap.size)] := by
            unfold ndC lastV
            rw [show (Vf.ndOf x up).m.kind = x.kind from rfl, if_pos (unhide Hkk), unhide Hfl]
            try rw [← hnp]
            simp only [Vf.ndOf, unhide Hdl, unhide Hnm]
            rfl
          have e2 : blkT (Vf.ndOf x up).m.kind = 88 := by rw [show (Vf.ndOf x up).m.kind = x.kind from rfl, unhide Hkk]; rfl
          rw [e1, e2, ← hnp]
          have := Blk.new (W.alloc (.map #[] 0)) 88 [.int .u8 (x.kind : Nat), .int .u16 (x.mode : Nat), .int .u32 (x.uid : Nat), .int .u32 (x.gid : Nat), .int .i64 (n : Nat), .int .i64 (flen : Nat), .pointer (some ⟨pu.q, 0, none⟩), .string nm, .map (some W.heap.size)]
          rw [World.size_alloc] at this
          exact this
        have hbyV : (Vf.ndOf x up).m.kind = 1 → np.n = (Vf.ndOf x up).data.length ∧ np.n ≤ np.c ∧ RdI ((W.alloc (.map #[] 0)).alloc (.cells #[.int .u8 (x.kind : Nat), .int .u16 (x.mode : Nat), .int .u32 (x.uid : Nat), .int .u32 (x.gid : Nat), .int .i64 (n : Nat), .int .i64 (flen : Nat), .pointer (some ⟨pu.q, 0, none⟩), .string nm, .map (some W.heap.size)] 88)) w1.heap.size 5 1 np.A np.n ((Vf.ndOf x up).data.map fun b => Value.int .u8 (b.toNat : Nat)) := by
          intro h
          have : x.kind = 1 := h
          rw [unhide Hkk] at this
          cases this
        have hdmV : (Vf.ndOf x up).m.kind = 2 → w1.heap.size ≤ np.g ∧ MapG ((W.alloc (.map #[] 0)).alloc (.cells #[.int .u8 (x.kind : Nat), .int .u16 (x.mode : Nat), .int .u32 (x.uid : Nat), .int .u32 (x.gid : Nat), .int .i64 (n : Nat), .int .i64 (flen : Nat), .pointer (some ⟨pu.q, 0, none⟩), .string nm, .map (some W.heap.size)] 88)) np.g .string [] := by
          intro _
          rw [← hnp]
          exact ⟨(unhide HbW).size, (MapG.nil W _).belowSz ((Below.refl _ _).alloc (Nat.le_refl _) _)⟩
        have hnpq : w1.heap.size ≤ np.q := by rw [← hnp]; have := (unhide HbW).size; simp; omega
        have hnpe : np.q = W.heap.size + 1 := by rw [← hnp]
        clear hnp
        generalize ((W.alloc (.map #[] 0)).alloc (.cells #[.int .u8 (x.kind : Nat), .int .u16 (x.mode : Nat), .int .u32 (x.uid : Nat), .int .u32 (x.gid : Nat), .int .i64 (n : Nat), .int .i64 (flen : Nat), .pointer (some ⟨pu.q, 0, none⟩), .string nm, .map (some W.heap.size)] 88)) = V at *
        rw [← hnpe]
        clear hnpe
        have HbV := hide hbV
        have HnV := hide hndV
        have HyV := hide hbyV
        have HdV := hide hdmV
        clear hbV hndV hbyV hdmV
        obtain ⟨-, z1, z2, z3, z4, z5, z6, z7⟩ := (unhide HSK') V (unhide HbV)
        have hmu := ((unhide HW1).map up xu pu (unhide Hxu) (unhide Hpu) (unhide Hk)).2.belowSz (unhide HbV)
        obtain ⟨_, uu, _, hbu⟩ := (unhide HW1).nd up xu pu (unhide Hxu) (unhide Hpu)
        have e8 : lastV xu pu = .map (some pu.g) := by unfold lastV; rw [if_pos (unhide Hk)]
        have z8 : V.cell? ⟨pu.q, 8, none⟩ = some (lastV xu pu) := (hbu.belowSz (unhide HbV)).cell rfl
        rw [e8] at z8
        have z7' : World.cell? { heap := V.heap, tape := V.tape, drawn := V.drawn + 1, os := V.os, output := V.output } ⟨b3, o3 + k1, none⟩ = some (.string nm) := z7
        have z8' : World.cell? { heap := V.heap, tape := V.tape, drawn := V.drawn + 1, os := V.os, output := V.output } ⟨pu.q, 8, none⟩ = some (.map (some pu.g)) := z8
        have hmuD : MapG V.drew pu.g .string (kidsM F L up) := ⟨hmu.there, hmu.keys, hmu.once⟩
        have hnone := kids_no (unhide HF) (L := L) (hcn)
        have HmuD := hide hmuD
        have Hnone := hide hnone
        clear v1 v2 v3 v4 v5 v6 v7 y0 y1 y2 y3 y4 y5 y6 y7 z1 z2 z3 z4 z5 z6 hmu hbu e8 hmuD hnone
        go_still_tail 9, (by kernel_rfl)
        change wpList _ _ _ _ _ V.drew
        refine wpList_updG (x := .string nm) (g := pu.g) rfl _ _ _ rfl Try.underlying86 Try.underlying9 (by simp [Go.MapKept.IsKey]) rfl rfl rfl (unhide HmuD) (unhide Hnone) ?_
        intro V2 hm2 hg2 hs2
        have HbV' : Hid (Below w1.heap.size w1 V.drew) := hide (below_drew' (unhide HbV))
        obtain ⟨f2, r2, s2, f3⟩ := (unhide HW1).addF (unhide Hxu) (unhide Hpu) (unhide Hk) (unhide HbV') hg2
        have u0 : V2.cell? ⟨f, 0, none⟩ = some (.slice A F.length c) := f2.cell rfl
        rw [unhide Hfl] at u0
        have Hr2 := hide r2
        have Hf3 := hide f3
        have Hm2 := hide hm2
        have Hg2 := hide hg2
        have hlo2 : lo ≤ V2.heap.size := by have := (unhide Hb1).size; omega
        clear f2 r2 s2 f3 hm2 hg2 hs2 z7 z8 z7' z8'
        go_wp2_with (at_builtin; refine wpList_app1 nodeTy rfl _ _ rfl lo (.slice A flen c) flen _ rfl (by have := unhide Hr2; rw [unhide Hfl] at this; exact this) #[.iface 70 (.pointer (some ⟨np.q, 0, none⟩))] rfl rfl (by simp [Value.oneCell']) (by omega) hlo2 ?_; intro A4 c4 V3 ho3 hg3 hat3; have hff := (unhide Hf3) V3 (by rw [unhide Hfl]; exact hg3); have t0 : V3.cell? ⟨f, 0, none⟩ = some (.slice A F.length c) := hff.cell rfl; rw [unhide Hfl] at t0; have tf : V3.frozen? ⟨f, 0, none⟩ = false := hff.free 0; have Ho3 := hide ho3; have Hg3 := hide hg3; clear ho3 hg3 hat3 hff)
        go_ret
        have hnd0 : ndV (Vf.ndOf x up) np = .iface 70 (.pointer (some ⟨np.q, 0, none⟩)) := by unfold ndV kindT; rw [show (Vf.ndOf x up).m.kind = x.kind from rfl, unhide Hkk]; rfl
        have hnm0 : (Vf.ndOf x up).name = nm := unhide Hnm
        have hfin := (unhide HW1).addFin (V := V.drew) (V2 := V2) (V3 := V3) (unhide HF) (Vf.ndOf x up) np xu pu (unhide Hxu) (unhide Hpu) (unhide Hk) (by have := (unhide Hb1).size; omega) (unhide HbV') (by rw [hnm0, hnd0]; exact unhide Hm2) (unhide Hg2) A4 c4 (by rw [hnd0, unhide Hfl]; exact unhide Ho3) (by rw [unhide Hfl]; exact unhide Hg3) hnpq (unhide HnV) (unhide HyV) (fun h => ⟨((unhide HdV) h).1, ((unhide HdV) h).2.keep rfl⟩)
        rw [unhide Hfl] at hfin
        unfold AddE
        rw [unhide Hadd]
        exact ⟨rfl, fun _ => ⟨_, A4, c4, hfin.1⟩, ((unhide Hb1).mono hlo).trans hfin.2⟩
      · have q2 : ((x.kind : Int) == 2) = false := by rw [hk]; rfl
        have q3 : ((x.kind : Int) == 1) = false := by rw [hk]; rfl
        have v6t : W.cell? ⟨w.heap.size, 6, none⟩ = some (.string x.to) := ((unhide Hbk1).belowSz (unhide HbW)).cell rfl
        have Hkk := hide hk
        clear hk hkind
        go_wp2_with fail
        obtain ⟨np, hnp⟩ : ∃ np : Pl, (⟨W.heap.size, 0, none, 0, 0⟩ : Pl) = np := ⟨_, rfl⟩
        have hbV : Below w1.heap.size w1 (W.alloc (.cells #[.int .u8 (x.kind : Nat), .int .u16 (x.mode : Nat), .int .u32 (x.uid : Nat), .int .u32 (x.gid : Nat), .int .i64 (n : Nat), .int .i64 (flen : Nat), .pointer (some ⟨pu.q, 0, none⟩), .string nm, .string x.to] 124)) := (unhide HbW).alloc (unhide HbW).size _
        have hndV : Blk (W.alloc (.cells #[.int .u8 (x.kind : Nat), .int .u16 (x.mode : Nat), .int .u32 (x.uid : Nat), .int .u32 (x.gid : Nat), .int .i64 (n : Nat), .int .i64 (flen : Nat), .pointer (some ⟨pu.q, 0, none⟩), .string nm, .string x.to] 124)) np.q (blkT (Vf.ndOf x up).m.kind) (ndC (Vf.ndOf x up) F.length pu.q np) := by
          have e1 : ndC (Vf.ndOf x up) F.length pu.q np = [.int .u8 (x.kind : Nat), .int .u16 (x.mode : Nat), .int .u32 (x.uid : Nat), .int .u32 (x.gid : Nat), .int .i64 (n : Nat), .int .i64 (flen : Nat), .pointer (some ⟨pu.q, 0, none⟩), .string nm, .string x.to] := by
            unfold ndC lastV
            rw [show (Vf.ndOf x up).m.kind = x.kind from rfl, if_neg (by rw [unhide Hkk]; decide), if_neg (by rw [unhide Hkk]; decide), unhide Hfl]
            try rw [← hnp]
            simp only [Vf.ndOf, unhide Hdl, unhide Hnm]
            rfl
          have e2 : blkT (Vf.ndOf x up).m.kind = 124 := by rw [show (Vf.ndOf x up).m.kind = x.kind from rfl, unhide Hkk]; rfl
          rw [e1, e2, ← hnp]
          exact Blk.new W 124 [.int .u8 (x.kind : Nat), .int .u16 (x.mode : Nat), .int .u32 (x.uid : Nat), .int .u32 (x.gid : Nat), .int .i64 (n : Nat), .int .i64 (flen : Nat), .pointer (some ⟨pu.q, 0, none⟩), .string nm, .string x.to]
        have hbyV : (Vf.ndOf x up).m.kind = 1 → np.n = (Vf.ndOf x up).data.length ∧ np.n ≤ np.c ∧ RdI (W.alloc (.cells #[.int .u8 (x.kind : Nat), .int .u16 (x.mode : Nat), .int .u32 (x.uid : Nat), .int .u32 (x.gid : Nat), .int .i64 (n : Nat), .int .i64 (flen : Nat), .pointer (some ⟨pu.q, 0, none⟩), .string nm, .string x.to] 124)) w1.heap.size 5 1 np.A np.n ((Vf.ndOf x up).data.map fun b => Value.int .u8 (b.toNat : Nat)) := by
          intro h
          have : x.kind = 1 := h
          rw [unhide Hkk] at this
          cases this
        have hdmV : (Vf.ndOf x up).m.kind = 2 → w1.heap.size ≤ np.g ∧ MapG (W.alloc (.cells #[.int .u8 (x.kind : Nat), .int .u16 (x.mode : Nat), .int .u32 (x.uid : Nat), .int .u32 (x.gid : Nat), .int .i64 (n : Nat), .int .i64 (flen : Nat), .pointer (some ⟨pu.q, 0, none⟩), .string nm, .string x.to] 124)) np.g .string [] := by
          intro h
          have : x.kind = 2 := h
          rw [unhide Hkk] at this
          cases this
        have hnpq : w1.heap.size ≤ np.q := by rw [← hnp]; exact (unhide HbW).size
        have hnpe : np.q = W.heap.size := by rw [← hnp]
        clear hnp
        generalize (W.alloc (.cells #[.int .u8 (x.kind : Nat), .int .u16 (x.mode : Nat), .int .u32 (x.uid : Nat), .int .u32 (x.gid : Nat), .int .i64 (n : Nat), .int .i64 (flen : Nat), .pointer (some ⟨pu.q, 0, none⟩), .string nm, .string x.to] 124)) = V at *
        rw [← hnpe]
        clear hnpe
        have HbV := hide hbV
        have HnV := hide hndV
        have HyV := hide hbyV
        have HdV := hide hdmV
        clear hbV hndV hbyV hdmV
        obtain ⟨-, z1, z2, z3, z4, z5, z6, z7⟩ := (unhide HSK') V (unhide HbV)
        have hmu := ((unhide HW1).map up xu pu (unhide Hxu) (unhide Hpu) (unhide Hk)).2.belowSz (unhide HbV)
        obtain ⟨_, uu, _, hbu⟩ := (unhide HW1).nd up xu pu (unhide Hxu) (unhide Hpu)
        have e8 : lastV xu pu = .map (some pu.g) := by unfold lastV; rw [if_pos (unhide Hk)]
        have z8 : V.cell? ⟨pu.q, 8, none⟩ = some (lastV xu pu) := (hbu.belowSz (unhide HbV)).cell rfl
        rw [e8] at z8
        have z7' : World.cell? { heap := V.heap, tape := V.tape, drawn := V.drawn + 1, os := V.os, output := V.output } ⟨b3, o3 + k1, none⟩ = some (.string nm) := z7
        have z8' : World.cell? { heap := V.heap, tape := V.tape, drawn := V.drawn + 1, os := V.os, output := V.output } ⟨pu.q, 8, none⟩ = some (.map (some pu.g)) := z8
        have hmuD : MapG V.drew pu.g .string (kidsM F L up) := ⟨hmu.there, hmu.keys, hmu.once⟩
        have hnone := kids_no (unhide HF) (L := L) (hcn)
        have HmuD := hide hmuD
        have Hnone := hide hnone
        clear v6t v1 v2 v3 v4 v5 v6 v7 y0 y1 y2 y3 y4 y5 y6 y7 z1 z2 z3 z4 z5 z6 hmu hbu e8 hmuD hnone
        go_still_tail 9, (by kernel_rfl)
        change wpList _ _ _ _ _ V.drew
        refine wpList_updG (x := .string nm) (g := pu.g) rfl _ _ _ rfl Try.underlying86 Try.underlying9 (by simp [Go.MapKept.IsKey]) rfl rfl rfl (unhide HmuD) (unhide Hnone) ?_
        intro V2 hm2 hg2 hs2
        have HbV' : Hid (Below w1.heap.size w1 V.drew) := hide (below_drew' (unhide HbV))
        obtain ⟨f2, r2, s2, f3⟩ := (unhide HW1).addF (unhide Hxu) (unhide Hpu) (unhide Hk) (unhide HbV') hg2
        have u0 : V2.cell? ⟨f, 0, none⟩ = some (.slice A F.length c) := f2.cell rfl
        rw [unhide Hfl] at u0
        have Hr2 := hide r2
        have Hf3 := hide f3
        have Hm2 := hide hm2
        have Hg2 := hide hg2
        have hlo2 : lo ≤ V2.heap.size := by have := (unhide Hb1).size; omega
        clear f2 r2 s2 f3 hm2 hg2 hs2 z7 z8 z7' z8'
        go_wp2_with (at_builtin; refine wpList_app1 nodeTy rfl _ _ rfl lo (.slice A flen c) flen _ rfl (by have := unhide Hr2; rw [unhide Hfl] at this; exact this) #[.iface 121 (.pointer (some ⟨np.q, 0, none⟩))] rfl rfl (by simp [Value.oneCell']) (by omega) hlo2 ?_; intro A4 c4 V3 ho3 hg3 hat3; have hff := (unhide Hf3) V3 (by rw [unhide Hfl]; exact hg3); have t0 : V3.cell? ⟨f, 0, none⟩ = some (.slice A F.length c) := hff.cell rfl; rw [unhide Hfl] at t0; have tf : V3.frozen? ⟨f, 0, none⟩ = false := hff.free 0; have Ho3 := hide ho3; have Hg3 := hide hg3; clear ho3 hg3 hat3 hff)
        go_ret
        have hnd0 : ndV (Vf.ndOf x up) np = .iface 121 (.pointer (some ⟨np.q, 0, none⟩)) := by unfold ndV kindT; rw [show (Vf.ndOf x up).m.kind = x.kind from rfl, unhide Hkk]; rfl
        have hnm0 : (Vf.ndOf x up).name = nm := unhide Hnm
        have hfin := (unhide HW1).addFin (V := V.drew) (V2 := V2) (V3 := V3) (unhide HF) (Vf.ndOf x up) np xu pu (unhide Hxu) (unhide Hpu) (unhide Hk) (by have := (unhide Hb1).size; omega) (unhide HbV') (by rw [hnm0, hnd0]; exact unhide Hm2) (unhide Hg2) A4 c4 (by rw [hnd0, unhide Hfl]; exact unhide Ho3) (by rw [unhide Hfl]; exact unhide Hg3) hnpq (unhide HnV) (unhide HyV) (fun h => ⟨((unhide HdV) h).1, ((unhide HdV) h).2.keep rfl⟩)
        rw [unhide Hfl] at hfin
        unfold AddE
        rw [unhide Hadd]
        exact ⟨rfl, fun _ => ⟨_, A4, c4, hfin.1⟩, ((unhide Hb1).mono hlo).trans hfin.2⟩
end Go.Proofs.Yteiciabhfjakgaa
namespace Go.Proofs.Yteiciabhfjakgaa
set_option linter.unusedVariables false
set_option linter.unusedSimpArgs false
open Go.RowKit Go.ChangeShapes Go.WideShapes Go.Joins Go.Deep

section
variable {H : Type} {enc : TypeId × Value → H} {P : Program} {w : World} {base : Nat} {held : Bool}
theorem flds_one {spare : Nat → Bool} {t : TypeId} {fs : Array Field} {fuel : Nat} {cs : List Value} {x : DataW H × List MemPlace} (ht : P.underlying t = some (.struct fs)) (hone : oneCellFields P fs = true) (hC : P.cellsOf t = fs.size)
    (h : DataW.trod enc P w base spare held fuel t cs = some x) : cs.length = fs.size ∧ ∃ n, ∀ (i : Nat) (f : Field) (v : Value), fs[i]? = some f → cs[i]? = some v → ∃ y, DataW.trod enc P w base spare held n f.type [v] = some y := by
  obtain ⟨xs, n, _, rfl, hl, hlen, hf⟩ := DataW.trod_struct ht h
  refine ⟨hl.trans hC, n, fun i f v hi hv => ?_⟩
  obtain ⟨o, k⟩ := hone_of hone i f hi
  have hi2 : i < fs.size := (Array.getElem?_eq_some_iff.1 hi).1
  have h1 := hf i f hi
  have e : ((cs.drop f.offset).take (P.cellsOf f.type)) = [v] := by
    rw [o, k]
    have hlt : i < cs.length := (List.getElem?_eq_some_iff.1 hv).1
    rw [List.drop_eq_getElem_cons hlt, (List.getElem?_eq_some_iff.1 hv).2]
    rfl
  rw [e] at h1
  exact ⟨_, h1.trans (List.getElem?_eq_getElem (by omega))⟩
/-- The fields of a struct, each one cell, by their types. -/
theorem flds_vals {t : TypeId} (tys : Array TypeId) {fuel : Nat} {cs : List Value} {x : DataW H × List MemPlace}
    (hS : ∃ fs, P.underlying t = some (.struct fs) ∧ oneCellFields P fs = true ∧ P.cellsOf t = fs.size ∧ fs.map (·.type) = tys)
    (h : DataW.trod enc P w base (fun _ => true) held fuel t cs = some x) : cs.length = tys.size ∧ ∃ n, ∀ (i : Nat) (t : TypeId) (v : Value), tys[i]? = some t → cs[i]? = some v → ∃ y, DataW.trod enc P w base (fun _ => true) held n t [v] = some y := by
  obtain ⟨fs, ht, hone, hC, hty⟩ := hS
  obtain ⟨hl, n, hf⟩ := flds_one ht hone hC h
  refine ⟨by rw [← hty]; simpa using hl, n, fun i t v hi hv => ?_⟩
  rw [← hty, Array.getElem?_map] at hi
  cases hq : fs[i]? with
  | none => rw [hq] at hi; cases hi
  | some f =>
    rw [hq] at hi
    obtain ⟨y, hy⟩ := hf i f v hq hv
    have e : f.type = t := by simpa using hi
    rw [e] at hy
    exact ⟨y, hy⟩
theorem fcells_at {a : Addr} {k : Nat} {cs : List Value} (h : w.cells? base a k = some cs) : cs.length = k ∧ ∀ j, j < k → w.cell? (a.add j) = cs[j]? := by
  unfold World.cells? at h
  split at h
  · have hl := mapM_some_length h
    refine ⟨by simpa using hl, fun j hj => ?_⟩
    exact mapM_some_get h j j (by simp [hj])
  · cases h
theorem fslice_is {t e : TypeId} {fuel : Nat} {v : Value} {y : DataW H × List MemPlace} (ht : P.underlying t = some (.slice e)) (hf : DataW.trod enc P w base (fun _ => true) held fuel t [v] = some y) : ∃ A n c, v = .slice A n c := by
  obtain ⟨a, l, c, h⟩ := slice_form ht hf
  simp only [List.cons.injEq, and_true] at h
  exact ⟨a, l, c, h⟩
theorem fu64_is {t : TypeId} {fuel : Nat} {v : Value} {y : DataW H × List MemPlace} (ht : P.underlying t = some (.int .u64)) (hf : DataW.trod enc P w base (fun _ => true) held fuel t [v] = some y) : ∃ n : Nat, v = .int .u64 n ∧ n < 18446744073709551616 := by
  obtain ⟨z, q, -, hw⟩ := DataW.trod_int ht hf
  simp only [List.cons.injEq, and_true] at q
  have b : 0 ≤ z ∧ z ≤ 18446744073709551615 := by simpa [Lit.wf, IntKind.min, IntKind.max, IntKind.signed, IntKind.bits] using hw
  obtain ⟨n, rfl⟩ := Int.eq_ofNat_of_zero_le b.1
  exact ⟨n, q, by omega⟩
theorem fu32_is {t : TypeId} {fuel : Nat} {v : Value} {y : DataW H × List MemPlace} (ht : P.underlying t = some (.int .u32)) (hf : DataW.trod enc P w base (fun _ => true) held fuel t [v] = some y) : ∃ n : Nat, v = .int .u32 n ∧ n < 4294967296 := by
  obtain ⟨z, q, -, hw⟩ := DataW.trod_int ht hf
  simp only [List.cons.injEq, and_true] at q
  have b : 0 ≤ z ∧ z ≤ 4294967295 := by simpa [Lit.wf, IntKind.min, IntKind.max, IntKind.signed, IntKind.bits] using hw
  obtain ⟨n, rfl⟩ := Int.eq_ofNat_of_zero_le b.1
  exact ⟨n, q, by omega⟩
theorem fu16_is {t : TypeId} {fuel : Nat} {v : Value} {y : DataW H × List MemPlace} (ht : P.underlying t = some (.int .u16)) (hf : DataW.trod enc P w base (fun _ => true) held fuel t [v] = some y) : ∃ n : Nat, v = .int .u16 n ∧ n < 65536 := by
  obtain ⟨z, q, -, hw⟩ := DataW.trod_int ht hf
  simp only [List.cons.injEq, and_true] at q
  have b : 0 ≤ z ∧ z ≤ 65535 := by simpa [Lit.wf, IntKind.min, IntKind.max, IntKind.signed, IntKind.bits] using hw
  obtain ⟨n, rfl⟩ := Int.eq_ofNat_of_zero_le b.1
  exact ⟨n, q, by omega⟩
theorem fu8_is {t : TypeId} {fuel : Nat} {v : Value} {y : DataW H × List MemPlace} (ht : P.underlying t = some (.int .u8)) (hf : DataW.trod enc P w base (fun _ => true) held fuel t [v] = some y) : ∃ n : Nat, v = .int .u8 n ∧ n < 256 := by
  obtain ⟨z, q, -, hw⟩ := DataW.trod_int ht hf
  simp only [List.cons.injEq, and_true] at q
  have b : 0 ≤ z ∧ z ≤ 255 := by simpa [Lit.wf, IntKind.min, IntKind.max, IntKind.signed, IntKind.bits] using hw
  obtain ⟨n, rfl⟩ := Int.eq_ofNat_of_zero_le b.1
  exact ⟨n, q, by omega⟩
theorem fint_is {t : TypeId} {fuel : Nat} {v : Value} {y : DataW H × List MemPlace} (ht : P.underlying t = some (.int .i64)) (hf : DataW.trod enc P w base (fun _ => true) held fuel t [v] = some y) : ∃ n : Int, v = .int .i64 n ∧ -9223372036854775808 ≤ n ∧ n ≤ 9223372036854775807 := by
  obtain ⟨z, q, -, hw⟩ := DataW.trod_int ht hf
  simp only [List.cons.injEq, and_true] at q
  have b : -9223372036854775808 ≤ z ∧ z ≤ 9223372036854775807 := by simpa [Lit.wf, IntKind.min, IntKind.max, IntKind.signed, IntKind.bits] using hw
  exact ⟨z, q, b⟩
theorem fstr_is {t : TypeId} {fuel : Nat} {v : Value} {y : DataW H × List MemPlace} (ht : P.underlying t = some .string) (hf : DataW.trod enc P w base (fun _ => true) held fuel t [v] = some y) : ∃ s : ByteArray, v = .string s ∧ s.size ≤ maxLen := by
  obtain ⟨s, q, -, bs⟩ := DataW.trod_string ht hf
  simp only [List.cons.injEq, and_true] at q
  exact ⟨s, q, bs⟩
theorem fbool_is {t : TypeId} {fuel : Nat} {v : Value} {y : DataW H × List MemPlace} (ht : P.underlying t = some .bool) (hf : DataW.trod enc P w base (fun _ => true) held fuel t [v] = some y) : ∃ b : Bool, v = .bool b := by
  obtain ⟨s, q, -⟩ := DataW.trod_bool ht hf
  simp only [List.cons.injEq, and_true] at q
  exact ⟨s, q⟩

/-- The cells of a row of structs. -/
def rowCs {α : Type} (vals : α → List Value) (l : List α) : List Value := l.flatMap vals
theorem rowCs_len {α : Type} {vals : α → List Value} {size : Nat} (hv : ∀ s, (vals s).length = size) (l : List α) : (rowCs vals l).length = l.length * size := by
  induction l with
  | nil => simp [rowCs]
  | cons s r ih => 
    have : (rowCs vals (s :: r)).length = size + (rowCs vals r).length := by simp [rowCs, hv]
    rw [this, ih, List.length_cons, Nat.add_mul]
    omega
theorem rowCs_app {α : Type} (vals : α → List Value) (a b : List α) : rowCs vals (a ++ b) = rowCs vals a ++ rowCs vals b := by simp [rowCs]
theorem rowCs_at {α : Type} {vals : α → List Value} {size : Nat} (hv : ∀ s, (vals s).length = size) (l : List α) (k : Nat) (s : α) (hk : l[k]? = some s) (j : Nat) (hj : j < size) : (rowCs vals l)[k * size + j]? = (vals s)[j]? := by
  have hlt := (List.getElem?_eq_some_iff.1 hk).1
  have e : l = l.take k ++ s :: l.drop (k + 1) := by
    rw [← (List.getElem?_eq_some_iff.1 hk).2, ← List.drop_eq_getElem_cons hlt, List.take_append_drop]
  have hl : (rowCs vals (l.take k)).length = k * size := by rw [rowCs_len hv, List.length_take]; congr 1; omega
  conv => lhs; rw [e]
  rw [rowCs_app, List.getElem?_append_right (by omega), hl, Nat.add_sub_cancel_left]
  show (vals s ++ rowCs vals (l.drop (k + 1)))[j]? = _
  rw [List.getElem?_append_left (by rw [hv]; exact hj)]
/-- A slice of structs as an argument. -/
theorem open_structs_rd {α : Type} [Inhabited α] {A : Option Addr} {n c fuel size : Nat} {t e : TypeId} {x : DataW H × List MemPlace} (ht : P.underlying t = some (.slice e)) (h6 : P.cellsOf e = size) (hpos : 0 < size) (vals : α → List Value) (ok : α → Prop) (hv : ∀ s, (vals s).length = size)
    (hone : ∀ fuel cs x, DataW.trod enc P w base (fun _ => true) held fuel e cs = some x → ∃ s, cs = vals s ∧ ok s)
    (h : DataW.trod enc P w base (fun _ => true) held fuel t [.slice A n c] = some x) :
    ∃ l : List α, Rd w w.heap.size size A n (rowCs vals l) ∧ l.length = n ∧ n ≤ c ∧ c ≤ maxLen ∧ ∀ s ∈ l, ok s := by
  rcases Go.Deep.open_slice ht h with ⟨h1, h2⟩ | ⟨a, len, cap, m, k, D, Pl, h1, hb, hl, hm, hmm, hx, hel⟩
  · simp at h1
    obtain ⟨rfl, rfl, rfl⟩ := h1
    exact ⟨[], Rd.none_ _ _ _ _, rfl, Nat.le_refl _, by unfold maxLen; omega, by simp⟩
  · simp at h1
    obtain ⟨rfl, rfl, rfl⟩ := h1
    simp only [if_true] at hmm
    have each : ∀ i, i < n → ∃ s : α, ok s ∧ ∀ j, j < size → w.cell? (a.add (i * size + j)) = (vals s)[j]? := by
      intro i hi
      obtain ⟨cs, hc, ht⟩ := hel i (by omega)
      rw [h6] at hc
      obtain ⟨s, rfl, hs⟩ := hone _ _ _ ht
      obtain ⟨_, hcell⟩ := fcells_at hc
      refine ⟨s, hs, fun j hj => ?_⟩
      have := hcell j hj
      rw [← this]
      congr 1
      by_cases g1 : i * size = 0 <;> by_cases g2 : j = 0 <;> simp [Addr.add, g1, g2, Nat.add_assoc]
    obtain ⟨S, hS⟩ := Go.Deep.choose_lt each
    refine ⟨(List.range n).map S, ⟨by rw [rowCs_len hv]; simp, ?_⟩, by simp, hl, hm, ?_⟩
    · by_cases h0 : n = 0
      · subst h0; exact .inl rfl
      · obtain ⟨b, off, spot⟩ := a
        have hs0 := (hS 0 (by omega)).2 0 hpos
        have hlt0 : 0 < (vals (S 0)).length := by rw [hv]; exact hpos
        have hs : spot = none := by simpa [Addr.add] using World.cell?_spot (hs0.trans (List.getElem?_eq_getElem hlt0))
        subst hs
        have hc2 : ∀ i, i < n → ∀ j, j < size → w.cell? ⟨b, off + (i * size + j), none⟩ = (vals (S i))[j]? := fun i hi j hj => by
          rw [← Go.WideShapes.add_plain]; exact (hS i hi).2 j hj
        have hblk : b < w.heap.size := cell_lt (a := ⟨b, off + (0 * size + 0), none⟩) ((hc2 0 (by omega) 0 hpos).trans (List.getElem?_eq_getElem hlt0))
        refine .inr ⟨b, off, rfl, hblk, fun j u hu => ?_⟩
        have hj : j < n * size := by
          have := (List.getElem?_eq_some_iff.1 hu).1
          rw [rowCs_len hv] at this
          simpa using this
        have hq : j / size < n := (Nat.div_lt_iff_lt_mul hpos).2 hj
        have hr : j % size < size := Nat.mod_lt _ hpos
        have hjj : j / size * size + j % size = j := by rw [Nat.mul_comm]; exact Nat.div_add_mod j size
        have hat := rowCs_at hv ((List.range n).map S) (j / size) (S (j / size)) (by simp [hq]) (j % size) hr
        rw [hjj] at hat
        have := hc2 (j / size) hq (j % size) hr
        rw [hjj] at this
        rw [this, ← hat, hu]
    · intro s hs
      simp only [List.mem_map, List.mem_range] at hs
      obtain ⟨i, hi, rfl⟩ := hs
      exact (hS i hi).1
end
end Go.Proofs.Yteiciabhfjakgaa
namespace Go.Proofs.Yteiciabhfjakgaa
set_option linter.unusedVariables false
set_option linter.unusedSimpArgs false
open Go.RowKit

/-- What New answers, plain: the error, the entry's number, the nodes. -/
def Vf.new (es : List Vf.Ent) : Int × Int × List Vf.Nd :=
  if 64 < es.length then (15, -1, []) else if (Vf.adds [Vf.root] 0 es).1 ≠ 0 then ((Vf.adds [Vf.root] 0 es).1, ((Vf.adds [Vf.root] 0 es).2.1 : Nat), []) else (0, 0, (Vf.adds [Vf.root] 0 es).2.2)
/-- An entry as an argument: with where its bytes lie. -/
structure EntA where
  e : Vf.Ent
  A : Option Addr
  n : Nat
  c : Nat
instance : Inhabited EntA := ⟨⟨⟨⟨#[]⟩, 0, 0, 0, 0, [], ⟨#[]⟩⟩, none, 0, 0⟩⟩
def entVals (s : EntA) : List Value := entC s.e s.A s.n s.c
structure EntOk (w : World) (s : EntA) : Prop where
  d : Rd w w.heap.size 1 s.A s.n (bys s.e.data)
  n : s.n ≤ 4294967296
  p : s.e.path.size ≤ 4294967296
  t : s.e.to.size ≤ 4294967296
  m : s.e.mode < 65536
theorem EntOk.below {w w' : World} {s : EntA} (h : EntOk w s) (hb : Below w.heap.size w w') : EntOk w' s := ⟨h.d.belowSz hb, h.n, h.p, h.t, h.m⟩
def NewE (es : List Vf.Ent) (w : World) (e : Ending) (w' : World) : Prop :=
  Below w.heap.size w w' ∧ (((Vf.new es).1 ≠ 0 ∧ e = .returned (.tuple #[.pointer none, .int .i64 (Vf.new es).1, .int .i64 (Vf.new es).2.1])) ∨
    ((Vf.new es).1 = 0 ∧ ∃ f A c L, e = .returned (.tuple #[ptrV f, .int .i64 0, .int .i64 0]) ∧ FsM w' w.heap.size f A c (Vf.new es).2.2 L ∧ Vf.Good (Vf.new es).2.2 ∧ (Vf.new es).2.2.length = es.length + 1 ∧ (Vf.new es).2.1 = 0 ∧ es.length ≤ 64))
/-- The first world: a root alone. -/
theorem FsM.start (w : World) : FsM ((((w.alloc (.map #[] 0)).alloc (.cells #[.int .u8 2, .int .u16 493, .int .u32 0, .int .u32 0, .int .i64 0, .int .i64 0, .pointer (some ⟨w.heap.size + 1, 0, none⟩), .string ⟨#[]⟩, .map (some w.heap.size)] 88)).alloc (.cells #[.iface 70 (.pointer (some ⟨w.heap.size + 1, 0, none⟩))] 68)).alloc (.cells #[.slice (some ⟨w.heap.size + 2, 0, none⟩) 1 1] 104)) w.heap.size (w.heap.size + 3) (some ⟨w.heap.size + 2, 0, none⟩) 1 [Vf.root] [⟨w.heap.size + 1, w.heap.size, none, 0, 0⟩] := by
  have m0 := MapG.nil w .string
  have d1 : Blk ((w.alloc (.map #[] 0)).alloc (.cells #[.int .u8 2, .int .u16 493, .int .u32 0, .int .u32 0, .int .i64 0, .int .i64 0, .pointer (some ⟨w.heap.size + 1, 0, none⟩), .string ⟨#[]⟩, .map (some w.heap.size)] 88)) (w.heap.size + 1) 88 [.int .u8 2, .int .u16 493, .int .u32 0, .int .u32 0, .int .i64 0, .int .i64 0, .pointer (some ⟨w.heap.size + 1, 0, none⟩), .string ⟨#[]⟩, .map (some w.heap.size)] := by
    have := Blk.new (w.alloc (.map #[] 0)) 88 [.int .u8 2, .int .u16 493, .int .u32 0, .int .u32 0, .int .i64 0, .int .i64 0, .pointer (some ⟨w.heap.size + 1, 0, none⟩), .string ⟨#[]⟩, .map (some w.heap.size)]
    rw [World.size_alloc] at this
    exact this
  have m2 := (m0.belowSz ((Below.refl _ _).alloc (Nat.le_refl _) (.cells #[.int .u8 2, .int .u16 493, .int .u32 0, .int .u32 0, .int .i64 0, .int .i64 0, .pointer (some ⟨w.heap.size + 1, 0, none⟩), .string ⟨#[]⟩, .map (some w.heap.size)] 88)))
  generalize hW : (w.alloc (.map #[] 0)).alloc (.cells #[.int .u8 2, .int .u16 493, .int .u32 0, .int .u32 0, .int .i64 0, .int .i64 0, .pointer (some ⟨w.heap.size + 1, 0, none⟩), .string ⟨#[]⟩, .map (some w.heap.size)] 88) = W at *
  have hsz : W.heap.size = w.heap.size + 2 := by rw [← hW]; simp
  have r0 : (W.alloc (.cells #[.iface 70 (.pointer (some ⟨w.heap.size + 1, 0, none⟩))] 68)).ownsRow w.heap.size 68 1 (.slice (some ⟨w.heap.size + 2, 0, none⟩) 1 1) 1 [.iface 70 (.pointer (some ⟨w.heap.size + 1, 0, none⟩))] :=
    ⟨rfl, .inr ⟨w.heap.size + 2, 1, #[.iface 70 (.pointer (some ⟨w.heap.size + 1, 0, none⟩))], rfl, by omega, by rw [← hsz]; exact heap_alloc_new _ _, by omega, by unfold maxLen; omega, rfl, rfl⟩⟩
  have f0 := Blk.new (W.alloc (.cells #[.iface 70 (.pointer (some ⟨w.heap.size + 1, 0, none⟩))] 68)) 104 [.slice (some ⟨w.heap.size + 2, 0, none⟩) 1 1]
  rw [World.size_alloc, hsz] at f0
  have hbb : Below W.heap.size W ((W.alloc (.cells #[.iface 70 (.pointer (some ⟨w.heap.size + 1, 0, none⟩))] 68)).alloc (.cells #[.slice (some ⟨w.heap.size + 2, 0, none⟩) 1 1] 104)) := ((Below.refl _ _).alloc (Nat.le_refl _) _).alloc (by simp) _
  have only : ∀ {i : Nat} {x : Vf.Nd} {p : Pl}, [Vf.root][i]? = some x → [(⟨w.heap.size + 1, w.heap.size, none, 0, 0⟩ : Pl)][i]? = some p → i = 0 ∧ x = Vf.root ∧ p = ⟨w.heap.size + 1, w.heap.size, none, 0, 0⟩ := by
    intro i x p h1 h2
    cases i with
    | zero => exact ⟨rfl, by simpa using h1.symm, by simpa using h2.symm⟩
    | succ i => simp at h1
  refine ⟨rfl, by omega, f0, r0.alloc _, ?_, ?_, ?_, ?_⟩
  · intro i x p h1 h2
    obtain ⟨rfl, rfl, rfl⟩ := only h1 h2
    exact ⟨by simp, _, rfl, d1.belowSz hbb⟩
  · intro i x p h1 h2 h3
    obtain ⟨rfl, rfl, rfl⟩ := only h1 h2
    cases h3
  · intro i x p h1 h2 h3
    obtain ⟨rfl, rfl, rfl⟩ := only h1 h2
    exact ⟨Nat.le_refl _, m2.belowSz hbb⟩
  · intro i j x y p r h1 h2 h3 h4 _ _ _
    rw [(only h1 h3).1, (only h2 h4).1]
theorem adds_step {F : List Vf.Nd} {es : List Vf.Ent} {k : Nat} {x : Vf.Ent} (hx : es[k]? = some x) : Vf.adds F k (es.drop k) = if (Vf.add F x).1 ≠ 0 then ((Vf.add F x).1, k, F) else Vf.adds (Vf.add F x).2 (k + 1) (es.drop (k + 1)) := by
  have hlt := (List.getElem?_eq_some_iff.1 hx).1
  rw [List.drop_eq_getElem_cons hlt, (List.getElem?_eq_some_iff.1 hx).2]
  rfl

set_option maxRecDepth 100000 in
set_option maxHeartbeats 4000000 in
theorem new_any (l : List EntA) (A : Option Addr) (n c : Nat) (w : World) (h : Rd w w.heap.size 7 A n (rowCs entVals l)) (hl : l.length = n) (hok : ∀ s ∈ l, EntOk w s) (hn : n ≤ 4294967296) :
    Calls Try.prog 25 #[.slice A n c] w (NewE (l.map (·.e)) w) := by
  have hlm : (l.map (·.e)).length = n := by simpa using hl
  have hmm := @run_makeMap Try.prog
  have H := hide h
  have Hl := hide hl
  have Hok := hide hok
  have Hlm := hide hlm
  clear h hl hok hlm
  by_cases h64 : 64 < n
  · have g1 : (64 : Int) < (n : Int) := by omega
    have hnew : Vf.new (l.map (·.e)) = (15, -1, []) := by unfold Vf.new; rw [if_pos (by rw [unhide Hlm]; exact h64)]
    have Hnew := hide hnew
    clear h64 hnew
    go_enter Try.func25, Try.ntmps25
    go_wp2_with fail
    go_ret3
    unfold NewE
    rw [unhide Hnew]
    exact ⟨Below.refl _ _, .inl ⟨by decide, rfl⟩⟩
  · have g1 : ¬ (64 : Int) < (n : Int) := by omega
    have hFS := FsM.start w
    have HFS := hide hFS
    clear hFS
    go_enter Try.func25, Try.ntmps25
    go_wp2_with fail
    have hB4 : Below w.heap.size w ((((w.alloc (.map #[] 0)).alloc (.cells #[.int .u8 2, .int .u16 493, .int .u32 0, .int .u32 0, .int .i64 0, .int .i64 0, .pointer (some ⟨w.heap.size + 1, 0, none⟩), .string ⟨#[]⟩, .map (some w.heap.size)] 88)).alloc (.cells #[.iface 70 (.pointer (some ⟨w.heap.size + 1, 0, none⟩))] 68)).alloc (.cells #[.slice (some ⟨w.heap.size + 2, 0, none⟩) 1 1] 104)) :=
      ((((Below.refl _ _).alloc (Nat.le_refl _) _).alloc (by simp) _).alloc (by simp; omega) _).alloc (by simp; omega) _
    have HB4 := hide hB4
    clear hB4
    go_loopg [30] n (fun gk iv wr => ∃ (k : Nat) (F : List Vf.Nd) (L : List Pl) (A' : Option Addr) (c' : Nat), gk = n - k ∧ k ≤ n ∧ iv = .int .i64 (k : Nat) ∧ Vf.adds [Vf.root] 0 (l.map (·.e)) = Vf.adds F k ((l.map (·.e)).drop k) ∧ Vf.Good F ∧ F.length = k + 1 ∧ FsM wr w.heap.size (w.heap.size + 3) A' c' F L ∧ Below w.heap.size w wr)
    case atStart => exact ⟨0, [Vf.root], _, _, _, by omega, Nat.zero_le _, rfl, rfl, Vf.good_root, rfl, unhide HFS, unhide HB4⟩
    case round =>
    obtain ⟨k, F, L, A', c', hgk, hk, rfl, hadds, hF, hFl, hFS, hB⟩ := hrel
    have Hgk := hide hgk
    have Hadds := hide hadds
    have HF := hide hF
    have HFl := hide hFl
    have HFSk := hide hFS
    have HB := hide hB
    clear hgk hadds hF hFl hFS hB
    by_cases hlt : k < n
    · obtain ⟨s, hs⟩ : ∃ s, l[k]? = some s := ⟨_, List.getElem?_eq_getElem (by rw [unhide Hl]; exact hlt)⟩
      obtain ⟨b1, o1, rfl, hb1, c1⟩ := (unhide H).open_ (by
        intro h0
        have := rowCs_len (vals := entVals) (size := 7) (fun _ => rfl) l
        rw [h0, unhide Hl] at this
        simp at this
        omega)
      have hc : ∀ j u, (entVals s)[j]? = some u → wr.cell? ⟨b1, o1 + (k * 7 + j), none⟩ = some u := by
        intro j u hu
        have hj : j < 7 := (List.getElem?_eq_some_iff.1 hu).1
        refine ((unhide HB).cell (p := ⟨b1, _, none⟩) hb1).trans (c1 _ _ ?_)
        rw [rowCs_at (vals := entVals) (size := 7) (fun _ => rfl) l k s hs j hj, hu]
      have x0 := hc 0 _ rfl
      have x1 := hc 1 _ rfl
      have x2 := hc 2 _ rfl
      have x3 := hc 3 _ rfl
      have x4 := hc 4 _ rfl
      have x5 := hc 5 _ rfl
      have x6 := hc 6 _ rfl
      rw [Nat.add_zero] at x0
      simp only [← Nat.add_assoc] at x1 x2 x3 x4 x5 x6
      have ilt : (k : Int) < (n : Int) := by omega
      have Hs := hide hs
      have hsm : s ∈ l := List.mem_of_getElem? hs
      have hes : (l.map (·.e))[k]? = some s.e := by rw [List.getElem?_map, hs]; rfl
      have hstep := adds_step (F := F) hes
      have hok := (unhide Hok) s hsm
      have hbA : Below w.heap.size w (wr.alloc (.cells #[.string s.e.path, .int .u8 (s.e.kind : Nat), .int .u16 (s.e.mode : Nat), .int .u32 (s.e.uid : Nat), .int .u32 (s.e.gid : Nat), .slice s.A s.n s.c, .string s.e.to] 60)) := (unhide HB).alloc (unhide HB).size _
      have hok2 := hok.below hbA
      have KA := add_any F L w.heap.size (w.heap.size + 3) c' A' s.A s.n s.c s.e (wr.alloc (.cells #[.string s.e.path, .int .u8 (s.e.kind : Nat), .int .u16 (s.e.mode : Nat), .int .u32 (s.e.uid : Nat), .int .u32 (s.e.gid : Nat), .slice s.A s.n s.c, .string s.e.to] 60)) (unhide HF) ((unhide HFSk).belowSz ((Below.refl _ _).alloc (Nat.le_refl _) _)) hbA.size (by rw [unhide HFl]; omega) hok2.d hok2.n hok2.p hok2.t hok2.m
      unfold entV ptrV at KA
      have HKA := hide KA
      have HbA := hide hbA
      have Hstep := hide hstep
      clear hc c1 hs hsm hes hstep hok hbA hok2 KA
      go_wp2_with fail
      refine (unhide HKA).mono ?_
      rintro e w2 ⟨rfl, hfs2, hb2⟩
      have Hb2 := hide ((unhide HbA).trans hb2)
      by_cases ha : (Vf.add F s.e).1 = 0
      · obtain ⟨L2, A2, c2, hF2⟩ := hfs2 ha
        have HF2 := hide hF2
        have hg2 := Vf.add_good (unhide HF) ha
        have hst := unhide Hstep
        rw [if_neg (by simp [ha])] at hst
        have hlen2 : (Vf.add F s.e).2.length = k + 1 + 1 := by
          obtain ⟨_, up, _, _, _, he⟩ := Vf.add_ok ha
          rw [he, List.length_append, unhide HFl]
          rfl
        have Hg2 := hide hg2
        have Hst := hide hst
        have Hlen2 := hide hlen2
        rw [ha]
        clear ha hfs2 hb2 hF2 hg2 hst hlen2 x0 x1 x2 x3 x4 x5 x6
        go_wp2_with fail
        go_roundg (n - (k + 1))
        case rel => exact ⟨k + 1, _, L2, A2, c2, rfl, by omega, by go_num, (unhide Hadds).trans (unhide Hst), unhide Hg2, unhide Hlen2, unhide HF2, unhide Hb2⟩
        case measure => rw [unhide Hgk]; omega
      · obtain ⟨er, her⟩ : ∃ v, (Vf.add F s.e).1 = v := ⟨_, rfl⟩
        have q1 : (er != 0) = true := by rw [← her]; simp [ha]
        have hst := unhide Hstep
        rw [if_pos ha] at hst
        have hnew : Vf.new (l.map (·.e)) = (er, ((k : Nat) : Int), []) := by
          unfold Vf.new
          rw [if_neg (by rw [unhide Hlm]; exact h64), (unhide Hadds).trans hst, her]
          rw [her] at ha
          rw [if_pos ha]
        have Hnew := hide hnew
        rw [her] at ha
        have Ha := hide ha
        rw [her]
        clear ha hfs2 hb2 hst hnew her x0 x1 x2 x3 x4 x5 x6
        go_wp2_with fail
        go_ret3
        unfold NewE
        rw [unhide Hnew]
        exact ⟨unhide Hb2, .inl ⟨unhide Ha, rfl⟩⟩
    · have hkn : k = n := by omega
      have ilt : ¬ (k : Int) < (n : Int) := by omega
      go_wp2_with fail
      go_ret3
      have ha := unhide Hadds
      rw [List.drop_of_length_le (by rw [unhide Hlm]; omega)] at ha
      have hnew : Vf.new (l.map (·.e)) = (0, 0, F) := by
        unfold Vf.new
        rw [if_neg (by rw [unhide Hlm]; exact h64), ha]
        rfl
      unfold NewE
      rw [hnew]
      exact ⟨unhide HB, .inr ⟨rfl, _, A', c', L, rfl, unhide HFSk, unhide HF, by rw [unhide HFl, unhide Hlm, hkn], rfl, by rw [unhide Hlm]; omega⟩⟩
end Go.Proofs.Yteiciabhfjakgaa
namespace Go.Proofs.Yteiciabhfjakgaa
set_option linter.unusedVariables false
set_option linter.unusedSimpArgs false
open Go.RowKit

theorem as_file (v : Value) (w : World) : (Instr.typeAssert (.iface 80 v) 68 80 true).run Try.prog w = .ok (.tuple #[v, .bool true]) w := by
  simp [Instr.typeAssert, run_underlying Try.underlying80, go_sem, Result.andThen]
theorem zero_file (w : World) : (zeroValue 80).run Try.prog w = .ok (.pointer none) w := by kernel_rfl
theorem link_no_file (v : Value) (w : World) : (Instr.typeAssert (.iface 121 v) 68 80 true).run Try.prog w = .ok (.tuple #[.pointer none, .bool false]) w := by
  simp [Instr.typeAssert, run_underlying Try.underlying80, zero_file, go_sem, Result.andThen]

/-- What Read answers: the bytes, in rows of the call's own. -/
def ReadVE (F : List Vf.Nd) (ino off n : Int) (w : World) (e : Ending) (w' : World) : Prop :=
  ∃ A' c', e = .returned (.tuple #[.slice A' (Vf.readOf F ino off n).1.length c', .int .i64 (Vf.readOf F ino off n).2]) ∧ w'.ownsRow w.heap.size 5 1 (.slice A' (Vf.readOf F ino off n).1.length c') (Vf.readOf F ino off n).1.length (bys (Vf.readOf F ino off n).1) ∧ Below w.heap.size w w'
theorem readVE_nil {F : List Vf.Nd} {ino off n : Int} {w w' : World} {er : Int} (h : Vf.readOf F ino off n = ([], er)) (hb : Below w.heap.size w w') : ReadVE F ino off n w (.returned (.tuple #[.slice none 0 0, .int .i64 er])) w' := by
  unfold ReadVE
  rw [h]
  exact ⟨none, 0, rfl, World.ownsRow_nil _ _ _ _, hb⟩

set_option maxRecDepth 100000 in
set_option maxHeartbeats 4000000 in
theorem read_any (F : List Vf.Nd) (L : List Pl) (lo f c : Nat) (A : Option Addr) (ino off n : Int) (w : World) (hF : Vf.Good F) (h : FsM w lo f A c F L) (hn : F.length ≤ 65) :
    Calls Try.prog 15 #[ptrV f, .int .i64 ino, .int .i64 off, .int .i64 n] w (ReadVE F ino off n w) := by
  have KM := meta_any F L f c w.heap.size A ino w h.toR (Nat.le_refl _) hn hF.kind
  have KN : ∀ w', Below w.heap.size w w' → Calls Try.prog 30 #[.pointer (some ⟨f, 0, none⟩), .int .i64 ino] w' fun e w2 => e = .returned (nodeV F L ino) ∧ w' = w2 :=
    fun w' hb => node_any F L f c _ A ino w' (h.belowSz hb).toR hn
  unfold ptrV metaV at KM
  obtain ⟨⟨⟨mk, mm, mu, mg, ms⟩, me⟩, hm⟩ : ∃ r, Vf.metaOf F ino = r := ⟨_, rfl⟩
  rw [hm] at KM
  dsimp only at KM
  have HKM := hide KM
  have HKN := hide KN
  have HF := hide hF
  have H := hide h
  have Hm := hide hm
  unfold ptrV
  clear KM KN hF h hm
  go_enter Try.func15, Try.ntmps15
  go_wp2_with fail
  refine (unhide HKM).mono ?_
  rintro e w1 ⟨rfl, hb1⟩
  have hb2 := (unhide (hide hb1)).alloc hb1.size (.cells #[.int .u8 (mk : Nat), .int .u16 (mm : Nat), .int .u32 (mu : Nat), .int .u32 (mg : Nat), .int .i64 (ms : Nat)] 32)
  have Hb2 := hide hb2
  clear hb1 hb2
  by_cases hme : me = 0
  · subst hme
    have hre : Vf.readOf F ino off n = if mk = 2 then ([], 9) else if mk = 3 ∨ off < 0 ∨ n < 0 then ([], 1) else (((Vf.nd F ino.toNat).data.drop off.toNat).take n.toNat, 0) := by
      unfold Vf.readOf
      rw [unhide Hm]
      simp
    have q0 : ((0 : Int) != 0) = false := rfl
    obtain ⟨i, hio, x, hx, hmx⟩ : ∃ i : Nat, ino = (i : Int) ∧ ∃ x, F[i]? = some x ∧ (⟨mk, mm, mu, mg, ms⟩ : Vf.Meta) = x.m := by
      have h := unhide Hm
      unfold Vf.metaOf at h
      split at h
      · injection h with _ h2; cases h2
      · next ho =>
        obtain ⟨i, rfl⟩ := Int.eq_ofNat_of_zero_le (show 0 ≤ ino by omega)
        have hi : i < F.length := by simp at ho; omega
        refine ⟨i, rfl, F[i], List.getElem?_eq_getElem hi, ?_⟩
        injection h with h1 _
        rw [Int.toNat_natCast, Vf.nd_eq (List.getElem?_eq_getElem hi)] at h1
        exact h1.symm
    have hmk : x.m.kind = mk := by rw [← hmx]
    obtain ⟨p, hp, _, _⟩ := (unhide H).at_ hx
    have en := nodeV_in (unhide H) hx hp
    rw [← hio] at en
    have hk3 := kind3 (unhide HF) hx
    rw [hmk] at hk3 en
    by_cases h2 : mk = 2
    · have b1 : (((mk : Nat) : Int) == 2) = true := by rw [h2]; rfl
      rw [if_pos h2] at hre
      have Hre := hide hre
      clear hre hmx hx hp en hk3 hmk h2 hio
      go_wp2_with fail
      go_ret2
      exact readVE_nil (unhide Hre) (unhide Hb2)
    · have b1 : (((mk : Nat) : Int) == 2) = false := by rw [beq_eq_false_iff_ne]; omega
      rw [if_neg h2] at hre
      have hHW := ((unhide H).belowSz (unhide Hb2))
      by_cases h3 : mk = 3
      · have et : kindT mk = 121 := by rw [h3]; rfl
        rw [et] at en
        rw [if_pos (.inl h3)] at hre
        have ha := link_no_file (.pointer (some ⟨p.q, 0, none⟩))
        have KN2 := (unhide HKN) _ (unhide Hb2)
        rw [en] at KN2
        have HKN2 := hide KN2
        have Hre := hide hre
        clear hre hmx hx hp en hk3 hmk h2 h3 hio et hHW KN2
        go_wp2_with fail
        refine (unhide HKN2).mono ?_
        rintro e w3 ⟨rfl, rfl⟩
        go_wp2_with fail
        go_ret2
        exact readVE_nil (unhide Hre) (unhide Hb2)
      · have h1 : mk = 1 := by omega
        have et : kindT mk = 80 := by rw [h1]; rfl
        rw [et] at en
        have ha := as_file (.pointer (some ⟨p.q, 0, none⟩))
        have KN2 := (unhide HKN) _ (unhide Hb2)
        rw [en] at KN2
        have HKN2 := hide KN2
        by_cases ho : off < 0 ∨ n < 0
        · rw [if_pos (.inr ho)] at hre
          have Hre := hide hre
          have hon : off < 0 ∨ (¬ off < 0 ∧ n < 0) := by omega
          clear hre hmx hx hp en hk3 hmk h2 h3 hio et hHW KN2 h1 ho
          rcases hon with o1 | ⟨o1, o2⟩
          all_goals
            go_wp2_with fail
            refine (unhide HKN2).mono ?_
            rintro e w3 ⟨rfl, rfl⟩
            go_wp2_with fail
            go_ret2
            exact readVE_nil (unhide Hre) (unhide Hb2)
        · rw [if_neg (by omega)] at hre
          obtain ⟨_, u, _, hbk⟩ := hHW.nd i x p hx hp
          obtain ⟨hpn, hpc, hby⟩ := hHW.byt i x p hx hp (by rw [hmk]; exact h1)
          have c8 := hbk.cell (i := 8) rfl
          have e8 : lastV x p = .slice p.A p.n p.c := by unfold lastV; rw [if_neg (by rw [hmk]; exact h2), if_pos (by rw [hmk]; exact h1)]
          rw [e8] at c8
          have hndx : Vf.nd F ino.toNat = x := by rw [hio, Int.toNat_natCast, Vf.nd_eq hx]
          rw [hndx] at hre
          clear hndx
          have hsz := ((unhide HF).size i x hx).2.2
          obtain ⟨o, rfl⟩ := Int.eq_ofNat_of_zero_le (show 0 ≤ off by omega)
          obtain ⟨m, rfl⟩ := Int.eq_ofNat_of_zero_le (show 0 ≤ n by omega)
          simp only [Int.toNat_natCast] at hre
          obtain ⟨k, hk⟩ : ∃ k, min o p.n = k := ⟨_, rfl⟩
          obtain ⟨j, hj⟩ : ∃ j, min m (p.n - k) = j := ⟨_, rfl⟩
          have hrd := hby.rd
          have hrd2 := ((hrd.from_ (k := k) (by omega) hpc).to_ (k := j) (by omega))
          have hbb : ((List.map (fun b => Value.int .u8 (b.toNat : Nat)) x.data).drop k).take j = bys ((x.data.drop o).take m) := by
            show ((bys x.data).drop k).take j = _
            unfold bys
            rw [← List.map_drop, ← List.map_take]
            congr 1
            apply List.ext_getElem?
            intro t
            simp only [List.getElem?_take, List.getElem?_drop]
            by_cases h9 : t < j
            · rw [if_pos h9, if_pos (by omega), show k = o by omega]
            · rw [if_neg h9]
              split
              · rw [List.getElem?_eq_none (by omega)]
              · rfl
          rw [hbb] at hrd2
          have hdl : ((x.data.drop o).take m).length = j := by
            rw [List.length_take, List.length_drop]
            omega
          have r1 := fun w' => run_from (P := Try.prog) Try.underlying36 (e := 5) (by kernel_rfl) p.A p.n p.c k (by omega) w'
          have r2 := fun w' => run_to (P := Try.prog) Try.underlying36 (e := 5) (by kernel_rfl) (fromA p.A p.c k) (p.n - k) (p.c - k) j (by omega) w'
          have m1 : min (o : Int) (p.n : Int) = (k : Int) := by omega
          have m2 : min (m : Int) ((p.n - k : Nat) : Int) = (j : Int) := by omega
          have KC := fun w' (hb : Below _ (w1.alloc (.cells #[.int .u8 (mk : Nat), .int .u16 (mm : Nat), .int .u32 (mu : Nat), .int .u32 (mg : Nat), .int .i64 (ms : Nat)] 32)) w') => cloneB_any (fromA p.A p.c k) j (p.c - k) _ ((x.data.drop o).take m) w' (hrd2.below hb) hb.size (by omega)
          have HKC := hide KC
          have Hdl := hide hdl
          have Hre := hide hre
          have hon1 : ¬ (o : Int) < 0 := by omega
          have hon2 : ¬ (m : Int) < 0 := by omega
          obtain ⟨A3, hA3⟩ : ∃ A3, fromA p.A p.c k = A3 := ⟨_, rfl⟩
          rw [hA3] at r1 r2 HKC
          clear hre hmx hx hp en hk3 hmk h2 h3 hio et hHW KN2 h1 ho hbk hpn hpc hby e8 hsz hk hj hrd hrd2 hbb hdl KC hA3
          go_wp2_with fail
          refine (unhide HKN2).mono ?_
          rintro e w3 ⟨rfl, rfl⟩
          go_wp2_with fail
          go_quiet (fail)
          go_wp2_with fail
          refine ((unhide HKC) _ (below_drewN' (Below.refl _ _) _)).mono ?_
          rintro e w4 ⟨A5, c5, rfl, ho5, hb5⟩
          have hb6 := (below_drewN' (unhide Hb2) nq).trans (hb5.mono (unhide Hb2).size)
          have ho6 := own_base ho5 (unhide Hb2).size
          have Hb6 := hide hb6
          have Ho6 := hide ho6
          clear hb5 ho5 hb6 ho6
          go_wp2_with fail
          go_ret2
          unfold ReadVE
          rw [unhide Hre]
          dsimp only
          rw [unhide Hdl]
          exact ⟨A5, c5, rfl, unhide Ho6, unhide Hb6⟩
  · have hre : Vf.readOf F ino off n = ([], me) := by
      unfold Vf.readOf
      rw [unhide Hm]
      simp [hme]
    have q0 : (me != 0) = true := by simp [hme]
    have Hre := hide hre
    clear hre hme
    go_wp2_with fail
    go_ret2
    exact readVE_nil (unhide Hre) (unhide Hb2)
end Go.Proofs.Yteiciabhfjakgaa
namespace Go.Proofs.Yteiciabhfjakgaa.Vf
set_option linter.unusedVariables false
set_option linter.unusedSimpArgs false

theorem names_more {F : List Nd} (h : Good F) : ∀ (i k : Nat), i < F.length → i ≤ k → names F k i = names F i i := by
  intro i
  induction i using Nat.strongRecOn with
  | ind i ih =>
    intro k hi hk
    cases i with
    | zero =>
      cases k with
      | zero => rfl
      | succ k => rfl
    | succ j =>
      obtain ⟨k, rfl⟩ : ∃ k', k = k' + 1 := ⟨k - 1, by omega⟩
      obtain ⟨x, hx⟩ : ∃ x, F[j + 1]? = some x := ⟨_, List.getElem?_eq_getElem hi⟩
      have hu := (h.up (j + 1) x hx (by omega)).1
      unfold names
      rw [if_neg (by omega), if_neg (by omega), nd_eq hx, ih x.up hu k (by omega) (by omega), ih x.up hu j (by omega) (by omega)]
def nmsP (F : List Nd) (i : Nat) : List ByteArray := names F i i
theorem nmsP_zero (F : List Nd) : nmsP F 0 = [] := rfl
theorem nmsP_succ {F : List Nd} (h : Good F) {i : Nat} {x : Nd} (hx : F[i]? = some x) (h1 : 1 ≤ i) : nmsP F i = nmsP F x.up ++ [x.name] := by
  have hi := (List.getElem?_eq_some_iff.1 hx).1
  have hu := (h.up i x hx h1).1
  obtain ⟨j, rfl⟩ : ∃ j, i = j + 1 := ⟨i - 1, by omega⟩
  unfold nmsP
  conv => lhs; unfold names
  rw [if_neg (by omega), nd_eq hx, names_more h x.up j (by omega) (by omega)]
theorem pathOf_in {F : List Nd} (h : Good F) {i : Nat} (hi : i < F.length) : pathOf F (i : Nat) = if i = 0 then ⟨#[47]⟩ else slashed (nmsP F i) := by
  unfold pathOf
  rw [if_neg (by simp; omega)]
  simp only [Int.toNat_natCast]
  rw [names_more h i F.length hi (by omega)]
  by_cases h0 : i = 0
  · rw [if_pos h0, if_pos (by omega)]
  · rw [if_neg h0, if_neg (by omega)]
    rfl
theorem pathOf_out {F : List Nd} {ino : Int} (h : ino < 0 ∨ F.length ≤ ino.toNat) : pathOf F ino = ⟨#[]⟩ := by unfold pathOf; rw [if_pos h]
theorem nmsP_ne {F : List Nd} (h : Good F) {i : Nat} (hi : i < F.length) (h1 : 1 ≤ i) : nmsP F i ≠ [] := by
  rw [nmsP_succ h (List.getElem?_eq_getElem hi) h1]
  simp
theorem nmsP_sz {F : List Nd} (h : Good F) : ∀ (i : Nat), i < F.length → (∀ x ∈ nmsP F i, x.size ≤ 32) ∧ (nmsP F i).length ≤ i := by
  intro i
  induction i using Nat.strongRecOn with
  | ind i ih =>
    intro hi
    by_cases h1 : 1 ≤ i
    · obtain ⟨x, hx⟩ : ∃ x, F[i]? = some x := ⟨_, List.getElem?_eq_getElem hi⟩
      have hu := (h.up i x hx h1).1
      obtain ⟨a, b⟩ := ih x.up hu (by omega)
      rw [nmsP_succ h hx h1]
      refine ⟨fun y hy => ?_, ?_⟩
      · rcases List.mem_append.1 hy with hy | hy
        · exact a y hy
        · rw [List.mem_singleton] at hy
          rw [hy]
          exact h.nmsz i x hx
      · rw [List.length_append, List.length_singleton]
        omega
    · obtain rfl : i = 0 := by omega
      rw [nmsP_zero]
      simp
theorem slashed_toList (xs : List ByteArray) : (slashed xs).data.toList = (xs.map fun x => 47 :: x.data.toList).flatten := by
  induction xs with
  | nil => rfl
  | cons x r ih =>
    unfold slashed
    simp [ih]
theorem join_slashed {xs : List ByteArray} (h : xs ≠ []) : (⟨#[47]⟩ : ByteArray) ++ ⟨(Lib.join (xs.map (·.data.toList)) [47]).toArray⟩ = slashed xs := by
  cases xs with
  | nil => exact absurd rfl h
  | cons x r =>
    apply ByteArray.ext
    apply Array.toList_inj.1
    rw [slashed_toList, List.map_cons, Lib.join_cons]
    simp [Lib.joinTail, Function.comp_def]
theorem join_len (xs : List ByteArray) (n : Nat) (h : ∀ x ∈ xs, x.size ≤ n) : (Lib.join (xs.map (·.data.toList)) [47]).length ≤ xs.length * (n + 1) := by
  cases xs with
  | nil => simp [Lib.join_nil]
  | cons x r =>
    rw [List.map_cons, Lib.join_cons]
    have h2 : ∀ (l : List ByteArray), (∀ x ∈ l, x.size ≤ n) → (Lib.joinTail [47] (l.map (·.data.toList))).length ≤ l.length * (n + 1) := by
      intro l
      induction l with
      | nil => intro _; simp [Lib.joinTail]
      | cons y t ih =>
        intro hy
        have := ih (fun z hz => hy z (by simp [hz]))
        have hy1 := hy y (by simp)
        have hy2 : y.data.toList.length = y.size := by simp
        unfold Lib.joinTail at this ⊢
        simp only [List.map_cons, List.flatten_cons, List.length_append, List.length_cons, List.length_nil] at this ⊢
        rw [Nat.succ_mul]
        omega
    have h3 := h2 r (fun z hz => h z (by simp [hz]))
    have h4 := h x (by simp)
    have h5 : x.data.toList.length = x.size := by simp
    rw [List.length_append, List.length_cons, Nat.succ_mul]
    omega
end Go.Proofs.Yteiciabhfjakgaa.Vf
namespace Go.Proofs.Yteiciabhfjakgaa
set_option linter.unusedVariables false
set_option linter.unusedSimpArgs false
open Go.RowKit Go.Lib Go.Sort

theorem below_setCellsR {B : Nat} {a : World} (b : Nat) (hb : B ≤ b) : ∀ (vs : List Value) (o : Nat) {w : World}, Below B a w → Below B a (w.setCells b o vs)
  | [], _, _, h => h
  | v :: r, o, _, h => below_setCellsR b hb r (o + 1) (h.setCell (p := ⟨b, o, none⟩) hb v)
def RevE (A : Option Addr) (n base : Nat) (l : List ByteArray) (w : World) (e : Ending) (w' : World) : Prop :=
  e = .returned (.tuple #[]) ∧ Rd w' w'.heap.size 1 A n (l.reverse.map Value.string) ∧ Below base w w'
theorem rev_any (A : Option Addr) (n c base : Nat) (l : List ByteArray) (w : World) (h : w.ownsRow base 9 1 (.slice A n c) n (l.map Value.string)) (hn : n ≤ 4294967296) :
    Calls Try.prog 34 #[.slice A n c] w (RevE A n base l w) := by
  have hl : l.length = n := by simpa using h.1
  by_cases h0 : n = 0
  · subst h0
    have h1 : l = [] := List.eq_nil_of_length_eq_zero hl
    subst h1
    refine (Try.slices_Reverse_string_empty A c w).mono ?_
    rintro e w' ⟨rfl, rfl⟩
    exact ⟨rfl, ⟨rfl, .inl rfl⟩, Below.refl _ _⟩
  · obtain ⟨g, rfl, hbg, hgl⟩ := own_some h (by omega)
    have hc : ∀ i, i < n → w.cell? ⟨g, 0 + i, none⟩ = some (.string (l.getD i ⟨#[]⟩)) := by
      intro i hi
      rw [Nat.zero_add]
      refine own_cell h ?_
      rw [List.getElem?_map, List.getElem?_eq_getElem (by omega), List.getD_eq_getElem?_getD, List.getElem?_eq_getElem (by omega)]
      rfl
    refine (Try.slices_Reverse_string_cells g 0 n c (fun i => l.getD i ⟨#[]⟩) w (by omega) hc (fun j _ => own_free h _)).mono ?_
    rintro e w' ⟨rfl, q, rfl⟩
    have hs : Lib.strsOf (fun i => l.getD i ⟨#[]⟩) n = l.map fun x => x.data.toList := by
      unfold Lib.strsOf
      apply List.ext_getElem?
      intro i
      rw [List.getElem?_map, List.getElem?_map]
      by_cases hi : i < n
      · rw [List.getElem?_range hi, List.getElem?_eq_getElem (by omega)]
        simp only [Option.map_some, List.getD_eq_getElem?_getD, List.getElem?_eq_getElem (show i < l.length by omega), Option.getD_some]
      · rw [List.getElem?_eq_none (by simp; omega), List.getElem?_eq_none (by omega)]
        rfl
    have hr : (Lib.strsOf (fun i => l.getD i ⟨#[]⟩) n).reverse.map encStr = l.reverse.map Value.string := by
      rw [hs, ← List.map_reverse, List.map_map]
      rfl
    rw [hr]
    have hb : Below base w ((w.drewN q).setCells g 0 (l.reverse.map Value.string)) := below_setCellsR g hbg _ 0 (below_drewN' (Below.refl _ _) q)
    refine ⟨rfl, ⟨by simp; omega, .inr ⟨g, 0, rfl, ?_, fun j u hu => ?_⟩⟩, hb⟩
    · have : ∀ (vs : List Value) (o : Nat) (w : World), (w.setCells g o vs).heap.size = w.heap.size := by
        intro vs
        induction vs with
        | nil => intro o w; rfl
        | cons v r ih => intro o w; rw [World.setCells, ih]; simp
      rw [this]
      exact hgl
    · have hj : j < (l.reverse.map Value.string).length := (List.getElem?_eq_some_iff.1 hu).1
      rw [World.cell?_setCells_in g (l.reverse.map Value.string) 0 (w.drewN q) (fun i hi => ?_) j hj]
      · rw [← hu, List.getElem?_eq_getElem hj]
      · have : (w.drewN q).cell? ⟨g, 0 + i, none⟩ = w.cell? ⟨g, 0 + i, none⟩ := rfl
        rw [this, hc i (by simp at hi; omega)]
        rfl
theorem join_any' (A : Option Addr) (n c : Nat) (l : List ByteArray) (sep : ByteArray) (w : World) (h : Rd w w.heap.size 1 A n (l.map Value.string)) (hc : n ≤ c) (hn : n ≤ 4294967296) (hlen : (Lib.join (l.map (·.data.toList)) sep.data.toList).length ≤ 140737488355328) :
    Calls Try.prog 35 #[.slice A n c, .string sep] w fun e w' => e = .returned (.string ⟨(Lib.join (l.map (·.data.toList)) sep.data.toList).toArray⟩) ∧ Below w.heap.size w w' := by
  have hl : l.length = n := by simpa using h.1
  rcases h.2 with h0 | ⟨b, off, rfl, hb, hcl⟩
  · have h1 : l = [] := by simpa using h0
    subst h1
    simp only [List.length_nil] at hl
    subst hl
    refine (Try.strings_Join_none A c sep w).mono ?_
    rintro e w' ⟨rfl, rfl⟩
    exact ⟨rfl, Below.refl _ _⟩
  · subst hl
    exact Try.strings_Join b off c l sep w (fun j x hx => hcl j _ (by rw [List.getElem?_map, hx]; rfl)) hb (by omega) hc hlen
end Go.Proofs.Yteiciabhfjakgaa
namespace Go.Proofs.Yteiciabhfjakgaa
set_option linter.unusedVariables false
set_option linter.unusedSimpArgs false
open Go.RowKit Go.Lib Go.Sort

theorem meth_dir (w : World) (q : Nat) : (binOp .eql 68 (.iface 70 (.pointer (some ⟨q, 0, none⟩))) .nilIface).run Try.prog w = .ok (.bool false) w := by kernel_rfl
/-- Where the walk upwards stands: at node i, with the names below it. -/
def PaS (w : World) (F : List Vf.Nd) (L : List Pl) (i0 : Nat) (i : Nat) (lv bv : Value) (W : World) : Prop :=
  ∃ (p : Pl) (acc : List ByteArray) (A : Option Addr) (c : Nat), L[i]? = some p ∧ i < F.length ∧ bv = .pointer (some ⟨p.q, 0, none⟩) ∧ lv = .slice A acc.length c ∧ W.ownsRow w.heap.size 9 1 (.slice A acc.length c) acc.length (acc.map Value.string) ∧ Vf.nmsP F i0 = Vf.nmsP F i ++ acc.reverse ∧ acc.length + i ≤ i0 ∧ Below w.heap.size w W

set_option maxRecDepth 100000 in
set_option maxHeartbeats 4000000 in
theorem path_any (F : List Vf.Nd) (L : List Pl) (lo f c : Nat) (A : Option Addr) (ino : Int) (w : World) (hF : Vf.Good F) (h : FsM w lo f A c F L) (hn : F.length ≤ 65) :
    Calls Try.prog 18 #[ptrV f, .int .i64 ino] w fun e w' => e = .returned (.string (Vf.pathOf F ino)) ∧ Below w.heap.size w w' := by
  have KN := node_any F L f c _ A ino w h.toR hn
  have qn : ∀ w', (binOp .eql 68 .nilIface .nilIface).run Try.prog w' = .ok (.bool true) w' := fun w' => by kernel_rfl
  have qi : ∀ w' t v, (binOp .eql 68 (.iface t v) .nilIface).run Try.prog w' = .ok (.bool false) w' := fun w' t v => by kernel_rfl
  unfold ptrV at KN
  have HKN := hide KN
  have HF := hide hF
  have H := hide h
  obtain ⟨r, hr⟩ : ∃ r, Vf.pathOf F ino = r := ⟨_, rfl⟩
  rw [hr]
  have Hr := hide hr
  unfold ptrV
  clear KN hF h hr
  by_cases ho : ino < 0 ∨ F.length ≤ ino.toNat
  · have e1 := nodeV_out (L := L) ho
    rw [e1] at HKN
    have e2 := Vf.pathOf_out ho
    rw [unhide Hr] at e2
    clear e1 ho
    go_enter Try.func18, Try.ntmps18
    go_wp2_with fail
    refine (unhide HKN).mono ?_
    rintro e w1 ⟨rfl, rfl⟩
    go_wp2_with fail
    go_ret
    subst e2
    exact ⟨rfl, Below.refl _ _⟩
  · obtain ⟨i0, rfl⟩ := Int.eq_ofNat_of_zero_le (show 0 ≤ ino by omega)
    have hi : i0 < F.length := by simp at ho; omega
    obtain ⟨x0, hx0⟩ : ∃ x, F[i0]? = some x := ⟨_, List.getElem?_eq_getElem hi⟩
    obtain ⟨p0, hp0, _, _⟩ := (unhide H).at_ hx0
    have e1 := nodeV_in (unhide H) hx0 hp0
    rw [e1] at HKN
    have e2 := Vf.pathOf_in (unhide HF) hi
    rw [unhide Hr] at e2
    have He2 := hide e2
    have hms : ∃ t, kindT x0.m.kind = t ∧ ∀ w', (method 258 t (.pointer (some ⟨p0.q, 0, none⟩)) "hostel/vfs.about").run Try.prog w' = .ok (33, .pointer (some ⟨p0.q, 0, none⟩)) w' := by
      rcases kind3 (unhide HF) hx0 with h1 | h1 | h1
      · exact ⟨_, by rw [h1]; rfl, fun w' => about_file w' p0.q⟩
      · exact ⟨_, by rw [h1]; rfl, fun w' => about_dir w' p0.q⟩
      · exact ⟨_, by rw [h1]; rfl, fun w' => about_link w' p0.q⟩
    obtain ⟨t0, ht0, hm0⟩ := hms
    rw [ht0] at HKN
    have Hp0 := hide hp0
    have Hi0 := hide hi
    have HS0 : Hid (PaS w F L i0 i0 (.slice none 0 0) (.pointer (some ⟨p0.q, 0, none⟩)) w) := hide ⟨p0, [], none, 0, hp0, hi, rfl, rfl, World.ownsRow_nil _ _ _ _, by simp, by simp, Below.refl _ _⟩
    clear e1 e2 ho hx0 hp0 ht0 hi
    go_enter Try.func18, Try.ntmps18
    go_wp2_with fail
    refine (unhide HKN).mono ?_
    rintro e w1 ⟨rfl, rfl⟩
    go_wp2_with fail
    refine (unhide HKN).mono ?_
    rintro e w1 ⟨rfl, rfl⟩
    go_wp2_with fail
    refine (about_any _ _).mono ?_
    rintro e w1 ⟨rfl, rfl⟩
    go_wp2_with fail
    go_loopg [5, 6] i0 (fun gk lv bv wr => PaS w F L i0 gk lv bv wr)
    case atStart => exact unhide HS0
    case round =>
    obtain ⟨p, acc, A1, c1, hp, hi, rfl, rfl, ho1, hnm, hal, hb1⟩ := hrel
    have hi1 := unhide (hide hi)
    obtain ⟨x, hx⟩ : ∃ x, F[gk]? = some x := ⟨_, List.getElem?_eq_getElem hi⟩
    have HW := hide ((unhide H).belowSz hb1)
    obtain ⟨_, u, hu, hbk⟩ := (unhide HW).nd gk x p hx hp
    have c5 : wr.cell? ⟨p.q, 5, none⟩ = some (.int .i64 (gk : Nat)) := hbk.cell rfl
    have c6 : wr.cell? ⟨p.q, 6, none⟩ = some (.pointer (some ⟨u.q, 0, none⟩)) := hbk.cell rfl
    have c7 : wr.cell? ⟨p.q, 7, none⟩ = some (.string x.name) := hbk.cell rfl
    have Ho1 := hide ho1
    have Hnm := hide hnm
    have Hb1 := hide hb1
    have Hbk := hide hbk
    have Hu := hide hu
    have Hi := hide hi
    have Hx := hide hx
    have hsz := hb1.size
    have hal2 : acc.length ≤ 65 := by have := unhide Hi0; omega
    have Hal := hide hal
    by_cases h0 : gk = 0
    · subst h0
      have q0 : (((0 : Nat) : Int) != 0) = false := rfl
      clear hi hi1 hx hu hbk ho1 hnm hb1 hal hp
      have hnm0 := unhide Hnm
      rw [Vf.nmsP_zero, List.nil_append] at hnm0
      obtain ⟨al, hall⟩ : ∃ n, acc.length = n := ⟨_, rfl⟩
      have KRv := rev_any A1 al c1 w.heap.size acc wr (by rw [← hall]; exact unhide Ho1) (by omega)
      rw [hall] at Ho1 hal2 ⊢
      have hcap := own_cap (unhide Ho1)
      have HKRv := hide KRv
      have Hnm0 := hide hnm0
      have Hcap := hide hcap
      have Hall := hide hall
      clear KRv hnm0 hcap hall
      go_wp2_with fail
      refine (unhide HKRv).mono ?_
      rintro e w5 ⟨rfl, hr5, hb5⟩
      have hszs := Vf.nmsP_sz (unhide HF) i0 (unhide Hi0)
      rw [unhide Hnm0] at hszs
      have hjl := Vf.join_len acc.reverse 32 hszs.1
      rw [List.length_reverse, unhide Hall] at hjl
      have KJ := join_any' A1 al c1 acc.reverse ⟨#[47]⟩ w5 hr5 (unhide Hcap) (by omega) (by
        have : (⟨#[47]⟩ : ByteArray).data.toList = [47] := rfl
        rw [this]
        omega)
      obtain ⟨js, hjs⟩ : ∃ js : ByteArray, (⟨(Lib.join (acc.reverse.map (·.data.toList)) (⟨#[47]⟩ : ByteArray).data.toList).toArray⟩ : ByteArray) = js := ⟨_, rfl⟩
      have hjsz : js.size ≤ 4294967296 := by
        rw [← hjs]
        show (Lib.join (acc.reverse.map (·.data.toList)) [47]).toArray.size ≤ _
        rw [List.size_toArray]
        omega
      rw [hjs] at KJ
      have Hjs := hide hjs
      have HKJ := hide KJ
      have Hb5 := hide ((unhide Hb1).trans hb5)
      clear hr5 hb5 hszs hjl KJ hjs
      go_wp2_with fail
      refine (unhide HKJ).mono ?_
      rintro e w6 ⟨rfl, hb6⟩
      have Hb6 := hide ((unhide Hb5).trans (hb6.mono (unhide Hb5).size))
      clear hb6
      have hfin : (⟨#[47]⟩ : ByteArray) ++ js = r := by
        rw [unhide He2, ← unhide Hjs]
        by_cases h0 : i0 = 0
        · rw [if_pos h0]
          have : acc.reverse = [] := by rw [← unhide Hnm0, h0]; rfl
          rw [this]
          rfl
        · rw [if_neg h0, ← unhide Hnm0]
          exact Vf.join_slashed (Vf.nmsP_ne (unhide HF) (unhide Hi0) (by omega))
      have Hfin := hide hfin
      clear hfin
      go_wp2_with fail
      go_ret
      exact ⟨congrArg (fun x => Ending.returned (Value.string x)) (unhide Hfin), unhide Hb6⟩
    · have q0 : (((gk : Nat) : Int) != 0) = true := by simp; omega
      have hnx := Vf.nmsP_succ (unhide HF) hx (by omega)
      have hup := Vf.up_lt (unhide HF) hx
      have hupl := ((unhide HF).up gk x hx (by omega)).1
      obtain ⟨al, hall⟩ : ∃ n, acc.length = n := ⟨_, rfl⟩
      rw [hall] at Ho1 hal2
      rw [hall]
      have Hall := hide hall
      have Hnx := hide hnx
      have Hup := hide hup
      have Hupl := hide hupl
      have hqlt : p.q < w.heap.size := ((unhide H).nd gk x p hx hp).2.choose_spec.2.lt
      have c6w : w.cell? ⟨p.q, 6, none⟩ = some (.pointer (some ⟨u.q, 0, none⟩)) := (hb1.cell (p := ⟨p.q, 6, none⟩) hqlt).symm.trans c6
      clear hi hi1 hx hu hbk ho1 hnm hb1 hal hp h0 hnx hup hupl hall
      go_wp2_with (at_builtin; refine wpList_app1 strTy rfl _ _ rfl w.heap.size (.slice A1 al c1) al _ rfl (unhide Ho1) #[.string x.name] rfl rfl (by simp [Value.oneCell']) (by omega) hsz ?_; intro A4 c4 w4 ho4 hg4 hat4; have hb4 := (unhide Hb1).grown hg4 hsz (fun k hk => ((unhide Ho1).lt k hk).1); have c6b := (hb4.cell (p := ⟨p.q, 6, none⟩) hqlt).trans c6w; have Ho4 := hide ho4; have Hb4 := hide hb4; clear ho4 hg4 hat4 hb4)
      refine (about_any _ _).mono ?_
      rintro e w5 ⟨rfl, rfl⟩
      go_wp2_with fail
      go_roundg x.up
      case rel =>
        refine ⟨u, acc ++ [x.name], A4, c4, unhide Hu, (unhide Hup).1, rfl, by rw [List.length_append, unhide Hall]; rfl, ?_, ?_, ?_, unhide Hb4⟩
        · rw [List.length_append, unhide Hall, List.map_append]
          exact unhide Ho4
        · rw [unhide Hnm, unhide Hnx, List.reverse_append, List.append_assoc]
          rfl
        · rw [List.length_append, List.length_singleton]
          have := unhide Hal
          have := unhide Hupl
          omega
      case measure => exact unhide Hupl
end Go.Proofs.Yteiciabhfjakgaa
namespace Go.Proofs.Yteiciabhfjakgaa
set_option linter.unusedVariables false
set_option linter.unusedSimpArgs false
open Go.RowKit

theorem small_any (c : Vf.Cred) (A : Option Addr) (n k : Nat) (path : ByteArray) (w : World) : Calls Try.prog 20 #[credV c A n k, .string path] w fun e w' => e = .returned (.bool (decide (n ≤ 1024) && decide (path.size ≤ 4096))) ∧ Below w.heap.size w w' := by
  unfold credV
  have Hb := hide ((Below.refl w.heap.size w).alloc (Nat.le_refl _) (.cells #[.int .u32 (c.uid : Nat), .int .u32 (c.euid : Nat), .int .u32 (c.suid : Nat), .int .u32 (c.gid : Nat), .slice A n k] 44))
  by_cases h1 : n ≤ 1024
  · have i1 : (n : Int) ≤ 1024 := by omega
    by_cases h2 : path.size ≤ 4096
    · have i2 : (path.size : Int) ≤ 4096 := by omega
      rw [decide_eq_true h1, decide_eq_true h2]
      clear h1 h2
      go_enter Try.func20, Try.ntmps20
      go_wp2_with fail
      go_ret
      exact ⟨rfl, unhide Hb⟩
    · have i2 : ¬ (path.size : Int) ≤ 4096 := by omega
      rw [decide_eq_true h1, decide_eq_false h2]
      clear h1 h2
      go_enter Try.func20, Try.ntmps20
      go_wp2_with fail
      go_ret
      exact ⟨rfl, unhide Hb⟩
  · have i1 : ¬ (n : Int) ≤ 1024 := by omega
    rw [decide_eq_false h1]
    clear h1
    go_enter Try.func20, Try.ntmps20
    go_wp2_with fail
    go_ret
    exact ⟨rfl, unhide Hb⟩
end Go.Proofs.Yteiciabhfjakgaa
namespace Go.Proofs.Yteiciabhfjakgaa
set_option linter.unusedVariables false
set_option linter.unusedSimpArgs false
open Go.RowKit

theorem Rd.sub {w : World} {B n : Nat} {b1 o1 : Nat} {xs : List Value} (h : Rd w B 1 (some ⟨b1, o1, none⟩) n xs) {off k : Nat} (hk : off + k ≤ n) : Rd w B 1 (some ⟨b1, o1 + off, none⟩) k ((xs.drop off).take k) := by
  have hl := h.len1
  refine ⟨by simp; omega, ?_⟩
  rcases h.2 with h0 | ⟨b, o, e, hb, hc⟩
  · exact .inl (by simp [h0])
  · obtain ⟨rfl, rfl⟩ : b1 = b ∧ o1 = o := by injection e with e; injection e with h1 h2 h3; exact ⟨h1, h2⟩
    refine .inr ⟨b1, o1 + off, rfl, hb, fun j u hu => ?_⟩
    by_cases hj : j < k
    · rw [List.getElem?_take_of_lt hj, List.getElem?_drop] at hu
      rw [Nat.add_assoc]
      exact hc _ _ hu
    · rw [List.getElem?_take_eq_none (by omega)] at hu
      cases hu

theorem conv_any {P : Program} {w : World} {B n c : Nat} {A : Option Addr} {l : List UInt8} {src dst e : TypeId} (h : Rd w B 1 A n (bys l)) (hs : P.underlying src = some (.slice e)) (he : P.underlying e = some (.int .u8)) (hd : P.underlying dst = some .string) :
    (convert src dst (.slice A n c)).run P w = .ok (.string ⟨l.toArray⟩) w := by
  have hl : l.length = n := by simpa [bys] using h.len1
  subst hl
  cases A with
  | none =>
    have h0 : l = [] := by
      rcases h.2 with h0 | ⟨b, o, e1, _⟩
      · simpa [bys] using h0
      · cases e1
    subst h0
    exact run_convert_bytes_nil w src e hs he _ c dst hd
  | some ad =>
    refine run_convert_bytes_back w src dst e ad c l hs he hd fun j hj => ?_
    obtain ⟨b, o, e1, _, hc⟩ := h.at_ (k := j) (u := .int .u8 (l[j].toNat : Nat)) (bys_at (List.getElem?_eq_getElem hj))
    injection e1 with e1
    subst e1
    rw [Addr.add_lit]
    exact hc
theorem Rd.from {w : World} {B n : Nat} {b1 o1 k : Nat} {l : List UInt8} (h : Rd w B 1 (some ⟨b1, o1, none⟩) n (bys l)) (hk : k ≤ n) : Rd w B 1 (some ⟨b1, o1 + k, none⟩) (n - k) (bys (l.drop k)) := by
  have hl : l.length = n := by simpa [bys] using h.len1
  have h1 := h.sub (off := k) (k := n - k) (by omega)
  have e : ((bys l).drop k).take (n - k) = bys (l.drop k) := by
    unfold bys
    rw [← List.map_drop, ← List.map_take, List.take_of_length_le (by simp; omega)]
  rwa [e] at h1
end Go.Proofs.Yteiciabhfjakgaa
namespace Go.Proofs.Yteiciabhfjakgaa
set_option linter.unusedVariables false
set_option linter.unusedSimpArgs false
open Go.RowKit

def aE1 : Vf.Ent := ⟨⟨#[47, 97]⟩, 2, 448, 7, 0, [], ⟨#[]⟩⟩
def aE2 : Vf.Ent := ⟨⟨#[47, 97, 47, 102]⟩, 1, 420, 0, 0, [1, 2, 3], ⟨#[]⟩⟩
def aE3 : Vf.Ent := ⟨⟨#[47, 108]⟩, 3, 0, 0, 0, [], ⟨#[97, 47, 102]⟩⟩
theorem anchor_new : (Vf.new [aE1, aE2, aE3]).1 = 0 := by kernel_rfl
theorem anchor_walk1 : Vf.walk (Vf.new [aE1, aE2, aE3]).2.2 ⟨0, 7, 0, 0, []⟩ 0 ⟨#[108]⟩ true = (2, 0) := by kernel_rfl
theorem anchor_walk2 : (Vf.walk (Vf.new [aE1, aE2, aE3]).2.2 ⟨0, 8, 0, 0, []⟩ 0 ⟨#[108]⟩ true).2 = 5 := by kernel_rfl
theorem anchor_read : Vf.readOf (Vf.new [aE1, aE2, aE3]).2.2 2 1 9 = ([2, 3], 0) := by kernel_rfl
theorem anchor_path : Vf.pathOf (Vf.new [aE1, aE2, aE3]).2.2 2 = ⟨#[47, 97, 47, 102]⟩ := by kernel_rfl
def aL (g : Nat) : List EntA := [⟨aE1, none, 0, 0⟩, ⟨aE2, some ⟨g, 0, none⟩, 3, 3⟩, ⟨aE3, none, 0, 0⟩]
set_option maxRecDepth 100000 in
set_option maxHeartbeats 4000000 in
theorem works_any (w : World) : Calls Try.prog 11 #[] w fun e w' => e = .returned (.bool true) ∧ Below w.heap.size w w' := by
  have hr0 := Rd.rowF (w := w) (cs := #[.int .u8 1, .int .u8 2, .int .u8 3]) (e := 5) (size := 1) (n := 3) (fz := (0, 0)) rfl
  have hr1 := Rd.rowF (w := w.alloc (.cells #[.int .u8 1, .int .u8 2, .int .u8 3] 5)) (cs := (rowCs entVals (aL w.heap.size)).toArray) (e := 60) (size := 7) (n := 3) (fz := (0, 0)) rfl
  have hB0 : Below w.heap.size w ((w.alloc (.cells #[.int .u8 1, .int .u8 2, .int .u8 3] 5)).alloc (.cells (rowCs entVals (aL w.heap.size)).toArray 60)) := ((Below.refl _ _).alloc (Nat.le_refl _) _).alloc (by simp) _
  have KN := new_any (aL w.heap.size) (some ⟨w.heap.size + 1, 0, none⟩) 3 3 ((w.alloc (.cells #[.int .u8 1, .int .u8 2, .int .u8 3] 5)).alloc (.cells (rowCs entVals (aL w.heap.size)).toArray 60)) (by simpa using hr1) rfl (by
    intro s hs
    simp only [aL, List.mem_cons, List.not_mem_nil, or_false] at hs
    rcases hs with rfl | rfl | rfl
    · exact ⟨⟨rfl, .inl rfl⟩, by decide, by decide, by decide, by decide⟩
    · refine ⟨?_, by show 3 ≤ 4294967296; omega, by show aE2.path.size ≤ _; decide, by show aE2.to.size ≤ _; decide, by show aE2.mode < _; decide⟩
      have := (hr0.alloc (by simp) (.cells (rowCs entVals (aL w.heap.size)).toArray 60)).more (B' := w.heap.size + 1 + 1) (by omega)
      simp only [World.size_alloc]
      exact this
    · exact ⟨⟨rfl, .inl rfl⟩, by decide, by decide, by decide, by decide⟩) (by omega)
  have e0 : (aL w.heap.size).map (·.e) = [aE1, aE2, aE3] := rfl
  rw [e0] at KN
  unfold NewE at KN
  have HKN := hide KN
  have HB0 := hide hB0
  clear KN hr0 hr1 hB0 e0
  go_enter Try.func11, Try.ntmps11
  go_wp2_with fail
  refine (unhide HKN).mono ?_
  rintro e w1 ⟨hb1, ⟨h0, _⟩ | ⟨_, f, A, c, L, rfl, hFS, hF, hFl, h01, _⟩⟩
  · exact absurd anchor_new h0
  have a1 := anchor_walk1
  have a2 := anchor_walk2
  have a3 := anchor_read
  have a4 := anchor_path
  obtain ⟨F, hFe⟩ : ∃ F, (Vf.new [aE1, aE2, aE3]).2.2 = F := ⟨_, rfl⟩
  rw [hFe] at hFS hF hFl a1 a2 a3 a4
  have hn : F.length ≤ 65 := by rw [hFl]; decide
  have Hb1 := hide ((unhide HB0).trans (hb1.mono (by simp; omega)))
  have hlo1 : w.heap.size ≤ w1.heap.size := (unhide Hb1).size
  have hFS1 : FsM w1 w.heap.size f A c F L := hFS.base (by simp; omega)
  have K1 := walk_any F L w.heap.size f c A none 0 0 ⟨0, 7, 0, 0, []⟩ 0 ⟨#[108]⟩ true w1 hF hFS1 hn ⟨rfl, .inl rfl⟩ (by unfold maxLen; omega) (by decide)
  rw [a1] at K1
  have K2 : ∀ w2, Below w1.heap.size w1 w2 → _ := fun w2 hb => walk_any F L w.heap.size f c A none 0 0 ⟨0, 8, 0, 0, []⟩ 0 ⟨#[108]⟩ true w2 hF (hFS1.belowSz hb) hn ⟨rfl, .inl rfl⟩ (by unfold maxLen; omega) (by decide)
  obtain ⟨n2, hn2⟩ : ∃ n2, (Vf.walk F ⟨0, 8, 0, 0, []⟩ 0 ⟨#[108]⟩ true).1 = n2 := ⟨_, rfl⟩
  rw [a2, hn2] at K2
  have K3 : ∀ w2, Below w1.heap.size w1 w2 → _ := fun w2 hb => read_any F L w.heap.size f c A 2 1 9 w2 hF (hFS1.belowSz hb) hn
  unfold ReadVE at K3
  rw [a3] at K3
  have K4 : ∀ w2, Below w1.heap.size w1 w2 → _ := fun w2 hb => path_any F L w.heap.size f c A 2 w2 hF (hFS1.belowSz hb) hn
  rw [a4] at K4
  unfold credV ptrV at K1 K2
  unfold ptrV at K3 K4
  unfold ptrV
  have HK1 := hide K1
  have HK2 := hide K2
  have HK3 := hide K3
  have HK4 := hide K4
  clear K1 K2 K3 K4 a1 a2 a3 a4 hFe hFS hF hFl hFS1 hb1 h01
  go_wp2_with fail
  refine (unhide HK1).mono ?_
  rintro e w2 ⟨rfl, hb2⟩
  have Hb2 := hide hb2
  clear hb2
  go_wp2_with fail
  refine ((unhide HK2) _ (unhide Hb2)).mono ?_
  rintro e w3 ⟨rfl, hb3⟩
  have Hb3 := hide ((unhide Hb2).trans (hb3.mono (unhide Hb2).size))
  clear hb3
  go_wp2_with fail
  refine ((unhide HK3) _ (unhide Hb3)).mono ?_
  rintro e w4 ⟨A4, c4, rfl, ho4, hb4⟩
  have Hb4 := hide ((unhide Hb3).trans (hb4.mono (unhide Hb3).size))
  have hr4 := Rd.of_own ho4
  have hcv : (convert 36 9 (.slice A4 2 c4)).run Try.prog w4 = .ok (.string ⟨#[2, 3]⟩) w4 := conv_any hr4 Try.underlying36 Try.underlying5 Try.underlying9
  clear hb4 ho4 hr4
  go_wp2_with fail
  refine ((unhide HK4) _ (unhide Hb4)).mono ?_
  rintro e w5 ⟨rfl, hb5⟩
  have Hb5 := hide ((unhide Hb1).trans (((unhide Hb4).trans (hb5.mono (unhide Hb4).size)).mono hlo1))
  clear hb5
  go_wp2_with fail
  go_ret
  exact ⟨rfl, unhide Hb5⟩
end Go.Proofs.Yteiciabhfjakgaa
namespace Go.Proofs.Yteiciabhfjakgaa
set_option linter.unusedVariables false
set_option linter.unusedSimpArgs false
open Go.RowKit Go.ChangeShapes Go.WideShapes Go.Joins Go.Deep

theorem credFields : ∃ fs, Try.prog.underlying 44 = some (.struct fs) ∧ oneCellFields Try.prog fs = true ∧ Try.prog.cellsOf 44 = fs.size ∧ fs.map (·.type) = #[30, 30, 30, 30, 42] :=
  ⟨_, Try.underlying44, by kernel_rfl, by kernel_rfl, by kernel_rfl⟩
theorem entFields : ∃ fs, Try.prog.underlying 60 = some (.struct fs) ∧ oneCellFields Try.prog fs = true ∧ Try.prog.cellsOf 60 = fs.size ∧ fs.map (·.type) = #[9, 5, 29, 30, 30, 36, 9] :=
  ⟨_, Try.underlying60, by kernel_rfl, by kernel_rfl, by kernel_rfl⟩
/-- What holds of an entry that is an argument. -/
structure EntIn (w : World) (s : EntA) : Prop where
  d : Rd w w.heap.size 1 s.A s.n (bys s.e.data)
  nc : s.n ≤ s.c
  c : s.c ≤ maxLen
  p : s.e.path.size ≤ maxLen
  t : s.e.to.size ≤ maxLen
  m : s.e.mode < 65536
  k : s.e.kind < 256
  u : s.e.uid < 4294967296
  g : s.e.gid < 4294967296
section
variable {H : Type} {enc : TypeId × Value → H} {w : World} {base : Nat} {held : Bool}
set_option maxRecDepth 100000 in
theorem open_cred_rd {r : Reach} {b0 : Nat} {v : Value} {d : DataW H} {p : List MemPlace} (hv : Value.okWide Try.prog w r b0 44 v) (h : DataW.Trod enc Try.prog w base (fun _ => true) held 44 v d p) :
    ∃ (c : Vf.Cred) (A : Option Addr) (n k : Nat), v = credV c A n k ∧ Rd w w.heap.size 1 A n (c.groups.map u32v) ∧ n ≤ k ∧ k ≤ maxLen := by
  obtain ⟨cs, rfl, hsz⟩ := okWide_struct Try.underlying44 hv
  obtain ⟨fuel, hf⟩ := h
  obtain ⟨hl, n, hf⟩ := flds_vals _ credFields hf
  have e2 : ∃ c0 c1 c2 c3 c4, cs = #[c0, c1, c2, c3, c4] := by
    obtain ⟨l⟩ := cs
    match l, hl with
    | [c0, c1, c2, c3, c4], _ => exact ⟨c0, c1, c2, c3, c4, rfl⟩
  obtain ⟨c0, c1, c2, c3, c4, rfl⟩ := e2
  obtain ⟨y0, h0⟩ := hf 0 30 c0 rfl rfl
  obtain ⟨y1, h1⟩ := hf 1 30 c1 rfl rfl
  obtain ⟨y2, h2⟩ := hf 2 30 c2 rfl rfl
  obtain ⟨y3, h3⟩ := hf 3 30 c3 rfl rfl
  obtain ⟨y4, h4⟩ := hf 4 42 c4 rfl rfl
  obtain ⟨a0, rfl, b0⟩ := fu32_is Try.underlying30 h0
  obtain ⟨a1, rfl, b1⟩ := fu32_is Try.underlying30 h1
  obtain ⟨a2, rfl, b2⟩ := fu32_is Try.underlying30 h2
  obtain ⟨a3, rfl, b3⟩ := fu32_is Try.underlying30 h3
  obtain ⟨A, m, k, rfl⟩ := fslice_is Try.underlying42 h4
  obtain ⟨zs, r0, hc0, hm0, hw0⟩ := open_nums_rd (d := y4.1) (p := y4.2) Try.underlying42 Try.underlying30 (by kernel_rfl) ⟨n, h4⟩
  have hz : (zs.map Int.toNat).map u32v = zs.map (Value.int .u32) := by
    rw [List.map_map]
    refine List.map_congr_left fun z hz => ?_
    have : 0 ≤ z ∧ z ≤ 4294967295 := by simpa [Lit.wf, IntKind.min, IntKind.max, IntKind.signed, IntKind.bits] using hw0 z hz
    show Value.int .u32 ((z.toNat : Nat) : Int) = Value.int .u32 z
    rw [Int.toNat_of_nonneg this.1]
  exact ⟨⟨a0, a1, a2, a3, zs.map Int.toNat⟩, A, m, k, rfl, by rw [hz]; exact r0, hc0, hm0⟩
set_option maxRecDepth 100000 in
theorem open_two_ints {r : Reach} {b0 : Nat} {v : Value} {d : DataW H} {p : List MemPlace} {t : TypeId} (ht : Try.prog.underlying t = some (.array 2 3)) (hc : Try.prog.cellsOf t = 2) (hv : Value.okWide Try.prog w r b0 t v) (h : DataW.Trod enc Try.prog w base (fun _ => true) held t v d p) :
    ∃ a b : Int, v = .agg #[.int .i64 a, .int .i64 b] ∧ (-9223372036854775808 ≤ a ∧ a ≤ 9223372036854775807) ∧ -9223372036854775808 ≤ b ∧ b ≤ 9223372036854775807 := by
  have e0 : ∃ cs, v = .agg cs ∧ cs.size = Try.prog.cellsOf t := by
    simp only [Value.okWide, ht] at hv
    obtain ⟨cs, h1, h2, _⟩ := hv
    exact ⟨cs, h1, h2⟩
  obtain ⟨cs, rfl, hsz⟩ := e0
  rw [hc] at hsz
  obtain ⟨fuel, hf⟩ := h
  have e2 : ∃ c0 c1, cs = #[c0, c1] := by
    obtain ⟨l⟩ := cs
    match l, hsz with
    | [c0, c1], _ => exact ⟨c0, c1, rfl⟩
  obtain ⟨c0, c1, rfl⟩ := e2
  obtain ⟨xs, m, _, _, _, hxl, hel⟩ := DataW.trod_array ht hf
  have hce : Try.prog.cellsOf 3 = 1 := by kernel_rfl
  have g0 := hel 0 (by omega)
  have g1 := hel 1 (by omega)
  rw [hce] at g0 g1
  have f0 : ∃ y, DataW.trod enc Try.prog w base (fun _ => true) held m 3 [c0] = some y := ⟨_, g0.trans (List.getElem?_eq_getElem (by omega))⟩
  have f1 : ∃ y, DataW.trod enc Try.prog w base (fun _ => true) held m 3 [c1] = some y := ⟨_, g1.trans (List.getElem?_eq_getElem (by omega))⟩
  obtain ⟨y0, f0⟩ := f0
  obtain ⟨y1, f1⟩ := f1
  obtain ⟨a, rfl, ba⟩ := fint_is Try.underlying3 f0
  obtain ⟨b, rfl, bb⟩ := fint_is Try.underlying3 f1
  exact ⟨a, b, rfl, ba, bb⟩
set_option maxRecDepth 100000 in
theorem ent_vals {fuel : Nat} {cs : List Value} {x : DataW H × List MemPlace} (h : DataW.trod enc Try.prog w base (fun _ => true) held fuel 60 cs = some x) : ∃ s : EntA, cs = entVals s ∧ EntIn w s := by
  obtain ⟨hl, n, hf⟩ := flds_vals _ entFields h
  match cs, hl with
  | [c0, c1, c2, c3, c4, c5, c6], _ =>
    obtain ⟨y0, h0⟩ := hf 0 9 c0 rfl rfl
    obtain ⟨y1, h1⟩ := hf 1 5 c1 rfl rfl
    obtain ⟨y2, h2⟩ := hf 2 29 c2 rfl rfl
    obtain ⟨y3, h3⟩ := hf 3 30 c3 rfl rfl
    obtain ⟨y4, h4⟩ := hf 4 30 c4 rfl rfl
    obtain ⟨y5, h5⟩ := hf 5 36 c5 rfl rfl
    obtain ⟨y6, h6⟩ := hf 6 9 c6 rfl rfl
    obtain ⟨a0, rfl, b0⟩ := fstr_is Try.underlying9 h0
    obtain ⟨a1, rfl, b1⟩ := fu8_is Try.underlying5 h1
    obtain ⟨a2, rfl, b2⟩ := fu16_is Try.underlying29 h2
    obtain ⟨a3, rfl, b3⟩ := fu32_is Try.underlying30 h3
    obtain ⟨a4, rfl, b4⟩ := fu32_is Try.underlying30 h4
    obtain ⟨A, m, k, rfl⟩ := fslice_is Try.underlying36 h5
    obtain ⟨a6, rfl, b6⟩ := fstr_is Try.underlying9 h6
    obtain ⟨bs, r0, hc0, hm0⟩ := open_bytes_rd (d := y5.1) (p := y5.2) Try.underlying36 Try.underlying5 (by kernel_rfl) ⟨n, h5⟩
    exact ⟨⟨⟨a0, a1, a2, a3, a4, bs, a6⟩, A, m, k⟩, rfl, ⟨r0, hc0, hm0, b0, b6, b2, b1, b3, b4⟩⟩
theorem open_ents_rd {A : Option Addr} {n c : Nat} {d : DataW H} {p : List MemPlace} (h : DataW.Trod enc Try.prog w base (fun _ => true) held 22 (.slice A n c) d p) :
    ∃ l : List EntA, Rd w w.heap.size 7 A n (rowCs entVals l) ∧ l.length = n ∧ n ≤ c ∧ c ≤ maxLen ∧ ∀ s ∈ l, EntIn w s := by
  obtain ⟨fuel, hf⟩ := h
  exact open_structs_rd (size := 7) Try.underlying22 (by kernel_rfl) (by omega) entVals _ (fun _ => rfl) (fun _ _ _ h => ent_vals h) hf
end
end Go.Proofs.Yteiciabhfjakgaa
namespace Go.Proofs.Yteiciabhfjakgaa
set_option linter.unusedVariables false
set_option linter.unusedSimpArgs false
open Go.RowKit

theorem bys_at' {b : List UInt8} {i : Nat} {x : UInt8} (h : b[i]? = some x) : (bys b)[i]? = some (.int .u8 x.toNat) := by simp [bys, h]

/-- What has been copied from k on. -/
def backTo (b : List UInt8) (k : Nat) : List Value := List.replicate k (.int .u8 0) ++ bys (b.drop k)
theorem backTo_set {b : List UInt8} {k : Nat} {x : UInt8} (h : b[k]? = some x) : (backTo b (k + 1)).set k (.int .u8 x.toNat) = backTo b k := by
  unfold backTo
  rw [List.drop_eq_getElem_cons (i := k) (by have := (List.getElem?_eq_some_iff.1 h).1; exact this)]
  have hx : b[k]'((List.getElem?_eq_some_iff.1 h).1) = x := (List.getElem?_eq_some_iff.1 h).2
  rw [hx, List.replicate_succ', List.append_assoc]
  rw [List.set_append]
  simp [bys]

set_option maxRecDepth 20000 in
set_option maxHeartbeats 1000000 in
theorem copyBytes_any (A : Option Addr) (m c B : Nat) (b : List UInt8) (w : World) (hB : B ≤ w.heap.size) (hb : Rd w B 1 A m (bys b)) (hm : m ≤ 4294967296) :
    Calls Try.prog 32 #[.slice A m c] w fun e w' => ∃ A' c', e = .returned (.slice A' m c') ∧ w'.ownsRow w.heap.size 5 1 (.slice A' m c') m (bys b) ∧ Below w.heap.size w w' := by
  have hbl : b.length = m := by simpa [bys] using hb.len1
  rcases Nat.eq_zero_or_pos m with rfl | hpos
  · have hb0 : b = [] := List.eq_nil_of_length_eq_zero hbl
    subst hb0
    clear hb hbl
    go_enter Try.func32, Try.ntmps32
    go_wp2
    go_ret
    exact ⟨none, 0, rfl, World.ownsRow_nil _ _ _ _, Below.refl _ _⟩
  have hne : decide (m = 0) = false := by simp; omega
  obtain ⟨i, hi, hz0, hz1, hz2⟩ := info_parts byteInfo
  have Hb := hide hb
  have Hbl := hide hbl
  have Hi := hide hi
  have Hz0 := hide hz0
  have Hz1 := hide hz1
  have Hz2 := hide hz2
  clear hb hbl hi hz0 hz1 hz2
  go_enter Try.func32, Try.ntmps32
  go_wp2_with (at_make; refine wpList_make_full _ rfl _ _ 36 rfl w.heap.size 5 i (.int .u8 0) 1 Try.underlying36 (unhide Hi) (unhide Hz0) (unhide Hz1) _ _ _ _ m rfl rfl rfl rfl (by rw [unhide Hz2]; omega) (by unfold maxLen; omega) (Nat.le_refl _) ?_; intro w1 hown hgrow; have hb1 := (Below.refl w.heap.size w).grown hgrow (Nat.le_refl _) (fun k hk => by cases hk); have Hown := hide hown; have Hb1 := hide hb1; clear hown hgrow hb1)
  go_loopw [4] (fun at_ wr => ∃ k : Nat, k ≤ m ∧ at_ = .int .i64 ((k : Int) - 1) ∧ wr.ownsRow w.heap.size 5 1 (.slice (some ⟨w.heap.size, 0, none⟩) m m) m (backTo b k) ∧ Below w.heap.size w wr) (fun at_ _ => (intOf at_ + 1).toNat)
  case atStart =>
    refine ⟨m, Nat.le_refl _, rfl, ?_, unhide Hb1⟩
    have := unhide Hown
    have e : (madeCells (Value.int .u8 0).cells (m * 1)).toList = backTo b m := by
      unfold backTo
      rw [List.drop_eq_nil_of_le (by rw [unhide Hbl]; exact Nat.le_refl _)]
      simp [bys, Value.cells, toList_madeCells_one]
    rwa [e] at this
  case round =>
  clear Hown Hb1
  obtain ⟨k, hk, rfl, hown, hb2⟩ := hrel
  have Hown := hide hown
  have Hb2 := hide hb2
  clear hown hb2
  by_cases hk0 : k = 0
  · subst hk0
    go_wp2
    go_ret
    refine ⟨_, _, rfl, ?_, unhide Hb2⟩
    have := unhide Hown
    simpa [backTo] using this
  · obtain ⟨j, rfl⟩ : ∃ j, k = j + 1 := ⟨k - 1, by omega⟩
    obtain ⟨x, hx⟩ : ∃ x, b[j]? = some x := ⟨_, List.getElem?_eq_getElem (by rw [unhide Hbl]; omega)⟩
    obtain ⟨ab, ao, rfl, hlt, hc⟩ := ((unhide Hb).below ((unhide Hb2).mono hB)).at_ (bys_at' hx)
    have hset := own_set (i := j) (unhide Hown) (.int .u8 x.toNat)
    rw [backTo_set hx] at hset
    have hcl : (backTo b (j + 1))[j]? = some (.int .u8 0) := by simp [backTo, List.getElem?_append]
    have hc2 := own_cell (unhide Hown) hcl
    have hf2 := own_free (unhide Hown) j
    have hge := own_at (unhide Hown)
    have e1 : ((j + 1 : Nat) : Int) - 1 = (j : Int) := by omega
    rw [e1]
    have Hset := hide hset
    clear hset hcl hx
    go_wp2
    go_roundw
    case rel => exact ⟨j, by omega, rfl, unhide Hset, (unhide Hb2).setCell (Nat.le_refl _) _⟩
    case measure => simp [intOf]

end Go.Proofs.Yteiciabhfjakgaa
namespace Go.Proofs.Yteiciabhfjakgaa
set_option linter.unusedVariables false
set_option linter.unusedSimpArgs false
open Go.RowKit

theorem u32Ty : SlTy Try.prog 42 30 1 4 := slTy_mk (z := .int .u32 0) Try.underlying42 (by kernel_rfl) rfl (by omega) (by omega)
theorem entTy : SlTy Try.prog 22 60 7 72 := slTy_mk (z := .agg #[.string ⟨#[]⟩, .int .u8 0, .int .u16 0, .int .u32 0, .int .u32 0, .slice none 0 0, .string ⟨#[]⟩]) Try.underlying22 (by kernel_rfl) rfl (by omega) (by omega)
theorem u32_one (l : List Nat) : ∀ u ∈ l.map u32v, u.oneCell' = true := by
  intro u hu
  obtain ⟨x, _, rfl⟩ := List.mem_map.1 hu
  rfl
theorem credInfo : (Try.prog.info? 44).map (·.size) = some 5 := by kernel_rfl

set_option maxRecDepth 100000 in
set_option maxHeartbeats 1000000 in
theorem copyCred_any (c : Vf.Cred) (A : Option Addr) (n k B : Nat) (w : World) (hg : Rd w B 1 A n (c.groups.map u32v)) (hB : B ≤ w.heap.size) (hn : n ≤ 4294967296) :
    Calls Try.prog 22 #[credV c A n k] w fun e w' => ∃ A' k', e = .returned (credV c A' n k') ∧ Rd w' w'.heap.size 1 A' n (c.groups.map u32v) ∧ Below w.heap.size w w' := by
  have hb0 : Below w.heap.size w ((w.alloc (.cells #[.int .u32 (c.uid : Nat), .int .u32 (c.euid : Nat), .int .u32 (c.suid : Nat), .int .u32 (c.gid : Nat), .slice A n k] 44)).alloc (.cells #[.int .u32 0, .int .u32 0, .int .u32 0, .int .u32 0, .slice none 0 0] 44)) := ((Below.refl _ _).alloc (Nat.le_refl _) _).alloc (by simp) _
  have Hg := hide (hg.below (hb0.mono hB))
  have Hb0 := hide hb0
  have B1 : Blk ((w.alloc (.cells #[.int .u32 (c.uid : Nat), .int .u32 (c.euid : Nat), .int .u32 (c.suid : Nat), .int .u32 (c.gid : Nat), .slice A n k] 44)).alloc (.cells #[.int .u32 0, .int .u32 0, .int .u32 0, .int .u32 0, .slice none 0 0] 44)) w.heap.size 44 [.int .u32 (c.uid : Nat), .int .u32 (c.euid : Nat), .int .u32 (c.suid : Nat), .int .u32 (c.gid : Nat), .slice A n k] := (Blk.new w 44 [.int .u32 (c.uid : Nat), .int .u32 (c.euid : Nat), .int .u32 (c.suid : Nat), .int .u32 (c.gid : Nat), .slice A n k]).alloc _
  have B2 : Blk ((w.alloc (.cells #[.int .u32 (c.uid : Nat), .int .u32 (c.euid : Nat), .int .u32 (c.suid : Nat), .int .u32 (c.gid : Nat), .slice A n k] 44)).alloc (.cells #[.int .u32 0, .int .u32 0, .int .u32 0, .int .u32 0, .slice none 0 0] 44)) (w.heap.size + 1) 44 [.int .u32 0, .int .u32 0, .int .u32 0, .int .u32 0, .slice none 0 0] := by
    have := Blk.new (w.alloc (.cells #[.int .u32 (c.uid : Nat), .int .u32 (c.euid : Nat), .int .u32 (c.suid : Nat), .int .u32 (c.gid : Nat), .slice A n k] 44)) 44 [.int .u32 0, .int .u32 0, .int .u32 0, .int .u32 0, .slice none 0 0]
    rw [World.size_alloc] at this
    exact this
  have HB1 := hide B1
  have HB2 := hide B2
  have hsz0 : w.heap.size ≤ ((w.alloc (.cells #[.int .u32 (c.uid : Nat), .int .u32 (c.euid : Nat), .int .u32 (c.suid : Nat), .int .u32 (c.gid : Nat), .slice A n k] 44)).alloc (.cells #[.int .u32 0, .int .u32 0, .int .u32 0, .int .u32 0, .slice none 0 0] 44)).heap.size := hb0.size
  unfold credV
  clear hg hb0 B1 B2
  go_enter Try.func22, Try.ntmps22
  go_wp2_with (at_builtin; refine wpList_app u32Ty rfl _ _ rfl (w.heap.size + 2) (.slice none 0 0) 0 [] rfl (World.ownsRow_nil _ _ _ _) B A n k _ rfl (unhide Hg) (u32_one _) (by omega) (by simp) ?_; intro A4 k4 w4 ho4 hg4 hat4; have hC1 : Blk w4 w.heap.size 44 [.int .u32 (c.uid : Nat), .int .u32 (c.euid : Nat), .int .u32 (c.suid : Nat), .int .u32 (c.gid : Nat), .slice A n k] := (hg4.block _ (unhide HB1).lt (fun e => by simp [Value.ownBlock] at e)).trans (unhide HB1); have hC2 : Blk w4 (w.heap.size + 1) 44 [.int .u32 0, .int .u32 0, .int .u32 0, .int .u32 0, .slice none 0 0] := (hg4.block _ (unhide HB2).lt (fun e => by simp [Value.ownBlock] at e)).trans (unhide HB2); have hb4 := (unhide Hb0).grown hg4 hsz0 (fun k hk => by simp [Value.ownBlock] at hk); simp only [Nat.zero_add, List.nil_append] at ho4 ⊢; obtain ⟨a0, a1, a2, a3, a4⟩ : w4.cell? ⟨w.heap.size, 0, none⟩ = some (.int .u32 (c.uid : Nat)) ∧ w4.cell? ⟨w.heap.size, 1, none⟩ = some (.int .u32 (c.euid : Nat)) ∧ w4.cell? ⟨w.heap.size, 2, none⟩ = some (.int .u32 (c.suid : Nat)) ∧ w4.cell? ⟨w.heap.size, 3, none⟩ = some (.int .u32 (c.gid : Nat)) ∧ w4.cell? ⟨w.heap.size, 4, none⟩ = some (.slice A n k) := ⟨hC1.cell rfl, hC1.cell rfl, hC1.cell rfl, hC1.cell rfl, hC1.cell rfl⟩; obtain ⟨f0, f1, f2, f3, f4⟩ : w4.frozen? ⟨w.heap.size, 0, none⟩ = false ∧ w4.frozen? ⟨w.heap.size, 1, none⟩ = false ∧ w4.frozen? ⟨w.heap.size, 2, none⟩ = false ∧ w4.frozen? ⟨w.heap.size, 3, none⟩ = false ∧ w4.frozen? ⟨w.heap.size, 4, none⟩ = false := ⟨hC1.free _, hC1.free _, hC1.free _, hC1.free _, hC1.free _⟩; obtain ⟨b0, b1, b2, b3, b4⟩ : w4.cell? ⟨w.heap.size + 1, 0, none⟩ = some (.int .u32 0) ∧ w4.cell? ⟨w.heap.size + 1, 1, none⟩ = some (.int .u32 0) ∧ w4.cell? ⟨w.heap.size + 1, 2, none⟩ = some (.int .u32 0) ∧ w4.cell? ⟨w.heap.size + 1, 3, none⟩ = some (.int .u32 0) ∧ w4.cell? ⟨w.heap.size + 1, 4, none⟩ = some (.slice none 0 0) := ⟨hC2.cell rfl, hC2.cell rfl, hC2.cell rfl, hC2.cell rfl, hC2.cell rfl⟩; obtain ⟨g0, g1, g2, g3, g4⟩ : w4.frozen? ⟨w.heap.size + 1, 0, none⟩ = false ∧ w4.frozen? ⟨w.heap.size + 1, 1, none⟩ = false ∧ w4.frozen? ⟨w.heap.size + 1, 2, none⟩ = false ∧ w4.frozen? ⟨w.heap.size + 1, 3, none⟩ = false ∧ w4.frozen? ⟨w.heap.size + 1, 4, none⟩ = false := ⟨hC2.free _, hC2.free _, hC2.free _, hC2.free _, hC2.free _⟩; have HC1 := hide hC1; have HC2 := hide hC2; have Ho4 := hide ho4; have Hb4 := hide hb4; clear ho4 hg4 hat4 hb4 hC1 hC2)
  have hne : w.heap.size + 1 ≠ w.heap.size := by omega
  have hE := ((((((unhide HC2).other (p := ⟨w.heap.size, 4, none⟩) (by show w.heap.size ≠ w.heap.size + 1; omega) (Value.slice A4 n k4)).set 0 (Value.int .u32 (c.uid : Nat))).set 1 (Value.int .u32 (c.euid : Nat))).set 2 (Value.int .u32 (c.suid : Nat))).set 3 (Value.int .u32 (c.gid : Nat))).set 4 (Value.slice A4 n k4)
  have hbE := ((((((unhide Hb4).setCell (p := ⟨w.heap.size, 4, none⟩) (Nat.le_refl _) (Value.slice A4 n k4)).setCell (p := ⟨w.heap.size + 1, 0, none⟩) (by show w.heap.size ≤ w.heap.size + 1; omega) (Value.int .u32 (c.uid : Nat))).setCell (p := ⟨w.heap.size + 1, 1, none⟩) (by show w.heap.size ≤ w.heap.size + 1; omega) (Value.int .u32 (c.euid : Nat))).setCell (p := ⟨w.heap.size + 1, 2, none⟩) (by show w.heap.size ≤ w.heap.size + 1; omega) (Value.int .u32 (c.suid : Nat))).setCell (p := ⟨w.heap.size + 1, 3, none⟩) (by show w.heap.size ≤ w.heap.size + 1; omega) (Value.int .u32 (c.gid : Nat))).setCell (p := ⟨w.heap.size + 1, 4, none⟩) (by show w.heap.size ≤ w.heap.size + 1; omega) (Value.slice A4 n k4)
  have hown : ∀ W' : World, (∀ g, w.heap.size + 2 ≤ g → W'.heap[g]? = w4.heap[g]?) → W'.ownsRow (w.heap.size + 2) 30 1 (.slice A4 n k4) n (c.groups.map u32v) :=
    fun W' h => own_keepB' (unhide Ho4) (fun g hg => h g ((unhide Ho4).lt g hg).1)
  refine bodyPost_ret (results_cell_row (P := Try.prog) rfl _ _ (w.heap.size + 1) 44 #[.int .u32 (c.uid : Nat), .int .u32 (c.euid : Nat), .int .u32 (c.suid : Nat), .int .u32 (c.gid : Nat), .slice A4 n k4] (0, 0) _ rfl hE Try.underlying44 rfl credInfo) rfl ?_
  exact ⟨A4, k4, rfl, Rd.of_own (hown _ (fun g hg => by rw [heap_setCell_other _ _ _ _ (by show g ≠ w.heap.size + 1; omega), heap_setCell_other _ _ _ _ (by show g ≠ w.heap.size + 1; omega), heap_setCell_other _ _ _ _ (by show g ≠ w.heap.size + 1; omega), heap_setCell_other _ _ _ _ (by show g ≠ w.heap.size + 1; omega), heap_setCell_other _ _ _ _ (by show g ≠ w.heap.size + 1; omega), heap_setCell_other _ _ _ _ (by show g ≠ w.heap.size; omega)])), hbE⟩

/-- How great: what Large says where it says no. -/
def LgE (l : List EntA) (n : Nat) (w : World) (e : Ending) (w' : World) : Prop :=
  ∃ b q, e = .returned (.bool b) ∧ (b = false → n ≤ 262144 ∧ ∀ s ∈ l, s.e.path.size ≤ 262144 ∧ s.n ≤ 262144 ∧ s.e.to.size ≤ 262144) ∧ w' = w.drewN q
set_option maxRecDepth 100000 in
set_option maxHeartbeats 1000000 in
theorem large_any (l : List EntA) (A : Option Addr) (n c B : Nat) (w : World) (h : Rd w B 7 A n (rowCs entVals l)) (hl : l.length = n) (hn : n ≤ maxLen) (hsz : ∀ s ∈ l, s.e.path.size ≤ maxLen ∧ s.n ≤ maxLen ∧ s.e.to.size ≤ maxLen) :
    Calls Try.prog 10 #[.slice A n c] w (LgE l n w) := by
  have H := hide h
  have Hl := hide hl
  have Hsz := hide hsz
  unfold maxLen at hn
  clear h hl hsz
  go_enter Try.func10, Try.ntmps10
  go_wp2_with fail
  go_loopg [3, 4] n (fun gk av iv wr => ∃ (k a q : Nat), gk = n - k ∧ k ≤ n ∧ iv = .int .i64 (k : Nat) ∧ av = .int .i64 (a : Nat) ∧ n ≤ a ∧ (k = 0 ∧ a = n ∨ a ≤ 1835008) ∧ (∀ s ∈ l.take k, min s.e.path.size 524288 ≤ a ∧ min s.n 524288 ≤ a ∧ min s.e.to.size 524288 ≤ a) ∧ wr = w.drewN q)
  case atStart => exact ⟨0, n, 0, by omega, Nat.zero_le _, rfl, rfl, Nat.le_refl _, .inl ⟨rfl, rfl⟩, by simp, rfl⟩
  case round =>
  obtain ⟨k, a, q, hgk, hk, rfl, rfl, hna, hab, hall, rfl⟩ := hrel
  have Hgk := hide hgk
  have Hall := hide hall
  clear hgk hall
  by_cases hgo : k < n ∧ a ≤ 262144
  · obtain ⟨hlt, ha⟩ := hgo
    obtain ⟨s, hs⟩ : ∃ s, l[k]? = some s := ⟨_, List.getElem?_eq_getElem (by rw [unhide Hl]; exact hlt)⟩
    obtain ⟨b1, o1, rfl, hb1, c1⟩ := (unhide H).open_ (by
      intro h0
      have := rowCs_len (vals := entVals) (size := 7) (fun _ => rfl) l
      rw [h0, unhide Hl] at this
      simp at this
      omega)
    have hc : ∀ j u, (entVals s)[j]? = some u → w.cell? ⟨b1, o1 + (k * 7 + j), none⟩ = some u := by
      intro j u hu
      have hj : j < 7 := (List.getElem?_eq_some_iff.1 hu).1
      refine c1 _ _ ?_
      rw [rowCs_at (vals := entVals) (size := 7) (fun _ => rfl) l k s hs j hj, hu]
    have x0 := hc 0 _ rfl
    have x5 := hc 5 _ rfl
    have x6 := hc 6 _ rfl
    rw [Nat.add_zero] at x0
    simp only [← Nat.add_assoc] at x5 x6
    obtain ⟨z0, z5, z6⟩ := (unhide Hsz) s (List.mem_of_getElem? hs)
    unfold maxLen at z0 z5 z6
    obtain ⟨m0, hm0⟩ : ∃ m, min s.e.path.size 524288 = m := ⟨_, rfl⟩
    obtain ⟨m5, hm5⟩ : ∃ m, min s.n 524288 = m := ⟨_, rfl⟩
    obtain ⟨m6, hm6⟩ : ∃ m, min s.e.to.size 524288 = m := ⟨_, rfl⟩
    have r0 : min (s.e.path.size : Int) 524288 = (m0 : Int) := by omega
    have r5 : min (s.n : Int) 524288 = (m5 : Int) := by omega
    have r6 : min (s.e.to.size : Int) 524288 = (m6 : Int) := by omega
    have u0 : m0 ≤ 524288 := by omega
    have u5 : m5 ≤ 524288 := by omega
    have u6 : m6 ≤ 524288 := by omega
    have w1 : IntKind.i64.wrap ((a : Int) + (m0 : Int)) = (a : Int) + (m0 : Int) := IntWalk.i64_in _ (by omega)
    have w2 : IntKind.i64.wrap ((a : Int) + (m0 : Int) + (m5 : Int)) = (a : Int) + (m0 : Int) + (m5 : Int) := IntWalk.i64_in _ (by omega)
    have w3 : IntKind.i64.wrap ((a : Int) + (m0 : Int) + (m5 : Int) + (m6 : Int)) = (a : Int) + (m0 : Int) + (m5 : Int) + (m6 : Int) := IntWalk.i64_in _ (by omega)
    have i1 : (k : Int) < (n : Int) := by omega
    have i0 : (0 : Int) ≤ (k : Int) := by omega
    have i2 : (a : Int) ≤ 262144 := by omega
    have Hs := hide hs
    have Hm := hide (And.intro hm0 (And.intro hm5 hm6))
    clear hc c1 hs hm0 hm5 hm6 z0 z5 z6 hab
    go_wp2_with fail
    go_quiet (fail)
    go_wp2_with fail
    go_roundg (n - (k + 1))
    case rel =>
      refine ⟨k + 1, a + m0 + m5 + m6, q + nq, rfl, by omega, by go_num, by go_num, by omega, .inr (by omega), ?_, ?_⟩
      · intro t ht
        rw [List.take_add_one, unhide Hs] at ht
        obtain ⟨e0, e5, e6⟩ := unhide Hm
        rcases List.mem_append.1 ht with ht | ht
        · have := (unhide Hall) t ht
          omega
        · have : t = s := by simpa using ht
          subst this
          omega
      · simp [World.drewN, Nat.add_assoc]
    case measure => rw [unhide Hgk]; omega
  · have hor : (¬ (k : Int) < (n : Int)) ∨ ((k : Int) < (n : Int) ∧ ¬ (a : Int) ≤ 262144) := by omega
    have hres : (a ≤ 262144) → n ≤ 262144 ∧ ∀ s ∈ l, s.e.path.size ≤ 262144 ∧ s.n ≤ 262144 ∧ s.e.to.size ≤ 262144 := by
      intro ha
      have hkn : k = n := by omega
      refine ⟨by omega, fun s hs => ?_⟩
      have h1 := (unhide Hall) s (by rw [List.take_of_length_le (by rw [unhide Hl]; omega)]; exact hs)
      omega
    have Hres := hide hres
    clear hgo hres hab
    by_cases hbig : 262144 < a
    · have i2 : (262144 : Int) < (a : Int) := by omega
      rcases hor with h1 | ⟨h1, h2⟩
      all_goals
        go_wp2_with fail
        go_ret
        exact ⟨true, q, rfl, fun h => absurd h (by decide), rfl⟩
    · have i2 : ¬ (262144 : Int) < (a : Int) := by omega
      have Hbig := hide hbig
      rcases hor with h1 | ⟨h1, h2⟩
      · clear hbig
        go_wp2_with fail
        go_ret
        exact ⟨false, q, rfl, fun _ => (unhide Hres) (by have := unhide Hbig; omega), rfl⟩
      · exact absurd h2 (by omega)
end Go.Proofs.Yteiciabhfjakgaa
namespace Go.Proofs.Yteiciabhfjakgaa
set_option linter.unusedVariables false
set_option linter.unusedSimpArgs false
open Go.RowKit
section
variable {P : Program} {t e : TypeId} {size bytes : Nat}
/-- The same, the block's number spelt as the walk has it. -/
theorem wpList_app1g (T : SlTy P t e size bytes) {W : World} {ops : Array Oper} {rest : List Oper} {o : Oper} {a : Act} {Q : Exit → Act → World → Prop} (hgd : o.guard = none) (s x : Operand)
    (ho : o.op = .call { callee := .builtin .append, args := #[s, x], argTypes := #[t, t] })
    (base : Nat) (v : Value) (n : Nat) (xs : List Value) (hs : a.eval s = v) (hown : W.ownsRow base e size v n xs)
    (cs : Array Value) (g : Nat) (hx : a.eval x = .slice (some ⟨g, 0, none⟩) 1 1) (hg : g = W.heap.size) (hcs : cs.size = size) (h1 : ∀ u ∈ cs.toList, u.oneCell' = true)
    (hb : (n + 1) * bytes ≤ 140737488355328) (hbase : base ≤ W.heap.size)
    (h : ∀ A' c' w', w'.ownsRow base e size (.slice A' (n + 1) c') (n + 1) (xs ++ cs.toList) → W.grownBy w' v.ownBlock → (∀ k, (Value.slice A' (n + 1) c').ownBlock = some k → v.ownBlock = some k ∨ W.heap.size ≤ k) → wpList P ops Q rest (a.put o.dst (.slice A' (n + 1) c')) w') : wpList P ops Q (o :: rest) a (W.alloc (.cells cs e)) := by
  subst hg
  exact wpList_app1 T hgd s x ho base v n xs hs hown cs hx hcs h1 hb hbase h
end
end Go.Proofs.Yteiciabhfjakgaa
namespace Go.Proofs.Yteiciabhfjakgaa
set_option linter.unusedVariables false
set_option linter.unusedSimpArgs false
open Go.RowKit

/-- Entries in memory made since w: each with bytes of its own. -/
structure CpS (w : World) (es : List Vf.Ent) (A : Option Addr) (c : Nat) (l' : List EntA) (W : World) : Prop where
  map : l'.map (·.e) = es
  row : W.ownsRow w.heap.size 60 7 (.slice A l'.length c) l'.length (rowCs entVals l')
  dat : ∀ s ∈ l', W.ownsRow w.heap.size 5 1 (.slice s.A s.n s.c) s.n (bys s.e.data)
  apart : l'.Pairwise (fun s t => ∀ g, (Value.slice s.A s.n s.c).ownBlock = some g → (Value.slice t.A t.n t.c).ownBlock ≠ some g)
  bel : Below w.heap.size w W
section
variable {w W W' : World} {es : List Vf.Ent} {A : Option Addr} {c : Nat} {l' : List EntA}
theorem CpS.keep (h : CpS w es A c l' W) (hk : ∀ k, w.heap.size ≤ k → k < W.heap.size → W'.heap[k]? = W.heap[k]?) (hb : Below w.heap.size w W') : CpS w es A c l' W' :=
  ⟨h.map, own_keepA h.row hk, fun s hs => own_keepA (h.dat s hs) hk, h.apart, hb⟩
theorem CpS.below (h : CpS w es A c l' W) (hb : Below W.heap.size W W') : CpS w es A c l' W' := h.keep (fun k _ hk => hb.block k hk) (h.bel.trans (hb.mono h.bel.size))
theorem CpS.len (h : CpS w es A c l' W) : l'.length = es.length := by rw [← h.map, List.length_map]
end
theorem row_blkS {w : World} {base n c k size : Nat} {e : TypeId} {A : Option Addr} {xs : List Value} (h : w.ownsRow base e size (.slice A n c) n xs) (hk : (Value.slice A n c).ownBlock = some k) : ∃ cs, w.heap[k]? = some (.cells cs e (0, 0)) := by
  rcases h.2 with ⟨h1, h2⟩ | ⟨g, cap, cur, hv, hbg, hh, hcap⟩
  · rw [h1] at hk; cases hk
  · rw [hv] at hk
    have : g = k := by simpa [Value.ownBlock] using hk
    exact ⟨cur, this ▸ hh⟩
theorem own_tyne {w : World} {base base2 n c n2 c2 size size2 : Nat} {e e2 : TypeId} {A A2 : Option Addr} {xs xs2 : List Value} (h : w.ownsRow base e size (.slice A n c) n xs) (h2 : w.ownsRow base2 e2 size2 (.slice A2 n2 c2) n2 xs2) (hne : e ≠ e2) : (Value.slice A n c).ownBlock = none ∨ (Value.slice A n c).ownBlock ≠ (Value.slice A2 n2 c2).ownBlock := by
  cases hv : (Value.slice A n c).ownBlock with
  | none => exact .inl rfl
  | some k =>
    refine .inr fun e0 => ?_
    obtain ⟨cs, h3⟩ := row_blkS h hv
    obtain ⟨cs2, h4⟩ := row_blkS h2 e0.symm
    rw [h3] at h4
    injection h4 with h4
    injection h4 with _ h5
    exact hne h5
/-- One entry more, its bytes in a row made since. -/
theorem CpS.next {w W0 W W' : World} {es : List Vf.Ent} {A0 A : Option Addr} {c0 c : Nat} {l' : List EntA} (h0 : CpS w es A c l' W0) (h : CpS w es A c l' W) (s : EntA) (hd : W.ownsRow (W0.heap.size + 1) 5 1 (.slice s.A s.n s.c) s.n (bys s.e.data)) (hlo : w.heap.size ≤ W0.heap.size)
    (A' : Option Addr) (c' : Nat) (hr : W'.ownsRow w.heap.size 60 7 (.slice A' (l'.length + 1) c') (l'.length + 1) (rowCs entVals l' ++ entVals s)) (hg : W.grownBy W' (Value.slice A l'.length c).ownBlock) : CpS w (es ++ [s.e]) A' c' (l' ++ [s]) W' := by
  have hne : (5 : TypeId) ≠ 60 := by decide
  refine ⟨by rw [List.map_append, h.map]; rfl, ?_, ?_, ?_, h.bel.grown hg h.bel.size (fun k hk => (h.row.lt k hk).1)⟩
  · rw [List.length_append, rowCs_app]
    have e1 : rowCs entVals [s] = entVals s := by simp [rowCs]
    rw [e1]
    exact hr
  · intro t ht
    rcases List.mem_append.1 ht with ht | ht
    · exact (h.dat t ht).kept hg (own_tyne (h.dat t ht) h.row hne)
    · have e1 : t = s := by simpa using ht
      subst e1
      exact own_base (hd.kept hg (own_tyne hd h.row hne)) (by omega)
  · rw [List.pairwise_append]
    refine ⟨h.apart, by simp, fun t ht u hu g hg2 e => ?_⟩
    have e1 : u = s := by simpa using hu
    subst e1
    have a1 := ((h0.dat t ht).lt g hg2).2
    have a2 := (hd.lt g e).1
    omega
def CpE (es : List Vf.Ent) (w : World) (e : Ending) (w' : World) : Prop := ∃ A c l', e = .returned (.slice A es.length c) ∧ CpS w es A c l' w'
theorem entC_one (s : EntA) : ∀ u ∈ (entVals s), u.oneCell' = true := by
  intro u hu
  simp only [entVals, entC, List.mem_cons, List.not_mem_nil, or_false] at hu
  rcases hu with rfl | rfl | rfl | rfl | rfl | rfl | rfl <;> rfl

set_option maxRecDepth 100000 in
set_option maxHeartbeats 4000000 in
theorem copyEnts_any (l : List EntA) (A : Option Addr) (n c B : Nat) (w : World) (h : Rd w B 7 A n (rowCs entVals l)) (hB : B ≤ w.heap.size) (hl : l.length = n) (hn : n ≤ 4294967296) (hok : ∀ s ∈ l, Rd w B 1 s.A s.n (bys s.e.data) ∧ s.n ≤ 4294967296) :
    Calls Try.prog 26 #[.slice A n c] w (CpE (l.map (·.e)) w) := by
  have H := hide h
  have Hl := hide hl
  have Hok := hide hok
  clear h hl hok
  go_enter Try.func26, Try.ntmps26
  go_wp2_with fail
  go_loopg [3, 4] n (fun gk lv iv wr => ∃ (k : Nat) (A1 : Option Addr) (c1 : Nat) (l1 : List EntA), gk = n - k ∧ k ≤ n ∧ l1.length = k ∧ iv = .int .i64 (k : Nat) ∧ lv = .slice A1 k c1 ∧ CpS w ((l.take k).map (·.e)) A1 c1 l1 wr)
  case atStart => exact ⟨0, none, 0, [], by omega, Nat.zero_le _, rfl, rfl, rfl, rfl, World.ownsRow_nil _ _ _ _, by simp, by simp, Below.refl _ _⟩
  case round =>
  obtain ⟨k, A1, c1, l1, hgk, hk, hl1, rfl, rfl, hS⟩ := hrel
  have Hgk := hide hgk
  have Hl1 := hide hl1
  have HS := hide hS
  have hsz := hS.bel.size
  clear hgk hS hl1
  by_cases hlt : k < n
  · obtain ⟨s, hs⟩ : ∃ s, l[k]? = some s := ⟨_, List.getElem?_eq_getElem (by rw [unhide Hl]; exact hlt)⟩
    obtain ⟨b1, o1, rfl, hb1, cc1⟩ := (unhide H).open_ (by
      intro h0
      have := rowCs_len (vals := entVals) (size := 7) (fun _ => rfl) l
      rw [h0, unhide Hl] at this
      simp at this
      omega)
    have hc : ∀ j u, (entVals s)[j]? = some u → wr.cell? ⟨b1, o1 + (k * 7 + j), none⟩ = some u := by
      intro j u hu
      have hj : j < 7 := (List.getElem?_eq_some_iff.1 hu).1
      refine ((unhide HS).bel.cell (p := ⟨b1, _, none⟩) (Nat.lt_of_lt_of_le hb1 hB)).trans (cc1 _ _ ?_)
      rw [rowCs_at (vals := entVals) (size := 7) (fun _ => rfl) l k s hs j hj, hu]
    have x0 := hc 0 _ rfl
    have x1 := hc 1 _ rfl
    have x2 := hc 2 _ rfl
    have x3 := hc 3 _ rfl
    have x4 := hc 4 _ rfl
    have x5 := hc 5 _ rfl
    have x6 := hc 6 _ rfl
    rw [Nat.add_zero] at x0
    simp only [← Nat.add_assoc] at x1 x2 x3 x4 x5 x6
    obtain ⟨hd, hdn⟩ := (unhide Hok) s (List.mem_of_getElem? hs)
    have hbA : Below wr.heap.size wr (wr.alloc (.cells #[.string s.e.path, .int .u8 (s.e.kind : Nat), .int .u16 (s.e.mode : Nat), .int .u32 (s.e.uid : Nat), .int .u32 (s.e.gid : Nat), .slice s.A s.n s.c, .string s.e.to] 60)) := (Below.refl _ _).alloc (Nat.le_refl _) _
    have hbW := (unhide HS).bel.trans (hbA.mono hsz)
    have KC := hide (copyBytes_any s.A s.n s.c w.heap.size s.e.data (wr.alloc (.cells #[.string s.e.path, .int .u8 (s.e.kind : Nat), .int .u16 (s.e.mode : Nat), .int .u32 (s.e.uid : Nat), .int .u32 (s.e.gid : Nat), .slice s.A s.n s.c, .string s.e.to] 60)) hbW.size ((hd.more hB).below hbW) hdn)
    have ilt : (k : Int) < (n : Int) := by omega
    have Hs := hide hs
    have HbA := hide hbA
    clear hc cc1 hs hd hdn hbA hbW
    go_wp2_with fail
    refine (unhide KC).mono ?_
    rintro e w2 ⟨A2, c2, rfl, ho2, hb2⟩
    have hq : Blk w2 wr.heap.size 60 [.string s.e.path, .int .u8 (s.e.kind : Nat), .int .u16 (s.e.mode : Nat), .int .u32 (s.e.uid : Nat), .int .u32 (s.e.gid : Nat), .slice s.A s.n s.c, .string s.e.to] := (Blk.new wr 60 _).belowSz hb2
    have hq2 := hq.set 5 (.slice A2 s.n c2)
    have hb3 := (unhide HbA).trans (hb2.mono (by simp))
    have hb4 := hb3.setCell (p := ⟨wr.heap.size, 5, none⟩) (Nat.le_refl _) (.slice A2 s.n c2)
    have ho4 : (w2.setCell ⟨wr.heap.size, 5, none⟩ (.slice A2 s.n c2)).ownsRow (wr.heap.size + 1) 5 1 (.slice A2 s.n c2) s.n (bys s.e.data) := by
      rw [World.size_alloc] at ho2
      exact own_keepB' ho2 (fun g hg => heap_setCell_other _ _ _ _ (by have := (ho2.lt g hg).1; show g ≠ wr.heap.size; omega))
    obtain ⟨p0, p1, p2, p3, p4, p5, p6⟩ : w2.cell? ⟨wr.heap.size, 0, none⟩ = some (.string s.e.path) ∧ w2.cell? ⟨wr.heap.size, 1, none⟩ = some (.int .u8 (s.e.kind : Nat)) ∧ w2.cell? ⟨wr.heap.size, 2, none⟩ = some (.int .u16 (s.e.mode : Nat)) ∧ w2.cell? ⟨wr.heap.size, 3, none⟩ = some (.int .u32 (s.e.uid : Nat)) ∧ w2.cell? ⟨wr.heap.size, 4, none⟩ = some (.int .u32 (s.e.gid : Nat)) ∧ w2.cell? ⟨wr.heap.size, 5, none⟩ = some (.slice s.A s.n s.c) ∧ w2.cell? ⟨wr.heap.size, 6, none⟩ = some (.string s.e.to) := ⟨hq.cell rfl, hq.cell rfl, hq.cell rfl, hq.cell rfl, hq.cell rfl, hq.cell rfl, hq.cell rfl⟩
    have pf := hq.free 5
    have HS4 := hide ((unhide HS).below hb4)
    have Ho4 := hide ho4
    have Hb4 := hide hb4
    have hsz4 : wr.heap.size ≤ (w2.setCell ⟨wr.heap.size, 5, none⟩ (.slice A2 s.n c2)).heap.size := hb4.size
    have hszw : w.heap.size ≤ (w2.setCell ⟨wr.heap.size, 5, none⟩ (.slice A2 s.n c2)).heap.size := Nat.le_trans hsz hsz4
    have Hq2 := hide hq2
    have hrow4 := (unhide HS4).row
    rw [unhide Hl1] at hrow4
    have Hrow4 := hide hrow4
    have hent : (l.take (k + 1)).map (·.e) = (l.take k).map (·.e) ++ [s.e] := by
      rw [List.take_add_one, unhide Hs, List.map_append]
      rfl
    have Hent := hide hent
    clear x0 x1 x2 x3 x4 x5 x6 hb2 ho2 hq hq2 hb3 hb4 ho4 KC HbA hrow4 hent
    go_wp2_with (at_builtin; refine wpList_app1g entTy rfl _ _ rfl w.heap.size (.slice A1 k c1) k _ rfl (unhide Hrow4) #[.string s.e.path, .int .u8 (s.e.kind : Nat), .int .u16 (s.e.mode : Nat), .int .u32 (s.e.uid : Nat), .int .u32 (s.e.gid : Nat), .slice A2 s.n c2, .string s.e.to] _ rfl (by simp) rfl (entC_one ⟨s.e, A2, s.n, c2⟩) (by omega) hszw ?_; intro A5 c5 w5 ho5 hg5 hat5; have Ho5 := hide ho5; have Hg5 := hide hg5; clear ho5 hg5 hat5)
    go_roundg (n - (k + 1))
    case rel =>
      have hg5 := unhide Hg5
      refine ⟨k + 1, A5, c5, l1 ++ [⟨s.e, A2, s.n, c2⟩], rfl, by omega, by rw [List.length_append, unhide Hl1]; rfl, by go_num, rfl, ?_⟩
      rw [unhide Hent]
      exact CpS.next (A0 := A1) (c0 := c1) (unhide HS) (unhide HS4) ⟨s.e, A2, s.n, c2⟩ (unhide Ho4) hsz A5 c5 (by rw [unhide Hl1]; exact unhide Ho5) (by rw [unhide Hl1]; exact hg5)
    case measure => rw [unhide Hgk]; omega
  · have ilt : ¬ (k : Int) < (n : Int) := by omega
    have hkn : k = n := by omega
    go_wp2_with fail
    go_ret
    have hS := unhide HS
    rw [List.take_of_length_le (by rw [unhide Hl]; omega)] at hS
    refine ⟨A1, c1, l1, ?_, hS⟩
    rw [List.length_map, unhide Hl]
    first | rfl | rw [hkn]
end Go.Proofs.Yteiciabhfjakgaa
namespace Go.Proofs.Yteiciabhfjakgaa.Vf
set_option linter.unusedVariables false
set_option linter.unusedSimpArgs false

def zc : Cred := ⟨0, 0, 0, 0, []⟩
theorem mayX_zero {F : List Nd} {i : Nat} (h : kindAt F i = 2) : mayX zc (nd F i).m = true := by
  obtain ⟨x, hx, hk⟩ := kindAt_lt h
  rw [nd_eq hx]
  simp [mayX, zc, hk]
theorem hop_zero (F : List Nd) (c : Cred) (last : Bool) (s : St) : (∀ x, hop F zc last s = .inl x → x.1 ≠ 5) ∧ (hop F c last s = .inl (5, 0) ∨ hop F c last s = hop F zc last s) := by
  cases hl : s.left with
  | nil =>
    rw [hop_nil hl, hop_nil hl]
    exact ⟨fun x hx => by injection hx with hx; rw [← hx]; show (0 : Int) ≠ 5; decide, .inr rfl⟩
  | cons p r =>
    by_cases hk : kindAt F s.at_ = 2
    · have hz := mayX_zero hk
      constructor
      · intro x hx h5
        unfold hop at hx
        rw [hl] at hx
        simp only at hx
        rw [if_neg (by simp [hk]), if_neg (by simp [hz])] at hx
        split at hx
        · cases hx
        · split at hx
          · injection hx with hx; rw [← hx] at h5; cases h5
          · split at hx
            · cases hx
            · split at hx
              · injection hx with hx; rw [← hx] at h5; cases h5
              · cases hx
      · by_cases hm : mayX c (nd F s.at_).m = false
        · exact .inl (hop_shut hl hk hm)
        · right
          have hm' : mayX c (nd F s.at_).m = true := by simpa using hm
          unfold hop
          rw [hl]
          simp only [hk, hm', hz]
    · rw [hop_no hl hk, hop_no hl hk]
      exact ⟨fun x hx => by injection hx with hx; rw [← hx]; decide, .inr rfl⟩
theorem ends_zero (F : List Nd) (c : Cred) (last : Bool) : ∀ (k : Nat) (s : St), mu s ≤ k → (ends F zc last s).1 ≠ 5 ∧ (ends F c last s = (5, 0) ∨ ends F c last s = ends F zc last s) := by
  intro k
  induction k using Nat.strongRecOn with
  | ind k ih =>
    intro s hk
    obtain ⟨h1, h2⟩ := hop_zero F c last s
    rw [ends_eq F zc last s, ends_eq F c last s]
    cases hz : hop F zc last s with
    | inl x =>
      refine ⟨h1 x hz, ?_⟩
      rcases h2 with h2 | h2
      · rw [h2]; exact .inl rfl
      · rw [h2, hz]; exact .inr rfl
    | inr s' =>
      have hm := hop_mu hz
      obtain ⟨a, b⟩ := ih (mu s') (by omega) s' (Nat.le_refl _)
      refine ⟨a, ?_⟩
      rcases h2 with h2 | h2
      · rw [h2]; exact .inl rfl
      · rw [h2, hz]; exact b
theorem chk_vals (p : ByteArray) : Pth.chk p ≠ 5 := by
  unfold Pth.chk
  repeat' split
  all_goals decide
theorem walk_zero (F : List Nd) (c : Cred) (src : Int) (path : ByteArray) (last : Bool) : (walk F zc src path last).2 ≠ 5 ∧ (walk F c src path last = (0, 5) ∨ walk F c src path last = walk F zc src path last) := by
  unfold walk
  by_cases h1 : src < 0 ∨ kindAt F src.toNat ≠ 2
  · rw [if_pos h1, if_pos h1]
    exact ⟨by decide, .inr rfl⟩
  · rw [if_neg h1, if_neg h1]
    by_cases h2 : Pth.chk path ≠ 0
    · rw [if_pos h2, if_pos h2]
      exact ⟨chk_vals path, .inr rfl⟩
    · rw [if_neg h2, if_neg h2]
      obtain ⟨a, b⟩ := ends_zero F c (last || Pth.tailB path) _ ⟨if Pth.rootB path then 0 else src.toNat, 0, Pth.partsL path⟩ (Nat.le_refl _)
      simp only
      generalize ends F zc (last || Pth.tailB path) ⟨if Pth.rootB path then 0 else src.toNat, 0, Pth.partsL path⟩ = z at *
      generalize ends F c (last || Pth.tailB path) ⟨if Pth.rootB path then 0 else src.toNat, 0, Pth.partsL path⟩ = y at *
      constructor
      · split
        · exact a
        · split
          · show (8 : Int) ≠ 5; decide
          · show (0 : Int) ≠ 5; decide
      · rcases b with b | b
        · rw [b]
          exact .inl rfl
        · rw [b]
          exact .inr rfl
end Go.Proofs.Yteiciabhfjakgaa.Vf
namespace Go.Proofs.Yteiciabhfjakgaa
set_option linter.unusedVariables false
set_option linter.unusedSimpArgs false
open Go.RowKit

/-- Entries that are not too great. -/
def EsFit (es : List Vf.Ent) : Prop := ∀ e ∈ es, e.path.size ≤ 262144 ∧ e.data.length ≤ 262144 ∧ e.to.size ≤ 262144 ∧ e.mode < 65536
theorem CpS.newArgs {w W : World} {es : List Vf.Ent} {A : Option Addr} {c : Nat} {l' : List EntA} (h : CpS w es A c l' W) (hs : EsFit es) : Rd W W.heap.size 7 A l'.length (rowCs entVals l') ∧ ∀ s ∈ l', EntOk W s := by
  refine ⟨Rd.of_own h.row, fun s hm => ?_⟩
  have hd := h.dat s hm
  have he : s.e ∈ es := by rw [← h.map]; exact List.mem_map.2 ⟨s, hm, rfl⟩
  obtain ⟨a, b, d, e⟩ := hs s.e he
  have hlen : s.e.data.length = s.n := by have := hd.1; simpa [bys] using this
  exact ⟨Rd.of_own hd, by omega, by omega, by omega, e⟩
theorem esFit_of {l : List EntA} {w : World} (hin : ∀ s ∈ l, EntIn w s) (h : ∀ s ∈ l, s.e.path.size ≤ 262144 ∧ s.n ≤ 262144 ∧ s.e.to.size ≤ 262144) : EsFit (l.map (·.e)) := by
  intro e he
  obtain ⟨s, hs, rfl⟩ := List.mem_map.1 he
  obtain ⟨a, b, d⟩ := h s hs
  have hlen : s.e.data.length = s.n := by have := (hin s hs).d.len1; simpa [bys] using this
  exact ⟨a, by omega, d, (hin s hs).m⟩

/-- The law's own copies of credentials and way, in the world W. -/
structure WyS (w : World) (c : Vf.Cred) (A : Option Addr) (n k : Nat) (src : Int) (path : ByteArray) (last : Bool) (W : World) : Prop where
  bel : Below w.heap.size w W
  c : Blk W w.heap.size 44 [.int .u32 (c.uid : Nat), .int .u32 (c.euid : Nat), .int .u32 (c.suid : Nat), .int .u32 (c.gid : Nat), .slice A n k]
  y : Blk W (w.heap.size + 1) 46 [.int .i64 src, .string path, .bool last]
section
variable {w W W' : World} {c : Vf.Cred} {A : Option Addr} {n k : Nat} {src : Int} {path : ByteArray} {last : Bool}
theorem WyS.below (h : WyS w c A n k src path last W) (hb : Below W.heap.size W W') : WyS w c A n k src path last W' := ⟨h.bel.trans (hb.mono h.bel.size), h.c.belowSz hb, h.y.belowSz hb⟩
theorem WyS.drewN (h : WyS w c A n k src path last W) (q : Nat) : WyS w c A n k src path last (W.drewN q) := ⟨below_drewN' h.bel q, h.c, h.y⟩
theorem WyS.cells (h : WyS w c A n k src path last W) : (W.cell? ⟨w.heap.size, 0, none⟩ = some (.int .u32 (c.uid : Nat)) ∧ W.cell? ⟨w.heap.size, 1, none⟩ = some (.int .u32 (c.euid : Nat)) ∧ W.cell? ⟨w.heap.size, 2, none⟩ = some (.int .u32 (c.suid : Nat)) ∧ W.cell? ⟨w.heap.size, 3, none⟩ = some (.int .u32 (c.gid : Nat)) ∧ W.cell? ⟨w.heap.size, 4, none⟩ = some (.slice A n k)) ∧ W.cell? ⟨w.heap.size + 1, 0, none⟩ = some (.int .i64 src) ∧ W.cell? ⟨w.heap.size + 1, 1, none⟩ = some (.string path) ∧ W.cell? ⟨w.heap.size + 1, 2, none⟩ = some (.bool last) :=
  ⟨⟨h.c.cell rfl, h.c.cell rfl, h.c.cell rfl, h.c.cell rfl, h.c.cell rfl⟩, h.y.cell rfl, h.y.cell rfl, h.y.cell rfl⟩
theorem WyS.start (w : World) (c : Vf.Cred) (A : Option Addr) (n k : Nat) (src : Int) (path : ByteArray) (last : Bool) :
    WyS w c A n k src path last ((w.alloc (.cells #[.int .u32 (c.uid : Nat), .int .u32 (c.euid : Nat), .int .u32 (c.suid : Nat), .int .u32 (c.gid : Nat), .slice A n k] 44)).alloc (.cells #[.int .i64 src, .string path, .bool last] 46)) := by
  refine ⟨((Below.refl _ _).alloc (Nat.le_refl _) _).alloc (by simp) _, ?_, ?_⟩
  · exact (Blk.new w 44 [.int .u32 (c.uid : Nat), .int .u32 (c.euid : Nat), .int .u32 (c.suid : Nat), .int .u32 (c.gid : Nat), .slice A n k]).alloc _
  · have := Blk.new (w.alloc (.cells #[.int .u32 (c.uid : Nat), .int .u32 (c.euid : Nat), .int .u32 (c.suid : Nat), .int .u32 (c.gid : Nat), .slice A n k] 44)) 46 [.int .i64 src, .string path, .bool last]
    rw [World.size_alloc] at this
    exact this
end

set_option maxRecDepth 100000 in
set_option maxHeartbeats 4000000 in
theorem vfsRights_walk (l : List EntA) (A : Option Addr) (n c : Nat) (cr : Vf.Cred) (Ag : Option Addr) (ng kg : Nat) (src : Int) (path : ByteArray) (last : Bool) (w : World) (h : Rd w w.heap.size 7 A n (rowCs entVals l)) (hl : l.length = n) (hnc : n ≤ c) (hcm : c ≤ maxLen) (hin : ∀ s ∈ l, EntIn w s)
    (hg : Rd w w.heap.size 1 Ag ng (cr.groups.map u32v)) (hgk : ng ≤ kg) (hgm : kg ≤ maxLen) (hp : path.size ≤ maxLen) :
    Calls Try.prog 7 #[.slice A n c, credV cr Ag ng kg, .agg #[.int .i64 src, .string path, .bool last]] w fun e w' => e = .returned (.bool true) ∧ Below w.heap.size w w' := by
  have S0 := hide (WyS.start w cr Ag ng kg src path last)
  have KL := hide (large_any l A n c w.heap.size _ (h.below (unhide S0).bel) hl (Nat.le_trans hnc hcm) (fun s hs => ⟨(hin s hs).p, Nat.le_trans (hin s hs).nc (hin s hs).c, (hin s hs).t⟩))
  have KS := hide (fun w' => small_any cr Ag ng kg path w')
  have KW := hide (fun w' => works_any w')
  obtain ⟨sb, hsb⟩ : ∃ b, (decide (ng ≤ 1024) && decide (path.size ≤ 4096)) = b := ⟨_, rfl⟩
  rw [hsb] at KS
  have Hsb := hide hsb
  have H := hide h
  have Hin := hide hin
  have Hg := hide hg
  have Hl := hide hl
  unfold credV at KS ⊢
  clear hsb h hin hg hl
  go_enter Try.func7, Try.ntmps7
  go_wp2_with fail
  refine (unhide KL).mono ?_
  rintro e w1 ⟨lb, q, rfl, hlb, rfl⟩
  have S1 := hide ((unhide S0).drewN q)
  have Hlb := hide hlb
  clear hlb S0 KL
  generalize ((w.alloc (.cells #[.int .u32 (cr.uid : Nat), .int .u32 (cr.euid : Nat), .int .u32 (cr.suid : Nat), .int .u32 (cr.gid : Nat), .slice Ag ng kg] 44)).alloc (.cells #[.int .i64 src, .string path, .bool last] 46)).drewN q = W1 at *
  obtain ⟨⟨v0, v1, v2, v3, v4⟩, y0, y1, y2⟩ := (unhide S1).cells
  cases lb with
  | true =>
    go_wp2_with fail
    refine ((unhide KW) _).mono ?_
    rintro e w2 ⟨rfl, hb2⟩
    have S2 := hide ((unhide S1).below hb2)
    clear hb2
    go_wp2_with fail
    go_ret
    exact ⟨rfl, (unhide S2).bel⟩
  | false =>
  go_wp2_with fail
  refine ((unhide KS) _).mono ?_
  rintro e w2 ⟨rfl, hb2⟩
  have S2 := hide ((unhide S1).below hb2)
  clear hb2 S1 v0 v1 v2 v3 v4 y0 y1 y2
  cases sb with
  | false =>
    go_wp2_with fail
    refine ((unhide KW) _).mono ?_
    rintro e w3 ⟨rfl, hb3⟩
    have S3 := hide ((unhide S2).below hb3)
    clear hb3
    go_wp2_with fail
    go_ret
    exact ⟨rfl, (unhide S3).bel⟩
  | true =>
  obtain ⟨hn26, hall⟩ := (unhide Hlb) (by first | rfl | trivial)
  have hfit := esFit_of (unhide Hin) hall
  have KC := copyEnts_any l A n c w.heap.size w2 ((unhide H).below (unhide S2).bel) (unhide S2).bel.size (unhide Hl) (by omega) (fun s hs => ⟨((unhide Hin) s hs).d.below (unhide S2).bel, by have := (hall s hs).2.1; omega⟩)
  have HKC := hide KC
  have Hfit := hide hfit
  clear KC hall hfit Hlb
  go_wp2_with fail
  refine (unhide HKC).mono ?_
  rintro e w3 ⟨A3, c3, l3, rfl, hcp⟩
  obtain ⟨hr3, hok3⟩ := hcp.newArgs (unhide Hfit)
  have hlen3 : l3.length = (l.map (·.e)).length := hcp.len
  have KN := new_any l3 A3 (l.map (·.e)).length c3 w3 (by rw [← hlen3]; exact hr3) hlen3 hok3 (by rw [List.length_map, unhide Hl]; omega)
  rw [hcp.map] at KN
  have hes64 : (l.map (·.e)).length = n := by rw [List.length_map, unhide Hl]
  rw [hes64] at KN
  unfold NewE at KN
  rw [hes64] at KN
  obtain ⟨⟨ne, ni, F⟩, hnew⟩ : ∃ r, Vf.new (l.map (·.e)) = r := ⟨_, rfl⟩
  rw [hnew] at KN
  dsimp only at KN
  have S3 := hide ((unhide S2).below hcp.bel)
  have HKN := hide KN
  rw [hes64]
  clear hr3 hok3 KN hlen3 S2 HKC hcp hes64 hnew
  go_wp2_with fail
  refine (unhide HKN).mono ?_
  rintro e w4 ⟨hb4, ⟨h0, rfl⟩ | ⟨h0, f, Af, cf, L, rfl, hFS, hF, hFl, h01, h64⟩⟩
  · have S4 := hide ((unhide S3).below hb4)
    clear hb4 HKN h0
    go_wp2_with fail
    refine ((unhide KW) _).mono ?_
    rintro e w5 ⟨rfl, hb5⟩
    have S5 := hide ((unhide S4).below hb5)
    clear hb5
    go_wp2_with fail
    go_ret
    exact ⟨rfl, (unhide S5).bel⟩
  · have S4 := hide ((unhide S3).below hb4)
    have hn65 : F.length ≤ 65 := by rw [hFl]; omega
    have hpath : path.size ≤ 4096 ∧ ng ≤ 1024 := by
      have := unhide Hsb
      simp only [Bool.and_eq_true, decide_eq_true_eq] at this
      exact ⟨this.2, this.1⟩
    have KCp : ∀ w', Below w4.heap.size w4 w' → Calls Try.prog 22 #[.agg #[.int .u32 (cr.uid : Nat), .int .u32 (cr.euid : Nat), .int .u32 (cr.suid : Nat), .int .u32 (cr.gid : Nat), .slice Ag ng kg]] w' fun e w5 => ∃ A' k', e = .returned (.agg #[.int .u32 (cr.uid : Nat), .int .u32 (cr.euid : Nat), .int .u32 (cr.suid : Nat), .int .u32 (cr.gid : Nat), .slice A' ng k']) ∧ Rd w5 w5.heap.size 1 A' ng (cr.groups.map u32v) ∧ Below w'.heap.size w' w5 :=
      fun w' hb => copyCred_any cr Ag ng kg w.heap.size w' ((unhide Hg).below ((unhide S4).bel.trans (hb.mono (unhide S4).bel.size))) (Nat.le_trans (unhide S4).bel.size hb.size) (by omega)
    have KWk : ∀ w', Below w4.heap.size w4 w' → ∀ (A' : Option Addr) (k' : Nat), Rd w' w'.heap.size 1 A' ng (cr.groups.map u32v) → Calls Try.prog 21 #[.pointer (some ⟨f, 0, none⟩), .agg #[.int .u32 (cr.uid : Nat), .int .u32 (cr.euid : Nat), .int .u32 (cr.suid : Nat), .int .u32 (cr.gid : Nat), .slice A' ng k'], .int .i64 src, .string path, .bool last] w' fun e w5 => e = .returned (.tuple #[.int .i64 ((Vf.walk F cr src path last).1 : Nat), .int .i64 (Vf.walk F cr src path last).2]) ∧ Below w'.heap.size w' w5 :=
      fun w' hb A' k' hr => walk_any F L _ f cf Af A' ng k' cr src path last w' hF (hFS.belowSz hb) hn65 hr (by unfold maxLen; omega) (by omega)
    have KWz : ∀ w', Below w4.heap.size w4 w' → Calls Try.prog 21 #[.pointer (some ⟨f, 0, none⟩), .agg #[.int .u32 0, .int .u32 0, .int .u32 0, .int .u32 0, .slice none 0 0], .int .i64 src, .string path, .bool last] w' fun e w5 => e = .returned (.tuple #[.int .i64 ((Vf.walk F Vf.zc src path last).1 : Nat), .int .i64 (Vf.walk F Vf.zc src path last).2]) ∧ Below w'.heap.size w' w5 :=
      fun w' hb => walk_any F L _ f cf Af none 0 0 Vf.zc src path last w' hF (hFS.belowSz hb) hn65 ⟨rfl, .inl rfl⟩ (by unfold maxLen; omega) (by omega)
    have hlaw := Vf.walk_zero F cr src path last
    obtain ⟨⟨n1, e1⟩, hw1⟩ : ∃ r, Vf.walk F cr src path last = r := ⟨_, rfl⟩
    obtain ⟨⟨m1, x1⟩, hw2⟩ : ∃ r, Vf.walk F Vf.zc src path last = r := ⟨_, rfl⟩
    rw [hw1] at KWk
    rw [hw2] at KWz
    rw [hw1, hw2] at hlaw
    dsimp only at KWk KWz hlaw
    have HSK : ∀ w', Below w4.heap.size w4 w' → (Below w4.heap.size w4 w' ∧ w'.cell? ⟨w.heap.size, 0, none⟩ = some (.int .u32 (cr.uid : Nat)) ∧ w'.cell? ⟨w.heap.size, 1, none⟩ = some (.int .u32 (cr.euid : Nat)) ∧ w'.cell? ⟨w.heap.size, 2, none⟩ = some (.int .u32 (cr.suid : Nat)) ∧ w'.cell? ⟨w.heap.size, 3, none⟩ = some (.int .u32 (cr.gid : Nat)) ∧ w'.cell? ⟨w.heap.size, 4, none⟩ = some (.slice Ag ng kg) ∧ w'.cell? ⟨w.heap.size + 1, 0, none⟩ = some (.int .i64 src) ∧ w'.cell? ⟨w.heap.size + 1, 1, none⟩ = some (.string path) ∧ w'.cell? ⟨w.heap.size + 1, 2, none⟩ = some (.bool last)) := by
      intro w' hb
      obtain ⟨⟨a0, a1, a2, a3, a4⟩, b0, b1, b2⟩ := ((unhide S4).below hb).cells
      exact ⟨hb, a0, a1, a2, a3, a4, b0, b1, b2⟩
    have HKCp := hide KCp
    have HKWk := hide KWk
    have HKWz := hide KWz
    have HSK' := hide HSK
    have Hlaw := hide hlaw
    obtain ⟨-, v0, v1, v2, v3, v4, y0, y1, y2⟩ := HSK w4 (Below.refl _ _)
    unfold ptrV
    clear KCp KWk KWz HSK hlaw hw1 hw2 hFS hF hFl hb4 h0 h01 h64 HKN
    go_wp2_with fail
    go_region_held3 (fun w' => Below w4.heap.size w4 w' ∧ w'.cell? ⟨w.heap.size, 0, none⟩ = some (.int .u32 (cr.uid : Nat)) ∧ w'.cell? ⟨w.heap.size, 1, none⟩ = some (.int .u32 (cr.euid : Nat)) ∧ w'.cell? ⟨w.heap.size, 2, none⟩ = some (.int .u32 (cr.suid : Nat)) ∧ w'.cell? ⟨w.heap.size, 3, none⟩ = some (.int .u32 (cr.gid : Nat)) ∧ w'.cell? ⟨w.heap.size, 4, none⟩ = some (.slice Ag ng kg) ∧ w'.cell? ⟨w.heap.size + 1, 0, none⟩ = some (.int .i64 src) ∧ w'.cell? ⟨w.heap.size + 1, 1, none⟩ = some (.string path) ∧ w'.cell? ⟨w.heap.size + 1, 2, none⟩ = some (.bool last)) (first | exact (unhide HSK') _ (below_drew' (Below.refl _ _)) | exact (unhide HSK') _ (unhide hbn)) (first
      | (go_at_call 22; rename Below _ _ _ ∧ _ => hH; refine ((unhide HKCp) _ hH.1).mono ?_; rintro e w5 ⟨A5, k5, rfl, hr5, hb5⟩; have hbn := hide (hH.1.trans (hb5.mono hH.1.size)); have Hr5 := hide hr5; clear hb5 hr5)
      | (go_at_call 21; rename Below _ _ _ ∧ _ => hH; refine ((unhide HKWk) _ hH.1 _ _ (unhide Hr5)).mono ?_; rintro e w6 ⟨rfl, hb6⟩; have hbn := hide (hH.1.trans (hb6.mono hH.1.size)); clear hb6))
    have S6 := hide ((unhide S4).below (unhide hbn))
    clear v0 v1 v2 v3 v4 y0 y1 y2
    obtain ⟨-, y0, y1, y2⟩ := (unhide S6).cells
    go_wp2_with fail
    refine ((unhide HKWz) _ (unhide hbn)).mono ?_
    rintro e w7 ⟨rfl, hb7⟩
    have S7 := hide ((unhide S6).below hb7)
    clear hb7 y0 y1 y2 HKCp HKWk HKWz HSK'
    obtain ⟨hx5, hl2⟩ := unhide Hlaw
    have q1 : (x1 != 5) = true := by simpa using hx5
    have q2 : (x1 == 5) = false := by simpa using hx5
    have fin : ∀ w8, Below w7.heap.size w7 w8 → Below w.heap.size w w8 := fun w8 hb => ((unhide S7).below hb).bel
    have Hfin := hide fin
    clear hx5 Hlaw fin
    rcases hl2 with hl2 | hl2
    · injection hl2 with a b
      subst a b
      go_wp2_with fail
      refine ((unhide KW) _).mono ?_
      rintro e w8 ⟨rfl, hb8⟩
      have Hb8 := hide ((unhide Hfin) _ hb8)
      clear hb8
      go_wp2_with fail
      go_ret
      exact ⟨rfl, unhide Hb8⟩
    · injection hl2 with a b
      subst a b
      have r1 : (((n1 : Nat) : Int) == ((n1 : Nat) : Int)) = true := beq_self_eq_true _
      have r2 : (e1 == e1) = true := beq_self_eq_true _
      go_wp2_with fail
      refine ((unhide KW) _).mono ?_
      rintro e w8 ⟨rfl, hb8⟩
      have Hb8 := hide ((unhide Hfin) _ hb8)
      clear hb8
      go_wp2_with fail
      go_ret
      exact ⟨rfl, unhide Hb8⟩
end Go.Proofs.Yteiciabhfjakgaa
namespace Go.Proofs.Yteiciabhfjakgaa.Pth
set_option linter.unusedVariables false
set_option linter.unusedSimpArgs false

/-- A text cut at its slashes, acc being what has been read of the running piece. -/
def sp : List UInt8 → List UInt8 → List (List UInt8)
  | [], acc => [acc]
  | c :: r, acc => if c = 47 then acc :: sp r [] else sp r (acc ++ [c])
def split (l : List UInt8) : List (List UInt8) := sp l []

theorem sp_slash (x y : List UInt8) : ∀ acc, sp (x ++ 47 :: y) acc = sp x acc ++ split y := by
  induction x with
  | nil => intro acc; simp [sp, split]
  | cons c r ih =>
    intro acc
    by_cases h : c = 47
    · simp [sp, h, ih]
    · simp [sp, h, ih]
theorem split_slash (x y : List UInt8) : split (x ++ 47 :: y) = split x ++ split y := sp_slash x y []
theorem sp_plain (x : List UInt8) : ∀ acc, (∀ c ∈ x, c ≠ 47) → sp x acc = [acc ++ x] := by
  induction x with
  | nil => intro acc _; simp [sp]
  | cons c r ih =>
    intro acc h
    have hc := h c (by simp)
    simp only [sp, hc, if_false]
    rw [ih _ (fun d hd => h d (by simp [hd]))]
    simp
theorem split_plain (x : List UInt8) (h : ∀ c ∈ x, c ≠ 47) : split x = [x] := by have e := sp_plain x [] h; rwa [List.nil_append] at e
theorem sp_mem (l : List UInt8) : ∀ acc q, q ∈ sp l acc → ∀ c ∈ q, c ∈ acc ∨ (c ∈ l ∧ c ≠ 47) := by
  induction l with
  | nil => intro acc q hq c hc; simp [sp] at hq; subst hq; exact .inl hc
  | cons d r ih =>
    intro acc q hq c hc
    by_cases h : d = 47
    · simp only [sp, h, if_true, List.mem_cons] at hq
      rcases hq with rfl | hq
      · exact .inl hc
      · rcases ih [] q hq c hc with h1 | h1
        · simp at h1
        · exact .inr ⟨by simp [h1.1], h1.2⟩
    · simp only [sp, h, if_false] at hq
      rcases ih _ q hq c hc with h1 | h1
      · rcases List.mem_append.1 h1 with h1 | h1
        · exact .inl h1
        · simp at h1; subst h1; exact .inr ⟨by simp, h⟩
      · exact .inr ⟨by simp [h1.1], h1.2⟩
theorem split_mem {l q : List UInt8} (h : q ∈ split l) {c : UInt8} (hc : c ∈ q) : c ∈ l ∧ c ≠ 47 := (sp_mem l [] q h c hc).resolve_left (by simp)
theorem sp_len (l : List UInt8) : ∀ acc, ((sp l acc).map List.length).sum + (sp l acc).length = acc.length + l.length + 1 := by
  induction l with
  | nil => intro acc; simp [sp]
  | cons d r ih =>
    intro acc
    by_cases h : d = 47
    · have := ih []
      simp [sp, h] at this ⊢
      omega
    · have := ih (acc ++ [d])
      simp [sp, h] at this ⊢
      omega
theorem split_len (l : List UInt8) : ((split l).map List.length).sum + (split l).length = l.length + 1 := by have e := sp_len l []; simp only [List.length_nil, Nat.zero_add] at e; exact e

theorem pcsL_map (s : ByteArray) : ∀ (r : List UInt8) (i f : Nat), r = s.data.toList.drop i → f ≤ i → i ≤ s.size → (pcsL s r i f).map (fun x => x.data.toList) = sp r ((s.data.toList.drop f).take (i - f)) := by
  intro r
  induction r with
  | nil =>
    intro i f hr hf hi
    simp [pcsL, sp, Lib.extract_data]
  | cons c r ih =>
    intro i f hr hf hi
    have hlt : i < s.data.toList.length := by
      rcases Nat.lt_or_ge i s.data.toList.length with h | h
      · exact h
      · rw [List.drop_of_length_le h] at hr; cases hr
    have hd := List.drop_eq_getElem_cons hlt
    rw [← hr] at hd
    injection hd with h1 h2
    have hsz : s.data.toList.length = s.size := rfl
    by_cases h : c = 47
    · simp only [pcsL, sp, h, if_true, List.map_cons, Lib.extract_data]
      rw [ih (i + 1) (i + 1) h2 (Nat.le_refl _) (by omega)]
      simp
    · simp only [pcsL, sp, h, if_false]
      rw [ih (i + 1) f h2 (by omega) (by omega)]
      congr 1
      rw [show i + 1 - f = (i - f) + 1 from by omega, List.take_add_one]
      congr 1
      rw [List.getElem?_drop, show f + (i - f) = i from by omega, List.getElem?_eq_getElem hlt, ← h1]
      rfl
theorem pcs_map (s : ByteArray) : (pcs s).map (fun x => x.data.toList) = split s.data.toList := by
  have := pcsL_map s s.data.toList 0 0 (by simp) (Nat.le_refl _) (Nat.zero_le _)
  simpa [pcs, split] using this

def longL (q : List UInt8) : Bool := decide (32 < q.length)
def chkL (l : List UInt8) : Int := if l = [] then 3 else if l.contains 0 then 1 else if 200 < l.length then 11 else if (split l).any longL then 11 else 0
def partL (q : List UInt8) : Bool := !(q == []) && !(q == [46])
def partsOf (l : List UInt8) : List (List UInt8) := if chkL l = 0 then (split l).filter partL else []
def rootL (l : List UInt8) : Bool := decide (chkL l = 0) && [47].isPrefixOf l

theorem chk_eq (p : ByteArray) : chk p = chkL p.data.toList := by
  unfold chk chkL
  have h1 : (p.size = 0) = (p.data.toList = []) := by
    rw [eq_iff_iff, ← List.length_eq_zero_iff]
    exact Iff.rfl
  have h2 : (200 < p.size) = (200 < p.data.toList.length) := rfl
  have h3 : (pcs p).any tooLong = (split p.data.toList).any longL := by
    rw [← pcs_map, List.any_map]
    congr 1
  rw [h3]
  simp only [h1, h2]
theorem partsL_map (p : ByteArray) : (partsL p).map (fun x => x.data.toList) = partsOf p.data.toList := by
  unfold partsL partsOf parts
  rw [chk_eq]
  split
  · rw [← pcs_map, List.filter_map]
    rfl
  · rfl
theorem rootB_eq (p : ByteArray) : rootB p = rootL p.data.toList := by
  unfold rootB rootL
  rw [chk_eq]
  rfl
theorem map_data_inj {a b : List ByteArray} (h : a.map (fun x => x.data.toList) = b.map (fun x => x.data.toList)) : a = b := by
  refine List.map_inj_right (f := fun x : ByteArray => x.data.toList) (fun x y e => ByteArray.ext (Array.toList_inj.1 e)) |>.1 h

theorem chkL_zero {l : List UInt8} : chkL l = 0 ↔ l ≠ [] ∧ l.contains 0 = false ∧ l.length ≤ 200 ∧ (split l).any longL = false := by
  unfold chkL
  constructor
  · intro h
    split at h
    · cases h
    · split at h
      · cases h
      · split at h
        · cases h
        · split at h
          · cases h
          · rename_i h1 h2 h3 h4
            exact ⟨h1, by simpa using h2, by omega, by simpa using h4⟩
  · rintro ⟨h1, h2, h3, h4⟩
    rw [if_neg h1, h2, if_neg (by simp), if_neg (by omega), h4]
    rfl

/-- The parts of what is joined are those of both. -/
def joinL (d p : List UInt8) : List UInt8 := if d = [] ∨ [47].isPrefixOf p then p else if [47].isSuffixOf d then d ++ p else d ++ 47 :: p
theorem joinB_eq (d p : ByteArray) : (joinB d p).data.toList = joinL d.data.toList p.data.toList := by
  unfold joinB joinL
  have h1 : (d.size = 0) = (d.data.toList = []) := by
    rw [eq_iff_iff, ← List.length_eq_zero_iff]
    exact Iff.rfl
  have h2 : headB p = [47].isPrefixOf p.data.toList := rfl
  have h3 : tailB d = [47].isSuffixOf d.data.toList := rfl
  rw [h2, h3]
  simp only [h1]
  split
  · rfl
  · split
    · simp
    · simp [slash]
theorem suffix_form {d : List UInt8} (h : [47].isSuffixOf d = true) : ∃ d', d = d' ++ [47] := by
  rw [List.isSuffixOf_iff_suffix] at h
  obtain ⟨t, ht⟩ := h
  exact ⟨t, ht.symm⟩
theorem split_tail (d : List UInt8) : split (d ++ [47]) = split d ++ [[]] := split_slash d []
theorem parts_join (d p : List UInt8) (hd : d ≠ []) (hp : [47].isPrefixOf p = false) :
    (split (joinL d p)).filter partL = (split d).filter partL ++ (split p).filter partL := by
  unfold joinL
  rw [if_neg (by simp [hd, hp])]
  split
  · rename_i h
    obtain ⟨d', rfl⟩ := suffix_form h
    rw [split_tail, List.append_assoc, List.singleton_append, split_slash]
    simp [partL]
  · rw [split_slash, List.filter_append]
theorem head_join (d p : List UInt8) (hd : d ≠ []) (hp : [47].isPrefixOf p = false) : [47].isPrefixOf (joinL d p) = [47].isPrefixOf d := by
  unfold joinL
  rw [if_neg (by simp [hd, hp])]
  cases d with
  | nil => exact absurd rfl hd
  | cons a r =>
    split
    · rfl
    · rfl

theorem joins_law (d p : ByteArray) (h1 : chk d = 0) (h2 : chk p = 0) (h3 : chk (joinB d p) = 0) (hr : rootB p = false) :
    partsL d ++ partsL p = partsL (joinB d p) ∧ rootB d = rootB (joinB d p) := by
  rw [chk_eq] at h1 h2 h3
  rw [joinB_eq] at h3
  have hd := (chkL_zero.1 h1).1
  have hp : [47].isPrefixOf p.data.toList = false := by
    rw [rootB_eq] at hr
    simpa [rootL, h2] using hr
  constructor
  · apply map_data_inj
    rw [List.map_append, partsL_map, partsL_map, partsL_map, joinB_eq]
    unfold partsOf
    rw [if_pos h1, if_pos h2, if_pos h3, parts_join _ _ hd hp]
  · rw [rootB_eq, rootB_eq, joinB_eq]
    unfold rootL
    rw [h1, h3, head_join _ _ hd hp]
theorem joins_root (d p : ByteArray) (h : rootB p = true) : joinB d p = p := by
  have : headB p = true := by
    unfold rootB at h
    exact (Bool.and_eq_true _ _ ▸ h).2
  simp [joinB, this]

/-! ### A directory and a base -/
theorem last_form (p : ByteArray) : (lastB p = -1 ∧ ∀ c ∈ p.data.toList, c ≠ 47) ∨
    ∃ (i : Nat) (d b : List UInt8), lastB p = i ∧ p.data.toList = d ++ 47 :: b ∧ d.length = i ∧ (∀ c ∈ b, c ≠ 47) ∧ i < p.size := by
  have conv : ∀ j, (h : j < p.size) → ((((p.data[j]!).toNat : Nat) : Int) = 47 ↔ p.data.toList[j]'h = 47) := by
    intro j h
    rw [data_get p j h]
    constructor
    · intro e
      have e' : p[j].toNat = 47 := by omega
      exact UInt8.toNat_inj.1 e'
    · intro e
      have : p[j] = 47 := e
      rw [this]
      rfl
  unfold lastB
  rcases Lib.lastIndexByte_spec p 47 with ⟨h, hn⟩ | ⟨i, hi, h, he, hn⟩
  · refine .inl ⟨h, fun c hc e => ?_⟩
    obtain ⟨j, hj, hcj⟩ := List.getElem_of_mem hc
    exact hn j hj ((conv j hj).2 (hcj.trans e))
  · refine .inr ⟨i, p.data.toList.take i, p.data.toList.drop (i + 1), h, ?_, ?_, ?_, hi⟩
    · have hi' : i < p.data.toList.length := hi
      have e2 : p.data.toList[i]'hi' = 47 := (conv i hi).1 he
      have e3 := List.drop_eq_getElem_cons hi'
      rw [e2] at e3
      rw [← e3, List.take_append_drop]
    · rw [List.length_take]
      exact Nat.min_eq_left (Nat.le_of_lt hi)
    · intro c hc e
      obtain ⟨j, hj, hcj⟩ := List.getElem_of_mem hc
      rw [List.getElem_drop] at hcj
      have hj' : i + 1 + j < p.size := by
        rw [List.length_drop] at hj
        have : p.data.toList.length = p.size := rfl
        omega
      exact hn (i + 1 + j) (by omega) hj' ((conv _ hj').2 (hcj.trans e))

theorem base_list (p : ByteArray) : (baseB p).data.toList = p.data.toList.drop (lastB p + 1).toNat := by
  unfold baseB
  rw [Lib.extract_data, List.take_of_length_le]
  rw [List.length_drop]
  exact Nat.le_refl _
theorem base_plain (p : ByteArray) : ∀ c ∈ (baseB p).data.toList, c ≠ 47 := by
  rw [base_list]
  rcases last_form p with ⟨h, hn⟩ | ⟨i, d, b, h, hL, hd, hb, _⟩
  · rw [h]
    exact hn
  · rw [h, hL, show ((i : Int) + 1).toNat = d.length + 1 from by omega]
    simpa using hb
theorem base_noslash (p : ByteArray) (i : Nat) (h : i < (baseB p).size) : (baseB p)[i] ≠ 47 :=
  base_plain p _ (Array.getElem_mem_toList (xs := (baseB p).data) (i := i) h)
theorem tail_base (p : ByteArray) : tailB p = (decide (p.size ≠ 0) && decide ((baseB p).size = 0)) := by
  have hs : (baseB p).size = (p.data.toList.drop (lastB p + 1).toNat).length := by rw [← base_list]; rfl
  have hps : p.size = p.data.toList.length := rfl
  rw [hs, hps]
  show [47].isSuffixOf p.data.toList = _
  rw [Bool.eq_iff_iff, List.isSuffixOf_iff_suffix]
  rcases last_form p with ⟨h, hn⟩ | ⟨i, d, b, h, hL, hd, hb, _⟩
  · rw [h]
    constructor
    · rintro ⟨t, ht⟩
      exact absurd rfl (hn 47 (by rw [← ht]; simp))
    · intro hh
      simp at hh
      try exact absurd hh.2 hh.1
  · rw [h, hL, show ((i : Int) + 1).toNat = d.length + 1 from by omega]
    constructor
    · rintro ⟨t, ht⟩
      by_cases hbn : b = []
      · subst hbn; simp
      · exfalso
        obtain ⟨b', x, rfl⟩ : ∃ b' x, b = b' ++ [x] := ⟨b.dropLast, b.getLast hbn, (List.dropLast_concat_getLast hbn).symm⟩
        have hx := hb x (by simp)
        have : t ++ [47] = (d ++ 47 :: b') ++ [x] := by rw [ht]; simp
        have h2 := List.append_inj_right' this rfl
        simp at h2
        exact absurd h2.symm hx
    · intro hh
      simp at hh
      subst hh
      exact ⟨d, rfl⟩

theorem not_prefix {b : List UInt8} (h : ∀ c ∈ b, c ≠ 47) : [47].isPrefixOf b = false := by
  cases b with
  | nil => rfl
  | cons a r =>
    have := h a (by simp)
    simp only [List.isPrefixOf, Bool.and_true, beq_eq_false_iff_ne]
    exact fun e => this e.symm

/-- What a directory's path joined with the base comes to. -/
structure Back (L J : List UInt8) : Prop where
  parts : (split J).filter partL = (split L).filter partL
  head : [47].isPrefixOf J = [47].isPrefixOf L
  len : J.length ≤ L.length + 2
  ne : J ≠ []
  mem : ∀ c ∈ J, c ∈ L ∨ c = 46 ∨ c = 47
  sub : ∀ q ∈ split J, q ∈ split L ∨ q = [46]

theorem back_list (p : ByteArray) (hp : p.data.toList ≠ []) : Back p.data.toList (joinB (dirB p) (baseB p)).data.toList := by
  rw [joinB_eq, base_list]
  unfold dirB
  rcases last_form p with ⟨h, hn⟩ | ⟨i, d, b, h, hL, hd, hb, _⟩
  · rw [h, if_pos rfl]
    show Back _ (joinL [46] (p.data.toList.drop 0))
    rw [List.drop_zero]
    generalize p.data.toList = L at *
    have e : joinL [46] L = [46] ++ 47 :: L := by
      unfold joinL
      rw [if_neg (by simp [not_prefix hn]), if_neg (by decide)]
    have e2 : split ([46] ++ 47 :: L) = [46] :: split L := by
      rw [split_slash, split_plain [46] (by simp)]
      rfl
    rw [e]
    refine ⟨?_, ?_, by simp, by simp, ?_, ?_⟩
    · rw [e2]
      simp [partL]
    · rw [not_prefix hn]
      rfl
    · intro c hc
      simp at hc
      rcases hc with rfl | rfl | hc
      · simp
      · simp
      · exact .inl hc
    · intro q hq
      rw [e2] at hq
      simp at hq
      exact hq.symm
  · rw [h, if_neg (by omega)]
    have hbl : p.data.toList.drop ((i : Int) + 1).toNat = b := by rw [hL, show ((i : Int) + 1).toNat = d.length + 1 from by omega]; simp
    rw [hbl]
    by_cases h0 : (i : Int) = 0
    · rw [if_pos h0]
      have hd0 : d = [] := List.eq_nil_of_length_eq_zero (by omega)
      subst hd0
      have e : joinL [47] b = p.data.toList := by
        unfold joinL
        rw [if_neg (by simp [not_prefix hb]), if_pos (by decide), hL]
        rfl
      show Back _ (joinL [47] b)
      rw [e]
      exact ⟨rfl, rfl, by omega, hp, fun c hc => .inl hc, fun q hq => .inl hq⟩
    · rw [if_neg h0]
      have hdl : (p.extract 0 ((i : Int)).toNat).data.toList = d := by
        rw [Lib.extract_data, hL, show ((i : Int)).toNat - 0 = d.length from by omega]
        simp
      rw [hdl]
      have hdn : d ≠ [] := by rintro rfl; simp at hd; omega
      have hj : joinL d b = if [47].isSuffixOf d then d ++ b else d ++ 47 :: b := by
        unfold joinL
        rw [if_neg (by simp [hdn, not_prefix hb])]
      rw [hj]
      split
      · rename_i hs
        obtain ⟨d', rfl⟩ := suffix_form hs
        have e0 : split (47 :: b) = [[], b] := by
          rw [show (47 :: b : List UInt8) = [] ++ 47 :: b from rfl, split_slash, split_plain b hb]
          rfl
        have e1 : split p.data.toList = split d' ++ [[], b] := by
          rw [hL, List.append_assoc, List.singleton_append, split_slash, e0]
        have e2 : split (d' ++ [47] ++ b) = split d' ++ [b] := by
          rw [List.append_assoc, List.singleton_append, split_slash, split_plain b hb]
        refine ⟨?_, ?_, ?_, by simp, ?_, ?_⟩
        · rw [e1, e2, List.filter_append, List.filter_append]
          simp [List.filter_cons, partL]
        · rw [hL]
          cases d' <;> rfl
        · rw [hL]
          simp
          omega
        · intro c hc
          rw [hL]
          simp at hc ⊢
          rcases hc with h | h | h
          · simp [h]
          · simp [h]
          · simp [h]
        · intro q hq
          rw [e2] at hq
          rw [e1]
          simp at hq ⊢
          rcases hq with h | h
          · simp [h]
          · simp [h]
      · rw [← hL]
        exact ⟨rfl, rfl, by omega, hp, fun c hc => .inl hc, fun q hq => .inl hq⟩

theorem chk_ne {p : ByteArray} (h : chk p = 0) : p.data.toList ≠ [] := by
  rw [chk_eq] at h
  exact (chkL_zero.1 h).1
theorem back_law (p : ByteArray) (h : chk p = 0) (hj : chk (joinB (dirB p) (baseB p)) = 0) : partsL p = partsL (joinB (dirB p) (baseB p)) ∧ rootB p = rootB (joinB (dirB p) (baseB p)) := by
  have hb := back_list p (chk_ne h)
  rw [chk_eq] at h hj
  constructor
  · apply map_data_inj
    rw [partsL_map, partsL_map]
    unfold partsOf
    rw [if_pos h, if_pos hj, hb.parts]
  · rw [rootB_eq, rootB_eq]
    unfold rootL
    rw [h, hj, hb.head]
theorem back_chk (p : ByteArray) (h : chk p = 0) (h2 : p.size + 2 ≤ 200) : chk (joinB (dirB p) (baseB p)) = 0 := by
  have hb := back_list p (chk_ne h)
  rw [chk_eq] at h ⊢
  obtain ⟨a1, a2, a3, a4⟩ := chkL_zero.1 h
  refine chkL_zero.2 ⟨hb.ne, ?_, ?_, ?_⟩
  · rw [Bool.eq_false_iff]
    intro hc
    rw [List.contains_iff_mem] at hc
    rcases hb.mem _ hc with h0 | h0 | h0
    · rw [← List.contains_iff_mem, a2] at h0
      cases h0
    · cases h0
    · cases h0
  · have := hb.len
    have e : p.data.toList.length = p.size := rfl
    omega
  · rw [Bool.eq_false_iff]
    intro hc
    obtain ⟨q, hq, hl⟩ := List.any_eq_true.1 hc
    rcases hb.sub q hq with h0 | h0
    · have : (split p.data.toList).any longL = true := List.any_eq_true.2 ⟨q, h0, hl⟩
      rw [a4] at this
      cases this
    · subst h0
      cases hl

/-! ### The parts, joined by slashes, have just these parts again -/
def accL (a : List (List UInt8)) : List UInt8 := a.flatMap (· ++ [47])
def accB (a : List ByteArray) : ByteArray := a.foldl (fun s x => s ++ x ++ slash) ⟨#[]⟩
theorem accB_snoc (a : List ByteArray) (x : ByteArray) : accB (a ++ [x]) = accB a ++ x ++ slash := by simp [accB]
theorem accB_list (a : List ByteArray) : (accB a).data.toList = accL (a.map fun x => x.data.toList) := by
  have key : ∀ (a : List ByteArray) (s : ByteArray), (a.foldl (fun s x => s ++ x ++ slash) s).data.toList = s.data.toList ++ accL (a.map fun x => x.data.toList) := by
    intro a
    induction a with
    | nil => intro s; simp [accL]
    | cons x r ih =>
      intro s
      simp only [List.foldl_cons, ih]
      simp [accL, slash]
  have := key a ⟨#[]⟩
  simpa [accB] using this
theorem split_acc (a : List (List UInt8)) (x : List UInt8) (h : ∀ q ∈ a, ∀ c ∈ q, c ≠ 47) : split (accL a ++ x) = a ++ split x := by
  induction a with
  | nil => simp [accL]
  | cons q r ih =>
    have e : accL (q :: r) ++ x = q ++ 47 :: (accL r ++ x) := by simp [accL]
    rw [e, split_slash, split_plain q (h q (by simp)), ih (fun q' hq => h q' (by simp [hq]))]
    rfl
theorem accL_len (a : List (List UInt8)) : (accL a).length = (a.map List.length).sum + a.length := by
  induction a with
  | nil => rfl
  | cons q r ih =>
    have e : accL (q :: r) = q ++ 47 :: accL r := by simp [accL]
    rw [e]
    simp [ih]
    omega
theorem filter_sum (f : List UInt8 → Bool) (l : List (List UInt8)) : ((l.filter f).map List.length).sum + (l.filter f).length ≤ (l.map List.length).sum + l.length := by
  induction l with
  | nil => exact Nat.le_refl _
  | cons q r ih =>
    rw [List.filter_cons]
    split
    · simp; omega
    · simp; omega
/-- What the joined parts come to. -/
def again (a : List ByteArray) : ByteArray := (accB a).extract 0 ((accB a).size - 1)
theorem again_list (init : List (List UInt8)) (last : List UInt8) (a : List ByteArray) (h : a.map (fun x => x.data.toList) = init ++ [last]) : (again a).data.toList = accL init ++ last := by
  have hs : (accB a).size = (accB a).data.toList.length := rfl
  unfold again
  rw [Lib.extract_data, hs, accB_list, h, List.drop_zero, Nat.sub_zero]
  have e : accL (init ++ [last]) = (accL init ++ last) ++ [47] := by simp [accL]
  have e2 : ((accL init ++ last) ++ [47]).length - 1 = (accL init ++ last).length := by rw [List.length_append]; rfl
  rw [e, e2]
  exact List.take_left
theorem again_law (p : ByteArray) (h : chk p = 0) (hne : partsL p ≠ []) : chk (again (partsL p)) = 0 ∧ partsL (again (partsL p)) = partsL p ∧ rootB (again (partsL p)) = false := by
  have hm := partsL_map p
  have hc : chkL p.data.toList = 0 := by rw [← chk_eq]; exact h
  obtain ⟨a1, a2, a3, a4⟩ := chkL_zero.1 hc
  have hpo : partsOf p.data.toList = (split p.data.toList).filter partL := by simp [partsOf, hc]
  rw [hpo] at hm
  generalize hL : p.data.toList = L at *
  have hne' : (split L).filter partL ≠ [] := by
    intro e
    rw [e] at hm
    exact hne (List.map_eq_nil_iff.1 hm)
  obtain ⟨init, last, hil⟩ : ∃ init last, (split L).filter partL = init ++ [last] := ⟨_, _, (List.dropLast_concat_getLast hne').symm⟩
  have hal := again_list init last (partsL p) (hm.trans hil)
  have hmem : ∀ q ∈ init ++ [last], q ∈ split L ∧ partL q = true := by
    intro q hq
    rw [← hil] at hq
    exact List.mem_filter.1 hq
  have hpl : ∀ q ∈ init ++ [last], ∀ c ∈ q, c ≠ 47 := fun q hq c hcq => (split_mem (hmem q hq).1 hcq).2
  have hsp : split (again (partsL p)).data.toList = init ++ [last] := by
    rw [hal, split_acc init last (fun q hq => hpl q (by simp [hq])), split_plain last (hpl last (by simp))]
  have hpn : ∀ q, partL q = true → q ≠ [] := by
    rintro q hq rfl
    cases hq
  have hln : last ≠ [] := hpn _ (hmem last (by simp)).2
  have hc2 : chkL (again (partsL p)).data.toList = 0 := by
    refine chkL_zero.2 ⟨by rw [hal]; simp [hln], ?_, ?_, ?_⟩
    · rw [Bool.eq_false_iff]
      intro h0
      rw [List.contains_iff_mem, hal] at h0
      have hz : ∀ q ∈ init ++ [last], (0 : UInt8) ∉ q := by
        intro q hq hcq
        have := (split_mem (hmem q hq).1 hcq).1
        rw [← List.contains_iff_mem, a2] at this
        cases this
      rcases List.mem_append.1 h0 with h0 | h0
      · unfold accL at h0
        obtain ⟨q, hq, h1⟩ := List.mem_flatMap.1 h0
        rcases List.mem_append.1 h1 with h1 | h1
        · exact hz q (by simp [hq]) h1
        · simp at h1
      · exact hz last (by simp) h0
    · have e1 := accL_len init
      have e2 := filter_sum partL (split L)
      have e3 := split_len L
      rw [hil] at e2
      rw [hal, List.length_append, e1]
      simp at e2
      omega
    · rw [Bool.eq_false_iff, hsp]
      intro h0
      obtain ⟨q, hq, hl⟩ := List.any_eq_true.1 h0
      have : (split L).any longL = true := List.any_eq_true.2 ⟨q, (hmem q hq).1, hl⟩
      rw [a4] at this
      cases this
  refine ⟨by rw [chk_eq]; exact hc2, ?_, ?_⟩
  · apply map_data_inj
    rw [partsL_map, hm, hil]
    unfold partsOf
    rw [if_pos hc2, hsp, ← hil, List.filter_filter]
    simp
  · rw [rootB_eq]
    unfold rootL
    rw [hc2, hal]
    cases init with
    | nil =>
      simp only [accL, List.flatMap_nil, List.nil_append]
      rw [not_prefix (hpl last (by simp))]
      rfl
    | cons q r =>
      have hq := hpn q (hmem q (by simp)).2
      cases q with
      | nil => exact absurd rfl hq
      | cons b q' =>
        have hb := hpl (b :: q') (by simp) b (by simp)
        simp only [accL, List.flatMap_cons, List.cons_append, List.isPrefixOf, Bool.and_true]
        simp
        exact fun e => hb e.symm

end Go.Proofs.Yteiciabhfjakgaa.Pth
namespace Go.Proofs.Yteiciabhfjakgaa.Pth
set_option linter.unusedVariables false
set_option linter.unusedSimpArgs false

def slL (xs : List (List UInt8)) : List UInt8 := (xs.map fun x => 47 :: x).flatten
theorem split_slL (r : List (List UInt8)) : ∀ x, (∀ c ∈ x, c ≠ 47) → (∀ q ∈ r, ∀ c ∈ q, c ≠ 47) → split (x ++ slL r) = x :: r := by
  induction r with
  | nil => intro x hx _; simp [slL, split_plain x hx]
  | cons y t ih =>
    intro x hx hr
    have e : slL (y :: t) = 47 :: (y ++ slL t) := by simp [slL]
    rw [e, split_slash, split_plain x hx, ih y (hr y (by simp)) (fun q hq => hr q (by simp [hq]))]
    rfl
theorem split_slL0 {r : List (List UInt8)} (hr : ∀ q ∈ r, ∀ c ∈ q, c ≠ 47) : split (slL r) = [] :: r := by
  have := split_slL r [] (by simp) hr
  simpa using this
theorem slL_len (r : List (List UInt8)) : (slL r).length = (r.map List.length).sum + r.length := by
  induction r with
  | nil => rfl
  | cons y t ih =>
    have e : slL (y :: t) = 47 :: (y ++ slL t) := by simp [slL]
    rw [e, List.length_cons, List.length_append, ih, List.map_cons, List.sum_cons, List.length_cons]
    omega
theorem slL_mem {r : List (List UInt8)} {c : UInt8} (h : c ∈ slL r) : c = 47 ∨ ∃ q ∈ r, c ∈ q := by
  unfold slL at h
  obtain ⟨q, hq, hc⟩ := List.mem_flatten.1 h
  obtain ⟨x, hx, rfl⟩ := List.mem_map.1 hq
  rcases List.mem_cons.1 hc with h | h
  · exact .inl h
  · exact .inr ⟨x, hx, h⟩
/-- The parts of a path from the root on, each behind a slash, are a path with these parts. -/
theorem slL_law {l : List UInt8} (h : chkL l = 0) (hr : [47].isPrefixOf l = true) (hne : (split l).filter partL ≠ []) :
    chkL (slL ((split l).filter partL)) = 0 ∧ (split (slL ((split l).filter partL))).filter partL = (split l).filter partL ∧ [47].isPrefixOf (slL ((split l).filter partL)) = true := by
  obtain ⟨a1, a2, a3, a4⟩ := chkL_zero.1 h
  have hmem : ∀ q ∈ (split l).filter partL, q ∈ split l := fun q hq => (List.mem_filter.1 hq).1
  have hns : ∀ q ∈ (split l).filter partL, ∀ c ∈ q, c ≠ 47 := fun q hq c hc => (split_mem (hmem q hq) hc).2
  have hsp := split_slL0 hns
  have hl : ∃ t, l = 47 :: t := by
    cases l with
    | nil => cases hr
    | cons c t =>
      have : 47 = c := by simpa [List.isPrefixOf] using hr
      exact ⟨t, by rw [← this]⟩
  obtain ⟨t, rfl⟩ := hl
  have hs0 : split (47 :: t) = [] :: split t := split_slash [] t
  have hf : (split (47 :: t)).filter partL = (split t).filter partL := by
    rw [hs0, List.filter_cons]
    rfl
  have hlen : (slL ((split (47 :: t)).filter partL)).length ≤ (47 :: t).length := by
    rw [slL_len, hf]
    have h1 := filter_sum partL (split t)
    have h2 := split_len t
    rw [List.length_cons]
    omega
  have hslne : slL ((split (47 :: t)).filter partL) ≠ [] := by
    cases hq : (split (47 :: t)).filter partL with
    | nil => exact absurd hq hne
    | cons y r => simp [slL]
  refine ⟨chkL_zero.2 ⟨hslne, ?_, by omega, ?_⟩, ?_, ?_⟩
  · cases hc : (slL ((split (47 :: t)).filter partL)).contains 0 with
    | false => rfl
    | true =>
      have h0 : (0 : UInt8) ∈ slL ((split (47 :: t)).filter partL) := by simpa using hc
      rcases slL_mem h0 with h1 | ⟨q, hq, h1⟩
      · cases h1
      · have := (split_mem (hmem q hq) h1).1
        rw [List.contains_eq_any_beq, List.any_eq_false] at a2
        exact absurd (by simp) (a2 0 this)
  · rw [hsp, List.any_cons]
    have e1 : longL [] = false := rfl
    rw [e1, Bool.false_or, List.any_eq_false]
    intro q hq
    rw [List.any_eq_false] at a4
    exact a4 q (hmem q hq)
  · rw [hsp, List.filter_cons]
    have e1 : partL [] = false := rfl
    rw [e1, if_neg (by simp), List.filter_filter]
    simp
  · cases hq : (split (47 :: t)).filter partL with
    | nil => exact absurd hq hne
    | cons y r => simp [slL, List.isPrefixOf]
theorem slL_tail {r : List (List UInt8)} (hr : ∀ q ∈ r, q ≠ [] ∧ ∀ c ∈ q, c ≠ 47) : [47].isSuffixOf (slL r) = false := by
  cases h : [47].isSuffixOf (slL r) with
  | false => rfl
  | true =>
    obtain ⟨d, hd⟩ := suffix_form h
    exfalso
    rcases List.eq_nil_or_concat r with rfl | ⟨r', y, rfl⟩
    · simp [slL] at hd
    · rw [List.concat_eq_append] at hd hr
      have e : slL (r' ++ [y]) = slL r' ++ 47 :: y := by simp [slL]
      have hy := hr y (by simp)
      rcases List.eq_nil_or_concat y with rfl | ⟨y', c, rfl⟩
      · exact hy.1 rfl
      · rw [List.concat_eq_append] at hd hy e
        rw [e] at hd
        have h2 : slL r' ++ 47 :: (y' ++ [c]) = (slL r' ++ 47 :: y') ++ [c] := by simp
        rw [h2] at hd
        have := List.append_inj_right' hd rfl
        exact hy.2 c (by simp) (by simpa using this)
end Go.Proofs.Yteiciabhfjakgaa.Pth
namespace Go.Proofs.Yteiciabhfjakgaa.Vf
theorem slashed_data (xs : List ByteArray) : (slashed xs).data.toList = Pth.slL (xs.map fun x => x.data.toList) := by
  rw [slashed_toList]
  unfold Pth.slL
  rw [List.map_map]
  rfl
/-- The parts of a path from the root on, each behind a slash, are a path with these parts. -/
theorem slashed_law {p : ByteArray} (h : Pth.chk p = 0) (hr : Pth.rootB p = true) (hne : Pth.partsL p ≠ []) :
    Pth.chk (slashed (Pth.partsL p)) = 0 ∧ Pth.partsL (slashed (Pth.partsL p)) = Pth.partsL p ∧ Pth.rootB (slashed (Pth.partsL p)) = true ∧ Pth.tailB (slashed (Pth.partsL p)) = false := by
  have hm := Pth.partsL_map p
  have hc : Pth.chkL p.data.toList = 0 := by rw [← Pth.chk_eq]; exact h
  have hpo : Pth.partsOf p.data.toList = (Pth.split p.data.toList).filter Pth.partL := by unfold Pth.partsOf; rw [if_pos hc]
  rw [hpo] at hm
  have hpre : [47].isPrefixOf p.data.toList = true := by
    rw [Pth.rootB_eq] at hr
    unfold Pth.rootL at hr
    exact (Bool.and_eq_true _ _ ▸ hr).2
  have hne2 : (Pth.split p.data.toList).filter Pth.partL ≠ [] := by
    rw [← hm]
    intro h0
    exact hne (List.map_eq_nil_iff.1 h0)
  obtain ⟨b1, b2, b3⟩ := Pth.slL_law hc hpre hne2
  have hd : (slashed (Pth.partsL p)).data.toList = Pth.slL ((Pth.split p.data.toList).filter Pth.partL) := by rw [slashed_data, hm]
  have hchk : Pth.chk (slashed (Pth.partsL p)) = 0 := by rw [Pth.chk_eq, hd]; exact b1
  refine ⟨hchk, ?_, ?_, ?_⟩
  · apply Pth.map_data_inj
    rw [Pth.partsL_map, hm, hd]
    unfold Pth.partsOf
    rw [if_pos b1]
    exact b2
  · rw [Pth.rootB_eq, hd]
    unfold Pth.rootL
    rw [b1]
    exact b3
  · unfold Pth.tailB
    rw [hd]
    refine Pth.slL_tail fun q hq => ?_
    have h1 := List.mem_filter.1 hq
    refine ⟨?_, fun c hcq => (Pth.split_mem h1.1 hcq).2⟩
    rintro rfl
    cases h1.2
end Go.Proofs.Yteiciabhfjakgaa.Vf
namespace Go.Proofs.Yteiciabhfjakgaa.Vf
set_option linter.unusedVariables false
set_option linter.unusedSimpArgs false

theorem child_app {F : List Nd} {x : Nd} {d j : Nat} {nm : ByteArray} (h0 : 0 < F.length) (h : child F d nm = some j) : child (F ++ [x]) d nm = some j := by
  unfold child at h ⊢
  rw [Option.map_eq_some_iff] at h ⊢
  obtain ⟨i, hi, rfl⟩ := h
  refine ⟨i, ?_, rfl⟩
  rw [List.drop_append_of_le_length (by omega)]
  rw [List.findIdx?_append, hi]
  rfl
theorem at_mono {F : List Nd} {x : Nd} (h0 : 0 < F.length) : ∀ (l : List ByteArray) (n i : Nat), at_ F n l = some i → at_ (F ++ [x]) n l = some i := by
  intro l
  induction l with
  | nil => intro n i h; exact h
  | cons p r ih =>
    intro n i h
    unfold at_ at h ⊢
    cases hc : child F n p with
    | none => rw [hc] at h; cases h
    | some j =>
      rw [hc] at h
      rw [child_app h0 hc]
      exact ih j i h
/-- What the nodes are that New makes of entries. -/
structure Made (F : List Nd) (es : List Ent) : Prop where
  len : F.length = es.length + 1
  good : Good F
  nd : ∀ (i : Nat) (e : Ent), es[i]? = some e → may e = 0 ∧ ∃ up, F[i + 1]? = some (ndOf e up) ∧ at_ F 0 (Pth.partsL e.path) = some (i + 1)
theorem made_root : Made [root] [] := ⟨rfl, good_root, fun i e h => by simp at h⟩
theorem made_add {F : List Nd} {es : List Ent} {e : Ent} (hF : Made F es) (h : (add F e).1 = 0) : Made (add F e).2 (es ++ [e]) := by
  have hg := add_good hF.good h
  obtain ⟨hm, up, ha, hu, hk, he⟩ := add_ok h
  have hpos := good_pos hF.good
  obtain ⟨m1, m2, m3, m4, m5, m6, m7, m8, m9, m10, m11⟩ := may_ok hm
  refine ⟨by rw [he, List.length_append, List.length_append, hF.len]; rfl, hg, fun i x hx => ?_⟩
  rw [he] at hg ⊢
  by_cases hi : i < es.length
  · rw [List.getElem?_append_left hi] at hx
    obtain ⟨a, u, b, d⟩ := hF.nd i x hx
    exact ⟨a, u, by rw [List.getElem?_append_left (by rw [hF.len]; omega)]; exact b, at_mono hpos _ _ _ d⟩
  · rw [List.getElem?_append_right (by omega)] at hx
    have h0 : i - es.length = 0 := by
      have := (List.getElem?_eq_some_iff.1 hx).1
      simp at this
      omega
    rw [h0] at hx
    have hxe : e = x := by simpa using hx
    subst hxe
    have hil : i = es.length := by omega
    subst hil
    have hnew : (F ++ [ndOf e up])[es.length + 1]? = some (ndOf e up) := by
      rw [List.getElem?_append_right (by rw [hF.len]; omega), hF.len]
      simp
    refine ⟨hm, up, hnew, ?_⟩
    have h1 : at_ (F ++ [ndOf e up]) 0 ((Pth.partsL e.path).dropLast ++ [lastOf (Pth.partsL e.path)]) = some (es.length + 1) := by
      rw [at_app, at_mono hpos _ _ _ hu]
      have hch : child (F ++ [ndOf e up]) up (lastOf (Pth.partsL e.path)) = some (es.length + 1) := (child_some hg).2 ⟨by omega, _, hnew, rfl, rfl⟩
      show (match child (F ++ [ndOf e up]) up (lastOf (Pth.partsL e.path)) with | none => none | some i => some i) = _
      rw [hch]
    rwa [← lastOf_app m5] at h1
theorem adds_made : ∀ (l : List Ent) (F : List Nd) (es : List Ent) (i : Nat), Made F es → (adds F i l).1 = 0 → Made (adds F i l).2.2 (es ++ l) := by
  intro l
  induction l with
  | nil => intro F es i hF _; rw [List.append_nil]; exact hF
  | cons e r ih =>
    intro F es i hF h
    unfold adds at h ⊢
    split at h
    · next he => exact absurd h he
    · next he =>
      rw [if_neg he]
      have h0 : (add F e).1 = 0 := by simpa using he
      have := ih _ (es ++ [e]) (i + 1) (made_add hF h0) h
      rwa [List.append_assoc] at this
/-! Where a node's own path leads. -/
theorem nmsP_at {F : List Nd} (h : Good F) : ∀ (l : List ByteArray) (n i : Nat), n < F.length → at_ F n l = some i → nmsP F i = nmsP F n ++ l := by
  intro l
  induction l with
  | nil => intro n i _ hi; cases hi; rw [List.append_nil]
  | cons p r ih =>
    intro n i hn hi
    unfold at_ at hi
    cases hc : child F n p with
    | none => rw [hc] at hi; cases hi
    | some j =>
      rw [hc] at hi
      obtain ⟨h1, x, hx, hu, hnm⟩ := (child_some h).1 hc
      rw [ih j i (List.getElem?_eq_some_iff.1 hx).1 hi, nmsP_succ h hx h1, hu, hnm, List.append_assoc]
      rfl
theorem at_nmsP {F : List Nd} (h : Good F) : ∀ i, i < F.length → at_ F 0 (nmsP F i) = some i := by
  intro i
  induction i using Nat.strongRecOn with
  | ind i ih =>
    intro hi
    by_cases h1 : 1 ≤ i
    · obtain ⟨x, hx⟩ : ∃ x, F[i]? = some x := ⟨_, List.getElem?_eq_getElem hi⟩
      have hu := (h.up i x hx h1).1
      rw [nmsP_succ h hx h1, at_app, ih x.up hu (by omega)]
      show (match child F x.up x.name with | none => none | some i => some i) = _
      rw [(child_some h).2 ⟨h1, x, hx, rfl, rfl⟩]
    · obtain rfl : i = 0 := by omega
      rfl
theorem nmsP_dd {F : List Nd} (h : Good F) : ∀ i, i < F.length → ∀ x ∈ nmsP F i, x ≠ dd := by
  intro i
  induction i using Nat.strongRecOn with
  | ind i ih =>
    intro hi y hy
    by_cases h1 : 1 ≤ i
    · obtain ⟨x, hx⟩ : ∃ x, F[i]? = some x := ⟨_, List.getElem?_eq_getElem hi⟩
      have hu := (h.up i x hx h1).1
      rw [nmsP_succ h hx h1] at hy
      rcases List.mem_append.1 hy with hy | hy
      · exact ih x.up hu (by omega) y hy
      · rw [List.mem_singleton] at hy
        rw [hy]
        exact h.nm i x hx h1
    · obtain rfl : i = 0 := by omega
      simp [nmsP_zero] at hy
/-- Names that lead, one below the other: the walk goes on behind them, or is refused, whatever is still to come. -/
theorem ends_names {F : List Nd} (h : Good F) (c : Cred) (last : Bool) (k : Nat) : ∀ (l : List ByteArray) (n i : Nat), at_ F n l = some i → (∀ x ∈ l, x ≠ dd) →
    (c ≠ zc ∧ ∀ rest, (kindAt F i ≠ 3 ∨ (rest = [] ∧ last = false)) → ends F c last ⟨n, k, l ++ rest⟩ = (5, 0)) ∨ (∀ rest, (kindAt F i ≠ 3 ∨ (rest = [] ∧ last = false)) → ends F c last ⟨n, k, l ++ rest⟩ = ends F c last ⟨i, k, rest⟩) := by
  intro l
  induction l with
  | nil => intro n i hi _; cases hi; exact .inr fun rest _ => rfl
  | cons p r ih =>
    intro n i hi hdd
    unfold at_ at hi
    cases hc : child F n p with
    | none => rw [hc] at hi; cases hi
    | some j =>
      rw [hc] at hi
      replace hi : at_ F j r = some i := hi
      have hkn := (child_dir h hc).1
      by_cases hm : mayX c (nd F n).m = true
      · have hstep : ∀ rest, (kindAt F i ≠ 3 ∨ (rest = [] ∧ last = false)) → ends F c last ⟨n, k, (p :: r) ++ rest⟩ = ends F c last ⟨j, k, r ++ rest⟩ := by
          intro rest hk3
          have hj : kindAt F j ≠ 3 ∨ (r ++ rest = [] ∧ last = false) := by
            cases r with
            | nil =>
              cases hi
              rcases hk3 with h3 | h3
              · exact .inl h3
              · exact .inr h3
            | cons q t =>
              left
              unfold at_ at hi
              cases hcq : child F j q with
              | none => rw [hcq] at hi; cases hi
              | some u => rw [(child_dir h hcq).1]; decide
          have hh : hop F c last ⟨n, k, p :: (r ++ rest)⟩ = .inr ⟨j, k, r ++ rest⟩ := hop_in rfl hkn hm (hdd p (by simp)) hc hj
          rw [ends_eq, List.cons_append, hh]
        rcases ih j i hi (fun x hx => hdd x (by simp [hx])) with ⟨a, b⟩ | b
        · exact .inl ⟨a, fun rest hr => (hstep rest hr).trans (b rest hr)⟩
        · exact .inr fun rest hr => (hstep rest hr).trans (b rest hr)
      · left
        refine ⟨?_, fun rest _ => ?_⟩
        · rintro rfl
          exact hm (mayX_zero hkn)
        · have hh : hop F c last ⟨n, k, p :: (r ++ rest)⟩ = .inl (5, 0) := hop_shut rfl hkn (by simpa using hm)
          rw [ends_eq, List.cons_append, hh]
theorem path_facts {F : List Nd} {es : List Ent} (hM : Made F es) {i : Nat} (hi : i < es.length) : Pth.chk (pathOf F ((i + 1 : Nat) : Int)) = 0 ∧ Pth.partsL (pathOf F ((i + 1 : Nat) : Int)) = nmsP F (i + 1) ∧ Pth.rootB (pathOf F ((i + 1 : Nat) : Int)) = true ∧ Pth.tailB (pathOf F ((i + 1 : Nat) : Int)) = false ∧ pathOf F ((i + 1 : Nat) : Int) = slashed (nmsP F (i + 1)) := by
  obtain ⟨e, he⟩ : ∃ e, es[i]? = some e := ⟨_, List.getElem?_eq_getElem hi⟩
  obtain ⟨hm, up, hx, hat⟩ := hM.nd i e he
  obtain ⟨m1, m2, m3, m4, m5, m6, m7, m8, m9, m10, m11⟩ := may_ok hm
  have hn := nmsP_at hM.good _ 0 _ (good_pos hM.good) hat
  rw [nmsP_zero, List.nil_append] at hn
  have hp : pathOf F ((i + 1 : Nat) : Int) = slashed (nmsP F (i + 1)) := by
    rw [pathOf_in hM.good (by rw [hM.len]; omega), if_neg (by omega)]
  rw [hp, hn]
  obtain ⟨a, b, d, e'⟩ := slashed_law m3 m4 m5
  exact ⟨a, b, d, e', rfl⟩
/-- A node's own path leads Euid 0 to it. -/
theorem walk_path {F : List Nd} {es : List Ent} (hM : Made F es) {i : Nat} (hi : i ≤ es.length) : walk F zc 0 (pathOf F (i : Nat)) false = (i, 0) := by
  have hk0 := root_dir hM.good
  cases i with
  | zero =>
    have hp : pathOf F ((0 : Nat) : Int) = ⟨#[47]⟩ := by rw [pathOf_in hM.good (good_pos hM.good), if_pos rfl]
    rw [hp]
    have c1 : Pth.chk ⟨#[47]⟩ = 0 := by kernel_rfl
    have c2 : Pth.partsL ⟨#[47]⟩ = [] := by kernel_rfl
    have c3 : Pth.rootB ⟨#[47]⟩ = true := by kernel_rfl
    have c4 : Pth.tailB ⟨#[47]⟩ = true := by kernel_rfl
    unfold walk
    rw [if_neg (by simp [hk0]), if_neg (by simp [c1]), c2, c3, c4]
    simp only [if_true, Bool.or_true]
    have he : ends F zc true ⟨0, 0, []⟩ = (0, 0) := by rw [ends_eq, hop_nil rfl]
    rw [he]
    simp [hk0]
  | succ i =>
    obtain ⟨p1, p2, p3, p4, p5⟩ := path_facts hM (by omega : i < es.length)
    have hil : i + 1 < F.length := by rw [hM.len]; omega
    unfold walk
    rw [if_neg (by simp [hk0]), if_neg (by rw [p1]; simp), p2, p3, p4]
    simp only [if_true, Bool.or_false]
    rcases ends_names hM.good zc false 0 (nmsP F (i + 1)) 0 (i + 1) (at_nmsP hM.good _ hil) (nmsP_dd hM.good _ hil) with ⟨h, _⟩ | h
    · exact absurd rfl h
    · have h := h [] (.inr ⟨rfl, rfl⟩)
      rw [List.append_nil] at h
      rw [h]
      have he : ends F zc false ⟨i + 1, 0, []⟩ = (0, i + 1) := by rw [ends_eq, hop_nil rfl]
      rw [he]
      simp
end Go.Proofs.Yteiciabhfjakgaa.Vf
namespace Go.Proofs.Yteiciabhfjakgaa.Vf
set_option linter.unusedVariables false
set_option linter.unusedSimpArgs false

theorem links_less (F : List Nd) (c : Cred) (last : Bool) : ∀ (m : Nat) (a k n : Nat) (l : List ByteArray), mu ⟨a, k + 1, l⟩ ≤ m → ends F c last ⟨a, k + 1, l⟩ = (0, n) → ends F c last ⟨a, k, l⟩ = (0, n) := by
  intro m
  induction m using Nat.strongRecOn with
  | ind m ih =>
    intro a k n l hm h
    rw [ends_eq] at h ⊢
    cases l with
    | nil => rw [hop_nil rfl] at h ⊢; exact h
    | cons p r =>
      by_cases hk : kindAt F a = 2
      · by_cases hx : mayX c (nd F a).m = true
        · by_cases hp : p = dd
          · have e1 : hop F c last ⟨a, k + 1, p :: r⟩ = .inr ⟨(nd F a).up, k + 1, r⟩ := hop_up rfl hk hx hp
            have e2 : hop F c last ⟨a, k, p :: r⟩ = .inr ⟨(nd F a).up, k, r⟩ := hop_up rfl hk hx hp
            rw [e1] at h
            rw [e2]
            exact ih _ (Nat.lt_of_lt_of_le (hop_mu e1) hm) _ _ _ _ (Nat.le_refl _) h
          · cases hc : child F a p with
            | none =>
              have e1 : hop F c last ⟨a, k + 1, p :: r⟩ = .inl (3, 0) := hop_none rfl hk hx hp hc
              rw [e1] at h
              cases h
            | some j =>
              by_cases h3 : kindAt F j ≠ 3 ∨ (r = [] ∧ last = false)
              · have e1 : hop F c last ⟨a, k + 1, p :: r⟩ = .inr ⟨j, k + 1, r⟩ := hop_in rfl hk hx hp hc h3
                have e2 : hop F c last ⟨a, k, p :: r⟩ = .inr ⟨j, k, r⟩ := hop_in rfl hk hx hp hc h3
                rw [e1] at h
                rw [e2]
                exact ih _ (Nat.lt_of_lt_of_le (hop_mu e1) hm) _ _ _ _ (Nat.le_refl _) h
              · by_cases h8 : 8 ≤ k + 1
                · have e1 : hop F c last ⟨a, k + 1, p :: r⟩ = .inl (10, 0) := hop_loop rfl hk hx hp hc h3 h8
                  rw [e1] at h
                  cases h
                · have e1 := hop_link (s := ⟨a, k + 1, p :: r⟩) (last := last) rfl hk hx hp hc h3 h8
                  have e2 := hop_link (s := ⟨a, k, p :: r⟩) (last := last) rfl hk hx hp hc h3 (by show ¬ 8 ≤ k; omega)
                  rw [e1] at h
                  rw [e2]
                  exact ih _ (Nat.lt_of_lt_of_le (hop_mu e1) hm) _ _ _ _ (Nat.le_refl _) h
        · have e1 : hop F c last ⟨a, k + 1, p :: r⟩ = .inl (5, 0) := hop_shut rfl hk (by simpa using hx)
          rw [e1] at h
          cases h
      · have e1 : hop F c last ⟨a, k + 1, p :: r⟩ = .inl (8, 0) := hop_no rfl hk
        rw [e1] at h
        cases h
theorem last_cut {d d' b b' : List UInt8} (h : d ++ 47 :: b = d' ++ 47 :: b') (hb : ∀ c ∈ b, c ≠ 47) (hb' : ∀ c ∈ b', c ≠ 47) : d = d' ∧ b = b' := by
  have h1 := congrArg Pth.split h
  rw [Pth.split_slash, Pth.split_slash, Pth.split_plain b hb, Pth.split_plain b' hb'] at h1
  have h2 : [b] = [b'] := List.append_inj_right' h1 rfl
  have h3 : b = b' := by simpa using h2
  subst h3
  exact ⟨List.append_inj_left' h rfl, rfl⟩
theorem slashed_snoc (xs : List ByteArray) (x : ByteArray) : (slashed (xs ++ [x])).data.toList = (slashed xs).data.toList ++ 47 :: x.data.toList := by
  rw [slashed_toList, slashed_toList]
  simp
/-- The directory of a path of names. -/
theorem dir_slashed (xs : List ByteArray) (x : ByteArray) (hx : ∀ c ∈ x.data.toList, c ≠ 47) : Pth.dirB (slashed (xs ++ [x])) = if xs = [] then ⟨#[47]⟩ else slashed xs := by
  have hL := slashed_snoc xs x
  rcases Pth.last_form (slashed (xs ++ [x])) with ⟨_, hn⟩ | ⟨i, d, b, hlb, hL2, hd, hb, hi⟩
  · exact absurd rfl (hn 47 (by rw [hL]; simp))
  · rw [hL] at hL2
    obtain ⟨e1, e2⟩ := last_cut hL2 hx hb
    unfold Pth.dirB
    rw [hlb, if_neg (by omega)]
    by_cases h0 : xs = []
    · subst h0
      have : i = 0 := by rw [← hd, ← e1]; rfl
      rw [if_pos rfl, if_pos (by omega)]
    · have hpos : 0 < i := by
        rw [← hd, ← e1]
        cases xs with
        | nil => exact absurd rfl h0
        | cons y r => rw [slashed_toList]; simp
      rw [if_neg h0, if_neg (by omega)]
      apply ByteArray.ext
      apply Array.toList_inj.1
      rw [Lib.extract_data, hL, Int.toNat_natCast, ← hd, ← e1, List.drop_zero, Nat.sub_zero, List.take_left' rfl]
theorem link_law {F : List Nd} {es : List Ent} (hM : Made F es) {i : Nat} {e : Ent} (he : es[i]? = some e) (hk : e.kind = 3) (ht : Pth.tailB e.to = false) (c : Cred) {n : Nat} (h : walk F c 0 (pathOf F ((i + 1 : Nat) : Int)) true = (n, 0)) :
    ∃ d, walk F c 0 (Pth.dirB (pathOf F ((i + 1 : Nat) : Int))) true = (d, 0) ∧ walk F c (d : Nat) e.to true = (n, 0) := by
  have hil := (List.getElem?_eq_some_iff.1 he).1
  obtain ⟨p1, p2, p3, p4, p5⟩ := path_facts hM hil
  obtain ⟨hm, up, hx, hat⟩ := hM.nd i e he
  obtain ⟨m1, m2, m3, m4, m5, m6, m7, m8, m9, m10, m11⟩ := may_ok hm
  have hk0 := root_dir hM.good
  have hup := hM.good.up (i + 1) _ hx (by omega)
  have hupl : up < F.length := (up_lt hM.good hx).1
  have hku : kindAt F up = 2 := hup.2
  have hnm := nmsP_succ hM.good hx (by omega)
  have hname : (ndOf e up).name = lastOf (Pth.partsL e.path) := rfl
  have hndu : (ndOf e up).up = up := rfl
  rw [hndu, hname] at hnm
  have hlm : lastOf (Pth.partsL e.path) ∈ Pth.partsL e.path := by
    have := lastOf_app m5
    rw [this]
    simp [lastOf]
  have hplain : ∀ c ∈ (lastOf (Pth.partsL e.path)).data.toList, c ≠ 47 := by
    intro c hc
    have h1 : (lastOf (Pth.partsL e.path)).data.toList ∈ (Pth.partsL e.path).map (fun x => x.data.toList) := List.mem_map.2 ⟨_, hlm, rfl⟩
    rw [Pth.partsL_map] at h1
    unfold Pth.partsOf at h1
    split at h1
    · exact (Pth.split_mem (List.mem_filter.1 h1).1 hc).2
    · cases h1
  have hdd : lastOf (Pth.partsL e.path) ≠ dd := m7 _ hlm
  have hch : child F up (lastOf (Pth.partsL e.path)) = some (i + 1) := (child_some hM.good).2 ⟨by omega, _, hx, rfl, rfl⟩
  have hk3 : kindAt F (i + 1) = 3 := (kindAt_eq hx).trans hk
  -- the walk to the link itself
  unfold walk at h
  rw [if_neg (by simp [hk0]), if_neg (by rw [p1]; simp), p2, p3, p4] at h
  simp only [if_true, Bool.or_false] at h
  have hr0 : (ends F c true ⟨0, 0, nmsP F (i + 1)⟩).1 = 0 := by
    by_cases h0 : (ends F c true ⟨0, 0, nmsP F (i + 1)⟩).1 = 0
    · exact h0
    · rw [if_pos h0] at h
      exact (Prod.mk.inj h).2
  rw [if_neg (by simpa using hr0), if_neg (by simp)] at h
  injection h with h1 _
  have hends : ends F c true ⟨0, 0, nmsP F up ++ [lastOf (Pth.partsL e.path)]⟩ = (0, n) := by
    rw [← hnm]
    exact Prod.ext hr0 h1
  have hgo : ends F c true ⟨0, 0, nmsP F up⟩ = (0, up) ∧ ends F c true ⟨up, 0, [lastOf (Pth.partsL e.path)]⟩ = (0, n) := by
    rcases ends_names hM.good c true 0 (nmsP F up) 0 up (at_nmsP hM.good _ hupl) (nmsP_dd hM.good _ hupl) with ⟨_, hz⟩ | hz
    · have := hz [lastOf (Pth.partsL e.path)] (.inl (by rw [hku]; decide))
      rw [hends] at this
      cases this
    · have e1 := hz [lastOf (Pth.partsL e.path)] (.inl (by rw [hku]; decide))
      have e2 := hz [] (.inl (by rw [hku]; decide))
      rw [List.append_nil] at e2
      have e3 : ends F c true ⟨up, 0, []⟩ = (0, up) := by rw [ends_eq, hop_nil rfl]
      exact ⟨e2.trans e3, e1.symm.trans hends⟩
  obtain ⟨hgo1, hgo2⟩ := hgo
  have hlk : ends F c true ⟨if Pth.rootB e.to then 0 else up, 0, Pth.partsL e.to⟩ = (0, n) := by
    rw [ends_eq] at hgo2
    by_cases hmx : mayX c (nd F up).m = true
    · have e1 := hop_link (F := F) (c := c) (last := true) (s := ⟨up, 0, [lastOf (Pth.partsL e.path)]⟩) (n := i + 1) rfl hku hmx hdd hch (by rw [hk3]; simp) (by show ¬ 8 ≤ 0; omega)
      rw [e1, nd_eq hx, List.append_nil] at hgo2
      exact links_less F c true _ _ _ _ _ (Nat.le_refl _) hgo2
    · have e1 : hop F c true ⟨up, 0, [lastOf (Pth.partsL e.path)]⟩ = .inl (5, 0) := hop_shut rfl hku (by simpa using hmx)
      rw [e1] at hgo2
      cases hgo2
  refine ⟨up, ?_, ?_⟩
  · rw [p5, hnm, dir_slashed _ _ hplain]
    by_cases hu0 : up = 0
    · subst hu0
      rw [nmsP_zero, if_pos rfl]
      have c1 : Pth.chk ⟨#[47]⟩ = 0 := by kernel_rfl
      have c2 : Pth.partsL ⟨#[47]⟩ = [] := by kernel_rfl
      have c3 : Pth.rootB ⟨#[47]⟩ = true := by kernel_rfl
      have c4 : Pth.tailB ⟨#[47]⟩ = true := by kernel_rfl
      unfold walk
      rw [if_neg (by simp [hk0]), if_neg (by simp [c1]), c2, c3, c4]
      simp only [if_true, Bool.or_true]
      have he : ends F c true ⟨0, 0, []⟩ = (0, 0) := by rw [ends_eq, hop_nil rfl]
      rw [he]
      first | done | simp [hk0]
    · rw [if_neg (nmsP_ne hM.good hupl (by omega))]
      obtain ⟨j, rfl⟩ : ∃ j, up = j + 1 := ⟨up - 1, by omega⟩
      obtain ⟨q1, q2, q3, q4, q5⟩ := path_facts hM (show j < es.length by rw [hM.len] at hupl; omega)
      rw [← q5]
      unfold walk
      rw [if_neg (by simp [hk0]), if_neg (by rw [q1]; simp), q2, q3, q4]
      simp only [if_true, Bool.or_false]
      rw [hgo1]
      simp
  · unfold walk
    rw [if_neg (by simp [hku]), if_neg (by rw [m10 hk]; simp), ht]
    simp only [Bool.or_false, Int.toNat_natCast]
    rw [hlk]
    simp
end Go.Proofs.Yteiciabhfjakgaa.Vf
namespace Go.Proofs.Yteiciabhfjakgaa
set_option linter.unusedVariables false
set_option linter.unusedSimpArgs false
open Go.RowKit

theorem new_made {es : List Vf.Ent} (h : (Vf.new es).1 = 0) : Vf.Made (Vf.new es).2.2 es := by
  unfold Vf.new at h ⊢
  split at h
  · cases h
  next h1 =>
    split at h
    · next h2 => exact absurd h h2
    next h2 =>
      rw [if_neg h1, if_neg h2]
      have := Vf.adds_made es [Vf.root] [] 0 Vf.made_root (by simpa using h2)
      exact this
theorem dirB_size (p : ByteArray) : (Pth.dirB p).size ≤ p.size + 1 := by
  unfold Pth.dirB
  split
  · show 1 ≤ _; omega
  · split
    · show 1 ≤ _; omega
    · simp; omega

set_option maxRecDepth 100000 in
set_option maxHeartbeats 4000000 in
theorem vfsLinks_walk (l : List EntA) (A : Option Addr) (n c : Nat) (cr : Vf.Cred) (Ag : Option Addr) (ng kg : Nat) (w : World) (h : Rd w w.heap.size 7 A n (rowCs entVals l)) (hl : l.length = n) (hnc : n ≤ c) (hcm : c ≤ maxLen) (hin : ∀ s ∈ l, EntIn w s)
    (hg : Rd w w.heap.size 1 Ag ng (cr.groups.map u32v)) (hgk : ng ≤ kg) (hgm : kg ≤ maxLen) :
    Calls Try.prog 8 #[.slice A n c, credV cr Ag ng kg] w fun e w' => e = .returned (.bool true) ∧ Below w.heap.size w w' := by
  have hb0 : Below w.heap.size w (w.alloc (.cells #[.int .u32 (cr.uid : Nat), .int .u32 (cr.euid : Nat), .int .u32 (cr.suid : Nat), .int .u32 (cr.gid : Nat), .slice Ag ng kg] 44)) := (Below.refl _ _).alloc (Nat.le_refl _) _
  have hbk0 : Blk (w.alloc (.cells #[.int .u32 (cr.uid : Nat), .int .u32 (cr.euid : Nat), .int .u32 (cr.suid : Nat), .int .u32 (cr.gid : Nat), .slice Ag ng kg] 44)) w.heap.size 44 [.int .u32 (cr.uid : Nat), .int .u32 (cr.euid : Nat), .int .u32 (cr.suid : Nat), .int .u32 (cr.gid : Nat), .slice Ag ng kg] := Blk.new w 44 _
  have KL := hide (large_any l A n c w.heap.size _ (h.below hb0) hl (Nat.le_trans hnc hcm) (fun s hs => ⟨(hin s hs).p, Nat.le_trans (hin s hs).nc (hin s hs).c, (hin s hs).t⟩))
  have KW := hide (fun w' => works_any w')
  have H := hide h
  have Hin := hide hin
  have Hg := hide hg
  have Hl := hide hl
  have Hb0 := hide hb0
  have Hbk0 := hide hbk0
  unfold maxLen at hgm
  unfold credV
  clear h hin hg hl hb0 hbk0
  go_enter Try.func8, Try.ntmps8
  go_wp2_with fail
  refine (unhide KL).mono ?_
  rintro e w1 ⟨lb, q, rfl, hlb, rfl⟩
  have Hb1 := hide (below_drewN' (unhide Hb0) q)
  have Hbk1 := hide ((unhide Hbk0).drewN q)
  have Hlb := hide hlb
  clear hlb Hb0 Hbk0 KL
  generalize (w.alloc (.cells #[.int .u32 (cr.uid : Nat), .int .u32 (cr.euid : Nat), .int .u32 (cr.suid : Nat), .int .u32 (cr.gid : Nat), .slice Ag ng kg] 44)).drewN q = W1 at *
  have v4 : W1.cell? ⟨w.heap.size, 4, none⟩ = some (.slice Ag ng kg) := (unhide Hbk1).cell rfl
  cases lb with
  | true =>
    go_wp2_with fail
    refine ((unhide KW) _).mono ?_
    rintro e w2 ⟨rfl, hb2⟩
    have Hb2 := hide ((unhide Hb1).trans (hb2.mono (unhide Hb1).size))
    clear hb2
    go_wp2_with fail
    go_ret
    exact ⟨rfl, unhide Hb2⟩
  | false =>
  by_cases hgr : 1024 < ng
  · have g1 : (1024 : Int) < (ng : Int) := by omega
    clear hgr
    go_wp2_with fail
    refine ((unhide KW) _).mono ?_
    rintro e w2 ⟨rfl, hb2⟩
    have Hb2 := hide ((unhide Hb1).trans (hb2.mono (unhide Hb1).size))
    clear hb2
    go_wp2_with fail
    go_ret
    exact ⟨rfl, unhide Hb2⟩
  have g1 : ¬ (1024 : Int) < (ng : Int) := by omega
  obtain ⟨hn26, hall⟩ := (unhide Hlb) (by first | rfl | trivial)
  have hfit := esFit_of (unhide Hin) hall
  have KC := copyEnts_any l A n c w.heap.size W1 ((unhide H).below (unhide Hb1)) (unhide Hb1).size (unhide Hl) (by omega) (fun s hs => ⟨((unhide Hin) s hs).d.below (unhide Hb1), by have := (hall s hs).2.1; omega⟩)
  have HKC := hide KC
  have Hfit := hide hfit
  have Hall := hide hall
  clear KC hall hfit Hlb
  go_wp2_with fail
  refine (unhide HKC).mono ?_
  rintro e w3 ⟨A3, c3, l3, rfl, hcp⟩
  obtain ⟨hr3, hok3⟩ := hcp.newArgs (unhide Hfit)
  have hlen3 : l3.length = (l.map (·.e)).length := hcp.len
  have KN := new_any l3 A3 (l.map (·.e)).length c3 w3 (by rw [← hlen3]; exact hr3) hlen3 hok3 (by rw [List.length_map, unhide Hl]; omega)
  rw [hcp.map] at KN
  have hes64 : (l.map (·.e)).length = n := by rw [List.length_map, unhide Hl]
  rw [hes64] at KN
  unfold NewE at KN
  rw [hes64] at KN
  have hmade := new_made (es := l.map (·.e))
  obtain ⟨⟨ne, ni, F⟩, hnew⟩ : ∃ r, Vf.new (l.map (·.e)) = r := ⟨_, rfl⟩
  rw [hnew] at KN hmade
  dsimp only at KN hmade
  rw [hes64]
  have Hb3 := hide ((unhide Hb1).trans (hcp.bel.mono (unhide Hb1).size))
  have Hbk3 := hide ((unhide Hbk1).belowSz hcp.bel)
  have HKN := hide KN
  have Hmade := hide hmade
  clear hr3 hok3 KN hlen3 HKC hcp hes64 hnew v4 Hb1 Hbk1 hmade
  go_wp2_with fail
  refine (unhide HKN).mono ?_
  rintro e W ⟨hb4, ⟨h0, rfl⟩ | ⟨h0, f, Af, cf, L, rfl, hFS, hF, hFl, h01, h64⟩⟩
  · have Hb4 := hide ((unhide Hb3).trans (hb4.mono (unhide Hb3).size))
    clear hb4 HKN h0
    go_wp2_with fail
    refine ((unhide KW) _).mono ?_
    rintro e w5 ⟨rfl, hb5⟩
    have Hb5 := hide ((unhide Hb4).trans (hb5.mono (unhide Hb4).size))
    clear hb5
    go_wp2_with fail
    go_ret
    exact ⟨rfl, unhide Hb5⟩
  · have HbW := hide ((unhide Hb3).trans (hb4.mono (unhide Hb3).size))
    have HbkW := hide ((unhide Hbk3).belowSz hb4)
    have hM := (unhide Hmade) h0
    have hn65 : F.length ≤ 65 := by rw [hFl]; omega
    have KP : ∀ w', Below W.heap.size W w' → ∀ ino : Int, Calls Try.prog 18 #[.pointer (some ⟨f, 0, none⟩), .int .i64 ino] w' fun e w5 => e = .returned (.string (Vf.pathOf F ino)) ∧ Below w'.heap.size w' w5 :=
      fun w' hb ino => path_any F L _ f cf Af ino w' hF (hFS.belowSz hb) hn65
    have KWk : ∀ w', Below W.heap.size W w' → ∀ (src : Int) (path : ByteArray), path.size ≤ 4294967296 → Calls Try.prog 21 #[.pointer (some ⟨f, 0, none⟩), .agg #[.int .u32 (cr.uid : Nat), .int .u32 (cr.euid : Nat), .int .u32 (cr.suid : Nat), .int .u32 (cr.gid : Nat), .slice Ag ng kg], .int .i64 src, .string path, .bool true] w' fun e w5 => e = .returned (.tuple #[.int .i64 ((Vf.walk F cr src path true).1 : Nat), .int .i64 (Vf.walk F cr src path true).2]) ∧ Below w'.heap.size w' w5 :=
      fun w' hb src path hps => walk_any F L _ f cf Af Ag ng kg cr src path true w' hF (hFS.belowSz hb) hn65 (((unhide Hg).below ((unhide HbW).trans (hb.mono (unhide HbW).size))).more (Nat.le_trans (unhide HbW).size hb.size)) (by unfold maxLen; omega) hps
    have HSK : ∀ w', Below W.heap.size W w' → (Below W.heap.size W w' ∧ w'.cell? ⟨w.heap.size, 0, none⟩ = some (.int .u32 (cr.uid : Nat)) ∧ w'.cell? ⟨w.heap.size, 1, none⟩ = some (.int .u32 (cr.euid : Nat)) ∧ w'.cell? ⟨w.heap.size, 2, none⟩ = some (.int .u32 (cr.suid : Nat)) ∧ w'.cell? ⟨w.heap.size, 3, none⟩ = some (.int .u32 (cr.gid : Nat)) ∧ w'.cell? ⟨w.heap.size, 4, none⟩ = some (.slice Ag ng kg)) := by
      intro w' hb
      have h1 := (unhide HbkW).belowSz hb
      exact ⟨hb, h1.cell rfl, h1.cell rfl, h1.cell rfl, h1.cell rfl, h1.cell rfl⟩
    have HKP := hide KP
    have HKWk := hide KWk
    have HSK' := hide HSK
    have HM := hide hM
    unfold ptrV
    clear KP KWk HSK hM hFS hF hFl hb4 h0 h01 h64 HKN Hmade Hb3 Hbk3 hn65
    go_wp2_with fail
    go_loopg [8] n (fun gk iv wr => ∃ k : Nat, gk = n - k ∧ k ≤ n ∧ iv = .int .i64 (k : Nat) ∧ Below W.heap.size W wr)
    case atStart => exact ⟨0, by omega, Nat.zero_le _, rfl, Below.refl _ _⟩
    case round =>
    obtain ⟨k, hgk, hk, rfl, hbr⟩ := hrel
    have Hgk := hide hgk
    have Hbr := hide hbr
    clear hgk hbr
    by_cases hlt : k < n
    case neg =>
      have i1 : ¬ (k : Int) < (n : Int) := by omega
      go_wp2_with fail
      refine ((unhide KW) _).mono ?_
      rintro e w5 ⟨rfl, hb5⟩
      have Hb5 := hide ((unhide HbW).trans (((unhide Hbr).trans (hb5.mono (unhide Hbr).size)).mono (unhide HbW).size))
      clear hb5
      go_wp2_with fail
      go_ret
      exact ⟨rfl, unhide Hb5⟩
    have i1 : (k : Int) < (n : Int) := by omega
    have i2 : IntKind.i64.wrap ((k : Int) + 1) = (k : Int) + 1 := IntWalk.i64_in _ (by omega)
    have i3 : Hid ((k : Int) + 1 = ((k + 1 : Nat) : Int)) := hide (by omega)
    obtain ⟨s, hs⟩ : ∃ s, l[k]? = some s := ⟨_, List.getElem?_eq_getElem (by rw [unhide Hl]; exact hlt)⟩
    have hsm := List.mem_of_getElem? hs
    obtain ⟨b1, o1, rfl, hb1, cc1⟩ := (unhide H).open_ (by
      intro h0
      have := rowCs_len (vals := entVals) (size := 7) (fun _ => rfl) l
      rw [h0, unhide Hl] at this
      simp at this
      omega)
    have hc : ∀ w', Below W.heap.size W w' → w'.cell? ⟨b1, o1 + k * 7 + 1, none⟩ = some (.int .u8 (s.e.kind : Nat)) ∧ w'.cell? ⟨b1, o1 + k * 7 + 6, none⟩ = some (.string s.e.to) := by
      intro w' hb
      have key : ∀ j u, (entVals s)[j]? = some u → w'.cell? ⟨b1, o1 + (k * 7 + j), none⟩ = some u := by
        intro j u hu
        have hj : j < 7 := (List.getElem?_eq_some_iff.1 hu).1
        refine (((unhide HbW).trans (hb.mono (unhide HbW).size)).cell (p := ⟨b1, _, none⟩) hb1).trans (cc1 _ _ ?_)
        rw [rowCs_at (vals := entVals) (size := 7) (fun _ => rfl) l k s hs j hj, hu]
      have a1 := key 1 _ rfl
      have a6 := key 6 _ rfl
      simp only [← Nat.add_assoc] at a1 a6
      exact ⟨a1, a6⟩
    obtain ⟨x1, x6⟩ := hc wr (unhide Hbr)
    have Hc := hide hc
    have Hs := hide hs
    have hto := ((unhide Hall) s hsm).2.2
    clear hc cc1 hs hsm
    by_cases hk3 : s.e.kind = 3
    case neg =>
      have q3 : ((s.e.kind : Int) != 3) = true := by simp; omega
      clear hk3
      go_wp2_with fail
      go_roundg (n - (k + 1))
      case rel => exact ⟨k + 1, rfl, by omega, by go_num, unhide Hbr⟩
      case measure => rw [unhide Hgk]; omega
    have q3 : ((s.e.kind : Int) != 3) = false := by rw [hk3]; rfl
    have Hk3 := hide hk3
    clear hk3
    have KT := rtail_any s.e.to (by omega) wr
    obtain ⟨tb, htb⟩ : ∃ b, Pth.tailB s.e.to = b := ⟨_, rfl⟩
    rw [htb] at KT
    have HKT := hide KT
    have Htb := hide htb
    clear KT htb
    cases tb with
    | true =>
      go_wp2_with fail
      refine (unhide HKT).mono ?_
      rintro e w5 ⟨rfl, rfl⟩
      go_wp2_with fail
      go_roundg (n - (k + 1))
      case rel => exact ⟨k + 1, rfl, by omega, by go_num, unhide Hbr⟩
      case measure => rw [unhide Hgk]; omega
    | false =>
    have hesk : (l.map (·.e))[k]? = some s.e := by rw [List.getElem?_map, unhide Hs]; rfl
    have hkl := (List.getElem?_eq_some_iff.1 hesk).1
    have hpf := Vf.path_facts (unhide HM) hkl
    have hpsz := Pth.chk_size _ hpf.1
    have hdsz := dirB_size (Vf.pathOf F ((k + 1 : Nat) : Int))
    have hlaw := fun n1 => Vf.link_law (unhide HM) hesk (unhide Hk3) (unhide Htb) cr (n := n1)
    obtain ⟨pp, hpp⟩ : ∃ p, Vf.pathOf F ((k + 1 : Nat) : Int) = p := ⟨_, rfl⟩
    rw [hpp] at hpsz hdsz hlaw
    have KP2 := fun w' (hb : Below W.heap.size W w') => (unhide HKP) w' hb ((k : Int) + 1)
    rw [unhide i3, hpp] at KP2
    rw [← unhide i3] at KP2
    have KW1 := fun w' (hb : Below W.heap.size W w') => (unhide HKWk) w' hb 0 pp (by omega)
    have KW2 := fun w' (hb : Below W.heap.size W w') => (unhide HKWk) w' hb 0 (Pth.dirB pp) (by omega)
    have KD := fun w' => rdir_any pp (by omega) w'
    obtain ⟨⟨n1, e1⟩, hw1⟩ : ∃ r, Vf.walk F cr 0 pp true = r := ⟨_, rfl⟩
    rw [hw1] at KW1 hlaw
    dsimp only at KW1
    have HKP2 := hide KP2
    have HKW1 := hide KW1
    have HKW2 := hide KW2
    have HKD := hide KD
    have Hlaw := hide hlaw
    obtain ⟨-, v0, v1, v2, v3, v4⟩ := (unhide HSK') wr (unhide Hbr)
    clear hesk hkl hpf hpsz hdsz hlaw hpp KP2 KW1 KW2 KD hw1 i3
    go_wp2_with fail
    refine (unhide HKT).mono ?_
    rintro e w5 ⟨rfl, rfl⟩
    go_wp2_with fail
    have Hbn0 := Hbr
    go_region_held3 (fun w' => Below W.heap.size W w' ∧ w'.cell? ⟨w.heap.size, 0, none⟩ = some (.int .u32 (cr.uid : Nat)) ∧ w'.cell? ⟨w.heap.size, 1, none⟩ = some (.int .u32 (cr.euid : Nat)) ∧ w'.cell? ⟨w.heap.size, 2, none⟩ = some (.int .u32 (cr.suid : Nat)) ∧ w'.cell? ⟨w.heap.size, 3, none⟩ = some (.int .u32 (cr.gid : Nat)) ∧ w'.cell? ⟨w.heap.size, 4, none⟩ = some (.slice Ag ng kg)) (first | exact (unhide HSK') _ (below_drew' (unhide Hbr)) | exact (unhide HSK') _ (unhide hbn)) (first
      | (go_at_call 18; rename Below _ _ _ ∧ _ => hH; refine ((unhide HKP2) _ hH.1).mono ?_; rintro e w5 ⟨rfl, hb5⟩; have hbn := hide (hH.1.trans (hb5.mono hH.1.size)); clear hb5)
      | (go_at_call 21; rename Below _ _ _ ∧ _ => hH; refine ((unhide HKW1) _ hH.1).mono ?_; rintro e w6 ⟨rfl, hb6⟩; have hbn := hide (hH.1.trans (hb6.mono hH.1.size)); clear hb6))
    clear v0 v1 v2 v3 v4 x1 x6
    by_cases he : e1 = 0
    case neg =>
      have q1 : (e1 != 0) = true := by simp [he]
      clear he
      go_wp2_with fail
      go_roundg (n - (k + 1))
      case rel => exact ⟨k + 1, rfl, by omega, by go_num, unhide hbn⟩
      case measure => rw [unhide Hgk]; omega
    subst he
    have q1 : ((0 : Int) != 0) = false := rfl
    obtain ⟨d, hd1, hd2⟩ := (unhide Hlaw) n1 rfl
    have KW2 := unhide HKW2
    rw [hd1] at KW2
    dsimp only at KW2
    have KW3 := fun w' (hb : Below W.heap.size W w') => (unhide HKWk) w' hb (d : Nat) s.e.to (by omega)
    rw [hd2] at KW3
    dsimp only at KW3
    have HKW2' := hide KW2
    have HKW3 := hide KW3
    have HbA := hbn
    obtain ⟨-, v0, v1, v2, v3, v4⟩ := (unhide HSK') _ (unhide HbA)
    clear KW2 KW3 hd1 hd2 HKW1 HKW2 Hlaw hbn
    go_wp2_with fail
    go_region_held3 (fun w' => Below W.heap.size W w' ∧ w'.cell? ⟨w.heap.size, 0, none⟩ = some (.int .u32 (cr.uid : Nat)) ∧ w'.cell? ⟨w.heap.size, 1, none⟩ = some (.int .u32 (cr.euid : Nat)) ∧ w'.cell? ⟨w.heap.size, 2, none⟩ = some (.int .u32 (cr.suid : Nat)) ∧ w'.cell? ⟨w.heap.size, 3, none⟩ = some (.int .u32 (cr.gid : Nat)) ∧ w'.cell? ⟨w.heap.size, 4, none⟩ = some (.slice Ag ng kg)) (first | exact (unhide HSK') _ (below_drew' (unhide HbA)) | exact (unhide HSK') _ (unhide hbn)) (first
      | (go_at_call 18; rename Below _ _ _ ∧ _ => hH; refine ((unhide HKP2) _ hH.1).mono ?_; rintro e w7 ⟨rfl, hb5⟩; have hbn := hide (hH.1.trans (hb5.mono hH.1.size)); clear hb5)
      | (go_at_call 28; refine ((unhide HKD) _).mono ?_; rintro e w8 ⟨rfl, rfl⟩)
      | (go_at_call 21; rename Below _ _ _ ∧ _ => hH; refine ((unhide HKW2') _ hH.1).mono ?_; rintro e w9 ⟨rfl, hb6⟩; have hbn := hide (hH.1.trans (hb6.mono hH.1.size)); clear hb6))
    clear v0 v1 v2 v3 v4
    have HbB := hbn
    obtain ⟨-, v0, v1, v2, v3, v4⟩ := (unhide HSK') _ (unhide HbB)
    obtain ⟨x1, x6⟩ := (unhide Hc) _ (unhide HbB)
    have HS3 : Hid (∀ w', Below W.heap.size W w' → (Below W.heap.size W w' ∧ w'.cell? ⟨w.heap.size, 0, none⟩ = some (.int .u32 (cr.uid : Nat)) ∧ w'.cell? ⟨w.heap.size, 1, none⟩ = some (.int .u32 (cr.euid : Nat)) ∧ w'.cell? ⟨w.heap.size, 2, none⟩ = some (.int .u32 (cr.suid : Nat)) ∧ w'.cell? ⟨w.heap.size, 3, none⟩ = some (.int .u32 (cr.gid : Nat)) ∧ w'.cell? ⟨w.heap.size, 4, none⟩ = some (.slice Ag ng kg) ∧ w'.cell? ⟨b1, o1 + k * 7 + 6, none⟩ = some (.string s.e.to))) := hide (fun w' hb => by
      obtain ⟨a, b0, b1', b2, b3, b4⟩ := (unhide HSK') w' hb
      exact ⟨a, b0, b1', b2, b3, b4, ((unhide Hc) w' hb).2⟩)
    have i0 : (0 : Int) ≤ (k : Int) := by omega
    have r1 : (((n1 : Nat) : Int) != ((n1 : Nat) : Int)) = false := by simp
    clear hbn HKW2' HKP2 HKD
    go_wp2_with fail
    go_region_held3 (fun w' => Below W.heap.size W w' ∧ w'.cell? ⟨w.heap.size, 0, none⟩ = some (.int .u32 (cr.uid : Nat)) ∧ w'.cell? ⟨w.heap.size, 1, none⟩ = some (.int .u32 (cr.euid : Nat)) ∧ w'.cell? ⟨w.heap.size, 2, none⟩ = some (.int .u32 (cr.suid : Nat)) ∧ w'.cell? ⟨w.heap.size, 3, none⟩ = some (.int .u32 (cr.gid : Nat)) ∧ w'.cell? ⟨w.heap.size, 4, none⟩ = some (.slice Ag ng kg) ∧ w'.cell? ⟨b1, o1 + k * 7 + 6, none⟩ = some (.string s.e.to)) (first | exact (unhide HS3) _ (below_drew' (unhide HbB)) | exact (unhide HS3) _ (unhide hbn)) (first
      | (go_at_call 21; rename Below _ _ _ ∧ _ => hH; refine ((unhide HKW3) _ hH.1).mono ?_; rintro e w10 ⟨rfl, hb6⟩; have hbn := hide (hH.1.trans (hb6.mono hH.1.size)); clear hb6))
    clear v0 v1 v2 v3 v4 x1 x6
    go_wp2_with fail
    go_roundg (n - (k + 1))
    case rel => exact ⟨k + 1, rfl, by omega, by go_num, unhide hbn⟩
    case measure => rw [unhide Hgk]; omega
end Go.Proofs.Yteiciabhfjakgaa
