/- All of the chapter's texts. Ahead of it: The entries that made spoils: what is kept while it does so. No conditions. slices.Reverse of a row of texts of the call's own; strings.Join of texts. Conditions: as each says. A node's path: the walk of Path. Conditions: as it says. small: are credentials and a path within what a statement goes through? No conditions. The anchor of the chapter's laws: the walk of works. No conditions. VfsRights: the law's walk. Conditions: those of the arguments. The reference's file system in memory; the walks of its child, at, dir. Conditions: as each says. The walks of the references for paths: Pieces and Check of hostelref02. Condition: the texts are shorter than 2^32 bytes. The walk of the reference Parts of hostelref02. Condition: the texts are shorter than 2^32 bytes. The reference's dir, and which entries it takes: the walks of dir, may. Conditions: as each says. The reference's New: what holds of its memory. No conditions beyond those named. The reference's New: the walk. Conditions: as it says. What made answers; the answers of the two News in one form. Conditions: as each says. The walk of ShebangSteps. Conditions: as the arguments'. The arguments of the laws of scripts: three texts; a path and arguments; three numbers. No conditions. -/
import Derived.Test.YtfegfmapdekkbaaDoorSbB4
import Derived.Test.YtfegfmapdekkbaaDoorSbB1
import Derived.Test.YtfegfmapdekkbaaDoorShelf
import Derived.Test.YtfegfmapdekkbaaDoorSbB2
import Derived.Laws.IdiomCopy
import Derived.Lib.RowBridge
import Derived.Test.YtfegfmapdekkbaaDoorSbB3
import Derived.Deep.RegionHeld3
import Derived.Laws.IdiomArrays
namespace Go.Proofs.YtfegfmapdekkbaaDoor
set_option linter.unusedVariables false
set_option linter.unusedSimpArgs false
open Go.RowKit

theorem own_setG {w : World} {base g n c i size : Nat} {e : TypeId} {xs : List Value} (h : w.ownsRow base e size (.slice (some ⟨g, 0, none⟩) n c) n xs) (u : Value) :
    (w.setCell ⟨g, i, none⟩ u).ownsRow base e size (.slice (some ⟨g, 0, none⟩) n c) n (xs.set i u) := by
  obtain ⟨hl, hn | ⟨g', cap, cur, hv, hb, hg, h1, h2, h3, h4⟩⟩ := h
  · exact absurd hn.1 (by simp)
  · obtain ⟨rfl, rfl⟩ : g = g' ∧ c = cap := by simpa using hv
    refine ⟨by simpa using hl, .inr ⟨g, c, cur.setIfInBounds i u, rfl, hb, heap_setCell_same _ _ _ _ _ _ hg, h1, h2, by simpa using h3, ?_⟩⟩
    simp only [Array.toList_setIfInBounds, List.take_set, h4]
/-- A store into another block leaves a row of the call's own as it was. -/
theorem own_setO {w : World} {base g i n c size : Nat} {A : Option Addr} {e : TypeId} {xs : List Value} (h : w.ownsRow base e size (.slice A n c) n xs) (hne : (Value.slice A n c).ownBlock ≠ some g) (u : Value) : (w.setCell ⟨g, i, none⟩ u).ownsRow base e size (.slice A n c) n xs := by
  obtain ⟨hl, hn | ⟨g', cap, cur, hv, hb, hg, h1, h2, h3, h4⟩⟩ := h
  · exact ⟨hl, .inl hn⟩
  · refine ⟨hl, .inr ⟨g', cap, cur, hv, hb, (heap_setCell_other _ _ _ _ ?_).trans hg, h1, h2, h3, h4⟩⟩
    show g' ≠ g
    rintro rfl
    rw [hv] at hne
    exact hne rfl

/-- Where made stands: the entries from k on are as they were copied, and so are the bytes of those from d on. -/
structure SpS (w : World) (A : Option Addr) (c : Nat) (l' : List EntA) (k d : Nat) (W : World) : Prop where
  bel : Below w.heap.size w W
  row : ∃ xs, W.ownsRow w.heap.size 69 7 (.slice A l'.length c) l'.length xs ∧ ∀ i, k * 7 ≤ i → xs[i]? = (rowCs entVals l')[i]?
  dat : ∀ j s, d ≤ j → l'[j]? = some s → W.ownsRow w.heap.size 5 1 (.slice s.A s.n s.c) s.n (bys s.e.data)
  apart : l'.Pairwise (fun s t => ∀ g, (Value.slice s.A s.n s.c).ownBlock = some g → (Value.slice t.A t.n t.c).ownBlock ≠ some g)
section
variable {w W W' : World} {es : List Vf.Ent} {A : Option Addr} {c k d g : Nat} {l' : List EntA}
theorem SpS.start (h : CpS w es A c l' W) : SpS w A c l' 0 0 W :=
  ⟨h.bel, ⟨_, h.row, fun _ _ => rfl⟩, fun j s _ hs => h.dat s (List.mem_of_getElem? hs), h.apart⟩
theorem SpS.below (h : SpS w A c l' k d W) (hb : Below W.heap.size W W') : SpS w A c l' k d W' := by
  obtain ⟨xs, h1, h2⟩ := h.row
  exact ⟨h.bel.trans (hb.mono h.bel.size), ⟨xs, own_keepA h1 (fun k _ hk => hb.block k hk), h2⟩, fun j s hj hs => own_keepA (h.dat j s hj hs) (fun k _ hk => hb.block k hk), h.apart⟩
theorem SpS.less (h : SpS w A c l' k d W) {k' d' : Nat} (hk : k ≤ k') (hd : d ≤ d') : SpS w A c l' k' d' W := by
  obtain ⟨xs, h1, h2⟩ := h.row
  exact ⟨h.bel, ⟨xs, h1, fun i hi => h2 i (by omega)⟩, fun j s hj hs => h.dat j s (by omega) hs, h.apart⟩
/-- A store into a cell of the entries below k. -/
theorem SpS.setRow (h : SpS w (some ⟨g, 0, none⟩) c l' k d W) (i : Nat) (hi : i < k * 7) (u : Value) : SpS w (some ⟨g, 0, none⟩) c l' k d (W.setCell ⟨g, i, none⟩ u) := by
  obtain ⟨xs, h1, h2⟩ := h.row
  have hg : w.heap.size ≤ g := by
    obtain ⟨hl, hn | ⟨g', cap, cur, hv, hb, hg, _⟩⟩ := h1
    · exact absurd hn.1 (by simp)
    · obtain ⟨rfl, rfl⟩ : g = g' ∧ c = cap := by simpa using hv
      exact hb
  have hne : ∀ j s, d ≤ j → l'[j]? = some s → (Value.slice s.A s.n s.c).ownBlock ≠ some g := by
    intro j s hj hs e
    obtain ⟨c1, e1⟩ := row_blkS (h.dat j s hj hs) e
    obtain ⟨c2, e2⟩ := row_blkS (k := g) h1 rfl
    rw [e1] at e2
    injection e2 with e2
    injection e2 with _ e3
    exact absurd e3 (by decide)
  refine ⟨h.bel.setCell (p := ⟨g, i, none⟩) hg u, ⟨xs.set i u, own_setG h1 u, fun i' hi' => ?_⟩, fun j s hj hs => own_setO (h.dat j s hj hs) (hne j s hj hs) u, h.apart⟩
  rw [List.getElem?_set_ne (by omega)]
  exact h2 i' hi'
theorem SpS.base (h : SpS w (some ⟨g, 0, none⟩) c l' k d W) : w.heap.size ≤ g := by
  obtain ⟨xs, h1, h2⟩ := h.row
  obtain ⟨hl, hn | ⟨g', cap, cur, hv, hb, hg, _⟩⟩ := h1
  · exact absurd hn.1 (by simp)
  · obtain ⟨rfl, rfl⟩ : g = g' ∧ c = cap := by simpa using hv
    exact hb
/-- The cells of an entry that is as it was. -/
theorem SpS.cell (h : SpS w (some ⟨g, 0, none⟩) c l' k d W) {j : Nat} {s : EntA} (hj : k ≤ j) (hs : l'[j]? = some s) {q : Nat} (hq : q < 7) {u : Value} (hu : (entVals s)[q]? = some u) : W.cell? ⟨g, j * 7 + q, none⟩ = some u := by
  obtain ⟨xs, h1, h2⟩ := h.row
  have hx : xs[j * 7 + q]? = some u := by
    rw [h2 (j * 7 + q) (by omega), rowCs_at (vals := entVals) (size := 7) (fun _ => rfl) l' j s hs q hq, hu]
  obtain ⟨b, off, ha, _, hc⟩ := (Rd.of_own h1).open_ (by intro e; rw [e] at hx; cases hx)
  obtain ⟨rfl, rfl⟩ : g = b ∧ 0 = off := by simpa using ha
  simpa using hc _ _ hx
theorem SpS.free (h : SpS w (some ⟨g, 0, none⟩) c l' k d W) (i : Nat) : W.frozen? ⟨g, i, none⟩ = false := by
  obtain ⟨xs, h1, h2⟩ := h.row
  obtain ⟨hl, hn | ⟨g', cap, cur, hv, hb, hg, _⟩⟩ := h1
  · exact absurd hn.1 (by simp)
  · obtain ⟨rfl, rfl⟩ : g = g' ∧ c = cap := by simpa using hv
    exact frozen_of_row _ _ _ _ _ hg
end
/-- Within an entry: its bytes from q on are as they were. -/
structure SpI (w : World) (A : Option Addr) (c : Nat) (l' : List EntA) (k q : Nat) (s : EntA) (W : World) : Prop where
  sp : SpS w A c l' k (k + 1) W
  at_ : l'[k]? = some s
  row : ∃ ys, W.ownsRow w.heap.size 5 1 (.slice s.A s.n s.c) s.n ys ∧ ∀ i, q ≤ i → ys[i]? = (bys s.e.data)[i]?
section
variable {w W W' : World} {A : Option Addr} {c k q g b : Nat} {l' : List EntA} {s : EntA}
theorem SpI.start (h : SpS w A c l' k k W) (hs : l'[k]? = some s) : SpI w A c l' k 0 s W :=
  ⟨h.less (Nat.le_refl _) (Nat.le_succ _), hs, ⟨_, h.dat k s (Nat.le_refl _) hs, fun _ _ => rfl⟩⟩
theorem SpI.cell (h : SpI w A c l' k q s W) (hA : s.A = some ⟨b, 0, none⟩) {u : Value} {i : Nat} (hi : q ≤ i) (hu : (bys s.e.data)[i]? = some u) : W.cell? ⟨b, i, none⟩ = some u := by
  obtain ⟨ys, h1, h2⟩ := h.row
  rw [hA] at h1
  exact own_cell h1 ((h2 i hi).trans hu)
theorem SpI.free (h : SpI w A c l' k q s W) (hA : s.A = some ⟨b, 0, none⟩) (i : Nat) : W.frozen? ⟨b, i, none⟩ = false := by
  obtain ⟨ys, h1, h2⟩ := h.row
  rw [hA] at h1
  exact own_free h1 i
/-- A store into the byte at hand. -/
theorem SpI.set (h : SpI w A c l' k q s W) (hA : s.A = some ⟨b, 0, none⟩) (u : Value) : SpI w A c l' k (q + 1) s (W.setCell ⟨b, q, none⟩ u) := by
  obtain ⟨ys, h1, h2⟩ := h.row
  have h1' := h1
  rw [hA] at h1'
  have hb : w.heap.size ≤ b := (own_at h1').1
  have hown : (Value.slice s.A s.n s.c).ownBlock = some b := by rw [hA]; rfl
  obtain ⟨xs, h3, h4⟩ := h.sp.row
  have hne : (Value.slice A l'.length c).ownBlock ≠ some b := by
    intro e
    obtain ⟨c1, e1⟩ := row_blkS h3 e
    obtain ⟨c2, e2⟩ := row_blkS h1 hown
    rw [e1] at e2
    injection e2 with e2
    injection e2 with _ e3
    exact absurd e3 (by decide)
  have hap : ∀ j t, k + 1 ≤ j → l'[j]? = some t → (Value.slice t.A t.n t.c).ownBlock ≠ some b := by
    intro j t hj ht
    obtain ⟨hkl, hk⟩ := List.getElem?_eq_some_iff.1 h.at_
    obtain ⟨hjl, hjt⟩ := List.getElem?_eq_some_iff.1 ht
    have := List.pairwise_iff_getElem.1 h.sp.apart k j hkl hjl (by omega)
    rw [hk, hjt] at this
    exact this b hown
  refine ⟨⟨h.sp.bel.setCell (p := ⟨b, q, none⟩) hb u, ⟨xs, own_setO h3 hne u, h4⟩, fun j t hj ht => own_setO (h.sp.dat j t hj ht) (hap j t hj ht) u, h.sp.apart⟩, h.at_, ⟨ys.set q u, ?_, fun i hi => ?_⟩⟩
  · rw [hA]
    exact own_set h1' u
  · rw [List.getElem?_set_ne (by omega)]
    exact h2 i (by omega)
end
end Go.Proofs.YtfegfmapdekkbaaDoor
namespace Go.Proofs.YtfegfmapdekkbaaDoor
set_option linter.unusedVariables false
set_option linter.unusedSimpArgs false
open Go.RowKit Go.Lib Go.Sort

theorem below_setCellsR {B : Nat} {a : World} (b : Nat) (hb : B ≤ b) : ∀ (vs : List Value) (o : Nat) {w : World}, Below B a w → Below B a (w.setCells b o vs)
  | [], _, _, h => h
  | v :: r, o, _, h => below_setCellsR b hb r (o + 1) (h.setCell (p := ⟨b, o, none⟩) hb v)
def RevE (A : Option Addr) (n base : Nat) (l : List ByteArray) (w : World) (e : Ending) (w' : World) : Prop :=
  e = .returned (.tuple #[]) ∧ Rd w' w'.heap.size 1 A n (l.reverse.map Value.string) ∧ Below base w w'
end Go.Proofs.YtfegfmapdekkbaaDoor
namespace Go.Proofs.YtfegfmapdekkbaaDoor
set_option linter.unusedVariables false
set_option linter.unusedSimpArgs false
open Go.RowKit Go.Lib Go.Sort

theorem meth_dir (w : World) (q : Nat) : (binOp .eql 93 (.iface 79 (.pointer (some ⟨q, 0, none⟩))) .nilIface).run Tryd.prog w = .ok (.bool false) w := by kernel_rfl
/-- Where the walk upwards stands: at node i, with the names below it. -/
def PaS (w : World) (F : List Vf.Nd) (L : List Pl) (i0 : Nat) (i : Nat) (lv bv : Value) (W : World) : Prop :=
  ∃ (p : Pl) (acc : List ByteArray) (A : Option Addr) (c : Nat), L[i]? = some p ∧ i < F.length ∧ bv = .pointer (some ⟨p.q, 0, none⟩) ∧ lv = .slice A acc.length c ∧ W.ownsRow w.heap.size 9 1 (.slice A acc.length c) acc.length (acc.map Value.string) ∧ Vf.nmsP F i0 = Vf.nmsP F i ++ acc.reverse ∧ acc.length + i ≤ i0 ∧ Below w.heap.size w W

end Go.Proofs.YtfegfmapdekkbaaDoor
namespace Go.Proofs.YtfegfmapdekkbaaDoor
set_option linter.unusedVariables false
set_option linter.unusedSimpArgs false
open Go.RowKit

end Go.Proofs.YtfegfmapdekkbaaDoor
namespace Go.Proofs.YtfegfmapdekkbaaDoor
set_option linter.unusedVariables false
set_option linter.unusedSimpArgs false
open Go.RowKit

def aE1 : Vf.Ent := ⟨⟨#[47, 97]⟩, 2, 448, 7, 0, [], ⟨#[]⟩⟩
def aE2 : Vf.Ent := ⟨⟨#[47, 97, 47, 102]⟩, 1, 420, 0, 0, [1, 2, 3], ⟨#[]⟩⟩
def aE3 : Vf.Ent := ⟨⟨#[47, 108]⟩, 3, 0, 0, 0, [], ⟨#[97, 47, 102]⟩⟩
theorem anchor_new : (Vf.new [aE1, aE2, aE3]).1 = 0 := by kernel_rfl
theorem anchor_walk1 : Vf.walk (Vf.new [aE1, aE2, aE3]).2.2 ⟨0, 7, 0, 0, []⟩ 0 ⟨#[108]⟩ true = (2, 0) := by kernel_rfl
theorem anchor_walk2 : (Vf.walk (Vf.new [aE1, aE2, aE3]).2.2 ⟨0, 8, 0, 0, []⟩ 0 ⟨#[108]⟩ true).2 = 5 := by kernel_rfl
theorem anchor_read : Vf.readOf (Vf.new [aE1, aE2, aE3]).2.2 2 1 9 = ([2, 3], 0) := by kernel_rfl
theorem anchor_path : Vf.pathOf (Vf.new [aE1, aE2, aE3]).2.2 2 = ⟨#[47, 97, 47, 102]⟩ := by kernel_rfl
def aL (g : Nat) : List EntA := [⟨aE1, none, 0, 0⟩, ⟨aE2, some ⟨g, 0, none⟩, 3, 3⟩, ⟨aE3, none, 0, 0⟩]
end Go.Proofs.YtfegfmapdekkbaaDoor
namespace Go.Proofs.YtfegfmapdekkbaaDoor
set_option linter.unusedVariables false
set_option linter.unusedSimpArgs false
open Go.RowKit

/-- Entries that are not too great. -/
def EsFit (es : List Vf.Ent) : Prop := ∀ e ∈ es, e.path.size ≤ 262144 ∧ e.data.length ≤ 262144 ∧ e.to.size ≤ 262144 ∧ e.mode < 65536
theorem CpS.newArgs {w W : World} {es : List Vf.Ent} {A : Option Addr} {c : Nat} {l' : List EntA} (h : CpS w es A c l' W) (hs : EsFit es) : Rd W W.heap.size 7 A l'.length (rowCs entVals l') ∧ ∀ s ∈ l', EntOk W s := by
  refine ⟨Rd.of_own h.row, fun s hm => ?_⟩
  have hd := h.dat s hm
  have he : s.e ∈ es := by rw [← h.map]; exact List.mem_map.2 ⟨s, hm, rfl⟩
  obtain ⟨a, b, d, e⟩ := hs s.e he
  have hlen : s.e.data.length = s.n := by have := hd.1; simpa [bys] using this
  exact ⟨Rd.of_own hd, by omega, by omega, by omega, e⟩
theorem esFit_of {l : List EntA} {w : World} (hin : ∀ s ∈ l, EntIn w s) (h : ∀ s ∈ l, s.e.path.size ≤ 262144 ∧ s.n ≤ 262144 ∧ s.e.to.size ≤ 262144) : EsFit (l.map (·.e)) := by
  intro e he
  obtain ⟨s, hs, rfl⟩ := List.mem_map.1 he
  obtain ⟨a, b, d⟩ := h s hs
  have hlen : s.e.data.length = s.n := by have := (hin s hs).d.len1; simpa [bys] using this
  exact ⟨a, by omega, d, (hin s hs).m⟩

section
variable {w W W' : World} {c : Vf.Cred} {A : Option Addr} {n k : Nat} {src : Int} {path : ByteArray} {last : Bool}
end

end Go.Proofs.YtfegfmapdekkbaaDoor
namespace Go.Proofs.YtfegfmapdekkbaaDoor
set_option linter.unusedVariables false
set_option linter.unusedSimpArgs false
open Go.RowKit

/-- Where a node's bytes lie. -/
structure RPl where
  A : Option Addr
  n : Nat
  c : Nat
def rndV (y : Vf.Nd × RPl) : List Value := [.int .u8 (y.1.m.kind : Nat), .int .u16 (y.1.m.mode : Nat), .int .u32 (y.1.m.uid : Nat), .int .u32 (y.1.m.gid : Nat), .int .i64 (y.1.m.size : Nat), .int .i64 (y.1.up : Nat), .string y.1.name, .slice y.2.A y.2.n y.2.c, .string y.1.to]
section
variable {w w' : World} {base g c : Nat} {A : Option Addr} {F : List Vf.Nd} {ls : List RPl}
end
def numV : Option Nat → Value
  | none => .int .i64 (-1)
  | some i => .int .i64 (i : Nat)
theorem child_from {F : List Vf.Nd} {d k : Nat} {nm : ByteArray} {x : Vf.Nd} (hx : F[k]? = some x) : ((F.drop k).findIdx? (Vf.isKid d nm)).map (· + k) = if Vf.isKid d nm x = true then some k else ((F.drop (k + 1)).findIdx? (Vf.isKid d nm)).map (· + (k + 1)) := by
  rw [List.drop_eq_getElem_cons (List.getElem?_eq_some_iff.1 hx).1, (List.getElem?_eq_some_iff.1 hx).2, List.findIdx?_cons]
  by_cases h : Vf.isKid d nm x = true
  · rw [if_pos h, if_pos h]; simp
  · rw [if_neg h, if_neg h, Option.map_map]
    congr 1
    funext t
    simp only [Function.comp]
    omega
theorem child_end {F : List Vf.Nd} {d k : Nat} {nm : ByteArray} (hk : F.length ≤ k) : ((F.drop k).findIdx? (Vf.isKid d nm)).map (· + k) = none := by
  rw [List.drop_of_length_le hk]
  rfl
theorem str_eq (a b : ByteArray) : (a.toList == b.toList) = decide (a = b) := beq_toList a b

end Go.Proofs.YtfegfmapdekkbaaDoor
namespace Go.Proofs.YtfegfmapdekkbaaDoor
set_option linter.unusedVariables false
set_option linter.unusedSimpArgs false
open Go.RowKit

theorem pcsAt_len (s : ByteArray) : ∀ (l : List UInt8) (i f : Nat), (Pth.pcsL s l i f).length ≤ l.length + 1 := by
  intro l
  induction l with
  | nil => intro i f; exact Nat.le_refl _
  | cons c r ih =>
    intro i f
    unfold Pth.pcsL
    have h1 := ih (i + 1) (i + 1)
    have h2 := ih (i + 1) f
    split
    · simp only [List.length_cons]; omega
    · simp only [List.length_cons]; omega
theorem pcs_len (s : ByteArray) : (Pth.pcs s).length ≤ s.size + 1 := pcsAt_len s s.data.toList 0 0

end Go.Proofs.YtfegfmapdekkbaaDoor
namespace Go.Proofs.YtfegfmapdekkbaaDoor
set_option linter.unusedVariables false
set_option linter.unusedSimpArgs false
open Go.RowKit

theorem isPart_eq (x : ByteArray) : Pth.isPart x = (!(x.toList.isEmpty) && !(x.toList == [46])) := by
  rw [Lib.toList_data]
  cases h : x.data.toList with
  | nil => simp [Pth.isPart, h]
  | cons a r => simp [Pth.isPart, h]

end Go.Proofs.YtfegfmapdekkbaaDoor
namespace Go.Proofs.YtfegfmapdekkbaaDoor
set_option linter.unusedVariables false
set_option linter.unusedSimpArgs false
open Go.RowKit

theorem and2559 (n : Nat) (h : n < 65536) : (bits .and .u16 (n : Int) 2559 != (n : Int)) = !decide (n &&& 2559 = n) := by
  have e : (2559 : Int) = ((2559 : Nat) : Int) := rfl
  rw [e, u16_and_nat n 2559 h (by omega), bne, Bool.not_inj_iff, Bool.eq_iff_iff, beq_iff_eq, decide_eq_true_eq]
  omega

end Go.Proofs.YtfegfmapdekkbaaDoor
namespace Go.Proofs.YtfegfmapdekkbaaDoor
set_option linter.unusedVariables false
set_option linter.unusedSimpArgs false
open Go.RowKit

theorem rndV_one (y : Vf.Nd × RPl) : ∀ u ∈ rndV y, u.oneCell' = true := by
  intro u hu
  simp only [rndV, List.mem_cons, List.not_mem_nil, or_false] at hu
  rcases hu with rfl | rfl | rfl | rfl | rfl | rfl | rfl | rfl | rfl <;> rfl
section
variable {w1 V V3 : World} {base g c : Nat} {A : Option Addr} {F : List Vf.Nd} {ls : List RPl}
end
end Go.Proofs.YtfegfmapdekkbaaDoor
namespace Go.Proofs.YtfegfmapdekkbaaDoor
set_option linter.unusedVariables false
set_option linter.unusedSimpArgs false
open Go.RowKit

theorem wp_app1g {P : Program} {t e : TypeId} {size bytes : Nat} (T : SlTy P t e size bytes) {W : World} {o : Oper} {a : Act} {K : Act → World → Prop} {Q : Exit → Act → World → Prop} (s x : Operand)
    (ho : o.op = .call { callee := .builtin .append, args := #[s, x], argTypes := #[t, t] })
    (base : Nat) (v : Value) (n : Nat) (xs : List Value) (hs : a.eval s = v) (hown : W.ownsRow base e size v n xs)
    (cs : Array Value) (g : Nat) (hx : a.eval x = .slice (some ⟨g, 0, none⟩) 1 1) (hg : g = W.heap.size) (hcs : cs.size = size) (h1 : ∀ u ∈ cs.toList, u.oneCell' = true)
    (hb : (n + 1) * bytes ≤ 140737488355328) (hbase : base ≤ W.heap.size)
    (h : ∀ A' c' w', w'.ownsRow base e size (.slice A' (n + 1) c') (n + 1) (xs ++ cs.toList) → W.grownBy w' v.ownBlock → K (a.put o.dst (.slice A' (n + 1) c')) w') : o.wp P a (W.alloc (.cells cs e)) K Q := by
  subst hg
  refine wp_app T s x ho base v n xs hs (hown.alloc _) (W.heap.size + 1) (some ⟨W.heap.size, 0, none⟩) 1 1 cs.toList hx (Rd.row hcs) h1 hb (by simp; omega) fun v' w' h2 h3 h4 => ?_
  obtain ⟨A', c', rfl⟩ := own_form h2
  exact h A' c' w' h2 (grown_trans (World.grownBy_alloc W _ _) h3)
theorem takeQ {P : Program} {md : Region.Mode} {ops : Array Oper} {Q : Exit → Act → World → Prop} {S : World → Prop} {i : Nat} {oi : Oper} {v : Value} {d : Option Tmp} {fuel : Nat} {listed : Array Bool} {a : Act} {w : World} (hi : ops[i]? = some oi) (hd : oi.dst = d)
    (hs : Region.noSelect ops = true) (hf : Region.free md ops listed i = true) (hr : (Region.ready md ops listed).contains i = true)
    (hQ : ∀ c a w, Q (.panic c) (a.put d v) w → Q (.panic c) a w) (hy : YieldsIf P ops S oi v a) (hS : S w)
    (h : wpAnyH P md ops Q S fuel (listed.setIfInBounds i true) (a.put d v) w) : wpAnyH P md ops Q S (fuel + 1) listed a w := by
  subst hd
  exact wpAnyH_take hi hs hf hr hQ hy hS h
theorem numV_some (i : Nat) : numV (some i) = .int .i64 (i : Nat) := rfl
theorem numV_none : numV none = .int .i64 (-1) := rfl

end Go.Proofs.YtfegfmapdekkbaaDoor
namespace Go.Proofs.YtfegfmapdekkbaaDoor
set_option linter.unusedVariables false
set_option linter.unusedSimpArgs false
open Go.RowKit

/-- The program's file system, if there is one. -/
def FsO (lo : Nat) (ne : Int) (F : List Vf.Nd) (n : Nat) (fo : Option Addr) (w : World) : Prop :=
  (ne ≠ 0 ∧ fo = none) ∨ (ne = 0 ∧ ∃ f A c L, fo = some ⟨f, 0, none⟩ ∧ FsM w lo f A c F L ∧ Vf.Good F ∧ F.length = n + 1 ∧ n ≤ 64)
theorem FsO.keep {lo n : Nat} {ne : Int} {F : List Vf.Nd} {fo : Option Addr} {w w' : World} (h : FsO lo ne F n fo w) (hk : ∀ k, lo ≤ k → k < w.heap.size → w'.heap[k]? = w.heap[k]?) : FsO lo ne F n fo w' := by
  rcases h with h | ⟨h0, f, A, c, L, e, hf, r⟩
  · exact .inl h
  · exact .inr ⟨h0, f, A, c, L, e, hf.keep hk, r⟩
/-- Both News in one form. -/
theorem newE_one {es : List Vf.Ent} {w w' : World} {e : Ending} {ne ni : Int} {F : List Vf.Nd} (h : NewE es w e w') (hn : Vf.new es = (ne, ni, F)) :
    Below w.heap.size w w' ∧ ∃ fo, e = .returned (.tuple #[.pointer fo, .int .i64 ne, .int .i64 ni]) ∧ FsO w.heap.size ne F es.length fo w' := by
  unfold NewE at h
  rw [hn] at h
  obtain ⟨hb, ⟨h0, rfl⟩ | ⟨h0, f, A, c, L, rfl, hf, hg, hl, h1, h2⟩⟩ := h
  · exact ⟨hb, none, rfl, .inl ⟨h0, rfl⟩⟩
  · dsimp only at h0 h1
    subst h0
    subst h1
    exact ⟨hb, some ⟨f, 0, none⟩, rfl, .inr ⟨rfl, f, A, c, L, rfl, hf, hg, hl, h2⟩⟩
end Go.Proofs.YtfegfmapdekkbaaDoor
namespace Go.Proofs.YtfegfmapdekkbaaDoor
set_option linter.unusedVariables false
set_option linter.unusedSimpArgs false
open Go.RowKit

/-- What the law compares, in plain words. -/
structure StpP (F : List Vf.Nd) (cr : Vf.Cred) (x : ByteArray) (argv : List ByteArray) (R : Nat × ByteArray × List ByteArray × Int) (ino : Nat) (xe : Int) (m : Vf.Meta) (d i a : List UInt8) (is : Bool) (y : Int) (R2 : Nat × ByteArray × List ByteArray × Int) : Prop where
  bad : xe ≠ 0 → R = (0, ⟨#[]⟩, [], xe)
  acc : xe = 0 → m.kind ≠ 1 → R = (0, ⟨#[]⟩, [], 5)
  par : xe = 0 → m.kind = 1 → y ≠ 0 → R.2.2.2 ≠ 0
  no : xe = 0 → m.kind = 1 → R.2.2.2 ≠ 5 → y = 0 → is = false → (R.2.2.2 ≠ 0 → R.2.2.2 = Cl.envCk argv) ∧ (R.2.2.2 = 0 → R = (ino, x, argv, 0))
  yes : xe = 0 → m.kind = 1 → R.2.2.2 ≠ 5 → y = 0 → is = true → R.2.2.2 ≠ 10 → R = R2
theorem stpP (F : List Vf.Nd) (cr : Vf.Cred) (x : ByteArray) (argv : List ByteArray) {ino : Nat} {xe : Int} {m : Vf.Meta} {i a : List UInt8} {is : Bool} {y : Int}
    (hw : Vf.walk F cr 0 x true = (ino, xe)) (hm : (Vf.metaOf F (ino : Nat)).1 = m) (hp : Sb.parse (Vf.nd F ino).data = (i, a, is, y)) :
    StpP F cr x argv (Sb.chain F cr 4 x argv) ino xe m (Vf.nd F ino).data i a is y (Sb.chain F cr 4 (Sb.ba i) (Sb.argv (Sb.ba i) (Sb.ba a) x argv)) := by
  have hpr : Sb.prog F cr x = if xe ≠ 0 then (0, xe) else if m.kind = 1 ∧ Vf.mayX cr m = true then (ino, 0) else (0, 5) := by unfold Sb.prog; rw [hw]; dsimp only; rw [hm]
  have hok : xe = 0 → (Sb.chain F cr 4 x argv).2.2.2 ≠ 5 → Sb.prog F cr x = (ino, 0) := by
    intro h1 h2
    rw [if_neg (fun h => h h1)] at hpr
    split at hpr
    · exact hpr
    · exfalso
      rw [Sb.chain_bad (by rw [hpr]; decide)] at h2
      rw [hpr] at h2
      exact h2 rfl
  have e1 : Sb.prog F cr x = (ino, 0) → (Sb.parse (Vf.nd F (Sb.prog F cr x).1).data) = (i, a, is, y) := fun h => by rw [h]; exact hp
  refine ⟨fun h => ?_, fun h hk => ?_, fun h hk hy => ?_, fun h hk h5 hy his => ?_, fun h hk h5 hy his h10 => ?_⟩
  · rw [if_pos h] at hpr
    rw [Sb.chain_bad (by rw [hpr]; exact h), hpr]
  · rw [if_neg (fun h2 => h2 h), if_neg (fun h2 => hk h2.1)] at hpr
    rw [Sb.chain_bad (by rw [hpr]; decide), hpr]
  · by_cases h5 : (Sb.chain F cr 4 x argv).2.2.2 = 5
    · rw [h5]; decide
    · have hq := hok h h5
      rw [Sb.chain_par (by rw [hq]) (by rw [e1 hq]; exact hy), e1 hq]
      exact hy
  · have hq := hok h h5
    rw [Sb.chain_prog (by rw [hq]) (by rw [e1 hq]; exact hy) (by rw [e1 hq]; exact his)]
    split
    · next hv => exact ⟨fun _ => rfl, fun h0 => absurd h0 hv⟩
    · rw [hq]
      exact ⟨fun h0 => absurd rfl h0, fun _ => rfl⟩
  · have hq := hok h h5
    have hs := Sb.chain_succ (F := F) (c := cr) (path := x) (by rw [hq]) (by rw [e1 hq]; exact hy) (by rw [e1 hq]; exact his) 3 argv
    rw [e1 hq] at hs
    dsimp only at hs
    rw [hs] at h10 ⊢
    exact (Sb.chain_mono F cr 3 _ _ h10).symm
theorem nd_size {F : List Vf.Nd} (h : Vf.Good F) {ino : Nat} (hk : (Vf.metaOf F (ino : Nat)).1.kind = 1) : (Vf.metaOf F (ino : Nat)).1.size = (Vf.nd F ino).data.length := by
  unfold Vf.metaOf at *
  split at hk
  · cases hk
  · next h0 =>
    rw [if_neg h0]
    show (Vf.nd F ino).m.size = _
    unfold Vf.nd
    cases hx : F[ino]? with
    | none => have := List.getElem?_eq_none_iff.1 hx; exact absurd (.inr (by simpa using this)) h0
    | some y => exact (h.size _ y hx).1

theorem own_maxLen {w : World} {base : Nat} {e : TypeId} {size n c : Nat} {A : Option Addr} {xs : List Value} (h : w.ownsRow base e size (.slice A n c) n xs) : n ≤ maxLen := by
  rcases h.2 with ⟨_, h0⟩ | ⟨g, cap, cur, hv, _, _, h1, h2, _⟩
  · omega
  · omega
set_option maxRecDepth 100000 in
set_option maxHeartbeats 8000000 in
theorem shebangSteps_walk (l : List EntA) (A : Option Addr) (n c : Nat) (cr : Vf.Cred) (Ag : Option Addr) (ng kg : Nat) (x : ByteArray) (Al : Option Addr) (nl cl : Nat) (ps : List ByteArray) (w : World) (h : Rd w w.heap.size 7 A n (rowCs entVals l)) (hl : l.length = n) (hnc : n ≤ c) (hcm : c ≤ maxLen) (hin : ∀ s ∈ l, EntIn w s)
    (hg : Rd w w.heap.size 1 Ag ng (cr.groups.map u32v)) (hgk : ng ≤ kg) (hgm : kg ≤ maxLen) (hx : x.size ≤ maxLen) (hp : Rd w w.heap.size 1 Al nl (ps.map Value.string)) (hpc : nl ≤ cl) (hpm : cl ≤ maxLen) (hps : ∀ y ∈ ps, y.size ≤ maxLen) :
    Calls Tryd.prog 5 #[.slice A n c, credV cr Ag ng kg, .agg #[.string x, .slice Al nl cl]] w fun e w' => e = .returned (.bool true) ∧ Below w.heap.size w w' := by
  have S0 := hide (RnS.start w cr Ag ng kg x Al nl cl)
  have KL := hide (large_any l A n c w.heap.size _ (h.below (unhide S0).bel) hl (Nat.le_trans hnc hcm) (fun s hs => ⟨(hin s hs).p, Nat.le_trans (hin s hs).nc (hin s hs).c, (hin s hs).t⟩))
  have KA := hide (fun w' (hb : Below w.heap.size w w') => tlarge_any Al nl cl w.heap.size ps w' (hp.below hb) hps (Nat.le_trans hpc hpm))
  have KW := hide (fun w' => bworks_any w')
  have H := hide h
  have Hin := hide hin
  have Hg := hide hg
  have Hl := hide hl
  have Hp := hide hp
  have Hps := hide hps
  unfold maxLen at hx hgm hpm hcm
  unfold credV
  clear h hin hg hl hp hps
  obtain ⟨⟨v0, v1, v2, v3, v4⟩, y0, y1⟩ := (unhide S0).cells
  go_enter Tryd.func5, Tryd.ntmps5
  go_wp2_with fail
  refine (unhide KL).mono ?_
  rintro e w1 ⟨lb, q, rfl, hlb, rfl⟩
  have S1 := hide ((unhide S0).drewN q)
  have Hlb := hide hlb
  clear hlb S0 KL v0 v1 v2 v3 v4 y0 y1
  generalize ((w.alloc (.cells #[.int .u32 (cr.uid : Nat), .int .u32 (cr.euid : Nat), .int .u32 (cr.suid : Nat), .int .u32 (cr.gid : Nat), .slice Ag ng kg] 42)).alloc (.cells #[.string x, .slice Al nl cl] 44)).drewN q = W1 at *
  obtain ⟨⟨v0, v1, v2, v3, v4⟩, y0, y1⟩ := (unhide S1).cells
  cases lb with
  | true =>
    go_wp2_with fail
    refine ((unhide KW) _).mono ?_
    rintro e w2 ⟨rfl, hb2⟩
    have S2 := hide ((unhide S1).below hb2)
    clear hb2
    go_wp2_with fail
    go_ret
    exact ⟨rfl, (unhide S2).bel⟩
  | false =>
  have Ka := hide ((unhide KA) _ (unhide S1).bel)
  go_wp2_with fail
  refine (unhide Ka).mono ?_
  rintro e w2 ⟨ab, rfl, rfl, hab⟩
  have Hab := hide hab
  clear hab KA Ka
  cases ab with
  | true =>
    go_wp2_with fail
    refine ((unhide KW) _).mono ?_
    rintro e w3 ⟨rfl, hb3⟩
    have S3 := hide ((unhide S1).below hb3)
    clear hb3
    go_wp2_with fail
    go_ret
    exact ⟨rfl, (unhide S3).bel⟩
  | false =>
  by_cases hgr : ng ≤ 1024
  case neg =>
    have q1 : (1024 : Int) < (ng : Int) := by omega
    clear hgr
    go_wp2_with fail
    refine ((unhide KW) _).mono ?_
    rintro e w2 ⟨rfl, hb2⟩
    have S2 := hide ((unhide S1).below hb2)
    clear hb2
    go_wp2_with fail
    go_ret
    exact ⟨rfl, (unhide S2).bel⟩
  have q1 : ¬ (1024 : Int) < (ng : Int) := by omega
  by_cases hxr : x.size ≤ 4096
  case neg =>
    have q2 : (4096 : Int) < (x.size : Int) := by omega
    clear hxr
    go_wp2_with fail
    refine ((unhide KW) _).mono ?_
    rintro e w2 ⟨rfl, hb2⟩
    have S2 := hide ((unhide S1).below hb2)
    clear hb2
    go_wp2_with fail
    go_ret
    exact ⟨rfl, (unhide S2).bel⟩
  have q2 : ¬ (4096 : Int) < (x.size : Int) := by omega
  obtain ⟨hn26, hall⟩ := (unhide Hlb) (by first | rfl | trivial)
  obtain ⟨hnl2, hpss⟩ := (unhide Hab) rfl
  have hfit := esFit_of (unhide Hin) hall
  have KC := copyEnts_any l A n c w.heap.size W1 ((unhide H).below (unhide S1).bel) (unhide S1).bel.size (unhide Hl) (by omega) (fun s hs => ⟨((unhide Hin) s hs).d.below (unhide S1).bel, by have := (hall s hs).2.1; omega⟩)
  have HKC := hide KC
  have Hfit := hide hfit
  clear KC hall hfit Hlb Hab hpss Hin v0 v1 v2 v3 v4 y0 y1
  obtain ⟨⟨v0, v1, v2, v3, v4⟩, y0, y1⟩ := (unhide S1).cells
  go_wp2_with fail
  refine (unhide HKC).mono ?_
  rintro e w3 ⟨A3, c3, l3, rfl, hcp⟩
  obtain ⟨hr3, hok3⟩ := hcp.newArgs (unhide Hfit)
  have hlen3 : l3.length = (l.map (·.e)).length := hcp.len
  have hes64 : (l.map (·.e)).length = n := by rw [List.length_map, unhide Hl]
  have KN := new_any l3 A3 (l.map (·.e)).length c3 w3 (by rw [← hlen3]; exact hr3) hlen3 hok3 (by rw [hes64]; omega)
  rw [hcp.map, hes64] at KN
  obtain ⟨⟨ne, ni, F⟩, hnew⟩ : ∃ r, Vf.new (l.map (·.e)) = r := ⟨_, rfl⟩
  have S3 := hide ((unhide S1).below hcp.bel)
  have HKN := hide KN
  have Hnew := hide hnew
  have Hes := hide hes64
  rw [hes64]
  clear hr3 hok3 KN hlen3 S1 HKC hcp hes64 hnew v0 v1 v2 v3 v4 y0 y1
  go_wp2_with fail
  refine (unhide HKN).mono ?_
  intro e w4 hN
  obtain ⟨hb4, fo, rfl, hF⟩ := newE_one hN (unhide Hnew)
  have S4 := hide ((unhide S3).below hb4)
  have hsz4 := (unhide S4).bel.size
  clear hN HKN S3 hb4
  rcases hF with ⟨a, rfl⟩ | ⟨a, f, Af, cf, L, rfl, hFS, hF, hFl, hF64⟩
  · clear a
    go_wp2_with fail
    refine ((unhide KW) _).mono ?_
    rintro e w5 ⟨rfl, hb5⟩
    have S5 := hide ((unhide S4).below hb5)
    clear hb5
    go_wp2_with fail
    go_ret
    exact ⟨rfl, (unhide S5).bel⟩
  have hn65 : F.length ≤ 65 := by rw [hFl]; omega
  have hgr0 : ∀ w', Below w4.heap.size w4 w' → Rd w' w'.heap.size 1 Ag ng (cr.groups.map u32v) := fun w' hb => ((unhide Hg).below ((unhide S4).bel.trans (hb.mono hsz4))).more (Nat.le_trans hsz4 hb.size)
  have hpr0 : ∀ w', Below w4.heap.size w4 w' → Rd w' w'.heap.size 1 Al nl (ps.map Value.string) := fun w' hb => ((unhide Hp).below ((unhide S4).bel.trans (hb.mono hsz4))).more (Nat.le_trans hsz4 hb.size)
  have hlen : ps.length = nl := by simpa using (unhide Hp).len1
  have KCh : ∀ w', Below w4.heap.size w4 w' → ∀ (y : ByteArray) (A2 : Option Addr) (n2 c2 : Nat) (l2 : List ByteArray), y.size ≤ 4294967296 → Rd w' w'.heap.size 1 A2 n2 (l2.map Value.string) → n2 ≤ 2147483648 → (∀ z ∈ l2, z.size ≤ maxLen) →
      Calls Tryd.prog 21 #[.pointer (some ⟨f, 0, none⟩), .agg #[.int .u32 (cr.uid : Nat), .int .u32 (cr.euid : Nat), .int .u32 (cr.suid : Nat), .int .u32 (cr.gid : Nat), .slice Ag ng kg], .string y, .slice A2 n2 c2] w' (ChainE (Sb.chain F cr 4 y l2) w') :=
    fun w' hb y A2 n2 c2 l2 hy hr hn2 hs => chain_any F L _ f cf Af Ag A2 ng kg n2 c2 cr y l2 w' hF (hFS.belowSz hb) hn65 (hgr0 w' hb) (by unfold maxLen; omega) hy hr hn2 hs
  have KWk : ∀ w', Below w4.heap.size w4 w' → Calls Tryd.prog 22 #[ptrV f, credV cr Ag ng kg, .int .i64 0, .string x, .bool true] w' fun e w5 => e = .returned (.tuple #[.int .i64 ((Vf.walk F cr 0 x true).1 : Nat), .int .i64 (Vf.walk F cr 0 x true).2]) ∧ Below w'.heap.size w' w5 :=
    fun w' hb => walk_any F L _ f cf Af Ag ng kg cr 0 x true w' hF (hFS.belowSz hb) hn65 (hgr0 w' hb) (by unfold maxLen; omega) (by omega)
  have KM : ∀ w', Below w4.heap.size w4 w' → ∀ ino : Int, Calls Tryd.prog 23 #[ptrV f, .int .i64 ino] w' fun e w5 => e = .returned (.tuple #[metaV (Vf.metaOf F ino).1, .int .i64 (Vf.metaOf F ino).2]) ∧ Below w'.heap.size w' w5 :=
    fun w' hb ino => meta_any F L f cf _ Af ino w' (hFS.belowSz hb).toR (Nat.le_refl _) hn65 hF.kind
  have KR : ∀ w', Below w4.heap.size w4 w' → ∀ ino n : Int, Calls Tryd.prog 24 #[ptrV f, .int .i64 ino, .int .i64 0, .int .i64 n] w' (ReadVE F ino 0 n w') :=
    fun w' hb ino n => read_any F L _ f cf Af ino 0 n w' hF (hFS.belowSz hb) hn65
  have hnd := fun (ino : Nat) hk => nd_size hF (ino := ino) hk
  have hrf := fun (ino : Nat) (n : Nat) h => read_file (F := F) (i := ino) h n
  have hdl : ∀ ino : Nat, (Vf.nd F ino).data.length ≤ 65536 := by
    intro ino
    unfold Vf.nd
    cases hx : F[ino]? with
    | none => decide
    | some y => exact (hF.size _ y hx).2.2
  have K1 := KCh w4 (Below.refl _ _) x Al nl cl ps (by omega) (hpr0 _ (Below.refl _ _)) (by omega) (unhide Hps)
  obtain ⟨⟨ino, xe⟩, hw1⟩ : ∃ r, Vf.walk F cr 0 x true = r := ⟨_, rfl⟩
  have KM1 := fun w' hb => KM w' hb (ino : Nat)
  have hnd1 := hnd ino
  have hrf1 := hrf ino
  have hdl1 := hdl ino
  obtain ⟨⟨i, a, is, yy⟩, hpa⟩ : ∃ r, Sb.parse (Vf.nd F ino).data = r := ⟨_, rfl⟩
  obtain ⟨⟨⟨mk, mm, mu, mg, ms⟩, me⟩, hm⟩ : ∃ r, Vf.metaOf F (ino : Nat) = r := ⟨_, rfl⟩
  have hst := stpP F cr x ps hw1 (by rw [hm]) hpa
  have hpl := Sb.parse_len (Vf.nd F ino).data
  rw [hw1] at KWk
  rw [hm] at KM1 hnd1
  rw [hpa] at hpl
  have hrf2 := fun n h => hrf1 n (by rw [hm]; exact h)
  obtain ⟨D, hD⟩ : ∃ D, (Vf.nd F ino).data = D := ⟨_, rfl⟩
  rw [hD] at hst hpl hnd1 hdl1 hpa
  simp only [hD] at hrf2
  have KR1 := fun w' hb n => KR w' hb (ino : Nat) n
  obtain ⟨⟨r1, r2, r3, r4⟩, hR⟩ : ∃ r, Sb.chain F cr 4 x ps = r := ⟨_, rfl⟩
  rw [hR] at hst K1
  unfold ChainE at K1
  dsimp only at K1 KWk KM1 hnd1 hpl hrf2
  unfold ptrV credV at KWk
  unfold ptrV metaV at KM1
  unfold ptrV at KR1
  have HK1 := hide K1
  have HCh := hide KCh
  have HW := hide KWk
  have HM := hide KM1
  have HR := hide KR1
  have Hnd := hide hnd1
  have Hrf := hide hrf2
  have Hst := hide hst
  have Hpa := hide hpa
  have Hpl := hide hpl
  have Hlen := hide hlen
  have Hpr := hide hpr0
  clear K1 KCh KWk KM KM1 KR KR1 hnd hnd1 hrf hrf1 hrf2 hst hpa hpl hlen hpr0 hgr0 hw1 hm hD hR hFS hF hFl hF64 hdl
  obtain ⟨⟨v0, v1, v2, v3, v4⟩, y0, y1⟩ := (unhide S4).cells
  go_wp2_with fail
  refine (unhide HK1).mono ?_
  rintro e w5 ⟨A5, c5, rfl, ho5, hb5⟩
  have S5 := hide ((unhide S4).below hb5)
  have Hb45 := hide hb5
  have Ho5 := hide ho5
  have Kw := hide ((unhide HW) _ hb5)
  clear hb5 ho5 v0 v1 v2 v3 v4 y0 y1 HK1 HW
  obtain ⟨⟨v0, v1, v2, v3, v4⟩, y0, y1⟩ := (unhide S5).cells
  go_wp2_with fail
  refine (unhide Kw).mono ?_
  rintro e w6 ⟨rfl, hb6⟩
  have S6 := hide ((unhide S5).below hb6)
  have Hb46 := hide ((unhide Hb45).trans (hb6.mono (unhide Hb45).size))
  have Ho6 := hide (own_below (unhide Ho5) hb6)
  have Km := hide ((unhide HM) _ (unhide Hb46))
  clear hb6 v0 v1 v2 v3 v4 y0 y1 Kw HM Ho5 Hb45
  go_wp2_with fail
  refine (unhide Km).mono ?_
  rintro e w7 ⟨rfl, hb7⟩
  have hb7' := hb7.alloc hb7.size (.cells #[.int .u8 (mk : Nat), .int .u16 (mm : Nat), .int .u32 (mu : Nat), .int .u32 (mg : Nat), .int .i64 (ms : Nat)] 56)
  have Hm7 := hide (Blk.new w7 56 [.int .u8 (mk : Nat), .int .u16 (mm : Nat), .int .u32 (mu : Nat), .int .u32 (mg : Nat), .int .i64 (ms : Nat)])
  have S7 := hide ((unhide S6).below hb7')
  have Hb47 := hide ((unhide Hb46).trans (hb7'.mono (unhide Hb46).size))
  have Ho7 := hide (own_below (unhide Ho6) hb7')
  clear hb7 hb7' Km Ho6 Hb46
  by_cases he : xe = 0
  case neg =>
    have hr := (unhide Hst).bad he
    injection hr with e1 e2
    injection e2 with e2 e3
    injection e3 with e3 e4
    subst e1 e2 e3 e4
    have b1 : (r4 != 0) = true := by simpa using he
    have b2 : (r4 == 0) = false := by simpa using he
    clear he Hst
    go_wp2_with fail
    refine ((unhide KW) _).mono ?_
    rintro e ww ⟨rfl, hbw⟩
    have SW := hide ((unhide S7).below hbw)
    clear hbw
    go_wp2_with fail
    go_ret
    exact ⟨rfl, (unhide SW).bel⟩
  subst he
  have b1 : ((0 : Int) != 0) = false := rfl
  obtain ⟨z0, z1, z2, z3, z4⟩ := And.intro ((unhide Hm7).cell (i := 0) rfl) (And.intro ((unhide Hm7).cell (i := 1) rfl) (And.intro ((unhide Hm7).cell (i := 2) rfl) (And.intro ((unhide Hm7).cell (i := 3) rfl) ((unhide Hm7).cell (i := 4) rfl))))
  by_cases hk : mk = 1
  case neg =>
    have hr := (unhide Hst).acc rfl hk
    injection hr with e1 e2
    injection e2 with e2 e3
    injection e3 with e3 e4
    subst e1 e2 e3 e4
    have b3 : (((mk : Nat) : Int) != 1) = true := by simp; omega
    clear hk Hst
    go_wp2_with fail
    refine ((unhide KW) _).mono ?_
    rintro e ww ⟨rfl, hbw⟩
    have SW := hide ((unhide S7).below hbw)
    clear hbw
    go_wp2_with fail
    go_ret
    exact ⟨rfl, (unhide SW).bel⟩
  have b3 : (((mk : Nat) : Int) != 1) = false := by rw [hk]; rfl
  have hms : ms = D.length := (unhide Hnd) hk
  subst hms
  have Kr := (unhide HR) _ (unhide Hb47) (D.length : Nat)
  unfold ReadVE at Kr
  rw [(unhide Hrf) D.length hk, List.take_of_length_le (Nat.le_refl _)] at Kr
  dsimp only at Kr
  have HKr := hide Kr
  have Hk := hide hk
  clear hk Kr HR Hrf Hnd
  go_wp2_with fail
  refine (unhide HKr).mono ?_
  rintro e w8 ⟨A8, c8, rfl, ho8, hb8⟩
  have S8 := hide ((unhide S7).below hb8)
  have Hb48 := hide ((unhide Hb47).trans (hb8.mono (unhide Hb47).size))
  have Ho8 := hide (own_below (unhide Ho7) hb8)
  have hc8 := own_cap ho8
  have Kp := parse_any A8 D.length c8 w8.heap.size D w8 (Rd.of_own ho8) (Nat.le_refl _) (by omega) hc8
  rw [unhide Hpa] at Kp
  unfold ParseE at Kp
  dsimp only at Kp
  have hi : (Sb.ba i).size ≤ 65536 := by rw [Sb.ba_size]; have := unhide Hpl; omega
  have ha : (Sb.ba a).size ≤ 65536 := by rw [Sb.ba_size]; have := unhide Hpl; omega
  have hst := unhide Hst
  obtain ⟨si, hsi⟩ : ∃ s, Sb.ba i = s := ⟨_, rfl⟩
  obtain ⟨sa, hsa⟩ : ∃ s, Sb.ba a = s := ⟨_, rfl⟩
  rw [hsi] at Kp hst hi
  rw [hsa] at Kp hst ha
  have HKp := hide Kp
  have Hst2 := hide hst
  clear hb8 ho8 Kp hst hsi hsa Hst Hpa Hpl HKr Ho7 z0 z1 z2 z3 z4
  go_wp2_with fail
  refine (unhide HKp).mono ?_
  rintro e w9 ⟨rfl, hb9⟩
  have S9 := hide ((unhide S8).below hb9)
  have Hb49 := hide ((unhide Hb48).trans (hb9.mono (unhide Hb48).size))
  have Ho9 := hide (own_below (unhide Ho8) hb9)
  clear hb9 HKp Ho8 Hb47 Hb48
  by_cases h5 : r4 = 5
  · subst h5
    clear Hst2
    go_wp2_with fail
    refine ((unhide KW) _).mono ?_
    rintro e ww ⟨rfl, hbw⟩
    have SW := hide ((unhide S9).below hbw)
    clear hbw
    go_wp2_with fail
    go_ret
    exact ⟨rfl, (unhide SW).bel⟩
  have b5 : (r4 == 5) = false := by simpa using h5
  by_cases hy : yy = 0
  case neg =>
    have b6 : (yy != 0) = true := by simpa using hy
    have b7 : (r4 != 0) = true := by simpa using (unhide Hst2).par rfl (unhide Hk) hy
    clear hy h5 Hst2
    go_wp2_with fail
    refine ((unhide KW) _).mono ?_
    rintro e ww ⟨rfl, hbw⟩
    have SW := hide ((unhide S9).below hbw)
    clear hbw
    go_wp2_with fail
    go_ret
    exact ⟨rfl, (unhide SW).bel⟩
  subst hy
  cases is with
  | false =>
    obtain ⟨hno1, hno2⟩ := (unhide Hst2).no rfl (unhide Hk) h5 rfl rfl
    by_cases h0 : r4 = 0
    case neg =>
      have h7 := hno1 h0
      have b7 : (r4 != 0) = true := by simpa using h0
      have Kc := renvCheck_any Al nl cl w9.heap.size ps w9 ((unhide Hpr) _ (unhide Hb49)) (unhide Hps) (by unfold maxLen; omega)
      simp only at h7
      rw [← h7] at Kc
      have HKc := hide Kc
      clear h0 h7 Kc hno1 hno2 Hst2 h5
      obtain ⟨⟨v0, v1, v2, v3, v4⟩, y0, y1⟩ := (unhide S9).cells
      go_wp2_with fail
      refine (unhide HKc).mono ?_
      rintro e w10 ⟨rfl, rfl⟩
      go_wp2_with fail
      refine ((unhide KW) _).mono ?_
      rintro e ww ⟨rfl, hbw⟩
      have SW := hide ((unhide S9).below hbw)
      clear hbw
      go_wp2_with fail
      go_ret
      exact ⟨rfl, (unhide SW).bel⟩
    subst h0
    have hr := hno2 rfl
    injection hr with e1 e2
    injection e2 with e2 e3
    injection e3 with e3 e4
    subst e1 e2 e3
    have Ke := eqTexts_any A5 Al r3.length nl c5 cl w9.heap.size r3 r3 w9 (Rd.of_own (unhide Ho9)) ((unhide Hpr) _ (unhide Hb49)) (by have := unhide Hlen; unfold maxLen; omega) (by unfold maxLen; omega)
    rw [decide_eq_true rfl] at Ke
    have HKe := hide Ke
    clear Ke hno1 hno2 Hst2 h5 e4
    obtain ⟨⟨v0, v1, v2, v3, v4⟩, y0, y1⟩ := (unhide S9).cells
    go_wp2_with fail
    refine (unhide HKe).mono ?_
    rintro e w10 ⟨rfl, j10, rfl⟩
    have S10 := hide ((unhide S9).drewN j10)
    go_wp2_with fail
    refine ((unhide KW) _).mono ?_
    rintro e ww ⟨rfl, hbw⟩
    have SW := hide ((unhide S10).below hbw)
    clear hbw
    go_wp2_with fail
    go_ret
    exact ⟨rfl, (unhide SW).bel⟩
  | true =>
    have hyes := (unhide Hst2).yes rfl (unhide Hk) h5 rfl rfl
    obtain ⟨L2, hL2⟩ : ∃ l, Sb.argv si sa x ps = l := ⟨_, rfl⟩
    have hal := Sb.argv_len si sa x ps
    have ham := fun z => Sb.argv_mem (i := si) (a := sa) (x := x) (y := z) (l := ps)
    rw [hL2] at hal ham hyes
    have KA : ∀ w', Below w9.heap.size w9 w' → Calls Tryd.prog 15 #[.string si, .string sa, .string x, .slice Al nl cl] w' (TxB L2 w') := fun w' hb => by
      have hb4 := (unhide Hb49).trans (hb.mono (unhide Hb49).size)
      have := argv_any Al nl cl w'.heap.size si sa x ps w' ((unhide Hpr) w' hb4) (Nat.le_refl _) hpc (by omega)
      rw [hL2] at this
      exact this
    have hsz : ∀ z ∈ L2, z.size ≤ maxLen := by
      intro z hz
      rcases ham z hz with rfl | rfl | rfl | h
      · unfold maxLen; omega
      · unfold maxLen; omega
      · unfold maxLen; omega
      · exact (unhide Hps) z h
    have hl2 : L2.length ≤ 65539 := by have := unhide Hlen; omega
    have KC : ∀ w', Below w9.heap.size w9 w' → ∀ A2 c2, Rd w' w'.heap.size 1 A2 L2.length (L2.map Value.string) → Calls Tryd.prog 21 #[.pointer (some ⟨f, 0, none⟩), .agg #[.int .u32 (cr.uid : Nat), .int .u32 (cr.euid : Nat), .int .u32 (cr.suid : Nat), .int .u32 (cr.gid : Nat), .slice Ag ng kg], .string si, .slice A2 L2.length c2] w' (ChainE (Sb.chain F cr 4 si L2) w') := fun w' hb A2 c2 hr => by
      have hb4 := (unhide Hb49).trans (hb.mono (unhide Hb49).size)
      exact (unhide HCh) w' hb4 si A2 L2.length c2 L2 (by omega) hr (by omega) hsz
    obtain ⟨m2, hm2⟩ : ∃ m, L2.length = m := ⟨_, rfl⟩
    obtain ⟨⟨s1, s2, s3, s4⟩, hR2⟩ : ∃ r, Sb.chain F cr 4 si L2 = r := ⟨_, rfl⟩
    rw [hR2] at KC hyes
    unfold TxB at KA
    unfold ChainE at KC
    rw [hm2] at KA KC
    dsimp only at KC hyes
    have HKA := hide KA
    have HKC := hide KC
    have Hyes := hide hyes
    have HSK : ∀ w', Below w9.heap.size w9 w' → (Below w9.heap.size w9 w' ∧ w'.cell? ⟨w.heap.size, 0, none⟩ = some (.int .u32 (cr.uid : Nat)) ∧ w'.cell? ⟨w.heap.size, 1, none⟩ = some (.int .u32 (cr.euid : Nat)) ∧ w'.cell? ⟨w.heap.size, 2, none⟩ = some (.int .u32 (cr.suid : Nat)) ∧ w'.cell? ⟨w.heap.size, 3, none⟩ = some (.int .u32 (cr.gid : Nat)) ∧ w'.cell? ⟨w.heap.size, 4, none⟩ = some (.slice Ag ng kg) ∧ w'.cell? ⟨w.heap.size + 1, 0, none⟩ = some (.string x) ∧ w'.cell? ⟨w.heap.size + 1, 1, none⟩ = some (.slice Al nl cl)) := by
      intro w' hb
      obtain ⟨⟨a0, a1, a2, a3, a4⟩, b0, b1⟩ := ((unhide S9).below hb).cells
      exact ⟨hb, a0, a1, a2, a3, a4, b0, b1⟩
    have HSK' := hide HSK
    clear KA KC hyes hL2 hal ham hsz hl2 hm2 hR2 HSK Hst2 h5 HCh Hpr
    obtain ⟨⟨v0, v1, v2, v3, v4⟩, y0, y1⟩ := (unhide S9).cells
    go_wp2_with fail
    go_region_held3 (fun w' => Below w9.heap.size w9 w' ∧ w'.cell? ⟨w.heap.size, 0, none⟩ = some (.int .u32 (cr.uid : Nat)) ∧ w'.cell? ⟨w.heap.size, 1, none⟩ = some (.int .u32 (cr.euid : Nat)) ∧ w'.cell? ⟨w.heap.size, 2, none⟩ = some (.int .u32 (cr.suid : Nat)) ∧ w'.cell? ⟨w.heap.size, 3, none⟩ = some (.int .u32 (cr.gid : Nat)) ∧ w'.cell? ⟨w.heap.size, 4, none⟩ = some (.slice Ag ng kg) ∧ w'.cell? ⟨w.heap.size + 1, 0, none⟩ = some (.string x) ∧ w'.cell? ⟨w.heap.size + 1, 1, none⟩ = some (.slice Al nl cl)) (first | exact (unhide HSK') _ (below_drew' (Below.refl _ _)) | exact (unhide HSK') _ (unhide hbn2) | exact (unhide HSK') _ (unhide hbn)) (first
      | (go_at_call 15; rename Below _ _ _ ∧ _ => hH; refine ((unhide HKA) _ hH.1).mono ?_; rintro e wA ⟨AA, cA, rfl, hoA, hbA⟩; have HoA := hide (Rd.of_own hoA); have hbn := hide (hH.1.trans (hbA.mono hH.1.size)); clear hoA hbA)
      | (go_at_call 21; rename Below _ _ _ ∧ _ => hH; refine ((unhide HKC) _ hH.1 AA cA (unhide HoA)).mono ?_; rintro e wB ⟨AB, cB, rfl, hoB, hbB⟩; have HoB := hide (Rd.of_own hoB); have hbn2 := hide (hH.1.trans (hbB.mono hH.1.size)); clear hoB hbB))
    have SB := hide ((unhide S9).below (unhide hbn2))
    have Ho10 := hide (own_below (unhide Ho9) (unhide hbn2))
    clear hbn HoA v0 v1 v2 v3 v4 y0 y1 HKA HKC HSK'
    by_cases h10 : r4 = 10
    · subst h10
      clear Hyes
      go_wp2_with fail
      refine ((unhide KW) _).mono ?_
      rintro e ww ⟨rfl, hbw⟩
      have SW := hide ((unhide SB).below hbw)
      clear hbw
      go_wp2_with fail
      go_ret
      exact ⟨rfl, (unhide SW).bel⟩
    have hr := (unhide Hyes) h10
    injection hr with e1 e2
    injection e2 with e2 e3
    injection e3 with e3 e4
    subst e1 e2 e3 e4
    have b8 : (r4 == 10) = false := by simpa using h10
    have hml := own_maxLen (unhide Ho10)
    have Ke := eqTexts_any A5 AB r3.length r3.length c5 cB wB.heap.size r3 r3 wB (Rd.of_own (unhide Ho10)) (unhide HoB) hml hml
    rw [decide_eq_true rfl] at Ke
    have HKe := hide Ke
    clear Ke h10 Hyes hml
    go_wp2_with fail
    refine (unhide HKe).mono ?_
    rintro e w10 ⟨rfl, j10, rfl⟩
    have SC := hide ((unhide SB).drewN j10)
    go_wp2_with fail
    refine ((unhide KW) _).mono ?_
    rintro e ww ⟨rfl, hbw⟩
    have SW := hide ((unhide SC).below hbw)
    clear hbw
    go_wp2_with fail
    go_ret
    exact ⟨rfl, (unhide SW).bel⟩
end Go.Proofs.YtfegfmapdekkbaaDoor
namespace Go.Proofs.YtfegfmapdekkbaaDoor
set_option linter.unusedVariables false
set_option linter.unusedSimpArgs false
open Go.RowKit Go.ChangeShapes Go.WideShapes Go.Joins Go.Deep

theorem lineFields : ∃ fs, Tryd.prog.underlying 31 = some (.struct fs) ∧ oneCellFields Tryd.prog fs = true ∧ Tryd.prog.cellsOf 31 = fs.size ∧ fs.map (·.type) = #[9, 9, 9] :=
  ⟨_, Tryd.underlying31, by kernel_rfl, by kernel_rfl, by kernel_rfl⟩
theorem runFields : ∃ fs, Tryd.prog.underlying 44 = some (.struct fs) ∧ oneCellFields Tryd.prog fs = true ∧ Tryd.prog.cellsOf 44 = fs.size ∧ fs.map (·.type) = #[9, 32] :=
  ⟨_, Tryd.underlying44, by kernel_rfl, by kernel_rfl, by kernel_rfl⟩
theorem okWide_arr {P : Program} {w : World} {r : Reach} {base : Nat} {t e : TypeId} {k : Nat} {v : Value} (ht : P.underlying t = some (.array k e)) (h : Value.okWide P w r base t v) : ∃ cs, v = .agg cs ∧ cs.size = P.cellsOf t := by
  simp only [Value.okWide, ht] at h
  obtain ⟨cs, h1, h2, _⟩ := h
  exact ⟨cs, h1, h2⟩
section
variable {H : Type} {enc : TypeId × Value → H} {w : World} {base : Nat} {held : Bool}
set_option maxRecDepth 100000 in
theorem open_line_rd {r : Reach} {b0 : Nat} {v : Value} {d : DataW H} {p : List MemPlace} (hv : Value.okWide Tryd.prog w r b0 31 v) (h : DataW.Trod enc Tryd.prog w base (fun _ => true) held 31 v d p) :
    ∃ a b c : ByteArray, v = .agg #[.string a, .string b, .string c] ∧ a.size ≤ maxLen ∧ b.size ≤ maxLen ∧ c.size ≤ maxLen := by
  obtain ⟨cs, rfl, hsz⟩ := okWide_struct Tryd.underlying31 hv
  obtain ⟨fuel, hf⟩ := h
  obtain ⟨hl, n, hf⟩ := flds_vals _ lineFields hf
  have e2 : ∃ c0 c1 c2, cs = #[c0, c1, c2] := by
    obtain ⟨l⟩ := cs
    match l, hl with
    | [c0, c1, c2], _ => exact ⟨c0, c1, c2, rfl⟩
  obtain ⟨c0, c1, c2, rfl⟩ := e2
  obtain ⟨y0, h0⟩ := hf 0 9 c0 rfl rfl
  obtain ⟨y1, h1⟩ := hf 1 9 c1 rfl rfl
  obtain ⟨y2, h2⟩ := hf 2 9 c2 rfl rfl
  obtain ⟨s, rfl, bs⟩ := fstr_is Tryd.underlying9 h0
  obtain ⟨s', rfl, bs'⟩ := fstr_is Tryd.underlying9 h1
  obtain ⟨s'', rfl, bs''⟩ := fstr_is Tryd.underlying9 h2
  exact ⟨s, s', s'', rfl, bs, bs', bs''⟩
set_option maxRecDepth 100000 in
theorem open_run_rd {r : Reach} {b0 : Nat} {v : Value} {d : DataW H} {p : List MemPlace} (hv : Value.okWide Tryd.prog w r b0 44 v) (h : DataW.Trod enc Tryd.prog w base (fun _ => true) held 44 v d p) :
    ∃ (s : ByteArray) (A : Option Addr) (n c : Nat) (l : List ByteArray), v = .agg #[.string s, .slice A n c] ∧ s.size ≤ maxLen ∧ Rd w w.heap.size 1 A n (l.map Value.string) ∧ n ≤ c ∧ c ≤ maxLen ∧ ∀ x ∈ l, x.size ≤ maxLen := by
  obtain ⟨cs, rfl, hsz⟩ := okWide_struct Tryd.underlying44 hv
  obtain ⟨fuel, hf⟩ := h
  obtain ⟨hl, n, hf⟩ := flds_vals _ runFields hf
  have e2 : ∃ c0 c1, cs = #[c0, c1] := by
    obtain ⟨l⟩ := cs
    match l, hl with
    | [c0, c1], _ => exact ⟨c0, c1, rfl⟩
  obtain ⟨c0, c1, rfl⟩ := e2
  obtain ⟨y0, h0⟩ := hf 0 9 c0 rfl rfl
  obtain ⟨y1, h1⟩ := hf 1 32 c1 rfl rfl
  obtain ⟨s, rfl, bs⟩ := fstr_is Tryd.underlying9 h0
  obtain ⟨A, m, c, rfl⟩ := fslice_is Tryd.underlying32 h1
  obtain ⟨x, w1, wc, wm, we⟩ := open_strs_rd (d := y1.1) (p := y1.2) Tryd.underlying32 Tryd.underlying9 (by kernel_rfl) ⟨n, h1⟩
  exact ⟨s, A, m, c, x, rfl, bs, w1, wc, wm, we⟩
set_option maxRecDepth 100000 in
theorem open_three_rd {r : Reach} {b0 : Nat} {v : Value} {d : DataW H} {p : List MemPlace} (hv : Value.okWide Tryd.prog w r b0 63 v) (h : DataW.Trod enc Tryd.prog w base (fun _ => true) held 63 v d p) :
    ∃ a b c : Int, v = .agg #[.int .i64 a, .int .i64 b, .int .i64 c] ∧ (-9223372036854775808 ≤ a ∧ a ≤ 9223372036854775807) ∧ (-9223372036854775808 ≤ b ∧ b ≤ 9223372036854775807) ∧ (-9223372036854775808 ≤ c ∧ c ≤ 9223372036854775807) := by
  obtain ⟨cs, rfl, hsz⟩ := okWide_arr Tryd.underlying63 hv
  obtain ⟨fuel, hf⟩ := h
  have h3 : cs.size = 3 := hsz.trans (by kernel_rfl)
  have e2 : ∃ c0 c1 c2, cs = #[c0, c1, c2] := by
    obtain ⟨l⟩ := cs
    match l, h3 with
    | [c0, c1, c2], _ => exact ⟨c0, c1, c2, rfl⟩
  obtain ⟨c0, c1, c2, rfl⟩ := e2
  obtain ⟨y0, y1, y2, m, -, hy0, hy1, hy2⟩ := trod_array3 Tryd.underlying63 (by kernel_rfl) hf
  obtain ⟨a, rfl, ba⟩ := fint_is Tryd.underlying3 hy0
  obtain ⟨b, rfl, bb⟩ := fint_is Tryd.underlying3 hy1
  obtain ⟨c, rfl, bc⟩ := fint_is Tryd.underlying3 hy2
  exact ⟨a, b, c, rfl, ba, bb, bc⟩
end
end Go.Proofs.YtfegfmapdekkbaaDoor

