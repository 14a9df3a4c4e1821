/- Texts of the claim LawCloManyCard (Dy9, Dy10, Dy12, MkR2, MkR3, MkR4, MkR5, Nm2, MkR4b, MkR6, MkR6b, Nm3, PathsC, Paths): what the functions that the statement reaches compute, and plain laws of it. Conditions: those that each theorem states. -/
import Derived.Test.YtiiiblmhlhikkaaGreatDoorCbK2
import Derived.Maps.RangeRun
import Derived.Laws.CopyRow
import Derived.Deep.DeepCutAuto
import Derived.Deep.CutBlock
import Derived.Test.YtiiiblmhlhikkaaGreatDoorCbK1
import Derived.Test.YtiiiblmhlhikkaaGreatDoorProg
import Derived.Test.YtiiiblmhlhikkaaGreatDoorShelf
import Derived.Lib.IndexAny
import Derived.WalkLawsBesides
import Derived.WalkSpells
import Derived.Deep.RegionWith
set_option linter.unusedVariables false
set_option linter.unusedSimpArgs false
namespace Go.Proofs.YtiiiblmhlhikkaaGreatDoor
open Go.RowKit
theorem entC_len (l : List (Nat × Nat)) : (entC l).length = l.length * 2 := by
 induction l with
 | nil => rfl
 | cons a r ih =>
  unfold entC at ih ⊢
  rw [List.flatMap_cons, List.length_append, ih]
  simp
  omega
theorem entC_at (l : List (Nat × Nat)) : ∀ (k : Nat) (e : Nat × Nat), l[k]? = some e -> (entC l)[k * 2]? = some (.int .u64 (e.1 : Nat)) /\ (entC l)[k * 2 + 1]? = some (.int .u64 (e.2 : Nat)) := by
 induction l with
 | nil => intro k e h; simp at h
 | cons a r ih =>
  intro k e h
  have e0 : entC (a :: r) = [.int .u64 (a.1 : Nat), .int .u64 (a.2 : Nat)] ++ entC r := rfl
  cases k with
  | zero =>
   simp at h
   subst h
   exact ⟨rfl, rfl⟩
  | succ k =>
   simp at h
   rw [e0, List.getElem?_append_right (by simp; omega), List.getElem?_append_right (by simp; omega)]
   have := ih k e h
   simp only [List.length_cons, List.length_nil]
   rw [show (k + 1) * 2 - (0 + 1 + 1) = k * 2 from by omega, show (k + 1) * 2 + 1 - (0 + 1 + 1) = k * 2 + 1 from by omega]
   exact this
theorem ent_at {w : World} {B n : Nat} {A : Option Addr} {l : List (Nat × Nat)} (h : Rd w B 2 A n (entC l)) {k : Nat} {e : Nat × Nat} (hk : l[k]? = some e) :
  ∃ b off, A = some ⟨b, off, none⟩ /\ b < B /\ w.cell? ⟨b, off + k * 2, none⟩ = some (.int .u64 (e.1 : Nat)) /\ w.cell? ⟨b, off + k * 2 + 1, none⟩ = some (.int .u64 (e.2 : Nat)) := by
 have hc := entC_at l k e hk
 obtain ⟨b, off, ea, hb, hx⟩ := h.open_ (by
  intro e0
  have := hc.1
  rw [e0] at this
  simp at this)
 refine ⟨b, off, ea, hb, ?_, ?_⟩
 ·exact hx _ _ hc.1
 ·rw [Nat.add_assoc]
  exact hx _ _ hc.2
theorem tagsV_snoc (T : List (Nat × Nat)) (e : Nat × Nat) : Dy.tagsV (T ++ [e]) = Dy.tagsV T ++ if Dy.once e.1 = true then [(.int .u64 (e.1 : Nat), .int .u64 (e.2 : Nat))] else [] := by
 unfold Dy.tagsV
 rw [List.filter_append, List.map_append]
 congr 1
 by_cases h : Dy.once e.1 = true <;> simp [h]
theorem uJ0 {L : List (Nat × Nat)} {k : Nat} {e : Nat × Nat} (he : L[k]? = some e) : Dy.tagsV (L.take (k + 1)) = Dy.tagsV (L.take k) ++ if Dy.once e.1 = true then [(.int .u64 (e.1 : Nat), .int .u64 (e.2 : Nat))] else [] := by
 rw [List.take_add_one, he]
 exact tagsV_snoc _ _
theorem DsM.len {w : World} {B g : Nat} {d : Ds} {T : List (Nat × Nat)} (h : DsM w B g d T) : d.k = d.L.length := by
 have := h.list.1
 rw [entC_len] at this
 omega
theorem next_below {P : Program} {w : World} {r gm clk : Nat} {seen : Array Nat} {es : Array MapEntry} (ty : TypeId) (hr : w.heap[r]? = some (.mapIter (some gm) clk seen clk)) (hm : w.heap[gm]? = some (.map es clk)) (hold : ∀ x ∈ es.toList, x.born < clk) :
  ((leftOf es seen).size = 0 /\ (Instr.next (.pointer (some ⟨r, 0, none⟩)) false ty).run P w = .ok (.tuple #[.bool false]) w) \/
  ∃ e ∈ (leftOf es seen).toList, ∃ w2 : World, Below r w w2 /\ w2.heap[r]? = some (.mapIter (some gm) clk (seen.push e.born) clk) /\ (Instr.next (.pointer (some ⟨r, 0, none⟩)) false ty).run P w = .ok (.tuple #[.bool true, e.key, e.val]) w2 := by
 rcases run_next_at (P := P) w ty r gm clk clk seen es clk hr hm hold (Nat.le_refl _) with h | ⟨e, he, w1, h1, hrun⟩
 ·exact .inl h
 ·have hlt : r < w.heap.size := (Array.getElem?_eq_some_iff.1 hr).1
  have hb1 : Below r w w1 := by
   rcases h1 with rfl | rfl
   ·exact Below.refl _ _
   ·exact zJ3 (Below.refl _ _)
  have hlt1 : r < w1.heap.size := Nat.lt_of_lt_of_le hlt hb1.size
  refine .inr ⟨e, he, Go.ChangeMaps.setBlock w1 r (.mapIter (some gm) clk (seen.push e.born) clk), ⟨hb1.os, hb1.tape, hb1.output, by simpa [Go.ChangeMaps.setBlock] using hb1.size, ?_⟩, ?_, hrun⟩
  ·intro k hk
   rw [<- hb1.block k hk]
   unfold Go.ChangeMaps.setBlock
   dsimp only
   rw [Array.getElem?_setIfInBounds, if_neg (by omega)]
  ·unfold Go.ChangeMaps.setBlock
   dsimp only
   rw [Array.getElem?_setIfInBounds, if_pos rfl, if_pos hlt1]
theorem es_tag {L : List (Nat × Nat)} {es : Array MapEntry} (h : es.toList.map (fun e => (e.key, e.val)) = Dy.tagsV L) {e : MapEntry} (he : e ∈ es.toList) : ∃ x ∈ L, Dy.once x.1 = true /\ e.key = .int .u64 (x.1 : Nat) /\ e.val = .int .u64 (x.2 : Nat) := by
 have hm : (e.key, e.val) ∈ Dy.tagsV L := by rw [<- h]; exact List.mem_map.2 ⟨e, he, rfl⟩
 unfold Dy.tagsV at hm
 obtain ⟨x, hx, he2⟩ := List.mem_map.1 hm
 obtain ⟨h1, h2⟩ := List.mem_filter.1 hx
 injection he2 with h3 h4
 exact ⟨x, h1, h2, h3.symm, h4.symm⟩
theorem tag_es {L : List (Nat × Nat)} {es : Array MapEntry} (h : es.toList.map (fun e => (e.key, e.val)) = Dy.tagsV L) {x : Nat × Nat} (hx : x ∈ L) (ho : Dy.once x.1 = true) : ∃ e ∈ es.toList, e.key = .int .u64 (x.1 : Nat) := by
 have hm : (Value.int .u64 (x.1 : Nat), Value.int .u64 (x.2 : Nat)) ∈ Dy.tagsV L := by
  unfold Dy.tagsV
  exact List.mem_map.2 ⟨x, List.mem_filter.2 ⟨hx, ho⟩, rfl⟩
 rw [<- h] at hm
 obtain ⟨e, he, h2⟩ := List.mem_map.1 hm
 injection h2 with h3 h4
 exact ⟨e, he, h3⟩
def CheckE (B g : Nat) (d : Ds) (w : World) (e : Ending) (w' : World) : Prop := e = .returned (.int .i64 (Dy.may d.L)) /\ (Dy.may d.L = 0 -> DsM w' B g d d.L) /\ Below B w w'
theorem check_bad {B g : Nat} {d : Ds} {w w' : World} {j : Nat} {e : Nat × Nat} (he : d.L[j]? = some e) (h : Dy.okE (d.L.take j) e = false) (hb : Below B w w') : CheckE B g d w (.returned (.int .i64 25)) w' := by
 have hm : Dy.may d.L = 25 := by unfold Dy.may; rw [if_pos (Dy.fits_bad he h)]
 refine ⟨by rw [hm], fun h0 => ?_, hb⟩
 rw [hm] at h0
 exact absurd h0 (by decide)
structure ChkR (w wr : World) (B g gkn : Nat) (d : Ds) (j : Nat) : Prop where
 ok : ∀ i e, i < j -> d.L[i]? = some e -> Dy.okE (d.L.take i) e = true
 ds : DsM wr B g d (d.L.take j)
 kn : MapB wr gkn (.int .u64) Dy.knownV
 b : Below B w wr
section
variable {w wr w2 : World} {B g gkn : Nat} {d : Ds} {j : Nat} {e : Nat × Nat}
theorem ChkR.keep (h : ChkR w wr B g gkn d j) (hb : Below wr.heap.size wr w2) : ChkR w w2 B g gkn d j :=
 ⟨h.ok, h.ds.belowSz hb, h.kn.belowSz hb, h.b.trans (hb.mono h.ds.sz)⟩
theorem ChkR.next (h : ChkR w wr B g gkn d j) (he : d.L[j]? = some e) (ho : Dy.once e.1 = false) : ChkR w wr B g gkn d (j + 1) := by
 refine ⟨?_, h.ds.same ?_, h.kn, h.b⟩
 ·intro i x hi hx
  by_cases hij : i < j
  ·exact h.ok i x hij hx
  ·obtain rfl : i = j := by omega
   rw [he] at hx
   cases hx
   unfold Dy.okE
   rw [ho]
   rfl
 ·rw [uJ0 he, ho]
  simp
theorem ChkR.put (h : ChkR w wr B g gkn d j) (hgk : d.gm < gkn) (he : d.L[j]? = some e) (hok : Dy.okE (d.L.take j) e = true) (ho : Dy.once e.1 = true) (hm : MapB w2 d.gm (.int .u64) (Dy.tagsV (d.L.take j) ++ [(.int .u64 (e.1 : Nat), .int .u64 (e.2 : Nat))])) (hg : wr.grownBy w2 (some d.gm)) : ChkR w w2 B g gkn d (j + 1) := by
 refine ⟨?_, h.ds.put hg ?_, h.kn.keep (hg.block _ h.kn.lt (fun e => by have := Option.some.inj e; omega)), h.b.trans ((Below.refl B wr).grown hg h.ds.sz (fun k hk => by have := Option.some.inj hk; have := h.ds.tagsB; omega))⟩
 ·intro i x hi hx
  by_cases hij : i < j
  ·exact h.ok i x hij hx
  ·obtain rfl : i = j := by omega
   rw [he] at hx
   cases hx
   exact hok
 ·rw [uJ0 he, if_pos ho]
  exact hm
end
set_option maxRecDepth 100000 in
set_option maxHeartbeats 4000000 in
theorem dcheck_any (B g : Nat) (d : Ds) (w : World) (hd : DsM w B g d []) (ho : DsOk d) (hkm : d.k <= 4294967296) :
  Calls Tryz.prog 140 #[.pointer (some ⟨g, 0, none⟩)] w (CheckE B g d w) := by
 have KK := zJ2 (known_any w)
 have hlen := hd.len
 have hgmw := hd.tags.lt
 obtain ⟨kk, hkk⟩ : ∃ k, d.k = k := ⟨_, rfl⟩
 obtain ⟨Al, hAl⟩ : ∃ k, d.Al = k := ⟨_, rfl⟩
 obtain ⟨cl, hcl⟩ : ∃ k, d.cl = k := ⟨_, rfl⟩
 obtain ⟨gm, hgm⟩ : ∃ k, d.gm = k := ⟨_, rfl⟩
 have hcells : ∀ wr j, DsM wr B g d (d.L.take j) -> wr.cell? ⟨g, 5, none⟩ = some (.slice Al kk cl) /\ wr.cell? ⟨g, 6, none⟩ = some (.map (some gm)) := by
  intro wr j h
  obtain ⟨-, -, -, -, -, h5, h6⟩ := h.cells
  rw [hAl, hkk, hcl] at h5
  rw [hgm] at h6
  exact ⟨h5, h6⟩
 have hents : ∀ wr j e, DsM wr B g d (d.L.take j) -> d.L[j]? = some e -> ∃ b off, Al = some ⟨b, off, none⟩ /\ wr.cell? ⟨b, off + j * 2, none⟩ = some (.int .u64 (e.1 : Nat)) /\ wr.cell? ⟨b, off + j * 2 + 1, none⟩ = some (.int .u64 (e.2 : Nat)) := by
  intro wr j e h he
  obtain ⟨b, off, h1, _, h2⟩ := ent_at (Rd.of_own h.list) he
  exact ⟨b, off, hAl ▸ h1, h2⟩
 rw [hkk] at hlen hkm
 rw [hgm] at hgmw
 obtain ⟨x5, x6⟩ := hcells w 0 (by simpa using hd)
 have Hlen := zJ2 hlen
 have Hcells := zJ2 hcells
 have Hents := zJ2 hents
 have Hd := zJ2 hd
 have Ho := zJ2 ho
 have Hgm := zJ2 hgm
 clear hlen hcells hents hd ho hgm hkk hAl hcl
 go_enter Tryz.func140, Tryz.ntmps140
 go_wp2_with fail
 refine (zJ1 KK).mono ?_
 rintro e w1 ⟨gkn, rfl, hkn, hgk, hb1⟩
 have HR1 : Hid (ChkR w w1 B g gkn d 0) := zJ2 ⟨fun i e hi => by omega, by simpa using (zJ1 Hd).belowSz hb1, hkn, hb1.mono (zJ1 Hd).sz⟩
 have hgkn : gm < gkn := by omega
 obtain ⟨y5, y6⟩ := (zJ1 Hcells) w1 0 (zJ1 HR1).ds
 clear x5 x6 hkn hb1 KK Hd
 go_wp2_with fail
 clear y5 y6
 go_loopg [4, 21] kk (fun gk nv iv wr => ∃ j : Nat, gk = kk - j /\ j <= kk /\ iv = .int .i64 j /\ nv = .int .i64 (Dy.many (d.L.take j) : Nat) /\ ChkR w wr B g gkn d j)
 case atStart => exact ⟨0, by omega, Nat.zero_le _, rfl, rfl, zJ1 HR1⟩
 case round =>
 obtain ⟨j, hgk2, hj, rfl, rfl, hr⟩ := hrel
 have HR := zJ2 hr
 clear hr HR1
 by_cases hlt : j < kk
 case neg =>
  obtain rfl : j = kk := by omega
  have ige : ¬ (j : Int) < (j : Int) := by omega
  rename World => w5
  have hR := zJ1 HR
  have htk : d.L.take j = d.L := by rw [List.take_of_length_le]; rw [<- zJ1 Hlen]; exact Nat.le_refl _
  have hds := hR.ds
  obtain ⟨-, z6⟩ := (zJ1 Hcells) w5 j hds
  rw [htk] at hds ⊢
  obtain ⟨⟨es, clk, hmap, hes, hold, hnd⟩, -, -⟩ := hds.tags
  rw [zJ1 Hgm] at hmap
  have hrg := run_range_map (P := Tryz.prog) w5 252 46 46 gm es clk Tryz.underlying252 hmap
  have hgmr : gm < w5.heap.size := (Array.getElem?_eq_some_iff.1 hmap).1
  have hmany : Dy.many d.L <= 4294967296 := Nat.le_trans (Dy.many_le _) (by rw [<- zJ1 Hlen]; exact hkm)
  obtain ⟨mn, hmn⟩ : ∃ m, Dy.many d.L = m := ⟨_, rfl⟩
  rw [hmn] at hmany ⊢
  have Hds := zJ2 hds
  have Hmap := zJ2 hmap
  have Hes := zJ2 hes
  have Hold := zJ2 hold
  have Hnd := zJ2 hnd
  have Hok := zJ2 hR.ok
  have Hkn := zJ2 hR.kn
  have Hb := zJ2 hR.b
  have Hmn := zJ2 hmn
  clear HR hR hds hmap hes hold hnd hmn hgk2 Hents Ho
  go_wp2_with fail
  clear hrg z6 ige
  go_loopg [] (leftOf es #[]).size (fun gk w' => ∃ seen : Array Nat, gk = (leftOf es seen).size /\ w'.heap[w5.heap.size]? = some (.mapIter (some gm) clk seen clk) /\ Below w5.heap.size w5 w' /\ ∀ x ∈ es.toList, seen.contains x.born = true -> ∀ t : Nat, x.key = .int .u64 (t : Nat) -> Dy.okT d.L t = true)
  case atStart => exact ⟨#[], rfl, heap_alloc_new _ _, (Below.refl _ _).alloc (Nat.le_refl _) _, fun x _ h => by simp at h⟩
  case round =>
  obtain ⟨seen, hgk3, hit, hbq, hno⟩ := hrel
  have hmq := (hbq.block gm hgmr).trans (zJ1 Hmap)
  have law := fun ty => next_below (P := Tryz.prog) ty hit hmq (zJ1 Hold)
  rcases law 0 with ⟨h0, hrun⟩ | ⟨x, hx, w6, hb6, hi6, hrun⟩
  ·have hnx : ∀ ty, (Instr.next (.pointer (some ⟨w5.heap.size, 0, none⟩)) false ty).run Tryz.prog wr = _ := fun _ => hrun
   have hfits : Dy.fits d.L = true := by
    refine Dy.fits_good (fun k e hk => (zJ1 Hok) k e ?_ hk) (fun x hx hxo => ?_)
    ·have := (List.getElem?_eq_some_iff.1 hk).1
     have := zJ1 Hlen
     omega
    ·obtain ⟨y, hy, hk⟩ := tag_es (zJ1 Hes) hx hxo
     exact hno y hy (all_seen es seen h0 y hy) _ hk
   have hmay : Dy.may d.L = if 8 < mn then 12 else 0 := by
    unfold Dy.may
    rw [hfits, zJ1 Hmn]
    rfl
   have Hmay := zJ2 hmay
   have hfin : Below B w wr := (zJ1 Hb).trans (hbq.mono (zJ1 Hds).sz)
   have Hfin := zJ2 hfin
   have Hds2 := zJ2 ((zJ1 Hds).belowSz hbq)
   clear law hno hfits hmay hfin hit hmq hbq Hes Hold Hnd Hok
   by_cases h8 : 8 < mn
   ·have h9 : (8 : Int) < (mn : Int) := by omega
    go_wp2_with fail
    go_ret
    have hm := zJ1 Hmay
    rw [if_pos h8] at hm
    exact ⟨by rw [hm]; rfl, fun h => by rw [hm] at h; exact absurd h (by decide), zJ1 Hfin⟩
   ·have h9 : ¬ (8 : Int) < (mn : Int) := by omega
    go_wp2_with fail
    go_ret
    have hm := zJ1 Hmay
    rw [if_neg h8] at hm
    exact ⟨by rw [hm]; rfl, fun _ => zJ1 Hds2, zJ1 Hfin⟩
  ·obtain ⟨⟨t, v⟩, hxm, hxo, hk, hv⟩ := es_tag (zJ1 Hes) (mem_left hx).1
   dsimp only at hxo hk hv
   have hshr := left_shrinks es seen x hx
   have hbw6 := hbq.trans hb6
   have hm6 := (hbw6.block gm hgmr).trans (zJ1 Hmap)
   have hen := run_entry_at (P := Tryz.prog) w6 w5.heap.size gm clk seen es clk x hi6 hm6 (mem_left hx).1 (zJ1 Hnd)
   rw [hk, hv] at hrun hen
   have hnx : ∀ ty, (Instr.next (.pointer (some ⟨w5.heap.size, 0, none⟩)) false ty).run Tryz.prog wr = _ := fun _ => hrun
   have hds6 := (zJ1 Hds).belowSz hbw6
   have hkn6 := (zJ1 Hkn).belowSz hbw6
   have ht1 : t ≠ 1 := by rintro rfl; exact absurd hxo (by decide)
   have hlk := (uJ6 hkn6 ht1).2
   have hlt6 := fun a (h : Dy.once a = true) => (yJn hds6 (t := a) h).1
   rw [zJ1 Hgm] at hlt6
   obtain ⟨-, z6⟩ := (zJ1 Hcells) w6 j (by rw [htk]; exact hds6)
   have hmp := Dy.mustV_pos (t := t)
   have hmb := Dy.mustV_bd t
   have hnext : Dy.okT d.L t = true -> ∀ y ∈ es.toList, (seen.push x.born).contains y.born = true -> ∀ t2 : Nat, y.key = .int .u64 (t2 : Nat) -> Dy.okT d.L t2 = true := by
    intro ho y hy hc t2 hk2
    rw [contains_push] at hc
    rcases Bool.or_eq_true _ _ ▸ hc with h1 | h1
    ·exact hno y hy h1 t2 hk2
    ·have : y = x := born_inj (zJ1 Hnd) hy (mem_left hx).1 (beq_iff_eq.1 h1)
     subst this
     rw [hk] at hk2
     have e2 : ((t : Nat) : Int) = ((t2 : Nat) : Int) := by injection hk2
     have : t = t2 := by omega
     rw [<- this]
     exact ho
   have hbad : Dy.okT d.L t = false -> CheckE B g d w (.returned (.int .i64 25)) w6 := by
    intro h
    have hm : Dy.may d.L = 25 := by unfold Dy.may; rw [if_pos (Dy.fits_pair hxm hxo h)]
    refine ⟨by rw [hm], fun h0 => ?_, (zJ1 Hb).trans (hbw6.mono (zJ1 Hds).sz)⟩
    rw [hm] at h0
    exact absurd h0 (by decide)
   have hokT : Dy.okT d.L t = (decide (Dy.mustV t <= 0) || (Dy.val d.L (Dy.mustV t).toNat).isSome) := rfl
   obtain ⟨u, hu⟩ : ∃ x, Dy.mustV t = x := ⟨_, rfl⟩
   rw [hu] at hlk hmp hmb hokT
   have Hnext := zJ2 hnext
   have Hbad := zJ2 hbad
   have Hbw6 := zJ2 hbw6
   have Hi6 := zJ2 hi6
   have Hshr := zJ2 hshr
   have Hgk3 := zJ2 hgk3
   clear law hx hnext hbad hbw6 hi6 hshr hgk3 hds6 hkn6 hm6 hb6 hit hmq hbq hno hk hv hu hxm Hes Hold Hnd Hok Hcells Hds Hkn Hb Hmn
   by_cases hu0 : 0 < u
   case neg =>
    have hok : Dy.okT d.L t = true := by rw [hokT, decide_eq_true (show u <= 0 by omega)]; rfl
    have Hok2 := zJ2 hok
    clear hok hokT hlt6 z6 Hbad
    go_wp2_with fail
    go_roundg (leftOf es (seen.push x.born)).size
    case measure => rw [zJ1 Hgk3]; exact zJ1 Hshr
    case rel => exact ⟨seen.push x.born, rfl, zJ1 Hi6, zJ1 Hbw6, (zJ1 Hnext) (zJ1 Hok2)⟩
   obtain ⟨a, rfl⟩ : ∃ a : Nat, u = (a : Int) := ⟨u.toNat, by omega⟩
   have hlt7 := hlt6 a (hmp hu0)
   rw [Int.toNat_natCast] at hokT
   obtain ⟨ov, hov⟩ : ∃ o, Dy.val d.L a = o := ⟨_, rfl⟩
   rw [hov] at hlt7 hokT
   have hnu : decide ((a : Int) <= 0) = false := by simp; omega
   rw [hnu, Bool.false_or] at hokT
   clear hlt6 hmp hov hnu
   cases ov with
   | none =>
    have hb := (zJ1 Hbad) hokT
    have Hb2 := zJ2 hb
    clear hb hokT Hbad Hnext
    go_wp2_with fail
    go_ret
    exact zJ1 Hb2
   | some z =>
    have Hok2 := zJ2 hokT
    clear hokT Hbad
    go_wp2_with fail
    go_roundg (leftOf es (seen.push x.born)).size
    case measure => rw [zJ1 Hgk3]; exact zJ1 Hshr
    case rel => exact ⟨seen.push x.born, rfl, zJ1 Hi6, zJ1 Hbw6, (zJ1 Hnext) (zJ1 Hok2)⟩
 have ilt : (j : Int) < (kk : Int) := by omega
 obtain ⟨⟨t, v⟩, hej⟩ : ∃ e, d.L[j]? = some e := ⟨_, List.getElem?_eq_getElem (by rw [<- zJ1 Hlen]; exact hlt)⟩
 obtain ⟨b1, o1, hA1, c0, c1⟩ := (zJ1 Hents) wr j _ (zJ1 HR).ds hej
 subst hA1
 have hmt := Dy.many_take hej
 have hml : Dy.many (d.L.take j) <= j := Nat.le_trans (Dy.many_le _) (by rw [List.length_take]; omega)
 obtain ⟨ht64, hv64⟩ := (zJ1 Ho).ent _ (List.mem_of_getElem? hej)
 obtain ⟨mj, hmj⟩ : ∃ m, Dy.many (d.L.take j) = m := ⟨_, rfl⟩
 rw [hmj] at hmt hml
 rw [hmj]
 dsimp only at c0 c1 ht64 hv64 hmt
 have HE : Hid (Blk (wr.alloc (.cells #[.int .u64 (t : Nat), .int .u64 (v : Nat)] 259)) wr.heap.size 259 [.int .u64 (t : Nat), .int .u64 (v : Nat)]) := zJ2 (Blk.new wr 259 [.int .u64 (t : Nat), .int .u64 (v : Nat)])
 have HR2 : Hid (ChkR w (wr.alloc (.cells #[.int .u64 (t : Nat), .int .u64 (v : Nat)] 259)) B g gkn d j) := zJ2 ((zJ1 HR).keep ((Below.refl _ _).alloc (Nat.le_refl _) _))
 have Hej := zJ2 hej
 clear HR hej hmj
 by_cases ht1 : t = 1
 case pos =>
  subst ht1
  have hmt2 : Dy.many (d.L.take (j + 1)) = mj + 1 := hmt
  have Hmt := zJ2 hmt2
  clear hmt hmt2
  go_wp2_with fail
  go_roundg (kk - (j + 1))
  case measure => omega
  case rel => exact ⟨j + 1, rfl, by omega, by go_num, by rw [zJ1 Hmt]; go_num, (zJ1 HR2).next (zJ1 Hej) rfl⟩
 have n1 : ¬ (t : Int) = 1 := by omega
 have hlk := (uJ6 (t := t) (zJ1 HR2).kn ht1).1
 have hmt2 : Dy.many (d.L.take (j + 1)) = mj := by rw [hmt, if_neg ht1, Nat.add_zero]
 have Hmt := zJ2 hmt2
 have hmb := Dy.mustV_bd t
 clear hmt hmt2
 cases hon : Dy.once t with
 | false =>
  rw [hon] at hlk
  go_wp2_with fail
  go_roundg (kk - (j + 1))
  case measure => omega
  case rel => exact ⟨j + 1, rfl, by omega, by go_num, by rw [zJ1 Hmt], (zJ1 HR2).next (zJ1 Hej) hon⟩
 | true =>
 rw [hon] at hlk
 have htl := look_tagT (zJ1 HR2).ds hon
 rw [zJ1 Hgm] at htl
 obtain ⟨z5, z6⟩ := (zJ1 Hcells) _ j (zJ1 HR2).ds
 obtain ⟨T, hT⟩ : ∃ T, d.L.take j = T := ⟨_, rfl⟩
 obtain ⟨ov, hov⟩ : ∃ o, Dy.val T t = o := ⟨_, rfl⟩
 rw [hT, hov] at htl
 obtain ⟨W, hW⟩ : ∃ x, wr.alloc (.cells #[.int .u64 (t : Nat), .int .u64 (v : Nat)] 259) = x := ⟨_, rfl⟩
 obtain ⟨r, hr⟩ : ∃ x, wr.heap.size = x := ⟨_, rfl⟩
 have hE := zJ1 HE
 have hR2 := zJ1 HR2
 rw [hr, hW] at hE
 rw [hW] at hR2 htl z5 z6
 have HSK : ∀ w', ChkR w w' B g gkn d j -> Blk w' r 259 [.int .u64 (t : Nat), .int .u64 (v : Nat)] -> (ChkR w w' B g gkn d j /\ Blk w' r 259 [.int .u64 (t : Nat), .int .u64 (v : Nat)] /\ w'.cell? ⟨g, 6, none⟩ = some (.map (some gm)) /\ w'.cell? ⟨r, 0, none⟩ = some (.int .u64 (t : Nat)) /\ (Instr.lookup 252 (.map (some gm)) (.int .u64 (t : Nat)) true).run Tryz.prog w' = .ok (.tuple #[.int .u64 (ov.getD 0 : Nat), .bool ov.isSome]) w') := by
  intro w' hR hE
  have h3 := look_tagT hR.ds hon
  rw [zJ1 Hgm, hT, hov] at h3
  exact ⟨hR, hE, ((zJ1 Hcells) _ j hR.ds).2, hE.cell (i := 0) rfl, h3⟩
 have HSK' := zJ2 HSK
 have HR3 := zJ2 hR2
 have HE3 := zJ2 hE
 have zt := hE.cell (i := 0) rfl
 rw [hW] at hlk
 clear HSK HR2 HE hE hR2 htl z5 z6
 go_wp2_with fail
 clear hW hr hlk zt
 refine wp_region_held_drew (S := fun w' => ChkR w w' B g gkn d j /\ Blk w' r 259 [.int .u64 (t : Nat), .int .u64 (v : Nat)] /\ w'.cell? ⟨g, 6, none⟩ = some (.map (some gm)) /\ w'.cell? ⟨r, 0, none⟩ = some (.int .u64 (t : Nat)) /\ (Instr.lookup 252 (.map (some gm)) (.int .u64 (t : Nat)) true).run Tryz.prog w' = .ok (.tuple #[.int .u64 (ov.getD 0 : Nat), .bool ov.isSome]) w') (by kernel_rfl) ((zJ1 HSK') _ ((zJ1 HR3).keep (zJ3 (Below.refl _ _))) ((zJ1 HE3).drew)) (fun HS0 => ?_)
 refine takeD (i := 0) (d := some 40) (v := ?_) rfl rfl (by kernel_rfl) (by kernel_rfl) (by kernel_rfl) (fun _ _ _ h => h) (Or.inl ⟨by rfl, ?y0⟩) HS0 ?_
 case y0 => (intro w' hSw; (try dsimp only at hSw); go_simp; (try with_reducible rfl))
 simp only [Act.put, List.setIfInBounds_toArray, List.set_cons_zero, List.set_cons_succ]
 refine takeD (i := 1) (d := some 41) (v := ?_) rfl rfl (by kernel_rfl) (by kernel_rfl) (by kernel_rfl) (fun _ _ _ h => h) (Or.inl ⟨by rfl, ?y1⟩) HS0 ?_
 case y1 => (intro w' hSw; (try dsimp only at hSw); go_simp; (try with_reducible rfl))
 simp only [Act.put, List.setIfInBounds_toArray, List.set_cons_zero, List.set_cons_succ]
 refine takeD (i := 2) (d := some 42) (v := ?_) rfl rfl (by kernel_rfl) (by kernel_rfl) (by kernel_rfl) (fun _ _ _ h => h) (Or.inl ⟨by rfl, ?y2⟩) HS0 ?_
 case y2 => (intro w' hSw; (try dsimp only at hSw); go_simp; (try with_reducible rfl))
 simp only [Act.put, List.setIfInBounds_toArray, List.set_cons_zero, List.set_cons_succ]
 refine takeD (i := 3) (d := some 43) (v := ?_) rfl rfl (by kernel_rfl) (by kernel_rfl) (by kernel_rfl) (fun _ _ _ h => h) (Or.inl ⟨by rfl, ?y3⟩) HS0 ?_
 case y3 => (intro w' hSw; (try dsimp only at hSw); go_simp; (try with_reducible rfl))
 simp only [Act.put, List.setIfInBounds_toArray, List.set_cons_zero, List.set_cons_succ]
 refine takeD (i := 4) (d := some 44) (v := ?_) rfl rfl (by kernel_rfl) (by kernel_rfl) (by kernel_rfl) (fun _ _ _ h => h) (Or.inl ⟨by rfl, ?y4⟩) HS0 ?_
 case y4 => (intro w' hSw; (try dsimp only at hSw); go_simp; (try with_reducible rfl))
 simp only [Act.put, List.setIfInBounds_toArray, List.set_cons_zero, List.set_cons_succ]
 refine takeD (i := 5) (d := some 45) (v := ?_) rfl rfl (by kernel_rfl) (by kernel_rfl) (by kernel_rfl) (fun _ _ _ h => h) (Or.inl ⟨by rfl, ?y5⟩) HS0 ?_
 case y5 => (intro w' hSw; (try dsimp only at hSw); go_simp; (try with_reducible rfl))
 simp only [Act.put, List.setIfInBounds_toArray, List.set_cons_zero, List.set_cons_succ]
 refine takeD (i := 6) (d := some 46) (v := ?_) rfl rfl (by kernel_rfl) (by kernel_rfl) (by kernel_rfl) (fun _ _ _ h => h) (Or.inl ⟨by rfl, ?y6⟩) HS0 ?_
 case y6 => (intro w' hSw; (try dsimp only at hSw); go_simp; (try with_reducible rfl))
 simp only [Act.put, List.setIfInBounds_toArray, List.set_cons_zero, List.set_cons_succ]
 refine takeD (i := 7) (d := some 39) (v := ?_) rfl rfl (by kernel_rfl) (by kernel_rfl) (by kernel_rfl) (fun _ _ _ h => h) (Or.inl ⟨by rfl, ?y7⟩) HS0 ?_
 case y7 => (intro w' hSw; (try dsimp only at hSw); go_simp; (try with_reducible rfl))
 simp only [Act.put, List.setIfInBounds_toArray, List.set_cons_zero, List.set_cons_succ]
 refine takeD (i := 8) (d := some 47) (v := ?_) rfl rfl (by kernel_rfl) (by kernel_rfl) (by kernel_rfl) (fun _ _ _ h => h) (Or.inl ⟨by rfl, ?y8⟩) HS0 ?_
 case y8 => (intro w' hSw; (try dsimp only at hSw); go_simp; (try with_reducible rfl))
 simp only [Act.put, List.setIfInBounds_toArray, List.set_cons_zero, List.set_cons_succ]
 refine takeD (i := 9) (d := some 48) (v := ?_) rfl rfl (by kernel_rfl) (by kernel_rfl) (by kernel_rfl) (fun _ _ _ h => h) (Or.inl ⟨by rfl, ?y9⟩) HS0 ?_
 case y9 => (intro w' hSw; (try dsimp only at hSw); go_simp; (try with_reducible rfl))
 simp only [Act.put, List.setIfInBounds_toArray, List.set_cons_zero, List.set_cons_succ]
 refine takeD (i := 10) (d := some 9) (v := ?_) rfl rfl (by kernel_rfl) (by kernel_rfl) (by kernel_rfl) (fun _ _ _ h => h) (Or.inl ⟨by rfl, ?y10⟩) HS0 ?_
 case y10 => (intro w' hSw; (try dsimp only at hSw); go_simp; (try with_reducible rfl))
 simp only [Act.put, List.setIfInBounds_toArray, List.set_cons_zero, List.set_cons_succ]
 refine takeD (i := 11) (d := some 10) (v := ?_) rfl rfl (by kernel_rfl) (by kernel_rfl) (by kernel_rfl) (fun _ _ _ h => h) (Or.inl ⟨by rfl, ?y11⟩) HS0 ?_
 case y11 => (intro w' hSw; (try dsimp only at hSw); go_simp; (try with_reducible rfl))
 simp only [Act.put, List.setIfInBounds_toArray, List.set_cons_zero, List.set_cons_succ]
 refine wpAnyH_done (by kernel_rfl) ?_ _
 have HR4 : Hid (ChkR w W.drew B g gkn d j) := zJ2 ((zJ1 HR3).keep (zJ3 (Below.refl _ _)))
 have HE4 : Hid (Blk W.drew r 259 [.int .u64 (t : Nat), .int .u64 (v : Nat)]) := zJ2 ((zJ1 HE3).drew)
 have hbad : (ov.isSome = true \/ (Dy.mustV t < 0 /\ ¬ (v : Int) = -Dy.mustV t)) -> Dy.okE (d.L.take j) (t, v) = false := by
  intro h
  unfold Dy.okE
  dsimp only
  rw [hon, hT, hov]
  rcases h with h | ⟨h1, h2⟩
  ·obtain ⟨x, rfl⟩ := Option.isSome_iff_exists.1 h
   rfl
  ·have h3 : decide (0 <= Dy.mustV t) = false := by simp; omega
   rw [h3, decide_eq_false h2]
   simp
 have hgood : ov = none -> (0 <= Dy.mustV t \/ (v : Int) = -Dy.mustV t) -> Dy.okE (d.L.take j) (t, v) = true := by
  intro h h2
  unfold Dy.okE
  dsimp only
  rw [hon, hT, hov, h]
  rcases h2 with h2 | h2
  ·rw [decide_eq_true h2]; rfl
  ·rw [decide_eq_true h2]; simp
 have Hbad := zJ2 hbad
 have Hgood := zJ2 hgood
 have hnone : ov = none -> ∀ p ∈ Dy.tagsV T, p.1 ≠ Value.int .u64 (t : Nat) := fun h => Dy.tagsV_no (hov.trans h)
 rw [<- hT] at hnone
 have Hnone := zJ2 hnone
 clear hbad hgood hnone HR3 HE3 HS0 HSK'
 obtain ⟨u, hu⟩ : ∃ x, Dy.mustV t = x := ⟨_, rfl⟩
 rw [hu] at hmb ⊢
 have Hu := zJ2 hu
 clear hu hov hT
 have zv := (zJ1 HE4).cell (i := 1) rfl
 cases ov with
 | some x =>
  have hok := (zJ1 Hbad) (.inl rfl)
  clear Hbad Hgood Hnone Hu
  go_wp2_with fail
  go_ret
  exact check_bad (zJ1 Hej) hok (zJ1 HR4).b
 | none =>
 by_cases hu0 : u < 0
 case neg =>
  have hok := (zJ1 Hgood) rfl (.inl (by have := zJ1 Hu; omega))
  have Hok := zJ2 hok
  clear Hbad Hgood Hu hok zv
  go_wp2_with fail
  obtain ⟨-, q6⟩ := (zJ1 Hcells) _ j (zJ1 HR4).ds
  have q0 := (zJ1 HE4).cell (i := 0) rfl
  have q1 := (zJ1 HE4).cell (i := 1) rfl
  obtain ⟨V, hV⟩ : ∃ x, W.drew = x := ⟨_, rfl⟩
  have hR4 := zJ1 HR4
  rw [hV] at q0 q1 q6 hR4
  have HR5 := zJ2 hR4
  have hmu : MapB V.drew gm (.int .u64) (Dy.tagsV (d.L.take j)) := by
   have := hR4.ds.tags
   rw [zJ1 Hgm] at this
   exact this.belowSz (zJ3 (Below.refl _ _))
  rw [hV]
  have q6' : World.cell? { heap := V.heap, tape := V.tape, drawn := V.drawn + 1, os := V.os, output := V.output } ⟨g, 6, none⟩ = some (.map (some gm)) := q6
  have q0' : World.cell? { heap := V.heap, tape := V.tape, drawn := V.drawn + 1, os := V.os, output := V.output } ⟨r, 0, none⟩ = some (.int .u64 (t : Nat)) := q0
  have q1' : World.cell? { heap := V.heap, tape := V.tape, drawn := V.drawn + 1, os := V.os, output := V.output } ⟨r, 1, none⟩ = some (.int .u64 (v : Nat)) := q1
  have Hmu := zJ2 hmu
  clear hmu hR4 HR4 HE4 hV
  go_still_tail 8, (by kernel_rfl)
  change wpList _ _ _ _ _ V.drew
  refine xJd (x := .int .u64 (t : Nat)) (g := gm) rfl _ _ _ rfl Tryz.underlying252 Tryz.underlying46 (by simp [Go.MapKept.IsKey]) rfl rfl rfl (zJ1 Hmu) ((zJ1 Hnone) (by first | trivial | rfl)) ?_
  intro V2 hm2 hg2 hs2
  have hR6 : ChkR w V2 B g gkn d (j + 1) := ((zJ1 HR5).keep (zJ3 (Below.refl _ _))).put (by rw [zJ1 Hgm]; exact hgkn) (zJ1 Hej) (zJ1 Hok) hon (by rw [zJ1 Hgm]; exact hm2) (by rw [zJ1 Hgm]; exact hg2)
  have HR6 := zJ2 hR6
  clear hm2 hg2 hs2 hR6 HR5 Hmu Hnone q0' q1' q6' q0 q1 q6
  go_wp2_with fail
  go_roundg (kk - (j + 1))
  case measure => omega
  case rel => exact ⟨j + 1, rfl, by omega, by go_num, by rw [zJ1 Hmt], zJ1 HR6⟩
 obtain ⟨a, rfl⟩ : ∃ a : Nat, u = -(a : Int) := ⟨u.natAbs, by omega⟩
 have ha : a <= 24 := by omega
 by_cases hva : v = a
 case neg =>
  have hok := (zJ1 Hbad) (.inr ⟨by have := zJ1 Hu; omega, by have := zJ1 Hu; omega⟩)
  have hva2 : ¬ (v : Int) = (a : Int) := by omega
  have hva3 : ((v : Int) != (a : Int)) = true := by simpa using hva2
  clear Hbad Hgood Hnone Hu
  go_wp2_with fail
  go_ret
  exact check_bad (zJ1 Hej) hok (zJ1 HR4).b
 subst hva
 have hok := (zJ1 Hgood) rfl (.inr (by have := zJ1 Hu; omega))
 have Hok := zJ2 hok
 have hva3 : ((v : Int) != (v : Int)) = false := by simp
 clear Hbad Hgood Hu hok
 go_wp2_with fail
 obtain ⟨-, q6⟩ := (zJ1 Hcells) _ j (zJ1 HR4).ds
 have q0 := (zJ1 HE4).cell (i := 0) rfl
 have q1 := (zJ1 HE4).cell (i := 1) rfl
 obtain ⟨V, hV⟩ : ∃ x, W.drew = x := ⟨_, rfl⟩
 have hR4 := zJ1 HR4
 rw [hV] at q0 q1 q6 hR4
 have HR5 := zJ2 hR4
 have hmu : MapB V.drew gm (.int .u64) (Dy.tagsV (d.L.take j)) := by
  have := hR4.ds.tags
  rw [zJ1 Hgm] at this
  exact this.belowSz (zJ3 (Below.refl _ _))
 rw [hV]
 have q6' : World.cell? { heap := V.heap, tape := V.tape, drawn := V.drawn + 1, os := V.os, output := V.output } ⟨g, 6, none⟩ = some (.map (some gm)) := q6
 have q0' : World.cell? { heap := V.heap, tape := V.tape, drawn := V.drawn + 1, os := V.os, output := V.output } ⟨r, 0, none⟩ = some (.int .u64 (t : Nat)) := q0
 have q1' : World.cell? { heap := V.heap, tape := V.tape, drawn := V.drawn + 1, os := V.os, output := V.output } ⟨r, 1, none⟩ = some (.int .u64 (v : Nat)) := q1
 have Hmu := zJ2 hmu
 clear hmu hR4 HR4 HE4 hV
 go_still_tail 8, (by kernel_rfl)
 change wpList _ _ _ _ _ V.drew
 refine xJd (x := .int .u64 (t : Nat)) (g := gm) rfl _ _ _ rfl Tryz.underlying252 Tryz.underlying46 (by simp [Go.MapKept.IsKey]) rfl rfl rfl (zJ1 Hmu) ((zJ1 Hnone) (by first | trivial | rfl)) ?_
 intro V2 hm2 hg2 hs2
 have hR6 : ChkR w V2 B g gkn d (j + 1) := ((zJ1 HR5).keep (zJ3 (Below.refl _ _))).put (by rw [zJ1 Hgm]; exact hgkn) (zJ1 Hej) (zJ1 Hok) hon (by rw [zJ1 Hgm]; exact hm2) (by rw [zJ1 Hgm]; exact hg2)
 have HR6 := zJ2 hR6
 clear hm2 hg2 hs2 hR6 HR5 Hmu Hnone q0' q1' q6' q0 q1 q6
 go_wp2_with fail
 go_roundg (kk - (j + 1))
 case measure => omega
 case rel => exact ⟨j + 1, rfl, by omega, by go_num, by rw [zJ1 Hmt], zJ1 HR6⟩
open Go.RowKit
theorem enInfo : (Tryz.prog.info? 259).map (·.size) = some 2 := by kernel_rfl
theorem enOne (a b : Int) : (#[.int .u64 a, .int .u64 b] : Array Value).all (·.oneCell') = true := by simp [Value.oneCell']
set_option maxRecDepth 100000 in
theorem entOf_any (A : Option Addr) (c B : Nat) (b : List UInt8) (w : World) (hB : B <= w.heap.size) (h : Rd w B 1 A 16 (bys b)) :
  Calls Tryz.prog 139 #[.slice A 16 c] w fun e w' => e = .returned (.tuple #[.agg #[.int .u64 (Wd.num b 0 8 : Nat), .int .u64 (Wd.num b 8 8 : Nat)], .bool true]) /\ Below w.heap.size w w' := by
 have hb0 : Below w.heap.size w (w.alloc (.cells #[.int .u64 0, .int .u64 0] 259)) := (Below.refl _ _).alloc (Nat.le_refl _) _
 have hk0 : Blk (w.alloc (.cells #[.int .u64 0, .int .u64 0] 259)) w.heap.size 259 [.int .u64 0, .int .u64 0] := Blk.new w 259 _
 have Hk0 := zJ2 hk0
 have Hb0 := zJ2 hb0
 have K1 := zJ2 (yJf A 16 c B b 0 8 _ (Nat.le_trans hB hb0.size) (h.below (hb0.mono hB)) (by unfold maxLen; omega) (by omega) (by omega))
 have K2 := zJ2 (fun w' (hb : Below w.heap.size w w') => yJf A 16 c B b 8 8 w' (Nat.le_trans hB hb.size) (h.below (hb.mono hB)) (by unfold maxLen; omega) (by omega) (by omega))
 clear h hb0 hk0
 obtain ⟨x, hx⟩ : ∃ x, Wd.num b 0 8 = x := ⟨_, rfl⟩
 obtain ⟨y, hy⟩ : ∃ x, Wd.num b 8 8 = x := ⟨_, rfl⟩
 rw [hx] at K1 ⊢
 rw [hy] at K2 ⊢
 clear hx hy
 go_enter Tryz.func139, Tryz.ntmps139
 go_wp2_with fail
 refine (zJ1 K1).mono ?_
 rintro e w1 ⟨rfl, hb1⟩
 have HB1 := zJ2 ((zJ1 Hb0).trans (hb1.mono (zJ1 Hb0).size))
 have HK1 := zJ2 ((zJ1 Hk0).belowSz hb1)
 have K3 := zJ2 ((zJ1 K2) _ (zJ1 HB1))
 clear hb1 K1 K2 Hk0 Hb0
 go_wp2_with fail
 refine (zJ1 K3).mono ?_
 rintro e w2 ⟨rfl, hb2⟩
 have HB2 := zJ2 ((zJ1 HB1).trans (hb2.mono (zJ1 HB1).size))
 have HK2 := zJ2 ((zJ1 HK1).belowSz hb2)
 clear hb2 K3 HB1 HK1
 go_wp2_with ((with_reducible refine (@id (wpList _ _ _ (Oper.mk none (Op.store 259 (.tmp 2) (.tmp 8)) _ _ _ none :: _) _ _) ?_)); refine wpList_store_row rfl 259 (.tmp 2) (.tmp 8) rfl w.heap.size #[.int .u64 (x : Nat), .int .u64 (y : Nat)] rfl rfl 259 _ (zJ1 HK2) enInfo rfl (enOne _ _) ?_)
 refine bodyPost_ret (results_cell_tmp (P := Tryz.prog) rfl _ _ w.heap.size 259 #[.int .u64 (x : Nat), .int .u64 (y : Nat)] (0, 0) _ rfl (setRow_heap _ _ _ _ _ _ (zJ1 HK2)) Tryz.underlying259 rfl enInfo) rfl ?_
 exact ⟨rfl, below_setRow (zJ1 HB2) (Nat.le_refl _) _⟩
def rowsOf {α : Type} (of : Nat -> Option α) : Nat -> Nat -> Option (List α)
 | 0, _ => some []
 | m + 1, k => match of k with
  | none => none
  | some v => (rowsOf of m (k + 1)).map (v :: ·)
theorem rowsOf_all {α : Type} {o : Option (List α)} : o.map (([] : List α) ++ ·) = o := by cases o <;> rfl
theorem vJ3 {α : Type} {of : Nat -> Option α} {N k : Nat} {l : List α} (h : rowsOf of N 0 = (rowsOf of (N - k) k).map (l ++ ·)) (hk : k < N) (ho : of k = none) : rowsOf of N 0 = none := by
 rw [h, show N - k = (N - (k + 1)) + 1 from by omega, rowsOf, ho]
 rfl
theorem xJy {α : Type} {of : Nat -> Option α} {N k : Nat} {l : List α} {x : α} (h : rowsOf of N 0 = (rowsOf of (N - k) k).map (l ++ ·)) (hk : k < N) (ho : of k = some x) : rowsOf of N 0 = (rowsOf of (N - (k + 1)) (k + 1)).map ((l ++ [x]) ++ ·) := by
 rw [h, show N - k = (N - (k + 1)) + 1 from by omega, rowsOf, ho]
 dsimp only
 cases rowsOf of (N - (k + 1)) (k + 1) <;> simp
theorem xJz {α : Type} {of : Nat -> Option α} {N k : Nat} {l : List α} (h : rowsOf of N 0 = (rowsOf of (N - k) k).map (l ++ ·)) (hk : k = N) : rowsOf of N 0 = some l := by
 rw [h, hk, Nat.sub_self]
 simp [rowsOf]
theorem enTy : SlTy Tryz.prog 253 259 2 16 := yJ0 (z := .agg #[.int .u64 0, .int .u64 0]) Tryz.underlying253 (by kernel_rfl) rfl (by omega) (by omega)
def enRowE (o : Option (Nat × Nat)) (w : World) (e : Ending) (w' : World) : Prop := Below w.heap.size w w' /\ match o with
 | none => e = .returned (.tuple #[.agg #[.int .u64 0, .int .u64 0], .bool false])
 | some x => e = .returned (.tuple #[.agg #[.int .u64 (x.1 : Nat), .int .u64 (x.2 : Nat)], .bool true])
def enRowsE (o : Option (List (Nat × Nat))) (w : World) (e : Ending) (w' : World) : Prop :=
 ((o = none /\ e = .returned (.tuple #[.slice none 0 0, .bool false])) \/ ∃ (l : List (Nat × Nat)) (A' : Option Addr) (c' : Nat), o = some l /\ e = .returned (.tuple #[.slice A' l.length c', .bool true]) /\ w'.ownsRow w.heap.size 259 2 (.slice A' l.length c') l.length (entC l)) /\ Below w.heap.size w w'
theorem en_bad {w w' : World} (hb : Below w.heap.size w w') : enRowsE none w (.returned (.tuple #[.slice none 0 0, .bool false])) w' := ⟨.inl ⟨rfl, rfl⟩, hb⟩
set_option maxRecDepth 100000 in
set_option maxHeartbeats 1000000 in
theorem en_rows (A : Option Addr) (n c B : Nat) (b : List UInt8) (of : Nat -> Option (Nat × Nat)) (w : World) (hB : B <= w.heap.size) (h : Rd w B 1 A n (bys b)) (hn : n <= 4294967296) (hc : n <= c)
  (hK : ∀ k A2 c2 w', (k + 1) * 16 <= n -> Below w.heap.size w w' -> Rd w' B 1 A2 16 (bys (Dy.cut b (k * 16) 16)) -> 16 <= c2 -> Calls Tryz.prog 139 #[.slice A2 16 c2] w' (enRowE (of k) w')) :
  Calls Tryz.prog 138 #[.slice A n c, .int .i64 16, .func (.func 139) #[] #[]] w (enRowsE (rowsOf of (n / 16) 0) w) := by
 have Hr := zJ2 h
 have HK := zJ2 hK
 have kt : ∀ (A : Option Addr) (n c : Nat), 16 <= c -> ∀ w' : World, (Instr.slice 64 (.slice A n c) none (some (.int .i64 16)) none).run Tryz.prog w' = .ok (.slice A 16 c) w' := fun A n c h w' => run_toK (P := Tryz.prog) Tryz.underlying64 (e := 5) (by kernel_rfl) .i64 A n c 16 h w'
 have kf : ∀ (A : Option Addr) (n c : Nat), 16 <= n -> ∀ w' : World, (Instr.slice 64 (.slice A n c) (some (.int .i64 16)) none none).run Tryz.prog w' = .ok (.slice (fromA A c 16) (n - 16) (c - 16)) w' := fun A n c h w' => yJp (P := Tryz.prog) Tryz.underlying64 (e := 5) (by kernel_rfl) .i64 A n c 16 h w'
 have Hkt := zJ2 kt
 have Hkf := zJ2 kf
 have Hlen := zJ2 h.1
 clear h hK kt kf
 go_enter Tryz.func138, Tryz.ntmps138
 go_wp2_with fail
 go_loopg [0, 6] n (fun gk bv lv wr => ∃ (m k : Nat) (A1 : Option Addr) (c1 : Nat) (A' : Option Addr) (c' : Nat) (l : List (Nat × Nat)), gk = m /\ m + k * 16 = n /\ bv = .slice A1 m c1 /\ m <= c1 /\ Rd wr B 1 A1 m (bys (b.drop (k * 16))) /\ lv = .slice A' l.length c' /\ l.length = k /\ rowsOf of (n / 16) 0 = (rowsOf of (n / 16 - k) k).map (l ++ ·) /\ wr.ownsRow w.heap.size 259 2 (.slice A' l.length c') l.length (entC l) /\ Below w.heap.size w wr)
 case atStart => exact ⟨n, 0, A, c, none, 0, [], rfl, by omega, rfl, hc, by simpa using zJ1 Hr, rfl, rfl, rowsOf_all.symm, World.ownsRow_nil _ _ _ _, Below.refl _ _⟩
 case round =>
 obtain ⟨m, k, A1, c1, A', c', l, hgk, hmk, rfl, hmc, hr1, rfl, hll, hof, hown, hb⟩ := hrel
 have Hr1 := zJ2 hr1
 have Hof := zJ2 hof
 have Hown := zJ2 hown
 have Hb := zJ2 hb
 have Hll := zJ2 hll
 clear hr1 hof hown hb Hr hll
 by_cases hms : 16 <= m
 case neg =>
  have h1 : ¬ (16 : Int) <= (m : Int) := by omega
  have h2 : (m : Int) < 16 := by omega
  have Hend := zJ2 (xJz (zJ1 Hof) (by omega))
  clear Hof HK Hkt Hkf
  go_wp2_with fail
  go_ret2
  exact ⟨.inr ⟨l, A', c', zJ1 Hend, rfl, zJ1 Hown⟩, zJ1 Hb⟩
 have h1 : (16 : Int) <= (m : Int) := by omega
 have kt1 := (zJ1 Hkt) A1 m c1 (by omega)
 have kf1 := (zJ1 Hkf) A1 m c1 (by omega)
 have hkN : k < n / 16 := by omega
 have hcut : (bys (b.drop (k * 16))).take 16 = bys (Dy.cut b (k * 16) 16) := by unfold bys Dy.cut; rw [List.map_take]
 have K1 := zJ2 ((zJ1 HK) k A1 c1 wr (by omega) (zJ1 Hb) (by rw [<- hcut]; exact (zJ1 Hr1).to_ (k := 16) (by omega)) (by omega))
 have hdr : bys (b.drop ((k + 1) * 16)) = (bys (b.drop (k * 16))).drop 16 := by unfold bys; rw [<- List.map_drop, List.drop_drop]; congr 2; omega
 have Hr2 : Hid (Rd wr B 1 (fromA A1 c1 16) (m - 16) (bys (b.drop ((k + 1) * 16)))) := zJ2 (by rw [hdr]; exact (zJ1 Hr1).from_ (k := 16) (by omega) hmc)
 obtain ⟨A2, hA2⟩ : ∃ x, fromA A1 c1 16 = x := ⟨_, rfl⟩
 rw [hA2] at kf1
 have hr2 := zJ1 Hr2
 rw [hA2] at hr2
 have Hr3 := zJ2 hr2
 clear hcut hdr Hr1 Hr2 hr2 hA2 Hkt Hkf
 go_wp2_with fail
 refine (zJ1 K1).mono ?_
 rintro e w2 ⟨hb2, he⟩
 have HB2 := zJ2 ((zJ1 Hb).trans (hb2.mono (zJ1 Hb).size))
 have HO2 := zJ2 (own_below (zJ1 Hown) hb2)
 have HR4 := zJ2 ((zJ1 Hr3).below (hb2.mono (Nat.le_trans hB (zJ1 Hb).size)))
 clear hb2 K1 Hown Hr3
 have hlo : w.heap.size <= w2.heap.size := (zJ1 HB2).size
 cases hof : of k with
 | none =>
  rw [hof] at he
  subst he
  have Hno := zJ2 (vJ3 (zJ1 Hof) hkN hof)
  have HB3 := zJ2 ((zJ1 HB2).alloc hlo (.cells #[.int .u64 0, .int .u64 0] 259))
  clear Hof hof HK kt1 kf1
  go_wp2_with fail
  go_ret2
  rw [zJ1 Hno]
  exact en_bad (zJ1 HB3)
 | some x =>
  rw [hof] at he
  subst he
  have Hyes := zJ2 (xJy (zJ1 Hof) hkN hof)
  have HB3 := zJ2 ((zJ1 HB2).alloc hlo (.cells #[.int .u64 (x.1 : Nat), .int .u64 (x.2 : Nat)] 259))
  have HO3 := zJ2 (own_below (zJ1 HO2) ((Below.refl w2.heap.size w2).alloc (Nat.le_refl _) (.cells #[.int .u64 (x.1 : Nat), .int .u64 (x.2 : Nat)] 259)))
  clear Hof hof HB2 HO2
  go_wp2_with (at_builtin; refine zJh enTy rfl _ _ rfl w.heap.size (.slice A' l.length c') l.length (entC l) rfl (zJ1 HO3) #[.int .u64 (x.1 : Nat), .int .u64 (x.2 : Nat)] _ rfl (by simp) rfl (by intro u hu; simp at hu; rcases hu with rfl | rfl <;> rfl) (by have := zJ1 Hll; omega) (by simp; omega) ?_; intro A3 c3 w3 hown' hgrow hat; have HB4 := zJ2 ((zJ1 HB3).grown hgrow (zJ1 HB3).size (fun k hk => ((zJ1 HO3).lt k hk).1)); have HR5 := zJ2 ((zJ1 HR4).below (((Below.refl B w2).alloc (Nat.le_trans hB hlo) (.cells #[.int .u64 (x.1 : Nat), .int .u64 (x.2 : Nat)] 259)).grown hgrow (by simp; omega) (fun k hk => Nat.le_trans hB ((zJ1 HO3).lt k hk).1))); have HO4 := zJ2 hown'; clear hgrow hat hown' HB3 HO3 HR4)
  go_roundg (m - 16)
  case measure => omega
  case rel => exact ⟨m - 16, k + 1, A2, c1 - 16, A3, c3, l ++ [x], rfl, by omega, rfl, by omega, zJ1 HR5, by simp, by simp [zJ1 Hll], zJ1 Hyes, by simpa [entC] using zJ1 HO4, zJ1 HB4⟩
def symV (x : Dy.Sym) : List Value := [.string x.name, .int .u64 (x.value : Nat), .int .u64 (x.size : Nat), .int .u8 (x.bind : Nat), .bool x.isdef]
def symC (l : List Dy.Sym) : List Value := l.flatMap symV
def adI (n : Nat) : Int := IntKind.i64.wrap (n : Nat)
def relV (x : Dy.Rel) : List Value := [.int .u64 (x.off : Nat), .int .u32 (x.type : Nat), .int .i64 (x.sym : Nat), .int .i64 (adI x.add)]
def relC (l : List Dy.Rel) : List Value := l.flatMap relV
theorem syTy : SlTy Tryz.prog 51 142 5 40 := yJ0 (z := .agg #[.string ⟨#[]⟩, .int .u64 0, .int .u64 0, .int .u8 0, .bool false]) Tryz.underlying51 (by kernel_rfl) rfl (by omega) (by omega)
def syRowE (o : Option Dy.Sym) (w : World) (e : Ending) (w' : World) : Prop := Below w.heap.size w w' /\ match o with
 | none => ∃ (z0 : ByteArray) (z1 z2 z3 : Int) (z4 : Bool), e = .returned (.tuple #[.agg #[.string z0, .int .u64 z1, .int .u64 z2, .int .u8 z3, .bool z4], .bool false])
 | some x => e = .returned (.tuple #[.agg #[.string x.name, .int .u64 (x.value : Nat), .int .u64 (x.size : Nat), .int .u8 (x.bind : Nat), .bool x.isdef], .bool true])
def syRowsE (o : Option (List Dy.Sym)) (w : World) (e : Ending) (w' : World) : Prop :=
 ((o = none /\ e = .returned (.tuple #[.slice none 0 0, .bool false])) \/ ∃ (l : List Dy.Sym) (A' : Option Addr) (c' : Nat), o = some l /\ e = .returned (.tuple #[.slice A' l.length c', .bool true]) /\ w'.ownsRow w.heap.size 142 5 (.slice A' l.length c') l.length (symC l)) /\ Below w.heap.size w w'
theorem sy_bad {w w' : World} (hb : Below w.heap.size w w') : syRowsE none w (.returned (.tuple #[.slice none 0 0, .bool false])) w' := ⟨.inl ⟨rfl, rfl⟩, hb⟩
set_option maxRecDepth 100000 in
set_option maxHeartbeats 1000000 in
theorem sy_rows (A : Option Addr) (n c B : Nat) (b : List UInt8) (gt : Nat) (of : Nat -> Option Dy.Sym) (w : World) (hB : B <= w.heap.size) (h : Rd w B 1 A n (bys b)) (hn : n <= 4294967296) (hc : n <= c)
  (hK : ∀ k A2 c2 w', (k + 1) * 24 <= n -> Below w.heap.size w w' -> Rd w' B 1 A2 24 (bys (Dy.cut b (k * 24) 24)) -> 24 <= c2 -> Calls Tryz.prog 94 #[.slice A2 24 c2, .pointer (some ⟨gt, 0, none⟩)] w' (syRowE (of k) w')) :
  Calls Tryz.prog 93 #[.slice A n c, .int .i64 24, .func (.func 94) #[] #[.pointer (some ⟨gt, 0, none⟩)]] w (syRowsE (rowsOf of (n / 24) 0) w) := by
 have Hr := zJ2 h
 have HK := zJ2 hK
 have kt : ∀ (A : Option Addr) (n c : Nat), 24 <= c -> ∀ w' : World, (Instr.slice 64 (.slice A n c) none (some (.int .i64 24)) none).run Tryz.prog w' = .ok (.slice A 24 c) w' := fun A n c h w' => run_toK (P := Tryz.prog) Tryz.underlying64 (e := 5) (by kernel_rfl) .i64 A n c 24 h w'
 have kf : ∀ (A : Option Addr) (n c : Nat), 24 <= n -> ∀ w' : World, (Instr.slice 64 (.slice A n c) (some (.int .i64 24)) none none).run Tryz.prog w' = .ok (.slice (fromA A c 24) (n - 24) (c - 24)) w' := fun A n c h w' => yJp (P := Tryz.prog) Tryz.underlying64 (e := 5) (by kernel_rfl) .i64 A n c 24 h w'
 have Hkt := zJ2 kt
 have Hkf := zJ2 kf
 have Hlen := zJ2 h.1
 clear h hK kt kf
 go_enter Tryz.func93, Tryz.ntmps93
 go_wp2_with fail
 go_loopg [0, 6] n (fun gk bv lv wr => ∃ (m k : Nat) (A1 : Option Addr) (c1 : Nat) (A' : Option Addr) (c' : Nat) (l : List Dy.Sym), gk = m /\ m + k * 24 = n /\ bv = .slice A1 m c1 /\ m <= c1 /\ Rd wr B 1 A1 m (bys (b.drop (k * 24))) /\ lv = .slice A' l.length c' /\ l.length = k /\ rowsOf of (n / 24) 0 = (rowsOf of (n / 24 - k) k).map (l ++ ·) /\ wr.ownsRow w.heap.size 142 5 (.slice A' l.length c') l.length (symC l) /\ Below w.heap.size w wr)
 case atStart => exact ⟨n, 0, A, c, none, 0, [], rfl, by omega, rfl, hc, by simpa using zJ1 Hr, rfl, rfl, rowsOf_all.symm, World.ownsRow_nil _ _ _ _, Below.refl _ _⟩
 case round =>
 obtain ⟨m, k, A1, c1, A', c', l, hgk, hmk, rfl, hmc, hr1, rfl, hll, hof, hown, hb⟩ := hrel
 have Hr1 := zJ2 hr1
 have Hof := zJ2 hof
 have Hown := zJ2 hown
 have Hb := zJ2 hb
 have Hll := zJ2 hll
 clear hr1 hof hown hb Hr hll
 by_cases hms : 24 <= m
 case neg =>
  have h1 : ¬ (24 : Int) <= (m : Int) := by omega
  have h2 : (m : Int) < 24 := by omega
  have Hend := zJ2 (xJz (zJ1 Hof) (by omega))
  clear Hof HK Hkt Hkf
  go_wp2_with fail
  go_ret2
  exact ⟨.inr ⟨l, A', c', zJ1 Hend, rfl, zJ1 Hown⟩, zJ1 Hb⟩
 have h1 : (24 : Int) <= (m : Int) := by omega
 have kt1 := (zJ1 Hkt) A1 m c1 (by omega)
 have kf1 := (zJ1 Hkf) A1 m c1 (by omega)
 have hkN : k < n / 24 := by omega
 have hcut : (bys (b.drop (k * 24))).take 24 = bys (Dy.cut b (k * 24) 24) := by unfold bys Dy.cut; rw [List.map_take]
 have K1 := zJ2 ((zJ1 HK) k A1 c1 wr (by omega) (zJ1 Hb) (by rw [<- hcut]; exact (zJ1 Hr1).to_ (k := 24) (by omega)) (by omega))
 have hdr : bys (b.drop ((k + 1) * 24)) = (bys (b.drop (k * 24))).drop 24 := by unfold bys; rw [<- List.map_drop, List.drop_drop]; congr 2; omega
 have Hr2 : Hid (Rd wr B 1 (fromA A1 c1 24) (m - 24) (bys (b.drop ((k + 1) * 24)))) := zJ2 (by rw [hdr]; exact (zJ1 Hr1).from_ (k := 24) (by omega) hmc)
 obtain ⟨A2, hA2⟩ : ∃ x, fromA A1 c1 24 = x := ⟨_, rfl⟩
 rw [hA2] at kf1
 have hr2 := zJ1 Hr2
 rw [hA2] at hr2
 have Hr3 := zJ2 hr2
 clear hcut hdr Hr1 Hr2 hr2 hA2 Hkt Hkf
 go_wp2_with fail
 refine (zJ1 K1).mono ?_
 rintro e w2 ⟨hb2, he⟩
 have HB2 := zJ2 ((zJ1 Hb).trans (hb2.mono (zJ1 Hb).size))
 have HO2 := zJ2 (own_below (zJ1 Hown) hb2)
 have HR4 := zJ2 ((zJ1 Hr3).below (hb2.mono (Nat.le_trans hB (zJ1 Hb).size)))
 clear hb2 K1 Hown Hr3
 have hlo : w.heap.size <= w2.heap.size := (zJ1 HB2).size
 cases hof : of k with
 | none =>
  rw [hof] at he
  obtain ⟨z0, z1, z2, z3, z4, rfl⟩ := he
  have Hno := zJ2 (vJ3 (zJ1 Hof) hkN hof)
  have HB3 := zJ2 ((zJ1 HB2).alloc hlo (.cells #[.string z0, .int .u64 z1, .int .u64 z2, .int .u8 z3, .bool z4] 142))
  clear Hof hof HK kt1 kf1
  go_wp2_with fail
  go_ret2
  rw [zJ1 Hno]
  exact sy_bad (zJ1 HB3)
 | some x =>
  rw [hof] at he
  subst he
  have Hyes := zJ2 (xJy (zJ1 Hof) hkN hof)
  have HB3 := zJ2 ((zJ1 HB2).alloc hlo (.cells #[.string x.name, .int .u64 (x.value : Nat), .int .u64 (x.size : Nat), .int .u8 (x.bind : Nat), .bool x.isdef] 142))
  have HO3 := zJ2 (own_below (zJ1 HO2) ((Below.refl w2.heap.size w2).alloc (Nat.le_refl _) (.cells #[.string x.name, .int .u64 (x.value : Nat), .int .u64 (x.size : Nat), .int .u8 (x.bind : Nat), .bool x.isdef] 142)))
  clear Hof hof HB2 HO2
  go_wp2_with (at_builtin; refine zJh syTy rfl _ _ rfl w.heap.size (.slice A' l.length c') l.length (symC l) rfl (zJ1 HO3) #[.string x.name, .int .u64 (x.value : Nat), .int .u64 (x.size : Nat), .int .u8 (x.bind : Nat), .bool x.isdef] _ rfl (by simp) rfl (by intro u hu; simp at hu; rcases hu with rfl | rfl | rfl | rfl | rfl <;> rfl) (by have := zJ1 Hll; omega) (by simp; omega) ?_; intro A3 c3 w3 hown' hgrow hat; have HB4 := zJ2 ((zJ1 HB3).grown hgrow (zJ1 HB3).size (fun k hk => ((zJ1 HO3).lt k hk).1)); have HR5 := zJ2 ((zJ1 HR4).below (((Below.refl B w2).alloc (Nat.le_trans hB hlo) (.cells #[.string x.name, .int .u64 (x.value : Nat), .int .u64 (x.size : Nat), .int .u8 (x.bind : Nat), .bool x.isdef] 142)).grown hgrow (by simp; omega) (fun k hk => Nat.le_trans hB ((zJ1 HO3).lt k hk).1))); have HO4 := zJ2 hown'; clear hgrow hat hown' HB3 HO3 HR4)
  go_roundg (m - 24)
  case measure => omega
  case rel => exact ⟨m - 24, k + 1, A2, c1 - 24, A3, c3, l ++ [x], rfl, by omega, rfl, by omega, zJ1 HR5, by simp, by simp [zJ1 Hll], zJ1 Hyes, by simpa [symC, symV] using zJ1 HO4, zJ1 HB4⟩
theorem reTy : SlTy Tryz.prog 52 144 4 32 := yJ0 (z := .agg #[.int .u64 0, .int .u32 0, .int .i64 0, .int .i64 0]) Tryz.underlying52 (by kernel_rfl) rfl (by omega) (by omega)
def reRowE (o : Option Dy.Rel) (w : World) (e : Ending) (w' : World) : Prop := Below w.heap.size w w' /\ match o with
 | none => ∃ (z0 z1 z2 z3 : Int), e = .returned (.tuple #[.agg #[.int .u64 z0, .int .u32 z1, .int .i64 z2, .int .i64 z3], .bool false])
 | some x => e = .returned (.tuple #[.agg #[.int .u64 (x.off : Nat), .int .u32 (x.type : Nat), .int .i64 (x.sym : Nat), .int .i64 (adI x.add)], .bool true])
def reRowsE (o : Option (List Dy.Rel)) (w : World) (e : Ending) (w' : World) : Prop :=
 ((o = none /\ e = .returned (.tuple #[.slice none 0 0, .bool false])) \/ ∃ (l : List Dy.Rel) (A' : Option Addr) (c' : Nat), o = some l /\ e = .returned (.tuple #[.slice A' l.length c', .bool true]) /\ w'.ownsRow w.heap.size 144 4 (.slice A' l.length c') l.length (relC l)) /\ Below w.heap.size w w'
theorem re_bad {w w' : World} (hb : Below w.heap.size w w') : reRowsE none w (.returned (.tuple #[.slice none 0 0, .bool false])) w' := ⟨.inl ⟨rfl, rfl⟩, hb⟩
set_option maxRecDepth 100000 in
set_option maxHeartbeats 1000000 in
theorem re_rows (A : Option Addr) (n c B : Nat) (b : List UInt8) (gt : Nat) (of : Nat -> Option Dy.Rel) (w : World) (hB : B <= w.heap.size) (h : Rd w B 1 A n (bys b)) (hn : n <= 4294967296) (hc : n <= c)
  (hK : ∀ k A2 c2 w', (k + 1) * 24 <= n -> Below w.heap.size w w' -> Rd w' B 1 A2 24 (bys (Dy.cut b (k * 24) 24)) -> 24 <= c2 -> Calls Tryz.prog 98 #[.slice A2 24 c2, .pointer (some ⟨gt, 0, none⟩)] w' (reRowE (of k) w')) :
  Calls Tryz.prog 97 #[.slice A n c, .int .i64 24, .func (.func 98) #[] #[.pointer (some ⟨gt, 0, none⟩)]] w (reRowsE (rowsOf of (n / 24) 0) w) := by
 have Hr := zJ2 h
 have HK := zJ2 hK
 have kt : ∀ (A : Option Addr) (n c : Nat), 24 <= c -> ∀ w' : World, (Instr.slice 64 (.slice A n c) none (some (.int .i64 24)) none).run Tryz.prog w' = .ok (.slice A 24 c) w' := fun A n c h w' => run_toK (P := Tryz.prog) Tryz.underlying64 (e := 5) (by kernel_rfl) .i64 A n c 24 h w'
 have kf : ∀ (A : Option Addr) (n c : Nat), 24 <= n -> ∀ w' : World, (Instr.slice 64 (.slice A n c) (some (.int .i64 24)) none none).run Tryz.prog w' = .ok (.slice (fromA A c 24) (n - 24) (c - 24)) w' := fun A n c h w' => yJp (P := Tryz.prog) Tryz.underlying64 (e := 5) (by kernel_rfl) .i64 A n c 24 h w'
 have Hkt := zJ2 kt
 have Hkf := zJ2 kf
 have Hlen := zJ2 h.1
 clear h hK kt kf
 go_enter Tryz.func97, Tryz.ntmps97
 go_wp2_with fail
 go_loopg [0, 6] n (fun gk bv lv wr => ∃ (m k : Nat) (A1 : Option Addr) (c1 : Nat) (A' : Option Addr) (c' : Nat) (l : List Dy.Rel), gk = m /\ m + k * 24 = n /\ bv = .slice A1 m c1 /\ m <= c1 /\ Rd wr B 1 A1 m (bys (b.drop (k * 24))) /\ lv = .slice A' l.length c' /\ l.length = k /\ rowsOf of (n / 24) 0 = (rowsOf of (n / 24 - k) k).map (l ++ ·) /\ wr.ownsRow w.heap.size 144 4 (.slice A' l.length c') l.length (relC l) /\ Below w.heap.size w wr)
 case atStart => exact ⟨n, 0, A, c, none, 0, [], rfl, by omega, rfl, hc, by simpa using zJ1 Hr, rfl, rfl, rowsOf_all.symm, World.ownsRow_nil _ _ _ _, Below.refl _ _⟩
 case round =>
 obtain ⟨m, k, A1, c1, A', c', l, hgk, hmk, rfl, hmc, hr1, rfl, hll, hof, hown, hb⟩ := hrel
 have Hr1 := zJ2 hr1
 have Hof := zJ2 hof
 have Hown := zJ2 hown
 have Hb := zJ2 hb
 have Hll := zJ2 hll
 clear hr1 hof hown hb Hr hll
 by_cases hms : 24 <= m
 case neg =>
  have h1 : ¬ (24 : Int) <= (m : Int) := by omega
  have h2 : (m : Int) < 24 := by omega
  have Hend := zJ2 (xJz (zJ1 Hof) (by omega))
  clear Hof HK Hkt Hkf
  go_wp2_with fail
  go_ret2
  exact ⟨.inr ⟨l, A', c', zJ1 Hend, rfl, zJ1 Hown⟩, zJ1 Hb⟩
 have h1 : (24 : Int) <= (m : Int) := by omega
 have kt1 := (zJ1 Hkt) A1 m c1 (by omega)
 have kf1 := (zJ1 Hkf) A1 m c1 (by omega)
 have hkN : k < n / 24 := by omega
 have hcut : (bys (b.drop (k * 24))).take 24 = bys (Dy.cut b (k * 24) 24) := by unfold bys Dy.cut; rw [List.map_take]
 have K1 := zJ2 ((zJ1 HK) k A1 c1 wr (by omega) (zJ1 Hb) (by rw [<- hcut]; exact (zJ1 Hr1).to_ (k := 24) (by omega)) (by omega))
 have hdr : bys (b.drop ((k + 1) * 24)) = (bys (b.drop (k * 24))).drop 24 := by unfold bys; rw [<- List.map_drop, List.drop_drop]; congr 2; omega
 have Hr2 : Hid (Rd wr B 1 (fromA A1 c1 24) (m - 24) (bys (b.drop ((k + 1) * 24)))) := zJ2 (by rw [hdr]; exact (zJ1 Hr1).from_ (k := 24) (by omega) hmc)
 obtain ⟨A2, hA2⟩ : ∃ x, fromA A1 c1 24 = x := ⟨_, rfl⟩
 rw [hA2] at kf1
 have hr2 := zJ1 Hr2
 rw [hA2] at hr2
 have Hr3 := zJ2 hr2
 clear hcut hdr Hr1 Hr2 hr2 hA2 Hkt Hkf
 go_wp2_with fail
 refine (zJ1 K1).mono ?_
 rintro e w2 ⟨hb2, he⟩
 have HB2 := zJ2 ((zJ1 Hb).trans (hb2.mono (zJ1 Hb).size))
 have HO2 := zJ2 (own_below (zJ1 Hown) hb2)
 have HR4 := zJ2 ((zJ1 Hr3).below (hb2.mono (Nat.le_trans hB (zJ1 Hb).size)))
 clear hb2 K1 Hown Hr3
 have hlo : w.heap.size <= w2.heap.size := (zJ1 HB2).size
 cases hof : of k with
 | none =>
  rw [hof] at he
  obtain ⟨z0, z1, z2, z3, rfl⟩ := he
  have Hno := zJ2 (vJ3 (zJ1 Hof) hkN hof)
  have HB3 := zJ2 ((zJ1 HB2).alloc hlo (.cells #[.int .u64 z0, .int .u32 z1, .int .i64 z2, .int .i64 z3] 144))
  clear Hof hof HK kt1 kf1
  go_wp2_with fail
  go_ret2
  rw [zJ1 Hno]
  exact re_bad (zJ1 HB3)
 | some x =>
  rw [hof] at he
  subst he
  have Hyes := zJ2 (xJy (zJ1 Hof) hkN hof)
  have HB3 := zJ2 ((zJ1 HB2).alloc hlo (.cells #[.int .u64 (x.off : Nat), .int .u32 (x.type : Nat), .int .i64 (x.sym : Nat), .int .i64 (adI x.add)] 144))
  have HO3 := zJ2 (own_below (zJ1 HO2) ((Below.refl w2.heap.size w2).alloc (Nat.le_refl _) (.cells #[.int .u64 (x.off : Nat), .int .u32 (x.type : Nat), .int .i64 (x.sym : Nat), .int .i64 (adI x.add)] 144)))
  clear Hof hof HB2 HO2
  go_wp2_with (at_builtin; refine zJh reTy rfl _ _ rfl w.heap.size (.slice A' l.length c') l.length (relC l) rfl (zJ1 HO3) #[.int .u64 (x.off : Nat), .int .u32 (x.type : Nat), .int .i64 (x.sym : Nat), .int .i64 (adI x.add)] _ rfl (by simp) rfl (by intro u hu; simp at hu; rcases hu with rfl | rfl | rfl | rfl <;> rfl) (by have := zJ1 Hll; omega) (by simp; omega) ?_; intro A3 c3 w3 hown' hgrow hat; have HB4 := zJ2 ((zJ1 HB3).grown hgrow (zJ1 HB3).size (fun k hk => ((zJ1 HO3).lt k hk).1)); have HR5 := zJ2 ((zJ1 HR4).below (((Below.refl B w2).alloc (Nat.le_trans hB hlo) (.cells #[.int .u64 (x.off : Nat), .int .u32 (x.type : Nat), .int .i64 (x.sym : Nat), .int .i64 (adI x.add)] 144)).grown hgrow (by simp; omega) (fun k hk => Nat.le_trans hB ((zJ1 HO3).lt k hk).1))); have HO4 := zJ2 hown'; clear hgrow hat hown' HB3 HO3 HR4)
  go_roundg (m - 24)
  case measure => omega
  case rel => exact ⟨m - 24, k + 1, A2, c1 - 24, A3, c3, l ++ [x], rfl, by omega, rfl, by omega, zJ1 HR5, by simp, by simp [zJ1 Hll], zJ1 Hyes, by simpa [relC, relV] using zJ1 HO4, zJ1 HB4⟩
theorem toList_empty {s : ByteArray} (h : s.size = 0) : s.toList.isEmpty = true := by rw [zJl, decide_eq_true_eq]; exact h
theorem toList_some {s : ByteArray} (h : s.size ≠ 0) : s.toList.isEmpty = false := by rw [zJl, decide_eq_false_iff_not]; exact h
theorem FiE.more {t : TypeId} {g o base n1 c1 n2 c2 : Nat} {l : List Value} {A A1 A2 : Option Addr} {w w1 w2 w3 : World} {xs1 xs2 : List UInt8} (h : FiE t g o l base A w w1 A1 n1 c1 xs1) (hb : Below w1.heap.size w1 w2) (k : Grew w2 w3 base (.slice A1 n1 c1) (.slice A2 n2 c2) n2 xs2) :
  Blk w3 g t (l.set o (.slice A1 n1 c1)) /\ FiE t g o l base A w (w3.setCell ⟨g, o, none⟩ (.slice A2 n2 c2)) A2 n2 c2 xs2 := by
 obtain ⟨h1, h2⟩ := (h.m.below hb).app k
 exact ⟨h1, h.trans (FiE.after hb h2)⟩
theorem FiE.rdK {t : TypeId} {g o base n' c' B m size : Nat} {l : List Value} {A A' A2 : Option Addr} {w w' : World} {xs' : List UInt8} {ys : List Value} (h : FiE t g o l base A w w' A' n' c' xs') (r : Rd w B size A2 m ys) (hB : B <= w.heap.size) (h1 : bk A2 ≠ some g) (h2 : ∀ k, bk A2 = some k -> bk A ≠ some k) : Rd w' B size A2 m ys := by
 refine ⟨r.1, r.2.imp id ?_⟩
 rintro ⟨b, off, rfl, hb, hc⟩
 refine ⟨b, off, rfl, hb, fun j u hu => (yJe (h.block b (by omega) (fun e => h1 (by rw [<- e]; rfl)) (h2 b rfl)) (off + j)).trans (hc j u hu)⟩
theorem litA (w : World) : Rd (w.alloc (.cells #[.int .u8 0] 5)) (w.heap.size + 1) 1 (some ⟨w.heap.size, 0, none⟩) 1 (bys [0]) := Rd.row (w := w) rfl
theorem litS (w : World) (p : Addr) (u : Value) : Rd ((w.setCell p u).alloc (.cells #[.int .u8 0] 5)) (w.heap.size + 1) 1 (some ⟨w.heap.size, 0, none⟩) 1 (bys [0]) := by
 have h := litA (w.setCell p u)
 rw [show (w.setCell p u).heap.size = w.heap.size by simp] at h
 exact h
set_option maxRecDepth 100000 in
set_option maxHeartbeats 4000000 in
theorem rtput_any (t : TypeId) (g o : Nat) (l : List Value) (base : Nat) (A : Option Addr) (n c : Nat) (xs : List UInt8) (s : ByteArray) (w : World) (h : FiM w t g o l base A n c xs) (hbase : base <= w.heap.size) (hn : n <= 35184372088832) (hs : s.size <= 4294967296) :
  Calls Tryz.prog 126 #[.pointer (some ⟨g, o, none⟩), .string s] w fun e w' => ∃ A' n' c', e = .returned (.int .u64 (Mk.place xs s : Nat)) /\ FiE t g o l base A w w' A' n' c' (Mk.put xs s) := by
 have hlen := h.len
 by_cases h0 : s.size = 0
 ·have hq := toList_empty h0
  have hE := FiE.refl h
  have e1 : Mk.place xs s = 0 := by unfold Mk.place; rw [if_pos h0]
  have e2 : Mk.put xs s = xs := by unfold Mk.put; rw [if_pos h0]
  rw [e1, e2]
  have HE := zJ2 hE
  clear hE e1 e2 h hlen h0
  go_enter Tryz.func126, Tryz.ntmps126
  go_wp2_with fail
  go_ret
  exact ⟨A, n, c, rfl, zJ1 HE⟩
 have hq := toList_some h0
 have e1 : Mk.place xs s = n := by unfold Mk.place; rw [if_neg h0, hlen]
 have e2 : Mk.put xs s = xs ++ s.data.toList ++ [0] := by unfold Mk.put; rw [if_neg h0]
 rw [e1, e2]
 have y0 := h.cell
 have H := zJ2 h
 clear e1 e2 h hlen h0
 go_enter Tryz.func126, Tryz.ntmps126
 go_wp2_with (first
  | (at_builtin; refine wpList_appS rfl _ _ rfl base (.slice A n c) n xs rfl (zJ1 H).row s rfl (by omega) (by omega) ?_; intro A1 c1 w1 hG; obtain ⟨hb1, hE1⟩ := (zJ1 H).app hG; have z0 := hb1.cell (zJ1 H).at_; have z1 := hb1.free o; have y1 := hE1.m.cell; have HE1 := zJ2 hE1; clear hG hb1 hE1 y0)
  | (at_builtin; refine zJe zJy rfl _ _ rfl base (.slice A1 (n + s.size) c1) (n + s.size) _ rfl ((zJ1 HE1).m.row.alloc (.cells #[.int .u8 0] 5)) (w1.heap.size + 1) (some ⟨w1.heap.size, 0, none⟩) 1 1 (bys [0]) rfl (litS _ _ _) (zJm _) (by omega) (by have := (zJ1 HE1).size; simp at this ⊢; omega) ?_; intro A2 c2 w2 ho2 hg2 ha2; obtain ⟨hb2, hE2⟩ := (zJ1 HE1).more ((Below.refl _ _).alloc (Nat.le_refl _) (.cells #[.int .u8 0] 5)) (show Grew _ w2 base _ _ (n + s.size + 1) (xs ++ s.data.toList ++ [0]) from ⟨by rw [zJj]; exact ho2, hg2, ha2⟩); have z2 := hb2.cell (zJ1 HE1).m.at_; have z3 := hb2.free o; have HE2 := zJ2 hE2; clear ho2 hg2 ha2 hb2 hE2 z0 z1 y1))
 go_ret
 exact ⟨A2, n + s.size + 1, c2, rfl, zJ1 HE2⟩
set_option maxRecDepth 100000 in
set_option maxHeartbeats 4000000 in
theorem rpair_any (A : Option Addr) (n c base : Nat) (xs : List UInt8) (a v : Nat) (w : World) (h : w.ownsRow base 5 1 (.slice A n c) n (bys xs)) (hbase : base <= w.heap.size) (hn : n <= 35184372088832) (ha : a < 18446744073709551616) (hv : v < 18446744073709551616) :
  Calls Tryz.prog 125 #[.slice A n c, .int .u64 a, .int .u64 v] w fun e w' => ∃ A' c', e = .returned (.slice A' (n + 16) c') /\ Grew w w' base (.slice A n c) (.slice A' (n + 16) c') (n + 16) (xs ++ Mk.pairB (a, v)) := by
 have K1 := zJ2 (xJ3 a 8 w ha (.inr (.inr (.inr rfl))))
 have H := zJ2 h
 clear h
 go_enter Tryz.func125, Tryz.ntmps125
 go_wp2_with fail
 refine (zJ1 K1).mono ?_
 rintro e w1 ⟨A1, c1, rfl, ho1, hb1⟩
 have hs1 := hb1.size
 have Ho1 := zJ2 ho1
 have Hb1 := zJ2 hb1
 have Hr1 := zJ2 (own_below (zJ1 H) hb1)
 clear ho1 hb1 K1
 go_wp2_with (at_builtin; refine zJe zJy rfl _ _ rfl base (.slice A n c) n _ rfl (zJ1 Hr1) w1.heap.size A1 8 c1 (bys (Cl.lb a 8)) rfl (Rd.of_own (zJ1 Ho1)) (zJm _) (by omega) (by omega) ?_; intro A2 c2 w2 ho2 hg2 hat2; have HG2 := zJ2 (Grew.after (zJ1 Hb1) (show Grew w1 w2 base (.slice A n c) (.slice A2 (n + 8) c2) (n + 8) (xs ++ Cl.lb a 8) from ⟨by rw [zJj]; exact ho2, hg2, hat2⟩)); clear ho2 hg2 hat2)
 refine (xJ3 v 8 w2 hv (.inr (.inr (.inr rfl)))).mono ?_
 rintro e w3 ⟨A3, c3, rfl, ho3, hb3⟩
 have hs2 := (zJ1 HG2).kept.size
 have hs3 := hb3.size
 have Ho3 := zJ2 ho3
 have Hb3 := zJ2 hb3
 have Hr3 := zJ2 (own_below (zJ1 HG2).own hb3)
 clear ho3 hb3
 go_wp2_with (at_builtin; refine zJe zJy rfl _ _ rfl base (.slice A2 (n + 8) c2) (n + 8) _ rfl (zJ1 Hr3) w3.heap.size A3 8 c3 (bys (Cl.lb v 8)) rfl (Rd.of_own (zJ1 Ho3)) (zJm _) (by omega) (by omega) ?_; intro A4 c4 w4 ho4 hg4 hat4; have HG4 := zJ2 ((zJ1 HG2).trans (Grew.after (zJ1 Hb3) (show Grew w3 w4 base (.slice A2 (n + 8) c2) (.slice A4 (n + 8 + 8) c4) (n + 8 + 8) (xs ++ Cl.lb a 8 ++ Cl.lb v 8) from ⟨by rw [zJj]; exact ho4, hg4, hat4⟩))); clear ho4 hg4 hat4)
 go_ret
 have h := zJ1 HG4
 rw [List.append_assoc] at h
 exact ⟨A4, c4, rfl, h⟩
theorem modT8 (a r : Nat) (h : a % 8 = r) : (a : Int).tmod 8 = (r : Int) := by rw [Int.tmod_eq_emod_of_nonneg (by omega)]; omega
theorem gap_next {m n k : Nat} (hm : 0 < m) (h : k < Mk.gap m n) : (n + k) % m ≠ 0 := by
 unfold Mk.gap at h
 intro e
 have h1 : n % m < m := Nat.mod_lt _ hm
 by_cases h0 : n % m = 0
 ·rw [h0, Nat.sub_zero, Nat.mod_self] at h; omega
 ·rw [Nat.mod_eq_of_lt (by omega)] at h
  have h2 : n + k = m * (n / m) + (n % m + k) := by have := Nat.div_add_mod n m; omega
  rw [h2, Nat.mul_add_mod, Nat.mod_eq_of_lt (by omega)] at e
  omega
theorem gap_end {m n : Nat} (hm : 0 < m) : (n + Mk.gap m n) % m = 0 := by
 unfold Mk.gap
 have h1 : n % m < m := Nat.mod_lt _ hm
 by_cases h0 : n % m = 0
 ·rw [h0, Nat.sub_zero, Nat.mod_self, Nat.add_zero]; exact h0
 ·rw [Nat.mod_eq_of_lt (by omega : m - n % m < m)]
  have h2 : n + (m - n % m) = m * (n / m) + m := by have := Nat.div_add_mod n m; omega
  rw [h2, Nat.mul_add_mod, Nat.mod_self]
theorem gap_lt {m n : Nat} (hm : 0 < m) : Mk.gap m n < m := Nat.mod_lt _ hm
theorem zs_snoc (k : Nat) : Mk.zs k ++ [0] = Mk.zs (k + 1) := by unfold Mk.zs; rw [List.replicate_succ']
theorem vJw (k : Nat) : (Mk.zs k).length = k := by simp [Mk.zs]
set_option maxRecDepth 100000 in
set_option maxHeartbeats 4000000 in
theorem rfput_any (t : TypeId) (g : Nat) (l : List Value) (base b0 : Nat) (A : Option Addr) (n c : Nat) (xs : List UInt8) (Ab : Option Addr) (m cb : Nat) (b : List UInt8) (w : World) (h : FiM w t g 0 l base A n c xs) (hb0 : l[1]? = some (.int .u64 (b0 : Nat))) (hbase : base <= w.heap.size) (hn : n <= 4294967296) (hm : m <= 4294967296) (hbs : b0 <= 4294967296)
  (hr : Rd w w.heap.size 1 Ab m (bys b)) (hbg : bk Ab ≠ some g) (hbA : ∀ k, bk Ab = some k -> bk A ≠ some k) :
  Calls Tryz.prog 73 #[.pointer (some ⟨g, 0, none⟩), .slice Ab m cb] w fun e w' => ∃ A' n' c', e = .returned (.int .u64 (b0 + (Mk.pad 8 xs).length : Nat)) /\ FiE t g 0 l base A w w' A' n' c' (Mk.pad 8 xs ++ b) := by
 have hlen := h.len
 have hpl : (Mk.pad 8 xs).length = n + Mk.gap 8 n := by unfold Mk.pad; rw [List.length_append, vJw, hlen]
 rw [hpl]
 have hpe : Mk.pad 8 xs = xs ++ Mk.zs (Mk.gap 8 n) := by unfold Mk.pad; rw [hlen]
 rw [hpe]
 have hgl : Mk.gap 8 n < 8 := gap_lt (by omega)
 have hgn : ∀ k, k < Mk.gap 8 n -> (n + k) % 8 ≠ 0 := fun k hk => gap_next (by omega) hk
 have hge : (n + Mk.gap 8 n) % 8 = 0 := gap_end (by omega)
 generalize Mk.gap 8 n = G at *
 have H := zJ2 h
 have Hgn := zJ2 hgn
 have Hge := zJ2 hge
 have Hr := zJ2 hr
 have Hbg := zJ2 hbg
 have HbA := zJ2 hbA
 have Hb0 := zJ2 hb0
 clear h hgn hge hr hbg hbA hb0 hpl hpe hlen
 go_enter Tryz.func73, Tryz.ntmps73
 go_wp2_with fail
 go_loopg [] G (fun gk wr => ∃ (k : Nat) (A1 : Option Addr) (c1 : Nat), gk = G - k /\ k <= G /\ FiE t g 0 l base A w wr A1 (n + k) c1 (xs ++ Mk.zs k))
 case atStart => exact ⟨0, A, c, by omega, by omega, by simpa [Mk.zs] using FiE.refl (zJ1 H)⟩
 case round =>
 obtain ⟨k, A1, c1, hgk, hk, hE⟩ := hrel
 have Hgk := zJ2 hgk
 have y0 := hE.m.cell
 have hsz := hE.size
 have y1 := hE.m.blk.cell (i := 1) (by rw [List.getElem?_set_ne (by omega)]; exact zJ1 Hb0)
 have HE := zJ2 hE
 clear hgk hE
 rcases Nat.lt_or_ge k G with hlt | hge
 ·obtain ⟨r, hr⟩ : ∃ r, (n + k) % 8 = r := ⟨_, rfl⟩
  have hr0 : ((r : Int) != 0) = true := by
   have := (zJ1 Hgn) k hlt
   rw [bne_iff_ne]
   omega
  have hrm := modT8 _ _ hr
  obtain ⟨v, hv⟩ : ∃ v, n + k = v := ⟨_, rfl⟩
  rw [hv] at y0 hrm
  have hE := zJ1 HE
  rw [hv] at hE
  have HE2 := zJ2 hE
  have Hv := zJ2 hv
  have hv2 : v <= 4294967304 := by omega
  clear HE hE hr hv y1
  go_wp2_with (at_builtin; refine zJe zJy rfl _ _ rfl base (.slice A1 v c1) v _ rfl ((zJ1 HE2).m.row.alloc (.cells #[.int .u8 0] 5)) (wr.heap.size + 1) (some ⟨wr.heap.size, 0, none⟩) 1 1 (bys [0]) rfl (litA _) (zJm _) (by omega) (by simp; omega) ?_; intro A2 c2 w2 ho2 hg2 ha2; obtain ⟨hb2, hE2⟩ := (zJ1 HE2).more ((Below.refl _ _).alloc (Nat.le_refl _) (.cells #[.int .u8 0] 5)) (show Grew _ w2 base _ _ (v + 1) (xs ++ Mk.zs k ++ [0]) from ⟨by rw [zJj]; exact ho2, hg2, ha2⟩); have z2 := hb2.cell (zJ1 HE2).m.at_; have z3 := hb2.free 0; have HE3 := zJ2 hE2; clear ho2 hg2 ha2 hb2 hE2 y0)
  have h3 := zJ1 HE3
  rw [List.append_assoc, zs_snoc] at h3
  have HE4 := zJ2 h3
  clear h3 HE3
  go_roundg (G - (k + 1))
  case measure => have := zJ1 Hgk; omega
  case rel => exact ⟨k + 1, A2, c2, rfl, by omega, by rw [show n + (k + 1) = v + 1 from by have := zJ1 Hv; omega]; exact zJ1 HE4⟩
 ·obtain rfl : k = G := by omega
  have hrm := modT8 _ _ (zJ1 Hge)
  obtain ⟨v, hv⟩ : ∃ v, n + k = v := ⟨_, rfl⟩
  rw [hv] at y0 hrm
  have hE := zJ1 HE
  rw [hv] at hE
  have Hv := zJ2 hv
  have hv2 : v <= 4294967304 := by omega
  have HEn := zJ2 (fun nq => hE.then_ (below_drewN' (Below.refl wr.heap.size wr) nq))
  have z0 : ∀ nq, (wr.drewN nq).cell? ⟨g, 0, none⟩ = some (.slice A1 v c1) := fun nq => y0
  clear HE hE hv Hge
  go_wp2_with fail
  go_quiet (fail)
  go_wp2_with (at_builtin; refine zJe zJy rfl _ _ rfl base (.slice A1 v c1) v _ rfl ((zJ1 HEn) _).m.row w.heap.size Ab m cb (bys b) rfl (((zJ1 HEn) _).rdK (zJ1 Hr) (Nat.le_refl _) (zJ1 Hbg) (zJ1 HbA)) (zJm _) (by omega) (by simp; omega) ?_; intro A2 c2 w2 ho2 hg2 ha2; obtain ⟨hb2, hE2⟩ := ((zJ1 HEn) _).more (Below.refl _ _) (show Grew _ w2 base _ _ (v + m) (xs ++ Mk.zs k ++ b) from ⟨by rw [zJj]; exact ho2, hg2, ha2⟩); have z2 := hb2.cell ((zJ1 HEn) 0).m.at_; have z3 := hb2.free 0; have HE3 := zJ2 hE2; clear ho2 hg2 ha2 hb2 hE2 y0 z0)
  go_ret
  rw [zJ1 Hv]
  exact ⟨A2, v + m, c2, by go_num, zJ1 HE3⟩
theorem vJk {α : Type} (f : α -> List Value) (z : Nat) (hf : ∀ x, (f x).length = z) (l : List α) : ∀ (k : Nat) (x : α), l[k]? = some x -> ∀ j v, (f x)[j]? = some v -> (l.flatMap f)[k * z + j]? = some v := by
 induction l with
 | nil => intro k x h; simp at h
 | cons a r ih =>
  intro k x h j v hv
  have hj : j < z := by have := (List.getElem?_eq_some_iff.1 hv).1; rwa [hf] at this
  cases k with
  | zero =>
   simp at h
   subst h
   rw [List.flatMap_cons, List.getElem?_append_left (by rw [hf]; omega), Nat.zero_mul, Nat.zero_add]
   exact hv
  | succ k =>
   simp at h
   rw [List.flatMap_cons, List.getElem?_append_right (by rw [hf, Nat.succ_mul]; omega), hf, show (k + 1) * z + j - z = k * z + j from by rw [Nat.succ_mul]; omega]
   exact ih k x h j v hv
def mrV (r : Mk.Rel) : List Value := [.int .u64 (r.off : Nat), .int .u32 (r.type : Nat), .int .i64 r.sym, .int .i64 r.add]
def mrC (l : List Mk.Rel) : List Value := l.flatMap mrV
theorem mksym_at {w : World} {B n : Nat} {A : Option Addr} {l : List Dy.Sym} (h : Rd w B 5 A n (symC l)) {k : Nat} {x : Dy.Sym} (hk : l[k]? = some x) :
  ∃ b off, A = some ⟨b, off, none⟩ /\ b < B /\ w.cell? ⟨b, off + k * 5, none⟩ = some (.string x.name) /\ w.cell? ⟨b, off + k * 5 + 1, none⟩ = some (.int .u64 (x.value : Nat)) /\ w.cell? ⟨b, off + k * 5 + 2, none⟩ = some (.int .u64 (x.size : Nat)) /\ w.cell? ⟨b, off + k * 5 + 3, none⟩ = some (.int .u8 (x.bind : Nat)) /\ w.cell? ⟨b, off + k * 5 + 4, none⟩ = some (.bool x.isdef) := by
 have hc := vJk symV 5 (fun _ => rfl) l k x hk
 obtain ⟨b, off, ea, hb, hx⟩ := h.open_ (by intro e0; have := hc 0 _ rfl; rw [show l.flatMap symV = symC l from rfl, e0] at this; simp at this)
 refine ⟨b, off, ea, hb, ?_, ?_, ?_, ?_, ?_⟩
 ·exact hx _ _ (hc 0 _ rfl)
 ·rw [Nat.add_assoc]; exact hx _ _ (hc 1 _ rfl)
 ·rw [Nat.add_assoc]; exact hx _ _ (hc 2 _ rfl)
 ·rw [Nat.add_assoc]; exact hx _ _ (hc 3 _ rfl)
 ·rw [Nat.add_assoc]; exact hx _ _ (hc 4 _ rfl)
theorem mkrel_at {w : World} {B n : Nat} {A : Option Addr} {l : List Mk.Rel} (h : Rd w B 4 A n (mrC l)) {k : Nat} {x : Mk.Rel} (hk : l[k]? = some x) :
  ∃ b off, A = some ⟨b, off, none⟩ /\ b < B /\ w.cell? ⟨b, off + k * 4, none⟩ = some (.int .u64 (x.off : Nat)) /\ w.cell? ⟨b, off + k * 4 + 1, none⟩ = some (.int .u32 (x.type : Nat)) /\ w.cell? ⟨b, off + k * 4 + 2, none⟩ = some (.int .i64 x.sym) /\ w.cell? ⟨b, off + k * 4 + 3, none⟩ = some (.int .i64 x.add) := by
 have hc := vJk mrV 4 (fun _ => rfl) l k x hk
 obtain ⟨b, off, ea, hb, hx⟩ := h.open_ (by intro e0; have := hc 0 _ rfl; rw [show l.flatMap mrV = mrC l from rfl, e0] at this; simp at this)
 refine ⟨b, off, ea, hb, ?_, ?_, ?_, ?_⟩
 ·exact hx _ _ (hc 0 _ rfl)
 ·rw [Nat.add_assoc]; exact hx _ _ (hc 1 _ rfl)
 ·rw [Nat.add_assoc]; exact hx _ _ (hc 2 _ rfl)
 ·rw [Nat.add_assoc]; exact hx _ _ (hc 3 _ rfl)
structure Dq where
 d : Mk.Dyn
 A1 : Option Addr
 c1 : Nat
 A2 : Option Addr
 c2 : Nat
 A3 : Option Addr
 c3 : Nat
def Dq.l (q : Dq) : List Value := [.slice q.A1 q.d.needed.length q.c1, .string q.d.soname, .string q.d.run, .slice q.A2 q.d.syms.length q.c2, .slice q.A3 q.d.relas.length q.c3]
structure DqM (w : World) (B : Nat) (q : Dq) : Prop where
 needed : Rd w B 1 q.A1 q.d.needed.length (q.d.needed.map Value.string)
 syms : Rd w B 5 q.A2 q.d.syms.length (symC q.d.syms)
 relas : Rd w B 4 q.A3 q.d.relas.length (mrC q.d.relas)
theorem DqM.below {w w' : World} {B : Nat} {q : Dq} (h : DqM w B q) (hb : Below B w w') : DqM w' B q := ⟨h.needed.below hb, h.syms.below hb, h.relas.below hb⟩
theorem DqM.more {w : World} {B B' : Nat} {q : Dq} (h : DqM w B q) (hB : B <= B') : DqM w B' q := ⟨h.needed.more hB, h.syms.more hB, h.relas.more hB⟩
structure DqOk (q : Dq) : Prop where
 n1 : q.d.needed.length <= 4294967296
 n2 : q.d.syms.length <= 4294967296
 n3 : q.d.relas.length <= 4294967296
 s1 : ∀ s ∈ q.d.needed, s.size <= 4294967296
 s2 : ∀ s ∈ q.d.syms, s.name.size <= 4294967296
 s3 : q.d.soname.size <= 4294967296
 s4 : q.d.run.size <= 4294967296
 c1 : q.d.needed.length <= q.c1
 c2 : q.d.syms.length <= q.c2
 c3 : q.d.relas.length <= q.c3
theorem zJk (x s : Nat) (v sv : Int) (hv : v = (x : Nat)) (hsv : sv = (s : Nat)) (w : World) (hx : x < 18446744073709551616) (hs : s = 1 \/ s = 2 \/ s = 4 \/ s = 8) :
  Calls Tryz.prog 130 #[.int .u64 v, .int .i64 sv] w fun e w' => ∃ A' c', e = .returned (.slice A' s c') /\ w'.ownsRow w.heap.size 5 1 (.slice A' s c') s (bys (Cl.lb x s)) /\ Below w.heap.size w w' := by
 subst hv hsv
 exact xJ3 x s w hx hs
theorem Grew.refl {w : World} {base n c : Nat} {A : Option Addr} {xs : List UInt8} (h : w.ownsRow base 5 1 (.slice A n c) n (bys xs)) : Grew w w base (.slice A n c) (.slice A n c) n xs := ⟨h, World.grownBy.refl w _, fun k hk => .inl hk⟩
theorem puts_app (t : List UInt8) (a b : List ByteArray) : Mk.puts t (a ++ b) = Mk.puts (Mk.puts t a) b := List.foldl_append
theorem put_le {t : List UInt8} {s : ByteArray} (h : s.size <= 4294967296) : (Mk.put t s).length <= t.length + 4294967297 := by
 unfold Mk.put
 split
 ·omega
 ·simp only [List.length_append, List.length_cons, List.length_nil, Array.length_toList]
  have : s.data.size = s.size := rfl
  omega
theorem puts_le {t : List UInt8} {l : List ByteArray} (h : ∀ s ∈ l, s.size <= 4294967296) : (Mk.puts t l).length <= t.length + l.length * 4294967297 := by
 induction l generalizing t with
 | nil => simp [Mk.puts]
 | cons s r ih =>
  have h1 := put_le (t := t) (h s (by simp))
  have h2 := ih (t := Mk.put t s) (fun s hs => h s (by simp [hs]))
  show (Mk.puts (Mk.put t s) r).length <= _
  rw [List.length_cons, Nat.succ_mul]
  omega
theorem lbs_snoc (k : Nat) (a : List Nat) (x : Nat) : Mk.lbs k (a ++ [x]) = Mk.lbs k a ++ Cl.lb x k := by
 induction a with
 | nil => simp [Mk.lbs]
 | cons y r ih => simp [Mk.lbs, ih]
def rowV (r : Mk.Row) : List Value := [.int .u64 (r.kind : Nat), .int .u64 (r.flags : Nat), .int .u64 (r.off : Nat), .int .u64 (r.addr : Nat), .int .u64 (r.fsz : Nat), .int .u64 (r.msz : Nat), .int .u64 (r.align : Nat)]
def rowC (l : List Mk.Row) : List Value := l.flatMap rowV
structure RowOk (r : Mk.Row) : Prop where
 kind : r.kind < 18446744073709551616
 flags : r.flags < 18446744073709551616
 off : r.off < 18446744073709551616
 addr : r.addr < 18446744073709551616
 fsz : r.fsz < 18446744073709551616
 msz : r.msz < 18446744073709551616
 align : r.align < 18446744073709551616
theorem mkrow_at {w : World} {B n : Nat} {A : Option Addr} {l : List Mk.Row} (h : Rd w B 7 A n (rowC l)) {k : Nat} {x : Mk.Row} (hk : l[k]? = some x) :
  ∃ b off, A = some ⟨b, off, none⟩ /\ b < B /\ w.cell? ⟨b, off + k * 7, none⟩ = some (.int .u64 (x.kind : Nat)) /\ w.cell? ⟨b, off + k * 7 + 1, none⟩ = some (.int .u64 (x.flags : Nat)) /\ w.cell? ⟨b, off + k * 7 + 2, none⟩ = some (.int .u64 (x.off : Nat)) /\ w.cell? ⟨b, off + k * 7 + 3, none⟩ = some (.int .u64 (x.addr : Nat)) /\ w.cell? ⟨b, off + k * 7 + 4, none⟩ = some (.int .u64 (x.fsz : Nat)) /\ w.cell? ⟨b, off + k * 7 + 5, none⟩ = some (.int .u64 (x.msz : Nat)) /\ w.cell? ⟨b, off + k * 7 + 6, none⟩ = some (.int .u64 (x.align : Nat)) := by
 have hc := vJk rowV 7 (fun _ => rfl) l k x hk
 obtain ⟨b, off, ea, hb, hx⟩ := h.open_ (by intro e0; have := hc 0 _ rfl; rw [show l.flatMap rowV = rowC l from rfl, e0] at this; simp at this)
 refine ⟨b, off, ea, hb, ?_, ?_, ?_, ?_, ?_, ?_, ?_⟩
 ·exact hx _ _ (hc 0 _ rfl)
 all_goals rw [Nat.add_assoc]
 ·exact hx _ _ (hc 1 _ rfl)
 ·exact hx _ _ (hc 2 _ rfl)
 ·exact hx _ _ (hc 3 _ rfl)
 ·exact hx _ _ (hc 4 _ rfl)
 ·exact hx _ _ (hc 5 _ rfl)
 ·exact hx _ _ (hc 6 _ rfl)
theorem rowsB_next {l : List Mk.Row} {j : Nat} {x : Mk.Row} (h : l[j]? = some x) : Mk.rowsB (l.take (j + 1)) = Mk.rowsB (l.take j) ++ Mk.rowB x := by
 unfold Mk.rowsB
 rw [List.take_add_one, h, List.flatMap_append]
 simp
structure Xq where
 x : Mk.Spec
 At : Option Addr
 ct : Nat
 Ad : Option Addr
 cd : Nat
 A1 : Option Addr
 c1 : Nat
 A2 : Option Addr
 c2 : Nat
 A3 : Option Addr
 c3 : Nat
def Xq.q (s : Xq) : Dq := ⟨s.x.dyn, s.A1, s.c1, s.A2, s.c2, s.A3, s.c3⟩
def Xq.l (s : Xq) : List Value := [.int .u16 (s.x.type : Nat), .int .u64 (s.x.entry : Nat), .string s.x.interp, .slice s.At s.x.text.length s.ct, .slice s.Ad s.x.data.length s.cd, .int .u64 (s.x.more : Nat), .bool s.x.dynamic, .slice s.A1 s.x.dyn.needed.length s.c1, .string s.x.dyn.soname, .string s.x.dyn.run, .slice s.A2 s.x.dyn.syms.length s.c2, .slice s.A3 s.x.dyn.relas.length s.c3, .int .i64 s.x.apart]
structure XqM (w : World) (B : Nat) (s : Xq) : Prop where
 text : Rd w B 1 s.At s.x.text.length (bys s.x.text)
 data : Rd w B 1 s.Ad s.x.data.length (bys s.x.data)
 dyn : DqM w B s.q
theorem XqM.below {w w' : World} {B : Nat} {s : Xq} (h : XqM w B s) (hb : Below B w w') : XqM w' B s := ⟨h.text.below hb, h.data.below hb, h.dyn.below hb⟩
structure XqOk (s : Xq) : Prop where
 type : s.x.type < 65536
 entry : s.x.entry < 18446744073709551616
 more : s.x.more < 18446744073709551616
 interp : s.x.interp.size <= 4294967296
 text : s.x.text.length <= 4294967296
 data : s.x.data.length <= 4294967296
 tc : s.x.text.length <= s.ct
 dc : s.x.data.length <= s.cd
 dyn : DqOk s.q
theorem uJg {P : Program} {t e : TypeId} {size bytes : Nat} (T : SlTy P t e size bytes) {W : World} {o : Oper} {a : Act} {K : Act -> World -> Prop} {Q : Exit -> Act -> World -> Prop} (s x : Operand)
  (ho : o.op = .call { callee := .builtin .append, args := #[s, x], argTypes := #[t, t] })
  (base : Nat) (v : Value) (n : Nat) (xs : List Value) (hs : a.eval s = v) (hown : W.ownsRow base e size v n xs)
  (cs : Array Value) (g : Nat) (hx : a.eval x = .slice (some ⟨g, 0, none⟩) 1 1) (hg : g = W.heap.size) (hcs : cs.size = size) (h1 : ∀ u ∈ cs.toList, u.oneCell' = true)
  (hb : (n + 1) * bytes <= 140737488355328) (hbase : base <= W.heap.size)
  (h : ∀ A' c' w', w'.ownsRow base e size (.slice A' (n + 1) c') (n + 1) (xs ++ cs.toList) -> W.grownBy w' v.ownBlock -> (∀ k, (Value.slice A' (n + 1) c').ownBlock = some k -> v.ownBlock = some k \/ W.heap.size <= k) -> K (a.put o.dst (.slice A' (n + 1) c')) w') : o.wp P a (W.alloc (.cells cs e)) K Q := by
 subst hg
 refine wp_app T s x ho base v n xs hs (hown.alloc _) (W.heap.size + 1) (some ⟨W.heap.size, 0, none⟩) 1 1 cs.toList hx (Rd.row hcs) h1 hb (by simp; omega) fun v' w' h2 h3 h4 => ?_
 obtain ⟨A', c', rfl⟩ := yJd h2
 refine h A' c' w' h2 (yJ5 (World.grownBy_alloc W _ _) h3) (fun k hk => ?_)
 rcases h4 k hk with h5 | h5
 ·exact .inl h5
 ·refine .inr ?_
  simp at h5
  omega
theorem wJq {w : World} {base n c size : Nat} {A : Option Addr} {e : TypeId} {xs : List Value} (h : w.ownsRow base e size (.slice A n c) n xs) {p : Addr} (hp : bk A ≠ some p.block) (u : Value) : (w.setCell p u).ownsRow base e size (.slice A n c) n xs := by
 refine ⟨h.1, h.2.imp id ?_⟩
 rintro ⟨k, cap, cur, e1, e2, e3, r'⟩
 have hk : bk A = some k := by injection e1 with e1; rw [e1]; rfl
 exact ⟨k, cap, cur, e1, e2, (heap_setCell_other _ _ _ _ (fun e => hp (by rw [hk, e]))).trans e3, r'⟩
theorem own_grownG {w w' : World} {base n c size : Nat} {A A2 : Option Addr} {e : TypeId} {xs : List Value} (h : w.ownsRow base e size (.slice A n c) n xs) (hg : w.grownBy w' (bk A2)) (hp : ∀ k, bk A = some k -> bk A2 ≠ some k) : w'.ownsRow base e size (.slice A n c) n xs := by
 refine ⟨h.1, h.2.imp id ?_⟩
 rintro ⟨k, cap, cur, e1, e2, e3, r'⟩
 have hk : bk A = some k := by injection e1 with e1; rw [e1]; rfl
 exact ⟨k, cap, cur, e1, e2, (hg.block k (lt_of_block e3) (fun e => hp k hk e.symm)).trans e3, r'⟩
theorem zJp {w : World} {base n c size : Nat} {A : Option Addr} {e : TypeId} {xs : List Value} (h : w.ownsRow base e size (.slice A n c) n xs) : ∀ k, bk A = some k -> base <= k /\ k < w.heap.size := fun k hk => h.lt k (by rw [zJv]; exact hk)
structure Tb where
 Ah : Option Addr
 nh : Nat
 ch : Nat
 As : Option Addr
 ns : Nat
 cs : Nat
 Ao : Option Addr
 no : Nat
 co : Nat
 Aw : Option Addr
 nw : Nat
 cw : Nat
 At : Option Addr
 nt : Nat
 ct : Nat
 An : Option Addr
 nn : Nat
 cn : Nat
 so : Nat
 ru : Nat
def Tb.l (q : Tb) : List Value := [.slice q.Ah q.nh q.ch, .slice q.As q.ns q.cs, .slice q.Ao q.no q.co, .slice q.Aw q.nw q.cw, .slice q.At q.nt q.ct, .slice q.An q.nn q.cn, .int .u64 (q.so : Nat), .int .u64 (q.ru : Nat)]
structure TbM (w0 wr : World) (b0 gt : Nat) (q : Tb) (ts : List UInt8) (ps : List Nat) : Prop where
 blk : Blk wr gt 171 q.l
 texts : wr.ownsRow b0 5 1 (.slice q.At q.nt q.ct) q.nt (bys ts)
 needed : wr.ownsRow b0 46 1 (.slice q.An q.nn q.cn) q.nn (u64s ps)
 d1 : bk q.At ≠ some gt
 d2 : bk q.An ≠ some gt
 d3 : ∀ k, bk q.An = some k -> bk q.At ≠ some k
 bel : Below b0 w0 wr
 hg : b0 <= gt
 h0 : b0 <= w0.heap.size
section
variable {w0 wr w' w8 : World} {b0 gt : Nat} {q : Tb} {ts ts' : List UInt8} {ps : List Nat}
theorem TbM.sz (h : TbM w0 wr b0 gt q ts ps) : b0 <= wr.heap.size := Nat.le_trans h.h0 h.bel.size
theorem TbM.fi (h : TbM w0 wr b0 gt q ts ps) : FiM wr 171 gt 4 q.l b0 q.At q.nt q.ct ts := ⟨h.blk, rfl, h.texts, h.d1⟩
theorem TbM.put {At' : Option Addr} {nt' ct' : Nat} (h : TbM w0 wr b0 gt q ts ps) (e : FiE 171 gt 4 q.l b0 q.At wr w' At' nt' ct' ts') : TbM w0 w' b0 gt { q with At := At', nt := nt', ct := ct' } ts' ps := by
 obtain ⟨h1, h2⟩ := e.own h.needed h.d2 h.d3
 exact ⟨e.m.blk, e.m.row, h1, e.m.ne, h.d2, h2, h.bel.trans (e.below h.hg (fun k hk => (zJp h.texts k hk).1) h.sz), h.hg, h.h0⟩
theorem TbM.below (h : TbM w0 wr b0 gt q ts ps) (hb : Below wr.heap.size wr w') : TbM w0 w' b0 gt q ts ps := ⟨h.blk.belowSz hb, own_below h.texts hb, own_below h.needed hb, h.d1, h.d2, h.d3, h.bel.trans (hb.mono h.sz), h.hg, h.h0⟩
theorem TbM.set (h : TbM w0 wr b0 gt q ts ps) {q' : Tb} {i : Nat} {v : Value} (hl : q.l.set i v = q'.l) (h1 : q'.At = q.At) (h2 : q'.nt = q.nt) (h3 : q'.ct = q.ct) (h4 : q'.An = q.An) (h5 : q'.nn = q.nn) (h6 : q'.cn = q.cn) : TbM w0 (wr.setCell ⟨gt, i, none⟩ v) b0 gt q' ts ps := by
 refine ⟨by rw [<- hl]; exact h.blk.set i v, by rw [h1, h2, h3]; exact wJq h.texts h.d1 v, by rw [h4, h5, h6]; exact wJq h.needed h.d2 v, by rw [h1]; exact h.d1, by rw [h4]; exact h.d2, by rw [h1, h4]; exact h.d3, h.bel.setCell h.hg v, h.hg, h.h0⟩
theorem TbM.grow {A' : Option Addr} {c' p : Nat} (h : TbM w0 wr b0 gt q ts ps) (ho : w8.ownsRow b0 46 1 (.slice A' (q.nn + 1) c') (q.nn + 1) (u64s ps ++ [.int .u64 (p : Nat)])) (hg : wr.grownBy w8 (Value.slice q.An q.nn q.cn).ownBlock) (ha : ∀ k, (Value.slice A' (q.nn + 1) c').ownBlock = some k -> (Value.slice q.An q.nn q.cn).ownBlock = some k \/ wr.heap.size <= k) :
  Blk w8 gt 171 q.l /\ Below b0 w0 w8 /\ TbM w0 (w8.setCell ⟨gt, 5, none⟩ (.slice A' (q.nn + 1) c')) b0 gt { q with An := A', nn := q.nn + 1, cn := c' } ts (ps ++ [p]) := by
 rw [zJv] at hg
 have hA : ∀ k, bk A' = some k -> bk q.An = some k \/ wr.heap.size <= k := fun k hk => by have := ha k (by rw [zJv]; exact hk); rwa [zJv] at this
 have hb : Blk w8 gt 171 q.l := (hg.block gt h.blk.lt (fun e => h.d2 e.symm)).trans h.blk
 have ht := own_grownG h.texts hg (fun k hk hk2 => h.d3 k hk2 hk)
 have hd2 : bk A' ≠ some gt := fun e => by
  rcases hA gt e with h1 | h1
  ·exact h.d2 h1
  ·have := h.blk.lt; omega
 refine ⟨hb, h.bel.grown hg h.sz (fun k hk => (zJp h.needed k hk).1), ⟨hb.set 5 _, wJq ht h.d1 _, ?_, h.d1, hd2, fun k hk hk2 => ?_, (h.bel.grown hg h.sz (fun k hk => (zJp h.needed k hk).1)).setCell h.hg _, h.hg, h.h0⟩⟩
 ·have h1 := wJq ho (p := ⟨gt, 5, none⟩) hd2 (.slice A' (q.nn + 1) c')
  rw [show u64s (ps ++ [p]) = u64s ps ++ [.int .u64 (p : Nat)] by simp [u64s]]
  exact h1
 ·rcases hA k hk with h1 | h1
  ·exact h.d3 k h1 hk2
  ·have := (zJp h.texts k hk2).2; omega
end
theorem places_app (t : List UInt8) (a b : List ByteArray) : Mk.places t (a ++ b) = Mk.places t a ++ Mk.places (Mk.puts t a) b := by
 induction a generalizing t with
 | nil => rfl
 | cons s r ih =>
  show _ :: Mk.places (Mk.put t s) (r ++ b) = _
  rw [ih]
  rfl
theorem places_next {t : List UInt8} {l : List ByteArray} {j : Nat} {x : ByteArray} (h : l[j]? = some x) : Mk.places t (l.take (j + 1)) = Mk.places t (l.take j) ++ [Mk.place (Mk.puts t (l.take j)) x] /\ Mk.puts t (l.take (j + 1)) = Mk.put (Mk.puts t (l.take j)) x := by
 rw [List.take_add_one, h, places_app, puts_app]
 exact ⟨rfl, rfl⟩
theorem wJ0 (t : List UInt8) (l : List ByteArray) : (Mk.places t l).length = l.length := by
 induction l generalizing t with
 | nil => rfl
 | cons s r ih => simp [Mk.places, ih]
open Go.RowKit
theorem tbsInfoN : (Tryz.prog.info? 171).map (·.size) = some 8 := by kernel_rfl
theorem vJ9 {w : World} {base n c size k : Nat} {A : Option Addr} {e : TypeId} {xs : List Value} (h : w.ownsRow base e size (.slice A n c) n xs) (hk : k < base) (cs : Array Value) : (w.setRow k cs).ownsRow base e size (.slice A n c) n xs := by
 refine ⟨h.1, h.2.imp id ?_⟩
 rintro ⟨g, cap, cur, e1, e2, e3, r'⟩
 exact ⟨g, cap, cur, e1, e2, (setRow_other w k g cs (by omega)).trans e3, r'⟩
theorem tJ1 {w w' : World} {B k : Nat} (h : Below B w w') (hk : B <= k) (cs : Array Value) : Below B w (w'.setRow k cs) :=
 ⟨h.os, h.tape, h.output, by simpa [World.setRow] using h.size, fun i hi => (setRow_other w' k i cs (by omega)).trans (h.block i hi)⟩
def nq (At : Option Addr) (nt ct : Nat) (An : Option Addr) (nn cn : Nat) : Tb := ⟨none, 0, 0, none, 0, 0, none, 0, 0, none, 0, 0, At, nt, ct, An, nn, cn, 0, 0⟩
def nW0 (A : Option Addr) (n c : Nat) (w : World) : World := (nmW A n c w).alloc (.cells (nq none 0 0 none 0 0).l.toArray 171)
def nW1 (A : Option Addr) (n c : Nat) (w : World) : World := ((nW0 A n c w).alloc (.cells #[.int .u8 0] 5)).alloc (.cells (nq (some ⟨w.heap.size + 1 + 1, 0, none⟩) 1 1 none 0 0).l.toArray 171)
theorem nW_size (A : Option Addr) (n c : Nat) (w : World) : (nW0 A n c w).heap.size = w.heap.size + 1 + 1 := by simp [nW0, nmW]
theorem nW_below (A : Option Addr) (n c : Nat) (w : World) : Below w.heap.size w (nW0 A n c w) := (xJr A n c w).alloc (by rw [vJf]; omega) _
theorem nW_tb (A : Option Addr) (n c : Nat) (w : World) : TbM (nW0 A n c w) (nW1 A n c w) (w.heap.size + 1 + 1) (w.heap.size + 1 + 1 + 1) (nq (some ⟨w.heap.size + 1 + 1, 0, none⟩) 1 1 none 0 0) [0] [] := by
 have e0 := nW_size A n c w
 have e1 : ((nW0 A n c w).alloc (.cells #[.int .u8 0] 5)).heap.size = w.heap.size + 1 + 1 + 1 := by simp [e0]
 have hb := Blk.new ((nW0 A n c w).alloc (.cells #[.int .u8 0] 5)) 171 (nq (some ⟨w.heap.size + 1 + 1, 0, none⟩) 1 1 none 0 0).l
 rw [e1] at hb
 have hr := (Blk.new (nW0 A n c w) 5 [.int .u8 0]).alloc (.cells (nq (some ⟨w.heap.size + 1 + 1, 0, none⟩) 1 1 none 0 0).l.toArray 171)
 rw [e0] at hr
 refine ⟨hb, ⟨rfl, .inr ⟨_, 1, _, rfl, Nat.le_refl _, hr, Nat.le_refl 1, by show (1 : Nat) <= _; unfold maxLen; omega, rfl, rfl⟩⟩, World.ownsRow_nil _ _ _ _, by simp [bk, nq], by simp [bk, nq], fun k hk => by simp [bk, nq] at hk, ((Below.refl _ _).alloc (by omega) _).alloc (by simp [e0]) _, by omega, by omega⟩
set_option maxRecDepth 100000 in
theorem rtputN (p : Option Addr) (w : World) : Calls Tryz.prog 126 #[.pointer p, .string ⟨#[]⟩] w fun e w' => e = .returned (.int .u64 0) /\ w = w' := by
 have hem := wJs
 go_enter Tryz.func126, Tryz.ntmps126
 go_wp2_with fail
 go_ret
 exact ⟨rfl, rfl⟩
def TabN (l : List ByteArray) (w : World) (e : Ending) (w' : World) : Prop :=
 ∃ At nt ct An cn, e = .returned (.agg (nq At nt ct An l.length cn).l.toArray) /\ w'.ownsRow w.heap.size 5 1 (.slice At nt ct) nt (bys (Mk.puts [0] l)) /\ w'.ownsRow w.heap.size 46 1 (.slice An l.length cn) l.length (u64s (Mk.places [0] l)) /\ Below w.heap.size w w'
set_option maxRecDepth 100000 in
set_option maxHeartbeats 8000000 in
theorem rtablesN (l : List ByteArray) (A : Option Addr) (c B : Nat) (w : World) (hB : B <= w.heap.size) (h : Rd w B 1 A l.length (l.map Value.string)) (n1 : l.length <= 8) (hs : ∀ s ∈ l, s.size <= 4294967296) :
  Calls Tryz.prog 75 #[.agg (nmL A l.length c).toArray] w (TabN l w) := by
 have hb0 := nW_below A l.length c w
 have HT0 := zJ2 (nW_tb A l.length c w)
 have Hx : Hid (∀ W, Below (w.heap.size + 1 + 1) (nW0 A l.length c w) W -> Blk W w.heap.size 119 (nmL A l.length c) /\ Blk W (w.heap.size + 1) 171 (nq none 0 0 none 0 0).l /\ Rd W B 1 A l.length (l.map Value.string)) := zJ2 (fun W hW => ⟨((nm_blk A l.length c w).alloc _).below hW (by omega), by
  have h9 := Blk.new (nmW A l.length c w) 171 (nq none 0 0 none 0 0).l
  rw [vJf] at h9
  exact Blk.below h9 hW (by omega), (h.below (hb0.mono hB)).below (hW.mono (by omega))⟩)
 have Hb0 := zJ2 hb0
 have HS0z := zJ2 (nW_size A l.length c w)
 have Hn1 := zJ2 n1
 have Hs := zJ2 hs
 have KT := zJ2 rtputN
 have KR := zJ2 rrelasN
 clear hb0 h hs
 obtain ⟨nml, hnml⟩ : ∃ nml, nml = nmL A l.length c := ⟨_, rfl⟩
 unfold nW1 nW0 nmW nmL Tb.l nq at *
 go_enter Tryz.func75, Tryz.ntmps75
 go_wp2_with fail
 generalize hW1 : ((((w.alloc (.cells #[.int .u16 3, .int .u64 0, .string ⟨#[]⟩, .slice none 0 0, .slice none 0 0, .int .u64 0, .bool true, .slice A l.length c, .string ⟨#[]⟩, .string ⟨#[]⟩, .slice none 0 0, .slice none 0 0, .int .i64 0] 119)).alloc (.cells #[.slice none 0 0, .slice none 0 0, .slice none 0 0, .slice none 0 0, .slice none 0 0, .slice none 0 0, .int .u64 0, .int .u64 0] 171)).alloc (.cells #[.int .u8 0] 5)).alloc (.cells #[.slice none 0 0, .slice none 0 0, .slice none 0 0, .slice none 0 0, .slice (some ⟨w.heap.size + 1 + 1, 0, none⟩) 1 1, .slice none 0 0, .int .u64 0, .int .u64 0] 171)) = W1 at *
 generalize ((w.alloc (.cells #[.int .u16 3, .int .u64 0, .string ⟨#[]⟩, .slice none 0 0, .slice none 0 0, .int .u64 0, .bool true, .slice A l.length c, .string ⟨#[]⟩, .string ⟨#[]⟩, .slice none 0 0, .slice none 0 0, .int .i64 0] 119)).alloc (.cells #[.slice none 0 0, .slice none 0 0, .slice none 0 0, .slice none 0 0, .slice none 0 0, .slice none 0 0, .int .u64 0, .int .u64 0] 171)) = W0 at *
 clear hW1
 go_loopg [4] l.length (fun gk iv wr => ∃ (i : Nat) (q : Tb), gk = l.length - i /\ i <= l.length /\ iv = .int .i64 i /\ TbM W0 wr (w.heap.size + 1 + 1) (w.heap.size + 1 + 1 + 1) q (Mk.puts [0] (l.take i)) (Mk.places [0] (l.take i)) /\ ∃ At nt ct An cn, q = nq At nt ct An i cn)
 case atStart => exact ⟨0, _, by omega, by omega, rfl, zJ1 HT0, _, _, _, _, _, rfl⟩
 case round =>
 clear HT0
 obtain ⟨i, q, hgk, hi, rfl, hT, hq⟩ := hrel
 have Hgk := zJ2 hgk
 have y7 := ((zJ1 Hx) wr hT.bel).1.cell (i := 7) rfl
 have i7 : l.length <= 8 := zJ1 Hn1
 have hnn : q.nn = i := by obtain ⟨_, _, _, _, _, rfl⟩ := hq; rfl
 have Hq := zJ2 hq
 have hsz := hT.sz
 have hnq : q.nn <= 8 := by omega
 have HT := zJ2 hT
 clear hgk hT hnn hq
 by_cases hlt : i < l.length
 case neg =>
  obtain rfl : i = l.length := by omega
  have hT := zJ1 HT
  rw [List.take_length] at hT
  obtain ⟨At, nt, ct, An, cn, rfl⟩ := zJ1 Hq
  obtain ⟨a0, a1, a2, a3, a4, a5, a6, a7, a8, a9, a10, a11, a12⟩ := zJr ((zJ1 Hx) wr hT.bel).1
  have z6 := hT.blk.cell (i := 6) rfl
  have f6 := hT.blk.free 6
  have hT3 := hT.set (q' := nq At nt ct An l.length cn) (i := 6) (v := .int .u64 0) rfl rfl rfl rfl rfl rfl rfl
  have c9 := ((zJ1 Hx) _ hT3.bel).1.cell (i := 9) rfl
  have HT3 := zJ2 hT3
  clear hT hT3 HT Hq
  go_wp2_with fail
  refine ((zJ1 KT) _ _).mono ?_
  rintro e w1 ⟨rfl, rfl⟩
  go_wp2_with fail
  refine ((zJ1 KT) _ _).mono ?_
  rintro e w1 ⟨rfl, rfl⟩
  have hT3 := zJ1 HT3
  have z7 := hT3.blk.cell (i := 7) rfl
  have f7 := hT3.blk.free 7
  have hT4 := hT3.set (q' := nq At nt ct An l.length cn) (i := 7) (v := .int .u64 0) rfl rfl rfl rfl rfl rfl rfl
  obtain ⟨-, -, -, -, -, -, -, -, -, -, b10, b11, b12⟩ := zJr ((zJ1 Hx) _ hT4.bel).1
  have HT4 := zJ2 hT4
  clear hT3 hT4 HT3 z6 f6 c9 a0 a1 a2 a3 a4 a5 a6 a7 a8 a9 a10 a11 a12
  go_wp2_with fail
  refine ((zJ1 KR) _).mono ?_
  rintro e w1 ⟨rfl, rfl⟩
  have hT4 := zJ1 HT4
  have z2 := hT4.blk.cell (i := 2) rfl
  have f2 := hT4.blk.free 2
  have hT5 := hT4.set (q' := nq At nt ct An l.length cn) (i := 2) (v := .slice none 0 0) rfl rfl rfl rfl rfl rfl rfl
  obtain ⟨-, -, -, -, -, -, -, -, -, -, -, c11, -⟩ := zJr ((zJ1 Hx) _ hT5.bel).1
  have HT5 := zJ2 hT5
  clear hT4 hT5 HT4 z7 f7 b10 b11 b12
  go_wp2_with fail
  refine ((zJ1 KR) _).mono ?_
  rintro e w1 ⟨rfl, rfl⟩
  have hT5 := zJ1 HT5
  have z3 := hT5.blk.cell (i := 3) rfl
  have f3 := hT5.blk.free 3
  have hT6 := hT5.set (q' := nq At nt ct An l.length cn) (i := 3) (v := .slice none 0 0) rfl rfl rfl rfl rfl rfl rfl
  have hbk := hT6.blk
  have l0 := hbk.cell (i := 0) rfl
  have l1 := hbk.cell (i := 1) rfl
  have l2 := hbk.cell (i := 2) rfl
  have l3 := hbk.cell (i := 3) rfl
  have l4 := hbk.cell (i := 4) rfl
  have l5 := hbk.cell (i := 5) rfl
  have l6 := hbk.cell (i := 6) rfl
  have l7 := hbk.cell (i := 7) rfl
  have HRes := zJ2 ((zJ1 Hx) _ hT6.bel).2.1
  have HBW := zJ2 ((zJ1 Hb0).trans (hT6.bel.mono (by omega : w.heap.size <= w.heap.size + 1 + 1)))
  have HT6 := zJ2 hT6
  clear hT5 hT6 HT5 hbk z2 f2 c11
  go_wp2_with ((with_reducible refine (@id (wpList _ _ _ (Oper.mk none (Op.store 171 (.tmp 2) (.tmp 77)) _ _ _ none :: _) _ _) ?_)); refine wpList_store_row rfl 171 (.tmp 2) (.tmp 77) rfl (w.heap.size + 1) (nq At nt ct An l.length cn).l.toArray rfl rfl 171 _ (zJ1 HRes) tbsInfoN rfl (by simp [Tb.l, nq, Value.oneCell']) ?_)
  refine bodyPost_ret (results_cell_row (P := Tryz.prog) rfl _ _ (w.heap.size + 1) 171 (nq At nt ct An l.length cn).l.toArray (0, 0) _ rfl (setRow_heap _ _ _ _ _ _ (zJ1 HRes)) Tryz.underlying171 rfl tbsInfoN) rfl ?_
  exact ⟨At, nt, ct, An, cn, rfl, zJd (vJ9 (zJ1 HT6).texts (by omega) _) (by omega), zJd (vJ9 (zJ1 HT6).needed (by omega) _) (by omega), tJ1 (zJ1 HBW) (by omega) _⟩
 obtain ⟨nm, hnm⟩ : ∃ nm, l[i]? = some nm := ⟨_, List.getElem?_eq_getElem hlt⟩
 have hrdN : Rd wr B 1 A l.length (l.map Value.string) := ((zJ1 Hx) wr (zJ1 HT).bel).2.2
 obtain ⟨b1, o1, hA1, hb1, st⟩ := hrdN.at_ (k := i) (u := .string nm) (by simp [hnm])
 have hnms : nm.size <= 4294967296 := (zJ1 Hs) nm (List.mem_of_getElem? hnm)
 rw [hA1] at y7
 clear hA1
 have HSA : Hid (∀ W, Below (w.heap.size + 1 + 1) wr W -> W.cell? ⟨w.heap.size, 7, none⟩ = some (.slice (some ⟨b1, o1, none⟩) l.length c) /\ W.cell? ⟨b1, o1 + i, none⟩ = some (.string nm)) := zJ2 (fun W hW => ⟨(hW.cell (p := ⟨w.heap.size, 7, none⟩) (by show w.heap.size < _; omega)).trans y7, (hW.cell (p := ⟨b1, o1 + i, none⟩) (by show b1 < _; omega)).trans st⟩)
 obtain ⟨hpl1, hpl2⟩ := places_next (t := [0]) hnm
 have hTd := (zJ1 HT).below (zJ3 (Below.refl wr.heap.size wr))
 have hts : q.nt <= 68719476752 := by
  have h1 := hTd.fi.len
  have h2 := puts_le (t := [0]) (l := l.take i) (fun x hx => (zJ1 Hs) x (List.mem_of_mem_take hx))
  have h3 : (l.take i).length <= 8 := by rw [List.length_take]; omega
  have h4 : (l.take i).length * 4294967297 <= 8 * 4294967297 := Nat.mul_le_mul_right _ h3
  simp at h2
  omega
 have KP := zJ2 (rtput_any _ _ _ _ _ _ _ _ _ nm wr.drew hTd.fi hTd.sz (by omega) hnms)
 have HTd := zJ2 hTd
 have Hpl1 := zJ2 hpl1
 have Hpl2 := zJ2 hpl2
 have z5 := (zJ1 HT).blk.cell (i := 5) rfl
 generalize Mk.place (Mk.puts [0] (l.take i)) nm = pl at *
 have u2 : wr.cell? ⟨w.heap.size, 7, none⟩ = some (.slice (some ⟨b1, o1, none⟩) l.length c) /\ wr.cell? ⟨b1, o1 + i, none⟩ = some (.string nm) := ⟨y7, st⟩
 have ilt : (i : Int) < (l.length : Int) := by omega
 clear hTd hpl1 hpl2 hrdN hnm
 go_wp2_with fail
 go_wp2_with fail
 refine wp_region_noPanic ?_
 refine wp_region_held_drew (S := fun W => W.cell? ⟨w.heap.size, 7, none⟩ = some (.slice (some ⟨b1, o1, none⟩) l.length c) /\ W.cell? ⟨b1, o1 + i, none⟩ = some (.string nm)) (by kernel_rfl) (u2) (fun HS0 => ?_)
 refine takeD (i := 0) (d := some 17) (v := ?_) rfl rfl (by kernel_rfl) (by kernel_rfl) (by kernel_rfl) (fun _ _ _ h => h) (Or.inl ⟨by rfl, ?y0⟩) HS0 ?_
 case y0 => (intro w' hSw; (try dsimp only at hSw); go_simp; (try with_reducible rfl))
 simp only [Act.put, List.setIfInBounds_toArray, List.set_cons_zero, List.set_cons_succ]
 refine takeD (i := 2) (d := some 19) (v := ?_) rfl rfl (by kernel_rfl) (by kernel_rfl) (by kernel_rfl) (fun _ _ _ h => h) (Or.inl ⟨by rfl, ?y2⟩) HS0 ?_
 case y2 => (intro w' hSw; (try dsimp only at hSw); go_simp; (try with_reducible rfl))
 simp only [Act.put, List.setIfInBounds_toArray, List.set_cons_zero, List.set_cons_succ]
 refine takeD (i := 3) (d := some 20) (v := ?_) rfl rfl (by kernel_rfl) (by kernel_rfl) (by kernel_rfl) (fun _ _ _ h => h) (Or.inl ⟨by rfl, ?y3⟩) HS0 ?_
 case y3 => (intro w' hSw; (try dsimp only at hSw); go_simp; (try with_reducible rfl))
 simp only [Act.put, List.setIfInBounds_toArray, List.set_cons_zero, List.set_cons_succ]
 refine takeD (i := 4) (d := some 21) (v := ?_) rfl rfl (by kernel_rfl) (by kernel_rfl) (by kernel_rfl) (fun _ _ _ h => h) (Or.inl ⟨by rfl, ?y4⟩) HS0 ?_
 case y4 => (intro w' hSw; (try dsimp only at hSw); go_simp; (try with_reducible rfl))
 simp only [Act.put, List.setIfInBounds_toArray, List.set_cons_zero, List.set_cons_succ]
 refine takeD (i := 5) (d := some 22) (v := ?_) rfl rfl (by kernel_rfl) (by kernel_rfl) (by kernel_rfl) (fun _ _ _ h => h) (Or.inl ⟨by rfl, ?y5⟩) HS0 ?_
 case y5 => (intro w' hSw; (try dsimp only at hSw); go_simp; (try with_reducible rfl))
 simp only [Act.put, List.setIfInBounds_toArray, List.set_cons_zero, List.set_cons_succ]
 refine takeD (i := 6) (d := some 23) (v := ?_) rfl rfl (by kernel_rfl) (by kernel_rfl) (by kernel_rfl) (fun _ _ _ h => h) (Or.inl ⟨by rfl, ?y6⟩) HS0 ?_
 case y6 => (intro w' hSw; (try dsimp only at hSw); go_simp; (try with_reducible rfl))
 simp only [Act.put, List.setIfInBounds_toArray, List.set_cons_zero, List.set_cons_succ]
 refine takeD (i := 7) (d := some 24) (v := ?_) rfl rfl (by kernel_rfl) (by kernel_rfl) (by kernel_rfl) (fun _ _ _ h => h) (Or.inl ⟨by rfl, ?y7⟩) HS0 ?_
 case y7 => (intro w' hSw; (try dsimp only at hSw); go_simp; (try with_reducible rfl))
 simp only [Act.put, List.setIfInBounds_toArray, List.set_cons_zero, List.set_cons_succ]
 refine takeD (i := 8) (d := some 25) (v := ?_) rfl rfl (by kernel_rfl) (by kernel_rfl) (by kernel_rfl) (fun _ _ _ h => h) (Or.inl ⟨by rfl, ?y8⟩) HS0 ?_
 case y8 => (intro w' hSw; (try dsimp only at hSw); go_simp; (try with_reducible rfl))
 simp only [Act.put, List.setIfInBounds_toArray, List.set_cons_zero, List.set_cons_succ]
 refine wpAnyH_ready (rs := [1, 9]) (by kernel_rfl) (by simp) ?_
 refine AllReadyH.cons (i := 1) rfl (fun K hK => ?way1) (AllReadyH.cons (i := 9) rfl (fun K hK => ?way9) AllReadyH.nil)
 case way1 =>
  rw [if_pos (by rfl)]
  go_simp
  refine hK.out _ _ HS0 (fun hHeld => ?_)
  clear hK K HS0
  have HS0 := hHeld
  clear hHeld
  (try simp only [Act.put, List.setIfInBounds_toArray, List.set_cons_zero, List.set_cons_succ])
  refine wpAnyH_ready (rs := [9]) (by kernel_rfl) (by simp) ?_
  refine AllReadyH.cons (i := 9) rfl (fun K hK => ?_) AllReadyH.nil
  rw [if_pos (by rfl)]
  go_simp
  go_at_call 126
  refine (zJ1 KP).mono ?_
  rintro e w5 ⟨At5, nt5, ct5, rfl, hE5⟩
  have HT5 := zJ2 ((zJ1 HTd).put hE5)
  have hb5 := (zJ3 (Below.refl (w.heap.size + 1 + 1) wr)).trans (hE5.below (zJ1 HTd).hg (fun k hk => (zJp (zJ1 HTd).texts k hk).1) (zJ1 HTd).sz)
  have Hb5 := zJ2 hb5
  have z5 := (zJ1 HT5).blk.cell (i := 5) rfl
  clear hE5 hb5
  refine hK.out _ _ ((zJ1 HSA) _ (zJ1 Hb5)) (fun hHeld => ?_)
  clear hK K HS0
  have HS0 := hHeld
  clear hHeld
  (try simp only [Act.put, List.setIfInBounds_toArray, List.set_cons_zero, List.set_cons_succ])
  refine wpAnyH_ready (rs := [10]) (by kernel_rfl) (by simp) ?_
  refine AllReadyH.cons (i := 10) rfl (fun K hK => ?_) AllReadyH.nil
  rw [if_pos (by rfl)]
  go_simp
  have z5 := ((zJ1 HT5).blk.alloc (.cells #[.int .u64 (pl : Nat)] 46)).cell (i := 5) rfl
  refine hK.out _ _ ((zJ1 HSA) _ ((zJ1 Hb5).alloc (zJ1 HT5).sz _)) (fun hHeld => ?_)
  clear hK K HS0
  have HS0 := hHeld
  clear hHeld
  (try simp only [Act.put, List.setIfInBounds_toArray, List.set_cons_zero, List.set_cons_succ])
  refine wpAnyH_ready (rs := [11]) (by kernel_rfl) (by simp) ?_
  refine AllReadyH.cons (i := 11) rfl (fun K hK => ?_) AllReadyH.nil
  rw [if_pos (by rfl)]
  refine uJg u64Ty _ _ rfl (w.heap.size + 1 + 1) (.slice q.An q.nn q.cn) q.nn _ rfl (zJ1 HT5).needed #[.int .u64 (pl : Nat)] _ rfl (by simp) rfl (by intro u hu; simp at hu; rcases hu with rfl; rfl) (by omega) (zJ1 HT5).sz ?_
  intro A8 c8 w8 ho8 hg8 hat8
  obtain ⟨hb8, hbel8, hT8⟩ := (zJ1 HT5).grow ho8 hg8 hat8
  have z8 := hb8.cell (i := 5) rfl
  have g8 := hb8.free 5
  have HT8 := zJ2 hT8
  have hB8 : Below (w.heap.size + 1 + 1) wr w8 := ((zJ1 Hb5).grown hg8 (zJ1 HT5).sz (fun k hk => ((zJ1 HT5).needed.lt k hk).1))
  clear ho8 hg8 hat8 hT8 hb8 hbel8
  refine hK.out _ _ ((zJ1 HSA) _ hB8) (fun hHeld => ?_)
  clear hK K HS0
  have HS0 := hHeld
  clear hHeld
  (try simp only [Act.put, List.setIfInBounds_toArray, List.set_cons_zero, List.set_cons_succ])
  refine takeD (i := 12) (d := some 29) (v := ?_) rfl rfl (by kernel_rfl) (by kernel_rfl) (by kernel_rfl) (fun _ _ _ h => h) (Or.inl ⟨by rfl, ?y12⟩) HS0 ?_
  case y12 => (intro w' hSw; (try dsimp only at hSw); go_simp; (try with_reducible rfl))
  simp only [Act.put, List.setIfInBounds_toArray, List.set_cons_zero, List.set_cons_succ]
  refine wpAnyH_ready (rs := [13]) (by kernel_rfl) (by simp) ?_
  refine AllReadyH.cons (i := 13) rfl (fun K hK => ?_) AllReadyH.nil
  rw [if_pos (by rfl)]
  go_simp
  refine hK.out _ _ ((zJ1 HSA) _ (hB8.setCell (zJ1 HT8).hg _)) (fun hHeld => ?_)
  clear hK K HS0
  have HS0 := hHeld
  clear hHeld
  (try simp only [Act.put, List.setIfInBounds_toArray, List.set_cons_zero, List.set_cons_succ])
  refine wpAnyH_done (by kernel_rfl) ?_ _
  refine NoPanic.normal ?_
  clear HS0 u2 z5 z8 g8 hB8 y7 st KP
  go_wp2_with fail
  go_roundg (l.length - (i + 1))
  case measure => have := zJ1 Hgk; omega
  case rel =>
   have h := zJ1 HT8
   rw [<- zJ1 Hpl1, <- zJ1 Hpl2] at h
   exact ⟨i + 1, _, rfl, by omega, by go_num, h, by obtain ⟨_, _, _, _, _, hq⟩ := zJ1 Hq; rw [hq]; exact ⟨_, _, _, _, _, rfl⟩⟩
 case way9 =>
  rw [if_pos (by rfl)]
  go_simp
  go_at_call 126
  refine (zJ1 KP).mono ?_
  rintro e w5 ⟨At5, nt5, ct5, rfl, hE5⟩
  have HT5 := zJ2 ((zJ1 HTd).put hE5)
  have hb5 := (zJ3 (Below.refl (w.heap.size + 1 + 1) wr)).trans (hE5.below (zJ1 HTd).hg (fun k hk => (zJp (zJ1 HTd).texts k hk).1) (zJ1 HTd).sz)
  have Hb5 := zJ2 hb5
  have z5 := (zJ1 HT5).blk.cell (i := 5) rfl
  clear hE5 hb5
  refine hK.out _ _ ((zJ1 HSA) _ (zJ1 Hb5)) (fun hHeld => ?_)
  clear hK K HS0
  have HS0 := hHeld
  clear hHeld
  (try simp only [Act.put, List.setIfInBounds_toArray, List.set_cons_zero, List.set_cons_succ])
  refine wpAnyH_ready (rs := [1, 10]) (by kernel_rfl) (by simp) ?_
  refine AllReadyH.cons (i := 1) rfl (fun K hK => ?way1) (AllReadyH.cons (i := 10) rfl (fun K hK => ?way10) AllReadyH.nil)
  case way1 =>
   rw [if_pos (by rfl)]
   go_simp
   refine hK.out _ _ HS0 (fun hHeld => ?_)
   clear hK K HS0
   have HS0 := hHeld
   clear hHeld
   (try simp only [Act.put, List.setIfInBounds_toArray, List.set_cons_zero, List.set_cons_succ])
   refine wpAnyH_ready (rs := [10]) (by kernel_rfl) (by simp) ?_
   refine AllReadyH.cons (i := 10) rfl (fun K hK => ?_) AllReadyH.nil
   rw [if_pos (by rfl)]
   go_simp
   have z5 := ((zJ1 HT5).blk.alloc (.cells #[.int .u64 (pl : Nat)] 46)).cell (i := 5) rfl
   refine hK.out _ _ ((zJ1 HSA) _ ((zJ1 Hb5).alloc (zJ1 HT5).sz _)) (fun hHeld => ?_)
   clear hK K HS0
   have HS0 := hHeld
   clear hHeld
   (try simp only [Act.put, List.setIfInBounds_toArray, List.set_cons_zero, List.set_cons_succ])
   refine wpAnyH_ready (rs := [11]) (by kernel_rfl) (by simp) ?_
   refine AllReadyH.cons (i := 11) rfl (fun K hK => ?_) AllReadyH.nil
   rw [if_pos (by rfl)]
   refine uJg u64Ty _ _ rfl (w.heap.size + 1 + 1) (.slice q.An q.nn q.cn) q.nn _ rfl (zJ1 HT5).needed #[.int .u64 (pl : Nat)] _ rfl (by simp) rfl (by intro u hu; simp at hu; rcases hu with rfl; rfl) (by omega) (zJ1 HT5).sz ?_
   intro A8 c8 w8 ho8 hg8 hat8
   obtain ⟨hb8, hbel8, hT8⟩ := (zJ1 HT5).grow ho8 hg8 hat8
   have z8 := hb8.cell (i := 5) rfl
   have g8 := hb8.free 5
   have HT8 := zJ2 hT8
   have hB8 : Below (w.heap.size + 1 + 1) wr w8 := ((zJ1 Hb5).grown hg8 (zJ1 HT5).sz (fun k hk => ((zJ1 HT5).needed.lt k hk).1))
   clear ho8 hg8 hat8 hT8 hb8 hbel8
   refine hK.out _ _ ((zJ1 HSA) _ hB8) (fun hHeld => ?_)
   clear hK K HS0
   have HS0 := hHeld
   clear hHeld
   (try simp only [Act.put, List.setIfInBounds_toArray, List.set_cons_zero, List.set_cons_succ])
   refine takeD (i := 12) (d := some 29) (v := ?_) rfl rfl (by kernel_rfl) (by kernel_rfl) (by kernel_rfl) (fun _ _ _ h => h) (Or.inl ⟨by rfl, ?y12⟩) HS0 ?_
   case y12 => (intro w' hSw; (try dsimp only at hSw); go_simp; (try with_reducible rfl))
   simp only [Act.put, List.setIfInBounds_toArray, List.set_cons_zero, List.set_cons_succ]
   refine wpAnyH_ready (rs := [13]) (by kernel_rfl) (by simp) ?_
   refine AllReadyH.cons (i := 13) rfl (fun K hK => ?_) AllReadyH.nil
   rw [if_pos (by rfl)]
   go_simp
   refine hK.out _ _ ((zJ1 HSA) _ (hB8.setCell (zJ1 HT8).hg _)) (fun hHeld => ?_)
   clear hK K HS0
   have HS0 := hHeld
   clear hHeld
   (try simp only [Act.put, List.setIfInBounds_toArray, List.set_cons_zero, List.set_cons_succ])
   refine wpAnyH_done (by kernel_rfl) ?_ _
   refine NoPanic.normal ?_
   clear HS0 u2 z5 z8 g8 hB8 y7 st KP
   go_wp2_with fail
   go_roundg (l.length - (i + 1))
   case measure => have := zJ1 Hgk; omega
   case rel =>
    have h := zJ1 HT8
    rw [<- zJ1 Hpl1, <- zJ1 Hpl2] at h
    exact ⟨i + 1, _, rfl, by omega, by go_num, h, by obtain ⟨_, _, _, _, _, hq⟩ := zJ1 Hq; rw [hq]; exact ⟨_, _, _, _, _, rfl⟩⟩
  case way10 =>
   rw [if_pos (by rfl)]
   go_simp
   have z5 := ((zJ1 HT5).blk.alloc (.cells #[.int .u64 (pl : Nat)] 46)).cell (i := 5) rfl
   refine hK.out _ _ ((zJ1 HSA) _ ((zJ1 Hb5).alloc (zJ1 HT5).sz _)) (fun hHeld => ?_)
   clear hK K HS0
   have HS0 := hHeld
   clear hHeld
   (try simp only [Act.put, List.setIfInBounds_toArray, List.set_cons_zero, List.set_cons_succ])
   refine wpAnyH_ready (rs := [1]) (by kernel_rfl) (by simp) ?_
   refine AllReadyH.cons (i := 1) rfl (fun K hK => ?_) AllReadyH.nil
   rw [if_pos (by rfl)]
   go_simp
   refine hK.out _ _ HS0 (fun hHeld => ?_)
   clear hK K HS0
   have HS0 := hHeld
   clear hHeld
   (try simp only [Act.put, List.setIfInBounds_toArray, List.set_cons_zero, List.set_cons_succ])
   refine wpAnyH_ready (rs := [11]) (by kernel_rfl) (by simp) ?_
   refine AllReadyH.cons (i := 11) rfl (fun K hK => ?_) AllReadyH.nil
   rw [if_pos (by rfl)]
   refine uJg u64Ty _ _ rfl (w.heap.size + 1 + 1) (.slice q.An q.nn q.cn) q.nn _ rfl (zJ1 HT5).needed #[.int .u64 (pl : Nat)] _ rfl (by simp) rfl (by intro u hu; simp at hu; rcases hu with rfl; rfl) (by omega) (zJ1 HT5).sz ?_
   intro A8 c8 w8 ho8 hg8 hat8
   obtain ⟨hb8, hbel8, hT8⟩ := (zJ1 HT5).grow ho8 hg8 hat8
   have z8 := hb8.cell (i := 5) rfl
   have g8 := hb8.free 5
   have HT8 := zJ2 hT8
   have hB8 : Below (w.heap.size + 1 + 1) wr w8 := ((zJ1 Hb5).grown hg8 (zJ1 HT5).sz (fun k hk => ((zJ1 HT5).needed.lt k hk).1))
   clear ho8 hg8 hat8 hT8 hb8 hbel8
   refine hK.out _ _ ((zJ1 HSA) _ hB8) (fun hHeld => ?_)
   clear hK K HS0
   have HS0 := hHeld
   clear hHeld
   (try simp only [Act.put, List.setIfInBounds_toArray, List.set_cons_zero, List.set_cons_succ])
   refine takeD (i := 12) (d := some 29) (v := ?_) rfl rfl (by kernel_rfl) (by kernel_rfl) (by kernel_rfl) (fun _ _ _ h => h) (Or.inl ⟨by rfl, ?y12⟩) HS0 ?_
   case y12 => (intro w' hSw; (try dsimp only at hSw); go_simp; (try with_reducible rfl))
   simp only [Act.put, List.setIfInBounds_toArray, List.set_cons_zero, List.set_cons_succ]
   refine wpAnyH_ready (rs := [13]) (by kernel_rfl) (by simp) ?_
   refine AllReadyH.cons (i := 13) rfl (fun K hK => ?_) AllReadyH.nil
   rw [if_pos (by rfl)]
   go_simp
   refine hK.out _ _ ((zJ1 HSA) _ (hB8.setCell (zJ1 HT8).hg _)) (fun hHeld => ?_)
   clear hK K HS0
   have HS0 := hHeld
   clear hHeld
   (try simp only [Act.put, List.setIfInBounds_toArray, List.set_cons_zero, List.set_cons_succ])
   refine wpAnyH_done (by kernel_rfl) ?_ _
   refine NoPanic.normal ?_
   clear HS0 u2 z5 z8 g8 hB8 y7 st KP
   go_wp2_with fail
   go_roundg (l.length - (i + 1))
   case measure => have := zJ1 Hgk; omega
   case rel =>
    have h := zJ1 HT8
    rw [<- zJ1 Hpl1, <- zJ1 Hpl2] at h
    exact ⟨i + 1, _, rfl, by omega, by go_num, h, by obtain ⟨_, _, _, _, _, hq⟩ := zJ1 Hq; rw [hq]; exact ⟨_, _, _, _, _, rfl⟩⟩
structure SeS (g base : Nat) (A : Option Addr) (l : List Value) (W0 wr : World) (fs : List UInt8) (es : List (Nat × Nat)) (Ab : Option Addr) (nb cb : Nat) : Prop where
 fi : ∃ Af nf cf, FiE 160 g 0 l base A W0 wr Af nf cf fs /\ ∀ k, bk Ab = some k -> bk Af ≠ some k
 row : wr.ownsRow W0.heap.size 5 1 (.slice Ab nb cb) nb (bys (Mk.entsB es))
 hg : g < W0.heap.size
 hA : ∀ k, bk A = some k -> base <= k /\ k < W0.heap.size
section
variable {g base nb cb : Nat} {A Ab : Option Addr} {l : List Value} {W0 wr w' : World} {fs fs' ps : List UInt8} {es : List (Nat × Nat)}
theorem SeS.size (h : SeS g base A l W0 wr fs es Ab nb cb) : W0.heap.size <= wr.heap.size := by
 obtain ⟨Af, nf, cf, hE, -⟩ := h.fi
 exact hE.size
theorem SeS.abg (h : SeS g base A l W0 wr fs es Ab nb cb) : bk Ab ≠ some g := fun e => by have := (zJp h.row g e).1; have := h.hg; omega
theorem entsB_snoc (es : List (Nat × Nat)) (e : Nat × Nat) : Mk.entsB (es ++ [e]) = Mk.entsB es ++ Mk.pairB e := by unfold Mk.entsB; simp
theorem SeS.pair {a v c2 : Nat} {A2 : Option Addr} (h : SeS g base A l W0 wr fs es Ab nb cb) (G : Grew wr w' W0.heap.size (.slice Ab nb cb) (.slice A2 (nb + 16) c2) (nb + 16) (Mk.entsB es ++ Mk.pairB (a, v))) : SeS g base A l W0 w' fs (es ++ [(a, v)]) A2 (nb + 16) c2 := by
 obtain ⟨Af, nf, cf, hE, hd⟩ := h.fi
 have hk : wr.grownBy w' (bk Ab) := by have := G.kept; rwa [zJv] at this
 refine ⟨⟨Af, nf, cf, hE.grown hk h.abg (fun k hk1 hk2 => hd k hk2 hk1) (fun k hk => (zJp h.row k hk).1), fun k hk1 hk2 => ?_⟩, by rw [entsB_snoc]; exact G.own, h.hg, h.hA⟩
 rcases G.at_ k (by rw [zJv]; exact hk1) with h1 | h1
 ·rw [zJv] at h1; exact hd k h1 hk2
 ·have := hE.m.lt k hk2; omega
theorem SeS.putE {Af Af2 : Option Addr} {nf cf nf2 cf2 : Nat} (h : SeS g base A l W0 wr fs es Ab nb cb) (hE : FiE 160 g 0 l base A W0 wr Af nf cf fs) (hd : ∀ k, bk Ab = some k -> bk Af ≠ some k) (E : FiE 160 g 0 (l.set 0 (.slice Af nf cf)) base Af wr w' Af2 nf2 cf2 fs') : SeS g base A l W0 w' fs' es Ab nb cb := by
 obtain ⟨h1, h2⟩ := E.own h.row h.abg hd
 exact ⟨⟨Af2, nf2, cf2, hE.trans E, h2⟩, h1, h.hg, h.hA⟩
theorem SeS.own {b2 size n2 c2 : Nat} {A2 : Option Addr} {e : TypeId} {ys : List Value} (h : SeS g base A l W0 wr fs es Ab nb cb) (r : W0.ownsRow b2 e size (.slice A2 n2 c2) n2 ys) (h1 : bk A2 ≠ some g) (h2 : ∀ k, bk A2 = some k -> bk A ≠ some k) :
  wr.ownsRow b2 e size (.slice A2 n2 c2) n2 ys := by
 obtain ⟨Af, nf, cf, hE, -⟩ := h.fi
 exact (hE.own r h1 h2).1
theorem SeS.blk {t : TypeId} {k : Nat} {l2 : List Value} (h : SeS g base A l W0 wr fs es Ab nb cb) (b : Blk W0 k t l2) (h1 : k ≠ g) (h2 : bk A ≠ some k) : Blk wr k t l2 := by
 obtain ⟨Af, nf, cf, hE, -⟩ := h.fi
 exact hE.blk b h1 h2
theorem SeS.callPair (h : SeS g base A l W0 wr fs es Ab nb cb) (a v : Nat) (ha : a < 18446744073709551616) (hv : v < 18446744073709551616) (hn : nb <= 35184372088832) (ai vi : Int) (hai : ai = (a : Nat)) (hvi : vi = (v : Nat)) :
  Calls Tryz.prog 125 #[.slice Ab nb cb, .int .u64 ai, .int .u64 vi] wr fun e w' => ∃ A2 c2, e = .returned (.slice A2 (nb + 16) c2) /\ SeS g base A l W0 w' fs (es ++ [(a, v)]) A2 (nb + 16) c2 := by
 subst hai hvi
 refine (rpair_any Ab nb cb W0.heap.size (Mk.entsB es) a v wr h.row h.size hn ha hv).mono ?_
 rintro e w1 ⟨A2, c2, rfl, G⟩
 exact ⟨A2, c2, rfl, h.pair G⟩
theorem SeS.callPut (h : SeS g base A l W0 wr fs es Ab nb cb) {b0 : Nat} (hl1 : l[1]? = some (.int .u64 (b0 : Nat))) (hb0 : b0 <= 4294967296) (hbase : base <= W0.heap.size) (hfs : fs.length <= 4294967296) {b2 np cp : Nat} {Ap : Option Addr} (r : W0.ownsRow b2 5 1 (.slice Ap np cp) np (bys ps)) (hnp : np <= 4294967296) (h1 : bk Ap ≠ some g) (h2 : ∀ k, bk Ap = some k -> bk A ≠ some k) :
  Calls Tryz.prog 73 #[.pointer (some ⟨g, 0, none⟩), .slice Ap np cp] wr fun e w' => e = .returned (.int .u64 (b0 + (Mk.pad 8 fs).length : Nat)) /\ SeS g base A l W0 w' (Mk.pad 8 fs ++ ps) es Ab nb cb := by
 obtain ⟨Af, nf, cf, hE, hd⟩ := h.fi
 obtain ⟨r1, r2⟩ := hE.own r h1 h2
 have hl := hE.m.len
 refine (rfput_any _ g _ base b0 Af nf cf fs Ap np cp ps wr hE.m (by rw [List.getElem?_set_ne (by omega)]; exact hl1) (Nat.le_trans hbase hE.size) (by omega) hnp hb0 (Rd.of_own r1) h1 r2).mono ?_
 rintro e w1 ⟨A2, n2, c2, rfl, E⟩
 exact ⟨rfl, h.putE hE hd E⟩
end
theorem pad_le (m : Nat) (hm : 0 < m) (f : List UInt8) : (Mk.pad m f).length < f.length + m := by
 unfold Mk.pad
 rw [List.length_append, vJw]
 have := gap_lt (m := m) (n := f.length) hm
 omega
theorem texts0_pos (t : List UInt8) (l : List ByteArray) : t.length <= (Mk.puts t l).length := by
 induction l generalizing t with
 | nil => exact Nat.le_refl _
 | cons s r ih =>
  have h1 := ih (Mk.put t s)
  have h2 : t.length <= (Mk.put t s).length := by unfold Mk.put; split <;> simp <;> omega
  exact Nat.le_trans h2 h1
open Go.RowKit
theorem FiE.copy {t : TypeId} {g o base n1 c1 kf : Nat} {l : List Value} {A : Option Addr} {w w1 : World} {xs1 ys : List UInt8} (h : FiE t g o l base A w w1 (some ⟨kf, 0, none⟩) n1 c1 xs1) (cs : Array Value) (ho : (w1.setRow kf cs).ownsRow base 5 1 (.slice (some ⟨kf, 0, none⟩) n1 c1) n1 (bys ys)) : FiE t g o l base A w (w1.setRow kf cs) (some ⟨kf, 0, none⟩) n1 c1 ys :=
 ⟨⟨(setRow_other w1 kf g cs (fun e => h.m.ne (by rw [e]; rfl))).trans h.m.blk, h.m.at_, ho, h.m.ne⟩, h.os, h.tape, h.output, by simpa [World.setRow] using h.size, fun k hk h1 h2 => (setRow_other w1 kf k cs (fun e => by
  rcases h.at_ kf rfl with h3 | h3
  ·rw [<- e] at h3; exact h2 h3
  ·omega)).trans (h.block k hk h1 h2), h.at_⟩
theorem pairB_len (e : Nat × Nat) : (Mk.pairB e).length = 16 := by unfold Mk.pairB; simp [Cl.lb_len]
theorem entsB_len (l : List (Nat × Nat)) : (Mk.entsB l).length = 16 * l.length := by
 unfold Mk.entsB
 induction l with
 | nil => rfl
 | cons s r ih => rw [List.flatMap_cons, List.length_append, pairB_len, ih, List.length_cons, Nat.mul_succ]; omega
theorem tell_len (k a n : Nat) : (Mk.tell k a n).length = (Mk.tell k 0 0).length := by
 unfold Mk.tell
 split <;> rfl
theorem fold_len (b : Nat) (l : List (Nat × List UInt8)) : ∀ st, (l.foldl (Mk.stepPart b) st).2.length = st.2.length + (Mk.told l).length /\ st.1.length <= (l.foldl (Mk.stepPart b) st).1.length := by
 induction l with
 | nil => intro st; simp [Mk.told]
 | cons p r ih =>
  intro st
  obtain ⟨h1, h2⟩ := ih (Mk.stepPart b st p)
  rw [List.foldl_cons, h1]
  refine ⟨?_, Nat.le_trans ?_ h2⟩
  ·unfold Mk.stepPart Mk.told
   simp only [List.length_append, List.flatMap_cons]
   rw [tell_len]
   omega
  ·unfold Mk.stepPart Mk.pad
   simp only [List.length_append]
   omega
theorem laid_len (x : Mk.Spec) (f : List UInt8) : (Mk.laidParts x f).2.length = (Mk.heads2 x.dyn ++ Mk.told (Mk.parts x)).length := by
 unfold Mk.laidParts
 rw [(fold_len _ _ _).1, List.length_append]
theorem places_le (t : List UInt8) (l : List ByteArray) : ∀ p ∈ Mk.places t l, p <= (Mk.puts t l).length := by
 induction l generalizing t with
 | nil => intro p h; cases h
 | cons s r ih =>
  intro p h
  rcases List.mem_cons.1 h with rfl | h
  ·have h1 : Mk.place t s <= t.length := by unfold Mk.place; split <;> omega
   exact Nat.le_trans h1 (texts0_pos t (s :: r))
  ·exact ih (Mk.put t s) p h
theorem u8sz : (Tryz.prog.info? 5).map (·.size) = some 1 := by kernel_rfl
theorem over_take {l ys : List Value} {p m n : Nat} (hm : ys.length = m) (h : p + m <= n) (hn : n <= l.length) : (l.take p ++ ys ++ l.drop (p + m)).take n = (l.take n).take p ++ ys ++ (l.take n).drop (p + m) := by
 have h1 : (l.take p ++ ys).length = p + m := by rw [List.length_append, List.length_take, hm]; omega
 rw [List.take_append, h1, List.take_of_length_le (by omega), List.take_take, Nat.min_eq_left (by omega), List.drop_take]
theorem wp_copyB {o : Oper} {a : Act} {w : World} {K : Act -> World -> Prop} {Q : Exit -> Act -> World -> Prop} (d x : Operand) (ho : o.op = .call { callee := .builtin .copy, args := #[d, x], argTypes := #[64, 64] }) (k p dn dc base nf cf : Nat) (fs ys : List UInt8)
  (hd : a.eval d = .slice (some ⟨k, p, none⟩) dn dc) (hown : w.ownsRow base 5 1 (.slice (some ⟨k, 0, none⟩) nf cf) nf (bys fs)) (b2 o2 m cx B : Nat) (hx : a.eval x = .slice (some ⟨b2, o2, none⟩) m cx) (hr : Rd w B 1 (some ⟨b2, o2, none⟩) m (bys ys)) (hm : m <= dn) (hdn : p + m <= nf)
  (h : ∀ w', w'.ownsRow base 5 1 (.slice (some ⟨k, 0, none⟩) nf cf) nf (bys (Mk.over fs p ys)) -> (∃ cs, w' = w.setRow k cs) -> K (a.put o.dst (.int .i64 m)) w') : o.wp Tryz.prog a w K Q := by
 have hml : (bys ys).length = m := hr.len1
 have hyl : ys.length = m := by simpa [bys] using hml
 rcases hown.2 with ⟨e0, _⟩ | ⟨g, cap, cur, e0, hb, hg, hnc, hcm, hcs, ht⟩
 ·injection e0 with e0; cases e0
 ·injection e0 with e0 _ e3
  injection e0 with e0
  injection e0 with e0
  subst e0 e3
  have hcs' : cur.size = cf := by simpa using hcs
  have hcell : ∀ j v, (bys ys)[j]? = some v -> w.cell? ((⟨b2, o2, none⟩ : Addr).add j) = some v := by
   intro j v hv
   obtain ⟨b, o', e, _, hc⟩ := hr.at_ hv
   injection e with e
   injection e with e4 e5
   subst e4 e5
   rw [Addr.add_lit]
   exact hc
  have hrr := run_copy_row (P := Tryz.prog) w 64 64 o.type 5 k p dn dc ⟨b2, o2, none⟩ m cx cur 5 (bys ys) Tryz.underlying64 u8sz hg (by rw [hml]; exact (Nat.min_eq_left hm).symm) hcell (by rw [hml]; omega) (zJm _)
  unfold Oper.wp execOp
  simp only [ho, resolve, invoke, builtin, Sem.run_bind, Sem.run_pure, Result.andThen_ok, List.map_toArray, List.map_cons, List.map_nil, hd, hx, hrr, hml]
  refine h _ ⟨?_, .inr ⟨k, cf, _, rfl, hb, setRow_heap _ _ _ _ _ _ hg, hnc, hcm, ?_, ?_⟩⟩ ⟨_, rfl⟩
  ·have h1 := hown.1
   simp only [bys, List.length_map] at h1 ⊢
   unfold Mk.over
   simp only [List.length_append, List.length_take, List.length_drop]
   omega
  ·simp only [List.size_toArray, List.length_append, List.length_take, List.length_drop, Array.length_toList, hml]
   omega
  ·rw [show nf * 1 = nf from Nat.mul_one _] at ht ⊢
   show (cur.toList.take p ++ bys ys ++ cur.toList.drop (p + m)).take nf = _
   rw [over_take hml hdn (by rw [Array.length_toList]; omega), ht]
   unfold Mk.over
   rw [hyl]
   simp [bys, List.map_take, List.map_drop]
def nents (l : List ByteArray) (p n : Nat) : List (Nat × Nat) := (Mk.places [0] l).map (fun q => (1, q)) ++ [(5, p)] ++ [(10, n)] ++ [(0, 0)]
def nroom (l : List ByteArray) (xs : List UInt8) : List UInt8 := Mk.pad 8 xs ++ Mk.zs (16 * (l.length + 3))
def nsec (l : List ByteArray) (xs : List UInt8) : List UInt8 := Mk.over (Mk.pad 8 (nroom l xs) ++ Mk.puts [0] l) (Mk.pad 8 xs).length (Mk.entsB (nents l (Mk.pad 8 (nroom l xs)).length (Mk.puts [0] l).length))
theorem nents_len (l : List ByteArray) (p n : Nat) : (Mk.entsB (nents l p n)).length = 16 * (l.length + 3) := by
 rw [entsB_len]
 unfold nents
 simp [wJ0]
set_option maxRecDepth 100000 in
set_option maxHeartbeats 8000000 in
theorem rsectionN (l : List ByteArray) (At : Option Addr) (nt ct : Nat) (An : Option Addr) (cn T0 g base : Nat) (fl : List Value) (A : Option Addr) (n c : Nat) (xs : List UInt8) (w : World) (hT : w.ownsRow T0 5 1 (.slice At nt ct) nt (bys (Mk.puts [0] l))) (hN : w.ownsRow T0 46 1 (.slice An l.length cn) l.length (u64s (Mk.places [0] l))) (h : FiM w 160 g 0 fl base A n c xs) (hl1 : fl[1]? = some (.int .u64 0))
  (hgT : g < T0) (hAT : ∀ k, bk A = some k -> k < T0) (hbase : base <= w.heap.size) (hn : n <= 1073741824) (htx : (Mk.puts [0] l).length <= 1073741824) (n1 : l.length <= 8) :
  Calls Tryz.prog 74 #[.pointer (some ⟨g, 0, none⟩), .agg (nq At nt ct An l.length cn).l.toArray] w fun e w' => ∃ A' n' c', e = .returned (.tuple #[.int .u64 ((Mk.pad 8 xs).length : Nat), .int .u64 (16 * (l.length + 3) : Nat)]) /\ FiE 160 g 0 fl base A w w' A' n' c' (nsec l xs) := by
 have hntl : nt = (Mk.puts [0] l).length := by have h1 := hT.1; simp [bys] at h1; omega
 have hb1 : Below w.heap.size w (w.alloc (.cells #[.slice none 0 0, .slice none 0 0, .slice none 0 0, .slice none 0 0, .slice At nt ct, .slice An l.length cn, .int .u64 0, .int .u64 0] 171)) := (Below.refl _ _).alloc (Nat.le_refl _) _
 have hbl := Blk.new w 171 (nq At nt ct An l.length cn).l
 have hfi := h.below hb1
 have hAl := h.lt
 have hgl := h.blk.lt
 have e1 : (w.alloc (.cells #[.slice none 0 0, .slice none 0 0, .slice none 0 0, .slice none 0 0, .slice At nt ct, .slice An l.length cn, .int .u64 0, .int .u64 0] 171)).heap.size = w.heap.size + 1 := by simp
 have HTx := zJ2 (own_below hT hb1)
 have HNd := zJ2 (own_below hN hb1)
 have y0 := hbl.cell (i := 0) rfl
 have y1 := hbl.cell (i := 1) rfl
 have y2 := hbl.cell (i := 2) rfl
 have y3 := hbl.cell (i := 3) rfl
 have y4 := hbl.cell (i := 4) rfl
 have y5 := hbl.cell (i := 5) rfl
 have y6 := hbl.cell (i := 6) rfl
 have y7 := hbl.cell (i := 7) rfl
 have KSz := zJ2 (fun W => rsizeN At An nt ct l.length cn W (by omega))
 obtain ⟨i, hi, hz0, hz1, hz2⟩ := info_parts yJo
 have Hi := zJ2 hi
 have Hz0 := zJ2 hz0
 have Hz1 := zJ2 hz1
 have Hz2 := zJ2 hz2
 have Hb1 := zJ2 hb1
 have Hbl := zJ2 hbl
 have Hfi := zJ2 hfi
 have HAl := zJ2 hAl
 have HE1 := zJ2 e1
 have Hntl := zJ2 hntl
 have Hl1 := zJ2 hl1
 have HAT := zJ2 hAT
 have hxl : xs.length = n := h.len
 have Hxl := zJ2 hxl
 have hnt : nt <= 1073741824 := by omega
 clear hi hz0 hz1 hz2 hb1 hbl hfi hAl e1 hl1 hAT hT hN h hxl hntl
 unfold Tb.l nq at *
 go_enter Tryz.func74, Tryz.ntmps74
 go_wp2_with fail
 refine ((zJ1 KSz) _).mono ?_
 rintro e w1 ⟨rfl, hbz⟩
 generalize (w.alloc (.cells #[.slice none 0 0, .slice none 0 0, .slice none 0 0, .slice none 0 0, .slice At nt ct, .slice An l.length cn, .int .u64 0, .int .u64 0] 171)) = W0 at *
 have hW0 := zJ1 HE1
 have hsz1 := hbz.size
 have Hbz := zJ2 hbz
 obtain ⟨sz, hsz⟩ : ∃ sz, l.length + 3 = sz := ⟨_, rfl⟩
 rw [hsz]
 have hsz22 : sz <= 11 := by omega
 have Hsz := zJ2 hsz
 clear hbz y0 y1 y2 y3 y4 y5 y6 y7 KSz hsz
 go_wp2_with (at_make; refine wpList_make_full _ rfl _ _ 64 rfl w1.heap.size 5 i (.int .u8 0) 1 Tryz.underlying64 (zJ1 Hi) (zJ1 Hz0) (zJ1 Hz1) _ _ _ _ (16 * sz) rfl (by rfl) rfl (by rfl) (by rw [zJ1 Hz2]; omega) (by unfold maxLen; omega) (Nat.le_refl _) ?_; intro w2 hown hgrow; have hb2 := (Below.refl w1.heap.size w1).grown hgrow (Nat.le_refl _) (fun k hk => by cases hk); have Hown := zJ2 hown; have Hb2 := zJ2 hb2; clear hown hgrow hb2)
 have ho := zJ1 Hown
 rw [zerosN] at ho
 have hW2 : Below W0.heap.size W0 w2 := (zJ1 Hbz).trans ((zJ1 Hb2).mono hsz1)
 have hfi2 := (zJ1 Hfi).below hW2
 have hz2 := hW2.size
 have KP := zJ2 (rfput_any _ g fl base 0 A n c xs (some ⟨w1.heap.size, 0, none⟩) (16 * sz) (16 * sz) (Mk.zs (16 * sz)) w2 hfi2 (zJ1 Hl1) (by omega) (by omega) (by omega) (by omega) (Rd.of_own ho) (by intro e; injection e with e; have : w1.heap.size = g := e; omega) (fun k hk hk2 => by injection hk with hk; have h9 : w1.heap.size = k := hk; have := (zJ1 HAl) k hk2; omega))
 simp only [Nat.zero_add] at KP
 have HW2 := zJ2 hW2
 clear ho hfi2 hW2
 refine (zJ1 KP).mono ?_
 rintro e w3 ⟨A3, n3', c3, rfl, hE3⟩
 have hS0 : SeS g base A fl W0 w3 (Mk.pad 8 xs ++ Mk.zs (16 * sz)) [] none 0 0 := ⟨⟨A3, n3', c3, FiE.after (zJ1 HW2) hE3, by simp [bk]⟩, World.ownsRow_nil _ _ _ _, by omega, fun k hk => by have := (zJ1 HAl) k hk; omega⟩
 have hpl := pad_le 8 (by omega) xs
 rw [zJ1 Hxl] at hpl
 obtain ⟨p0, hp0⟩ : ∃ p0, (Mk.pad 8 xs).length = p0 := ⟨_, rfl⟩
 rw [hp0] at hpl
 rw [hp0]
 have hp0b : p0 <= 1073741840 := by omega
 have Hp0 := zJ2 hp0
 have hfs0 : (Mk.pad 8 xs ++ Mk.zs (16 * sz)).length = p0 + 16 * sz := by rw [List.length_append, vJw, hp0]
 obtain ⟨fs0, hfsq⟩ : ∃ fs0, Mk.pad 8 xs ++ Mk.zs (16 * sz) = fs0 := ⟨_, rfl⟩
 rw [hfsq] at hS0 hfs0
 have HS0 := zJ2 hS0
 have Hfs0 := zJ2 hfs0
 have Hfsq := zJ2 hfsq
 have hWb : base <= W0.heap.size := by omega
 clear hfsq hE3 hS0 KP HW2 hz2 hp0 hpl hfs0 Hown Hb2 Hbz
 go_wp2_with fail
 go_loopg [8, 9] l.length (fun gk bv iv wr => ∃ (i : Nat) (Ab : Option Addr) (cb : Nat), gk = l.length - i /\ i <= l.length /\ iv = .int .i64 i /\ bv = .slice Ab (16 * i) cb /\ SeS g base A fl W0 wr fs0 (((Mk.places [0] l).take i).map fun p => (1, p)) Ab (16 * i) cb)
 case atStart => exact ⟨0, none, 0, by omega, by omega, rfl, rfl, zJ1 HS0⟩
 case round =>
 clear HS0
 obtain ⟨i, Ab, cb, hgk, hi, rfl, rfl, hS⟩ := hrel
 have Hgk := zJ2 hgk
 have hB := hS.blk (zJ1 Hbl) (by omega) (fun e => by have := (zJ1 HAl) _ e; omega)
 have y5 := hB.cell (i := 5) rfl
 have hnd := hS.own (zJ1 HNd) (fun e => by have := (zJp (zJ1 HNd) g e).1; omega) (fun k h1 h2 => by have := (zJp (zJ1 HNd) k h1).1; have := (zJ1 HAT) k h2; omega)
 have HS := zJ2 hS
 have hsz3 := hS.size
 clear hgk hS
 by_cases hlt : i < l.length
 ·obtain ⟨pv, hpv⟩ : ∃ pv, (Mk.places [0] l)[i]? = some pv := ⟨_, List.getElem?_eq_getElem (by rw [wJ0]; exact hlt)⟩
  obtain ⟨b1, o1, hA1, hb1, st⟩ := (Rd.of_own hnd).at_ (k := i) (u := .int .u64 (pv : Nat)) (by simp [u64s, hpv])
  rw [hA1] at y5
  have hpv64 : pv < 18446744073709551616 := by
   have h1 := places_le [0] l pv (List.mem_of_getElem? hpv)
   omega
  have KPr := zJ2 ((zJ1 HS).callPair 1 pv (by omega) hpv64 (by omega) _ _ rfl rfl)
  have Hpv := zJ2 hpv
  clear hA1 hpv hnd hB
  go_wp2_with fail
  refine (zJ1 KPr).mono ?_
  rintro e w4 ⟨A4, c4, rfl, hS4⟩
  have HS4 := zJ2 hS4
  have Hn16 := zJ2 (show 16 * (i + 1) = 16 * i + 16 by omega)
  clear hS4 KPr y5 st
  go_wp2_with fail
  go_roundg (l.length - (i + 1))
  case measure => have := zJ1 Hgk; omega
  case rel => exact ⟨i + 1, A4, c4, rfl, by omega, by go_num, by rw [zJ1 Hn16], by rw [zJ1 Hn16, List.take_add_one, zJ1 Hpv, List.map_append]; exact zJ1 HS4⟩
 obtain rfl : i = l.length := by omega
 have hS := zJ1 HS
 rw [List.take_of_length_le (by rw [wJ0]; exact Nat.le_refl _)] at hS
 have y1 := hB.cell (i := 1) rfl
 have y2 := hB.cell (i := 2) rfl
 have y3 := hB.cell (i := 3) rfl
 have y4 := hB.cell (i := 4) rfl
 have y6 := hB.cell (i := 6) rfl
 have y7 := hB.cell (i := 7) rfl
 have hf0 : fs0.length <= 1073742100 := by have := zJ1 Hfs0; omega
 have hpd := pad_le 8 (by omega) fs0
 have KP := zJ2 (hS.callPut (zJ1 Hl1) (show 0 <= 4294967296 by omega) hWb (by omega) (zJ1 HTx) (by omega) (fun e => by have := (zJp (zJ1 HTx) g e).1; omega) (fun k h1 h2 => by have := (zJp (zJ1 HTx) k h1).1; have := (zJ1 HAT) k h2; omega))
 simp only [Nat.zero_add] at KP
 clear hS HS hnd hB hlt
 go_wp2_with fail
 refine (zJ1 KP).mono ?_
 rintro e v0 ⟨rfl, hS⟩
 have hpl0 : (Mk.pad 8 fs0).length <= 1073742200 := by omega
 have KP1 := zJ2 (hS.callPair 5 ((Mk.pad 8 fs0).length) (by omega) (by omega) (by omega) _ _ (by rfl) (by rfl))
 clear hS KP y1 y2 y3 y4 y5 y6 y7
 go_wp2_with fail
 refine (zJ1 KP1).mono ?_
 rintro e v1 ⟨A1p, c1p, rfl, hS⟩
 have hB := hS.blk (zJ1 Hbl) (by omega) (fun e => by have := (zJ1 HAl) _ e; omega)
 have y4 := hB.cell (i := 4) rfl
 have KP2 := zJ2 (hS.callPair 10 nt (by omega) (by omega) (by omega) _ _ (by rfl) (by rfl))
 clear hS hB KP1
 go_wp2_with fail
 refine (zJ1 KP2).mono ?_
 rintro e v2 ⟨A2p, c2p, rfl, hS⟩
 have KP3 := zJ2 (hS.callPair 0 0 (by omega) (by omega) (by omega) _ _ (by rfl) (by rfl))
 clear hS KP2 y4
 go_wp2_with fail
 refine (zJ1 KP3).mono ?_
 rintro e v3 ⟨A3p, c3p, rfl, hS⟩
 have hnb16 : 16 * l.length + 16 + 16 + 16 = 16 * sz := by have := zJ1 Hsz; omega
 rw [hnb16] at hS
 rw [hnb16]
 have hsz3' : 3 <= sz := by omega
 clear hnb16
 obtain ⟨Af, nf, cf, hE, hd⟩ := hS.fi
 have hnf := hE.m.len
 rw [List.length_append, <- zJ1 Hntl] at hnf
 have hpd2 : fs0.length <= (Mk.pad 8 fs0).length := by unfold Mk.pad; rw [List.length_append]; omega
 have hnf2 : p0 + 16 * sz <= nf := by have := zJ1 Hfs0; omega
 clear hnf hpd2
 obtain ⟨kf, hkf, -, hkf2⟩ := yJx hE.m.row (by omega)
 subst hkf
 obtain ⟨kb, hkb, -, -⟩ := yJx hS.row (by omega)
 subst hkb
 have hcf := (own_at hE.m.row).2.2
 have x0 := hE.m.cell
 have x1 := hE.m.blk.cell (i := 1) (by rw [List.getElem?_set_ne (by omega)]; exact zJ1 Hl1)
 have ks : ∀ w', (Instr.slice 64 (.slice (some ⟨kf, 0, none⟩) nf cf) (some (.int .u64 (p0 : Nat))) none none).run Tryz.prog w' = .ok (.slice (some ⟨kf, p0, none⟩) (nf - p0) (cf - p0)) w' := fun w' => by
  have h := yJp (P := Tryz.prog) Tryz.underlying64 u8sz .u64 (some ⟨kf, 0, none⟩) nf cf p0 (by omega) w'
  unfold fromA at h
  rw [if_neg (by omega), Option.map_some, Addr.add_lit, Nat.zero_add] at h
  exact h
 have hsub : (p0 : Int) - 0 = (p0 : Int) := by omega
 have hwp : IntKind.u64.wrap (p0 : Int) = (p0 : Int) := by rw [IntKind.wrap_u64]; omega
 have hgk : g ≠ kf := fun e => hE.m.ne (by rw [<- e]; rfl)
 have HS9 := zJ2 hS
 have HE9 := zJ2 hE
 have Hcpr := zJ2 (Rd.of_own hS.row)
 clear hS hE KP3
 go_wp2_with fail
 refine wp_region_noPanic ?_
 refine wp_region_held_drew (S := fun W => W.cell? ⟨g, 0, none⟩ = some (.slice (some ⟨kf, 0, none⟩) nf cf) /\ W.cell? ⟨g, 1, none⟩ = some (.int .u64 0)) (by kernel_rfl) (⟨x0, x1⟩) (fun HS0 => ?_)
 refine takeD (i := 0) (d := some 115) (v := ?_) rfl rfl (by kernel_rfl) (by kernel_rfl) (by kernel_rfl) (fun _ _ _ h => h) (Or.inl ⟨by rfl, ?y0⟩) HS0 ?_
 case y0 => (intro w' hSw; (try dsimp only at hSw); go_simp; (try with_reducible rfl))
 simp only [Act.put, List.setIfInBounds_toArray, List.set_cons_zero, List.set_cons_succ]
 refine takeD (i := 1) (d := some 116) (v := ?_) rfl rfl (by kernel_rfl) (by kernel_rfl) (by kernel_rfl) (fun _ _ _ h => h) (Or.inl ⟨by rfl, ?y1⟩) HS0 ?_
 case y1 => (intro w' hSw; (try dsimp only at hSw); go_simp; (try with_reducible rfl))
 simp only [Act.put, List.setIfInBounds_toArray, List.set_cons_zero, List.set_cons_succ]
 refine takeD (i := 2) (d := some 117) (v := ?_) rfl rfl (by kernel_rfl) (by kernel_rfl) (by kernel_rfl) (fun _ _ _ h => h) (Or.inl ⟨by rfl, ?y2⟩) HS0 ?_
 case y2 => (intro w' hSw; (try dsimp only at hSw); go_simp; (try with_reducible rfl))
 simp only [Act.put, List.setIfInBounds_toArray, List.set_cons_zero, List.set_cons_succ]
 refine takeD (i := 3) (d := some 118) (v := ?_) rfl rfl (by kernel_rfl) (by kernel_rfl) (by kernel_rfl) (fun _ _ _ h => h) (Or.inl ⟨by rfl, ?y3⟩) HS0 ?_
 case y3 => (intro w' hSw; (try dsimp only at hSw); go_simp; (try with_reducible rfl))
 simp only [Act.put, List.setIfInBounds_toArray, List.set_cons_zero, List.set_cons_succ]
 refine takeD (i := 4) (d := some 119) (v := ?_) rfl rfl (by kernel_rfl) (by kernel_rfl) (by kernel_rfl) (fun _ _ _ h => h) (Or.inl ⟨by rfl, ?y4⟩) HS0 ?_
 case y4 => (intro w' hSw; (try dsimp only at hSw); go_simp; (try with_reducible rfl))
 simp only [Act.put, List.setIfInBounds_toArray, List.set_cons_zero, List.set_cons_succ]
 refine takeD (i := 5) (d := some 120) (v := ?_) rfl rfl (by kernel_rfl) (by kernel_rfl) (by kernel_rfl) (fun _ _ _ h => h) (Or.inl ⟨by rfl, ?y5⟩) HS0 ?_
 case y5 => (intro w' hSw; (try dsimp only at hSw); go_simp; (try with_reducible rfl))
 simp only [Act.put, List.setIfInBounds_toArray, List.set_cons_zero, List.set_cons_succ]
 refine takeD (i := 6) (d := some 121) (v := ?_) rfl rfl (by kernel_rfl) (by kernel_rfl) (by kernel_rfl) (fun _ _ _ h => h) (Or.inl ⟨by rfl, ?y6⟩) HS0 ?_
 case y6 => (intro w' hSw; (try dsimp only at hSw); go_simp; (try with_reducible rfl))
 simp only [Act.put, List.setIfInBounds_toArray, List.set_cons_zero, List.set_cons_succ]
 refine takeD (i := 7) (d := some 122) (v := ?_) rfl rfl (by kernel_rfl) (by kernel_rfl) (by kernel_rfl) (fun _ _ _ h => h) (Or.inl ⟨by rfl, ?y7⟩) HS0 ?_
 case y7 => (intro w' hSw; (try dsimp only at hSw); go_simp; (try with_reducible rfl))
 simp only [Act.put, List.setIfInBounds_toArray, List.set_cons_zero, List.set_cons_succ]
 refine takeD (i := 8) (d := some 123) (v := ?_) rfl rfl (by kernel_rfl) (by kernel_rfl) (by kernel_rfl) (fun _ _ _ h => h) (Or.inl ⟨by rfl, ?y8⟩) HS0 ?_
 case y8 => (intro w' hSw; (try dsimp only at hSw); go_simp; (try with_reducible rfl))
 simp only [Act.put, List.setIfInBounds_toArray, List.set_cons_zero, List.set_cons_succ]
 refine takeD (i := 9) (d := some 124) (v := .int .u64 (p0 : Nat)) rfl rfl (by kernel_rfl) (by kernel_rfl) (by kernel_rfl) (fun _ _ _ h => h) (Or.inl ⟨by rfl, ?y9⟩) HS0 ?_
 case y9 => (intro w' hSw; (try dsimp only at hSw); go_simp; (try simp only [hsub]); (try rw [hwp]))
 simp only [Act.put, List.setIfInBounds_toArray, List.set_cons_zero, List.set_cons_succ]
 refine takeD (i := 10) (d := some 125) (v := .slice (some ⟨kf, p0, none⟩) (nf - p0) (cf - p0)) rfl rfl (by kernel_rfl) (by kernel_rfl) (by kernel_rfl) (fun _ _ _ h => h) (Or.inl ⟨by rfl, ?y10⟩) HS0 ?_
 case y10 => (intro w' hSw; (try dsimp only at hSw); go_simp; (try simp [ks]))
 simp only [Act.put, List.setIfInBounds_toArray, List.set_cons_zero, List.set_cons_succ]
 refine takeD (i := 11) (d := some 126) (v := ?_) rfl rfl (by kernel_rfl) (by kernel_rfl) (by kernel_rfl) (fun _ _ _ h => h) (Or.inl ⟨by rfl, ?y11⟩) HS0 ?_
 case y11 => (intro w' hSw; (try dsimp only at hSw); go_simp; (try with_reducible rfl))
 simp only [Act.put, List.setIfInBounds_toArray, List.set_cons_zero, List.set_cons_succ]
 refine wpAnyH_ready (rs := [12]) (by kernel_rfl) (by simp) ?_
 refine AllReadyH.cons (i := 12) rfl (fun K hK => ?_) AllReadyH.nil
 rw [if_pos (by rfl)]
 refine wp_copyB (.tmp 125) (.tmp 126) rfl kf p0 (nf - p0) (cf - p0) base nf cf _ _ rfl (zJ1 HE9).m.row kb 0 (16 * sz) c3p _ rfl (zJ1 Hcpr) (by omega) (by omega) ?_
 rintro w9 ho9 ⟨cs, rfl⟩
 have hEF := (zJ1 HE9).copy cs ho9
 have HEF := zJ2 hEF
 clear ho9 hEF
 refine hK.out _ _ (⟨(yJe (setRow_other _ kf g cs hgk) 0).trans x0, (yJe (setRow_other _ kf g cs hgk) 1).trans x1⟩) (fun hHeld => ?_)
 clear hK K HS0
 have HS0 := hHeld
 clear hHeld
 (try simp only [Act.put, List.setIfInBounds_toArray, List.set_cons_zero, List.set_cons_succ])
 refine wpAnyH_done (by kernel_rfl) ?_ _
 refine NoPanic.normal ?_
 have hw16 : IntKind.u64.wrap (16 * (sz : Int)) = 16 * (sz : Int) := by rw [IntKind.wrap_u64]; omega
 have Hw16 := zJ2 hw16
 clear HS0 x0 x1 ks hsub hwp hw16
 go_wp2_with fail
 go_ret2
 have hsec : nsec l xs = Mk.over (Mk.pad 8 fs0 ++ Mk.puts [0] l) p0 (Mk.entsB (nents l (Mk.pad 8 fs0).length nt)) := by unfold nsec nroom; rw [zJ1 Hsz, zJ1 Hfsq, zJ1 Hp0, <- zJ1 Hntl]
 rw [hsec, zJ1 Hp0]
 exact ⟨some ⟨kf, 0, none⟩, nf, cf, by first | rfl | (rw [zJ1 Hw16]; rfl) | (simp; have := zJ1 Hsz; omega), FiE.after (zJ1 Hb1) ((zJ1 HEF).then_ (zJ3 (Below.refl _ _)))⟩
end Go.Proofs.YtiiiblmhlhikkaaGreatDoor
namespace Go.Proofs.YtiiiblmhlhikkaaGreatDoor
open Go.RowKit Go.Lib
structure ItKp (B : Nat) (w w' : World) : Prop where
 os : w'.os = w.os
 tape : w'.tape = w.tape
 output : w'.output = w.output
 size : w.heap.size <= w'.heap.size
 low : ∀ k, k < B -> w'.heap[k]? = w.heap[k]?
 rest : ∀ (k : Nat) (o : Obj), w.heap[k]? = some o -> (∀ s p, o ≠ .stringIter s p) -> w'.heap[k]? = some o
def IterKept (w w' : World) : Prop := ∀ (k : Nat) (s : ByteArray) (p : Nat), w.heap[k]? = some (.stringIter s p) -> w'.heap[k]? = some (.stringIter s p)
theorem ItKp.iter {B : Nat} {w : World} (hB : B <= w.heap.size) (s : ByteArray) (p : Nat) : ItKp B w (w.iter s p) :=
 ⟨rfl, rfl, rfl, by simp [World.iter], fun k hk => Below.heap_alloc _ _ _ (by omega), fun k o h _ => by
  rw [<- h]
  exact Below.heap_alloc _ _ _ (Array.getElem?_eq_some_iff.1 h).1⟩
theorem ItKp.iterAt {B : Nat} {w : World} {k : Nat} (hB : B <= k) (s : ByteArray) (p q : Nat) (h : w.heap[k]? = some (.stringIter s q)) : ItKp B w (w.iterAt k s p) :=
 ⟨rfl, rfl, rfl, by rw [iterAt_size]; exact Nat.le_refl _, fun j hj => iterAt_other _ _ _ _ _ (by omega), fun j o hj hn => by
  by_cases e : j = k
  ·subst e
   rw [h] at hj
   exact absurd (Option.some.inj hj).symm (hn _ _)
  ·rw [iterAt_other _ _ _ _ _ e]
   exact hj⟩
set_option maxHeartbeats 800000 in
theorem uJ5 {S : Type} (fn : FuncId) (c : Value) (I : Nat -> S -> World -> Prop) (step : S -> ByteArray -> S × Bool) (B : Nat) (p : ByteArray) (hp : p.size <= maxLen)
  (hf : ∀ (args : Array Value) (w : World), (callFunc fn args).run Tryz.prog w = .ok (.enter fn args) w)
  (hI : ∀ n s w w', ItKp B w w' -> I n s w -> I n s w')
  (hcall : ∀ n s w (x : ByteArray), n <= p.size -> x.size <= p.size -> I n s w -> Calls Tryz.prog fn #[.string x, c] w fun e w' => e = .returned (.bool (step s x).2) /\ I (n + 1) (step s x).1 w' /\ IterKept w w')
  (s0 : S) (w : World) (hB : B <= w.heap.size) (h0 : I 0 s0 w) :
  Calls Tryz.prog 116 #[.string p, .func (.func fn) #[] #[c]] w fun e w' => e = .returned (.tuple #[]) /\ ∃ n, I n (Pth.goF step s0 (Pth.pcs p)) w' := by
 have Hc := zJ2 hcall
 have HI := zJ2 hI
 clear hcall hI
 unfold maxLen at hp
 go_enter Tryz.func116, Tryz.ntmps116
 go_wp2
 go_loopw [4] (fun f wr => ∃ (n pos fr : Nat) (s : S), n <= pos /\ f = .int .i64 fr /\ fr <= pos /\ pos <= p.size /\ wr.heap[w.heap.size]? = some (.stringIter p pos) /\ I n s wr /\ Pth.goF step s (Pth.pcsAt p pos fr) = Pth.goF step s0 (Pth.pcs p)) (fun _ wr => p.size - wr.iterPos w.heap.size)
 case atStart => exact ⟨0, 0, 0, s0, Nat.le_refl _, rfl, Nat.le_refl _, Nat.zero_le _, World.iter_heap _ _ _, zJ1 HI _ _ _ _ (ItKp.iter hB _ _) h0, rfl⟩
 case round =>
  obtain ⟨n, pos, fr, s, hnp, rfl, hfr, hps, hit, hIs, hg⟩ := hrel
  have Hg := zJ2 hg
  clear hg
  by_cases hlt : pos < p.size
  ·obtain ⟨c1, c2, c3, c4, c5⟩ := Pth.decode_cover p pos hlt
   have hI1 : I n s (wr.iterAt w.heap.size p (pos + (Utf8.decode p pos).2))   := zJ1 HI _ _ _ _ (ItKp.iterAt hB _ _ _ hit) hIs
   have hit1 := iterAt_heap wr w.heap.size p pos (pos + (Utf8.decode p pos).2) hit
   have hip := iterPos_of hit
   have hip1 := iterPos_of hit1
   have hnx := fun ty => run_next_any_at (P := Tryz.prog) wr w.heap.size p pos ty hit hlt
   by_cases hc : p[pos] = 47
   ·have hd1 := c4 hc
    have hc' := c3.2 hc
    rw [hd1] at hI1 hit1 hip1 hnx
    rw [hc'] at hnx
    have hgoal : Pth.goF step s (p.extract fr pos :: Pth.pcsAt p (pos + 1) (pos + 1)) = Pth.goF step s0 (Pth.pcs p) := by rw [<- Pth.pcsAt_slash p pos fr hlt hc]; exact zJ1 Hg
    have Hgoal := zJ2 hgoal
    have Hip := zJ2 hip
    have Hit := zJ2 hit1
    clear hgoal hd1 hc' hc hip hip1 hit1 hit c3 c4 c5 c1 c2
    go_wp2_with (refine ((zJ1 Hc) n s _ (p.extract fr pos) (by omega) (by simp only [ByteArray.size_extract]; omega) hI1).mono ?_; rintro e w1 ⟨rfl, hI2, hk2⟩)
    ·have hst : (step s (p.extract fr pos)).2 = false := by
      have h : (!(step s (p.extract fr pos)).2) = true := by assumption
      simpa using h
     refine bodyPost_ret (results_none rfl _ _ _) rfl ⟨rfl, n + 1, ?_⟩
     rw [<- zJ1 Hgoal]
     simp only [Pth.goF, hst, if_false, Bool.false_eq_true]
     exact hI2
    ·have hit2 := hk2 _ _ _ (zJ1 Hit)
     have hip2 := iterPos_of hit2
     have hst : (step s (p.extract fr pos)).2 = true := by
      have h : (!(step s (p.extract fr pos)).2) = false := by assumption
      simpa using h
     go_roundw
     case rel => exact ⟨n + 1, pos + 1, pos + 1, _, by omega, by go_num, Nat.le_refl _, by omega, hit2, hI2, by rw [<- zJ1 Hgoal]; simp [Pth.goF, hst]⟩
     case measure => rw [hip2, zJ1 Hip]; omega
   ·have hne : ((((Utf8.decode p pos).1 : Nat) : Int) != 47) = true := by
     have : (Utf8.decode p pos).1 ≠ 47 := fun e => hc (c3.1 e)
     rw [bne_iff_ne]; omega
    have hgoal : Pth.goF step s (Pth.pcsAt p (pos + (Utf8.decode p pos).2) fr) = Pth.goF step s0 (Pth.pcs p) := by
     rw [<- Pth.pcsAt_skips p fr _ pos (c5 hc)]; exact zJ1 Hg
    have Hgoal := zJ2 hgoal
    have Hip := zJ2 hip
    have Hip1 := zJ2 hip1
    have Hit := zJ2 hit1
    clear hgoal hip hip1 hit1 c3 c4 c5
    go_wp2
    go_roundw
    case rel => exact ⟨n, pos + (Utf8.decode p pos).2, fr, s, by omega, rfl, by omega, c2, zJ1 Hit, hI1, zJ1 Hgoal⟩
    case measure => rw [zJ1 Hip, zJ1 Hip1]; omega
  ·have hnx := fun ty => run_next_end_at (P := Tryz.prog) wr w.heap.size p pos ty hit hlt
   obtain rfl : pos = p.size := by omega
   have hgoal : Pth.goF step s [p.extract fr p.size] = Pth.goF step s0 (Pth.pcs p) := by rw [<- Pth.pcsAt_end]; exact zJ1 Hg
   have Hgoal := zJ2 hgoal
   clear hgoal hps hlt
   go_wp2_with (refine ((zJ1 Hc) n s _ (p.extract fr p.size) (by omega) (by simp only [ByteArray.size_extract]; omega) hIs).mono ?_; rintro e w1 ⟨rfl, hI2, hk2⟩)
   go_end0
   refine ⟨rfl, n + 1, ?_⟩
   rw [<- zJ1 Hgoal]
   simp only [Pth.goF]
   split <;> exact hI2
def ChkI (w0 : World) (g : Nat) (e : Int) (w : World) : Prop := w.heap[g]? = some (.cells #[.int .i64 e] 32 (0, 0)) /\ Below w0.heap.size w0 w
theorem ChkI.stable {w0 : World} {g : Nat} (e : Int) (w w' : World) (h : ItKp w0.heap.size w w') (hI : ChkI w0 g e w) : ChkI w0 g e w' :=
 ⟨h.rest _ _ hI.1 (fun _ _ => by simp), hI.2.trans ⟨h.os, h.tape, h.output, h.size, h.low⟩⟩
theorem yJz {w : World} {g : Nat} {cs : Array Value} {t : TypeId} {fz : Nat × Nat} (h : w.heap[g]? = some (.cells cs t fz)) (o : Nat) (v : Value) : IterKept w (w.setCell ⟨g, o, none⟩ v) := by
 intro k s p hk
 rw [Below.heap_setCell _ _ _ _ ?_]
 ·exact hk
 ·rintro rfl
  rw [h] at hk
  cases hk
theorem check1_any (w0 : World) (g : Nat) (hg : w0.heap.size <= g) (e : Int) (w : World) (x : ByteArray) (hx : x.size <= maxLen) (hI : ChkI w0 g e w) :
  Calls Tryz.prog 132 #[.string x, .pointer (some ⟨g, 0, none⟩)] w fun r w' => r = .returned (.bool (Pth.checkStep e x).2) /\ ChkI w0 g (Pth.checkStep e x).1 w' /\ IterKept w w' := by
 have HI := zJ2 hI
 obtain ⟨hc, hb⟩ := hI
 have h1 := cell_of_one hc
 have h2 := free_of_one hc
 have h3 := cell_of_one (one_setCell (u := .int .i64 11) hc)
 clear hc hb
 unfold maxLen at hx
 by_cases hl : 32 < x.size
 ·go_enter Tryz.func132, Tryz.ntmps132
  go_wp2
  go_ret
  refine ⟨by simp [Pth.checkStep, hl], ⟨?_, ?_⟩, ?_⟩
  ·simp only [Pth.checkStep, hl, if_true]
   exact one_setCell (zJ1 HI).1
  ·exact (zJ1 HI).2.setCell hg _
  ·exact yJz (zJ1 HI).1 _ _
 ·go_enter Tryz.func132, Tryz.ntmps132
  go_wp2
  go_ret
  exact ⟨by simp [Pth.checkStep, hl], by simpa [Pth.checkStep, hl] using zJ1 HI, fun _ _ _ h => h⟩
theorem vJq (args : Array Value) (w : World) : (callFunc 132 args).run Tryz.prog w = .ok (.enter 132 args) w := by kernel_rfl
theorem vJn (p : ByteArray) (hp : p.size <= maxLen) (w : World) :
  Calls Tryz.prog 79 #[.string p] w fun e w' => e = .returned (.int .i64 (Pth.chk p)) /\ Below w.heap.size w w' := by
 have hp' := hp
 unfold maxLen at hp
 have hmf : ∀ (fn : Fn) (first cap : Array Value) (w : World), (Instr.makeFunc fn first cap).run Tryz.prog w = .ok (.func fn first cap) w := fun _ _ _ _ => rfl
 have he0 : p.toList.isEmpty = decide (p.size = 0) := zJl p
 have hcn := Lib.contains_iff_indexByte p.data.toList 0
 by_cases h0 : p.size = 0
 ·have hr : Pth.chk p = 3 := by simp [Pth.chk, h0]
  have Hr := zJ2 hr
  have he : p.toList.isEmpty = true := by rw [he0]; simpa using h0
  clear he0 hr h0 hcn
  go_enter Tryz.func79, Tryz.ntmps79
  go_wp2_with fail
  go_ret
  exact ⟨by rw [zJ1 Hr]; rfl, Below.refl _ _⟩
 ·have he : p.toList.isEmpty = false := by rw [he0]; simpa using h0
  by_cases h1 : p.data.toList.contains 0 = true
  ·have hr : Pth.chk p = 1 := by simp only [Pth.chk, h0, h1, if_true, if_false]
   have Hr := zJ2 hr
   have hi : decide (0 <= Lib.indexByte p.data.toList 0) = true := by rw [<- hcn]; exact h1
   clear he0 hr h0 hcn h1
   go_enter Tryz.func79, Tryz.ntmps79
   go_wp2_with (go_at_call 38; refine (vJu (Tryz.strings_Contains_one _ _ _)).mono ?_; rintro e w1 ⟨rfl, rfl⟩)
   go_ret
   exact ⟨by rw [zJ1 Hr]; rfl, Below.refl _ _⟩
  ·have hi : decide (0 <= Lib.indexByte p.data.toList 0) = false := by rw [<- hcn]; simpa using h1
   by_cases h2 : 200 < p.size
   ·have hr : Pth.chk p = 11 := by simp only [Pth.chk, h0, h1, h2, if_true, if_false, Bool.false_eq_true]
    have Hr := zJ2 hr
    clear he0 hr h0 hcn h1
    go_enter Tryz.func79, Tryz.ntmps79
    go_wp2_with (go_at_call 38; refine (vJu (Tryz.strings_Contains_one _ _ _)).mono ?_; rintro e w1 ⟨rfl, rfl⟩)
    go_ret
    exact ⟨by rw [zJ1 Hr]; rfl, Below.refl _ _⟩
   ·have hr : Pth.chk p = Pth.goF Pth.checkStep 0 (Pth.pcs p) := by rw [Pth.goF_check]; simp only [Pth.chk, h0, h1, h2, if_false, Bool.false_eq_true]
    have Hr := zJ2 hr
    clear he0 hr h0 hcn h1
    have hini : ChkI w w.heap.size 0 (w.alloc (.cells #[.int .i64 0] 32)) := ⟨heap_alloc_new _ _, (Below.refl _ _).alloc (Nat.le_refl _) _⟩
    have Hini := zJ2 hini
    clear hini
    go_enter Tryz.func79, Tryz.ntmps79
    go_wp2_with (first
     | (go_at_call 38; refine (vJu (Tryz.strings_Contains_one _ _ _)).mono ?_; rintro e w1 ⟨rfl, rfl⟩)
     | (go_at_call 116; refine (uJ5 132 _ (fun _ => ChkI w w.heap.size) Pth.checkStep w.heap.size p hp' vJq (fun _ => ChkI.stable) (fun _ s w' x _ hx hI => check1_any w w.heap.size (Nat.le_refl _) s w' x (Nat.le_trans hx hp') hI) 0 _ (Nat.le_of_lt (by simp)) (zJ1 Hini)).mono ?_; rintro e w1 ⟨rfl, _, hI⟩; have h9 := cell_of_one hI.1; have HI9 := zJ2 hI; clear hI))
    go_ret
    exact ⟨by rw [zJ1 Hr]; rfl, (zJ1 HI9).2⟩
theorem strTy : SlTy Tryz.prog 50 9 1 16 := yJ0 (z := .string ⟨#[]⟩) Tryz.underlying50 (by kernel_rfl) rfl (by omega) (by omega)
def PrtI (w0 : World) (g : Nat) (n : Nat) (l : List ByteArray) (w : World) : Prop :=
 ∃ A c, w.heap[g]? = some (.cells #[.slice A l.length c] 50 (0, 0)) /\ w.ownsRow w0.heap.size 9 1 (.slice A l.length c) l.length (l.map Value.string) /\ Below w0.heap.size w0 w /\ (Value.slice A l.length c).ownBlock ≠ some g /\ l.length <= n
theorem PrtI.stable {w0 : World} {g : Nat} (n : Nat) (l : List ByteArray) (w w' : World) (h : ItKp w0.heap.size w w') (hI : PrtI w0 g n l w) : PrtI w0 g n l w' := by
 obtain ⟨A, c, h1, h2, h3, h4, h5⟩ := hI
 refine ⟨A, c, h.rest _ _ h1 (fun _ _ => by simp), ?_, h3.trans ⟨h.os, h.tape, h.output, h.size, h.low⟩, h4, h5⟩
 refine ⟨h2.1, h2.2.imp id fun ⟨g', cap, cur, e, hb, hh, r⟩ => ⟨g', cap, cur, e, hb, h.rest _ _ hh (fun _ _ => by simp), r⟩⟩
theorem vJs {a b c : World} (h : IterKept a b) (k : IterKept b c) : IterKept a c := fun i s p hi => k i s p (h i s p hi)
theorem vJt {w w' : World} {row : Option Nat} (h : w.grownBy w' row) (hr : ∀ k, row = some k -> ∃ cs t fz, w.heap[k]? = some (.cells cs t fz)) : IterKept w w' := by
 intro k s p hk
 rw [h.block k (Array.getElem?_eq_some_iff.1 hk).1]
 ·exact hk
 ·intro e
  obtain ⟨cs, t, fz, hc⟩ := hr k e.symm
  rw [hk] at hc
  cases hc
theorem parts1_any (w0 : World) (g : Nat) (hg : w0.heap.size <= g) (n : Nat) (hn : n <= 4294967296) (l : List ByteArray) (w : World) (x : ByteArray) (hI : PrtI w0 g n l w) :
  Calls Tryz.prog 117 #[.string x, .pointer (some ⟨g, 0, none⟩)] w fun r w' => r = .returned (.bool (Pth.partsStep l x).2) /\ PrtI w0 g (n + 1) (Pth.partsStep l x).1 w' /\ IterKept w w' := by
 have HI := zJ2 hI
 obtain ⟨A, c, hc, hown, hb, hne, hln⟩ := hI
 have Hc := zJ2 hc
 have h1 := cell_of_one hc
 have hgs := lt_of_block hc
 have hbs := hb.size
 have e1 : x.toList.isEmpty = decide (x.data.toList = []) := by rw [Lib.toList_data, Bool.eq_iff_iff]; simp
 have e2 : (x.toList == [46]) = decide (x.data.toList = [46]) := by rw [Lib.toList_data, Bool.eq_iff_iff]; simp
 by_cases hx : x.data.toList = [] \/ x.data.toList = [46]
 ·have hp : Pth.isPart x = false := by rcases hx with h | h <;> simp [Pth.isPart, h]
  have Hp := zJ2 hp
  clear hp hc
  rcases hx with hx | hx
  ·have q1 : x.toList.isEmpty = true := by rw [e1]; simpa using hx
   clear e1 e2 hx
   go_enter Tryz.func117, Tryz.ntmps117
   go_wp2
   go_ret
   exact ⟨rfl, by
    have e : (Pth.partsStep l x).1 = l := by simp [Pth.partsStep, zJ1 Hp]
    rw [e]
    exact ⟨A, c, zJ1 Hc, hown, hb, hne, by omega⟩, fun _ _ _ h => h⟩
  ·have q1 : x.toList.isEmpty = false := by rw [e1]; simp [hx]
   have q2 : (x.toList == [46]) = true := by rw [e2]; simpa using hx
   clear e1 e2 hx
   go_enter Tryz.func117, Tryz.ntmps117
   go_wp2
   go_ret
   exact ⟨rfl, by
    have e : (Pth.partsStep l x).1 = l := by simp [Pth.partsStep, zJ1 Hp]
    rw [e]
    exact ⟨A, c, zJ1 Hc, hown, hb, hne, by omega⟩, fun _ _ _ h => h⟩
 ·have hp : Pth.isPart x = true := by simp only [Pth.isPart]; simp; simpa using hx
  have Hp := zJ2 hp
  have q1 : x.toList.isEmpty = false := by rw [e1]; simp; exact fun h => hx (.inl (by simpa using h))
  have q2 : (x.toList == [46]) = false := by rw [e2]; simp; exact fun h => hx (.inr (by simpa using h))
  clear e1 e2 hx hp hc
  go_enter Tryz.func117, Tryz.ntmps117
  go_wp2_with (at_builtin; refine yJh strTy rfl _ _ rfl w0.heap.size (.slice A l.length c) l.length (l.map Value.string) rfl hown #[.string x] rfl rfl (by simp [Value.oneCell']) (by omega) (by omega) ?_; intro A' c' w1 hown' hgrow hat; have hg1 := (hgrow.block g hgs (fun e => hne e.symm)).trans (zJ1 Hc); have hc1 := cell_of_one hg1; have hf1 := free_of_one hg1; have Hg1 := zJ2 hg1; have Hgr := zJ2 hgrow; have Hat := zJ2 hat; clear hg1 hgrow hat)
  go_ret
  have hne' : (Value.slice A' (l.length + 1) c').ownBlock ≠ some g := by
   intro e
   rcases zJ1 Hat _ e with h | h
   ·exact hne h
   ·omega
  refine ⟨rfl, ?_, ?_⟩
  ·have e : (Pth.partsStep l x).1 = l ++ [x] := by simp [Pth.partsStep, zJ1 Hp]
   rw [e]
   refine ⟨A', c', ?_, ?_, ?_, ?_, ?_⟩
   ·rw [List.length_append]
    exact one_setCell (zJ1 Hg1)
   ·rw [List.length_append, List.map_append]
    exact ownsRow_setCell_other hown' (a := ⟨g, 0, none⟩) hne' _
   ·exact (hb.grown (zJ1 Hgr) hbs (fun k hk => (hown.lt k hk).1)).setCell hg _
   ·rw [List.length_append]
    exact hne'
   ·rw [List.length_append]
    simp only [List.length_cons, List.length_nil]
    omega
  ·refine vJs (vJt (zJ1 Hgr) (fun k hk => ?_)) (yJz (zJ1 Hg1) _ _)
   rcases hown.2 with ⟨e, _⟩ | ⟨g', cap, cur, e, _, hh, _⟩
   ·rw [e] at hk
    simp [Value.ownBlock] at hk
   ·rw [e] at hk
    simp [Value.ownBlock] at hk
    exact ⟨_, _, _, hk ▸ hh⟩
theorem prt_start {w w1 : World} (hb : Below (w.alloc (.cells #[.slice none 0 0] 50)).heap.size (w.alloc (.cells #[.slice none 0 0] 50)) w1) : PrtI w w.heap.size 0 [] w1 :=
 ⟨none, 0, (hb.block _ (by simp)).trans (heap_alloc_new _ _), World.ownsRow_nil _ _ _ _, ((Below.refl _ _).alloc (Nat.le_refl _) _).trans (hb.mono (by simp)), by simp [Value.ownBlock], Nat.le_refl _⟩
theorem PrtI.sz {w0 w : World} {g n : Nat} {l : List ByteArray} (h : PrtI w0 g n l w) : w0.heap.size <= w.heap.size := h.choose_spec.choose_spec.2.2.1.size
theorem vJp (args : Array Value) (w : World) : (callFunc 117 args).run Tryz.prog w = .ok (.enter 117 args) w := by kernel_rfl
theorem vJ8 (p : ByteArray) (hp : p.size <= maxLen) (w : World) :
  Calls Tryz.prog 62 #[.string p] w fun e w' => ∃ A c, e = .returned (.tuple #[.slice A (Pth.partsL p).length c, .bool (Pth.rootB p), .int .i64 (Pth.chk p)]) /\
   w'.ownsRow w.heap.size 9 1 (.slice A (Pth.partsL p).length c) (Pth.partsL p).length ((Pth.partsL p).map Value.string) /\ Below w.heap.size w w' := by
 have hck := Pth.chk_size p
 by_cases h0 : Pth.chk p = 0
 ·have hrl : Pth.partsL p = Pth.goF Pth.partsStep [] (Pth.pcs p) := by rw [Pth.goF_parts]; simp [Pth.partsL, h0, Pth.parts]
  have hrb : Pth.rootB p = Lib.hasPrefix p.data.toList [47] := by simp [Pth.rootB, h0]
  have Hrl := zJ2 hrl
  have Hrb := zJ2 hrb
  have hs := hck h0
  have b0 : (Pth.chk p == 0) = true := by simpa using h0
  have b1 : (Pth.chk p != 0) = false := by simpa using h0
  have hmf : ∀ (fn : Fn) (first cap : Array Value) (w : World), (Instr.makeFunc fn first cap).run Tryz.prog w = .ok (.func fn first cap) w := fun _ _ _ _ => rfl
  have H0 := zJ2 h0
  clear hck hrl hrb h0
  go_enter Tryz.func62, Tryz.ntmps62
  go_wp2_with (first
   | (go_at_call 79; refine (vJn p hp _).mono ?_; rintro e w1 ⟨rfl, hb1⟩; have Hini := zJ2 (prt_start hb1); clear hb1)
   | (go_at_call 116; refine (uJ5 117 _ (PrtI w w.heap.size) Pth.partsStep w.heap.size p hp vJp PrtI.stable (fun n s w' x hn _ hI => parts1_any w w.heap.size (Nat.le_refl _) n (by omega) s w' x hI) [] _ (PrtI.sz (zJ1 Hini)) (zJ1 Hini)).mono ?_; rintro e w2 ⟨rfl, n, hI2⟩; have HI2 := zJ2 hI2; clear hI2))
  have HI3 := zJ1 HI2
  rw [<- zJ1 Hrl] at HI3
  obtain ⟨A, c, hc, hown, hb, hne, hln⟩ := HI3
  have hc1 := cell_of_one hc
  have hf1 := free_of_one hc
  have hc2 := cell_of_one (one_setCell (u := .slice A (Pth.partsL p).length c) hc)
  have Hc := zJ2 hc
  clear hc
  go_region_with (go_at_call 69; refine (vJu (Tryz.strings_HasPrefix _ _ _)).mono ?_; rintro e w3 ⟨rfl, rfl⟩)
  all_goals
   go_wp2
   refine bodyPost_ret (v := .tuple #[.slice A (Pth.partsL p).length c, .bool (Lib.hasPrefix p.data.toList [47]), .int .i64 0]) (by simp [results, Tryz.results62, go_sem, hc2]) rfl ?_
   exact ⟨A, c, by rw [zJ1 Hrb, zJ1 H0], ownsRow_setCell_other hown (a := ⟨w.heap.size, 0, none⟩) hne _, (hb.setCell (p := ⟨w.heap.size, 0, none⟩) (Nat.le_refl _) _).drew⟩
 ·have b0 : (Pth.chk p == 0) = false := by simpa using h0
  have b1 : (Pth.chk p != 0) = true := by simpa using h0
  have e1 : Pth.partsL p = [] := by simp [Pth.partsL, h0]
  have e2 : Pth.rootB p = false := by simp [Pth.rootB, h0]
  rw [e1, e2]
  clear hck e1 e2 h0
  go_enter Tryz.func62, Tryz.ntmps62
  go_wp2_with (go_at_call 79; refine (vJn p hp _).mono ?_; rintro e w1 ⟨rfl, hb1⟩; have hn := newblk hb1; have Hb := zJ2 (zJb hb1); clear hb1; have hc := cell_of_one hn; have hf := free_of_one hn; have hc2 := cell_of_one (one_setCell (u := .slice none 0 0) hn); clear hn)
  refine bodyPost_ret (v := .tuple #[.slice none 0 0, .bool false, .int .i64 (Pth.chk p)]) (by simp [results, Tryz.results62, go_sem, hc2]) rfl ?_
  exact ⟨none, 0, rfl, World.ownsRow_nil _ _ _ _, (zJ1 Hb).setCell (p := ⟨w.heap.size, 0, none⟩) (Nat.le_refl _) _⟩
end Go.Proofs.YtiiiblmhlhikkaaGreatDoor
