/- The walk of hostelref00.CopyBytes (as Elf8, for any chapter). Conditions: there are fewer than 2^32 bytes. Copies of credentials and of entries; how great entries are. Conditions: as each says. One more law for append: the new element's block spelt by a number that is the heap's size. No conditions. Entries copied into memory of their own: the walk of CopyEntries. Conditions: as it says. The reference's file system in memory; the walks of its child, at, dir. Conditions: as each says. The walk of hostelref00.EqTexts: are two lists of texts the same? Condition: the lists are no longer than the model's greatest length. The walks of the references for paths: Pieces and Check of hostelref02. Condition: the texts are shorter than 2^32 bytes. The walk of the reference Parts of hostelref02. Condition: the texts are shorter than 2^32 bytes. The reference's dir, and which entries it takes: the walks of dir, may. Conditions: as each says. The reference's New: what holds of its memory. No conditions beyond those named. The reference's New: the walk. Conditions: as it says. -/
import Derived.Test.YtchmdpkjipaafaaDoorSeB1
import Derived.Test.YtchmdpkjipaafaaDoorSeB3
import Derived.Laws.Rows
import Derived.Test.YtchmdpkjipaafaaDoorProg
import Derived.WalkSpells
import Derived.WalkLawsBesides
import Derived.BigQuiet
import Derived.Deep.QuietTactic
import Derived.Test.YtchmdpkjipaafaaDoorSeB2
import Derived.Deep.RegionHeld3
namespace Go.Proofs.YtchmdpkjipaafaaDoor
set_option linter.unusedVariables false
set_option linter.unusedSimpArgs false
open Go.RowKit

theorem bys_at' {b : List UInt8} {i : Nat} {x : UInt8} (h : b[i]? = some x) : (bys b)[i]? = some (.int .u8 x.toNat) := by simp [bys, h]

/-- What has been copied from k on. -/
def backTo (b : List UInt8) (k : Nat) : List Value := List.replicate k (.int .u8 0) ++ bys (b.drop k)
theorem backTo_set {b : List UInt8} {k : Nat} {x : UInt8} (h : b[k]? = some x) : (backTo b (k + 1)).set k (.int .u8 x.toNat) = backTo b k := by
  unfold backTo
  rw [List.drop_eq_getElem_cons (i := k) (by have := (List.getElem?_eq_some_iff.1 h).1; exact this)]
  have hx : b[k]'((List.getElem?_eq_some_iff.1 h).1) = x := (List.getElem?_eq_some_iff.1 h).2
  rw [hx, List.replicate_succ', List.append_assoc]
  rw [List.set_append]
  simp [bys]

set_option maxRecDepth 20000 in
set_option maxHeartbeats 1000000 in
theorem copyBytes_any (A : Option Addr) (m c B : Nat) (b : List UInt8) (w : World) (hB : B ≤ w.heap.size) (hb : Rd w B 1 A m (bys b)) (hm : m ≤ 4294967296) :
    Calls Tryd.prog 33 #[.slice A m c] w fun e w' => ∃ A' c', e = .returned (.slice A' m c') ∧ w'.ownsRow w.heap.size 5 1 (.slice A' m c') m (bys b) ∧ Below w.heap.size w w' := by
  have hbl : b.length = m := by simpa [bys] using hb.len1
  rcases Nat.eq_zero_or_pos m with rfl | hpos
  · have hb0 : b = [] := List.eq_nil_of_length_eq_zero hbl
    subst hb0
    clear hb hbl
    go_enter Tryd.func33, Tryd.ntmps33
    go_wp2
    go_ret
    exact ⟨none, 0, rfl, World.ownsRow_nil _ _ _ _, Below.refl _ _⟩
  have hne : decide (m = 0) = false := by simp; omega
  obtain ⟨i, hi, hz0, hz1, hz2⟩ := info_parts byteInfo
  have Hb := hide hb
  have Hbl := hide hbl
  have Hi := hide hi
  have Hz0 := hide hz0
  have Hz1 := hide hz1
  have Hz2 := hide hz2
  clear hb hbl hi hz0 hz1 hz2
  go_enter Tryd.func33, Tryd.ntmps33
  go_wp2_with (at_make; refine wpList_make_full _ rfl _ _ 62 rfl w.heap.size 5 i (.int .u8 0) 1 Tryd.underlying62 (unhide Hi) (unhide Hz0) (unhide Hz1) _ _ _ _ m rfl rfl rfl rfl (by rw [unhide Hz2]; omega) (by unfold maxLen; omega) (Nat.le_refl _) ?_; intro w1 hown hgrow; have hb1 := (Below.refl w.heap.size w).grown hgrow (Nat.le_refl _) (fun k hk => by cases hk); have Hown := hide hown; have Hb1 := hide hb1; clear hown hgrow hb1)
  go_loopw [4] (fun at_ wr => ∃ k : Nat, k ≤ m ∧ at_ = .int .i64 ((k : Int) - 1) ∧ wr.ownsRow w.heap.size 5 1 (.slice (some ⟨w.heap.size, 0, none⟩) m m) m (backTo b k) ∧ Below w.heap.size w wr) (fun at_ _ => (intOf at_ + 1).toNat)
  case atStart =>
    refine ⟨m, Nat.le_refl _, rfl, ?_, unhide Hb1⟩
    have := unhide Hown
    have e : (madeCells (Value.int .u8 0).cells (m * 1)).toList = backTo b m := by
      unfold backTo
      rw [List.drop_eq_nil_of_le (by rw [unhide Hbl]; exact Nat.le_refl _)]
      simp [bys, Value.cells, toList_madeCells_one]
    rwa [e] at this
  case round =>
  clear Hown Hb1
  obtain ⟨k, hk, rfl, hown, hb2⟩ := hrel
  have Hown := hide hown
  have Hb2 := hide hb2
  clear hown hb2
  by_cases hk0 : k = 0
  · subst hk0
    go_wp2
    go_ret
    refine ⟨_, _, rfl, ?_, unhide Hb2⟩
    have := unhide Hown
    simpa [backTo] using this
  · obtain ⟨j, rfl⟩ : ∃ j, k = j + 1 := ⟨k - 1, by omega⟩
    obtain ⟨x, hx⟩ : ∃ x, b[j]? = some x := ⟨_, List.getElem?_eq_getElem (by rw [unhide Hbl]; omega)⟩
    obtain ⟨ab, ao, rfl, hlt, hc⟩ := ((unhide Hb).below ((unhide Hb2).mono hB)).at_ (bys_at' hx)
    have hset := own_set (i := j) (unhide Hown) (.int .u8 x.toNat)
    rw [backTo_set hx] at hset
    have hcl : (backTo b (j + 1))[j]? = some (.int .u8 0) := by simp [backTo, List.getElem?_append]
    have hc2 := own_cell (unhide Hown) hcl
    have hf2 := own_free (unhide Hown) j
    have hge := own_at (unhide Hown)
    have e1 : ((j + 1 : Nat) : Int) - 1 = (j : Int) := by omega
    rw [e1]
    have Hset := hide hset
    clear hset hcl hx
    go_wp2
    go_roundw
    case rel => exact ⟨j, by omega, rfl, unhide Hset, (unhide Hb2).setCell (Nat.le_refl _) _⟩
    case measure => simp [intOf]

end Go.Proofs.YtchmdpkjipaafaaDoor
namespace Go.Proofs.YtchmdpkjipaafaaDoor
set_option linter.unusedVariables false
set_option linter.unusedSimpArgs false
open Go.RowKit

theorem u32Ty : SlTy Tryd.prog 32 31 1 4 := slTy_mk (z := .int .u32 0) Tryd.underlying32 (by kernel_rfl) rfl (by omega) (by omega)
theorem entTy : SlTy Tryd.prog 30 64 7 72 := slTy_mk (z := .agg #[.string ⟨#[]⟩, .int .u8 0, .int .u16 0, .int .u32 0, .int .u32 0, .slice none 0 0, .string ⟨#[]⟩]) Tryd.underlying30 (by kernel_rfl) rfl (by omega) (by omega)
theorem u32_one (l : List Nat) : ∀ u ∈ l.map u32v, u.oneCell' = true := by
  intro u hu
  obtain ⟨x, _, rfl⟩ := List.mem_map.1 hu
  rfl
theorem credInfo : (Tryd.prog.info? 34).map (·.size) = some 5 := by kernel_rfl

set_option maxRecDepth 100000 in
set_option maxHeartbeats 1000000 in
theorem copyCred_any (c : Vf.Cred) (A : Option Addr) (n k B : Nat) (w : World) (hg : Rd w B 1 A n (c.groups.map u32v)) (hB : B ≤ w.heap.size) (hn : n ≤ 4294967296) :
    Calls Tryd.prog 22 #[credV c A n k] w fun e w' => ∃ A' k', e = .returned (credV c A' n k') ∧ Rd w' w'.heap.size 1 A' n (c.groups.map u32v) ∧ Below w.heap.size w w' := by
  have hb0 : Below w.heap.size w ((w.alloc (.cells #[.int .u32 (c.uid : Nat), .int .u32 (c.euid : Nat), .int .u32 (c.suid : Nat), .int .u32 (c.gid : Nat), .slice A n k] 34)).alloc (.cells #[.int .u32 0, .int .u32 0, .int .u32 0, .int .u32 0, .slice none 0 0] 34)) := ((Below.refl _ _).alloc (Nat.le_refl _) _).alloc (by simp) _
  have Hg := hide (hg.below (hb0.mono hB))
  have Hb0 := hide hb0
  have B1 : Blk ((w.alloc (.cells #[.int .u32 (c.uid : Nat), .int .u32 (c.euid : Nat), .int .u32 (c.suid : Nat), .int .u32 (c.gid : Nat), .slice A n k] 34)).alloc (.cells #[.int .u32 0, .int .u32 0, .int .u32 0, .int .u32 0, .slice none 0 0] 34)) w.heap.size 34 [.int .u32 (c.uid : Nat), .int .u32 (c.euid : Nat), .int .u32 (c.suid : Nat), .int .u32 (c.gid : Nat), .slice A n k] := (Blk.new w 34 [.int .u32 (c.uid : Nat), .int .u32 (c.euid : Nat), .int .u32 (c.suid : Nat), .int .u32 (c.gid : Nat), .slice A n k]).alloc _
  have B2 : Blk ((w.alloc (.cells #[.int .u32 (c.uid : Nat), .int .u32 (c.euid : Nat), .int .u32 (c.suid : Nat), .int .u32 (c.gid : Nat), .slice A n k] 34)).alloc (.cells #[.int .u32 0, .int .u32 0, .int .u32 0, .int .u32 0, .slice none 0 0] 34)) (w.heap.size + 1) 34 [.int .u32 0, .int .u32 0, .int .u32 0, .int .u32 0, .slice none 0 0] := by
    have := Blk.new (w.alloc (.cells #[.int .u32 (c.uid : Nat), .int .u32 (c.euid : Nat), .int .u32 (c.suid : Nat), .int .u32 (c.gid : Nat), .slice A n k] 34)) 34 [.int .u32 0, .int .u32 0, .int .u32 0, .int .u32 0, .slice none 0 0]
    rw [World.size_alloc] at this
    exact this
  have HB1 := hide B1
  have HB2 := hide B2
  have hsz0 : w.heap.size ≤ ((w.alloc (.cells #[.int .u32 (c.uid : Nat), .int .u32 (c.euid : Nat), .int .u32 (c.suid : Nat), .int .u32 (c.gid : Nat), .slice A n k] 34)).alloc (.cells #[.int .u32 0, .int .u32 0, .int .u32 0, .int .u32 0, .slice none 0 0] 34)).heap.size := hb0.size
  unfold credV
  clear hg hb0 B1 B2
  go_enter Tryd.func22, Tryd.ntmps22
  go_wp2_with (at_builtin; refine wpList_app u32Ty rfl _ _ rfl (w.heap.size + 2) (.slice none 0 0) 0 [] rfl (World.ownsRow_nil _ _ _ _) B A n k _ rfl (unhide Hg) (u32_one _) (by omega) (by simp) ?_; intro A4 k4 w4 ho4 hg4 hat4; have hC1 : Blk w4 w.heap.size 34 [.int .u32 (c.uid : Nat), .int .u32 (c.euid : Nat), .int .u32 (c.suid : Nat), .int .u32 (c.gid : Nat), .slice A n k] := (hg4.block _ (unhide HB1).lt (fun e => by simp [Value.ownBlock] at e)).trans (unhide HB1); have hC2 : Blk w4 (w.heap.size + 1) 34 [.int .u32 0, .int .u32 0, .int .u32 0, .int .u32 0, .slice none 0 0] := (hg4.block _ (unhide HB2).lt (fun e => by simp [Value.ownBlock] at e)).trans (unhide HB2); have hb4 := (unhide Hb0).grown hg4 hsz0 (fun k hk => by simp [Value.ownBlock] at hk); simp only [Nat.zero_add, List.nil_append] at ho4 ⊢; obtain ⟨a0, a1, a2, a3, a4⟩ : w4.cell? ⟨w.heap.size, 0, none⟩ = some (.int .u32 (c.uid : Nat)) ∧ w4.cell? ⟨w.heap.size, 1, none⟩ = some (.int .u32 (c.euid : Nat)) ∧ w4.cell? ⟨w.heap.size, 2, none⟩ = some (.int .u32 (c.suid : Nat)) ∧ w4.cell? ⟨w.heap.size, 3, none⟩ = some (.int .u32 (c.gid : Nat)) ∧ w4.cell? ⟨w.heap.size, 4, none⟩ = some (.slice A n k) := ⟨hC1.cell rfl, hC1.cell rfl, hC1.cell rfl, hC1.cell rfl, hC1.cell rfl⟩; obtain ⟨f0, f1, f2, f3, f4⟩ : w4.frozen? ⟨w.heap.size, 0, none⟩ = false ∧ w4.frozen? ⟨w.heap.size, 1, none⟩ = false ∧ w4.frozen? ⟨w.heap.size, 2, none⟩ = false ∧ w4.frozen? ⟨w.heap.size, 3, none⟩ = false ∧ w4.frozen? ⟨w.heap.size, 4, none⟩ = false := ⟨hC1.free _, hC1.free _, hC1.free _, hC1.free _, hC1.free _⟩; obtain ⟨b0, b1, b2, b3, b4⟩ : w4.cell? ⟨w.heap.size + 1, 0, none⟩ = some (.int .u32 0) ∧ w4.cell? ⟨w.heap.size + 1, 1, none⟩ = some (.int .u32 0) ∧ w4.cell? ⟨w.heap.size + 1, 2, none⟩ = some (.int .u32 0) ∧ w4.cell? ⟨w.heap.size + 1, 3, none⟩ = some (.int .u32 0) ∧ w4.cell? ⟨w.heap.size + 1, 4, none⟩ = some (.slice none 0 0) := ⟨hC2.cell rfl, hC2.cell rfl, hC2.cell rfl, hC2.cell rfl, hC2.cell rfl⟩; obtain ⟨g0, g1, g2, g3, g4⟩ : w4.frozen? ⟨w.heap.size + 1, 0, none⟩ = false ∧ w4.frozen? ⟨w.heap.size + 1, 1, none⟩ = false ∧ w4.frozen? ⟨w.heap.size + 1, 2, none⟩ = false ∧ w4.frozen? ⟨w.heap.size + 1, 3, none⟩ = false ∧ w4.frozen? ⟨w.heap.size + 1, 4, none⟩ = false := ⟨hC2.free _, hC2.free _, hC2.free _, hC2.free _, hC2.free _⟩; have HC1 := hide hC1; have HC2 := hide hC2; have Ho4 := hide ho4; have Hb4 := hide hb4; clear ho4 hg4 hat4 hb4 hC1 hC2)
  have hne : w.heap.size + 1 ≠ w.heap.size := by omega
  have hE := ((((((unhide HC2).other (p := ⟨w.heap.size, 4, none⟩) (by show w.heap.size ≠ w.heap.size + 1; omega) (Value.slice A4 n k4)).set 0 (Value.int .u32 (c.uid : Nat))).set 1 (Value.int .u32 (c.euid : Nat))).set 2 (Value.int .u32 (c.suid : Nat))).set 3 (Value.int .u32 (c.gid : Nat))).set 4 (Value.slice A4 n k4)
  have hbE := ((((((unhide Hb4).setCell (p := ⟨w.heap.size, 4, none⟩) (Nat.le_refl _) (Value.slice A4 n k4)).setCell (p := ⟨w.heap.size + 1, 0, none⟩) (by show w.heap.size ≤ w.heap.size + 1; omega) (Value.int .u32 (c.uid : Nat))).setCell (p := ⟨w.heap.size + 1, 1, none⟩) (by show w.heap.size ≤ w.heap.size + 1; omega) (Value.int .u32 (c.euid : Nat))).setCell (p := ⟨w.heap.size + 1, 2, none⟩) (by show w.heap.size ≤ w.heap.size + 1; omega) (Value.int .u32 (c.suid : Nat))).setCell (p := ⟨w.heap.size + 1, 3, none⟩) (by show w.heap.size ≤ w.heap.size + 1; omega) (Value.int .u32 (c.gid : Nat))).setCell (p := ⟨w.heap.size + 1, 4, none⟩) (by show w.heap.size ≤ w.heap.size + 1; omega) (Value.slice A4 n k4)
  have hown : ∀ W' : World, (∀ g, w.heap.size + 2 ≤ g → W'.heap[g]? = w4.heap[g]?) → W'.ownsRow (w.heap.size + 2) 31 1 (.slice A4 n k4) n (c.groups.map u32v) :=
    fun W' h => own_keepB' (unhide Ho4) (fun g hg => h g ((unhide Ho4).lt g hg).1)
  refine bodyPost_ret (results_cell_row (P := Tryd.prog) rfl _ _ (w.heap.size + 1) 34 #[.int .u32 (c.uid : Nat), .int .u32 (c.euid : Nat), .int .u32 (c.suid : Nat), .int .u32 (c.gid : Nat), .slice A4 n k4] (0, 0) _ rfl hE Tryd.underlying34 rfl credInfo) rfl ?_
  exact ⟨A4, k4, rfl, Rd.of_own (hown _ (fun g hg => by rw [heap_setCell_other _ _ _ _ (by show g ≠ w.heap.size + 1; omega), heap_setCell_other _ _ _ _ (by show g ≠ w.heap.size + 1; omega), heap_setCell_other _ _ _ _ (by show g ≠ w.heap.size + 1; omega), heap_setCell_other _ _ _ _ (by show g ≠ w.heap.size + 1; omega), heap_setCell_other _ _ _ _ (by show g ≠ w.heap.size + 1; omega), heap_setCell_other _ _ _ _ (by show g ≠ w.heap.size; omega)])), hbE⟩

/-- How great: what Large says where it says no. -/
def LgE (l : List EntA) (n : Nat) (w : World) (e : Ending) (w' : World) : Prop :=
  ∃ b q, e = .returned (.bool b) ∧ (b = false → n ≤ 262144 ∧ ∀ s ∈ l, s.e.path.size ≤ 262144 ∧ s.n ≤ 262144 ∧ s.e.to.size ≤ 262144) ∧ w' = w.drewN q
set_option maxRecDepth 100000 in
set_option maxHeartbeats 1000000 in
theorem large_any (l : List EntA) (A : Option Addr) (n c B : Nat) (w : World) (h : Rd w B 7 A n (rowCs entVals l)) (hl : l.length = n) (hn : n ≤ maxLen) (hsz : ∀ s ∈ l, s.e.path.size ≤ maxLen ∧ s.n ≤ maxLen ∧ s.e.to.size ≤ maxLen) :
    Calls Tryd.prog 15 #[.slice A n c] w (LgE l n w) := by
  have H := hide h
  have Hl := hide hl
  have Hsz := hide hsz
  unfold maxLen at hn
  clear h hl hsz
  go_enter Tryd.func15, Tryd.ntmps15
  go_wp2_with fail
  go_loopg [3, 4] n (fun gk av iv wr => ∃ (k a q : Nat), gk = n - k ∧ k ≤ n ∧ iv = .int .i64 (k : Nat) ∧ av = .int .i64 (a : Nat) ∧ n ≤ a ∧ (k = 0 ∧ a = n ∨ a ≤ 1835008) ∧ (∀ s ∈ l.take k, min s.e.path.size 524288 ≤ a ∧ min s.n 524288 ≤ a ∧ min s.e.to.size 524288 ≤ a) ∧ wr = w.drewN q)
  case atStart => exact ⟨0, n, 0, by omega, Nat.zero_le _, rfl, rfl, Nat.le_refl _, .inl ⟨rfl, rfl⟩, by simp, rfl⟩
  case round =>
  obtain ⟨k, a, q, hgk, hk, rfl, rfl, hna, hab, hall, rfl⟩ := hrel
  have Hgk := hide hgk
  have Hall := hide hall
  clear hgk hall
  by_cases hgo : k < n ∧ a ≤ 262144
  · obtain ⟨hlt, ha⟩ := hgo
    obtain ⟨s, hs⟩ : ∃ s, l[k]? = some s := ⟨_, List.getElem?_eq_getElem (by rw [unhide Hl]; exact hlt)⟩
    obtain ⟨b1, o1, rfl, hb1, c1⟩ := (unhide H).open_ (by
      intro h0
      have := rowCs_len (vals := entVals) (size := 7) (fun _ => rfl) l
      rw [h0, unhide Hl] at this
      simp at this
      omega)
    have hc : ∀ j u, (entVals s)[j]? = some u → w.cell? ⟨b1, o1 + (k * 7 + j), none⟩ = some u := by
      intro j u hu
      have hj : j < 7 := (List.getElem?_eq_some_iff.1 hu).1
      refine c1 _ _ ?_
      rw [rowCs_at (vals := entVals) (size := 7) (fun _ => rfl) l k s hs j hj, hu]
    have x0 := hc 0 _ rfl
    have x5 := hc 5 _ rfl
    have x6 := hc 6 _ rfl
    rw [Nat.add_zero] at x0
    simp only [← Nat.add_assoc] at x5 x6
    obtain ⟨z0, z5, z6⟩ := (unhide Hsz) s (List.mem_of_getElem? hs)
    unfold maxLen at z0 z5 z6
    obtain ⟨m0, hm0⟩ : ∃ m, min s.e.path.size 524288 = m := ⟨_, rfl⟩
    obtain ⟨m5, hm5⟩ : ∃ m, min s.n 524288 = m := ⟨_, rfl⟩
    obtain ⟨m6, hm6⟩ : ∃ m, min s.e.to.size 524288 = m := ⟨_, rfl⟩
    have r0 : min (s.e.path.size : Int) 524288 = (m0 : Int) := by omega
    have r5 : min (s.n : Int) 524288 = (m5 : Int) := by omega
    have r6 : min (s.e.to.size : Int) 524288 = (m6 : Int) := by omega
    have u0 : m0 ≤ 524288 := by omega
    have u5 : m5 ≤ 524288 := by omega
    have u6 : m6 ≤ 524288 := by omega
    have w1 : IntKind.i64.wrap ((a : Int) + (m0 : Int)) = (a : Int) + (m0 : Int) := IntWalk.i64_in _ (by omega)
    have w2 : IntKind.i64.wrap ((a : Int) + (m0 : Int) + (m5 : Int)) = (a : Int) + (m0 : Int) + (m5 : Int) := IntWalk.i64_in _ (by omega)
    have w3 : IntKind.i64.wrap ((a : Int) + (m0 : Int) + (m5 : Int) + (m6 : Int)) = (a : Int) + (m0 : Int) + (m5 : Int) + (m6 : Int) := IntWalk.i64_in _ (by omega)
    have i1 : (k : Int) < (n : Int) := by omega
    have i0 : (0 : Int) ≤ (k : Int) := by omega
    have i2 : (a : Int) ≤ 262144 := by omega
    have Hs := hide hs
    have Hm := hide (And.intro hm0 (And.intro hm5 hm6))
    clear hc c1 hs hm0 hm5 hm6 z0 z5 z6 hab
    go_wp2_with fail
    go_quiet (fail)
    go_wp2_with fail
    go_roundg (n - (k + 1))
    case rel =>
      refine ⟨k + 1, a + m0 + m5 + m6, q + nq, rfl, by omega, by go_num, by go_num, by omega, .inr (by omega), ?_, ?_⟩
      · intro t ht
        rw [List.take_add_one, unhide Hs] at ht
        obtain ⟨e0, e5, e6⟩ := unhide Hm
        rcases List.mem_append.1 ht with ht | ht
        · have := (unhide Hall) t ht
          omega
        · have : t = s := by simpa using ht
          subst this
          omega
      · simp [World.drewN, Nat.add_assoc]
    case measure => rw [unhide Hgk]; omega
  · have hor : (¬ (k : Int) < (n : Int)) ∨ ((k : Int) < (n : Int) ∧ ¬ (a : Int) ≤ 262144) := by omega
    have hres : (a ≤ 262144) → n ≤ 262144 ∧ ∀ s ∈ l, s.e.path.size ≤ 262144 ∧ s.n ≤ 262144 ∧ s.e.to.size ≤ 262144 := by
      intro ha
      have hkn : k = n := by omega
      refine ⟨by omega, fun s hs => ?_⟩
      have h1 := (unhide Hall) s (by rw [List.take_of_length_le (by rw [unhide Hl]; omega)]; exact hs)
      omega
    have Hres := hide hres
    clear hgo hres hab
    by_cases hbig : 262144 < a
    · have i2 : (262144 : Int) < (a : Int) := by omega
      rcases hor with h1 | ⟨h1, h2⟩
      all_goals
        go_wp2_with fail
        go_ret
        exact ⟨true, q, rfl, fun h => absurd h (by decide), rfl⟩
    · have i2 : ¬ (262144 : Int) < (a : Int) := by omega
      have Hbig := hide hbig
      rcases hor with h1 | ⟨h1, h2⟩
      · clear hbig
        go_wp2_with fail
        go_ret
        exact ⟨false, q, rfl, fun _ => (unhide Hres) (by have := unhide Hbig; omega), rfl⟩
      · exact absurd h2 (by omega)
end Go.Proofs.YtchmdpkjipaafaaDoor
namespace Go.Proofs.YtchmdpkjipaafaaDoor
set_option linter.unusedVariables false
set_option linter.unusedSimpArgs false
open Go.RowKit
section
variable {P : Program} {t e : TypeId} {size bytes : Nat}
/-- The same, the block's number spelt as the walk has it. -/
theorem wpList_app1g (T : SlTy P t e size bytes) {W : World} {ops : Array Oper} {rest : List Oper} {o : Oper} {a : Act} {Q : Exit → Act → World → Prop} (hgd : o.guard = none) (s x : Operand)
    (ho : o.op = .call { callee := .builtin .append, args := #[s, x], argTypes := #[t, t] })
    (base : Nat) (v : Value) (n : Nat) (xs : List Value) (hs : a.eval s = v) (hown : W.ownsRow base e size v n xs)
    (cs : Array Value) (g : Nat) (hx : a.eval x = .slice (some ⟨g, 0, none⟩) 1 1) (hg : g = W.heap.size) (hcs : cs.size = size) (h1 : ∀ u ∈ cs.toList, u.oneCell' = true)
    (hb : (n + 1) * bytes ≤ 140737488355328) (hbase : base ≤ W.heap.size)
    (h : ∀ A' c' w', w'.ownsRow base e size (.slice A' (n + 1) c') (n + 1) (xs ++ cs.toList) → W.grownBy w' v.ownBlock → (∀ k, (Value.slice A' (n + 1) c').ownBlock = some k → v.ownBlock = some k ∨ W.heap.size ≤ k) → wpList P ops Q rest (a.put o.dst (.slice A' (n + 1) c')) w') : wpList P ops Q (o :: rest) a (W.alloc (.cells cs e)) := by
  subst hg
  exact wpList_app1 T hgd s x ho base v n xs hs hown cs hx hcs h1 hb hbase h
end
end Go.Proofs.YtchmdpkjipaafaaDoor
namespace Go.Proofs.YtchmdpkjipaafaaDoor
set_option linter.unusedVariables false
set_option linter.unusedSimpArgs false
open Go.RowKit

/-- Entries in memory made since w: each with bytes of its own. -/
structure CpS (w : World) (es : List Vf.Ent) (A : Option Addr) (c : Nat) (l' : List EntA) (W : World) : Prop where
  map : l'.map (·.e) = es
  row : W.ownsRow w.heap.size 64 7 (.slice A l'.length c) l'.length (rowCs entVals l')
  dat : ∀ s ∈ l', W.ownsRow w.heap.size 5 1 (.slice s.A s.n s.c) s.n (bys s.e.data)
  apart : l'.Pairwise (fun s t => ∀ g, (Value.slice s.A s.n s.c).ownBlock = some g → (Value.slice t.A t.n t.c).ownBlock ≠ some g)
  bel : Below w.heap.size w W
section
variable {w W W' : World} {es : List Vf.Ent} {A : Option Addr} {c : Nat} {l' : List EntA}
theorem CpS.keep (h : CpS w es A c l' W) (hk : ∀ k, w.heap.size ≤ k → k < W.heap.size → W'.heap[k]? = W.heap[k]?) (hb : Below w.heap.size w W') : CpS w es A c l' W' :=
  ⟨h.map, own_keepA h.row hk, fun s hs => own_keepA (h.dat s hs) hk, h.apart, hb⟩
theorem CpS.below (h : CpS w es A c l' W) (hb : Below W.heap.size W W') : CpS w es A c l' W' := h.keep (fun k _ hk => hb.block k hk) (h.bel.trans (hb.mono h.bel.size))
theorem CpS.len (h : CpS w es A c l' W) : l'.length = es.length := by rw [← h.map, List.length_map]
end
theorem row_blkS {w : World} {base n c k size : Nat} {e : TypeId} {A : Option Addr} {xs : List Value} (h : w.ownsRow base e size (.slice A n c) n xs) (hk : (Value.slice A n c).ownBlock = some k) : ∃ cs, w.heap[k]? = some (.cells cs e (0, 0)) := by
  rcases h.2 with ⟨h1, h2⟩ | ⟨g, cap, cur, hv, hbg, hh, hcap⟩
  · rw [h1] at hk; cases hk
  · rw [hv] at hk
    have : g = k := by simpa [Value.ownBlock] using hk
    exact ⟨cur, this ▸ hh⟩
theorem own_tyne {w : World} {base base2 n c n2 c2 size size2 : Nat} {e e2 : TypeId} {A A2 : Option Addr} {xs xs2 : List Value} (h : w.ownsRow base e size (.slice A n c) n xs) (h2 : w.ownsRow base2 e2 size2 (.slice A2 n2 c2) n2 xs2) (hne : e ≠ e2) : (Value.slice A n c).ownBlock = none ∨ (Value.slice A n c).ownBlock ≠ (Value.slice A2 n2 c2).ownBlock := by
  cases hv : (Value.slice A n c).ownBlock with
  | none => exact .inl rfl
  | some k =>
    refine .inr fun e0 => ?_
    obtain ⟨cs, h3⟩ := row_blkS h hv
    obtain ⟨cs2, h4⟩ := row_blkS h2 e0.symm
    rw [h3] at h4
    injection h4 with h4
    injection h4 with _ h5
    exact hne h5
/-- One entry more, its bytes in a row made since. -/
theorem CpS.next {w W0 W W' : World} {es : List Vf.Ent} {A0 A : Option Addr} {c0 c : Nat} {l' : List EntA} (h0 : CpS w es A c l' W0) (h : CpS w es A c l' W) (s : EntA) (hd : W.ownsRow (W0.heap.size + 1) 5 1 (.slice s.A s.n s.c) s.n (bys s.e.data)) (hlo : w.heap.size ≤ W0.heap.size)
    (A' : Option Addr) (c' : Nat) (hr : W'.ownsRow w.heap.size 64 7 (.slice A' (l'.length + 1) c') (l'.length + 1) (rowCs entVals l' ++ entVals s)) (hg : W.grownBy W' (Value.slice A l'.length c).ownBlock) : CpS w (es ++ [s.e]) A' c' (l' ++ [s]) W' := by
  have hne : (5 : TypeId) ≠ 64 := by decide
  refine ⟨by rw [List.map_append, h.map]; rfl, ?_, ?_, ?_, h.bel.grown hg h.bel.size (fun k hk => (h.row.lt k hk).1)⟩
  · rw [List.length_append, rowCs_app]
    have e1 : rowCs entVals [s] = entVals s := by simp [rowCs]
    rw [e1]
    exact hr
  · intro t ht
    rcases List.mem_append.1 ht with ht | ht
    · exact (h.dat t ht).kept hg (own_tyne (h.dat t ht) h.row hne)
    · have e1 : t = s := by simpa using ht
      subst e1
      exact own_base (hd.kept hg (own_tyne hd h.row hne)) (by omega)
  · rw [List.pairwise_append]
    refine ⟨h.apart, by simp, fun t ht u hu g hg2 e => ?_⟩
    have e1 : u = s := by simpa using hu
    subst e1
    have a1 := ((h0.dat t ht).lt g hg2).2
    have a2 := (hd.lt g e).1
    omega
def CpE (es : List Vf.Ent) (w : World) (e : Ending) (w' : World) : Prop := ∃ A c l', e = .returned (.slice A es.length c) ∧ CpS w es A c l' w'
theorem entC_one (s : EntA) : ∀ u ∈ (entVals s), u.oneCell' = true := by
  intro u hu
  simp only [entVals, entC, List.mem_cons, List.not_mem_nil, or_false] at hu
  rcases hu with rfl | rfl | rfl | rfl | rfl | rfl | rfl <;> rfl

set_option maxRecDepth 100000 in
set_option maxHeartbeats 4000000 in
theorem copyEnts_any (l : List EntA) (A : Option Addr) (n c B : Nat) (w : World) (h : Rd w B 7 A n (rowCs entVals l)) (hB : B ≤ w.heap.size) (hl : l.length = n) (hn : n ≤ 4294967296) (hok : ∀ s ∈ l, Rd w B 1 s.A s.n (bys s.e.data) ∧ s.n ≤ 4294967296) :
    Calls Tryd.prog 18 #[.slice A n c] w (CpE (l.map (·.e)) w) := by
  have H := hide h
  have Hl := hide hl
  have Hok := hide hok
  clear h hl hok
  go_enter Tryd.func18, Tryd.ntmps18
  go_wp2_with fail
  go_loopg [3, 4] n (fun gk lv iv wr => ∃ (k : Nat) (A1 : Option Addr) (c1 : Nat) (l1 : List EntA), gk = n - k ∧ k ≤ n ∧ l1.length = k ∧ iv = .int .i64 (k : Nat) ∧ lv = .slice A1 k c1 ∧ CpS w ((l.take k).map (·.e)) A1 c1 l1 wr)
  case atStart => exact ⟨0, none, 0, [], by omega, Nat.zero_le _, rfl, rfl, rfl, rfl, World.ownsRow_nil _ _ _ _, by simp, by simp, Below.refl _ _⟩
  case round =>
  obtain ⟨k, A1, c1, l1, hgk, hk, hl1, rfl, rfl, hS⟩ := hrel
  have Hgk := hide hgk
  have Hl1 := hide hl1
  have HS := hide hS
  have hsz := hS.bel.size
  clear hgk hS hl1
  by_cases hlt : k < n
  · obtain ⟨s, hs⟩ : ∃ s, l[k]? = some s := ⟨_, List.getElem?_eq_getElem (by rw [unhide Hl]; exact hlt)⟩
    obtain ⟨b1, o1, rfl, hb1, cc1⟩ := (unhide H).open_ (by
      intro h0
      have := rowCs_len (vals := entVals) (size := 7) (fun _ => rfl) l
      rw [h0, unhide Hl] at this
      simp at this
      omega)
    have hc : ∀ j u, (entVals s)[j]? = some u → wr.cell? ⟨b1, o1 + (k * 7 + j), none⟩ = some u := by
      intro j u hu
      have hj : j < 7 := (List.getElem?_eq_some_iff.1 hu).1
      refine ((unhide HS).bel.cell (p := ⟨b1, _, none⟩) (Nat.lt_of_lt_of_le hb1 hB)).trans (cc1 _ _ ?_)
      rw [rowCs_at (vals := entVals) (size := 7) (fun _ => rfl) l k s hs j hj, hu]
    have x0 := hc 0 _ rfl
    have x1 := hc 1 _ rfl
    have x2 := hc 2 _ rfl
    have x3 := hc 3 _ rfl
    have x4 := hc 4 _ rfl
    have x5 := hc 5 _ rfl
    have x6 := hc 6 _ rfl
    rw [Nat.add_zero] at x0
    simp only [← Nat.add_assoc] at x1 x2 x3 x4 x5 x6
    obtain ⟨hd, hdn⟩ := (unhide Hok) s (List.mem_of_getElem? hs)
    have hbA : Below wr.heap.size wr (wr.alloc (.cells #[.string s.e.path, .int .u8 (s.e.kind : Nat), .int .u16 (s.e.mode : Nat), .int .u32 (s.e.uid : Nat), .int .u32 (s.e.gid : Nat), .slice s.A s.n s.c, .string s.e.to] 64)) := (Below.refl _ _).alloc (Nat.le_refl _) _
    have hbW := (unhide HS).bel.trans (hbA.mono hsz)
    have KC := hide (copyBytes_any s.A s.n s.c w.heap.size s.e.data (wr.alloc (.cells #[.string s.e.path, .int .u8 (s.e.kind : Nat), .int .u16 (s.e.mode : Nat), .int .u32 (s.e.uid : Nat), .int .u32 (s.e.gid : Nat), .slice s.A s.n s.c, .string s.e.to] 64)) hbW.size ((hd.more hB).below hbW) hdn)
    have ilt : (k : Int) < (n : Int) := by omega
    have Hs := hide hs
    have HbA := hide hbA
    clear hc cc1 hs hd hdn hbA hbW
    go_wp2_with fail
    refine (unhide KC).mono ?_
    rintro e w2 ⟨A2, c2, rfl, ho2, hb2⟩
    have hq : Blk w2 wr.heap.size 64 [.string s.e.path, .int .u8 (s.e.kind : Nat), .int .u16 (s.e.mode : Nat), .int .u32 (s.e.uid : Nat), .int .u32 (s.e.gid : Nat), .slice s.A s.n s.c, .string s.e.to] := (Blk.new wr 64 _).belowSz hb2
    have hq2 := hq.set 5 (.slice A2 s.n c2)
    have hb3 := (unhide HbA).trans (hb2.mono (by simp))
    have hb4 := hb3.setCell (p := ⟨wr.heap.size, 5, none⟩) (Nat.le_refl _) (.slice A2 s.n c2)
    have ho4 : (w2.setCell ⟨wr.heap.size, 5, none⟩ (.slice A2 s.n c2)).ownsRow (wr.heap.size + 1) 5 1 (.slice A2 s.n c2) s.n (bys s.e.data) := by
      rw [World.size_alloc] at ho2
      exact own_keepB' ho2 (fun g hg => heap_setCell_other _ _ _ _ (by have := (ho2.lt g hg).1; show g ≠ wr.heap.size; omega))
    obtain ⟨p0, p1, p2, p3, p4, p5, p6⟩ : w2.cell? ⟨wr.heap.size, 0, none⟩ = some (.string s.e.path) ∧ w2.cell? ⟨wr.heap.size, 1, none⟩ = some (.int .u8 (s.e.kind : Nat)) ∧ w2.cell? ⟨wr.heap.size, 2, none⟩ = some (.int .u16 (s.e.mode : Nat)) ∧ w2.cell? ⟨wr.heap.size, 3, none⟩ = some (.int .u32 (s.e.uid : Nat)) ∧ w2.cell? ⟨wr.heap.size, 4, none⟩ = some (.int .u32 (s.e.gid : Nat)) ∧ w2.cell? ⟨wr.heap.size, 5, none⟩ = some (.slice s.A s.n s.c) ∧ w2.cell? ⟨wr.heap.size, 6, none⟩ = some (.string s.e.to) := ⟨hq.cell rfl, hq.cell rfl, hq.cell rfl, hq.cell rfl, hq.cell rfl, hq.cell rfl, hq.cell rfl⟩
    have pf := hq.free 5
    have HS4 := hide ((unhide HS).below hb4)
    have Ho4 := hide ho4
    have Hb4 := hide hb4
    have hsz4 : wr.heap.size ≤ (w2.setCell ⟨wr.heap.size, 5, none⟩ (.slice A2 s.n c2)).heap.size := hb4.size
    have hszw : w.heap.size ≤ (w2.setCell ⟨wr.heap.size, 5, none⟩ (.slice A2 s.n c2)).heap.size := Nat.le_trans hsz hsz4
    have Hq2 := hide hq2
    have hrow4 := (unhide HS4).row
    rw [unhide Hl1] at hrow4
    have Hrow4 := hide hrow4
    have hent : (l.take (k + 1)).map (·.e) = (l.take k).map (·.e) ++ [s.e] := by
      rw [List.take_add_one, unhide Hs, List.map_append]
      rfl
    have Hent := hide hent
    clear x0 x1 x2 x3 x4 x5 x6 hb2 ho2 hq hq2 hb3 hb4 ho4 KC HbA hrow4 hent
    go_wp2_with (at_builtin; refine wpList_app1g entTy rfl _ _ rfl w.heap.size (.slice A1 k c1) k _ rfl (unhide Hrow4) #[.string s.e.path, .int .u8 (s.e.kind : Nat), .int .u16 (s.e.mode : Nat), .int .u32 (s.e.uid : Nat), .int .u32 (s.e.gid : Nat), .slice A2 s.n c2, .string s.e.to] _ rfl (by simp) rfl (entC_one ⟨s.e, A2, s.n, c2⟩) (by omega) hszw ?_; intro A5 c5 w5 ho5 hg5 hat5; have Ho5 := hide ho5; have Hg5 := hide hg5; clear ho5 hg5 hat5)
    go_roundg (n - (k + 1))
    case rel =>
      have hg5 := unhide Hg5
      refine ⟨k + 1, A5, c5, l1 ++ [⟨s.e, A2, s.n, c2⟩], rfl, by omega, by rw [List.length_append, unhide Hl1]; rfl, by go_num, rfl, ?_⟩
      rw [unhide Hent]
      exact CpS.next (A0 := A1) (c0 := c1) (unhide HS) (unhide HS4) ⟨s.e, A2, s.n, c2⟩ (unhide Ho4) hsz A5 c5 (by rw [unhide Hl1]; exact unhide Ho5) (by rw [unhide Hl1]; exact hg5)
    case measure => rw [unhide Hgk]; omega
  · have ilt : ¬ (k : Int) < (n : Int) := by omega
    have hkn : k = n := by omega
    go_wp2_with fail
    go_ret
    have hS := unhide HS
    rw [List.take_of_length_le (by rw [unhide Hl]; omega)] at hS
    refine ⟨A1, c1, l1, ?_, hS⟩
    rw [List.length_map, unhide Hl]
    first | rfl | rw [hkn]
end Go.Proofs.YtchmdpkjipaafaaDoor
namespace Go.Proofs.YtchmdpkjipaafaaDoor
set_option linter.unusedVariables false
set_option linter.unusedSimpArgs false
open Go.RowKit

/-- Where a node's bytes lie. -/
structure RPl where
  A : Option Addr
  n : Nat
  c : Nat
def rndV (y : Vf.Nd × RPl) : List Value := [.int .u8 (y.1.m.kind : Nat), .int .u16 (y.1.m.mode : Nat), .int .u32 (y.1.m.uid : Nat), .int .u32 (y.1.m.gid : Nat), .int .i64 (y.1.m.size : Nat), .int .i64 (y.1.up : Nat), .string y.1.name, .slice y.2.A y.2.n y.2.c, .string y.1.to]
structure RFs (w : World) (base g : Nat) (A : Option Addr) (c : Nat) (F : List Vf.Nd) (ls : List RPl) : Prop where
  len : ls.length = F.length
  lo : base ≤ g
  fs : Blk w g 81 [.slice A F.length c]
  row : w.ownsRow base 83 9 (.slice A F.length c) F.length (rowCs rndV (F.zip ls))
  dat : ∀ (i : Nat) (x : Vf.Nd) (p : RPl), F[i]? = some x → ls[i]? = some p → w.ownsRow base 5 1 (.slice p.A p.n p.c) p.n (bys x.data)
section
variable {w w' : World} {base g c : Nat} {A : Option Addr} {F : List Vf.Nd} {ls : List RPl}
theorem RFs.keep (h : RFs w base g A c F ls) (hk : ∀ k, base ≤ k → k < w.heap.size → w'.heap[k]? = w.heap[k]?) : RFs w' base g A c F ls :=
  ⟨h.len, h.lo, (hk g h.lo h.fs.lt).trans h.fs, own_keepA h.row hk, fun i x p h1 h2 => own_keepA (h.dat i x p h1 h2) hk⟩
theorem RFs.belowSz (h : RFs w base g A c F ls) (hb : Below w.heap.size w w') : RFs w' base g A c F ls := h.keep fun k _ hk => hb.block k hk
theorem RFs.at_ (h : RFs w base g A c F ls) {i : Nat} {x : Vf.Nd} (hx : F[i]? = some x) : ∃ p, ls[i]? = some p ∧ (F.zip ls)[i]? = some (x, p) := by
  have hi : i < F.length := (List.getElem?_eq_some_iff.1 hx).1
  have hl : i < ls.length := by rw [h.len]; exact hi
  have hz : (F.zip ls)[i]? = some (x, ls[i]) := by
    rw [List.getElem?_eq_getElem (by rw [List.length_zip]; omega), List.getElem_zip, (List.getElem?_eq_some_iff.1 hx).2]
  exact ⟨ls[i], List.getElem?_eq_getElem hl, hz⟩
/-- A node's cells: the row begins at o1. -/
theorem RFs.cells (h : RFs w base g A c F ls) (h0 : 0 < F.length) : ∃ b1 o1, A = some ⟨b1, o1, none⟩ ∧ b1 < w.heap.size ∧ ∀ (i : Nat) (x : Vf.Nd) (p : RPl), F[i]? = some x → ls[i]? = some p → ∀ j u, (rndV (x, p))[j]? = some u → w.cell? ⟨b1, o1 + (i * 9 + j), none⟩ = some u := by
  have hr := Rd.of_own h.row
  have hlen := rowCs_len (vals := rndV) (size := 9) (fun _ => rfl) (F.zip ls)
  have hzl : (F.zip ls).length = F.length := by rw [List.length_zip, h.len, Nat.min_self]
  obtain ⟨b1, o1, hA, hb, hc⟩ := hr.open_ (by
    intro e
    rw [e, hzl] at hlen
    simp at hlen
    omega)
  refine ⟨b1, o1, hA, hb, fun i x p hx hp j u hu => hc _ _ ?_⟩
  obtain ⟨p', hp', hz⟩ := h.at_ hx
  obtain rfl : p = p' := Option.some.inj (hp.symm.trans hp')
  have hj : j < 9 := (List.getElem?_eq_some_iff.1 hu).1
  rw [rowCs_at (vals := rndV) (size := 9) (fun _ => rfl) (F.zip ls) i (x, p) hz j hj, hu]
end
def numV : Option Nat → Value
  | none => .int .i64 (-1)
  | some i => .int .i64 (i : Nat)
theorem child_from {F : List Vf.Nd} {d k : Nat} {nm : ByteArray} {x : Vf.Nd} (hx : F[k]? = some x) : ((F.drop k).findIdx? (Vf.isKid d nm)).map (· + k) = if Vf.isKid d nm x = true then some k else ((F.drop (k + 1)).findIdx? (Vf.isKid d nm)).map (· + (k + 1)) := by
  rw [List.drop_eq_getElem_cons (List.getElem?_eq_some_iff.1 hx).1, (List.getElem?_eq_some_iff.1 hx).2, List.findIdx?_cons]
  by_cases h : Vf.isKid d nm x = true
  · rw [if_pos h, if_pos h]; simp
  · rw [if_neg h, if_neg h, Option.map_map]
    congr 1
    funext t
    simp only [Function.comp]
    omega
theorem child_end {F : List Vf.Nd} {d k : Nat} {nm : ByteArray} (hk : F.length ≤ k) : ((F.drop k).findIdx? (Vf.isKid d nm)).map (· + k) = none := by
  rw [List.drop_of_length_le hk]
  rfl
theorem str_eq (a b : ByteArray) : (a.toList == b.toList) = decide (a = b) := beq_toList a b

set_option maxRecDepth 100000 in
set_option maxHeartbeats 1000000 in
theorem rchild_any (F : List Vf.Nd) (ls : List RPl) (base g c : Nat) (A : Option Addr) (d : Nat) (nm : ByteArray) (w : World) (h : RFs w base g A c F ls) (hn : F.length ≤ 65) (h0 : 0 < F.length) :
    Calls Tryd.prog 57 #[.pointer (some ⟨g, 0, none⟩), .int .i64 (d : Nat), .string nm] w fun e w' => e = .returned (numV (Vf.child F d nm)) ∧ w = w' := by
  obtain ⟨b1, o1, rfl, _, hc⟩ := h.cells h0
  have v0 := h.fs.cell (i := 0) rfl
  obtain ⟨n, hfn⟩ : ∃ n, F.length = n := ⟨_, rfl⟩
  rw [hfn] at v0 hn
  obtain ⟨r, hr⟩ : ∃ r, Vf.child F d nm = r := ⟨_, rfl⟩
  rw [hr]
  have Hr := hide hr
  have H := hide h
  have Hc := hide hc
  have Hfn := hide hfn
  have h0n : 1 ≤ n := by omega
  clear hr h hc hfn h0
  go_enter Tryd.func57, Tryd.ntmps57
  go_wp2_with fail
  go_loop [7] (fun iv => ∃ k : Nat, 1 ≤ k ∧ k ≤ n ∧ iv = .int .i64 (k : Nat) ∧ ((F.drop k).findIdx? (Vf.isKid d nm)).map (· + k) = r) (fun iv => n - (intOf iv).toNat)
  case atStart => exact ⟨1, by omega, by omega, rfl, unhide Hr⟩
  case round =>
    obtain ⟨k, hk1, hk, rfl, hrk⟩ := hrel
    have Hrk := hide hrk
    clear hrk
    by_cases hlt : k < n
    · obtain ⟨x, hx⟩ : ∃ x, F[k]? = some x := ⟨_, List.getElem?_eq_getElem (by rw [unhide Hfn]; exact hlt)⟩
      obtain ⟨p, hp, _⟩ := (unhide H).at_ hx
      have x5 := (unhide Hc) k x p hx hp 5 _ rfl
      have x6 := (unhide Hc) k x p hx hp 6 _ rfl
      simp only [← Nat.add_assoc] at x5 x6
      have hst := child_from (d := d) (nm := nm) hx
      rw [unhide Hrk] at hst
      have ilt : (k : Int) < (n : Int) := by omega
      have hkid : Vf.isKid d nm x = (decide (x.up = d) && decide (x.name = nm)) := rfl
      have hse := str_eq x.name nm
      by_cases hu : x.up = d
      · have q1 : (((x.up : Nat) : Int) == ((d : Nat) : Int)) = true := by rw [hu]; simp
        rw [decide_eq_true hu] at hkid
        by_cases hnm : x.name = nm
        · rw [decide_eq_true hnm] at hkid hse
          rw [if_pos (by rw [hkid]; rfl)] at hst
          have Hst := hide hst
          clear hst hkid hnm hu hx hp
          go_wp2_with fail
          go_ret
          rw [unhide Hst]
          exact ⟨rfl, rfl⟩
        · rw [decide_eq_false hnm] at hkid hse
          rw [if_neg (by rw [hkid]; simp)] at hst
          have Hst := hide hst
          clear hst hkid hnm hu hx hp
          go_wp2_with fail
          go_round
          case rel => exact ⟨k + 1, by omega, by omega, by go_num, (unhide Hst).symm⟩
          case measure => simp [intOf]; omega
      · have q1 : (((x.up : Nat) : Int) == ((d : Nat) : Int)) = false := by rw [beq_eq_false_iff_ne]; omega
        rw [decide_eq_false hu] at hkid
        rw [if_neg (by rw [hkid]; simp)] at hst
        have Hst := hide hst
        clear hst hkid hu hx hp hse
        go_wp2_with fail
        go_round
        case rel => exact ⟨k + 1, by omega, by omega, by go_num, (unhide Hst).symm⟩
        case measure => simp [intOf]; omega
    · have ilt : ¬ (k : Int) < (n : Int) := by omega
      have hst := child_end (F := F) (d := d) (nm := nm) (k := k) (by rw [unhide Hfn]; omega)
      rw [unhide Hrk] at hst
      have Hst := hide hst
      clear hst
      go_wp2_with fail
      go_ret
      rw [unhide Hst]
      exact ⟨rfl, rfl⟩

set_option maxRecDepth 100000 in
set_option maxHeartbeats 1000000 in
theorem rat_any (F : List Vf.Nd) (ls : List RPl) (base g c : Nat) (A A' : Option Addr) (n' c' B : Nat) (l : List ByteArray) (w : World) (h : RFs w base g A c F ls) (hn : F.length ≤ 65) (h0 : 0 < F.length) (hl : Rd w B 1 A' n' (l.map Value.string)) (hn' : n' ≤ 4294967296) :
    Calls Tryd.prog 36 #[.pointer (some ⟨g, 0, none⟩), .slice A' n' c'] w fun e w' => e = .returned (numV (Vf.at_ F 0 l)) ∧ w = w' := by
  have hll : l.length = n' := by simpa using hl.len1
  have KC := hide (fun d nm => rchild_any F ls base g c A d nm w h hn h0)
  obtain ⟨r, hr⟩ : ∃ r, Vf.at_ F 0 l = r := ⟨_, rfl⟩
  rw [hr]
  have Hr := hide hr
  have Hl := hide hl
  have Hll := hide hll
  clear hr hl hll h
  go_enter Tryd.func36, Tryd.ntmps36
  go_wp2_with fail
  go_loop [5, 6] (fun nv iv => ∃ k : Nat, k ≤ n' ∧ iv = .int .i64 (k : Nat) ∧ nv = numV (Vf.at_ F 0 (l.take k))) (fun _ iv => n' - (intOf iv).toNat)
  case atStart => exact ⟨0, Nat.zero_le _, rfl, rfl⟩
  case round =>
    obtain ⟨k, hk, rfl, rfl⟩ := hrel
    cases hat : Vf.at_ F 0 (l.take k) with
    | none =>
      have hr0 : r = none := by rw [← unhide Hr]; exact Vf.at_stop hat
      have e1 : numV none = .int .i64 (-1) := rfl
      rw [e1]
      clear hat
      by_cases hlt : k < n'
      · have i1 : (k : Int) < (n' : Int) := by omega
        go_wp2_with fail
        go_ret
        subst hr0
        exact ⟨rfl, rfl⟩
      · have i1 : ¬ (k : Int) < (n' : Int) := by omega
        go_wp2_with fail
        go_ret
        subst hr0
        exact ⟨rfl, rfl⟩
    | some i =>
      have e1 : numV (some i) = .int .i64 (i : Nat) := rfl
      rw [e1]
      by_cases hlt : k < n'
      · obtain ⟨nm, hnm⟩ : ∃ nm, l[k]? = some nm := ⟨_, List.getElem?_eq_getElem (by rw [unhide Hll]; exact hlt)⟩
        obtain ⟨b1, o1, rfl, _, c1⟩ := (unhide Hl).at_ (k := k) (u := .string nm) (by simp [hnm])
        have hnx := Vf.at_next hat hnm
        have i1 : (k : Int) < (n' : Int) := by omega
        have i2 : (0 : Int) ≤ (i : Int) := by omega
        have Hnx := hide hnx
        clear hnx hat hnm
        go_wp2_with fail
        refine ((unhide KC) i nm).mono ?_
        rintro e w2 ⟨rfl, rfl⟩
        go_wp2_with fail
        go_round
        case rel => exact ⟨k + 1, by omega, by go_num, by rw [unhide Hnx]⟩
        case measure => simp [intOf]; omega
      · have i1 : ¬ (k : Int) < (n' : Int) := by omega
        have hr0 : r = some i := by rw [← unhide Hr, ← hat, List.take_of_length_le (by have := unhide Hll; omega)]
        clear hat
        go_wp2_with fail
        go_ret
        subst hr0
        exact ⟨rfl, rfl⟩
end Go.Proofs.YtchmdpkjipaafaaDoor
namespace Go.Proofs.YtchmdpkjipaafaaDoor
set_option linter.unusedVariables false
set_option linter.unusedSimpArgs false
open Go.RowKit

theorem take_ext {α : Type} {xs ys : List α} {k : Nat} {x : α} (h : xs.take k = ys.take k) (hx : xs[k]? = some x) (hy : ys[k]? = some x) : xs.take (k + 1) = ys.take (k + 1) := by
  rw [List.take_add_one, List.take_add_one, h, hx, hy]

set_option maxHeartbeats 1000000 in
theorem eqTexts_any (A B : Option Addr) (n m c d K : Nat) (xs ys : List ByteArray) (w : World) (ha : Rd w K 1 A n (xs.map Value.string)) (hb : Rd w K 1 B m (ys.map Value.string)) (hn : n ≤ maxLen) (hm : m ≤ maxLen) :
    Calls Tryd.prog 12 #[.slice A n c, .slice B m d] w fun e w' => e = .returned (.bool (decide (xs = ys))) ∧ ∃ j, w' = w.drewN j := by
  have hxl : xs.length = n := by simpa using ha.len1
  have hyl : ys.length = m := by simpa using hb.len1
  unfold maxLen at hn hm
  have Hxl := hide hxl
  have Hyl := hide hyl
  have Ha := hide ha
  have Hb := hide hb
  clear hxl hyl ha hb
  go_enter Tryd.func12, Tryd.ntmps12
  go_wp2
  go_loopw [5] (fun at_ wr => ∃ k j : Nat, at_ = .int .i64 k ∧ k ≤ n ∧ k ≤ m ∧ xs.take k = ys.take k ∧ wr = w.drewN j) (fun at_ _ => n - (intOf at_).toNat)
  case atStart => exact ⟨0, 0, rfl, Nat.zero_le _, Nat.zero_le _, rfl, rfl⟩
  case round =>
    obtain ⟨k, j, rfl, hkn, hkm, htk, rfl⟩ := hrel
    have Htk := hide htk
    clear htk
    by_cases h1 : k < n
    · have d1 : decide (k < n) = true := by simpa using h1
      have i1 : (k : Int) < (n : Int) := by omega
      by_cases h2 : k < m
      · have d2 : decide (k < m) = true := by simpa using h2
        have i2 : (k : Int) < (m : Int) := by omega
        obtain ⟨x, hx⟩ : ∃ x, xs[k]? = some x := ⟨_, List.getElem?_eq_getElem (by rw [unhide Hxl]; exact h1)⟩
        obtain ⟨y, hy⟩ : ∃ y, ys[k]? = some y := ⟨_, List.getElem?_eq_getElem (by rw [unhide Hyl]; exact h2)⟩
        obtain ⟨b1, o1, rfl, _, c1⟩ := (unhide Ha).at_ (k := k) (u := .string x) (by simp [hx])
        obtain ⟨b2, o2, rfl, _, c2⟩ := (unhide Hb).at_ (k := k) (u := .string y) (by simp [hy])
        have Hx := hide hx
        have Hy := hide hy
        have hbq := beq_toList x y
        clear hx hy
        by_cases he : x = y
        · have q : (x.toList == y.toList) = true := by rw [hbq]; simpa using he
          subst he
          clear hbq
          go_wp2
          go_quiet (fail)
          go_wp2
          go_round
          case rel => exact ⟨k + 1, j + nq, by go_num, by omega, by omega, take_ext (unhide Htk) (unhide Hx) (unhide Hy), rfl⟩
          case measure => simp [intOf]; omega
        · have q : (x.toList == y.toList) = false := by rw [hbq]; simpa using he
          have He := hide he
          clear hbq he
          go_wp2
          go_quiet (fail)
          go_wp2
          go_ret
          refine ⟨ret_bool ?_, _, rfl⟩
          symm
          simp only [decide_eq_false_iff_not]
          rintro rfl
          exact unhide He (Option.some.inj ((unhide Hx).symm.trans (unhide Hy)))
      · have d2 : decide (k < m) = false := by simpa using h2
        go_wp2
        go_quiet (fail)
        go_wp2
        go_ret
        refine ⟨ret_bool ?_, _, rfl⟩
        symm
        simp only [decide_eq_false_iff_not]
        rintro rfl
        have := unhide Hxl
        have := unhide Hyl
        omega
    · have d1 : decide (k < n) = false := by simpa using h1
      go_wp2
      go_quiet (fail)
      go_wp2
      go_ret
      refine ⟨ret_bool ?_, _, rfl⟩
      have hl1 := unhide Hxl
      have hl2 := unhide Hyl
      rw [Bool.eq_iff_iff, beq_iff_eq, decide_eq_true_eq]
      constructor
      · intro e
        have e' := unhide Htk
        rwa [List.take_of_length_le (by omega), List.take_of_length_le (by omega)] at e'
      · rintro rfl
        omega

end Go.Proofs.YtchmdpkjipaafaaDoor
namespace Go.Proofs.YtchmdpkjipaafaaDoor
set_option linter.unusedVariables false
set_option linter.unusedSimpArgs false
open Go.RowKit

theorem pcsAt_len (s : ByteArray) : ∀ (l : List UInt8) (i f : Nat), (Pth.pcsL s l i f).length ≤ l.length + 1 := by
  intro l
  induction l with
  | nil => intro i f; exact Nat.le_refl _
  | cons c r ih =>
    intro i f
    unfold Pth.pcsL
    have h1 := ih (i + 1) (i + 1)
    have h2 := ih (i + 1) f
    split
    · simp only [List.length_cons]; omega
    · simp only [List.length_cons]; omega
theorem pcs_len (s : ByteArray) : (Pth.pcs s).length ≤ s.size + 1 := pcsAt_len s s.data.toList 0 0

set_option maxHeartbeats 1000000 in
theorem rpieces_any (p : ByteArray) (hp : p.size ≤ 4294967296) (w : World) :
    Calls Tryd.prog 56 #[.string p] w fun e w' => ∃ A c, e = .returned (.slice A (Pth.pcs p).length c) ∧ w'.ownsRow w.heap.size 9 1 (.slice A (Pth.pcs p).length c) (Pth.pcs p).length ((Pth.pcs p).map Value.string) ∧ Below w.heap.size w w' := by
  go_enter Tryd.func56, Tryd.ntmps56
  go_wp2
  go_loopw [3, 4, 5] (fun out fr i wr => ∃ (k f : Nat) (A : Option Addr) (c : Nat) (l : List ByteArray), k ≤ p.size + 1 ∧ f ≤ k ∧ l.length ≤ k ∧ i = .int .i64 k ∧ fr = .int .i64 f ∧ out = .slice A l.length c ∧
    wr.ownsRow w.heap.size 9 1 (.slice A l.length c) l.length (l.map Value.string) ∧ Below w.heap.size w wr ∧ (k ≤ p.size → Pth.pcs p = l ++ Pth.pcsAt p k f) ∧ (k = p.size + 1 → Pth.pcs p = l)) (fun _ _ i _ => p.size + 1 - (intOf i).toNat)
  case atStart => exact ⟨0, 0, none, 0, [], by omega, Nat.le_refl _, Nat.le_refl _, rfl, rfl, rfl, World.ownsRow_nil _ _ _ _, Below.refl _ _, fun _ => rfl, fun h => by omega⟩
  case round =>
    obtain ⟨k, f, A, c, l, hk, hfk, hlk, rfl, rfl, rfl, hown, hb, h1, h2⟩ := hrel
    have H1 := hide h1
    have H2 := hide h2
    have hsz := hb.size
    clear h1 h2
    by_cases hlt : k ≤ p.size
    · have he := unhide H1 hlt
      by_cases hend : k = p.size
      · subst hend
        have b1 : ((p.size : Int) == (p.size : Int)) = true := by simp
        have hgo : Pth.pcs p = l ++ [p.extract f p.size] := by rw [he, Pth.pcsAt_end]
        have Hgo := hide hgo
        clear he hgo
        go_wp2_with (at_builtin; refine wpList_app1 strTy rfl _ _ rfl w.heap.size (.slice A l.length c) l.length (l.map Value.string) rfl hown #[.string (p.extract f p.size)] rfl rfl (by simp [Value.oneCell']) (by omega) (by omega) ?_; intro A' c' w1 hown' hgrow hat; have hb1 := hide (hb.grown hgrow hsz (fun k hk => (hown.lt k hk).1)); have Hown' := hide hown'; clear hgrow hat hown')
        go_roundw
        case rel =>
          refine ⟨p.size + 1, p.size + 1, A', c', l ++ [p.extract f p.size], by omega, by omega, by simp; omega, by go_num, by go_num, by simp, ?_, unhide hb1, fun h => by omega, fun _ => unhide Hgo⟩
          simpa using unhide Hown'
        case measure => simp [intOf]
      · have hl2 : k < p.size := by omega
        have b1 : ((k : Int) == (p.size : Int)) = false := by simp; omega
        by_cases hc : p[k] = 47
        · have b2 : (((p[k].toNat : Nat) : Int) == 47) = true := by rw [byte_47]; simpa using hc
          have hgo : Pth.pcs p = (l ++ [p.extract f k]) ++ Pth.pcsAt p (k + 1) (k + 1) := by rw [he, Pth.pcsAt_slash p k f hl2 hc]; simp
          have Hgo := hide hgo
          clear he hgo hc hend
          go_wp2_with (at_builtin; refine wpList_app1 strTy rfl _ _ rfl w.heap.size (.slice A l.length c) l.length (l.map Value.string) rfl hown #[.string (p.extract f k)] rfl rfl (by simp [Value.oneCell']) (by omega) (by omega) ?_; intro A' c' w1 hown' hgrow hat; have hb1 := hide (hb.grown hgrow hsz (fun k hk => (hown.lt k hk).1)); have Hown' := hide hown'; clear hgrow hat hown')
          go_roundw
          case rel =>
            refine ⟨k + 1, k + 1, A', c', l ++ [p.extract f k], by omega, by omega, by simp; omega, by go_num, by go_num, by simp, ?_, unhide hb1, fun _ => unhide Hgo, fun h => by omega⟩
            simpa using unhide Hown'
          case measure => simp [intOf]; omega
        · have b2 : (((p[k].toNat : Nat) : Int) == 47) = false := by rw [byte_47]; simpa using hc
          have hgo : Pth.pcs p = l ++ Pth.pcsAt p (k + 1) f := by rw [he, Pth.pcsAt_skip p k f hl2 hc]
          have Hgo := hide hgo
          clear he hgo hc hend
          go_wp2
          go_roundw
          case rel => exact ⟨k + 1, f, A, c, l, by omega, by omega, by omega, by go_num, rfl, rfl, hown, hb, fun _ => unhide Hgo, fun h => by omega⟩
          case measure => simp [intOf]; omega
    · have he := unhide H2 (by omega)
      have He := hide he
      clear he
      go_wp2
      go_ret
      rw [unhide He]
      exact ⟨A, c, rfl, hown, hb⟩

set_option maxHeartbeats 1000000 in
theorem rcheck_any (p : ByteArray) (hp : p.size ≤ 4294967296) (w : World) :
    Calls Tryd.prog 55 #[.string p] w fun e w' => e = .returned (.int .i64 (Pth.chk p)) ∧ Below w.heap.size w w' := by
  have he0 := isEmpty_toList p
  by_cases h0 : p.size = 0
  · have hr : Pth.chk p = 3 := by simp [Pth.chk, h0]
    have he : p.toList.isEmpty = true := by rw [he0]; simpa using h0
    rw [hr]
    clear he0 hr h0
    go_enter Tryd.func55, Tryd.ntmps55
    go_wp2_with fail
    go_ret
    exact ⟨rfl, Below.refl _ _⟩
  · have he : p.toList.isEmpty = false := by rw [he0]; simpa using h0
    have H0 := hide h0
    clear he0 h0
    go_enter Tryd.func55, Tryd.ntmps55
    go_wp2_with fail
    go_loop [3] (fun i => ∃ k : Nat, k ≤ p.size ∧ i = .int .i64 k ∧ (p.data.toList.take k).contains 0 = false) (fun i => p.size - (intOf i).toNat)
    case atStart => exact ⟨0, by omega, rfl, by simp⟩
    case round =>
      obtain ⟨k, hk, rfl, hz⟩ := hrel
      have Hz := hide hz
      clear hz
      by_cases hlt : k < p.size
      · by_cases hc : p[k] = 0
        · have b2 : (((p[k].toNat : Nat) : Int) == 0) = true := by rw [byte_0]; simpa using hc
          have hr : Pth.chk p = 1 := by
            have hm : p.data.toList.contains 0 = true := by
              rw [List.contains_iff_mem, ← hc]
              exact Array.getElem_mem_toList _
            simp only [Pth.chk, unhide H0, hm, if_true, if_false]
          have Hr := hide hr
          clear hr hc
          go_wp2
          go_ret
          exact ⟨by rw [unhide Hr]; rfl, Below.refl _ _⟩
        · have b2 : (((p[k].toNat : Nat) : Int) == 0) = false := by rw [byte_0]; simpa using hc
          have hz : (p.data.toList.take (k + 1)).contains 0 = false := by
            rw [List.take_succ_eq_append_getElem (by simpa using hlt), List.contains_append, unhide Hz]
            simp only [Bool.false_or]
            exact by simpa using fun h => hc h.symm
          have Hz2 := hide hz
          clear hz hc
          go_wp2
          go_round
          case rel => exact ⟨k + 1, by omega, by go_num, unhide Hz2⟩
          case measure => simp [intOf]; omega
      · have hz : p.data.toList.contains 0 = false := by
          have := unhide Hz
          rwa [List.take_of_length_le (by simp; omega)] at this
        by_cases h2 : 200 < p.size
        · have hr : Pth.chk p = 11 := by simp only [Pth.chk, unhide H0, hz, h2, if_true, if_false, Bool.false_eq_true]
          have Hr := hide hr
          clear hr hz
          go_wp2
          go_ret
          exact ⟨by rw [unhide Hr]; rfl, Below.refl _ _⟩
        · have hr : Pth.chk p = if (Pth.pcs p).any Pth.tooLong then 11 else 0 := by simp only [Pth.chk, unhide H0, hz, h2, if_false, Bool.false_eq_true]
          have Hr := hide hr
          have hl := pcs_len p
          clear hr hz
          go_wp2_with (go_at_call 56; refine (rpieces_any p (by omega) _).mono ?_; rintro e w1 ⟨A, c, rfl, hown, hb⟩)
          generalize Pth.pcs p = l at *
          have hrd := Rd.of_own hown
          have Hrd := hide hrd
          clear hrd hown
          go_loop [5] (fun i => ∃ k : Nat, k ≤ l.length ∧ i = .int .i64 k ∧ (l.take k).any Pth.tooLong = false) (fun i => l.length - (intOf i).toNat)
          case atStart => exact ⟨0, by omega, rfl, by simp⟩
          case round =>
            obtain ⟨k, hk, rfl, hz⟩ := hrel
            have Hz := hide hz
            clear hz
            by_cases hlt : k < l.length
            · obtain ⟨x, hx⟩ : ∃ x, l[k]? = some x := ⟨_, List.getElem?_eq_getElem hlt⟩
              obtain ⟨b1, o1, rfl, _, c1⟩ := (unhide Hrd).at_ (k := k) (u := .string x) (by simp [hx])
              by_cases hlong : 32 < x.size
              · have ha : l.any Pth.tooLong = true := List.any_eq_true.2 ⟨x, List.mem_of_getElem? hx, by simpa [Pth.tooLong] using hlong⟩
                have Ha := hide ha
                clear ha hx
                go_wp2
                go_ret
                exact ⟨by rw [unhide Hr, unhide Ha]; rfl, hb⟩
              · have hz : (l.take (k + 1)).any Pth.tooLong = false := by
                  rw [List.take_add_one, hx, List.any_append, unhide Hz]
                  simp [Pth.tooLong, hlong]
                have Hz2 := hide hz
                clear hz hx
                go_wp2
                go_round
                case rel => exact ⟨k + 1, by omega, by go_num, unhide Hz2⟩
                case measure => simp [intOf]; omega
            · have hz : l.any Pth.tooLong = false := by
                have := unhide Hz
                rwa [List.take_of_length_le (by omega)] at this
              have Hz2 := hide hz
              clear hz
              go_wp2
              go_ret
              exact ⟨by rw [unhide Hr, unhide Hz2]; rfl, hb⟩

end Go.Proofs.YtchmdpkjipaafaaDoor
namespace Go.Proofs.YtchmdpkjipaafaaDoor
set_option linter.unusedVariables false
set_option linter.unusedSimpArgs false
open Go.RowKit

theorem isPart_eq (x : ByteArray) : Pth.isPart x = (!(x.toList.isEmpty) && !(x.toList == [46])) := by
  rw [Lib.toList_data]
  cases h : x.data.toList with
  | nil => simp [Pth.isPart, h]
  | cons a r => simp [Pth.isPart, h]

set_option maxHeartbeats 1000000 in
theorem rparts_any (p : ByteArray) (hp : p.size ≤ 4294967296) (w : World) :
    Calls Tryd.prog 35 #[.string p] w fun e w' => ∃ A c, e = .returned (.tuple #[.slice A (Pth.partsL p).length c, .bool (Pth.rootB p), .int .i64 (Pth.chk p)]) ∧
      w'.ownsRow w.heap.size 9 1 (.slice A (Pth.partsL p).length c) (Pth.partsL p).length ((Pth.partsL p).map Value.string) ∧ Below w.heap.size w w' := by
  by_cases h0 : Pth.chk p = 0
  · have hsz := Pth.chk_size p h0
    have hpos : 0 < p.size := by
      rcases Nat.eq_zero_or_pos p.size with h | h
      · simp [Pth.chk, h] at h0
      · exact h
    have b1 : (Pth.chk p != 0) = false := by simpa using h0
    have hrl : Pth.partsL p = (Pth.pcs p).filter Pth.isPart := by simp [Pth.partsL, h0, Pth.parts]
    have hrb : Pth.rootB p = decide (p[0] = 47) := by
      have := Pth.headB_iff p
      simp only [Pth.rootB, h0, decide_true, Bool.true_and]
      rw [show Lib.hasPrefix p.data.toList [47] = Pth.headB p from rfl, this]
      simp [hpos]
    have Hrl := hide hrl
    have Hrb := hide hrb
    have H0 := hide h0
    have hpl := pcs_len p
    clear hrl hrb h0
    go_enter Tryd.func35, Tryd.ntmps35
    go_wp2_with (first
      | (go_at_call 55; refine (rcheck_any p hp _).mono ?_; rintro e w1 ⟨rfl, hb1⟩)
      | (go_at_call 56; refine (rpieces_any p hp _).mono ?_; rintro e w2 ⟨A, c, rfl, hown, hb2⟩))
    have hbl : Below w.heap.size w w2 := hb1.trans (hb2.mono hb1.size)
    have hrd := Rd.of_own hown
    generalize Pth.pcs p = l at *
    have Hrd := hide hrd
    clear hrd hown hb1 hb2
    go_loopw [6, 8] (fun out i wr => ∃ (k : Nat) (A' : Option Addr) (c' : Nat) (o : List ByteArray), k ≤ l.length ∧ i = .int .i64 k ∧ out = .slice A' o.length c' ∧ o = (l.take k).filter Pth.isPart ∧ o.length ≤ k ∧
      wr.ownsRow w2.heap.size 9 1 (.slice A' o.length c') o.length (o.map Value.string) ∧ Below w2.heap.size w2 wr) (fun _ i _ => l.length - (intOf i).toNat)
    case atStart => exact ⟨0, none, 0, [], by omega, rfl, rfl, rfl, Nat.le_refl _, World.ownsRow_nil _ _ _ _, Below.refl _ _⟩
    case round =>
      obtain ⟨k, A', c', o, hk, rfl, rfl, ho, hok, hown, hb⟩ := hrel
      have Ho := hide ho
      have hszr := hb.size
      clear ho
      by_cases hlt : k < l.length
      · obtain ⟨x, hx⟩ : ∃ x, l[k]? = some x := ⟨_, List.getElem?_eq_getElem hlt⟩
        have hrd2 := (unhide Hrd).below hb
        obtain ⟨b1', o1, rfl, hbb, c1⟩ := hrd2.at_ (k := k) (u := .string x) (by simp [hx])
        clear hrd2
        by_cases hpt : Pth.isPart x = true
        · have hpt' := hpt
          rw [isPart_eq, Bool.and_eq_true] at hpt'
          obtain ⟨q1, q2⟩ := hpt'
          have q3 : x.toList.isEmpty = false := by simpa using q1
          have q4 : (x.toList == [46]) = false := by simpa using q2
          have ho2 : o ++ [x] = (l.take (k + 1)).filter Pth.isPart := by rw [List.take_add_one, List.filter_append, ← unhide Ho, hx]; simp [hpt]
          have Ho2 := hide ho2
          clear ho2 hpt hx q1 q2
          go_wp2_with (at_builtin; refine wpList_app1 strTy rfl _ _ rfl w2.heap.size (.slice A' o.length c') o.length (o.map Value.string) rfl hown #[.string x] rfl rfl (by simp [Value.oneCell']) (by omega) (by omega) ?_; intro A2 c2 w3 hown' hgrow hat; have hb1 := hide (hb.grown hgrow hszr (fun k hk => (hown.lt k hk).1)); have Hown' := hide hown'; clear hgrow hat hown')
          go_roundw
          case rel =>
            refine ⟨k + 1, A2, c2, o ++ [x], by omega, by go_num, by simp, unhide Ho2, by simp; omega, ?_, unhide hb1⟩
            simpa using unhide Hown'
          case measure => simp [intOf]; omega
        · have ho2 : o = (l.take (k + 1)).filter Pth.isPart := by rw [List.take_add_one, List.filter_append, ← unhide Ho, hx]; simp [hpt]
          have Ho2 := hide ho2
          have hpt' := hpt
          rw [isPart_eq, Bool.and_eq_true, Classical.not_and_iff_not_or_not] at hpt'
          by_cases q3 : x.toList.isEmpty = true
          · clear ho2 hpt hpt' hx
            go_wp2
            go_roundw
            case rel => exact ⟨k + 1, A', c', o, by omega, by go_num, rfl, unhide Ho2, by omega, hown, hb⟩
            case measure => simp [intOf]; omega
          · rw [Bool.not_eq_true] at q3
            have q4 : (x.toList == [46]) = true := by simpa [q3] using hpt'
            clear ho2 hpt hpt' hx
            go_wp2
            go_roundw
            case rel => exact ⟨k + 1, A', c', o, by omega, by go_num, rfl, unhide Ho2, by omega, hown, hb⟩
            case measure => simp [intOf]; omega
      · have ho3 : o = l.filter Pth.isPart := by
          have := unhide Ho
          rwa [List.take_of_length_le (by omega)] at this
        have Ho3 := hide ho3
        clear ho3
        have hi0 : (0 : Int) < (p.size : Int) := by omega
        go_wp2
        go_quiet (fail)
        go_wp2
        go_ret3
        have e : o = Pth.partsL p := by rw [unhide Hrl]; exact unhide Ho3
        refine ⟨A', c', ?_, ?_, below_drewN' (hbl.trans (hb.mono hbl.size)) _⟩
        · rw [← e, unhide Hrb, unhide H0, ← byte_47]
          rfl
        · rw [← e]
          exact own_base (w := wr.drewN nq) hown hbl.size
  · have b1 : (Pth.chk p != 0) = true := by simpa using h0
    have e1 : Pth.partsL p = [] := by simp [Pth.partsL, h0]
    have e2 : Pth.rootB p = false := by simp [Pth.rootB, h0]
    rw [e1, e2]
    clear e1 e2 h0
    go_enter Tryd.func35, Tryd.ntmps35
    go_wp2_with (go_at_call 55; refine (rcheck_any p hp _).mono ?_; rintro e w1 ⟨rfl, hb1⟩)
    go_ret3
    exact ⟨none, 0, rfl, World.ownsRow_nil _ _ _ _, hb1⟩

end Go.Proofs.YtchmdpkjipaafaaDoor
namespace Go.Proofs.YtchmdpkjipaafaaDoor
set_option linter.unusedVariables false
set_option linter.unusedSimpArgs false
open Go.RowKit

set_option maxRecDepth 100000 in
theorem rfdir_any (F : List Vf.Nd) (ls : List RPl) (base g c : Nat) (A : Option Addr) (ino : Int) (w : World) (h : RFs w base g A c F ls) (hn : F.length ≤ 65) (h0 : 0 < F.length) (r : Bool) (hr : r = decide (¬ (ino < 0 ∨ Vf.kindAt F ino.toNat ≠ 2))) :
    Calls Tryd.prog 59 #[.pointer (some ⟨g, 0, none⟩), .int .i64 ino] w fun e w' => e = .returned (.bool r) ∧ w = w' := by
  obtain ⟨b1, o1, rfl, _, hc⟩ := h.cells h0
  have v0 := h.fs.cell (i := 0) rfl
  obtain ⟨n, hfn⟩ : ∃ n, F.length = n := ⟨_, rfl⟩
  rw [hfn] at v0 hn
  have Hr := hide hr
  by_cases hneg : ino < 0
  · have i1 : ¬ (0 : Int) ≤ ino := by omega
    have hr0 : r = false := by rw [unhide Hr]; exact decide_eq_false (by simp [hneg])
    clear hr hc h
    go_enter Tryd.func59, Tryd.ntmps59
    go_wp2_with fail
    go_ret
    subst hr0
    exact ⟨rfl, rfl⟩
  · obtain ⟨i, rfl⟩ := Int.eq_ofNat_of_zero_le (show 0 ≤ ino by omega)
    have i0 : (0 : Int) ≤ (i : Int) := by omega
    by_cases hlt : i < n
    · obtain ⟨x, hx⟩ : ∃ x, F[i]? = some x := ⟨_, List.getElem?_eq_getElem (by rw [hfn]; exact hlt)⟩
      obtain ⟨p, hp, _⟩ := h.at_ hx
      have x0 := hc i x p hx hp 0 _ rfl
      rw [Nat.add_zero] at x0
      have ilt : (i : Int) < (n : Int) := by omega
      have hr0 : r = decide (x.m.kind = 2) := by
        rw [unhide Hr, Int.toNat_natCast, Vf.kindAt_eq hx]
        by_cases h2 : x.m.kind = 2
        · rw [decide_eq_true h2]; exact decide_eq_true (by omega)
        · rw [decide_eq_false h2]; exact decide_eq_false (by omega)
      by_cases h2 : x.m.kind = 2
      · have q2 : ((x.m.kind : Int) == 2) = true := by rw [h2]; rfl
        rw [decide_eq_true h2] at hr0
        clear h2 hx hp hc h hr
        go_enter Tryd.func59, Tryd.ntmps59
        go_wp2_with fail
        go_ret
        subst hr0
        exact ⟨rfl, rfl⟩
      · have q2 : ((x.m.kind : Int) == 2) = false := by rw [beq_eq_false_iff_ne]; omega
        rw [decide_eq_false h2] at hr0
        clear h2 hx hp hc h hr
        go_enter Tryd.func59, Tryd.ntmps59
        go_wp2_with fail
        go_ret
        subst hr0
        exact ⟨rfl, rfl⟩
    · have ilt : ¬ (i : Int) < (n : Int) := by omega
      have hr0 : r = false := by
        rw [unhide Hr]
        refine decide_eq_false ?_
        rw [Int.toNat_natCast]
        have : Vf.kindAt F i = 0 := by unfold Vf.kindAt; rw [List.getElem?_eq_none (by omega)]
        rw [this]
        omega
      clear hr hc h
      go_enter Tryd.func59, Tryd.ntmps59
      go_wp2_with fail
      go_ret
      subst hr0
      exact ⟨rfl, rfl⟩

theorem and2559 (n : Nat) (h : n < 65536) : (bits .and .u16 (n : Int) 2559 != (n : Int)) = !decide (n &&& 2559 = n) := by
  have e : (2559 : Int) = ((2559 : Nat) : Int) := rfl
  rw [e, u16_and_nat n 2559 h (by omega), bne, Bool.not_inj_iff, Bool.eq_iff_iff, beq_iff_eq, decide_eq_true_eq]
  omega

set_option maxRecDepth 100000 in
set_option maxHeartbeats 4000000 in
theorem mayR_any (x : Vf.Ent) (A : Option Addr) (n c : Nat) (w : World) (hd : x.data.length = n) (hn : n ≤ 4294967296) (hps : x.path.size ≤ 4294967296) (hto : x.to.size ≤ 4294967296) (hmd : x.mode < 65536) :
    Calls Tryd.prog 34 #[entV x A n c] w fun e w' => e = .returned (.int .i64 (Vf.may x)) ∧ Below w.heap.size w w' := by
  have hb0 : Below w.heap.size w (w.alloc (.cells (entC x A n c).toArray 64)) := (Below.refl _ _).alloc (Nat.le_refl _) _
  have hbk : Blk (w.alloc (.cells (entC x A n c).toArray 64)) w.heap.size 64 (entC x A n c) := Blk.new w 64 _
  have KP := hide (rparts_any x.path (by omega) (w.alloc (.cells (entC x A n c).toArray 64)))
  have KT := hide (fun w' => rtail_any x.path (by omega) w')
  have KK := hide (fun w' => rcheck_any x.to (by omega) w')
  have hand := and2559 x.mode hmd
  have hmay : Vf.may x = if ¬ (1 ≤ x.kind ∧ x.kind ≤ 3) ∨ x.mode &&& 2559 ≠ x.mode then 1
    else if Pth.chk x.path ≠ 0 ∨ Pth.rootB x.path = false ∨ (Pth.partsL x.path).isEmpty = true ∨ Pth.tailB x.path = true ∨ (Pth.partsL x.path).any (fun y => decide (y = Vf.dd)) = true then 1
    else if (x.kind ≠ 1 ∧ x.data ≠ []) ∨ (x.kind ≠ 3 ∧ x.to.size ≠ 0) ∨ (x.kind = 3 ∧ Pth.chk x.to ≠ 0) then 1
    else if 65536 < x.data.length then 12 else 0 := rfl
  have hdn : x.data ≠ [] ↔ 0 < n := by rw [← hd, List.length_pos_iff]
  simp only [hdn] at hmay
  rw [hd] at hmay
  have hpl2 := Vf.parts_len x.path
  obtain ⟨ck, hck⟩ : ∃ b, Pth.chk x.path = b := ⟨_, rfl⟩
  obtain ⟨tb, htb⟩ : ∃ b, Pth.rootB x.path = b := ⟨_, rfl⟩
  obtain ⟨pl, hpl⟩ : ∃ l, Pth.partsL x.path = l := ⟨_, rfl⟩
  obtain ⟨tl, htl⟩ : ∃ b, Pth.tailB x.path = b := ⟨_, rfl⟩
  obtain ⟨ct, hct⟩ : ∃ b, Pth.chk x.to = b := ⟨_, rfl⟩
  obtain ⟨np, hnp⟩ : ∃ n, pl.length = n := ⟨_, rfl⟩
  have hpe : pl.isEmpty = true ↔ np = 0 := by rw [← hnp, List.isEmpty_iff_length_eq_zero]
  simp only [hck, htb, hpl, htl, hct, hpe] at hmay
  rw [hck, htb, hpl, hnp] at KP
  rw [htl] at KT
  rw [hct] at KK
  rw [hpl, hnp] at hpl2
  obtain ⟨mv, hmv⟩ : ∃ v, Vf.may x = v := ⟨_, rfl⟩
  rw [hmv] at hmay ⊢
  have Hmay := hide hmay
  have Hb0 := hide hb0
  have Hbk := hide hbk
  have Hnp := hide hnp
  have hemp : x.to.toList.isEmpty = decide (x.to.size = 0) := isEmpty_toList x.to
  unfold entV
  unfold entC at KP
  have hbe : ∀ j v, [Value.string x.path, .int .u8 (x.kind : Nat), .int .u16 (x.mode : Nat), .int .u32 (x.uid : Nat), .int .u32 (x.gid : Nat), .slice A n c, .string x.to][j]? = some v → (w.alloc (.cells (entC x A n c).toArray 64)).cell? ⟨w.heap.size, j, none⟩ = some v := fun j v hj => hbk.cell hj
  have u1 := hbe 1 _ rfl
  have u2 := hbe 2 _ rfl
  clear hmay hd hdn hpl hck htb htl hct hpe hnp hb0 hbk hps hto hmv hbe
  have hkn : x.kind = 1 ∨ x.kind = 2 ∨ x.kind = 3 ∨ ¬ (1 ≤ x.kind ∧ x.kind ≤ 3) := by omega
  have bad : ∀ w' : World, mv = 1 → Below w.heap.size w w' → Ending.returned (Value.int .i64 1) = .returned (.int .i64 mv) ∧ Below w.heap.size w w' := fun w' h hb => ⟨by rw [h], hb⟩
  have Bad := hide bad
  clear bad
  by_cases hk4 : 1 ≤ x.kind ∧ x.kind ≤ 3
  case neg =>
    have q1 : ((x.kind : Int) != 1) = true := by simp; omega
    have q2 : ((x.kind : Int) != 2) = true := by simp; omega
    have q3 : ((x.kind : Int) != 3) = true := by simp; omega
    have hm : mv = 1 := by rw [unhide Hmay, if_pos (.inl hk4)]
    have Hm := hide hm
    clear hm hk4 hkn hemp KP hand
    go_enter Tryd.func34, Tryd.ntmps34
    go_wp2_with fail
    go_ret
    exact (unhide Bad) _ (unhide Hm) (unhide Hb0)
  by_cases k3 : x.mode &&& 2559 = x.mode
  case neg =>
    have hm : mv = 1 := by rw [unhide Hmay, if_pos (.inr k3)]
    rw [decide_eq_false k3] at hand
    have Hm := hide hm
    rcases hkn with hk | hk | hk | hk
    · have q1 : ((x.kind : Int) != 1) = false := by rw [hk]; rfl
      clear hm k3 hk4 hk hemp KP
      go_enter Tryd.func34, Tryd.ntmps34
      go_wp2_with fail
      go_ret
      exact (unhide Bad) _ (unhide Hm) (unhide Hb0)
    · have q1 : ((x.kind : Int) != 1) = true := by rw [hk]; rfl
      have q2 : ((x.kind : Int) != 2) = false := by rw [hk]; rfl
      clear hm k3 hk4 hk hemp KP
      go_enter Tryd.func34, Tryd.ntmps34
      go_wp2_with fail
      go_ret
      exact (unhide Bad) _ (unhide Hm) (unhide Hb0)
    · have q1 : ((x.kind : Int) != 1) = true := by rw [hk]; rfl
      have q2 : ((x.kind : Int) != 2) = true := by rw [hk]; rfl
      have q3 : ((x.kind : Int) != 3) = false := by rw [hk]; rfl
      clear hm k3 hk4 hk hemp KP
      go_enter Tryd.func34, Tryd.ntmps34
      go_wp2_with fail
      go_ret
      exact (unhide Bad) _ (unhide Hm) (unhide Hb0)
    · exact absurd hk4 hk
  rw [decide_eq_true k3] at hand
  have hmay2 := unhide Hmay
  rw [if_neg (by rintro (h | h); exact h hk4; exact h k3)] at hmay2
  have Hmay2 := hide hmay2
  clear k3 Hmay hmay2
  rcases hkn with hk | hk | hk | hk
  · have q1 : ((x.kind : Int) != 1) = false := by rw [hk]; rfl
    have q2 : ((x.kind : Int) != 2) = true := by rw [hk]; rfl
    have q3 : ((x.kind : Int) != 3) = true := by rw [hk]; rfl
    have q4 : ((x.kind : Int) == 3) = false := by rw [hk]; rfl
    have Hkk := hide hk
    clear hk hk4
    go_enter Tryd.func34, Tryd.ntmps34
    go_wp2_with fail
    refine (unhide KP).mono ?_
    rintro e w1 ⟨A1, c1, rfl, ho1, hb1⟩
    have hbk1 := (unhide Hbk).belowSz hb1
    have hlt1 : w.heap.size < w1.heap.size := hbk1.lt
    obtain ⟨v0, v1, v5, v6⟩ : w1.cell? ⟨w.heap.size, 0, none⟩ = some (.string x.path) ∧ w1.cell? ⟨w.heap.size, 1, none⟩ = some (.int .u8 (x.kind : Nat)) ∧ w1.cell? ⟨w.heap.size, 5, none⟩ = some (.slice A n c) ∧ w1.cell? ⟨w.heap.size, 6, none⟩ = some (.string x.to) := ⟨hbk1.cell rfl, hbk1.cell rfl, hbk1.cell rfl, hbk1.cell rfl⟩
    have Hb1 := hide ((unhide Hb0).trans (hb1.mono (by simp)))
    have Hr1 := hide (Rd.of_own ho1)
    clear hb1 ho1 hbk1 KP u1 u2 hand
    by_cases k4 : ck = 0
    case neg =>
      have hm : mv = 1 := by rw [unhide Hmay2, if_pos (.inl k4)]
      have b4 : (ck != 0) = true := by simp [k4]
      have Hm := hide hm
      clear hm k4 hemp
      go_wp2_with fail
      go_ret
      exact (unhide Bad) _ (unhide Hm) (unhide Hb1)
    subst k4
    have b4 : ((0 : Int) != 0) = false := rfl
    cases tb with
    | false =>
      have hm : mv = 1 := by rw [unhide Hmay2, if_pos (.inr (.inl rfl))]
      have Hm := hide hm
      clear hm hemp
      go_wp2_with fail
      go_ret
      exact (unhide Bad) _ (unhide Hm) (unhide Hb1)
    | true =>
    by_cases k5 : np = 0
    · have hm : mv = 1 := by rw [unhide Hmay2, if_pos (.inr (.inr (.inl k5)))]
      have b5 : ((np : Int) == 0) = true := by rw [k5]; rfl
      have Hm := hide hm
      clear hm hemp k5
      go_wp2_with fail
      go_ret
      exact (unhide Bad) _ (unhide Hm) (unhide Hb1)
    have b5 : ((np : Int) == 0) = false := by rw [beq_eq_false_iff_ne]; omega
    cases tl with
    | true =>
      have hm : mv = 1 := by rw [unhide Hmay2, if_pos (.inr (.inr (.inr (.inl rfl))))]
      have Hm := hide hm
      clear hm hemp k5
      go_wp2_with fail
      refine ((unhide KT) _).mono ?_
      rintro e w2 ⟨rfl, rfl⟩
      go_wp2_with fail
      go_ret
      exact (unhide Bad) _ (unhide Hm) (unhide Hb1)
    | false =>
    have Hk5 := hide k5
    clear k5
    go_wp2_with fail
    refine ((unhide KT) _).mono ?_
    rintro e w2 ⟨rfl, rfl⟩
    go_wp2_with fail
    go_loop [6] (fun iv => ∃ k : Nat, k ≤ np ∧ iv = .int .i64 (k : Nat) ∧ (pl.take k).any (fun y => decide (y = Vf.dd)) = false) (fun iv => np - (intOf iv).toNat)
    case atStart => exact ⟨0, Nat.zero_le _, rfl, rfl⟩
    case round =>
    obtain ⟨k, hk, rfl, hno⟩ := hrel
    have Hno := hide hno
    clear hno
    by_cases hlt : k < np
    · obtain ⟨nm, hnm⟩ : ∃ nm, pl[k]? = some nm := ⟨_, List.getElem?_eq_getElem (by rw [unhide Hnp]; exact hlt)⟩
      obtain ⟨bL, oL, rfl, _, cL⟩ := (unhide Hr1).at_ (k := k) (u := .string nm) (by simp [hnm])
      have i1 : (k : Int) < (np : Int) := by omega
      have hdq : (nm.toList == [46, 46]) = decide (nm = Vf.dd) := by
        have h := beq_toList nm Vf.dd
        rwa [show Vf.dd.toList = [46, 46] by rw [Lib.toList_data]; rfl] at h
      by_cases hdd : nm = Vf.dd
      · rw [decide_eq_true hdd] at hdq
        have hany : pl.any (fun y => decide (y = Vf.dd)) = true := List.any_eq_true.2 ⟨nm, List.mem_of_getElem? hnm, by simpa using hdd⟩
        have hm : mv = 1 := by rw [unhide Hmay2, if_pos (.inr (.inr (.inr (.inr hany))))]
        have Hm := hide hm
        clear hm hemp hdd hnm hany
        go_wp2_with fail
        go_ret
        exact (unhide Bad) _ (unhide Hm) (unhide Hb1)
      · rw [decide_eq_false hdd] at hdq
        have hnx : (pl.take (k + 1)).any (fun y => decide (y = Vf.dd)) = false := by
          rw [List.take_add_one, hnm, List.any_append, unhide Hno]
          simp [hdd]
        have Hnx := hide hnx
        clear hnx hemp hdd hnm
        go_wp2_with fail
        go_round
        case rel => exact ⟨k + 1, by omega, by go_num, unhide Hnx⟩
        case measure => simp [intOf]; omega
    · have i1 : ¬ (k : Int) < (np : Int) := by omega
      have hall : pl.any (fun y => decide (y = Vf.dd)) = false := by
        have := unhide Hno
        rwa [List.take_of_length_le (by rw [unhide Hnp]; omega)] at this
      have hmay3 := unhide Hmay2
      rw [if_neg (by rw [hall]; have := unhide Hk5; simp [this])] at hmay3
      have Hmay3 := hide hmay3
      clear hall hmay3 Hno
      by_cases k8 : x.to.size = 0
      · rw [decide_eq_true k8] at hemp
        have hto2 : x.to.toList = [] := List.isEmpty_iff.1 hemp
        have hn1 : ¬ ((x.kind ≠ 1 ∧ 0 < n) ∨ (x.kind ≠ 3 ∧ x.to.size ≠ 0) ∨ (x.kind = 3 ∧ ct ≠ 0)) := by have := unhide Hkk; omega
        have Hn1 := hide hn1
        clear hn1 k8
        by_cases k9 : 65536 < n
        · have hm : mv = 12 := by rw [unhide Hmay3, if_neg (unhide Hn1), if_pos k9]
          have b9 : (65536 : Int) < (n : Int) := by omega
          have Hm := hide hm
          clear hm k9
          go_wp2_with fail
          go_ret
          exact (have hv := unhide Hm; by subst hv; exact ⟨rfl, (unhide Hb1)⟩)
        · have hm : mv = 0 := by rw [unhide Hmay3, if_neg (unhide Hn1), if_neg k9]
          have b9 : ¬ (65536 : Int) < (n : Int) := by omega
          have Hm := hide hm
          clear hm k9
          go_wp2_with fail
          go_ret
          exact (have hv := unhide Hm; by subst hv; exact ⟨rfl, (unhide Hb1)⟩)
      · rw [decide_eq_false k8] at hemp
        have hto2 : ¬ x.to.toList = [] := fun h => by rw [h] at hemp; cases hemp
        have hm : mv = 1 := by rw [unhide Hmay3, if_pos (.inr (.inl ⟨by have := unhide Hkk; omega, k8⟩))]
        have Hm := hide hm
        clear hm
        go_wp2_with fail
        go_ret
        exact (unhide Bad) _ (unhide Hm) (unhide Hb1)
  · have q1 : ((x.kind : Int) != 1) = true := by rw [hk]; rfl
    have q2 : ((x.kind : Int) != 2) = false := by rw [hk]; rfl
    have q3 : ((x.kind : Int) != 3) = true := by rw [hk]; rfl
    have q4 : ((x.kind : Int) == 3) = false := by rw [hk]; rfl
    have Hkk := hide hk
    clear hk hk4
    go_enter Tryd.func34, Tryd.ntmps34
    go_wp2_with fail
    refine (unhide KP).mono ?_
    rintro e w1 ⟨A1, c1, rfl, ho1, hb1⟩
    have hbk1 := (unhide Hbk).belowSz hb1
    have hlt1 : w.heap.size < w1.heap.size := hbk1.lt
    obtain ⟨v0, v1, v5, v6⟩ : w1.cell? ⟨w.heap.size, 0, none⟩ = some (.string x.path) ∧ w1.cell? ⟨w.heap.size, 1, none⟩ = some (.int .u8 (x.kind : Nat)) ∧ w1.cell? ⟨w.heap.size, 5, none⟩ = some (.slice A n c) ∧ w1.cell? ⟨w.heap.size, 6, none⟩ = some (.string x.to) := ⟨hbk1.cell rfl, hbk1.cell rfl, hbk1.cell rfl, hbk1.cell rfl⟩
    have Hb1 := hide ((unhide Hb0).trans (hb1.mono (by simp)))
    have Hr1 := hide (Rd.of_own ho1)
    clear hb1 ho1 hbk1 KP u1 u2 hand
    by_cases k4 : ck = 0
    case neg =>
      have hm : mv = 1 := by rw [unhide Hmay2, if_pos (.inl k4)]
      have b4 : (ck != 0) = true := by simp [k4]
      have Hm := hide hm
      clear hm k4 hemp
      go_wp2_with fail
      go_ret
      exact (unhide Bad) _ (unhide Hm) (unhide Hb1)
    subst k4
    have b4 : ((0 : Int) != 0) = false := rfl
    cases tb with
    | false =>
      have hm : mv = 1 := by rw [unhide Hmay2, if_pos (.inr (.inl rfl))]
      have Hm := hide hm
      clear hm hemp
      go_wp2_with fail
      go_ret
      exact (unhide Bad) _ (unhide Hm) (unhide Hb1)
    | true =>
    by_cases k5 : np = 0
    · have hm : mv = 1 := by rw [unhide Hmay2, if_pos (.inr (.inr (.inl k5)))]
      have b5 : ((np : Int) == 0) = true := by rw [k5]; rfl
      have Hm := hide hm
      clear hm hemp k5
      go_wp2_with fail
      go_ret
      exact (unhide Bad) _ (unhide Hm) (unhide Hb1)
    have b5 : ((np : Int) == 0) = false := by rw [beq_eq_false_iff_ne]; omega
    cases tl with
    | true =>
      have hm : mv = 1 := by rw [unhide Hmay2, if_pos (.inr (.inr (.inr (.inl rfl))))]
      have Hm := hide hm
      clear hm hemp k5
      go_wp2_with fail
      refine ((unhide KT) _).mono ?_
      rintro e w2 ⟨rfl, rfl⟩
      go_wp2_with fail
      go_ret
      exact (unhide Bad) _ (unhide Hm) (unhide Hb1)
    | false =>
    have Hk5 := hide k5
    clear k5
    go_wp2_with fail
    refine ((unhide KT) _).mono ?_
    rintro e w2 ⟨rfl, rfl⟩
    go_wp2_with fail
    go_loop [6] (fun iv => ∃ k : Nat, k ≤ np ∧ iv = .int .i64 (k : Nat) ∧ (pl.take k).any (fun y => decide (y = Vf.dd)) = false) (fun iv => np - (intOf iv).toNat)
    case atStart => exact ⟨0, Nat.zero_le _, rfl, rfl⟩
    case round =>
    obtain ⟨k, hk, rfl, hno⟩ := hrel
    have Hno := hide hno
    clear hno
    by_cases hlt : k < np
    · obtain ⟨nm, hnm⟩ : ∃ nm, pl[k]? = some nm := ⟨_, List.getElem?_eq_getElem (by rw [unhide Hnp]; exact hlt)⟩
      obtain ⟨bL, oL, rfl, _, cL⟩ := (unhide Hr1).at_ (k := k) (u := .string nm) (by simp [hnm])
      have i1 : (k : Int) < (np : Int) := by omega
      have hdq : (nm.toList == [46, 46]) = decide (nm = Vf.dd) := by
        have h := beq_toList nm Vf.dd
        rwa [show Vf.dd.toList = [46, 46] by rw [Lib.toList_data]; rfl] at h
      by_cases hdd : nm = Vf.dd
      · rw [decide_eq_true hdd] at hdq
        have hany : pl.any (fun y => decide (y = Vf.dd)) = true := List.any_eq_true.2 ⟨nm, List.mem_of_getElem? hnm, by simpa using hdd⟩
        have hm : mv = 1 := by rw [unhide Hmay2, if_pos (.inr (.inr (.inr (.inr hany))))]
        have Hm := hide hm
        clear hm hemp hdd hnm hany
        go_wp2_with fail
        go_ret
        exact (unhide Bad) _ (unhide Hm) (unhide Hb1)
      · rw [decide_eq_false hdd] at hdq
        have hnx : (pl.take (k + 1)).any (fun y => decide (y = Vf.dd)) = false := by
          rw [List.take_add_one, hnm, List.any_append, unhide Hno]
          simp [hdd]
        have Hnx := hide hnx
        clear hnx hemp hdd hnm
        go_wp2_with fail
        go_round
        case rel => exact ⟨k + 1, by omega, by go_num, unhide Hnx⟩
        case measure => simp [intOf]; omega
    · have i1 : ¬ (k : Int) < (np : Int) := by omega
      have hall : pl.any (fun y => decide (y = Vf.dd)) = false := by
        have := unhide Hno
        rwa [List.take_of_length_le (by rw [unhide Hnp]; omega)] at this
      have hmay3 := unhide Hmay2
      rw [if_neg (by rw [hall]; have := unhide Hk5; simp [this])] at hmay3
      have Hmay3 := hide hmay3
      clear hall hmay3 Hno
      by_cases k7 : 0 < n
      · have j1 : (0 : Int) < (n : Int) := by omega
        have hm : mv = 1 := by rw [unhide Hmay3, if_pos (.inl ⟨by have := unhide Hkk; omega, k7⟩)]
        have Hm := hide hm
        clear hm
        go_wp2_with fail
        go_ret
        exact (unhide Bad) _ (unhide Hm) (unhide Hb1)
      have j1 : ¬ (0 : Int) < (n : Int) := by omega
      by_cases k8 : x.to.size = 0
      · rw [decide_eq_true k8] at hemp
        have hto2 : x.to.toList = [] := List.isEmpty_iff.1 hemp
        have hn1 : ¬ ((x.kind ≠ 1 ∧ 0 < n) ∨ (x.kind ≠ 3 ∧ x.to.size ≠ 0) ∨ (x.kind = 3 ∧ ct ≠ 0)) := by have := unhide Hkk; omega
        have Hn1 := hide hn1
        clear hn1 k8
        have hm : mv = 0 := by rw [unhide Hmay3, if_neg (unhide Hn1), if_neg (by omega)]
        have b9 : ¬ (65536 : Int) < (n : Int) := by omega
        have Hm := hide hm
        clear hm
        go_wp2_with fail
        go_ret
        exact (have hv := unhide Hm; by subst hv; exact ⟨rfl, unhide Hb1⟩)
      · rw [decide_eq_false k8] at hemp
        have hto2 : ¬ x.to.toList = [] := fun h => by rw [h] at hemp; cases hemp
        have hm : mv = 1 := by rw [unhide Hmay3, if_pos (.inr (.inl ⟨by have := unhide Hkk; omega, k8⟩))]
        have Hm := hide hm
        clear hm
        go_wp2_with fail
        go_ret
        exact (unhide Bad) _ (unhide Hm) (unhide Hb1)
  · have q1 : ((x.kind : Int) != 1) = true := by rw [hk]; rfl
    have q2 : ((x.kind : Int) != 2) = true := by rw [hk]; rfl
    have q3 : ((x.kind : Int) != 3) = false := by rw [hk]; rfl
    have q4 : ((x.kind : Int) == 3) = true := by rw [hk]; rfl
    have Hkk := hide hk
    clear hk hk4
    go_enter Tryd.func34, Tryd.ntmps34
    go_wp2_with fail
    refine (unhide KP).mono ?_
    rintro e w1 ⟨A1, c1, rfl, ho1, hb1⟩
    have hbk1 := (unhide Hbk).belowSz hb1
    have hlt1 : w.heap.size < w1.heap.size := hbk1.lt
    obtain ⟨v0, v1, v5, v6⟩ : w1.cell? ⟨w.heap.size, 0, none⟩ = some (.string x.path) ∧ w1.cell? ⟨w.heap.size, 1, none⟩ = some (.int .u8 (x.kind : Nat)) ∧ w1.cell? ⟨w.heap.size, 5, none⟩ = some (.slice A n c) ∧ w1.cell? ⟨w.heap.size, 6, none⟩ = some (.string x.to) := ⟨hbk1.cell rfl, hbk1.cell rfl, hbk1.cell rfl, hbk1.cell rfl⟩
    have Hb1 := hide ((unhide Hb0).trans (hb1.mono (by simp)))
    have Hr1 := hide (Rd.of_own ho1)
    clear hb1 ho1 hbk1 KP u1 u2 hand
    by_cases k4 : ck = 0
    case neg =>
      have hm : mv = 1 := by rw [unhide Hmay2, if_pos (.inl k4)]
      have b4 : (ck != 0) = true := by simp [k4]
      have Hm := hide hm
      clear hm k4 hemp
      go_wp2_with fail
      go_ret
      exact (unhide Bad) _ (unhide Hm) (unhide Hb1)
    subst k4
    have b4 : ((0 : Int) != 0) = false := rfl
    cases tb with
    | false =>
      have hm : mv = 1 := by rw [unhide Hmay2, if_pos (.inr (.inl rfl))]
      have Hm := hide hm
      clear hm hemp
      go_wp2_with fail
      go_ret
      exact (unhide Bad) _ (unhide Hm) (unhide Hb1)
    | true =>
    by_cases k5 : np = 0
    · have hm : mv = 1 := by rw [unhide Hmay2, if_pos (.inr (.inr (.inl k5)))]
      have b5 : ((np : Int) == 0) = true := by rw [k5]; rfl
      have Hm := hide hm
      clear hm hemp k5
      go_wp2_with fail
      go_ret
      exact (unhide Bad) _ (unhide Hm) (unhide Hb1)
    have b5 : ((np : Int) == 0) = false := by rw [beq_eq_false_iff_ne]; omega
    cases tl with
    | true =>
      have hm : mv = 1 := by rw [unhide Hmay2, if_pos (.inr (.inr (.inr (.inl rfl))))]
      have Hm := hide hm
      clear hm hemp k5
      go_wp2_with fail
      refine ((unhide KT) _).mono ?_
      rintro e w2 ⟨rfl, rfl⟩
      go_wp2_with fail
      go_ret
      exact (unhide Bad) _ (unhide Hm) (unhide Hb1)
    | false =>
    have Hk5 := hide k5
    clear k5
    go_wp2_with fail
    refine ((unhide KT) _).mono ?_
    rintro e w2 ⟨rfl, rfl⟩
    go_wp2_with fail
    go_loop [6] (fun iv => ∃ k : Nat, k ≤ np ∧ iv = .int .i64 (k : Nat) ∧ (pl.take k).any (fun y => decide (y = Vf.dd)) = false) (fun iv => np - (intOf iv).toNat)
    case atStart => exact ⟨0, Nat.zero_le _, rfl, rfl⟩
    case round =>
    obtain ⟨k, hk, rfl, hno⟩ := hrel
    have Hno := hide hno
    clear hno
    by_cases hlt : k < np
    · obtain ⟨nm, hnm⟩ : ∃ nm, pl[k]? = some nm := ⟨_, List.getElem?_eq_getElem (by rw [unhide Hnp]; exact hlt)⟩
      obtain ⟨bL, oL, rfl, _, cL⟩ := (unhide Hr1).at_ (k := k) (u := .string nm) (by simp [hnm])
      have i1 : (k : Int) < (np : Int) := by omega
      have hdq : (nm.toList == [46, 46]) = decide (nm = Vf.dd) := by
        have h := beq_toList nm Vf.dd
        rwa [show Vf.dd.toList = [46, 46] by rw [Lib.toList_data]; rfl] at h
      by_cases hdd : nm = Vf.dd
      · rw [decide_eq_true hdd] at hdq
        have hany : pl.any (fun y => decide (y = Vf.dd)) = true := List.any_eq_true.2 ⟨nm, List.mem_of_getElem? hnm, by simpa using hdd⟩
        have hm : mv = 1 := by rw [unhide Hmay2, if_pos (.inr (.inr (.inr (.inr hany))))]
        have Hm := hide hm
        clear hm hemp hdd hnm hany
        go_wp2_with fail
        go_ret
        exact (unhide Bad) _ (unhide Hm) (unhide Hb1)
      · rw [decide_eq_false hdd] at hdq
        have hnx : (pl.take (k + 1)).any (fun y => decide (y = Vf.dd)) = false := by
          rw [List.take_add_one, hnm, List.any_append, unhide Hno]
          simp [hdd]
        have Hnx := hide hnx
        clear hnx hemp hdd hnm
        go_wp2_with fail
        go_round
        case rel => exact ⟨k + 1, by omega, by go_num, unhide Hnx⟩
        case measure => simp [intOf]; omega
    · have i1 : ¬ (k : Int) < (np : Int) := by omega
      have hall : pl.any (fun y => decide (y = Vf.dd)) = false := by
        have := unhide Hno
        rwa [List.take_of_length_le (by rw [unhide Hnp]; omega)] at this
      have hmay3 := unhide Hmay2
      rw [if_neg (by rw [hall]; have := unhide Hk5; simp [this])] at hmay3
      have Hmay3 := hide hmay3
      clear hall hmay3 Hno
      by_cases k7 : 0 < n
      · have j1 : (0 : Int) < (n : Int) := by omega
        have hm : mv = 1 := by rw [unhide Hmay3, if_pos (.inl ⟨by have := unhide Hkk; omega, k7⟩)]
        have Hm := hide hm
        clear hm
        go_wp2_with fail
        go_ret
        exact (unhide Bad) _ (unhide Hm) (unhide Hb1)
      have j1 : ¬ (0 : Int) < (n : Int) := by omega
      clear hemp
      by_cases k8 : ct = 0
      · have hn1 : ¬ ((x.kind ≠ 1 ∧ 0 < n) ∨ (x.kind ≠ 3 ∧ x.to.size ≠ 0) ∨ (x.kind = 3 ∧ ct ≠ 0)) := by have := unhide Hkk; omega
        subst k8
        have q8 : ((0 : Int) != 0) = false := rfl
        have Hn1 := hide hn1
        clear hn1
        go_wp2_with fail
        refine ((unhide KK) _).mono ?_
        rintro e w3 ⟨rfl, hb3⟩
        have v5b := (hb3.cell (p := ⟨w.heap.size, 5, none⟩) hlt1).trans v5
        have Hb3 := hide ((unhide Hb1).trans (hb3.mono (unhide Hb1).size))
        clear hb3
        have hm : mv = 0 := by rw [unhide Hmay3, if_neg (unhide Hn1), if_neg (by omega)]
        have b9 : ¬ (65536 : Int) < (n : Int) := by omega
        have Hm := hide hm
        clear hm
        go_wp2_with fail
        go_ret
        exact (have hv := unhide Hm; by subst hv; exact ⟨rfl, (unhide Hb3)⟩)
      · have q8 : (ct != 0) = true := by simp [k8]
        have hm : mv = 1 := by rw [unhide Hmay3, if_pos (.inr (.inr ⟨unhide Hkk, k8⟩))]
        have Hm := hide hm
        clear hm k8
        go_wp2_with fail
        refine ((unhide KK) _).mono ?_
        rintro e w3 ⟨rfl, hb3⟩
        have Hb3 := hide ((unhide Hb1).trans (hb3.mono (unhide Hb1).size))
        clear hb3
        go_wp2_with fail
        go_ret
        exact (unhide Bad) _ (unhide Hm) (unhide Hb3)
  · exact absurd hk4 hk
end Go.Proofs.YtchmdpkjipaafaaDoor
namespace Go.Proofs.YtchmdpkjipaafaaDoor
set_option linter.unusedVariables false
set_option linter.unusedSimpArgs false
open Go.RowKit

theorem rnodeTy : SlTy Tryd.prog 79 83 9 88 := slTy_mk (z := .agg #[.int .u8 0, .int .u16 0, .int .u32 0, .int .u32 0, .int .i64 0, .int .i64 0, .string ⟨#[]⟩, .slice none 0 0, .string ⟨#[]⟩]) Tryd.underlying79 (by kernel_rfl) rfl (by omega) (by omega)
theorem rndV_one (y : Vf.Nd × RPl) : ∀ u ∈ rndV y, u.oneCell' = true := by
  intro u hu
  simp only [rndV, List.mem_cons, List.not_mem_nil, or_false] at hu
  rcases hu with rfl | rfl | rfl | rfl | rfl | rfl | rfl | rfl | rfl <;> rfl
section
variable {w1 V V3 : World} {base g c : Nat} {A : Option Addr} {F : List Vf.Nd} {ls : List RPl}
theorem RFs.gOwn (h : RFs w1 base g A c F ls) : (Value.slice A F.length c).ownBlock ≠ some g := by
  intro e
  obtain ⟨cs, h1⟩ := row_blkS h.row e
  have h2 := h.fs
  unfold Blk at h2
  rw [h1] at h2
  injection h2 with h2
  injection h2 with _ h3
  exact absurd h3 (by decide)
/-- The cell of the file system stands behind the append. -/
theorem RFs.addF (h : RFs w1 base g A c F ls) (hb : Below w1.heap.size w1 V) (hg3 : V.grownBy V3 (Value.slice A F.length c).ownBlock) : Blk V3 g 81 [.slice A F.length c] :=
  (hg3.block g (Nat.lt_of_lt_of_le h.fs.lt hb.size) (fun e => h.gOwn e.symm)).trans ((hb.block g h.fs.lt).trans h.fs)
theorem RFs.addFin (h : RFs w1 base g A c F ls) (x : Vf.Nd) (p : RPl) (hlo : base ≤ w1.heap.size) (hb : Below w1.heap.size w1 V) (hp : V.ownsRow base 5 1 (.slice p.A p.n p.c) p.n (bys x.data)) (A' : Option Addr) (c' : Nat)
    (ho3 : V3.ownsRow base 83 9 (.slice A' (F.length + 1) c') (F.length + 1) (rowCs rndV (F.zip ls) ++ rndV (x, p))) (hg3 : V.grownBy V3 (Value.slice A F.length c).ownBlock) :
    RFs (V3.setCell ⟨g, 0, none⟩ (.slice A' (F.length + 1) c')) base g A' c' (F ++ [x]) (ls ++ [p]) ∧ Below base w1 (V3.setCell ⟨g, 0, none⟩ (.slice A' (F.length + 1) c')) := by
  have hg := h.addF hb hg3
  have hV := h.belowSz hb
  have hset : ∀ k, k ≠ g → (V3.setCell ⟨g, 0, none⟩ (.slice A' (F.length + 1) c')).heap[k]? = V3.heap[k]? := fun k hk => heap_setCell_other _ _ _ _ hk
  have hne : (5 : TypeId) ≠ 83 := by decide
  have hgs : ∀ {n2 c2 size : Nat} {e : TypeId} {A2 : Option Addr} {xs : List Value}, V3.ownsRow base e size (.slice A2 n2 c2) n2 xs → e ≠ 81 → (V3.setCell ⟨g, 0, none⟩ (.slice A' (F.length + 1) c')).ownsRow base e size (.slice A2 n2 c2) n2 xs := by
    intro n2 c2 size e A2 xs ho hE
    refine ⟨ho.1, ho.2.imp id fun ⟨k, cap, cur, e1, e2, e3, r⟩ => ⟨k, cap, cur, e1, e2, (hset k ?_).trans e3, r⟩⟩
    rintro rfl
    unfold Blk at hg
    rw [e3] at hg
    injection hg with hg
    injection hg with _ h3
    exact hE h3
  have hdk : ∀ {n2 c2 : Nat} {A2 : Option Addr} {xs : List Value}, V.ownsRow base 5 1 (.slice A2 n2 c2) n2 xs → (V3.setCell ⟨g, 0, none⟩ (.slice A' (F.length + 1) c')).ownsRow base 5 1 (.slice A2 n2 c2) n2 xs :=
    fun ho => hgs (ho.kept hg3 (own_tyne ho hV.row hne)) (by decide)
  refine ⟨⟨by rw [List.length_append, List.length_append, h.len]; rfl, h.lo, ?_, ?_, ?_⟩, ?_⟩
  · rw [List.length_append]
    exact hg.set 0 _
  · rw [List.length_append, List.zip_append h.len.symm, rowCs_app]
    have e1 : rowCs rndV ([x].zip [p]) = rndV (x, p) := by simp [rowCs]
    rw [e1]
    exact hgs ho3 (by decide)
  · intro i y r h1 h2
    rcases snoc_at h1 with ⟨a1, a2⟩ | ⟨a1, a2⟩
    · rcases snoc_at h2 with ⟨b1, b2⟩ | ⟨b1, b2⟩
      · exact hdk (hV.dat i y r a2 b2)
      · have := h.len; omega
    · rcases snoc_at h2 with ⟨b1, b2⟩ | ⟨b1, b2⟩
      · have := h.len; omega
      · subst a2 b2
        exact hdk hp
  · have b1 : Below base w1 V := hb.mono hlo
    have b3 : Below base w1 V3 := b1.grown hg3 (Nat.le_trans hlo b1.size) (fun k hk => (h.row.lt k hk).1)
    exact b3.setCell h.lo _
end
theorem RFs.start (w : World) (A : Option Addr) (c : Nat) (W : World) (ho : W.ownsRow w.heap.size 83 9 (.slice A 1 c) 1 (rndV (Vf.root, ⟨none, 0, 0⟩))) (hf : Blk W w.heap.size 81 [.slice A 1 c]) : RFs W w.heap.size w.heap.size A c [Vf.root] [⟨none, 0, 0⟩] := by
  refine ⟨rfl, Nat.le_refl _, hf, ?_, ?_⟩
  · have e1 : rowCs rndV ([Vf.root].zip [(⟨none, 0, 0⟩ : RPl)]) = rndV (Vf.root, ⟨none, 0, 0⟩) := by simp [rowCs]
    rw [e1]
    exact ho
  · intro i x p h1 h2
    cases i with
    | zero =>
      have e1 : x = Vf.root := by simpa using h1.symm
      have e2 : p = ⟨none, 0, 0⟩ := by simpa using h2.symm
      subst e1 e2
      exact World.ownsRow_nil _ _ _ _
    | succ i => simp at h1
end Go.Proofs.YtchmdpkjipaafaaDoor
namespace Go.Proofs.YtchmdpkjipaafaaDoor
set_option linter.unusedVariables false
set_option linter.unusedSimpArgs false
open Go.RowKit

def NewRE (es : List Vf.Ent) (w : World) (e : Ending) (w' : World) : Prop :=
  Below w.heap.size w w' ∧ (((Vf.new es).1 ≠ 0 ∧ e = .returned (.tuple #[.pointer none, .int .i64 (Vf.new es).1, .int .i64 (Vf.new es).2.1])) ∨
    ((Vf.new es).1 = 0 ∧ ∃ g A c ls, e = .returned (.tuple #[.pointer (some ⟨g, 0, none⟩), .int .i64 0, .int .i64 0]) ∧ RFs w' w.heap.size g A c (Vf.new es).2.2 ls ∧ Vf.Good (Vf.new es).2.2 ∧ (Vf.new es).2.2.length = es.length + 1 ∧ (Vf.new es).2.1 = 0 ∧ es.length ≤ 64))
theorem wp_app1g {P : Program} {t e : TypeId} {size bytes : Nat} (T : SlTy P t e size bytes) {W : World} {o : Oper} {a : Act} {K : Act → World → Prop} {Q : Exit → Act → World → Prop} (s x : Operand)
    (ho : o.op = .call { callee := .builtin .append, args := #[s, x], argTypes := #[t, t] })
    (base : Nat) (v : Value) (n : Nat) (xs : List Value) (hs : a.eval s = v) (hown : W.ownsRow base e size v n xs)
    (cs : Array Value) (g : Nat) (hx : a.eval x = .slice (some ⟨g, 0, none⟩) 1 1) (hg : g = W.heap.size) (hcs : cs.size = size) (h1 : ∀ u ∈ cs.toList, u.oneCell' = true)
    (hb : (n + 1) * bytes ≤ 140737488355328) (hbase : base ≤ W.heap.size)
    (h : ∀ A' c' w', w'.ownsRow base e size (.slice A' (n + 1) c') (n + 1) (xs ++ cs.toList) → W.grownBy w' v.ownBlock → K (a.put o.dst (.slice A' (n + 1) c')) w') : o.wp P a (W.alloc (.cells cs e)) K Q := by
  subst hg
  refine wp_app T s x ho base v n xs hs (hown.alloc _) (W.heap.size + 1) (some ⟨W.heap.size, 0, none⟩) 1 1 cs.toList hx (Rd.row hcs) h1 hb (by simp; omega) fun v' w' h2 h3 h4 => ?_
  obtain ⟨A', c', rfl⟩ := own_form h2
  exact h A' c' w' h2 (grown_trans (World.grownBy_alloc W _ _) h3)
theorem takeQ {P : Program} {md : Region.Mode} {ops : Array Oper} {Q : Exit → Act → World → Prop} {S : World → Prop} {i : Nat} {oi : Oper} {v : Value} {d : Option Tmp} {fuel : Nat} {listed : Array Bool} {a : Act} {w : World} (hi : ops[i]? = some oi) (hd : oi.dst = d)
    (hs : Region.noSelect ops = true) (hf : Region.free md ops listed i = true) (hr : (Region.ready md ops listed).contains i = true)
    (hQ : ∀ c a w, Q (.panic c) (a.put d v) w → Q (.panic c) a w) (hy : YieldsIf P ops S oi v a) (hS : S w)
    (h : wpAnyH P md ops Q S fuel (listed.setIfInBounds i true) (a.put d v) w) : wpAnyH P md ops Q S (fuel + 1) listed a w := by
  subst hd
  exact wpAnyH_take hi hs hf hr hQ hy hS h
theorem numV_some (i : Nat) : numV (some i) = .int .i64 (i : Nat) := rfl
theorem numV_none : numV none = .int .i64 (-1) := rfl

set_option maxRecDepth 100000 in
set_option maxHeartbeats 8000000 in
theorem rnew_any (l : List EntA) (A : Option Addr) (n c B : Nat) (w : World) (h : Rd w B 7 A n (rowCs entVals l)) (hB : B ≤ w.heap.size) (hl : l.length = n) (hok : ∀ s ∈ l, EntOk w s) (hn : n ≤ 4294967296) :
    Calls Tryd.prog 19 #[.slice A n c] w (NewRE (l.map (·.e)) w) := by
  have hlm : (l.map (·.e)).length = n := by simpa using hl
  have H := hide h
  have Hl := hide hl
  have Hok := hide hok
  have Hlm := hide hlm
  clear h hl hok hlm
  by_cases h64 : 64 < n
  · have g1 : (64 : Int) < (n : Int) := by omega
    have hnew : Vf.new (l.map (·.e)) = (15, -1, []) := by unfold Vf.new; rw [if_pos (by rw [unhide Hlm]; exact h64)]
    have Hnew := hide hnew
    clear h64 hnew
    go_enter Tryd.func19, Tryd.ntmps19
    go_wp2_with fail
    go_ret3
    unfold NewRE
    rw [unhide Hnew]
    exact ⟨Below.refl _ _, .inl ⟨by decide, rfl⟩⟩
  · have g1 : ¬ (64 : Int) < (n : Int) := by omega
    have hbF : Blk (w.alloc (.cells #[.slice none 0 0] 81)) w.heap.size 81 [.slice none 0 0] := Blk.new w _ _
    have HbF := hide hbF
    clear hbF
    go_enter Tryd.func19, Tryd.ntmps19
    go_wp2_with (at_builtin; refine wpList_app1g rnodeTy rfl _ _ rfl w.heap.size (.slice none 0 0) 0 [] rfl (World.ownsRow_nil _ _ _ _) (rndV (Vf.root, ⟨none, 0, 0⟩)).toArray _ rfl (by simp) rfl (rndV_one _) (by omega) (by simp) ?_; intro A4 c4 w4 ho4 hg4 hat4; have hf4 : Blk w4 w.heap.size 81 [.slice none 0 0] := (hg4.block _ (unhide HbF).lt (fun e => by simp [Value.ownBlock] at e)).trans (unhide HbF); have hb4 : Below w.heap.size w w4 := ((Below.refl w.heap.size w).alloc (Nat.le_refl _) (.cells #[.slice none 0 0] 81)).grown hg4 (by simp) (fun k hk => by simp [Value.ownBlock] at hk); simp only [Nat.zero_add, List.nil_append] at ho4 ⊢; have t0 : w4.cell? ⟨w.heap.size, 0, none⟩ = some (.slice none 0 0) := hf4.cell rfl; have tf : w4.frozen? ⟨w.heap.size, 0, none⟩ = false := hf4.free 0; have Ho4 := hide ho4; have Hf4 := hide hf4; have Hb4 := hide hb4; clear ho4 hg4 hat4 hf4 hb4)
    have hRF0 : RFs (w4.setCell ⟨w.heap.size, 0, none⟩ (.slice A4 1 c4)) w.heap.size w.heap.size A4 c4 [Vf.root] [⟨none, 0, 0⟩] := by
      refine RFs.start w A4 c4 _ ?_ ((unhide Hf4).set 0 _)
      have ho := unhide Ho4
      refine ⟨ho.1, ho.2.imp id fun ⟨k, cap, cur, e1, e2, e3, r⟩ => ⟨k, cap, cur, e1, e2, (heap_setCell_other _ _ _ _ ?_).trans e3, r⟩⟩
      show k ≠ w.heap.size
      rintro rfl
      have hg := unhide Hf4
      unfold Blk at hg
      rw [e3] at hg
      injection hg with hg
      injection hg with _ h3
      exact absurd h3 (by decide)
    have HRF0 := hide hRF0
    have HB0 := hide ((unhide Hb4).setCell (p := ⟨w.heap.size, 0, none⟩) (Nat.le_refl _) (.slice A4 1 c4))
    clear hRF0 t0 tf
    go_loopg [6] n (fun gk iv wr => ∃ (k : Nat) (F : List Vf.Nd) (ls : List RPl) (A' : Option Addr) (c' : Nat), gk = n - k ∧ k ≤ n ∧ iv = .int .i64 (k : Nat) ∧ Vf.adds [Vf.root] 0 (l.map (·.e)) = Vf.adds F k ((l.map (·.e)).drop k) ∧ Vf.Good F ∧ F.length = k + 1 ∧ RFs wr w.heap.size w.heap.size A' c' F ls ∧ Below w.heap.size w wr)
    case atStart => exact ⟨0, [Vf.root], _, _, _, by omega, Nat.zero_le _, rfl, rfl, Vf.good_root, rfl, unhide HRF0, unhide HB0⟩
    case round =>
    obtain ⟨k, F, ls, A', c', hgk, hk, rfl, hadds, hF, hFl, hFS, hB2⟩ := hrel
    have Hgk := hide hgk
    have Hadds := hide hadds
    have HF := hide hF
    have HFl := hide hFl
    have HFS := hide hFS
    have HB := hide hB2
    clear hgk hadds hF hFl hFS hB2
    by_cases hlt : k < n
    case neg =>
      have hkn : k = n := by omega
      have ilt : ¬ (k : Int) < (n : Int) := by omega
      go_wp2_with fail
      go_ret3
      have ha := unhide Hadds
      rw [List.drop_of_length_le (by rw [unhide Hlm]; omega)] at ha
      have hnew : Vf.new (l.map (·.e)) = (0, 0, F) := by
        unfold Vf.new
        rw [if_neg (by rw [unhide Hlm]; exact h64), ha]
        rfl
      unfold NewRE
      rw [hnew]
      exact ⟨unhide HB, .inr ⟨rfl, _, A', c', ls, rfl, unhide HFS, unhide HF, by rw [unhide HFl, unhide Hlm, hkn], rfl, by rw [unhide Hlm]; omega⟩⟩
    obtain ⟨s, hs⟩ : ∃ s, l[k]? = some s := ⟨_, List.getElem?_eq_getElem (by rw [unhide Hl]; exact hlt)⟩
    obtain ⟨b1, o1, rfl, hb1, c1⟩ := (unhide H).open_ (by
      intro h0
      have := rowCs_len (vals := entVals) (size := 7) (fun _ => rfl) l
      rw [h0, unhide Hl] at this
      simp at this
      omega)
    have hc : ∀ j u, (entVals s)[j]? = some u → wr.cell? ⟨b1, o1 + (k * 7 + j), none⟩ = some u := by
      intro j u hu
      have hj : j < 7 := (List.getElem?_eq_some_iff.1 hu).1
      refine ((unhide HB).cell (p := ⟨b1, _, none⟩) (Nat.lt_of_lt_of_le hb1 hB)).trans (c1 _ _ ?_)
      rw [rowCs_at (vals := entVals) (size := 7) (fun _ => rfl) l k s hs j hj, hu]
    have x0 := hc 0 _ rfl
    have x1 := hc 1 _ rfl
    have x2 := hc 2 _ rfl
    have x3 := hc 3 _ rfl
    have x4 := hc 4 _ rfl
    have x5 := hc 5 _ rfl
    have x6 := hc 6 _ rfl
    rw [Nat.add_zero] at x0
    simp only [← Nat.add_assoc] at x1 x2 x3 x4 x5 x6
    have ilt : (k : Int) < (n : Int) := by omega
    have hes : (l.map (·.e))[k]? = some s.e := by rw [List.getElem?_map, hs]; rfl
    have hstep := adds_step (F := F) hes
    have hbA : Below wr.heap.size wr (wr.alloc (.cells (entVals s).toArray 64)) := (Below.refl _ _).alloc (Nat.le_refl _) _
    have hbE : Blk (wr.alloc (.cells (entVals s).toArray 64)) wr.heap.size 64 (entVals s) := Blk.new wr _ _
    have hok := (unhide Hok) s (List.mem_of_getElem? hs)
    have hdl : s.e.data.length = s.n := by simpa [bys] using hok.d.len1
    have KM := mayR_any s.e s.A s.n s.c (wr.alloc (.cells (entVals s).toArray 64)) hdl hok.n hok.p hok.t hok.m
    have KP := fun w' => rparts_any s.e.path hok.p w'
    have fail_ : ∀ (er : Int) (w' : World), (Vf.add F s.e).1 = er → er ≠ 0 → Below w.heap.size w w' → NewRE (l.map (·.e)) w (.returned (.tuple #[.pointer none, .int .i64 er, .int .i64 (k : Nat)])) w' := by
      intro er w' he h0 hb
      have hst := hstep
      rw [he, if_pos h0] at hst
      have hnew : Vf.new (l.map (·.e)) = (er, ((k : Nat) : Int), []) := by
        unfold Vf.new
        rw [if_neg (by rw [unhide Hlm]; exact h64), (unhide Hadds).trans hst]
        rw [if_pos h0]
      unfold NewRE
      rw [hnew]
      exact ⟨hb, .inl ⟨h0, rfl⟩⟩
    unfold entV at KM
    simp only [entVals, entC] at KM hbE hbA
    have HKM := hide KM
    have HKP := hide KP
    have Hfail := hide fail_
    have Hstep := hide hstep
    have HbA := hide hbA
    have HbE := hide hbE
    have Hok1 := hide hok
    have Hdl := hide hdl
    clear hc c1 hs hes hstep hok KM KP fail_ hbA hbE hdl
    go_wp2_with fail
    refine (unhide HKM).mono ?_
    rintro e w2 ⟨rfl, hb2⟩
    have Hb2 := hide ((unhide HbA).trans (hb2.mono (unhide HbA).size))
    have HbE2 := hide ((unhide HbE).belowSz hb2)
    clear x0 x1 x2 x3 x4 x5 x6 hb2 HbE HbA HKM
    by_cases hm : Vf.may s.e = 0
    case neg =>
      have hr : (Vf.add F s.e).1 = Vf.may s.e := by unfold Vf.add; rw [if_pos hm]
      have Hr := hide hr
      obtain ⟨me, hme⟩ : ∃ v, Vf.may s.e = v := ⟨_, rfl⟩
      rw [hme] at Hr hm ⊢
      have Hm := hide hm
      have q1 : (me != 0) = true := by simp [hm]
      have HbF := hide ((unhide HB).trans ((unhide Hb2).mono (unhide HB).size))
      clear hr hm hme
      go_wp2_with fail
      go_ret3
      exact (unhide Hfail) _ _ (unhide Hr) (unhide Hm) (unhide HbF)
    obtain ⟨m1, m2, m3, m4, m5, m6, m7, m8, m9, m10, m11⟩ := Vf.may_ok hm
    have hpl := Vf.parts_len s.e.path
    have hadd : Vf.add F s.e = if (Vf.at_ F 0 (Pth.partsL s.e.path)).isSome then ((7 : Int), F) else match Vf.at_ F 0 (Pth.partsL s.e.path).dropLast with
      | none => ((3 : Int), F)
      | some up => if Vf.kindAt F up ≠ 2 then ((8 : Int), F) else ((0 : Int), F ++ [Vf.ndOf s.e up]) := by
      unfold Vf.add
      rw [if_neg (by simp [hm])]
      rfl
    rw [hm]
    have q1 : ((0 : Int) != 0) = false := rfl
    have y0 := (unhide HbE2).cell (i := 0) rfl
    have Hadd := hide hadd
    have Hm5 := hide m5
    obtain ⟨pl, hple⟩ : ∃ l, Pth.partsL s.e.path = l := ⟨_, rfl⟩
    have KP2 := (unhide HKP) w2
    rw [hple] at KP2 hpl Hadd Hm5
    obtain ⟨n1, hn1⟩ : ∃ n, pl.length = n := ⟨_, rfl⟩
    rw [hn1] at KP2 hpl
    have hn0 : 0 < n1 := by rw [← hn1]; exact List.length_pos_iff.2 (unhide Hm5)
    have HKP2 := hide KP2
    have Hple := hide hple
    have Hn1 := hide hn1
    clear m1 m2 m3 m4 m5 m6 m7 m8 m9 m10 m11 hadd hm hple hn1 KP2 HKP
    go_wp2_with fail
    refine (unhide HKP2).mono ?_
    rintro e w3 ⟨A1, cp, rfl, ho3, hb3⟩
    have Hb3 := hide ((unhide Hb2).trans (hb3.mono (unhide Hb2).size))
    have HbE3 := hide ((unhide HbE2).belowSz hb3)
    have hr3 := Rd.of_own ho3
    have hcp := own_cap ho3
    have rs := fun w' => run_to (P := Tryd.prog) Tryd.underlying25 (e := 9) (by kernel_rfl) A1 n1 cp (n1 - 1) (by omega) w'
    have hdrop : (pl.map Value.string).take (n1 - 1) = pl.dropLast.map Value.string := by
      rw [← unhide Hn1, List.dropLast_eq_take, List.map_take]
    have hr2 : Rd w3 w3.heap.size 1 A1 (n1 - 1) (pl.dropLast.map Value.string) := by
      rw [← hdrop]
      exact hr3.to_ (by omega)
    have hFl65 : F.length ≤ 65 := by rw [unhide HFl]; omega
    have hFl0 : 0 < F.length := by rw [unhide HFl]; omega
    have hFS3 := (unhide HFS).belowSz (unhide Hb3)
    have KA1 := rat_any F ls _ _ c' A' A1 n1 cp _ pl w3 hFS3 hFl65 hFl0 hr3 (by omega)
    have KA2 := rat_any F ls _ _ c' A' A1 (n1 - 1) cp _ pl.dropLast w3 hFS3 hFl65 hFl0 hr2 (by omega)
    obtain ⟨k1, hk1⟩ : ∃ k1, n1 - 1 = k1 := ⟨_, rfl⟩
    have ei : IntKind.i64.wrap ((n1 : Int) - 1) = (k1 : Int) := by rw [IntWalk.i64_in _ (by omega)]; omega
    have j1 : (k1 : Int) < (n1 : Int) := by omega
    rw [hk1] at rs KA2
    have Hk1 := hide hk1
    have HKA1 := hide KA1
    have HKA2 := hide KA2
    have Hr3 := hide hr3
    have Ho3 := hide ho3
    have HFS3 := hide hFS3
    have HBw3 := hide ((unhide HB).trans ((unhide Hb3).mono (unhide HB).size))
    clear ho3 hb3 hr3 hcp hdrop hr2 KA1 KA2 hk1 hFS3 HKP2 y0
    cases ha : Vf.at_ F 0 pl with
    | some i =>
      rw [ha, numV_some] at HKA1
      have hr : (Vf.add F s.e).1 = 7 := by rw [unhide Hadd, ha]; rfl
      have Hr := hide hr
      have i0 : (0 : Int) ≤ (i : Int) := by omega
      clear hr ha
      go_wp2_with fail
      refine (unhide HKA1).mono ?_
      rintro e w4 ⟨rfl, rfl⟩
      go_wp2_with fail
      go_ret3
      exact (unhide Hfail) _ _ (unhide Hr) (by decide) (unhide HBw3)
    | none =>
    have hadd := unhide Hadd
    rw [ha] at hadd
    rw [ha, numV_none] at HKA1
    simp only [Option.isSome_none, Bool.false_eq_true, if_false] at hadd
    clear ha Hadd
    go_wp2_with fail
    refine (unhide HKA1).mono ?_
    rintro e w4 ⟨rfl, rfl⟩
    go_wp2_with fail
    refine (unhide HKA2).mono ?_
    rintro e w4 ⟨rfl, rfl⟩
    cases hu : Vf.at_ F 0 pl.dropLast with
    | none =>
      rw [hu] at hadd
      rw [numV_none]
      have hr : (Vf.add F s.e).1 = 3 := by rw [hadd]
      have Hr := hide hr
      clear hr hu hadd
      go_wp2_with fail
      go_ret3
      exact (unhide Hfail) _ _ (unhide Hr) (by decide) (unhide HBw3)
    | some up =>
    rw [hu] at hadd
    rw [numV_some]
    simp only at hadd
    have hupl := Vf.at_lt (unhide HF) _ _ _ (Vf.good_pos (unhide HF)) hu
    obtain ⟨xu, hxu⟩ : ∃ x, F[up]? = some x := ⟨_, List.getElem?_eq_getElem hupl⟩
    obtain ⟨pu, hpu, _⟩ := (unhide HFS3).at_ hxu
    rw [Vf.kindAt_eq hxu] at hadd
    obtain ⟨b2, o2, hA2, _, hcl⟩ := (unhide HFS3).cells hFl0
    have z0 := hcl up xu pu hxu hpu 0 _ rfl
    rw [Nat.add_zero] at z0
    have u0 : w3.cell? ⟨w.heap.size, 0, none⟩ = some (.slice A' F.length c') := (unhide HFS3).fs.cell rfl
    obtain ⟨flen, hfl⟩ : ∃ n, F.length = n := ⟨_, rfl⟩
    rw [hfl] at u0 hupl
    have Hfl := hide hfl
    have i0 : ¬ (up : Int) < 0 := by omega
    have i3 : (up : Int) < (flen : Int) := by omega
    subst hA2
    by_cases hk2 : xu.m.kind = 2
    case neg =>
      have q2 : ((xu.m.kind : Int) != 2) = true := by simp; omega
      rw [if_pos hk2] at hadd
      have hr : (Vf.add F s.e).1 = 8 := by rw [hadd]
      have Hr := hide hr
      clear hr hu hadd hxu hpu hcl hk2
      go_wp2_with fail
      go_ret3
      exact (unhide Hfail) _ _ (unhide Hr) (by decide) (unhide HBw3)
    have q2 : ((xu.m.kind : Int) != 2) = false := by rw [hk2]; rfl
    rw [if_neg (by simp [hk2])] at hadd
    have Hadd := hide hadd
    clear hu hadd hxu hpu hcl hk2
    obtain ⟨nm, hnm⟩ : ∃ nm, Vf.lastOf pl = nm := ⟨_, rfl⟩
    have hlast : (pl.map Value.string)[k1]? = some (.string nm) := by
      rw [← unhide Hk1, ← unhide Hn1, ← List.length_map (f := Value.string), ← List.getLast?_eq_getElem?, List.getLast?_map, ← hnm]
      unfold Vf.lastOf
      rw [List.getLast?_eq_some_getLast (unhide Hm5)]
      rfl
    obtain ⟨g3, hA1, _, _⟩ := own_some (unhide Ho3) hn0
    subst hA1
    have c3 := own_cell (unhide Ho3) hlast
    have HFS3' := unhide HFS3
    have hEB := unhide HbE3
    have hOwn3 := unhide Ho3
    have KC : ∀ w', Below w3.heap.size w3 w' → Calls Tryd.prog 33 #[.slice s.A s.n s.c] w' fun e w5 => ∃ A5 c5, e = .returned (.slice A5 s.n c5) ∧ w5.ownsRow w'.heap.size 5 1 (.slice A5 s.n c5) s.n (bys s.e.data) ∧ Below w'.heap.size w' w5 :=
      fun w' hb => copyBytes_any s.A s.n s.c w.heap.size s.e.data w' (Nat.le_trans (unhide HBw3).size hb.size) ((unhide Hok1).d.below ((unhide HBw3).trans (hb.mono (unhide HBw3).size))) (unhide Hok1).n
    have HSC : ∀ w', Below w3.heap.size w3 w' → (w'.cell? ⟨wr.heap.size, 1, none⟩ = some (.int .u8 (s.e.kind : Nat)) ∧ w'.cell? ⟨wr.heap.size, 2, none⟩ = some (.int .u16 (s.e.mode : Nat)) ∧ w'.cell? ⟨wr.heap.size, 3, none⟩ = some (.int .u32 (s.e.uid : Nat)) ∧ w'.cell? ⟨wr.heap.size, 4, none⟩ = some (.int .u32 (s.e.gid : Nat)) ∧ w'.cell? ⟨wr.heap.size, 5, none⟩ = some (.slice s.A s.n s.c) ∧ w'.cell? ⟨wr.heap.size, 6, none⟩ = some (.string s.e.to) ∧ w'.cell? ⟨g3, k1, none⟩ = some (.string nm)) := by
      intro w' hb
      have h1 := hEB.belowSz hb
      have h2 := (HFS3'.belowSz hb).fs
      unfold Blk at h2
      rw [unhide Hfl] at h2
      have h2' : Blk w' w.heap.size 81 [.slice (some ⟨b2, o2, none⟩) flen c'] := h2
      exact ⟨h1.cell rfl, h1.cell rfl, h1.cell rfl, h1.cell rfl, h1.cell rfl, h1.cell rfl, (hb.cell (p := ⟨g3, k1, none⟩) (cell_lt c3)).trans c3⟩
    have HSG : ∀ V V3, Below w3.heap.size w3 V → World.grownBy V V3 (Value.slice (some ⟨b2, o2, none⟩) flen c').ownBlock → (V3.cell? ⟨wr.heap.size, 1, none⟩ = some (.int .u8 (s.e.kind : Nat)) ∧ V3.cell? ⟨wr.heap.size, 2, none⟩ = some (.int .u16 (s.e.mode : Nat)) ∧ V3.cell? ⟨wr.heap.size, 3, none⟩ = some (.int .u32 (s.e.uid : Nat)) ∧ V3.cell? ⟨wr.heap.size, 4, none⟩ = some (.int .u32 (s.e.gid : Nat)) ∧ V3.cell? ⟨wr.heap.size, 5, none⟩ = some (.slice s.A s.n s.c) ∧ V3.cell? ⟨wr.heap.size, 6, none⟩ = some (.string s.e.to) ∧ V3.cell? ⟨g3, k1, none⟩ = some (.string nm)) := by
      intro V V3 hb hg
      have hrow := (HFS3'.belowSz hb).row
      rw [unhide Hfl] at hrow
      have h1 := hEB.belowSz hb
      have hne1 : (Value.slice (some ⟨b2, o2, none⟩) flen c').ownBlock ≠ some wr.heap.size := by
        intro e
        obtain ⟨cs, h3⟩ := row_blkS hrow e
        unfold Blk at h1
        rw [h1] at h3
        injection h3 with h3
        injection h3 with _ h4
        exact absurd h4 (by decide)
      have h1' : Blk V3 wr.heap.size 64 [.string s.e.path, .int .u8 (s.e.kind : Nat), .int .u16 (s.e.mode : Nat), .int .u32 (s.e.uid : Nat), .int .u32 (s.e.gid : Nat), .slice s.A s.n s.c, .string s.e.to] := (hg.block _ h1.lt (fun e => hne1 e.symm)).trans h1
      have h2 := HFS3'.addF (V3 := V3) hb (by rw [unhide Hfl]; exact hg)
      unfold Blk at h2
      rw [unhide Hfl] at h2
      have h2' : Blk V3 w.heap.size 81 [.slice (some ⟨b2, o2, none⟩) flen c'] := h2
      have h5 := (own_below hOwn3 hb).kept hg (own_tyne (own_below hOwn3 hb) hrow (by decide))
      exact ⟨h1'.cell rfl, h1'.cell rfl, h1'.cell rfl, h1'.cell rfl, h1'.cell rfl, h1'.cell rfl, own_cell h5 hlast⟩
    have HF3 : ∀ V V3, Below w3.heap.size w3 V → World.grownBy V V3 (Value.slice (some ⟨b2, o2, none⟩) flen c').ownBlock → V3.cell? ⟨w.heap.size, 0, none⟩ = some (.slice (some ⟨b2, o2, none⟩) flen c') ∧ V3.frozen? ⟨w.heap.size, 0, none⟩ = false := by
      intro V V3 hb hg
      have h2 := HFS3'.addF (V3 := V3) hb (by rw [unhide Hfl]; exact hg)
      unfold Blk at h2
      rw [unhide Hfl] at h2
      have h2' : Blk V3 w.heap.size 81 [.slice (some ⟨b2, o2, none⟩) flen c'] := h2
      exact ⟨h2'.cell rfl, h2'.free 0⟩
    have hrow3 : ∀ V, Below w3.heap.size w3 V → V.ownsRow w.heap.size 83 9 (.slice (some ⟨b2, o2, none⟩) flen c') flen (rowCs rndV (F.zip ls)) := by
      intro V hb
      have hrow := (HFS3'.belowSz hb).row
      rw [unhide Hfl] at hrow
      exact hrow
    have hgw : w.heap.size ≠ wr.heap.size := by
      intro e
      have h1 := (HFS3').fs
      have h2 := hEB
      unfold Blk at h1 h2
      rw [← e] at h2
      rw [h1] at h2
      injection h2 with h2
      injection h2 with _ h3
      exact absurd h3 (by decide)
    have hg3 : g3 ≠ w.heap.size := by
      rintro rfl
      have h1 := (HFS3').fs
      obtain ⟨cs, h2⟩ := row_blkS hOwn3 (k := w.heap.size) rfl
      unfold Blk at h1
      rw [h1] at h2
      injection h2 with h2
      injection h2 with _ h3
      exact absurd h3 (by decide)
    have HSS : ∀ (V3 : World) (u : Value), (V3.cell? ⟨wr.heap.size, 1, none⟩ = some (.int .u8 (s.e.kind : Nat)) ∧ V3.cell? ⟨wr.heap.size, 2, none⟩ = some (.int .u16 (s.e.mode : Nat)) ∧ V3.cell? ⟨wr.heap.size, 3, none⟩ = some (.int .u32 (s.e.uid : Nat)) ∧ V3.cell? ⟨wr.heap.size, 4, none⟩ = some (.int .u32 (s.e.gid : Nat)) ∧ V3.cell? ⟨wr.heap.size, 5, none⟩ = some (.slice s.A s.n s.c) ∧ V3.cell? ⟨wr.heap.size, 6, none⟩ = some (.string s.e.to) ∧ V3.cell? ⟨g3, k1, none⟩ = some (.string nm)) → ((V3.setCell ⟨w.heap.size, 0, none⟩ u).cell? ⟨wr.heap.size, 1, none⟩ = some (.int .u8 (s.e.kind : Nat)) ∧ (V3.setCell ⟨w.heap.size, 0, none⟩ u).cell? ⟨wr.heap.size, 2, none⟩ = some (.int .u16 (s.e.mode : Nat)) ∧ (V3.setCell ⟨w.heap.size, 0, none⟩ u).cell? ⟨wr.heap.size, 3, none⟩ = some (.int .u32 (s.e.uid : Nat)) ∧ (V3.setCell ⟨w.heap.size, 0, none⟩ u).cell? ⟨wr.heap.size, 4, none⟩ = some (.int .u32 (s.e.gid : Nat)) ∧ (V3.setCell ⟨w.heap.size, 0, none⟩ u).cell? ⟨wr.heap.size, 5, none⟩ = some (.slice s.A s.n s.c) ∧ (V3.setCell ⟨w.heap.size, 0, none⟩ u).cell? ⟨wr.heap.size, 6, none⟩ = some (.string s.e.to) ∧ (V3.setCell ⟨w.heap.size, 0, none⟩ u).cell? ⟨g3, k1, none⟩ = some (.string nm)) := by
      intro V3 u ⟨a1, a2, a3, a4, a5, a6, a7⟩
      have key : ∀ (b o : Nat), b ≠ w.heap.size → (V3.setCell ⟨w.heap.size, 0, none⟩ u).cell? ⟨b, o, none⟩ = V3.cell? ⟨b, o, none⟩ := fun b o hb => World.cell?_setCell_other _ _ _ _ (fun e => hb (by injection e with e1; first | exact e1 | exact e1.symm))
      exact ⟨(key _ _ hgw.symm).trans a1, (key _ _ hgw.symm).trans a2, (key _ _ hgw.symm).trans a3, (key _ _ hgw.symm).trans a4, (key _ _ hgw.symm).trans a5, (key _ _ hgw.symm).trans a6, (key _ _ hg3).trans a7⟩
    have HSS' := hide HSS
    have HKC := hide KC
    have HSC' := hide HSC
    have HSG' := hide HSG
    have HF3' := hide HF3
    have Hrow3 := hide hrow3
    have Hnm := hide hnm
    have hlo3 : w.heap.size ≤ w3.heap.size := (unhide HBw3).size
    have hfl64 : flen ≤ 64 := by rw [← unhide Hfl, unhide HFl]; omega
    obtain ⟨v1, v2, v3, v4, v5, v6, v7⟩ := HSC w3 (Below.refl _ _)
    have v8 : w3.drew.cell? ⟨w.heap.size, 0, none⟩ = some (.slice (some ⟨b2, o2, none⟩) flen c') := u0
    clear hlast c3 HFS3' hEB hOwn3 KC HSC HSG HF3 HSS hgw hg3 hrow3 hnm hFl65 hFl0
    go_wp2_with fail
    clear u0 z0
    refine wp_region_noPanic ?_
    refine wp_region_held_drew (S := fun w' => w'.cell? ⟨wr.heap.size, 1, none⟩ = some (.int .u8 (s.e.kind : Nat)) ∧ w'.cell? ⟨wr.heap.size, 2, none⟩ = some (.int .u16 (s.e.mode : Nat)) ∧ w'.cell? ⟨wr.heap.size, 3, none⟩ = some (.int .u32 (s.e.uid : Nat)) ∧ w'.cell? ⟨wr.heap.size, 4, none⟩ = some (.int .u32 (s.e.gid : Nat)) ∧ w'.cell? ⟨wr.heap.size, 5, none⟩ = some (.slice s.A s.n s.c) ∧ w'.cell? ⟨wr.heap.size, 6, none⟩ = some (.string s.e.to) ∧ w'.cell? ⟨g3, k1, none⟩ = some (.string nm)) (by kernel_rfl) ((unhide HSC') _ (below_drew' (Below.refl _ _))) (fun HS0 => ?_)
    refine takeQ (i := 0) (d := some 78) (v := ?_) rfl rfl (by kernel_rfl) (by kernel_rfl) (by kernel_rfl) (fun _ _ _ h => h) (Or.inl ⟨by rfl, ?y0⟩) HS0 ?_
    case y0 => (intro w' hSw; (try dsimp only at hSw); go_simp; (try with_reducible rfl))
    try simp only [Act.put, List.setIfInBounds_toArray, List.set_cons_zero, List.set_cons_succ]
    refine takeQ (i := 1) (d := some 79) (v := ?_) rfl rfl (by kernel_rfl) (by kernel_rfl) (by kernel_rfl) (fun _ _ _ h => h) (Or.inl ⟨by rfl, ?y1⟩) HS0 ?_
    case y1 => (intro w' hSw; (try dsimp only at hSw); go_simp; (try with_reducible rfl))
    try simp only [Act.put, List.setIfInBounds_toArray, List.set_cons_zero, List.set_cons_succ]
    refine takeQ (i := 2) (d := some 80) (v := ?_) rfl rfl (by kernel_rfl) (by kernel_rfl) (by kernel_rfl) (fun _ _ _ h => h) (Or.inl ⟨by rfl, ?y2⟩) HS0 ?_
    case y2 => (intro w' hSw; (try dsimp only at hSw); go_simp; (try with_reducible rfl))
    try simp only [Act.put, List.setIfInBounds_toArray, List.set_cons_zero, List.set_cons_succ]
    refine takeQ (i := 3) (d := some 81) (v := ?_) rfl rfl (by kernel_rfl) (by kernel_rfl) (by kernel_rfl) (fun _ _ _ h => h) (Or.inl ⟨by rfl, ?y3⟩) HS0 ?_
    case y3 => (intro w' hSw; (try dsimp only at hSw); go_simp; (try with_reducible rfl))
    try simp only [Act.put, List.setIfInBounds_toArray, List.set_cons_zero, List.set_cons_succ]
    refine takeQ (i := 5) (d := some 83) (v := ?_) rfl rfl (by kernel_rfl) (by kernel_rfl) (by kernel_rfl) (fun _ _ _ h => h) (Or.inl ⟨by rfl, ?y5⟩) HS0 ?_
    case y5 => (intro w' hSw; (try dsimp only at hSw); go_simp; (try with_reducible rfl))
    try simp only [Act.put, List.setIfInBounds_toArray, List.set_cons_zero, List.set_cons_succ]
    refine takeQ (i := 6) (d := some 84) (v := ?_) rfl rfl (by kernel_rfl) (by kernel_rfl) (by kernel_rfl) (fun _ _ _ h => h) (Or.inl ⟨by rfl, ?y6⟩) HS0 ?_
    case y6 => (intro w' hSw; (try dsimp only at hSw); go_simp; (try with_reducible rfl))
    try simp only [Act.put, List.setIfInBounds_toArray, List.set_cons_zero, List.set_cons_succ]
    refine takeQ (i := 7) (d := some 85) (v := ?_) rfl rfl (by kernel_rfl) (by kernel_rfl) (by kernel_rfl) (fun _ _ _ h => h) (Or.inl ⟨by rfl, ?y7⟩) HS0 ?_
    case y7 => (intro w' hSw; (try dsimp only at hSw); go_simp; (try with_reducible rfl))
    try simp only [Act.put, List.setIfInBounds_toArray, List.set_cons_zero, List.set_cons_succ]
    refine takeQ (i := 8) (d := some 86) (v := ?_) rfl rfl (by kernel_rfl) (by kernel_rfl) (by kernel_rfl) (fun _ _ _ h => h) (Or.inl ⟨by rfl, ?y8⟩) HS0 ?_
    case y8 => (intro w' hSw; (try dsimp only at hSw); go_simp; (try with_reducible rfl))
    try simp only [Act.put, List.setIfInBounds_toArray, List.set_cons_zero, List.set_cons_succ]
    refine takeQ (i := 9) (d := some 87) (v := ?_) rfl rfl (by kernel_rfl) (by kernel_rfl) (by kernel_rfl) (fun _ _ _ h => h) (Or.inl ⟨by rfl, ?y9⟩) HS0 ?_
    case y9 => (intro w' hSw; (try dsimp only at hSw); go_simp; (try with_reducible rfl))
    try simp only [Act.put, List.setIfInBounds_toArray, List.set_cons_zero, List.set_cons_succ]
    refine takeQ (i := 10) (d := some 88) (v := ?_) rfl rfl (by kernel_rfl) (by kernel_rfl) (by kernel_rfl) (fun _ _ _ h => h) (Or.inl ⟨by rfl, ?y10⟩) HS0 ?_
    case y10 => (intro w' hSw; (try dsimp only at hSw); go_simp; (try with_reducible rfl))
    try simp only [Act.put, List.setIfInBounds_toArray, List.set_cons_zero, List.set_cons_succ]
    refine takeQ (i := 11) (d := some 89) (v := ?_) rfl rfl (by kernel_rfl) (by kernel_rfl) (by kernel_rfl) (fun _ _ _ h => h) (Or.inl ⟨by rfl, ?y11⟩) HS0 ?_
    case y11 => (intro w' hSw; (try dsimp only at hSw); go_simp; (try with_reducible rfl))
    try simp only [Act.put, List.setIfInBounds_toArray, List.set_cons_zero, List.set_cons_succ]
    refine takeQ (i := 12) (d := some 90) (v := ?_) rfl rfl (by kernel_rfl) (by kernel_rfl) (by kernel_rfl) (fun _ _ _ h => h) (Or.inl ⟨by rfl, ?y12⟩) HS0 ?_
    case y12 => (intro w' hSw; (try dsimp only at hSw); go_simp; (try with_reducible rfl))
    try simp only [Act.put, List.setIfInBounds_toArray, List.set_cons_zero, List.set_cons_succ]
    refine takeQ (i := 13) (d := some 91) (v := ?_) rfl rfl (by kernel_rfl) (by kernel_rfl) (by kernel_rfl) (fun _ _ _ h => h) (Or.inl ⟨by rfl, ?y13⟩) HS0 ?_
    case y13 => (intro w' hSw; (try dsimp only at hSw); go_simp; (try with_reducible rfl))
    try simp only [Act.put, List.setIfInBounds_toArray, List.set_cons_zero, List.set_cons_succ]
    refine takeQ (i := 14) (d := some 92) (v := ?_) rfl rfl (by kernel_rfl) (by kernel_rfl) (by kernel_rfl) (fun _ _ _ h => h) (Or.inl ⟨by rfl, ?y14⟩) HS0 ?_
    case y14 => (intro w' hSw; (try dsimp only at hSw); go_simp; (try with_reducible rfl))
    try simp only [Act.put, List.setIfInBounds_toArray, List.set_cons_zero, List.set_cons_succ]
    refine takeQ (i := 15) (d := some 93) (v := ?_) rfl rfl (by kernel_rfl) (by kernel_rfl) (by kernel_rfl) (fun _ _ _ h => h) (Or.inl ⟨by rfl, ?y15⟩) HS0 ?_
    case y15 => (intro w' hSw; (try dsimp only at hSw); go_simp; (try with_reducible rfl))
    try simp only [Act.put, List.setIfInBounds_toArray, List.set_cons_zero, List.set_cons_succ]
    refine takeQ (i := 16) (d := some 94) (v := ?_) rfl rfl (by kernel_rfl) (by kernel_rfl) (by kernel_rfl) (fun _ _ _ h => h) (Or.inl ⟨by rfl, ?y16⟩) HS0 ?_
    case y16 => (intro w' hSw; (try dsimp only at hSw); go_simp; (try with_reducible rfl))
    try simp only [Act.put, List.setIfInBounds_toArray, List.set_cons_zero, List.set_cons_succ]
    refine takeQ (i := 17) (d := some 95) (v := ?_) rfl rfl (by kernel_rfl) (by kernel_rfl) (by kernel_rfl) (fun _ _ _ h => h) (Or.inl ⟨by rfl, ?y17⟩) HS0 ?_
    case y17 => (intro w' hSw; (try dsimp only at hSw); go_simp; (try with_reducible rfl))
    try simp only [Act.put, List.setIfInBounds_toArray, List.set_cons_zero, List.set_cons_succ]
    refine takeQ (i := 18) (d := some 96) (v := ?_) rfl rfl (by kernel_rfl) (by kernel_rfl) (by kernel_rfl) (fun _ _ _ h => h) (Or.inl ⟨by rfl, ?y18⟩) HS0 ?_
    case y18 => (intro w' hSw; (try dsimp only at hSw); go_simp; (try with_reducible rfl))
    try simp only [Act.put, List.setIfInBounds_toArray, List.set_cons_zero, List.set_cons_succ]
    refine takeQ (i := 19) (d := some 97) (v := ?_) rfl rfl (by kernel_rfl) (by kernel_rfl) (by kernel_rfl) (fun _ _ _ h => h) (Or.inl ⟨by rfl, ?y19⟩) HS0 ?_
    case y19 => (intro w' hSw; (try dsimp only at hSw); go_simp; (try with_reducible rfl))
    try simp only [Act.put, List.setIfInBounds_toArray, List.set_cons_zero, List.set_cons_succ]
    refine takeQ (i := 20) (d := some 98) (v := ?_) rfl rfl (by kernel_rfl) (by kernel_rfl) (by kernel_rfl) (fun _ _ _ h => h) (Or.inl ⟨by rfl, ?y20⟩) HS0 ?_
    case y20 => (intro w' hSw; (try dsimp only at hSw); go_simp; (try with_reducible rfl))
    try simp only [Act.put, List.setIfInBounds_toArray, List.set_cons_zero, List.set_cons_succ]
    refine takeQ (i := 21) (d := some 99) (v := ?_) rfl rfl (by kernel_rfl) (by kernel_rfl) (by kernel_rfl) (fun _ _ _ h => h) (Or.inl ⟨by rfl, ?y21⟩) HS0 ?_
    case y21 => (intro w' hSw; (try dsimp only at hSw); go_simp; (try with_reducible rfl))
    try simp only [Act.put, List.setIfInBounds_toArray, List.set_cons_zero, List.set_cons_succ]
    refine takeQ (i := 22) (d := some 100) (v := ?_) rfl rfl (by kernel_rfl) (by kernel_rfl) (by kernel_rfl) (fun _ _ _ h => h) (Or.inl ⟨by rfl, ?y22⟩) HS0 ?_
    case y22 => (intro w' hSw; (try dsimp only at hSw); go_simp; (try with_reducible rfl))
    try simp only [Act.put, List.setIfInBounds_toArray, List.set_cons_zero, List.set_cons_succ]
    refine takeQ (i := 23) (d := some 101) (v := ?_) rfl rfl (by kernel_rfl) (by kernel_rfl) (by kernel_rfl) (fun _ _ _ h => h) (Or.inl ⟨by rfl, ?y23⟩) HS0 ?_
    case y23 => (intro w' hSw; (try dsimp only at hSw); go_simp; (try with_reducible rfl))
    try simp only [Act.put, List.setIfInBounds_toArray, List.set_cons_zero, List.set_cons_succ]
    refine takeQ (i := 24) (d := some 102) (v := ?_) rfl rfl (by kernel_rfl) (by kernel_rfl) (by kernel_rfl) (fun _ _ _ h => h) (Or.inl ⟨by rfl, ?y24⟩) HS0 ?_
    case y24 => (intro w' hSw; (try dsimp only at hSw); go_simp; (try with_reducible rfl))
    try simp only [Act.put, List.setIfInBounds_toArray, List.set_cons_zero, List.set_cons_succ]
    refine takeQ (i := 25) (d := some 103) (v := ?_) rfl rfl (by kernel_rfl) (by kernel_rfl) (by kernel_rfl) (fun _ _ _ h => h) (Or.inl ⟨by rfl, ?y25⟩) HS0 ?_
    case y25 => (intro w' hSw; (try dsimp only at hSw); go_simp; (try with_reducible rfl))
    try simp only [Act.put, List.setIfInBounds_toArray, List.set_cons_zero, List.set_cons_succ]
    refine takeQ (i := 27) (d := some 105) (v := ?_) rfl rfl (by kernel_rfl) (by kernel_rfl) (by kernel_rfl) (fun _ _ _ h => h) (Or.inl ⟨by rfl, ?y27⟩) HS0 ?_
    case y27 => (intro w' hSw; (try dsimp only at hSw); go_simp; (try with_reducible rfl))
    try simp only [Act.put, List.setIfInBounds_toArray, List.set_cons_zero, List.set_cons_succ]
    refine takeQ (i := 28) (d := some 106) (v := ?_) rfl rfl (by kernel_rfl) (by kernel_rfl) (by kernel_rfl) (fun _ _ _ h => h) (Or.inl ⟨by rfl, ?y28⟩) HS0 ?_
    case y28 => (intro w' hSw; (try dsimp only at hSw); go_simp; (try with_reducible rfl))
    try simp only [Act.put, List.setIfInBounds_toArray, List.set_cons_zero, List.set_cons_succ]
    refine wpAnyH_ready (rs := [4, 26]) (by kernel_rfl) (by simp) ?_
    refine AllReadyH.cons (i := 4) rfl (fun K hK => ?way4) (AllReadyH.cons (i := 26) rfl (fun K hK => ?way26) AllReadyH.nil)
    case way4 =>
      rw [if_pos (by rfl)]
      go_simp
      refine hK.out _ _ (by (first | exact (unhide HSC') _ (below_drew' (Below.refl _ _)) | exact (unhide HSG') _ _ (unhide hbn) (unhide hgr) | exact (unhide HSC') _ (unhide hbn) | exact (unhide HSC') _ ((unhide hbn).alloc (unhide hbn).size _) | exact (unhide HSS') _ _ ((unhide HSG') _ _ (unhide hbn) (unhide hgr)))) (fun hHeld => ?_)
      clear hK K HS0
      have HS0 := hHeld
      clear hHeld
      try simp only [Act.put, List.setIfInBounds_toArray, List.set_cons_zero, List.set_cons_succ]
      refine wpAnyH_ready (rs := [26]) (by kernel_rfl) (by simp) ?_
      refine AllReadyH.cons (i := 26) rfl (fun K hK => ?_) AllReadyH.nil
      rw [if_pos (by rfl)]
      go_simp
      go_at_call 33
      refine ((unhide HKC) _ (below_drew' (Below.refl _ _))).mono ?_
      rintro e w5 ⟨A5, c5, rfl, ho5, hb5⟩
      have hbn := hide ((below_drew' (Below.refl w3.heap.size w3)).trans hb5)
      have v8b := ((unhide HF3') _ _ (unhide hbn) (World.grownBy.refl w5 _)).1
      have v8c : ∀ o, (w5.alloc o).cell? ⟨w.heap.size, 0, none⟩ = some (.slice (some ⟨b2, o2, none⟩) flen c') := fun o => (World.cell?_alloc_some w5 _ o (by rw [v8b]; rfl)).trans v8b
      have Ho5 := hide ho5
      clear ho5 hb5
      refine hK.out _ _ (by (first | exact (unhide HSC') _ (below_drew' (Below.refl _ _)) | exact (unhide HSG') _ _ (unhide hbn) (unhide hgr) | exact (unhide HSC') _ (unhide hbn) | exact (unhide HSC') _ ((unhide hbn).alloc (unhide hbn).size _) | exact (unhide HSS') _ _ ((unhide HSG') _ _ (unhide hbn) (unhide hgr)))) (fun hHeld => ?_)
      clear hK K HS0
      have HS0 := hHeld
      clear hHeld
      try simp only [Act.put, List.setIfInBounds_toArray, List.set_cons_zero, List.set_cons_succ]
      refine takeQ (i := 29) (d := some 107) (v := ?_) rfl rfl (by kernel_rfl) (by kernel_rfl) (by kernel_rfl) (fun _ _ _ h => h) (Or.inl ⟨by rfl, ?y29⟩) HS0 ?_
      case y29 => (intro w' hSw; (try dsimp only at hSw); go_simp; (try with_reducible rfl))
      try simp only [Act.put, List.setIfInBounds_toArray, List.set_cons_zero, List.set_cons_succ]
      refine wpAnyH_ready (rs := [30]) (by kernel_rfl) (by simp) ?_
      refine AllReadyH.cons (i := 30) rfl (fun K hK => ?_) AllReadyH.nil
      rw [if_pos (by rfl)]
      go_simp
      refine hK.out _ _ (by (first | exact (unhide HSC') _ (below_drew' (Below.refl _ _)) | exact (unhide HSG') _ _ (unhide hbn) (unhide hgr) | exact (unhide HSC') _ (unhide hbn) | exact (unhide HSC') _ ((unhide hbn).alloc (unhide hbn).size _) | exact (unhide HSS') _ _ ((unhide HSG') _ _ (unhide hbn) (unhide hgr)))) (fun hHeld => ?_)
      clear hK K HS0
      have HS0 := hHeld
      clear hHeld
      try simp only [Act.put, List.setIfInBounds_toArray, List.set_cons_zero, List.set_cons_succ]
      refine wpAnyH_ready (rs := [31]) (by kernel_rfl) (by simp) ?_
      refine AllReadyH.cons (i := 31) rfl (fun K hK => ?_) AllReadyH.nil
      rw [if_pos (by rfl)]
      refine wp_app1g rnodeTy _ _ rfl w.heap.size (.slice (some ⟨b2, o2, none⟩) flen c') flen _ rfl ((unhide Hrow3) _ (unhide hbn)) #[.int .u8 (s.e.kind : Nat), .int .u16 (s.e.mode : Nat), .int .u32 (s.e.uid : Nat), .int .u32 (s.e.gid : Nat), .int .i64 (s.n : Nat), .int .i64 (up : Nat), .string nm, .slice A5 s.n c5, .string s.e.to] _ rfl (by simp) rfl (by simp [Value.oneCell']) (by omega) (Nat.le_trans hlo3 (unhide hbn).size) ?_; intro A6 c6 w6 ho6 hg6; have hgr := hide hg6; obtain ⟨t6, f6⟩ := (unhide HF3') _ _ (unhide hbn) hg6; have Ho6 := hide ho6; clear ho6 hg6
      refine hK.out _ _ (by (first | exact (unhide HSC') _ (below_drew' (Below.refl _ _)) | exact (unhide HSG') _ _ (unhide hbn) (unhide hgr) | exact (unhide HSC') _ (unhide hbn) | exact (unhide HSC') _ ((unhide hbn).alloc (unhide hbn).size _) | exact (unhide HSS') _ _ ((unhide HSG') _ _ (unhide hbn) (unhide hgr)))) (fun hHeld => ?_)
      clear hK K HS0
      have HS0 := hHeld
      clear hHeld
      try simp only [Act.put, List.setIfInBounds_toArray, List.set_cons_zero, List.set_cons_succ]
      refine takeQ (i := 32) (d := some 110) (v := ?_) rfl rfl (by kernel_rfl) (by kernel_rfl) (by kernel_rfl) (fun _ _ _ h => h) (Or.inl ⟨by rfl, ?y32⟩) HS0 ?_
      case y32 => (intro w' hSw; (try dsimp only at hSw); go_simp; (try with_reducible rfl))
      try simp only [Act.put, List.setIfInBounds_toArray, List.set_cons_zero, List.set_cons_succ]
      refine takeQ (i := 33) (d := some 111) (v := ?_) rfl rfl (by kernel_rfl) (by kernel_rfl) (by kernel_rfl) (fun _ _ _ h => h) (Or.inl ⟨by rfl, ?y33⟩) HS0 ?_
      case y33 => (intro w' hSw; (try dsimp only at hSw); go_simp; (try with_reducible rfl))
      try simp only [Act.put, List.setIfInBounds_toArray, List.set_cons_zero, List.set_cons_succ]
      refine wpAnyH_ready (rs := [34]) (by kernel_rfl) (by simp) ?_
      refine AllReadyH.cons (i := 34) rfl (fun K hK => ?_) AllReadyH.nil
      rw [if_pos (by rfl)]
      go_simp
      refine hK.out _ _ (by (first | exact (unhide HSC') _ (below_drew' (Below.refl _ _)) | exact (unhide HSG') _ _ (unhide hbn) (unhide hgr) | exact (unhide HSC') _ (unhide hbn) | exact (unhide HSC') _ ((unhide hbn).alloc (unhide hbn).size _) | exact (unhide HSS') _ _ ((unhide HSG') _ _ (unhide hbn) (unhide hgr)))) (fun hHeld => ?_)
      clear hK K HS0
      have HS0 := hHeld
      clear hHeld
      try simp only [Act.put, List.setIfInBounds_toArray, List.set_cons_zero, List.set_cons_succ]
      refine wpAnyH_done (by kernel_rfl) ?_ _
      refine NoPanic.normal ?_
      have hre : rndV (Vf.ndOf s.e up, ⟨A5, s.n, c5⟩) = [.int .u8 (s.e.kind : Nat), .int .u16 (s.e.mode : Nat), .int .u32 (s.e.uid : Nat), .int .u32 (s.e.gid : Nat), .int .i64 (s.n : Nat), .int .i64 (up : Nat), .string nm, .slice A5 s.n c5, .string s.e.to] := by
        unfold rndV
        simp only [Vf.ndOf, unhide Hdl, unhide Hple, unhide Hnm]
      have hfin := (unhide HFS3).addFin (V := w5) (V3 := w6) (Vf.ndOf s.e up) ⟨A5, s.n, c5⟩ hlo3 (unhide hbn) (own_base (unhide Ho5) hlo3) A6 c6 (by rw [hre, unhide Hfl]; exact unhide Ho6) (by rw [unhide Hfl]; exact unhide hgr)
      rw [unhide Hfl] at hfin
      have hg2 := Vf.add_good (unhide HF) (e := s.e) (by rw [unhide Hadd])
      rw [unhide Hadd] at hg2
      have hst := unhide Hstep
      rw [unhide Hadd, if_neg (by simp)] at hst
      have Hst := hide ((unhide Hadds).trans hst)
      have Hg2 := hide hg2
      have Hfin := hide hfin
      clear hre hfin hg2 hst v1 v2 v3 v4 v5 v6 v7 v8
      go_wp2_with fail
      go_roundg (n - (k + 1))
      case rel => exact ⟨k + 1, _, _, A6, c6, rfl, by omega, by go_num, unhide Hst, unhide Hg2, by rw [List.length_append, unhide HFl]; rfl, (unhide Hfin).1, (unhide HBw3).trans ((unhide Hfin).2)⟩
      case measure => rw [unhide Hgk]; omega
    case way26 =>
      rw [if_pos (by rfl)]
      go_simp
      go_at_call 33
      refine ((unhide HKC) _ (below_drew' (Below.refl _ _))).mono ?_
      rintro e w5 ⟨A5, c5, rfl, ho5, hb5⟩
      have hbn := hide ((below_drew' (Below.refl w3.heap.size w3)).trans hb5)
      have v8b := ((unhide HF3') _ _ (unhide hbn) (World.grownBy.refl w5 _)).1
      have v8c : ∀ o, (w5.alloc o).cell? ⟨w.heap.size, 0, none⟩ = some (.slice (some ⟨b2, o2, none⟩) flen c') := fun o => (World.cell?_alloc_some w5 _ o (by rw [v8b]; rfl)).trans v8b
      have Ho5 := hide ho5
      clear ho5 hb5
      refine hK.out _ _ (by (first | exact (unhide HSC') _ (below_drew' (Below.refl _ _)) | exact (unhide HSG') _ _ (unhide hbn) (unhide hgr) | exact (unhide HSC') _ (unhide hbn) | exact (unhide HSC') _ ((unhide hbn).alloc (unhide hbn).size _) | exact (unhide HSS') _ _ ((unhide HSG') _ _ (unhide hbn) (unhide hgr)))) (fun hHeld => ?_)
      clear hK K HS0
      have HS0 := hHeld
      clear hHeld
      try simp only [Act.put, List.setIfInBounds_toArray, List.set_cons_zero, List.set_cons_succ]
      refine takeQ (i := 29) (d := some 107) (v := ?_) rfl rfl (by kernel_rfl) (by kernel_rfl) (by kernel_rfl) (fun _ _ _ h => h) (Or.inl ⟨by rfl, ?y29⟩) HS0 ?_
      case y29 => (intro w' hSw; (try dsimp only at hSw); go_simp; (try with_reducible rfl))
      try simp only [Act.put, List.setIfInBounds_toArray, List.set_cons_zero, List.set_cons_succ]
      refine wpAnyH_ready (rs := [4, 30]) (by kernel_rfl) (by simp) ?_
      refine AllReadyH.cons (i := 4) rfl (fun K hK => ?way4) (AllReadyH.cons (i := 30) rfl (fun K hK => ?way30) AllReadyH.nil)
      case way4 =>
        rw [if_pos (by rfl)]
        go_simp
        refine hK.out _ _ (by (first | exact (unhide HSC') _ (below_drew' (Below.refl _ _)) | exact (unhide HSG') _ _ (unhide hbn) (unhide hgr) | exact (unhide HSC') _ (unhide hbn) | exact (unhide HSC') _ ((unhide hbn).alloc (unhide hbn).size _) | exact (unhide HSS') _ _ ((unhide HSG') _ _ (unhide hbn) (unhide hgr)))) (fun hHeld => ?_)
        clear hK K HS0
        have HS0 := hHeld
        clear hHeld
        try simp only [Act.put, List.setIfInBounds_toArray, List.set_cons_zero, List.set_cons_succ]
        refine wpAnyH_ready (rs := [30]) (by kernel_rfl) (by simp) ?_
        refine AllReadyH.cons (i := 30) rfl (fun K hK => ?_) AllReadyH.nil
        rw [if_pos (by rfl)]
        go_simp
        refine hK.out _ _ (by (first | exact (unhide HSC') _ (below_drew' (Below.refl _ _)) | exact (unhide HSG') _ _ (unhide hbn) (unhide hgr) | exact (unhide HSC') _ (unhide hbn) | exact (unhide HSC') _ ((unhide hbn).alloc (unhide hbn).size _) | exact (unhide HSS') _ _ ((unhide HSG') _ _ (unhide hbn) (unhide hgr)))) (fun hHeld => ?_)
        clear hK K HS0
        have HS0 := hHeld
        clear hHeld
        try simp only [Act.put, List.setIfInBounds_toArray, List.set_cons_zero, List.set_cons_succ]
        refine wpAnyH_ready (rs := [31]) (by kernel_rfl) (by simp) ?_
        refine AllReadyH.cons (i := 31) rfl (fun K hK => ?_) AllReadyH.nil
        rw [if_pos (by rfl)]
        refine wp_app1g rnodeTy _ _ rfl w.heap.size (.slice (some ⟨b2, o2, none⟩) flen c') flen _ rfl ((unhide Hrow3) _ (unhide hbn)) #[.int .u8 (s.e.kind : Nat), .int .u16 (s.e.mode : Nat), .int .u32 (s.e.uid : Nat), .int .u32 (s.e.gid : Nat), .int .i64 (s.n : Nat), .int .i64 (up : Nat), .string nm, .slice A5 s.n c5, .string s.e.to] _ rfl (by simp) rfl (by simp [Value.oneCell']) (by omega) (Nat.le_trans hlo3 (unhide hbn).size) ?_; intro A6 c6 w6 ho6 hg6; have hgr := hide hg6; obtain ⟨t6, f6⟩ := (unhide HF3') _ _ (unhide hbn) hg6; have Ho6 := hide ho6; clear ho6 hg6
        refine hK.out _ _ (by (first | exact (unhide HSC') _ (below_drew' (Below.refl _ _)) | exact (unhide HSG') _ _ (unhide hbn) (unhide hgr) | exact (unhide HSC') _ (unhide hbn) | exact (unhide HSC') _ ((unhide hbn).alloc (unhide hbn).size _) | exact (unhide HSS') _ _ ((unhide HSG') _ _ (unhide hbn) (unhide hgr)))) (fun hHeld => ?_)
        clear hK K HS0
        have HS0 := hHeld
        clear hHeld
        try simp only [Act.put, List.setIfInBounds_toArray, List.set_cons_zero, List.set_cons_succ]
        refine takeQ (i := 32) (d := some 110) (v := ?_) rfl rfl (by kernel_rfl) (by kernel_rfl) (by kernel_rfl) (fun _ _ _ h => h) (Or.inl ⟨by rfl, ?y32⟩) HS0 ?_
        case y32 => (intro w' hSw; (try dsimp only at hSw); go_simp; (try with_reducible rfl))
        try simp only [Act.put, List.setIfInBounds_toArray, List.set_cons_zero, List.set_cons_succ]
        refine takeQ (i := 33) (d := some 111) (v := ?_) rfl rfl (by kernel_rfl) (by kernel_rfl) (by kernel_rfl) (fun _ _ _ h => h) (Or.inl ⟨by rfl, ?y33⟩) HS0 ?_
        case y33 => (intro w' hSw; (try dsimp only at hSw); go_simp; (try with_reducible rfl))
        try simp only [Act.put, List.setIfInBounds_toArray, List.set_cons_zero, List.set_cons_succ]
        refine wpAnyH_ready (rs := [34]) (by kernel_rfl) (by simp) ?_
        refine AllReadyH.cons (i := 34) rfl (fun K hK => ?_) AllReadyH.nil
        rw [if_pos (by rfl)]
        go_simp
        refine hK.out _ _ (by (first | exact (unhide HSC') _ (below_drew' (Below.refl _ _)) | exact (unhide HSG') _ _ (unhide hbn) (unhide hgr) | exact (unhide HSC') _ (unhide hbn) | exact (unhide HSC') _ ((unhide hbn).alloc (unhide hbn).size _) | exact (unhide HSS') _ _ ((unhide HSG') _ _ (unhide hbn) (unhide hgr)))) (fun hHeld => ?_)
        clear hK K HS0
        have HS0 := hHeld
        clear hHeld
        try simp only [Act.put, List.setIfInBounds_toArray, List.set_cons_zero, List.set_cons_succ]
        refine wpAnyH_done (by kernel_rfl) ?_ _
        refine NoPanic.normal ?_
        have hre : rndV (Vf.ndOf s.e up, ⟨A5, s.n, c5⟩) = [.int .u8 (s.e.kind : Nat), .int .u16 (s.e.mode : Nat), .int .u32 (s.e.uid : Nat), .int .u32 (s.e.gid : Nat), .int .i64 (s.n : Nat), .int .i64 (up : Nat), .string nm, .slice A5 s.n c5, .string s.e.to] := by
          unfold rndV
          simp only [Vf.ndOf, unhide Hdl, unhide Hple, unhide Hnm]
        have hfin := (unhide HFS3).addFin (V := w5) (V3 := w6) (Vf.ndOf s.e up) ⟨A5, s.n, c5⟩ hlo3 (unhide hbn) (own_base (unhide Ho5) hlo3) A6 c6 (by rw [hre, unhide Hfl]; exact unhide Ho6) (by rw [unhide Hfl]; exact unhide hgr)
        rw [unhide Hfl] at hfin
        have hg2 := Vf.add_good (unhide HF) (e := s.e) (by rw [unhide Hadd])
        rw [unhide Hadd] at hg2
        have hst := unhide Hstep
        rw [unhide Hadd, if_neg (by simp)] at hst
        have Hst := hide ((unhide Hadds).trans hst)
        have Hg2 := hide hg2
        have Hfin := hide hfin
        clear hre hfin hg2 hst v1 v2 v3 v4 v5 v6 v7 v8
        go_wp2_with fail
        go_roundg (n - (k + 1))
        case rel => exact ⟨k + 1, _, _, A6, c6, rfl, by omega, by go_num, unhide Hst, unhide Hg2, by rw [List.length_append, unhide HFl]; rfl, (unhide Hfin).1, (unhide HBw3).trans ((unhide Hfin).2)⟩
        case measure => rw [unhide Hgk]; omega
      case way30 =>
        rw [if_pos (by rfl)]
        go_simp
        refine hK.out _ _ (by (first | exact (unhide HSC') _ (below_drew' (Below.refl _ _)) | exact (unhide HSG') _ _ (unhide hbn) (unhide hgr) | exact (unhide HSC') _ (unhide hbn) | exact (unhide HSC') _ ((unhide hbn).alloc (unhide hbn).size _) | exact (unhide HSS') _ _ ((unhide HSG') _ _ (unhide hbn) (unhide hgr)))) (fun hHeld => ?_)
        clear hK K HS0
        have HS0 := hHeld
        clear hHeld
        try simp only [Act.put, List.setIfInBounds_toArray, List.set_cons_zero, List.set_cons_succ]
        refine wpAnyH_ready (rs := [4]) (by kernel_rfl) (by simp) ?_
        refine AllReadyH.cons (i := 4) rfl (fun K hK => ?_) AllReadyH.nil
        rw [if_pos (by rfl)]
        go_simp
        refine hK.out _ _ (by (first | exact (unhide HSC') _ (below_drew' (Below.refl _ _)) | exact (unhide HSG') _ _ (unhide hbn) (unhide hgr) | exact (unhide HSC') _ (unhide hbn) | exact (unhide HSC') _ ((unhide hbn).alloc (unhide hbn).size _) | exact (unhide HSS') _ _ ((unhide HSG') _ _ (unhide hbn) (unhide hgr)))) (fun hHeld => ?_)
        clear hK K HS0
        have HS0 := hHeld
        clear hHeld
        try simp only [Act.put, List.setIfInBounds_toArray, List.set_cons_zero, List.set_cons_succ]
        refine wpAnyH_ready (rs := [31]) (by kernel_rfl) (by simp) ?_
        refine AllReadyH.cons (i := 31) rfl (fun K hK => ?_) AllReadyH.nil
        rw [if_pos (by rfl)]
        refine wp_app1g rnodeTy _ _ rfl w.heap.size (.slice (some ⟨b2, o2, none⟩) flen c') flen _ rfl ((unhide Hrow3) _ (unhide hbn)) #[.int .u8 (s.e.kind : Nat), .int .u16 (s.e.mode : Nat), .int .u32 (s.e.uid : Nat), .int .u32 (s.e.gid : Nat), .int .i64 (s.n : Nat), .int .i64 (up : Nat), .string nm, .slice A5 s.n c5, .string s.e.to] _ rfl (by simp) rfl (by simp [Value.oneCell']) (by omega) (Nat.le_trans hlo3 (unhide hbn).size) ?_; intro A6 c6 w6 ho6 hg6; have hgr := hide hg6; obtain ⟨t6, f6⟩ := (unhide HF3') _ _ (unhide hbn) hg6; have Ho6 := hide ho6; clear ho6 hg6
        refine hK.out _ _ (by (first | exact (unhide HSC') _ (below_drew' (Below.refl _ _)) | exact (unhide HSG') _ _ (unhide hbn) (unhide hgr) | exact (unhide HSC') _ (unhide hbn) | exact (unhide HSC') _ ((unhide hbn).alloc (unhide hbn).size _) | exact (unhide HSS') _ _ ((unhide HSG') _ _ (unhide hbn) (unhide hgr)))) (fun hHeld => ?_)
        clear hK K HS0
        have HS0 := hHeld
        clear hHeld
        try simp only [Act.put, List.setIfInBounds_toArray, List.set_cons_zero, List.set_cons_succ]
        refine takeQ (i := 32) (d := some 110) (v := ?_) rfl rfl (by kernel_rfl) (by kernel_rfl) (by kernel_rfl) (fun _ _ _ h => h) (Or.inl ⟨by rfl, ?y32⟩) HS0 ?_
        case y32 => (intro w' hSw; (try dsimp only at hSw); go_simp; (try with_reducible rfl))
        try simp only [Act.put, List.setIfInBounds_toArray, List.set_cons_zero, List.set_cons_succ]
        refine takeQ (i := 33) (d := some 111) (v := ?_) rfl rfl (by kernel_rfl) (by kernel_rfl) (by kernel_rfl) (fun _ _ _ h => h) (Or.inl ⟨by rfl, ?y33⟩) HS0 ?_
        case y33 => (intro w' hSw; (try dsimp only at hSw); go_simp; (try with_reducible rfl))
        try simp only [Act.put, List.setIfInBounds_toArray, List.set_cons_zero, List.set_cons_succ]
        refine wpAnyH_ready (rs := [34]) (by kernel_rfl) (by simp) ?_
        refine AllReadyH.cons (i := 34) rfl (fun K hK => ?_) AllReadyH.nil
        rw [if_pos (by rfl)]
        go_simp
        refine hK.out _ _ (by (first | exact (unhide HSC') _ (below_drew' (Below.refl _ _)) | exact (unhide HSG') _ _ (unhide hbn) (unhide hgr) | exact (unhide HSC') _ (unhide hbn) | exact (unhide HSC') _ ((unhide hbn).alloc (unhide hbn).size _) | exact (unhide HSS') _ _ ((unhide HSG') _ _ (unhide hbn) (unhide hgr)))) (fun hHeld => ?_)
        clear hK K HS0
        have HS0 := hHeld
        clear hHeld
        try simp only [Act.put, List.setIfInBounds_toArray, List.set_cons_zero, List.set_cons_succ]
        refine wpAnyH_done (by kernel_rfl) ?_ _
        refine NoPanic.normal ?_
        have hre : rndV (Vf.ndOf s.e up, ⟨A5, s.n, c5⟩) = [.int .u8 (s.e.kind : Nat), .int .u16 (s.e.mode : Nat), .int .u32 (s.e.uid : Nat), .int .u32 (s.e.gid : Nat), .int .i64 (s.n : Nat), .int .i64 (up : Nat), .string nm, .slice A5 s.n c5, .string s.e.to] := by
          unfold rndV
          simp only [Vf.ndOf, unhide Hdl, unhide Hple, unhide Hnm]
        have hfin := (unhide HFS3).addFin (V := w5) (V3 := w6) (Vf.ndOf s.e up) ⟨A5, s.n, c5⟩ hlo3 (unhide hbn) (own_base (unhide Ho5) hlo3) A6 c6 (by rw [hre, unhide Hfl]; exact unhide Ho6) (by rw [unhide Hfl]; exact unhide hgr)
        rw [unhide Hfl] at hfin
        have hg2 := Vf.add_good (unhide HF) (e := s.e) (by rw [unhide Hadd])
        rw [unhide Hadd] at hg2
        have hst := unhide Hstep
        rw [unhide Hadd, if_neg (by simp)] at hst
        have Hst := hide ((unhide Hadds).trans hst)
        have Hg2 := hide hg2
        have Hfin := hide hfin
        clear hre hfin hg2 hst v1 v2 v3 v4 v5 v6 v7 v8
        go_wp2_with fail
        go_roundg (n - (k + 1))
        case rel => exact ⟨k + 1, _, _, A6, c6, rfl, by omega, by go_num, unhide Hst, unhide Hg2, by rw [List.length_append, unhide HFl]; rfl, (unhide Hfin).1, (unhide HBw3).trans ((unhide Hfin).2)⟩
        case measure => rw [unhide Hgk]; omega
end Go.Proofs.YtchmdpkjipaafaaDoor
