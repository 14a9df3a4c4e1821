/- The walks of Hash, links and Look for names of any size. Conditions: as each says. What follows of a table that is right; the walk of the law DynamicFinds. Conditions: as each says. The statement DynamicFinds: whatever the input, the law returns true, and what was there reads as it did. No conditions. -/
import Derived.Test.YtdminnhfgdoibaaDyB4
import Derived.Test.YtdminnhfgdoibaaRows
import Derived.ProofKit
import Derived.OpenShut
import Derived.ShutString
import Derived.ChangeOld
import Derived.Below
import Derived.SliceStrings
import Derived.Lib.SmallJoins
namespace Go.Proofs.Ytdminnhfgdoibaa
set_option linter.unusedVariables false
set_option linter.unusedSimpArgs false
open Go.RowKit

set_option maxRecDepth 100000 in
set_option maxHeartbeats 1000000 in
theorem hashM_any (s : ByteArray) (w : World) (hs : s.size ≤ maxLen) :
    Calls Try.prog 12 #[.string s] w fun e w' => e = .returned (.int .u32 (Dy.hash s.data.toList : Nat)) ∧ Below w.heap.size w w' := by
  have hcv := run_bytes_of_string (P := Try.prog) w 9 22 5 s Try.underlying9 Try.underlying22 Try.underlying5
  have hm := OwnM.conv w s hs
  have hb1 : Below w.heap.size w (w.drew.alloc (.cells (bytesRow s (grownCap w s.size 0 5)) 5 ((bytesRow s (grownCap w s.size 0 5)).size, (bytesRow s (grownCap w s.size 0 5)).size + 1))) := (below_drew' (Below.refl _ _)).alloc (Nat.le_refl _) _
  generalize (w.drew.alloc (.cells (bytesRow s (grownCap w s.size 0 5)) 5 ((bytesRow s (grownCap w s.size 0 5)).size, (bytesRow s (grownCap w s.size 0 5)).size + 1))) = w1 at *
  generalize grownCap w s.size 0 5 = cc at *
  obtain ⟨n, hn⟩ : ∃ n, s.size = n := ⟨_, rfl⟩
  rw [hn] at hcv hm
  have hr := hm.rd
  have hlen : s.data.toList.length = n := hn
  have Hr := hide hr
  have Hb1 := hide hb1
  have Hlen := hide hlen
  have Hn := hide hn
  have hs2 : n ≤ 9223372036854775807 := by unfold maxLen at hs; omega
  clear hm hr hb1 hlen hn
  go_enter Try.func12, Try.ntmps12
  go_wp2_with fail
  go_loopg [3, 10] n (fun gk hv iv wr => ∃ k : Nat, gk = n - k ∧ k ≤ n ∧ iv = .int .i64 k ∧ hv = .int .u32 (Dy.hash (s.data.toList.take k) : Nat) ∧ w1 = wr)
  case atStart => exact ⟨0, by omega, Nat.zero_le _, rfl, rfl, rfl⟩
  case round =>
  obtain ⟨k, hgk, hk, rfl, rfl, rfl⟩ := hrel
  have Hgk := hide hgk
  clear hgk
  by_cases hlt : k < n
  case neg =>
    obtain rfl : k = n := by omega
    have htk : s.data.toList.take k = s.data.toList := List.take_of_length_le (by rw [unhide Hlen]; exact Nat.le_refl _)
    rw [htk]
    clear htk
    have ige : ¬ (k : Int) < (k : Int) := by omega
    go_wp2_with fail
    go_ret
    exact ⟨rfl, unhide Hb1⟩
  obtain ⟨x, hx⟩ : ∃ x, s.data.toList[k]? = some x := ⟨_, List.getElem?_eq_getElem (by rw [unhide Hlen]; exact hlt)⟩
  obtain ⟨b2, o2, hA, _, c2⟩ := (unhide Hr).at_ (k := k) (u := .int .u8 x.toNat) (bys_at hx)
  obtain ⟨rfl, rfl⟩ : w.heap.size = b2 ∧ 0 = o2 := by simpa using hA
  have hst : Dy.hash (s.data.toList.take (k + 1)) = Dy.hashStep (Dy.hash (s.data.toList.take k)) x := by rw [List.take_add_one, hx, ← Dy.hash_snoc]; rfl
  have hh := Dy.hash_lt (s.data.toList.take k)
  obtain ⟨h, hh0⟩ : ∃ h, Dy.hash (s.data.toList.take k) = h := ⟨_, rfl⟩
  rw [hh0] at hst hh ⊢
  rw [Dy.hashStep_eq] at hst
  obtain ⟨y, hy⟩ : ∃ y, (h * 16 + x.toNat) % 4294967296 = y := ⟨_, rfl⟩
  rw [hy] at hst
  have hy32 : y < 4294967296 := by omega
  have hx8 := x.toNat_lt
  have Hst := hide hst
  have Hy := hide hy
  rw [Nat.zero_add] at c2
  clear hst hh0 hx hA hy
  go_wp2_with fail
  go_roundg (n - (k + 1))
  case measure => have := unhide Hgk; omega
  case rel => exact ⟨k + 1, rfl, by omega, by go_num, by rw [unhide Hst, ← unhide Hy]; exact congrArg (Value.int .u32) (Dy.hash_val h x.toNat), rfl⟩
set_option maxRecDepth 100000 in
set_option maxHeartbeats 4000000 in
theorem linksM_any (B : Nat) (b : List UInt8) (N : Dy.Names) (Ah : Option Addr) (nh ch : Nat) (A4 : Option Addr) (c4 : Nat) (name : ByteArray) (w : World) (hB : B ≤ w.heap.size) (h : NmM w B b N Ah nh ch A4 c4) (hname : name.size ≤ maxLen) :
    Calls Try.prog 22 #[.agg #[.int .u64 (N.buckets : Nat), .int .u64 (N.chain : Nat), .slice Ah nh ch, .slice A4 (24 * N.chain) c4], .string name] w (LinksE (Dy.links b N name.data.toList) w) := by
  obtain ⟨hfb, hfc⟩ := h.fit
  have KN := fun (hb0 : 0 < N.buckets) (q : Nat) (hq : q + 4 ≤ 8 + 4 * N.buckets + 4 * N.chain) (w' : World) (hb : Below w.heap.size w w') => number_any Ah nh ch B (Dy.cut b N.hash nh) q 4 w' (Nat.le_trans hB hb.size) (((h.h hb0).2).below (hb.mono hB)) (by have := (h.h hb0).1; unfold maxLen; omega) (by omega) (by have := (h.h hb0).1; omega)
  have hcn := fun (hb0 : 0 < N.buckets) (q : Nat) (hq : q + 4 ≤ 8 + 4 * N.buckets + 4 * N.chain) => cut_num (b := b) (p := N.hash) (n := nh) (q := q) (s := 4) (by have := (h.h hb0).1; omega)
  have KK : ∀ (hb0 : 0 < N.buckets) (q : Nat) (hq : q + 4 ≤ 8 + 4 * N.buckets + 4 * N.chain) (w' : World) (hb : Below w.heap.size w w'), Calls Try.prog 36 #[.slice Ah nh ch, .int .u64 (q : Nat), .int .i64 4] w' (fun e w2 => e = .returned (.int .u64 (Wd.num b (N.hash + q) 4 : Nat)) ∧ Below w'.heap.size w' w2) := by
    intro hb0 q hq w' hb
    rw [← hcn hb0 q hq]
    exact KN hb0 q hq w' hb
  have hlk : Dy.links b N name.data.toList = if N.buckets = 0 then ([], true) else Dy.linksFrom b N N.chain (Wd.num b (N.hash + (8 + 4 * (Dy.hash name.data.toList % N.buckets))) 4) := by
    unfold Dy.links
    rw [← Nat.add_assoc]
  obtain ⟨R, hR⟩ : ∃ R, Dy.links b N name.data.toList = R := ⟨_, rfl⟩
  rw [hR] at hlk ⊢
  have hzero := fun k => Dy.links_zero (b := b) (n := N) k
  have hout := fun (i : Nat) (h1 : ¬ i = 0) (h2 : N.chain ≤ i) (k : Nat) => Dy.links_out (b := b) (n := N) h1 h2 k
  have hon := fun (i k : Nat) (h1 : ¬ i = 0) (h2 : ¬ N.chain ≤ i) => Dy.links_on (b := b) (n := N) (k := k) h1 h2
  have hend := fun (i : Nat) (h1 : ¬ i = 0) => show Dy.linksFrom b N 0 i = ([], false) by rw [Dy.linksFrom, decide_eq_false h1]
  simp only [Nat.add_assoc] at hon
  obtain ⟨F, hF⟩ : ∃ F, Dy.linksFrom b N = F := ⟨_, rfl⟩
  rw [hF] at hlk hzero hout hon hend
  obtain ⟨bk, chn, ho, so⟩ := N
  dsimp only at *
  obtain ⟨sl, hsl⟩ : ∃ x, 24 * chn = x := ⟨_, rfl⟩
  rw [hsl]
  obtain ⟨hv, hhv⟩ : ∃ x, Dy.hash name.data.toList = x := ⟨_, rfl⟩
  have KH := fun w' => hashM_any name w' hname
  rw [hhv] at hlk KH
  have hhl : hv < 4294967296 := by rw [← hhv]; have := Dy.hash_lt name.data.toList; omega
  have HKK := hide KK
  have HKH := hide KH
  have Hlk := hide hlk
  have Hzero := hide hzero
  have Hout := hide hout
  have Hon := hide hon
  have Hend := hide hend
  have HB0 : Hid (Below w.heap.size w (w.alloc (.cells #[.int .u64 (bk : Nat), .int .u64 (chn : Nat), .slice Ah nh ch, .slice A4 sl c4] 57))) := hide ((Below.refl _ _).alloc (Nat.le_refl _) _)
  have HK0 : Hid (Blk (w.alloc (.cells #[.int .u64 (bk : Nat), .int .u64 (chn : Nat), .slice Ah nh ch, .slice A4 sl c4] 57)) w.heap.size 57 [.int .u64 (bk : Nat), .int .u64 (chn : Nat), .slice Ah nh ch, .slice A4 sl c4]) := hide (Blk.new w 57 [.int .u64 (bk : Nat), .int .u64 (chn : Nat), .slice Ah nh ch, .slice A4 sl c4])
  have HC : Hid (∀ W : World, Blk W w.heap.size 57 [.int .u64 (bk : Nat), .int .u64 (chn : Nat), .slice Ah nh ch, .slice A4 sl c4] → W.cell? ⟨w.heap.size, 0, none⟩ = some (.int .u64 (bk : Nat)) ∧ W.cell? ⟨w.heap.size, 1, none⟩ = some (.int .u64 (chn : Nat)) ∧ W.cell? ⟨w.heap.size, 2, none⟩ = some (.slice Ah nh ch)) := hide (fun W h => ⟨h.cell (i := 0) rfl, h.cell (i := 1) rfl, h.cell (i := 2) rfl⟩)
  obtain ⟨x0, x1, x2⟩ := (unhide HC) _ (unhide HK0)
  clear h KN hcn KK hlk hzero hout hon hend hF hsl hhv KH hR
  by_cases hbk : bk = 0
  case pos =>
    have hr := unhide Hlk
    rw [if_pos hbk] at hr
    have HR := hide hr
    have hbI : (bk : Int) = 0 := by omega
    clear hr Hlk HKK HKH Hzero Hout Hon Hend HC
    go_enter Try.func22, Try.ntmps22
    go_wp2_with fail
    go_ret2
    refine linksE_mk (l := []) (unhide HR) (World.ownsRow_nil _ _ _ _) ?_
    exact (Below.refl _ _).alloc (Nat.le_refl _) _
  have hr := unhide Hlk
  rw [if_neg hbk] at hr
  have hbI : ¬ (bk : Int) = 0 := by omega
  have hbp : 0 < bk := by omega
  obtain ⟨v, hv2⟩ : ∃ x, hv % bk = x := ⟨_, rfl⟩
  have hvl : v < bk := by rw [← hv2]; exact Nat.mod_lt _ hbp
  rw [hv2] at hr
  have m1 : (hv : Int) % (bk : Int) = (v : Int) := by rw [← hv2]; simp
  have m2 : (hv : Int).tmod (bk : Int) = (v : Int) := by rw [← hv2]; exact Int.ofNat_tmod _ _ |>.symm ▸ rfl
  have wh : IntKind.u64.wrap (hv : Int) = (hv : Int) := by rw [IntKind.wrap_u64]; omega
  have w4 : IntKind.u64.wrap (4 * (v : Int)) = 4 * (v : Int) := by rw [IntKind.wrap_u64]; omega
  have w8 : IntKind.u64.wrap (8 + 4 * (v : Int)) = 8 + 4 * (v : Int) := by rw [IntKind.wrap_u64]; omega
  have k0 := fun w' hb => (unhide HKK) hbp (8 + 4 * v) (by omega) w' hb
  have hcI : ((8 + 4 * v : Nat) : Int) = 8 + 4 * (v : Int) := by omega
  rw [hcI] at k0
  obtain ⟨i0, hi0⟩ : ∃ x, Wd.num b (ho + (8 + 4 * v)) 4 = x := ⟨_, rfl⟩
  rw [hi0] at k0 hr
  have hi0l : i0 < 4294967296 := by rw [← hi0]; have := Wd.num_lt b (ho + (8 + 4 * v)) 4; simpa using this
  have K0 := hide k0
  have HR := hide hr
  clear hr k0 hcI hi0 hv2 Hlk
  go_enter Try.func22, Try.ntmps22
  go_wp2_with fail
  refine wp_region_noPanic ?_
  refine wp_region_held_drew (S := fun w' => w'.cell? ⟨w.heap.size, 0, none⟩ = some (.int .u64 (bk : Nat)) ∧ w'.cell? ⟨w.heap.size, 1, none⟩ = some (.int .u64 (chn : Nat)) ∧ w'.cell? ⟨w.heap.size, 2, none⟩ = some (.slice Ah nh ch)) (by kernel_rfl) ((unhide HC) _ (unhide HK0).drew) (fun HS0 => ?_)
  refine takeD (i := 0) (d := some 10) (v := ?_) rfl rfl (by kernel_rfl) (by kernel_rfl) (by kernel_rfl) (fun _ _ _ h => h) (Or.inl ⟨by rfl, ?y0⟩) HS0 ?_
  case y0 => (intro w' hSw; (try dsimp only at hSw); go_simp; (try with_reducible rfl))
  simp only [Act.put, List.setIfInBounds_toArray, List.set_cons_zero, List.set_cons_succ]
  refine takeD (i := 1) (d := some 11) (v := ?_) rfl rfl (by kernel_rfl) (by kernel_rfl) (by kernel_rfl) (fun _ _ _ h => h) (Or.inl ⟨by rfl, ?y1⟩) HS0 ?_
  case y1 => (intro w' hSw; (try dsimp only at hSw); go_simp; (try with_reducible rfl))
  simp only [Act.put, List.setIfInBounds_toArray, List.set_cons_zero, List.set_cons_succ]
  refine takeD (i := 2) (d := some 12) (v := ?_) rfl rfl (by kernel_rfl) (by kernel_rfl) (by kernel_rfl) (fun _ _ _ h => h) (Or.inl ⟨by rfl, ?y2⟩) HS0 ?_
  case y2 => (intro w' hSw; (try dsimp only at hSw); go_simp; (try with_reducible rfl))
  simp only [Act.put, List.setIfInBounds_toArray, List.set_cons_zero, List.set_cons_succ]
  refine takeD (i := 5) (d := some 15) (v := ?_) rfl rfl (by kernel_rfl) (by kernel_rfl) (by kernel_rfl) (fun _ _ _ h => h) (Or.inl ⟨by rfl, ?y5⟩) HS0 ?_
  case y5 => (intro w' hSw; (try dsimp only at hSw); go_simp; (try with_reducible rfl))
  simp only [Act.put, List.setIfInBounds_toArray, List.set_cons_zero, List.set_cons_succ]
  refine takeD (i := 6) (d := some 16) (v := ?_) rfl rfl (by kernel_rfl) (by kernel_rfl) (by kernel_rfl) (fun _ _ _ h => h) (Or.inl ⟨by rfl, ?y6⟩) HS0 ?_
  case y6 => (intro w' hSw; (try dsimp only at hSw); go_simp; (try with_reducible rfl))
  simp only [Act.put, List.setIfInBounds_toArray, List.set_cons_zero, List.set_cons_succ]
  refine wpAnyH_ready (rs := [3]) (by kernel_rfl) (by simp) ?_
  refine AllReadyH.cons (i := 3) rfl (fun K hK => ?_) AllReadyH.nil
  rw [if_pos (by rfl)]
  go_simp
  go_at_call 12
  with_reducible refine ((unhide HKH) _).mono ?_
  rintro e w1 ⟨rfl, hb1⟩
  have HB1 := hide ((below_drew' (unhide HB0)).trans (hb1.mono (below_drew' (unhide HB0)).size))
  have HK1 := hide ((unhide HK0).drew.belowSz hb1)
  clear hb1
  refine hK.out _ _ ((unhide HC) _ (unhide HK1)) (fun hHeld => ?_)
  clear hK K HS0
  have HS0 := hHeld
  clear hHeld
  (try simp only [Act.put, List.setIfInBounds_toArray, List.set_cons_zero, List.set_cons_succ])
  refine takeD (i := 4) (d := some 14) (v := ?_) rfl rfl (by kernel_rfl) (by kernel_rfl) (by kernel_rfl) (fun _ _ _ h => h) (Or.inl ⟨by rfl, ?y4⟩) HS0 ?_
  case y4 => (intro w' hSw; (try dsimp only at hSw); go_simp; (try with_reducible rfl))
  simp only [Act.put, List.setIfInBounds_toArray, List.set_cons_zero, List.set_cons_succ]
  refine takeD (i := 7) (d := some 17) (v := ?_) rfl rfl (by kernel_rfl) (by kernel_rfl) (by kernel_rfl) (fun _ _ _ h => h) (Or.inl ⟨by rfl, ?y7⟩) HS0 ?_
  case y7 => (intro w' hSw; (try dsimp only at hSw); go_simp; (try with_reducible rfl))
  simp only [Act.put, List.setIfInBounds_toArray, List.set_cons_zero, List.set_cons_succ]
  refine takeD (i := 8) (d := some 18) (v := ?_) rfl rfl (by kernel_rfl) (by kernel_rfl) (by kernel_rfl) (fun _ _ _ h => h) (Or.inl ⟨by rfl, ?y8⟩) HS0 ?_
  case y8 => (intro w' hSw; (try dsimp only at hSw); go_simp; (try with_reducible rfl))
  simp only [Act.put, List.setIfInBounds_toArray, List.set_cons_zero, List.set_cons_succ]
  refine takeD (i := 9) (d := some 19) (v := ?_) rfl rfl (by kernel_rfl) (by kernel_rfl) (by kernel_rfl) (fun _ _ _ h => h) (Or.inl ⟨by rfl, ?y9⟩) HS0 ?_
  case y9 => (intro w' hSw; (try dsimp only at hSw); go_simp; (try with_reducible rfl))
  simp only [Act.put, List.setIfInBounds_toArray, List.set_cons_zero, List.set_cons_succ]
  refine wpAnyH_ready (rs := [10]) (by kernel_rfl) (by simp) ?_
  refine AllReadyH.cons (i := 10) rfl (fun K hK => ?_) AllReadyH.nil
  rw [if_pos (by rfl)]
  go_simp
  go_at_call 36
  with_reducible refine ((unhide K0) _ (unhide HB1)).mono ?_
  rintro e w2 ⟨rfl, hb2⟩
  have HB2 := hide ((unhide HB1).trans (hb2.mono (unhide HB1).size))
  have HK2 := hide ((unhide HK1).belowSz hb2)
  clear hb2
  refine hK.out _ _ ((unhide HC) _ (unhide HK2)) (fun hHeld => ?_)
  clear hK K HS0
  have HS0 := hHeld
  clear hHeld
  (try simp only [Act.put, List.setIfInBounds_toArray, List.set_cons_zero, List.set_cons_succ])
  refine takeD (i := 11) (d := some 6) (v := ?_) rfl rfl (by kernel_rfl) (by kernel_rfl) (by kernel_rfl) (fun _ _ _ h => h) (Or.inl ⟨by rfl, ?y11⟩) HS0 ?_
  case y11 => (intro w' hSw; (try dsimp only at hSw); go_simp; (try with_reducible rfl))
  simp only [Act.put, List.setIfInBounds_toArray, List.set_cons_zero, List.set_cons_succ]
  refine wpAnyH_done (by kernel_rfl) ?_ _
  refine NoPanic.normal ?_
  clear HS0 m1 m2 wh w4 w8 K0 HKH HB1 HK1 HB0 HK0 x0 x1 x2
  go_wp2_with fail
  go_loopg [4, 6] chn (fun gk lv iv wr => ∃ (l : List Nat) (i : Nat) (A : Option Addr) (c : Nat), gk = chn - l.length ∧ l.length ≤ chn ∧ lv = .slice A l.length c ∧ iv = .int .u64 (i : Nat) ∧ i < 4294967296 ∧ wr.ownsRow (w.heap.size + 1) 24 1 (.slice A l.length c) l.length (lkV l) ∧ Below w.heap.size w wr ∧ Blk wr w.heap.size 57 [.int .u64 (bk : Nat), .int .u64 (chn : Nat), .slice Ah nh ch, .slice A4 sl c4] ∧ R = (l ++ (F (chn - l.length) i).1, (F (chn - l.length) i).2))
  case atStart => exact ⟨[], i0, none, 0, rfl, Nat.zero_le _, rfl, rfl, hi0l, World.ownsRow_nil _ _ _ _, unhide HB2, unhide HK2, unhide HR⟩
  case round =>
  obtain ⟨l, i, A, c, hgk, hll, rfl, rfl, hil, hown, hb, hk, hR⟩ := hrel
  obtain ⟨x0, x1, x2⟩ := (unhide HC) _ hk
  have Hown := hide hown
  have HB := hide hb
  have HK := hide hk
  have HR2 := hide hR
  clear hown hb hk hR HR HB2 HK2
  by_cases hi : i = 0
  case pos =>
    have HE : Hid (R = (l, true)) := hide (by have := unhide HR2; rw [hi, (unhide Hzero)] at this; simpa using this)
    have hiI : (i : Int) = 0 := by omega
    clear HR2 Hzero Hout Hon Hend HKK HC hi
    go_wp2_with fail
    go_ret2
    exact linksE_mk (unhide HE) (own_base (unhide Hown) (Nat.le_succ _)) (unhide HB)
  have hiI : ¬ (i : Int) = 0 := by omega
  by_cases hic : chn ≤ i
  case pos =>
    have HE : Hid (R = (l, false)) := hide (by have := unhide HR2; rw [(unhide Hout) i hi hic] at this; simpa using this)
    have hcI : (chn : Int) ≤ (i : Int) := by omega
    clear HR2 Hzero Hout Hon Hend HKK HC hi hic
    go_wp2_with fail
    go_ret2
    exact linksE_mk (unhide HE) (own_base (unhide Hown) (Nat.le_succ _)) (unhide HB)
  have hcI : ¬ (chn : Int) ≤ (i : Int) := by omega
  obtain ⟨m, hm⟩ : ∃ m, l.length = m := ⟨_, rfl⟩
  have Hm := hide hm
  rw [hm] at hll hgk ⊢
  have hO := unhide Hown
  rw [hm] at hO
  have Hown2 := hide hO
  clear hm hO
  by_cases hlc : chn ≤ m
  case pos =>
    have HE : Hid (R = (l, false)) := hide (by have := unhide HR2; rw [unhide Hm, show chn - m = 0 from by omega, (unhide Hend) i hi] at this; simpa using this)
    have hlI : (chn : Int) ≤ (m : Int) := by omega
    clear HR2 Hzero Hout Hon Hend HKK HC hi hic hlc Hown2
    go_wp2_with fail
    go_ret2
    have := linksE_mk (unhide HE) (own_base (unhide Hown) (Nat.le_succ _)) (unhide HB)
    rw [unhide Hm] at this
    exact this
  have hlI : ¬ (chn : Int) ≤ (m : Int) := by omega
  have hr := unhide HR2
  rw [unhide Hm, show chn - m = (chn - (m + 1)) + 1 from by omega, (unhide Hon) i _ hi hic] at hr
  obtain ⟨i2, hi2⟩ : ∃ x, Wd.num b (ho + (8 + (4 * bk + 4 * i))) 4 = x := ⟨_, rfl⟩
  rw [hi2] at hr
  have hi2l : i2 < 4294967296 := by rw [← hi2]; have := Wd.num_lt b (ho + (8 + (4 * bk + 4 * i))) 4; simpa using this
  have k2 := fun w' hb => (unhide HKK) hbp (8 + (4 * bk + 4 * i)) (by omega) w' hb
  have hcI2 : ((8 + (4 * bk + 4 * i) : Nat) : Int) = 8 + 4 * (bk : Int) + 4 * (i : Int) := by omega
  rw [hcI2, hi2] at k2
  have K2 := hide k2
  have HR3 : Hid (R = ((l ++ [i]) ++ (F (chn - (m + 1)) i2).1, (F (chn - (m + 1)) i2).2)) := hide (by rw [hr]; simp)
  clear hr k2 hcI2 hi2 HR2 Hzero Hout Hon Hend HKK hi hic
  have HB3 : Hid (Below w.heap.size w (wr.alloc (.cells #[.int .u64 (i : Nat)] 24))) := hide ((unhide HB).alloc (unhide HB).size _)
  go_wp2_with (at_builtin; refine wpList_app1g lkTy rfl _ _ rfl (w.heap.size + 1) (.slice A m c) m (lkV l) rfl (unhide Hown2) #[.int .u64 (i : Nat)] _ rfl (by simp) rfl (by intro u hu; simp at hu; subst hu; rfl) (by omega) (unhide HK).lt ?_; intro A3 c3 w3 hown' hgrow hat; have HB4 := hide ((unhide HB).grown hgrow (unhide HB).size (fun k hk => Nat.le_of_succ_le ((unhide Hown2).lt k hk).1)); have HO4 := hide hown'; have HK4 : Hid (Blk w3 w.heap.size 57 [.int .u64 (bk : Nat), .int .u64 (chn : Nat), .slice Ah nh ch, .slice A4 sl c4]) := hide ((hgrow.block _ (unhide HK).lt (fun e => by have := ((unhide Hown2).lt _ e.symm).1; omega)).trans (unhide HK)); obtain ⟨x0', x1', x2'⟩ := (unhide HC) _ (unhide HK4); clear hgrow hat hown' HB3 Hown2)
  refine ((unhide K2) _ (unhide HB4)).mono ?_
  rintro e w4 ⟨rfl, hb4⟩
  have HB5 := hide ((unhide HB4).trans (hb4.mono (unhide HB4).size))
  have HK5 := hide ((unhide HK4).belowSz hb4)
  have HO5 := hide (own_below (unhide HO4) hb4)
  clear hb4 HB4 HK4 HO4 K2 x0' x1' x2'
  go_wp2_with fail
  go_roundg (chn - (m + 1))
  case measure => omega
  case rel =>
    have e1 : (l ++ [i]).length = m + 1 := by rw [List.length_append, unhide Hm]; rfl
    have e2 : lkV (l ++ [i]) = lkV l ++ [.int .u64 (i : Nat)] := by simp [lkV]
    exact ⟨l ++ [i], i2, A3, c3, by rw [e1], by rw [e1]; omega, by rw [e1], rfl, hi2l, by rw [e1, e2]; exact unhide HO5, unhide HB5, unhide HK5, by rw [e1]; exact unhide HR3⟩
set_option maxRecDepth 100000 in
set_option maxHeartbeats 8000000 in
theorem lookM_any (A : Option Addr) (n c B : Nat) (b : List UInt8) (ty en ph : Int) (As : Option Addr) (ns cs : Nat) (segs : List El.Sg) (name : ByteArray) (w : World) (hB : B ≤ w.heap.size) (hb : Rd w B 1 A n (bys b)) (hs : Rd w B 6 As ns (segCells segs)) (hn : n ≤ 4294967296) (hns : ns ≤ 4294967296) (hc : n ≤ c) (hfit : ∀ s ∈ segs, SgFit s) (hname : name.size ≤ maxLen) :
    Calls Try.prog 10 #[.slice A n c, .agg #[.int .u16 ty, .int .u64 en, .int .u64 ph, .slice As ns cs], .string name] w fun e w' => e = .returned (.tuple #[.int .i64 ((Dy.look b segs name).1 : Nat), .bool (Dy.look b segs name).2]) ∧ Below w.heap.size w w' := by
  have hB0 : Below w.heap.size w (w.alloc (.cells #[.int .u16 ty, .int .u64 en, .int .u64 ph, .slice As ns cs] 27)) := (Below.refl _ _).alloc (Nat.le_refl _) _
  have hH0 := Blk.new w 27 [.int .u16 ty, .int .u64 en, .int .u64 ph, .slice As ns cs]
  have KB := hide (both_any A n c B b ty en ph As ns cs segs _ (Nat.le_trans hB hB0.size) (hb.below (hB0.mono hB)) (hs.below (hB0.mono hB)) hn hns hc hfit)
  have z0 := hH0.cell (i := 0) rfl
  have z1 := hH0.cell (i := 1) rfl
  have z2 := hH0.cell (i := 2) rfl
  have z3 := hH0.cell (i := 3) rfl
  have HB0 := hide hB0
  have hsz0 : (w.alloc (.cells #[.int .u16 ty, .int .u64 en, .int .u64 ph, .slice As ns cs] 27)).heap.size = w.heap.size + 1 := by simp
  have Hsz0 := hide hsz0
  obtain ⟨R, hR⟩ : ∃ R, Dy.look b segs name = R := ⟨_, rfl⟩
  rw [hR]
  have HR := hide hR
  clear hb hs hfit hB0 hH0 hsz0 hR
  go_enter Try.func10, Try.ntmps10
  go_wp2_with fail
  refine (unhide KB).mono ?_
  rintro e w1 ⟨hb1, A1, c1, A2, c2, A3, c3, N, Ah, nh, ch, A4, c4, q, rfl, hdy, hnm, hhas⟩
  have hlook := Dy.has_look hhas name
  have hsyms : q = true → (Dy.parse b segs).1.syms.length = N.chain - 1 := fun h => (Dy.has_syms (by rw [← h]; exact hhas)).1
  rw [unhide HR] at hlook
  obtain ⟨⟨D, px⟩, hP⟩ : ∃ x, Dy.parse b segs = x := ⟨_, rfl⟩
  rw [hP] at hdy hlook hsyms ⊢
  dsimp only at hdy hlook hsyms ⊢
  obtain ⟨m2, hm2⟩ : ∃ x, D.syms.length = x := ⟨_, rfl⟩
  obtain ⟨sl, hsl⟩ : ∃ x, 24 * N.chain = x := ⟨_, rfl⟩
  rw [hm2] at hsyms
  rw [hm2, hsl]
  have hfit := hnm.fit
  have hbt := (unhide HB0).trans (hb1.mono (unhide HB0).size)
  have hbs := hbt.size
  have hw1 : w.heap.size < w1.heap.size := by have := hb1.size; rw [unhide Hsz0] at this; exact this
  have e1 : (w1.alloc (.cells #[.slice none 0 0, .string ⟨#[]⟩, .string ⟨#[]⟩, .slice none 0 0, .slice none 0 0] 41)).heap.size = w1.heap.size + 1 := by simp
  have e2 : ((w1.alloc (.cells #[.slice none 0 0, .string ⟨#[]⟩, .string ⟨#[]⟩, .slice none 0 0, .slice none 0 0] 41)).alloc (.cells #[.int .u64 0, .int .u64 0, .slice none 0 0, .slice none 0 0] 57)).heap.size = w1.heap.size + 1 + 1 := by simp
  have bb : Below w1.heap.size w1 ((w1.alloc (.cells #[.slice none 0 0, .string ⟨#[]⟩, .string ⟨#[]⟩, .slice none 0 0, .slice none 0 0] 41)).alloc (.cells #[.int .u64 0, .int .u64 0, .slice none 0 0, .slice none 0 0] 57)) := ((Below.refl _ _).alloc (Nat.le_refl _) _).alloc (by rw [e1]; omega) _
  have HK1 : Hid (Blk ((w1.alloc (.cells #[.slice none 0 0, .string ⟨#[]⟩, .string ⟨#[]⟩, .slice none 0 0, .slice none 0 0] 41)).alloc (.cells #[.int .u64 0, .int .u64 0, .slice none 0 0, .slice none 0 0] 57)) w1.heap.size 41 [.slice none 0 0, .string ⟨#[]⟩, .string ⟨#[]⟩, .slice none 0 0, .slice none 0 0]) := hide ((Blk.new w1 41 [.slice none 0 0, .string ⟨#[]⟩, .string ⟨#[]⟩, .slice none 0 0, .slice none 0 0]).alloc _)
  have HN1 : Hid (Blk ((w1.alloc (.cells #[.slice none 0 0, .string ⟨#[]⟩, .string ⟨#[]⟩, .slice none 0 0, .slice none 0 0] 41)).alloc (.cells #[.int .u64 0, .int .u64 0, .slice none 0 0, .slice none 0 0] 57)) (w1.heap.size + 1) 57 [.int .u64 0, .int .u64 0, .slice none 0 0, .slice none 0 0]) := hide (by have := Blk.new (w1.alloc (.cells #[.slice none 0 0, .string ⟨#[]⟩, .string ⟨#[]⟩, .slice none 0 0, .slice none 0 0] 41)) 57 [.int .u64 0, .int .u64 0, .slice none 0 0, .slice none 0 0]; rw [e1] at this; exact this)
  have hdv : (#[.slice A1 D.needed.length c1, .string D.soname, .string D.run, .slice A2 m2 c2, .slice A3 D.relas.length c3] : Array Value).all (·.oneCell') = true := dyOne _ _ _ _ _ _ _ _ _ _ _
  have HS : Hid (∀ W, W = (((w1.alloc (.cells #[.slice none 0 0, .string ⟨#[]⟩, .string ⟨#[]⟩, .slice none 0 0, .slice none 0 0] 41)).alloc (.cells #[.int .u64 0, .int .u64 0, .slice none 0 0, .slice none 0 0] 57)).setRow w1.heap.size #[.slice A1 D.needed.length c1, .string D.soname, .string D.run, .slice A2 m2 c2, .slice A3 D.relas.length c3]).setRow (w1.heap.size + 1) #[.int .u64 (N.buckets : Nat), .int .u64 (N.chain : Nat), .slice Ah nh ch, .slice A4 sl c4] → Blk W w1.heap.size 41 [.slice A1 D.needed.length c1, .string D.soname, .string D.run, .slice A2 m2 c2, .slice A3 D.relas.length c3] ∧ Blk W (w1.heap.size + 1) 57 [.int .u64 (N.buckets : Nat), .int .u64 (N.chain : Nat), .slice Ah nh ch, .slice A4 sl c4] ∧ Below w.heap.size w W ∧ NmM W W.heap.size b N Ah nh ch A4 c4 ∧ W.ownsRow (w.heap.size + 1) 46 5 (.slice A2 m2 c2) m2 (symC D.syms)) := hide (by
    intro W hW
    subst hW
    have hbw : Below w1.heap.size w1 ((((w1.alloc (.cells #[.slice none 0 0, .string ⟨#[]⟩, .string ⟨#[]⟩, .slice none 0 0, .slice none 0 0] 41)).alloc (.cells #[.int .u64 0, .int .u64 0, .slice none 0 0, .slice none 0 0] 57)).setRow w1.heap.size #[.slice A1 D.needed.length c1, .string D.soname, .string D.run, .slice A2 m2 c2, .slice A3 D.relas.length c3]).setRow (w1.heap.size + 1) #[.int .u64 (N.buckets : Nat), .int .u64 (N.chain : Nat), .slice Ah nh ch, .slice A4 sl c4]) := below_setRow (below_setRow bb (Nat.le_refl _) _) (by omega) _
    refine ⟨(setRow_other _ _ _ _ (by omega)).trans (setRow_heap _ _ _ _ _ _ (unhide HK1)), setRow_heap _ _ _ _ _ _ ((setRow_other _ _ _ _ (by omega)).trans (unhide HN1)), hbt.trans (hbw.mono hbs), hnm.belowSz hbw, ?_⟩
    have := own_below hdy.syms hbw
    rw [unhide Hsz0, hm2] at this
    exact this)
  have HP := hide hP
  have Hm2 := hide hm2
  have Hlook := hide hlook
  have Hsyms := hide hsyms
  have Hsl := hide hsl
  clear hb1 hdy hnm hhas hP hm2 hlook hsyms hbt bb e1 e2 hsl HB0 KB z0 z1 z2 z3
  cases q
  · have HE : Hid (R = (0, false)) := hide (by rw [unhide Hlook]; rfl)
    clear Hlook Hsyms HP Hm2
    go_wp2_with (first
      | ((with_reducible refine (@id (wpList _ _ _ (Oper.mk none (Op.store 41 (.tmp 8) (.tmp 20)) _ _ _ none :: _) _ _) ?_)); refine wpList_store_row rfl 41 (.tmp 8) (.tmp 20) rfl w1.heap.size #[.slice A1 D.needed.length c1, .string D.soname, .string D.run, .slice A2 m2 c2, .slice A3 D.relas.length c3] rfl rfl 41 _ (unhide HK1) dyInfo rfl hdv ?_)
      | ((with_reducible refine (@id (wpList _ _ _ (Oper.mk none (Op.store 57 (.tmp 9) (.tmp 21)) _ _ _ none :: _) _ _) ?_)); refine wpList_store_row rfl 57 (.tmp 9) (.tmp 21) rfl (w1.heap.size + 1) #[.int .u64 (N.buckets : Nat), .int .u64 (N.chain : Nat), .slice Ah nh ch, .slice A4 sl c4] rfl rfl 57 _ ((setRow_other _ _ _ _ (by omega)).trans (unhide HN1)) nmInfo rfl (nmOne _ _ _ _ _ _ _ _) ?_; obtain ⟨W, hW⟩ : ∃ W, (((w1.alloc (.cells #[.slice none 0 0, .string ⟨#[]⟩, .string ⟨#[]⟩, .slice none 0 0, .slice none 0 0] 41)).alloc (.cells #[.int .u64 0, .int .u64 0, .slice none 0 0, .slice none 0 0] 57)).setRow w1.heap.size #[.slice A1 D.needed.length c1, .string D.soname, .string D.run, .slice A2 m2 c2, .slice A3 D.relas.length c3]).setRow (w1.heap.size + 1) #[.int .u64 (N.buckets : Nat), .int .u64 (N.chain : Nat), .slice Ah nh ch, .slice A4 sl c4] = W := ⟨_, rfl⟩; have hws := (unhide HS) W hW.symm; rw [hW]; have HWs := hide hws; clear hws hW)
      | ((with_reducible refine (@id (wpList _ _ _ (Oper.mk _ (Op.load 57 (.tmp 9)) _ _ _ none :: _) _ _) ?_)); refine wpList_load_row rfl 57 (.tmp 9) rfl (w1.heap.size + 1) rfl 57 #[.int .u64 (N.buckets : Nat), .int .u64 (N.chain : Nat), .slice Ah nh ch, .slice A4 sl c4] (0, 0) _ (unhide HWs).2.1 Try.underlying57 rfl nmInfo ?_))
    go_ret2
    rw [unhide HE]
    exact ⟨rfl, (unhide HWs).2.2.1⟩
  go_wp2_with (first
    | ((with_reducible refine (@id (wpList _ _ _ (Oper.mk none (Op.store 41 (.tmp 8) (.tmp 20)) _ _ _ none :: _) _ _) ?_)); refine wpList_store_row rfl 41 (.tmp 8) (.tmp 20) rfl w1.heap.size #[.slice A1 D.needed.length c1, .string D.soname, .string D.run, .slice A2 m2 c2, .slice A3 D.relas.length c3] rfl rfl 41 _ (unhide HK1) dyInfo rfl hdv ?_)
    | ((with_reducible refine (@id (wpList _ _ _ (Oper.mk none (Op.store 57 (.tmp 9) (.tmp 21)) _ _ _ none :: _) _ _) ?_)); refine wpList_store_row rfl 57 (.tmp 9) (.tmp 21) rfl (w1.heap.size + 1) #[.int .u64 (N.buckets : Nat), .int .u64 (N.chain : Nat), .slice Ah nh ch, .slice A4 sl c4] rfl rfl 57 _ ((setRow_other _ _ _ _ (by omega)).trans (unhide HN1)) nmInfo rfl (nmOne _ _ _ _ _ _ _ _) ?_; obtain ⟨W, hW⟩ : ∃ W, (((w1.alloc (.cells #[.slice none 0 0, .string ⟨#[]⟩, .string ⟨#[]⟩, .slice none 0 0, .slice none 0 0] 41)).alloc (.cells #[.int .u64 0, .int .u64 0, .slice none 0 0, .slice none 0 0] 57)).setRow w1.heap.size #[.slice A1 D.needed.length c1, .string D.soname, .string D.run, .slice A2 m2 c2, .slice A3 D.relas.length c3]).setRow (w1.heap.size + 1) #[.int .u64 (N.buckets : Nat), .int .u64 (N.chain : Nat), .slice Ah nh ch, .slice A4 sl c4] = W := ⟨_, rfl⟩; have hws := (unhide HS) W hW.symm; rw [hW]; have HWs := hide hws; clear hws hW)
    | ((with_reducible refine (@id (wpList _ _ _ (Oper.mk _ (Op.load 57 (.tmp 9)) _ _ _ none :: _) _ _) ?_)); refine wpList_load_row rfl 57 (.tmp 9) rfl (w1.heap.size + 1) rfl 57 #[.int .u64 (N.buckets : Nat), .int .u64 (N.chain : Nat), .slice Ah nh ch, .slice A4 sl c4] (0, 0) _ (unhide HWs).2.1 Try.underlying57 rfl nmInfo ?_))
  have hlook := unhide Hlook
  rw [if_pos trivial] at hlook
  have hm2c : m2 = N.chain - 1 := by have := unhide Hsyms; simpa using this
  have KL := linksM_any W.heap.size b N Ah nh ch A4 c4 name W (Nat.le_refl _) (unhide HWs).2.2.2.1 hname
  have hmem := Dy.links_mem (b := b) (n := N) (name := name.data.toList)
  have hlen := Dy.links_len (b := b) (n := N) (name := name.data.toList)
  rw [unhide Hsl] at KL
  obtain ⟨⟨ls, en2⟩, hls⟩ : ∃ x, Dy.links b N name.data.toList = x := ⟨_, rfl⟩
  rw [hls] at hlook KL hmem hlen
  dsimp only at hlook hmem hlen
  have HKL := hide KL
  have Hlk := hide hlook
  have Hmem := hide hmem
  have hll : ls.length ≤ 65 := by omega
  clear KL hlook hmem hls Hlook Hsyms hlen
  refine (unhide HKL).mono ?_
  rintro e w4 ⟨A5, c5, rfl, ho5, hb5⟩
  dsimp only at ho5 ⊢
  obtain ⟨gD, gN, gB, -, gS⟩ := unhide HWs
  have HB4 := hide (gB.trans (hb5.mono gB.size))
  have x3 := (gD.belowSz hb5).cell (i := 3) rfl
  have HSy := hide (Rd.of_own (own_below gS hb5))
  have HO5 := hide (Rd.of_own ho5)
  obtain ⟨k5, hk5⟩ : ∃ k, ls.length = k := ⟨_, rfl⟩
  rw [hk5] at hll ⊢
  have hO := unhide HO5
  rw [hk5] at hO
  have HO6 := hide hO
  have Hk5 := hide hk5
  clear hb5 ho5 gD gN gB gS hO hk5 HO5 HKL
  go_wp2_with fail
  go_loopg [34] k5 (fun gk iv wr => ∃ j : Nat, gk = k5 - j ∧ j ≤ k5 ∧ iv = .int .i64 j ∧ w4 = wr ∧ R = Dy.lookIn D name (ls.drop j))
  case atStart => exact ⟨0, by omega, Nat.zero_le _, rfl, rfl, by simpa using unhide Hlk⟩
  case round =>
  obtain ⟨j, hgk, hj, rfl, rfl, hr⟩ := hrel
  have HR3 := hide hr
  clear hr Hlk
  by_cases hlt : j < k5
  case neg =>
    have HE : Hid (R = (0, false)) := hide (by rw [unhide HR3, List.drop_of_length_le (by rw [unhide Hk5]; omega)]; rfl)
    have ige : ¬ (j : Int) < (k5 : Int) := by omega
    clear HR3
    go_wp2_with fail
    go_ret2
    rw [unhide HE]
    exact ⟨rfl, unhide HB4⟩
  have ilt : (j : Int) < (k5 : Int) := by omega
  obtain ⟨i, hi⟩ : ∃ i, ls[j]? = some i := ⟨_, List.getElem?_eq_getElem (by rw [unhide Hk5]; exact hlt)⟩
  obtain ⟨hi0, hic⟩ := (unhide Hmem) i (List.mem_of_getElem? hi)
  obtain ⟨b5, o5, hA5, -, hc5⟩ := (unhide HO6).at_ (k := j) (u := .int .u64 (i : Nat)) (by unfold lkV; rw [List.getElem?_map, hi]; rfl)
  subst hA5
  obtain ⟨k, hk⟩ : ∃ k, i - 1 = k := ⟨_, rfl⟩
  have hkm : k < m2 := by omega
  obtain ⟨s, hs⟩ : ∃ s, D.syms[k]? = some s := ⟨_, List.getElem?_eq_getElem (by rw [unhide Hm2]; exact hkm)⟩
  obtain ⟨b6, o6, hA6, -, y0, -⟩ := sym_at (unhide HSy) hs
  subst hA6
  have hd := unhide HR3
  rw [List.drop_eq_getElem_cons (by rw [unhide Hk5]; exact hlt), show ls[j]'(by rw [unhide Hk5]; exact hlt) = i from (List.getElem?_eq_some_iff.1 hi).2, Dy.lookIn_cons (by rw [hk]; exact hs), hk] at hd
  obtain ⟨nm, hnm⟩ : ∃ x, s.name = x := ⟨_, rfl⟩
  rw [hnm] at y0
  have hik : (i : Int) - 1 = (k : Int) := by omega
  have hiw : IntKind.i64.wrap (i : Int) = (i : Int) := by rw [IntKind.wrap_i64]; omega
  have hkI : (k : Int) < (m2 : Int) := by omega
  rw [hnm] at hd
  by_cases he : nm = name
  case pos =>
    have HE : Hid (R = (k, true)) := hide (by rw [hd, he, if_pos rfl])
    subst he
    clear hd HR3 hi hs hnm hk hi0
    go_wp2_with fail
    go_ret2
    rw [unhide HE]
    exact ⟨rfl, unhide HB4⟩
  have HE : Hid (R = Dy.lookIn D name (ls.drop (j + 1))) := hide (by rw [hd, if_neg he])
  have he3 : (nm.toList == name.toList) = false := by rw [beq_toList]; exact decide_eq_false he
  clear hd HR3 hi hs hnm hk hi0
  go_wp2_with fail
  go_roundg (k5 - (j + 1))
  case measure => omega
  case rel => exact ⟨j + 1, rfl, by omega, by go_num, rfl, unhide HE⟩
end Go.Proofs.Ytdminnhfgdoibaa
namespace Go.Proofs.Ytdminnhfgdoibaa
set_option linter.unusedVariables false
set_option linter.unusedSimpArgs false
open Go.RowKit
namespace Dy
theorem open_fst {b : List UInt8} {segs : List El.Sg} {x : Int} {L : List (Nat × Nat)} (h : open_ b segs = (x, some L)) : x = 0 := by
  cases hf : segs.find? (fun s => s.kind == 2) with
  | none => rw [open_none hf] at h; injection h with _ h; cases h
  | some s =>
    rw [open_some hf] at h
    split at h
    · injection h with _ h; cases h
    · cases he : ents b (s.fsz / 16) s.off with
      | none => rw [he] at h; injection h with _ h; cases h
      | some L2 =>
        rw [he] at h
        dsimp only at h
        split at h
        · injection h with h _; exact h.symm
        · injection h with _ h; cases h
theorem parse_bad {b : List UInt8} {segs : List El.Sg} (h2 : (parse b segs).2 ≠ 0) : (parse b segs).1 = zero := by
  obtain ⟨⟨x, ox⟩, hx⟩ : ∃ y, open_ b segs = y := ⟨_, rfl⟩
  cases ox with
  | none => rw [parse_no hx]
  | some L =>
    have hx0 := open_fst hx
    subst hx0
    rw [parse_some hx] at h2 ⊢
    cases ht : table b.length (El.loads segs) L 5 10 with
    | none => rfl
    | some t =>
      rw [ht] at h2
      by_cases h3 : (names b (El.loads segs) L).1 = 0
      · by_cases h4 : (relaB b (El.loads segs) L).1 = 0
        · cases hd : texts (cut b t.1 t.2) (val L 29).isSome L zero with
          | none => rw [pBody_4 h3 h4 hd]
          | some d =>
            cases hs : symsFrom (cut b t.1 t.2) b ((names b (El.loads segs) L).2.chain - 1) ((names b (El.loads segs) L).2.syms + 24) with
            | none => rw [pBody_5 h3 h4 hd hs]
            | some ss =>
              cases hr : relsFrom ss.length (relaB b (El.loads segs) L).2 ((relaB b (El.loads segs) L).2.length / 24) 0 with
              | none => rw [pBody_6 h3 h4 hd hs hr]
              | some rs => rw [pBody_7 h3 h4 hd hs hr] at h2; exact absurd rfl h2
        · rw [pBody_3 h3 h4]
      · rw [pBody_2 h3]
theorem parse_names {b : List UInt8} {segs : List El.Sg} (h2 : (parse b segs).2 = 0) : ∀ x ∈ (parse b segs).1.syms, x.name.size ≤ b.length := by
  obtain ⟨⟨x, ox⟩, hx⟩ : ∃ y, open_ b segs = y := ⟨_, rfl⟩
  cases ox with
  | none => rw [parse_no hx]; intro x hx; cases hx
  | some L =>
    have hx0 := open_fst hx
    subst hx0
    exact (parse_syms hx h2).2
theorem names_chain {b : List UInt8} {l : List El.Sg} {L : List (Nat × Nat)} (h : (names b l L).1 = 0) : (names b l L).2.chain ≤ 65 := by
  unfold names at h ⊢
  cases h4 : val L 4 with
  | none => exact Nat.zero_le _
  | some a =>
    rw [h4] at h
    dsimp only at h ⊢
    cases hl : laid b.length l a 8 with
    | none => exact Nat.zero_le _
    | some q =>
      rw [hl] at h
      dsimp only at h ⊢
      by_cases hc : 65 < Wd.num b (q + 4) 4
      · rw [if_pos hc]; exact Nat.zero_le _
      · rw [if_neg hc]
        cases h1 : laid b.length l a (8 + 4 * Wd.num b q 4 + 4 * Wd.num b (q + 4) 4) with
        | none => exact Nat.zero_le _
        | some x =>
          cases h2 : laid b.length l ((val L 6).getD 0) (24 * Wd.num b (q + 4) 4) with
          | none => exact Nat.zero_le _
          | some y => exact Nat.le_of_not_lt hc
theorem parse_many {b : List UInt8} {segs : List El.Sg} (h2 : (parse b segs).2 = 0) : (parse b segs).1.syms.length ≤ 64 := by
  obtain ⟨⟨x, ox⟩, hx⟩ : ∃ y, open_ b segs = y := ⟨_, rfl⟩
  cases ox with
  | none => rw [parse_no hx]; exact Nat.zero_le _
  | some L =>
    have hx0 := open_fst hx
    subst hx0
    obtain ⟨t, d, ss, rs, -, hn, -⟩ := parse_parts hx h2
    have h1 := (parse_syms hx h2).1
    have h3 := names_chain hn
    omega
theorem right_bad {b : List UInt8} {segs : List El.Sg} (h2 : (parse b segs).2 ≠ 0) : right b segs = false := by
  unfold right
  rw [if_pos h2]
theorem lookIn_no {D : Dyn} {name : ByteArray} : ∀ l : List Nat, (lookIn D name l).2 = false → (lookIn D name l).1 = 0
  | [], _ => rfl
  | i :: r, h => by
    rw [lookIn] at h ⊢
    split at h
    · cases h
    · rename_i h3
      rw [if_neg h3]
      exact lookIn_no r h
theorem lookIn_yes {D : Dyn} {name : ByteArray} : ∀ l : List Nat, (lookIn D name l).2 = true → ∃ s, D.syms[(lookIn D name l).1]? = some s ∧ s.name = name
  | [], h => by cases h
  | i :: r, h => by
    rw [lookIn] at h ⊢
    split at h
    · rename_i h3
      rw [if_pos h3]
      cases hs : D.syms[i - 1]? with
      | none => rw [hs] at h3; cases h3
      | some s => rw [hs] at h3; exact ⟨s, rfl, Option.some.inj h3⟩
    · rename_i h3
      rw [if_neg h3]
      exact lookIn_yes r h
theorem lookIn_all {D : Dyn} {name : ByteArray} {i : Nat} {s : Sym} (hs : D.syms[i - 1]? = some s) (hn : s.name = name) : ∀ l : List Nat, i ∈ l → (lookIn D name l).2 = true
  | [], h => by cases h
  | j :: r, h => by
    rw [lookIn]
    split
    · rfl
    · rename_i h3
      rcases List.mem_cons.1 h with rfl | h
      · rw [hs, ← hn] at h3; exact absurd rfl h3
      · exact lookIn_all hs hn r h
theorem rightFrom_all {b : List UInt8} {N : Names} : ∀ (l : List Sym) (k : Nat), rightFrom b N l k = true → ∀ j s, l[j]? = some s → s.name.size ≠ 0 → k + j + 1 ∈ (links b N s.name.data.toList).1
  | [], _, _, j, s, h, _ => by simp at h
  | x :: r, k, h, j, s, hj, hs => by
    rw [rightFrom, Bool.and_eq_true, Bool.or_eq_true, Bool.and_eq_true] at h
    cases j with
    | zero =>
      simp at hj
      subst hj
      rcases h.1 with h1 | h1
      · exact absurd (by simpa using h1) hs
      · have := h1.2
        rw [List.contains_iff_mem] at this
        exact this
    | succ j =>
      have := rightFrom_all r (k + 1) h.2 j s (by simpa using hj) hs
      rw [show k + (j + 1) + 1 = k + 1 + j + 1 from by omega]
      exact this
def there (D : Dyn) (name : ByteArray) (k : Nat) : Bool := (D.syms.take k).any fun s => decide (s.name = name)
theorem there_next {D : Dyn} {name : ByteArray} {k : Nat} {s : Sym} (h : D.syms[k]? = some s) : there D name (k + 1) = (there D name k || decide (s.name = name)) := by
  unfold there
  rw [List.take_add_one, h, List.any_append]
  simp
/-- What follows: what is found has the name; by a table that is right every name is found that is there. -/
theorem finds {b : List UInt8} {segs : List El.Sg} {name : ByteArray} {D : Dyn} (hp : parse b segs = (D, 0)) :
    ((look b segs name).2 = false → (look b segs name).1 = 0) ∧ ((look b segs name).2 = true → ∃ s, D.syms[(look b segs name).1]? = some s ∧ s.name = name) ∧
    (right b segs = true → name.size ≠ 0 → (look b segs name).2 = there D name D.syms.length) := by
  obtain ⟨⟨x, ox⟩, hx⟩ : ∃ y, open_ b segs = y := ⟨_, rfl⟩
  have h2 : (parse b segs).2 = 0 := by rw [hp]
  cases ox with
  | none =>
    have hl : look b segs name = (0, false) := by
      unfold look
      rw [hx, if_neg (by simpa using h2)]
    have hz : D = zero := by
      have := parse_no hx
      rw [hp] at this
      injection this
    rw [hl, hz]
    exact ⟨fun _ => rfl, (by intro h; cases h), fun _ _ => rfl⟩
  | some L =>
    have hx0 := open_fst hx
    subst hx0
    have hh : has b segs (names b (El.loads segs) L).2 true := .inr ⟨rfl, h2, L, hx, rfl⟩
    have hl := has_look hh name
    have hr := has_right hh
    rw [if_pos rfl, hp] at hl hr
    dsimp only at hl hr
    rw [hl, hr]
    refine ⟨lookIn_no _, lookIn_yes _, fun h1 hn => ?_⟩
    cases hq : there D name D.syms.length with
    | true =>
      unfold there at hq
      rw [List.take_length, List.any_eq_true] at hq
      obtain ⟨s, hs, he⟩ := hq
      have he2 : s.name = name := of_decide_eq_true he
      obtain ⟨j, hj⟩ := List.getElem?_of_mem hs
      have hm := rightFrom_all _ 0 h1 j s hj (by rw [he2]; exact hn)
      rw [Nat.zero_add, he2] at hm
      exact lookIn_all (i := j + 1) hj he2 _ hm
    | false =>
      cases hk : (lookIn D name (links b (names b (El.loads segs) L).2 name.data.toList).1).2 with
      | false => rfl
      | true =>
        obtain ⟨s, hs, he⟩ := lookIn_yes _ hk
        exfalso
        unfold there at hq
        rw [List.take_length, List.any_eq_false] at hq
        exact hq s (List.mem_of_getElem? hs) (decide_eq_true he)
end Dy
/-- Where the law stands: the head, what was parsed, all names. -/
structure FdM (W wr : World) (g : Nat) (hv dv : List Value) (S : List Dy.Sym) (A2 : Option Addr) (m2 c2 : Nat) (al : List ByteArray) (Aa : Option Addr) (ma ca : Nat) : Prop where
  bel : Below W.heap.size W wr
  hd : Blk wr W.heap.size 27 hv
  db : Blk wr g 41 dv
  sy : wr.ownsRow (W.heap.size + 1) 46 5 (.slice A2 m2 c2) m2 (symC S)
  al : wr.ownsRow (g + 1) 9 1 (.slice Aa ma ca) ma (al.map Value.string)
  syl : ∀ q, (Value.slice A2 m2 c2).ownBlock = some q → q < g
section
variable {W wr w2 : World} {g m2 c2 ma ca : Nat} {hv dv : List Value} {S : List Dy.Sym} {A2 Aa : Option Addr} {al : List ByteArray}
theorem FdM.belowSz (h : FdM W wr g hv dv S A2 m2 c2 al Aa ma ca) (hb : Below wr.heap.size wr w2) : FdM W w2 g hv dv S A2 m2 c2 al Aa ma ca := ⟨h.bel.trans (hb.mono h.bel.size), h.hd.belowSz hb, h.db.belowSz hb, own_below h.sy hb, own_below h.al hb, h.syl⟩
theorem FdM.grown {al2 : List ByteArray} {A' : Option Addr} {ma' c' : Nat} (h : FdM W wr g hv dv S A2 m2 c2 al Aa ma ca) (hgW : W.heap.size < g) (hg : wr.grownBy w2 (Value.slice Aa ma ca).ownBlock) (ho : w2.ownsRow (g + 1) 9 1 (.slice A' ma' c') ma' (al2.map Value.string)) : FdM W w2 g hv dv S A2 m2 c2 al2 A' ma' c' := by
  refine ⟨h.bel.grown hg h.bel.size (fun q hq => by have := (h.al.lt q hq).1; omega), (hg.block _ h.hd.lt (fun e => by have := (h.al.lt _ e.symm).1; omega)).trans h.hd, (hg.block _ h.db.lt (fun e => by have := (h.al.lt _ e.symm).1; omega)).trans h.db, ?_, ho, h.syl⟩
  refine ⟨h.sy.1, h.sy.2.imp id ?_⟩
  rintro ⟨q, cap, cur, e1, e2, e3, r⟩
  have hqg := h.syl q (by rw [e1]; rfl)
  exact ⟨q, cap, cur, e1, e2, (hg.block q (by have := h.db.lt; omega) (fun e => by have := (h.al.lt _ e.symm).1; omega)).trans e3, r⟩
end

set_option maxRecDepth 100000 in
set_option maxHeartbeats 8000000 in
theorem finds_any (A : Option Addr) (n c : Nat) (b : List UInt8) (ty en ph : Int) (As : Option Addr) (ns cs : Nat) (segs : List El.Sg) (An : Option Addr) (nn cn : Nat) (ls : List ByteArray) (W : World) (hb : Rd W W.heap.size 1 A n (bys b)) (hs : Rd W W.heap.size 6 As ns (segCells segs)) (hn : n ≤ maxLen) (hns : ns ≤ maxLen) (hc : n ≤ c) (hfit : ∀ s ∈ segs, SgFit s) (hl : Rd W W.heap.size 1 An nn (ls.map Value.string)) (hnn : nn ≤ maxLen) (hlz : ∀ s ∈ ls, s.size ≤ maxLen) :
    Calls Try.prog 4 #[.slice A n c, .agg #[.int .u16 ty, .int .u64 en, .int .u64 ph, .slice As ns cs], .slice An nn cn] W fun e w' => e = .returned (.bool true) ∧ Below W.heap.size W w' := by
  have hbl : b.length = n := by have := hb.1; simp [bys] at this; omega
  have hln : ls.length = nn := by have := hl.1; simp at this; omega
  have hB0 : Below W.heap.size W (W.alloc (.cells #[.int .u16 ty, .int .u64 en, .int .u64 ph, .slice As ns cs] 27)) := (Below.refl _ _).alloc (Nat.le_refl _) _
  have hH0 := Blk.new W 27 [.int .u16 ty, .int .u64 en, .int .u64 ph, .slice As ns cs]
  have KLg := hide (large13_any A n c ty en ph As ns cs (W.alloc (.cells #[.int .u16 ty, .int .u64 en, .int .u64 ph, .slice As ns cs] 27)) hn hns)
  have z0 := hH0.cell (i := 0) rfl
  have z1 := hH0.cell (i := 1) rfl
  have z2 := hH0.cell (i := 2) rfl
  have z3 := hH0.cell (i := 3) rfl
  have HWk := hide (fun (w' : World) => works13_any w')
  have HB0 := hide hB0
  have HH0 := hide hH0
  have Hr := hide hb
  have Hs := hide hs
  have Hfit := hide hfit
  have Hl := hide hl
  have Hlz := hide hlz
  have Hln := hide hln
  have Hbl := hide hbl
  unfold maxLen at hnn hn hns
  clear hb hs hfit hl hlz hln hbl hB0 hH0
  go_enter Try.func4, Try.ntmps4
  go_wp2_with fail
  refine (unhide KLg).mono ?_
  rintro e w1 ⟨r, rfl, hb1, hr⟩
  have HB1 := hide ((unhide HB0).trans (hb1.mono (unhide HB0).size))
  have HH1 := hide ((unhide HH0).belowSz hb1)
  clear hb1 HB0 HH0 KLg z0 z1 z2 z3
  cases r
  case true =>
    clear hr
    go_wp2_with fail
    refine ((unhide HWk) _).mono ?_
    rintro e w2 ⟨rfl, hb2⟩
    go_wp2_with fail
    go_ret
    exact ⟨rfl, (unhide HB1).trans (hb2.mono (unhide HB1).size)⟩
  obtain ⟨hn7, hns8⟩ := hr rfl
  clear hr
  by_cases hlong : 256 < nn
  case pos =>
    have hI : (256 : Int) < (nn : Int) := by omega
    go_wp2_with fail
    refine ((unhide HWk) _).mono ?_
    rintro e w2 ⟨rfl, hb2⟩
    go_wp2_with fail
    go_ret
    exact ⟨rfl, (unhide HB1).trans (hb2.mono (unhide HB1).size)⟩
  have hI : ¬ (256 : Int) < (nn : Int) := by omega
  have KP := hide (fun (w' : World) (h : Below W.heap.size W w') => dparse_any A n c W.heap.size b ty en ph As ns cs segs w' h.size ((unhide Hr).below h) ((unhide Hs).below h) (by omega) (by omega) hc (unhide Hfit))
  have KR := hide (fun (w' : World) (h : Below W.heap.size W w') => right_any A n c W.heap.size b ty en ph As ns cs segs w' h.size ((unhide Hr).below h) ((unhide Hs).below h) (by omega) (by omega) hc (unhide Hfit))
  have KL := hide (fun (name : ByteArray) (hnm : name.size ≤ maxLen) (w' : World) (h : Below W.heap.size W w') => lookM_any A n c W.heap.size b ty en ph As ns cs segs name w' h.size ((unhide Hr).below h) ((unhide Hs).below h) (by omega) (by omega) hc (unhide Hfit) hnm)
  have z0 := (unhide HH1).cell (i := 0) rfl
  have z1 := (unhide HH1).cell (i := 1) rfl
  have z2 := (unhide HH1).cell (i := 2) rfl
  have z3 := (unhide HH1).cell (i := 3) rfl
  have hW1 : W.heap.size < w1.heap.size := (unhide HH1).lt
  clear Hr Hs Hfit
  go_wp2_with fail
  refine ((unhide KP) _ (unhide HB1)).mono ?_
  rintro e w2 ⟨hb2, A1, c1, A2, c2, A3, c3, rfl, hdy⟩
  have hbad := Dy.parse_bad (b := b) (segs := segs)
  have hrb := Dy.right_bad (b := b) (segs := segs)
  have hfd := fun (name : ByteArray) (D : Dy.Dyn) => Dy.finds (b := b) (segs := segs) (name := name) (D := D)
  have hsz : (Dy.parse b segs).2 = 0 → ∀ x ∈ (Dy.parse b segs).1.syms, x.name.size ≤ b.length := fun h => Dy.parse_names h
  have hs65 : (Dy.parse b segs).2 = 0 → (Dy.parse b segs).1.syms.length ≤ 64 := fun h => Dy.parse_many h
  obtain ⟨⟨D, px⟩, hP⟩ : ∃ x, Dy.parse b segs = x := ⟨_, rfl⟩
  obtain ⟨rr, hrr⟩ : ∃ x, Dy.right b segs = x := ⟨_, rfl⟩
  have kr := unhide KR
  rw [hrr] at kr hrb
  rw [hP] at hbad hrb hsz hs65 hdy ⊢
  dsimp only at hbad hrb hsz hs65 hdy ⊢
  obtain ⟨m2, hm2⟩ : ∃ x, D.syms.length = x := ⟨_, rfl⟩
  have hdn := hdy.needed
  have hdr := hdy.relas
  have hds := hdy.syms
  rw [hm2] at hds hs65 ⊢
  obtain ⟨g, hg⟩ : ∃ g, w2.heap.size = g := ⟨_, rfl⟩
  have hgW : W.heap.size < g := by have := hb2.size; omega
  have b3 : Below w2.heap.size w2 (w2.alloc (.cells #[.slice A1 D.needed.length c1, .string D.soname, .string D.run, .slice A2 m2 c2, .slice A3 D.relas.length c3] 41)) := (Below.refl _ _).alloc (Nat.le_refl _) _
  have HF3 : Hid (FdM W (w2.alloc (.cells #[.slice A1 D.needed.length c1, .string D.soname, .string D.run, .slice A2 m2 c2, .slice A3 D.relas.length c3] 41)) g [.int .u16 ty, .int .u64 en, .int .u64 ph, .slice As ns cs] [.slice A1 D.needed.length c1, .string D.soname, .string D.run, .slice A2 m2 c2, .slice A3 D.relas.length c3] D.syms A2 m2 c2 [] none 0 0) := hide ⟨((unhide HB1).trans (hb2.mono (unhide HB1).size)).trans (b3.mono ((unhide HB1).trans (hb2.mono (unhide HB1).size)).size), ((unhide HH1).belowSz hb2).alloc _, by rw [← hg]; exact Blk.new w2 41 [.slice A1 D.needed.length c1, .string D.soname, .string D.run, .slice A2 m2 c2, .slice A3 D.relas.length c3], own_base (own_below hds b3) (by omega), World.ownsRow_nil _ _ _ _, fun q hq => by rw [← hg]; exact (hds.lt q hq).2⟩
  have HKR := hide kr
  have HP := hide hP
  have Hrr := hide hrr
  have Hm2 := hide hm2
  have Hbad := hide hbad
  have Hrb := hide hrb
  have Hfd := hide hfd
  have Hsz := hide hsz
  have Hs65 := hide hs65
  have q0 := (unhide HF3).hd.cell (i := 0) rfl
  have q1 := (unhide HF3).hd.cell (i := 1) rfl
  have q2 := (unhide HF3).hd.cell (i := 2) rfl
  have q3 := (unhide HF3).hd.cell (i := 3) rfl
  clear hb2 hdy b3 hbad hrb hfd hsz hs65 kr hP hrr hm2 hdn hdr hds HB1 HH1 KP KR z0 z1 z2 z3
  go_wp2_with fail
  refine ((unhide HKR) _ (unhide HF3).bel).mono ?_
  rintro e w4 ⟨rfl, hb4⟩
  have HF4 := hide ((unhide HF3).belowSz hb4)
  have d0 := (unhide HF4).db.cell (i := 0) rfl
  have d1 := (unhide HF4).db.cell (i := 1) rfl
  have d2 := (unhide HF4).db.cell (i := 2) rfl
  have d3 := (unhide HF4).db.cell (i := 3) rfl
  have d4 := (unhide HF4).db.cell (i := 4) rfl
  clear hb4 HF3 HKR q0 q1 q2 q3 hg
  by_cases hpx : px = 0
  case neg =>
    have hD : D = Dy.zero := (unhide Hbad) hpx
    have hr0 : rr = false := (unhide Hrb) hpx
    have hm0 : m2 = 0 := by rw [← unhide Hm2, hD]; rfl
    have n1 : D.needed.length = 0 := by rw [hD]; rfl
    have n3 : D.relas.length = 0 := by rw [hD]; rfl
    have s1 : D.soname = ⟨#[]⟩ := by rw [hD]; rfl
    have s2 : D.run = ⟨#[]⟩ := by rw [hD]; rfl
    rw [n1] at d0
    rw [s1] at d1
    rw [s2] at d2
    rw [hm0] at d3
    rw [n3] at d4
    rw [hr0]
    clear hD hr0 hm0 n1 n3 s1 s2 Hbad Hrb Hfd Hsz Hs65 Hm2 Hrr HP KL
    go_wp2_with fail
    refine ((unhide HWk) w4).mono ?_
    rintro e w5 ⟨rfl, hb5⟩
    go_wp2_with fail
    go_ret
    exact ⟨rfl, ((unhide HF4).belowSz hb5).bel⟩
  have hm64 : m2 ≤ 64 := (unhide Hs65) hpx
  have hnz : ∀ x ∈ D.syms, x.name.size ≤ maxLen := fun x hx => Nat.le_trans ((unhide Hsz) hpx x hx) (by rw [unhide Hbl]; unfold maxLen; omega)
  have hfd2 := fun (name : ByteArray) => (unhide Hfd) name D (by rw [unhide HP, hpx])
  rw [unhide Hrr] at hfd2
  have Hnz := hide hnz
  have Hfd2 := hide hfd2
  subst hpx
  clear hnz hfd2 Hbad Hrb Hfd Hsz Hs65 HP Hrr d0 d1 d2 d4
  go_wp2_with fail
  clear d3
  go_loopg [10, 11] m2 (fun gk av iv wr => ∃ (k : Nat) (Aa : Option Addr) (ca : Nat), gk = m2 - k ∧ k ≤ m2 ∧ av = .slice Aa k ca ∧ iv = .int .i64 k ∧ FdM W wr g [.int .u16 ty, .int .u64 en, .int .u64 ph, .slice As ns cs] [.slice A1 D.needed.length c1, .string D.soname, .string D.run, .slice A2 m2 c2, .slice A3 D.relas.length c3] D.syms A2 m2 c2 ((D.syms.take k).map (·.name)) Aa k ca)
  case atStart => exact ⟨0, none, 0, rfl, Nat.zero_le _, rfl, rfl, unhide HF4⟩
  case round =>
  obtain ⟨k, Aa, ca, hgk, hk, rfl, rfl, hf⟩ := hrel
  have HF := hide hf
  have d3 := hf.db.cell (i := 3) rfl
  clear hf HF4
  by_cases hlt : k < m2
  case pos =>
    have ilt : (k : Int) < (m2 : Int) := by omega
    obtain ⟨s, hsk⟩ : ∃ s, D.syms[k]? = some s := ⟨_, List.getElem?_eq_getElem (by rw [unhide Hm2]; exact hlt)⟩
    obtain ⟨b6, o6, hA6, -, y0, -⟩ := sym_at (Rd.of_own (unhide HF).sy) hsk
    have hA6' := hA6
    subst hA6
    have htk : (D.syms.take (k + 1)).map (·.name) = (D.syms.take k).map (·.name) ++ [s.name] := by rw [List.take_add_one, hsk]; simp
    obtain ⟨nm, hnm⟩ : ∃ x, s.name = x := ⟨_, rfl⟩
    rw [hnm] at y0 htk
    have Htk := hide htk
    clear hsk htk hnm hA6'
    have hgr := (unhide HF).db.lt
    go_wp2_with (at_builtin; refine wpList_app1g strTy rfl _ _ rfl (g + 1) (.slice Aa k ca) k _ rfl (unhide HF).al #[.string nm] _ rfl (by simp) rfl (by intro u hu; simp at hu; subst hu; rfl) (by omega) (by omega) ?_; intro A9 c9 w9 ho9 hg9 hat9; have HF9 := hide ((unhide HF).grown (al2 := (D.syms.take (k + 1)).map (·.name)) hgW hg9 (by rw [unhide Htk, List.map_append]; exact ho9)); clear ho9 hg9 hat9)
    go_roundg (m2 - (k + 1))
    case measure => omega
    case rel => exact ⟨k + 1, A9, c9, rfl, by omega, rfl, by go_num, unhide HF9⟩
  obtain rfl : m2 = k := by omega
  have ige : ¬ (m2 : Int) < (m2 : Int) := by omega
  have htk : (D.syms.take m2).map (·.name) = D.syms.map (·.name) := by rw [List.take_of_length_le (by rw [unhide Hm2]; exact Nat.le_refl _)]
  have hf := unhide HF
  rw [htk] at hf
  have HFa := hide hf
  have hgr := hf.db.lt
  obtain ⟨al, hal⟩ : ∃ al, D.syms.map (·.name) ++ ls = al := ⟨_, rfl⟩
  have hall : al.length = m2 + nn := by rw [← hal]; simp [unhide Hm2, unhide Hln]
  have halz : ∀ x ∈ al, x.size ≤ maxLen := by
    intro x hx
    rw [← hal] at hx
    rcases List.mem_append.1 hx with hx | hx
    · obtain ⟨s, hs, rfl⟩ := List.mem_map.1 hx
      exact (unhide Hnz) s hs
    · exact (unhide Hlz) x hx
  have Hal := hide hal
  have Hall := hide hall
  have Halz := hide halz
  clear htk hf HF hal hall halz Hnz Hlz
  go_wp2_with (at_builtin; refine wpList_app strTy rfl _ _ rfl (g + 1) (.slice Aa m2 ca) m2 _ rfl (unhide HFa).al W.heap.size An nn cn _ rfl ((unhide Hl).below (unhide HFa).bel) (by intro u hu; obtain ⟨s, _, rfl⟩ := List.mem_map.1 hu; rfl) (by omega) (by omega) ?_; intro A9 c9 w9 ho9 hg9 hat9; have HF9 := hide ((unhide HFa).grown (al2 := al) hgW hg9 (by rw [← unhide Hal, List.map_append]; exact ho9)); clear ho9 hg9 hat9)
  clear HFa Hl d3
  obtain ⟨tot, htot⟩ : ∃ t, m2 + nn = t := ⟨_, rfl⟩
  rw [htot] at HF9 ⊢
  have hall := unhide Hall
  rw [htot] at hall
  have Hall2 := hide hall
  have htl : tot ≤ 400 := by omega
  clear hall Hall htot
  go_loopg [12] tot (fun gk iv wr => ∃ i : Nat, gk = tot - i ∧ i ≤ tot ∧ iv = .int .i64 i ∧ FdM W wr g [.int .u16 ty, .int .u64 en, .int .u64 ph, .slice As ns cs] [.slice A1 D.needed.length c1, .string D.soname, .string D.run, .slice A2 m2 c2, .slice A3 D.relas.length c3] D.syms A2 m2 c2 al A9 tot c9)
  case atStart => exact ⟨0, rfl, Nat.zero_le _, rfl, unhide HF9⟩
  case round =>
  obtain ⟨i, hgk2, hi, rfl, hf⟩ := hrel
  have HF := hide hf
  clear hf HF9
  by_cases hlt2 : i < tot
  case neg =>
    have ige2 : ¬ (i : Int) < (tot : Int) := by omega
    clear Hfd2 KL
    go_wp2_with fail
    refine ((unhide HWk) _).mono ?_
    rintro e w5 ⟨rfl, hb5⟩
    go_wp2_with fail
    go_ret
    exact ⟨rfl, ((unhide HF).belowSz hb5).bel⟩
  have ilt2 : (i : Int) < (tot : Int) := by omega
  obtain ⟨a, ha⟩ : ∃ a, al[i]? = some a := ⟨_, List.getElem?_eq_getElem (by rw [unhide Hall2]; exact hlt2)⟩
  have haz := (unhide Halz) a (List.mem_of_getElem? ha)
  obtain ⟨g9, hA9, -, -⟩ := own_some (unhide HF).al (by omega)
  subst hA9
  have HAc : Hid (∀ V, FdM W V g [.int .u16 ty, .int .u64 en, .int .u64 ph, .slice As ns cs] [.slice A1 D.needed.length c1, .string D.soname, .string D.run, .slice A2 m2 c2, .slice A3 D.relas.length c3] D.syms A2 m2 c2 al (some ⟨g9, 0, none⟩) tot c9 → V.cell? ⟨g9, i, none⟩ = some (.string a)) := hide (fun V h => own_cellI h.al (by rw [List.getElem?_map, ha]; rfl))
  have KL1 := hide ((unhide KL) a haz)
  obtain ⟨f1, f2, f3⟩ := (unhide Hfd2) a
  obtain ⟨⟨ln, li⟩, hlk⟩ : ∃ x, Dy.look b segs a = x := ⟨_, rfl⟩
  have kl := unhide KL1
  rw [hlk] at f1 f2 f3 kl
  dsimp only at f1 f2 f3 kl
  have HKL := hide kl
  have F1 := hide f1
  have F2 := hide f2
  have F3 := hide f3
  clear f1 f2 f3 kl hlk ha haz KL1
  go_wp2_with fail
  go_loopg [13, 14] m2 (fun gk2 tv kv wr2 => ∃ (q j : Nat), gk2 = m2 - q ∧ q ≤ m2 ∧ kv = .int .i64 q ∧ tv = .bool (Dy.there D a q) ∧ wr.drewN j = wr2)
  case atStart => exact ⟨0, 0, rfl, Nat.zero_le _, rfl, rfl, rfl⟩
  case round =>
  obtain ⟨q, j, hgk3, hq, rfl, rfl, rfl⟩ := hrel
  have HFj := hide ((unhide HF).belowSz (below_drewN' (Below.refl _ _) j))
  have d3 := (unhide HF).db.cell (i := 3) rfl
  have ac := (unhide HAc) _ (unhide HF)
  by_cases hlt3 : q < m2
  case pos =>
    have ilt3 : (q : Int) < (m2 : Int) := by omega
    obtain ⟨s, hsk⟩ : ∃ s, D.syms[q]? = some s := ⟨_, List.getElem?_eq_getElem (by rw [unhide Hm2]; exact hlt3)⟩
    obtain ⟨b6, o6, hA6, -, y0, -⟩ := sym_at (Rd.of_own (unhide HF).sy) hsk
    have hnx := Dy.there_next (name := a) hsk
    obtain ⟨nm, hnm⟩ : ∃ x, s.name = x := ⟨_, rfl⟩
    rw [hnm] at y0 hnx
    rw [hA6] at d3
    obtain ⟨tb, htb⟩ : ∃ x, Dy.there D a q = x := ⟨_, rfl⟩
    rw [htb] at hnx ⊢
    have Hnx := hide hnx
    clear hsk hnx hnm htb hA6
    cases tb
    · by_cases he : nm = a
      · have hq1 : (nm.toList == a.toList) = true := by rw [beq_toList]; exact decide_eq_true he
        have HT2 : Hid (Dy.there D a (q + 1) = true) := hide (by rw [unhide Hnx, decide_eq_true he]; rfl)
        clear Hnx he
        go_wp2_with fail
        go_quiet (fail)
        go_wp2_with fail
        go_roundg (m2 - (q + 1))
        case measure => omega
        case rel => exact ⟨q + 1, j + nq, rfl, by omega, by go_num, by rw [unhide HT2], rfl⟩
      · have hq1 : (nm.toList == a.toList) = false := by rw [beq_toList]; exact decide_eq_false he
        have HT2 : Hid (Dy.there D a (q + 1) = false) := hide (by rw [unhide Hnx, decide_eq_false he]; rfl)
        clear Hnx he
        go_wp2_with fail
        go_quiet (fail)
        go_wp2_with fail
        go_roundg (m2 - (q + 1))
        case measure => omega
        case rel => exact ⟨q + 1, j + nq, rfl, by omega, by go_num, by rw [unhide HT2], rfl⟩
    · have HT2 : Hid (Dy.there D a (q + 1) = true) := hide (by rw [unhide Hnx]; rfl)
      clear Hnx
      go_wp2_with fail
      go_quiet (fail)
      go_wp2_with fail
      go_roundg (m2 - (q + 1))
      case measure => omega
      case rel => exact ⟨q + 1, j + nq, rfl, by omega, by go_num, by rw [unhide HT2], rfl⟩
  obtain rfl : m2 = q := by omega
  have ige3 : ¬ (m2 : Int) < (m2 : Int) := by omega
  have HT3 : Hid (Dy.there D a m2 = Dy.there D a D.syms.length) := hide (by rw [unhide Hm2])
  obtain ⟨tb, htb⟩ : ∃ x, Dy.there D a m2 = x := ⟨_, rfl⟩
  rw [htb]
  have f3 := unhide F3
  rw [← unhide HT3, htb] at f3
  have F3b := hide f3
  clear htb HT3 f3 F3
  have HS21 : Hid (∀ V, FdM W V g [.int .u16 ty, .int .u64 en, .int .u64 ph, .slice As ns cs] [.slice A1 D.needed.length c1, .string D.soname, .string D.run, .slice A2 m2 c2, .slice A3 D.relas.length c3] D.syms A2 m2 c2 al (some ⟨g9, 0, none⟩) tot c9 → (V.cell? ⟨W.heap.size, 0, none⟩ = some (.int .u16 ty) ∧ V.cell? ⟨W.heap.size, 1, none⟩ = some (.int .u64 en) ∧ V.cell? ⟨W.heap.size, 2, none⟩ = some (.int .u64 ph) ∧ V.cell? ⟨W.heap.size, 3, none⟩ = some (.slice As ns cs) ∧ V.cell? ⟨g9, i, none⟩ = some (.string a))) := hide (fun V h => ⟨h.hd.cell (i := 0) rfl, h.hd.cell (i := 1) rfl, h.hd.cell (i := 2) rfl, h.hd.cell (i := 3) rfl, (unhide HAc) V h⟩)
  have HFd := hide ((unhide HFj).belowSz (below_drew' (Below.refl _ _)))
  have HFe := hide ((unhide HF).belowSz (below_drewN' (Below.refl _ _) (j + 1)))
  have hbw := (unhide HFe).bel
  have KW := hide ((unhide HKL) _ hbw)
  clear hbw HF
  go_wp2_with fail

  refine wp_region_noPanic ?_
  refine wp_region_held_drew (S := fun V => V.cell? ⟨W.heap.size, 0, none⟩ = some (.int .u16 ty) ∧ V.cell? ⟨W.heap.size, 1, none⟩ = some (.int .u64 en) ∧ V.cell? ⟨W.heap.size, 2, none⟩ = some (.int .u64 ph) ∧ V.cell? ⟨W.heap.size, 3, none⟩ = some (.slice As ns cs) ∧ V.cell? ⟨g9, i, none⟩ = some (.string a)) (by kernel_rfl) ((unhide HS21) _ (unhide HFd)) (fun HS0 => ?_)
  refine takeD (i := 0) (d := some 113) (v := ?_) rfl rfl (by kernel_rfl) (by kernel_rfl) (by kernel_rfl) (fun _ _ _ h => h) (Or.inl ⟨by rfl, ?y0⟩) HS0 ?_
  case y0 => (intro w' hSw; (try dsimp only at hSw); go_simp; (try with_reducible rfl))
  simp only [Act.put, List.setIfInBounds_toArray, List.set_cons_zero, List.set_cons_succ]
  refine takeD (i := 1) (d := some 114) (v := ?_) rfl rfl (by kernel_rfl) (by kernel_rfl) (by kernel_rfl) (fun _ _ _ h => h) (Or.inl ⟨by rfl, ?y1⟩) HS0 ?_
  case y1 => (intro w' hSw; (try dsimp only at hSw); go_simp; (try with_reducible rfl))
  simp only [Act.put, List.setIfInBounds_toArray, List.set_cons_zero, List.set_cons_succ]
  refine takeD (i := 2) (d := some 115) (v := ?_) rfl rfl (by kernel_rfl) (by kernel_rfl) (by kernel_rfl) (fun _ _ _ h => h) (Or.inl ⟨by rfl, ?y2⟩) HS0 ?_
  case y2 => (intro w' hSw; (try dsimp only at hSw); go_simp; (try with_reducible rfl))
  simp only [Act.put, List.setIfInBounds_toArray, List.set_cons_zero, List.set_cons_succ]
  refine takeD (i := 3) (d := some 116) (v := ?_) rfl rfl (by kernel_rfl) (by kernel_rfl) (by kernel_rfl) (fun _ _ _ h => h) (Or.inl ⟨by rfl, ?y3⟩) HS0 ?_
  case y3 => (intro w' hSw; (try dsimp only at hSw); go_simp; (try with_reducible rfl))
  simp only [Act.put, List.setIfInBounds_toArray, List.set_cons_zero, List.set_cons_succ]
  refine takeD (i := 4) (d := some 117) (v := ?_) rfl rfl (by kernel_rfl) (by kernel_rfl) (by kernel_rfl) (fun _ _ _ h => h) (Or.inl ⟨by rfl, ?y4⟩) HS0 ?_
  case y4 => (intro w' hSw; (try dsimp only at hSw); go_simp; (try with_reducible rfl))
  simp only [Act.put, List.setIfInBounds_toArray, List.set_cons_zero, List.set_cons_succ]
  refine takeD (i := 5) (d := some 118) (v := ?_) rfl rfl (by kernel_rfl) (by kernel_rfl) (by kernel_rfl) (fun _ _ _ h => h) (Or.inl ⟨by rfl, ?y5⟩) HS0 ?_
  case y5 => (intro w' hSw; (try dsimp only at hSw); go_simp; (try with_reducible rfl))
  simp only [Act.put, List.setIfInBounds_toArray, List.set_cons_zero, List.set_cons_succ]
  refine wpAnyH_ready (rs := [6]) (by kernel_rfl) (by simp) ?_
  refine AllReadyH.cons (i := 6) rfl (fun K hK => ?_) AllReadyH.nil
  rw [if_pos (by rfl)]
  go_simp
  go_at_call 10
  with_reducible refine (unhide KW).mono ?_
  rintro e w6 ⟨rfl, hb6⟩
  have HF6 := hide ((unhide HFe).belowSz hb6)
  clear hb6 KW
  refine hK.out _ _ ((unhide HS21) _ (unhide HF6)) (fun hHeld => ?_)
  clear hK K HS0
  have HS0 := hHeld
  clear hHeld
  (try simp only [Act.put, List.setIfInBounds_toArray, List.set_cons_zero, List.set_cons_succ])
  refine takeD (i := 7) (d := some 112) (v := ?_) rfl rfl (by kernel_rfl) (by kernel_rfl) (by kernel_rfl) (fun _ _ _ h => h) (Or.inl ⟨by rfl, ?y7⟩) HS0 ?_
  case y7 => (intro w' hSw; (try dsimp only at hSw); go_simp; (try with_reducible rfl))
  simp only [Act.put, List.setIfInBounds_toArray, List.set_cons_zero, List.set_cons_succ]
  refine takeD (i := 8) (d := some 120) (v := ?_) rfl rfl (by kernel_rfl) (by kernel_rfl) (by kernel_rfl) (fun _ _ _ h => h) (Or.inl ⟨by rfl, ?y8⟩) HS0 ?_
  case y8 => (intro w' hSw; (try dsimp only at hSw); go_simp; (try with_reducible rfl))
  simp only [Act.put, List.setIfInBounds_toArray, List.set_cons_zero, List.set_cons_succ]
  refine takeD (i := 9) (d := some 121) (v := ?_) rfl rfl (by kernel_rfl) (by kernel_rfl) (by kernel_rfl) (fun _ _ _ h => h) (Or.inl ⟨by rfl, ?y9⟩) HS0 ?_
  case y9 => (intro w' hSw; (try dsimp only at hSw); go_simp; (try with_reducible rfl))
  simp only [Act.put, List.setIfInBounds_toArray, List.set_cons_zero, List.set_cons_succ]
  refine takeD (i := 10) (d := some 15) (v := ?_) rfl rfl (by kernel_rfl) (by kernel_rfl) (by kernel_rfl) (fun _ _ _ h => h) (Or.inl ⟨by rfl, ?y10⟩) HS0 ?_
  case y10 => (intro w' hSw; (try dsimp only at hSw); go_simp; (try with_reducible rfl))
  simp only [Act.put, List.setIfInBounds_toArray, List.set_cons_zero, List.set_cons_succ]
  refine takeD (i := 11) (d := some 16) (v := ?_) rfl rfl (by kernel_rfl) (by kernel_rfl) (by kernel_rfl) (fun _ _ _ h => h) (Or.inl ⟨by rfl, ?y11⟩) HS0 ?_
  case y11 => (intro w' hSw; (try dsimp only at hSw); go_simp; (try with_reducible rfl))
  simp only [Act.put, List.setIfInBounds_toArray, List.set_cons_zero, List.set_cons_succ]
  refine wpAnyH_done (by kernel_rfl) ?_ _
  refine NoPanic.normal ?_
  clear HS0 HS21 HFd HFe HFj d3 ac
  have d3 := (unhide HF6).db.cell (i := 3) rfl
  have ac := (unhide HAc) _ (unhide HF6)
  cases li
  · have hl0 : ln = 0 := (unhide F1) rfl
    subst hl0
    clear F1 F2
    go_wp2_with fail
    go_quiet (fail)
    have HF7 := hide ((unhide HF6).belowSz (below_drewN' (Below.refl _ _) nq))
    have ac7 := (unhide HAc) _ (unhide HF7)
    clear ac d3
    cases rr
    · clear F3b
      go_wp2_with fail
      go_roundg (tot - (i + 1))
      case measure => omega
      case rel => exact ⟨i + 1, rfl, by omega, by go_num, unhide HF7⟩
    by_cases hz : a.size = 0
    · have hz2 := empty_of hz
      have hz3 : a.toList.isEmpty = true := by rw [hz2, Lib.toList_data]; rfl
      clear F3b hz hz2
      go_wp2_with fail
      go_roundg (tot - (i + 1))
      case measure => omega
      case rel => exact ⟨i + 1, rfl, by omega, by go_num, unhide HF7⟩
    have hz3 : a.toList.isEmpty = false := by
      rw [Lib.toList_data, List.isEmpty_eq_false_iff]
      intro h
      exact hz (by show a.data.size = 0; rw [← Array.length_toList, h]; rfl)
    have htb : tb = false := ((unhide F3b) rfl hz).symm
    subst htb
    clear F3b hz
    go_wp2_with fail
    go_roundg (tot - (i + 1))
    case measure => omega
    case rel => exact ⟨i + 1, rfl, by omega, by go_num, unhide HF7⟩
  obtain ⟨s, hsn, hsa⟩ := (unhide F2) rfl
  have hln : ln < m2 := by rw [← unhide Hm2]; exact (List.getElem?_eq_some_iff.1 hsn).1
  have hlI : (ln : Int) < (m2 : Int) := by omega
  obtain ⟨b6, o6, hA6, -, y0, -⟩ := sym_at (Rd.of_own (unhide HF6).sy) hsn
  rw [hsa] at y0
  rw [hA6] at d3
  clear F1 F2 hsn hsa hA6
  go_wp2_with fail
  go_quiet (fail)
  have HF7 := hide ((unhide HF6).belowSz (below_drewN' (Below.refl _ _) nq))
  have ac7 := (unhide HAc) _ (unhide HF7)
  clear ac d3 y0
  cases rr
  · clear F3b
    go_wp2_with fail
    go_roundg (tot - (i + 1))
    case measure => omega
    case rel => exact ⟨i + 1, rfl, by omega, by go_num, unhide HF7⟩
  by_cases hz : a.size = 0
  · have hz2 := empty_of hz
    have hz3 : a.toList.isEmpty = true := by rw [hz2, Lib.toList_data]; rfl
    clear F3b hz hz2
    go_wp2_with fail
    go_roundg (tot - (i + 1))
    case measure => omega
    case rel => exact ⟨i + 1, rfl, by omega, by go_num, unhide HF7⟩
  have hz3 : a.toList.isEmpty = false := by
    rw [Lib.toList_data, List.isEmpty_eq_false_iff]
    intro h
    exact hz (by show a.data.size = 0; rw [← Array.length_toList, h]; rfl)
  have htb : tb = true := ((unhide F3b) rfl hz).symm
  subst htb
  clear F3b hz
  go_wp2_with fail
  go_roundg (tot - (i + 1))
  case measure => omega
  case rel => exact ⟨i + 1, rfl, by omega, by go_num, unhide HF7⟩
end Go.Proofs.Ytdminnhfgdoibaa
namespace Go.Proofs.Ytdminnhfgdoibaa.dynamicFinds
open Go.ChangeShapes Go.WideShapes Go.ChangeAt Go.RowKit
open Go.ChangeMaps (open_string shut_string)
set_option linter.unusedVariables false

theorem own : ownKnob Try.prog.godebug = none := by kernel_rfl
theorem laidOut : laidOutB Try.prog = true := by kernel_rfl
theorem wfi {z : Int} (h : (Lit.int .i64 z).wf = true) : -9223372036854775808 ≤ z ∧ z ≤ 9223372036854775807 := by simpa [Lit.wf, IntKind.min, IntKind.max, IntKind.signed, IntKind.bits] using h

set_option maxRecDepth 100000 in
theorem lifted (os : Os) (started : os.Started) (H : Type) (enc : TypeId × Value → H) :
    ReturnsInHanded {} Try.checked os 4 .any (Rows.dynamicFindsSpec.pre6 enc Try.prog Try.f4 Rows.dynamicFindsRow.domain false) (Rows.dynamicFindsSpec.post enc Try.prog Try.f4 false true false false) := by
  refine returnsInHanded_of_change (C := Try.checked) own started (by kernel_rfl) Try.func4
    (ChangeSpec.witness6 (enc := enc) (C := Try.checked) false ⟨#[], #[.slice none 0 0, .agg #[.int .u16 0, .int .u64 0, .int .u64 0, .slice none 0 0], .slice none 0 0], []⟩ 8 (by kernel_rfl) (by kernel_rfl) (by kernel_rfl) (by kernel_rfl)) ?_
  intro W base args ds gs before hval0 hW hcnd _
  have hval : ∀ (j : Nat) t v, Try.f4.params[j]? = some t → args[j]? = some v → Value.okWide Try.prog W .any base t v := hval0
  have hW' := hW
  obtain ⟨p, q, hA0, hV, rfl, hfz, hnd⟩ := hW
  have hA : DataW.TrodAll enc Try.prog W 0 (fun _ => true) true Try.f4.params.toList args.toList ds p := hA0
  rw [Try.params4] at hA hval
  obtain ⟨v0, vs0, d0, ds0, p0, q0, hargs, rfl, rfl, h0, r0⟩ := trodAll_cons hA
  obtain ⟨v1, vs1, d1, ds1, p1, q1, rfl, rfl, rfl, h1, r1⟩ := trodAll_cons r0
  obtain ⟨v2, vs2, d2, ds2, p2, q2, rfl, rfl, rfl, h2, r2⟩ := trodAll_cons r1
  obtain ⟨rfl, rfl, rfl⟩ := trodAll_nil r2
  obtain rfl : args = #[v0, v1, v2] := by cases args; simp_all
  obtain ⟨rfl, rfl⟩ := trodVars_none hV
  obtain ⟨A0, n0, c0, rfl⟩ := okWide_slice Try.underlying22 (hval 0 22 v0 rfl rfl)
  have k0 := h0
  have lt0 : ∀ x ∈ p0, x.block < W.heap.size := by obtain ⟨m, hm⟩ := k0; exact DataW.trod_lt m _ _ _ hm
  obtain ⟨x0, w0, wc0, wm0⟩ := open_bytes_rd Try.underlying22 Try.underlying5 (by kernel_rfl) h0
  have k1 := h1
  have lt1 : ∀ x ∈ p1, x.block < W.heap.size := by obtain ⟨m, hm⟩ := k1; exact DataW.trod_lt m _ _ _ hm
  obtain ⟨u0, u1, u2, u3, y0, y1, y2, y3, nf, rfl, -, -, g0, g1, g2, g3⟩ := Go.Joins.open_agg4 Try.underlying27 (by kernel_rfl) (by kernel_rfl) (hval 1 27 v1 rfl rfl) h1
  have g0' : DataW.trod enc Try.prog W 0 (fun _ => true) true nf 23 [u0] = some y0 := g0
  have g1' : DataW.trod enc Try.prog W 0 (fun _ => true) true nf 24 [u1] = some y1 := g1
  have g2' : DataW.trod enc Try.prog W 0 (fun _ => true) true nf 24 [u2] = some y2 := g2
  have g3' : DataW.trod enc Try.prog W 0 (fun _ => true) true nf 25 [u3] = some y3 := g3
  obtain ⟨z0, e0, -, wz0⟩ := DataW.trod_int Try.underlying23 g0'
  obtain ⟨z1, e1, -, wz1⟩ := DataW.trod_int Try.underlying24 g1'
  obtain ⟨z2, e2, -, wz2⟩ := DataW.trod_int Try.underlying24 g2'
  simp only [List.cons.injEq, and_true] at e0 e1 e2
  subst e0 e1 e2
  obtain ⟨As, ns, cs, rfl⟩ : ∃ A n c, u3 = .slice A n c := by
    rcases DataW.trod_slice Try.underlying25 g3' with ⟨h, _⟩ | ⟨a, len, cap, _, _, _, _, h, _⟩
    · simp only [List.cons.injEq, and_true] at h
      exact ⟨_, _, _, h⟩
    · simp only [List.cons.injEq, and_true] at h
      exact ⟨_, _, _, h⟩
  obtain ⟨ls, hls, hcs, hms, hfs⟩ := open_segs_rd g3'
  obtain ⟨A2, n2, c2, rfl⟩ := okWide_slice Try.underlying37 (hval 2 37 v2 rfl rfl)
  have k2 := h2
  have lt2 : ∀ x ∈ p2, x.block < W.heap.size := by obtain ⟨m, hm⟩ := k2; exact DataW.trod_lt m _ _ _ hm
  obtain ⟨x2, w2, wc2, wm2, we2⟩ := open_strs_rd Try.underlying37 Try.underlying9 (by kernel_rfl) h2
  clear hA0 hval0
  refine (finds_any A0 n0 c0 x0 z0 z1 z2 As ns cs ls A2 n2 c2 x2 W w0 hls (Nat.le_trans wc0 wm0) (Nat.le_trans hcs hms) wc0 hfs w2 (Nat.le_trans wc2 wm2) we2).mono fun e W' ⟨he, bel⟩ => ?_
  subst he
  exact ⟨_, rfl, _, _, _, [], _, [], hW', trodAll_mk1 (shut_bool Try.underlying4 _), (trodAll_cons_mk (Below.trod laidOut (by kernel_rfl) (of_decide_eq_true (by kernel_rfl)) k0 bel lt0) (trodAll_cons_mk (Below.trod laidOut (by kernel_rfl) (of_decide_eq_true (by kernel_rfl)) k1 bel lt1) (trodAll_cons_mk (Below.trod laidOut (by kernel_rfl) (of_decide_eq_true (by kernel_rfl)) k2 bel lt2) trodAll_mk0))), rfl, bel.frame _, fun h => by cases h⟩

theorem over : Rows.dynamicFindsRow.holds Try.pinned (OpenSpec.ofChange Rows.dynamicFindsSpec) :=
  OpenClaim.holds_of_wide 4 Try.f4 rfl rfl rfl rfl rfl rfl rfl ⟨rfl, rfl, rfl, rfl, rfl⟩ rfl rfl rfl rfl rfl (by kernel_rfl) Try.func4 (by kernel_rfl)
    (of_decide_eq_true (by kernel_rfl)) (by unfold Func.isWrapper; first | (rw [if_pos (by decide +kernel)]; kernel_rfl) | (rw [if_neg (by decide +kernel)]; exact ⟨rfl, rfl⟩))
    (fun os started H enc _ => lifted os started H enc)

theorem proved : Rows.DynamicFindsSaid := over
#print axioms proved
end Go.Proofs.Ytdminnhfgdoibaa.dynamicFinds
