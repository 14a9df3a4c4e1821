/- The reference's sym. Conditions: as each says. The reference's chain. Conditions: as each says. The reference's may. Conditions: as each says. The reference's strings. Conditions: as each says. The reference's entries. Conditions: as each says. -/
import Derived.Test.YtdminnhfgdoibaaDyK4
import Derived.Test.YtdminnhfgdoibaaDyK2
import Derived.Test.YtdminnhfgdoibaaDyK3
import Derived.Test.YtdminnhfgdoibaaDyK1
namespace Go.Proofs.Ytdminnhfgdoibaa
set_option linter.unusedVariables false
set_option linter.unusedSimpArgs false
open Go.RowKit

set_option maxRecDepth 100000 in
set_option maxHeartbeats 4000000 in
theorem rsym_any (th : Bool) (At : Option Addr) (mt ct B : Nat) (t : List UInt8) (A : Option Addr) (m c : Nat) (b : List UInt8) (i : Nat) (w : World) (hB : B ≤ w.heap.size) (hT : Rd w B 1 At mt (bys t)) (hmt : mt ≤ 4294967296) (hmc : mt ≤ ct) (hth : th = false → mt = 0) (h : Rd w B 1 A m (bys b)) (hm : m ≤ 4294967296) (hi : 24 * i + 24 ≤ m) :
    Calls Try.prog 44 #[.agg #[.bool th, .slice At mt ct], .slice A m c, .int .u64 (i : Nat)] w (syRowE (Dy.symAt t b (24 * i)) w) := by
  have e1 : (w.alloc (.cells #[.bool th, .slice At mt ct] 95)).heap.size = w.heap.size + 1 := by simp
  have hB0 : Below w.heap.size w ((w.alloc (.cells #[.bool th, .slice At mt ct] 95)).alloc (.cells #[.string ⟨#[]⟩, .int .u64 0, .int .u64 0, .int .u8 0, .bool false] 46)) := ((Below.refl _ _).alloc (Nat.le_refl _) _).alloc (by rw [e1]; omega) _
  have hK0 := Blk.new (w.alloc (.cells #[.bool th, .slice At mt ct] 95)) 46 [.string ⟨#[]⟩, .int .u64 0, .int .u64 0, .int .u8 0, .bool false]
  rw [e1] at hK0
  have hQ0 := (Blk.new w 95 [.bool th, .slice At mt ct]).alloc (.cells #[.string ⟨#[]⟩, .int .u64 0, .int .u64 0, .int .u8 0, .bool false] 46)
  have KN := fun (p s : Nat) (hs : s = 1 ∨ s = 2 ∨ s = 4 ∨ s = 8) (hin : p + s ≤ m) w' (hb : Below w.heap.size w w') => rnumber_any A m c B b p s w' (h.below (hb.mono hB)) hm hs hin
  have KT := fun (q : Nat) (hq : q < 18446744073709551616) w' (hb : Below w.heap.size w w') => rtext_any th At mt ct B t q w' (Nat.le_trans hB hb.size) (hT.below (hb.mono hB)) hmt hmc hth hq
  obtain ⟨p, hp⟩ : ∃ p, 24 * i = p := ⟨_, rfl⟩
  have hpI : (24 : Int) * (i : Int) = (p : Int) := by omega
  have hpW : IntKind.u64.wrap (p : Int) = (p : Int) := by rw [IntKind.wrap_u64]; omega
  rw [hp] at hi ⊢
  have c4 : ((p + 4 : Nat) : Int) = (p : Int) + 4 := by omega
  have c6 : ((p + 6 : Nat) : Int) = (p : Int) + 6 := by omega
  have c8 : ((p + 8 : Nat) : Int) = (p : Int) + 8 := by omega
  have c16 : ((p + 16 : Nat) : Int) = (p : Int) + 16 := by omega
  have w4 : IntKind.u64.wrap ((p : Int) + 4) = (p : Int) + 4 := by rw [IntKind.wrap_u64]; omega
  have w6 : IntKind.u64.wrap ((p : Int) + 6) = (p : Int) + 6 := by rw [IntKind.wrap_u64]; omega
  have w8 : IntKind.u64.wrap ((p : Int) + 8) = (p : Int) + 8 := by rw [IntKind.wrap_u64]; omega
  have w16 : IntKind.u64.wrap ((p : Int) + 16) = (p : Int) + 16 := by rw [IntKind.wrap_u64]; omega
  have k0 : ∀ w', Below w.heap.size w w' → Calls Try.prog 45 #[.slice A m c, .int .u64 (p : Nat), .int .i64 4] w' (fun e w2 => e = .returned (.int .u64 (Wd.num b p 4 : Nat)) ∧ w' = w2) := fun w' hb => KN p 4 (by omega) (by omega) w' hb
  have k4 := fun w' hb => KN (p + 4) 1 (by omega) (by omega) w' hb
  have k6 := fun w' hb => KN (p + 6) 2 (by omega) (by omega) w' hb
  have k8 := fun w' hb => KN (p + 8) 8 (by omega) (by omega) w' hb
  have k16 := fun w' hb => KN (p + 16) 8 (by omega) (by omega) w' hb
  rw [c4] at k4
  rw [c6] at k6
  rw [c8] at k8
  rw [c16] at k16
  have hn0 := Wd.num_lt b p 4
  have hn4 := Wd.num_lt b (p + 4) 1
  have hsym : Dy.symAt t b p = match Dy.text t (Wd.num b p 4) with
    | none => none
    | some s => if 2 < Wd.num b (p + 4) 1 / 16 then none else some ⟨s, Wd.num b (p + 8) 8, Wd.num b (p + 16) 8, Wd.num b (p + 4) 1 / 16, decide (Wd.num b (p + 6) 2 ≠ 0)⟩ := rfl
  obtain ⟨x0, hx0⟩ : ∃ x, Wd.num b p 4 = x := ⟨_, rfl⟩
  obtain ⟨y, hy⟩ : ∃ x, Wd.num b (p + 4) 1 = x := ⟨_, rfl⟩
  obtain ⟨n6, hn6⟩ : ∃ x, Wd.num b (p + 6) 2 = x := ⟨_, rfl⟩
  obtain ⟨n8, hn8⟩ : ∃ x, Wd.num b (p + 8) 8 = x := ⟨_, rfl⟩
  obtain ⟨n16, hn16⟩ : ∃ x, Wd.num b (p + 16) 8 = x := ⟨_, rfl⟩
  rw [hx0] at k0 hn0 hsym
  rw [hy] at k4 hn4 hsym
  rw [hn6] at k6 hsym
  rw [hn8] at k8 hsym
  rw [hn16] at k16 hsym
  simp at hn0 hn4
  have j4 : ∀ w', Below w.heap.size w w' → Calls Try.prog 45 #[.slice A m c, .int .u64 ((p : Int) + 4), .int .i64 1] w' (fun e w2 => e = .returned (.int .u64 (y : Nat)) ∧ w' = w2) := k4
  have j6 : ∀ w', Below w.heap.size w w' → Calls Try.prog 45 #[.slice A m c, .int .u64 ((p : Int) + 6), .int .i64 2] w' (fun e w2 => e = .returned (.int .u64 (n6 : Nat)) ∧ w' = w2) := k6
  have j8 : ∀ w', Below w.heap.size w w' → Calls Try.prog 45 #[.slice A m c, .int .u64 ((p : Int) + 8), .int .i64 8] w' (fun e w2 => e = .returned (.int .u64 (n8 : Nat)) ∧ w' = w2) := k8
  have j16 : ∀ w', Below w.heap.size w w' → Calls Try.prog 45 #[.slice A m c, .int .u64 ((p : Int) + 16), .int .i64 8] w' (fun e w2 => e = .returned (.int .u64 (n16 : Nat)) ∧ w' = w2) := k16
  have hyw : IntKind.u8.wrap ((y : Int) / 16) = (y : Int) / 16 := by rw [IntKind.wrap_u8]; omega
  have K0 := hide k0
  have K4 := hide j4
  have K6 := hide j6
  have K8 := hide j8
  have K16 := hide j16
  have KTx := hide (fun w' hb => KT x0 (by omega) w' hb)
  have HB0 := hide hB0
  have HK0 := hide hK0
  have HQ0 := hide hQ0
  have Hsym := hide hsym
  have HC : Hid (∀ V : World, Blk V w.heap.size 95 [.bool th, .slice At mt ct] → V.cell? ⟨w.heap.size, 0, none⟩ = some (.bool th) ∧ V.cell? ⟨w.heap.size, 1, none⟩ = some (.slice At mt ct)) := hide (fun V h => ⟨h.cell (i := 0) rfl, h.cell (i := 1) rfl⟩)
  clear hT h KN KT k0 k4 k6 k8 k16 j4 j6 j8 j16 hB0 hK0 hQ0 hsym hx0 hy hn6 hn8 hn16 c4 c6 c8 c16 e1 hp
  go_enter Try.func44, Try.ntmps44
  go_wp2_with fail
  refine wp_region_held_drew (S := fun V => V.cell? ⟨w.heap.size, 0, none⟩ = some (.bool th) ∧ V.cell? ⟨w.heap.size, 1, none⟩ = some (.slice At mt ct)) (by kernel_rfl) ((unhide HC) _ (unhide HQ0).drew) (fun HS0 => ?_)
  refine takeD (i := 0) (d := some 15) (v := ?_) rfl rfl (by kernel_rfl) (by kernel_rfl) (by kernel_rfl) (fun _ _ _ h => h) (Or.inl ⟨by rfl, ?y0⟩) HS0 ?_
  case y0 => (intro w' hSw; (try dsimp only at hSw); go_simp; (try with_reducible rfl))
  simp only [Act.put, List.setIfInBounds_toArray, List.set_cons_zero, List.set_cons_succ]
  refine takeD (i := 1) (d := some 16) (v := ?_) rfl rfl (by kernel_rfl) (by kernel_rfl) (by kernel_rfl) (fun _ _ _ h => h) (Or.inl ⟨by rfl, ?y1⟩) HS0 ?_
  case y1 => (intro w' hSw; (try dsimp only at hSw); go_simp; (try with_reducible rfl))
  simp only [Act.put, List.setIfInBounds_toArray, List.set_cons_zero, List.set_cons_succ]
  refine takeD (i := 2) (d := some 17) (v := ?_) rfl rfl (by kernel_rfl) (by kernel_rfl) (by kernel_rfl) (fun _ _ _ h => h) (Or.inl ⟨by rfl, ?y2⟩) HS0 ?_
  case y2 => (intro w' hSw; (try dsimp only at hSw); go_simp; (try with_reducible rfl))
  simp only [Act.put, List.setIfInBounds_toArray, List.set_cons_zero, List.set_cons_succ]
  refine wpAnyH_ready (rs := [3]) (by kernel_rfl) (by simp) ?_
  refine AllReadyH.cons (i := 3) rfl (fun K hK => ?_) AllReadyH.nil
  rw [if_pos (by rfl)]
  go_simp
  go_at_call 45
  with_reducible refine ((unhide K0) _ (below_drew' (unhide HB0))).mono ?_
  rintro e w1 ⟨rfl, rfl⟩
  refine hK.out _ _ ((unhide HC) _ (unhide HQ0).drew) (fun hHeld => ?_)
  clear hK K HS0
  have HS0 := hHeld
  clear hHeld
  (try simp only [Act.put, List.setIfInBounds_toArray, List.set_cons_zero, List.set_cons_succ])
  refine wpAnyH_ready (rs := [4]) (by kernel_rfl) (by simp) ?_
  refine AllReadyH.cons (i := 4) rfl (fun K hK => ?_) AllReadyH.nil
  rw [if_pos (by rfl)]
  go_simp
  go_at_call 64
  with_reducible refine ((unhide KTx) _ (below_drew' (unhide HB0))).mono ?_
  rintro e w2 ⟨nm, tb, rfl, htx, hb2⟩
  have HB2 := hide ((below_drew' (unhide HB0)).trans (hb2.mono (below_drew' (unhide HB0)).size))
  have HK2 := hide ((unhide HK0).drew.belowSz hb2)
  have HQ2 := hide ((unhide HQ0).drew.belowSz hb2)
  have Htx := hide htx
  clear hb2 htx KTx K0
  refine hK.out _ _ ((unhide HC) _ (unhide HQ2)) (fun hHeld => ?_)
  clear hK K HS0
  have HS0 := hHeld
  clear hHeld
  (try simp only [Act.put, List.setIfInBounds_toArray, List.set_cons_zero, List.set_cons_succ])
  refine takeD (i := 5) (d := some 14) (v := ?_) rfl rfl (by kernel_rfl) (by kernel_rfl) (by kernel_rfl) (fun _ _ _ h => h) (Or.inl ⟨by rfl, ?y5⟩) HS0 ?_
  case y5 => (intro w' hSw; (try dsimp only at hSw); go_simp; (try with_reducible rfl))
  simp only [Act.put, List.setIfInBounds_toArray, List.set_cons_zero, List.set_cons_succ]
  refine takeD (i := 6) (d := some 20) (v := ?_) rfl rfl (by kernel_rfl) (by kernel_rfl) (by kernel_rfl) (fun _ _ _ h => h) (Or.inl ⟨by rfl, ?y6⟩) HS0 ?_
  case y6 => (intro w' hSw; (try dsimp only at hSw); go_simp; (try with_reducible rfl))
  simp only [Act.put, List.setIfInBounds_toArray, List.set_cons_zero, List.set_cons_succ]
  refine takeD (i := 7) (d := some 21) (v := ?_) rfl rfl (by kernel_rfl) (by kernel_rfl) (by kernel_rfl) (fun _ _ _ h => h) (Or.inl ⟨by rfl, ?y7⟩) HS0 ?_
  case y7 => (intro w' hSw; (try dsimp only at hSw); go_simp; (try with_reducible rfl))
  simp only [Act.put, List.setIfInBounds_toArray, List.set_cons_zero, List.set_cons_succ]
  refine takeD (i := 8) (d := some 9) (v := ?_) rfl rfl (by kernel_rfl) (by kernel_rfl) (by kernel_rfl) (fun _ _ _ h => h) (Or.inl ⟨by rfl, ?y8⟩) HS0 ?_
  case y8 => (intro w' hSw; (try dsimp only at hSw); go_simp; (try with_reducible rfl))
  simp only [Act.put, List.setIfInBounds_toArray, List.set_cons_zero, List.set_cons_succ]
  refine takeD (i := 9) (d := some 10) (v := ?_) rfl rfl (by kernel_rfl) (by kernel_rfl) (by kernel_rfl) (fun _ _ _ h => h) (Or.inl ⟨by rfl, ?y9⟩) HS0 ?_
  case y9 => (intro w' hSw; (try dsimp only at hSw); go_simp; (try with_reducible rfl))
  simp only [Act.put, List.setIfInBounds_toArray, List.set_cons_zero, List.set_cons_succ]
  refine wpAnyH_done (by kernel_rfl) ?_ _
  clear HS0 HC HB0 HK0 HQ0 HQ2 hpI hpW
  go_wp2_with fail
  refine ((unhide K4) _ (unhide HB2)).mono ?_
  rintro e w3 ⟨rfl, rfl⟩
  clear K4
  cases tb
  · go_wp2_with ((with_reducible refine (@id (wpList _ _ _ (Oper.mk none (Op.store 46 (.tmp 6) (.tmp 34)) _ _ _ none :: _) _ _) ?_)); refine wpList_store_row rfl 46 (.tmp 6) (.tmp 34) rfl (w.heap.size + 1) #[.string ⟨#[]⟩, .int .u64 0, .int .u64 0, .int .u8 0, .bool false] rfl rfl 46 _ (unhide HK2) syInfo rfl (by simp [Value.oneCell']) ?_)
    refine bodyPost_ret (results_cell_tmp (P := Try.prog) rfl _ _ (w.heap.size + 1) 46 #[.string ⟨#[]⟩, .int .u64 0, .int .u64 0, .int .u8 0, .bool false] (0, 0) _ rfl (setRow_heap _ _ _ _ _ _ (unhide HK2)) Try.underlying46 rfl syInfo) rfl ?_
    refine ⟨below_setRow (unhide HB2) (Nat.le_succ _) _, ?_⟩
    rcases unhide Htx with ⟨h0, -⟩ | ⟨-, h0⟩
    · cases h0
    · rw [unhide Hsym, h0]
      exact ⟨_, _, _, _, _, rfl⟩
  have htx : Dy.text t x0 = some nm := by
    rcases unhide Htx with ⟨-, h0⟩ | ⟨h0, -⟩
    · exact h0
    · cases h0
  have hs := unhide Hsym
  rw [htx] at hs
  dsimp only at hs
  by_cases h2 : 2 < y / 16
  · have h2I : (2 : Int) < (y : Int) / 16 := by omega
    rw [if_pos h2] at hs
    have Hs := hide hs
    clear hs htx Htx Hsym
    go_wp2_with ((with_reducible refine (@id (wpList _ _ _ (Oper.mk none (Op.store 46 (.tmp 6) (.tmp 34)) _ _ _ none :: _) _ _) ?_)); refine wpList_store_row rfl 46 (.tmp 6) (.tmp 34) rfl (w.heap.size + 1) #[.string ⟨#[]⟩, .int .u64 0, .int .u64 0, .int .u8 0, .bool false] rfl rfl 46 _ (unhide HK2) syInfo rfl (by simp [Value.oneCell']) ?_)
    refine bodyPost_ret (results_cell_tmp (P := Try.prog) rfl _ _ (w.heap.size + 1) 46 #[.string ⟨#[]⟩, .int .u64 0, .int .u64 0, .int .u8 0, .bool false] (0, 0) _ rfl (setRow_heap _ _ _ _ _ _ (unhide HK2)) Try.underlying46 rfl syInfo) rfl ?_
    refine ⟨below_setRow (unhide HB2) (Nat.le_succ _) _, ?_⟩
    rw [unhide Hs]
    exact ⟨_, _, _, _, _, rfl⟩
  have h2I : ¬ (2 : Int) < (y : Int) / 16 := by omega
  rw [if_neg h2] at hs
  have Hs := hide hs
  clear hs htx Htx Hsym
  go_wp2_with fail
  refine ((unhide K8) _ (unhide HB2)).mono ?_
  rintro e w4 ⟨rfl, rfl⟩
  go_wp2_with fail
  refine ((unhide K16) _ (unhide HB2)).mono ?_
  rintro e w5 ⟨rfl, rfl⟩
  go_wp2_with fail
  refine ((unhide K6) _ (unhide HB2)).mono ?_
  rintro e w7 ⟨rfl, rfl⟩
  clear K8 K16 K6
  go_wp2_with ((with_reducible refine (@id (wpList _ _ _ (Oper.mk none (Op.store 46 (.tmp 6) (.tmp 50)) _ _ _ none :: _) _ _) ?_)); refine wpList_store_row rfl 46 (.tmp 6) (.tmp 50) rfl (w.heap.size + 1) #[.string nm, .int .u64 (n8 : Nat), .int .u64 (n16 : Nat), .int .u8 ((y : Int) / 16), .bool ((n6 : Int) != 0)] rfl rfl 46 _ (unhide HK2) syInfo rfl (by simp [Value.oneCell']) ?_)
  refine bodyPost_ret (results_cell_tmp (P := Try.prog) rfl _ _ (w.heap.size + 1) 46 #[.string nm, .int .u64 (n8 : Nat), .int .u64 (n16 : Nat), .int .u8 ((y : Int) / 16), .bool ((n6 : Int) != 0)] (0, 0) _ rfl (setRow_heap _ _ _ _ _ _ (unhide HK2)) Try.underlying46 rfl syInfo) rfl ?_
  refine ⟨below_setRow (unhide HB2) (Nat.le_succ _) _, ?_⟩
  rw [unhide Hs]
  have hb6 : ((n6 : Int) != 0) = decide (n6 ≠ 0) := by by_cases h : n6 = 0 <;> simp [h] <;> omega
  dsimp only
  rw [← hb6]
  rfl
end Go.Proofs.Ytdminnhfgdoibaa
namespace Go.Proofs.Ytdminnhfgdoibaa
set_option linter.unusedVariables false
set_option linter.unusedSimpArgs false
open Go.RowKit

set_option maxRecDepth 100000 in
set_option maxHeartbeats 4000000 in
theorem rchain13_any (B : Nat) (b : List UInt8) (N : Dy.Names) (Ah : Option Addr) (nh ch : Nat) (A4 : Option Addr) (c4 : Nat) (name : ByteArray) (w : World) (hB : B ≤ w.heap.size) (h : NmM w B b N Ah nh ch A4 c4) (hname : name.size ≤ 4294967296) (hbn : b.length ≤ 4294967296) :
    Calls Try.prog 26 #[.agg #[.int .u64 (N.buckets : Nat), .int .u64 (N.chain : Nat), .slice Ah nh ch, .slice A4 (24 * N.chain) c4], .string name] w (LinksE (Dy.links b N name.data.toList) w) := by
  obtain ⟨hfb, hfc⟩ := h.fit
  have KN := fun (hb0 : 0 < N.buckets) (q : Nat) (hq : q + 4 ≤ 8 + 4 * N.buckets + 4 * N.chain) (w' : World) (hb : Below w.heap.size w w') => (rnumber_any Ah nh ch B (Dy.cut b N.hash nh) q 4 w' (((h.h hb0).2).below (hb.mono hB)) (by have := (h.h hb0).2.1; unfold bys Dy.cut at this; simp at this; omega) (by omega) (by have := (h.h hb0).1; omega)).mono (fun e w2 h => (⟨h.1, h.2 ▸ Below.refl _ _⟩ : e = .returned (.int .u64 (Wd.num (Dy.cut b N.hash nh) q 4 : Nat)) ∧ Below w'.heap.size w' w2))
  have hcn := fun (hb0 : 0 < N.buckets) (q : Nat) (hq : q + 4 ≤ 8 + 4 * N.buckets + 4 * N.chain) => cut_num (b := b) (p := N.hash) (n := nh) (q := q) (s := 4) (by have := (h.h hb0).1; omega)
  have KK : ∀ (hb0 : 0 < N.buckets) (q : Nat) (hq : q + 4 ≤ 8 + 4 * N.buckets + 4 * N.chain) (w' : World) (hb : Below w.heap.size w w'), Calls Try.prog 45 #[.slice Ah nh ch, .int .u64 (q : Nat), .int .i64 4] w' (fun e w2 => e = .returned (.int .u64 (Wd.num b (N.hash + q) 4 : Nat)) ∧ Below w'.heap.size w' w2) := by
    intro hb0 q hq w' hb
    rw [← hcn hb0 q hq]
    exact KN hb0 q hq w' hb
  have hlk : Dy.links b N name.data.toList = if N.buckets = 0 then ([], true) else Dy.linksFrom b N N.chain (Wd.num b (N.hash + (8 + 4 * (Dy.hash name.data.toList % N.buckets))) 4) := by
    unfold Dy.links
    rw [← Nat.add_assoc]
  obtain ⟨R, hR⟩ : ∃ R, Dy.links b N name.data.toList = R := ⟨_, rfl⟩
  rw [hR] at hlk ⊢
  have hzero := fun k => Dy.links_zero (b := b) (n := N) k
  have hout := fun (i : Nat) (h1 : ¬ i = 0) (h2 : N.chain ≤ i) (k : Nat) => Dy.links_out (b := b) (n := N) h1 h2 k
  have hon := fun (i k : Nat) (h1 : ¬ i = 0) (h2 : ¬ N.chain ≤ i) => Dy.links_on (b := b) (n := N) (k := k) h1 h2
  have hend := fun (i : Nat) (h1 : ¬ i = 0) => show Dy.linksFrom b N 0 i = ([], false) by rw [Dy.linksFrom, decide_eq_false h1]
  simp only [Nat.add_assoc] at hon
  obtain ⟨F, hF⟩ : ∃ F, Dy.linksFrom b N = F := ⟨_, rfl⟩
  rw [hF] at hlk hzero hout hon hend
  obtain ⟨bk, chn, ho, so⟩ := N
  dsimp only at *
  obtain ⟨sl, hsl⟩ : ∃ x, 24 * chn = x := ⟨_, rfl⟩
  rw [hsl]
  obtain ⟨hv, hhv⟩ : ∃ x, Dy.hash name.data.toList = x := ⟨_, rfl⟩
  have KH := fun w' => (rhash_any name w' hname).mono (fun e w2 h => (⟨h.1, h.2 ▸ Below.refl _ _⟩ : e = .returned (.int .u32 (Dy.hash name.data.toList : Nat)) ∧ Below w'.heap.size w' w2))
  rw [hhv] at hlk KH
  have hhl : hv < 4294967296 := by rw [← hhv]; have := Dy.hash_lt name.data.toList; omega
  have HKK := hide KK
  have HKH := hide KH
  have Hlk := hide hlk
  have Hzero := hide hzero
  have Hout := hide hout
  have Hon := hide hon
  have Hend := hide hend
  have HB0 : Hid (Below w.heap.size w (w.alloc (.cells #[.int .u64 (bk : Nat), .int .u64 (chn : Nat), .slice Ah nh ch, .slice A4 sl c4] 67))) := hide ((Below.refl _ _).alloc (Nat.le_refl _) _)
  have HK0 : Hid (Blk (w.alloc (.cells #[.int .u64 (bk : Nat), .int .u64 (chn : Nat), .slice Ah nh ch, .slice A4 sl c4] 67)) w.heap.size 67 [.int .u64 (bk : Nat), .int .u64 (chn : Nat), .slice Ah nh ch, .slice A4 sl c4]) := hide (Blk.new w 67 [.int .u64 (bk : Nat), .int .u64 (chn : Nat), .slice Ah nh ch, .slice A4 sl c4])
  have HC : Hid (∀ W : World, Blk W w.heap.size 67 [.int .u64 (bk : Nat), .int .u64 (chn : Nat), .slice Ah nh ch, .slice A4 sl c4] → W.cell? ⟨w.heap.size, 0, none⟩ = some (.int .u64 (bk : Nat)) ∧ W.cell? ⟨w.heap.size, 1, none⟩ = some (.int .u64 (chn : Nat)) ∧ W.cell? ⟨w.heap.size, 2, none⟩ = some (.slice Ah nh ch)) := hide (fun W h => ⟨h.cell (i := 0) rfl, h.cell (i := 1) rfl, h.cell (i := 2) rfl⟩)
  obtain ⟨x0, x1, x2⟩ := (unhide HC) _ (unhide HK0)
  clear h KN hcn KK hlk hzero hout hon hend hF hsl hhv KH hR
  by_cases hbk : bk = 0
  case pos =>
    have hr := unhide Hlk
    rw [if_pos hbk] at hr
    have HR := hide hr
    have hbI : (bk : Int) = 0 := by omega
    clear hr Hlk HKK HKH Hzero Hout Hon Hend HC
    go_enter Try.func26, Try.ntmps26
    go_wp2_with fail
    go_ret2
    refine linksE_mk (l := []) (unhide HR) (World.ownsRow_nil _ _ _ _) ?_
    exact (Below.refl _ _).alloc (Nat.le_refl _) _
  have hr := unhide Hlk
  rw [if_neg hbk] at hr
  have hbI : ¬ (bk : Int) = 0 := by omega
  have hbp : 0 < bk := by omega
  obtain ⟨v, hv2⟩ : ∃ x, hv % bk = x := ⟨_, rfl⟩
  have hvl : v < bk := by rw [← hv2]; exact Nat.mod_lt _ hbp
  rw [hv2] at hr
  have m1 : (hv : Int) % (bk : Int) = (v : Int) := by rw [← hv2]; simp
  have m2 : (hv : Int).tmod (bk : Int) = (v : Int) := by rw [← hv2]; exact Int.ofNat_tmod _ _ |>.symm ▸ rfl
  have wh : IntKind.u64.wrap (hv : Int) = (hv : Int) := by rw [IntKind.wrap_u64]; omega
  have w4 : IntKind.u64.wrap (4 * (v : Int)) = 4 * (v : Int) := by rw [IntKind.wrap_u64]; omega
  have w8 : IntKind.u64.wrap (8 + 4 * (v : Int)) = 8 + 4 * (v : Int) := by rw [IntKind.wrap_u64]; omega
  have k0 := fun w' hb => (unhide HKK) hbp (8 + 4 * v) (by omega) w' hb
  have hcI : ((8 + 4 * v : Nat) : Int) = 8 + 4 * (v : Int) := by omega
  rw [hcI] at k0
  obtain ⟨i0, hi0⟩ : ∃ x, Wd.num b (ho + (8 + 4 * v)) 4 = x := ⟨_, rfl⟩
  rw [hi0] at k0 hr
  have hi0l : i0 < 4294967296 := by rw [← hi0]; have := Wd.num_lt b (ho + (8 + 4 * v)) 4; simpa using this
  have K0 := hide k0
  have HR := hide hr
  clear hr k0 hcI hi0 hv2 Hlk
  go_enter Try.func26, Try.ntmps26
  go_wp2_with fail
  refine wp_region_noPanic ?_
  refine wp_region_held_drew (S := fun w' => w'.cell? ⟨w.heap.size, 0, none⟩ = some (.int .u64 (bk : Nat)) ∧ w'.cell? ⟨w.heap.size, 1, none⟩ = some (.int .u64 (chn : Nat)) ∧ w'.cell? ⟨w.heap.size, 2, none⟩ = some (.slice Ah nh ch)) (by kernel_rfl) ((unhide HC) _ (unhide HK0).drew) (fun HS0 => ?_)
  refine takeD (i := 0) (d := some 11) (v := ?_) rfl rfl (by kernel_rfl) (by kernel_rfl) (by kernel_rfl) (fun _ _ _ h => h) (Or.inl ⟨by rfl, ?y0⟩) HS0 ?_
  case y0 => (intro w' hSw; (try dsimp only at hSw); go_simp; (try with_reducible rfl))
  simp only [Act.put, List.setIfInBounds_toArray, List.set_cons_zero, List.set_cons_succ]
  refine takeD (i := 1) (d := some 12) (v := ?_) rfl rfl (by kernel_rfl) (by kernel_rfl) (by kernel_rfl) (fun _ _ _ h => h) (Or.inl ⟨by rfl, ?y1⟩) HS0 ?_
  case y1 => (intro w' hSw; (try dsimp only at hSw); go_simp; (try with_reducible rfl))
  simp only [Act.put, List.setIfInBounds_toArray, List.set_cons_zero, List.set_cons_succ]
  refine takeD (i := 2) (d := some 13) (v := ?_) rfl rfl (by kernel_rfl) (by kernel_rfl) (by kernel_rfl) (fun _ _ _ h => h) (Or.inl ⟨by rfl, ?y2⟩) HS0 ?_
  case y2 => (intro w' hSw; (try dsimp only at hSw); go_simp; (try with_reducible rfl))
  simp only [Act.put, List.setIfInBounds_toArray, List.set_cons_zero, List.set_cons_succ]
  refine takeD (i := 5) (d := some 16) (v := ?_) rfl rfl (by kernel_rfl) (by kernel_rfl) (by kernel_rfl) (fun _ _ _ h => h) (Or.inl ⟨by rfl, ?y5⟩) HS0 ?_
  case y5 => (intro w' hSw; (try dsimp only at hSw); go_simp; (try with_reducible rfl))
  simp only [Act.put, List.setIfInBounds_toArray, List.set_cons_zero, List.set_cons_succ]
  refine takeD (i := 6) (d := some 17) (v := ?_) rfl rfl (by kernel_rfl) (by kernel_rfl) (by kernel_rfl) (fun _ _ _ h => h) (Or.inl ⟨by rfl, ?y6⟩) HS0 ?_
  case y6 => (intro w' hSw; (try dsimp only at hSw); go_simp; (try with_reducible rfl))
  simp only [Act.put, List.setIfInBounds_toArray, List.set_cons_zero, List.set_cons_succ]
  refine wpAnyH_ready (rs := [3]) (by kernel_rfl) (by simp) ?_
  refine AllReadyH.cons (i := 3) rfl (fun K hK => ?_) AllReadyH.nil
  rw [if_pos (by rfl)]
  go_simp
  go_at_call 13
  with_reducible refine ((unhide HKH) _).mono ?_
  rintro e w1 ⟨rfl, hb1⟩
  have HB1 := hide ((below_drew' (unhide HB0)).trans (hb1.mono (below_drew' (unhide HB0)).size))
  have HK1 := hide ((unhide HK0).drew.belowSz hb1)
  clear hb1
  refine hK.out _ _ ((unhide HC) _ (unhide HK1)) (fun hHeld => ?_)
  clear hK K HS0
  have HS0 := hHeld
  clear hHeld
  (try simp only [Act.put, List.setIfInBounds_toArray, List.set_cons_zero, List.set_cons_succ])
  refine takeD (i := 4) (d := some 15) (v := ?_) rfl rfl (by kernel_rfl) (by kernel_rfl) (by kernel_rfl) (fun _ _ _ h => h) (Or.inl ⟨by rfl, ?y4⟩) HS0 ?_
  case y4 => (intro w' hSw; (try dsimp only at hSw); go_simp; (try with_reducible rfl))
  simp only [Act.put, List.setIfInBounds_toArray, List.set_cons_zero, List.set_cons_succ]
  refine takeD (i := 7) (d := some 18) (v := ?_) rfl rfl (by kernel_rfl) (by kernel_rfl) (by kernel_rfl) (fun _ _ _ h => h) (Or.inl ⟨by rfl, ?y7⟩) HS0 ?_
  case y7 => (intro w' hSw; (try dsimp only at hSw); go_simp; (try with_reducible rfl))
  simp only [Act.put, List.setIfInBounds_toArray, List.set_cons_zero, List.set_cons_succ]
  refine takeD (i := 8) (d := some 19) (v := ?_) rfl rfl (by kernel_rfl) (by kernel_rfl) (by kernel_rfl) (fun _ _ _ h => h) (Or.inl ⟨by rfl, ?y8⟩) HS0 ?_
  case y8 => (intro w' hSw; (try dsimp only at hSw); go_simp; (try with_reducible rfl))
  simp only [Act.put, List.setIfInBounds_toArray, List.set_cons_zero, List.set_cons_succ]
  refine takeD (i := 9) (d := some 20) (v := ?_) rfl rfl (by kernel_rfl) (by kernel_rfl) (by kernel_rfl) (fun _ _ _ h => h) (Or.inl ⟨by rfl, ?y9⟩) HS0 ?_
  case y9 => (intro w' hSw; (try dsimp only at hSw); go_simp; (try with_reducible rfl))
  simp only [Act.put, List.setIfInBounds_toArray, List.set_cons_zero, List.set_cons_succ]
  refine wpAnyH_ready (rs := [10]) (by kernel_rfl) (by simp) ?_
  refine AllReadyH.cons (i := 10) rfl (fun K hK => ?_) AllReadyH.nil
  rw [if_pos (by rfl)]
  go_simp
  go_at_call 45
  with_reducible refine ((unhide K0) _ (unhide HB1)).mono ?_
  rintro e w2 ⟨rfl, hb2⟩
  have HB2 := hide ((unhide HB1).trans (hb2.mono (unhide HB1).size))
  have HK2 := hide ((unhide HK1).belowSz hb2)
  clear hb2
  refine hK.out _ _ ((unhide HC) _ (unhide HK2)) (fun hHeld => ?_)
  clear hK K HS0
  have HS0 := hHeld
  clear hHeld
  (try simp only [Act.put, List.setIfInBounds_toArray, List.set_cons_zero, List.set_cons_succ])
  refine takeD (i := 11) (d := some 7) (v := ?_) rfl rfl (by kernel_rfl) (by kernel_rfl) (by kernel_rfl) (fun _ _ _ h => h) (Or.inl ⟨by rfl, ?y11⟩) HS0 ?_
  case y11 => (intro w' hSw; (try dsimp only at hSw); go_simp; (try with_reducible rfl))
  simp only [Act.put, List.setIfInBounds_toArray, List.set_cons_zero, List.set_cons_succ]
  refine wpAnyH_done (by kernel_rfl) ?_ _
  refine NoPanic.normal ?_
  clear HS0 m1 m2 wh w4 w8 K0 HKH HB1 HK1 HB0 HK0 x0 x1 x2
  go_wp2_with fail
  go_loopg [6, 7] chn (fun gk lv iv wr => ∃ (l : List Nat) (i : Nat) (A : Option Addr) (c : Nat), gk = chn - l.length ∧ l.length ≤ chn ∧ lv = .slice A l.length c ∧ iv = .int .u64 (i : Nat) ∧ i < 4294967296 ∧ wr.ownsRow (w.heap.size + 1) 24 1 (.slice A l.length c) l.length (lkV l) ∧ Below w.heap.size w wr ∧ Blk wr w.heap.size 67 [.int .u64 (bk : Nat), .int .u64 (chn : Nat), .slice Ah nh ch, .slice A4 sl c4] ∧ R = (l ++ (F (chn - l.length) i).1, (F (chn - l.length) i).2))
  case atStart => exact ⟨[], i0, none, 0, rfl, Nat.zero_le _, rfl, rfl, hi0l, World.ownsRow_nil _ _ _ _, unhide HB2, unhide HK2, unhide HR⟩
  case round =>
  obtain ⟨l, i, A, c, hgk, hll, rfl, rfl, hil, hown, hb, hk, hR⟩ := hrel
  obtain ⟨x0, x1, x2⟩ := (unhide HC) _ hk
  have Hown := hide hown
  have HB := hide hb
  have HK := hide hk
  have HR2 := hide hR
  clear hown hb hk hR HR HB2 HK2
  by_cases hi : i = 0
  case pos =>
    have HE : Hid (R = (l, true)) := hide (by have := unhide HR2; rw [hi, (unhide Hzero)] at this; simpa using this)
    have hiI : (i : Int) = 0 := by omega
    clear HR2 Hzero Hout Hon Hend HKK HC hi
    go_wp2_with fail
    go_ret2
    exact linksE_mk (unhide HE) (own_base (unhide Hown) (Nat.le_succ _)) (unhide HB)
  have hiI : ¬ (i : Int) = 0 := by omega
  by_cases hic : chn ≤ i
  case pos =>
    have HE : Hid (R = (l, false)) := hide (by have := unhide HR2; rw [(unhide Hout) i hi hic] at this; simpa using this)
    have hcI : (chn : Int) ≤ (i : Int) := by omega
    clear HR2 Hzero Hout Hon Hend HKK HC hi hic
    go_wp2_with fail
    go_ret2
    exact linksE_mk (unhide HE) (own_base (unhide Hown) (Nat.le_succ _)) (unhide HB)
  have hcI : ¬ (chn : Int) ≤ (i : Int) := by omega
  obtain ⟨m, hm⟩ : ∃ m, l.length = m := ⟨_, rfl⟩
  have Hm := hide hm
  rw [hm] at hll hgk ⊢
  have hO := unhide Hown
  rw [hm] at hO
  have Hown2 := hide hO
  clear hm hO
  have hmw : IntKind.u64.wrap (m : Int) = (m : Int) := by rw [IntKind.wrap_u64]; omega
  by_cases hlc : chn ≤ m
  case pos =>
    have HE : Hid (R = (l, false)) := hide (by have := unhide HR2; rw [unhide Hm, show chn - m = 0 from by omega, (unhide Hend) i hi] at this; simpa using this)
    have hlI : (chn : Int) ≤ (m : Int) := by omega
    clear HR2 Hzero Hout Hon Hend HKK HC hi hic hlc Hown2
    go_wp2_with fail
    go_ret2
    have := linksE_mk (unhide HE) (own_base (unhide Hown) (Nat.le_succ _)) (unhide HB)
    rw [unhide Hm] at this
    exact this
  have hlI : ¬ (chn : Int) ≤ (m : Int) := by omega
  have hr := unhide HR2
  rw [unhide Hm, show chn - m = (chn - (m + 1)) + 1 from by omega, (unhide Hon) i _ hi hic] at hr
  obtain ⟨i2, hi2⟩ : ∃ x, Wd.num b (ho + (8 + (4 * bk + 4 * i))) 4 = x := ⟨_, rfl⟩
  rw [hi2] at hr
  have hi2l : i2 < 4294967296 := by rw [← hi2]; have := Wd.num_lt b (ho + (8 + (4 * bk + 4 * i))) 4; simpa using this
  have k2 := fun w' hb => (unhide HKK) hbp (8 + (4 * bk + 4 * i)) (by omega) w' hb
  have hcI2 : ((8 + (4 * bk + 4 * i) : Nat) : Int) = 8 + 4 * (bk : Int) + 4 * (i : Int) := by omega
  rw [hcI2, hi2] at k2
  have K2 := hide k2
  have HR3 : Hid (R = ((l ++ [i]) ++ (F (chn - (m + 1)) i2).1, (F (chn - (m + 1)) i2).2)) := hide (by rw [hr]; simp)
  clear hr k2 hcI2 hi2 HR2 Hzero Hout Hon Hend HKK hi hic
  have HB3 : Hid (Below w.heap.size w (wr.alloc (.cells #[.int .u64 (i : Nat)] 24))) := hide ((unhide HB).alloc (unhide HB).size _)
  go_wp2_with (at_builtin; refine wpList_app1g lkTy rfl _ _ rfl (w.heap.size + 1) (.slice A m c) m (lkV l) rfl (unhide Hown2) #[.int .u64 (i : Nat)] _ rfl (by simp) rfl (by intro u hu; simp at hu; subst hu; rfl) (by omega) (unhide HK).lt ?_; intro A3 c3 w3 hown' hgrow hat; have HB4 := hide ((unhide HB).grown hgrow (unhide HB).size (fun k hk => Nat.le_of_succ_le ((unhide Hown2).lt k hk).1)); have HO4 := hide hown'; have HK4 : Hid (Blk w3 w.heap.size 67 [.int .u64 (bk : Nat), .int .u64 (chn : Nat), .slice Ah nh ch, .slice A4 sl c4]) := hide ((hgrow.block _ (unhide HK).lt (fun e => by have := ((unhide Hown2).lt _ e.symm).1; omega)).trans (unhide HK)); obtain ⟨x0', x1', x2'⟩ := (unhide HC) _ (unhide HK4); clear hgrow hat hown' HB3 Hown2)
  refine ((unhide K2) _ (unhide HB4)).mono ?_
  rintro e w4 ⟨rfl, hb4⟩
  have HB5 := hide ((unhide HB4).trans (hb4.mono (unhide HB4).size))
  have HK5 := hide ((unhide HK4).belowSz hb4)
  have HO5 := hide (own_below (unhide HO4) hb4)
  clear hb4 HB4 HK4 HO4 K2 x0' x1' x2'
  go_wp2_with fail
  go_roundg (chn - (m + 1))
  case measure => omega
  case rel =>
    have e1 : (l ++ [i]).length = m + 1 := by rw [List.length_append, unhide Hm]; rfl
    have e2 : lkV (l ++ [i]) = lkV l ++ [.int .u64 (i : Nat)] := by simp [lkV]
    exact ⟨l ++ [i], i2, A3, c3, by rw [e1], by rw [e1]; omega, by rw [e1], rfl, hi2l, by rw [e1, e2]; exact unhide HO5, unhide HB5, unhide HK5, by rw [e1]; exact unhide HR3⟩
end Go.Proofs.Ytdminnhfgdoibaa
namespace Go.Proofs.Ytdminnhfgdoibaa
set_option linter.unusedVariables false
set_option linter.unusedSimpArgs false
open Go.RowKit
namespace Dy
def mayB (b : Bool) (m : Nat) : Int := if b = false then 25 else if 8 < m then 12 else 0
theorem may_bad {L : List (Nat × Nat)} (h : twice L = true) : may L = 25 := by
  unfold may
  rw [if_pos (by unfold fits; rw [h]; rfl)]
theorem may_of {L : List (Nat × Nat)} (h : twice L = false) : may L = mayB ((isV (val L 11) 24 && isV (val L 9) 24 && isV (val L 20) 7) && (pair L 5 10 && pair L 4 6 && pair L 7 8 && pair L 23 2)) (many L) := by
  unfold may mayB fits
  rw [h]
  simp only [Bool.not_false, Bool.true_and, Bool.and_assoc]
theorem isV_cases (o : Option Nat) (v : Nat) : (o = none ∧ isV o v = true) ∨ (o = some v ∧ isV o v = true) ∨ ∃ x, o = some x ∧ x ≠ v ∧ isV o v = false := by
  cases o with
  | none => exact .inl ⟨rfl, rfl⟩
  | some x =>
    by_cases h : x = v
    · exact .inr (.inl ⟨by rw [h], by unfold isV; simp [h]⟩)
    · exact .inr (.inr ⟨x, rfl, h, by unfold isV; simp [h]⟩)
theorem val_no {L : List (Nat × Nat)} {t : Nat} (h : ∀ x ∈ L, x.1 ≠ t) : val L t = none := by
  induction L with
  | nil => rfl
  | cons e r ih =>
    rw [val_cons, if_neg (h e (by simp))]
    exact ih fun x hx => h x (List.mem_cons_of_mem _ hx)
theorem val_take_no {L : List (Nat × Nat)} {i t : Nat} (h : ∀ (a : Nat) (x : Nat × Nat), a < i → L[a]? = some x → x.1 ≠ t) : val (L.take i) t = none := by
  refine val_no fun x hx => ?_
  obtain ⟨a, ha⟩ := List.getElem?_of_mem hx
  rw [List.getElem?_take] at ha
  split at ha
  · exact h a x (by assumption) ha
  · cases ha
theorem val_take_some {L : List (Nat × Nat)} {i a : Nat} {x : Nat × Nat} (h : a < i) (ha : L[a]? = some x) : val (L.take i) x.1 ≠ none := by
  have : (x.1, x.2) ∈ L.take i := List.mem_of_getElem? (i := a) (by rw [List.getElem?_take, if_pos h]; exact ha)
  have := val_isSome this
  intro h2
  rw [h2] at this
  cases this
end Dy
theorem FlM.tag {w : World} {B g : Nat} {f : Fl} (h : FlM w B g f) {b o : Nat} (hA : f.At = some ⟨b, o, none⟩) {j : Nat} {e : Nat × Nat} (hj : f.L[j]? = some e) : w.cell? ⟨b, o + j, none⟩ = some (.int .u64 (e.1 : Nat)) := by
  obtain ⟨b1, o1, -, -, h1, -, h2, -⟩ := h.at_ hj
  rw [hA] at h1
  injection h1 with h1
  injection h1 with h3 h4
  subst h3 h4
  exact h2
set_option maxRecDepth 100000 in
set_option maxHeartbeats 4000000 in
theorem rmay_any (B g : Nat) (f : Fl) (w : World) (h : FlM w B g f) (ho : FlOk f) :
    Calls Try.prog 47 #[.pointer (some ⟨g, 0, none⟩)] w fun e w' => e = .returned (.int .i64 (Dy.may f.L)) ∧ Below w.heap.size w w' := by
  have hlen := h.len
  have hkm := ho.k
  have hent := ho.ent
  have HC : Hid (∀ W, FlM W B g f → W.cell? ⟨g, 5, none⟩ = some (.slice f.At f.k f.ct)) := hide (fun W hW => hW.blk.cell (i := 5) rfl)
  have HT : Hid (∀ W, FlM W B g f → ∀ b o, f.At = some ⟨b, o, none⟩ → ∀ j e, f.L[j]? = some e → W.cell? ⟨b, o + j, none⟩ = some (.int .u64 (e.1 : Nat))) := hide (fun W hW b o hA j e hj => hW.tag hA hj)
  have HA : Hid (∀ W, FlM W B g f → ∀ j e, f.L[j]? = some e → ∃ b o, f.At = some ⟨b, o, none⟩) := hide (fun W hW j e hj => by obtain ⟨b1, o1, -, -, h1, -⟩ := hW.at_ hj; exact ⟨b1, o1, h1⟩)
  have HKV : Hid (∀ t W, FlM W B g f → Calls Try.prog 48 #[.pointer (some ⟨g, 0, none⟩), .int .u64 (t : Nat)] W fun e w' => e = .returned (.tuple #[.int .u64 ((Dy.val f.L t).getD 0 : Nat), .bool (Dy.val f.L t).isSome]) ∧ W = w') := hide (fun t W hW => rvalue_any B g f t W hW ho.k)
  have HKB : Hid (∀ s t W, FlM W B g f → Calls Try.prog 67 #[.pointer (some ⟨g, 0, none⟩), .int .u64 (s : Nat), .int .u64 (t : Nat)] W fun e w' => e = .returned (.bool (Dy.pair f.L s t)) ∧ W = w') := hide (fun s t W hW => rboth_any B g f s t W hW ho.k)
  obtain ⟨L, hL⟩ : ∃ L, f.L = L := ⟨_, rfl⟩
  obtain ⟨k, hk⟩ : ∃ k, f.k = k := ⟨_, rfl⟩
  obtain ⟨ct, hct⟩ : ∃ k, f.ct = k := ⟨_, rfl⟩
  obtain ⟨At, hAt⟩ : ∃ A, f.At = A := ⟨_, rfl⟩
  rw [hL, hk] at hlen
  rw [hk] at hkm
  rw [hL] at hent
  rw [hk, hct, hAt] at HC
  rw [hAt, hL] at HT HA
  rw [hL] at HKV HKB
  rw [hL]
  obtain ⟨R, hR⟩ : ∃ R, Dy.may L = R := ⟨_, rfl⟩
  rw [hR]
  have HF := hide h
  have HR := hide hR
  have Hlen := hide hlen
  have x5 := (unhide HC) _ h
  clear h ho hlen hent hL hk hct hAt hR
  go_enter Try.func47, Try.ntmps47
  go_wp2_with fail
  go_loopg [3, 4] k (fun gk mv iv wr => ∃ i : Nat, gk = k - i ∧ i ≤ k ∧ mv = .int .i64 (Dy.many (L.take i) : Nat) ∧ iv = .int .i64 i ∧ FlM wr B g f ∧ Below w.heap.size w wr ∧ (∀ (a : Nat) (e : Nat × Nat), a < i → L[a]? = some e → Dy.once e.1 = true → Dy.val (L.take a) e.1 = none))
  case atStart => exact ⟨0, rfl, Nat.zero_le _, rfl, rfl, unhide HF, Below.refl _ _, fun a e h => absurd h (Nat.not_lt_zero _)⟩
  case round =>
  obtain ⟨i, hgk, hi, rfl, rfl, hf, hb, hno⟩ := hrel
  have x5 := (unhide HC) _ hf
  have HF2 := hide hf
  have HB2 := hide hb
  have Hno := hide hno
  have hml := Dy.many_le (L.take i)
  obtain ⟨m, hm⟩ : ∃ m, Dy.many (L.take i) = m := ⟨_, rfl⟩
  rw [hm] at hml ⊢
  have hml2 : m ≤ k := by rw [List.length_take] at hml; omega
  have Hm := hide hm
  clear hf hb hno HF hml hm
  by_cases hlt : i < k
  case neg =>
    have ige : ¬ (i : Int) < (k : Int) := by omega
    have htk : L.take i = L := List.take_of_length_le (by rw [unhide Hlen]; omega)
    have htw : Dy.twice L = false := Dy.twice_no (fun a e hae hon => (unhide Hno) a e (by have := (List.getElem?_eq_some_iff.1 hae).1; rw [unhide Hlen] at this; omega) hae hon)
    have hr : Dy.mayB ((Dy.isV (Dy.val L 11) 24 && Dy.isV (Dy.val L 9) 24 && Dy.isV (Dy.val L 20) 7) && (Dy.pair L 5 10 && Dy.pair L 4 6 && Dy.pair L 7 8 && Dy.pair L 23 2)) m = R := by
      rw [← unhide HR, Dy.may_of htw, ← unhide Hm, htk]
    have k11 := (unhide HKV) 11 wr (unhide HF2)
    have k9 := (unhide HKV) 9 wr (unhide HF2)
    have k20 := (unhide HKV) 20 wr (unhide HF2)
    have p1 := (unhide HKB) 5 10 wr (unhide HF2)
    have p2 := (unhide HKB) 4 6 wr (unhide HF2)
    have p3 := (unhide HKB) 7 8 wr (unhide HF2)
    have p4 := (unhide HKB) 23 2 wr (unhide HF2)
    obtain ⟨q1, hq1⟩ : ∃ q, Dy.pair L 5 10 = q := ⟨_, rfl⟩
    obtain ⟨q2, hq2⟩ : ∃ q, Dy.pair L 4 6 = q := ⟨_, rfl⟩
    obtain ⟨q3, hq3⟩ : ∃ q, Dy.pair L 7 8 = q := ⟨_, rfl⟩
    obtain ⟨q4, hq4⟩ : ∃ q, Dy.pair L 23 2 = q := ⟨_, rfl⟩
    rw [hq1] at p1 hr
    rw [hq2] at p2 hr
    rw [hq3] at p3 hr
    rw [hq4] at p4 hr
    have P1 : Hid (Calls Try.prog 67 #[.pointer (some ⟨g, 0, none⟩), .int .u64 5, .int .u64 10] wr fun e w' => e = .returned (.bool q1) ∧ wr = w') := hide p1
    have P2 : Hid (Calls Try.prog 67 #[.pointer (some ⟨g, 0, none⟩), .int .u64 4, .int .u64 6] wr fun e w' => e = .returned (.bool q2) ∧ wr = w') := hide p2
    have P3 : Hid (Calls Try.prog 67 #[.pointer (some ⟨g, 0, none⟩), .int .u64 7, .int .u64 8] wr fun e w' => e = .returned (.bool q3) ∧ wr = w') := hide p3
    have P4 : Hid (Calls Try.prog 67 #[.pointer (some ⟨g, 0, none⟩), .int .u64 23, .int .u64 2] wr fun e w' => e = .returned (.bool q4) ∧ wr = w') := hide p4
    have hc11 := Dy.isV_cases (Dy.val L 11) 24
    have hc9 := Dy.isV_cases (Dy.val L 9) 24
    have hc20 := Dy.isV_cases (Dy.val L 20) 7
    obtain ⟨o11, ho11⟩ : ∃ q, Dy.val L 11 = q := ⟨_, rfl⟩
    obtain ⟨o9, ho9⟩ : ∃ q, Dy.val L 9 = q := ⟨_, rfl⟩
    obtain ⟨o20, ho20⟩ : ∃ q, Dy.val L 20 = q := ⟨_, rfl⟩
    rw [ho11] at k11 hr hc11
    rw [ho9] at k9 hr hc9
    rw [ho20] at k20 hr hc20
    obtain ⟨z11, hz11⟩ : ∃ q, Dy.isV o11 24 = q := ⟨_, rfl⟩
    obtain ⟨z9, hz9⟩ : ∃ q, Dy.isV o9 24 = q := ⟨_, rfl⟩
    obtain ⟨z20, hz20⟩ : ∃ q, Dy.isV o20 7 = q := ⟨_, rfl⟩
    rw [hz11] at hr hc11
    rw [hz9] at hr hc9
    rw [hz20] at hr hc20
    have K11 : Hid (Calls Try.prog 48 #[.pointer (some ⟨g, 0, none⟩), .int .u64 11] wr fun e w' => e = .returned (.tuple #[.int .u64 (o11.getD 0 : Nat), .bool o11.isSome]) ∧ wr = w') := hide k11
    have K9 : Hid (Calls Try.prog 48 #[.pointer (some ⟨g, 0, none⟩), .int .u64 9] wr fun e w' => e = .returned (.tuple #[.int .u64 (o9.getD 0 : Nat), .bool o9.isSome]) ∧ wr = w') := hide k9
    have K20 : Hid (Calls Try.prog 48 #[.pointer (some ⟨g, 0, none⟩), .int .u64 20] wr fun e w' => e = .returned (.tuple #[.int .u64 (o20.getD 0 : Nat), .bool o20.isSome]) ∧ wr = w') := hide k20
    have HR3 := hide hr
    have Hc11 := hide hc11
    have Hc9 := hide hc9
    have Hc20 := hide hc20
    clear k11 k9 k20 p1 p2 p3 p4 hq1 hq2 hq3 hq4 ho11 ho9 ho20 hz11 hz9 hz20 hc11 hc9 hc20 hr htk htw HR Hno HKV HKB HT HA HC Hm
    go_wp2_with fail
    refine (unhide K11).mono ?_
    rintro e w1 ⟨rfl, rfl⟩
    go_wp2_with fail
    refine (unhide K9).mono ?_
    rintro e w2 ⟨rfl, rfl⟩
    go_wp2_with fail
    refine (unhide K20).mono ?_
    rintro e w3 ⟨rfl, rfl⟩
    clear K11 K9 K20
    have hb := unhide HB2
    have HRes : Hid (∀ x, Dy.mayB ((z11 && z9 && z20) && (q1 && q2 && q3 && q4)) m = x → Ending.returned (.int .i64 x) = Ending.returned (.int .i64 R) ∧ Below w.heap.size w wr) := hide (fun x hx => ⟨by rw [← unhide HR3, hx], hb⟩)
    clear hb HB2 HR3 HF2 Hlen ige hlt hgk hi
    rcases unhide Hc11 with ⟨rfl, rfl⟩ | ⟨rfl, rfl⟩ | ⟨x, rfl, hx, rfl⟩
    case inr.inr =>
      have hxI : ¬ (x : Int) = 24 := by omega
      clear hx Hc11 Hc9 Hc20
      simp only [Option.getD_some, Option.isSome_some]
      go_wp2_with fail
      go_ret
      exact (unhide HRes) _ rfl
    all_goals (rcases unhide Hc9 with ⟨rfl, rfl⟩ | ⟨rfl, rfl⟩ | ⟨x, rfl, hx, rfl⟩)
    case inl.inr.inr | inr.inl.inr.inr =>
      have hxI : ¬ (x : Int) = 24 := by omega
      clear hx Hc11 Hc9 Hc20
      simp only [Option.getD_some, Option.isSome_some, Option.getD_none, Option.isSome_none]
      go_wp2_with fail
      go_ret
      exact (unhide HRes) _ rfl
    all_goals (rcases unhide Hc20 with ⟨rfl, rfl⟩ | ⟨rfl, rfl⟩ | ⟨x, rfl, hx, rfl⟩)
    case inl.inl.inr.inr | inl.inr.inl.inr.inr | inr.inl.inl.inr.inr | inr.inl.inr.inl.inr.inr =>
      have hxI : ¬ (x : Int) = 7 := by omega
      clear hx Hc11 Hc9 Hc20
      simp only [Option.getD_some, Option.isSome_some, Option.getD_none, Option.isSome_none]
      go_wp2_with fail
      go_ret
      exact (unhide HRes) _ rfl
    all_goals simp only [Option.getD_some, Option.isSome_some, Option.getD_none, Option.isSome_none]
    all_goals clear Hc11 Hc9 Hc20
    all_goals (go_wp2_with fail)
    all_goals (refine (unhide P1).mono ?_; rintro e w4 ⟨rfl, rfl⟩; cases q1)
    all_goals (go_wp2_with fail)
    all_goals (first | (go_ret; exact (unhide HRes) _ rfl) | skip)
    all_goals (refine (unhide P2).mono ?_; rintro e w5 ⟨rfl, rfl⟩; cases q2)
    all_goals (go_wp2_with fail)
    all_goals (first | (go_ret; exact (unhide HRes) _ rfl) | skip)
    all_goals (refine (unhide P3).mono ?_; rintro e w6 ⟨rfl, rfl⟩; cases q3)
    all_goals (go_wp2_with fail)
    all_goals (first | (go_ret; exact (unhide HRes) _ rfl) | skip)
    all_goals (refine (unhide P4).mono ?_; rintro e w7 ⟨rfl, rfl⟩; cases q4)
    all_goals (by_cases hm8 : 8 < m)
    all_goals (first | have hmI : (8 : Int) < (m : Int) := by omega | have hmI : ¬ (8 : Int) < (m : Int) := by omega)
    all_goals (go_wp2_with fail)
    all_goals go_ret
    all_goals first | exact (unhide HRes) _ rfl | exact (unhide HRes) _ (if_pos hm8) | exact (unhide HRes) _ (if_neg hm8)
  have ilt : (i : Int) < (k : Int) := by omega
  obtain ⟨⟨t, v⟩, he⟩ : ∃ x, L[i]? = some x := ⟨_, List.getElem?_eq_getElem (by rw [unhide Hlen]; exact hlt)⟩
  obtain ⟨b1, o1, hA1⟩ := (unhide HA) wr (unhide HF2) i _ he
  subst hA1
  have c1 : wr.cell? ⟨b1, o1 + i, none⟩ = some (.int .u64 (t : Nat)) := (unhide HT) wr (unhide HF2) b1 o1 rfl i _ he
  have hmt := Dy.many_take he
  rw [unhide Hm] at hmt
  have He := hide he
  obtain ⟨on, hon⟩ : ∃ on, Dy.once t = on := ⟨_, rfl⟩
  have KO := fun w' => ronce_any t w'
  rw [hon] at KO
  have HKO := hide KO
  have Hon := hide hon
  have Hmt := hide hmt
  clear KO hon he HA hmt
  by_cases ht : t = 1
  case pos =>
    have htI1 : (t : Int) = 1 := by omega
    have Hht := hide ht
    clear ht
    go_wp2_with fail
    clear htI1
    go_loopg [5] i (fun gk2 qv wr2 => ∃ q : Nat, gk2 = i - q ∧ q ≤ i ∧ qv = .int .i64 q ∧ FlM wr2 B g f ∧ Below w.heap.size w wr2 ∧ (on = true → ∀ (a : Nat) (x : Nat × Nat), a < q → L[a]? = some x → x.1 ≠ t))
    case atStart => exact ⟨0, rfl, Nat.zero_le _, rfl, unhide HF2, unhide HB2, fun _ a x h => absurd h (Nat.not_lt_zero _)⟩
    case round =>
    obtain ⟨q, hgk2, hq, rfl, hf2, hb2, hno2⟩ := hrel
    have y5 := (unhide HC) _ hf2
    have HF3 := hide hf2
    have HB3 := hide hb2
    have Hno2 := hide hno2
    clear hf2 hb2 hno2 HF2 HB2 c1 x5
    by_cases hlt2 : q < i
    case neg =>
      have ige2 : ¬ (q : Int) < (i : Int) := by omega
      have Hno3 : Hid (∀ (a : Nat) (e : Nat × Nat), a < i + 1 → L[a]? = some e → Dy.once e.1 = true → Dy.val (L.take a) e.1 = none) := hide (fun a e ha hae hoe => by
        by_cases hai : a < i
        · exact (unhide Hno) a e hai hae hoe
        · obtain rfl : a = i := by omega
          rw [unhide He] at hae
          injection hae with hae
          subst hae
          dsimp only at hoe ⊢
          rw [unhide Hon] at hoe
          exact Dy.val_take_no (fun a x ha hx => (unhide Hno2) hoe a x (by omega) hx))
      clear Hno Hno2 HKO HC HT HKV HKB
      go_wp2_with fail
      go_roundg (k - (i + 1))
      case measure => omega
      case rel => exact ⟨i + 1, rfl, by omega, by rw [unhide Hmt]; have ht := unhide Hht; rw [if_pos ht]; go_num, by go_num, unhide HF3, unhide HB3, unhide Hno3⟩
    have ilt2 : (q : Int) < (i : Int) := by omega
    obtain ⟨⟨t2, v2⟩, he2⟩ : ∃ x, L[q]? = some x := ⟨_, List.getElem?_eq_getElem (by rw [unhide Hlen]; omega)⟩
    have y1 : wr.cell? ⟨b1, o1 + i, none⟩ = some (.int .u64 (t : Nat)) := (unhide HT) wr (unhide HF3) b1 o1 rfl i _ (unhide He)
    have y2 : wr.cell? ⟨b1, o1 + q, none⟩ = some (.int .u64 (t2 : Nat)) := (unhide HT) wr (unhide HF3) b1 o1 rfl q _ he2
    have He2 := hide he2
    clear he2
    have hqk : (q : Int) < (k : Int) := by omega
    by_cases htt : t = t2
    case neg =>
      have htB : ((t : Int) == (t2 : Int)) = false := beq_eq_false_iff_ne.2 (by omega)
      have Hno3 : Hid (on = true → ∀ (a : Nat) (x : Nat × Nat), a < q + 1 → L[a]? = some x → x.1 ≠ t) := hide (fun hon a x ha hx => by
        by_cases haq : a < q
        · exact (unhide Hno2) hon a x haq hx
        · obtain rfl : a = q := by omega
          rw [unhide He2] at hx
          injection hx with hx
          subst hx
          exact fun h => htt h.symm)
      clear Hno2
      go_wp2_with fail
      go_quiet (fail)
      have HF4 := hide ((unhide HF3).belowSz (below_drewN' (Below.refl _ _) nq))
      have HB4 := hide (below_drewN' (unhide HB3) nq)
      clear HF3 HB3
      go_wp2_with fail
      go_roundg (i - (q + 1))
      case measure => omega
      case rel => exact ⟨q + 1, rfl, by omega, by go_num, unhide HF4, unhide HB4, unhide Hno3⟩
    subst t2
    go_wp2_with fail
    go_region_held3 (fun w' => w'.cell? ⟨g, 5, none⟩ = some (.slice (some ⟨b1, o1, none⟩) k ct) ∧ w'.cell? ⟨b1, o1 + i, none⟩ = some (.int .u64 (t : Nat)) ∧ w'.cell? ⟨b1, o1 + q, none⟩ = some (.int .u64 (t : Nat))) (first | exact ⟨y5, y1, y2⟩ | exact ⟨z5, z1, z2⟩) ((go_at_call 66; refine ((unhide HKO) _).mono ?_; rintro e w5 ⟨rfl, hb5⟩; have HF4 := hide (((unhide HF3).belowSz (below_drew' (Below.refl _ _))).belowSz hb5); have HB4 := hide ((below_drew' (unhide HB3)).trans (hb5.mono (below_drew' (unhide HB3)).size)); clear hb5; have z5 := (unhide HC) _ (unhide HF4); have z1 := (unhide HT) _ (unhide HF4) b1 o1 rfl i _ (unhide He); have z2 := (unhide HT) _ (unhide HF4) b1 o1 rfl q _ (unhide He2)))
    cases on
    · have Hno3 : Hid (false = true → ∀ (a : Nat) (x : Nat × Nat), a < q + 1 → L[a]? = some x → x.1 ≠ t) := hide (fun h => by cases h)
      clear Hno2 HF3 HB3
      go_wp2_with fail
      go_roundg (i - (q + 1))
      case measure => omega
      case rel => exact ⟨q + 1, rfl, by omega, by go_num, unhide HF4, unhide HB4, unhide Hno3⟩
    · have hr : R = 25 := by
        rw [← unhide HR]
        exact Dy.may_bad (Dy.twice_yes (unhide He) (unhide Hon) (Dy.val_take_some (x := (t, v2)) hlt2 (unhide He2)))
      subst hr
      clear Hno Hno2 HF3 Hmt He He2 HKO HC HT HKV HKB
      go_wp2_with fail
      go_ret
      exact ⟨rfl, unhide HB4⟩
  case neg =>
    have htI1 : ¬ (t : Int) = 1 := by omega
    have Hht := hide ht
    clear ht
    go_wp2_with fail
    clear htI1
    go_loopg [5] i (fun gk2 qv wr2 => ∃ q : Nat, gk2 = i - q ∧ q ≤ i ∧ qv = .int .i64 q ∧ FlM wr2 B g f ∧ Below w.heap.size w wr2 ∧ (on = true → ∀ (a : Nat) (x : Nat × Nat), a < q → L[a]? = some x → x.1 ≠ t))
    case atStart => exact ⟨0, rfl, Nat.zero_le _, rfl, unhide HF2, unhide HB2, fun _ a x h => absurd h (Nat.not_lt_zero _)⟩
    case round =>
    obtain ⟨q, hgk2, hq, rfl, hf2, hb2, hno2⟩ := hrel
    have y5 := (unhide HC) _ hf2
    have HF3 := hide hf2
    have HB3 := hide hb2
    have Hno2 := hide hno2
    clear hf2 hb2 hno2 HF2 HB2 c1 x5
    by_cases hlt2 : q < i
    case neg =>
      have ige2 : ¬ (q : Int) < (i : Int) := by omega
      have Hno3 : Hid (∀ (a : Nat) (e : Nat × Nat), a < i + 1 → L[a]? = some e → Dy.once e.1 = true → Dy.val (L.take a) e.1 = none) := hide (fun a e ha hae hoe => by
        by_cases hai : a < i
        · exact (unhide Hno) a e hai hae hoe
        · obtain rfl : a = i := by omega
          rw [unhide He] at hae
          injection hae with hae
          subst hae
          dsimp only at hoe ⊢
          rw [unhide Hon] at hoe
          exact Dy.val_take_no (fun a x ha hx => (unhide Hno2) hoe a x (by omega) hx))
      clear Hno Hno2 HKO HC HT HKV HKB
      go_wp2_with fail
      go_roundg (k - (i + 1))
      case measure => omega
      case rel => exact ⟨i + 1, rfl, by omega, by rw [unhide Hmt]; have ht := unhide Hht; rw [if_neg ht]; rfl, by go_num, unhide HF3, unhide HB3, unhide Hno3⟩
    have ilt2 : (q : Int) < (i : Int) := by omega
    obtain ⟨⟨t2, v2⟩, he2⟩ : ∃ x, L[q]? = some x := ⟨_, List.getElem?_eq_getElem (by rw [unhide Hlen]; omega)⟩
    have y1 : wr.cell? ⟨b1, o1 + i, none⟩ = some (.int .u64 (t : Nat)) := (unhide HT) wr (unhide HF3) b1 o1 rfl i _ (unhide He)
    have y2 : wr.cell? ⟨b1, o1 + q, none⟩ = some (.int .u64 (t2 : Nat)) := (unhide HT) wr (unhide HF3) b1 o1 rfl q _ he2
    have He2 := hide he2
    clear he2
    have hqk : (q : Int) < (k : Int) := by omega
    by_cases htt : t = t2
    case neg =>
      have htB : ((t : Int) == (t2 : Int)) = false := beq_eq_false_iff_ne.2 (by omega)
      have Hno3 : Hid (on = true → ∀ (a : Nat) (x : Nat × Nat), a < q + 1 → L[a]? = some x → x.1 ≠ t) := hide (fun hon a x ha hx => by
        by_cases haq : a < q
        · exact (unhide Hno2) hon a x haq hx
        · obtain rfl : a = q := by omega
          rw [unhide He2] at hx
          injection hx with hx
          subst hx
          exact fun h => htt h.symm)
      clear Hno2
      go_wp2_with fail
      go_quiet (fail)
      have HF4 := hide ((unhide HF3).belowSz (below_drewN' (Below.refl _ _) nq))
      have HB4 := hide (below_drewN' (unhide HB3) nq)
      clear HF3 HB3
      go_wp2_with fail
      go_roundg (i - (q + 1))
      case measure => omega
      case rel => exact ⟨q + 1, rfl, by omega, by go_num, unhide HF4, unhide HB4, unhide Hno3⟩
    subst t2
    go_wp2_with fail
    go_region_held3 (fun w' => w'.cell? ⟨g, 5, none⟩ = some (.slice (some ⟨b1, o1, none⟩) k ct) ∧ w'.cell? ⟨b1, o1 + i, none⟩ = some (.int .u64 (t : Nat)) ∧ w'.cell? ⟨b1, o1 + q, none⟩ = some (.int .u64 (t : Nat))) (first | exact ⟨y5, y1, y2⟩ | exact ⟨z5, z1, z2⟩) ((go_at_call 66; refine ((unhide HKO) _).mono ?_; rintro e w5 ⟨rfl, hb5⟩; have HF4 := hide (((unhide HF3).belowSz (below_drew' (Below.refl _ _))).belowSz hb5); have HB4 := hide ((below_drew' (unhide HB3)).trans (hb5.mono (below_drew' (unhide HB3)).size)); clear hb5; have z5 := (unhide HC) _ (unhide HF4); have z1 := (unhide HT) _ (unhide HF4) b1 o1 rfl i _ (unhide He); have z2 := (unhide HT) _ (unhide HF4) b1 o1 rfl q _ (unhide He2)))
    cases on
    · have Hno3 : Hid (false = true → ∀ (a : Nat) (x : Nat × Nat), a < q + 1 → L[a]? = some x → x.1 ≠ t) := hide (fun h => by cases h)
      clear Hno2 HF3 HB3
      go_wp2_with fail
      go_roundg (i - (q + 1))
      case measure => omega
      case rel => exact ⟨q + 1, rfl, by omega, by go_num, unhide HF4, unhide HB4, unhide Hno3⟩
    · have hr : R = 25 := by
        rw [← unhide HR]
        exact Dy.may_bad (Dy.twice_yes (unhide He) (unhide Hon) (Dy.val_take_some (x := (t, v2)) hlt2 (unhide He2)))
      subst hr
      clear Hno Hno2 HF3 Hmt He He2 HKO HC HT HKV HKB
      go_wp2_with fail
      go_ret
      exact ⟨rfl, unhide HB4⟩
end Go.Proofs.Ytdminnhfgdoibaa
namespace Go.Proofs.Ytdminnhfgdoibaa
set_option linter.unusedVariables false
set_option linter.unusedSimpArgs false
open Go.RowKit
theorem gr_set {w : World} {g i : Nat} (u : Value) : w.grownBy (w.setCell ⟨g, i, none⟩ u) (some g) := ⟨rfl, rfl, rfl, by simp, fun k hk hne => Below.heap_setCell _ _ _ _ (fun e => hne (by simp at e; rw [e]))⟩
theorem gr_below {w w' : World} {g B : Nat} {V : World} (hV : Below B V w) (h : w.grownBy w' (some g)) (hB : B ≤ g) (hs : B ≤ w.heap.size) : Below B V w' := hV.grown h hs (fun k hk => by injection hk with hk; omega)
theorem gr_new {w a b : World} {g row : Option Nat} (h : w.grownBy a g) (k : a.grownBy b row) (hr : ∀ j, row = some j → w.heap.size ≤ j) : w.grownBy b g :=
  ⟨k.os.trans h.os, k.tape.trans h.tape, k.output.trans h.output, Nat.le_trans h.size k.size, fun i hi hne => (k.block i (Nat.lt_of_lt_of_le hi h.size) (fun e => by have := hr i e.symm; omega)).trans (h.block i hi hne)⟩
/-- What is told as it grows: the block gd, and the row of what is needed; but for these the world is as it was. -/
structure StrM (W0 w : World) (gd : Nat) (D : Dy.Dyn) (A : Option Addr) (n c : Nat) : Prop where
  gr : W0.grownBy w (some gd)
  out : Blk w gd 41 [.slice A n c, .string D.soname, .string D.run, .slice none 0 0, .slice none 0 0]
  row : w.ownsRow W0.heap.size 9 1 (.slice A n c) n (D.needed.map Value.string)
  n : D.needed.length = n
section
variable {W0 w w' : World} {gd : Nat} {D : Dy.Dyn} {A : Option Addr} {n c : Nat}
theorem StrM.blk (h : StrM W0 w gd D A n c) {q : Nat} {t : TypeId} {l : List Value} (hb : Blk W0 q t l) (hq : q ≠ gd) : Blk w q t l := (h.gr.block q hb.lt (fun e => by injection e with e; exact hq e)).trans hb
theorem StrM.belowSz (h : StrM W0 w gd D A n c) (hb : Below w.heap.size w w') : StrM W0 w' gd D A n c :=
  ⟨grown_trans h.gr (grownBy_of_below hb), h.out.belowSz hb, own_below h.row hb, h.n⟩
theorem StrM.setS (h : StrM W0 w gd D A n c) (hg : gd < W0.heap.size) (s : ByteArray) : StrM W0 (w.setCell ⟨gd, 1, none⟩ (.string s)) gd { D with soname := s } A n c :=
  ⟨grown_trans h.gr (gr_set _), h.out.set 1 _, own_setOB h.row hg _, h.n⟩
theorem StrM.setR (h : StrM W0 w gd D A n c) (hg : gd < W0.heap.size) (s : ByteArray) : StrM W0 (w.setCell ⟨gd, 2, none⟩ (.string s)) gd { D with run := s } A n c :=
  ⟨grown_trans h.gr (gr_set _), h.out.set 2 _, own_setOB h.row hg _, h.n⟩
theorem StrM.notO (h : StrM W0 w gd D A n c) {k : Nat} (hk : k < W0.heap.size) : some k ≠ (Value.slice A n c).ownBlock := by
  intro e
  have := (h.row.lt k e.symm).1
  omega
theorem StrM.grown (h : StrM W0 w gd D A n c) (hgd : gd < W0.heap.size) (hg : w.grownBy w' (Value.slice A n c).ownBlock) : W0.grownBy w' (some gd) ∧ Blk w' gd 41 [.slice A n c, .string D.soname, .string D.run, .slice none 0 0, .slice none 0 0] := by
  exact ⟨gr_new h.gr hg (fun k hk => (h.row.lt k hk).1), (hg.block _ h.out.lt (h.notO hgd)).trans h.out⟩
theorem StrM.push {A' : Option Addr} {c' : Nat} (h : StrM W0 w gd D A n c) (hgd : gd < W0.heap.size) (s : ByteArray) (ho : w'.ownsRow W0.heap.size 9 1 (.slice A' (n + 1) c') (n + 1) (D.needed.map Value.string ++ [.string s])) (hg : w.grownBy w' (Value.slice A n c).ownBlock) :
    StrM W0 (w'.setCell ⟨gd, 0, none⟩ (.slice A' (n + 1) c')) gd { D with needed := D.needed ++ [s] } A' (n + 1) c' := by
  obtain ⟨h1, h2⟩ := h.grown hgd hg
  refine ⟨grown_trans h1 (gr_set _), h2.set 0 _, ?_, by simp [h.n]⟩
  have : (D.needed ++ [s]).map Value.string = D.needed.map Value.string ++ [.string s] := by simp
  dsimp only
  rw [this]
  exact own_setOB ho hgd _
end
/-- What strings answers: whether all texts are there; then what is told. -/
def RstrE (o : Option Dy.Dyn) (gd : Nat) (w : World) (e : Ending) (w' : World) : Prop :=
  ∃ q, e = .returned (.bool q) ∧ w.grownBy w' (some gd) ∧ ((q = false ∧ o = none) ∨ (q = true ∧ ∃ D A n c, o = some D ∧ StrM w w' gd D A n c))
theorem rstr_no {o : Option Dy.Dyn} {gd : Nat} {w w' : World} (h : o = none) (hg : w.grownBy w' (some gd)) : RstrE o gd w (.returned (.bool false)) w' := ⟨false, rfl, hg, .inl ⟨rfl, h⟩⟩
theorem rstr_yes {o : Option Dy.Dyn} {gd : Nat} {w w' : World} {D : Dy.Dyn} {A : Option Addr} {n c : Nat} (h : o = some D) (hg : StrM w w' gd D A n c) : RstrE o gd w (.returned (.bool true)) w' := ⟨true, rfl, hg.gr, .inr ⟨rfl, D, A, n, c, h, hg⟩⟩
namespace Dy
theorem texts_drop {t : List UInt8} {run : Bool} {L : List (Nat × Nat)} {i x1 x2 : Nat} {D : Dyn} (h : L[i]? = some (x1, x2)) : texts t run (L.drop i) D = texts t run ((x1, x2) :: L.drop (i + 1)) D := by
  rw [List.drop_eq_getElem_cons (List.getElem?_eq_some_iff.1 h).1, (List.getElem?_eq_some_iff.1 h).2]
end Dy
set_option maxRecDepth 100000 in
set_option maxHeartbeats 8000000 in
theorem rstrings_any (V : World) (B g gd : Nat) (f : Fl) (th : Bool) (At : Option Addr) (mt ct : Nat) (t : List UInt8) (w : World) (h : FlM V B g f) (ho : FlOk f) (hV : Below V.heap.size V w) (hgd : V.heap.size ≤ gd) (hout : Blk w gd 41 [.slice none 0 0, .string ⟨#[]⟩, .string ⟨#[]⟩, .slice none 0 0, .slice none 0 0])
    (hT : Rd V B 1 At mt (bys t)) (hmt : mt ≤ 4294967296) (hmc : mt ≤ ct) (hth : th = false → mt = 0) :
    Calls Try.prog 43 #[.pointer (some ⟨g, 0, none⟩), .agg #[.bool th, .slice At mt ct], .pointer (some ⟨gd, 0, none⟩)] w (RstrE (Dy.texts t (Dy.val f.L 29).isSome f.L Dy.zero) gd w) := by
  have hlen := h.len
  have hkm := ho.k
  have hgw := hout.lt
  have hent := ho.ent
  have hgV := h.blk.lt
  have hBV := h.sz
  have hW0 : Below V.heap.size V (w.alloc (.cells #[.bool th, .slice At mt ct] 95)) := hV.alloc hV.size _
  have e1 : (w.alloc (.cells #[.bool th, .slice At mt ct] 95)).heap.size = w.heap.size + 1 := by simp
  have hbox := Blk.new w 95 [.bool th, .slice At mt ct]
  have hS0 : StrM (w.alloc (.cells #[.bool th, .slice At mt ct] 95)) (w.alloc (.cells #[.bool th, .slice At mt ct] 95)) gd Dy.zero none 0 0 := ⟨World.grownBy.refl _ _, hout.alloc _, World.ownsRow_nil _ _ _ _, rfl⟩
  have HL : Hid (∀ W D A n c, StrM (w.alloc (.cells #[.bool th, .slice At mt ct] 95)) W gd D A n c → StrM w W gd D A n c) := hide (fun W D A n c hs => ⟨grown_trans (World.grownBy_alloc _ _ _) hs.gr, hs.out, own_base hs.row (by rw [e1]; omega), hs.n⟩)
  have HFl : Hid (∀ W, Below V.heap.size V W → FlM W B g f) := hide (fun W hb => h.belowSz hb)
  have HBw : Hid (∀ W D A n c, StrM (w.alloc (.cells #[.bool th, .slice At mt ct] 95)) W gd D A n c → Below V.heap.size V W) := hide (fun W D A n c hs => gr_below hW0 hs.gr hgd hW0.size)
  have HC : Hid (∀ W, FlM W B g f → W.cell? ⟨g, 5, none⟩ = some (.slice f.At f.k f.ct) ∧ W.cell? ⟨g, 6, none⟩ = some (.slice f.Av f.k f.cv)) := hide (fun W hW => ⟨hW.blk.cell (i := 5) rfl, hW.blk.cell (i := 6) rfl⟩)
  have HT : Hid (∀ W, FlM W B g f → ∀ j e, f.L[j]? = some e → ∃ b1 o1 b2 o2, f.At = some ⟨b1, o1, none⟩ ∧ f.Av = some ⟨b2, o2, none⟩ ∧ W.cell? ⟨b1, o1 + j, none⟩ = some (.int .u64 (e.1 : Nat)) ∧ W.cell? ⟨b2, o2 + j, none⟩ = some (.int .u64 (e.2 : Nat))) := hide (fun W hW j e hj => hW.at_ hj)
  have HKV : Hid (∀ W, FlM W B g f → Calls Try.prog 48 #[.pointer (some ⟨g, 0, none⟩), .int .u64 29] W fun e w' => e = .returned (.tuple #[.int .u64 ((Dy.val f.L 29).getD 0 : Nat), .bool (Dy.val f.L 29).isSome]) ∧ W = w') := hide (fun W hW => rvalue_any B g f 29 W hW ho.k)
  have HKT : Hid (∀ (q : Nat), q < 18446744073709551616 → ∀ W, Below V.heap.size V W → Calls Try.prog 64 #[.agg #[.bool th, .slice At mt ct], .int .u64 (q : Nat)] W (TextE (Dy.text t q) W)) := hide (fun q hq W hb => rtext_any th At mt ct B t q W (Nat.le_trans hBV hb.size) (hT.below (hb.mono hBV)) hmt hmc hth hq)
  have HSbox : Hid (∀ W D A n c, StrM (w.alloc (.cells #[.bool th, .slice At mt ct] 95)) W gd D A n c → W.cell? ⟨w.heap.size, 0, none⟩ = some (.bool th) ∧ W.cell? ⟨w.heap.size, 1, none⟩ = some (.slice At mt ct)) := hide (fun W D A n c hs => have hb := hs.blk hbox (by omega); ⟨hb.cell (i := 0) rfl, hb.cell (i := 1) rfl⟩)
  obtain ⟨L, hL⟩ : ∃ L, f.L = L := ⟨_, rfl⟩
  obtain ⟨k, hk⟩ : ∃ k, f.k = k := ⟨_, rfl⟩
  obtain ⟨ft, hft⟩ : ∃ k, f.ct = k := ⟨_, rfl⟩
  obtain ⟨fv, hfv⟩ : ∃ k, f.cv = k := ⟨_, rfl⟩
  obtain ⟨Ft, hFt⟩ : ∃ A, f.At = A := ⟨_, rfl⟩
  obtain ⟨Fv, hFv⟩ : ∃ A, f.Av = A := ⟨_, rfl⟩
  rw [hL, hk] at hlen
  rw [hk] at hkm
  rw [hL] at hent HKV ⊢
  rw [hk, hft, hfv, hFt, hFv] at HC
  rw [hFt, hFv, hL] at HT
  obtain ⟨v29, hv29⟩ : ∃ v, (Dy.val L 29).getD 0 = v := ⟨_, rfl⟩
  obtain ⟨rn, hrn⟩ : ∃ v, (Dy.val L 29).isSome = v := ⟨_, rfl⟩
  rw [hv29, hrn] at HKV
  rw [hrn]
  obtain ⟨R, hR⟩ : ∃ R, Dy.texts t rn L Dy.zero = R := ⟨_, rfl⟩
  rw [hR]
  have HR0 : Hid (R = Dy.texts t rn (L.drop 0) Dy.zero) := hide (by rw [← hR]; rfl)
  have HS0 := hide hS0
  have Hlen := hide hlen
  have Hent := hide hent
  have Hgw : Hid (gd < (w.alloc (.cells #[.bool th, .slice At mt ct] 95)).heap.size) := hide (by rw [e1]; omega)
  have HgV := hide hgV
  have x5 := ((unhide HC) _ ((unhide HFl) _ hW0)).1
  clear h ho hlen hent hL hk hft hfv hFt hFv hv29 hrn hR hS0 hbox hW0 hT hth hout hV e1 hBV hgV
  go_enter Try.func43, Try.ntmps43
  go_wp2_with fail
  go_loopg [7] k (fun gk iv wr => ∃ (i : Nat) (D : Dy.Dyn) (A : Option Addr) (n c : Nat), gk = k - i ∧ i ≤ k ∧ iv = .int .i64 i ∧ n ≤ i ∧ StrM (w.alloc (.cells #[.bool th, .slice At mt ct] 95)) wr gd D A n c ∧ R = Dy.texts t rn (L.drop i) D)
  case atStart => exact ⟨0, Dy.zero, none, 0, 0, rfl, Nat.zero_le _, rfl, Nat.le_refl _, unhide HS0, unhide HR0⟩
  case round =>
  obtain ⟨i, D, A, n, c, hgk, hi, rfl, hni, hs, hr⟩ := hrel
  have HS := hide hs
  have HR := hide hr
  have HB := hide ((unhide HBw) _ _ _ _ _ hs)
  obtain ⟨x5, x6⟩ := (unhide HC) _ ((unhide HFl) _ (unhide HB))
  clear hs hr HS0 HR0
  by_cases hlt : i < k
  case neg =>
    have hrr : R = some D := by rw [unhide HR, List.drop_of_length_le (by rw [unhide Hlen]; omega)]; rfl
    have Hrr := hide hrr
    have ige : ¬ (i : Int) < (k : Int) := by omega
    clear hrr HR HKV HKT HT HC HFl
    go_wp2_with fail
    go_ret
    exact rstr_yes (unhide Hrr) ((unhide HL) _ _ _ _ _ (unhide HS))
  have ilt : (i : Int) < (k : Int) := by omega
  obtain ⟨⟨x1, x2⟩, he⟩ : ∃ x, L[i]? = some x := ⟨_, List.getElem?_eq_getElem (by rw [unhide Hlen]; exact hlt)⟩
  obtain ⟨b1, o1, b2, o2, hA1, hA2, c1, c2⟩ := (unhide HT) wr ((unhide HFl) _ (unhide HB)) i _ he
  subst hA1 hA2
  dsimp only at c1 c2
  have hx2 : x2 < 18446744073709551616 := ((unhide Hent) _ (List.mem_of_getElem? he)).2
  have hr := unhide HR
  rw [Dy.texts_drop he] at hr
  have He := hide he
  have HR2 := hide hr
  clear hr HR he
  by_cases hk4 : x1 = 1 ∨ x1 = 14 ∨ x1 = 15 ∨ x1 = 29
  case neg =>
    have n1 : ((x1 : Int) != 1) = true := bne_iff_ne.2 (by omega)
    have n2 : ((x1 : Int) != 14) = true := bne_iff_ne.2 (by omega)
    have n3 : ((x1 : Int) != 15) = true := bne_iff_ne.2 (by omega)
    have n4 : ((x1 : Int) != 29) = true := bne_iff_ne.2 (by omega)
    have HR3 : Hid (R = Dy.texts t rn (L.drop (i + 1)) D) := hide (by rw [unhide HR2, Dy.texts_skip hk4])
    clear HR2 HKV HKT HC HFl He hk4
    go_wp2_with fail
    go_roundg (k - (i + 1))
    case measure => omega
    case rel => exact ⟨i + 1, D, A, n, c, rfl, by omega, by go_num, by omega, unhide HS, unhide HR3⟩
  have hK := (unhide HKT) x2 hx2
  have HKx := hide hK
  have hyes := fun s (h : Dy.text t x2 = some s) => Dy.texts_yes (t := t) (run := rn) (r := L.drop (i + 1)) (D := D) hk4 h
  have hno := fun (h : Dy.text t x2 = none) => Dy.texts_no (t := t) (run := rn) (r := L.drop (i + 1)) (D := D) hk4 h
  have Hyes := hide hyes
  have Hno := hide hno
  obtain ⟨s0, s1⟩ := (unhide HSbox) _ _ _ _ _ (unhide HS)
  clear hK hyes hno HKT
  rcases hk4 with rfl | rfl | rfl | rfl
  case inl =>
    go_wp2_with fail
    refine wp_region_noPanic ?_
    refine wp_region_held_drew (S := fun W => W.cell? ⟨w.heap.size, 0, none⟩ = some (.bool th) ∧ W.cell? ⟨w.heap.size, 1, none⟩ = some (.slice At mt ct) ∧ W.cell? ⟨g, 6, none⟩ = some (.slice (some ⟨b2, o2, none⟩) k fv) ∧ W.cell? ⟨b2, o2 + i, none⟩ = some (.int .u64 (x2 : Nat))) (by kernel_rfl) (⟨s0, s1, x6, c2⟩) (fun HS0 => ?_)
    refine takeD (i := 0) (d := some 44) (v := ?_) rfl rfl (by kernel_rfl) (by kernel_rfl) (by kernel_rfl) (fun _ _ _ h => h) (Or.inl ⟨by rfl, ?y0⟩) HS0 ?_
    case y0 => (intro w' hSw; (try dsimp only at hSw); go_simp; (try with_reducible rfl))
    simp only [Act.put, List.setIfInBounds_toArray, List.set_cons_zero, List.set_cons_succ]
    refine takeD (i := 1) (d := some 45) (v := ?_) rfl rfl (by kernel_rfl) (by kernel_rfl) (by kernel_rfl) (fun _ _ _ h => h) (Or.inl ⟨by rfl, ?y1⟩) HS0 ?_
    case y1 => (intro w' hSw; (try dsimp only at hSw); go_simp; (try with_reducible rfl))
    simp only [Act.put, List.setIfInBounds_toArray, List.set_cons_zero, List.set_cons_succ]
    refine takeD (i := 2) (d := some 46) (v := ?_) rfl rfl (by kernel_rfl) (by kernel_rfl) (by kernel_rfl) (fun _ _ _ h => h) (Or.inl ⟨by rfl, ?y2⟩) HS0 ?_
    case y2 => (intro w' hSw; (try dsimp only at hSw); go_simp; (try with_reducible rfl))
    simp only [Act.put, List.setIfInBounds_toArray, List.set_cons_zero, List.set_cons_succ]
    refine takeD (i := 3) (d := some 47) (v := ?_) rfl rfl (by kernel_rfl) (by kernel_rfl) (by kernel_rfl) (fun _ _ _ h => h) (Or.inl ⟨by rfl, ?y3⟩) HS0 ?_
    case y3 => (intro w' hSw; (try dsimp only at hSw); go_simp; (try with_reducible rfl))
    simp only [Act.put, List.setIfInBounds_toArray, List.set_cons_zero, List.set_cons_succ]
    refine takeD (i := 4) (d := some 48) (v := ?_) rfl rfl (by kernel_rfl) (by kernel_rfl) (by kernel_rfl) (fun _ _ _ h => h) (Or.inl ⟨by rfl, ?y4⟩) HS0 ?_
    case y4 => (intro w' hSw; (try dsimp only at hSw); go_simp; (try with_reducible rfl))
    simp only [Act.put, List.setIfInBounds_toArray, List.set_cons_zero, List.set_cons_succ]
    refine takeD (i := 5) (d := some 49) (v := ?_) rfl rfl (by kernel_rfl) (by kernel_rfl) (by kernel_rfl) (fun _ _ _ h => h) (Or.inl ⟨by rfl, ?y5⟩) HS0 ?_
    case y5 => (intro w' hSw; (try dsimp only at hSw); go_simp; (try with_reducible rfl))
    simp only [Act.put, List.setIfInBounds_toArray, List.set_cons_zero, List.set_cons_succ]
    refine takeD (i := 6) (d := some 50) (v := ?_) rfl rfl (by kernel_rfl) (by kernel_rfl) (by kernel_rfl) (fun _ _ _ h => h) (Or.inl ⟨by rfl, ?y6⟩) HS0 ?_
    case y6 => (intro w' hSw; (try dsimp only at hSw); go_simp; (try with_reducible rfl))
    simp only [Act.put, List.setIfInBounds_toArray, List.set_cons_zero, List.set_cons_succ]
    refine takeD (i := 7) (d := some 51) (v := ?_) rfl rfl (by kernel_rfl) (by kernel_rfl) (by kernel_rfl) (fun _ _ _ h => h) (Or.inl ⟨by rfl, ?y7⟩) HS0 ?_
    case y7 => (intro w' hSw; (try dsimp only at hSw); go_simp; (try with_reducible rfl))
    simp only [Act.put, List.setIfInBounds_toArray, List.set_cons_zero, List.set_cons_succ]
    refine wpAnyH_ready (rs := [8]) (by kernel_rfl) (by simp) ?_
    refine AllReadyH.cons (i := 8) rfl (fun K hK => ?_) AllReadyH.nil
    rw [if_pos (by rfl)]
    go_simp
    go_at_call 64
    with_reducible refine ((unhide HKx) _ (below_drew' (unhide HB))).mono ?_
    rintro e w2 ⟨nm, tb, rfl, htx, hb2⟩
    have HB2 := hide ((below_drew' (unhide HB)).trans (hb2.mono (below_drew' (unhide HB)).size))
    have HS2 := hide (((unhide HS).belowSz (below_drew' (Below.refl _ _))).belowSz hb2)
    have Htx := hide htx
    obtain ⟨y5, y6⟩ := (unhide HC) _ ((unhide HFl) _ (unhide HB2))
    obtain ⟨t0, t1⟩ := (unhide HSbox) _ _ _ _ _ (unhide HS2)
    have d2 : w2.cell? ⟨b2, o2 + i, none⟩ = some (.int .u64 (x2 : Nat)) := by
      obtain ⟨b3, o3, b4, o4, hA3, hA4, -, hd⟩ := (unhide HT) w2 ((unhide HFl) _ (unhide HB2)) i _ (unhide He)
      injection hA4 with hA4
      injection hA4 with hA5 hA6
      subst hA5 hA6
      exact hd
    clear hb2 htx HKx
    refine hK.out _ _ (⟨t0, t1, y6, d2⟩) (fun hHeld => ?_)
    clear hK K HS0
    have HS0 := hHeld
    clear hHeld
    (try simp only [Act.put, List.setIfInBounds_toArray, List.set_cons_zero, List.set_cons_succ])
    refine takeD (i := 9) (d := some 43) (v := ?_) rfl rfl (by kernel_rfl) (by kernel_rfl) (by kernel_rfl) (fun _ _ _ h => h) (Or.inl ⟨by rfl, ?y9⟩) HS0 ?_
    case y9 => (intro w' hSw; (try dsimp only at hSw); go_simp; (try with_reducible rfl))
    simp only [Act.put, List.setIfInBounds_toArray, List.set_cons_zero, List.set_cons_succ]
    refine takeD (i := 10) (d := some 53) (v := ?_) rfl rfl (by kernel_rfl) (by kernel_rfl) (by kernel_rfl) (fun _ _ _ h => h) (Or.inl ⟨by rfl, ?y10⟩) HS0 ?_
    case y10 => (intro w' hSw; (try dsimp only at hSw); go_simp; (try with_reducible rfl))
    simp only [Act.put, List.setIfInBounds_toArray, List.set_cons_zero, List.set_cons_succ]
    refine takeD (i := 11) (d := some 54) (v := ?_) rfl rfl (by kernel_rfl) (by kernel_rfl) (by kernel_rfl) (fun _ _ _ h => h) (Or.inl ⟨by rfl, ?y11⟩) HS0 ?_
    case y11 => (intro w' hSw; (try dsimp only at hSw); go_simp; (try with_reducible rfl))
    simp only [Act.put, List.setIfInBounds_toArray, List.set_cons_zero, List.set_cons_succ]
    refine takeD (i := 12) (d := some 9) (v := ?_) rfl rfl (by kernel_rfl) (by kernel_rfl) (by kernel_rfl) (fun _ _ _ h => h) (Or.inl ⟨by rfl, ?y12⟩) HS0 ?_
    case y12 => (intro w' hSw; (try dsimp only at hSw); go_simp; (try with_reducible rfl))
    simp only [Act.put, List.setIfInBounds_toArray, List.set_cons_zero, List.set_cons_succ]
    refine takeD (i := 13) (d := some 10) (v := ?_) rfl rfl (by kernel_rfl) (by kernel_rfl) (by kernel_rfl) (fun _ _ _ h => h) (Or.inl ⟨by rfl, ?y13⟩) HS0 ?_
    case y13 => (intro w' hSw; (try dsimp only at hSw); go_simp; (try with_reducible rfl))
    simp only [Act.put, List.setIfInBounds_toArray, List.set_cons_zero, List.set_cons_succ]
    refine wpAnyH_done (by kernel_rfl) ?_ _
    refine NoPanic.normal ?_
    clear c1 c2 x5 x6 s0 s1 t0 t1 d2 y5 y6
    cases tb
    · have hrr : R = none := by
        rcases unhide Htx with ⟨h0, -⟩ | ⟨-, h0⟩
        · cases h0
        · rw [unhide HR2, (unhide Hno) h0]
      have Hrr := hide hrr
      clear hrr HR2 Htx Hyes Hno HKV HC HFl He HT HS HB
      go_wp2_with fail
      go_ret
      exact rstr_no (unhide Hrr) ((unhide HL) _ _ _ _ _ (unhide HS2)).gr
    have htx : Dy.text t x2 = some nm := by
      rcases unhide Htx with ⟨-, h0⟩ | ⟨h0, -⟩
      · exact h0
      · cases h0
    have hr := unhide HR2
    rw [(unhide Hyes) nm htx] at hr
    have HR3 : Hid (R = Dy.texts t rn (L.drop (i + 1)) { D with needed := D.needed ++ [nm] }) := hide hr
    clear hr
    have hkv := (unhide HKV) w2 ((unhide HFl) _ (unhide HB2))
    have Hkv := hide hkv
    clear hkv htx Htx Hyes Hno HR2 He HT HS HB HC
    go_wp2_with fail
    refine (unhide Hkv).mono ?_
    rintro e w3 ⟨rfl, rfl⟩
    clear Hkv
    have z0 := (unhide HS2).out.cell (i := 0) rfl
    have HS3 := hide ((unhide HS2).belowSz ((Below.refl _ _).alloc (Nat.le_refl _) (.cells #[.string nm] 9)))
    have hgs : gd < w2.heap.size := (unhide HS2).out.lt
    clear HB2 HFl HKV
    go_wp2_with ((at_builtin; refine wpList_app1g strTy rfl _ _ rfl (w.alloc (.cells #[.bool th, .slice At mt ct] 95)).heap.size (.slice A n c) n (D.needed.map Value.string) rfl (unhide HS2).row #[.string nm] _ rfl (by simp) rfl (by intro u hu; simp at hu; subst hu; rfl) (by omega) (unhide HS2).gr.size ?_; intro A3 c3 w4 ho3 hg3 hat3; have HP := hide ((unhide HS2).push (unhide Hgw) nm ho3 hg3); have HG := hide ((unhide HS2).grown (unhide Hgw) hg3); have z1 := (unhide HG).2.cell (i := 0) rfl; have z2 := (unhide HG).2.free 0; clear ho3 hg3 hat3 HS2))
    go_roundg (k - (i + 1))
    case measure => omega
    case rel => exact ⟨i + 1, { D with needed := D.needed ++ [nm] }, A3, n + 1, c3, rfl, by omega, by go_num, by omega, unhide HP, unhide HR3⟩
  case inr.inl =>
    go_wp2_with fail
    refine wp_region_noPanic ?_
    refine wp_region_held_drew (S := fun W => W.cell? ⟨w.heap.size, 0, none⟩ = some (.bool th) ∧ W.cell? ⟨w.heap.size, 1, none⟩ = some (.slice At mt ct) ∧ W.cell? ⟨g, 6, none⟩ = some (.slice (some ⟨b2, o2, none⟩) k fv) ∧ W.cell? ⟨b2, o2 + i, none⟩ = some (.int .u64 (x2 : Nat))) (by kernel_rfl) (⟨s0, s1, x6, c2⟩) (fun HS0 => ?_)
    refine takeD (i := 0) (d := some 44) (v := ?_) rfl rfl (by kernel_rfl) (by kernel_rfl) (by kernel_rfl) (fun _ _ _ h => h) (Or.inl ⟨by rfl, ?y0⟩) HS0 ?_
    case y0 => (intro w' hSw; (try dsimp only at hSw); go_simp; (try with_reducible rfl))
    simp only [Act.put, List.setIfInBounds_toArray, List.set_cons_zero, List.set_cons_succ]
    refine takeD (i := 1) (d := some 45) (v := ?_) rfl rfl (by kernel_rfl) (by kernel_rfl) (by kernel_rfl) (fun _ _ _ h => h) (Or.inl ⟨by rfl, ?y1⟩) HS0 ?_
    case y1 => (intro w' hSw; (try dsimp only at hSw); go_simp; (try with_reducible rfl))
    simp only [Act.put, List.setIfInBounds_toArray, List.set_cons_zero, List.set_cons_succ]
    refine takeD (i := 2) (d := some 46) (v := ?_) rfl rfl (by kernel_rfl) (by kernel_rfl) (by kernel_rfl) (fun _ _ _ h => h) (Or.inl ⟨by rfl, ?y2⟩) HS0 ?_
    case y2 => (intro w' hSw; (try dsimp only at hSw); go_simp; (try with_reducible rfl))
    simp only [Act.put, List.setIfInBounds_toArray, List.set_cons_zero, List.set_cons_succ]
    refine takeD (i := 3) (d := some 47) (v := ?_) rfl rfl (by kernel_rfl) (by kernel_rfl) (by kernel_rfl) (fun _ _ _ h => h) (Or.inl ⟨by rfl, ?y3⟩) HS0 ?_
    case y3 => (intro w' hSw; (try dsimp only at hSw); go_simp; (try with_reducible rfl))
    simp only [Act.put, List.setIfInBounds_toArray, List.set_cons_zero, List.set_cons_succ]
    refine takeD (i := 4) (d := some 48) (v := ?_) rfl rfl (by kernel_rfl) (by kernel_rfl) (by kernel_rfl) (fun _ _ _ h => h) (Or.inl ⟨by rfl, ?y4⟩) HS0 ?_
    case y4 => (intro w' hSw; (try dsimp only at hSw); go_simp; (try with_reducible rfl))
    simp only [Act.put, List.setIfInBounds_toArray, List.set_cons_zero, List.set_cons_succ]
    refine takeD (i := 5) (d := some 49) (v := ?_) rfl rfl (by kernel_rfl) (by kernel_rfl) (by kernel_rfl) (fun _ _ _ h => h) (Or.inl ⟨by rfl, ?y5⟩) HS0 ?_
    case y5 => (intro w' hSw; (try dsimp only at hSw); go_simp; (try with_reducible rfl))
    simp only [Act.put, List.setIfInBounds_toArray, List.set_cons_zero, List.set_cons_succ]
    refine takeD (i := 6) (d := some 50) (v := ?_) rfl rfl (by kernel_rfl) (by kernel_rfl) (by kernel_rfl) (fun _ _ _ h => h) (Or.inl ⟨by rfl, ?y6⟩) HS0 ?_
    case y6 => (intro w' hSw; (try dsimp only at hSw); go_simp; (try with_reducible rfl))
    simp only [Act.put, List.setIfInBounds_toArray, List.set_cons_zero, List.set_cons_succ]
    refine takeD (i := 7) (d := some 51) (v := ?_) rfl rfl (by kernel_rfl) (by kernel_rfl) (by kernel_rfl) (fun _ _ _ h => h) (Or.inl ⟨by rfl, ?y7⟩) HS0 ?_
    case y7 => (intro w' hSw; (try dsimp only at hSw); go_simp; (try with_reducible rfl))
    simp only [Act.put, List.setIfInBounds_toArray, List.set_cons_zero, List.set_cons_succ]
    refine wpAnyH_ready (rs := [8]) (by kernel_rfl) (by simp) ?_
    refine AllReadyH.cons (i := 8) rfl (fun K hK => ?_) AllReadyH.nil
    rw [if_pos (by rfl)]
    go_simp
    go_at_call 64
    with_reducible refine ((unhide HKx) _ (below_drew' (unhide HB))).mono ?_
    rintro e w2 ⟨nm, tb, rfl, htx, hb2⟩
    have HB2 := hide ((below_drew' (unhide HB)).trans (hb2.mono (below_drew' (unhide HB)).size))
    have HS2 := hide (((unhide HS).belowSz (below_drew' (Below.refl _ _))).belowSz hb2)
    have Htx := hide htx
    obtain ⟨y5, y6⟩ := (unhide HC) _ ((unhide HFl) _ (unhide HB2))
    obtain ⟨t0, t1⟩ := (unhide HSbox) _ _ _ _ _ (unhide HS2)
    have d2 : w2.cell? ⟨b2, o2 + i, none⟩ = some (.int .u64 (x2 : Nat)) := by
      obtain ⟨b3, o3, b4, o4, hA3, hA4, -, hd⟩ := (unhide HT) w2 ((unhide HFl) _ (unhide HB2)) i _ (unhide He)
      injection hA4 with hA4
      injection hA4 with hA5 hA6
      subst hA5 hA6
      exact hd
    clear hb2 htx HKx
    refine hK.out _ _ (⟨t0, t1, y6, d2⟩) (fun hHeld => ?_)
    clear hK K HS0
    have HS0 := hHeld
    clear hHeld
    (try simp only [Act.put, List.setIfInBounds_toArray, List.set_cons_zero, List.set_cons_succ])
    refine takeD (i := 9) (d := some 43) (v := ?_) rfl rfl (by kernel_rfl) (by kernel_rfl) (by kernel_rfl) (fun _ _ _ h => h) (Or.inl ⟨by rfl, ?y9⟩) HS0 ?_
    case y9 => (intro w' hSw; (try dsimp only at hSw); go_simp; (try with_reducible rfl))
    simp only [Act.put, List.setIfInBounds_toArray, List.set_cons_zero, List.set_cons_succ]
    refine takeD (i := 10) (d := some 53) (v := ?_) rfl rfl (by kernel_rfl) (by kernel_rfl) (by kernel_rfl) (fun _ _ _ h => h) (Or.inl ⟨by rfl, ?y10⟩) HS0 ?_
    case y10 => (intro w' hSw; (try dsimp only at hSw); go_simp; (try with_reducible rfl))
    simp only [Act.put, List.setIfInBounds_toArray, List.set_cons_zero, List.set_cons_succ]
    refine takeD (i := 11) (d := some 54) (v := ?_) rfl rfl (by kernel_rfl) (by kernel_rfl) (by kernel_rfl) (fun _ _ _ h => h) (Or.inl ⟨by rfl, ?y11⟩) HS0 ?_
    case y11 => (intro w' hSw; (try dsimp only at hSw); go_simp; (try with_reducible rfl))
    simp only [Act.put, List.setIfInBounds_toArray, List.set_cons_zero, List.set_cons_succ]
    refine takeD (i := 12) (d := some 9) (v := ?_) rfl rfl (by kernel_rfl) (by kernel_rfl) (by kernel_rfl) (fun _ _ _ h => h) (Or.inl ⟨by rfl, ?y12⟩) HS0 ?_
    case y12 => (intro w' hSw; (try dsimp only at hSw); go_simp; (try with_reducible rfl))
    simp only [Act.put, List.setIfInBounds_toArray, List.set_cons_zero, List.set_cons_succ]
    refine takeD (i := 13) (d := some 10) (v := ?_) rfl rfl (by kernel_rfl) (by kernel_rfl) (by kernel_rfl) (fun _ _ _ h => h) (Or.inl ⟨by rfl, ?y13⟩) HS0 ?_
    case y13 => (intro w' hSw; (try dsimp only at hSw); go_simp; (try with_reducible rfl))
    simp only [Act.put, List.setIfInBounds_toArray, List.set_cons_zero, List.set_cons_succ]
    refine wpAnyH_done (by kernel_rfl) ?_ _
    refine NoPanic.normal ?_
    clear c1 c2 x5 x6 s0 s1 t0 t1 d2 y5 y6
    cases tb
    · have hrr : R = none := by
        rcases unhide Htx with ⟨h0, -⟩ | ⟨-, h0⟩
        · cases h0
        · rw [unhide HR2, (unhide Hno) h0]
      have Hrr := hide hrr
      clear hrr HR2 Htx Hyes Hno HKV HC HFl He HT HS HB
      go_wp2_with fail
      go_ret
      exact rstr_no (unhide Hrr) ((unhide HL) _ _ _ _ _ (unhide HS2)).gr
    have htx : Dy.text t x2 = some nm := by
      rcases unhide Htx with ⟨-, h0⟩ | ⟨h0, -⟩
      · exact h0
      · cases h0
    have hr := unhide HR2
    rw [(unhide Hyes) nm htx] at hr
    have HR3 : Hid (R = Dy.texts t rn (L.drop (i + 1)) { D with soname := nm }) := hide hr
    clear hr
    have hkv := (unhide HKV) w2 ((unhide HFl) _ (unhide HB2))
    have Hkv := hide hkv
    clear hkv htx Htx Hyes Hno HR2 He HT HS HB HC
    go_wp2_with fail
    refine (unhide Hkv).mono ?_
    rintro e w3 ⟨rfl, rfl⟩
    clear Hkv
    have z0 := (unhide HS2).out.cell (i := 1) rfl
    have z2 := (unhide HS2).out.free 1
    have HP := hide ((unhide HS2).setS (unhide Hgw) nm)
    clear HB2 HFl HKV HS2
    go_wp2_with fail
    go_roundg (k - (i + 1))
    case measure => omega
    case rel => exact ⟨i + 1, { D with soname := nm }, A, n, c, rfl, by omega, by go_num, by omega, unhide HP, unhide HR3⟩
  case inr.inr.inl =>
    go_wp2_with fail
    refine wp_region_noPanic ?_
    refine wp_region_held_drew (S := fun W => W.cell? ⟨w.heap.size, 0, none⟩ = some (.bool th) ∧ W.cell? ⟨w.heap.size, 1, none⟩ = some (.slice At mt ct) ∧ W.cell? ⟨g, 6, none⟩ = some (.slice (some ⟨b2, o2, none⟩) k fv) ∧ W.cell? ⟨b2, o2 + i, none⟩ = some (.int .u64 (x2 : Nat))) (by kernel_rfl) (⟨s0, s1, x6, c2⟩) (fun HS0 => ?_)
    refine takeD (i := 0) (d := some 44) (v := ?_) rfl rfl (by kernel_rfl) (by kernel_rfl) (by kernel_rfl) (fun _ _ _ h => h) (Or.inl ⟨by rfl, ?y0⟩) HS0 ?_
    case y0 => (intro w' hSw; (try dsimp only at hSw); go_simp; (try with_reducible rfl))
    simp only [Act.put, List.setIfInBounds_toArray, List.set_cons_zero, List.set_cons_succ]
    refine takeD (i := 1) (d := some 45) (v := ?_) rfl rfl (by kernel_rfl) (by kernel_rfl) (by kernel_rfl) (fun _ _ _ h => h) (Or.inl ⟨by rfl, ?y1⟩) HS0 ?_
    case y1 => (intro w' hSw; (try dsimp only at hSw); go_simp; (try with_reducible rfl))
    simp only [Act.put, List.setIfInBounds_toArray, List.set_cons_zero, List.set_cons_succ]
    refine takeD (i := 2) (d := some 46) (v := ?_) rfl rfl (by kernel_rfl) (by kernel_rfl) (by kernel_rfl) (fun _ _ _ h => h) (Or.inl ⟨by rfl, ?y2⟩) HS0 ?_
    case y2 => (intro w' hSw; (try dsimp only at hSw); go_simp; (try with_reducible rfl))
    simp only [Act.put, List.setIfInBounds_toArray, List.set_cons_zero, List.set_cons_succ]
    refine takeD (i := 3) (d := some 47) (v := ?_) rfl rfl (by kernel_rfl) (by kernel_rfl) (by kernel_rfl) (fun _ _ _ h => h) (Or.inl ⟨by rfl, ?y3⟩) HS0 ?_
    case y3 => (intro w' hSw; (try dsimp only at hSw); go_simp; (try with_reducible rfl))
    simp only [Act.put, List.setIfInBounds_toArray, List.set_cons_zero, List.set_cons_succ]
    refine takeD (i := 4) (d := some 48) (v := ?_) rfl rfl (by kernel_rfl) (by kernel_rfl) (by kernel_rfl) (fun _ _ _ h => h) (Or.inl ⟨by rfl, ?y4⟩) HS0 ?_
    case y4 => (intro w' hSw; (try dsimp only at hSw); go_simp; (try with_reducible rfl))
    simp only [Act.put, List.setIfInBounds_toArray, List.set_cons_zero, List.set_cons_succ]
    refine takeD (i := 5) (d := some 49) (v := ?_) rfl rfl (by kernel_rfl) (by kernel_rfl) (by kernel_rfl) (fun _ _ _ h => h) (Or.inl ⟨by rfl, ?y5⟩) HS0 ?_
    case y5 => (intro w' hSw; (try dsimp only at hSw); go_simp; (try with_reducible rfl))
    simp only [Act.put, List.setIfInBounds_toArray, List.set_cons_zero, List.set_cons_succ]
    refine takeD (i := 6) (d := some 50) (v := ?_) rfl rfl (by kernel_rfl) (by kernel_rfl) (by kernel_rfl) (fun _ _ _ h => h) (Or.inl ⟨by rfl, ?y6⟩) HS0 ?_
    case y6 => (intro w' hSw; (try dsimp only at hSw); go_simp; (try with_reducible rfl))
    simp only [Act.put, List.setIfInBounds_toArray, List.set_cons_zero, List.set_cons_succ]
    refine takeD (i := 7) (d := some 51) (v := ?_) rfl rfl (by kernel_rfl) (by kernel_rfl) (by kernel_rfl) (fun _ _ _ h => h) (Or.inl ⟨by rfl, ?y7⟩) HS0 ?_
    case y7 => (intro w' hSw; (try dsimp only at hSw); go_simp; (try with_reducible rfl))
    simp only [Act.put, List.setIfInBounds_toArray, List.set_cons_zero, List.set_cons_succ]
    refine wpAnyH_ready (rs := [8]) (by kernel_rfl) (by simp) ?_
    refine AllReadyH.cons (i := 8) rfl (fun K hK => ?_) AllReadyH.nil
    rw [if_pos (by rfl)]
    go_simp
    go_at_call 64
    with_reducible refine ((unhide HKx) _ (below_drew' (unhide HB))).mono ?_
    rintro e w2 ⟨nm, tb, rfl, htx, hb2⟩
    have HB2 := hide ((below_drew' (unhide HB)).trans (hb2.mono (below_drew' (unhide HB)).size))
    have HS2 := hide (((unhide HS).belowSz (below_drew' (Below.refl _ _))).belowSz hb2)
    have Htx := hide htx
    obtain ⟨y5, y6⟩ := (unhide HC) _ ((unhide HFl) _ (unhide HB2))
    obtain ⟨t0, t1⟩ := (unhide HSbox) _ _ _ _ _ (unhide HS2)
    have d2 : w2.cell? ⟨b2, o2 + i, none⟩ = some (.int .u64 (x2 : Nat)) := by
      obtain ⟨b3, o3, b4, o4, hA3, hA4, -, hd⟩ := (unhide HT) w2 ((unhide HFl) _ (unhide HB2)) i _ (unhide He)
      injection hA4 with hA4
      injection hA4 with hA5 hA6
      subst hA5 hA6
      exact hd
    clear hb2 htx HKx
    refine hK.out _ _ (⟨t0, t1, y6, d2⟩) (fun hHeld => ?_)
    clear hK K HS0
    have HS0 := hHeld
    clear hHeld
    (try simp only [Act.put, List.setIfInBounds_toArray, List.set_cons_zero, List.set_cons_succ])
    refine takeD (i := 9) (d := some 43) (v := ?_) rfl rfl (by kernel_rfl) (by kernel_rfl) (by kernel_rfl) (fun _ _ _ h => h) (Or.inl ⟨by rfl, ?y9⟩) HS0 ?_
    case y9 => (intro w' hSw; (try dsimp only at hSw); go_simp; (try with_reducible rfl))
    simp only [Act.put, List.setIfInBounds_toArray, List.set_cons_zero, List.set_cons_succ]
    refine takeD (i := 10) (d := some 53) (v := ?_) rfl rfl (by kernel_rfl) (by kernel_rfl) (by kernel_rfl) (fun _ _ _ h => h) (Or.inl ⟨by rfl, ?y10⟩) HS0 ?_
    case y10 => (intro w' hSw; (try dsimp only at hSw); go_simp; (try with_reducible rfl))
    simp only [Act.put, List.setIfInBounds_toArray, List.set_cons_zero, List.set_cons_succ]
    refine takeD (i := 11) (d := some 54) (v := ?_) rfl rfl (by kernel_rfl) (by kernel_rfl) (by kernel_rfl) (fun _ _ _ h => h) (Or.inl ⟨by rfl, ?y11⟩) HS0 ?_
    case y11 => (intro w' hSw; (try dsimp only at hSw); go_simp; (try with_reducible rfl))
    simp only [Act.put, List.setIfInBounds_toArray, List.set_cons_zero, List.set_cons_succ]
    refine takeD (i := 12) (d := some 9) (v := ?_) rfl rfl (by kernel_rfl) (by kernel_rfl) (by kernel_rfl) (fun _ _ _ h => h) (Or.inl ⟨by rfl, ?y12⟩) HS0 ?_
    case y12 => (intro w' hSw; (try dsimp only at hSw); go_simp; (try with_reducible rfl))
    simp only [Act.put, List.setIfInBounds_toArray, List.set_cons_zero, List.set_cons_succ]
    refine takeD (i := 13) (d := some 10) (v := ?_) rfl rfl (by kernel_rfl) (by kernel_rfl) (by kernel_rfl) (fun _ _ _ h => h) (Or.inl ⟨by rfl, ?y13⟩) HS0 ?_
    case y13 => (intro w' hSw; (try dsimp only at hSw); go_simp; (try with_reducible rfl))
    simp only [Act.put, List.setIfInBounds_toArray, List.set_cons_zero, List.set_cons_succ]
    refine wpAnyH_done (by kernel_rfl) ?_ _
    refine NoPanic.normal ?_
    clear c1 c2 x5 x6 s0 s1 t0 t1 d2 y5 y6
    cases tb
    · have hrr : R = none := by
        rcases unhide Htx with ⟨h0, -⟩ | ⟨-, h0⟩
        · cases h0
        · rw [unhide HR2, (unhide Hno) h0]
      have Hrr := hide hrr
      clear hrr HR2 Htx Hyes Hno HKV HC HFl He HT HS HB
      go_wp2_with fail
      go_ret
      exact rstr_no (unhide Hrr) ((unhide HL) _ _ _ _ _ (unhide HS2)).gr
    have htx : Dy.text t x2 = some nm := by
      rcases unhide Htx with ⟨-, h0⟩ | ⟨h0, -⟩
      · exact h0
      · cases h0
    have hr := unhide HR2
    rw [(unhide Hyes) nm htx] at hr
    have Hr := hide hr
    clear hr
    have hkv := (unhide HKV) w2 ((unhide HFl) _ (unhide HB2))
    have Hkv := hide hkv
    clear hkv htx Htx Hyes Hno HR2 He HT HS HB HC
    go_wp2_with fail
    refine (unhide Hkv).mono ?_
    rintro e w3 ⟨rfl, rfl⟩
    clear Hkv
    cases rn
    · have HR3 : Hid (R = Dy.texts t false (L.drop (i + 1)) { D with run := nm }) := hide (unhide Hr)
      have z0 := (unhide HS2).out.cell (i := 2) rfl
      have z2 := (unhide HS2).out.free 2
      have HP := hide ((unhide HS2).setR (unhide Hgw) nm)
      clear HB2 HFl HKV HS2 Hr
      go_wp2_with fail
      go_roundg (k - (i + 1))
      case measure => omega
      case rel => exact ⟨i + 1, { D with run := nm }, A, n, c, rfl, by omega, by go_num, by omega, unhide HP, unhide HR3⟩
  
    have HR3 : Hid (R = Dy.texts t true (L.drop (i + 1)) D) := hide (unhide Hr)
    clear HB2 HFl HKV Hr
    go_wp2_with fail
    go_roundg (k - (i + 1))
    case measure => omega
    case rel => exact ⟨i + 1, D, A, n, c, rfl, by omega, by go_num, by omega, unhide HS2, unhide HR3⟩
  case inr.inr.inr =>
    go_wp2_with fail
    refine wp_region_noPanic ?_
    refine wp_region_held_drew (S := fun W => W.cell? ⟨w.heap.size, 0, none⟩ = some (.bool th) ∧ W.cell? ⟨w.heap.size, 1, none⟩ = some (.slice At mt ct) ∧ W.cell? ⟨g, 6, none⟩ = some (.slice (some ⟨b2, o2, none⟩) k fv) ∧ W.cell? ⟨b2, o2 + i, none⟩ = some (.int .u64 (x2 : Nat))) (by kernel_rfl) (⟨s0, s1, x6, c2⟩) (fun HS0 => ?_)
    refine takeD (i := 0) (d := some 44) (v := ?_) rfl rfl (by kernel_rfl) (by kernel_rfl) (by kernel_rfl) (fun _ _ _ h => h) (Or.inl ⟨by rfl, ?y0⟩) HS0 ?_
    case y0 => (intro w' hSw; (try dsimp only at hSw); go_simp; (try with_reducible rfl))
    simp only [Act.put, List.setIfInBounds_toArray, List.set_cons_zero, List.set_cons_succ]
    refine takeD (i := 1) (d := some 45) (v := ?_) rfl rfl (by kernel_rfl) (by kernel_rfl) (by kernel_rfl) (fun _ _ _ h => h) (Or.inl ⟨by rfl, ?y1⟩) HS0 ?_
    case y1 => (intro w' hSw; (try dsimp only at hSw); go_simp; (try with_reducible rfl))
    simp only [Act.put, List.setIfInBounds_toArray, List.set_cons_zero, List.set_cons_succ]
    refine takeD (i := 2) (d := some 46) (v := ?_) rfl rfl (by kernel_rfl) (by kernel_rfl) (by kernel_rfl) (fun _ _ _ h => h) (Or.inl ⟨by rfl, ?y2⟩) HS0 ?_
    case y2 => (intro w' hSw; (try dsimp only at hSw); go_simp; (try with_reducible rfl))
    simp only [Act.put, List.setIfInBounds_toArray, List.set_cons_zero, List.set_cons_succ]
    refine takeD (i := 3) (d := some 47) (v := ?_) rfl rfl (by kernel_rfl) (by kernel_rfl) (by kernel_rfl) (fun _ _ _ h => h) (Or.inl ⟨by rfl, ?y3⟩) HS0 ?_
    case y3 => (intro w' hSw; (try dsimp only at hSw); go_simp; (try with_reducible rfl))
    simp only [Act.put, List.setIfInBounds_toArray, List.set_cons_zero, List.set_cons_succ]
    refine takeD (i := 4) (d := some 48) (v := ?_) rfl rfl (by kernel_rfl) (by kernel_rfl) (by kernel_rfl) (fun _ _ _ h => h) (Or.inl ⟨by rfl, ?y4⟩) HS0 ?_
    case y4 => (intro w' hSw; (try dsimp only at hSw); go_simp; (try with_reducible rfl))
    simp only [Act.put, List.setIfInBounds_toArray, List.set_cons_zero, List.set_cons_succ]
    refine takeD (i := 5) (d := some 49) (v := ?_) rfl rfl (by kernel_rfl) (by kernel_rfl) (by kernel_rfl) (fun _ _ _ h => h) (Or.inl ⟨by rfl, ?y5⟩) HS0 ?_
    case y5 => (intro w' hSw; (try dsimp only at hSw); go_simp; (try with_reducible rfl))
    simp only [Act.put, List.setIfInBounds_toArray, List.set_cons_zero, List.set_cons_succ]
    refine takeD (i := 6) (d := some 50) (v := ?_) rfl rfl (by kernel_rfl) (by kernel_rfl) (by kernel_rfl) (fun _ _ _ h => h) (Or.inl ⟨by rfl, ?y6⟩) HS0 ?_
    case y6 => (intro w' hSw; (try dsimp only at hSw); go_simp; (try with_reducible rfl))
    simp only [Act.put, List.setIfInBounds_toArray, List.set_cons_zero, List.set_cons_succ]
    refine takeD (i := 7) (d := some 51) (v := ?_) rfl rfl (by kernel_rfl) (by kernel_rfl) (by kernel_rfl) (fun _ _ _ h => h) (Or.inl ⟨by rfl, ?y7⟩) HS0 ?_
    case y7 => (intro w' hSw; (try dsimp only at hSw); go_simp; (try with_reducible rfl))
    simp only [Act.put, List.setIfInBounds_toArray, List.set_cons_zero, List.set_cons_succ]
    refine wpAnyH_ready (rs := [8]) (by kernel_rfl) (by simp) ?_
    refine AllReadyH.cons (i := 8) rfl (fun K hK => ?_) AllReadyH.nil
    rw [if_pos (by rfl)]
    go_simp
    go_at_call 64
    with_reducible refine ((unhide HKx) _ (below_drew' (unhide HB))).mono ?_
    rintro e w2 ⟨nm, tb, rfl, htx, hb2⟩
    have HB2 := hide ((below_drew' (unhide HB)).trans (hb2.mono (below_drew' (unhide HB)).size))
    have HS2 := hide (((unhide HS).belowSz (below_drew' (Below.refl _ _))).belowSz hb2)
    have Htx := hide htx
    obtain ⟨y5, y6⟩ := (unhide HC) _ ((unhide HFl) _ (unhide HB2))
    obtain ⟨t0, t1⟩ := (unhide HSbox) _ _ _ _ _ (unhide HS2)
    have d2 : w2.cell? ⟨b2, o2 + i, none⟩ = some (.int .u64 (x2 : Nat)) := by
      obtain ⟨b3, o3, b4, o4, hA3, hA4, -, hd⟩ := (unhide HT) w2 ((unhide HFl) _ (unhide HB2)) i _ (unhide He)
      injection hA4 with hA4
      injection hA4 with hA5 hA6
      subst hA5 hA6
      exact hd
    clear hb2 htx HKx
    refine hK.out _ _ (⟨t0, t1, y6, d2⟩) (fun hHeld => ?_)
    clear hK K HS0
    have HS0 := hHeld
    clear hHeld
    (try simp only [Act.put, List.setIfInBounds_toArray, List.set_cons_zero, List.set_cons_succ])
    refine takeD (i := 9) (d := some 43) (v := ?_) rfl rfl (by kernel_rfl) (by kernel_rfl) (by kernel_rfl) (fun _ _ _ h => h) (Or.inl ⟨by rfl, ?y9⟩) HS0 ?_
    case y9 => (intro w' hSw; (try dsimp only at hSw); go_simp; (try with_reducible rfl))
    simp only [Act.put, List.setIfInBounds_toArray, List.set_cons_zero, List.set_cons_succ]
    refine takeD (i := 10) (d := some 53) (v := ?_) rfl rfl (by kernel_rfl) (by kernel_rfl) (by kernel_rfl) (fun _ _ _ h => h) (Or.inl ⟨by rfl, ?y10⟩) HS0 ?_
    case y10 => (intro w' hSw; (try dsimp only at hSw); go_simp; (try with_reducible rfl))
    simp only [Act.put, List.setIfInBounds_toArray, List.set_cons_zero, List.set_cons_succ]
    refine takeD (i := 11) (d := some 54) (v := ?_) rfl rfl (by kernel_rfl) (by kernel_rfl) (by kernel_rfl) (fun _ _ _ h => h) (Or.inl ⟨by rfl, ?y11⟩) HS0 ?_
    case y11 => (intro w' hSw; (try dsimp only at hSw); go_simp; (try with_reducible rfl))
    simp only [Act.put, List.setIfInBounds_toArray, List.set_cons_zero, List.set_cons_succ]
    refine takeD (i := 12) (d := some 9) (v := ?_) rfl rfl (by kernel_rfl) (by kernel_rfl) (by kernel_rfl) (fun _ _ _ h => h) (Or.inl ⟨by rfl, ?y12⟩) HS0 ?_
    case y12 => (intro w' hSw; (try dsimp only at hSw); go_simp; (try with_reducible rfl))
    simp only [Act.put, List.setIfInBounds_toArray, List.set_cons_zero, List.set_cons_succ]
    refine takeD (i := 13) (d := some 10) (v := ?_) rfl rfl (by kernel_rfl) (by kernel_rfl) (by kernel_rfl) (fun _ _ _ h => h) (Or.inl ⟨by rfl, ?y13⟩) HS0 ?_
    case y13 => (intro w' hSw; (try dsimp only at hSw); go_simp; (try with_reducible rfl))
    simp only [Act.put, List.setIfInBounds_toArray, List.set_cons_zero, List.set_cons_succ]
    refine wpAnyH_done (by kernel_rfl) ?_ _
    refine NoPanic.normal ?_
    clear c1 c2 x5 x6 s0 s1 t0 t1 d2 y5 y6
    cases tb
    · have hrr : R = none := by
        rcases unhide Htx with ⟨h0, -⟩ | ⟨-, h0⟩
        · cases h0
        · rw [unhide HR2, (unhide Hno) h0]
      have Hrr := hide hrr
      clear hrr HR2 Htx Hyes Hno HKV HC HFl He HT HS HB
      go_wp2_with fail
      go_ret
      exact rstr_no (unhide Hrr) ((unhide HL) _ _ _ _ _ (unhide HS2)).gr
    have htx : Dy.text t x2 = some nm := by
      rcases unhide Htx with ⟨-, h0⟩ | ⟨h0, -⟩
      · exact h0
      · cases h0
    have hr := unhide HR2
    rw [(unhide Hyes) nm htx] at hr
    have HR3 : Hid (R = Dy.texts t rn (L.drop (i + 1)) { D with run := nm }) := hide hr
    clear hr
    have hkv := (unhide HKV) w2 ((unhide HFl) _ (unhide HB2))
    have Hkv := hide hkv
    clear hkv htx Htx Hyes Hno HR2 He HT HS HB HC
    go_wp2_with fail
    refine (unhide Hkv).mono ?_
    rintro e w3 ⟨rfl, rfl⟩
    clear Hkv
    have z0 := (unhide HS2).out.cell (i := 2) rfl
    have z2 := (unhide HS2).out.free 2
    have HP := hide ((unhide HS2).setR (unhide Hgw) nm)
    clear HB2 HFl HKV HS2
    go_wp2_with fail
    go_roundg (k - (i + 1))
    case measure => omega
    case rel => exact ⟨i + 1, { D with run := nm }, A, n, c, rfl, by omega, by go_num, by omega, unhide HP, unhide HR3⟩
end Go.Proofs.Ytdminnhfgdoibaa
namespace Go.Proofs.Ytdminnhfgdoibaa
set_option linter.unusedVariables false
set_option linter.unusedSimpArgs false
open Go.RowKit
/-- A file's block as its entries grow: two rows, of tags and of values, that lie apart; but for the block the world is as it was. -/
structure EntM (W0 w : World) (g : Nat) (hd : List Value) (T U : List Value) (At : Option Addr) (kt ct : Nat) (Av : Option Addr) (kv cv : Nat) : Prop where
  gr : W0.grownBy w (some g)
  blk : Blk w g 102 (hd ++ [.slice At kt ct, .slice Av kv cv])
  tags : w.ownsRow W0.heap.size 24 1 (.slice At kt ct) kt T
  vals : w.ownsRow W0.heap.size 24 1 (.slice Av kv cv) kv U
  ne : ∀ q, (Value.slice At kt ct).ownBlock = some q → (Value.slice Av kv cv).ownBlock ≠ some q
section
variable {W0 w w' : World} {g : Nat} {hd T U : List Value} {At Av : Option Addr} {kt ct kv cv : Nat}
theorem EntM.belowSz (h : EntM W0 w g hd T U At kt ct Av kv cv) (hb : Below w.heap.size w w') : EntM W0 w' g hd T U At kt ct Av kv cv :=
  ⟨grown_trans h.gr (grownBy_of_below hb), h.blk.belowSz hb, own_below h.tags hb, own_below h.vals hb, h.ne⟩
theorem EntM.keep (h : EntM W0 w g hd T U At kt ct Av kv cv) {q : Nat} {t : TypeId} {l : List Value} (hb : Blk W0 q t l) (hq : q ≠ g) : Blk w q t l := (h.gr.block q hb.lt (fun e => by injection e with e; exact hq e)).trans hb
theorem EntM.pushT {A' : Option Addr} {c' : Nat} {x : Value} (h : EntM W0 w g hd T U At kt ct Av kv cv) (hg0 : g < W0.heap.size) (h5 : hd.length = 5) (ho : w'.ownsRow W0.heap.size 24 1 (.slice A' (kt + 1) c') (kt + 1) (T ++ [x])) (hg : w.grownBy w' (Value.slice At kt ct).ownBlock)
    (hat : ∀ k, (Value.slice A' (kt + 1) c').ownBlock = some k → (Value.slice At kt ct).ownBlock = some k ∨ w.heap.size ≤ k) :
    EntM W0 (w'.setCell ⟨g, 5, none⟩ (.slice A' (kt + 1) c')) g hd (T ++ [x]) U A' (kt + 1) c' Av kv cv := by
  have hgt : some g ≠ (Value.slice At kt ct).ownBlock := fun e => by have := (h.tags.lt _ e.symm).1; omega
  have hb : Blk w' g 102 (hd ++ [.slice At kt ct, .slice Av kv cv]) := (hg.block _ h.blk.lt hgt).trans h.blk
  have hv := h.vals.kept hg (by
    cases hv : (Value.slice Av kv cv).ownBlock with
    | none => exact .inl rfl
    | some q => exact .inr (fun e => h.ne q e.symm hv))
  refine ⟨grown_trans (gr_new h.gr hg (fun k hk => (h.tags.lt k hk).1)) (gr_set _), ?_, own_setOB ho hg0 _, own_setOB hv hg0 _, ?_⟩
  · have := hb.set 5 (.slice A' (kt + 1) c')
    rw [List.set_append_right _ _ (by omega), h5] at this
    exact this
  · intro q hq hv2
    rcases hat q hq with h1 | h1
    · exact h.ne q h1 hv2
    · have := (h.vals.lt _ hv2).2
      omega
theorem EntM.pushV {A' : Option Addr} {c' : Nat} {x : Value} (h : EntM W0 w g hd T U At kt ct Av kv cv) (hg0 : g < W0.heap.size) (h5 : hd.length = 5) (ho : w'.ownsRow W0.heap.size 24 1 (.slice A' (kv + 1) c') (kv + 1) (U ++ [x])) (hg : w.grownBy w' (Value.slice Av kv cv).ownBlock)
    (hat : ∀ k, (Value.slice A' (kv + 1) c').ownBlock = some k → (Value.slice Av kv cv).ownBlock = some k ∨ w.heap.size ≤ k) :
    EntM W0 (w'.setCell ⟨g, 6, none⟩ (.slice A' (kv + 1) c')) g hd T (U ++ [x]) At kt ct A' (kv + 1) c' := by
  have hgt : some g ≠ (Value.slice Av kv cv).ownBlock := fun e => by have := (h.vals.lt _ e.symm).1; omega
  have hb : Blk w' g 102 (hd ++ [.slice At kt ct, .slice Av kv cv]) := (hg.block _ h.blk.lt hgt).trans h.blk
  have hv := h.tags.kept hg (by
    cases hv : (Value.slice At kt ct).ownBlock with
    | none => exact .inl rfl
    | some q => exact .inr (fun e => h.ne q hv e.symm))
  refine ⟨grown_trans (gr_new h.gr hg (fun k hk => (h.vals.lt k hk).1)) (gr_set _), ?_, own_setOB hv hg0 _, own_setOB ho hg0 _, ?_⟩
  · have := hb.set 6 (.slice A' (kv + 1) c')
    rw [List.set_append_right _ _ (by omega), h5] at this
    exact this
  · intro q hq hv2
    rcases hat q hv2 with h1 | h1
    · exact h.ne q hq h1
    · have := (h.tags.lt _ hq).2
      omega
theorem EntM.grown (h : EntM W0 w g hd T U At kt ct Av kv cv) (hg0 : g < W0.heap.size) {row : Option Nat} (hg : w.grownBy w' row) (hr : ∀ k, row = some k → W0.heap.size ≤ k) : W0.grownBy w' (some g) ∧ Blk w' g 102 (hd ++ [.slice At kt ct, .slice Av kv cv]) :=
  ⟨gr_new h.gr hg hr, (hg.block _ h.blk.lt (fun e => by have := hr _ e.symm; omega)).trans h.blk⟩
end
theorem wp_app1g3 {P : Program} {t e : TypeId} {size bytes : Nat} (T : SlTy P t e size bytes) {W : World} {o : Oper} {a : Act} {K : Act → World → Prop} {Q : Exit → Act → World → Prop} (s x : Operand)
    (ho : o.op = .call { callee := .builtin .append, args := #[s, x], argTypes := #[t, t] })
    (base : Nat) (v : Value) (n : Nat) (xs : List Value) (hs : a.eval s = v) (hown : W.ownsRow base e size v n xs)
    (cs : Array Value) (g : Nat) (hx : a.eval x = .slice (some ⟨g, 0, none⟩) 1 1) (hg : g = W.heap.size) (hcs : cs.size = size) (h1 : ∀ u ∈ cs.toList, u.oneCell' = true)
    (hb : (n + 1) * bytes ≤ 140737488355328) (hbase : base ≤ W.heap.size)
    (h : ∀ A' c' w', w'.ownsRow base e size (.slice A' (n + 1) c') (n + 1) (xs ++ cs.toList) → W.grownBy w' v.ownBlock → (∀ k, (Value.slice A' (n + 1) c').ownBlock = some k → v.ownBlock = some k ∨ W.heap.size ≤ k) → K (a.put o.dst (.slice A' (n + 1) c')) w') : o.wp P a (W.alloc (.cells cs e)) K Q := by
  subst hg
  refine wp_app T s x ho base v n xs hs (hown.alloc _) (W.heap.size + 1) (some ⟨W.heap.size, 0, none⟩) 1 1 cs.toList hx (Rd.row hcs) h1 hb (by simp; omega) fun v' w' h2 h3 h4 => ?_
  obtain ⟨A', c', rfl⟩ := own_form h2
  refine h A' c' w' h2 (grown_trans (World.grownBy_alloc W _ _) h3) (fun k hk => ?_)
  rcases h4 k hk with h5 | h5
  · exact .inl h5
  · refine .inr ?_
    simp at h5
    omega
/-- What entries answers. -/
def REntE (B : Nat) (A : Option Addr) (n c : Nat) (b : List UInt8) (ty en ph : Int) (As : Option Addr) (ns cs : Nat) (segs : List El.Sg) (w : World) (e : Ending) (w' : World) : Prop := Below w.heap.size w w' ∧
  ∃ p q x, e = .returned (.tuple #[.pointer p, .bool q, .int .i64 x]) ∧ ((q = false ∧ x = 0 ∧ Dy.open_ b segs = (0, none)) ∨ (q = true ∧ x ≠ 0 ∧ Dy.open_ b segs = (x, none)) ∨
    (q = true ∧ x = 0 ∧ ∃ g At k ct Av cv L, p = some ⟨g, 0, none⟩ ∧ w.heap.size ≤ g ∧ Dy.open_ b segs = (0, some L) ∧ FlM w' B g ⟨A, n, c, b, ty, en, ph, As, ns, cs, segs, At, k, ct, Av, cv, L⟩ ∧ FlOk ⟨A, n, c, b, ty, en, ph, As, ns, cs, segs, At, k, ct, Av, cv, L⟩))
theorem rent_none {B : Nat} {A : Option Addr} {n c : Nat} {b : List UInt8} {ty en ph : Int} {As : Option Addr} {ns cs : Nat} {segs : List El.Sg} {w w' : World} {p : Option Addr} (hb : Below w.heap.size w w') (h : Dy.open_ b segs = (0, none)) : REntE B A n c b ty en ph As ns cs segs w (.returned (.tuple #[.pointer p, .bool false, .int .i64 0])) w' :=
  ⟨hb, p, false, 0, rfl, .inl ⟨rfl, rfl, h⟩⟩
theorem rent_bad {B : Nat} {A : Option Addr} {n c : Nat} {b : List UInt8} {ty en ph : Int} {As : Option Addr} {ns cs : Nat} {segs : List El.Sg} {w w' : World} {p : Option Addr} (hb : Below w.heap.size w w') (h : Dy.open_ b segs = (25, none)) : REntE B A n c b ty en ph As ns cs segs w (.returned (.tuple #[.pointer p, .bool true, .int .i64 25])) w' :=
  ⟨hb, p, true, 25, rfl, .inr (.inl ⟨rfl, by decide, h⟩)⟩
theorem flOf {B n c ns cs k ct cv g : Nat} {A As At Av : Option Addr} {b : List UInt8} {ty en ph : Int} {segs : List El.Sg} {L : List (Nat × Nat)} {W0 w : World} (h : EntM W0 w g [.slice A n c, .int .u16 ty, .int .u64 en, .int .u64 ph, .slice As ns cs] (tgV L) (vlV L) At k ct Av k cv) (hB : B ≤ g) (hb : Rd w B 1 A n (bys b)) (hs : Rd w B 6 As ns (segCells segs)) :
    FlM w B g ⟨A, n, c, b, ty, en, ph, As, ns, cs, segs, At, k, ct, Av, cv, L⟩ := ⟨hB, h.blk, hb, hs, Rd.of_own h.tags, Rd.of_own h.vals⟩
theorem tgV_snoc (L : List (Nat × Nat)) (x : Nat × Nat) : tgV (L ++ [x]) = tgV L ++ [.int .u64 (x.1 : Nat)] := by simp [tgV]
theorem vlV_snoc (L : List (Nat × Nat)) (x : Nat × Nat) : vlV (L ++ [x]) = vlV L ++ [.int .u64 (x.2 : Nat)] := by simp [vlV]
set_option maxRecDepth 100000 in
set_option maxHeartbeats 8000000 in
theorem rentries_any (A : Option Addr) (n c B : Nat) (b : List UInt8) (ty en ph : Int) (As : Option Addr) (ns cs : Nat) (segs : List El.Sg) (w : World) (hB : B ≤ w.heap.size) (hb : Rd w B 1 A n (bys b)) (hs : Rd w B 6 As ns (segCells segs)) (hn : n ≤ 4294967296) (hns : ns ≤ 4294967296) (hc : n ≤ c) (hfit : ∀ s ∈ segs, SgFit s) :
    Calls Try.prog 24 #[.slice A n c, .agg #[.int .u16 ty, .int .u64 en, .int .u64 ph, .slice As ns cs]] w (REntE B A n c b ty en ph As ns cs segs w) := by
  have hsl : segs.length = ns := by have := hs.1; rw [segCells_len] at this; omega
  have hbl : b.length = n := by have := hb.1; simp [bys] at this; omega
  have e1 : (w.alloc (.cells #[.int .u16 ty, .int .u64 en, .int .u64 ph, .slice As ns cs] 27)).heap.size = w.heap.size + 1 := by simp
  have Hr := hide hb
  have Hs := hide hs
  have Hsl := hide hsl
  have Hbl := hide hbl
  have Hfit := hide hfit
  have HB0 : Hid (Below w.heap.size w ((w.alloc (.cells #[.int .u16 ty, .int .u64 en, .int .u64 ph, .slice As ns cs] 27)).alloc (.cells #[.slice A n c, .int .u16 ty, .int .u64 en, .int .u64 ph, .slice As ns cs, .slice none 0 0, .slice none 0 0] 102))) := hide (((Below.refl _ _).alloc (Nat.le_refl _) _).alloc (by rw [e1]; omega) _)
  have HK0 : Hid (Blk ((w.alloc (.cells #[.int .u16 ty, .int .u64 en, .int .u64 ph, .slice As ns cs] 27)).alloc (.cells #[.slice A n c, .int .u16 ty, .int .u64 en, .int .u64 ph, .slice As ns cs, .slice none 0 0, .slice none 0 0] 102)) w.heap.size 27 [.int .u16 ty, .int .u64 en, .int .u64 ph, .slice As ns cs]) := hide ((Blk.new w 27 [.int .u16 ty, .int .u64 en, .int .u64 ph, .slice As ns cs]).alloc _)
  have HQ0 : Hid (Blk ((w.alloc (.cells #[.int .u16 ty, .int .u64 en, .int .u64 ph, .slice As ns cs] 27)).alloc (.cells #[.slice A n c, .int .u16 ty, .int .u64 en, .int .u64 ph, .slice As ns cs, .slice none 0 0, .slice none 0 0] 102)) (w.heap.size + 1) 102 [.slice A n c, .int .u16 ty, .int .u64 en, .int .u64 ph, .slice As ns cs, .slice none 0 0, .slice none 0 0]) := hide (by have := Blk.new (w.alloc (.cells #[.int .u16 ty, .int .u64 en, .int .u64 ph, .slice As ns cs] 27)) 102 [.slice A n c, .int .u16 ty, .int .u64 en, .int .u64 ph, .slice As ns cs, .slice none 0 0, .slice none 0 0]; rw [e1] at this; exact this)
  clear hb hs hsl hbl hfit e1
  go_enter Try.func24, Try.ntmps24
  go_wp2_with fail
  go_loopg [8] ns (fun gk iv wr => ∃ j : Nat, gk = ns - j ∧ j ≤ ns ∧ iv = .int .i64 j ∧ segs.find? (fun s => s.kind == 2) = (segs.drop j).find? (fun s => s.kind == 2) ∧ Below w.heap.size w wr ∧ Blk wr w.heap.size 27 [.int .u16 ty, .int .u64 en, .int .u64 ph, .slice As ns cs] ∧ Blk wr (w.heap.size + 1) 102 [.slice A n c, .int .u16 ty, .int .u64 en, .int .u64 ph, .slice As ns cs, .slice none 0 0, .slice none 0 0])
  case atStart => exact ⟨0, by omega, Nat.zero_le _, rfl, rfl, unhide HB0, unhide HK0, unhide HQ0⟩
  case round =>
  obtain ⟨j, hgk, hj, rfl, hfd, hbr, hkr, hqr⟩ := hrel
  have Hfd := hide hfd
  have Hbr := hide hbr
  have Hkr := hide hkr
  have Hqr := hide hqr
  have v3 := hkr.cell (i := 3) rfl
  have Hgl : Hid (w.heap.size + 1 < wr.heap.size) := hide hqr.lt
  clear hfd hbr hkr hqr HB0 HK0 HQ0
  by_cases hlt : j < ns
  case neg =>
    have hno : segs.find? (fun s => s.kind == 2) = none := by rw [unhide Hfd, List.drop_of_length_le (by rw [unhide Hsl]; omega)]; rfl
    have Hno := hide (open_none (b := b) hno)
    have ige : ¬ (j : Int) < (ns : Int) := by omega
    clear hno Hfd Hr Hs
    go_wp2_with fail
    go_ret3
    exact rent_none (unhide Hbr) (unhide Hno)
  have ilt : (j : Int) < (ns : Int) := by omega
  obtain ⟨s, hsj⟩ : ∃ s, segs[j]? = some s := ⟨_, List.getElem?_eq_getElem (by rw [unhide Hsl]; exact hlt)⟩
  obtain ⟨hf0, hf1, hf2, hf3, hf4, hf5⟩ := (unhide Hfit) s (List.mem_of_getElem? hsj)
  obtain ⟨b1, o1, hA1, hbb, c0, c1, c2, c3, c4, c5⟩ := seg_at ((unhide Hs).below ((unhide Hbr).mono hB)) hsj
  subst hA1
  have hfd2 := unhide Hfd
  rw [List.drop_eq_getElem_cons (by rw [unhide Hsl]; exact hlt), show segs[j]'(by rw [unhide Hsl]; exact hlt) = s from (List.getElem?_eq_some_iff.1 hsj).2, List.find?_cons] at hfd2
  have HE : Hid (Blk (wr.alloc (.cells #[.int .u32 (s.kind : Nat), .int .u8 (s.flags : Nat), .int .u64 (s.off : Nat), .int .u64 (s.addr : Nat), .int .u64 (s.fsz : Nat), .int .u64 (s.msz : Nat)] 52)) wr.heap.size 52 [.int .u32 (s.kind : Nat), .int .u8 (s.flags : Nat), .int .u64 (s.off : Nat), .int .u64 (s.addr : Nat), .int .u64 (s.fsz : Nat), .int .u64 (s.msz : Nat)]) := hide (Blk.new wr 52 [.int .u32 (s.kind : Nat), .int .u8 (s.flags : Nat), .int .u64 (s.off : Nat), .int .u64 (s.addr : Nat), .int .u64 (s.fsz : Nat), .int .u64 (s.msz : Nat)])
  have HB2 : Hid (Below w.heap.size w (wr.alloc (.cells #[.int .u32 (s.kind : Nat), .int .u8 (s.flags : Nat), .int .u64 (s.off : Nat), .int .u64 (s.addr : Nat), .int .u64 (s.fsz : Nat), .int .u64 (s.msz : Nat)] 52))) := hide ((unhide Hbr).alloc (unhide Hbr).size _)
  have HK2 : Hid (Blk (wr.alloc (.cells #[.int .u32 (s.kind : Nat), .int .u8 (s.flags : Nat), .int .u64 (s.off : Nat), .int .u64 (s.addr : Nat), .int .u64 (s.fsz : Nat), .int .u64 (s.msz : Nat)] 52)) w.heap.size 27 [.int .u16 ty, .int .u64 en, .int .u64 ph, .slice (some ⟨b1, o1, none⟩) ns cs]) := hide ((unhide Hkr).alloc _)
  have HQ2 : Hid (Blk (wr.alloc (.cells #[.int .u32 (s.kind : Nat), .int .u8 (s.flags : Nat), .int .u64 (s.off : Nat), .int .u64 (s.addr : Nat), .int .u64 (s.fsz : Nat), .int .u64 (s.msz : Nat)] 52)) (w.heap.size + 1) 102 [.slice A n c, .int .u16 ty, .int .u64 en, .int .u64 ph, .slice (some ⟨b1, o1, none⟩) ns cs, .slice none 0 0, .slice none 0 0]) := hide ((unhide Hqr).alloc _)
  clear Hfd
  by_cases hkd : s.kind = 2
  case neg =>
    have hkq : (s.kind == 2) = false := by simpa using hkd
    rw [hkq] at hfd2
    have Hfd3 := hide hfd2
    have hkq2 : ¬ (s.kind : Int) = 2 := by omega
    clear hfd2 hkq
    go_wp2_with fail
    go_roundg (ns - (j + 1))
    case measure => omega
    case rel => exact ⟨j + 1, rfl, by omega, by go_num, unhide Hfd3, unhide HB2, unhide HK2, unhide HQ2⟩
  have hkq : (s.kind == 2) = true := by simpa using hkd
  rw [hkq] at hfd2
  dsimp only at hfd2
  have hop := open_some (b := b) hfd2
  rw [unhide Hbl] at hop
  have Hop := hide hop
  have hkI : (s.kind : Int) = 2 := by omega
  have hB2 := unhide HB2
  have hQ2 := unhide HQ2
  have hE := unhide HE
  rw [hkI] at hB2 hQ2 hE
  have HB3 := hide hB2
  have HQ3 := hide hQ2
  have HE3 := hide hE
  clear hop hfd2 hkq HB2 HK2 HQ2 HE hB2 hQ2 hE Hkr Hqr
  by_cases hmd : s.fsz % 16 = 0
  case neg =>
    have hr := unhide Hop
    rw [if_pos (.inl hmd)] at hr
    have Hno := hide hr
    have m1 : ¬ (s.fsz : Int) % 16 = 0 := by omega
    have m2 : ¬ (s.fsz : Int).tmod 16 = 0 := by rw [Int.tmod_eq_emod_of_nonneg (by omega)]; exact m1
    clear hr Hop
    go_wp2_with fail
    go_ret3
    exact rent_bad (unhide HB3) (unhide Hno)
  have m1 : (s.fsz : Int) % 16 = 0 := by omega
  have m2 : (s.fsz : Int).tmod 16 = 0 := by rw [Int.tmod_eq_emod_of_nonneg (by omega)]; exact m1
  have nw : IntKind.u64.wrap (n : Int) = (n : Int) := by rw [IntKind.wrap_u64]; omega
  have KI := hide (fun w' => rinsW_any (s.off : Int) (s.fsz : Int) (n : Int) w' (by omega) (by omega) (by omega) (by omega) (by omega) (by omega))
  by_cases hin : s.off + s.fsz ≤ n
  case neg =>
    have hr := unhide Hop
    rw [if_pos (.inr (by omega))] at hr
    have Hno := hide hr
    have ki := unhide KI
    rw [show decide ((s.off : Int) + (s.fsz : Int) ≤ (n : Int)) = false by simp; omega] at ki
    have KI2 := hide ki
    clear hr Hop ki KI
    go_wp2_with fail
    refine ((unhide KI2) _).mono ?_
    rintro e w2 ⟨rfl, rfl⟩
    go_wp2_with fail
    go_ret3
    exact rent_bad (unhide HB3) (unhide Hno)
  have ki := unhide KI
  rw [show decide ((s.off : Int) + (s.fsz : Int) ≤ (n : Int)) = true by simp; omega] at ki
  have KI2 := hide ki
  have hr := unhide Hop
  rw [if_neg (by omega)] at hr
  have Hop2 := hide hr
  clear hr ki KI Hop
  go_wp2_with fail
  refine ((unhide KI2) _).mono ?_
  rintro e w2 ⟨rfl, rfl⟩
  clear KI2 nw
  obtain ⟨V, hV⟩ : ∃ x, x = wr.alloc (.cells #[.int .u32 2, .int .u8 (s.flags : Nat), .int .u64 (s.off : Nat), .int .u64 (s.addr : Nat), .int .u64 (s.fsz : Nat), .int .u64 (s.msz : Nat)] 52) := ⟨_, rfl⟩
  have eV : V.heap.size = wr.heap.size + 1 := by rw [hV]; simp
  have hbV : Below w.heap.size w V := by rw [hV]; exact unhide HB3
  have hqV : Blk V (w.heap.size + 1) 102 [.slice A n c, .int .u16 ty, .int .u64 en, .int .u64 ph, .slice (some ⟨b1, o1, none⟩) ns cs, .slice none 0 0, .slice none 0 0] := by rw [hV]; exact unhide HQ3
  have hsV : Blk V wr.heap.size 52 [.int .u32 2, .int .u8 (s.flags : Nat), .int .u64 (s.off : Nat), .int .u64 (s.addr : Nat), .int .u64 (s.fsz : Nat), .int .u64 (s.msz : Nat)] := by rw [hV]; exact unhide HE3
  rw [← hV]
  have Hgne : Hid (wr.heap.size ≠ w.heap.size + 1) := hide (by have := unhide Hgl; omega)
  obtain ⟨sb, hsb⟩ : ∃ q, wr.heap.size = q := ⟨_, rfl⟩
  rw [hsb] at hsV eV Hgne ⊢
  obtain ⟨g, hg⟩ : ∃ g, w.heap.size + 1 = g := ⟨_, rfl⟩
  rw [hg] at hqV Hgne ⊢
  have hgV : g < V.heap.size := hqV.lt
  have hwg : w.heap.size ≤ g := by omega
  have hBV : B ≤ V.heap.size := Nat.le_trans hB hbV.size
  obtain ⟨N, hN⟩ : ∃ N, s.fsz / 16 = N := ⟨_, rfl⟩
  have hfN : s.fsz = 16 * N := by omega
  have hE0 : EntM V V g [.slice A n c, .int .u16 ty, .int .u64 en, .int .u64 ph, .slice (some ⟨b1, o1, none⟩) ns cs] (tgV []) (vlV []) none 0 0 none 0 0 := ⟨World.grownBy.refl _ _, hqV, World.ownsRow_nil _ _ _ _, World.ownsRow_nil _ _ _ _, fun q hq => by cases hq⟩
  have HRb : Hid (∀ W, V.grownBy W (some g) → Below w.heap.size w W ∧ Rd W B 1 A n (bys b) ∧ Rd W B 6 (some ⟨b1, o1, none⟩) ns (segCells segs) ∧ W.cell? ⟨sb, 2, none⟩ = some (.int .u64 (s.off : Nat)) ∧ W.cell? ⟨sb, 4, none⟩ = some (.int .u64 (s.fsz : Nat))) := hide (fun W hW => by
    have h1 := gr_below hbV hW hwg hbV.size
    have hk : Blk W sb 52 [.int .u32 2, .int .u8 (s.flags : Nat), .int .u64 (s.off : Nat), .int .u64 (s.addr : Nat), .int .u64 (s.fsz : Nat), .int .u64 (s.msz : Nat)] := (hW.block sb hsV.lt (fun e => by injection e with e; exact (unhide Hgne) e)).trans hsV
    exact ⟨h1, (unhide Hr).below (h1.mono hB), (unhide Hs).below (h1.mono hB), hk.cell (i := 2) rfl, hk.cell (i := 4) rfl⟩)
  have hop := unhide Hop2
  rw [hN] at hop
  have Hop3 := hide hop
  have HE0 := hide hE0
  have HV0 := (unhide HRb) V (World.grownBy.refl _ _)
  obtain ⟨-, -, -, v2, v4⟩ := HV0
  have HgV := hide hgV
  have HbV := hide hbV
  have Hwg := hide hwg
  clear hop Hop2 hE0 hV hN hqV hsV hgV hbV HB3 HQ3 HE3 m1 m2 hmd c0 c1 c2 c3 c4 c5 v3 Hbr Hr Hs Hgl Hgne hg hsb hwg
  go_wp2_with fail
  go_loopg [10] N (fun gk2 pv wq => ∃ (i : Nat) (At : Option Addr) (ct : Nat) (Av : Option Addr) (cv : Nat), gk2 = N - i ∧ i ≤ N ∧ pv = .int .u64 (16 * i : Nat) ∧ EntM V wq g [.slice A n c, .int .u16 ty, .int .u64 en, .int .u64 ph, .slice (some ⟨b1, o1, none⟩) ns cs] (tgV ((Dy.prs b s.off N).take i)) (vlV ((Dy.prs b s.off N).take i)) At i ct Av i cv ∧ Dy.ents b N s.off = (Dy.ents b (N - i) (s.off + i * 16)).map ((Dy.prs b s.off N).take i ++ ·))
  case atStart => exact ⟨0, none, 0, none, 0, rfl, Nat.zero_le _, rfl, unhide HE0, by rw [List.take_zero, Nat.sub_zero, Nat.zero_mul, Nat.add_zero]; cases Dy.ents b N s.off <;> rfl⟩
  case round =>
  obtain ⟨i, At, ct, Av, cv, hgk2, hi, rfl, hem, hent⟩ := hrel
  obtain ⟨hbw, hrd, hsd, v2, v4⟩ := (unhide HRb) _ hem.gr
  have HEM := hide hem
  have Hent := hide hent
  have HBW := hide hbw
  have HRD := hide hrd
  have HSD := hide hsd
  clear hem hent hbw hrd hsd HE0
  by_cases hlt2 : i < N
  case neg =>
    have hiN : i = N := by omega
    have hop := unhide Hop3
    rw [Dy.ents_end (unhide Hent) hiN] at hop
    have Hno := hide hop
    have pge : ¬ 16 * (i : Int) < (s.fsz : Int) := by omega
    clear hop Hop3 Hent hiN
    go_wp2_with fail
    go_ret3
    exact rent_bad (unhide HBW) (unhide Hno)
  have plt : 16 * (i : Int) < (s.fsz : Int) := by omega
  obtain ⟨x, hx⟩ : ∃ x, Dy.pr b s.off i = x := ⟨_, rfl⟩
  have hxl := Dy.pr_lt b s.off i
  have k1 := rnumber_any A n c B b (s.off + i * 16) 8 wr (unhide HRD) hn (by omega) (by omega)
  have k2 := fun W (hW : Rd W B 1 A n (bys b)) => rnumber_any A n c B b (s.off + i * 16 + 8) 8 W hW hn (by omega) (by omega)
  have hx1 : Wd.num b (s.off + i * 16) 8 = x.1 := by rw [← hx]; rfl
  have hx2 : Wd.num b (s.off + i * 16 + 8) 8 = x.2 := by rw [← hx]; rfl
  rw [hx1] at k1
  rw [hx2] at k2
  rw [hx] at hxl
  have ci1 : ((s.off + i * 16 : Nat) : Int) = (s.off : Int) + 16 * (i : Int) := by omega
  have ci2 : ((s.off + i * 16 + 8 : Nat) : Int) = (s.off : Int) + 16 * (i : Int) + 8 := by omega
  rw [ci1] at k1
  rw [ci2] at k2
  have w1 : IntKind.u64.wrap ((s.off : Int) + 16 * (i : Int)) = (s.off : Int) + 16 * (i : Int) := by rw [IntKind.wrap_u64]; omega
  have w2 : IntKind.u64.wrap ((s.off : Int) + 16 * (i : Int) + 8) = (s.off : Int) + 16 * (i : Int) + 8 := by rw [IntKind.wrap_u64]; omega
  have w3 : IntKind.u64.wrap (16 * (i : Int) + 16) = 16 * (i : Int) + 16 := by rw [IntKind.wrap_u64]; omega
  have K1 : Hid (Calls Try.prog 45 #[.slice A n c, .int .u64 ((s.off : Int) + 16 * (i : Int)), .int .i64 8] wr (fun e w2 => e = .returned (.int .u64 (x.1 : Nat)) ∧ wr = w2)) := hide k1
  have K2 : Hid (∀ W, Rd W B 1 A n (bys b) → Calls Try.prog 45 #[.slice A n c, .int .u64 ((s.off : Int) + 16 * (i : Int) + 8), .int .i64 8] W (fun e w2 => e = .returned (.int .u64 (x.2 : Nat)) ∧ W = w2)) := hide k2
  have Hx := hide hx
  obtain ⟨x1, x2⟩ := x
  dsimp only at hxl K1 K2
  clear k1 k2 ci1 ci2 hx hx1 hx2
  by_cases hx0 : x1 = 0
  case pos =>
    subst hx0
    have hst := Dy.ents_stop (unhide Hent) hlt2 (by rw [unhide Hx])
    have hop := unhide Hop3
    rw [hst] at hop
    dsimp only at hop
    have hml : ((Dy.prs b s.off N).take i).length = i := by rw [List.length_take, Dy.prs_len]; omega
    obtain ⟨L, hL⟩ : ∃ L, (Dy.prs b s.off N).take i = L := ⟨_, rfl⟩
    have hem := unhide HEM
    rw [hL] at hem hop hml
    have hlx : ∀ e ∈ L, e.1 < 18446744073709551616 ∧ e.2 < 18446744073709551616 := by
      intro e he
      rw [← hL] at he
      have := List.mem_of_mem_take he
      unfold Dy.prs at this
      obtain ⟨q, -, rfl⟩ := List.mem_map.1 this
      exact Dy.pr_lt b s.off q
    have hfl := flOf (b := b) (segs := segs) hem (Nat.le_trans hB (unhide Hwg)) (unhide HRD) (unhide HSD)
    have hfo : FlOk ⟨A, n, c, b, ty, en, ph, some ⟨b1, o1, none⟩, ns, cs, segs, At, i, ct, Av, cv, L⟩ := ⟨hn, hc, hns, by dsimp only; omega, unhide Hfit, hlx⟩
    have KM := rmay_any B g _ wr hfl hfo
    dsimp only at KM
    obtain ⟨mv, hmv⟩ : ∃ x, Dy.may L = x := ⟨_, rfl⟩
    rw [hmv] at KM hop
    have HKM := hide KM
    have HFL := hide hfl
    have HFO := hide hfo
    have Hop4 := hide hop
    clear hst hop hml hL hem hlx hfl hfo KM hmv K2 HRb Hop3 Hent HEM w2 w3 Hx
    go_wp2_with fail
    refine (unhide K1).mono ?_
    rintro e w2 ⟨rfl, rfl⟩
    go_wp2_with fail
    refine (unhide HKM).mono ?_
    rintro e w5 ⟨rfl, hb5⟩
    have HB5 := hide ((unhide HBW).trans (hb5.mono (unhide HBW).size))
    have HFL5 := hide ((unhide HFL).belowSz hb5)
    clear hb5 HKM HFL
    go_wp2_with fail
    go_ret3
    refine ⟨unhide HB5, _, true, _, rfl, ?_⟩
    have hop := unhide Hop4
    by_cases hm0 : mv = 0
    · rw [if_pos hm0] at hop
      exact .inr (.inr ⟨rfl, hm0, g, At, i, ct, Av, cv, L, rfl, unhide Hwg, hop, unhide HFL5, unhide HFO⟩)
    · rw [if_neg hm0] at hop
      exact .inr (.inl ⟨rfl, hm0, hop⟩)
  have hx0I : ¬ (x1 : Int) = 0 := by omega
  have hon := Dy.ents_on (unhide Hent) hlt2 (by rw [unhide Hx]; exact hx0)
  have htk := Dy.prs_take (b := b) (off := s.off) hlt2
  have hx' := unhide Hx
  rw [hx'] at hon htk
  rw [← htk] at hon
  have Hon := hide hon
  have Htk := hide htk
  have v5 := (unhide HEM).blk.cell (i := 5) rfl
  have f5 := (unhide HEM).blk.free 5
  clear hon htk hx' Hent Hop3
  go_wp2_with fail
  refine (unhide K1).mono ?_
  rintro e w2 ⟨rfl, rfl⟩
  have HgA := hide ((unhide HEM).blk.alloc (.cells #[.int .u64 (x1 : Nat)] 24))
  have y5 := (unhide HgA).cell (i := 5) rfl
  go_wp2_with ((at_builtin; refine wpList_app1g lkTy rfl _ _ rfl V.heap.size (.slice At i ct) i (tgV ((Dy.prs b s.off N).take i)) rfl (unhide HEM).tags #[.int .u64 (x1 : Nat)] _ rfl (by simp) rfl (by intro u hu; simp at hu; subst hu; rfl) (by omega) (unhide HEM).gr.size ?_; intro A3 c3 w4 ho3 hg3 hat3; have HP := hide ((unhide HEM).pushT (unhide HgV) rfl ho3 hg3 hat3); have HG := hide ((unhide HEM).grown (unhide HgV) hg3 (fun k hk => ((unhide HEM).tags.lt k hk).1)); have z5 := (unhide HG).2.cell (i := 5) rfl; have g5 := (unhide HG).2.free 5; clear ho3 hg3 hat3))
  obtain ⟨W5, hW5⟩ : ∃ x, w4.setCell ⟨g, 5, none⟩ (.slice A3 (i + 1) c3) = x := ⟨_, rfl⟩
  rw [hW5]
  have hp := unhide HP
  rw [hW5] at hp
  have HP2 := hide hp
  clear hp hW5 HP HG z5 g5 y5 HgA v5 f5 K1 w1
  have w1 : IntKind.u64.wrap ((s.off : Int) + 16 * (i : Int)) = (s.off : Int) + 16 * (i : Int) := by rw [IntKind.wrap_u64]; omega
  obtain ⟨-, -, -, u2, u4⟩ := (unhide HRb) _ (unhide HP2).gr
  have HPd := hide ((unhide HP2).belowSz (below_drew' (Below.refl _ _)))
  have z6 := (unhide HP2).blk.cell (i := 6) rfl
  clear v2 v4
  refine wp_region_noPanic ?_
  refine wp_region_held_drew (S := fun W => W.cell? ⟨sb, 2, none⟩ = some (.int .u64 (s.off : Nat))) (by kernel_rfl) (u2) (fun HS0 => ?_)
  refine takeD (i := 0) (d := some 73) (v := ?_) rfl rfl (by kernel_rfl) (by kernel_rfl) (by kernel_rfl) (fun _ _ _ h => h) (Or.inl ⟨by rfl, ?y0⟩) HS0 ?_
  case y0 => (intro w' hSw; (try dsimp only at hSw); go_simp; (try with_reducible rfl))
  simp only [Act.put, List.setIfInBounds_toArray, List.set_cons_zero, List.set_cons_succ]
  refine takeD (i := 1) (d := some 74) (v := ?_) rfl rfl (by kernel_rfl) (by kernel_rfl) (by kernel_rfl) (fun _ _ _ h => h) (Or.inl ⟨by rfl, ?y1⟩) HS0 ?_
  case y1 => (intro w' hSw; (try dsimp only at hSw); go_simp; (try with_reducible rfl))
  simp only [Act.put, List.setIfInBounds_toArray, List.set_cons_zero, List.set_cons_succ]
  refine takeD (i := 2) (d := some 75) (v := ?_) rfl rfl (by kernel_rfl) (by kernel_rfl) (by kernel_rfl) (fun _ _ _ h => h) (Or.inl ⟨by rfl, ?y2⟩) HS0 ?_
  case y2 => (intro w' hSw; (try dsimp only at hSw); go_simp; (try with_reducible rfl))
  simp only [Act.put, List.setIfInBounds_toArray, List.set_cons_zero, List.set_cons_succ]
  refine takeD (i := 3) (d := some 76) (v := ?_) rfl rfl (by kernel_rfl) (by kernel_rfl) (by kernel_rfl) (fun _ _ _ h => h) (Or.inl ⟨by rfl, ?y3⟩) HS0 ?_
  case y3 => (intro w' hSw; (try dsimp only at hSw); go_simp; (try with_reducible rfl))
  simp only [Act.put, List.setIfInBounds_toArray, List.set_cons_zero, List.set_cons_succ]
  refine takeD (i := 5) (d := some 78) (v := ?_) rfl rfl (by kernel_rfl) (by kernel_rfl) (by kernel_rfl) (fun _ _ _ h => h) (Or.inl ⟨by rfl, ?y5⟩) HS0 ?_
  case y5 => (intro w' hSw; (try dsimp only at hSw); go_simp; (try with_reducible rfl))
  simp only [Act.put, List.setIfInBounds_toArray, List.set_cons_zero, List.set_cons_succ]
  refine takeD (i := 6) (d := some 79) (v := ?_) rfl rfl (by kernel_rfl) (by kernel_rfl) (by kernel_rfl) (fun _ _ _ h => h) (Or.inl ⟨by rfl, ?y6⟩) HS0 ?_
  case y6 => (intro w' hSw; (try dsimp only at hSw); go_simp; (try with_reducible rfl))
  simp only [Act.put, List.setIfInBounds_toArray, List.set_cons_zero, List.set_cons_succ]
  refine takeD (i := 7) (d := some 80) (v := ?_) rfl rfl (by kernel_rfl) (by kernel_rfl) (by kernel_rfl) (fun _ _ _ h => h) (Or.inl ⟨by rfl, ?y7⟩) HS0 ?_
  case y7 => (intro w' hSw; (try dsimp only at hSw); go_simp; (try with_reducible rfl))
  simp only [Act.put, List.setIfInBounds_toArray, List.set_cons_zero, List.set_cons_succ]
  refine takeD (i := 8) (d := some 81) (v := ?_) rfl rfl (by kernel_rfl) (by kernel_rfl) (by kernel_rfl) (fun _ _ _ h => h) (Or.inl ⟨by rfl, ?y8⟩) HS0 ?_
  case y8 => (intro w' hSw; (try dsimp only at hSw); go_simp; (try with_reducible rfl))
  simp only [Act.put, List.setIfInBounds_toArray, List.set_cons_zero, List.set_cons_succ]
  refine takeD (i := 9) (d := some 82) (v := ?_) rfl rfl (by kernel_rfl) (by kernel_rfl) (by kernel_rfl) (fun _ _ _ h => h) (Or.inl ⟨by rfl, ?y9⟩) HS0 ?_
  case y9 => (intro w' hSw; (try dsimp only at hSw); go_simp; (try with_reducible rfl))
  simp only [Act.put, List.setIfInBounds_toArray, List.set_cons_zero, List.set_cons_succ]
  refine takeD (i := 10) (d := some 83) (v := ?_) rfl rfl (by kernel_rfl) (by kernel_rfl) (by kernel_rfl) (fun _ _ _ h => h) (Or.inl ⟨by rfl, ?y10⟩) HS0 ?_
  case y10 => (intro w' hSw; (try dsimp only at hSw); go_simp; (try with_reducible rfl))
  simp only [Act.put, List.setIfInBounds_toArray, List.set_cons_zero, List.set_cons_succ]
  refine wpAnyH_ready (rs := [4, 11]) (by kernel_rfl) (by simp) ?_
  refine AllReadyH.cons (i := 4) rfl (fun K hK => ?way4) (AllReadyH.cons (i := 11) rfl (fun K hK => ?way11) AllReadyH.nil)
  case way4 =>
    rw [if_pos (by rfl)]
    go_simp
    refine hK.out _ _ ((unhide HRb) _ (unhide HPd).gr).2.2.2.1 (fun hHeld => ?_)
    clear hK K HS0
    have HS0 := hHeld
    clear hHeld
    (try simp only [Act.put, List.setIfInBounds_toArray, List.set_cons_zero, List.set_cons_succ])
    refine wpAnyH_ready (rs := [11]) (by kernel_rfl) (by simp) ?_
    refine AllReadyH.cons (i := 11) rfl (fun K hK => ?_) AllReadyH.nil
    rw [if_pos (by rfl)]
    go_simp
    go_at_call 45
    with_reducible refine ((unhide K2) _ ((unhide HRb) _ (unhide HPd).gr).2.1).mono ?_
    rintro e w9 ⟨rfl, rfl⟩
    refine hK.out _ _ ((unhide HRb) _ (unhide HPd).gr).2.2.2.1 (fun hHeld => ?_)
    clear hK K HS0
    have HS0 := hHeld
    clear hHeld
    (try simp only [Act.put, List.setIfInBounds_toArray, List.set_cons_zero, List.set_cons_succ])
    refine wpAnyH_ready (rs := [12]) (by kernel_rfl) (by simp) ?_
    refine AllReadyH.cons (i := 12) rfl (fun K hK => ?_) AllReadyH.nil
    rw [if_pos (by rfl)]
    go_simp
    refine hK.out _ _ ((unhide HRb) _ ((unhide HPd).belowSz ((Below.refl _ _).alloc (Nat.le_refl _) _)).gr).2.2.2.1 (fun hHeld => ?_)
    clear hK K HS0
    have HS0 := hHeld
    clear hHeld
    (try simp only [Act.put, List.setIfInBounds_toArray, List.set_cons_zero, List.set_cons_succ])
    refine wpAnyH_ready (rs := [13]) (by kernel_rfl) (by simp) ?_
    refine AllReadyH.cons (i := 13) rfl (fun K hK => ?_) AllReadyH.nil
    rw [if_pos (by rfl)]
    refine wp_app1g3 lkTy _ _ rfl V.heap.size (.slice Av i cv) i (vlV ((Dy.prs b s.off N).take i)) rfl (unhide HPd).vals #[.int .u64 (x2 : Nat)] _ rfl (by simp) rfl (by intro u hu; simp at hu; rcases hu with rfl; rfl) (by omega) (unhide HPd).gr.size ?_
    intro A6 c6 w8 ho6 hg6 hat6
    have HP6 := hide ((unhide HPd).pushV (unhide HgV) rfl ho6 hg6 hat6)
    have HG6 := hide ((unhide HPd).grown (unhide HgV) hg6 (fun k hk => ((unhide HPd).vals.lt k hk).1))
    have z6 := (unhide HG6).2.cell (i := 6) rfl
    have g6 := (unhide HG6).2.free 6
    clear ho6 hg6 hat6
    refine hK.out _ _ ((unhide HRb) _ (unhide HG6).1).2.2.2.1 (fun hHeld => ?_)
    clear hK K HS0
    have HS0 := hHeld
    clear hHeld
    (try simp only [Act.put, List.setIfInBounds_toArray, List.set_cons_zero, List.set_cons_succ])
    refine takeD (i := 14) (d := some 87) (v := ?_) rfl rfl (by kernel_rfl) (by kernel_rfl) (by kernel_rfl) (fun _ _ _ h => h) (Or.inl ⟨by rfl, ?y14⟩) HS0 ?_
    case y14 => (intro w' hSw; (try dsimp only at hSw); go_simp; (try with_reducible rfl))
    simp only [Act.put, List.setIfInBounds_toArray, List.set_cons_zero, List.set_cons_succ]
    refine takeD (i := 15) (d := some 88) (v := ?_) rfl rfl (by kernel_rfl) (by kernel_rfl) (by kernel_rfl) (fun _ _ _ h => h) (Or.inl ⟨by rfl, ?y15⟩) HS0 ?_
    case y15 => (intro w' hSw; (try dsimp only at hSw); go_simp; (try with_reducible rfl))
    simp only [Act.put, List.setIfInBounds_toArray, List.set_cons_zero, List.set_cons_succ]
    refine wpAnyH_ready (rs := [16]) (by kernel_rfl) (by simp) ?_
    refine AllReadyH.cons (i := 16) rfl (fun K hK => ?_) AllReadyH.nil
    rw [if_pos (by rfl)]
    go_simp
    refine hK.out _ _ ((unhide HRb) _ (unhide HP6).gr).2.2.2.1 (fun hHeld => ?_)
    clear hK K HS0
    have HS0 := hHeld
    clear hHeld
    (try simp only [Act.put, List.setIfInBounds_toArray, List.set_cons_zero, List.set_cons_succ])
    refine wpAnyH_done (by kernel_rfl) ?_ _
    refine NoPanic.normal ?_
    clear HS0 u2 u4 z6 g6 HPd w1 w2
    go_wp2_with fail
    go_roundg (N - (i + 1))
    case measure => omega
    case rel =>
      have hp := unhide HP6
      have e1 := tgV_snoc ((Dy.prs b s.off N).take i) (x1, x2)
      have e2 := vlV_snoc ((Dy.prs b s.off N).take i) (x1, x2)
      rw [← unhide Htk] at e1 e2
      dsimp only at e1 e2
      refine ⟨i + 1, A3, c3, A6, c6, rfl, by omega, by go_num, ?_, unhide Hon⟩
      rw [e1, e2]
      exact hp
  case way11 =>
    rw [if_pos (by rfl)]
    go_simp
    go_at_call 45
    with_reducible refine ((unhide K2) _ ((unhide HRb) _ (unhide HPd).gr).2.1).mono ?_
    rintro e w9 ⟨rfl, rfl⟩
    refine hK.out _ _ ((unhide HRb) _ (unhide HPd).gr).2.2.2.1 (fun hHeld => ?_)
    clear hK K HS0
    have HS0 := hHeld
    clear hHeld
    (try simp only [Act.put, List.setIfInBounds_toArray, List.set_cons_zero, List.set_cons_succ])
    refine wpAnyH_ready (rs := [4, 12]) (by kernel_rfl) (by simp) ?_
    refine AllReadyH.cons (i := 4) rfl (fun K hK => ?way4) (AllReadyH.cons (i := 12) rfl (fun K hK => ?way12) AllReadyH.nil)
    case way4 =>
      rw [if_pos (by rfl)]
      go_simp
      refine hK.out _ _ ((unhide HRb) _ (unhide HPd).gr).2.2.2.1 (fun hHeld => ?_)
      clear hK K HS0
      have HS0 := hHeld
      clear hHeld
      (try simp only [Act.put, List.setIfInBounds_toArray, List.set_cons_zero, List.set_cons_succ])
      refine wpAnyH_ready (rs := [12]) (by kernel_rfl) (by simp) ?_
      refine AllReadyH.cons (i := 12) rfl (fun K hK => ?_) AllReadyH.nil
      rw [if_pos (by rfl)]
      go_simp
      refine hK.out _ _ ((unhide HRb) _ ((unhide HPd).belowSz ((Below.refl _ _).alloc (Nat.le_refl _) _)).gr).2.2.2.1 (fun hHeld => ?_)
      clear hK K HS0
      have HS0 := hHeld
      clear hHeld
      (try simp only [Act.put, List.setIfInBounds_toArray, List.set_cons_zero, List.set_cons_succ])
      refine wpAnyH_ready (rs := [13]) (by kernel_rfl) (by simp) ?_
      refine AllReadyH.cons (i := 13) rfl (fun K hK => ?_) AllReadyH.nil
      rw [if_pos (by rfl)]
      refine wp_app1g3 lkTy _ _ rfl V.heap.size (.slice Av i cv) i (vlV ((Dy.prs b s.off N).take i)) rfl (unhide HPd).vals #[.int .u64 (x2 : Nat)] _ rfl (by simp) rfl (by intro u hu; simp at hu; rcases hu with rfl; rfl) (by omega) (unhide HPd).gr.size ?_
      intro A6 c6 w8 ho6 hg6 hat6
      have HP6 := hide ((unhide HPd).pushV (unhide HgV) rfl ho6 hg6 hat6)
      have HG6 := hide ((unhide HPd).grown (unhide HgV) hg6 (fun k hk => ((unhide HPd).vals.lt k hk).1))
      have z6 := (unhide HG6).2.cell (i := 6) rfl
      have g6 := (unhide HG6).2.free 6
      clear ho6 hg6 hat6
      refine hK.out _ _ ((unhide HRb) _ (unhide HG6).1).2.2.2.1 (fun hHeld => ?_)
      clear hK K HS0
      have HS0 := hHeld
      clear hHeld
      (try simp only [Act.put, List.setIfInBounds_toArray, List.set_cons_zero, List.set_cons_succ])
      refine takeD (i := 14) (d := some 87) (v := ?_) rfl rfl (by kernel_rfl) (by kernel_rfl) (by kernel_rfl) (fun _ _ _ h => h) (Or.inl ⟨by rfl, ?y14⟩) HS0 ?_
      case y14 => (intro w' hSw; (try dsimp only at hSw); go_simp; (try with_reducible rfl))
      simp only [Act.put, List.setIfInBounds_toArray, List.set_cons_zero, List.set_cons_succ]
      refine takeD (i := 15) (d := some 88) (v := ?_) rfl rfl (by kernel_rfl) (by kernel_rfl) (by kernel_rfl) (fun _ _ _ h => h) (Or.inl ⟨by rfl, ?y15⟩) HS0 ?_
      case y15 => (intro w' hSw; (try dsimp only at hSw); go_simp; (try with_reducible rfl))
      simp only [Act.put, List.setIfInBounds_toArray, List.set_cons_zero, List.set_cons_succ]
      refine wpAnyH_ready (rs := [16]) (by kernel_rfl) (by simp) ?_
      refine AllReadyH.cons (i := 16) rfl (fun K hK => ?_) AllReadyH.nil
      rw [if_pos (by rfl)]
      go_simp
      refine hK.out _ _ ((unhide HRb) _ (unhide HP6).gr).2.2.2.1 (fun hHeld => ?_)
      clear hK K HS0
      have HS0 := hHeld
      clear hHeld
      (try simp only [Act.put, List.setIfInBounds_toArray, List.set_cons_zero, List.set_cons_succ])
      refine wpAnyH_done (by kernel_rfl) ?_ _
      refine NoPanic.normal ?_
      clear HS0 u2 u4 z6 g6 HPd w1 w2
      go_wp2_with fail
      go_roundg (N - (i + 1))
      case measure => omega
      case rel =>
        have hp := unhide HP6
        have e1 := tgV_snoc ((Dy.prs b s.off N).take i) (x1, x2)
        have e2 := vlV_snoc ((Dy.prs b s.off N).take i) (x1, x2)
        rw [← unhide Htk] at e1 e2
        dsimp only at e1 e2
        refine ⟨i + 1, A3, c3, A6, c6, rfl, by omega, by go_num, ?_, unhide Hon⟩
        rw [e1, e2]
        exact hp
    case way12 =>
      rw [if_pos (by rfl)]
      go_simp
      refine hK.out _ _ ((unhide HRb) _ ((unhide HPd).belowSz ((Below.refl _ _).alloc (Nat.le_refl _) _)).gr).2.2.2.1 (fun hHeld => ?_)
      clear hK K HS0
      have HS0 := hHeld
      clear hHeld
      (try simp only [Act.put, List.setIfInBounds_toArray, List.set_cons_zero, List.set_cons_succ])
      have y6 := ((unhide HP2).blk.alloc (.cells #[.int .u64 (x2 : Nat)] 24)).cell (i := 6) rfl
      refine wpAnyH_ready (rs := [4]) (by kernel_rfl) (by simp) ?_
      refine AllReadyH.cons (i := 4) rfl (fun K hK => ?_) AllReadyH.nil
      rw [if_pos (by rfl)]
      go_simp
      refine hK.out _ _ ((unhide HRb) _ ((unhide HPd).belowSz ((Below.refl _ _).alloc (Nat.le_refl _) (.cells #[.int .u64 (x2 : Nat)] 24))).gr).2.2.2.1 (fun hHeld => ?_)
      clear hK K HS0
      have HS0 := hHeld
      clear hHeld
      (try simp only [Act.put, List.setIfInBounds_toArray, List.set_cons_zero, List.set_cons_succ])
      refine wpAnyH_ready (rs := [13]) (by kernel_rfl) (by simp) ?_
      refine AllReadyH.cons (i := 13) rfl (fun K hK => ?_) AllReadyH.nil
      rw [if_pos (by rfl)]
      refine wp_app1g3 lkTy _ _ rfl V.heap.size (.slice Av i cv) i (vlV ((Dy.prs b s.off N).take i)) rfl (unhide HPd).vals #[.int .u64 (x2 : Nat)] _ rfl (by simp) rfl (by intro u hu; simp at hu; rcases hu with rfl; rfl) (by omega) (unhide HPd).gr.size ?_
      intro A6 c6 w8 ho6 hg6 hat6
      have HP6 := hide ((unhide HPd).pushV (unhide HgV) rfl ho6 hg6 hat6)
      have HG6 := hide ((unhide HPd).grown (unhide HgV) hg6 (fun k hk => ((unhide HPd).vals.lt k hk).1))
      have z6 := (unhide HG6).2.cell (i := 6) rfl
      have g6 := (unhide HG6).2.free 6
      clear ho6 hg6 hat6
      refine hK.out _ _ ((unhide HRb) _ (unhide HG6).1).2.2.2.1 (fun hHeld => ?_)
      clear hK K HS0
      have HS0 := hHeld
      clear hHeld
      (try simp only [Act.put, List.setIfInBounds_toArray, List.set_cons_zero, List.set_cons_succ])
      refine takeD (i := 14) (d := some 87) (v := ?_) rfl rfl (by kernel_rfl) (by kernel_rfl) (by kernel_rfl) (fun _ _ _ h => h) (Or.inl ⟨by rfl, ?y14⟩) HS0 ?_
      case y14 => (intro w' hSw; (try dsimp only at hSw); go_simp; (try with_reducible rfl))
      simp only [Act.put, List.setIfInBounds_toArray, List.set_cons_zero, List.set_cons_succ]
      refine takeD (i := 15) (d := some 88) (v := ?_) rfl rfl (by kernel_rfl) (by kernel_rfl) (by kernel_rfl) (fun _ _ _ h => h) (Or.inl ⟨by rfl, ?y15⟩) HS0 ?_
      case y15 => (intro w' hSw; (try dsimp only at hSw); go_simp; (try with_reducible rfl))
      simp only [Act.put, List.setIfInBounds_toArray, List.set_cons_zero, List.set_cons_succ]
      refine wpAnyH_ready (rs := [16]) (by kernel_rfl) (by simp) ?_
      refine AllReadyH.cons (i := 16) rfl (fun K hK => ?_) AllReadyH.nil
      rw [if_pos (by rfl)]
      go_simp
      refine hK.out _ _ ((unhide HRb) _ (unhide HP6).gr).2.2.2.1 (fun hHeld => ?_)
      clear hK K HS0
      have HS0 := hHeld
      clear hHeld
      (try simp only [Act.put, List.setIfInBounds_toArray, List.set_cons_zero, List.set_cons_succ])
      refine wpAnyH_done (by kernel_rfl) ?_ _
      refine NoPanic.normal ?_
      clear HS0 u2 u4 z6 g6 HPd w1 w2
      go_wp2_with fail
      go_roundg (N - (i + 1))
      case measure => omega
      case rel =>
        have hp := unhide HP6
        have e1 := tgV_snoc ((Dy.prs b s.off N).take i) (x1, x2)
        have e2 := vlV_snoc ((Dy.prs b s.off N).take i) (x1, x2)
        rw [← unhide Htk] at e1 e2
        dsimp only at e1 e2
        refine ⟨i + 1, A3, c3, A6, c6, rfl, by omega, by go_num, ?_, unhide Hon⟩
        rw [e1, e2]
        exact hp
end Go.Proofs.Ytdminnhfgdoibaa
