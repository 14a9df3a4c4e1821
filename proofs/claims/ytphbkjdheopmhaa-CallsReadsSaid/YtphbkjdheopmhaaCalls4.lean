/- The walk of calls.Check. -/
import Derived.Test.YtphbkjdheopmhaaCalls3e
namespace Go.Proofs.Ytphbkjdheopmhaa
set_option linter.unusedVariables false
set_option linter.unusedSimpArgs false
open Go.RowKit

theorem FM.of_drew {w0 w0' w : World} {g j : Nat} (h : FM w0' g j w) (hd : ∃ k, w0' = w0.drewN k) : FM w0 g j w := by
  obtain ⟨k, rfl⟩ := hd
  obtain ⟨bs, h1, h2, h3, h4⟩ := h
  exact ⟨bs, h1, h2, (below_drewN' (Below.refl _ _) k).trans h3, h4⟩

theorem ClOk.drew {w : World} {B : Nat} {q : Cl.C} {x y z : Sl} (h : ClOk w B q x y z) : ClOk w.drew B q x y z := ⟨h.r1.drew, h.r2.drew, h.r3.drew⟩
theorem Rd.lit (w : World) (xs : List Value) (t : TypeId) (h : 0 < xs.length) : Rd (w.alloc (.cells xs.toArray t)) (w.heap.size + 1) 1 (some ⟨w.heap.size, 0, none⟩) xs.length xs := by
  refine ⟨by simp, .inr ⟨w.heap.size, 0, rfl, by omega, fun j u hu => ?_⟩⟩
  rw [cell_of_row _ _ _ _ _ _ (heap_alloc_new _ _), Nat.zero_add]
  simpa using hu
theorem rd_lit3 (w : World) (a b c : Value) (t : TypeId) : Rd (w.alloc (.cells #[a, b, c] t)) (w.heap.size + 1) 1 (some ⟨w.heap.size, 0, none⟩) 3 [a, b, c] := Rd.lit w [a, b, c] t (by simp)
theorem rd_lit2 (w : World) (a b : Value) (t : TypeId) : Rd (w.alloc (.cells #[a, b] t)) (w.heap.size + 1) 1 (some ⟨w.heap.size, 0, none⟩) 2 [a, b] := Rd.lit w [a, b] t (by simp)
theorem firstNZ3 (a b c : Int) : firstNZ [a, b, c] = Cl.fst2 a (Cl.fst2 b c) := by
  unfold firstNZ Cl.fst2
  split
  · unfold firstNZ
    split
    · unfold firstNZ
      split
      · rename_i h; rw [h]; rfl
      · rfl
    · rfl
  · rfl
theorem first3 (w : World) {a b c v : Int} (h : v = Cl.fst2 a (Cl.fst2 b c)) : Calls Try.prog 33 #[.slice (some ⟨w.heap.size, 0, none⟩) 3 3] (w.alloc (.cells #[.int .i64 a, .int .i64 b, .int .i64 c] 30)) (fun e w' => e = .returned (.int .i64 v) ∧ w.alloc (.cells #[.int .i64 a, .int .i64 b, .int .i64 c] 30) = w') := by
  have h3 := first_any _ 3 3 _ [a, b, c] _ (rd_lit3 w (.int .i64 a) (.int .i64 b) (.int .i64 c) 30) (by simp [maxLen])
  rwa [firstNZ3, ← h] at h3
theorem firstNZ2 (a b : Int) : firstNZ [a, b] = Cl.fst2 a b := by
  unfold firstNZ Cl.fst2
  split
  · unfold firstNZ
    split
    · rename_i h; rw [h]; rfl
    · rfl
  · rfl
theorem if_dec {α : Type} (p : Prop) [Decidable p] (b : Bool) (h : p ↔ b = true) (x y : α) : (if p then x else y) = if b then x else y := by
  by_cases hp : p
  · rw [if_pos hp, if_pos (h.1 hp)]
  · rw [if_neg hp, if_neg fun e => hp (h.2 e)]
theorem below_undrew {B k : Nat} {w w' : World} (h : Below B (w.drewN k) w') : Below B w w' := (below_drewN' (Below.refl _ _) k).trans h
theorem first2 (w : World) {a b v : Int} (h : v = Cl.fst2 a b) : Calls Try.prog 33 #[.slice (some ⟨w.heap.size, 0, none⟩) 2 2] (w.alloc (.cells #[.int .i64 a, .int .i64 b] 30)) (fun e w' => e = .returned (.int .i64 v) ∧ w.alloc (.cells #[.int .i64 a, .int .i64 b] 30) = w') := by
  have h3 := first_any _ 2 2 _ [a, b] _ (rd_lit2 w (.int .i64 a) (.int .i64 b) 30) (by simp [maxLen])
  rwa [firstNZ2, ← h] at h3
theorem check_out {q : Cl.C} (h : q.kind = 0 ∨ 12 < q.kind) : Cl.check q = 23 := by unfold Cl.check; rw [if_pos h]
theorem check_arg {q : Cl.C} (h : ¬ (q.kind = 0 ∨ 12 < q.kind)) {k : Nat} (hk : k < 9) (hb : Cl.fieldB q k = false) : Cl.check q = 1 := by
  unfold Cl.check
  rw [if_neg h, if_pos]
  unfold Cl.onlyB
  rw [List.all_eq_false]
  exact ⟨k, List.mem_range.2 hk, by simp [hb]⟩
theorem check_in {q : Cl.C} (h : ¬ (q.kind = 0 ∨ 12 < q.kind)) (hb : ∀ j, j < 9 → Cl.fieldB q j = true) : Cl.check q = (if q.kind = 1 then Cl.fst2 (Pth.chk q.path) (Cl.fst2 (Cl.envCk q.argv) (Cl.envCk q.env))
  else if q.kind = 8 ∨ q.kind = 12 then (if 4096 < q.b then 12 else 0)
  else if q.kind = 9 then (if 4096 < q.bytes.length then 12 else 0)
  else if q.kind = 10 then Cl.fst2 (Pth.chk q.path) (if 1 < q.a then 1 else 0)
  else 0) := by
  unfold Cl.check
  rw [if_neg h, if_neg]
  unfold Cl.onlyB
  rw [Bool.not_eq_false, List.all_eq_true]
  exact fun j hj => hb j (List.mem_range.1 hj)

set_option maxRecDepth 20000 in
set_option maxHeartbeats 2000000 in
theorem callCheck_any (q : Cl.C) (x y z : Sl) (B : Nat) (w : World) (hq : ClOk w B q x y z) (hB : B ≤ w.heap.size) (hf : ClFit q) :
    Calls Try.prog 13 #[.agg (clCells q x y z)] w fun e w' => e = .returned (.int .i64 (Cl.check q)) ∧ Below w.heap.size w w' := by
  have Hq := hide hq
  have Hf := hide hf
  have hk := hf.k
  clear hq hf
  go_enter Try.func13, Try.ntmps13
  have hbox : (w.alloc (.cells (clCells q x y z) 26)).heap[w.heap.size]? = some (.cells (clCells q x y z) 26 (0, 0)) := heap_alloc_new _ _
  obtain ⟨v0, v1, v2, v3, v4, v5, v6, v7, v8, v9⟩ := box10 hbox
  have hbW : Below w.heap.size w (w.alloc (.cells (clCells q x y z) 26)) := (Below.refl _ _).alloc (Nat.le_refl _) _
  have hsz := lt_of_block hbox
  have hqW := (unhide Hq).alloc hB (.cells (clCells q x y z) 26)
  go_wp2_with fail
  generalize hgW : w.alloc (.cells (clCells q x y z) 26) = W at *
  clear hgW
  have HqW := hide hqW
  have HbW := hide hbW
  clear hqW hbW Hq
  by_cases hlow : 1 ≤ q.kind ∧ q.kind ≤ 12
  · have hl1 := hlow.1
    have hl2 := hlow.2
    go_region_held3 (fun w' => w'.cell? ⟨w.heap.size, 0, none⟩ = some (.int .u8 q.kind)) (first | exact v0 | exact hx0) (first | (go_at_call 30; refine (fields_any _).mono ?_; rintro e w1 ⟨rfl, hFM0⟩; have hFM : FM W W.heap.size 12 w1 := hFM0.of_drew ⟨_, rfl⟩; clear hFM0; have hx0 := (hFM.below.cell (p := ⟨w.heap.size, 0, none⟩) hsz).trans v0; obtain ⟨bl, hbl1, hbl2, hbl3, hbl4⟩ := look_yes hFM hl1 hl2; have HFM := hide hFM; have HBL4 := hide hbl4; clear hbl1 hbl3 hbl4 hFM))
    have hq1 := (unhide HqW).below (((unhide HFM).below).mono (by have := hsz; omega))
    have hbx1 := ((unhide HFM).below.block _ hsz).trans hbox
    have hb1 := (unhide HbW).trans ((unhide HFM).below.mono (by omega))
    have hsz1 := lt_of_block hbx1
    have Hq1 := hide hq1
    have Hbx1 := hide hbx1
    have Hb1 := hide hb1
    clear hq1 hbx1 hb1 hbox v0 v1 v2 v3 v4 v5 v6 v7 v8 v9 hx0 hbl2 HqW HbW HFM
    have hn : (fs q.kind).length ≤ maxLen := by
      rw [fs_map, List.length_map]
      unfold Cl.fsN
      split <;> (simp [maxLen])
    have Hn := hide hn
    clear hn
    go_wp2_with fail
    go_loopg [5] 9 (fun gk i wr => ∃ k : Nat, gk = 9 - k ∧ k ≤ 9 ∧ i = .int .i64 k ∧ (∀ j, j < k → Cl.fieldB q j = true) ∧ Below w1.heap.size w1 wr)
    case atStart => exact ⟨0, by omega, Nat.zero_le _, rfl, fun j hj => by omega, Below.refl _ _⟩
    case round =>
      obtain ⟨k, hgk, hk, rfl, hall, hbr⟩ := hrel
      have hbxr := (hbr.block _ hsz1).trans (unhide Hbx1)
      have hrr := (unhide HBL4).below hbr
      have hqr := (unhide Hq1).below (hbr.mono (by omega))
      have hszr := lt_of_block hbxr
      have hsr := hbr.size
      have Hbr := hide ((unhide Hb1).trans (hbr.mono (by omega)))
      have Hbr1 := hide hbr
      have Hgk := hide hgk
      have Hall := hide hall
      have Hrr := hide hrr
      have Hqr := hide hqr
      have Hbxr := hide hbxr
      clear hgk hall hbr hrr hqr
      by_cases hlt : k < 9
      · clear hbxr
        have K1 : Calls Try.prog 31 #[.slice (some ⟨bl, 0, none⟩) (fs q.kind).length (fs q.kind).length, .int .i64 k] wr fun e w' => e = .returned (.bool ((Cl.fsN q.kind).contains k)) ∧ wr = w' := by
          have h := containsFld_any _ _ (fs q.kind).length _ (fs q.kind) k wr (unhide Hrr) (unhide Hn)
          rwa [memB_fs] at h
        obtain ⟨cb, hcb⟩ : ∃ b, (Cl.fsN q.kind).contains k = b := ⟨_, rfl⟩
        rw [hcb] at K1
        have HK1 := hide K1
        have Hcb := hide hcb
        clear K1 hcb
        cases cb
        · go_wp2_with fail
          refine (unhide HK1).mono ?_
          rintro e w2 ⟨rfl, rfl⟩
          obtain ⟨v0, v1, v2, v3, v4, v5, v6, v7, v8, v9⟩ := box10 (unhide Hbxr)
          have K2 := empty_any q x y z _ k wr (unhide Hqr) hlt
          obtain ⟨eb, heb⟩ : ∃ b, Cl.emptyB q k = b := ⟨_, rfl⟩
          rw [heb] at K2
          have HK2 := hide K2
          have Heb := hide heb
          clear K2 heb
          cases eb
          · go_wp2_with fail
            refine (unhide HK2).mono ?_
            rintro e w2 ⟨rfl, hb2⟩
            have Hb2 := hide ((unhide Hbr).trans (hb2.mono (by omega)))
            clear v0 v1 v2 v3 v4 v5 v6 v7 v8 v9 hb2
            go_wp2_with fail
            go_ret
            exact ⟨by rw [check_arg (k := k) (by omega) hlt (by unfold Cl.fieldB; rw [unhide Hcb, unhide Heb]; rfl)]; rfl, unhide Hb2⟩
          · go_wp2_with fail
            refine (unhide HK2).mono ?_
            rintro e w2 ⟨rfl, hb2⟩
            have Hb2 := hide ((unhide Hbr1).trans (hb2.mono (by omega)))
            clear v0 v1 v2 v3 v4 v5 v6 v7 v8 v9 hb2
            go_wp2_with fail
            go_roundg (9 - (k + 1))
            case measure => have := unhide Hgk; omega
            case rel => exact ⟨k + 1, rfl, by omega, by go_num, fun j hj => (by
              by_cases e : j = k
              · subst e; unfold Cl.fieldB; rw [unhide Heb, Bool.or_true]
              · exact (unhide Hall) j (by omega)), unhide Hb2⟩
        · go_wp2_with fail
          refine (unhide HK1).mono ?_
          rintro e w2 ⟨rfl, rfl⟩
          go_wp2_with fail
          go_roundg (9 - (k + 1))
          case measure => have := unhide Hgk; omega
          case rel => exact ⟨k + 1, rfl, by omega, by go_num, fun j hj => (by
            by_cases e : j = k
            · subst e; unfold Cl.fieldB; rw [unhide Hcb, Bool.true_or]
            · exact (unhide Hall) j (by omega)), unhide Hbr1⟩
      · obtain rfl : k = 9 := by omega
        obtain ⟨v0, v1, v2, v3, v4, v5, v6, v7, v8, v9⟩ := box10 hbxr
        clear hbxr
        have hC := check_in (q := q) (by omega) (unhide Hall)
        have hn3 := (unhide Hqr).n3
        have Hp := hide (unhide Hf).p
        obtain hk1 | hk8 | hk12 | hk9 | hk10 | hko : q.kind = 1 ∨ q.kind = 8 ∨ q.kind = 12 ∨ q.kind = 9 ∨ q.kind = 10 ∨ (q.kind ≠ 1 ∧ q.kind ≠ 8 ∧ q.kind ≠ 12 ∧ q.kind ≠ 9 ∧ q.kind ≠ 10) := by omega
        · have t1 : (((q.kind : Nat) : Int) == 1) = true := by rw [hk1]; rfl
          rw [if_pos hk1] at hC
          have HC := hide hC
          clear hC hk1 hn3
          have hl1 := (unhide Hf).l1
          have hl2 := (unhide Hf).l2
          rw [(unhide Hqr).n1] at hl1
          rw [(unhide Hqr).n2] at hl2
          have Hl1 := hide hl1
          have Hl2 := hide hl2
          clear hl1 hl2
          go_wp2_with fail
          clear t1
          go_region_held3 (fun w' => w'.cell? ⟨w.heap.size, 6, none⟩ = some (.string q.path) ∧ w'.cell? ⟨w.heap.size, 7, none⟩ = some (.slice x.A x.n x.c) ∧ w'.cell? ⟨w.heap.size, 8, none⟩ = some (.slice y.A y.n y.c)) (first | exact ⟨v6, v7, v8⟩ | exact ⟨y6, y7, y8⟩ | exact ⟨(World.cell?_alloc_lt _ _ _ hs2w).trans y6, (World.cell?_alloc_lt _ _ _ hs2w).trans y7, (World.cell?_alloc_lt _ _ _ hs2w).trans y8⟩) (first
            | (go_at_call 34; refine (check_any q.path (unhide Hp) _).mono ?_; rintro e w2 ⟨rfl, hb0⟩; have hb2 : Below wr.heap.size wr w2 := below_undrew hb0; clear hb0; have K1 := envCheck_any x.A x.n x.c _ q.argv w2 ((unhide Hqr).r1.below (hb2.mono (by omega))) (unhide Hf).s1 (unhide Hl1); have K2 := envCheck_any y.A y.n y.c _ q.env w2 ((unhide Hqr).r2.below (hb2.mono (by omega))) (unhide Hf).s2 (unhide Hl2); have hs2w : w.heap.size < w2.heap.size := (by have := hb2.size; omega); have K3 := first3 w2 (unhide HC); have y6 := (hb2.cell (p := ⟨w.heap.size, 6, none⟩) hszr).trans v6; have y7 := (hb2.cell (p := ⟨w.heap.size, 7, none⟩) hszr).trans v7; have y8 := (hb2.cell (p := ⟨w.heap.size, 8, none⟩) hszr).trans v8)
            | (go_at_call 35; with_reducible (refine K1.mono ?_); rintro e w3 ⟨rfl, rfl⟩)
            | (go_at_call 35; with_reducible (refine K2.mono ?_); rintro e w3 ⟨rfl, rfl⟩)
            | (go_at_call 33; with_reducible (refine K3.mono ?_); rintro e w4 ⟨rfl, rfl⟩))
          have Hb2 := hide (((unhide Hbr).trans (hb2.mono (by omega))).alloc (by have := hb2.size; omega) (.cells #[.int .i64 (Pth.chk q.path), .int .i64 (Cl.envCk q.argv), .int .i64 (Cl.envCk q.env)] 30))
          clear K1 K2 K3 y6 y7 y8 hb2
          go_wp2_with fail
          go_ret
          exact ⟨rfl, unhide Hb2⟩
        · have t1 : (((q.kind : Nat) : Int) == 1) = false := by rw [hk8]; rfl
          have t8 : (((q.kind : Nat) : Int) == 8) = true := by rw [hk8]; rfl
          rw [if_neg (by omega), if_pos (by omega)] at hC
          have Kb : ∀ w : World, Calls Try.prog 36 #[.bool (decide ((4096 : Int) < ((q.b : Nat) : Int))), .int .i64 12] w fun e w' => e = .returned (.int .i64 (Cl.check q)) ∧ w = w' := fun w => by
            have h := unless_any (decide ((4096 : Int) < ((q.b : Nat) : Int))) 12 w
            rwa [← if_dec (4096 < q.b) _ (by rw [decide_eq_true_eq]; omega), ← hC] at h
          have Kb := hide Kb
          clear hC hk8 hn3
          go_wp2_with fail
          refine ((unhide Kb) _).mono ?_
          rintro e w2 ⟨rfl, rfl⟩
          go_wp2_with fail
          go_ret
          exact ⟨rfl, unhide Hbr⟩
        · have t1 : (((q.kind : Nat) : Int) == 1) = false := by rw [hk12]; rfl
          have t8 : (((q.kind : Nat) : Int) == 8) = false := by rw [hk12]; rfl
          have t12 : (((q.kind : Nat) : Int) == 12) = true := by rw [hk12]; rfl
          rw [if_neg (by omega), if_pos (by omega)] at hC
          have Kb : ∀ w : World, Calls Try.prog 36 #[.bool (decide ((4096 : Int) < ((q.b : Nat) : Int))), .int .i64 12] w fun e w' => e = .returned (.int .i64 (Cl.check q)) ∧ w = w' := fun w => by
            have h := unless_any (decide ((4096 : Int) < ((q.b : Nat) : Int))) 12 w
            rwa [← if_dec (4096 < q.b) _ (by rw [decide_eq_true_eq]; omega), ← hC] at h
          have Kb := hide Kb
          clear hC hk12 hn3
          go_wp2_with fail
          refine ((unhide Kb) _).mono ?_
          rintro e w2 ⟨rfl, rfl⟩
          go_wp2_with fail
          go_ret
          exact ⟨rfl, unhide Hbr⟩
        · have t1 : (((q.kind : Nat) : Int) == 1) = false := by rw [hk9]; rfl
          have t8 : (((q.kind : Nat) : Int) == 8) = false := by rw [hk9]; rfl
          have t12 : (((q.kind : Nat) : Int) == 12) = false := by rw [hk9]; rfl
          have t9 : (((q.kind : Nat) : Int) == 9) = true := by rw [hk9]; rfl
          rw [if_neg (by omega), if_neg (by omega), if_pos hk9, hn3] at hC
          have Kl : ∀ w : World, Calls Try.prog 36 #[.bool (decide ((4096 : Int) < ((z.n : Nat) : Int))), .int .i64 12] w fun e w' => e = .returned (.int .i64 (Cl.check q)) ∧ w = w' := fun w => by
            have h := unless_any (decide ((4096 : Int) < ((z.n : Nat) : Int))) 12 w
            rwa [← if_dec (4096 < z.n) _ (by rw [decide_eq_true_eq]; omega), ← hC] at h
          have Kl := hide Kl
          clear hC hk9 hn3
          go_wp2_with fail
          refine ((unhide Kl) _).mono ?_
          rintro e w2 ⟨rfl, rfl⟩
          go_wp2_with fail
          go_ret
          exact ⟨rfl, unhide Hbr⟩
        · have t1 : (((q.kind : Nat) : Int) == 1) = false := by rw [hk10]; rfl
          have t8 : (((q.kind : Nat) : Int) == 8) = false := by rw [hk10]; rfl
          have t12 : (((q.kind : Nat) : Int) == 12) = false := by rw [hk10]; rfl
          have t9 : (((q.kind : Nat) : Int) == 9) = false := by rw [hk10]; rfl
          have t10 : (((q.kind : Nat) : Int) == 10) = true := by rw [hk10]; rfl
          rw [if_neg (by omega), if_neg (by omega), if_neg (by omega), if_pos hk10] at hC
          have Kv : ∃ v, (if 1 < q.a then (1 : Int) else 0) = v ∧ ∀ w : World, Calls Try.prog 36 #[.bool (decide ((1 : Int) < ((q.a : Nat) : Int))), .int .i64 1] w fun e w' => e = .returned (.int .i64 v) ∧ w = w' := ⟨_, rfl, fun w => by
            have h := unless_any (decide ((1 : Int) < ((q.a : Nat) : Int))) 1 w
            rwa [← if_dec (1 < q.a) _ (by rw [decide_eq_true_eq]; omega)] at h⟩
          obtain ⟨v, hv, Kv⟩ := Kv
          rw [hv] at hC
          have Kv := hide Kv
          have HC := hide hC
          clear hC hk10 hn3 hv
          go_wp2_with fail
          clear t1 t8 t12 t9 t10
          go_region_held3 (fun w' => w'.cell? ⟨w.heap.size, 6, none⟩ = some (.string q.path) ∧ w'.cell? ⟨w.heap.size, 1, none⟩ = some (.int .u64 q.a)) (first | exact ⟨v6, v1⟩ | exact ⟨y6, y1⟩ | exact ⟨(World.cell?_alloc_lt _ _ _ hs2w).trans y6, (World.cell?_alloc_lt _ _ _ hs2w).trans y1⟩) (first
            | (go_at_call 34; refine (check_any q.path (unhide Hp) _).mono ?_; rintro e w2 ⟨rfl, hb0⟩; have hb2 : Below wr.heap.size wr w2 := below_undrew hb0; clear hb0; have hs2w : w.heap.size < w2.heap.size := (by have := hb2.size; omega); have K3 := first2 w2 (unhide HC); have y6 := (hb2.cell (p := ⟨w.heap.size, 6, none⟩) hszr).trans v6; have y1 := (hb2.cell (p := ⟨w.heap.size, 1, none⟩) hszr).trans v1)
            | (go_at_call 36; refine ((unhide Kv) _).mono ?_; rintro e w3 ⟨rfl, rfl⟩)
            | (go_at_call 33; with_reducible (refine K3.mono ?_); rintro e w4 ⟨rfl, rfl⟩))
          have Hb2 := hide (((unhide Hbr).trans (hb2.mono (by omega))).alloc (by have := hb2.size; omega) (.cells #[.int .i64 (Pth.chk q.path), .int .i64 v] 30))
          clear K3 y6 y1 hb2
          go_wp2_with fail
          go_ret
          exact ⟨rfl, unhide Hb2⟩
        · obtain ⟨o1, o8, o12, o9, o10⟩ := hko
          have t1 : (((q.kind : Nat) : Int) == 1) = false := beq_eq_false_iff_ne.2 (by omega)
          have t8 : (((q.kind : Nat) : Int) == 8) = false := beq_eq_false_iff_ne.2 (by omega)
          have t12 : (((q.kind : Nat) : Int) == 12) = false := beq_eq_false_iff_ne.2 (by omega)
          have t9 : (((q.kind : Nat) : Int) == 9) = false := beq_eq_false_iff_ne.2 (by omega)
          have t10 : (((q.kind : Nat) : Int) == 10) = false := beq_eq_false_iff_ne.2 (by omega)
          rw [if_neg o1, if_neg (by omega), if_neg o9, if_neg o10] at hC
          have HC := hide hC
          clear hC o1 o8 o12 o9 o10 hn3
          go_wp2_with fail
          go_ret
          exact ⟨by rw [unhide HC]; rfl, unhide Hbr⟩
  · have hno : q.kind = 0 ∨ 12 < q.kind := by omega
    go_region_held3 (fun w' => w'.cell? ⟨w.heap.size, 0, none⟩ = some (.int .u8 q.kind)) (first | exact v0 | exact hx0) (first | (go_at_call 30; refine (fields_any _).mono ?_; rintro e w1 ⟨rfl, hFM0⟩; have hFM : FM W W.heap.size 12 w1 := hFM0.of_drew ⟨_, rfl⟩; clear hFM0; have hx0 := (hFM.below.cell (p := ⟨w.heap.size, 0, none⟩) hsz).trans v0; have hbl2 := look_no hFM hno))
    have Hc := hide (check_out hno)
    have Hb1 := hide ((unhide HbW).trans (hFM.below.mono (by omega)))
    clear hbl2 hFM hx0 hno
    go_wp2_with fail
    go_ret
    exact ⟨by rw [unhide Hc]; rfl, unhide Hb1⟩
end Go.Proofs.Ytphbkjdheopmhaa
