/- The walk of elf's reader.segment, part a: a theorem a way. Conditions: the header lies within the bytes. Printed by wip/gen_elf2.py. -/
import Derived.Test.YtkonolmakpeocaaElf2
namespace Go.Proofs.Ytkonolmakpeocaa
set_option linter.unusedVariables false
set_option linter.unusedSimpArgs false
open Go.RowKit

set_option maxHeartbeats 800000 in
theorem seg_b1 (A : Option Addr) (m c : Nat) (B : Nat) (b : List UInt8) (p ty : Nat) (w : World) (hB : B ≤ w.heap.size) (hb : Rd w B 1 A m (u8s b)) (hm : m ≤ maxLen) (hin : p + 56 ≤ m) (hp : p ≤ 4294967296) (hty : ty < 65536) (h1 : ¬ Wd.num b (p + 4) 4 ≤ 7) :
    Calls Try.prog 30 #[.slice A m c, .int .u64 p, .int .u16 ty] w fun e w' => e = wrongs 25 ∧ Below w.heap.size w w' := by
  have hbl : b.length = m := by simpa using hb.len1
  have G0 := hide (fun (w' : World) (h : Below w.heap.size w w') => at_lit A m c B b p 4 4 rfl w' (Nat.le_trans hB h.size) ((hb).below (h.mono hB)) hm (by omega) (by omega))
  have G1 := hide (fun (w' : World) (h : Below w.heap.size w w') => at_off A m c B b p 4 4 4 4 rfl rfl w' (Nat.le_trans hB h.size) ((hb).below (h.mono hB)) hm (by omega) (by omega))
  have G2 := hide (fun (w' : World) (h : Below w.heap.size w w') => at_off A m c B b p 8 8 8 8 rfl rfl w' (Nat.le_trans hB h.size) ((hb).below (h.mono hB)) hm (by omega) (by omega))
  have G3 := hide (fun (w' : World) (h : Below w.heap.size w w') => at_off A m c B b p 16 8 16 8 rfl rfl w' (Nat.le_trans hB h.size) ((hb).below (h.mono hB)) hm (by omega) (by omega))
  have G4 := hide (fun (w' : World) (h : Below w.heap.size w w') => at_off A m c B b p 32 8 32 8 rfl rfl w' (Nat.le_trans hB h.size) ((hb).below (h.mono hB)) hm (by omega) (by omega))
  have G5 := hide (fun (w' : World) (h : Below w.heap.size w w') => at_off A m c B b p 40 8 40 8 rfl rfl w' (Nat.le_trans hB h.size) ((hb).below (h.mono hB)) hm (by omega) (by omega))
  have G6 := hide (fun (w' : World) (h : Below w.heap.size w w') => at_off A m c B b p 48 8 48 8 rfl rfl w' (Nat.le_trans hB h.size) ((hb).below (h.mono hB)) hm (by omega) (by omega))
  have l0 : Wd.num b p 4 < 4294967296 := Wd.num_lt _ _ _
  have l1 : Wd.num b (p + 4) 4 < 4294967296 := Wd.num_lt _ _ _
  have l2 : Wd.num b (p + 8) 8 < 18446744073709551616 := Wd.num_lt _ _ _
  have l3 : Wd.num b (p + 16) 8 < 18446744073709551616 := Wd.num_lt _ _ _
  have l4 : Wd.num b (p + 32) 8 < 18446744073709551616 := Wd.num_lt _ _ _
  have l5 : Wd.num b (p + 40) 8 < 18446744073709551616 := Wd.num_lt _ _ _
  have l6 : Wd.num b (p + 48) 8 < 18446744073709551616 := Wd.num_lt _ _ _
  generalize Wd.num b p 4 = k at *
  generalize Wd.num b (p + 4) 4 = fl at *
  generalize Wd.num b (p + 8) 8 = o at *
  generalize Wd.num b (p + 16) 8 = a at *
  generalize Wd.num b (p + 32) 8 = f at *
  generalize Wd.num b (p + 40) 8 = z at *
  generalize Wd.num b (p + 48) 8 = al at *
  unfold maxLen at hm
  clear hb hbl
  have HB := hide (Below.refl (w.alloc (.cells #[.int .u32 0, .int .u8 0, .int .u64 0, .int .u64 0, .int .u64 0, .int .u64 0] 37)).heap.size (w.alloc (.cells #[.int .u32 0, .int .u8 0, .int .u64 0, .int .u64 0, .int .u64 0, .int .u64 0] 37)))
  have i1 : decide (((fl : Nat) : Int) ≤ 7) = false := by simp; omega
  go_enter Try.func30, Try.ntmps30
  go_wp2_with (first
    | (go_at_call_of 27 (Value.int IntKind.u64 ((p : Nat) : Int)); refine ((unhide G0) _ (below_new (unhide HB))).mono ?_; rintro e w1 ⟨rfl, hx⟩; replace HB := hide ((unhide HB).trans (hx.mono (unhide HB).size)); clear hx)
    | (go_at_call_of 27 (Value.int IntKind.u64 (@HAdd.hAdd Int Int Int instHAdd ((p : Nat) : Int) 4)); refine ((unhide G1) _ (below_new (unhide HB))).mono ?_; rintro e w1 ⟨rfl, hx⟩; replace HB := hide ((unhide HB).trans (hx.mono (unhide HB).size)); clear hx)
    | (go_at_call_of 27 (Value.int IntKind.u64 (@HAdd.hAdd Int Int Int instHAdd ((p : Nat) : Int) 8)); refine ((unhide G2) _ (below_new (unhide HB))).mono ?_; rintro e w1 ⟨rfl, hx⟩; replace HB := hide ((unhide HB).trans (hx.mono (unhide HB).size)); clear hx)
    | (go_at_call_of 27 (Value.int IntKind.u64 (@HAdd.hAdd Int Int Int instHAdd ((p : Nat) : Int) 16)); refine ((unhide G3) _ (below_new (unhide HB))).mono ?_; rintro e w1 ⟨rfl, hx⟩; replace HB := hide ((unhide HB).trans (hx.mono (unhide HB).size)); clear hx)
    | (go_at_call_of 27 (Value.int IntKind.u64 (@HAdd.hAdd Int Int Int instHAdd ((p : Nat) : Int) 32)); refine ((unhide G4) _ (below_new (unhide HB))).mono ?_; rintro e w1 ⟨rfl, hx⟩; replace HB := hide ((unhide HB).trans (hx.mono (unhide HB).size)); clear hx)
    | (go_at_call_of 27 (Value.int IntKind.u64 (@HAdd.hAdd Int Int Int instHAdd ((p : Nat) : Int) 40)); refine ((unhide G5) _ (below_new (unhide HB))).mono ?_; rintro e w1 ⟨rfl, hx⟩; replace HB := hide ((unhide HB).trans (hx.mono (unhide HB).size)); clear hx; have hn := newblk (unhide HB); have hsz := lt_of_block hn; have Hn := hide hn; clear hn)
    | (go_at_call_of 27 (Value.int IntKind.u64 (@HAdd.hAdd Int Int Int instHAdd ((p : Nat) : Int) 48)); refine ((unhide G6) _ (below_new (unhide HB))).mono ?_; rintro e w1 ⟨rfl, hx⟩; replace HB := hide ((unhide HB).trans (hx.mono (unhide HB).size)); clear hx)
    | (go_at_call_of 28 (Value.bool true); refine (must_yes _ _).mono ?_; rintro e w1 ⟨rfl, rfl⟩)
    | (go_at_call_of 28 (Value.bool false); refine (must_no _ _).mono ?_; rintro e w1 ⟨rfl, rfl⟩)
    | (go_at_call_of 29 (Value.int IntKind.u64 ((o : Nat) : Int)); refine (inside_any _ _ _ _ (by omega) (by omega) (by omega) (by omega) (by omega)).mono ?_; rintro e w1 ⟨rfl, rfl⟩)
    | (go_at_call_of 29 (Value.int IntKind.u64 ((a : Nat) : Int)); refine (inside_any _ _ _ _ (by omega) (by omega) (by omega) (by omega) (by omega)).mono ?_; rintro e w1 ⟨rfl, rfl⟩)
    | ((with_reducible refine (@id (wpList _ _ _ (Oper.mk none (Op.store 37 (.tmp 6) (.tmp 97)) _ _ _ none :: _) _ _) ?_)); refine wpList_store_row rfl 37 (.tmp 6) (.tmp 97) rfl w.heap.size #[.int .u32 k, .int .u8 fl, .int .u64 o, .int .u64 a, .int .u64 f, .int .u64 z] rfl rfl 37 _ ((Below.heap_alloc _ _ _ hsz).trans (unhide Hn)) segInfo rfl (segOne _ _ _ _ _ _) ?_))
  refine ⟨rfl, rfl, ?_⟩
  go_grown
  all_goals first | exact below_new (unhide HB) | (have := (below_new (unhide HB)).size; simp; omega)


set_option maxHeartbeats 800000 in
theorem seg_ok13 (A : Option Addr) (m c : Nat) (B : Nat) (b : List UInt8) (p ty : Nat) (w : World) (hB : B ≤ w.heap.size) (hb : Rd w B 1 A m (u8s b)) (hm : m ≤ maxLen) (hin : p + 56 ≤ m) (hp : p ≤ 4294967296) (hty : ty < 65536) (h1 : Wd.num b (p + 4) 4 ≤ 7) (h2 : Wd.num b (p + 32) 8 ≤ Wd.num b (p + 40) 8) (h3 : Wd.num b (p + 8) 8 + Wd.num b (p + 32) 8 ≤ m) (h4 : ty = 3) (h5 : Wd.num b p 4 = 1) (h6 : Wd.num b (p + 16) 8 + Wd.num b (p + 40) 8 ≤ 4294967296) (h7 : Wd.num b (p + 48) 8 = 4096) (h8 : Wd.num b (p + 8) 8 % 4096 = Wd.num b (p + 16) 8 % 4096) (h9 : 0 < Wd.num b (p + 40) 8) :
    Calls Try.prog 30 #[.slice A m c, .int .u64 p, .int .u16 ty] w fun e w' => e = .returned (segVal (El.segAt b p)) ∧ Below w.heap.size w w' := by
  unfold El.segAt
  have hbl : b.length = m := by simpa using hb.len1
  have G0 := hide (fun (w' : World) (h : Below w.heap.size w w') => at_lit A m c B b p 4 4 rfl w' (Nat.le_trans hB h.size) ((hb).below (h.mono hB)) hm (by omega) (by omega))
  have G1 := hide (fun (w' : World) (h : Below w.heap.size w w') => at_off A m c B b p 4 4 4 4 rfl rfl w' (Nat.le_trans hB h.size) ((hb).below (h.mono hB)) hm (by omega) (by omega))
  have G2 := hide (fun (w' : World) (h : Below w.heap.size w w') => at_off A m c B b p 8 8 8 8 rfl rfl w' (Nat.le_trans hB h.size) ((hb).below (h.mono hB)) hm (by omega) (by omega))
  have G3 := hide (fun (w' : World) (h : Below w.heap.size w w') => at_off A m c B b p 16 8 16 8 rfl rfl w' (Nat.le_trans hB h.size) ((hb).below (h.mono hB)) hm (by omega) (by omega))
  have G4 := hide (fun (w' : World) (h : Below w.heap.size w w') => at_off A m c B b p 32 8 32 8 rfl rfl w' (Nat.le_trans hB h.size) ((hb).below (h.mono hB)) hm (by omega) (by omega))
  have G5 := hide (fun (w' : World) (h : Below w.heap.size w w') => at_off A m c B b p 40 8 40 8 rfl rfl w' (Nat.le_trans hB h.size) ((hb).below (h.mono hB)) hm (by omega) (by omega))
  have G6 := hide (fun (w' : World) (h : Below w.heap.size w w') => at_off A m c B b p 48 8 48 8 rfl rfl w' (Nat.le_trans hB h.size) ((hb).below (h.mono hB)) hm (by omega) (by omega))
  have l0 : Wd.num b p 4 < 4294967296 := Wd.num_lt _ _ _
  have l1 : Wd.num b (p + 4) 4 < 4294967296 := Wd.num_lt _ _ _
  have l2 : Wd.num b (p + 8) 8 < 18446744073709551616 := Wd.num_lt _ _ _
  have l3 : Wd.num b (p + 16) 8 < 18446744073709551616 := Wd.num_lt _ _ _
  have l4 : Wd.num b (p + 32) 8 < 18446744073709551616 := Wd.num_lt _ _ _
  have l5 : Wd.num b (p + 40) 8 < 18446744073709551616 := Wd.num_lt _ _ _
  have l6 : Wd.num b (p + 48) 8 < 18446744073709551616 := Wd.num_lt _ _ _
  generalize Wd.num b p 4 = k at *
  generalize Wd.num b (p + 4) 4 = fl at *
  generalize Wd.num b (p + 8) 8 = o at *
  generalize Wd.num b (p + 16) 8 = a at *
  generalize Wd.num b (p + 32) 8 = f at *
  generalize Wd.num b (p + 40) 8 = z at *
  generalize Wd.num b (p + 48) 8 = al at *
  unfold maxLen at hm
  clear hb hbl
  have HB := hide (Below.refl (w.alloc (.cells #[.int .u32 0, .int .u8 0, .int .u64 0, .int .u64 0, .int .u64 0, .int .u64 0] 37)).heap.size (w.alloc (.cells #[.int .u32 0, .int .u8 0, .int .u64 0, .int .u64 0, .int .u64 0, .int .u64 0] 37)))
  have i1 : ((fl : Nat) : Int) ≤ 7 := by omega
  have i2 : ((f : Nat) : Int) ≤ ((z : Nat) : Int) := by omega
  have i3 : decide (((o : Nat) : Int) + ((f : Nat) : Int) ≤ ((m : Nat) : Int)) = true := by simp; omega
  have ety3 : (((ty : Nat) : Int) == 3) = true := by simp; omega
  have ek1 : (((k : Nat) : Int) == 1) = true := by simp; omega
  have i6 : decide (((a : Nat) : Int) + ((z : Nat) : Int) ≤ 4294967296) = true := by simp; omega
  have eal4096 : (((al : Nat) : Int) == 4096) = true := by simp; omega
  have i8 : (((IntKind.u64.wrap (((o : Nat) : Int) - ((a : Nat) : Int))).tmod 4096) == 0) = true := by rw [IntKind.wrap_u64, Int.tmod_eq_emod_of_nonneg (by omega)]; simp; omega
  have i9 : (0 : Int) < ((z : Nat) : Int) := by omega
  clear h5 h4 h7 h8
  go_enter Try.func30, Try.ntmps30
  go_wp2_with (first
    | (go_at_call_of 27 (Value.int IntKind.u64 ((p : Nat) : Int)); refine ((unhide G0) _ (below_new (unhide HB))).mono ?_; rintro e w1 ⟨rfl, hx⟩; replace HB := hide ((unhide HB).trans (hx.mono (unhide HB).size)); clear hx)
    | (go_at_call_of 27 (Value.int IntKind.u64 (@HAdd.hAdd Int Int Int instHAdd ((p : Nat) : Int) 4)); refine ((unhide G1) _ (below_new (unhide HB))).mono ?_; rintro e w1 ⟨rfl, hx⟩; replace HB := hide ((unhide HB).trans (hx.mono (unhide HB).size)); clear hx)
    | (go_at_call_of 27 (Value.int IntKind.u64 (@HAdd.hAdd Int Int Int instHAdd ((p : Nat) : Int) 8)); refine ((unhide G2) _ (below_new (unhide HB))).mono ?_; rintro e w1 ⟨rfl, hx⟩; replace HB := hide ((unhide HB).trans (hx.mono (unhide HB).size)); clear hx)
    | (go_at_call_of 27 (Value.int IntKind.u64 (@HAdd.hAdd Int Int Int instHAdd ((p : Nat) : Int) 16)); refine ((unhide G3) _ (below_new (unhide HB))).mono ?_; rintro e w1 ⟨rfl, hx⟩; replace HB := hide ((unhide HB).trans (hx.mono (unhide HB).size)); clear hx)
    | (go_at_call_of 27 (Value.int IntKind.u64 (@HAdd.hAdd Int Int Int instHAdd ((p : Nat) : Int) 32)); refine ((unhide G4) _ (below_new (unhide HB))).mono ?_; rintro e w1 ⟨rfl, hx⟩; replace HB := hide ((unhide HB).trans (hx.mono (unhide HB).size)); clear hx)
    | (go_at_call_of 27 (Value.int IntKind.u64 (@HAdd.hAdd Int Int Int instHAdd ((p : Nat) : Int) 40)); refine ((unhide G5) _ (below_new (unhide HB))).mono ?_; rintro e w1 ⟨rfl, hx⟩; replace HB := hide ((unhide HB).trans (hx.mono (unhide HB).size)); clear hx; have hn := newblk (unhide HB); have hsz := lt_of_block hn; have Hn := hide hn; clear hn)
    | (go_at_call_of 27 (Value.int IntKind.u64 (@HAdd.hAdd Int Int Int instHAdd ((p : Nat) : Int) 48)); refine ((unhide G6) _ (below_new (unhide HB))).mono ?_; rintro e w1 ⟨rfl, hx⟩; replace HB := hide ((unhide HB).trans (hx.mono (unhide HB).size)); clear hx)
    | (go_at_call_of 28 (Value.bool true); refine (must_yes _ _).mono ?_; rintro e w1 ⟨rfl, rfl⟩)
    | (go_at_call_of 28 (Value.bool false); refine (must_no _ _).mono ?_; rintro e w1 ⟨rfl, rfl⟩)
    | (go_at_call_of 29 (Value.int IntKind.u64 ((o : Nat) : Int)); refine (inside_any _ _ _ _ (by omega) (by omega) (by omega) (by omega) (by omega)).mono ?_; rintro e w1 ⟨rfl, rfl⟩)
    | (go_at_call_of 29 (Value.int IntKind.u64 ((a : Nat) : Int)); refine (inside_any _ _ _ _ (by omega) (by omega) (by omega) (by omega) (by omega)).mono ?_; rintro e w1 ⟨rfl, rfl⟩)
    | ((with_reducible refine (@id (wpList _ _ _ (Oper.mk none (Op.store 37 (.tmp 6) (.tmp 97)) _ _ _ none :: _) _ _) ?_)); refine wpList_store_row rfl 37 (.tmp 6) (.tmp 97) rfl w.heap.size #[.int .u32 k, .int .u8 fl, .int .u64 o, .int .u64 a, .int .u64 f, .int .u64 z] rfl rfl 37 _ ((Below.heap_alloc _ _ _ hsz).trans (unhide Hn)) segInfo rfl (segOne _ _ _ _ _ _) ?_))
  refine bodyPost_ret (results_cell_row (P := Try.prog) rfl _ _ w.heap.size 37 #[.int .u32 k, .int .u8 fl, .int .u64 o, .int .u64 a, .int .u64 f, .int .u64 z] (0, 0) _ rfl (setRow_heap _ _ _ _ _ _ ((Below.heap_alloc _ _ _ hsz).trans (unhide Hn))) Try.underlying37 rfl segInfo) rfl ⟨rfl, ?_⟩
  exact below_setRow ((below_new (unhide HB)).alloc (below_new (unhide HB)).size _) (Nat.le_refl _) _


set_option maxHeartbeats 800000 in
theorem seg_e23 (A : Option Addr) (m c : Nat) (B : Nat) (b : List UInt8) (p ty : Nat) (w : World) (hB : B ≤ w.heap.size) (hb : Rd w B 1 A m (u8s b)) (hm : m ≤ maxLen) (hin : p + 56 ≤ m) (hp : p ≤ 4294967296) (hty : ty < 65536) (h1 : Wd.num b (p + 4) 4 ≤ 7) (h2 : Wd.num b (p + 32) 8 ≤ Wd.num b (p + 40) 8) (h3 : Wd.num b (p + 8) 8 + Wd.num b (p + 32) 8 ≤ m) (h4 : ty = 3) (h5 : Wd.num b p 4 = 2) (h6 : ¬ Wd.num b (p + 16) 8 + Wd.num b (p + 40) 8 ≤ 4294967296) :
    Calls Try.prog 30 #[.slice A m c, .int .u64 p, .int .u16 ty] w fun e w' => e = wrongs 25 ∧ Below w.heap.size w w' := by
  have hbl : b.length = m := by simpa using hb.len1
  have G0 := hide (fun (w' : World) (h : Below w.heap.size w w') => at_lit A m c B b p 4 4 rfl w' (Nat.le_trans hB h.size) ((hb).below (h.mono hB)) hm (by omega) (by omega))
  have G1 := hide (fun (w' : World) (h : Below w.heap.size w w') => at_off A m c B b p 4 4 4 4 rfl rfl w' (Nat.le_trans hB h.size) ((hb).below (h.mono hB)) hm (by omega) (by omega))
  have G2 := hide (fun (w' : World) (h : Below w.heap.size w w') => at_off A m c B b p 8 8 8 8 rfl rfl w' (Nat.le_trans hB h.size) ((hb).below (h.mono hB)) hm (by omega) (by omega))
  have G3 := hide (fun (w' : World) (h : Below w.heap.size w w') => at_off A m c B b p 16 8 16 8 rfl rfl w' (Nat.le_trans hB h.size) ((hb).below (h.mono hB)) hm (by omega) (by omega))
  have G4 := hide (fun (w' : World) (h : Below w.heap.size w w') => at_off A m c B b p 32 8 32 8 rfl rfl w' (Nat.le_trans hB h.size) ((hb).below (h.mono hB)) hm (by omega) (by omega))
  have G5 := hide (fun (w' : World) (h : Below w.heap.size w w') => at_off A m c B b p 40 8 40 8 rfl rfl w' (Nat.le_trans hB h.size) ((hb).below (h.mono hB)) hm (by omega) (by omega))
  have G6 := hide (fun (w' : World) (h : Below w.heap.size w w') => at_off A m c B b p 48 8 48 8 rfl rfl w' (Nat.le_trans hB h.size) ((hb).below (h.mono hB)) hm (by omega) (by omega))
  have l0 : Wd.num b p 4 < 4294967296 := Wd.num_lt _ _ _
  have l1 : Wd.num b (p + 4) 4 < 4294967296 := Wd.num_lt _ _ _
  have l2 : Wd.num b (p + 8) 8 < 18446744073709551616 := Wd.num_lt _ _ _
  have l3 : Wd.num b (p + 16) 8 < 18446744073709551616 := Wd.num_lt _ _ _
  have l4 : Wd.num b (p + 32) 8 < 18446744073709551616 := Wd.num_lt _ _ _
  have l5 : Wd.num b (p + 40) 8 < 18446744073709551616 := Wd.num_lt _ _ _
  have l6 : Wd.num b (p + 48) 8 < 18446744073709551616 := Wd.num_lt _ _ _
  generalize Wd.num b p 4 = k at *
  generalize Wd.num b (p + 4) 4 = fl at *
  generalize Wd.num b (p + 8) 8 = o at *
  generalize Wd.num b (p + 16) 8 = a at *
  generalize Wd.num b (p + 32) 8 = f at *
  generalize Wd.num b (p + 40) 8 = z at *
  generalize Wd.num b (p + 48) 8 = al at *
  unfold maxLen at hm
  clear hb hbl
  have HB := hide (Below.refl (w.alloc (.cells #[.int .u32 0, .int .u8 0, .int .u64 0, .int .u64 0, .int .u64 0, .int .u64 0] 37)).heap.size (w.alloc (.cells #[.int .u32 0, .int .u8 0, .int .u64 0, .int .u64 0, .int .u64 0, .int .u64 0] 37)))
  have i1 : ((fl : Nat) : Int) ≤ 7 := by omega
  have i2 : ((f : Nat) : Int) ≤ ((z : Nat) : Int) := by omega
  have i3 : decide (((o : Nat) : Int) + ((f : Nat) : Int) ≤ ((m : Nat) : Int)) = true := by simp; omega
  have ety3 : (((ty : Nat) : Int) == 3) = true := by simp; omega
  have ek1 : (((k : Nat) : Int) == 1) = false := by simp; omega
  have ek2 : (((k : Nat) : Int) == 2) = true := by simp; omega
  have i6 : decide (((a : Nat) : Int) + ((z : Nat) : Int) ≤ 4294967296) = false := by simp; omega
  clear h5 h4
  go_enter Try.func30, Try.ntmps30
  go_wp2_with (first
    | (go_at_call_of 27 (Value.int IntKind.u64 ((p : Nat) : Int)); refine ((unhide G0) _ (below_new (unhide HB))).mono ?_; rintro e w1 ⟨rfl, hx⟩; replace HB := hide ((unhide HB).trans (hx.mono (unhide HB).size)); clear hx)
    | (go_at_call_of 27 (Value.int IntKind.u64 (@HAdd.hAdd Int Int Int instHAdd ((p : Nat) : Int) 4)); refine ((unhide G1) _ (below_new (unhide HB))).mono ?_; rintro e w1 ⟨rfl, hx⟩; replace HB := hide ((unhide HB).trans (hx.mono (unhide HB).size)); clear hx)
    | (go_at_call_of 27 (Value.int IntKind.u64 (@HAdd.hAdd Int Int Int instHAdd ((p : Nat) : Int) 8)); refine ((unhide G2) _ (below_new (unhide HB))).mono ?_; rintro e w1 ⟨rfl, hx⟩; replace HB := hide ((unhide HB).trans (hx.mono (unhide HB).size)); clear hx)
    | (go_at_call_of 27 (Value.int IntKind.u64 (@HAdd.hAdd Int Int Int instHAdd ((p : Nat) : Int) 16)); refine ((unhide G3) _ (below_new (unhide HB))).mono ?_; rintro e w1 ⟨rfl, hx⟩; replace HB := hide ((unhide HB).trans (hx.mono (unhide HB).size)); clear hx)
    | (go_at_call_of 27 (Value.int IntKind.u64 (@HAdd.hAdd Int Int Int instHAdd ((p : Nat) : Int) 32)); refine ((unhide G4) _ (below_new (unhide HB))).mono ?_; rintro e w1 ⟨rfl, hx⟩; replace HB := hide ((unhide HB).trans (hx.mono (unhide HB).size)); clear hx)
    | (go_at_call_of 27 (Value.int IntKind.u64 (@HAdd.hAdd Int Int Int instHAdd ((p : Nat) : Int) 40)); refine ((unhide G5) _ (below_new (unhide HB))).mono ?_; rintro e w1 ⟨rfl, hx⟩; replace HB := hide ((unhide HB).trans (hx.mono (unhide HB).size)); clear hx; have hn := newblk (unhide HB); have hsz := lt_of_block hn; have Hn := hide hn; clear hn)
    | (go_at_call_of 27 (Value.int IntKind.u64 (@HAdd.hAdd Int Int Int instHAdd ((p : Nat) : Int) 48)); refine ((unhide G6) _ (below_new (unhide HB))).mono ?_; rintro e w1 ⟨rfl, hx⟩; replace HB := hide ((unhide HB).trans (hx.mono (unhide HB).size)); clear hx)
    | (go_at_call_of 28 (Value.bool true); refine (must_yes _ _).mono ?_; rintro e w1 ⟨rfl, rfl⟩)
    | (go_at_call_of 28 (Value.bool false); refine (must_no _ _).mono ?_; rintro e w1 ⟨rfl, rfl⟩)
    | (go_at_call_of 29 (Value.int IntKind.u64 ((o : Nat) : Int)); refine (inside_any _ _ _ _ (by omega) (by omega) (by omega) (by omega) (by omega)).mono ?_; rintro e w1 ⟨rfl, rfl⟩)
    | (go_at_call_of 29 (Value.int IntKind.u64 ((a : Nat) : Int)); refine (inside_any _ _ _ _ (by omega) (by omega) (by omega) (by omega) (by omega)).mono ?_; rintro e w1 ⟨rfl, rfl⟩)
    | ((with_reducible refine (@id (wpList _ _ _ (Oper.mk none (Op.store 37 (.tmp 6) (.tmp 97)) _ _ _ none :: _) _ _) ?_)); refine wpList_store_row rfl 37 (.tmp 6) (.tmp 97) rfl w.heap.size #[.int .u32 k, .int .u8 fl, .int .u64 o, .int .u64 a, .int .u64 f, .int .u64 z] rfl rfl 37 _ ((Below.heap_alloc _ _ _ hsz).trans (unhide Hn)) segInfo rfl (segOne _ _ _ _ _ _) ?_))
  refine ⟨rfl, rfl, ?_⟩
  go_grown
  all_goals first | exact below_new (unhide HB) | (have := (below_new (unhide HB)).size; simp; omega)


set_option maxHeartbeats 800000 in
theorem seg_e63 (A : Option Addr) (m c : Nat) (B : Nat) (b : List UInt8) (p ty : Nat) (w : World) (hB : B ≤ w.heap.size) (hb : Rd w B 1 A m (u8s b)) (hm : m ≤ maxLen) (hin : p + 56 ≤ m) (hp : p ≤ 4294967296) (hty : ty < 65536) (h1 : Wd.num b (p + 4) 4 ≤ 7) (h2 : Wd.num b (p + 32) 8 ≤ Wd.num b (p + 40) 8) (h3 : Wd.num b (p + 8) 8 + Wd.num b (p + 32) 8 ≤ m) (h4 : ty = 3) (h5 : Wd.num b p 4 = 6) (h6 : ¬ Wd.num b (p + 16) 8 + Wd.num b (p + 40) 8 ≤ 4294967296) :
    Calls Try.prog 30 #[.slice A m c, .int .u64 p, .int .u16 ty] w fun e w' => e = wrongs 25 ∧ Below w.heap.size w w' := by
  have hbl : b.length = m := by simpa using hb.len1
  have G0 := hide (fun (w' : World) (h : Below w.heap.size w w') => at_lit A m c B b p 4 4 rfl w' (Nat.le_trans hB h.size) ((hb).below (h.mono hB)) hm (by omega) (by omega))
  have G1 := hide (fun (w' : World) (h : Below w.heap.size w w') => at_off A m c B b p 4 4 4 4 rfl rfl w' (Nat.le_trans hB h.size) ((hb).below (h.mono hB)) hm (by omega) (by omega))
  have G2 := hide (fun (w' : World) (h : Below w.heap.size w w') => at_off A m c B b p 8 8 8 8 rfl rfl w' (Nat.le_trans hB h.size) ((hb).below (h.mono hB)) hm (by omega) (by omega))
  have G3 := hide (fun (w' : World) (h : Below w.heap.size w w') => at_off A m c B b p 16 8 16 8 rfl rfl w' (Nat.le_trans hB h.size) ((hb).below (h.mono hB)) hm (by omega) (by omega))
  have G4 := hide (fun (w' : World) (h : Below w.heap.size w w') => at_off A m c B b p 32 8 32 8 rfl rfl w' (Nat.le_trans hB h.size) ((hb).below (h.mono hB)) hm (by omega) (by omega))
  have G5 := hide (fun (w' : World) (h : Below w.heap.size w w') => at_off A m c B b p 40 8 40 8 rfl rfl w' (Nat.le_trans hB h.size) ((hb).below (h.mono hB)) hm (by omega) (by omega))
  have G6 := hide (fun (w' : World) (h : Below w.heap.size w w') => at_off A m c B b p 48 8 48 8 rfl rfl w' (Nat.le_trans hB h.size) ((hb).below (h.mono hB)) hm (by omega) (by omega))
  have l0 : Wd.num b p 4 < 4294967296 := Wd.num_lt _ _ _
  have l1 : Wd.num b (p + 4) 4 < 4294967296 := Wd.num_lt _ _ _
  have l2 : Wd.num b (p + 8) 8 < 18446744073709551616 := Wd.num_lt _ _ _
  have l3 : Wd.num b (p + 16) 8 < 18446744073709551616 := Wd.num_lt _ _ _
  have l4 : Wd.num b (p + 32) 8 < 18446744073709551616 := Wd.num_lt _ _ _
  have l5 : Wd.num b (p + 40) 8 < 18446744073709551616 := Wd.num_lt _ _ _
  have l6 : Wd.num b (p + 48) 8 < 18446744073709551616 := Wd.num_lt _ _ _
  generalize Wd.num b p 4 = k at *
  generalize Wd.num b (p + 4) 4 = fl at *
  generalize Wd.num b (p + 8) 8 = o at *
  generalize Wd.num b (p + 16) 8 = a at *
  generalize Wd.num b (p + 32) 8 = f at *
  generalize Wd.num b (p + 40) 8 = z at *
  generalize Wd.num b (p + 48) 8 = al at *
  unfold maxLen at hm
  clear hb hbl
  have HB := hide (Below.refl (w.alloc (.cells #[.int .u32 0, .int .u8 0, .int .u64 0, .int .u64 0, .int .u64 0, .int .u64 0] 37)).heap.size (w.alloc (.cells #[.int .u32 0, .int .u8 0, .int .u64 0, .int .u64 0, .int .u64 0, .int .u64 0] 37)))
  have i1 : ((fl : Nat) : Int) ≤ 7 := by omega
  have i2 : ((f : Nat) : Int) ≤ ((z : Nat) : Int) := by omega
  have i3 : decide (((o : Nat) : Int) + ((f : Nat) : Int) ≤ ((m : Nat) : Int)) = true := by simp; omega
  have ety3 : (((ty : Nat) : Int) == 3) = true := by simp; omega
  have ek1 : (((k : Nat) : Int) == 1) = false := by simp; omega
  have ek2 : (((k : Nat) : Int) == 2) = false := by simp; omega
  have ek3 : (((k : Nat) : Int) == 3) = false := by simp; omega
  have ek6 : (((k : Nat) : Int) == 6) = true := by simp; omega
  have i6 : decide (((a : Nat) : Int) + ((z : Nat) : Int) ≤ 4294967296) = false := by simp; omega
  clear h5 h4
  go_enter Try.func30, Try.ntmps30
  go_wp2_with (first
    | (go_at_call_of 27 (Value.int IntKind.u64 ((p : Nat) : Int)); refine ((unhide G0) _ (below_new (unhide HB))).mono ?_; rintro e w1 ⟨rfl, hx⟩; replace HB := hide ((unhide HB).trans (hx.mono (unhide HB).size)); clear hx)
    | (go_at_call_of 27 (Value.int IntKind.u64 (@HAdd.hAdd Int Int Int instHAdd ((p : Nat) : Int) 4)); refine ((unhide G1) _ (below_new (unhide HB))).mono ?_; rintro e w1 ⟨rfl, hx⟩; replace HB := hide ((unhide HB).trans (hx.mono (unhide HB).size)); clear hx)
    | (go_at_call_of 27 (Value.int IntKind.u64 (@HAdd.hAdd Int Int Int instHAdd ((p : Nat) : Int) 8)); refine ((unhide G2) _ (below_new (unhide HB))).mono ?_; rintro e w1 ⟨rfl, hx⟩; replace HB := hide ((unhide HB).trans (hx.mono (unhide HB).size)); clear hx)
    | (go_at_call_of 27 (Value.int IntKind.u64 (@HAdd.hAdd Int Int Int instHAdd ((p : Nat) : Int) 16)); refine ((unhide G3) _ (below_new (unhide HB))).mono ?_; rintro e w1 ⟨rfl, hx⟩; replace HB := hide ((unhide HB).trans (hx.mono (unhide HB).size)); clear hx)
    | (go_at_call_of 27 (Value.int IntKind.u64 (@HAdd.hAdd Int Int Int instHAdd ((p : Nat) : Int) 32)); refine ((unhide G4) _ (below_new (unhide HB))).mono ?_; rintro e w1 ⟨rfl, hx⟩; replace HB := hide ((unhide HB).trans (hx.mono (unhide HB).size)); clear hx)
    | (go_at_call_of 27 (Value.int IntKind.u64 (@HAdd.hAdd Int Int Int instHAdd ((p : Nat) : Int) 40)); refine ((unhide G5) _ (below_new (unhide HB))).mono ?_; rintro e w1 ⟨rfl, hx⟩; replace HB := hide ((unhide HB).trans (hx.mono (unhide HB).size)); clear hx; have hn := newblk (unhide HB); have hsz := lt_of_block hn; have Hn := hide hn; clear hn)
    | (go_at_call_of 27 (Value.int IntKind.u64 (@HAdd.hAdd Int Int Int instHAdd ((p : Nat) : Int) 48)); refine ((unhide G6) _ (below_new (unhide HB))).mono ?_; rintro e w1 ⟨rfl, hx⟩; replace HB := hide ((unhide HB).trans (hx.mono (unhide HB).size)); clear hx)
    | (go_at_call_of 28 (Value.bool true); refine (must_yes _ _).mono ?_; rintro e w1 ⟨rfl, rfl⟩)
    | (go_at_call_of 28 (Value.bool false); refine (must_no _ _).mono ?_; rintro e w1 ⟨rfl, rfl⟩)
    | (go_at_call_of 29 (Value.int IntKind.u64 ((o : Nat) : Int)); refine (inside_any _ _ _ _ (by omega) (by omega) (by omega) (by omega) (by omega)).mono ?_; rintro e w1 ⟨rfl, rfl⟩)
    | (go_at_call_of 29 (Value.int IntKind.u64 ((a : Nat) : Int)); refine (inside_any _ _ _ _ (by omega) (by omega) (by omega) (by omega) (by omega)).mono ?_; rintro e w1 ⟨rfl, rfl⟩)
    | ((with_reducible refine (@id (wpList _ _ _ (Oper.mk none (Op.store 37 (.tmp 6) (.tmp 97)) _ _ _ none :: _) _ _) ?_)); refine wpList_store_row rfl 37 (.tmp 6) (.tmp 97) rfl w.heap.size #[.int .u32 k, .int .u8 fl, .int .u64 o, .int .u64 a, .int .u64 f, .int .u64 z] rfl rfl 37 _ ((Below.heap_alloc _ _ _ hsz).trans (unhide Hn)) segInfo rfl (segOne _ _ _ _ _ _) ?_))
  refine ⟨rfl, rfl, ?_⟩
  go_grown
  all_goals first | exact below_new (unhide HB) | (have := (below_new (unhide HB)).size; simp; omega)


set_option maxHeartbeats 800000 in
theorem seg_aln (A : Option Addr) (m c : Nat) (B : Nat) (b : List UInt8) (p ty : Nat) (w : World) (hB : B ≤ w.heap.size) (hb : Rd w B 1 A m (u8s b)) (hm : m ≤ maxLen) (hin : p + 56 ≤ m) (hp : p ≤ 4294967296) (hty : ty < 65536) (h1 : Wd.num b (p + 4) 4 ≤ 7) (h2 : Wd.num b (p + 32) 8 ≤ Wd.num b (p + 40) 8) (h3 : Wd.num b (p + 8) 8 + Wd.num b (p + 32) 8 ≤ m) (h4 : ¬ ty = 3) (h5 : Wd.num b p 4 = 1) (h6 : Wd.num b (p + 16) 8 + Wd.num b (p + 40) 8 ≤ 140737488355328) (h7 : ¬ Wd.num b (p + 48) 8 = 4096) :
    Calls Try.prog 30 #[.slice A m c, .int .u64 p, .int .u16 ty] w fun e w' => e = wrongs 25 ∧ Below w.heap.size w w' := by
  have hbl : b.length = m := by simpa using hb.len1
  have G0 := hide (fun (w' : World) (h : Below w.heap.size w w') => at_lit A m c B b p 4 4 rfl w' (Nat.le_trans hB h.size) ((hb).below (h.mono hB)) hm (by omega) (by omega))
  have G1 := hide (fun (w' : World) (h : Below w.heap.size w w') => at_off A m c B b p 4 4 4 4 rfl rfl w' (Nat.le_trans hB h.size) ((hb).below (h.mono hB)) hm (by omega) (by omega))
  have G2 := hide (fun (w' : World) (h : Below w.heap.size w w') => at_off A m c B b p 8 8 8 8 rfl rfl w' (Nat.le_trans hB h.size) ((hb).below (h.mono hB)) hm (by omega) (by omega))
  have G3 := hide (fun (w' : World) (h : Below w.heap.size w w') => at_off A m c B b p 16 8 16 8 rfl rfl w' (Nat.le_trans hB h.size) ((hb).below (h.mono hB)) hm (by omega) (by omega))
  have G4 := hide (fun (w' : World) (h : Below w.heap.size w w') => at_off A m c B b p 32 8 32 8 rfl rfl w' (Nat.le_trans hB h.size) ((hb).below (h.mono hB)) hm (by omega) (by omega))
  have G5 := hide (fun (w' : World) (h : Below w.heap.size w w') => at_off A m c B b p 40 8 40 8 rfl rfl w' (Nat.le_trans hB h.size) ((hb).below (h.mono hB)) hm (by omega) (by omega))
  have G6 := hide (fun (w' : World) (h : Below w.heap.size w w') => at_off A m c B b p 48 8 48 8 rfl rfl w' (Nat.le_trans hB h.size) ((hb).below (h.mono hB)) hm (by omega) (by omega))
  have l0 : Wd.num b p 4 < 4294967296 := Wd.num_lt _ _ _
  have l1 : Wd.num b (p + 4) 4 < 4294967296 := Wd.num_lt _ _ _
  have l2 : Wd.num b (p + 8) 8 < 18446744073709551616 := Wd.num_lt _ _ _
  have l3 : Wd.num b (p + 16) 8 < 18446744073709551616 := Wd.num_lt _ _ _
  have l4 : Wd.num b (p + 32) 8 < 18446744073709551616 := Wd.num_lt _ _ _
  have l5 : Wd.num b (p + 40) 8 < 18446744073709551616 := Wd.num_lt _ _ _
  have l6 : Wd.num b (p + 48) 8 < 18446744073709551616 := Wd.num_lt _ _ _
  generalize Wd.num b p 4 = k at *
  generalize Wd.num b (p + 4) 4 = fl at *
  generalize Wd.num b (p + 8) 8 = o at *
  generalize Wd.num b (p + 16) 8 = a at *
  generalize Wd.num b (p + 32) 8 = f at *
  generalize Wd.num b (p + 40) 8 = z at *
  generalize Wd.num b (p + 48) 8 = al at *
  unfold maxLen at hm
  clear hb hbl
  have HB := hide (Below.refl (w.alloc (.cells #[.int .u32 0, .int .u8 0, .int .u64 0, .int .u64 0, .int .u64 0, .int .u64 0] 37)).heap.size (w.alloc (.cells #[.int .u32 0, .int .u8 0, .int .u64 0, .int .u64 0, .int .u64 0, .int .u64 0] 37)))
  have i1 : ((fl : Nat) : Int) ≤ 7 := by omega
  have i2 : ((f : Nat) : Int) ≤ ((z : Nat) : Int) := by omega
  have i3 : decide (((o : Nat) : Int) + ((f : Nat) : Int) ≤ ((m : Nat) : Int)) = true := by simp; omega
  have ety3 : (((ty : Nat) : Int) == 3) = false := by simp; omega
  have ek1 : (((k : Nat) : Int) == 1) = true := by simp; omega
  have i6 : decide (((a : Nat) : Int) + ((z : Nat) : Int) ≤ 140737488355328) = true := by simp; omega
  have eal4096 : (((al : Nat) : Int) == 4096) = false := by simp; omega
  clear h5 h4 h7
  go_enter Try.func30, Try.ntmps30
  go_wp2_with (first
    | (go_at_call_of 27 (Value.int IntKind.u64 ((p : Nat) : Int)); refine ((unhide G0) _ (below_new (unhide HB))).mono ?_; rintro e w1 ⟨rfl, hx⟩; replace HB := hide ((unhide HB).trans (hx.mono (unhide HB).size)); clear hx)
    | (go_at_call_of 27 (Value.int IntKind.u64 (@HAdd.hAdd Int Int Int instHAdd ((p : Nat) : Int) 4)); refine ((unhide G1) _ (below_new (unhide HB))).mono ?_; rintro e w1 ⟨rfl, hx⟩; replace HB := hide ((unhide HB).trans (hx.mono (unhide HB).size)); clear hx)
    | (go_at_call_of 27 (Value.int IntKind.u64 (@HAdd.hAdd Int Int Int instHAdd ((p : Nat) : Int) 8)); refine ((unhide G2) _ (below_new (unhide HB))).mono ?_; rintro e w1 ⟨rfl, hx⟩; replace HB := hide ((unhide HB).trans (hx.mono (unhide HB).size)); clear hx)
    | (go_at_call_of 27 (Value.int IntKind.u64 (@HAdd.hAdd Int Int Int instHAdd ((p : Nat) : Int) 16)); refine ((unhide G3) _ (below_new (unhide HB))).mono ?_; rintro e w1 ⟨rfl, hx⟩; replace HB := hide ((unhide HB).trans (hx.mono (unhide HB).size)); clear hx)
    | (go_at_call_of 27 (Value.int IntKind.u64 (@HAdd.hAdd Int Int Int instHAdd ((p : Nat) : Int) 32)); refine ((unhide G4) _ (below_new (unhide HB))).mono ?_; rintro e w1 ⟨rfl, hx⟩; replace HB := hide ((unhide HB).trans (hx.mono (unhide HB).size)); clear hx)
    | (go_at_call_of 27 (Value.int IntKind.u64 (@HAdd.hAdd Int Int Int instHAdd ((p : Nat) : Int) 40)); refine ((unhide G5) _ (below_new (unhide HB))).mono ?_; rintro e w1 ⟨rfl, hx⟩; replace HB := hide ((unhide HB).trans (hx.mono (unhide HB).size)); clear hx; have hn := newblk (unhide HB); have hsz := lt_of_block hn; have Hn := hide hn; clear hn)
    | (go_at_call_of 27 (Value.int IntKind.u64 (@HAdd.hAdd Int Int Int instHAdd ((p : Nat) : Int) 48)); refine ((unhide G6) _ (below_new (unhide HB))).mono ?_; rintro e w1 ⟨rfl, hx⟩; replace HB := hide ((unhide HB).trans (hx.mono (unhide HB).size)); clear hx)
    | (go_at_call_of 28 (Value.bool true); refine (must_yes _ _).mono ?_; rintro e w1 ⟨rfl, rfl⟩)
    | (go_at_call_of 28 (Value.bool false); refine (must_no _ _).mono ?_; rintro e w1 ⟨rfl, rfl⟩)
    | (go_at_call_of 29 (Value.int IntKind.u64 ((o : Nat) : Int)); refine (inside_any _ _ _ _ (by omega) (by omega) (by omega) (by omega) (by omega)).mono ?_; rintro e w1 ⟨rfl, rfl⟩)
    | (go_at_call_of 29 (Value.int IntKind.u64 ((a : Nat) : Int)); refine (inside_any _ _ _ _ (by omega) (by omega) (by omega) (by omega) (by omega)).mono ?_; rintro e w1 ⟨rfl, rfl⟩)
    | ((with_reducible refine (@id (wpList _ _ _ (Oper.mk none (Op.store 37 (.tmp 6) (.tmp 97)) _ _ _ none :: _) _ _) ?_)); refine wpList_store_row rfl 37 (.tmp 6) (.tmp 97) rfl w.heap.size #[.int .u32 k, .int .u8 fl, .int .u64 o, .int .u64 a, .int .u64 f, .int .u64 z] rfl rfl 37 _ ((Below.heap_alloc _ _ _ hsz).trans (unhide Hn)) segInfo rfl (segOne _ _ _ _ _ _) ?_))
  refine ⟨rfl, rfl, ?_⟩
  go_grown
  all_goals first | exact below_new (unhide HB) | (have := (below_new (unhide HB)).size; simp; omega)


set_option maxHeartbeats 800000 in
theorem seg_ok2n (A : Option Addr) (m c : Nat) (B : Nat) (b : List UInt8) (p ty : Nat) (w : World) (hB : B ≤ w.heap.size) (hb : Rd w B 1 A m (u8s b)) (hm : m ≤ maxLen) (hin : p + 56 ≤ m) (hp : p ≤ 4294967296) (hty : ty < 65536) (h1 : Wd.num b (p + 4) 4 ≤ 7) (h2 : Wd.num b (p + 32) 8 ≤ Wd.num b (p + 40) 8) (h3 : Wd.num b (p + 8) 8 + Wd.num b (p + 32) 8 ≤ m) (h4 : ¬ ty = 3) (h5 : Wd.num b p 4 = 2) (h6 : Wd.num b (p + 16) 8 + Wd.num b (p + 40) 8 ≤ 140737488355328) :
    Calls Try.prog 30 #[.slice A m c, .int .u64 p, .int .u16 ty] w fun e w' => e = .returned (segVal (El.segAt b p)) ∧ Below w.heap.size w w' := by
  unfold El.segAt
  have hbl : b.length = m := by simpa using hb.len1
  have G0 := hide (fun (w' : World) (h : Below w.heap.size w w') => at_lit A m c B b p 4 4 rfl w' (Nat.le_trans hB h.size) ((hb).below (h.mono hB)) hm (by omega) (by omega))
  have G1 := hide (fun (w' : World) (h : Below w.heap.size w w') => at_off A m c B b p 4 4 4 4 rfl rfl w' (Nat.le_trans hB h.size) ((hb).below (h.mono hB)) hm (by omega) (by omega))
  have G2 := hide (fun (w' : World) (h : Below w.heap.size w w') => at_off A m c B b p 8 8 8 8 rfl rfl w' (Nat.le_trans hB h.size) ((hb).below (h.mono hB)) hm (by omega) (by omega))
  have G3 := hide (fun (w' : World) (h : Below w.heap.size w w') => at_off A m c B b p 16 8 16 8 rfl rfl w' (Nat.le_trans hB h.size) ((hb).below (h.mono hB)) hm (by omega) (by omega))
  have G4 := hide (fun (w' : World) (h : Below w.heap.size w w') => at_off A m c B b p 32 8 32 8 rfl rfl w' (Nat.le_trans hB h.size) ((hb).below (h.mono hB)) hm (by omega) (by omega))
  have G5 := hide (fun (w' : World) (h : Below w.heap.size w w') => at_off A m c B b p 40 8 40 8 rfl rfl w' (Nat.le_trans hB h.size) ((hb).below (h.mono hB)) hm (by omega) (by omega))
  have G6 := hide (fun (w' : World) (h : Below w.heap.size w w') => at_off A m c B b p 48 8 48 8 rfl rfl w' (Nat.le_trans hB h.size) ((hb).below (h.mono hB)) hm (by omega) (by omega))
  have l0 : Wd.num b p 4 < 4294967296 := Wd.num_lt _ _ _
  have l1 : Wd.num b (p + 4) 4 < 4294967296 := Wd.num_lt _ _ _
  have l2 : Wd.num b (p + 8) 8 < 18446744073709551616 := Wd.num_lt _ _ _
  have l3 : Wd.num b (p + 16) 8 < 18446744073709551616 := Wd.num_lt _ _ _
  have l4 : Wd.num b (p + 32) 8 < 18446744073709551616 := Wd.num_lt _ _ _
  have l5 : Wd.num b (p + 40) 8 < 18446744073709551616 := Wd.num_lt _ _ _
  have l6 : Wd.num b (p + 48) 8 < 18446744073709551616 := Wd.num_lt _ _ _
  generalize Wd.num b p 4 = k at *
  generalize Wd.num b (p + 4) 4 = fl at *
  generalize Wd.num b (p + 8) 8 = o at *
  generalize Wd.num b (p + 16) 8 = a at *
  generalize Wd.num b (p + 32) 8 = f at *
  generalize Wd.num b (p + 40) 8 = z at *
  generalize Wd.num b (p + 48) 8 = al at *
  unfold maxLen at hm
  clear hb hbl
  have HB := hide (Below.refl (w.alloc (.cells #[.int .u32 0, .int .u8 0, .int .u64 0, .int .u64 0, .int .u64 0, .int .u64 0] 37)).heap.size (w.alloc (.cells #[.int .u32 0, .int .u8 0, .int .u64 0, .int .u64 0, .int .u64 0, .int .u64 0] 37)))
  have i1 : ((fl : Nat) : Int) ≤ 7 := by omega
  have i2 : ((f : Nat) : Int) ≤ ((z : Nat) : Int) := by omega
  have i3 : decide (((o : Nat) : Int) + ((f : Nat) : Int) ≤ ((m : Nat) : Int)) = true := by simp; omega
  have ety3 : (((ty : Nat) : Int) == 3) = false := by simp; omega
  have ek1 : (((k : Nat) : Int) == 1) = false := by simp; omega
  have ek2 : (((k : Nat) : Int) == 2) = true := by simp; omega
  have i6 : decide (((a : Nat) : Int) + ((z : Nat) : Int) ≤ 140737488355328) = true := by simp; omega
  clear h5 h4
  go_enter Try.func30, Try.ntmps30
  go_wp2_with (first
    | (go_at_call_of 27 (Value.int IntKind.u64 ((p : Nat) : Int)); refine ((unhide G0) _ (below_new (unhide HB))).mono ?_; rintro e w1 ⟨rfl, hx⟩; replace HB := hide ((unhide HB).trans (hx.mono (unhide HB).size)); clear hx)
    | (go_at_call_of 27 (Value.int IntKind.u64 (@HAdd.hAdd Int Int Int instHAdd ((p : Nat) : Int) 4)); refine ((unhide G1) _ (below_new (unhide HB))).mono ?_; rintro e w1 ⟨rfl, hx⟩; replace HB := hide ((unhide HB).trans (hx.mono (unhide HB).size)); clear hx)
    | (go_at_call_of 27 (Value.int IntKind.u64 (@HAdd.hAdd Int Int Int instHAdd ((p : Nat) : Int) 8)); refine ((unhide G2) _ (below_new (unhide HB))).mono ?_; rintro e w1 ⟨rfl, hx⟩; replace HB := hide ((unhide HB).trans (hx.mono (unhide HB).size)); clear hx)
    | (go_at_call_of 27 (Value.int IntKind.u64 (@HAdd.hAdd Int Int Int instHAdd ((p : Nat) : Int) 16)); refine ((unhide G3) _ (below_new (unhide HB))).mono ?_; rintro e w1 ⟨rfl, hx⟩; replace HB := hide ((unhide HB).trans (hx.mono (unhide HB).size)); clear hx)
    | (go_at_call_of 27 (Value.int IntKind.u64 (@HAdd.hAdd Int Int Int instHAdd ((p : Nat) : Int) 32)); refine ((unhide G4) _ (below_new (unhide HB))).mono ?_; rintro e w1 ⟨rfl, hx⟩; replace HB := hide ((unhide HB).trans (hx.mono (unhide HB).size)); clear hx)
    | (go_at_call_of 27 (Value.int IntKind.u64 (@HAdd.hAdd Int Int Int instHAdd ((p : Nat) : Int) 40)); refine ((unhide G5) _ (below_new (unhide HB))).mono ?_; rintro e w1 ⟨rfl, hx⟩; replace HB := hide ((unhide HB).trans (hx.mono (unhide HB).size)); clear hx; have hn := newblk (unhide HB); have hsz := lt_of_block hn; have Hn := hide hn; clear hn)
    | (go_at_call_of 27 (Value.int IntKind.u64 (@HAdd.hAdd Int Int Int instHAdd ((p : Nat) : Int) 48)); refine ((unhide G6) _ (below_new (unhide HB))).mono ?_; rintro e w1 ⟨rfl, hx⟩; replace HB := hide ((unhide HB).trans (hx.mono (unhide HB).size)); clear hx)
    | (go_at_call_of 28 (Value.bool true); refine (must_yes _ _).mono ?_; rintro e w1 ⟨rfl, rfl⟩)
    | (go_at_call_of 28 (Value.bool false); refine (must_no _ _).mono ?_; rintro e w1 ⟨rfl, rfl⟩)
    | (go_at_call_of 29 (Value.int IntKind.u64 ((o : Nat) : Int)); refine (inside_any _ _ _ _ (by omega) (by omega) (by omega) (by omega) (by omega)).mono ?_; rintro e w1 ⟨rfl, rfl⟩)
    | (go_at_call_of 29 (Value.int IntKind.u64 ((a : Nat) : Int)); refine (inside_any _ _ _ _ (by omega) (by omega) (by omega) (by omega) (by omega)).mono ?_; rintro e w1 ⟨rfl, rfl⟩)
    | ((with_reducible refine (@id (wpList _ _ _ (Oper.mk none (Op.store 37 (.tmp 6) (.tmp 97)) _ _ _ none :: _) _ _) ?_)); refine wpList_store_row rfl 37 (.tmp 6) (.tmp 97) rfl w.heap.size #[.int .u32 k, .int .u8 fl, .int .u64 o, .int .u64 a, .int .u64 f, .int .u64 z] rfl rfl 37 _ ((Below.heap_alloc _ _ _ hsz).trans (unhide Hn)) segInfo rfl (segOne _ _ _ _ _ _) ?_))
  refine bodyPost_ret (results_cell_row (P := Try.prog) rfl _ _ w.heap.size 37 #[.int .u32 k, .int .u8 fl, .int .u64 o, .int .u64 a, .int .u64 f, .int .u64 z] (0, 0) _ rfl (setRow_heap _ _ _ _ _ _ ((Below.heap_alloc _ _ _ hsz).trans (unhide Hn))) Try.underlying37 rfl segInfo) rfl ⟨rfl, ?_⟩
  exact below_setRow ((below_new (unhide HB)).alloc (below_new (unhide HB)).size _) (Nat.le_refl _) _


set_option maxHeartbeats 800000 in
theorem seg_ok6n (A : Option Addr) (m c : Nat) (B : Nat) (b : List UInt8) (p ty : Nat) (w : World) (hB : B ≤ w.heap.size) (hb : Rd w B 1 A m (u8s b)) (hm : m ≤ maxLen) (hin : p + 56 ≤ m) (hp : p ≤ 4294967296) (hty : ty < 65536) (h1 : Wd.num b (p + 4) 4 ≤ 7) (h2 : Wd.num b (p + 32) 8 ≤ Wd.num b (p + 40) 8) (h3 : Wd.num b (p + 8) 8 + Wd.num b (p + 32) 8 ≤ m) (h4 : ¬ ty = 3) (h5 : Wd.num b p 4 = 6) (h6 : Wd.num b (p + 16) 8 + Wd.num b (p + 40) 8 ≤ 140737488355328) :
    Calls Try.prog 30 #[.slice A m c, .int .u64 p, .int .u16 ty] w fun e w' => e = .returned (segVal (El.segAt b p)) ∧ Below w.heap.size w w' := by
  unfold El.segAt
  have hbl : b.length = m := by simpa using hb.len1
  have G0 := hide (fun (w' : World) (h : Below w.heap.size w w') => at_lit A m c B b p 4 4 rfl w' (Nat.le_trans hB h.size) ((hb).below (h.mono hB)) hm (by omega) (by omega))
  have G1 := hide (fun (w' : World) (h : Below w.heap.size w w') => at_off A m c B b p 4 4 4 4 rfl rfl w' (Nat.le_trans hB h.size) ((hb).below (h.mono hB)) hm (by omega) (by omega))
  have G2 := hide (fun (w' : World) (h : Below w.heap.size w w') => at_off A m c B b p 8 8 8 8 rfl rfl w' (Nat.le_trans hB h.size) ((hb).below (h.mono hB)) hm (by omega) (by omega))
  have G3 := hide (fun (w' : World) (h : Below w.heap.size w w') => at_off A m c B b p 16 8 16 8 rfl rfl w' (Nat.le_trans hB h.size) ((hb).below (h.mono hB)) hm (by omega) (by omega))
  have G4 := hide (fun (w' : World) (h : Below w.heap.size w w') => at_off A m c B b p 32 8 32 8 rfl rfl w' (Nat.le_trans hB h.size) ((hb).below (h.mono hB)) hm (by omega) (by omega))
  have G5 := hide (fun (w' : World) (h : Below w.heap.size w w') => at_off A m c B b p 40 8 40 8 rfl rfl w' (Nat.le_trans hB h.size) ((hb).below (h.mono hB)) hm (by omega) (by omega))
  have G6 := hide (fun (w' : World) (h : Below w.heap.size w w') => at_off A m c B b p 48 8 48 8 rfl rfl w' (Nat.le_trans hB h.size) ((hb).below (h.mono hB)) hm (by omega) (by omega))
  have l0 : Wd.num b p 4 < 4294967296 := Wd.num_lt _ _ _
  have l1 : Wd.num b (p + 4) 4 < 4294967296 := Wd.num_lt _ _ _
  have l2 : Wd.num b (p + 8) 8 < 18446744073709551616 := Wd.num_lt _ _ _
  have l3 : Wd.num b (p + 16) 8 < 18446744073709551616 := Wd.num_lt _ _ _
  have l4 : Wd.num b (p + 32) 8 < 18446744073709551616 := Wd.num_lt _ _ _
  have l5 : Wd.num b (p + 40) 8 < 18446744073709551616 := Wd.num_lt _ _ _
  have l6 : Wd.num b (p + 48) 8 < 18446744073709551616 := Wd.num_lt _ _ _
  generalize Wd.num b p 4 = k at *
  generalize Wd.num b (p + 4) 4 = fl at *
  generalize Wd.num b (p + 8) 8 = o at *
  generalize Wd.num b (p + 16) 8 = a at *
  generalize Wd.num b (p + 32) 8 = f at *
  generalize Wd.num b (p + 40) 8 = z at *
  generalize Wd.num b (p + 48) 8 = al at *
  unfold maxLen at hm
  clear hb hbl
  have HB := hide (Below.refl (w.alloc (.cells #[.int .u32 0, .int .u8 0, .int .u64 0, .int .u64 0, .int .u64 0, .int .u64 0] 37)).heap.size (w.alloc (.cells #[.int .u32 0, .int .u8 0, .int .u64 0, .int .u64 0, .int .u64 0, .int .u64 0] 37)))
  have i1 : ((fl : Nat) : Int) ≤ 7 := by omega
  have i2 : ((f : Nat) : Int) ≤ ((z : Nat) : Int) := by omega
  have i3 : decide (((o : Nat) : Int) + ((f : Nat) : Int) ≤ ((m : Nat) : Int)) = true := by simp; omega
  have ety3 : (((ty : Nat) : Int) == 3) = false := by simp; omega
  have ek1 : (((k : Nat) : Int) == 1) = false := by simp; omega
  have ek2 : (((k : Nat) : Int) == 2) = false := by simp; omega
  have ek3 : (((k : Nat) : Int) == 3) = false := by simp; omega
  have ek6 : (((k : Nat) : Int) == 6) = true := by simp; omega
  have i6 : decide (((a : Nat) : Int) + ((z : Nat) : Int) ≤ 140737488355328) = true := by simp; omega
  clear h5 h4
  go_enter Try.func30, Try.ntmps30
  go_wp2_with (first
    | (go_at_call_of 27 (Value.int IntKind.u64 ((p : Nat) : Int)); refine ((unhide G0) _ (below_new (unhide HB))).mono ?_; rintro e w1 ⟨rfl, hx⟩; replace HB := hide ((unhide HB).trans (hx.mono (unhide HB).size)); clear hx)
    | (go_at_call_of 27 (Value.int IntKind.u64 (@HAdd.hAdd Int Int Int instHAdd ((p : Nat) : Int) 4)); refine ((unhide G1) _ (below_new (unhide HB))).mono ?_; rintro e w1 ⟨rfl, hx⟩; replace HB := hide ((unhide HB).trans (hx.mono (unhide HB).size)); clear hx)
    | (go_at_call_of 27 (Value.int IntKind.u64 (@HAdd.hAdd Int Int Int instHAdd ((p : Nat) : Int) 8)); refine ((unhide G2) _ (below_new (unhide HB))).mono ?_; rintro e w1 ⟨rfl, hx⟩; replace HB := hide ((unhide HB).trans (hx.mono (unhide HB).size)); clear hx)
    | (go_at_call_of 27 (Value.int IntKind.u64 (@HAdd.hAdd Int Int Int instHAdd ((p : Nat) : Int) 16)); refine ((unhide G3) _ (below_new (unhide HB))).mono ?_; rintro e w1 ⟨rfl, hx⟩; replace HB := hide ((unhide HB).trans (hx.mono (unhide HB).size)); clear hx)
    | (go_at_call_of 27 (Value.int IntKind.u64 (@HAdd.hAdd Int Int Int instHAdd ((p : Nat) : Int) 32)); refine ((unhide G4) _ (below_new (unhide HB))).mono ?_; rintro e w1 ⟨rfl, hx⟩; replace HB := hide ((unhide HB).trans (hx.mono (unhide HB).size)); clear hx)
    | (go_at_call_of 27 (Value.int IntKind.u64 (@HAdd.hAdd Int Int Int instHAdd ((p : Nat) : Int) 40)); refine ((unhide G5) _ (below_new (unhide HB))).mono ?_; rintro e w1 ⟨rfl, hx⟩; replace HB := hide ((unhide HB).trans (hx.mono (unhide HB).size)); clear hx; have hn := newblk (unhide HB); have hsz := lt_of_block hn; have Hn := hide hn; clear hn)
    | (go_at_call_of 27 (Value.int IntKind.u64 (@HAdd.hAdd Int Int Int instHAdd ((p : Nat) : Int) 48)); refine ((unhide G6) _ (below_new (unhide HB))).mono ?_; rintro e w1 ⟨rfl, hx⟩; replace HB := hide ((unhide HB).trans (hx.mono (unhide HB).size)); clear hx)
    | (go_at_call_of 28 (Value.bool true); refine (must_yes _ _).mono ?_; rintro e w1 ⟨rfl, rfl⟩)
    | (go_at_call_of 28 (Value.bool false); refine (must_no _ _).mono ?_; rintro e w1 ⟨rfl, rfl⟩)
    | (go_at_call_of 29 (Value.int IntKind.u64 ((o : Nat) : Int)); refine (inside_any _ _ _ _ (by omega) (by omega) (by omega) (by omega) (by omega)).mono ?_; rintro e w1 ⟨rfl, rfl⟩)
    | (go_at_call_of 29 (Value.int IntKind.u64 ((a : Nat) : Int)); refine (inside_any _ _ _ _ (by omega) (by omega) (by omega) (by omega) (by omega)).mono ?_; rintro e w1 ⟨rfl, rfl⟩)
    | ((with_reducible refine (@id (wpList _ _ _ (Oper.mk none (Op.store 37 (.tmp 6) (.tmp 97)) _ _ _ none :: _) _ _) ?_)); refine wpList_store_row rfl 37 (.tmp 6) (.tmp 97) rfl w.heap.size #[.int .u32 k, .int .u8 fl, .int .u64 o, .int .u64 a, .int .u64 f, .int .u64 z] rfl rfl 37 _ ((Below.heap_alloc _ _ _ hsz).trans (unhide Hn)) segInfo rfl (segOne _ _ _ _ _ _) ?_))
  refine bodyPost_ret (results_cell_row (P := Try.prog) rfl _ _ w.heap.size 37 #[.int .u32 k, .int .u8 fl, .int .u64 o, .int .u64 a, .int .u64 f, .int .u64 z] (0, 0) _ rfl (setRow_heap _ _ _ _ _ _ ((Below.heap_alloc _ _ _ hsz).trans (unhide Hn))) Try.underlying37 rfl segInfo) rfl ⟨rfl, ?_⟩
  exact below_setRow ((below_new (unhide HB)).alloc (below_new (unhide HB)).size _) (Nat.le_refl _) _


end Go.Proofs.Ytkonolmakpeocaa
