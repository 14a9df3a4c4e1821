/- The walk of the law's own file X. No conditions. -/
import Derived.Test.YtkonolmakpeocaaElf8
import Derived.Test.YtkonolmakpeocaaMore
import Derived.Lib.BufferWrite
import Derived.Deep.RegionHeld3
namespace Go.Proofs.Ytkonolmakpeocaa
set_option linter.unusedVariables false
set_option linter.unusedSimpArgs false
open Go.RowKit

theorem wpList_copy_str {P : Program} {w : World} {ops : Array Oper} {rest : List Oper} {o : Oper} {a : Act} {Q : Exit → Act → World → Prop} (hgd : o.guard = none) (d s : Operand) (dT sT : TypeId)
    (ho : o.op = .call { callee := .builtin .copy, args := #[d, s], argTypes := #[dT, sT] }) (base g n c : Nat) (e : TypeId) (xs : List Value) (t : ByteArray) (hd : a.eval d = .slice (some ⟨g, 0, none⟩) n c) (hx : a.eval s = .string t)
    (hu : P.underlying dT = some (.slice e)) (hs : (P.info? e).map (·.size) = some 1) (hown : w.ownsRow base e 1 (.slice (some ⟨g, 0, none⟩) n c) n xs) (hle : t.size ≤ n)
    (h : ∀ w', w'.ownsRow base e 1 (.slice (some ⟨g, 0, none⟩) n c) n (Lib.byteCells t.data.toList ++ xs.drop t.size) → Below base w w' → wpList P ops Q rest (a.put o.dst (goInt t.size)) w') : wpList P ops Q (o :: rest) a w := by
  obtain ⟨hl, hn | ⟨g', cap, cur, hv, hb, hg, h1, h2, h3, h4⟩⟩ := hown
  · exact absurd hn.1 (by simp)
  obtain ⟨rfl, rfl⟩ : g = g' ∧ c = cap := by simpa using hv
  have hrun := Lib.run_copy_row_string (P := P) w dT sT o.type e g 0 n c t cur e hu hs hg hle (by omega)
  have hlen : (Lib.byteCells t.data.toList).length = t.size := by rw [Lib.byteCells_length]; rfl
  have hK := h (w.setRow g (cur.toList.take 0 ++ Lib.byteCells t.data.toList ++ cur.toList.drop (0 + t.size)).toArray) (by
    refine ⟨by simp [hlen, hl]; omega, .inr ⟨g, c, _, rfl, hb, setRow_heap _ _ _ _ _ _ hg, h1, h2, by simp [hlen, h3]; omega, ?_⟩⟩
    simp only [List.take_zero, List.nil_append, Nat.zero_add, Nat.mul_one] at h4 ⊢
    rw [List.take_append, hlen, List.take_of_length_le (by omega), ← h4, List.drop_take]) (below_setRow (Below.refl _ _) hb _)
  refine wpList_plain hgd fun K hK' => ?_
  unfold Oper.wp
  simp only [execOp, ho]
  simp [resolve, invoke, builtin, hd, hx, hrun, Result.andThen]
  exact hK' _ _ (by simpa using hK)

/-- The numbers that X is laid from. -/
def layN : List Nat := [16, 2, 2, 18, 2, 62, 20, 4, 1, 24, 8, 4194424, 32, 8, 64, 54, 2, 56, 56, 2, 1, 64, 4, 1, 68, 4, 5, 80, 8, 4194304, 96, 8, 128, 104, 8, 128, 112, 8, 4096]
def layFrom : Nat → List UInt8
  | 0 => [127, 69, 76, 70, 2, 1, 1] ++ List.replicate 121 0
  | k + 1 => setK (layFrom k) (layN.getD (3 * k) 0) (layN.getD (3 * k + 2) 0) (layN.getD (3 * k + 1) 0)
theorem layFrom_len (k : Nat) : (layFrom k).length = 128 := by
  induction k with
  | zero => rfl
  | succ k ih => rw [layFrom, setK_len, ih]

set_option maxRecDepth 100000 in
set_option maxHeartbeats 2000000 in
theorem plain_any (w : World) : Calls Try.prog 24 #[] w fun e w' => ∃ A' c', e = .returned (.slice A' 128 c') ∧ w'.ownsRow w.heap.size 5 1 (.slice A' 128 c') 128 (u8s (layFrom 13)) ∧ Below w.heap.size w w' := by
  obtain ⟨i, hi, hz0, hz1, hz2⟩ := info_parts byteInfo
  have Hi := hide hi
  have Hz0 := hide hz0
  have Hz1 := hide hz1
  have Hz2 := hide hz2
  clear hi hz0 hz1 hz2
  have hbs : (Try.prog.info? 5).map (·.size) = some 1 := by kernel_rfl
  have Hbs := hide hbs
  clear hbs
  go_enter Try.func24, Try.ntmps24
  go_wp2_with (first
    | (at_make; refine wpList_make_full _ rfl _ _ 22 rfl w.heap.size 5 i (.int .u8 0) 1 Try.underlying22 (unhide Hi) (unhide Hz0) (unhide Hz1) _ _ _ _ 128 rfl rfl rfl rfl (by rw [unhide Hz2]; omega) (by unfold maxLen; omega) (Nat.le_refl _) ?_; intro w1 hown hgrow; have hb1 := (Below.refl w.heap.size w).grown hgrow (Nat.le_refl _) (fun k hk => by cases hk); have Hown := hide hown; have Hb1 := hide hb1; clear hown hgrow hb1)
    | ((with_reducible refine (@id (wpList _ _ _ (Oper.mk (some 6) (Op.call { callee := Callee.builtin Builtin.copy, args := _, argTypes := _ }) _ _ _ none :: _) _ _) ?_)); refine wpList_copy_str rfl _ _ 22 _ rfl w.heap.size w.heap.size 128 128 5 _ ⟨#[127, 69, 76, 70, 2, 1, 1]⟩ rfl rfl Try.underlying22 (unhide Hbs) (unhide Hown) (by decide) ?_; intro w2 hown hbx; replace Hown := hide hown; replace Hb1 := hide ((unhide Hb1).trans hbx); clear hown hbx))
  go_loopw [1, 3] (fun bv i wr => ∃ (k q : Nat) (A' : Option Addr) (c' : Nat), k ≤ 13 ∧ q = 3 * k ∧ i = .int .i64 q ∧ bv = .slice A' 128 c' ∧ wr.ownsRow w.heap.size 5 1 (.slice A' 128 c') 128 (u8s (layFrom k)) ∧ Below w.heap.size w wr ∧
    (∀ j v, layN[j]? = some v → wr.cell? ⟨w2.heap.size, j, none⟩ = some (.int .u64 (v : Nat))) ∧ w2.heap.size < wr.heap.size) (fun _ i _ => 39 - (intOf i).toNat)
  case atStart =>
    have hz : Lib.byteCells [127, 69, 76, 70, 2, 1, 1] ++ List.drop (⟨#[127, 69, 76, 70, 2, 1, 1]⟩ : ByteArray).size (madeCells (Value.int .u8 0).cells (128 * 1)).toList = u8s (layFrom 0) := by
      simp only [Value.cells, toList_madeCells_one]
      rfl
    have hown0 := unhide Hown
    rw [hz] at hown0
    refine ⟨0, 0, _, _, by omega, rfl, rfl, rfl, hown0.alloc _, (unhide Hb1).alloc (unhide Hb1).size _, ?_, by simp⟩
    intro j v hv
    rw [cell_of_row _ _ j _ _ _ (heap_alloc_new _ _)]
    have e : (layN.map fun n => Value.int .u64 ((n : Nat) : Int)).toArray[j]? = some (.int .u64 (v : Nat)) := by simp [hv]
    exact e
  case round =>
  clear Hown Hb1
  obtain ⟨k, q, A', c', hk, hq, rfl, rfl, hown, hb2, hcells, hsz⟩ := hrel
  rcases Nat.lt_or_ge k 13 with hlt | hge
  case inr =>
    obtain rfl : k = 13 := by omega
    subst hq
    have Hown := hide hown
    have Hb2 := hide hb2
    clear hown hb2 hcells
    go_wp2
    go_ret
    exact ⟨_, _, rfl, unhide Hown, unhide Hb2⟩
  obtain ⟨p, hp⟩ : ∃ p, layN[3 * k]? = some p := ⟨_, List.getElem?_eq_getElem (by show 3 * k < 39; omega)⟩
  obtain ⟨s, hs⟩ : ∃ s, layN[3 * k + 1]? = some s := ⟨_, List.getElem?_eq_getElem (by show 3 * k + 1 < 39; omega)⟩
  obtain ⟨x, hx⟩ : ∃ x, layN[3 * k + 2]? = some x := ⟨_, List.getElem?_eq_getElem (by show 3 * k + 2 < 39; omega)⟩
  have hall : ∀ k, k < 13 → (layN.getD (3 * k + 1) 0 = 1 ∨ layN.getD (3 * k + 1) 0 = 2 ∨ layN.getD (3 * k + 1) 0 = 4 ∨ layN.getD (3 * k + 1) 0 = 8) ∧ layN.getD (3 * k) 0 + layN.getD (3 * k + 1) 0 ≤ 128 ∧ layN.getD (3 * k + 2) 0 < 18446744073709551616 := by decide
  obtain ⟨ha1, ha2, ha3⟩ := hall k hlt
  have hnext : layFrom (k + 1) = setK (layFrom k) p x s := by simp [layFrom, List.getD, hp, hs, hx]
  simp only [List.getD, hp, hs, hx, Option.getD_some] at ha1 ha2 ha3
  have hset := refSet_yes A' 128 c' wr.heap.size (layFrom k) p s x wr.drew (Nat.le_refl _) (Rd.of_own hown).drew (by omega) ha1 ha2 ha3
  rw [← hnext] at hset
  have c0 := hcells _ _ hp
  have c1 := hcells _ _ hs
  have c2 := hcells _ _ hx
  rw [← hq] at c0 c1 c2
  have hs8 : s ≤ 8 := by omega
  have hq39 : q + 2 < 39 := by omega
  have Hq := hide hq
  clear hq
  have Hset := hide hset
  have Hown := hide hown
  have Hb2 := hide hb2
  have Hcells := hide hcells
  have Hall := hide hall
  clear hset hown hb2 hcells hnext hp hs hx hall ha1
  have b0 : (0 : Int) ≤ (q : Int) := by omega
  have b1 : (q : Int) < 39 := by omega
  have b2 : (q : Int) + 1 < 39 := by omega
  have b3 : (q : Int) + 2 < 39 := by omega
  have b4 : (0 : Int) ≤ (q : Int) + 1 := by omega
  have b5 : (0 : Int) ≤ (q : Int) + 2 := by omega
  have n1 : ¬ ((q : Int) + 1 < 0) := by omega
  have n2 : ¬ ((q : Int) + 2 < 0) := by omega
  have t1 : ((q : Int) + 1).toNat = q + 1 := by omega
  have t2 : ((q : Int) + 2).toNat = q + 2 := by omega
  have r1 : IntKind.i64.wrap ((q : Int) + 1) = (q : Int) + 1 := IntWalk.i64_in _ (by omega)
  have r2 : IntKind.i64.wrap ((q : Int) + 2) = (q : Int) + 2 := IntWalk.i64_in _ (by omega)
  have r3 : IntKind.i64.wrap (s : Int) = (s : Int) := IntWalk.i64_in _ (by omega)
  go_wp2
  go_region_held3 (fun w' => w'.cell? ⟨w2.heap.size, q, none⟩ = some (.int .u64 (p : Nat)) ∧ w'.cell? ⟨w2.heap.size, q + 1, none⟩ = some (.int .u64 (s : Nat)) ∧ w'.cell? ⟨w2.heap.size, q + 2, none⟩ = some (.int .u64 (x : Nat))) (first | exact ⟨c0, c1, c2⟩ | exact ⟨(hbx.cell (p := ⟨w2.heap.size, q, none⟩) hsz).trans c0, (hbx.cell (p := ⟨w2.heap.size, q + 1, none⟩) hsz).trans c1, (hbx.cell (p := ⟨w2.heap.size, q + 2, none⟩) hsz).trans c2⟩) (first | (go_at_call 44; refine (unhide Hset).mono ?_; rintro e w3 ⟨A2, c2', rfl, hown, hbx⟩))
  have hown2 := own_base hown (unhide Hb2).size
  have hcells2 : ∀ j v, layN[j]? = some v → w3.cell? ⟨w2.heap.size, j, none⟩ = some (.int .u64 (v : Nat)) := fun j v hv => (hbx.cell (p := ⟨w2.heap.size, j, none⟩) hsz).trans ((unhide Hcells) j v hv)
  have hb3 : Below w.heap.size w w3 := (below_drew' (unhide Hb2)).trans (hbx.mono (unhide Hb2).size)
  have hsz3 : w2.heap.size < w3.heap.size := by have : wr.heap.size ≤ w3.heap.size := hbx.size; omega
  have Hown2 := hide hown2
  have Hcells2 := hide hcells2
  have Hb3 := hide hb3
  clear hown hown2 hcells2 hb3 hbx c0 c1 c2 t1 t2 r1 r2 r3 n1 n2
  go_wp2
  go_roundw
  case rel => exact ⟨k + 1, q + 3, A2, c2', by omega, by have := unhide Hq; omega, by go_num, rfl, unhide Hown2, unhide Hb3, unhide Hcells2, hsz3⟩
  case measure => simp [intOf]; omega

/-- What X is told as. -/
theorem parse_lay : El.parse (layFrom 13) = (0, ⟨2, 4194424, 64, [⟨1, 5, 0, 4194304, 128, 128⟩]⟩) := by kernel_rfl

end Go.Proofs.Ytkonolmakpeocaa
