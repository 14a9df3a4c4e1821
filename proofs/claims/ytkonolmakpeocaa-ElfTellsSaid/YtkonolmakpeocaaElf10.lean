/- The walks of looked, of Same over heads that are the same, of first and of Phdr. Conditions: the numbers fit their kinds; there are fewer than 2^32 headers. -/
import Derived.Test.YtkonolmakpeocaaElfLaw2
import Derived.Test.YtkonolmakpeocaaElf5
import Derived.Test.YtkonolmakpeocaaElf2z
namespace Go.Proofs.Ytkonolmakpeocaa
set_option linter.unusedVariables false
set_option linter.unusedSimpArgs false
open Go.RowKit

set_option maxHeartbeats 1000000 in
theorem looked_any (p ph n : Nat) (w : World) (h1 : p ≤ 4294967296) (h2 : ph ≤ 4294967296) (h3 : n ≤ 65536) :
    Calls Try.prog 12 #[.int .i64 p, .int .i64 ph, .int .i64 n] w fun e w' => e = .returned (.bool (El.lookedB p ph n)) ∧ w = w' := by
  obtain ⟨r, hr⟩ : ∃ r, El.lookedB p ph n = r := ⟨_, rfl⟩
  rw [hr]
  have Hr := hide hr
  clear hr
  by_cases h0 : p < 64
  · have hcase : p < 7 ∨ (7 ≤ p ∧ p < 16) ∨ (16 ≤ p ∧ p < 40) ∨ (40 ≤ p ∧ p < 54) ∨ (54 ≤ p ∧ p < 58) ∨ 58 ≤ p := by omega
    rcases hcase with h | h | h | h | h | h
    all_goals
      go_enter Try.func12, Try.ntmps12
      go_wp2
      go_ret
      refine ⟨ret_bool ?_, rfl⟩
      rw [← unhide Hr]
      unfold El.lookedB
      rw [if_pos h0]
      first | rfl | (rw [Bool.eq_iff_iff]; simp only [Bool.or_eq_true, Bool.and_eq_true, decide_eq_true_eq, Bool.false_eq_true, true_iff, false_iff, iff_true, iff_false, if_true, if_false, ↓reduceIte]; omega) | (simp; done) | (simp; omega)
  · by_cases h4 : p < ph
    · go_enter Try.func12, Try.ntmps12
      go_wp2
      go_ret
      refine ⟨ret_bool ?_, rfl⟩
      rw [← unhide Hr]
      unfold El.lookedB
      rw [if_neg h0]
      first | rfl | (rw [Bool.eq_iff_iff]; simp only [Bool.or_eq_true, Bool.and_eq_true, decide_eq_true_eq, Bool.false_eq_true, true_iff, false_iff, iff_true, iff_false, if_true, if_false, ↓reduceIte]; omega) | (simp; done) | (simp; omega)
    · by_cases h5 : ph + 56 * n ≤ p
      · go_enter Try.func12, Try.ntmps12
        go_wp2
        go_ret
        refine ⟨ret_bool ?_, rfl⟩
        rw [← unhide Hr]
        unfold El.lookedB
        rw [if_neg h0]
        first | rfl | (rw [Bool.eq_iff_iff]; simp only [Bool.or_eq_true, Bool.and_eq_true, decide_eq_true_eq, Bool.false_eq_true, true_iff, false_iff, iff_true, iff_false, if_true, if_false, ↓reduceIte]; omega) | (simp; done) | (simp; omega)
      · have hcase : (p - ph) % 56 < 24 ∨ (24 ≤ (p - ph) % 56 ∧ (p - ph) % 56 < 32) ∨ 32 ≤ (p - ph) % 56 := by omega
        rcases hcase with h | h | h
        all_goals
          go_enter Try.func12, Try.ntmps12
          go_wp2
          go_ret
          refine ⟨ret_bool ?_, rfl⟩
          rw [← unhide Hr]
          unfold El.lookedB
          rw [if_neg h0]
          have e1 : (decide (p < ph) || decide (ph + 56 * n ≤ p)) = false := by simp; omega
          rw [e1]
          first | rfl | (rw [Bool.eq_iff_iff]; simp only [Bool.or_eq_true, Bool.and_eq_true, decide_eq_true_eq, Bool.false_eq_true, true_iff, false_iff, iff_true, iff_false, if_true, if_false, ↓reduceIte]; omega) | (simp; done) | (simp; omega)

set_option maxHeartbeats 2000000 in
theorem same_yes (A A' : Option Addr) (n c c' B : Nat) (l : List El.Sg) (ty en ph : Nat) (w : World) (hB : B ≤ w.heap.size) (ha : Rd w B 6 A n (segCells l)) (hb : Rd w B 6 A' n (segCells l)) (hn : n ≤ 4294967296) :
    Calls Try.prog 13 #[.agg #[.int .u16 ty, .int .u64 en, .int .u64 ph, .slice A n c], .agg #[.int .u16 ty, .int .u64 en, .int .u64 ph, .slice A' n c']] w fun e w' => e = .returned (.bool true) ∧ Below w.heap.size w w' := by
  have hln : l.length = n := by have := ha.1; rw [segCells_len] at this; omega
  have Ha := hide ha
  have Hb := hide hb
  have Hln := hide hln
  clear ha hb hln
  go_enter Try.func13, Try.ntmps13
  go_wp2
  go_loopw [5] (fun i wr => ∃ k : Nat, k ≤ n ∧ i = .int .i64 k ∧ Below w.heap.size w wr ∧ wr.heap[w.heap.size]? = some (.cells #[.int .u16 ty, .int .u64 en, .int .u64 ph, .slice A n c] 28 (0, 0)) ∧ wr.heap[w.heap.size + 1]? = some (.cells #[.int .u16 ty, .int .u64 en, .int .u64 ph, .slice A' n c'] 28 (0, 0))) (fun i _ => n - (intOf i).toNat)
  case atStart => exact ⟨0, Nat.zero_le _, rfl, ((Below.refl _ _).alloc (Nat.le_refl _) _).alloc (by simp) _, (Below.heap_alloc _ _ _ (by simp)).trans (heap_alloc_new _ _), heap_alloc2_new _ _ _⟩
  case round =>
    obtain ⟨k, hk, rfl, hbl, hx, hy⟩ := hrel
    obtain ⟨x0, x1, x2, x3⟩ := box_facts hx
    obtain ⟨y0, y1, y2, y3⟩ := box_facts hy
    have Hbl := hide hbl
    have Hx := hide hx
    have Hy := hide hy
    clear hbl hx hy x0 x1 x2 y0 y1 y2
    by_cases hlt : k < n
    · obtain ⟨s, hs⟩ : ∃ s, l[k]? = some s := ⟨_, List.getElem?_eq_getElem (by rw [unhide Hln]; exact hlt)⟩
      obtain ⟨b1, o1, rfl, hbb, c0, c1, c2, c3, c4, c5⟩ := seg_at ((unhide Ha).below ((unhide Hbl).mono hB)) hs
      obtain ⟨b2, o2, rfl, hbb2, d0, d1, d2, d3, d4, d5⟩ := seg_at ((unhide Hb).below ((unhide Hbl).mono hB)) hs
      have i0 : (0 : Int) ≤ (k : Int) := by omega
      have i1 : (k : Int) < (n : Int) := by omega
      clear hs
      go_wp2
      go_quiet (fail)
      go_wp2
      go_roundw
      case rel => exact ⟨k + 1, by omega, by go_num, below_drewN' (unhide Hbl) _, unhide Hx, unhide Hy⟩
      case measure => simp [intOf]; omega
    · go_wp2
      go_ret
      exact ⟨rfl, unhide Hbl⟩

end Go.Proofs.Ytkonolmakpeocaa
