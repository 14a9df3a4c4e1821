/- The walk of the anchor: X is parsed, and it is told of it what the document says. No conditions. -/
import Derived.Test.YtkonolmakpeocaaElf9
import Derived.Test.YtkonolmakpeocaaElf10
import Derived.Test.YtkonolmakpeocaaElf10b
namespace Go.Proofs.Ytkonolmakpeocaa
set_option linter.unusedVariables false
set_option linter.unusedSimpArgs false
open Go.RowKit

/-- What Parse answers where it gives up. -/
theorem parse_bad (A : Option Addr) (m c B : Nat) (b : List UInt8) (x : Int) (w : World) (hB : B ≤ w.heap.size) (hb : Rd w B 1 A m (u8s b)) (hm : m ≤ 4294967296) (hmc : m ≤ c) (h : El.parse b = (x, El.zeroHd)) :
    Calls Try.prog 8 #[.slice A m c] w fun e w' => ∃ A' c', e = .returned (.tuple #[.agg #[.int .u16 0, .int .u64 0, .int .u64 0, .slice A' 0 c'], .int .i64 x]) ∧ Below w.heap.size w w' := by
  refine (parse_any A m c b w (hb.more hB) hm hmc).mono ?_
  rintro e w' he
  unfold ParseEnd at he
  rw [h] at he
  obtain ⟨A', c', rfl, _, hbl⟩ := he
  exact ⟨A', c', rfl, hbl⟩
/-- What Parse answers where it goes through. -/
theorem parse_good (A : Option Addr) (m c B : Nat) (b : List UInt8) (ty en ph : Nat) (l : List El.Sg) (w : World) (hB : B ≤ w.heap.size) (hb : Rd w B 1 A m (u8s b)) (hm : m ≤ 4294967296) (hmc : m ≤ c) (h : El.parse b = (0, ⟨ty, en, ph, l⟩)) :
    Calls Try.prog 8 #[.slice A m c] w fun e w' => ∃ A' c', e = .returned (.tuple #[.agg #[.int .u16 ty, .int .u64 en, .int .u64 ph, .slice A' l.length c'], .int .i64 0]) ∧ Rd w' w'.heap.size 6 A' l.length (segCells l) ∧ Below w.heap.size w w' := by
  refine (parse_any A m c b w (hb.more hB) hm hmc).mono ?_
  rintro e w' he
  unfold ParseEnd at he
  rw [h] at he
  obtain ⟨A', c', rfl, hown, hbl⟩ := he
  exact ⟨A', c', rfl, Rd.of_own hown, hbl⟩

def xSg : El.Sg := ⟨1, 5, 0, 4194304, 128, 128⟩
def xHd : El.Hd := ⟨2, 4194424, 64, [xSg]⟩
theorem x_fit : ∀ x ∈ [xSg], SgFit x := by
  intro x hx
  simp at hx
  subst hx
  unfold SgFit xSg
  simp
theorem x_span : spanL (El.loads [xSg]) = (4194304, 4198400) := by kernel_rfl
theorem x_phdr : El.phdrOf xHd = 4194368 := by kernel_rfl
theorem x_loads : El.loads [xSg] = [xSg] := by kernel_rfl
theorem x_short : El.parse ((layFrom 13).take 63) = (13, El.zeroHd) := El.parse_short _ (by rw [List.length_take, layFrom_len]; omega)
theorem x_good : El.parse (layFrom 13) = (0, ⟨2, 4194424, 64, [xSg]⟩) := parse_lay

theorem Rd.cut {w : World} {B n k : Nat} {A : Option Addr} {xs : List Value} (h : Rd w B 1 A n xs) (hk : k ≤ n) : Rd w B 1 A k (xs.take k) := by
  have hl := h.len1
  refine ⟨by simp; omega, ?_⟩
  rcases h.2 with h0 | ⟨b, off, e, hb, hc⟩
  · exact .inl (by simp [h0])
  · refine .inr ⟨b, off, e, hb, fun j u hu => hc j u ?_⟩
    by_cases hj : j < k
    · rwa [List.getElem?_take_of_lt hj] at hu
    · rw [List.getElem?_take_eq_none (by omega)] at hu
      cases hu
theorem u8s_take (b : List UInt8) (k : Nat) : (u8s b).take k = u8s (b.take k) := by simp [u8s]

theorem x_span_c (A : Option Addr) (c B : Nat) (w : World) (hB : B ≤ w.heap.size) (hl : Rd w B 6 A 1 (segCells [xSg])) :
    Calls Try.prog 10 #[.agg #[.int .u16 2, .int .u64 4194424, .int .u64 64, .slice A 1 c]] w fun e w' => e = .returned (.tuple #[.int .u64 4194304, .int .u64 4198400]) ∧ Below w.heap.size w w' := by
  have h := span_any A 1 c B xHd w hB hl (by omega) x_fit
  rw [show spanL (El.loads xHd.segs) = (4194304, 4198400) from x_span] at h
  exact h
theorem x_phdr_c (A : Option Addr) (c B : Nat) (w : World) (hB : B ≤ w.heap.size) (hl : Rd w B 6 A 1 (segCells [xSg])) :
    Calls Try.prog 21 #[.agg #[.int .u16 2, .int .u64 4194424, .int .u64 64, .slice A 1 c]] w fun e w' => e = .returned (.int .u64 4194368) ∧ Below w.heap.size w w' := by
  have h := phdr_any A 1 c B xHd w hB hl (by omega) x_fit (by simp [xHd])
  rw [x_phdr] at h
  exact h
theorem x_loads_c (A : Option Addr) (c B : Nat) (w : World) (hB : B ≤ w.heap.size) (hl : Rd w B 6 A 1 (segCells [xSg])) :
    Calls Try.prog 9 #[.agg #[.int .u16 2, .int .u64 4194424, .int .u64 64, .slice A 1 c]] w fun e w' => ∃ A' c', e = .returned (.slice A' 1 c') ∧ Below w.heap.size w w' := by
  have h := loads_any A 1 c B [xSg] 2 4194424 64 w hB hl (by omega)
  rw [x_loads] at h
  exact h.mono fun e w' ⟨A', c', he, _, hb⟩ => ⟨A', c', he, hb⟩

set_option maxHeartbeats 4000000 in
set_option maxRecDepth 100000 in
theorem works_any (w : World) : Calls Try.prog 7 #[] w fun e w' => e = .returned (.bool true) ∧ Below w.heap.size w w' := by
  have P1 := hide plain_any
  have P2 := hide parse_good
  have P3 := hide parse_bad
  have P4 := hide x_span_c
  have P5 := hide x_phdr_c
  have P6 := hide x_loads_c
  go_enter Try.func7, Try.ntmps7
  go_wp2_with fail
  refine ((unhide P1) _).mono ?_
  rintro e w1 ⟨A1, c1, rfl, ho1, hb1⟩
  have hmc1 : 128 ≤ c1 := by
    obtain ⟨g, rfl, hg1, hg2⟩ := own_some ho1 (by omega)
    exact (own_at ho1).2.2
  have hr1 := Rd.of_own ho1
  have Hr1 := hide hr1
  have Hb1 := hide hb1
  clear ho1 hr1 hb1
  go_wp2_with fail
  refine ((unhide P2) _ _ _ _ _ _ _ _ _ _ (Nat.le_refl _) (unhide Hr1) (by omega) hmc1 x_good).mono ?_
  rintro e w2 ⟨A2, c2, rfl, hr2, hb2⟩
  have hb12 := (unhide Hb1).trans (hb2.mono (unhide Hb1).size)
  have Hr2 := hide hr2
  have Hb2 := hide hb12
  clear hr2 hb2 hb12 Hb1 Hr1 hmc1
  have hsz2 := (unhide Hb2).size
  go_wp2_with fail
  refine ((unhide P4) _ _ w2.heap.size _ (by simp) ((unhide Hr2).alloc (Nat.le_refl _) _)).mono ?_
  rintro e w3 ⟨rfl, hb3⟩
  have hx3 := newblk hb3
  have hr3 := ((unhide Hr2).below (below_new hb3))
  have hb03 := (unhide Hb2).trans ((below_new hb3).mono hsz2)
  have hsz3 := lt_of_block hx3
  have Hx3 := hide hx3
  have Hr3 := hide hr3
  have Hb3 := hide hb03
  clear hb3 hx3 hr3 hb03 Hr2 Hb2
  go_wp2_with fail
  refine ((unhide P1) _).mono ?_
  rintro e w4 ⟨A4, c4, rfl, ho4, hb4⟩
  have hmc4 : 128 ≤ c4 := by
    obtain ⟨g, rfl, hg1, hg2⟩ := own_some ho4 (by omega)
    exact (own_at ho4).2.2
  have hr4 := (Rd.of_own ho4).cut (k := 63) (by omega)
  rw [u8s_take] at hr4
  have hs34 := hb4.size
  have hx4 := (hb4.block _ hsz3).trans (unhide Hx3)
  have hr4' := (unhide Hr3).below (hb4.mono (by omega))
  have hb04 := (unhide Hb3).trans (hb4.mono (unhide Hb3).size)
  have Hx4 := hide hx4
  have Hr4 := hide hr4
  have Hr4' := hide hr4'
  have Hb4 := hide hb04
  clear ho4 hr4 hb4 hx4 hr4' hb04 Hx3 Hr3 Hb3
  go_wp2_with fail
  refine ((unhide P3) _ _ _ _ _ _ _ (Nat.le_refl _) (unhide Hr4) (by omega) (by omega) x_short).mono ?_
  rintro e w5 ⟨A5, c5, rfl, hb5⟩
  have hs45 := hb5.size
  have hx5 := (hb5.block _ (by omega)).trans (unhide Hx4)
  have hr5 := (unhide Hr4').below (hb5.mono (by omega))
  have hb05 := (unhide Hb4).trans (hb5.mono (unhide Hb4).size)
  obtain ⟨x0, x1, x2, x3⟩ := box_facts hx5
  have Hx5 := hide hx5
  have Hr5 := hide hr5
  have Hb5 := hide hb05
  clear hb5 hx5 hr5 hb05 Hx4 Hr4 Hr4' Hb4
  have hsz5 := (unhide Hb5).size
  have hs25 : w2.heap.size < w5.heap.size := by omega
  go_wp2_with fail
  refine ((unhide P5) _ _ w2.heap.size _ (by simp; omega) ((unhide Hr5).alloc (by omega) _)).mono ?_
  rintro e w6 ⟨rfl, hb6⟩
  have hb6' := below_new hb6
  have hs56 := hb6'.size
  have hx6 := (hb6'.block _ hs25).trans (unhide Hx5)
  have hr6 := (unhide Hr5).below (hb6'.mono (by omega))
  have hb06 := (unhide Hb5).trans (hb6'.mono hsz5)
  have hs06 := hb06.size
  clear x0 x1 x2 x3
  obtain ⟨x0, x1, x2, x3⟩ := box_facts hx6
  have Hx6 := hide hx6
  have Hr6 := hide hr6
  have Hb6 := hide hb06
  clear hb6 hb6' hx6 hr6 hb06
  go_wp2_with fail
  refine ((unhide P6) _ _ w2.heap.size _ (by omega) (unhide Hr6)).mono ?_
  rintro e w7 ⟨A7, c7, rfl, hb7⟩
  have Hb7 := hide ((unhide Hb6).trans (hb7.mono hs06))
  clear hb7
  go_wp2_with fail
  go_ret
  exact ⟨rfl, unhide Hb7⟩

end Go.Proofs.Ytkonolmakpeocaa
