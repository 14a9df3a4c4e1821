/- The walk of hostelref25.Copy. -/
import Derived.Test.YtphbkjdheopmhaaCalls9
import Derived.Test.YtphbkjdheopmhaaCopyT
import Derived.Test.YtphbkjdheopmhaaCopyB
namespace Go.Proofs.Ytphbkjdheopmhaa
set_option linter.unusedVariables false
set_option linter.unusedSimpArgs false
open Go.RowKit

theorem own_other {w : World} {base : Nat} {e : TypeId} {size n : Nat} {v : Value} {xs : List Value} (h : w.ownsRow base e size v n xs) {p : Addr} (hp : p.block < base) (u : Value) : (w.setCell p u).ownsRow base e size v n xs :=
  ⟨h.1, h.2.imp id fun ⟨g, cap, cur, e1, e2, e3, r⟩ => ⟨g, cap, cur, e1, e2, (heap_setCell_other _ _ _ _ (by omega)).trans e3, r⟩⟩
theorem copy_start (w : World) (a b : Array Value) : Blk ((w.alloc (.cells a 26)).alloc (.cells b 26)) w.heap.size 26 a.toList ∧ Blk ((w.alloc (.cells a 26)).alloc (.cells b 26)) (w.heap.size + 1) 26 b.toList ∧ Below w.heap.size w ((w.alloc (.cells a 26)).alloc (.cells b 26)) := by
  have h1 := Blk.new w 26 a.toList
  have h2 := Blk.new (w.alloc (.cells a 26)) 26 b.toList
  rw [Array.toArray_toList] at h1 h2
  have e1 : (w.alloc (.cells a 26)).heap.size = w.heap.size + 1 := by simp
  rw [e1] at h2
  exact ⟨h1.alloc _, h2, ((Below.refl _ _).alloc (Nat.le_refl _) _).alloc (by simp) _⟩

set_option maxRecDepth 20000 in
set_option maxHeartbeats 4000000 in
theorem copy_any (q : Cl.C) (x y z : Sl) (B : Nat) (w : World) (hq : ClOk w B q x y z) (hB : B ≤ w.heap.size) (h1 : x.n ≤ 4294967296) (h2 : y.n ≤ 4294967296) (h3 : z.n ≤ 4294967296) :
    Calls Try.prog 12 #[.agg (clCells q x y z)] w fun e w' => ∃ x' y' z', e = .returned (.agg (clCells q x' y' z')) ∧ ClOk w' w'.heap.size q x' y' z' ∧ Below w.heap.size w w' := by
  obtain ⟨bi, br, hb⟩ := copy_start w (clCells q x y z) #[.int .u8 0, .int .u64 0, .int .u64 0, .int .u64 0, .int .u64 0, .int .u64 0, .string ⟨#[]⟩, .slice none 0 0, .slice none 0 0, .slice none 0 0]
  have hqW := (hq.below ((Below.refl B w).mono (Nat.le_refl _)))
  have i7 := bi.cell (i := 7) rfl
  have BI := hide bi
  have BR := hide br
  have HB := hide hb
  have Hq := hide (hq.below (hb.mono hB))
  clear bi br hb hqW
  go_enter Try.func12, Try.ntmps12
  go_wp2_with fail
  refine (copyTexts_any x.A x.n x.c B q.argv _ (Nat.le_trans hB (unhide HB).size) (unhide Hq).r1 h1).mono ?_
  rintro e w1 ⟨A1, c1, rfl, ho1, hb1⟩
  have bi1 := (unhide BI).belowSz hb1
  have br1 := (unhide BR).belowSz hb1
  have HB1 := hide ((unhide HB).trans (hb1.mono (unhide HB).size))
  have hs1 : w.heap.size + 1 < w1.heap.size := br1.lt
  have i8 := bi1.cell (i := 8) rfl
  have j7 := bi1.cell (i := 7) rfl
  have f7 := bi1.free 7
  have BI1 := hide (bi1.set 7 (.slice A1 x.n c1))
  have BR1 := hide (br1.other (p := ⟨w.heap.size, 7, none⟩) (by simp) (.slice A1 x.n c1))
  have HO1 := hide ho1
  have Hq1 := hide ((unhide Hq).below (hb1.mono (Nat.le_trans hB (unhide HB).size)))
  clear bi1 br1 ho1 hb1 i7 BI BR
  go_wp2_with fail
  clear i8 j7 f7
  have HB1s := hide ((unhide HB1).setCell (p := ⟨w.heap.size, 7, none⟩) (Nat.le_refl _) (.slice A1 x.n c1))
  have Hq1s := hide ((unhide Hq1).r2.setCell (p := ⟨w.heap.size, 7, none⟩) hB (.slice A1 x.n c1))
  have Hq1t := hide ((unhide Hq1).r3.setCell (p := ⟨w.heap.size, 7, none⟩) hB (.slice A1 x.n c1))
  have HO1s := hide (own_other (unhide HO1) (p := ⟨w.heap.size, 7, none⟩) (by simp; omega) (.slice A1 x.n c1))
  refine (copyTexts_any y.A y.n y.c B q.env _ (Nat.le_trans hB (unhide HB1s).size) (unhide Hq1s) h2).mono ?_
  rintro e w2 ⟨A2, c2, rfl, ho2, hb2⟩
  have bi2 := (unhide BI1).belowSz hb2
  have br2 := (unhide BR1).belowSz hb2
  have hs2 : w.heap.size + 1 < w2.heap.size := br2.lt
  have HB2 := hide ((unhide HB1s).trans (hb2.mono (unhide HB1s).size))
  have i9 := bi2.cell (i := 9) rfl
  have j8 := bi2.cell (i := 8) rfl
  have f8 := bi2.free 8
  have BI2 := hide (bi2.set 8 (.slice A2 y.n c2))
  have BR2 := hide (br2.other (p := ⟨w.heap.size, 8, none⟩) (by simp) (.slice A2 y.n c2))
  have HO1b := hide (own_below (unhide HO1s) hb2)
  have HO2 := hide ho2
  have Hq2 := hide ((unhide Hq1t).below (hb2.mono (Nat.le_trans hB (unhide HB1s).size)))
  clear bi2 br2 ho2 hb2 BI1 BR1
  go_wp2_with fail
  clear i9 j8 f8
  have HB2s := hide ((unhide HB2).setCell (p := ⟨w.heap.size, 8, none⟩) (Nat.le_refl _) (.slice A2 y.n c2))
  have Hq2s := hide ((unhide Hq2).setCell (p := ⟨w.heap.size, 8, none⟩) hB (.slice A2 y.n c2))
  have HO1c := hide (own_other (unhide HO1b) (p := ⟨w.heap.size, 8, none⟩) (by simp; omega) (.slice A2 y.n c2))
  have HO2c := hide (own_other (unhide HO2) (p := ⟨w.heap.size, 8, none⟩) (by simp; omega) (.slice A2 y.n c2))
  refine (copyBytes_any z.A z.n z.c B q.bytes _ (Nat.le_trans hB (unhide HB2s).size) (unhide Hq2s) h3).mono ?_
  rintro e w3 ⟨A3, c3, rfl, ho3, hb3⟩
  have bi3 := (unhide BI2).belowSz hb3
  have br3 := (unhide BR2).belowSz hb3
  have HB3 := hide ((unhide HB2s).trans (hb3.mono (unhide HB2s).size))
  have RF := hide (((((((((((br3.other (p := ⟨w.heap.size, 9, none⟩) (by simp) (.slice A3 z.n c3)).set 0 (.int .u8 q.kind)).set 1 (.int .u64 q.a)).set 2 (.int .u64 q.b)).set 3 (.int .u64 q.c)).set 4 (.int .u64 q.d)).set 5 (.int .u64 q.e)).set 6 (.string q.path)).set 7 (.slice A1 x.n c1)).set 8 (.slice A2 y.n c2)).set 9 (.slice A3 z.n c3))
  have BF := hide ((((((((((((unhide HB3).setCell (p := ⟨w.heap.size, 9, none⟩) (Nat.le_refl _) (.slice A3 z.n c3)).setCell (p := ⟨w.heap.size + 1, 0, none⟩) (by simp) (.int .u8 q.kind)).setCell (p := ⟨w.heap.size + 1, 1, none⟩) (by simp) (.int .u64 q.a)).setCell (p := ⟨w.heap.size + 1, 2, none⟩) (by simp) (.int .u64 q.b)).setCell (p := ⟨w.heap.size + 1, 3, none⟩) (by simp) (.int .u64 q.c)).setCell (p := ⟨w.heap.size + 1, 4, none⟩) (by simp) (.int .u64 q.d)).setCell (p := ⟨w.heap.size + 1, 5, none⟩) (by simp) (.int .u64 q.e)).setCell (p := ⟨w.heap.size + 1, 6, none⟩) (by simp) (.string q.path)).setCell (p := ⟨w.heap.size + 1, 7, none⟩) (by simp) (.slice A1 x.n c1)).setCell (p := ⟨w.heap.size + 1, 8, none⟩) (by simp) (.slice A2 y.n c2)).setCell (p := ⟨w.heap.size + 1, 9, none⟩) (by simp) (.slice A3 z.n c3))
  have O1 := hide (own_other (own_other (own_other (own_other (own_other (own_other (own_other (own_other (own_other (own_other (own_other (own_below (unhide HO1c) hb3) (p := ⟨w.heap.size, 9, none⟩) (by first | (simp; done) | (simp; omega)) (.slice A3 z.n c3)) (p := ⟨w.heap.size + 1, 0, none⟩) (by first | (simp; done) | (simp; omega)) (.int .u8 q.kind)) (p := ⟨w.heap.size + 1, 1, none⟩) (by first | (simp; done) | (simp; omega)) (.int .u64 q.a)) (p := ⟨w.heap.size + 1, 2, none⟩) (by first | (simp; done) | (simp; omega)) (.int .u64 q.b)) (p := ⟨w.heap.size + 1, 3, none⟩) (by first | (simp; done) | (simp; omega)) (.int .u64 q.c)) (p := ⟨w.heap.size + 1, 4, none⟩) (by first | (simp; done) | (simp; omega)) (.int .u64 q.d)) (p := ⟨w.heap.size + 1, 5, none⟩) (by first | (simp; done) | (simp; omega)) (.int .u64 q.e)) (p := ⟨w.heap.size + 1, 6, none⟩) (by first | (simp; done) | (simp; omega)) (.string q.path)) (p := ⟨w.heap.size + 1, 7, none⟩) (by first | (simp; done) | (simp; omega)) (.slice A1 x.n c1)) (p := ⟨w.heap.size + 1, 8, none⟩) (by first | (simp; done) | (simp; omega)) (.slice A2 y.n c2)) (p := ⟨w.heap.size + 1, 9, none⟩) (by first | (simp; done) | (simp; omega)) (.slice A3 z.n c3))
  have O2 := hide (own_other (own_other (own_other (own_other (own_other (own_other (own_other (own_other (own_other (own_other (own_other (own_below (unhide HO2c) hb3) (p := ⟨w.heap.size, 9, none⟩) (by first | (simp; done) | (simp; omega)) (.slice A3 z.n c3)) (p := ⟨w.heap.size + 1, 0, none⟩) (by first | (simp; done) | (simp; omega)) (.int .u8 q.kind)) (p := ⟨w.heap.size + 1, 1, none⟩) (by first | (simp; done) | (simp; omega)) (.int .u64 q.a)) (p := ⟨w.heap.size + 1, 2, none⟩) (by first | (simp; done) | (simp; omega)) (.int .u64 q.b)) (p := ⟨w.heap.size + 1, 3, none⟩) (by first | (simp; done) | (simp; omega)) (.int .u64 q.c)) (p := ⟨w.heap.size + 1, 4, none⟩) (by first | (simp; done) | (simp; omega)) (.int .u64 q.d)) (p := ⟨w.heap.size + 1, 5, none⟩) (by first | (simp; done) | (simp; omega)) (.int .u64 q.e)) (p := ⟨w.heap.size + 1, 6, none⟩) (by first | (simp; done) | (simp; omega)) (.string q.path)) (p := ⟨w.heap.size + 1, 7, none⟩) (by first | (simp; done) | (simp; omega)) (.slice A1 x.n c1)) (p := ⟨w.heap.size + 1, 8, none⟩) (by first | (simp; done) | (simp; omega)) (.slice A2 y.n c2)) (p := ⟨w.heap.size + 1, 9, none⟩) (by first | (simp; done) | (simp; omega)) (.slice A3 z.n c3))
  have O3 := hide (own_other (own_other (own_other (own_other (own_other (own_other (own_other (own_other (own_other (own_other (own_other ho3 (p := ⟨w.heap.size, 9, none⟩) (by first | (simp; done) | (simp; omega)) (.slice A3 z.n c3)) (p := ⟨w.heap.size + 1, 0, none⟩) (by first | (simp; done) | (simp; omega)) (.int .u8 q.kind)) (p := ⟨w.heap.size + 1, 1, none⟩) (by first | (simp; done) | (simp; omega)) (.int .u64 q.a)) (p := ⟨w.heap.size + 1, 2, none⟩) (by first | (simp; done) | (simp; omega)) (.int .u64 q.b)) (p := ⟨w.heap.size + 1, 3, none⟩) (by first | (simp; done) | (simp; omega)) (.int .u64 q.c)) (p := ⟨w.heap.size + 1, 4, none⟩) (by first | (simp; done) | (simp; omega)) (.int .u64 q.d)) (p := ⟨w.heap.size + 1, 5, none⟩) (by first | (simp; done) | (simp; omega)) (.int .u64 q.e)) (p := ⟨w.heap.size + 1, 6, none⟩) (by first | (simp; done) | (simp; omega)) (.string q.path)) (p := ⟨w.heap.size + 1, 7, none⟩) (by first | (simp; done) | (simp; omega)) (.slice A1 x.n c1)) (p := ⟨w.heap.size + 1, 8, none⟩) (by first | (simp; done) | (simp; omega)) (.slice A2 y.n c2)) (p := ⟨w.heap.size + 1, 9, none⟩) (by first | (simp; done) | (simp; omega)) (.slice A3 z.n c3))
  have b0 := bi3.cell (i := 0) rfl
  have r0 := br3.cell (i := 0) rfl
  have s0 := br3.free 0
  have b1 := bi3.cell (i := 1) rfl
  have r1 := br3.cell (i := 1) rfl
  have s1 := br3.free 1
  have b2 := bi3.cell (i := 2) rfl
  have r2 := br3.cell (i := 2) rfl
  have s2 := br3.free 2
  have b3 := bi3.cell (i := 3) rfl
  have r3 := br3.cell (i := 3) rfl
  have s3 := br3.free 3
  have b4 := bi3.cell (i := 4) rfl
  have r4 := br3.cell (i := 4) rfl
  have s4 := br3.free 4
  have b5 := bi3.cell (i := 5) rfl
  have r5 := br3.cell (i := 5) rfl
  have s5 := br3.free 5
  have b6 := bi3.cell (i := 6) rfl
  have r6 := br3.cell (i := 6) rfl
  have s6 := br3.free 6
  have b7 := bi3.cell (i := 7) rfl
  have r7 := br3.cell (i := 7) rfl
  have s7 := br3.free 7
  have b8 := bi3.cell (i := 8) rfl
  have r8 := br3.cell (i := 8) rfl
  have s8 := br3.free 8
  have b9 := bi3.cell (i := 9) rfl
  have r9 := br3.cell (i := 9) rfl
  have s9 := br3.free 9
  have f9 := bi3.free 9
  clear bi3 br3 ho3 hb3 BI2 BR2
  go_wp2_with fail
  refine bodyPost_ret (results_cell1 (P := Try.prog) rfl _ _ (w.heap.size + 1) 26 #[.int .u8 q.kind, .int .u64 q.a, .int .u64 q.b, .int .u64 q.c, .int .u64 q.d, .int .u64 q.e, .string q.path, .slice A1 x.n c1, .slice A2 y.n c2, .slice A3 z.n c3] (0, 0) _ rfl (unhide RF) Try.underlying26 rfl callInfo) rfl ?_
  exact ⟨⟨A1, x.n, c1⟩, ⟨A2, y.n, c2⟩, ⟨A3, z.n, c3⟩, rfl, ⟨Rd.of_own (unhide O1), Rd.of_own (unhide O2), Rd.of_own (unhide O3)⟩, unhide BF⟩
end Go.Proofs.Ytphbkjdheopmhaa
