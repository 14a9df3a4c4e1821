/- The walk of hostelref25.Only; printed by gen_only.py. -/
import Derived.Test.YtphbkjdheopmhaaCalls6b
import Derived.Test.YtphbkjdheopmhaaBlk
namespace Go.Proofs.Ytphbkjdheopmhaa
set_option linter.unusedVariables false
set_option linter.unusedSimpArgs false
open Go.RowKit

theorem callInfo : (Try.prog.info? 26).map (·.size) = some 10 := by kernel_rfl
theorem results_cell1 {P : Program} {fn : Func} {p : Tmp} {ty : TypeId} (h : fn.results = #[.cell p ty]) (tmps : Array Value) (w : World) (g : Nat) (t : TypeId) (cs : Array Value) (fr : Nat × Nat) (d : TypeDesc)
    (hp : tmps.getD p undef = .pointer (some ⟨g, 0, none⟩)) (hg : w.heap[g]? = some (.cells cs t fr))
    (hu : P.underlying ty = some d) (hd : (match d with | .struct _ | .array _ _ => true | _ => false) = true) (hi : (P.info? ty).map (·.size) = some cs.size) :
    (results fn tmps).run P w = .ok (.agg cs) w := by
  have hp' : tmps[p]?.getD undef = .pointer (some ⟨g, 0, none⟩) := by simpa using hp
  simp [results, h, hp', asAddr, run_loadVar_row w g t ty cs fr d hg hu hd hi]
theorem rhas_at (kd : Nat) (c : UInt8) (b : Bool) (w : World) (hkd : kd < 256) (hb : hasB kd c = b) : Calls Try.prog 64 #[.int .u8 kd, .int .u8 (c.toNat : Nat)] w fun e w' => e = .returned (.bool b) ∧ Below w.heap.size w w' := by
  rw [← hb]
  exact rhas25_any kd c w hkd
theorem only_start (w : World) (a b c : Array Value) : Blk (((w.alloc (.cells a 26)).alloc (.cells b 26)).alloc (.cells c 26)) w.heap.size 26 a.toList ∧ Blk (((w.alloc (.cells a 26)).alloc (.cells b 26)).alloc (.cells c 26)) (w.heap.size + 1) 26 b.toList ∧ Blk (((w.alloc (.cells a 26)).alloc (.cells b 26)).alloc (.cells c 26)) (w.heap.size + 2) 26 c.toList ∧ Below w.heap.size w (((w.alloc (.cells a 26)).alloc (.cells b 26)).alloc (.cells c 26)) := by
  have h1 := Blk.new w 26 a.toList
  have h2 := Blk.new (w.alloc (.cells a 26)) 26 b.toList
  have h3 := Blk.new ((w.alloc (.cells a 26)).alloc (.cells b 26)) 26 c.toList
  rw [Array.toArray_toList] at h1 h2 h3
  have e1 : (w.alloc (.cells a 26)).heap.size = w.heap.size + 1 := by simp
  have e2 : ((w.alloc (.cells a 26)).alloc (.cells b 26)).heap.size = w.heap.size + 2 := by simp
  rw [e1] at h2
  rw [e2] at h3
  exact ⟨(h1.alloc _).alloc _, h2.alloc _, h3, (((Below.refl _ _).alloc (Nat.le_refl _) _).alloc (by simp) _).alloc (by simp; omega) _⟩

set_option maxRecDepth 20000 in
set_option maxHeartbeats 4000000 in
theorem only_0 (q : Cl.C) (x y z : Sl) (w : World) (hk : q.kind < 256) (h65 : hasB q.kind 65 = false) (h66 : hasB q.kind 66 = false) (h67 : hasB q.kind 67 = false) (h68 : hasB q.kind 68 = false) (h80 : hasB q.kind 80 = false) (h86 : hasB q.kind 86 = false) (h88 : hasB q.kind 88 = false) :
    Calls Try.prog 37 #[.agg (clCells q x y z)] w fun e w' => e = .returned (.agg #[.int .u8 q.kind, .int .u64 0, .int .u64 0, .int .u64 0, .int .u64 0, .int .u64 0, .string ⟨#[]⟩, .slice none 0 0, .slice none 0 0, .slice none 0 0]) ∧ Below w.heap.size w w' := by
  have K65 := hide (fun w => rhas_at q.kind 65 _ w hk h65)
  have K66 := hide (fun w => rhas_at q.kind 66 _ w hk h66)
  have K67 := hide (fun w => rhas_at q.kind 67 _ w hk h67)
  have K68 := hide (fun w => rhas_at q.kind 68 _ w hk h68)
  have K80 := hide (fun w => rhas_at q.kind 80 _ w hk h80)
  have K86 := hide (fun w => rhas_at q.kind 86 _ w hk h86)
  have K88 := hide (fun w => rhas_at q.kind 88 _ w hk h88)
  clear h65 h66 h67 h68 h80 h86 h88 hk
  obtain ⟨bi, br, bo, hb⟩ := only_start w #[.int .u8 q.kind, .int .u64 q.a, .int .u64 q.b, .int .u64 q.c, .int .u64 q.d, .int .u64 q.e, .string q.path, .slice x.A x.n x.c, .slice y.A y.n y.c, .slice z.A z.n z.c] #[.int .u8 0, .int .u64 0, .int .u64 0, .int .u64 0, .int .u64 0, .int .u64 0, .string ⟨#[]⟩, .slice none 0 0, .slice none 0 0, .slice none 0 0] #[.int .u8 q.kind, .int .u64 0, .int .u64 0, .int .u64 0, .int .u64 0, .int .u64 0, .string ⟨#[]⟩, .slice none 0 0, .slice none 0 0, .slice none 0 0]
  have BI := hide bi
  have BR := hide br
  have BO := hide bo
  have HB := hide hb
  clear bi br bo hb
  go_enter Try.func37, Try.ntmps37
  go_wp2_with fail
  refine ((unhide K65) _).mono ?_
  rintro e w1 ⟨rfl, hb⟩
  have bi := (unhide BI).belowSz hb
  have br := (unhide BR).belowSz hb
  have bo := (unhide BO).belowSz hb
  have hb2 := (unhide HB).trans (hb.mono (unhide HB).size)
  clear hb BI BR BO HB
  have i0 := bi.cell (i := 0) rfl
  have BI := hide bi
  have BR := hide br
  have BO := hide bo
  have HB := hide hb2
  clear bi br bo hb2
  go_wp2_with fail
  clear i0
  refine ((unhide K66) _).mono ?_
  rintro e w2 ⟨rfl, hb⟩
  have bi := (unhide BI).belowSz hb
  have br := (unhide BR).belowSz hb
  have bo := (unhide BO).belowSz hb
  have hb2 := (unhide HB).trans (hb.mono (unhide HB).size)
  clear hb BI BR BO HB
  have i0 := bi.cell (i := 0) rfl
  have BI := hide bi
  have BR := hide br
  have BO := hide bo
  have HB := hide hb2
  clear bi br bo hb2
  go_wp2_with fail
  clear i0
  refine ((unhide K67) _).mono ?_
  rintro e w3 ⟨rfl, hb⟩
  have bi := (unhide BI).belowSz hb
  have br := (unhide BR).belowSz hb
  have bo := (unhide BO).belowSz hb
  have hb2 := (unhide HB).trans (hb.mono (unhide HB).size)
  clear hb BI BR BO HB
  have i0 := bi.cell (i := 0) rfl
  have BI := hide bi
  have BR := hide br
  have BO := hide bo
  have HB := hide hb2
  clear bi br bo hb2
  go_wp2_with fail
  clear i0
  refine ((unhide K68) _).mono ?_
  rintro e w4 ⟨rfl, hb⟩
  have bi := (unhide BI).belowSz hb
  have br := (unhide BR).belowSz hb
  have bo := (unhide BO).belowSz hb
  have hb2 := (unhide HB).trans (hb.mono (unhide HB).size)
  clear hb BI BR BO HB
  have i0 := bi.cell (i := 0) rfl
  have BI := hide bi
  have BR := hide br
  have BO := hide bo
  have HB := hide hb2
  clear bi br bo hb2
  go_wp2_with fail
  clear i0
  refine ((unhide K80) _).mono ?_
  rintro e w5 ⟨rfl, hb⟩
  have bi := (unhide BI).belowSz hb
  have br := (unhide BR).belowSz hb
  have bo := (unhide BO).belowSz hb
  have hb2 := (unhide HB).trans (hb.mono (unhide HB).size)
  clear hb BI BR BO HB
  have i0 := bi.cell (i := 0) rfl
  have BI := hide bi
  have BR := hide br
  have BO := hide bo
  have HB := hide hb2
  clear bi br bo hb2
  go_wp2_with fail
  clear i0
  refine ((unhide K86) _).mono ?_
  rintro e w6 ⟨rfl, hb⟩
  have bi := (unhide BI).belowSz hb
  have br := (unhide BR).belowSz hb
  have bo := (unhide BO).belowSz hb
  have hb2 := (unhide HB).trans (hb.mono (unhide HB).size)
  clear hb BI BR BO HB
  have i0 := bi.cell (i := 0) rfl
  have BI := hide bi
  have BR := hide br
  have BO := hide bo
  have HB := hide hb2
  clear bi br bo hb2
  go_wp2_with fail
  clear i0
  refine ((unhide K88) _).mono ?_
  rintro e w7 ⟨rfl, hb⟩
  have bi := (unhide BI).belowSz hb
  have br := (unhide BR).belowSz hb
  have bo := (unhide BO).belowSz hb
  have hb2 := (unhide HB).trans (hb.mono (unhide HB).size)
  clear hb BI BR BO HB
  have i0 := bi.cell (i := 0) rfl
  have o0 := bo.cell (i := 0) rfl
  have r0 := br.cell (i := 0) rfl
  have s0 := br.free 0
  have o1 := bo.cell (i := 1) rfl
  have r1 := br.cell (i := 1) rfl
  have s1 := br.free 1
  have o2 := bo.cell (i := 2) rfl
  have r2 := br.cell (i := 2) rfl
  have s2 := br.free 2
  have o3 := bo.cell (i := 3) rfl
  have r3 := br.cell (i := 3) rfl
  have s3 := br.free 3
  have o4 := bo.cell (i := 4) rfl
  have r4 := br.cell (i := 4) rfl
  have s4 := br.free 4
  have o5 := bo.cell (i := 5) rfl
  have r5 := br.cell (i := 5) rfl
  have s5 := br.free 5
  have o6 := bo.cell (i := 6) rfl
  have r6 := br.cell (i := 6) rfl
  have s6 := br.free 6
  have o7 := bo.cell (i := 7) rfl
  have r7 := br.cell (i := 7) rfl
  have s7 := br.free 7
  have o8 := bo.cell (i := 8) rfl
  have r8 := br.cell (i := 8) rfl
  have s8 := br.free 8
  have o9 := bo.cell (i := 9) rfl
  have r9 := br.cell (i := 9) rfl
  have s9 := br.free 9
  have BI := hide bi
  have BR := hide br
  have BO := hide bo
  have HB := hide hb2
  clear bi br bo hb2
  have RF := hide (((((((((((unhide BR).set 0 (.int .u8 q.kind)).set 1 (.int .u64 0)).set 2 (.int .u64 0)).set 3 (.int .u64 0)).set 4 (.int .u64 0)).set 5 (.int .u64 0)).set 6 (.string ⟨#[]⟩)).set 7 (.slice none 0 0)).set 8 (.slice none 0 0)).set 9 (.slice none 0 0))
  have BF := hide (((((((((((unhide HB).setCell (p := ⟨w.heap.size + 1, 0, none⟩) (by simp) (.int .u8 q.kind)).setCell (p := ⟨w.heap.size + 1, 1, none⟩) (by simp) (.int .u64 0)).setCell (p := ⟨w.heap.size + 1, 2, none⟩) (by simp) (.int .u64 0)).setCell (p := ⟨w.heap.size + 1, 3, none⟩) (by simp) (.int .u64 0)).setCell (p := ⟨w.heap.size + 1, 4, none⟩) (by simp) (.int .u64 0)).setCell (p := ⟨w.heap.size + 1, 5, none⟩) (by simp) (.int .u64 0)).setCell (p := ⟨w.heap.size + 1, 6, none⟩) (by simp) (.string ⟨#[]⟩)).setCell (p := ⟨w.heap.size + 1, 7, none⟩) (by simp) (.slice none 0 0)).setCell (p := ⟨w.heap.size + 1, 8, none⟩) (by simp) (.slice none 0 0)).setCell (p := ⟨w.heap.size + 1, 9, none⟩) (by simp) (.slice none 0 0))
  go_wp2_with fail
  refine bodyPost_ret (results_cell1 (P := Try.prog) rfl _ _ (w.heap.size + 1) 26 #[.int .u8 q.kind, .int .u64 0, .int .u64 0, .int .u64 0, .int .u64 0, .int .u64 0, .string ⟨#[]⟩, .slice none 0 0, .slice none 0 0, .slice none 0 0] (0, 0) _ rfl (unhide RF) Try.underlying26 rfl callInfo) rfl ?_
  exact ⟨rfl, unhide BF⟩

set_option maxRecDepth 20000 in
set_option maxHeartbeats 4000000 in
theorem only_65 (q : Cl.C) (x y z : Sl) (w : World) (hk : q.kind < 256) (h65 : hasB q.kind 65 = true) (h66 : hasB q.kind 66 = false) (h67 : hasB q.kind 67 = false) (h68 : hasB q.kind 68 = false) (h80 : hasB q.kind 80 = false) (h86 : hasB q.kind 86 = false) (h88 : hasB q.kind 88 = false) :
    Calls Try.prog 37 #[.agg (clCells q x y z)] w fun e w' => e = .returned (.agg #[.int .u8 q.kind, .int .u64 q.a, .int .u64 0, .int .u64 0, .int .u64 0, .int .u64 0, .string ⟨#[]⟩, .slice none 0 0, .slice none 0 0, .slice none 0 0]) ∧ Below w.heap.size w w' := by
  have K65 := hide (fun w => rhas_at q.kind 65 _ w hk h65)
  have K66 := hide (fun w => rhas_at q.kind 66 _ w hk h66)
  have K67 := hide (fun w => rhas_at q.kind 67 _ w hk h67)
  have K68 := hide (fun w => rhas_at q.kind 68 _ w hk h68)
  have K80 := hide (fun w => rhas_at q.kind 80 _ w hk h80)
  have K86 := hide (fun w => rhas_at q.kind 86 _ w hk h86)
  have K88 := hide (fun w => rhas_at q.kind 88 _ w hk h88)
  clear h65 h66 h67 h68 h80 h86 h88 hk
  obtain ⟨bi, br, bo, hb⟩ := only_start w #[.int .u8 q.kind, .int .u64 q.a, .int .u64 q.b, .int .u64 q.c, .int .u64 q.d, .int .u64 q.e, .string q.path, .slice x.A x.n x.c, .slice y.A y.n y.c, .slice z.A z.n z.c] #[.int .u8 0, .int .u64 0, .int .u64 0, .int .u64 0, .int .u64 0, .int .u64 0, .string ⟨#[]⟩, .slice none 0 0, .slice none 0 0, .slice none 0 0] #[.int .u8 q.kind, .int .u64 0, .int .u64 0, .int .u64 0, .int .u64 0, .int .u64 0, .string ⟨#[]⟩, .slice none 0 0, .slice none 0 0, .slice none 0 0]
  have BI := hide bi
  have BR := hide br
  have BO := hide bo
  have HB := hide hb
  clear bi br bo hb
  go_enter Try.func37, Try.ntmps37
  go_wp2_with fail
  refine ((unhide K65) _).mono ?_
  rintro e w1 ⟨rfl, hb⟩
  have bi := (unhide BI).belowSz hb
  have br := (unhide BR).belowSz hb
  have bo := (unhide BO).belowSz hb
  have hb2 := (unhide HB).trans (hb.mono (unhide HB).size)
  clear hb BI BR BO HB
  have i0 := bi.cell (i := 0) rfl
  have i1 := bi.cell (i := 1) rfl
  have o1 := bo.cell (i := 1) rfl
  have f1 := bo.free 1
  have BI := hide bi
  have BR := hide br
  have BO := hide bo
  have HB := hide hb2
  clear bi br bo hb2
  go_wp2_with fail
  clear i0 i1 o1 f1
  have BI := hide ((unhide BI).other (p := ⟨w.heap.size + 2, 1, none⟩) (by simp) (.int .u64 q.a))
  have BR := hide ((unhide BR).other (p := ⟨w.heap.size + 2, 1, none⟩) (by simp) (.int .u64 q.a))
  have BO := hide ((unhide BO).set 1 (.int .u64 q.a))
  have HB := hide ((unhide HB).setCell (p := ⟨w.heap.size + 2, 1, none⟩) (by simp) (.int .u64 q.a))
  refine ((unhide K66) _).mono ?_
  rintro e w2 ⟨rfl, hb⟩
  have bi := (unhide BI).belowSz hb
  have br := (unhide BR).belowSz hb
  have bo := (unhide BO).belowSz hb
  have hb2 := (unhide HB).trans (hb.mono (unhide HB).size)
  clear hb BI BR BO HB
  have i0 := bi.cell (i := 0) rfl
  have BI := hide bi
  have BR := hide br
  have BO := hide bo
  have HB := hide hb2
  clear bi br bo hb2
  go_wp2_with fail
  clear i0
  refine ((unhide K67) _).mono ?_
  rintro e w3 ⟨rfl, hb⟩
  have bi := (unhide BI).belowSz hb
  have br := (unhide BR).belowSz hb
  have bo := (unhide BO).belowSz hb
  have hb2 := (unhide HB).trans (hb.mono (unhide HB).size)
  clear hb BI BR BO HB
  have i0 := bi.cell (i := 0) rfl
  have BI := hide bi
  have BR := hide br
  have BO := hide bo
  have HB := hide hb2
  clear bi br bo hb2
  go_wp2_with fail
  clear i0
  refine ((unhide K68) _).mono ?_
  rintro e w4 ⟨rfl, hb⟩
  have bi := (unhide BI).belowSz hb
  have br := (unhide BR).belowSz hb
  have bo := (unhide BO).belowSz hb
  have hb2 := (unhide HB).trans (hb.mono (unhide HB).size)
  clear hb BI BR BO HB
  have i0 := bi.cell (i := 0) rfl
  have BI := hide bi
  have BR := hide br
  have BO := hide bo
  have HB := hide hb2
  clear bi br bo hb2
  go_wp2_with fail
  clear i0
  refine ((unhide K80) _).mono ?_
  rintro e w5 ⟨rfl, hb⟩
  have bi := (unhide BI).belowSz hb
  have br := (unhide BR).belowSz hb
  have bo := (unhide BO).belowSz hb
  have hb2 := (unhide HB).trans (hb.mono (unhide HB).size)
  clear hb BI BR BO HB
  have i0 := bi.cell (i := 0) rfl
  have BI := hide bi
  have BR := hide br
  have BO := hide bo
  have HB := hide hb2
  clear bi br bo hb2
  go_wp2_with fail
  clear i0
  refine ((unhide K86) _).mono ?_
  rintro e w6 ⟨rfl, hb⟩
  have bi := (unhide BI).belowSz hb
  have br := (unhide BR).belowSz hb
  have bo := (unhide BO).belowSz hb
  have hb2 := (unhide HB).trans (hb.mono (unhide HB).size)
  clear hb BI BR BO HB
  have i0 := bi.cell (i := 0) rfl
  have BI := hide bi
  have BR := hide br
  have BO := hide bo
  have HB := hide hb2
  clear bi br bo hb2
  go_wp2_with fail
  clear i0
  refine ((unhide K88) _).mono ?_
  rintro e w7 ⟨rfl, hb⟩
  have bi := (unhide BI).belowSz hb
  have br := (unhide BR).belowSz hb
  have bo := (unhide BO).belowSz hb
  have hb2 := (unhide HB).trans (hb.mono (unhide HB).size)
  clear hb BI BR BO HB
  have i0 := bi.cell (i := 0) rfl
  have o0 := bo.cell (i := 0) rfl
  have r0 := br.cell (i := 0) rfl
  have s0 := br.free 0
  have o1 := bo.cell (i := 1) rfl
  have r1 := br.cell (i := 1) rfl
  have s1 := br.free 1
  have o2 := bo.cell (i := 2) rfl
  have r2 := br.cell (i := 2) rfl
  have s2 := br.free 2
  have o3 := bo.cell (i := 3) rfl
  have r3 := br.cell (i := 3) rfl
  have s3 := br.free 3
  have o4 := bo.cell (i := 4) rfl
  have r4 := br.cell (i := 4) rfl
  have s4 := br.free 4
  have o5 := bo.cell (i := 5) rfl
  have r5 := br.cell (i := 5) rfl
  have s5 := br.free 5
  have o6 := bo.cell (i := 6) rfl
  have r6 := br.cell (i := 6) rfl
  have s6 := br.free 6
  have o7 := bo.cell (i := 7) rfl
  have r7 := br.cell (i := 7) rfl
  have s7 := br.free 7
  have o8 := bo.cell (i := 8) rfl
  have r8 := br.cell (i := 8) rfl
  have s8 := br.free 8
  have o9 := bo.cell (i := 9) rfl
  have r9 := br.cell (i := 9) rfl
  have s9 := br.free 9
  have BI := hide bi
  have BR := hide br
  have BO := hide bo
  have HB := hide hb2
  clear bi br bo hb2
  have RF := hide (((((((((((unhide BR).set 0 (.int .u8 q.kind)).set 1 (.int .u64 q.a)).set 2 (.int .u64 0)).set 3 (.int .u64 0)).set 4 (.int .u64 0)).set 5 (.int .u64 0)).set 6 (.string ⟨#[]⟩)).set 7 (.slice none 0 0)).set 8 (.slice none 0 0)).set 9 (.slice none 0 0))
  have BF := hide (((((((((((unhide HB).setCell (p := ⟨w.heap.size + 1, 0, none⟩) (by simp) (.int .u8 q.kind)).setCell (p := ⟨w.heap.size + 1, 1, none⟩) (by simp) (.int .u64 q.a)).setCell (p := ⟨w.heap.size + 1, 2, none⟩) (by simp) (.int .u64 0)).setCell (p := ⟨w.heap.size + 1, 3, none⟩) (by simp) (.int .u64 0)).setCell (p := ⟨w.heap.size + 1, 4, none⟩) (by simp) (.int .u64 0)).setCell (p := ⟨w.heap.size + 1, 5, none⟩) (by simp) (.int .u64 0)).setCell (p := ⟨w.heap.size + 1, 6, none⟩) (by simp) (.string ⟨#[]⟩)).setCell (p := ⟨w.heap.size + 1, 7, none⟩) (by simp) (.slice none 0 0)).setCell (p := ⟨w.heap.size + 1, 8, none⟩) (by simp) (.slice none 0 0)).setCell (p := ⟨w.heap.size + 1, 9, none⟩) (by simp) (.slice none 0 0))
  go_wp2_with fail
  refine bodyPost_ret (results_cell1 (P := Try.prog) rfl _ _ (w.heap.size + 1) 26 #[.int .u8 q.kind, .int .u64 q.a, .int .u64 0, .int .u64 0, .int .u64 0, .int .u64 0, .string ⟨#[]⟩, .slice none 0 0, .slice none 0 0, .slice none 0 0] (0, 0) _ rfl (unhide RF) Try.underlying26 rfl callInfo) rfl ?_
  exact ⟨rfl, unhide BF⟩

set_option maxRecDepth 20000 in
set_option maxHeartbeats 4000000 in
theorem only_6566 (q : Cl.C) (x y z : Sl) (w : World) (hk : q.kind < 256) (h65 : hasB q.kind 65 = true) (h66 : hasB q.kind 66 = true) (h67 : hasB q.kind 67 = false) (h68 : hasB q.kind 68 = false) (h80 : hasB q.kind 80 = false) (h86 : hasB q.kind 86 = false) (h88 : hasB q.kind 88 = false) :
    Calls Try.prog 37 #[.agg (clCells q x y z)] w fun e w' => e = .returned (.agg #[.int .u8 q.kind, .int .u64 q.a, .int .u64 q.b, .int .u64 0, .int .u64 0, .int .u64 0, .string ⟨#[]⟩, .slice none 0 0, .slice none 0 0, .slice none 0 0]) ∧ Below w.heap.size w w' := by
  have K65 := hide (fun w => rhas_at q.kind 65 _ w hk h65)
  have K66 := hide (fun w => rhas_at q.kind 66 _ w hk h66)
  have K67 := hide (fun w => rhas_at q.kind 67 _ w hk h67)
  have K68 := hide (fun w => rhas_at q.kind 68 _ w hk h68)
  have K80 := hide (fun w => rhas_at q.kind 80 _ w hk h80)
  have K86 := hide (fun w => rhas_at q.kind 86 _ w hk h86)
  have K88 := hide (fun w => rhas_at q.kind 88 _ w hk h88)
  clear h65 h66 h67 h68 h80 h86 h88 hk
  obtain ⟨bi, br, bo, hb⟩ := only_start w #[.int .u8 q.kind, .int .u64 q.a, .int .u64 q.b, .int .u64 q.c, .int .u64 q.d, .int .u64 q.e, .string q.path, .slice x.A x.n x.c, .slice y.A y.n y.c, .slice z.A z.n z.c] #[.int .u8 0, .int .u64 0, .int .u64 0, .int .u64 0, .int .u64 0, .int .u64 0, .string ⟨#[]⟩, .slice none 0 0, .slice none 0 0, .slice none 0 0] #[.int .u8 q.kind, .int .u64 0, .int .u64 0, .int .u64 0, .int .u64 0, .int .u64 0, .string ⟨#[]⟩, .slice none 0 0, .slice none 0 0, .slice none 0 0]
  have BI := hide bi
  have BR := hide br
  have BO := hide bo
  have HB := hide hb
  clear bi br bo hb
  go_enter Try.func37, Try.ntmps37
  go_wp2_with fail
  refine ((unhide K65) _).mono ?_
  rintro e w1 ⟨rfl, hb⟩
  have bi := (unhide BI).belowSz hb
  have br := (unhide BR).belowSz hb
  have bo := (unhide BO).belowSz hb
  have hb2 := (unhide HB).trans (hb.mono (unhide HB).size)
  clear hb BI BR BO HB
  have i0 := bi.cell (i := 0) rfl
  have i1 := bi.cell (i := 1) rfl
  have o1 := bo.cell (i := 1) rfl
  have f1 := bo.free 1
  have BI := hide bi
  have BR := hide br
  have BO := hide bo
  have HB := hide hb2
  clear bi br bo hb2
  go_wp2_with fail
  clear i0 i1 o1 f1
  have BI := hide ((unhide BI).other (p := ⟨w.heap.size + 2, 1, none⟩) (by simp) (.int .u64 q.a))
  have BR := hide ((unhide BR).other (p := ⟨w.heap.size + 2, 1, none⟩) (by simp) (.int .u64 q.a))
  have BO := hide ((unhide BO).set 1 (.int .u64 q.a))
  have HB := hide ((unhide HB).setCell (p := ⟨w.heap.size + 2, 1, none⟩) (by simp) (.int .u64 q.a))
  refine ((unhide K66) _).mono ?_
  rintro e w2 ⟨rfl, hb⟩
  have bi := (unhide BI).belowSz hb
  have br := (unhide BR).belowSz hb
  have bo := (unhide BO).belowSz hb
  have hb2 := (unhide HB).trans (hb.mono (unhide HB).size)
  clear hb BI BR BO HB
  have i0 := bi.cell (i := 0) rfl
  have i2 := bi.cell (i := 2) rfl
  have o2 := bo.cell (i := 2) rfl
  have f2 := bo.free 2
  have BI := hide bi
  have BR := hide br
  have BO := hide bo
  have HB := hide hb2
  clear bi br bo hb2
  go_wp2_with fail
  clear i0 i2 o2 f2
  have BI := hide ((unhide BI).other (p := ⟨w.heap.size + 2, 2, none⟩) (by simp) (.int .u64 q.b))
  have BR := hide ((unhide BR).other (p := ⟨w.heap.size + 2, 2, none⟩) (by simp) (.int .u64 q.b))
  have BO := hide ((unhide BO).set 2 (.int .u64 q.b))
  have HB := hide ((unhide HB).setCell (p := ⟨w.heap.size + 2, 2, none⟩) (by simp) (.int .u64 q.b))
  refine ((unhide K67) _).mono ?_
  rintro e w3 ⟨rfl, hb⟩
  have bi := (unhide BI).belowSz hb
  have br := (unhide BR).belowSz hb
  have bo := (unhide BO).belowSz hb
  have hb2 := (unhide HB).trans (hb.mono (unhide HB).size)
  clear hb BI BR BO HB
  have i0 := bi.cell (i := 0) rfl
  have BI := hide bi
  have BR := hide br
  have BO := hide bo
  have HB := hide hb2
  clear bi br bo hb2
  go_wp2_with fail
  clear i0
  refine ((unhide K68) _).mono ?_
  rintro e w4 ⟨rfl, hb⟩
  have bi := (unhide BI).belowSz hb
  have br := (unhide BR).belowSz hb
  have bo := (unhide BO).belowSz hb
  have hb2 := (unhide HB).trans (hb.mono (unhide HB).size)
  clear hb BI BR BO HB
  have i0 := bi.cell (i := 0) rfl
  have BI := hide bi
  have BR := hide br
  have BO := hide bo
  have HB := hide hb2
  clear bi br bo hb2
  go_wp2_with fail
  clear i0
  refine ((unhide K80) _).mono ?_
  rintro e w5 ⟨rfl, hb⟩
  have bi := (unhide BI).belowSz hb
  have br := (unhide BR).belowSz hb
  have bo := (unhide BO).belowSz hb
  have hb2 := (unhide HB).trans (hb.mono (unhide HB).size)
  clear hb BI BR BO HB
  have i0 := bi.cell (i := 0) rfl
  have BI := hide bi
  have BR := hide br
  have BO := hide bo
  have HB := hide hb2
  clear bi br bo hb2
  go_wp2_with fail
  clear i0
  refine ((unhide K86) _).mono ?_
  rintro e w6 ⟨rfl, hb⟩
  have bi := (unhide BI).belowSz hb
  have br := (unhide BR).belowSz hb
  have bo := (unhide BO).belowSz hb
  have hb2 := (unhide HB).trans (hb.mono (unhide HB).size)
  clear hb BI BR BO HB
  have i0 := bi.cell (i := 0) rfl
  have BI := hide bi
  have BR := hide br
  have BO := hide bo
  have HB := hide hb2
  clear bi br bo hb2
  go_wp2_with fail
  clear i0
  refine ((unhide K88) _).mono ?_
  rintro e w7 ⟨rfl, hb⟩
  have bi := (unhide BI).belowSz hb
  have br := (unhide BR).belowSz hb
  have bo := (unhide BO).belowSz hb
  have hb2 := (unhide HB).trans (hb.mono (unhide HB).size)
  clear hb BI BR BO HB
  have i0 := bi.cell (i := 0) rfl
  have o0 := bo.cell (i := 0) rfl
  have r0 := br.cell (i := 0) rfl
  have s0 := br.free 0
  have o1 := bo.cell (i := 1) rfl
  have r1 := br.cell (i := 1) rfl
  have s1 := br.free 1
  have o2 := bo.cell (i := 2) rfl
  have r2 := br.cell (i := 2) rfl
  have s2 := br.free 2
  have o3 := bo.cell (i := 3) rfl
  have r3 := br.cell (i := 3) rfl
  have s3 := br.free 3
  have o4 := bo.cell (i := 4) rfl
  have r4 := br.cell (i := 4) rfl
  have s4 := br.free 4
  have o5 := bo.cell (i := 5) rfl
  have r5 := br.cell (i := 5) rfl
  have s5 := br.free 5
  have o6 := bo.cell (i := 6) rfl
  have r6 := br.cell (i := 6) rfl
  have s6 := br.free 6
  have o7 := bo.cell (i := 7) rfl
  have r7 := br.cell (i := 7) rfl
  have s7 := br.free 7
  have o8 := bo.cell (i := 8) rfl
  have r8 := br.cell (i := 8) rfl
  have s8 := br.free 8
  have o9 := bo.cell (i := 9) rfl
  have r9 := br.cell (i := 9) rfl
  have s9 := br.free 9
  have BI := hide bi
  have BR := hide br
  have BO := hide bo
  have HB := hide hb2
  clear bi br bo hb2
  have RF := hide (((((((((((unhide BR).set 0 (.int .u8 q.kind)).set 1 (.int .u64 q.a)).set 2 (.int .u64 q.b)).set 3 (.int .u64 0)).set 4 (.int .u64 0)).set 5 (.int .u64 0)).set 6 (.string ⟨#[]⟩)).set 7 (.slice none 0 0)).set 8 (.slice none 0 0)).set 9 (.slice none 0 0))
  have BF := hide (((((((((((unhide HB).setCell (p := ⟨w.heap.size + 1, 0, none⟩) (by simp) (.int .u8 q.kind)).setCell (p := ⟨w.heap.size + 1, 1, none⟩) (by simp) (.int .u64 q.a)).setCell (p := ⟨w.heap.size + 1, 2, none⟩) (by simp) (.int .u64 q.b)).setCell (p := ⟨w.heap.size + 1, 3, none⟩) (by simp) (.int .u64 0)).setCell (p := ⟨w.heap.size + 1, 4, none⟩) (by simp) (.int .u64 0)).setCell (p := ⟨w.heap.size + 1, 5, none⟩) (by simp) (.int .u64 0)).setCell (p := ⟨w.heap.size + 1, 6, none⟩) (by simp) (.string ⟨#[]⟩)).setCell (p := ⟨w.heap.size + 1, 7, none⟩) (by simp) (.slice none 0 0)).setCell (p := ⟨w.heap.size + 1, 8, none⟩) (by simp) (.slice none 0 0)).setCell (p := ⟨w.heap.size + 1, 9, none⟩) (by simp) (.slice none 0 0))
  go_wp2_with fail
  refine bodyPost_ret (results_cell1 (P := Try.prog) rfl _ _ (w.heap.size + 1) 26 #[.int .u8 q.kind, .int .u64 q.a, .int .u64 q.b, .int .u64 0, .int .u64 0, .int .u64 0, .string ⟨#[]⟩, .slice none 0 0, .slice none 0 0, .slice none 0 0] (0, 0) _ rfl (unhide RF) Try.underlying26 rfl callInfo) rfl ?_
  exact ⟨rfl, unhide BF⟩

set_option maxRecDepth 20000 in
set_option maxHeartbeats 4000000 in
theorem only_656667 (q : Cl.C) (x y z : Sl) (w : World) (hk : q.kind < 256) (h65 : hasB q.kind 65 = true) (h66 : hasB q.kind 66 = true) (h67 : hasB q.kind 67 = true) (h68 : hasB q.kind 68 = false) (h80 : hasB q.kind 80 = false) (h86 : hasB q.kind 86 = false) (h88 : hasB q.kind 88 = false) :
    Calls Try.prog 37 #[.agg (clCells q x y z)] w fun e w' => e = .returned (.agg #[.int .u8 q.kind, .int .u64 q.a, .int .u64 q.b, .int .u64 q.c, .int .u64 0, .int .u64 0, .string ⟨#[]⟩, .slice none 0 0, .slice none 0 0, .slice none 0 0]) ∧ Below w.heap.size w w' := by
  have K65 := hide (fun w => rhas_at q.kind 65 _ w hk h65)
  have K66 := hide (fun w => rhas_at q.kind 66 _ w hk h66)
  have K67 := hide (fun w => rhas_at q.kind 67 _ w hk h67)
  have K68 := hide (fun w => rhas_at q.kind 68 _ w hk h68)
  have K80 := hide (fun w => rhas_at q.kind 80 _ w hk h80)
  have K86 := hide (fun w => rhas_at q.kind 86 _ w hk h86)
  have K88 := hide (fun w => rhas_at q.kind 88 _ w hk h88)
  clear h65 h66 h67 h68 h80 h86 h88 hk
  obtain ⟨bi, br, bo, hb⟩ := only_start w #[.int .u8 q.kind, .int .u64 q.a, .int .u64 q.b, .int .u64 q.c, .int .u64 q.d, .int .u64 q.e, .string q.path, .slice x.A x.n x.c, .slice y.A y.n y.c, .slice z.A z.n z.c] #[.int .u8 0, .int .u64 0, .int .u64 0, .int .u64 0, .int .u64 0, .int .u64 0, .string ⟨#[]⟩, .slice none 0 0, .slice none 0 0, .slice none 0 0] #[.int .u8 q.kind, .int .u64 0, .int .u64 0, .int .u64 0, .int .u64 0, .int .u64 0, .string ⟨#[]⟩, .slice none 0 0, .slice none 0 0, .slice none 0 0]
  have BI := hide bi
  have BR := hide br
  have BO := hide bo
  have HB := hide hb
  clear bi br bo hb
  go_enter Try.func37, Try.ntmps37
  go_wp2_with fail
  refine ((unhide K65) _).mono ?_
  rintro e w1 ⟨rfl, hb⟩
  have bi := (unhide BI).belowSz hb
  have br := (unhide BR).belowSz hb
  have bo := (unhide BO).belowSz hb
  have hb2 := (unhide HB).trans (hb.mono (unhide HB).size)
  clear hb BI BR BO HB
  have i0 := bi.cell (i := 0) rfl
  have i1 := bi.cell (i := 1) rfl
  have o1 := bo.cell (i := 1) rfl
  have f1 := bo.free 1
  have BI := hide bi
  have BR := hide br
  have BO := hide bo
  have HB := hide hb2
  clear bi br bo hb2
  go_wp2_with fail
  clear i0 i1 o1 f1
  have BI := hide ((unhide BI).other (p := ⟨w.heap.size + 2, 1, none⟩) (by simp) (.int .u64 q.a))
  have BR := hide ((unhide BR).other (p := ⟨w.heap.size + 2, 1, none⟩) (by simp) (.int .u64 q.a))
  have BO := hide ((unhide BO).set 1 (.int .u64 q.a))
  have HB := hide ((unhide HB).setCell (p := ⟨w.heap.size + 2, 1, none⟩) (by simp) (.int .u64 q.a))
  refine ((unhide K66) _).mono ?_
  rintro e w2 ⟨rfl, hb⟩
  have bi := (unhide BI).belowSz hb
  have br := (unhide BR).belowSz hb
  have bo := (unhide BO).belowSz hb
  have hb2 := (unhide HB).trans (hb.mono (unhide HB).size)
  clear hb BI BR BO HB
  have i0 := bi.cell (i := 0) rfl
  have i2 := bi.cell (i := 2) rfl
  have o2 := bo.cell (i := 2) rfl
  have f2 := bo.free 2
  have BI := hide bi
  have BR := hide br
  have BO := hide bo
  have HB := hide hb2
  clear bi br bo hb2
  go_wp2_with fail
  clear i0 i2 o2 f2
  have BI := hide ((unhide BI).other (p := ⟨w.heap.size + 2, 2, none⟩) (by simp) (.int .u64 q.b))
  have BR := hide ((unhide BR).other (p := ⟨w.heap.size + 2, 2, none⟩) (by simp) (.int .u64 q.b))
  have BO := hide ((unhide BO).set 2 (.int .u64 q.b))
  have HB := hide ((unhide HB).setCell (p := ⟨w.heap.size + 2, 2, none⟩) (by simp) (.int .u64 q.b))
  refine ((unhide K67) _).mono ?_
  rintro e w3 ⟨rfl, hb⟩
  have bi := (unhide BI).belowSz hb
  have br := (unhide BR).belowSz hb
  have bo := (unhide BO).belowSz hb
  have hb2 := (unhide HB).trans (hb.mono (unhide HB).size)
  clear hb BI BR BO HB
  have i0 := bi.cell (i := 0) rfl
  have i3 := bi.cell (i := 3) rfl
  have o3 := bo.cell (i := 3) rfl
  have f3 := bo.free 3
  have BI := hide bi
  have BR := hide br
  have BO := hide bo
  have HB := hide hb2
  clear bi br bo hb2
  go_wp2_with fail
  clear i0 i3 o3 f3
  have BI := hide ((unhide BI).other (p := ⟨w.heap.size + 2, 3, none⟩) (by simp) (.int .u64 q.c))
  have BR := hide ((unhide BR).other (p := ⟨w.heap.size + 2, 3, none⟩) (by simp) (.int .u64 q.c))
  have BO := hide ((unhide BO).set 3 (.int .u64 q.c))
  have HB := hide ((unhide HB).setCell (p := ⟨w.heap.size + 2, 3, none⟩) (by simp) (.int .u64 q.c))
  refine ((unhide K68) _).mono ?_
  rintro e w4 ⟨rfl, hb⟩
  have bi := (unhide BI).belowSz hb
  have br := (unhide BR).belowSz hb
  have bo := (unhide BO).belowSz hb
  have hb2 := (unhide HB).trans (hb.mono (unhide HB).size)
  clear hb BI BR BO HB
  have i0 := bi.cell (i := 0) rfl
  have BI := hide bi
  have BR := hide br
  have BO := hide bo
  have HB := hide hb2
  clear bi br bo hb2
  go_wp2_with fail
  clear i0
  refine ((unhide K80) _).mono ?_
  rintro e w5 ⟨rfl, hb⟩
  have bi := (unhide BI).belowSz hb
  have br := (unhide BR).belowSz hb
  have bo := (unhide BO).belowSz hb
  have hb2 := (unhide HB).trans (hb.mono (unhide HB).size)
  clear hb BI BR BO HB
  have i0 := bi.cell (i := 0) rfl
  have BI := hide bi
  have BR := hide br
  have BO := hide bo
  have HB := hide hb2
  clear bi br bo hb2
  go_wp2_with fail
  clear i0
  refine ((unhide K86) _).mono ?_
  rintro e w6 ⟨rfl, hb⟩
  have bi := (unhide BI).belowSz hb
  have br := (unhide BR).belowSz hb
  have bo := (unhide BO).belowSz hb
  have hb2 := (unhide HB).trans (hb.mono (unhide HB).size)
  clear hb BI BR BO HB
  have i0 := bi.cell (i := 0) rfl
  have BI := hide bi
  have BR := hide br
  have BO := hide bo
  have HB := hide hb2
  clear bi br bo hb2
  go_wp2_with fail
  clear i0
  refine ((unhide K88) _).mono ?_
  rintro e w7 ⟨rfl, hb⟩
  have bi := (unhide BI).belowSz hb
  have br := (unhide BR).belowSz hb
  have bo := (unhide BO).belowSz hb
  have hb2 := (unhide HB).trans (hb.mono (unhide HB).size)
  clear hb BI BR BO HB
  have i0 := bi.cell (i := 0) rfl
  have o0 := bo.cell (i := 0) rfl
  have r0 := br.cell (i := 0) rfl
  have s0 := br.free 0
  have o1 := bo.cell (i := 1) rfl
  have r1 := br.cell (i := 1) rfl
  have s1 := br.free 1
  have o2 := bo.cell (i := 2) rfl
  have r2 := br.cell (i := 2) rfl
  have s2 := br.free 2
  have o3 := bo.cell (i := 3) rfl
  have r3 := br.cell (i := 3) rfl
  have s3 := br.free 3
  have o4 := bo.cell (i := 4) rfl
  have r4 := br.cell (i := 4) rfl
  have s4 := br.free 4
  have o5 := bo.cell (i := 5) rfl
  have r5 := br.cell (i := 5) rfl
  have s5 := br.free 5
  have o6 := bo.cell (i := 6) rfl
  have r6 := br.cell (i := 6) rfl
  have s6 := br.free 6
  have o7 := bo.cell (i := 7) rfl
  have r7 := br.cell (i := 7) rfl
  have s7 := br.free 7
  have o8 := bo.cell (i := 8) rfl
  have r8 := br.cell (i := 8) rfl
  have s8 := br.free 8
  have o9 := bo.cell (i := 9) rfl
  have r9 := br.cell (i := 9) rfl
  have s9 := br.free 9
  have BI := hide bi
  have BR := hide br
  have BO := hide bo
  have HB := hide hb2
  clear bi br bo hb2
  have RF := hide (((((((((((unhide BR).set 0 (.int .u8 q.kind)).set 1 (.int .u64 q.a)).set 2 (.int .u64 q.b)).set 3 (.int .u64 q.c)).set 4 (.int .u64 0)).set 5 (.int .u64 0)).set 6 (.string ⟨#[]⟩)).set 7 (.slice none 0 0)).set 8 (.slice none 0 0)).set 9 (.slice none 0 0))
  have BF := hide (((((((((((unhide HB).setCell (p := ⟨w.heap.size + 1, 0, none⟩) (by simp) (.int .u8 q.kind)).setCell (p := ⟨w.heap.size + 1, 1, none⟩) (by simp) (.int .u64 q.a)).setCell (p := ⟨w.heap.size + 1, 2, none⟩) (by simp) (.int .u64 q.b)).setCell (p := ⟨w.heap.size + 1, 3, none⟩) (by simp) (.int .u64 q.c)).setCell (p := ⟨w.heap.size + 1, 4, none⟩) (by simp) (.int .u64 0)).setCell (p := ⟨w.heap.size + 1, 5, none⟩) (by simp) (.int .u64 0)).setCell (p := ⟨w.heap.size + 1, 6, none⟩) (by simp) (.string ⟨#[]⟩)).setCell (p := ⟨w.heap.size + 1, 7, none⟩) (by simp) (.slice none 0 0)).setCell (p := ⟨w.heap.size + 1, 8, none⟩) (by simp) (.slice none 0 0)).setCell (p := ⟨w.heap.size + 1, 9, none⟩) (by simp) (.slice none 0 0))
  go_wp2_with fail
  refine bodyPost_ret (results_cell1 (P := Try.prog) rfl _ _ (w.heap.size + 1) 26 #[.int .u8 q.kind, .int .u64 q.a, .int .u64 q.b, .int .u64 q.c, .int .u64 0, .int .u64 0, .string ⟨#[]⟩, .slice none 0 0, .slice none 0 0, .slice none 0 0] (0, 0) _ rfl (unhide RF) Try.underlying26 rfl callInfo) rfl ?_
  exact ⟨rfl, unhide BF⟩

set_option maxRecDepth 20000 in
set_option maxHeartbeats 4000000 in
theorem only_65666768 (q : Cl.C) (x y z : Sl) (w : World) (hk : q.kind < 256) (h65 : hasB q.kind 65 = true) (h66 : hasB q.kind 66 = true) (h67 : hasB q.kind 67 = true) (h68 : hasB q.kind 68 = true) (h80 : hasB q.kind 80 = false) (h86 : hasB q.kind 86 = false) (h88 : hasB q.kind 88 = false) :
    Calls Try.prog 37 #[.agg (clCells q x y z)] w fun e w' => e = .returned (.agg #[.int .u8 q.kind, .int .u64 q.a, .int .u64 q.b, .int .u64 q.c, .int .u64 q.d, .int .u64 q.e, .string ⟨#[]⟩, .slice none 0 0, .slice none 0 0, .slice none 0 0]) ∧ Below w.heap.size w w' := by
  have K65 := hide (fun w => rhas_at q.kind 65 _ w hk h65)
  have K66 := hide (fun w => rhas_at q.kind 66 _ w hk h66)
  have K67 := hide (fun w => rhas_at q.kind 67 _ w hk h67)
  have K68 := hide (fun w => rhas_at q.kind 68 _ w hk h68)
  have K80 := hide (fun w => rhas_at q.kind 80 _ w hk h80)
  have K86 := hide (fun w => rhas_at q.kind 86 _ w hk h86)
  have K88 := hide (fun w => rhas_at q.kind 88 _ w hk h88)
  clear h65 h66 h67 h68 h80 h86 h88 hk
  obtain ⟨bi, br, bo, hb⟩ := only_start w #[.int .u8 q.kind, .int .u64 q.a, .int .u64 q.b, .int .u64 q.c, .int .u64 q.d, .int .u64 q.e, .string q.path, .slice x.A x.n x.c, .slice y.A y.n y.c, .slice z.A z.n z.c] #[.int .u8 0, .int .u64 0, .int .u64 0, .int .u64 0, .int .u64 0, .int .u64 0, .string ⟨#[]⟩, .slice none 0 0, .slice none 0 0, .slice none 0 0] #[.int .u8 q.kind, .int .u64 0, .int .u64 0, .int .u64 0, .int .u64 0, .int .u64 0, .string ⟨#[]⟩, .slice none 0 0, .slice none 0 0, .slice none 0 0]
  have BI := hide bi
  have BR := hide br
  have BO := hide bo
  have HB := hide hb
  clear bi br bo hb
  go_enter Try.func37, Try.ntmps37
  go_wp2_with fail
  refine ((unhide K65) _).mono ?_
  rintro e w1 ⟨rfl, hb⟩
  have bi := (unhide BI).belowSz hb
  have br := (unhide BR).belowSz hb
  have bo := (unhide BO).belowSz hb
  have hb2 := (unhide HB).trans (hb.mono (unhide HB).size)
  clear hb BI BR BO HB
  have i0 := bi.cell (i := 0) rfl
  have i1 := bi.cell (i := 1) rfl
  have o1 := bo.cell (i := 1) rfl
  have f1 := bo.free 1
  have BI := hide bi
  have BR := hide br
  have BO := hide bo
  have HB := hide hb2
  clear bi br bo hb2
  go_wp2_with fail
  clear i0 i1 o1 f1
  have BI := hide ((unhide BI).other (p := ⟨w.heap.size + 2, 1, none⟩) (by simp) (.int .u64 q.a))
  have BR := hide ((unhide BR).other (p := ⟨w.heap.size + 2, 1, none⟩) (by simp) (.int .u64 q.a))
  have BO := hide ((unhide BO).set 1 (.int .u64 q.a))
  have HB := hide ((unhide HB).setCell (p := ⟨w.heap.size + 2, 1, none⟩) (by simp) (.int .u64 q.a))
  refine ((unhide K66) _).mono ?_
  rintro e w2 ⟨rfl, hb⟩
  have bi := (unhide BI).belowSz hb
  have br := (unhide BR).belowSz hb
  have bo := (unhide BO).belowSz hb
  have hb2 := (unhide HB).trans (hb.mono (unhide HB).size)
  clear hb BI BR BO HB
  have i0 := bi.cell (i := 0) rfl
  have i2 := bi.cell (i := 2) rfl
  have o2 := bo.cell (i := 2) rfl
  have f2 := bo.free 2
  have BI := hide bi
  have BR := hide br
  have BO := hide bo
  have HB := hide hb2
  clear bi br bo hb2
  go_wp2_with fail
  clear i0 i2 o2 f2
  have BI := hide ((unhide BI).other (p := ⟨w.heap.size + 2, 2, none⟩) (by simp) (.int .u64 q.b))
  have BR := hide ((unhide BR).other (p := ⟨w.heap.size + 2, 2, none⟩) (by simp) (.int .u64 q.b))
  have BO := hide ((unhide BO).set 2 (.int .u64 q.b))
  have HB := hide ((unhide HB).setCell (p := ⟨w.heap.size + 2, 2, none⟩) (by simp) (.int .u64 q.b))
  refine ((unhide K67) _).mono ?_
  rintro e w3 ⟨rfl, hb⟩
  have bi := (unhide BI).belowSz hb
  have br := (unhide BR).belowSz hb
  have bo := (unhide BO).belowSz hb
  have hb2 := (unhide HB).trans (hb.mono (unhide HB).size)
  clear hb BI BR BO HB
  have i0 := bi.cell (i := 0) rfl
  have i3 := bi.cell (i := 3) rfl
  have o3 := bo.cell (i := 3) rfl
  have f3 := bo.free 3
  have BI := hide bi
  have BR := hide br
  have BO := hide bo
  have HB := hide hb2
  clear bi br bo hb2
  go_wp2_with fail
  clear i0 i3 o3 f3
  have BI := hide ((unhide BI).other (p := ⟨w.heap.size + 2, 3, none⟩) (by simp) (.int .u64 q.c))
  have BR := hide ((unhide BR).other (p := ⟨w.heap.size + 2, 3, none⟩) (by simp) (.int .u64 q.c))
  have BO := hide ((unhide BO).set 3 (.int .u64 q.c))
  have HB := hide ((unhide HB).setCell (p := ⟨w.heap.size + 2, 3, none⟩) (by simp) (.int .u64 q.c))
  refine ((unhide K68) _).mono ?_
  rintro e w4 ⟨rfl, hb⟩
  have bi := (unhide BI).belowSz hb
  have br := (unhide BR).belowSz hb
  have bo := (unhide BO).belowSz hb
  have hb2 := (unhide HB).trans (hb.mono (unhide HB).size)
  clear hb BI BR BO HB
  have i0 := bi.cell (i := 0) rfl
  have i4 := bi.cell (i := 4) rfl
  have o4 := bo.cell (i := 4) rfl
  have f4 := bo.free 4
  have i5 := bi.cell (i := 5) rfl
  have o5 := bo.cell (i := 5) rfl
  have f5 := bo.free 5
  have BI := hide bi
  have BR := hide br
  have BO := hide bo
  have HB := hide hb2
  clear bi br bo hb2
  go_wp2_with fail
  clear i0 i4 o4 f4 i5 o5 f5
  have BI := hide ((unhide BI).other (p := ⟨w.heap.size + 2, 4, none⟩) (by simp) (.int .u64 q.d))
  have BR := hide ((unhide BR).other (p := ⟨w.heap.size + 2, 4, none⟩) (by simp) (.int .u64 q.d))
  have BO := hide ((unhide BO).set 4 (.int .u64 q.d))
  have HB := hide ((unhide HB).setCell (p := ⟨w.heap.size + 2, 4, none⟩) (by simp) (.int .u64 q.d))
  have BI := hide ((unhide BI).other (p := ⟨w.heap.size + 2, 5, none⟩) (by simp) (.int .u64 q.e))
  have BR := hide ((unhide BR).other (p := ⟨w.heap.size + 2, 5, none⟩) (by simp) (.int .u64 q.e))
  have BO := hide ((unhide BO).set 5 (.int .u64 q.e))
  have HB := hide ((unhide HB).setCell (p := ⟨w.heap.size + 2, 5, none⟩) (by simp) (.int .u64 q.e))
  refine ((unhide K80) _).mono ?_
  rintro e w5 ⟨rfl, hb⟩
  have bi := (unhide BI).belowSz hb
  have br := (unhide BR).belowSz hb
  have bo := (unhide BO).belowSz hb
  have hb2 := (unhide HB).trans (hb.mono (unhide HB).size)
  clear hb BI BR BO HB
  have i0 := bi.cell (i := 0) rfl
  have BI := hide bi
  have BR := hide br
  have BO := hide bo
  have HB := hide hb2
  clear bi br bo hb2
  go_wp2_with fail
  clear i0
  refine ((unhide K86) _).mono ?_
  rintro e w6 ⟨rfl, hb⟩
  have bi := (unhide BI).belowSz hb
  have br := (unhide BR).belowSz hb
  have bo := (unhide BO).belowSz hb
  have hb2 := (unhide HB).trans (hb.mono (unhide HB).size)
  clear hb BI BR BO HB
  have i0 := bi.cell (i := 0) rfl
  have BI := hide bi
  have BR := hide br
  have BO := hide bo
  have HB := hide hb2
  clear bi br bo hb2
  go_wp2_with fail
  clear i0
  refine ((unhide K88) _).mono ?_
  rintro e w7 ⟨rfl, hb⟩
  have bi := (unhide BI).belowSz hb
  have br := (unhide BR).belowSz hb
  have bo := (unhide BO).belowSz hb
  have hb2 := (unhide HB).trans (hb.mono (unhide HB).size)
  clear hb BI BR BO HB
  have i0 := bi.cell (i := 0) rfl
  have o0 := bo.cell (i := 0) rfl
  have r0 := br.cell (i := 0) rfl
  have s0 := br.free 0
  have o1 := bo.cell (i := 1) rfl
  have r1 := br.cell (i := 1) rfl
  have s1 := br.free 1
  have o2 := bo.cell (i := 2) rfl
  have r2 := br.cell (i := 2) rfl
  have s2 := br.free 2
  have o3 := bo.cell (i := 3) rfl
  have r3 := br.cell (i := 3) rfl
  have s3 := br.free 3
  have o4 := bo.cell (i := 4) rfl
  have r4 := br.cell (i := 4) rfl
  have s4 := br.free 4
  have o5 := bo.cell (i := 5) rfl
  have r5 := br.cell (i := 5) rfl
  have s5 := br.free 5
  have o6 := bo.cell (i := 6) rfl
  have r6 := br.cell (i := 6) rfl
  have s6 := br.free 6
  have o7 := bo.cell (i := 7) rfl
  have r7 := br.cell (i := 7) rfl
  have s7 := br.free 7
  have o8 := bo.cell (i := 8) rfl
  have r8 := br.cell (i := 8) rfl
  have s8 := br.free 8
  have o9 := bo.cell (i := 9) rfl
  have r9 := br.cell (i := 9) rfl
  have s9 := br.free 9
  have BI := hide bi
  have BR := hide br
  have BO := hide bo
  have HB := hide hb2
  clear bi br bo hb2
  have RF := hide (((((((((((unhide BR).set 0 (.int .u8 q.kind)).set 1 (.int .u64 q.a)).set 2 (.int .u64 q.b)).set 3 (.int .u64 q.c)).set 4 (.int .u64 q.d)).set 5 (.int .u64 q.e)).set 6 (.string ⟨#[]⟩)).set 7 (.slice none 0 0)).set 8 (.slice none 0 0)).set 9 (.slice none 0 0))
  have BF := hide (((((((((((unhide HB).setCell (p := ⟨w.heap.size + 1, 0, none⟩) (by simp) (.int .u8 q.kind)).setCell (p := ⟨w.heap.size + 1, 1, none⟩) (by simp) (.int .u64 q.a)).setCell (p := ⟨w.heap.size + 1, 2, none⟩) (by simp) (.int .u64 q.b)).setCell (p := ⟨w.heap.size + 1, 3, none⟩) (by simp) (.int .u64 q.c)).setCell (p := ⟨w.heap.size + 1, 4, none⟩) (by simp) (.int .u64 q.d)).setCell (p := ⟨w.heap.size + 1, 5, none⟩) (by simp) (.int .u64 q.e)).setCell (p := ⟨w.heap.size + 1, 6, none⟩) (by simp) (.string ⟨#[]⟩)).setCell (p := ⟨w.heap.size + 1, 7, none⟩) (by simp) (.slice none 0 0)).setCell (p := ⟨w.heap.size + 1, 8, none⟩) (by simp) (.slice none 0 0)).setCell (p := ⟨w.heap.size + 1, 9, none⟩) (by simp) (.slice none 0 0))
  go_wp2_with fail
  refine bodyPost_ret (results_cell1 (P := Try.prog) rfl _ _ (w.heap.size + 1) 26 #[.int .u8 q.kind, .int .u64 q.a, .int .u64 q.b, .int .u64 q.c, .int .u64 q.d, .int .u64 q.e, .string ⟨#[]⟩, .slice none 0 0, .slice none 0 0, .slice none 0 0] (0, 0) _ rfl (unhide RF) Try.underlying26 rfl callInfo) rfl ?_
  exact ⟨rfl, unhide BF⟩

set_option maxRecDepth 20000 in
set_option maxHeartbeats 4000000 in
theorem only_6588 (q : Cl.C) (x y z : Sl) (w : World) (hk : q.kind < 256) (h65 : hasB q.kind 65 = true) (h66 : hasB q.kind 66 = false) (h67 : hasB q.kind 67 = false) (h68 : hasB q.kind 68 = false) (h80 : hasB q.kind 80 = false) (h86 : hasB q.kind 86 = false) (h88 : hasB q.kind 88 = true) :
    Calls Try.prog 37 #[.agg (clCells q x y z)] w fun e w' => e = .returned (.agg #[.int .u8 q.kind, .int .u64 q.a, .int .u64 0, .int .u64 0, .int .u64 0, .int .u64 0, .string ⟨#[]⟩, .slice none 0 0, .slice none 0 0, .slice z.A z.n z.c]) ∧ Below w.heap.size w w' := by
  have K65 := hide (fun w => rhas_at q.kind 65 _ w hk h65)
  have K66 := hide (fun w => rhas_at q.kind 66 _ w hk h66)
  have K67 := hide (fun w => rhas_at q.kind 67 _ w hk h67)
  have K68 := hide (fun w => rhas_at q.kind 68 _ w hk h68)
  have K80 := hide (fun w => rhas_at q.kind 80 _ w hk h80)
  have K86 := hide (fun w => rhas_at q.kind 86 _ w hk h86)
  have K88 := hide (fun w => rhas_at q.kind 88 _ w hk h88)
  clear h65 h66 h67 h68 h80 h86 h88 hk
  obtain ⟨bi, br, bo, hb⟩ := only_start w #[.int .u8 q.kind, .int .u64 q.a, .int .u64 q.b, .int .u64 q.c, .int .u64 q.d, .int .u64 q.e, .string q.path, .slice x.A x.n x.c, .slice y.A y.n y.c, .slice z.A z.n z.c] #[.int .u8 0, .int .u64 0, .int .u64 0, .int .u64 0, .int .u64 0, .int .u64 0, .string ⟨#[]⟩, .slice none 0 0, .slice none 0 0, .slice none 0 0] #[.int .u8 q.kind, .int .u64 0, .int .u64 0, .int .u64 0, .int .u64 0, .int .u64 0, .string ⟨#[]⟩, .slice none 0 0, .slice none 0 0, .slice none 0 0]
  have BI := hide bi
  have BR := hide br
  have BO := hide bo
  have HB := hide hb
  clear bi br bo hb
  go_enter Try.func37, Try.ntmps37
  go_wp2_with fail
  refine ((unhide K65) _).mono ?_
  rintro e w1 ⟨rfl, hb⟩
  have bi := (unhide BI).belowSz hb
  have br := (unhide BR).belowSz hb
  have bo := (unhide BO).belowSz hb
  have hb2 := (unhide HB).trans (hb.mono (unhide HB).size)
  clear hb BI BR BO HB
  have i0 := bi.cell (i := 0) rfl
  have i1 := bi.cell (i := 1) rfl
  have o1 := bo.cell (i := 1) rfl
  have f1 := bo.free 1
  have BI := hide bi
  have BR := hide br
  have BO := hide bo
  have HB := hide hb2
  clear bi br bo hb2
  go_wp2_with fail
  clear i0 i1 o1 f1
  have BI := hide ((unhide BI).other (p := ⟨w.heap.size + 2, 1, none⟩) (by simp) (.int .u64 q.a))
  have BR := hide ((unhide BR).other (p := ⟨w.heap.size + 2, 1, none⟩) (by simp) (.int .u64 q.a))
  have BO := hide ((unhide BO).set 1 (.int .u64 q.a))
  have HB := hide ((unhide HB).setCell (p := ⟨w.heap.size + 2, 1, none⟩) (by simp) (.int .u64 q.a))
  refine ((unhide K66) _).mono ?_
  rintro e w2 ⟨rfl, hb⟩
  have bi := (unhide BI).belowSz hb
  have br := (unhide BR).belowSz hb
  have bo := (unhide BO).belowSz hb
  have hb2 := (unhide HB).trans (hb.mono (unhide HB).size)
  clear hb BI BR BO HB
  have i0 := bi.cell (i := 0) rfl
  have BI := hide bi
  have BR := hide br
  have BO := hide bo
  have HB := hide hb2
  clear bi br bo hb2
  go_wp2_with fail
  clear i0
  refine ((unhide K67) _).mono ?_
  rintro e w3 ⟨rfl, hb⟩
  have bi := (unhide BI).belowSz hb
  have br := (unhide BR).belowSz hb
  have bo := (unhide BO).belowSz hb
  have hb2 := (unhide HB).trans (hb.mono (unhide HB).size)
  clear hb BI BR BO HB
  have i0 := bi.cell (i := 0) rfl
  have BI := hide bi
  have BR := hide br
  have BO := hide bo
  have HB := hide hb2
  clear bi br bo hb2
  go_wp2_with fail
  clear i0
  refine ((unhide K68) _).mono ?_
  rintro e w4 ⟨rfl, hb⟩
  have bi := (unhide BI).belowSz hb
  have br := (unhide BR).belowSz hb
  have bo := (unhide BO).belowSz hb
  have hb2 := (unhide HB).trans (hb.mono (unhide HB).size)
  clear hb BI BR BO HB
  have i0 := bi.cell (i := 0) rfl
  have BI := hide bi
  have BR := hide br
  have BO := hide bo
  have HB := hide hb2
  clear bi br bo hb2
  go_wp2_with fail
  clear i0
  refine ((unhide K80) _).mono ?_
  rintro e w5 ⟨rfl, hb⟩
  have bi := (unhide BI).belowSz hb
  have br := (unhide BR).belowSz hb
  have bo := (unhide BO).belowSz hb
  have hb2 := (unhide HB).trans (hb.mono (unhide HB).size)
  clear hb BI BR BO HB
  have i0 := bi.cell (i := 0) rfl
  have BI := hide bi
  have BR := hide br
  have BO := hide bo
  have HB := hide hb2
  clear bi br bo hb2
  go_wp2_with fail
  clear i0
  refine ((unhide K86) _).mono ?_
  rintro e w6 ⟨rfl, hb⟩
  have bi := (unhide BI).belowSz hb
  have br := (unhide BR).belowSz hb
  have bo := (unhide BO).belowSz hb
  have hb2 := (unhide HB).trans (hb.mono (unhide HB).size)
  clear hb BI BR BO HB
  have i0 := bi.cell (i := 0) rfl
  have BI := hide bi
  have BR := hide br
  have BO := hide bo
  have HB := hide hb2
  clear bi br bo hb2
  go_wp2_with fail
  clear i0
  refine ((unhide K88) _).mono ?_
  rintro e w7 ⟨rfl, hb⟩
  have bi := (unhide BI).belowSz hb
  have br := (unhide BR).belowSz hb
  have bo := (unhide BO).belowSz hb
  have hb2 := (unhide HB).trans (hb.mono (unhide HB).size)
  clear hb BI BR BO HB
  have i0 := bi.cell (i := 0) rfl
  have i9 := bi.cell (i := 9) rfl
  have o9 := bo.cell (i := 9) rfl
  have f9 := bo.free 9
  have o0 := bo.cell (i := 0) rfl
  have r0 := br.cell (i := 0) rfl
  have s0 := br.free 0
  have o1 := bo.cell (i := 1) rfl
  have r1 := br.cell (i := 1) rfl
  have s1 := br.free 1
  have o2 := bo.cell (i := 2) rfl
  have r2 := br.cell (i := 2) rfl
  have s2 := br.free 2
  have o3 := bo.cell (i := 3) rfl
  have r3 := br.cell (i := 3) rfl
  have s3 := br.free 3
  have o4 := bo.cell (i := 4) rfl
  have r4 := br.cell (i := 4) rfl
  have s4 := br.free 4
  have o5 := bo.cell (i := 5) rfl
  have r5 := br.cell (i := 5) rfl
  have s5 := br.free 5
  have o6 := bo.cell (i := 6) rfl
  have r6 := br.cell (i := 6) rfl
  have s6 := br.free 6
  have o7 := bo.cell (i := 7) rfl
  have r7 := br.cell (i := 7) rfl
  have s7 := br.free 7
  have o8 := bo.cell (i := 8) rfl
  have r8 := br.cell (i := 8) rfl
  have s8 := br.free 8
  have r9 := br.cell (i := 9) rfl
  have s9 := br.free 9
  have BI := hide bi
  have BR := hide br
  have BO := hide bo
  have HB := hide hb2
  clear bi br bo hb2
  have RF := hide ((((((((((((unhide BR).other (p := ⟨w.heap.size + 2, 9, none⟩) (by simp) (.slice z.A z.n z.c)).set 0 (.int .u8 q.kind)).set 1 (.int .u64 q.a)).set 2 (.int .u64 0)).set 3 (.int .u64 0)).set 4 (.int .u64 0)).set 5 (.int .u64 0)).set 6 (.string ⟨#[]⟩)).set 7 (.slice none 0 0)).set 8 (.slice none 0 0)).set 9 (.slice z.A z.n z.c))
  have BF := hide ((((((((((((unhide HB).setCell (p := ⟨w.heap.size + 2, 9, none⟩) (by simp) (.slice z.A z.n z.c)).setCell (p := ⟨w.heap.size + 1, 0, none⟩) (by simp) (.int .u8 q.kind)).setCell (p := ⟨w.heap.size + 1, 1, none⟩) (by simp) (.int .u64 q.a)).setCell (p := ⟨w.heap.size + 1, 2, none⟩) (by simp) (.int .u64 0)).setCell (p := ⟨w.heap.size + 1, 3, none⟩) (by simp) (.int .u64 0)).setCell (p := ⟨w.heap.size + 1, 4, none⟩) (by simp) (.int .u64 0)).setCell (p := ⟨w.heap.size + 1, 5, none⟩) (by simp) (.int .u64 0)).setCell (p := ⟨w.heap.size + 1, 6, none⟩) (by simp) (.string ⟨#[]⟩)).setCell (p := ⟨w.heap.size + 1, 7, none⟩) (by simp) (.slice none 0 0)).setCell (p := ⟨w.heap.size + 1, 8, none⟩) (by simp) (.slice none 0 0)).setCell (p := ⟨w.heap.size + 1, 9, none⟩) (by simp) (.slice z.A z.n z.c))
  go_wp2_with fail
  refine bodyPost_ret (results_cell1 (P := Try.prog) rfl _ _ (w.heap.size + 1) 26 #[.int .u8 q.kind, .int .u64 q.a, .int .u64 0, .int .u64 0, .int .u64 0, .int .u64 0, .string ⟨#[]⟩, .slice none 0 0, .slice none 0 0, .slice z.A z.n z.c] (0, 0) _ rfl (unhide RF) Try.underlying26 rfl callInfo) rfl ?_
  exact ⟨rfl, unhide BF⟩

set_option maxRecDepth 20000 in
set_option maxHeartbeats 4000000 in
theorem only_6580 (q : Cl.C) (x y z : Sl) (w : World) (hk : q.kind < 256) (h65 : hasB q.kind 65 = true) (h66 : hasB q.kind 66 = false) (h67 : hasB q.kind 67 = false) (h68 : hasB q.kind 68 = false) (h80 : hasB q.kind 80 = true) (h86 : hasB q.kind 86 = false) (h88 : hasB q.kind 88 = false) :
    Calls Try.prog 37 #[.agg (clCells q x y z)] w fun e w' => e = .returned (.agg #[.int .u8 q.kind, .int .u64 q.a, .int .u64 0, .int .u64 0, .int .u64 0, .int .u64 0, .string q.path, .slice none 0 0, .slice none 0 0, .slice none 0 0]) ∧ Below w.heap.size w w' := by
  have K65 := hide (fun w => rhas_at q.kind 65 _ w hk h65)
  have K66 := hide (fun w => rhas_at q.kind 66 _ w hk h66)
  have K67 := hide (fun w => rhas_at q.kind 67 _ w hk h67)
  have K68 := hide (fun w => rhas_at q.kind 68 _ w hk h68)
  have K80 := hide (fun w => rhas_at q.kind 80 _ w hk h80)
  have K86 := hide (fun w => rhas_at q.kind 86 _ w hk h86)
  have K88 := hide (fun w => rhas_at q.kind 88 _ w hk h88)
  clear h65 h66 h67 h68 h80 h86 h88 hk
  obtain ⟨bi, br, bo, hb⟩ := only_start w #[.int .u8 q.kind, .int .u64 q.a, .int .u64 q.b, .int .u64 q.c, .int .u64 q.d, .int .u64 q.e, .string q.path, .slice x.A x.n x.c, .slice y.A y.n y.c, .slice z.A z.n z.c] #[.int .u8 0, .int .u64 0, .int .u64 0, .int .u64 0, .int .u64 0, .int .u64 0, .string ⟨#[]⟩, .slice none 0 0, .slice none 0 0, .slice none 0 0] #[.int .u8 q.kind, .int .u64 0, .int .u64 0, .int .u64 0, .int .u64 0, .int .u64 0, .string ⟨#[]⟩, .slice none 0 0, .slice none 0 0, .slice none 0 0]
  have BI := hide bi
  have BR := hide br
  have BO := hide bo
  have HB := hide hb
  clear bi br bo hb
  go_enter Try.func37, Try.ntmps37
  go_wp2_with fail
  refine ((unhide K65) _).mono ?_
  rintro e w1 ⟨rfl, hb⟩
  have bi := (unhide BI).belowSz hb
  have br := (unhide BR).belowSz hb
  have bo := (unhide BO).belowSz hb
  have hb2 := (unhide HB).trans (hb.mono (unhide HB).size)
  clear hb BI BR BO HB
  have i0 := bi.cell (i := 0) rfl
  have i1 := bi.cell (i := 1) rfl
  have o1 := bo.cell (i := 1) rfl
  have f1 := bo.free 1
  have BI := hide bi
  have BR := hide br
  have BO := hide bo
  have HB := hide hb2
  clear bi br bo hb2
  go_wp2_with fail
  clear i0 i1 o1 f1
  have BI := hide ((unhide BI).other (p := ⟨w.heap.size + 2, 1, none⟩) (by simp) (.int .u64 q.a))
  have BR := hide ((unhide BR).other (p := ⟨w.heap.size + 2, 1, none⟩) (by simp) (.int .u64 q.a))
  have BO := hide ((unhide BO).set 1 (.int .u64 q.a))
  have HB := hide ((unhide HB).setCell (p := ⟨w.heap.size + 2, 1, none⟩) (by simp) (.int .u64 q.a))
  refine ((unhide K66) _).mono ?_
  rintro e w2 ⟨rfl, hb⟩
  have bi := (unhide BI).belowSz hb
  have br := (unhide BR).belowSz hb
  have bo := (unhide BO).belowSz hb
  have hb2 := (unhide HB).trans (hb.mono (unhide HB).size)
  clear hb BI BR BO HB
  have i0 := bi.cell (i := 0) rfl
  have BI := hide bi
  have BR := hide br
  have BO := hide bo
  have HB := hide hb2
  clear bi br bo hb2
  go_wp2_with fail
  clear i0
  refine ((unhide K67) _).mono ?_
  rintro e w3 ⟨rfl, hb⟩
  have bi := (unhide BI).belowSz hb
  have br := (unhide BR).belowSz hb
  have bo := (unhide BO).belowSz hb
  have hb2 := (unhide HB).trans (hb.mono (unhide HB).size)
  clear hb BI BR BO HB
  have i0 := bi.cell (i := 0) rfl
  have BI := hide bi
  have BR := hide br
  have BO := hide bo
  have HB := hide hb2
  clear bi br bo hb2
  go_wp2_with fail
  clear i0
  refine ((unhide K68) _).mono ?_
  rintro e w4 ⟨rfl, hb⟩
  have bi := (unhide BI).belowSz hb
  have br := (unhide BR).belowSz hb
  have bo := (unhide BO).belowSz hb
  have hb2 := (unhide HB).trans (hb.mono (unhide HB).size)
  clear hb BI BR BO HB
  have i0 := bi.cell (i := 0) rfl
  have BI := hide bi
  have BR := hide br
  have BO := hide bo
  have HB := hide hb2
  clear bi br bo hb2
  go_wp2_with fail
  clear i0
  refine ((unhide K80) _).mono ?_
  rintro e w5 ⟨rfl, hb⟩
  have bi := (unhide BI).belowSz hb
  have br := (unhide BR).belowSz hb
  have bo := (unhide BO).belowSz hb
  have hb2 := (unhide HB).trans (hb.mono (unhide HB).size)
  clear hb BI BR BO HB
  have i0 := bi.cell (i := 0) rfl
  have i6 := bi.cell (i := 6) rfl
  have o6 := bo.cell (i := 6) rfl
  have f6 := bo.free 6
  have BI := hide bi
  have BR := hide br
  have BO := hide bo
  have HB := hide hb2
  clear bi br bo hb2
  go_wp2_with fail
  clear i0 i6 o6 f6
  have BI := hide ((unhide BI).other (p := ⟨w.heap.size + 2, 6, none⟩) (by simp) (.string q.path))
  have BR := hide ((unhide BR).other (p := ⟨w.heap.size + 2, 6, none⟩) (by simp) (.string q.path))
  have BO := hide ((unhide BO).set 6 (.string q.path))
  have HB := hide ((unhide HB).setCell (p := ⟨w.heap.size + 2, 6, none⟩) (by simp) (.string q.path))
  refine ((unhide K86) _).mono ?_
  rintro e w6 ⟨rfl, hb⟩
  have bi := (unhide BI).belowSz hb
  have br := (unhide BR).belowSz hb
  have bo := (unhide BO).belowSz hb
  have hb2 := (unhide HB).trans (hb.mono (unhide HB).size)
  clear hb BI BR BO HB
  have i0 := bi.cell (i := 0) rfl
  have BI := hide bi
  have BR := hide br
  have BO := hide bo
  have HB := hide hb2
  clear bi br bo hb2
  go_wp2_with fail
  clear i0
  refine ((unhide K88) _).mono ?_
  rintro e w7 ⟨rfl, hb⟩
  have bi := (unhide BI).belowSz hb
  have br := (unhide BR).belowSz hb
  have bo := (unhide BO).belowSz hb
  have hb2 := (unhide HB).trans (hb.mono (unhide HB).size)
  clear hb BI BR BO HB
  have i0 := bi.cell (i := 0) rfl
  have o0 := bo.cell (i := 0) rfl
  have r0 := br.cell (i := 0) rfl
  have s0 := br.free 0
  have o1 := bo.cell (i := 1) rfl
  have r1 := br.cell (i := 1) rfl
  have s1 := br.free 1
  have o2 := bo.cell (i := 2) rfl
  have r2 := br.cell (i := 2) rfl
  have s2 := br.free 2
  have o3 := bo.cell (i := 3) rfl
  have r3 := br.cell (i := 3) rfl
  have s3 := br.free 3
  have o4 := bo.cell (i := 4) rfl
  have r4 := br.cell (i := 4) rfl
  have s4 := br.free 4
  have o5 := bo.cell (i := 5) rfl
  have r5 := br.cell (i := 5) rfl
  have s5 := br.free 5
  have o6 := bo.cell (i := 6) rfl
  have r6 := br.cell (i := 6) rfl
  have s6 := br.free 6
  have o7 := bo.cell (i := 7) rfl
  have r7 := br.cell (i := 7) rfl
  have s7 := br.free 7
  have o8 := bo.cell (i := 8) rfl
  have r8 := br.cell (i := 8) rfl
  have s8 := br.free 8
  have o9 := bo.cell (i := 9) rfl
  have r9 := br.cell (i := 9) rfl
  have s9 := br.free 9
  have BI := hide bi
  have BR := hide br
  have BO := hide bo
  have HB := hide hb2
  clear bi br bo hb2
  have RF := hide (((((((((((unhide BR).set 0 (.int .u8 q.kind)).set 1 (.int .u64 q.a)).set 2 (.int .u64 0)).set 3 (.int .u64 0)).set 4 (.int .u64 0)).set 5 (.int .u64 0)).set 6 (.string q.path)).set 7 (.slice none 0 0)).set 8 (.slice none 0 0)).set 9 (.slice none 0 0))
  have BF := hide (((((((((((unhide HB).setCell (p := ⟨w.heap.size + 1, 0, none⟩) (by simp) (.int .u8 q.kind)).setCell (p := ⟨w.heap.size + 1, 1, none⟩) (by simp) (.int .u64 q.a)).setCell (p := ⟨w.heap.size + 1, 2, none⟩) (by simp) (.int .u64 0)).setCell (p := ⟨w.heap.size + 1, 3, none⟩) (by simp) (.int .u64 0)).setCell (p := ⟨w.heap.size + 1, 4, none⟩) (by simp) (.int .u64 0)).setCell (p := ⟨w.heap.size + 1, 5, none⟩) (by simp) (.int .u64 0)).setCell (p := ⟨w.heap.size + 1, 6, none⟩) (by simp) (.string q.path)).setCell (p := ⟨w.heap.size + 1, 7, none⟩) (by simp) (.slice none 0 0)).setCell (p := ⟨w.heap.size + 1, 8, none⟩) (by simp) (.slice none 0 0)).setCell (p := ⟨w.heap.size + 1, 9, none⟩) (by simp) (.slice none 0 0))
  go_wp2_with fail
  refine bodyPost_ret (results_cell1 (P := Try.prog) rfl _ _ (w.heap.size + 1) 26 #[.int .u8 q.kind, .int .u64 q.a, .int .u64 0, .int .u64 0, .int .u64 0, .int .u64 0, .string q.path, .slice none 0 0, .slice none 0 0, .slice none 0 0] (0, 0) _ rfl (unhide RF) Try.underlying26 rfl callInfo) rfl ?_
  exact ⟨rfl, unhide BF⟩

set_option maxRecDepth 20000 in
set_option maxHeartbeats 4000000 in
theorem only_8086 (q : Cl.C) (x y z : Sl) (w : World) (hk : q.kind < 256) (h65 : hasB q.kind 65 = false) (h66 : hasB q.kind 66 = false) (h67 : hasB q.kind 67 = false) (h68 : hasB q.kind 68 = false) (h80 : hasB q.kind 80 = true) (h86 : hasB q.kind 86 = true) (h88 : hasB q.kind 88 = false) :
    Calls Try.prog 37 #[.agg (clCells q x y z)] w fun e w' => e = .returned (.agg #[.int .u8 q.kind, .int .u64 0, .int .u64 0, .int .u64 0, .int .u64 0, .int .u64 0, .string q.path, .slice x.A x.n x.c, .slice y.A y.n y.c, .slice none 0 0]) ∧ Below w.heap.size w w' := by
  have K65 := hide (fun w => rhas_at q.kind 65 _ w hk h65)
  have K66 := hide (fun w => rhas_at q.kind 66 _ w hk h66)
  have K67 := hide (fun w => rhas_at q.kind 67 _ w hk h67)
  have K68 := hide (fun w => rhas_at q.kind 68 _ w hk h68)
  have K80 := hide (fun w => rhas_at q.kind 80 _ w hk h80)
  have K86 := hide (fun w => rhas_at q.kind 86 _ w hk h86)
  have K88 := hide (fun w => rhas_at q.kind 88 _ w hk h88)
  clear h65 h66 h67 h68 h80 h86 h88 hk
  obtain ⟨bi, br, bo, hb⟩ := only_start w #[.int .u8 q.kind, .int .u64 q.a, .int .u64 q.b, .int .u64 q.c, .int .u64 q.d, .int .u64 q.e, .string q.path, .slice x.A x.n x.c, .slice y.A y.n y.c, .slice z.A z.n z.c] #[.int .u8 0, .int .u64 0, .int .u64 0, .int .u64 0, .int .u64 0, .int .u64 0, .string ⟨#[]⟩, .slice none 0 0, .slice none 0 0, .slice none 0 0] #[.int .u8 q.kind, .int .u64 0, .int .u64 0, .int .u64 0, .int .u64 0, .int .u64 0, .string ⟨#[]⟩, .slice none 0 0, .slice none 0 0, .slice none 0 0]
  have BI := hide bi
  have BR := hide br
  have BO := hide bo
  have HB := hide hb
  clear bi br bo hb
  go_enter Try.func37, Try.ntmps37
  go_wp2_with fail
  refine ((unhide K65) _).mono ?_
  rintro e w1 ⟨rfl, hb⟩
  have bi := (unhide BI).belowSz hb
  have br := (unhide BR).belowSz hb
  have bo := (unhide BO).belowSz hb
  have hb2 := (unhide HB).trans (hb.mono (unhide HB).size)
  clear hb BI BR BO HB
  have i0 := bi.cell (i := 0) rfl
  have BI := hide bi
  have BR := hide br
  have BO := hide bo
  have HB := hide hb2
  clear bi br bo hb2
  go_wp2_with fail
  clear i0
  refine ((unhide K66) _).mono ?_
  rintro e w2 ⟨rfl, hb⟩
  have bi := (unhide BI).belowSz hb
  have br := (unhide BR).belowSz hb
  have bo := (unhide BO).belowSz hb
  have hb2 := (unhide HB).trans (hb.mono (unhide HB).size)
  clear hb BI BR BO HB
  have i0 := bi.cell (i := 0) rfl
  have BI := hide bi
  have BR := hide br
  have BO := hide bo
  have HB := hide hb2
  clear bi br bo hb2
  go_wp2_with fail
  clear i0
  refine ((unhide K67) _).mono ?_
  rintro e w3 ⟨rfl, hb⟩
  have bi := (unhide BI).belowSz hb
  have br := (unhide BR).belowSz hb
  have bo := (unhide BO).belowSz hb
  have hb2 := (unhide HB).trans (hb.mono (unhide HB).size)
  clear hb BI BR BO HB
  have i0 := bi.cell (i := 0) rfl
  have BI := hide bi
  have BR := hide br
  have BO := hide bo
  have HB := hide hb2
  clear bi br bo hb2
  go_wp2_with fail
  clear i0
  refine ((unhide K68) _).mono ?_
  rintro e w4 ⟨rfl, hb⟩
  have bi := (unhide BI).belowSz hb
  have br := (unhide BR).belowSz hb
  have bo := (unhide BO).belowSz hb
  have hb2 := (unhide HB).trans (hb.mono (unhide HB).size)
  clear hb BI BR BO HB
  have i0 := bi.cell (i := 0) rfl
  have BI := hide bi
  have BR := hide br
  have BO := hide bo
  have HB := hide hb2
  clear bi br bo hb2
  go_wp2_with fail
  clear i0
  refine ((unhide K80) _).mono ?_
  rintro e w5 ⟨rfl, hb⟩
  have bi := (unhide BI).belowSz hb
  have br := (unhide BR).belowSz hb
  have bo := (unhide BO).belowSz hb
  have hb2 := (unhide HB).trans (hb.mono (unhide HB).size)
  clear hb BI BR BO HB
  have i0 := bi.cell (i := 0) rfl
  have i6 := bi.cell (i := 6) rfl
  have o6 := bo.cell (i := 6) rfl
  have f6 := bo.free 6
  have BI := hide bi
  have BR := hide br
  have BO := hide bo
  have HB := hide hb2
  clear bi br bo hb2
  go_wp2_with fail
  clear i0 i6 o6 f6
  have BI := hide ((unhide BI).other (p := ⟨w.heap.size + 2, 6, none⟩) (by simp) (.string q.path))
  have BR := hide ((unhide BR).other (p := ⟨w.heap.size + 2, 6, none⟩) (by simp) (.string q.path))
  have BO := hide ((unhide BO).set 6 (.string q.path))
  have HB := hide ((unhide HB).setCell (p := ⟨w.heap.size + 2, 6, none⟩) (by simp) (.string q.path))
  refine ((unhide K86) _).mono ?_
  rintro e w6 ⟨rfl, hb⟩
  have bi := (unhide BI).belowSz hb
  have br := (unhide BR).belowSz hb
  have bo := (unhide BO).belowSz hb
  have hb2 := (unhide HB).trans (hb.mono (unhide HB).size)
  clear hb BI BR BO HB
  have i0 := bi.cell (i := 0) rfl
  have i7 := bi.cell (i := 7) rfl
  have o7 := bo.cell (i := 7) rfl
  have f7 := bo.free 7
  have i8 := bi.cell (i := 8) rfl
  have o8 := bo.cell (i := 8) rfl
  have f8 := bo.free 8
  have BI := hide bi
  have BR := hide br
  have BO := hide bo
  have HB := hide hb2
  clear bi br bo hb2
  go_wp2_with fail
  clear i0 i7 o7 f7 i8 o8 f8
  have BI := hide ((unhide BI).other (p := ⟨w.heap.size + 2, 7, none⟩) (by simp) (.slice x.A x.n x.c))
  have BR := hide ((unhide BR).other (p := ⟨w.heap.size + 2, 7, none⟩) (by simp) (.slice x.A x.n x.c))
  have BO := hide ((unhide BO).set 7 (.slice x.A x.n x.c))
  have HB := hide ((unhide HB).setCell (p := ⟨w.heap.size + 2, 7, none⟩) (by simp) (.slice x.A x.n x.c))
  have BI := hide ((unhide BI).other (p := ⟨w.heap.size + 2, 8, none⟩) (by simp) (.slice y.A y.n y.c))
  have BR := hide ((unhide BR).other (p := ⟨w.heap.size + 2, 8, none⟩) (by simp) (.slice y.A y.n y.c))
  have BO := hide ((unhide BO).set 8 (.slice y.A y.n y.c))
  have HB := hide ((unhide HB).setCell (p := ⟨w.heap.size + 2, 8, none⟩) (by simp) (.slice y.A y.n y.c))
  refine ((unhide K88) _).mono ?_
  rintro e w7 ⟨rfl, hb⟩
  have bi := (unhide BI).belowSz hb
  have br := (unhide BR).belowSz hb
  have bo := (unhide BO).belowSz hb
  have hb2 := (unhide HB).trans (hb.mono (unhide HB).size)
  clear hb BI BR BO HB
  have i0 := bi.cell (i := 0) rfl
  have o0 := bo.cell (i := 0) rfl
  have r0 := br.cell (i := 0) rfl
  have s0 := br.free 0
  have o1 := bo.cell (i := 1) rfl
  have r1 := br.cell (i := 1) rfl
  have s1 := br.free 1
  have o2 := bo.cell (i := 2) rfl
  have r2 := br.cell (i := 2) rfl
  have s2 := br.free 2
  have o3 := bo.cell (i := 3) rfl
  have r3 := br.cell (i := 3) rfl
  have s3 := br.free 3
  have o4 := bo.cell (i := 4) rfl
  have r4 := br.cell (i := 4) rfl
  have s4 := br.free 4
  have o5 := bo.cell (i := 5) rfl
  have r5 := br.cell (i := 5) rfl
  have s5 := br.free 5
  have o6 := bo.cell (i := 6) rfl
  have r6 := br.cell (i := 6) rfl
  have s6 := br.free 6
  have o7 := bo.cell (i := 7) rfl
  have r7 := br.cell (i := 7) rfl
  have s7 := br.free 7
  have o8 := bo.cell (i := 8) rfl
  have r8 := br.cell (i := 8) rfl
  have s8 := br.free 8
  have o9 := bo.cell (i := 9) rfl
  have r9 := br.cell (i := 9) rfl
  have s9 := br.free 9
  have BI := hide bi
  have BR := hide br
  have BO := hide bo
  have HB := hide hb2
  clear bi br bo hb2
  have RF := hide (((((((((((unhide BR).set 0 (.int .u8 q.kind)).set 1 (.int .u64 0)).set 2 (.int .u64 0)).set 3 (.int .u64 0)).set 4 (.int .u64 0)).set 5 (.int .u64 0)).set 6 (.string q.path)).set 7 (.slice x.A x.n x.c)).set 8 (.slice y.A y.n y.c)).set 9 (.slice none 0 0))
  have BF := hide (((((((((((unhide HB).setCell (p := ⟨w.heap.size + 1, 0, none⟩) (by simp) (.int .u8 q.kind)).setCell (p := ⟨w.heap.size + 1, 1, none⟩) (by simp) (.int .u64 0)).setCell (p := ⟨w.heap.size + 1, 2, none⟩) (by simp) (.int .u64 0)).setCell (p := ⟨w.heap.size + 1, 3, none⟩) (by simp) (.int .u64 0)).setCell (p := ⟨w.heap.size + 1, 4, none⟩) (by simp) (.int .u64 0)).setCell (p := ⟨w.heap.size + 1, 5, none⟩) (by simp) (.int .u64 0)).setCell (p := ⟨w.heap.size + 1, 6, none⟩) (by simp) (.string q.path)).setCell (p := ⟨w.heap.size + 1, 7, none⟩) (by simp) (.slice x.A x.n x.c)).setCell (p := ⟨w.heap.size + 1, 8, none⟩) (by simp) (.slice y.A y.n y.c)).setCell (p := ⟨w.heap.size + 1, 9, none⟩) (by simp) (.slice none 0 0))
  go_wp2_with fail
  refine bodyPost_ret (results_cell1 (P := Try.prog) rfl _ _ (w.heap.size + 1) 26 #[.int .u8 q.kind, .int .u64 0, .int .u64 0, .int .u64 0, .int .u64 0, .int .u64 0, .string q.path, .slice x.A x.n x.c, .slice y.A y.n y.c, .slice none 0 0] (0, 0) _ rfl (unhide RF) Try.underlying26 rfl callInfo) rfl ?_
  exact ⟨rfl, unhide BF⟩
def sl0 : Sl := ⟨none, 0, 0⟩
/-- The call with the fields of its kind alone. -/
def onlyC (q : Cl.C) : Cl.C := ⟨q.kind, if hasB q.kind 65 then q.a else 0, if hasB q.kind 66 then q.b else 0, if hasB q.kind 67 then q.c else 0, if hasB q.kind 68 then q.d else 0, if hasB q.kind 68 then q.e else 0, if hasB q.kind 80 then q.path else ⟨#[]⟩, if hasB q.kind 86 then q.argv else [], if hasB q.kind 86 then q.env else [], if hasB q.kind 88 then q.bytes else []⟩
def onlyX (q : Cl.C) (x : Sl) : Sl := if hasB q.kind 86 then x else sl0
def onlyZ (q : Cl.C) (x : Sl) : Sl := if hasB q.kind 88 then x else sl0
theorem only_any (q : Cl.C) (x y z : Sl) (w : World) (hk : q.kind ≤ 12) :
    Calls Try.prog 37 #[.agg (clCells q x y z)] w fun e w' => e = .returned (.agg (clCells (onlyC q) (onlyX q x) (onlyX q y) (onlyZ q z))) ∧ Below w.heap.size w w' := by
  have hk2 : q.kind < 256 := by omega
  obtain h | h | h | h | h | h | h | h | h | h | h | h | h : q.kind = 0 ∨ q.kind = 1 ∨ q.kind = 2 ∨ q.kind = 3 ∨ q.kind = 4 ∨ q.kind = 5 ∨ q.kind = 6 ∨ q.kind = 7 ∨ q.kind = 8 ∨ q.kind = 9 ∨ q.kind = 10 ∨ q.kind = 11 ∨ q.kind = 12 := by omega
  · have h65 : hasB q.kind 65 = false := by rw [h]; rfl
    have h66 : hasB q.kind 66 = false := by rw [h]; rfl
    have h67 : hasB q.kind 67 = false := by rw [h]; rfl
    have h68 : hasB q.kind 68 = false := by rw [h]; rfl
    have h80 : hasB q.kind 80 = false := by rw [h]; rfl
    have h86 : hasB q.kind 86 = false := by rw [h]; rfl
    have h88 : hasB q.kind 88 = false := by rw [h]; rfl
    have e := only_0 q x y z w hk2 h65 h66 h67 h68 h80 h86 h88
    unfold onlyC onlyX onlyZ
    rw [h65, h66, h67, h68, h80, h86, h88]
    exact e
  · have h65 : hasB q.kind 65 = false := by rw [h]; rfl
    have h66 : hasB q.kind 66 = false := by rw [h]; rfl
    have h67 : hasB q.kind 67 = false := by rw [h]; rfl
    have h68 : hasB q.kind 68 = false := by rw [h]; rfl
    have h80 : hasB q.kind 80 = true := by rw [h]; rfl
    have h86 : hasB q.kind 86 = true := by rw [h]; rfl
    have h88 : hasB q.kind 88 = false := by rw [h]; rfl
    have e := only_8086 q x y z w hk2 h65 h66 h67 h68 h80 h86 h88
    unfold onlyC onlyX onlyZ
    rw [h65, h66, h67, h68, h80, h86, h88]
    exact e
  · have h65 : hasB q.kind 65 = false := by rw [h]; rfl
    have h66 : hasB q.kind 66 = false := by rw [h]; rfl
    have h67 : hasB q.kind 67 = false := by rw [h]; rfl
    have h68 : hasB q.kind 68 = false := by rw [h]; rfl
    have h80 : hasB q.kind 80 = false := by rw [h]; rfl
    have h86 : hasB q.kind 86 = false := by rw [h]; rfl
    have h88 : hasB q.kind 88 = false := by rw [h]; rfl
    have e := only_0 q x y z w hk2 h65 h66 h67 h68 h80 h86 h88
    unfold onlyC onlyX onlyZ
    rw [h65, h66, h67, h68, h80, h86, h88]
    exact e
  · have h65 : hasB q.kind 65 = true := by rw [h]; rfl
    have h66 : hasB q.kind 66 = false := by rw [h]; rfl
    have h67 : hasB q.kind 67 = false := by rw [h]; rfl
    have h68 : hasB q.kind 68 = false := by rw [h]; rfl
    have h80 : hasB q.kind 80 = false := by rw [h]; rfl
    have h86 : hasB q.kind 86 = false := by rw [h]; rfl
    have h88 : hasB q.kind 88 = false := by rw [h]; rfl
    have e := only_65 q x y z w hk2 h65 h66 h67 h68 h80 h86 h88
    unfold onlyC onlyX onlyZ
    rw [h65, h66, h67, h68, h80, h86, h88]
    exact e
  · have h65 : hasB q.kind 65 = false := by rw [h]; rfl
    have h66 : hasB q.kind 66 = false := by rw [h]; rfl
    have h67 : hasB q.kind 67 = false := by rw [h]; rfl
    have h68 : hasB q.kind 68 = false := by rw [h]; rfl
    have h80 : hasB q.kind 80 = false := by rw [h]; rfl
    have h86 : hasB q.kind 86 = false := by rw [h]; rfl
    have h88 : hasB q.kind 88 = false := by rw [h]; rfl
    have e := only_0 q x y z w hk2 h65 h66 h67 h68 h80 h86 h88
    unfold onlyC onlyX onlyZ
    rw [h65, h66, h67, h68, h80, h86, h88]
    exact e
  · have h65 : hasB q.kind 65 = true := by rw [h]; rfl
    have h66 : hasB q.kind 66 = true := by rw [h]; rfl
    have h67 : hasB q.kind 67 = true := by rw [h]; rfl
    have h68 : hasB q.kind 68 = true := by rw [h]; rfl
    have h80 : hasB q.kind 80 = false := by rw [h]; rfl
    have h86 : hasB q.kind 86 = false := by rw [h]; rfl
    have h88 : hasB q.kind 88 = false := by rw [h]; rfl
    have e := only_65666768 q x y z w hk2 h65 h66 h67 h68 h80 h86 h88
    unfold onlyC onlyX onlyZ
    rw [h65, h66, h67, h68, h80, h86, h88]
    exact e
  · have h65 : hasB q.kind 65 = true := by rw [h]; rfl
    have h66 : hasB q.kind 66 = true := by rw [h]; rfl
    have h67 : hasB q.kind 67 = false := by rw [h]; rfl
    have h68 : hasB q.kind 68 = false := by rw [h]; rfl
    have h80 : hasB q.kind 80 = false := by rw [h]; rfl
    have h86 : hasB q.kind 86 = false := by rw [h]; rfl
    have h88 : hasB q.kind 88 = false := by rw [h]; rfl
    have e := only_6566 q x y z w hk2 h65 h66 h67 h68 h80 h86 h88
    unfold onlyC onlyX onlyZ
    rw [h65, h66, h67, h68, h80, h86, h88]
    exact e
  · have h65 : hasB q.kind 65 = true := by rw [h]; rfl
    have h66 : hasB q.kind 66 = true := by rw [h]; rfl
    have h67 : hasB q.kind 67 = true := by rw [h]; rfl
    have h68 : hasB q.kind 68 = false := by rw [h]; rfl
    have h80 : hasB q.kind 80 = false := by rw [h]; rfl
    have h86 : hasB q.kind 86 = false := by rw [h]; rfl
    have h88 : hasB q.kind 88 = false := by rw [h]; rfl
    have e := only_656667 q x y z w hk2 h65 h66 h67 h68 h80 h86 h88
    unfold onlyC onlyX onlyZ
    rw [h65, h66, h67, h68, h80, h86, h88]
    exact e
  · have h65 : hasB q.kind 65 = true := by rw [h]; rfl
    have h66 : hasB q.kind 66 = true := by rw [h]; rfl
    have h67 : hasB q.kind 67 = false := by rw [h]; rfl
    have h68 : hasB q.kind 68 = false := by rw [h]; rfl
    have h80 : hasB q.kind 80 = false := by rw [h]; rfl
    have h86 : hasB q.kind 86 = false := by rw [h]; rfl
    have h88 : hasB q.kind 88 = false := by rw [h]; rfl
    have e := only_6566 q x y z w hk2 h65 h66 h67 h68 h80 h86 h88
    unfold onlyC onlyX onlyZ
    rw [h65, h66, h67, h68, h80, h86, h88]
    exact e
  · have h65 : hasB q.kind 65 = true := by rw [h]; rfl
    have h66 : hasB q.kind 66 = false := by rw [h]; rfl
    have h67 : hasB q.kind 67 = false := by rw [h]; rfl
    have h68 : hasB q.kind 68 = false := by rw [h]; rfl
    have h80 : hasB q.kind 80 = false := by rw [h]; rfl
    have h86 : hasB q.kind 86 = false := by rw [h]; rfl
    have h88 : hasB q.kind 88 = true := by rw [h]; rfl
    have e := only_6588 q x y z w hk2 h65 h66 h67 h68 h80 h86 h88
    unfold onlyC onlyX onlyZ
    rw [h65, h66, h67, h68, h80, h86, h88]
    exact e
  · have h65 : hasB q.kind 65 = true := by rw [h]; rfl
    have h66 : hasB q.kind 66 = false := by rw [h]; rfl
    have h67 : hasB q.kind 67 = false := by rw [h]; rfl
    have h68 : hasB q.kind 68 = false := by rw [h]; rfl
    have h80 : hasB q.kind 80 = true := by rw [h]; rfl
    have h86 : hasB q.kind 86 = false := by rw [h]; rfl
    have h88 : hasB q.kind 88 = false := by rw [h]; rfl
    have e := only_6580 q x y z w hk2 h65 h66 h67 h68 h80 h86 h88
    unfold onlyC onlyX onlyZ
    rw [h65, h66, h67, h68, h80, h86, h88]
    exact e
  · have h65 : hasB q.kind 65 = true := by rw [h]; rfl
    have h66 : hasB q.kind 66 = false := by rw [h]; rfl
    have h67 : hasB q.kind 67 = false := by rw [h]; rfl
    have h68 : hasB q.kind 68 = false := by rw [h]; rfl
    have h80 : hasB q.kind 80 = false := by rw [h]; rfl
    have h86 : hasB q.kind 86 = false := by rw [h]; rfl
    have h88 : hasB q.kind 88 = false := by rw [h]; rfl
    have e := only_65 q x y z w hk2 h65 h66 h67 h68 h80 h86 h88
    unfold onlyC onlyX onlyZ
    rw [h65, h66, h67, h68, h80, h86, h88]
    exact e
  · have h65 : hasB q.kind 65 = true := by rw [h]; rfl
    have h66 : hasB q.kind 66 = true := by rw [h]; rfl
    have h67 : hasB q.kind 67 = false := by rw [h]; rfl
    have h68 : hasB q.kind 68 = false := by rw [h]; rfl
    have h80 : hasB q.kind 80 = false := by rw [h]; rfl
    have h86 : hasB q.kind 86 = false := by rw [h]; rfl
    have h88 : hasB q.kind 88 = false := by rw [h]; rfl
    have e := only_6566 q x y z w hk2 h65 h66 h67 h68 h80 h86 h88
    unfold onlyC onlyX onlyZ
    rw [h65, h66, h67, h68, h80, h86, h88]
    exact e
end Go.Proofs.Ytphbkjdheopmhaa
