/- The walk of hostelref25.Only; printed by gen_only.py. Only's call is read and fits; it is the same just where nothing else is said. The walks of the references for paths: Pieces and Check of hostelref02. Condition: the texts are shorter than 2^32 bytes. The walk of hostelref25.Check. One more law for append: the new element's block spelt by a number that is the heap's size. No conditions. The walks of slices.Clone and bytes.Clone of bytes, of words.Set and of its reference where the bytes are there. Conditions: there are fewer than 2^32 bytes. The walks of the calls' reader: take, number, bytes. Conditions: there are fewer than 2^32 bytes. The walks of the calls' reader: bytes, list. Conditions: there are fewer than 2^32 bytes. The walks of the reference's reader: take. Conditions: there are fewer than 2^32 bytes. The walks of the reference's reader: text, list. Conditions: there are fewer than 2^32 bytes. The plain mathematics of calls' bytes: what is written is read, cut it is not; what was read is written so; scripts. No program in sight. No conditions. The walks of hostelref00.CopyTexts. Conditions: there are fewer than 2^32 texts. The walk of hostelref25.Copy. The walk of calls.Read where there is no call. Conditions: there are fewer than 2^32 bytes. The walks of words.Set, put, putText, putList and of their references. Conditions: there are fewer than 2^32 bytes. What it is to have grown a row of bytes; the law for append of a text's bytes onto a row of the call's own. No conditions. The walks of put, putText, putList and of their references. Conditions: there are fewer than 2^32 bytes. The walks of hostelref25.number, text and list. Conditions: there are fewer than 2^32 bytes. The walk of calls.Form. Conditions: as calls'. Laws for a region that draws, all of whose operations leave the world alone: a load of a row, a store of what stands there. No conditions. -/
import Derived.Test.YtphbkjdheopmhaaKs1
import Derived.Lib.AppendStr
import Derived.Lib.SliceRun
import Derived.Deep.LoopGhost
import Derived.Deep.QuietTactic
import Derived.BigQuiet
import Derived.StillTailTactics
import Derived.Laws.CopyOwn
import Derived.Deep.RegionHeld3
import Derived.Test.YtphbkjdheopmhaaProg
import Derived.WalkSpells
import Derived.WalkLawsBesides
namespace Go.Proofs.Ytphbkjdheopmhaa
set_option linter.unusedVariables false
set_option linter.unusedSimpArgs false
open Go.RowKit

theorem callInfo : (Try.prog.info? 26).map (·.size) = some 10 := by kernel_rfl
theorem results_cell1 {P : Program} {fn : Func} {p : Tmp} {ty : TypeId} (h : fn.results = #[.cell p ty]) (tmps : Array Value) (w : World) (g : Nat) (t : TypeId) (cs : Array Value) (fr : Nat × Nat) (d : TypeDesc)
    (hp : tmps.getD p undef = .pointer (some ⟨g, 0, none⟩)) (hg : w.heap[g]? = some (.cells cs t fr))
    (hu : P.underlying ty = some d) (hd : (match d with | .struct _ | .array _ _ => true | _ => false) = true) (hi : (P.info? ty).map (·.size) = some cs.size) :
    (results fn tmps).run P w = .ok (.agg cs) w := by
  have hp' : tmps[p]?.getD undef = .pointer (some ⟨g, 0, none⟩) := by simpa using hp
  simp [results, h, hp', asAddr, run_loadVar_row w g t ty cs fr d hg hu hd hi]
theorem rhas_at (kd : Nat) (c : UInt8) (b : Bool) (w : World) (hkd : kd < 256) (hb : hasB kd c = b) : Calls Try.prog 64 #[.int .u8 kd, .int .u8 (c.toNat : Nat)] w fun e w' => e = .returned (.bool b) ∧ Below w.heap.size w w' := by
  rw [← hb]
  exact rhas25_any kd c w hkd
theorem only_start (w : World) (a b c : Array Value) : Blk (((w.alloc (.cells a 26)).alloc (.cells b 26)).alloc (.cells c 26)) w.heap.size 26 a.toList ∧ Blk (((w.alloc (.cells a 26)).alloc (.cells b 26)).alloc (.cells c 26)) (w.heap.size + 1) 26 b.toList ∧ Blk (((w.alloc (.cells a 26)).alloc (.cells b 26)).alloc (.cells c 26)) (w.heap.size + 2) 26 c.toList ∧ Below w.heap.size w (((w.alloc (.cells a 26)).alloc (.cells b 26)).alloc (.cells c 26)) := by
  have h1 := Blk.new w 26 a.toList
  have h2 := Blk.new (w.alloc (.cells a 26)) 26 b.toList
  have h3 := Blk.new ((w.alloc (.cells a 26)).alloc (.cells b 26)) 26 c.toList
  rw [Array.toArray_toList] at h1 h2 h3
  have e1 : (w.alloc (.cells a 26)).heap.size = w.heap.size + 1 := by simp
  have e2 : ((w.alloc (.cells a 26)).alloc (.cells b 26)).heap.size = w.heap.size + 2 := by simp
  rw [e1] at h2
  rw [e2] at h3
  exact ⟨(h1.alloc _).alloc _, h2.alloc _, h3, (((Below.refl _ _).alloc (Nat.le_refl _) _).alloc (by simp) _).alloc (by simp; omega) _⟩

set_option maxRecDepth 20000 in
set_option maxHeartbeats 4000000 in
theorem only_0 (q : Cl.C) (x y z : Sl) (w : World) (hk : q.kind < 256) (h65 : hasB q.kind 65 = false) (h66 : hasB q.kind 66 = false) (h67 : hasB q.kind 67 = false) (h68 : hasB q.kind 68 = false) (h80 : hasB q.kind 80 = false) (h86 : hasB q.kind 86 = false) (h88 : hasB q.kind 88 = false) :
    Calls Try.prog 37 #[.agg (clCells q x y z)] w fun e w' => e = .returned (.agg #[.int .u8 q.kind, .int .u64 0, .int .u64 0, .int .u64 0, .int .u64 0, .int .u64 0, .string ⟨#[]⟩, .slice none 0 0, .slice none 0 0, .slice none 0 0]) ∧ Below w.heap.size w w' := by
  have K65 := hide (fun w => rhas_at q.kind 65 _ w hk h65)
  have K66 := hide (fun w => rhas_at q.kind 66 _ w hk h66)
  have K67 := hide (fun w => rhas_at q.kind 67 _ w hk h67)
  have K68 := hide (fun w => rhas_at q.kind 68 _ w hk h68)
  have K80 := hide (fun w => rhas_at q.kind 80 _ w hk h80)
  have K86 := hide (fun w => rhas_at q.kind 86 _ w hk h86)
  have K88 := hide (fun w => rhas_at q.kind 88 _ w hk h88)
  clear h65 h66 h67 h68 h80 h86 h88 hk
  obtain ⟨bi, br, bo, hb⟩ := only_start w #[.int .u8 q.kind, .int .u64 q.a, .int .u64 q.b, .int .u64 q.c, .int .u64 q.d, .int .u64 q.e, .string q.path, .slice x.A x.n x.c, .slice y.A y.n y.c, .slice z.A z.n z.c] #[.int .u8 0, .int .u64 0, .int .u64 0, .int .u64 0, .int .u64 0, .int .u64 0, .string ⟨#[]⟩, .slice none 0 0, .slice none 0 0, .slice none 0 0] #[.int .u8 q.kind, .int .u64 0, .int .u64 0, .int .u64 0, .int .u64 0, .int .u64 0, .string ⟨#[]⟩, .slice none 0 0, .slice none 0 0, .slice none 0 0]
  have BI := hide bi
  have BR := hide br
  have BO := hide bo
  have HB := hide hb
  clear bi br bo hb
  go_enter Try.func37, Try.ntmps37
  go_wp2_with fail
  refine ((unhide K65) _).mono ?_
  rintro e w1 ⟨rfl, hb⟩
  have bi := (unhide BI).belowSz hb
  have br := (unhide BR).belowSz hb
  have bo := (unhide BO).belowSz hb
  have hb2 := (unhide HB).trans (hb.mono (unhide HB).size)
  clear hb BI BR BO HB
  have i0 := bi.cell (i := 0) rfl
  have BI := hide bi
  have BR := hide br
  have BO := hide bo
  have HB := hide hb2
  clear bi br bo hb2
  go_wp2_with fail
  clear i0
  refine ((unhide K66) _).mono ?_
  rintro e w2 ⟨rfl, hb⟩
  have bi := (unhide BI).belowSz hb
  have br := (unhide BR).belowSz hb
  have bo := (unhide BO).belowSz hb
  have hb2 := (unhide HB).trans (hb.mono (unhide HB).size)
  clear hb BI BR BO HB
  have i0 := bi.cell (i := 0) rfl
  have BI := hide bi
  have BR := hide br
  have BO := hide bo
  have HB := hide hb2
  clear bi br bo hb2
  go_wp2_with fail
  clear i0
  refine ((unhide K67) _).mono ?_
  rintro e w3 ⟨rfl, hb⟩
  have bi := (unhide BI).belowSz hb
  have br := (unhide BR).belowSz hb
  have bo := (unhide BO).belowSz hb
  have hb2 := (unhide HB).trans (hb.mono (unhide HB).size)
  clear hb BI BR BO HB
  have i0 := bi.cell (i := 0) rfl
  have BI := hide bi
  have BR := hide br
  have BO := hide bo
  have HB := hide hb2
  clear bi br bo hb2
  go_wp2_with fail
  clear i0
  refine ((unhide K68) _).mono ?_
  rintro e w4 ⟨rfl, hb⟩
  have bi := (unhide BI).belowSz hb
  have br := (unhide BR).belowSz hb
  have bo := (unhide BO).belowSz hb
  have hb2 := (unhide HB).trans (hb.mono (unhide HB).size)
  clear hb BI BR BO HB
  have i0 := bi.cell (i := 0) rfl
  have BI := hide bi
  have BR := hide br
  have BO := hide bo
  have HB := hide hb2
  clear bi br bo hb2
  go_wp2_with fail
  clear i0
  refine ((unhide K80) _).mono ?_
  rintro e w5 ⟨rfl, hb⟩
  have bi := (unhide BI).belowSz hb
  have br := (unhide BR).belowSz hb
  have bo := (unhide BO).belowSz hb
  have hb2 := (unhide HB).trans (hb.mono (unhide HB).size)
  clear hb BI BR BO HB
  have i0 := bi.cell (i := 0) rfl
  have BI := hide bi
  have BR := hide br
  have BO := hide bo
  have HB := hide hb2
  clear bi br bo hb2
  go_wp2_with fail
  clear i0
  refine ((unhide K86) _).mono ?_
  rintro e w6 ⟨rfl, hb⟩
  have bi := (unhide BI).belowSz hb
  have br := (unhide BR).belowSz hb
  have bo := (unhide BO).belowSz hb
  have hb2 := (unhide HB).trans (hb.mono (unhide HB).size)
  clear hb BI BR BO HB
  have i0 := bi.cell (i := 0) rfl
  have BI := hide bi
  have BR := hide br
  have BO := hide bo
  have HB := hide hb2
  clear bi br bo hb2
  go_wp2_with fail
  clear i0
  refine ((unhide K88) _).mono ?_
  rintro e w7 ⟨rfl, hb⟩
  have bi := (unhide BI).belowSz hb
  have br := (unhide BR).belowSz hb
  have bo := (unhide BO).belowSz hb
  have hb2 := (unhide HB).trans (hb.mono (unhide HB).size)
  clear hb BI BR BO HB
  have i0 := bi.cell (i := 0) rfl
  have o0 := bo.cell (i := 0) rfl
  have r0 := br.cell (i := 0) rfl
  have s0 := br.free 0
  have o1 := bo.cell (i := 1) rfl
  have r1 := br.cell (i := 1) rfl
  have s1 := br.free 1
  have o2 := bo.cell (i := 2) rfl
  have r2 := br.cell (i := 2) rfl
  have s2 := br.free 2
  have o3 := bo.cell (i := 3) rfl
  have r3 := br.cell (i := 3) rfl
  have s3 := br.free 3
  have o4 := bo.cell (i := 4) rfl
  have r4 := br.cell (i := 4) rfl
  have s4 := br.free 4
  have o5 := bo.cell (i := 5) rfl
  have r5 := br.cell (i := 5) rfl
  have s5 := br.free 5
  have o6 := bo.cell (i := 6) rfl
  have r6 := br.cell (i := 6) rfl
  have s6 := br.free 6
  have o7 := bo.cell (i := 7) rfl
  have r7 := br.cell (i := 7) rfl
  have s7 := br.free 7
  have o8 := bo.cell (i := 8) rfl
  have r8 := br.cell (i := 8) rfl
  have s8 := br.free 8
  have o9 := bo.cell (i := 9) rfl
  have r9 := br.cell (i := 9) rfl
  have s9 := br.free 9
  have BI := hide bi
  have BR := hide br
  have BO := hide bo
  have HB := hide hb2
  clear bi br bo hb2
  have RF := hide (((((((((((unhide BR).set 0 (.int .u8 q.kind)).set 1 (.int .u64 0)).set 2 (.int .u64 0)).set 3 (.int .u64 0)).set 4 (.int .u64 0)).set 5 (.int .u64 0)).set 6 (.string ⟨#[]⟩)).set 7 (.slice none 0 0)).set 8 (.slice none 0 0)).set 9 (.slice none 0 0))
  have BF := hide (((((((((((unhide HB).setCell (p := ⟨w.heap.size + 1, 0, none⟩) (by simp) (.int .u8 q.kind)).setCell (p := ⟨w.heap.size + 1, 1, none⟩) (by simp) (.int .u64 0)).setCell (p := ⟨w.heap.size + 1, 2, none⟩) (by simp) (.int .u64 0)).setCell (p := ⟨w.heap.size + 1, 3, none⟩) (by simp) (.int .u64 0)).setCell (p := ⟨w.heap.size + 1, 4, none⟩) (by simp) (.int .u64 0)).setCell (p := ⟨w.heap.size + 1, 5, none⟩) (by simp) (.int .u64 0)).setCell (p := ⟨w.heap.size + 1, 6, none⟩) (by simp) (.string ⟨#[]⟩)).setCell (p := ⟨w.heap.size + 1, 7, none⟩) (by simp) (.slice none 0 0)).setCell (p := ⟨w.heap.size + 1, 8, none⟩) (by simp) (.slice none 0 0)).setCell (p := ⟨w.heap.size + 1, 9, none⟩) (by simp) (.slice none 0 0))
  go_wp2_with fail
  refine bodyPost_ret (results_cell1 (P := Try.prog) rfl _ _ (w.heap.size + 1) 26 #[.int .u8 q.kind, .int .u64 0, .int .u64 0, .int .u64 0, .int .u64 0, .int .u64 0, .string ⟨#[]⟩, .slice none 0 0, .slice none 0 0, .slice none 0 0] (0, 0) _ rfl (unhide RF) Try.underlying26 rfl callInfo) rfl ?_
  exact ⟨rfl, unhide BF⟩

set_option maxRecDepth 20000 in
set_option maxHeartbeats 4000000 in
theorem only_65 (q : Cl.C) (x y z : Sl) (w : World) (hk : q.kind < 256) (h65 : hasB q.kind 65 = true) (h66 : hasB q.kind 66 = false) (h67 : hasB q.kind 67 = false) (h68 : hasB q.kind 68 = false) (h80 : hasB q.kind 80 = false) (h86 : hasB q.kind 86 = false) (h88 : hasB q.kind 88 = false) :
    Calls Try.prog 37 #[.agg (clCells q x y z)] w fun e w' => e = .returned (.agg #[.int .u8 q.kind, .int .u64 q.a, .int .u64 0, .int .u64 0, .int .u64 0, .int .u64 0, .string ⟨#[]⟩, .slice none 0 0, .slice none 0 0, .slice none 0 0]) ∧ Below w.heap.size w w' := by
  have K65 := hide (fun w => rhas_at q.kind 65 _ w hk h65)
  have K66 := hide (fun w => rhas_at q.kind 66 _ w hk h66)
  have K67 := hide (fun w => rhas_at q.kind 67 _ w hk h67)
  have K68 := hide (fun w => rhas_at q.kind 68 _ w hk h68)
  have K80 := hide (fun w => rhas_at q.kind 80 _ w hk h80)
  have K86 := hide (fun w => rhas_at q.kind 86 _ w hk h86)
  have K88 := hide (fun w => rhas_at q.kind 88 _ w hk h88)
  clear h65 h66 h67 h68 h80 h86 h88 hk
  obtain ⟨bi, br, bo, hb⟩ := only_start w #[.int .u8 q.kind, .int .u64 q.a, .int .u64 q.b, .int .u64 q.c, .int .u64 q.d, .int .u64 q.e, .string q.path, .slice x.A x.n x.c, .slice y.A y.n y.c, .slice z.A z.n z.c] #[.int .u8 0, .int .u64 0, .int .u64 0, .int .u64 0, .int .u64 0, .int .u64 0, .string ⟨#[]⟩, .slice none 0 0, .slice none 0 0, .slice none 0 0] #[.int .u8 q.kind, .int .u64 0, .int .u64 0, .int .u64 0, .int .u64 0, .int .u64 0, .string ⟨#[]⟩, .slice none 0 0, .slice none 0 0, .slice none 0 0]
  have BI := hide bi
  have BR := hide br
  have BO := hide bo
  have HB := hide hb
  clear bi br bo hb
  go_enter Try.func37, Try.ntmps37
  go_wp2_with fail
  refine ((unhide K65) _).mono ?_
  rintro e w1 ⟨rfl, hb⟩
  have bi := (unhide BI).belowSz hb
  have br := (unhide BR).belowSz hb
  have bo := (unhide BO).belowSz hb
  have hb2 := (unhide HB).trans (hb.mono (unhide HB).size)
  clear hb BI BR BO HB
  have i0 := bi.cell (i := 0) rfl
  have i1 := bi.cell (i := 1) rfl
  have o1 := bo.cell (i := 1) rfl
  have f1 := bo.free 1
  have BI := hide bi
  have BR := hide br
  have BO := hide bo
  have HB := hide hb2
  clear bi br bo hb2
  go_wp2_with fail
  clear i0 i1 o1 f1
  have BI := hide ((unhide BI).other (p := ⟨w.heap.size + 2, 1, none⟩) (by simp) (.int .u64 q.a))
  have BR := hide ((unhide BR).other (p := ⟨w.heap.size + 2, 1, none⟩) (by simp) (.int .u64 q.a))
  have BO := hide ((unhide BO).set 1 (.int .u64 q.a))
  have HB := hide ((unhide HB).setCell (p := ⟨w.heap.size + 2, 1, none⟩) (by simp) (.int .u64 q.a))
  refine ((unhide K66) _).mono ?_
  rintro e w2 ⟨rfl, hb⟩
  have bi := (unhide BI).belowSz hb
  have br := (unhide BR).belowSz hb
  have bo := (unhide BO).belowSz hb
  have hb2 := (unhide HB).trans (hb.mono (unhide HB).size)
  clear hb BI BR BO HB
  have i0 := bi.cell (i := 0) rfl
  have BI := hide bi
  have BR := hide br
  have BO := hide bo
  have HB := hide hb2
  clear bi br bo hb2
  go_wp2_with fail
  clear i0
  refine ((unhide K67) _).mono ?_
  rintro e w3 ⟨rfl, hb⟩
  have bi := (unhide BI).belowSz hb
  have br := (unhide BR).belowSz hb
  have bo := (unhide BO).belowSz hb
  have hb2 := (unhide HB).trans (hb.mono (unhide HB).size)
  clear hb BI BR BO HB
  have i0 := bi.cell (i := 0) rfl
  have BI := hide bi
  have BR := hide br
  have BO := hide bo
  have HB := hide hb2
  clear bi br bo hb2
  go_wp2_with fail
  clear i0
  refine ((unhide K68) _).mono ?_
  rintro e w4 ⟨rfl, hb⟩
  have bi := (unhide BI).belowSz hb
  have br := (unhide BR).belowSz hb
  have bo := (unhide BO).belowSz hb
  have hb2 := (unhide HB).trans (hb.mono (unhide HB).size)
  clear hb BI BR BO HB
  have i0 := bi.cell (i := 0) rfl
  have BI := hide bi
  have BR := hide br
  have BO := hide bo
  have HB := hide hb2
  clear bi br bo hb2
  go_wp2_with fail
  clear i0
  refine ((unhide K80) _).mono ?_
  rintro e w5 ⟨rfl, hb⟩
  have bi := (unhide BI).belowSz hb
  have br := (unhide BR).belowSz hb
  have bo := (unhide BO).belowSz hb
  have hb2 := (unhide HB).trans (hb.mono (unhide HB).size)
  clear hb BI BR BO HB
  have i0 := bi.cell (i := 0) rfl
  have BI := hide bi
  have BR := hide br
  have BO := hide bo
  have HB := hide hb2
  clear bi br bo hb2
  go_wp2_with fail
  clear i0
  refine ((unhide K86) _).mono ?_
  rintro e w6 ⟨rfl, hb⟩
  have bi := (unhide BI).belowSz hb
  have br := (unhide BR).belowSz hb
  have bo := (unhide BO).belowSz hb
  have hb2 := (unhide HB).trans (hb.mono (unhide HB).size)
  clear hb BI BR BO HB
  have i0 := bi.cell (i := 0) rfl
  have BI := hide bi
  have BR := hide br
  have BO := hide bo
  have HB := hide hb2
  clear bi br bo hb2
  go_wp2_with fail
  clear i0
  refine ((unhide K88) _).mono ?_
  rintro e w7 ⟨rfl, hb⟩
  have bi := (unhide BI).belowSz hb
  have br := (unhide BR).belowSz hb
  have bo := (unhide BO).belowSz hb
  have hb2 := (unhide HB).trans (hb.mono (unhide HB).size)
  clear hb BI BR BO HB
  have i0 := bi.cell (i := 0) rfl
  have o0 := bo.cell (i := 0) rfl
  have r0 := br.cell (i := 0) rfl
  have s0 := br.free 0
  have o1 := bo.cell (i := 1) rfl
  have r1 := br.cell (i := 1) rfl
  have s1 := br.free 1
  have o2 := bo.cell (i := 2) rfl
  have r2 := br.cell (i := 2) rfl
  have s2 := br.free 2
  have o3 := bo.cell (i := 3) rfl
  have r3 := br.cell (i := 3) rfl
  have s3 := br.free 3
  have o4 := bo.cell (i := 4) rfl
  have r4 := br.cell (i := 4) rfl
  have s4 := br.free 4
  have o5 := bo.cell (i := 5) rfl
  have r5 := br.cell (i := 5) rfl
  have s5 := br.free 5
  have o6 := bo.cell (i := 6) rfl
  have r6 := br.cell (i := 6) rfl
  have s6 := br.free 6
  have o7 := bo.cell (i := 7) rfl
  have r7 := br.cell (i := 7) rfl
  have s7 := br.free 7
  have o8 := bo.cell (i := 8) rfl
  have r8 := br.cell (i := 8) rfl
  have s8 := br.free 8
  have o9 := bo.cell (i := 9) rfl
  have r9 := br.cell (i := 9) rfl
  have s9 := br.free 9
  have BI := hide bi
  have BR := hide br
  have BO := hide bo
  have HB := hide hb2
  clear bi br bo hb2
  have RF := hide (((((((((((unhide BR).set 0 (.int .u8 q.kind)).set 1 (.int .u64 q.a)).set 2 (.int .u64 0)).set 3 (.int .u64 0)).set 4 (.int .u64 0)).set 5 (.int .u64 0)).set 6 (.string ⟨#[]⟩)).set 7 (.slice none 0 0)).set 8 (.slice none 0 0)).set 9 (.slice none 0 0))
  have BF := hide (((((((((((unhide HB).setCell (p := ⟨w.heap.size + 1, 0, none⟩) (by simp) (.int .u8 q.kind)).setCell (p := ⟨w.heap.size + 1, 1, none⟩) (by simp) (.int .u64 q.a)).setCell (p := ⟨w.heap.size + 1, 2, none⟩) (by simp) (.int .u64 0)).setCell (p := ⟨w.heap.size + 1, 3, none⟩) (by simp) (.int .u64 0)).setCell (p := ⟨w.heap.size + 1, 4, none⟩) (by simp) (.int .u64 0)).setCell (p := ⟨w.heap.size + 1, 5, none⟩) (by simp) (.int .u64 0)).setCell (p := ⟨w.heap.size + 1, 6, none⟩) (by simp) (.string ⟨#[]⟩)).setCell (p := ⟨w.heap.size + 1, 7, none⟩) (by simp) (.slice none 0 0)).setCell (p := ⟨w.heap.size + 1, 8, none⟩) (by simp) (.slice none 0 0)).setCell (p := ⟨w.heap.size + 1, 9, none⟩) (by simp) (.slice none 0 0))
  go_wp2_with fail
  refine bodyPost_ret (results_cell1 (P := Try.prog) rfl _ _ (w.heap.size + 1) 26 #[.int .u8 q.kind, .int .u64 q.a, .int .u64 0, .int .u64 0, .int .u64 0, .int .u64 0, .string ⟨#[]⟩, .slice none 0 0, .slice none 0 0, .slice none 0 0] (0, 0) _ rfl (unhide RF) Try.underlying26 rfl callInfo) rfl ?_
  exact ⟨rfl, unhide BF⟩

set_option maxRecDepth 20000 in
set_option maxHeartbeats 4000000 in
theorem only_6566 (q : Cl.C) (x y z : Sl) (w : World) (hk : q.kind < 256) (h65 : hasB q.kind 65 = true) (h66 : hasB q.kind 66 = true) (h67 : hasB q.kind 67 = false) (h68 : hasB q.kind 68 = false) (h80 : hasB q.kind 80 = false) (h86 : hasB q.kind 86 = false) (h88 : hasB q.kind 88 = false) :
    Calls Try.prog 37 #[.agg (clCells q x y z)] w fun e w' => e = .returned (.agg #[.int .u8 q.kind, .int .u64 q.a, .int .u64 q.b, .int .u64 0, .int .u64 0, .int .u64 0, .string ⟨#[]⟩, .slice none 0 0, .slice none 0 0, .slice none 0 0]) ∧ Below w.heap.size w w' := by
  have K65 := hide (fun w => rhas_at q.kind 65 _ w hk h65)
  have K66 := hide (fun w => rhas_at q.kind 66 _ w hk h66)
  have K67 := hide (fun w => rhas_at q.kind 67 _ w hk h67)
  have K68 := hide (fun w => rhas_at q.kind 68 _ w hk h68)
  have K80 := hide (fun w => rhas_at q.kind 80 _ w hk h80)
  have K86 := hide (fun w => rhas_at q.kind 86 _ w hk h86)
  have K88 := hide (fun w => rhas_at q.kind 88 _ w hk h88)
  clear h65 h66 h67 h68 h80 h86 h88 hk
  obtain ⟨bi, br, bo, hb⟩ := only_start w #[.int .u8 q.kind, .int .u64 q.a, .int .u64 q.b, .int .u64 q.c, .int .u64 q.d, .int .u64 q.e, .string q.path, .slice x.A x.n x.c, .slice y.A y.n y.c, .slice z.A z.n z.c] #[.int .u8 0, .int .u64 0, .int .u64 0, .int .u64 0, .int .u64 0, .int .u64 0, .string ⟨#[]⟩, .slice none 0 0, .slice none 0 0, .slice none 0 0] #[.int .u8 q.kind, .int .u64 0, .int .u64 0, .int .u64 0, .int .u64 0, .int .u64 0, .string ⟨#[]⟩, .slice none 0 0, .slice none 0 0, .slice none 0 0]
  have BI := hide bi
  have BR := hide br
  have BO := hide bo
  have HB := hide hb
  clear bi br bo hb
  go_enter Try.func37, Try.ntmps37
  go_wp2_with fail
  refine ((unhide K65) _).mono ?_
  rintro e w1 ⟨rfl, hb⟩
  have bi := (unhide BI).belowSz hb
  have br := (unhide BR).belowSz hb
  have bo := (unhide BO).belowSz hb
  have hb2 := (unhide HB).trans (hb.mono (unhide HB).size)
  clear hb BI BR BO HB
  have i0 := bi.cell (i := 0) rfl
  have i1 := bi.cell (i := 1) rfl
  have o1 := bo.cell (i := 1) rfl
  have f1 := bo.free 1
  have BI := hide bi
  have BR := hide br
  have BO := hide bo
  have HB := hide hb2
  clear bi br bo hb2
  go_wp2_with fail
  clear i0 i1 o1 f1
  have BI := hide ((unhide BI).other (p := ⟨w.heap.size + 2, 1, none⟩) (by simp) (.int .u64 q.a))
  have BR := hide ((unhide BR).other (p := ⟨w.heap.size + 2, 1, none⟩) (by simp) (.int .u64 q.a))
  have BO := hide ((unhide BO).set 1 (.int .u64 q.a))
  have HB := hide ((unhide HB).setCell (p := ⟨w.heap.size + 2, 1, none⟩) (by simp) (.int .u64 q.a))
  refine ((unhide K66) _).mono ?_
  rintro e w2 ⟨rfl, hb⟩
  have bi := (unhide BI).belowSz hb
  have br := (unhide BR).belowSz hb
  have bo := (unhide BO).belowSz hb
  have hb2 := (unhide HB).trans (hb.mono (unhide HB).size)
  clear hb BI BR BO HB
  have i0 := bi.cell (i := 0) rfl
  have i2 := bi.cell (i := 2) rfl
  have o2 := bo.cell (i := 2) rfl
  have f2 := bo.free 2
  have BI := hide bi
  have BR := hide br
  have BO := hide bo
  have HB := hide hb2
  clear bi br bo hb2
  go_wp2_with fail
  clear i0 i2 o2 f2
  have BI := hide ((unhide BI).other (p := ⟨w.heap.size + 2, 2, none⟩) (by simp) (.int .u64 q.b))
  have BR := hide ((unhide BR).other (p := ⟨w.heap.size + 2, 2, none⟩) (by simp) (.int .u64 q.b))
  have BO := hide ((unhide BO).set 2 (.int .u64 q.b))
  have HB := hide ((unhide HB).setCell (p := ⟨w.heap.size + 2, 2, none⟩) (by simp) (.int .u64 q.b))
  refine ((unhide K67) _).mono ?_
  rintro e w3 ⟨rfl, hb⟩
  have bi := (unhide BI).belowSz hb
  have br := (unhide BR).belowSz hb
  have bo := (unhide BO).belowSz hb
  have hb2 := (unhide HB).trans (hb.mono (unhide HB).size)
  clear hb BI BR BO HB
  have i0 := bi.cell (i := 0) rfl
  have BI := hide bi
  have BR := hide br
  have BO := hide bo
  have HB := hide hb2
  clear bi br bo hb2
  go_wp2_with fail
  clear i0
  refine ((unhide K68) _).mono ?_
  rintro e w4 ⟨rfl, hb⟩
  have bi := (unhide BI).belowSz hb
  have br := (unhide BR).belowSz hb
  have bo := (unhide BO).belowSz hb
  have hb2 := (unhide HB).trans (hb.mono (unhide HB).size)
  clear hb BI BR BO HB
  have i0 := bi.cell (i := 0) rfl
  have BI := hide bi
  have BR := hide br
  have BO := hide bo
  have HB := hide hb2
  clear bi br bo hb2
  go_wp2_with fail
  clear i0
  refine ((unhide K80) _).mono ?_
  rintro e w5 ⟨rfl, hb⟩
  have bi := (unhide BI).belowSz hb
  have br := (unhide BR).belowSz hb
  have bo := (unhide BO).belowSz hb
  have hb2 := (unhide HB).trans (hb.mono (unhide HB).size)
  clear hb BI BR BO HB
  have i0 := bi.cell (i := 0) rfl
  have BI := hide bi
  have BR := hide br
  have BO := hide bo
  have HB := hide hb2
  clear bi br bo hb2
  go_wp2_with fail
  clear i0
  refine ((unhide K86) _).mono ?_
  rintro e w6 ⟨rfl, hb⟩
  have bi := (unhide BI).belowSz hb
  have br := (unhide BR).belowSz hb
  have bo := (unhide BO).belowSz hb
  have hb2 := (unhide HB).trans (hb.mono (unhide HB).size)
  clear hb BI BR BO HB
  have i0 := bi.cell (i := 0) rfl
  have BI := hide bi
  have BR := hide br
  have BO := hide bo
  have HB := hide hb2
  clear bi br bo hb2
  go_wp2_with fail
  clear i0
  refine ((unhide K88) _).mono ?_
  rintro e w7 ⟨rfl, hb⟩
  have bi := (unhide BI).belowSz hb
  have br := (unhide BR).belowSz hb
  have bo := (unhide BO).belowSz hb
  have hb2 := (unhide HB).trans (hb.mono (unhide HB).size)
  clear hb BI BR BO HB
  have i0 := bi.cell (i := 0) rfl
  have o0 := bo.cell (i := 0) rfl
  have r0 := br.cell (i := 0) rfl
  have s0 := br.free 0
  have o1 := bo.cell (i := 1) rfl
  have r1 := br.cell (i := 1) rfl
  have s1 := br.free 1
  have o2 := bo.cell (i := 2) rfl
  have r2 := br.cell (i := 2) rfl
  have s2 := br.free 2
  have o3 := bo.cell (i := 3) rfl
  have r3 := br.cell (i := 3) rfl
  have s3 := br.free 3
  have o4 := bo.cell (i := 4) rfl
  have r4 := br.cell (i := 4) rfl
  have s4 := br.free 4
  have o5 := bo.cell (i := 5) rfl
  have r5 := br.cell (i := 5) rfl
  have s5 := br.free 5
  have o6 := bo.cell (i := 6) rfl
  have r6 := br.cell (i := 6) rfl
  have s6 := br.free 6
  have o7 := bo.cell (i := 7) rfl
  have r7 := br.cell (i := 7) rfl
  have s7 := br.free 7
  have o8 := bo.cell (i := 8) rfl
  have r8 := br.cell (i := 8) rfl
  have s8 := br.free 8
  have o9 := bo.cell (i := 9) rfl
  have r9 := br.cell (i := 9) rfl
  have s9 := br.free 9
  have BI := hide bi
  have BR := hide br
  have BO := hide bo
  have HB := hide hb2
  clear bi br bo hb2
  have RF := hide (((((((((((unhide BR).set 0 (.int .u8 q.kind)).set 1 (.int .u64 q.a)).set 2 (.int .u64 q.b)).set 3 (.int .u64 0)).set 4 (.int .u64 0)).set 5 (.int .u64 0)).set 6 (.string ⟨#[]⟩)).set 7 (.slice none 0 0)).set 8 (.slice none 0 0)).set 9 (.slice none 0 0))
  have BF := hide (((((((((((unhide HB).setCell (p := ⟨w.heap.size + 1, 0, none⟩) (by simp) (.int .u8 q.kind)).setCell (p := ⟨w.heap.size + 1, 1, none⟩) (by simp) (.int .u64 q.a)).setCell (p := ⟨w.heap.size + 1, 2, none⟩) (by simp) (.int .u64 q.b)).setCell (p := ⟨w.heap.size + 1, 3, none⟩) (by simp) (.int .u64 0)).setCell (p := ⟨w.heap.size + 1, 4, none⟩) (by simp) (.int .u64 0)).setCell (p := ⟨w.heap.size + 1, 5, none⟩) (by simp) (.int .u64 0)).setCell (p := ⟨w.heap.size + 1, 6, none⟩) (by simp) (.string ⟨#[]⟩)).setCell (p := ⟨w.heap.size + 1, 7, none⟩) (by simp) (.slice none 0 0)).setCell (p := ⟨w.heap.size + 1, 8, none⟩) (by simp) (.slice none 0 0)).setCell (p := ⟨w.heap.size + 1, 9, none⟩) (by simp) (.slice none 0 0))
  go_wp2_with fail
  refine bodyPost_ret (results_cell1 (P := Try.prog) rfl _ _ (w.heap.size + 1) 26 #[.int .u8 q.kind, .int .u64 q.a, .int .u64 q.b, .int .u64 0, .int .u64 0, .int .u64 0, .string ⟨#[]⟩, .slice none 0 0, .slice none 0 0, .slice none 0 0] (0, 0) _ rfl (unhide RF) Try.underlying26 rfl callInfo) rfl ?_
  exact ⟨rfl, unhide BF⟩

set_option maxRecDepth 20000 in
set_option maxHeartbeats 4000000 in
theorem only_656667 (q : Cl.C) (x y z : Sl) (w : World) (hk : q.kind < 256) (h65 : hasB q.kind 65 = true) (h66 : hasB q.kind 66 = true) (h67 : hasB q.kind 67 = true) (h68 : hasB q.kind 68 = false) (h80 : hasB q.kind 80 = false) (h86 : hasB q.kind 86 = false) (h88 : hasB q.kind 88 = false) :
    Calls Try.prog 37 #[.agg (clCells q x y z)] w fun e w' => e = .returned (.agg #[.int .u8 q.kind, .int .u64 q.a, .int .u64 q.b, .int .u64 q.c, .int .u64 0, .int .u64 0, .string ⟨#[]⟩, .slice none 0 0, .slice none 0 0, .slice none 0 0]) ∧ Below w.heap.size w w' := by
  have K65 := hide (fun w => rhas_at q.kind 65 _ w hk h65)
  have K66 := hide (fun w => rhas_at q.kind 66 _ w hk h66)
  have K67 := hide (fun w => rhas_at q.kind 67 _ w hk h67)
  have K68 := hide (fun w => rhas_at q.kind 68 _ w hk h68)
  have K80 := hide (fun w => rhas_at q.kind 80 _ w hk h80)
  have K86 := hide (fun w => rhas_at q.kind 86 _ w hk h86)
  have K88 := hide (fun w => rhas_at q.kind 88 _ w hk h88)
  clear h65 h66 h67 h68 h80 h86 h88 hk
  obtain ⟨bi, br, bo, hb⟩ := only_start w #[.int .u8 q.kind, .int .u64 q.a, .int .u64 q.b, .int .u64 q.c, .int .u64 q.d, .int .u64 q.e, .string q.path, .slice x.A x.n x.c, .slice y.A y.n y.c, .slice z.A z.n z.c] #[.int .u8 0, .int .u64 0, .int .u64 0, .int .u64 0, .int .u64 0, .int .u64 0, .string ⟨#[]⟩, .slice none 0 0, .slice none 0 0, .slice none 0 0] #[.int .u8 q.kind, .int .u64 0, .int .u64 0, .int .u64 0, .int .u64 0, .int .u64 0, .string ⟨#[]⟩, .slice none 0 0, .slice none 0 0, .slice none 0 0]
  have BI := hide bi
  have BR := hide br
  have BO := hide bo
  have HB := hide hb
  clear bi br bo hb
  go_enter Try.func37, Try.ntmps37
  go_wp2_with fail
  refine ((unhide K65) _).mono ?_
  rintro e w1 ⟨rfl, hb⟩
  have bi := (unhide BI).belowSz hb
  have br := (unhide BR).belowSz hb
  have bo := (unhide BO).belowSz hb
  have hb2 := (unhide HB).trans (hb.mono (unhide HB).size)
  clear hb BI BR BO HB
  have i0 := bi.cell (i := 0) rfl
  have i1 := bi.cell (i := 1) rfl
  have o1 := bo.cell (i := 1) rfl
  have f1 := bo.free 1
  have BI := hide bi
  have BR := hide br
  have BO := hide bo
  have HB := hide hb2
  clear bi br bo hb2
  go_wp2_with fail
  clear i0 i1 o1 f1
  have BI := hide ((unhide BI).other (p := ⟨w.heap.size + 2, 1, none⟩) (by simp) (.int .u64 q.a))
  have BR := hide ((unhide BR).other (p := ⟨w.heap.size + 2, 1, none⟩) (by simp) (.int .u64 q.a))
  have BO := hide ((unhide BO).set 1 (.int .u64 q.a))
  have HB := hide ((unhide HB).setCell (p := ⟨w.heap.size + 2, 1, none⟩) (by simp) (.int .u64 q.a))
  refine ((unhide K66) _).mono ?_
  rintro e w2 ⟨rfl, hb⟩
  have bi := (unhide BI).belowSz hb
  have br := (unhide BR).belowSz hb
  have bo := (unhide BO).belowSz hb
  have hb2 := (unhide HB).trans (hb.mono (unhide HB).size)
  clear hb BI BR BO HB
  have i0 := bi.cell (i := 0) rfl
  have i2 := bi.cell (i := 2) rfl
  have o2 := bo.cell (i := 2) rfl
  have f2 := bo.free 2
  have BI := hide bi
  have BR := hide br
  have BO := hide bo
  have HB := hide hb2
  clear bi br bo hb2
  go_wp2_with fail
  clear i0 i2 o2 f2
  have BI := hide ((unhide BI).other (p := ⟨w.heap.size + 2, 2, none⟩) (by simp) (.int .u64 q.b))
  have BR := hide ((unhide BR).other (p := ⟨w.heap.size + 2, 2, none⟩) (by simp) (.int .u64 q.b))
  have BO := hide ((unhide BO).set 2 (.int .u64 q.b))
  have HB := hide ((unhide HB).setCell (p := ⟨w.heap.size + 2, 2, none⟩) (by simp) (.int .u64 q.b))
  refine ((unhide K67) _).mono ?_
  rintro e w3 ⟨rfl, hb⟩
  have bi := (unhide BI).belowSz hb
  have br := (unhide BR).belowSz hb
  have bo := (unhide BO).belowSz hb
  have hb2 := (unhide HB).trans (hb.mono (unhide HB).size)
  clear hb BI BR BO HB
  have i0 := bi.cell (i := 0) rfl
  have i3 := bi.cell (i := 3) rfl
  have o3 := bo.cell (i := 3) rfl
  have f3 := bo.free 3
  have BI := hide bi
  have BR := hide br
  have BO := hide bo
  have HB := hide hb2
  clear bi br bo hb2
  go_wp2_with fail
  clear i0 i3 o3 f3
  have BI := hide ((unhide BI).other (p := ⟨w.heap.size + 2, 3, none⟩) (by simp) (.int .u64 q.c))
  have BR := hide ((unhide BR).other (p := ⟨w.heap.size + 2, 3, none⟩) (by simp) (.int .u64 q.c))
  have BO := hide ((unhide BO).set 3 (.int .u64 q.c))
  have HB := hide ((unhide HB).setCell (p := ⟨w.heap.size + 2, 3, none⟩) (by simp) (.int .u64 q.c))
  refine ((unhide K68) _).mono ?_
  rintro e w4 ⟨rfl, hb⟩
  have bi := (unhide BI).belowSz hb
  have br := (unhide BR).belowSz hb
  have bo := (unhide BO).belowSz hb
  have hb2 := (unhide HB).trans (hb.mono (unhide HB).size)
  clear hb BI BR BO HB
  have i0 := bi.cell (i := 0) rfl
  have BI := hide bi
  have BR := hide br
  have BO := hide bo
  have HB := hide hb2
  clear bi br bo hb2
  go_wp2_with fail
  clear i0
  refine ((unhide K80) _).mono ?_
  rintro e w5 ⟨rfl, hb⟩
  have bi := (unhide BI).belowSz hb
  have br := (unhide BR).belowSz hb
  have bo := (unhide BO).belowSz hb
  have hb2 := (unhide HB).trans (hb.mono (unhide HB).size)
  clear hb BI BR BO HB
  have i0 := bi.cell (i := 0) rfl
  have BI := hide bi
  have BR := hide br
  have BO := hide bo
  have HB := hide hb2
  clear bi br bo hb2
  go_wp2_with fail
  clear i0
  refine ((unhide K86) _).mono ?_
  rintro e w6 ⟨rfl, hb⟩
  have bi := (unhide BI).belowSz hb
  have br := (unhide BR).belowSz hb
  have bo := (unhide BO).belowSz hb
  have hb2 := (unhide HB).trans (hb.mono (unhide HB).size)
  clear hb BI BR BO HB
  have i0 := bi.cell (i := 0) rfl
  have BI := hide bi
  have BR := hide br
  have BO := hide bo
  have HB := hide hb2
  clear bi br bo hb2
  go_wp2_with fail
  clear i0
  refine ((unhide K88) _).mono ?_
  rintro e w7 ⟨rfl, hb⟩
  have bi := (unhide BI).belowSz hb
  have br := (unhide BR).belowSz hb
  have bo := (unhide BO).belowSz hb
  have hb2 := (unhide HB).trans (hb.mono (unhide HB).size)
  clear hb BI BR BO HB
  have i0 := bi.cell (i := 0) rfl
  have o0 := bo.cell (i := 0) rfl
  have r0 := br.cell (i := 0) rfl
  have s0 := br.free 0
  have o1 := bo.cell (i := 1) rfl
  have r1 := br.cell (i := 1) rfl
  have s1 := br.free 1
  have o2 := bo.cell (i := 2) rfl
  have r2 := br.cell (i := 2) rfl
  have s2 := br.free 2
  have o3 := bo.cell (i := 3) rfl
  have r3 := br.cell (i := 3) rfl
  have s3 := br.free 3
  have o4 := bo.cell (i := 4) rfl
  have r4 := br.cell (i := 4) rfl
  have s4 := br.free 4
  have o5 := bo.cell (i := 5) rfl
  have r5 := br.cell (i := 5) rfl
  have s5 := br.free 5
  have o6 := bo.cell (i := 6) rfl
  have r6 := br.cell (i := 6) rfl
  have s6 := br.free 6
  have o7 := bo.cell (i := 7) rfl
  have r7 := br.cell (i := 7) rfl
  have s7 := br.free 7
  have o8 := bo.cell (i := 8) rfl
  have r8 := br.cell (i := 8) rfl
  have s8 := br.free 8
  have o9 := bo.cell (i := 9) rfl
  have r9 := br.cell (i := 9) rfl
  have s9 := br.free 9
  have BI := hide bi
  have BR := hide br
  have BO := hide bo
  have HB := hide hb2
  clear bi br bo hb2
  have RF := hide (((((((((((unhide BR).set 0 (.int .u8 q.kind)).set 1 (.int .u64 q.a)).set 2 (.int .u64 q.b)).set 3 (.int .u64 q.c)).set 4 (.int .u64 0)).set 5 (.int .u64 0)).set 6 (.string ⟨#[]⟩)).set 7 (.slice none 0 0)).set 8 (.slice none 0 0)).set 9 (.slice none 0 0))
  have BF := hide (((((((((((unhide HB).setCell (p := ⟨w.heap.size + 1, 0, none⟩) (by simp) (.int .u8 q.kind)).setCell (p := ⟨w.heap.size + 1, 1, none⟩) (by simp) (.int .u64 q.a)).setCell (p := ⟨w.heap.size + 1, 2, none⟩) (by simp) (.int .u64 q.b)).setCell (p := ⟨w.heap.size + 1, 3, none⟩) (by simp) (.int .u64 q.c)).setCell (p := ⟨w.heap.size + 1, 4, none⟩) (by simp) (.int .u64 0)).setCell (p := ⟨w.heap.size + 1, 5, none⟩) (by simp) (.int .u64 0)).setCell (p := ⟨w.heap.size + 1, 6, none⟩) (by simp) (.string ⟨#[]⟩)).setCell (p := ⟨w.heap.size + 1, 7, none⟩) (by simp) (.slice none 0 0)).setCell (p := ⟨w.heap.size + 1, 8, none⟩) (by simp) (.slice none 0 0)).setCell (p := ⟨w.heap.size + 1, 9, none⟩) (by simp) (.slice none 0 0))
  go_wp2_with fail
  refine bodyPost_ret (results_cell1 (P := Try.prog) rfl _ _ (w.heap.size + 1) 26 #[.int .u8 q.kind, .int .u64 q.a, .int .u64 q.b, .int .u64 q.c, .int .u64 0, .int .u64 0, .string ⟨#[]⟩, .slice none 0 0, .slice none 0 0, .slice none 0 0] (0, 0) _ rfl (unhide RF) Try.underlying26 rfl callInfo) rfl ?_
  exact ⟨rfl, unhide BF⟩

set_option maxRecDepth 20000 in
set_option maxHeartbeats 4000000 in
theorem only_65666768 (q : Cl.C) (x y z : Sl) (w : World) (hk : q.kind < 256) (h65 : hasB q.kind 65 = true) (h66 : hasB q.kind 66 = true) (h67 : hasB q.kind 67 = true) (h68 : hasB q.kind 68 = true) (h80 : hasB q.kind 80 = false) (h86 : hasB q.kind 86 = false) (h88 : hasB q.kind 88 = false) :
    Calls Try.prog 37 #[.agg (clCells q x y z)] w fun e w' => e = .returned (.agg #[.int .u8 q.kind, .int .u64 q.a, .int .u64 q.b, .int .u64 q.c, .int .u64 q.d, .int .u64 q.e, .string ⟨#[]⟩, .slice none 0 0, .slice none 0 0, .slice none 0 0]) ∧ Below w.heap.size w w' := by
  have K65 := hide (fun w => rhas_at q.kind 65 _ w hk h65)
  have K66 := hide (fun w => rhas_at q.kind 66 _ w hk h66)
  have K67 := hide (fun w => rhas_at q.kind 67 _ w hk h67)
  have K68 := hide (fun w => rhas_at q.kind 68 _ w hk h68)
  have K80 := hide (fun w => rhas_at q.kind 80 _ w hk h80)
  have K86 := hide (fun w => rhas_at q.kind 86 _ w hk h86)
  have K88 := hide (fun w => rhas_at q.kind 88 _ w hk h88)
  clear h65 h66 h67 h68 h80 h86 h88 hk
  obtain ⟨bi, br, bo, hb⟩ := only_start w #[.int .u8 q.kind, .int .u64 q.a, .int .u64 q.b, .int .u64 q.c, .int .u64 q.d, .int .u64 q.e, .string q.path, .slice x.A x.n x.c, .slice y.A y.n y.c, .slice z.A z.n z.c] #[.int .u8 0, .int .u64 0, .int .u64 0, .int .u64 0, .int .u64 0, .int .u64 0, .string ⟨#[]⟩, .slice none 0 0, .slice none 0 0, .slice none 0 0] #[.int .u8 q.kind, .int .u64 0, .int .u64 0, .int .u64 0, .int .u64 0, .int .u64 0, .string ⟨#[]⟩, .slice none 0 0, .slice none 0 0, .slice none 0 0]
  have BI := hide bi
  have BR := hide br
  have BO := hide bo
  have HB := hide hb
  clear bi br bo hb
  go_enter Try.func37, Try.ntmps37
  go_wp2_with fail
  refine ((unhide K65) _).mono ?_
  rintro e w1 ⟨rfl, hb⟩
  have bi := (unhide BI).belowSz hb
  have br := (unhide BR).belowSz hb
  have bo := (unhide BO).belowSz hb
  have hb2 := (unhide HB).trans (hb.mono (unhide HB).size)
  clear hb BI BR BO HB
  have i0 := bi.cell (i := 0) rfl
  have i1 := bi.cell (i := 1) rfl
  have o1 := bo.cell (i := 1) rfl
  have f1 := bo.free 1
  have BI := hide bi
  have BR := hide br
  have BO := hide bo
  have HB := hide hb2
  clear bi br bo hb2
  go_wp2_with fail
  clear i0 i1 o1 f1
  have BI := hide ((unhide BI).other (p := ⟨w.heap.size + 2, 1, none⟩) (by simp) (.int .u64 q.a))
  have BR := hide ((unhide BR).other (p := ⟨w.heap.size + 2, 1, none⟩) (by simp) (.int .u64 q.a))
  have BO := hide ((unhide BO).set 1 (.int .u64 q.a))
  have HB := hide ((unhide HB).setCell (p := ⟨w.heap.size + 2, 1, none⟩) (by simp) (.int .u64 q.a))
  refine ((unhide K66) _).mono ?_
  rintro e w2 ⟨rfl, hb⟩
  have bi := (unhide BI).belowSz hb
  have br := (unhide BR).belowSz hb
  have bo := (unhide BO).belowSz hb
  have hb2 := (unhide HB).trans (hb.mono (unhide HB).size)
  clear hb BI BR BO HB
  have i0 := bi.cell (i := 0) rfl
  have i2 := bi.cell (i := 2) rfl
  have o2 := bo.cell (i := 2) rfl
  have f2 := bo.free 2
  have BI := hide bi
  have BR := hide br
  have BO := hide bo
  have HB := hide hb2
  clear bi br bo hb2
  go_wp2_with fail
  clear i0 i2 o2 f2
  have BI := hide ((unhide BI).other (p := ⟨w.heap.size + 2, 2, none⟩) (by simp) (.int .u64 q.b))
  have BR := hide ((unhide BR).other (p := ⟨w.heap.size + 2, 2, none⟩) (by simp) (.int .u64 q.b))
  have BO := hide ((unhide BO).set 2 (.int .u64 q.b))
  have HB := hide ((unhide HB).setCell (p := ⟨w.heap.size + 2, 2, none⟩) (by simp) (.int .u64 q.b))
  refine ((unhide K67) _).mono ?_
  rintro e w3 ⟨rfl, hb⟩
  have bi := (unhide BI).belowSz hb
  have br := (unhide BR).belowSz hb
  have bo := (unhide BO).belowSz hb
  have hb2 := (unhide HB).trans (hb.mono (unhide HB).size)
  clear hb BI BR BO HB
  have i0 := bi.cell (i := 0) rfl
  have i3 := bi.cell (i := 3) rfl
  have o3 := bo.cell (i := 3) rfl
  have f3 := bo.free 3
  have BI := hide bi
  have BR := hide br
  have BO := hide bo
  have HB := hide hb2
  clear bi br bo hb2
  go_wp2_with fail
  clear i0 i3 o3 f3
  have BI := hide ((unhide BI).other (p := ⟨w.heap.size + 2, 3, none⟩) (by simp) (.int .u64 q.c))
  have BR := hide ((unhide BR).other (p := ⟨w.heap.size + 2, 3, none⟩) (by simp) (.int .u64 q.c))
  have BO := hide ((unhide BO).set 3 (.int .u64 q.c))
  have HB := hide ((unhide HB).setCell (p := ⟨w.heap.size + 2, 3, none⟩) (by simp) (.int .u64 q.c))
  refine ((unhide K68) _).mono ?_
  rintro e w4 ⟨rfl, hb⟩
  have bi := (unhide BI).belowSz hb
  have br := (unhide BR).belowSz hb
  have bo := (unhide BO).belowSz hb
  have hb2 := (unhide HB).trans (hb.mono (unhide HB).size)
  clear hb BI BR BO HB
  have i0 := bi.cell (i := 0) rfl
  have i4 := bi.cell (i := 4) rfl
  have o4 := bo.cell (i := 4) rfl
  have f4 := bo.free 4
  have i5 := bi.cell (i := 5) rfl
  have o5 := bo.cell (i := 5) rfl
  have f5 := bo.free 5
  have BI := hide bi
  have BR := hide br
  have BO := hide bo
  have HB := hide hb2
  clear bi br bo hb2
  go_wp2_with fail
  clear i0 i4 o4 f4 i5 o5 f5
  have BI := hide ((unhide BI).other (p := ⟨w.heap.size + 2, 4, none⟩) (by simp) (.int .u64 q.d))
  have BR := hide ((unhide BR).other (p := ⟨w.heap.size + 2, 4, none⟩) (by simp) (.int .u64 q.d))
  have BO := hide ((unhide BO).set 4 (.int .u64 q.d))
  have HB := hide ((unhide HB).setCell (p := ⟨w.heap.size + 2, 4, none⟩) (by simp) (.int .u64 q.d))
  have BI := hide ((unhide BI).other (p := ⟨w.heap.size + 2, 5, none⟩) (by simp) (.int .u64 q.e))
  have BR := hide ((unhide BR).other (p := ⟨w.heap.size + 2, 5, none⟩) (by simp) (.int .u64 q.e))
  have BO := hide ((unhide BO).set 5 (.int .u64 q.e))
  have HB := hide ((unhide HB).setCell (p := ⟨w.heap.size + 2, 5, none⟩) (by simp) (.int .u64 q.e))
  refine ((unhide K80) _).mono ?_
  rintro e w5 ⟨rfl, hb⟩
  have bi := (unhide BI).belowSz hb
  have br := (unhide BR).belowSz hb
  have bo := (unhide BO).belowSz hb
  have hb2 := (unhide HB).trans (hb.mono (unhide HB).size)
  clear hb BI BR BO HB
  have i0 := bi.cell (i := 0) rfl
  have BI := hide bi
  have BR := hide br
  have BO := hide bo
  have HB := hide hb2
  clear bi br bo hb2
  go_wp2_with fail
  clear i0
  refine ((unhide K86) _).mono ?_
  rintro e w6 ⟨rfl, hb⟩
  have bi := (unhide BI).belowSz hb
  have br := (unhide BR).belowSz hb
  have bo := (unhide BO).belowSz hb
  have hb2 := (unhide HB).trans (hb.mono (unhide HB).size)
  clear hb BI BR BO HB
  have i0 := bi.cell (i := 0) rfl
  have BI := hide bi
  have BR := hide br
  have BO := hide bo
  have HB := hide hb2
  clear bi br bo hb2
  go_wp2_with fail
  clear i0
  refine ((unhide K88) _).mono ?_
  rintro e w7 ⟨rfl, hb⟩
  have bi := (unhide BI).belowSz hb
  have br := (unhide BR).belowSz hb
  have bo := (unhide BO).belowSz hb
  have hb2 := (unhide HB).trans (hb.mono (unhide HB).size)
  clear hb BI BR BO HB
  have i0 := bi.cell (i := 0) rfl
  have o0 := bo.cell (i := 0) rfl
  have r0 := br.cell (i := 0) rfl
  have s0 := br.free 0
  have o1 := bo.cell (i := 1) rfl
  have r1 := br.cell (i := 1) rfl
  have s1 := br.free 1
  have o2 := bo.cell (i := 2) rfl
  have r2 := br.cell (i := 2) rfl
  have s2 := br.free 2
  have o3 := bo.cell (i := 3) rfl
  have r3 := br.cell (i := 3) rfl
  have s3 := br.free 3
  have o4 := bo.cell (i := 4) rfl
  have r4 := br.cell (i := 4) rfl
  have s4 := br.free 4
  have o5 := bo.cell (i := 5) rfl
  have r5 := br.cell (i := 5) rfl
  have s5 := br.free 5
  have o6 := bo.cell (i := 6) rfl
  have r6 := br.cell (i := 6) rfl
  have s6 := br.free 6
  have o7 := bo.cell (i := 7) rfl
  have r7 := br.cell (i := 7) rfl
  have s7 := br.free 7
  have o8 := bo.cell (i := 8) rfl
  have r8 := br.cell (i := 8) rfl
  have s8 := br.free 8
  have o9 := bo.cell (i := 9) rfl
  have r9 := br.cell (i := 9) rfl
  have s9 := br.free 9
  have BI := hide bi
  have BR := hide br
  have BO := hide bo
  have HB := hide hb2
  clear bi br bo hb2
  have RF := hide (((((((((((unhide BR).set 0 (.int .u8 q.kind)).set 1 (.int .u64 q.a)).set 2 (.int .u64 q.b)).set 3 (.int .u64 q.c)).set 4 (.int .u64 q.d)).set 5 (.int .u64 q.e)).set 6 (.string ⟨#[]⟩)).set 7 (.slice none 0 0)).set 8 (.slice none 0 0)).set 9 (.slice none 0 0))
  have BF := hide (((((((((((unhide HB).setCell (p := ⟨w.heap.size + 1, 0, none⟩) (by simp) (.int .u8 q.kind)).setCell (p := ⟨w.heap.size + 1, 1, none⟩) (by simp) (.int .u64 q.a)).setCell (p := ⟨w.heap.size + 1, 2, none⟩) (by simp) (.int .u64 q.b)).setCell (p := ⟨w.heap.size + 1, 3, none⟩) (by simp) (.int .u64 q.c)).setCell (p := ⟨w.heap.size + 1, 4, none⟩) (by simp) (.int .u64 q.d)).setCell (p := ⟨w.heap.size + 1, 5, none⟩) (by simp) (.int .u64 q.e)).setCell (p := ⟨w.heap.size + 1, 6, none⟩) (by simp) (.string ⟨#[]⟩)).setCell (p := ⟨w.heap.size + 1, 7, none⟩) (by simp) (.slice none 0 0)).setCell (p := ⟨w.heap.size + 1, 8, none⟩) (by simp) (.slice none 0 0)).setCell (p := ⟨w.heap.size + 1, 9, none⟩) (by simp) (.slice none 0 0))
  go_wp2_with fail
  refine bodyPost_ret (results_cell1 (P := Try.prog) rfl _ _ (w.heap.size + 1) 26 #[.int .u8 q.kind, .int .u64 q.a, .int .u64 q.b, .int .u64 q.c, .int .u64 q.d, .int .u64 q.e, .string ⟨#[]⟩, .slice none 0 0, .slice none 0 0, .slice none 0 0] (0, 0) _ rfl (unhide RF) Try.underlying26 rfl callInfo) rfl ?_
  exact ⟨rfl, unhide BF⟩

set_option maxRecDepth 20000 in
set_option maxHeartbeats 4000000 in
theorem only_6588 (q : Cl.C) (x y z : Sl) (w : World) (hk : q.kind < 256) (h65 : hasB q.kind 65 = true) (h66 : hasB q.kind 66 = false) (h67 : hasB q.kind 67 = false) (h68 : hasB q.kind 68 = false) (h80 : hasB q.kind 80 = false) (h86 : hasB q.kind 86 = false) (h88 : hasB q.kind 88 = true) :
    Calls Try.prog 37 #[.agg (clCells q x y z)] w fun e w' => e = .returned (.agg #[.int .u8 q.kind, .int .u64 q.a, .int .u64 0, .int .u64 0, .int .u64 0, .int .u64 0, .string ⟨#[]⟩, .slice none 0 0, .slice none 0 0, .slice z.A z.n z.c]) ∧ Below w.heap.size w w' := by
  have K65 := hide (fun w => rhas_at q.kind 65 _ w hk h65)
  have K66 := hide (fun w => rhas_at q.kind 66 _ w hk h66)
  have K67 := hide (fun w => rhas_at q.kind 67 _ w hk h67)
  have K68 := hide (fun w => rhas_at q.kind 68 _ w hk h68)
  have K80 := hide (fun w => rhas_at q.kind 80 _ w hk h80)
  have K86 := hide (fun w => rhas_at q.kind 86 _ w hk h86)
  have K88 := hide (fun w => rhas_at q.kind 88 _ w hk h88)
  clear h65 h66 h67 h68 h80 h86 h88 hk
  obtain ⟨bi, br, bo, hb⟩ := only_start w #[.int .u8 q.kind, .int .u64 q.a, .int .u64 q.b, .int .u64 q.c, .int .u64 q.d, .int .u64 q.e, .string q.path, .slice x.A x.n x.c, .slice y.A y.n y.c, .slice z.A z.n z.c] #[.int .u8 0, .int .u64 0, .int .u64 0, .int .u64 0, .int .u64 0, .int .u64 0, .string ⟨#[]⟩, .slice none 0 0, .slice none 0 0, .slice none 0 0] #[.int .u8 q.kind, .int .u64 0, .int .u64 0, .int .u64 0, .int .u64 0, .int .u64 0, .string ⟨#[]⟩, .slice none 0 0, .slice none 0 0, .slice none 0 0]
  have BI := hide bi
  have BR := hide br
  have BO := hide bo
  have HB := hide hb
  clear bi br bo hb
  go_enter Try.func37, Try.ntmps37
  go_wp2_with fail
  refine ((unhide K65) _).mono ?_
  rintro e w1 ⟨rfl, hb⟩
  have bi := (unhide BI).belowSz hb
  have br := (unhide BR).belowSz hb
  have bo := (unhide BO).belowSz hb
  have hb2 := (unhide HB).trans (hb.mono (unhide HB).size)
  clear hb BI BR BO HB
  have i0 := bi.cell (i := 0) rfl
  have i1 := bi.cell (i := 1) rfl
  have o1 := bo.cell (i := 1) rfl
  have f1 := bo.free 1
  have BI := hide bi
  have BR := hide br
  have BO := hide bo
  have HB := hide hb2
  clear bi br bo hb2
  go_wp2_with fail
  clear i0 i1 o1 f1
  have BI := hide ((unhide BI).other (p := ⟨w.heap.size + 2, 1, none⟩) (by simp) (.int .u64 q.a))
  have BR := hide ((unhide BR).other (p := ⟨w.heap.size + 2, 1, none⟩) (by simp) (.int .u64 q.a))
  have BO := hide ((unhide BO).set 1 (.int .u64 q.a))
  have HB := hide ((unhide HB).setCell (p := ⟨w.heap.size + 2, 1, none⟩) (by simp) (.int .u64 q.a))
  refine ((unhide K66) _).mono ?_
  rintro e w2 ⟨rfl, hb⟩
  have bi := (unhide BI).belowSz hb
  have br := (unhide BR).belowSz hb
  have bo := (unhide BO).belowSz hb
  have hb2 := (unhide HB).trans (hb.mono (unhide HB).size)
  clear hb BI BR BO HB
  have i0 := bi.cell (i := 0) rfl
  have BI := hide bi
  have BR := hide br
  have BO := hide bo
  have HB := hide hb2
  clear bi br bo hb2
  go_wp2_with fail
  clear i0
  refine ((unhide K67) _).mono ?_
  rintro e w3 ⟨rfl, hb⟩
  have bi := (unhide BI).belowSz hb
  have br := (unhide BR).belowSz hb
  have bo := (unhide BO).belowSz hb
  have hb2 := (unhide HB).trans (hb.mono (unhide HB).size)
  clear hb BI BR BO HB
  have i0 := bi.cell (i := 0) rfl
  have BI := hide bi
  have BR := hide br
  have BO := hide bo
  have HB := hide hb2
  clear bi br bo hb2
  go_wp2_with fail
  clear i0
  refine ((unhide K68) _).mono ?_
  rintro e w4 ⟨rfl, hb⟩
  have bi := (unhide BI).belowSz hb
  have br := (unhide BR).belowSz hb
  have bo := (unhide BO).belowSz hb
  have hb2 := (unhide HB).trans (hb.mono (unhide HB).size)
  clear hb BI BR BO HB
  have i0 := bi.cell (i := 0) rfl
  have BI := hide bi
  have BR := hide br
  have BO := hide bo
  have HB := hide hb2
  clear bi br bo hb2
  go_wp2_with fail
  clear i0
  refine ((unhide K80) _).mono ?_
  rintro e w5 ⟨rfl, hb⟩
  have bi := (unhide BI).belowSz hb
  have br := (unhide BR).belowSz hb
  have bo := (unhide BO).belowSz hb
  have hb2 := (unhide HB).trans (hb.mono (unhide HB).size)
  clear hb BI BR BO HB
  have i0 := bi.cell (i := 0) rfl
  have BI := hide bi
  have BR := hide br
  have BO := hide bo
  have HB := hide hb2
  clear bi br bo hb2
  go_wp2_with fail
  clear i0
  refine ((unhide K86) _).mono ?_
  rintro e w6 ⟨rfl, hb⟩
  have bi := (unhide BI).belowSz hb
  have br := (unhide BR).belowSz hb
  have bo := (unhide BO).belowSz hb
  have hb2 := (unhide HB).trans (hb.mono (unhide HB).size)
  clear hb BI BR BO HB
  have i0 := bi.cell (i := 0) rfl
  have BI := hide bi
  have BR := hide br
  have BO := hide bo
  have HB := hide hb2
  clear bi br bo hb2
  go_wp2_with fail
  clear i0
  refine ((unhide K88) _).mono ?_
  rintro e w7 ⟨rfl, hb⟩
  have bi := (unhide BI).belowSz hb
  have br := (unhide BR).belowSz hb
  have bo := (unhide BO).belowSz hb
  have hb2 := (unhide HB).trans (hb.mono (unhide HB).size)
  clear hb BI BR BO HB
  have i0 := bi.cell (i := 0) rfl
  have i9 := bi.cell (i := 9) rfl
  have o9 := bo.cell (i := 9) rfl
  have f9 := bo.free 9
  have o0 := bo.cell (i := 0) rfl
  have r0 := br.cell (i := 0) rfl
  have s0 := br.free 0
  have o1 := bo.cell (i := 1) rfl
  have r1 := br.cell (i := 1) rfl
  have s1 := br.free 1
  have o2 := bo.cell (i := 2) rfl
  have r2 := br.cell (i := 2) rfl
  have s2 := br.free 2
  have o3 := bo.cell (i := 3) rfl
  have r3 := br.cell (i := 3) rfl
  have s3 := br.free 3
  have o4 := bo.cell (i := 4) rfl
  have r4 := br.cell (i := 4) rfl
  have s4 := br.free 4
  have o5 := bo.cell (i := 5) rfl
  have r5 := br.cell (i := 5) rfl
  have s5 := br.free 5
  have o6 := bo.cell (i := 6) rfl
  have r6 := br.cell (i := 6) rfl
  have s6 := br.free 6
  have o7 := bo.cell (i := 7) rfl
  have r7 := br.cell (i := 7) rfl
  have s7 := br.free 7
  have o8 := bo.cell (i := 8) rfl
  have r8 := br.cell (i := 8) rfl
  have s8 := br.free 8
  have r9 := br.cell (i := 9) rfl
  have s9 := br.free 9
  have BI := hide bi
  have BR := hide br
  have BO := hide bo
  have HB := hide hb2
  clear bi br bo hb2
  have RF := hide ((((((((((((unhide BR).other (p := ⟨w.heap.size + 2, 9, none⟩) (by simp) (.slice z.A z.n z.c)).set 0 (.int .u8 q.kind)).set 1 (.int .u64 q.a)).set 2 (.int .u64 0)).set 3 (.int .u64 0)).set 4 (.int .u64 0)).set 5 (.int .u64 0)).set 6 (.string ⟨#[]⟩)).set 7 (.slice none 0 0)).set 8 (.slice none 0 0)).set 9 (.slice z.A z.n z.c))
  have BF := hide ((((((((((((unhide HB).setCell (p := ⟨w.heap.size + 2, 9, none⟩) (by simp) (.slice z.A z.n z.c)).setCell (p := ⟨w.heap.size + 1, 0, none⟩) (by simp) (.int .u8 q.kind)).setCell (p := ⟨w.heap.size + 1, 1, none⟩) (by simp) (.int .u64 q.a)).setCell (p := ⟨w.heap.size + 1, 2, none⟩) (by simp) (.int .u64 0)).setCell (p := ⟨w.heap.size + 1, 3, none⟩) (by simp) (.int .u64 0)).setCell (p := ⟨w.heap.size + 1, 4, none⟩) (by simp) (.int .u64 0)).setCell (p := ⟨w.heap.size + 1, 5, none⟩) (by simp) (.int .u64 0)).setCell (p := ⟨w.heap.size + 1, 6, none⟩) (by simp) (.string ⟨#[]⟩)).setCell (p := ⟨w.heap.size + 1, 7, none⟩) (by simp) (.slice none 0 0)).setCell (p := ⟨w.heap.size + 1, 8, none⟩) (by simp) (.slice none 0 0)).setCell (p := ⟨w.heap.size + 1, 9, none⟩) (by simp) (.slice z.A z.n z.c))
  go_wp2_with fail
  refine bodyPost_ret (results_cell1 (P := Try.prog) rfl _ _ (w.heap.size + 1) 26 #[.int .u8 q.kind, .int .u64 q.a, .int .u64 0, .int .u64 0, .int .u64 0, .int .u64 0, .string ⟨#[]⟩, .slice none 0 0, .slice none 0 0, .slice z.A z.n z.c] (0, 0) _ rfl (unhide RF) Try.underlying26 rfl callInfo) rfl ?_
  exact ⟨rfl, unhide BF⟩

set_option maxRecDepth 20000 in
set_option maxHeartbeats 4000000 in
theorem only_6580 (q : Cl.C) (x y z : Sl) (w : World) (hk : q.kind < 256) (h65 : hasB q.kind 65 = true) (h66 : hasB q.kind 66 = false) (h67 : hasB q.kind 67 = false) (h68 : hasB q.kind 68 = false) (h80 : hasB q.kind 80 = true) (h86 : hasB q.kind 86 = false) (h88 : hasB q.kind 88 = false) :
    Calls Try.prog 37 #[.agg (clCells q x y z)] w fun e w' => e = .returned (.agg #[.int .u8 q.kind, .int .u64 q.a, .int .u64 0, .int .u64 0, .int .u64 0, .int .u64 0, .string q.path, .slice none 0 0, .slice none 0 0, .slice none 0 0]) ∧ Below w.heap.size w w' := by
  have K65 := hide (fun w => rhas_at q.kind 65 _ w hk h65)
  have K66 := hide (fun w => rhas_at q.kind 66 _ w hk h66)
  have K67 := hide (fun w => rhas_at q.kind 67 _ w hk h67)
  have K68 := hide (fun w => rhas_at q.kind 68 _ w hk h68)
  have K80 := hide (fun w => rhas_at q.kind 80 _ w hk h80)
  have K86 := hide (fun w => rhas_at q.kind 86 _ w hk h86)
  have K88 := hide (fun w => rhas_at q.kind 88 _ w hk h88)
  clear h65 h66 h67 h68 h80 h86 h88 hk
  obtain ⟨bi, br, bo, hb⟩ := only_start w #[.int .u8 q.kind, .int .u64 q.a, .int .u64 q.b, .int .u64 q.c, .int .u64 q.d, .int .u64 q.e, .string q.path, .slice x.A x.n x.c, .slice y.A y.n y.c, .slice z.A z.n z.c] #[.int .u8 0, .int .u64 0, .int .u64 0, .int .u64 0, .int .u64 0, .int .u64 0, .string ⟨#[]⟩, .slice none 0 0, .slice none 0 0, .slice none 0 0] #[.int .u8 q.kind, .int .u64 0, .int .u64 0, .int .u64 0, .int .u64 0, .int .u64 0, .string ⟨#[]⟩, .slice none 0 0, .slice none 0 0, .slice none 0 0]
  have BI := hide bi
  have BR := hide br
  have BO := hide bo
  have HB := hide hb
  clear bi br bo hb
  go_enter Try.func37, Try.ntmps37
  go_wp2_with fail
  refine ((unhide K65) _).mono ?_
  rintro e w1 ⟨rfl, hb⟩
  have bi := (unhide BI).belowSz hb
  have br := (unhide BR).belowSz hb
  have bo := (unhide BO).belowSz hb
  have hb2 := (unhide HB).trans (hb.mono (unhide HB).size)
  clear hb BI BR BO HB
  have i0 := bi.cell (i := 0) rfl
  have i1 := bi.cell (i := 1) rfl
  have o1 := bo.cell (i := 1) rfl
  have f1 := bo.free 1
  have BI := hide bi
  have BR := hide br
  have BO := hide bo
  have HB := hide hb2
  clear bi br bo hb2
  go_wp2_with fail
  clear i0 i1 o1 f1
  have BI := hide ((unhide BI).other (p := ⟨w.heap.size + 2, 1, none⟩) (by simp) (.int .u64 q.a))
  have BR := hide ((unhide BR).other (p := ⟨w.heap.size + 2, 1, none⟩) (by simp) (.int .u64 q.a))
  have BO := hide ((unhide BO).set 1 (.int .u64 q.a))
  have HB := hide ((unhide HB).setCell (p := ⟨w.heap.size + 2, 1, none⟩) (by simp) (.int .u64 q.a))
  refine ((unhide K66) _).mono ?_
  rintro e w2 ⟨rfl, hb⟩
  have bi := (unhide BI).belowSz hb
  have br := (unhide BR).belowSz hb
  have bo := (unhide BO).belowSz hb
  have hb2 := (unhide HB).trans (hb.mono (unhide HB).size)
  clear hb BI BR BO HB
  have i0 := bi.cell (i := 0) rfl
  have BI := hide bi
  have BR := hide br
  have BO := hide bo
  have HB := hide hb2
  clear bi br bo hb2
  go_wp2_with fail
  clear i0
  refine ((unhide K67) _).mono ?_
  rintro e w3 ⟨rfl, hb⟩
  have bi := (unhide BI).belowSz hb
  have br := (unhide BR).belowSz hb
  have bo := (unhide BO).belowSz hb
  have hb2 := (unhide HB).trans (hb.mono (unhide HB).size)
  clear hb BI BR BO HB
  have i0 := bi.cell (i := 0) rfl
  have BI := hide bi
  have BR := hide br
  have BO := hide bo
  have HB := hide hb2
  clear bi br bo hb2
  go_wp2_with fail
  clear i0
  refine ((unhide K68) _).mono ?_
  rintro e w4 ⟨rfl, hb⟩
  have bi := (unhide BI).belowSz hb
  have br := (unhide BR).belowSz hb
  have bo := (unhide BO).belowSz hb
  have hb2 := (unhide HB).trans (hb.mono (unhide HB).size)
  clear hb BI BR BO HB
  have i0 := bi.cell (i := 0) rfl
  have BI := hide bi
  have BR := hide br
  have BO := hide bo
  have HB := hide hb2
  clear bi br bo hb2
  go_wp2_with fail
  clear i0
  refine ((unhide K80) _).mono ?_
  rintro e w5 ⟨rfl, hb⟩
  have bi := (unhide BI).belowSz hb
  have br := (unhide BR).belowSz hb
  have bo := (unhide BO).belowSz hb
  have hb2 := (unhide HB).trans (hb.mono (unhide HB).size)
  clear hb BI BR BO HB
  have i0 := bi.cell (i := 0) rfl
  have i6 := bi.cell (i := 6) rfl
  have o6 := bo.cell (i := 6) rfl
  have f6 := bo.free 6
  have BI := hide bi
  have BR := hide br
  have BO := hide bo
  have HB := hide hb2
  clear bi br bo hb2
  go_wp2_with fail
  clear i0 i6 o6 f6
  have BI := hide ((unhide BI).other (p := ⟨w.heap.size + 2, 6, none⟩) (by simp) (.string q.path))
  have BR := hide ((unhide BR).other (p := ⟨w.heap.size + 2, 6, none⟩) (by simp) (.string q.path))
  have BO := hide ((unhide BO).set 6 (.string q.path))
  have HB := hide ((unhide HB).setCell (p := ⟨w.heap.size + 2, 6, none⟩) (by simp) (.string q.path))
  refine ((unhide K86) _).mono ?_
  rintro e w6 ⟨rfl, hb⟩
  have bi := (unhide BI).belowSz hb
  have br := (unhide BR).belowSz hb
  have bo := (unhide BO).belowSz hb
  have hb2 := (unhide HB).trans (hb.mono (unhide HB).size)
  clear hb BI BR BO HB
  have i0 := bi.cell (i := 0) rfl
  have BI := hide bi
  have BR := hide br
  have BO := hide bo
  have HB := hide hb2
  clear bi br bo hb2
  go_wp2_with fail
  clear i0
  refine ((unhide K88) _).mono ?_
  rintro e w7 ⟨rfl, hb⟩
  have bi := (unhide BI).belowSz hb
  have br := (unhide BR).belowSz hb
  have bo := (unhide BO).belowSz hb
  have hb2 := (unhide HB).trans (hb.mono (unhide HB).size)
  clear hb BI BR BO HB
  have i0 := bi.cell (i := 0) rfl
  have o0 := bo.cell (i := 0) rfl
  have r0 := br.cell (i := 0) rfl
  have s0 := br.free 0
  have o1 := bo.cell (i := 1) rfl
  have r1 := br.cell (i := 1) rfl
  have s1 := br.free 1
  have o2 := bo.cell (i := 2) rfl
  have r2 := br.cell (i := 2) rfl
  have s2 := br.free 2
  have o3 := bo.cell (i := 3) rfl
  have r3 := br.cell (i := 3) rfl
  have s3 := br.free 3
  have o4 := bo.cell (i := 4) rfl
  have r4 := br.cell (i := 4) rfl
  have s4 := br.free 4
  have o5 := bo.cell (i := 5) rfl
  have r5 := br.cell (i := 5) rfl
  have s5 := br.free 5
  have o6 := bo.cell (i := 6) rfl
  have r6 := br.cell (i := 6) rfl
  have s6 := br.free 6
  have o7 := bo.cell (i := 7) rfl
  have r7 := br.cell (i := 7) rfl
  have s7 := br.free 7
  have o8 := bo.cell (i := 8) rfl
  have r8 := br.cell (i := 8) rfl
  have s8 := br.free 8
  have o9 := bo.cell (i := 9) rfl
  have r9 := br.cell (i := 9) rfl
  have s9 := br.free 9
  have BI := hide bi
  have BR := hide br
  have BO := hide bo
  have HB := hide hb2
  clear bi br bo hb2
  have RF := hide (((((((((((unhide BR).set 0 (.int .u8 q.kind)).set 1 (.int .u64 q.a)).set 2 (.int .u64 0)).set 3 (.int .u64 0)).set 4 (.int .u64 0)).set 5 (.int .u64 0)).set 6 (.string q.path)).set 7 (.slice none 0 0)).set 8 (.slice none 0 0)).set 9 (.slice none 0 0))
  have BF := hide (((((((((((unhide HB).setCell (p := ⟨w.heap.size + 1, 0, none⟩) (by simp) (.int .u8 q.kind)).setCell (p := ⟨w.heap.size + 1, 1, none⟩) (by simp) (.int .u64 q.a)).setCell (p := ⟨w.heap.size + 1, 2, none⟩) (by simp) (.int .u64 0)).setCell (p := ⟨w.heap.size + 1, 3, none⟩) (by simp) (.int .u64 0)).setCell (p := ⟨w.heap.size + 1, 4, none⟩) (by simp) (.int .u64 0)).setCell (p := ⟨w.heap.size + 1, 5, none⟩) (by simp) (.int .u64 0)).setCell (p := ⟨w.heap.size + 1, 6, none⟩) (by simp) (.string q.path)).setCell (p := ⟨w.heap.size + 1, 7, none⟩) (by simp) (.slice none 0 0)).setCell (p := ⟨w.heap.size + 1, 8, none⟩) (by simp) (.slice none 0 0)).setCell (p := ⟨w.heap.size + 1, 9, none⟩) (by simp) (.slice none 0 0))
  go_wp2_with fail
  refine bodyPost_ret (results_cell1 (P := Try.prog) rfl _ _ (w.heap.size + 1) 26 #[.int .u8 q.kind, .int .u64 q.a, .int .u64 0, .int .u64 0, .int .u64 0, .int .u64 0, .string q.path, .slice none 0 0, .slice none 0 0, .slice none 0 0] (0, 0) _ rfl (unhide RF) Try.underlying26 rfl callInfo) rfl ?_
  exact ⟨rfl, unhide BF⟩

set_option maxRecDepth 20000 in
set_option maxHeartbeats 4000000 in
theorem only_8086 (q : Cl.C) (x y z : Sl) (w : World) (hk : q.kind < 256) (h65 : hasB q.kind 65 = false) (h66 : hasB q.kind 66 = false) (h67 : hasB q.kind 67 = false) (h68 : hasB q.kind 68 = false) (h80 : hasB q.kind 80 = true) (h86 : hasB q.kind 86 = true) (h88 : hasB q.kind 88 = false) :
    Calls Try.prog 37 #[.agg (clCells q x y z)] w fun e w' => e = .returned (.agg #[.int .u8 q.kind, .int .u64 0, .int .u64 0, .int .u64 0, .int .u64 0, .int .u64 0, .string q.path, .slice x.A x.n x.c, .slice y.A y.n y.c, .slice none 0 0]) ∧ Below w.heap.size w w' := by
  have K65 := hide (fun w => rhas_at q.kind 65 _ w hk h65)
  have K66 := hide (fun w => rhas_at q.kind 66 _ w hk h66)
  have K67 := hide (fun w => rhas_at q.kind 67 _ w hk h67)
  have K68 := hide (fun w => rhas_at q.kind 68 _ w hk h68)
  have K80 := hide (fun w => rhas_at q.kind 80 _ w hk h80)
  have K86 := hide (fun w => rhas_at q.kind 86 _ w hk h86)
  have K88 := hide (fun w => rhas_at q.kind 88 _ w hk h88)
  clear h65 h66 h67 h68 h80 h86 h88 hk
  obtain ⟨bi, br, bo, hb⟩ := only_start w #[.int .u8 q.kind, .int .u64 q.a, .int .u64 q.b, .int .u64 q.c, .int .u64 q.d, .int .u64 q.e, .string q.path, .slice x.A x.n x.c, .slice y.A y.n y.c, .slice z.A z.n z.c] #[.int .u8 0, .int .u64 0, .int .u64 0, .int .u64 0, .int .u64 0, .int .u64 0, .string ⟨#[]⟩, .slice none 0 0, .slice none 0 0, .slice none 0 0] #[.int .u8 q.kind, .int .u64 0, .int .u64 0, .int .u64 0, .int .u64 0, .int .u64 0, .string ⟨#[]⟩, .slice none 0 0, .slice none 0 0, .slice none 0 0]
  have BI := hide bi
  have BR := hide br
  have BO := hide bo
  have HB := hide hb
  clear bi br bo hb
  go_enter Try.func37, Try.ntmps37
  go_wp2_with fail
  refine ((unhide K65) _).mono ?_
  rintro e w1 ⟨rfl, hb⟩
  have bi := (unhide BI).belowSz hb
  have br := (unhide BR).belowSz hb
  have bo := (unhide BO).belowSz hb
  have hb2 := (unhide HB).trans (hb.mono (unhide HB).size)
  clear hb BI BR BO HB
  have i0 := bi.cell (i := 0) rfl
  have BI := hide bi
  have BR := hide br
  have BO := hide bo
  have HB := hide hb2
  clear bi br bo hb2
  go_wp2_with fail
  clear i0
  refine ((unhide K66) _).mono ?_
  rintro e w2 ⟨rfl, hb⟩
  have bi := (unhide BI).belowSz hb
  have br := (unhide BR).belowSz hb
  have bo := (unhide BO).belowSz hb
  have hb2 := (unhide HB).trans (hb.mono (unhide HB).size)
  clear hb BI BR BO HB
  have i0 := bi.cell (i := 0) rfl
  have BI := hide bi
  have BR := hide br
  have BO := hide bo
  have HB := hide hb2
  clear bi br bo hb2
  go_wp2_with fail
  clear i0
  refine ((unhide K67) _).mono ?_
  rintro e w3 ⟨rfl, hb⟩
  have bi := (unhide BI).belowSz hb
  have br := (unhide BR).belowSz hb
  have bo := (unhide BO).belowSz hb
  have hb2 := (unhide HB).trans (hb.mono (unhide HB).size)
  clear hb BI BR BO HB
  have i0 := bi.cell (i := 0) rfl
  have BI := hide bi
  have BR := hide br
  have BO := hide bo
  have HB := hide hb2
  clear bi br bo hb2
  go_wp2_with fail
  clear i0
  refine ((unhide K68) _).mono ?_
  rintro e w4 ⟨rfl, hb⟩
  have bi := (unhide BI).belowSz hb
  have br := (unhide BR).belowSz hb
  have bo := (unhide BO).belowSz hb
  have hb2 := (unhide HB).trans (hb.mono (unhide HB).size)
  clear hb BI BR BO HB
  have i0 := bi.cell (i := 0) rfl
  have BI := hide bi
  have BR := hide br
  have BO := hide bo
  have HB := hide hb2
  clear bi br bo hb2
  go_wp2_with fail
  clear i0
  refine ((unhide K80) _).mono ?_
  rintro e w5 ⟨rfl, hb⟩
  have bi := (unhide BI).belowSz hb
  have br := (unhide BR).belowSz hb
  have bo := (unhide BO).belowSz hb
  have hb2 := (unhide HB).trans (hb.mono (unhide HB).size)
  clear hb BI BR BO HB
  have i0 := bi.cell (i := 0) rfl
  have i6 := bi.cell (i := 6) rfl
  have o6 := bo.cell (i := 6) rfl
  have f6 := bo.free 6
  have BI := hide bi
  have BR := hide br
  have BO := hide bo
  have HB := hide hb2
  clear bi br bo hb2
  go_wp2_with fail
  clear i0 i6 o6 f6
  have BI := hide ((unhide BI).other (p := ⟨w.heap.size + 2, 6, none⟩) (by simp) (.string q.path))
  have BR := hide ((unhide BR).other (p := ⟨w.heap.size + 2, 6, none⟩) (by simp) (.string q.path))
  have BO := hide ((unhide BO).set 6 (.string q.path))
  have HB := hide ((unhide HB).setCell (p := ⟨w.heap.size + 2, 6, none⟩) (by simp) (.string q.path))
  refine ((unhide K86) _).mono ?_
  rintro e w6 ⟨rfl, hb⟩
  have bi := (unhide BI).belowSz hb
  have br := (unhide BR).belowSz hb
  have bo := (unhide BO).belowSz hb
  have hb2 := (unhide HB).trans (hb.mono (unhide HB).size)
  clear hb BI BR BO HB
  have i0 := bi.cell (i := 0) rfl
  have i7 := bi.cell (i := 7) rfl
  have o7 := bo.cell (i := 7) rfl
  have f7 := bo.free 7
  have i8 := bi.cell (i := 8) rfl
  have o8 := bo.cell (i := 8) rfl
  have f8 := bo.free 8
  have BI := hide bi
  have BR := hide br
  have BO := hide bo
  have HB := hide hb2
  clear bi br bo hb2
  go_wp2_with fail
  clear i0 i7 o7 f7 i8 o8 f8
  have BI := hide ((unhide BI).other (p := ⟨w.heap.size + 2, 7, none⟩) (by simp) (.slice x.A x.n x.c))
  have BR := hide ((unhide BR).other (p := ⟨w.heap.size + 2, 7, none⟩) (by simp) (.slice x.A x.n x.c))
  have BO := hide ((unhide BO).set 7 (.slice x.A x.n x.c))
  have HB := hide ((unhide HB).setCell (p := ⟨w.heap.size + 2, 7, none⟩) (by simp) (.slice x.A x.n x.c))
  have BI := hide ((unhide BI).other (p := ⟨w.heap.size + 2, 8, none⟩) (by simp) (.slice y.A y.n y.c))
  have BR := hide ((unhide BR).other (p := ⟨w.heap.size + 2, 8, none⟩) (by simp) (.slice y.A y.n y.c))
  have BO := hide ((unhide BO).set 8 (.slice y.A y.n y.c))
  have HB := hide ((unhide HB).setCell (p := ⟨w.heap.size + 2, 8, none⟩) (by simp) (.slice y.A y.n y.c))
  refine ((unhide K88) _).mono ?_
  rintro e w7 ⟨rfl, hb⟩
  have bi := (unhide BI).belowSz hb
  have br := (unhide BR).belowSz hb
  have bo := (unhide BO).belowSz hb
  have hb2 := (unhide HB).trans (hb.mono (unhide HB).size)
  clear hb BI BR BO HB
  have i0 := bi.cell (i := 0) rfl
  have o0 := bo.cell (i := 0) rfl
  have r0 := br.cell (i := 0) rfl
  have s0 := br.free 0
  have o1 := bo.cell (i := 1) rfl
  have r1 := br.cell (i := 1) rfl
  have s1 := br.free 1
  have o2 := bo.cell (i := 2) rfl
  have r2 := br.cell (i := 2) rfl
  have s2 := br.free 2
  have o3 := bo.cell (i := 3) rfl
  have r3 := br.cell (i := 3) rfl
  have s3 := br.free 3
  have o4 := bo.cell (i := 4) rfl
  have r4 := br.cell (i := 4) rfl
  have s4 := br.free 4
  have o5 := bo.cell (i := 5) rfl
  have r5 := br.cell (i := 5) rfl
  have s5 := br.free 5
  have o6 := bo.cell (i := 6) rfl
  have r6 := br.cell (i := 6) rfl
  have s6 := br.free 6
  have o7 := bo.cell (i := 7) rfl
  have r7 := br.cell (i := 7) rfl
  have s7 := br.free 7
  have o8 := bo.cell (i := 8) rfl
  have r8 := br.cell (i := 8) rfl
  have s8 := br.free 8
  have o9 := bo.cell (i := 9) rfl
  have r9 := br.cell (i := 9) rfl
  have s9 := br.free 9
  have BI := hide bi
  have BR := hide br
  have BO := hide bo
  have HB := hide hb2
  clear bi br bo hb2
  have RF := hide (((((((((((unhide BR).set 0 (.int .u8 q.kind)).set 1 (.int .u64 0)).set 2 (.int .u64 0)).set 3 (.int .u64 0)).set 4 (.int .u64 0)).set 5 (.int .u64 0)).set 6 (.string q.path)).set 7 (.slice x.A x.n x.c)).set 8 (.slice y.A y.n y.c)).set 9 (.slice none 0 0))
  have BF := hide (((((((((((unhide HB).setCell (p := ⟨w.heap.size + 1, 0, none⟩) (by simp) (.int .u8 q.kind)).setCell (p := ⟨w.heap.size + 1, 1, none⟩) (by simp) (.int .u64 0)).setCell (p := ⟨w.heap.size + 1, 2, none⟩) (by simp) (.int .u64 0)).setCell (p := ⟨w.heap.size + 1, 3, none⟩) (by simp) (.int .u64 0)).setCell (p := ⟨w.heap.size + 1, 4, none⟩) (by simp) (.int .u64 0)).setCell (p := ⟨w.heap.size + 1, 5, none⟩) (by simp) (.int .u64 0)).setCell (p := ⟨w.heap.size + 1, 6, none⟩) (by simp) (.string q.path)).setCell (p := ⟨w.heap.size + 1, 7, none⟩) (by simp) (.slice x.A x.n x.c)).setCell (p := ⟨w.heap.size + 1, 8, none⟩) (by simp) (.slice y.A y.n y.c)).setCell (p := ⟨w.heap.size + 1, 9, none⟩) (by simp) (.slice none 0 0))
  go_wp2_with fail
  refine bodyPost_ret (results_cell1 (P := Try.prog) rfl _ _ (w.heap.size + 1) 26 #[.int .u8 q.kind, .int .u64 0, .int .u64 0, .int .u64 0, .int .u64 0, .int .u64 0, .string q.path, .slice x.A x.n x.c, .slice y.A y.n y.c, .slice none 0 0] (0, 0) _ rfl (unhide RF) Try.underlying26 rfl callInfo) rfl ?_
  exact ⟨rfl, unhide BF⟩
def sl0 : Sl := ⟨none, 0, 0⟩
/-- The call with the fields of its kind alone. -/
def onlyC (q : Cl.C) : Cl.C := ⟨q.kind, if hasB q.kind 65 then q.a else 0, if hasB q.kind 66 then q.b else 0, if hasB q.kind 67 then q.c else 0, if hasB q.kind 68 then q.d else 0, if hasB q.kind 68 then q.e else 0, if hasB q.kind 80 then q.path else ⟨#[]⟩, if hasB q.kind 86 then q.argv else [], if hasB q.kind 86 then q.env else [], if hasB q.kind 88 then q.bytes else []⟩
def onlyX (q : Cl.C) (x : Sl) : Sl := if hasB q.kind 86 then x else sl0
def onlyZ (q : Cl.C) (x : Sl) : Sl := if hasB q.kind 88 then x else sl0
theorem only_any (q : Cl.C) (x y z : Sl) (w : World) (hk : q.kind ≤ 12) :
    Calls Try.prog 37 #[.agg (clCells q x y z)] w fun e w' => e = .returned (.agg (clCells (onlyC q) (onlyX q x) (onlyX q y) (onlyZ q z))) ∧ Below w.heap.size w w' := by
  have hk2 : q.kind < 256 := by omega
  obtain h | h | h | h | h | h | h | h | h | h | h | h | h : q.kind = 0 ∨ q.kind = 1 ∨ q.kind = 2 ∨ q.kind = 3 ∨ q.kind = 4 ∨ q.kind = 5 ∨ q.kind = 6 ∨ q.kind = 7 ∨ q.kind = 8 ∨ q.kind = 9 ∨ q.kind = 10 ∨ q.kind = 11 ∨ q.kind = 12 := by omega
  · have h65 : hasB q.kind 65 = false := by rw [h]; rfl
    have h66 : hasB q.kind 66 = false := by rw [h]; rfl
    have h67 : hasB q.kind 67 = false := by rw [h]; rfl
    have h68 : hasB q.kind 68 = false := by rw [h]; rfl
    have h80 : hasB q.kind 80 = false := by rw [h]; rfl
    have h86 : hasB q.kind 86 = false := by rw [h]; rfl
    have h88 : hasB q.kind 88 = false := by rw [h]; rfl
    have e := only_0 q x y z w hk2 h65 h66 h67 h68 h80 h86 h88
    unfold onlyC onlyX onlyZ
    rw [h65, h66, h67, h68, h80, h86, h88]
    exact e
  · have h65 : hasB q.kind 65 = false := by rw [h]; rfl
    have h66 : hasB q.kind 66 = false := by rw [h]; rfl
    have h67 : hasB q.kind 67 = false := by rw [h]; rfl
    have h68 : hasB q.kind 68 = false := by rw [h]; rfl
    have h80 : hasB q.kind 80 = true := by rw [h]; rfl
    have h86 : hasB q.kind 86 = true := by rw [h]; rfl
    have h88 : hasB q.kind 88 = false := by rw [h]; rfl
    have e := only_8086 q x y z w hk2 h65 h66 h67 h68 h80 h86 h88
    unfold onlyC onlyX onlyZ
    rw [h65, h66, h67, h68, h80, h86, h88]
    exact e
  · have h65 : hasB q.kind 65 = false := by rw [h]; rfl
    have h66 : hasB q.kind 66 = false := by rw [h]; rfl
    have h67 : hasB q.kind 67 = false := by rw [h]; rfl
    have h68 : hasB q.kind 68 = false := by rw [h]; rfl
    have h80 : hasB q.kind 80 = false := by rw [h]; rfl
    have h86 : hasB q.kind 86 = false := by rw [h]; rfl
    have h88 : hasB q.kind 88 = false := by rw [h]; rfl
    have e := only_0 q x y z w hk2 h65 h66 h67 h68 h80 h86 h88
    unfold onlyC onlyX onlyZ
    rw [h65, h66, h67, h68, h80, h86, h88]
    exact e
  · have h65 : hasB q.kind 65 = true := by rw [h]; rfl
    have h66 : hasB q.kind 66 = false := by rw [h]; rfl
    have h67 : hasB q.kind 67 = false := by rw [h]; rfl
    have h68 : hasB q.kind 68 = false := by rw [h]; rfl
    have h80 : hasB q.kind 80 = false := by rw [h]; rfl
    have h86 : hasB q.kind 86 = false := by rw [h]; rfl
    have h88 : hasB q.kind 88 = false := by rw [h]; rfl
    have e := only_65 q x y z w hk2 h65 h66 h67 h68 h80 h86 h88
    unfold onlyC onlyX onlyZ
    rw [h65, h66, h67, h68, h80, h86, h88]
    exact e
  · have h65 : hasB q.kind 65 = false := by rw [h]; rfl
    have h66 : hasB q.kind 66 = false := by rw [h]; rfl
    have h67 : hasB q.kind 67 = false := by rw [h]; rfl
    have h68 : hasB q.kind 68 = false := by rw [h]; rfl
    have h80 : hasB q.kind 80 = false := by rw [h]; rfl
    have h86 : hasB q.kind 86 = false := by rw [h]; rfl
    have h88 : hasB q.kind 88 = false := by rw [h]; rfl
    have e := only_0 q x y z w hk2 h65 h66 h67 h68 h80 h86 h88
    unfold onlyC onlyX onlyZ
    rw [h65, h66, h67, h68, h80, h86, h88]
    exact e
  · have h65 : hasB q.kind 65 = true := by rw [h]; rfl
    have h66 : hasB q.kind 66 = true := by rw [h]; rfl
    have h67 : hasB q.kind 67 = true := by rw [h]; rfl
    have h68 : hasB q.kind 68 = true := by rw [h]; rfl
    have h80 : hasB q.kind 80 = false := by rw [h]; rfl
    have h86 : hasB q.kind 86 = false := by rw [h]; rfl
    have h88 : hasB q.kind 88 = false := by rw [h]; rfl
    have e := only_65666768 q x y z w hk2 h65 h66 h67 h68 h80 h86 h88
    unfold onlyC onlyX onlyZ
    rw [h65, h66, h67, h68, h80, h86, h88]
    exact e
  · have h65 : hasB q.kind 65 = true := by rw [h]; rfl
    have h66 : hasB q.kind 66 = true := by rw [h]; rfl
    have h67 : hasB q.kind 67 = false := by rw [h]; rfl
    have h68 : hasB q.kind 68 = false := by rw [h]; rfl
    have h80 : hasB q.kind 80 = false := by rw [h]; rfl
    have h86 : hasB q.kind 86 = false := by rw [h]; rfl
    have h88 : hasB q.kind 88 = false := by rw [h]; rfl
    have e := only_6566 q x y z w hk2 h65 h66 h67 h68 h80 h86 h88
    unfold onlyC onlyX onlyZ
    rw [h65, h66, h67, h68, h80, h86, h88]
    exact e
  · have h65 : hasB q.kind 65 = true := by rw [h]; rfl
    have h66 : hasB q.kind 66 = true := by rw [h]; rfl
    have h67 : hasB q.kind 67 = true := by rw [h]; rfl
    have h68 : hasB q.kind 68 = false := by rw [h]; rfl
    have h80 : hasB q.kind 80 = false := by rw [h]; rfl
    have h86 : hasB q.kind 86 = false := by rw [h]; rfl
    have h88 : hasB q.kind 88 = false := by rw [h]; rfl
    have e := only_656667 q x y z w hk2 h65 h66 h67 h68 h80 h86 h88
    unfold onlyC onlyX onlyZ
    rw [h65, h66, h67, h68, h80, h86, h88]
    exact e
  · have h65 : hasB q.kind 65 = true := by rw [h]; rfl
    have h66 : hasB q.kind 66 = true := by rw [h]; rfl
    have h67 : hasB q.kind 67 = false := by rw [h]; rfl
    have h68 : hasB q.kind 68 = false := by rw [h]; rfl
    have h80 : hasB q.kind 80 = false := by rw [h]; rfl
    have h86 : hasB q.kind 86 = false := by rw [h]; rfl
    have h88 : hasB q.kind 88 = false := by rw [h]; rfl
    have e := only_6566 q x y z w hk2 h65 h66 h67 h68 h80 h86 h88
    unfold onlyC onlyX onlyZ
    rw [h65, h66, h67, h68, h80, h86, h88]
    exact e
  · have h65 : hasB q.kind 65 = true := by rw [h]; rfl
    have h66 : hasB q.kind 66 = false := by rw [h]; rfl
    have h67 : hasB q.kind 67 = false := by rw [h]; rfl
    have h68 : hasB q.kind 68 = false := by rw [h]; rfl
    have h80 : hasB q.kind 80 = false := by rw [h]; rfl
    have h86 : hasB q.kind 86 = false := by rw [h]; rfl
    have h88 : hasB q.kind 88 = true := by rw [h]; rfl
    have e := only_6588 q x y z w hk2 h65 h66 h67 h68 h80 h86 h88
    unfold onlyC onlyX onlyZ
    rw [h65, h66, h67, h68, h80, h86, h88]
    exact e
  · have h65 : hasB q.kind 65 = true := by rw [h]; rfl
    have h66 : hasB q.kind 66 = false := by rw [h]; rfl
    have h67 : hasB q.kind 67 = false := by rw [h]; rfl
    have h68 : hasB q.kind 68 = false := by rw [h]; rfl
    have h80 : hasB q.kind 80 = true := by rw [h]; rfl
    have h86 : hasB q.kind 86 = false := by rw [h]; rfl
    have h88 : hasB q.kind 88 = false := by rw [h]; rfl
    have e := only_6580 q x y z w hk2 h65 h66 h67 h68 h80 h86 h88
    unfold onlyC onlyX onlyZ
    rw [h65, h66, h67, h68, h80, h86, h88]
    exact e
  · have h65 : hasB q.kind 65 = true := by rw [h]; rfl
    have h66 : hasB q.kind 66 = false := by rw [h]; rfl
    have h67 : hasB q.kind 67 = false := by rw [h]; rfl
    have h68 : hasB q.kind 68 = false := by rw [h]; rfl
    have h80 : hasB q.kind 80 = false := by rw [h]; rfl
    have h86 : hasB q.kind 86 = false := by rw [h]; rfl
    have h88 : hasB q.kind 88 = false := by rw [h]; rfl
    have e := only_65 q x y z w hk2 h65 h66 h67 h68 h80 h86 h88
    unfold onlyC onlyX onlyZ
    rw [h65, h66, h67, h68, h80, h86, h88]
    exact e
  · have h65 : hasB q.kind 65 = true := by rw [h]; rfl
    have h66 : hasB q.kind 66 = true := by rw [h]; rfl
    have h67 : hasB q.kind 67 = false := by rw [h]; rfl
    have h68 : hasB q.kind 68 = false := by rw [h]; rfl
    have h80 : hasB q.kind 80 = false := by rw [h]; rfl
    have h86 : hasB q.kind 86 = false := by rw [h]; rfl
    have h88 : hasB q.kind 88 = false := by rw [h]; rfl
    have e := only_6566 q x y z w hk2 h65 h66 h67 h68 h80 h86 h88
    unfold onlyC onlyX onlyZ
    rw [h65, h66, h67, h68, h80, h86, h88]
    exact e
end Go.Proofs.Ytphbkjdheopmhaa
namespace Go.Proofs.Ytphbkjdheopmhaa
set_option linter.unusedVariables false
set_option linter.unusedSimpArgs false
open Go.RowKit

theorem onlyC_ok {w : World} {B : Nat} {q : Cl.C} {x y z : Sl} (h : ClOk w B q x y z) : ClOk w B (onlyC q) (onlyX q x) (onlyX q y) (onlyZ q z) := by
  refine ⟨?_, ?_, ?_⟩
  · unfold onlyC onlyX
    cases hasB q.kind 86
    · exact Rd.none_ _ _ _ _
    · exact h.r1
  · unfold onlyC onlyX
    cases hasB q.kind 86
    · exact Rd.none_ _ _ _ _
    · exact h.r2
  · unfold onlyC onlyZ
    cases hasB q.kind 88
    · exact Rd.none_ _ _ _ _
    · exact h.r3
theorem onlyC_fit {q : Cl.C} (h : ClFit q) : ClFit (onlyC q) := by
  refine ⟨h.k, ?_, ?_, ?_, ?_, ?_, ?_, ?_, ?_, ?_, ?_, ?_⟩
  · unfold onlyC; cases hasB q.kind 65; exact (by decide : (0 : Nat) < 18446744073709551616); exact h.a
  · unfold onlyC; cases hasB q.kind 66; exact (by decide : (0 : Nat) < 18446744073709551616); exact h.b
  · unfold onlyC; cases hasB q.kind 67; exact (by decide : (0 : Nat) < 18446744073709551616); exact h.c
  · unfold onlyC; cases hasB q.kind 68; exact (by decide : (0 : Nat) < 18446744073709551616); exact h.d
  · unfold onlyC; cases hasB q.kind 68; exact (by decide : (0 : Nat) < 18446744073709551616); exact h.e
  · unfold onlyC; cases hasB q.kind 80; exact Nat.zero_le _; exact h.p
  · unfold onlyC; cases hasB q.kind 86; exact Nat.zero_le _; exact h.l1
  · unfold onlyC; cases hasB q.kind 86; exact Nat.zero_le _; exact h.l2
  · unfold onlyC; cases hasB q.kind 88; exact Nat.zero_le _; exact h.l3
  · unfold onlyC; cases hasB q.kind 86; exact (fun t ht => absurd ht (List.not_mem_nil)); exact h.s1
  · unfold onlyC; cases hasB q.kind 86; exact (fun t ht => absurd ht (List.not_mem_nil)); exact h.s2
theorem path_nil (p : ByteArray) : p = ⟨#[]⟩ ↔ p.size = 0 := by
  constructor
  · rintro rfl; rfl
  · intro h
    exact ByteArray.ext (Array.eq_empty_of_size_eq_zero h)
theorem same_only (q : Cl.C) (hk : q.kind ≤ 12) : sameB q (onlyC q) = Cl.onlyB q := by
  have e0 : Cl.onlyB q = (Cl.fieldB q 0 && (Cl.fieldB q 1 && (Cl.fieldB q 2 && (Cl.fieldB q 3 && (Cl.fieldB q 4 && (Cl.fieldB q 5 && (Cl.fieldB q 6 && (Cl.fieldB q 7 && (Cl.fieldB q 8 && true))))))))) := rfl
  rw [e0]
  unfold sameB onlyC Cl.fieldB Cl.emptyB Cl.num hasB
  obtain h | h | h | h | h | h | h | h | h | h | h | h | h : q.kind = 0 ∨ q.kind = 1 ∨ q.kind = 2 ∨ q.kind = 3 ∨ q.kind = 4 ∨ q.kind = 5 ∨ q.kind = 6 ∨ q.kind = 7 ∨ q.kind = 8 ∨ q.kind = 9 ∨ q.kind = 10 ∨ q.kind = 11 ∨ q.kind = 12 := by omega
  all_goals
    rw [h]
    rw [Bool.eq_iff_iff]
    simp [flL, Cl.fsN, path_nil]
end Go.Proofs.Ytphbkjdheopmhaa
namespace Go.Proofs.Ytphbkjdheopmhaa
set_option linter.unusedVariables false
set_option linter.unusedSimpArgs false
open Go.RowKit

theorem pcsAt_len (s : ByteArray) : ∀ (l : List UInt8) (i f : Nat), (Pth.pcsL s l i f).length ≤ l.length + 1 := by
  intro l
  induction l with
  | nil => intro i f; exact Nat.le_refl _
  | cons c r ih =>
    intro i f
    unfold Pth.pcsL
    have h1 := ih (i + 1) (i + 1)
    have h2 := ih (i + 1) f
    split
    · simp only [List.length_cons]; omega
    · simp only [List.length_cons]; omega
theorem pcs_len (s : ByteArray) : (Pth.pcs s).length ≤ s.size + 1 := pcsAt_len s s.data.toList 0 0

set_option maxHeartbeats 1000000 in
theorem rpieces_any (p : ByteArray) (hp : p.size ≤ 4294967296) (w : World) :
    Calls Try.prog 65 #[.string p] w fun e w' => ∃ A c, e = .returned (.slice A (Pth.pcs p).length c) ∧ w'.ownsRow w.heap.size 9 1 (.slice A (Pth.pcs p).length c) (Pth.pcs p).length ((Pth.pcs p).map Value.string) ∧ Below w.heap.size w w' := by
  go_enter Try.func65, Try.ntmps65
  go_wp2
  go_loopw [3, 4, 5] (fun out fr i wr => ∃ (k f : Nat) (A : Option Addr) (c : Nat) (l : List ByteArray), k ≤ p.size + 1 ∧ f ≤ k ∧ l.length ≤ k ∧ i = .int .i64 k ∧ fr = .int .i64 f ∧ out = .slice A l.length c ∧
    wr.ownsRow w.heap.size 9 1 (.slice A l.length c) l.length (l.map Value.string) ∧ Below w.heap.size w wr ∧ (k ≤ p.size → Pth.pcs p = l ++ Pth.pcsAt p k f) ∧ (k = p.size + 1 → Pth.pcs p = l)) (fun _ _ i _ => p.size + 1 - (intOf i).toNat)
  case atStart => exact ⟨0, 0, none, 0, [], by omega, Nat.le_refl _, Nat.le_refl _, rfl, rfl, rfl, World.ownsRow_nil _ _ _ _, Below.refl _ _, fun _ => rfl, fun h => by omega⟩
  case round =>
    obtain ⟨k, f, A, c, l, hk, hfk, hlk, rfl, rfl, rfl, hown, hb, h1, h2⟩ := hrel
    have H1 := hide h1
    have H2 := hide h2
    have hsz := hb.size
    clear h1 h2
    by_cases hlt : k ≤ p.size
    · have he := unhide H1 hlt
      by_cases hend : k = p.size
      · subst hend
        have b1 : ((p.size : Int) == (p.size : Int)) = true := by simp
        have hgo : Pth.pcs p = l ++ [p.extract f p.size] := by rw [he, Pth.pcsAt_end]
        have Hgo := hide hgo
        clear he hgo
        go_wp2_with (at_builtin; refine wpList_app1 strTy rfl _ _ rfl w.heap.size (.slice A l.length c) l.length (l.map Value.string) rfl hown #[.string (p.extract f p.size)] rfl rfl (by simp [Value.oneCell']) (by omega) (by omega) ?_; intro A' c' w1 hown' hgrow hat; have hb1 := hide (hb.grown hgrow hsz (fun k hk => (hown.lt k hk).1)); have Hown' := hide hown'; clear hgrow hat hown')
        go_roundw
        case rel =>
          refine ⟨p.size + 1, p.size + 1, A', c', l ++ [p.extract f p.size], by omega, by omega, by simp; omega, by go_num, by go_num, by simp, ?_, unhide hb1, fun h => by omega, fun _ => unhide Hgo⟩
          simpa using unhide Hown'
        case measure => simp [intOf]
      · have hl2 : k < p.size := by omega
        have b1 : ((k : Int) == (p.size : Int)) = false := by simp; omega
        by_cases hc : p[k] = 47
        · have b2 : (((p[k].toNat : Nat) : Int) == 47) = true := by rw [byte_47]; simpa using hc
          have hgo : Pth.pcs p = (l ++ [p.extract f k]) ++ Pth.pcsAt p (k + 1) (k + 1) := by rw [he, Pth.pcsAt_slash p k f hl2 hc]; simp
          have Hgo := hide hgo
          clear he hgo hc hend
          go_wp2_with (at_builtin; refine wpList_app1 strTy rfl _ _ rfl w.heap.size (.slice A l.length c) l.length (l.map Value.string) rfl hown #[.string (p.extract f k)] rfl rfl (by simp [Value.oneCell']) (by omega) (by omega) ?_; intro A' c' w1 hown' hgrow hat; have hb1 := hide (hb.grown hgrow hsz (fun k hk => (hown.lt k hk).1)); have Hown' := hide hown'; clear hgrow hat hown')
          go_roundw
          case rel =>
            refine ⟨k + 1, k + 1, A', c', l ++ [p.extract f k], by omega, by omega, by simp; omega, by go_num, by go_num, by simp, ?_, unhide hb1, fun _ => unhide Hgo, fun h => by omega⟩
            simpa using unhide Hown'
          case measure => simp [intOf]; omega
        · have b2 : (((p[k].toNat : Nat) : Int) == 47) = false := by rw [byte_47]; simpa using hc
          have hgo : Pth.pcs p = l ++ Pth.pcsAt p (k + 1) f := by rw [he, Pth.pcsAt_skip p k f hl2 hc]
          have Hgo := hide hgo
          clear he hgo hc hend
          go_wp2
          go_roundw
          case rel => exact ⟨k + 1, f, A, c, l, by omega, by omega, by omega, by go_num, rfl, rfl, hown, hb, fun _ => unhide Hgo, fun h => by omega⟩
          case measure => simp [intOf]; omega
    · have he := unhide H2 (by omega)
      have He := hide he
      clear he
      go_wp2
      go_ret
      rw [unhide He]
      exact ⟨A, c, rfl, hown, hb⟩

set_option maxHeartbeats 1000000 in
theorem rcheck_any (p : ByteArray) (hp : p.size ≤ 4294967296) (w : World) :
    Calls Try.prog 38 #[.string p] w fun e w' => e = .returned (.int .i64 (Pth.chk p)) ∧ Below w.heap.size w w' := by
  have he0 := isEmpty_toList p
  by_cases h0 : p.size = 0
  · have hr : Pth.chk p = 3 := by simp [Pth.chk, h0]
    have he : p.toList.isEmpty = true := by rw [he0]; simpa using h0
    rw [hr]
    clear he0 hr h0
    go_enter Try.func38, Try.ntmps38
    go_wp2_with fail
    go_ret
    exact ⟨rfl, Below.refl _ _⟩
  · have he : p.toList.isEmpty = false := by rw [he0]; simpa using h0
    have H0 := hide h0
    clear he0 h0
    go_enter Try.func38, Try.ntmps38
    go_wp2_with fail
    go_loop [3] (fun i => ∃ k : Nat, k ≤ p.size ∧ i = .int .i64 k ∧ (p.data.toList.take k).contains 0 = false) (fun i => p.size - (intOf i).toNat)
    case atStart => exact ⟨0, by omega, rfl, by simp⟩
    case round =>
      obtain ⟨k, hk, rfl, hz⟩ := hrel
      have Hz := hide hz
      clear hz
      by_cases hlt : k < p.size
      · by_cases hc : p[k] = 0
        · have b2 : (((p[k].toNat : Nat) : Int) == 0) = true := by rw [byte_0]; simpa using hc
          have hr : Pth.chk p = 1 := by
            have hm : p.data.toList.contains 0 = true := by
              rw [List.contains_iff_mem, ← hc]
              exact Array.getElem_mem_toList _
            simp only [Pth.chk, unhide H0, hm, if_true, if_false]
          have Hr := hide hr
          clear hr hc
          go_wp2
          go_ret
          exact ⟨by rw [unhide Hr]; rfl, Below.refl _ _⟩
        · have b2 : (((p[k].toNat : Nat) : Int) == 0) = false := by rw [byte_0]; simpa using hc
          have hz : (p.data.toList.take (k + 1)).contains 0 = false := by
            rw [List.take_succ_eq_append_getElem (by simpa using hlt), List.contains_append, unhide Hz]
            simp only [Bool.false_or]
            exact by simpa using fun h => hc h.symm
          have Hz2 := hide hz
          clear hz hc
          go_wp2
          go_round
          case rel => exact ⟨k + 1, by omega, by go_num, unhide Hz2⟩
          case measure => simp [intOf]; omega
      · have hz : p.data.toList.contains 0 = false := by
          have := unhide Hz
          rwa [List.take_of_length_le (by simp; omega)] at this
        by_cases h2 : 200 < p.size
        · have hr : Pth.chk p = 11 := by simp only [Pth.chk, unhide H0, hz, h2, if_true, if_false, Bool.false_eq_true]
          have Hr := hide hr
          clear hr hz
          go_wp2
          go_ret
          exact ⟨by rw [unhide Hr]; rfl, Below.refl _ _⟩
        · have hr : Pth.chk p = if (Pth.pcs p).any Pth.tooLong then 11 else 0 := by simp only [Pth.chk, unhide H0, hz, h2, if_false, Bool.false_eq_true]
          have Hr := hide hr
          have hl := pcs_len p
          clear hr hz
          go_wp2_with (go_at_call 65; refine (rpieces_any p (by omega) _).mono ?_; rintro e w1 ⟨A, c, rfl, hown, hb⟩)
          generalize Pth.pcs p = l at *
          have hrd := Rd.of_own hown
          have Hrd := hide hrd
          clear hrd hown
          go_loop [5] (fun i => ∃ k : Nat, k ≤ l.length ∧ i = .int .i64 k ∧ (l.take k).any Pth.tooLong = false) (fun i => l.length - (intOf i).toNat)
          case atStart => exact ⟨0, by omega, rfl, by simp⟩
          case round =>
            obtain ⟨k, hk, rfl, hz⟩ := hrel
            have Hz := hide hz
            clear hz
            by_cases hlt : k < l.length
            · obtain ⟨x, hx⟩ : ∃ x, l[k]? = some x := ⟨_, List.getElem?_eq_getElem hlt⟩
              obtain ⟨b1, o1, rfl, _, c1⟩ := (unhide Hrd).at_ (k := k) (u := .string x) (by simp [hx])
              by_cases hlong : 32 < x.size
              · have ha : l.any Pth.tooLong = true := List.any_eq_true.2 ⟨x, List.mem_of_getElem? hx, by simpa [Pth.tooLong] using hlong⟩
                have Ha := hide ha
                clear ha hx
                go_wp2
                go_ret
                exact ⟨by rw [unhide Hr, unhide Ha]; rfl, hb⟩
              · have hz : (l.take (k + 1)).any Pth.tooLong = false := by
                  rw [List.take_add_one, hx, List.any_append, unhide Hz]
                  simp [Pth.tooLong, hlong]
                have Hz2 := hide hz
                clear hz hx
                go_wp2
                go_round
                case rel => exact ⟨k + 1, by omega, by go_num, unhide Hz2⟩
                case measure => simp [intOf]; omega
            · have hz : l.any Pth.tooLong = false := by
                have := unhide Hz
                rwa [List.take_of_length_le (by omega)] at this
              have Hz2 := hide hz
              clear hz
              go_wp2
              go_ret
              exact ⟨by rw [unhide Hr, unhide Hz2]; rfl, hb⟩

end Go.Proofs.Ytphbkjdheopmhaa
namespace Go.Proofs.Ytphbkjdheopmhaa
set_option linter.unusedVariables false
set_option linter.unusedSimpArgs false
open Go.RowKit

theorem box_keep {w w' : World} {g B : Nat} {cs : Array Value} {t : TypeId} (h : w.heap[g]? = some (.cells cs t (0, 0))) (hb : Below B w w') (hg : g < B) : w'.heap[g]? = some (.cells cs t (0, 0)) := (hb.block g hg).trans h

theorem check_on {q : Cl.C} (h : ¬ (q.kind = 0 ∨ 12 < q.kind)) (hb : Cl.onlyB q = true) : Cl.check q = (if q.kind = 1 then Cl.fst2 (Pth.chk q.path) (Cl.fst2 (Cl.envCk q.argv) (Cl.envCk q.env))
  else if q.kind = 8 ∨ q.kind = 12 then (if 4096 < q.b then 12 else 0)
  else if q.kind = 9 then (if 4096 < q.bytes.length then 12 else 0)
  else if q.kind = 10 then Cl.fst2 (Pth.chk q.path) (if 1 < q.a then 1 else 0)
  else 0) := by
  unfold Cl.check
  rw [if_neg h, if_neg (by rw [hb]; simp)]
theorem int0_t {a : Int} (h : a = 0) : (a == 0) = true := by rw [h]; rfl
theorem int0_f {a : Int} (h : ¬ a = 0) : (a == 0) = false := beq_eq_false_iff_ne.2 h

set_option maxRecDepth 20000 in
set_option maxHeartbeats 4000000 in
theorem rcallCheck_any (q : Cl.C) (x y z : Sl) (B : Nat) (w : World) (hq : ClOk w B q x y z) (hB : B ≤ w.heap.size) (hf : ClFit q) (hp4 : q.path.size ≤ 4294967296) :
    Calls Try.prog 14 #[.agg (clCells q x y z)] w fun e w' => e = .returned (.int .i64 (Cl.check q)) ∧ Below w.heap.size w w' := by
  have Hf := hide hf
  have hk := hf.k
  have hbox : (w.alloc (.cells (clCells q x y z) 26)).heap[w.heap.size]? = some (.cells (clCells q x y z) 26 (0, 0)) := heap_alloc_new _ _
  have hsz := lt_of_block hbox
  have hqW := hq.alloc hB (.cells (clCells q x y z) 26)
  have hbW : Below w.heap.size w (w.alloc (.cells (clCells q x y z) 26)) := (Below.refl _ _).alloc (Nat.le_refl _) _
  have HqW := hide hqW
  have HbW := hide hbW
  have Hbox := hide hbox
  clear hq hf hqW hbW
  obtain ⟨v0, v1, v2, v3, v4, v5, v6, v7, v8, v9⟩ := box10 hbox
  clear hbox
  by_cases hlow : 1 ≤ q.kind ∧ q.kind ≤ 12
  · have b1 : decide (((q.kind : Nat) : Int) < 1) = false := by rw [decide_eq_false_iff_not]; omega
    have b2 : decide ((12 : Int) < ((q.kind : Nat) : Int)) = false := by rw [decide_eq_false_iff_not]; omega
    have KO := hide (fun w => only_any q x y z w hlow.2)
    go_enter Try.func14, Try.ntmps14
    go_wp2_with fail
    clear b1 b2
    generalize hgW : w.alloc (.cells (clCells q x y z) 26) = W at *
    clear hgW
    go_region_held3 (fun w' => w'.cell? ⟨w.heap.size, 0, none⟩ = some (.int .u8 q.kind) ∧ w'.cell? ⟨w.heap.size, 1, none⟩ = some (.int .u64 q.a) ∧ w'.cell? ⟨w.heap.size, 2, none⟩ = some (.int .u64 q.b) ∧ w'.cell? ⟨w.heap.size, 3, none⟩ = some (.int .u64 q.c) ∧ w'.cell? ⟨w.heap.size, 4, none⟩ = some (.int .u64 q.d) ∧ w'.cell? ⟨w.heap.size, 5, none⟩ = some (.int .u64 q.e) ∧ w'.cell? ⟨w.heap.size, 6, none⟩ = some (.string q.path) ∧ w'.cell? ⟨w.heap.size, 7, none⟩ = some (.slice x.A x.n x.c) ∧ w'.cell? ⟨w.heap.size, 8, none⟩ = some (.slice y.A y.n y.c) ∧ w'.cell? ⟨w.heap.size, 9, none⟩ = some (.slice z.A z.n z.c)) (first | exact ⟨v0, v1, v2, v3, v4, v5, v6, v7, v8, v9⟩ | exact box10 (unhide HB1) | exact box10 (unhide HB2)) (first
      | (go_at_call 37; refine ((unhide KO) _).mono ?_; rintro e w1 ⟨rfl, hb0⟩; have hb1 : Below W.heap.size W w1 := below_undrew hb0; clear hb0; have HB1 := hide (box_keep (unhide Hbox) hb1 hsz); have hs1 := hb1.size; have Hq1 := hide ((unhide HqW).below (hb1.mono (by omega))); have KS := same_any q (onlyC q) x y z (onlyX q x) (onlyX q y) (onlyZ q z) B w1 (unhide Hq1) (onlyC_ok (unhide Hq1)) (by omega) (unhide Hf) (onlyC_fit (unhide Hf)); rw [same_only q hlow.2] at KS)
      | (go_at_call 15; with_reducible (refine KS.mono ?_); rintro e w2 ⟨rfl, hb2⟩; have HB2 := hide (box_keep (unhide HB1) hb2 (by omega))))
    have Hb2 := hide ((unhide HbW).trans ((hb1.mono (by omega)).trans (hb2.mono (by omega))))
    have hs2 := hb2.size
    have Hq2 := hide ((unhide Hq1).below (hb2.mono (by omega)))
    clear hb1 hb2 HB1 KS HqW HbW Hbox KO v0 v1 v2 v3 v4 v5 v6 v7 v8 v9 Hq1
    obtain ⟨v0, v1, v2, v3, v4, v5, v6, v7, v8, v9⟩ := box10 (unhide HB2)
    obtain ⟨ob, hob⟩ : ∃ b, Cl.onlyB q = b := ⟨_, rfl⟩
    rw [hob]
    cases ob
    · have hC : Cl.check q = 1 := by unfold Cl.check; rw [if_neg (by omega), if_pos hob]
      have HC := hide hC
      clear hob hC
      go_wp2_with fail
      go_ret
      exact ⟨by rw [unhide HC]; rfl, unhide Hb2⟩
    · have hC := check_on (q := q) (by omega) hob
      have hn3 := (unhide Hq2).n3
      rw [hn3] at hC
      have Hp := hide hp4
      have KP := hide (fun w => rcheck_any q.path hp4 w)
      clear hob hp4
      obtain hk1 | hk8 | hk12 | hk9 | hk10 | hko : q.kind = 1 ∨ q.kind = 8 ∨ q.kind = 12 ∨ q.kind = 9 ∨ q.kind = 10 ∨ (q.kind ≠ 1 ∧ q.kind ≠ 8 ∧ q.kind ≠ 12 ∧ q.kind ≠ 9 ∧ q.kind ≠ 10) := by omega
      · rw [if_pos hk1] at hC
        have t1 : (((q.kind : Nat) : Int) == 1) = true := by rw [hk1]; rfl
        unfold Cl.fst2 at hC
        have hl1 := (unhide Hf).l1
        have hl2 := (unhide Hf).l2
        rw [(unhide Hq2).n1] at hl1
        rw [(unhide Hq2).n2] at hl2
        have Hl1 := hide hl1
        have Hl2 := hide hl2
        clear hl1 hl2
        by_cases hc : Pth.chk q.path = 0
        · have tc := int0_t hc
          rw [if_pos hc] at hC
          by_cases hc2 : Cl.envCk q.argv = 0
          · have tc2 := int0_t hc2
            rw [if_pos hc2] at hC
            have HC := hide hC
            clear hC hk1 hn3 hc hc2
            go_wp2_with fail
            refine ((unhide KP) _).mono ?_
            rintro e w3 ⟨rfl, hb3⟩
            have HB3 := hide (box_keep (unhide HB2) hb3 (by omega))
            have hs3 := hb3.size
            have Hb3 := hide ((unhide Hb2).trans (hb3.mono (by omega)))
            have Hq3 := hide ((unhide Hq2).below (hb3.mono (by omega)))
            clear hb3 HB2 v0 v1 v2 v3 v4 v5 v6 v7 v8 v9
            obtain ⟨v0, v1, v2, v3, v4, v5, v6, v7, v8, v9⟩ := box10 (unhide HB3)
            go_wp2_with fail
            refine (renvCheck_any x.A x.n x.c _ q.argv _ (unhide Hq3).r1 (unhide Hf).s1 (unhide Hl1)).mono ?_
            rintro e w4 ⟨rfl, rfl⟩
            go_wp2_with fail
            refine (renvCheck_any y.A y.n y.c _ q.env _ (unhide Hq3).r2 (unhide Hf).s2 (unhide Hl2)).mono ?_
            rintro e w4 ⟨rfl, rfl⟩
            go_wp2_with fail
            go_ret
            exact ⟨by rw [unhide HC]; rfl, unhide Hb3⟩
          · have tc2 := int0_f hc2
            rw [if_neg hc2] at hC
            have HC := hide hC
            clear hC hk1 hn3 hc hc2
            go_wp2_with fail
            refine ((unhide KP) _).mono ?_
            rintro e w3 ⟨rfl, hb3⟩
            have HB3 := hide (box_keep (unhide HB2) hb3 (by omega))
            have hs3 := hb3.size
            have Hb3 := hide ((unhide Hb2).trans (hb3.mono (by omega)))
            have Hq3 := hide ((unhide Hq2).below (hb3.mono (by omega)))
            clear hb3 HB2 v0 v1 v2 v3 v4 v5 v6 v7 v8 v9
            obtain ⟨v0, v1, v2, v3, v4, v5, v6, v7, v8, v9⟩ := box10 (unhide HB3)
            go_wp2_with fail
            refine (renvCheck_any x.A x.n x.c _ q.argv _ (unhide Hq3).r1 (unhide Hf).s1 (unhide Hl1)).mono ?_
            rintro e w4 ⟨rfl, rfl⟩
            go_wp2_with fail
            go_ret
            exact ⟨by rw [unhide HC]; rfl, unhide Hb3⟩
        · have tc := int0_f hc
          rw [if_neg hc] at hC
          have HC := hide hC
          clear hC hk1 hn3 hc
          go_wp2_with fail
          refine ((unhide KP) _).mono ?_
          rintro e w3 ⟨rfl, hb3⟩
          have HB3 := hide (box_keep (unhide HB2) hb3 (by omega))
          have hs3 := hb3.size
          have Hb3 := hide ((unhide Hb2).trans (hb3.mono (by omega)))
          have Hq3 := hide ((unhide Hq2).below (hb3.mono (by omega)))
          clear hb3 HB2 v0 v1 v2 v3 v4 v5 v6 v7 v8 v9
          obtain ⟨v0, v1, v2, v3, v4, v5, v6, v7, v8, v9⟩ := box10 (unhide HB3)
          go_wp2_with fail
          go_ret
          exact ⟨by rw [unhide HC]; rfl, unhide Hb3⟩
      · rw [if_neg (by omega), if_pos (by omega)] at hC
        have t1 : (((q.kind : Nat) : Int) == 1) = false := by rw [hk8]; rfl
        have t8 : (((q.kind : Nat) : Int) == 8) = true := by rw [hk8]; rfl
        by_cases hbig : 4096 < q.b
        · have tb : decide ((4096 : Int) < ((q.b : Nat) : Int)) = true := by rw [decide_eq_true_eq]; omega
          rw [if_pos hbig] at hC
          have HC := hide hC
          clear hC hk8 hn3 hbig
          go_wp2_with fail
          go_ret
          exact ⟨by rw [unhide HC]; rfl, unhide Hb2⟩
        · have tb : decide ((4096 : Int) < ((q.b : Nat) : Int)) = false := by rw [decide_eq_false_iff_not]; omega
          rw [if_neg hbig] at hC
          have HC := hide hC
          clear hC hk8 hn3 hbig
          go_wp2_with fail
          go_ret
          exact ⟨by rw [unhide HC]; rfl, unhide Hb2⟩
      · rw [if_neg (by omega), if_pos (by omega)] at hC
        have t1 : (((q.kind : Nat) : Int) == 1) = false := by rw [hk12]; rfl
        have t8 : (((q.kind : Nat) : Int) == 8) = false := by rw [hk12]; rfl
        have t12 : (((q.kind : Nat) : Int) == 12) = true := by rw [hk12]; rfl
        by_cases hbig : 4096 < q.b
        · have tb : decide ((4096 : Int) < ((q.b : Nat) : Int)) = true := by rw [decide_eq_true_eq]; omega
          rw [if_pos hbig] at hC
          have HC := hide hC
          clear hC hk12 hn3 hbig
          go_wp2_with fail
          go_ret
          exact ⟨by rw [unhide HC]; rfl, unhide Hb2⟩
        · have tb : decide ((4096 : Int) < ((q.b : Nat) : Int)) = false := by rw [decide_eq_false_iff_not]; omega
          rw [if_neg hbig] at hC
          have HC := hide hC
          clear hC hk12 hn3 hbig
          go_wp2_with fail
          go_ret
          exact ⟨by rw [unhide HC]; rfl, unhide Hb2⟩
      · rw [if_neg (by omega), if_neg (by omega), if_pos hk9] at hC
        have t1 : (((q.kind : Nat) : Int) == 1) = false := by rw [hk9]; rfl
        have t8 : (((q.kind : Nat) : Int) == 8) = false := by rw [hk9]; rfl
        have t12 : (((q.kind : Nat) : Int) == 12) = false := by rw [hk9]; rfl
        have t9 : (((q.kind : Nat) : Int) == 9) = true := by rw [hk9]; rfl
        by_cases hbig : 4096 < z.n
        · have tb : decide ((4096 : Int) < ((z.n : Nat) : Int)) = true := by rw [decide_eq_true_eq]; omega
          rw [if_pos hbig] at hC
          have HC := hide hC
          clear hC hk9 hn3 hbig
          go_wp2_with fail
          go_ret
          exact ⟨by rw [unhide HC]; rfl, unhide Hb2⟩
        · have tb : decide ((4096 : Int) < ((z.n : Nat) : Int)) = false := by rw [decide_eq_false_iff_not]; omega
          rw [if_neg hbig] at hC
          have HC := hide hC
          clear hC hk9 hn3 hbig
          go_wp2_with fail
          go_ret
          exact ⟨by rw [unhide HC]; rfl, unhide Hb2⟩
      · rw [if_neg (by omega), if_neg (by omega), if_neg (by omega), if_pos hk10] at hC
        have t1 : (((q.kind : Nat) : Int) == 1) = false := by rw [hk10]; rfl
        have t8 : (((q.kind : Nat) : Int) == 8) = false := by rw [hk10]; rfl
        have t12 : (((q.kind : Nat) : Int) == 12) = false := by rw [hk10]; rfl
        have t9 : (((q.kind : Nat) : Int) == 9) = false := by rw [hk10]; rfl
        have t10 : (((q.kind : Nat) : Int) == 10) = true := by rw [hk10]; rfl
        unfold Cl.fst2 at hC
        by_cases hc : Pth.chk q.path = 0
        · have tc := int0_t hc
          rw [if_pos hc] at hC
          by_cases ha : 1 < q.a
          · have ta : decide ((1 : Int) < ((q.a : Nat) : Int)) = true := by rw [decide_eq_true_eq]; omega
            rw [if_pos ha] at hC
            have HC := hide hC
            clear hC hk10 hn3 ha hc
            go_wp2_with fail
            refine ((unhide KP) _).mono ?_
            rintro e w3 ⟨rfl, hb3⟩
            have HB3 := hide (box_keep (unhide HB2) hb3 (by omega))
            have hs3 := hb3.size
            have Hb3 := hide ((unhide Hb2).trans (hb3.mono (by omega)))
            have Hq3 := hide ((unhide Hq2).below (hb3.mono (by omega)))
            clear hb3 HB2 v0 v1 v2 v3 v4 v5 v6 v7 v8 v9
            obtain ⟨v0, v1, v2, v3, v4, v5, v6, v7, v8, v9⟩ := box10 (unhide HB3)
            go_wp2_with fail
            go_ret
            exact ⟨by rw [unhide HC]; rfl, unhide Hb3⟩
          · have ta : decide ((1 : Int) < ((q.a : Nat) : Int)) = false := by rw [decide_eq_false_iff_not]; omega
            rw [if_neg ha, ← hc] at hC
            have HC := hide hC
            clear hC hk10 hn3 ha hc
            go_wp2_with fail
            refine ((unhide KP) _).mono ?_
            rintro e w3 ⟨rfl, hb3⟩
            have HB3 := hide (box_keep (unhide HB2) hb3 (by omega))
            have hs3 := hb3.size
            have Hb3 := hide ((unhide Hb2).trans (hb3.mono (by omega)))
            have Hq3 := hide ((unhide Hq2).below (hb3.mono (by omega)))
            clear hb3 HB2 v0 v1 v2 v3 v4 v5 v6 v7 v8 v9
            obtain ⟨v0, v1, v2, v3, v4, v5, v6, v7, v8, v9⟩ := box10 (unhide HB3)
            go_wp2_with fail
            go_ret
            exact ⟨by rw [unhide HC]; rfl, unhide Hb3⟩
        · have tc := int0_f hc
          rw [if_neg hc] at hC
          have HC := hide hC
          clear hC hk10 hn3 hc
          go_wp2_with fail
          refine ((unhide KP) _).mono ?_
          rintro e w3 ⟨rfl, hb3⟩
          have HB3 := hide (box_keep (unhide HB2) hb3 (by omega))
          have hs3 := hb3.size
          have Hb3 := hide ((unhide Hb2).trans (hb3.mono (by omega)))
          have Hq3 := hide ((unhide Hq2).below (hb3.mono (by omega)))
          clear hb3 HB2 v0 v1 v2 v3 v4 v5 v6 v7 v8 v9
          obtain ⟨v0, v1, v2, v3, v4, v5, v6, v7, v8, v9⟩ := box10 (unhide HB3)
          go_wp2_with fail
          go_ret
          exact ⟨by rw [unhide HC]; rfl, unhide Hb3⟩
      · obtain ⟨o1, o8, o12, o9, o10⟩ := hko
        have t1 : (((q.kind : Nat) : Int) == 1) = false := beq_eq_false_iff_ne.2 (by omega)
        have t8 : (((q.kind : Nat) : Int) == 8) = false := beq_eq_false_iff_ne.2 (by omega)
        have t12 : (((q.kind : Nat) : Int) == 12) = false := beq_eq_false_iff_ne.2 (by omega)
        have t9 : (((q.kind : Nat) : Int) == 9) = false := beq_eq_false_iff_ne.2 (by omega)
        have t10 : (((q.kind : Nat) : Int) == 10) = false := beq_eq_false_iff_ne.2 (by omega)
        rw [if_neg o1, if_neg (by omega), if_neg o9, if_neg o10] at hC
        have HC := hide hC
        clear hC o1 o8 o12 o9 o10 hn3
        go_wp2_with fail
        go_ret
        exact ⟨by rw [unhide HC]; rfl, unhide Hb2⟩
  · have hno : q.kind = 0 ∨ 12 < q.kind := by omega
    have Hc := hide (check_out hno)
    obtain h | h := hno
    · have b1 : decide (((q.kind : Nat) : Int) < 1) = true := by rw [decide_eq_true_eq]; omega
      clear hlow h
      go_enter Try.func14, Try.ntmps14
      go_wp2_with fail
      go_ret
      exact ⟨by rw [unhide Hc]; rfl, unhide HbW⟩
    · have b1 : decide (((q.kind : Nat) : Int) < 1) = false := by rw [decide_eq_false_iff_not]; omega
      have b2 : decide ((12 : Int) < ((q.kind : Nat) : Int)) = true := by rw [decide_eq_true_eq]; omega
      clear hlow h
      go_enter Try.func14, Try.ntmps14
      go_wp2_with fail
      go_ret
      exact ⟨by rw [unhide Hc]; rfl, unhide HbW⟩
end Go.Proofs.Ytphbkjdheopmhaa
namespace Go.Proofs.Ytphbkjdheopmhaa
set_option linter.unusedVariables false
set_option linter.unusedSimpArgs false
open Go.RowKit
section
variable {P : Program} {t e : TypeId} {size bytes : Nat}
/-- The same, the block's number spelt as the walk has it. -/
theorem wpList_app1g (T : SlTy P t e size bytes) {W : World} {ops : Array Oper} {rest : List Oper} {o : Oper} {a : Act} {Q : Exit → Act → World → Prop} (hgd : o.guard = none) (s x : Operand)
    (ho : o.op = .call { callee := .builtin .append, args := #[s, x], argTypes := #[t, t] })
    (base : Nat) (v : Value) (n : Nat) (xs : List Value) (hs : a.eval s = v) (hown : W.ownsRow base e size v n xs)
    (cs : Array Value) (g : Nat) (hx : a.eval x = .slice (some ⟨g, 0, none⟩) 1 1) (hg : g = W.heap.size) (hcs : cs.size = size) (h1 : ∀ u ∈ cs.toList, u.oneCell' = true)
    (hb : (n + 1) * bytes ≤ 140737488355328) (hbase : base ≤ W.heap.size)
    (h : ∀ A' c' w', w'.ownsRow base e size (.slice A' (n + 1) c') (n + 1) (xs ++ cs.toList) → W.grownBy w' v.ownBlock → (∀ k, (Value.slice A' (n + 1) c').ownBlock = some k → v.ownBlock = some k ∨ W.heap.size ≤ k) → wpList P ops Q rest (a.put o.dst (.slice A' (n + 1) c')) w') : wpList P ops Q (o :: rest) a (W.alloc (.cells cs e)) := by
  subst hg
  exact wpList_app1 T hgd s x ho base v n xs hs hown cs hx hcs h1 hb hbase h
end
end Go.Proofs.Ytphbkjdheopmhaa
namespace Go.Proofs.Ytphbkjdheopmhaa
set_option linter.unusedVariables false
set_option linter.unusedSimpArgs false
open Go.RowKit

/-- Is a slice of bytes nil? -/
theorem nilq (w : World) (a : Option Addr) (n c n' c' : Nat) : (binOp .eql 24 (.slice a n c) (.slice none n' c')).run Try.prog w = .ok (.bool a.isNone) w := Lib.run_eql_slice_nil w _ _ a n c n' c' Try.underlying24
/-- A row of nothing, in a block of its own. -/
theorem own_empty (w : World) (e : TypeId) (base : Nat) (hb : base ≤ w.heap.size) : (w.alloc (.cells #[] e)).ownsRow base e 1 (.slice (some ⟨w.heap.size, 0, none⟩) 0 0) 0 [] :=
  ⟨rfl, .inr ⟨w.heap.size, 0, #[], rfl, hb, heap_alloc_new _ _, Nat.le_refl _, by decide, rfl, rfl⟩⟩
theorem grown_below {w w1 w2 : World} {row : Option Nat} (hb : Below w.heap.size w w1) (hg : w1.grownBy w2 row) (hr : ∀ k, row = some k → w.heap.size ≤ k) : Below w.heap.size w w2 := hb.grown hg hb.size hr

set_option maxRecDepth 100000 in
set_option maxHeartbeats 1000000 in
theorem clone_any (A : Option Addr) (m c B : Nat) (b : List UInt8) (w : World) (hB : B ≤ w.heap.size) (hb : Rd w B 1 A m (bys b)) (hm : m ≤ 4294967296) (hA : A ≠ none) :
    Calls Try.prog 76 #[.slice A m c] w fun e w' => ∃ A' c', e = .returned (.slice A' m c') ∧ w'.ownsRow w.heap.size 5 1 (.slice A' m c') m (bys b) ∧ Below w.heap.size w w' := by
  obtain ⟨ad, rfl⟩ : ∃ ad, A = some ad := by cases A with | none => exact absurd rfl hA | some ad => exact ⟨ad, rfl⟩
  have Hb := hide hb
  clear hb hA
  have q22 := nilq
  go_enter Try.func76, Try.ntmps76
  go_wp2_with (first
    | (at_builtin; refine wpList_app byteTy rfl _ _ rfl w.heap.size (.slice (some ⟨w.heap.size, 0, none⟩) 0 0) 0 [] rfl (own_empty w _ _ (Nat.le_refl _)) B (some ad) m c (bys b) rfl ((unhide Hb).alloc hB _) (bys_one b) (by omega) (by simp) ?_; intro A2 c2 w1 hown hgrow hat; have Hb1 := hide (grown_below ((Below.refl w.heap.size w).alloc (Nat.le_refl _) _) hgrow (fun k hk => (by simp [Value.ownBlock] at hk; omega))); have Hown := hide hown; clear hgrow hat hown))
  go_ret
  have h := unhide Hown
  simp only [Nat.zero_add, List.nil_append] at h
  exact ⟨A2, c2, by simp, h, unhide Hb1⟩
set_option maxRecDepth 100000 in
theorem clone_nil (w : World) :
    Calls Try.prog 76 #[.slice none 0 0] w fun e w' => e = .returned (.slice none 0 0) ∧ w = w' := by
  have q22 := nilq
  go_enter Try.func76, Try.ntmps76
  go_wp2
  go_ret
  exact ⟨rfl, rfl⟩
set_option maxRecDepth 100000 in
set_option maxHeartbeats 1000000 in
theorem bclone_some (ad : Addr) (m c B : Nat) (b : List UInt8) (w : World) (hB : B ≤ w.heap.size) (hb : Rd w B 1 (some ad) m (bys b)) (hm : m ≤ 4294967296) :
    Calls Try.prog 69 #[.slice (some ad) m c] w fun e w' => ∃ A' c', e = .returned (.slice A' m c') ∧ w'.ownsRow w.heap.size 5 1 (.slice A' m c') m (bys b) ∧ Below w.heap.size w w' := by
  have Hb := hide hb
  clear hb
  have q22 := nilq
  go_enter Try.func69, Try.ntmps69
  go_wp2_with (first
    | (at_builtin; refine wpList_app byteTy rfl _ _ rfl w.heap.size (.slice (some ⟨w.heap.size, 0, none⟩) 0 0) 0 [] rfl (own_empty w _ _ (Nat.le_refl _)) B (some ad) m c (bys b) rfl ((unhide Hb).alloc hB _) (bys_one b) (by omega) (by simp) ?_; intro A2 c2 w1 hown hgrow hat; have Hb1 := hide (grown_below ((Below.refl w.heap.size w).alloc (Nat.le_refl _) _) hgrow (fun k hk => (by simp [Value.ownBlock] at hk; omega))); have Hown := hide hown; clear hgrow hat hown))
  go_ret
  have h := unhide Hown
  simp only [Nat.zero_add, List.nil_append] at h
  exact ⟨A2, c2, by simp, h, unhide Hb1⟩
set_option maxRecDepth 100000 in
theorem bclone_none (w : World) :
    Calls Try.prog 69 #[.slice none 0 0] w fun e w' => e = .returned (.slice none 0 0) ∧ w = w' := by
  have q22 := nilq
  go_enter Try.func69, Try.ntmps69
  go_wp2
  go_ret
  exact ⟨rfl, rfl⟩

theorem refInside_yes (a b c : Nat) (w : World) (hc : c < 18446744073709551616) (h : a + b ≤ c) : Calls Try.prog 81 #[.int .u64 a, .int .u64 b, .int .u64 c] w fun e w' => e = .returned (.bool true) ∧ w = w' := by
  have h1 : decide (((b : Nat) : Int) ≤ ((c : Nat) : Int)) = true := by simp; omega
  have h2 : decide (((a : Nat) : Int) ≤ ((c : Nat) : Int) - ((b : Nat) : Int)) = true := by simp; omega
  go_enter Try.func81, Try.ntmps81
  go_wp2
  go_ret
  exact ⟨rfl, rfl⟩
theorem place_yes (A : Option Addr) (m c p s : Nat) (w : World) (hm : m ≤ 4294967296) (hs : s = 1 ∨ s = 2 ∨ s = 4 ∨ s = 8) (h : p + s ≤ m) : Calls Try.prog 77 #[.slice A m c, .int .u64 p, .int .i64 s] w fun e w' => e = .returned (.int .i64 0) ∧ w = w' := by
  rcases hs with rfl | rfl | rfl | rfl
  all_goals
    go_enter Try.func77, Try.ntmps77
    go_wp2_with (go_at_call 81; refine (refInside_yes p _ m w (by omega) h).mono ?_; rintro e w1 ⟨rfl, rfl⟩)
    go_ret
    exact ⟨rfl, rfl⟩

/-- i bytes of x written from p on. -/
def setK (b : List UInt8) (p x : Nat) : Nat → List UInt8
  | 0 => b
  | i + 1 => (setK b p x i).set (p + i) (UInt8.ofNat (x / 256 ^ i % 256))
theorem setK_len (b : List UInt8) (p x i : Nat) : (setK b p x i).length = b.length := by
  induction i with
  | zero => rfl
  | succ i ih => simp [setK, ih]
theorem lb_snoc (n x : Nat) : Cl.lb x (n + 1) = Cl.lb x n ++ [UInt8.ofNat (x / 256 ^ n % 256)] := by
  induction n generalizing x with
  | zero => simp [Cl.lb]
  | succ n ih =>
    have e : Cl.lb x (n + 1 + 1) = UInt8.ofNat (x % 256) :: Cl.lb (x / 256) (n + 1) := rfl
    rw [e, ih (x / 256), Nat.div_div_eq_div_mul, Nat.pow_succ, Nat.mul_comm 256]
    rfl
theorem setK_zero (s x i : Nat) (h : i ≤ s) : setK (List.replicate s 0) 0 x i = Cl.lb x i ++ List.replicate (s - i) 0 := by
  induction i with
  | zero => simp [setK, Cl.lb]
  | succ i ih =>
    have e : s - i = (s - (i + 1)) + 1 := by omega
    rw [setK, ih (by omega), lb_snoc, e, List.replicate_succ, Nat.zero_add, List.set_append_right _ _ (by rw [Cl.lb_len]; exact Nat.le_refl _), Cl.lb_len, Nat.sub_self, List.set_cons_zero, List.append_assoc]
    rfl
theorem setK_all (s x : Nat) : setK (List.replicate s 0) 0 x s = Cl.lb x s := by
  rw [setK_zero s x s (Nat.le_refl _), Nat.sub_self]
  simp

set_option maxRecDepth 100000 in
set_option maxHeartbeats 1000000 in
theorem refSet_yes (A : Option Addr) (m c B : Nat) (b : List UInt8) (p s x : Nat) (w : World) (hB : B ≤ w.heap.size) (hb : Rd w B 1 A m (bys b)) (hm : m ≤ 4294967296) (hs : s = 1 ∨ s = 2 ∨ s = 4 ∨ s = 8) (h : p + s ≤ m) (hx : x < 18446744073709551616) :
    Calls Try.prog 68 #[.slice A m c, .int .u64 p, .int .i64 s, .int .u64 x] w fun e w' => ∃ A' c', e = .returned (.tuple #[.slice A' m c', .int .i64 0]) ∧ w'.ownsRow w.heap.size 5 1 (.slice A' m c') m (bys (setK b p x s)) ∧ Below w.heap.size w w' := by
  have hbl : b.length = m := by simpa [bys] using hb.len1
  have hs8 : s ≤ 8 := by omega
  have hs0 : 0 < s := by omega
  have hpl := place_yes A m c p s w hm hs h
  have hcp := copyBytes_any A m c B b w hB hb hm
  have Hpl := hide hpl
  have Hcp := hide hcp
  have Hbl := hide hbl
  clear hpl hcp hbl hb hs
  go_enter Try.func68, Try.ntmps68
  go_wp2_with (first
    | (go_at_call 77; refine (unhide Hpl).mono ?_; rintro e w1 ⟨rfl, rfl⟩)
    | (go_at_call 29; refine (unhide Hcp).mono ?_; rintro e w1 ⟨A', c', rfl, hown, hb1⟩; obtain ⟨g, rfl, hg1, hg2⟩ := own_some hown (by omega); have Hown := hide hown; have Hb1 := hide hb1; clear hown hb1))
  go_loopw [12, 3] (fun i y wr => ∃ k : Nat, k ≤ s ∧ i = .int .i64 k ∧ y = .int .u64 (x / 256 ^ k : Nat) ∧ wr.ownsRow w.heap.size 5 1 (.slice (some ⟨g, 0, none⟩) m c') m (bys (setK b p x k)) ∧ Below w.heap.size w wr) (fun i _ _ => s - (intOf i).toNat)
  case atStart => exact ⟨0, by omega, rfl, by simp, unhide Hown, unhide Hb1⟩
  case round =>
  clear Hown Hb1
  obtain ⟨k, hk, rfl, rfl, hown, hb2⟩ := hrel
  have Hown := hide hown
  have Hb2 := hide hb2
  clear hown hb2
  rcases Nat.lt_or_ge k s with hlt | hge
  case inr =>
    obtain rfl : k = s := by omega
    go_wp2
    go_ret2
    exact ⟨_, _, rfl, unhide Hown, unhide Hb2⟩
  obtain ⟨z, hz⟩ : ∃ z, (setK b p x k)[p + k]? = some z := ⟨_, List.getElem?_eq_getElem (by rw [setK_len, unhide Hbl]; omega)⟩
  have hset := own_set (i := p + k) (unhide Hown) (.int .u8 (UInt8.ofNat (x / 256 ^ k % 256)).toNat)
  rw [bys_set] at hset
  have hc2 := own_cell (unhide Hown) (bys_at hz)
  have hf2 := own_free (unhide Hown) (p + k)
  obtain ⟨hg3, hg4, hg5⟩ := own_at (unhide Hown)
  have hy : x / 256 ^ k < 18446744073709551616 := Nat.lt_of_le_of_lt (Nat.div_le_self _ _) hx
  have hy2 : x / 256 ^ k / 256 = x / 256 ^ (k + 1) := by rw [Nat.div_div_eq_div_mul, Nat.pow_succ]
  have hy3 : (UInt8.ofNat (x / 256 ^ k % 256)).toNat = x / 256 ^ k % 256 := by simp
  have Hy2 := hide hy2
  rw [show (setK b p x k).set (p + k) (UInt8.ofNat (x / 256 ^ k % 256)) = setK b p x (k + 1) from rfl, hy3] at hset
  have Hset := hide hset
  clear hset hy2 hy3 hz
  generalize x / 256 ^ k = y at *
  go_wp2
  go_roundw
  case rel =>
    refine ⟨k + 1, by omega, by go_num, ?_, ?_, (unhide Hb2).setCell hg1 _⟩
    · rw [← unhide Hy2]
      congr 1
    · exact unhide Hset
  case measure => simp [intOf]; omega
end Go.Proofs.Ytphbkjdheopmhaa
namespace Go.Proofs.Ytphbkjdheopmhaa
set_option linter.unusedVariables false
set_option linter.unusedSimpArgs false
open Go.RowKit

/-- Block g is a reader's, of what is left and whether some was lacking; the bytes lie below B. -/
def Rdr (w : World) (g B : Nat) (r : Cl.R) : Prop := ∃ ab ao m c, Blk w g 77 [.slice (some ⟨ab, ao, none⟩) m c, .bool r.gone] ∧ Rd w B 1 (some ⟨ab, ao, none⟩) m (bys r.b) ∧ m ≤ c ∧ m ≤ 4294967296
/-- What was taken: nothing at all, or a part of the bytes. -/
def Took (w : World) (B : Nat) (v : Value) (n : Nat) (l : List UInt8) : Prop := (v = .slice none 0 0 ∧ n = 0 ∧ l = []) ∨ ∃ ab ao c, v = .slice (some ⟨ab, ao, none⟩) n c ∧ n ≤ c ∧ Rd w B 1 (some ⟨ab, ao, none⟩) n (bys l)

theorem grown_set {w : World} {g i : Nat} (u : Value) : w.grownBy (w.setCell ⟨g, i, none⟩ u) (some g) := ⟨rfl, rfl, rfl, by simp, fun k hk hne => Below.heap_setCell _ _ _ _ (fun e => hne (by simp at e; rw [e]))⟩
theorem Rd.from {w : World} {B n : Nat} {b1 o1 k : Nat} {l : List UInt8} (h : Rd w B 1 (some ⟨b1, o1, none⟩) n (bys l)) (hk : k ≤ n) : Rd w B 1 (some ⟨b1, o1 + k, none⟩) (n - k) (bys (l.drop k)) := by
  have hl : l.length = n := by simpa [bys] using h.len1
  have h1 := h.sub (off := k) (k := n - k) (by omega)
  have e : ((bys l).drop k).take (n - k) = bys (l.drop k) := by
    unfold bys
    rw [← List.map_drop, ← List.map_take, List.take_of_length_le (by simp; omega)]
  rwa [e] at h1

set_option maxRecDepth 100000 in
set_option maxHeartbeats 1000000 in
theorem take_yes (g B n : Nat) (r : Cl.R) (w : World) (hr : Rdr w g B r) (hg : B ≤ g) (h1 : r.gone = false) (h2 : n ≤ r.b.length) :
    Calls Try.prog 70 #[.pointer (some ⟨g, 0, none⟩), .int .u64 n] w fun e w' => ∃ v, e = .returned v ∧ Took w' B v n (r.b.take n) ∧ Rdr w' g B ⟨r.b.drop n, false⟩ ∧ w.grownBy w' (some g) := by
  obtain ⟨ab, ao, m, c, hb, hrd, hmc, hm⟩ := hr
  have hbl : r.b.length = m := by simpa [bys] using hrd.len1
  rw [hbl] at h2
  rw [h1] at hb
  have c0 := hb.cell (i := 0) rfl
  have c1 := hb.cell (i := 1) rfl
  have f0 := hb.free 0
  have hgl := hb.lt
  have Hb := hide hb
  have Hrd := hide hrd
  have Hbl := hide hbl
  clear hb hrd hbl h1
  go_enter Try.func70, Try.ntmps70
  by_cases hcn : c = n
  · subst hcn
    obtain rfl : m = c := by omega
    go_wp2_with fail
    go_ret
    have hd : r.b.drop m = [] := List.drop_eq_nil_of_le (by rw [unhide Hbl]; exact Nat.le_refl _)
    have ht : r.b.take m = r.b := List.take_of_length_le (by rw [unhide Hbl]; exact Nat.le_refl _)
    refine ⟨_, rfl, .inr ⟨ab, ao, m, rfl, Nat.le_refl _, ?_⟩, ⟨ab, ao, 0, 0, ?_, ?_, by omega, by omega⟩, grown_set _⟩
    · rw [ht]
      exact (unhide Hrd).setCell hg _
    · exact (unhide Hb).set 0 _
    · rw [hd]
      exact ⟨rfl, .inl rfl⟩
  · have hcn' : n < c := by omega
    go_wp2_with fail
    go_ret
    refine ⟨_, rfl, .inr ⟨ab, ao, c, rfl, by omega, ?_⟩, ⟨ab, ao + n, m - n, c - n, ?_, ?_, by omega, by omega⟩, grown_set _⟩
    · have h := (unhide Hrd).cutN (k := n) (by omega)
      rw [bys_take] at h
      exact h.setCell hg _
    · exact (unhide Hb).set 0 _
    · exact ((unhide Hrd).from h2).setCell hg _

set_option maxRecDepth 100000 in
set_option maxHeartbeats 1000000 in
theorem take_no (g B n : Nat) (r : Cl.R) (w : World) (hr : Rdr w g B r) (hg : B ≤ g) (h : r.gone = true ∨ r.b.length < n) (hn : n < 18446744073709551616) :
    Calls Try.prog 70 #[.pointer (some ⟨g, 0, none⟩), .int .u64 n] w fun e w' => e = .returned (.slice none 0 0) ∧ Rdr w' g B ⟨r.b, true⟩ ∧ w.grownBy w' (some g) := by
  obtain ⟨ab, ao, m, c, hb, hrd, hmc, hm⟩ := hr
  have hbl : r.b.length = m := by simpa [bys] using hrd.len1
  rw [hbl] at h
  have f1 := hb.free 1
  have c1 := hb.cell (i := 1) rfl
  have hgl := hb.lt
  have Hb := hide hb
  have Hrd := hide hrd
  cases hgn : r.gone
  · rw [hgn] at c1 h
    have h2 : m < n := by simpa using h
    have c0 := hb.cell (i := 0) rfl
    clear hb hrd hbl h
    go_enter Try.func70, Try.ntmps70
    go_wp2_with fail
    go_ret
    exact ⟨rfl, ⟨ab, ao, m, c, (unhide Hb).set 1 _, (unhide Hrd).setCell hg _, hmc, hm⟩, grown_set _⟩
  · rw [hgn] at c1
    clear hb hrd hbl h
    go_enter Try.func70, Try.ntmps70
    go_wp2_with fail
    go_ret
    exact ⟨rfl, ⟨ab, ao, m, c, (unhide Hb).set 1 _, (unhide Hrd).setCell hg _, hmc, hm⟩, grown_set _⟩

/-- take, both ways. -/
theorem take_any (g B n : Nat) (r : Cl.R) (w : World) (hr : Rdr w g B r) (hg : B ≤ g) (hn : n < 18446744073709551616) :
    Calls Try.prog 70 #[.pointer (some ⟨g, 0, none⟩), .int .u64 n] w fun e w' => ∃ v m, e = .returned v ∧ (m = n ∨ (Cl.take r n).1 = []) ∧ Took w' B v m (Cl.take r n).1 ∧ Rdr w' g B (Cl.take r n).2 ∧ w.grownBy w' (some g) := by
  by_cases h : r.gone = true ∨ r.b.length < n
  · have e : Cl.take r n = ([], ⟨r.b, true⟩) := if_pos h
    rw [e]
    refine (take_no g B n r w hr hg h hn).mono ?_
    rintro e w' ⟨rfl, h1, h2⟩
    exact ⟨_, 0, rfl, .inr rfl, .inl ⟨rfl, rfl, rfl⟩, h1, h2⟩
  · have e : Cl.take r n = (r.b.take n, ⟨r.b.drop n, false⟩) := if_neg h
    rw [e]
    refine (take_yes g B n r w hr hg (by cases hgn : r.gone; rfl; exact absurd (.inl hgn) h) (by
      rcases Nat.lt_or_ge r.b.length n with h1 | h1
      · exact absurd (.inr h1) h
      · exact h1)).mono ?_
    rintro e w' ⟨v, rfl, h1, h2, h3⟩
    exact ⟨v, n, rfl, .inl rfl, h1, h2, h3⟩

theorem Took.none {w : World} {B n : Nat} {l : List UInt8} (h : Took w B (.slice none 0 0) n l) : n = 0 ∧ l = [] := by
  rcases h with ⟨_, h1, h2⟩ | ⟨ab, ao, c, h1, _⟩
  · exact ⟨h1, h2⟩
  · cases h1
theorem num_all {l : List UInt8} {n : Nat} (h : l.length = n) : Wd.num l 0 n = Wd.le l := by
  unfold Wd.num
  rw [List.drop_zero, List.take_of_length_le (by omega)]

set_option maxRecDepth 100000 in
set_option maxHeartbeats 1000000 in
theorem number_yes (g B s : Nat) (r : Cl.R) (w : World) (hr : Rdr w g B r) (hg : B ≤ g) (hs : s = 1 ∨ s = 2 ∨ s = 4 ∨ s = 8) :
    Calls Try.prog 53 #[.pointer (some ⟨g, 0, none⟩), .int .i64 s] w fun e w' => e = .returned (.int .u64 (Cl.rnum r s).1) ∧ Rdr w' g B (Cl.rnum r s).2 ∧ w.grownBy w' (some g) := by
  have hs8 : s ≤ 8 := by omega
  have hgl : g < w.heap.size := by obtain ⟨ab, ao, m, c, hb, _⟩ := hr; exact hb.lt
  have e1 : (Cl.rnum r s).2 = (Cl.take r s).2 := rfl
  have e2 : (Cl.rnum r s).1 = Wd.le (Cl.take r s).1 := rfl
  rw [e1, e2]
  clear e1 e2
  by_cases h : r.gone = true ∨ r.b.length < s
  · have e : Cl.take r s = ([], ⟨r.b, true⟩) := if_pos h
    rw [e]
    have K := hide (take_no g B s r w hr hg h (by omega))
    have K2 := hide (fun w => get_no none 0 0 0 s w (by decide) (by omega) (by omega) (by omega) (by omega))
    clear hr h e hs
    go_enter Try.func53, Try.ntmps53
    go_wp2_with fail
    refine (unhide K).mono ?_
    rintro e w1 ⟨rfl, hr1, hg1⟩
    have Hr1 := hide hr1
    have Hg1 := hide hg1
    clear hr1 hg1
    go_wp2_with fail
    refine ((unhide K2) _).mono ?_
    rintro e w2 ⟨rfl, hb2⟩
    have Hb2 := hide hb2
    clear hb2
    go_wp2_with fail
    go_ret
    have hb2 := unhide Hb2
    refine ⟨rfl, ?_, grown_trans (unhide Hg1) ⟨hb2.os, hb2.tape, hb2.output, hb2.size, fun k hk _ => hb2.block k hk⟩⟩
    obtain ⟨ab, ao, m, c, q1, q2, q3, q4⟩ := unhide Hr1
    exact ⟨ab, ao, m, c, q1.belowSz hb2, q2.below (hb2.mono (by have := q1.lt; omega)), q3, q4⟩
  · have e : Cl.take r s = (r.b.take s, ⟨r.b.drop s, false⟩) := if_neg h
    rw [e]
    have h1 : r.gone = false := by cases hgn : r.gone; rfl; exact absurd (.inl hgn) h
    have h2 : s ≤ r.b.length := by
      rcases Nat.lt_or_ge r.b.length s with h1 | h1
      · exact absurd (.inr h1) h
      · exact h1
    have K := hide (take_yes g B s r w hr hg h1 h2)
    have hlen : (r.b.take s).length = s := by simp; omega
    have hnm := num_all hlen
    have Hnm := hide hnm
    have Hs := hide hs
    simp only
    generalize r.b.take s = l at *
    generalize r.b.drop s = d at *
    clear hr h e hs hnm h1 h2
    go_enter Try.func53, Try.ntmps53
    go_wp2_with fail
    refine (unhide K).mono ?_
    rintro e w1 ⟨v, rfl, ht, hr1, hg1⟩
    have hB1 : B ≤ w1.heap.size := by have := hg1.size; omega
    obtain ⟨ab, ao, c, rfl, hsc, hrd⟩ : ∃ ab ao c, v = .slice (some ⟨ab, ao, none⟩) s c ∧ s ≤ c ∧ Rd w1 B 1 (some ⟨ab, ao, none⟩) s (bys l) := by
      rcases ht with ⟨_, h0, _⟩ | ht
      · have := unhide Hs; omega
      · exact ht
    have K2 := get_yes (some ⟨ab, ao, none⟩) s c B l 0 s w1 hB1 hrd (by unfold maxLen; omega) (unhide Hs) (by omega)
    rw [unhide Hnm] at K2
    replace K2 := hide K2
    have Hr1 := hide hr1
    have Hg1 := hide hg1
    clear hr1 hg1 ht hrd K
    go_wp2_with fail
    refine (unhide K2).mono ?_
    rintro e w2 ⟨rfl, hb2⟩
    have Hb2 := hide hb2
    clear hb2
    go_wp2_with fail
    go_ret
    have hb2 := unhide Hb2
    refine ⟨rfl, ?_, grown_trans (unhide Hg1) ⟨hb2.os, hb2.tape, hb2.output, hb2.size, fun k hk _ => hb2.block k hk⟩⟩
    obtain ⟨ab, ao, m, c, q1, q2, q3, q4⟩ := unhide Hr1
    exact ⟨ab, ao, m, c, q1.belowSz hb2, q2.below (hb2.mono (by have := q1.lt; omega)), q3, q4⟩
end Go.Proofs.Ytphbkjdheopmhaa
namespace Go.Proofs.Ytphbkjdheopmhaa
set_option linter.unusedVariables false
set_option linter.unusedSimpArgs false
open Go.RowKit

theorem grown_some_below {w w' : World} {g : Nat} (h : w.grownBy w' (some g)) {B : Nat} (hB : B ≤ g) (hs : B ≤ w.heap.size) : Below B w w' := (Below.refl B w).grown h hs (fun k hk => by injection hk with hk; omega)
theorem grownBy_of_below' {a b : World} (h : Below a.heap.size a b) : a.grownBy b none := ⟨h.os, h.tape, h.output, h.size, fun k hk _ => h.block k hk⟩
/-- behind a turn of block g, a turn of something newer -/
theorem grown_new {w a b : World} {g row : Option Nat} (h : w.grownBy a g) (k : a.grownBy b row) (hr : ∀ j, row = some j → w.heap.size ≤ j) : w.grownBy b g :=
  ⟨k.os.trans h.os, k.tape.trans h.tape, k.output.trans h.output, Nat.le_trans h.size k.size, fun i hi hne => (k.block i (Nat.lt_of_lt_of_le hi h.size) (fun e => by have := hr i e.symm; omega)).trans (h.block i hi hne)⟩
theorem Rdr.lt {w : World} {g B : Nat} {r : Cl.R} (h : Rdr w g B r) : g < w.heap.size := by obtain ⟨ab, ao, m, c, q1, _⟩ := h; exact q1.lt
theorem Rdr.below {w w' : World} {g B K : Nat} {r : Cl.R} (h : Rdr w g B r) (hb : Below K w w') (hg : g < K) (hB : B ≤ K) : Rdr w' g B r := by
  obtain ⟨ab, ao, m, c, q1, q2, q3, q4⟩ := h
  exact ⟨ab, ao, m, c, q1.below hb hg, q2.below (hb.mono hB), q3, q4⟩
theorem Rdr.len {w : World} {g B : Nat} {r : Cl.R} (h : Rdr w g B r) : r.b.length ≤ 4294967296 := by
  obtain ⟨ab, ao, m, c, q1, q2, q3, q4⟩ := h
  have : r.b.length = m := by simpa [bys] using q2.len1
  omega
theorem take_len (r : Cl.R) (n : Nat) : (Cl.take r n).1.length ≤ r.b.length ∧ (Cl.take r n).2.b.length ≤ r.b.length := by
  unfold Cl.take
  split
  · simp
  · exact ⟨by simp only [List.length_take]; omega, by simp⟩

set_option maxRecDepth 100000 in
set_option maxHeartbeats 1000000 in
theorem bytes_any (g B : Nat) (r : Cl.R) (w : World) (hr : Rdr w g B r) (hg : B ≤ g) :
    Calls Try.prog 51 #[.pointer (some ⟨g, 0, none⟩)] w fun e w' => ∃ A' c', e = .returned (.slice A' (Cl.rtxt r).1.length c') ∧ w'.ownsRow w.heap.size 5 1 (.slice A' (Cl.rtxt r).1.length c') (Cl.rtxt r).1.length (bys (Cl.rtxt r).1) ∧ Rdr w' g B (Cl.rtxt r).2 ∧ w.grownBy w' (some g) := by
  have hgl := hr.lt
  have K := hide (number_yes g B 2 r w hr hg (by omega))
  have hnl : (Cl.rnum r 2).1 < 18446744073709551616 := by
    have h1 := Wd.le_lt (Cl.take r 2).1
    have h2 : (Cl.take r 2).1.length ≤ 2 := by
      unfold Cl.take
      split
      · simp
      · simp; omega
    have h3 : (256 : Nat) ^ (Cl.take r 2).1.length ≤ 256 ^ 2 := Nat.pow_le_pow_right (by omega) h2
    show Wd.le (Cl.take r 2).1 < _
    omega
  have e1 : Cl.rtxt r = Cl.take (Cl.rnum r 2).2 (Cl.rnum r 2).1 := rfl
  rw [e1]
  generalize Cl.rnum r 2 = nr at *
  have K2 : ∀ w1, Rdr w1 g B nr.2 → _ := fun w1 h => take_any g B nr.1 nr.2 w1 h hg hnl
  have hlen2 := (take_len nr.2 nr.1).1
  generalize Cl.take nr.2 nr.1 = tk at *
  obtain ⟨l, r2⟩ := tk
  simp only at K2 hlen2 ⊢
  replace K2 := hide K2
  clear e1 hr
  go_enter Try.func51, Try.ntmps51
  go_wp2_with fail
  refine (unhide K).mono ?_
  rintro e w1 ⟨rfl, hr1, hg1⟩
  have K3 := hide ((unhide K2) w1 hr1)
  have Hg1 := hide hg1
  have hlen := hr1.len
  clear hr1 hg1 K K2
  go_wp2_with fail
  refine (unhide K3).mono ?_
  rintro e w2 ⟨v, m, rfl, hmm, ht, hr2, hg2⟩
  have hg2' := grown_trans (unhide Hg1) hg2
  have Hr2 := hide hr2
  have Hg2 := hide hg2'
  have hsz2 := hg2'.size
  have hgl2 := hr2.lt
  clear hr2 hg2 hg2' K3 Hg1 hmm
  rcases ht with ⟨rfl, rfl, rfl⟩ | ⟨ab, ao, c, rfl, hnc, hrd⟩
  · go_wp2_with fail
    refine (bclone_none w2).mono ?_
    rintro e w3 ⟨rfl, rfl⟩
    go_wp2_with fail
    go_ret
    exact ⟨none, 0, rfl, World.ownsRow_nil _ _ _ _, unhide Hr2, unhide Hg2⟩
  · have hlm : l.length = m := by simpa [bys] using hrd.len1
    subst hlm
    have K3 := hide (bclone_some ⟨ab, ao, none⟩ l.length c B l w2 (by omega) hrd (by omega))
    clear hrd
    go_wp2_with fail
    refine (unhide K3).mono ?_
    rintro e w3 ⟨A3, c3, rfl, ho3, hb3⟩
    have Hr3 := hide ((unhide Hr2).below hb3 hgl2 (by omega))
    have Hg3 := hide (grown_new (unhide Hg2) (grownBy_of_below' hb3) (fun j hj => by cases hj))
    have Ho3 := hide (own_base ho3 hsz2)
    clear ho3 hb3 K3
    go_wp2_with fail
    go_ret
    exact ⟨A3, c3, rfl, unhide Ho3, unhide Hr3, unhide Hg3⟩
theorem rtxts_step {k : Nat} {r : Cl.R} (h : r.gone = false) : Cl.rtxts (k + 1) r = (Cl.ba (Cl.rtxt r).1 :: (Cl.rtxts k (Cl.rtxt r).2).1, (Cl.rtxts k (Cl.rtxt r).2).2) := by
  conv => lhs; unfold Cl.rtxts
  rw [if_neg (by rw [h]; simp)]
theorem rtxts_end {k : Nat} {r : Cl.R} (h : k = 0 ∨ r.gone = true) : Cl.rtxts k r = ([], r) := by
  cases k with
  | zero => rfl
  | succ k =>
    rcases h with h | h
    · cases h
    · unfold Cl.rtxts; rw [if_pos h]
theorem rnum1_lt (r : Cl.R) : (Cl.rnum r 1).1 < 256 := by
  have h1 := Wd.le_lt (Cl.take r 1).1
  have h2 : (Cl.take r 1).1.length ≤ 1 := by
    unfold Cl.take
    split
    · simp
    · simp; omega
  have h3 : (256 : Nat) ^ (Cl.take r 1).1.length ≤ 256 ^ 1 := Nat.pow_le_pow_right (by omega) h2
  show Wd.le (Cl.take r 1).1 < _
  omega
theorem own_ne_g {w : World} {base g : Nat} {e : TypeId} {size n : Nat} {v : Value} {xs : List Value} (h : w.ownsRow base e size v n xs) (hg : g < base) : v.ownBlock = none ∨ v.ownBlock ≠ some g := by
  cases hv : v.ownBlock with
  | none => exact .inl rfl
  | some k => exact .inr (fun e => by injection e with e; have := (h.lt k hv).1; omega)

set_option maxRecDepth 100000 in
set_option maxHeartbeats 2000000 in
theorem list_any (g B : Nat) (r : Cl.R) (w : World) (hr : Rdr w g B r) (hg : B ≤ g) :
    Calls Try.prog 52 #[.pointer (some ⟨g, 0, none⟩)] w fun e w' => ∃ A' c', e = .returned (.slice A' (Cl.rlst r).1.length c') ∧ w'.ownsRow w.heap.size 9 1 (.slice A' (Cl.rlst r).1.length c') (Cl.rlst r).1.length ((Cl.rlst r).1.map Value.string) ∧ Rdr w' g B (Cl.rlst r).2 ∧ w.grownBy w' (some g) := by
  have hgl := hr.lt
  have K := hide (number_yes g B 1 r w hr hg (by omega))
  have e1 : Cl.rlst r = Cl.rtxts (Cl.rnum r 1).1 (Cl.rnum r 1).2 := rfl
  rw [e1]
  have hnl := rnum1_lt r
  generalize Cl.rnum r 1 = nr at *
  obtain ⟨n, r1⟩ := nr
  simp only at K hnl ⊢
  obtain ⟨fin, hfin⟩ : ∃ fin, Cl.rtxts n r1 = fin := ⟨_, rfl⟩
  rw [hfin]
  have Hfin := hide hfin
  clear e1 hr hfin
  go_enter Try.func52, Try.ntmps52
  go_wp2_with fail
  refine (unhide K).mono ?_
  rintro e w1 ⟨rfl, hr1, hg1⟩
  have Hr1 := hide hr1
  have Hg1 := hide hg1
  clear hr1 hg1 K
  go_wp2_with fail
  go_loopg [2, 3] n (fun gk lv nv wr => ∃ (k : Nat) (Ak : Option Addr) (ck : Nat) (L : List ByteArray) (rk : Cl.R), gk = k ∧ L.length + k = n ∧ nv = .int .u64 k ∧ lv = .slice Ak L.length ck ∧ wr.ownsRow w.heap.size 9 1 (.slice Ak L.length ck) L.length (L.map Value.string) ∧ Rdr wr g B rk ∧ w.grownBy wr (some g) ∧ fin = (L ++ (Cl.rtxts k rk).1, (Cl.rtxts k rk).2))
  case atStart => exact ⟨n, none, 0, [], r1, rfl, by simp, rfl, rfl, World.ownsRow_nil _ _ _ _, unhide Hr1, unhide Hg1, by rw [← unhide Hfin]; rfl⟩
  case round =>
  clear Hr1 Hg1 Hfin
  obtain ⟨k, Ak, ck, L, rk, hgk, hLk, rfl, rfl, hown, hrk, hgr, hfin⟩ := hrel
  have Hgk := hide hgk
  have Hrk := hide hrk
  have Hgr := hide hgr
  have Hfin := hide hfin
  have Hown := hide hown
  have hsz := hgr.size
  have hgl2 := hrk.lt
  have hc1 : wr.cell? ⟨g, 1, none⟩ = some (.bool rk.gone) := by
    obtain ⟨ab, ao, m, c, q1, _⟩ := hrk
    exact q1.cell (i := 1) rfl
  clear hgk hrk hgr hfin hown
  rcases Nat.eq_zero_or_pos k with rfl | hk
  · have hf := unhide Hfin
    rw [rtxts_end (.inl rfl)] at hf
    simp only [List.append_nil] at hf
    subst hf
    clear hc1
    go_wp2_with fail
    go_ret
    exact ⟨Ak, ck, rfl, unhide Hown, unhide Hrk, unhide Hgr⟩
  cases hgn : rk.gone
  case true =>
    have hf := unhide Hfin
    rw [rtxts_end (.inr hgn)] at hf
    simp only [List.append_nil] at hf
    subst hf
    rw [hgn] at hc1
    clear hgn
    go_wp2_with fail
    go_ret
    exact ⟨Ak, ck, rfl, unhide Hown, unhide Hrk, unhide Hgr⟩
  obtain ⟨j, rfl⟩ : ∃ j, k = j + 1 := ⟨k - 1, by omega⟩
  have hf := unhide Hfin
  rw [rtxts_step hgn] at hf
  have K2 := hide (bytes_any g B rk wr (unhide Hrk) hg)
  rw [hgn] at hc1
  replace Hfin := hide hf
  clear hgn hf
  generalize Cl.rtxt rk = tx at *
  obtain ⟨x, r2⟩ := tx
  simp only at K2 Hfin
  go_wp2_with fail
  refine (unhide K2).mono ?_
  rintro e w2 ⟨A2, c2, rfl, ho2, hr2, hg2⟩
  have hcv : (convert 24 9 (.slice A2 x.length c2)).run Try.prog w2 = .ok (.string (Cl.ba x)) w2 := conv_any (Rd.of_own ho2) Try.underlying24 Try.underlying5 Try.underlying9
  have hown2 := (unhide Hown).kept hg2 (own_ne_g (unhide Hown) hgl)
  have hg2' := grown_trans (unhide Hgr) hg2
  have hsz2 := hg2'.size
  have hgl3 := hr2.lt
  have Hown2 := hide hown2
  have Hr2 := hide hr2
  have Hg2 := hide hg2'
  clear ho2 hr2 hg2 hg2' hown2 K2 Hgr Hrk Hown hc1
  go_wp2_with (at_builtin; refine wpList_app1g strTy rfl _ _ rfl w.heap.size (.slice Ak L.length ck) L.length (L.map Value.string) rfl (unhide Hown2) #[.string (Cl.ba x)] _ rfl (by simp) rfl (by simp [Value.oneCell']) (by omega) hsz2 ?_; intro A3 c3 w3 ho3 hg3 hat3; have Hg3 := hide (grown_new (unhide Hg2) hg3 (fun j hj => ((unhide Hown2).lt j hj).1)); have Hr3 := hide ((unhide Hr2).below ((Below.refl w.heap.size w2).grown hg3 hsz2 (fun j hj => ((unhide Hown2).lt j hj).1)) hgl (by omega)); have Ho3 := hide ho3; clear ho3 hg3 hat3)
  clear hcv Hown2 Hr2 Hg2
  go_roundg j
  case measure => have := unhide Hgk; omega
  case rel => exact ⟨j, A3, c3, L ++ [Cl.ba x], r2, rfl, by simp; omega, by go_num, by simp, by simpa using unhide Ho3, unhide Hr3, unhide Hg3, by rw [unhide Hfin]; simp⟩
end Go.Proofs.Ytphbkjdheopmhaa
namespace Go.Proofs.Ytphbkjdheopmhaa
set_option linter.unusedVariables false
set_option linter.unusedSimpArgs false
open Go.RowKit

/-- Block g is a reference's reader, over the bytes full, which lie below B. -/
def RRd (full : List UInt8) (w : World) (g B : Nat) (r : Cl.R) : Prop := ∃ ab ao m c p, Blk w g 83 [.slice (some ⟨ab, ao, none⟩) m c, .int .i64 (p : Nat), .bool r.gone] ∧ Rd w B 1 (some ⟨ab, ao, none⟩) m (bys full) ∧ r.b = full.drop p ∧ p ≤ m ∧ m ≤ c ∧ m ≤ 4294967296
theorem RRd.lt {full : List UInt8} {w : World} {g B : Nat} {r : Cl.R} (h : RRd full w g B r) : g < w.heap.size := by obtain ⟨ab, ao, m, c, p, q1, _⟩ := h; exact q1.lt
theorem RRd.below {full : List UInt8} {w w' : World} {g B K : Nat} {r : Cl.R} (h : RRd full w g B r) (hb : Below K w w') (hg : g < K) (hB : B ≤ K) : RRd full w' g B r := by
  obtain ⟨ab, ao, m, c, p, q1, q2, q3, q4, q5, q6⟩ := h
  exact ⟨ab, ao, m, c, p, q1.below hb hg, q2.below (hb.mono hB), q3, q4, q5, q6⟩
theorem RRd.len {full : List UInt8} {w : World} {g B : Nat} {r : Cl.R} (h : RRd full w g B r) : r.b.length ≤ 4294967296 := by
  obtain ⟨ab, ao, m, c, p, q1, q2, q3, q4, q5, q6⟩ := h
  have : full.length = m := by simpa [bys] using q2.len1
  rw [q3, List.length_drop]
  omega
theorem grown_drewN {w : World} {g : Nat} (k : Nat) : w.grownBy (w.drewN k) (some g) := ⟨rfl, rfl, rfl, Nat.le_refl _, fun _ _ _ => rfl⟩

set_option maxRecDepth 100000 in
set_option maxHeartbeats 2000000 in
theorem rtake_no (full : List UInt8) (g B n : Nat) (r : Cl.R) (w : World) (hr : RRd full w g B r) (hg : B ≤ g) (h : r.gone = true ∨ r.b.length < n) (hn : n ≤ 4294967296) :
    Calls Try.prog 72 #[.pointer (some ⟨g, 0, none⟩), .int .i64 n] w fun e w' => e = .returned (.slice none 0 0) ∧ RRd full w' g B ⟨r.b, true⟩ ∧ w.grownBy w' (some g) := by
  obtain ⟨ab, ao, m, c, p, hb, hrd, hrb, hpm, hmc, hm⟩ := hr
  have hbl : full.length = m := by simpa [bys] using hrd.len1
  have hbr : r.b.length = m - p := by rw [hrb, List.length_drop, hbl]
  rw [hbr] at h
  have f2 := hb.free 2
  have c2 := hb.cell (i := 2) rfl
  have hgl := hb.lt
  have Hb := hide hb
  have Hrd := hide hrd
  have Hrb := hide hrb
  cases hgn : r.gone
  · rw [hgn] at c2 h
    have h2 : m < n + p := by have : m - p < n := by simpa using h
                              omega
    have c0 := hb.cell (i := 0) rfl
    have c1 := hb.cell (i := 1) rfl
    have hgt : decide ((m : Int) - (p : Int) < (n : Int)) = true := by simp; omega
    clear hb hrd hbl hbr hrb h
    go_enter Try.func72, Try.ntmps72
    go_wp2_with fail
    go_quiet (fail)
    go_wp2_with fail
    go_ret
    exact ⟨rfl, ⟨ab, ao, m, c, p, ((unhide Hb).drewN nq).set 2 (.bool true), ((unhide Hrd).drewN nq).setCell hg _, unhide Hrb, hpm, hmc, hm⟩, grown_trans (grown_drewN nq) (grown_set _)⟩
  · rw [hgn] at c2
    clear hb hrd hbl hbr hrb h
    go_enter Try.func72, Try.ntmps72
    go_wp2_with fail
    go_quiet (fail)
    go_wp2_with fail
    go_ret
    exact ⟨rfl, ⟨ab, ao, m, c, p, ((unhide Hb).drewN nq).set 2 (.bool true), ((unhide Hrd).drewN nq).setCell hg _, unhide Hrb, hpm, hmc, hm⟩, grown_trans (grown_drewN nq) (grown_set _)⟩

set_option maxRecDepth 100000 in
set_option maxHeartbeats 2000000 in
theorem rtake_yes (full : List UInt8) (g B n : Nat) (r : Cl.R) (w : World) (hr : RRd full w g B r) (hg : B ≤ g) (h1 : r.gone = false) (h2 : n ≤ r.b.length) :
    Calls Try.prog 72 #[.pointer (some ⟨g, 0, none⟩), .int .i64 n] w fun e w' => ∃ v, e = .returned v ∧ Took w' B v n (r.b.take n) ∧ RRd full w' g B ⟨r.b.drop n, false⟩ ∧ w.grownBy w' (some g) := by
  obtain ⟨ab, ao, m, c, p, hb, hrd, hrb, hpm, hmc, hm⟩ := hr
  have hbl : full.length = m := by simpa [bys] using hrd.len1
  have hbr : r.b.length = m - p := by rw [hrb, List.length_drop, hbl]
  rw [hbr] at h2
  rw [h1] at hb
  have f1 := hb.free 1
  have c2 := hb.cell (i := 2) rfl
  have c0 := hb.cell (i := 0) rfl
  have c1 := hb.cell (i := 1) rfl
  have hgl := hb.lt
  have Hb := hide hb
  have Hrd := hide hrd
  have Hrb := hide hrb
  have Hbl := hide hbl
  have hgt : decide ((m : Int) - (p : Int) < (n : Int)) = false := by simp; omega
  have hpn : (p : Int) + (n : Int) ≤ (c : Int) := by omega
  have hpn2 : (p : Int) ≤ (p : Int) + (n : Int) := by omega
  have hsub := (unhide Hrd).sub (off := p) (k := n) (by omega)
  have e1 : ((bys full).drop p).take n = bys (r.b.take n) := by
    rw [hrb]
    unfold bys
    rw [← List.map_drop, ← List.map_take]
  rw [e1] at hsub
  have Hsub := hide hsub
  clear hb hrd hbl hbr hrb h1 hsub e1
  go_enter Try.func72, Try.ntmps72
  by_cases hcp : c = p
  · subst hcp
    obtain rfl : m = c := by omega
    obtain rfl : n = 0 := by omega
    go_wp2_with fail
    go_quiet (fail)
    go_wp2_with fail
    go_quiet (fail)
    go_wp2_with fail
    go_ret
    have hb2 : (r.b.take 0) = [] := rfl
    refine ⟨_, rfl, .inr ⟨ab, ao, 0, by simp, Nat.le_refl _, ⟨rfl, .inl rfl⟩⟩, ⟨ab, ao, m, m, m, ((unhide Hb).drewN _).set 1 _, ((unhide Hrd).drewN _).setCell hg _, by rw [unhide Hrb]; rfl, Nat.le_refl _, Nat.le_refl _, hm⟩, grown_trans (grown_drewN _) (grown_set _)⟩
  · have hcp' : p < c := by omega
    have hcast : ((p : Int) + (n : Int)) = ((p + n : Nat) : Int) := by omega
    have hpn3 : p + n - p = n := by omega
    have Hcast := hide hcast
    have Hpn3 := hide hpn3
    clear hcast hpn3
    go_wp2_with fail
    go_quiet (fail)
    go_wp2_with fail
    go_quiet (fail)
    go_wp2_with fail
    go_ret
    rw [unhide Hcast]
    refine ⟨_, rfl, .inr ⟨ab, ao + p, c - p, ?_, by omega, ((unhide Hsub).drewN _).setCell hg _⟩, ⟨ab, ao, m, c, p + n, ((unhide Hb).drewN _).set 1 _, ((unhide Hrd).drewN _).setCell hg _, ?_, by omega, hmc, hm⟩, grown_trans (grown_drewN _) (grown_set _)⟩
    · show Value.slice _ (p + n - p) _ = _
      rw [unhide Hpn3]
    · show r.b.drop n = _
      rw [unhide Hrb, List.drop_drop]

/-- take, both ways. -/
theorem rtake_any (full : List UInt8) (g B n : Nat) (r : Cl.R) (w : World) (hr : RRd full w g B r) (hg : B ≤ g) (hn : n ≤ 4294967296) :
    Calls Try.prog 72 #[.pointer (some ⟨g, 0, none⟩), .int .i64 n] w fun e w' => ∃ v, e = .returned v ∧ Took w' B v (Cl.take r n).1.length (Cl.take r n).1 ∧ RRd full w' g B (Cl.take r n).2 ∧ w.grownBy w' (some g) := by
  by_cases h : r.gone = true ∨ r.b.length < n
  · have e : Cl.take r n = ([], ⟨r.b, true⟩) := if_pos h
    rw [e]
    refine (rtake_no full g B n r w hr hg h hn).mono ?_
    rintro e w' ⟨rfl, h1, h2⟩
    exact ⟨_, rfl, .inl ⟨rfl, rfl, rfl⟩, h1, h2⟩
  · have e : Cl.take r n = (r.b.take n, ⟨r.b.drop n, false⟩) := if_neg h
    have h2 : n ≤ r.b.length := by
      rcases Nat.lt_or_ge r.b.length n with h1 | h1
      · exact absurd (.inr h1) h
      · exact h1
    have hl : (r.b.take n).length = n := by simp; omega
    rw [e]
    simp only
    rw [hl]
    refine (rtake_yes full g B n r w hr hg (by cases hgn : r.gone; rfl; exact absurd (.inl hgn) h) h2).mono ?_
    rintro e w' ⟨v, rfl, h1, h2, h3⟩
    exact ⟨v, rfl, h1, h2, h3⟩
theorem Took.rd {w : World} {B n : Nat} {v : Value} {l : List UInt8} (h : Took w B v n l) : ∃ A c, v = .slice A n c ∧ Rd w B 1 A n (bys l) := by
  rcases h with ⟨rfl, rfl, rfl⟩ | ⟨ab, ao, c, rfl, _, h⟩
  · exact ⟨Option.none, 0, rfl, Rd.none_ _ _ _ _⟩
  · exact ⟨_, c, rfl, h⟩

set_option maxRecDepth 100000 in
set_option maxHeartbeats 2000000 in
theorem rnum_any (full : List UInt8) (g B s : Nat) (r : Cl.R) (w : World) (hr : RRd full w g B r) (hg : B ≤ g) (hs : s ≤ 8) :
    Calls Try.prog 54 #[.pointer (some ⟨g, 0, none⟩), .int .i64 s] w fun e w' => e = .returned (.int .u64 (Cl.rnum r s).1) ∧ RRd full w' g B (Cl.rnum r s).2 ∧ w.grownBy w' (some g) := by
  have K := hide (rtake_any full g B s r w hr hg (by omega))
  have e1 : (Cl.rnum r s).2 = (Cl.take r s).2 := rfl
  have e2 : (Cl.rnum r s).1 = Wd.le (Cl.take r s).1 := rfl
  rw [e1, e2]
  have hl8 : (Cl.take r s).1.length ≤ 8 := by
    unfold Cl.take
    split
    · simp
    · simp; omega
  have hgl := hr.lt
  generalize Cl.take r s = tk at *
  obtain ⟨l, r2⟩ := tk
  simp only at K hl8 ⊢
  clear e1 e2 hr
  go_enter Try.func54, Try.ntmps54
  go_wp2_with fail
  refine (unhide K).mono ?_
  rintro e w1 ⟨v, rfl, ht, hr1, hg1⟩
  obtain ⟨A, c, rfl, hrd⟩ := ht.rd
  have Hrd := hide hrd
  have Hr1 := hide hr1
  have Hg1 := hide hg1
  obtain ⟨n, hn⟩ : ∃ n, l.length = n := ⟨_, rfl⟩
  rw [hn] at hl8 Hrd
  have Hn := hide hn
  have hsz := hg1.size
  clear ht hr1 hg1 hrd K
  rw [hn]
  clear hn
  go_wp2_with fail
  go_loopg [6, 7] n (fun gk x i wr => ∃ k : Nat, gk = k ∧ k ≤ n ∧ i = .int .i64 ((k : Int) - 1) ∧ x = .int .u64 (Wd.le (l.drop k)) ∧ w1 = wr)
  case atStart => exact ⟨n, rfl, Nat.le_refl _, rfl, by rw [List.drop_eq_nil_of_le (by rw [unhide Hn]; exact Nat.le_refl _)]; rfl, rfl⟩
  case round =>
  obtain ⟨k, hgk, hk, rfl, rfl, rfl⟩ := hrel
  have Hgk := hide hgk
  clear hgk
  by_cases hk0 : k = 0
  · subst hk0
    go_wp2_with fail
    go_ret
    exact ⟨rfl, unhide Hr1, unhide Hg1⟩
  · obtain ⟨j, rfl⟩ : ∃ j, k = j + 1 := ⟨k - 1, by omega⟩
    obtain ⟨x, hx⟩ : ∃ x, l[j]? = some x := ⟨_, List.getElem?_eq_getElem (by rw [unhide Hn]; omega)⟩
    obtain ⟨b1, o1, rfl, _, c1⟩ := (unhide Hrd).at_ (k := j) (u := .int .u8 x.toNat) (bys_at hx)
    have hd : Wd.le (l.drop j) = x.toNat + 256 * Wd.le (l.drop (j + 1)) := by
      rw [List.drop_eq_getElem_cons (by rw [unhide Hn]; omega), (List.getElem?_eq_some_iff.1 hx).2]
      rfl
    have hlt : Wd.le (l.drop j) < 18446744073709551616 := by
      have h1 := Wd.le_lt (l.drop j)
      have h2 : (256 : Nat) ^ (l.drop j).length ≤ 256 ^ 8 := Nat.pow_le_pow_right (by omega) (by rw [List.length_drop, unhide Hn]; omega)
      omega
    have e1 : ((j + 1 : Nat) : Int) - 1 = (j : Int) := by omega
    rw [e1]
    have Hd := hide hd
    have hx8 := x.toNat_lt
    rw [hd] at hlt
    clear hx hd e1
    generalize Wd.le (l.drop (j + 1)) = y at *
    have hlt2 : 256 * (y : Int) + (x.toNat : Int) < 18446744073709551616 := by omega
    go_wp2_with fail
    go_roundg j
    case measure => have := unhide Hgk; omega
    case rel => exact ⟨j, rfl, by omega, by go_num, by rw [unhide Hd]; congr 1; push_cast; omega, rfl⟩
end Go.Proofs.Ytphbkjdheopmhaa
namespace Go.Proofs.Ytphbkjdheopmhaa
set_option linter.unusedVariables false
set_option linter.unusedSimpArgs false
open Go.RowKit

theorem rnum2_lt (r : Cl.R) : (Cl.rnum r 2).1 < 65536 := by
  have h1 := Wd.le_lt (Cl.take r 2).1
  have h2 : (Cl.take r 2).1.length ≤ 2 := by
    unfold Cl.take
    split
    · simp
    · simp; omega
  have h3 : (256 : Nat) ^ (Cl.take r 2).1.length ≤ 256 ^ 2 := Nat.pow_le_pow_right (by omega) h2
  show Wd.le (Cl.take r 2).1 < _
  omega

set_option maxRecDepth 100000 in
set_option maxHeartbeats 1000000 in
theorem rtext_rd (full : List UInt8) (g B : Nat) (r : Cl.R) (w : World) (hr : RRd full w g B r) (hg : B ≤ g) :
    Calls Try.prog 55 #[.pointer (some ⟨g, 0, none⟩)] w fun e w' => e = .returned (.string (Cl.ba (Cl.rtxt r).1)) ∧ RRd full w' g B (Cl.rtxt r).2 ∧ w.grownBy w' (some g) := by
  have K := hide (rnum_any full g B 2 r w hr hg (by omega))
  have hnl := rnum2_lt r
  have e1 : Cl.rtxt r = Cl.take (Cl.rnum r 2).2 (Cl.rnum r 2).1 := rfl
  rw [e1]
  generalize Cl.rnum r 2 = nr at *
  have K2 : ∀ w1, RRd full w1 g B nr.2 → _ := fun w1 h => rtake_any full g B nr.1 nr.2 w1 h hg (by omega)
  generalize Cl.take nr.2 nr.1 = tk at *
  obtain ⟨l, r2⟩ := tk
  simp only at K2 ⊢
  replace K2 := hide K2
  clear e1 hr
  go_enter Try.func55, Try.ntmps55
  go_wp2_with fail
  refine (unhide K).mono ?_
  rintro e w1 ⟨rfl, hr1, hg1⟩
  have K3 := hide ((unhide K2) w1 hr1)
  have Hg1 := hide hg1
  clear hr1 hg1 K K2
  go_wp2_with fail
  refine (unhide K3).mono ?_
  rintro e w2 ⟨v, rfl, ht, hr2, hg2⟩
  obtain ⟨A, c, rfl, hrd⟩ := ht.rd
  have hcv : (convert 24 9 (.slice A l.length c)).run Try.prog w2 = .ok (.string (Cl.ba l)) w2 := conv_any hrd Try.underlying24 Try.underlying5 Try.underlying9
  have Hr2 := hide hr2
  have Hg2 := hide (grown_trans (unhide Hg1) hg2)
  clear ht hr2 hg2 hrd K3 Hg1
  go_wp2_with fail
  go_ret
  exact ⟨rfl, unhide Hr2, unhide Hg2⟩

set_option maxRecDepth 100000 in
set_option maxHeartbeats 2000000 in
theorem rlist_rd (full : List UInt8) (g B : Nat) (r : Cl.R) (w : World) (hr : RRd full w g B r) (hg : B ≤ g) :
    Calls Try.prog 56 #[.pointer (some ⟨g, 0, none⟩)] w fun e w' => ∃ A' c', e = .returned (.slice A' (Cl.rlst r).1.length c') ∧ w'.ownsRow w.heap.size 9 1 (.slice A' (Cl.rlst r).1.length c') (Cl.rlst r).1.length ((Cl.rlst r).1.map Value.string) ∧ RRd full w' g B (Cl.rlst r).2 ∧ w.grownBy w' (some g) := by
  have hgl := hr.lt
  have K := hide (rnum_any full g B 1 r w hr hg (by omega))
  have e1 : Cl.rlst r = Cl.rtxts (Cl.rnum r 1).1 (Cl.rnum r 1).2 := rfl
  rw [e1]
  have hnl := rnum1_lt r
  generalize Cl.rnum r 1 = nr at *
  obtain ⟨n, r1⟩ := nr
  simp only at K hnl ⊢
  obtain ⟨fin, hfin⟩ : ∃ fin, Cl.rtxts n r1 = fin := ⟨_, rfl⟩
  rw [hfin]
  have Hfin := hide hfin
  clear e1 hr hfin
  go_enter Try.func56, Try.ntmps56
  go_wp2_with fail
  refine (unhide K).mono ?_
  rintro e w1 ⟨rfl, hr1, hg1⟩
  have Hr1 := hide hr1
  have Hg1 := hide hg1
  clear hr1 hg1 K
  go_wp2_with fail
  go_loopg [3, 5] n (fun gk lv iv wr => ∃ (k : Nat) (Ak : Option Addr) (ck : Nat) (L : List ByteArray) (rk : Cl.R), gk = k ∧ L.length + k = n ∧ iv = .int .i64 L.length ∧ lv = .slice Ak L.length ck ∧ wr.ownsRow w.heap.size 9 1 (.slice Ak L.length ck) L.length (L.map Value.string) ∧ RRd full wr g B rk ∧ w.grownBy wr (some g) ∧ fin = (L ++ (Cl.rtxts k rk).1, (Cl.rtxts k rk).2))
  case atStart => exact ⟨n, none, 0, [], r1, rfl, by simp, rfl, rfl, World.ownsRow_nil _ _ _ _, unhide Hr1, unhide Hg1, by rw [← unhide Hfin]; rfl⟩
  case round =>
  clear Hr1 Hg1 Hfin
  obtain ⟨k, Ak, ck, L, rk, hgk, hLk, rfl, rfl, hown, hrk, hgr, hfin⟩ := hrel
  have Hgk := hide hgk
  have Hrk := hide hrk
  have Hgr := hide hgr
  have Hfin := hide hfin
  have Hown := hide hown
  have hsz := hgr.size
  have hgl2 := hrk.lt
  have hc1 : wr.cell? ⟨g, 2, none⟩ = some (.bool rk.gone) := by
    obtain ⟨ab, ao, m, c, p, q1, _⟩ := hrk
    exact q1.cell (i := 2) rfl
  clear hgk hrk hgr hfin hown
  rcases Nat.eq_zero_or_pos k with rfl | hk
  · have hf := unhide Hfin
    rw [rtxts_end (.inl rfl)] at hf
    simp only [List.append_nil] at hf
    subst hf
    clear hc1
    go_wp2_with fail
    go_ret
    exact ⟨Ak, ck, rfl, unhide Hown, unhide Hrk, unhide Hgr⟩
  cases hgn : rk.gone
  case true =>
    have hf := unhide Hfin
    rw [rtxts_end (.inr hgn)] at hf
    simp only [List.append_nil] at hf
    subst hf
    rw [hgn] at hc1
    clear hgn
    go_wp2_with fail
    go_ret
    exact ⟨Ak, ck, rfl, unhide Hown, unhide Hrk, unhide Hgr⟩
  obtain ⟨j, rfl⟩ : ∃ j, k = j + 1 := ⟨k - 1, by omega⟩
  have hf := unhide Hfin
  rw [rtxts_step hgn] at hf
  have K2 := hide (rtext_rd full g B rk wr (unhide Hrk) hg)
  rw [hgn] at hc1
  replace Hfin := hide hf
  clear hgn hf
  generalize Cl.rtxt rk = tx at *
  obtain ⟨x, r2⟩ := tx
  simp only at K2 Hfin
  go_wp2_with fail
  refine (unhide K2).mono ?_
  rintro e w2 ⟨rfl, hr2, hg2⟩
  have hown2 := (unhide Hown).kept hg2 (own_ne_g (unhide Hown) hgl)
  have hg2' := grown_trans (unhide Hgr) hg2
  have hsz2 := hg2'.size
  have hgl3 := hr2.lt
  have Hown2 := hide hown2
  have Hr2 := hide hr2
  have Hg2 := hide hg2'
  clear hr2 hg2 hg2' hown2 K2 Hgr Hrk Hown hc1
  go_wp2_with (at_builtin; refine wpList_app1g strTy rfl _ _ rfl w.heap.size (.slice Ak L.length ck) L.length (L.map Value.string) rfl (unhide Hown2) #[.string (Cl.ba x)] _ rfl (by simp) rfl (by simp [Value.oneCell']) (by omega) hsz2 ?_; intro A3 c3 w3 ho3 hg3 hat3; have Hg3 := hide (grown_new (unhide Hg2) hg3 (fun j hj => ((unhide Hown2).lt j hj).1)); have Hr3 := hide ((unhide Hr2).below ((Below.refl w.heap.size w2).grown hg3 hsz2 (fun j hj => ((unhide Hown2).lt j hj).1)) hgl (by omega)); have Ho3 := hide ho3; clear ho3 hg3 hat3)
  clear Hown2 Hr2 Hg2
  go_roundg j
  case measure => have := unhide Hgk; omega
  case rel => exact ⟨j, A3, c3, L ++ [Cl.ba x], r2, rfl, by simp only [List.length_append, List.length_singleton]; omega, by simp, by simp, by simpa using unhide Ho3, unhide Hr3, unhide Hg3, by rw [unhide Hfin]; simp⟩
end Go.Proofs.Ytphbkjdheopmhaa
namespace Go.Proofs.Ytphbkjdheopmhaa.Cl
set_option linter.unusedVariables false
set_option linter.unusedSimpArgs false
open Go.Proofs.Ytphbkjdheopmhaa

/-- What a call that may be keeps to. -/
structure Small (q : C) : Prop where
  k1 : 1 ≤ q.kind
  k2 : q.kind ≤ 12
  only : onlyB q = true
  p : q.path.size ≤ 200
  a1 : q.argv.length ≤ 32
  a2 : ∀ x ∈ q.argv, x.size ≤ 256
  e1 : q.env.length ≤ 32
  e2 : ∀ x ∈ q.env, x.size ≤ 256
  b : q.bytes.length ≤ 4096
theorem envCk_small {l : List ByteArray} (h : envCk l = 0) : l.length ≤ 32 ∧ ∀ x ∈ l, x.size ≤ 256 := by
  unfold envCk at h
  split at h
  · cases h
  · rename_i h1
    split at h
    · cases h
    · rename_i h2
      refine ⟨by omega, fun x hx => ?_⟩
      rcases Nat.lt_or_ge 256 x.size with h3 | h3
      · exact absurd (List.any_eq_true.2 ⟨x, hx, by simp [bigT, h3]⟩) h2
      · exact h3
theorem fst2_zero {a b : Int} (h : fst2 a b = 0) : a = 0 ∧ b = 0 := by
  unfold fst2 at h
  split at h
  · exact ⟨by assumption, h⟩
  · exact absurd h (by assumption)
theorem only_at {q : C} (h : onlyB q = true) {f : Nat} (hf : f < 9) : (fsN q.kind).contains f = true ∨ emptyB q f = true := by
  have := List.all_eq_true.1 h f (List.mem_range.2 hf)
  unfold fieldB at this
  simpa using this
theorem has_field {k f : Nat} (h : (fsN k).contains f = true) : (f = 5 → k = 1 ∨ k = 10) ∧ (f = 6 → k = 1) ∧ (f = 7 → k = 1) ∧ (f = 8 → k = 9) := by
  have hall : ∀ k, k < 13 → ((fsN k).contains 5 = true → k = 1 ∨ k = 10) ∧ ((fsN k).contains 6 = true → k = 1) ∧ ((fsN k).contains 7 = true → k = 1) ∧ ((fsN k).contains 8 = true → k = 9) := by decide
  have hk : k < 13 := by
    rcases Nat.lt_or_ge k 13 with hk | hk
    · exact hk
    · have e : fsN k = [] := by
        unfold fsN
        split <;> first | rfl | omega
      rw [e] at h
      cases h
  obtain ⟨h5, h6, h7, h8⟩ := hall k hk
  exact ⟨fun e => h5 (e ▸ h), fun e => h6 (e ▸ h), fun e => h7 (e ▸ h), fun e => h8 (e ▸ h)⟩
theorem check_small {q : C} (h : check q = 0) : Small q := by
  unfold check at h
  split at h
  · cases h
  rename_i hk
  split at h
  · cases h
  rename_i ho
  have ho : onlyB q = true := by simpa using ho
  have hp : q.path.size ≤ 200 := by
    rcases only_at ho (f := 5) (by omega) with h1 | h1
    · rcases (has_field h1).1 rfl with h2 | h2
      · rw [if_pos h2] at h
        exact Pth.chk_size _ (fst2_zero h).1
      · rw [if_neg (by omega), if_neg (by omega), if_neg (by omega), if_pos h2] at h
        exact Pth.chk_size _ (fst2_zero h).1
    · have : q.path.size = 0 := of_decide_eq_true h1
      omega
  have ha : q.argv.length ≤ 32 ∧ ∀ x ∈ q.argv, x.size ≤ 256 := by
    rcases only_at ho (f := 6) (by omega) with h1 | h1
    · have h2 := (has_field h1).2.1 rfl
      rw [if_pos h2] at h
      exact envCk_small (fst2_zero (fst2_zero h).2).1
    · have h3 : q.argv.length = 0 := of_decide_eq_true h1
      have h4 : q.argv = [] := List.eq_nil_of_length_eq_zero h3
      rw [h4]
      simp
  have he : q.env.length ≤ 32 ∧ ∀ x ∈ q.env, x.size ≤ 256 := by
    rcases only_at ho (f := 7) (by omega) with h1 | h1
    · have h2 := (has_field h1).2.2.1 rfl
      rw [if_pos h2] at h
      exact envCk_small (fst2_zero (fst2_zero h).2).2
    · have h3 : q.env.length = 0 := of_decide_eq_true h1
      have h4 : q.env = [] := List.eq_nil_of_length_eq_zero h3
      rw [h4]
      simp
  have hb : q.bytes.length ≤ 4096 := by
    rcases only_at ho (f := 8) (by omega) with h1 | h1
    · have h2 := (has_field h1).2.2.2 rfl
      rw [if_neg (by omega), if_neg (by omega), if_pos h2] at h
      split at h
      · cases h
      · omega
    · have h3 : q.bytes.length = 0 := of_decide_eq_true h1
      omega
  exact ⟨by omega, by omega, ho, hp, ha.1, ha.2, he.1, he.2, hb⟩

/-- the numbers of a call fit -/
structure Nums (q : C) : Prop where
  a : q.a < 18446744073709551616
  b : q.b < 18446744073709551616
  c : q.c < 18446744073709551616
  d : q.d < 18446744073709551616
  e : q.e < 18446744073709551616

theorem take_app (x t : List UInt8) {n : Nat} (h : x.length = n) : take ⟨x ++ t, false⟩ n = (x, ⟨t, false⟩) := by
  unfold take
  rw [if_neg (by simp; omega)]
  simp only
  rw [List.take_append_of_le_length (by omega), List.drop_append_of_le_length (by omega), ← h, List.take_length, List.drop_length]
  rfl
theorem rnum_app {x n : Nat} (t : List UInt8) (h : x < 256 ^ n) : rnum ⟨lb x n ++ t, false⟩ n = (x, ⟨t, false⟩) := by
  unfold rnum
  rw [take_app _ _ (lb_len n x)]
  simp only
  rw [le_lb n x h]
theorem rtxt_app (s t : List UInt8) (h : s.length < 65536) : rtxt ⟨txt s ++ t, false⟩ = (s, ⟨t, false⟩) := by
  unfold rtxt txt
  rw [List.append_assoc, rnum_app _ (by omega)]
  exact take_app _ _ rfl
theorem rtxts_app (l : List ByteArray) (t : List UInt8) (h : ∀ x ∈ l, x.size < 65536) : rtxts l.length ⟨txts l ++ t, false⟩ = (l, ⟨t, false⟩) := by
  induction l with
  | nil => rfl
  | cons x r ih =>
    simp only [List.length_cons, txts, rtxts, Bool.false_eq_true, if_false, List.append_assoc]
    rw [rtxt_app _ _ (by rw [bl_len]; exact h x (.head _)), ih (fun y hy => h y (.tail _ hy)), ba_bl]
theorem rlst_app (l : List ByteArray) (t : List UInt8) (h : ∀ x ∈ l, x.size < 65536) (hl : l.length < 256) : rlst ⟨lst l ++ t, false⟩ = (l, ⟨t, false⟩) := by
  unfold rlst lst
  rw [List.append_assoc, rnum_app _ (by omega)]
  exact rtxts_app l t h
/-- a call with one field more -/
def setF (q s : C) : Nat → C
  | 5 => { s with path := q.path }
  | 6 => { s with argv := q.argv }
  | 7 => { s with env := q.env }
  | 8 => { s with bytes := q.bytes }
  | 0 => { s with a := q.a }
  | 1 => { s with b := q.b }
  | 2 => { s with c := q.c }
  | 3 => { s with d := q.d }
  | _ => { s with e := q.e }
def setFs (q : C) : List Nat → C → C
  | [], s => s
  | f :: r, s => setFs q r (setF q s f)
theorem rfld_app {q : C} (hs : Small q) (hn : Nums q) (s : C) (t : List UInt8) {f : Nat} (hf : f < 9) : rfld (s, ⟨fld q f ++ t, false⟩) f = (setF q s f, ⟨t, false⟩) := by
  obtain rfl | rfl | rfl | rfl | rfl | rfl | rfl | rfl | rfl : f = 0 ∨ f = 1 ∨ f = 2 ∨ f = 3 ∨ f = 4 ∨ f = 5 ∨ f = 6 ∨ f = 7 ∨ f = 8 := by omega
  · simp only [rfld, fld, num, setF]; rw [rnum_app _ hn.a]
  · simp only [rfld, fld, num, setF]; rw [rnum_app _ hn.b]
  · simp only [rfld, fld, num, setF]; rw [rnum_app _ hn.c]
  · simp only [rfld, fld, num, setF]; rw [rnum_app _ hn.d]
  · simp only [rfld, fld, num, setF]; rw [rnum_app _ hn.e]
  · simp only [rfld, fld, setF]; rw [rtxt_app _ _ (by rw [bl_len]; have := hs.p; omega), ba_bl]
  · simp only [rfld, fld, setF]; rw [rlst_app _ _ (fun x hx => by have := hs.a2 x hx; omega) (by have := hs.a1; omega)]
  · simp only [rfld, fld, setF]; rw [rlst_app _ _ (fun x hx => by have := hs.e2 x hx; omega) (by have := hs.e1; omega)]
  · simp only [rfld, fld, setF]; rw [rtxt_app _ _ (by have := hs.b; omega)]
theorem rflds_appR {q : C} (hs : Small q) (hn : Nums q) (l : List Nat) (hl : ∀ f ∈ l, f < 9) (s : C) (t : List UInt8) : rflds l (s, ⟨flds q l ++ t, false⟩) = (setFs q l s, ⟨t, false⟩) := by
  induction l generalizing s with
  | nil => rfl
  | cons f r ih =>
    simp only [rflds, flds, setFs, List.append_assoc]
    rw [rfld_app hs hn s _ (hl f (.head _))]
    exact ih (fun x hx => hl x (.tail _ hx)) _
theorem ba_nil {p : ByteArray} (h : p.size = 0) : p = ba [] := ByteArray.ext (Array.eq_empty_of_size_eq_zero h)
theorem emptyN {q : C} {f : Nat} (hf : f < 5) (h : emptyB q f = true) : num q f = 0 := by
  obtain rfl | rfl | rfl | rfl | rfl : f = 0 ∨ f = 1 ∨ f = 2 ∨ f = 3 ∨ f = 4 := by omega
  all_goals exact of_decide_eq_true (by simpa [emptyB] using h)
theorem setFs_all {q : C} (hs : Small q) : setFs q (fsN q.kind) (kindC q.kind) = q := by
  have ho : ∀ f, f < 9 → (fsN q.kind).contains f = true ∨ emptyB q f = true := fun f hf => only_at hs.only hf
  have h0 := ho 0 (by omega); have h1 := ho 1 (by omega); have h2 := ho 2 (by omega); have h3 := ho 3 (by omega); have h4 := ho 4 (by omega)
  have h5 := ho 5 (by omega); have h6 := ho 6 (by omega); have h7 := ho 7 (by omega); have h8 := ho 8 (by omega)
  have k1 := hs.k1
  have k2 := hs.k2
  clear ho hs
  obtain ⟨k, a, b, c, d, e, p, av, ev, bs⟩ := q
  simp only at *
  obtain rfl | rfl | rfl | rfl | rfl | rfl | rfl | rfl | rfl | rfl | rfl | rfl : k = 1 ∨ k = 2 ∨ k = 3 ∨ k = 4 ∨ k = 5 ∨ k = 6 ∨ k = 7 ∨ k = 8 ∨ k = 9 ∨ k = 10 ∨ k = 11 ∨ k = 12 := by omega
  all_goals
    simp [fsN, emptyB, num] at h0 h1 h2 h3 h4 h5 h6 h7 h8
    simp [setFs, setF, fsN, kindC, *]
    try rfl
theorem form_len_pos (q : C) : 0 < (form q).length := by simp [form]
theorem kind_byte {q : C} (hs : Small q) : (UInt8.ofNat q.kind).toNat = q.kind := by
  have := hs.k2
  simp
  omega
theorem rall_form {q : C} (hs : Small q) (hn : Nums q) (t : List UInt8) : rall q.kind (flds q (fsN q.kind) ++ t) = (q, ⟨t, false⟩) := by
  unfold rall
  rw [rflds_appR hs hn _ (fsN_ok q.kind).1, setFs_all hs]
/-- What is written is read, whatever stands behind. -/
theorem read_form {q : C} (h : check q = 0) (hn : Nums q) (t : List UInt8) : read (form q ++ t) = (q, (form q).length, 0) := by
  have hs := check_small h
  have k1 := hs.k1
  have k2 := hs.k2
  unfold form read
  simp only [List.cons_append]
  rw [kind_byte hs, rall_form hs hn t, if_neg (by omega), if_neg (by simp), if_pos h]
  simp only [List.length_cons, List.length_append]
  congr 2
  omega
/-- Cut, it is not. -/
theorem read_cut {q : C} (h : check q = 0) (hn : Nums q) {n : Nat} (hc : n < (form q).length) : read ((form q).take n) = (zeroC, 0, 24) := by
  have hs := check_small h
  have k1 := hs.k1
  have k2 := hs.k2
  cases n with
  | zero => rfl
  | succ n =>
    have hl : n < (flds q (fsN q.kind)).length := by simpa [form] using hc
    unfold form read
    simp only [List.take_succ_cons]
    rw [kind_byte hs, if_neg (by omega)]
    cases hg : (rall q.kind ((flds q (fsN q.kind)).take n)).2.gone
    · exfalso
      have h1 := rflds_more ((flds q (fsN q.kind)).drop n) (fsN q.kind) (s := (kindC q.kind, ⟨(flds q (fsN q.kind)).take n, false⟩)) (fsN_ok q.kind).1 (fsN_ok q.kind).2 hg
      have h2 := rall_form hs hn []
      unfold rall at h2
      rw [List.append_nil] at h2
      have e : more ((flds q (fsN q.kind)).drop n) ⟨(flds q (fsN q.kind)).take n, false⟩ = ⟨flds q (fsN q.kind), false⟩ := by unfold more; simp [List.take_append_drop]
      simp only at h1
      rw [e, h2] at h1
      have h3 := congrArg (fun s : C × R => s.2.b.length) h1
      simp [more] at h3
      omega
    · rfl
theorem rfld_kind (s : C × R) (f : Nat) : (rfld s f).1.kind = s.1.kind := by
  unfold rfld
  split <;> rfl
theorem rflds_kind (l : List Nat) (s : C × R) : (rflds l s).1.kind = s.1.kind := by
  induction l generalizing s with
  | nil => rfl
  | cons f r ih => simp only [rflds]; rw [ih, rfld_kind]
/-- What was read is written as it was. -/
theorem form_read {b : List UInt8} (h : (read b).2.2 = 0) : check (read b).1 = 0 ∧ b = form (read b).1 ++ b.drop (read b).2.1 ∧ (read b).2.1 = (form (read b).1).length := by
  cases b with
  | nil => cases h
  | cons k r =>
    unfold read at h ⊢
    simp only at h ⊢
    split at h
    · cases h
    rename_i hk
    split at h
    · cases h
    rename_i hg
    split at h
    · rename_i hc
      rw [if_neg hk, if_neg hg, if_pos hc]
      simp only
      have hg : (rall k.toNat r).2.gone = false := by simpa using hg
      obtain ⟨_, h1⟩ := rflds_went (fsN k.toNat) (s := (kindC k.toNat, ⟨r, false⟩)) (fsN_ok _).1 (fsN_ok _).2 hg
      have hkd : (rall k.toNat r).1.kind = k.toNat := rflds_kind _ _
      have h2 := h1.2.2
      simp only at h2
      have hfm : form (rall k.toNat r).1 = k :: flds (rall k.toNat r).1 (fsN k.toNat) := by
        unfold form
        rw [hkd]
        simp
      have hlen : r.length = (flds (rall k.toNat r).1 (fsN k.toNat)).length + (rall k.toNat r).2.b.length := by
        have := congrArg List.length h2
        rw [List.length_append] at this
        exact this
      have hn : r.length + 1 - (rall k.toNat r).2.b.length = (form (rall k.toNat r).1).length := by
        rw [hfm, List.length_cons]
        omega
      refine ⟨hc, ?_, hn⟩
      rw [hn]
      have h3 : k :: r = form (rall k.toNat r).1 ++ (rall k.toNat r).2.b := by
        rw [hfm, List.cons_append]
        congr 1
      conv => rhs; rw [h3]
      rw [List.drop_append_of_le_length (Nat.le_refl _), List.drop_length, List.nil_append]
      exact h3
    · rename_i hc
      exact absurd h hc
theorem read_bad {b : List UInt8} (h : (read b).2.2 ≠ 0) : (read b).1 = zeroC ∧ (read b).2.1 = 0 := by
  cases b with
  | nil => exact ⟨rfl, rfl⟩
  | cons k r =>
    unfold read at h ⊢
    simp only at h ⊢
    split
    · exact ⟨rfl, rfl⟩
    · split
      · exact ⟨rfl, rfl⟩
      · split
        · rename_i h1 h2 h3
          rw [if_neg h1, if_neg h2, if_pos h3] at h
          exact absurd rfl h
        · exact ⟨rfl, rfl⟩
/-- the numbers of what was read fit -/
theorem read_len (b : List UInt8) : (read b).2.1 ≤ b.length := by
  by_cases h : (read b).2.2 = 0
  · obtain ⟨_, h1, h2⟩ := form_read h
    rw [h2]
    conv => rhs; rw [h1, List.length_append]
    omega
  · rw [(read_bad h).2]
    omega
theorem rnum_lt (r : R) : (rnum r 8).1 < 18446744073709551616 := by
  have h := Wd.le_lt (take r 8).1
  have h2 : (take r 8).1.length ≤ 8 := by
    unfold take
    split
    · simp
    · simp; omega
  have h3 : (256 : Nat) ^ (take r 8).1.length ≤ 256 ^ 8 := Nat.pow_le_pow_right (by omega) h2
  show Wd.le (take r 8).1 < _
  omega
theorem rfld_nums (s : C × R) (f : Nat) (h : Nums s.1) : Nums (rfld s f).1 := by
  unfold rfld
  split
  · exact ⟨h.a, h.b, h.c, h.d, h.e⟩
  · exact ⟨h.a, h.b, h.c, h.d, h.e⟩
  · exact ⟨h.a, h.b, h.c, h.d, h.e⟩
  · exact ⟨h.a, h.b, h.c, h.d, h.e⟩
  · exact ⟨rnum_lt _, h.b, h.c, h.d, h.e⟩
  · exact ⟨h.a, rnum_lt _, h.c, h.d, h.e⟩
  · exact ⟨h.a, h.b, rnum_lt _, h.d, h.e⟩
  · exact ⟨h.a, h.b, h.c, rnum_lt _, h.e⟩
  · exact ⟨h.a, h.b, h.c, h.d, rnum_lt _⟩
theorem rflds_nums (l : List Nat) (s : C × R) (h : Nums s.1) : Nums (rflds l s).1 := by
  induction l generalizing s with
  | nil => exact h
  | cons f r ih => exact ih _ (rfld_nums s f h)
theorem kindC_nums (k : Nat) : Nums (kindC k) := ⟨by simp [kindC], by simp [kindC], by simp [kindC], by simp [kindC], by simp [kindC]⟩
theorem read_nums (b : List UInt8) : Nums (read b).1 := by
  cases b with
  | nil => exact kindC_nums 0
  | cons k r =>
    unfold read
    simp only
    split
    · exact kindC_nums 0
    · split
      · exact kindC_nums 0
      · split
        · exact rflds_nums _ _ (kindC_nums _)
        · exact kindC_nums 0

/-- The steps that bytes say. -/
def stepsF : Nat → List UInt8 → Nat → List (Nat × C) → List (Nat × C) × Int × Nat
  | 0, _, _, l => (l, 0, 0)
  | n + 1, [], _, l => (l, 0, 0)
  | n + 1, p :: r, at_, l => if (read r).2.2 = 0 then stepsF n (r.drop (read r).2.1) (at_ + 1 + (read r).2.1) (l ++ [(p.toNat, (read r).1)]) else ([], (read r).2.2, at_)
def steps (b : List UInt8) : List (Nat × C) × Int × Nat := stepsF b.length b 0 []
theorem stepsF_nil (n at_ : Nat) (l : List (Nat × C)) : stepsF n [] at_ l = (l, 0, 0) := by cases n <;> rfl
theorem stepsF_fuel (n m : Nat) (r : List UInt8) (at_ : Nat) (l : List (Nat × C)) (h1 : r.length ≤ n) (h2 : r.length ≤ m) : stepsF n r at_ l = stepsF m r at_ l := by
  induction n generalizing m r at_ l with
  | zero =>
    have : r = [] := List.eq_nil_of_length_eq_zero (by omega)
    subst this
    rw [stepsF_nil, stepsF_nil]
  | succ n ih =>
    cases r with
    | nil => rw [stepsF_nil, stepsF_nil]
    | cons p r =>
      obtain ⟨m, rfl⟩ : ∃ j, m = j + 1 := ⟨m - 1, by simp at h2; omega⟩
      simp only [stepsF]
      simp at h1 h2
      rw [ih m _ _ _ (by simp; omega) (by simp; omega)]
/-- One step: read or not. -/
theorem stepsF_cons (n : Nat) (p : UInt8) (r : List UInt8) (at_ : Nat) (l : List (Nat × C)) (h : r.length + 1 ≤ n) :
    stepsF n (p :: r) at_ l = if (read r).2.2 = 0 then stepsF n (r.drop (read r).2.1) (at_ + 1 + (read r).2.1) (l ++ [(p.toNat, (read r).1)]) else ([], (read r).2.2, at_) := by
  obtain ⟨m, rfl⟩ : ∃ j, n = j + 1 := ⟨n - 1, by omega⟩
  conv => lhs; simp only [stepsF]
  rw [stepsF_fuel m (m + 1) _ _ _ (by simp; omega) (by simp; omega)]

/-- Steps as bytes. -/
def script : List (Nat × C) → List UInt8
  | [] => []
  | s :: r => UInt8.ofNat s.1 :: form s.2 ++ script r
theorem script_app (a b : List (Nat × C)) : script (a ++ b) = script a ++ script b := by
  induction a with
  | nil => rfl
  | cons s r ih => simp [script, ih]
/-- steps that may be written -/
def Good (s : Nat × C) : Prop := s.1 < 256 ∧ check s.2 = 0 ∧ Nums s.2
theorem stepsF_script (L : List (Nat × C)) (hL : ∀ s ∈ L, Good s) (t : List UInt8) (n at_ : Nat) (l : List (Nat × C)) (h : (script L ++ t).length ≤ n) :
    stepsF n (script L ++ t) at_ l = stepsF n t (at_ + (script L).length) (l ++ L) := by
  induction L generalizing at_ l with
  | nil => simp [script]
  | cons s r ih =>
    obtain ⟨g1, g2, g3⟩ := hL s (.head _)
    have e : script (s :: r) ++ t = UInt8.ofNat s.1 :: (form s.2 ++ (script r ++ t)) := by simp [script]
    have hl : (script (s :: r) ++ t).length = (form s.2 ++ (script r ++ t)).length + 1 := by rw [e, List.length_cons]
    rw [e, stepsF_cons _ _ _ _ _ (by omega), read_form g2 g3]
    simp only [if_true]
    rw [List.drop_append_of_le_length (Nat.le_refl _), List.drop_length, List.nil_append, ih (fun x hx => hL x (.tail _ hx)) _ _ (by rw [hl, List.length_append] at h; omega)]
    congr 1
    · simp [script]; omega
    · have : (UInt8.ofNat s.1).toNat = s.1 := by simp; omega
      rw [this]
      simp
theorem steps_script (L : List (Nat × C)) (hL : ∀ s ∈ L, Good s) : steps (script L) = (L, 0, 0) := by
  have h := stepsF_script L hL [] (script L).length 0 [] (by simp)
  rw [List.append_nil, stepsF_nil] at h
  simpa [steps] using h
theorem steps_cut (L : List (Nat × C)) (hL : ∀ s ∈ L, Good s) (s : Nat × C) (hs : Good s) (n : Nat) (h : n < (form s.2).length) :
    steps (script L ++ UInt8.ofNat s.1 :: (form s.2).take n) = ([], 24, (script L).length) := by
  unfold steps
  rw [stepsF_script L hL _ _ _ _ (Nat.le_refl _), stepsF_cons _ _ _ _ _ (by simp), read_cut hs.2.1 hs.2.2 h]
  simp
end Go.Proofs.Ytphbkjdheopmhaa.Cl
namespace Go.Proofs.Ytphbkjdheopmhaa
set_option linter.unusedVariables false
set_option linter.unusedSimpArgs false
open Go.RowKit

theorem textInfo : (Try.prog.info? 9).map (fun i => (i.zero, i.size, i.bytes)) = some (some (.string ⟨#[]⟩), 1, 16) := by kernel_rfl
theorem strs_at {b : List ByteArray} {i : Nat} {x : ByteArray} (h : b[i]? = some x) : (b.map Value.string)[i]? = some (.string x) := by simp [h]

/-- What has been copied from k on. -/
def backToT (b : List ByteArray) (k : Nat) : List Value := List.replicate k (.string ⟨#[]⟩) ++ (b.drop k).map Value.string
theorem backToT_set {b : List ByteArray} {k : Nat} {x : ByteArray} (h : b[k]? = some x) : (backToT b (k + 1)).set k (.string x) = backToT b k := by
  unfold backToT
  rw [List.drop_eq_getElem_cons (i := k) (by have := (List.getElem?_eq_some_iff.1 h).1; exact this)]
  have hx : b[k]'((List.getElem?_eq_some_iff.1 h).1) = x := (List.getElem?_eq_some_iff.1 h).2
  rw [hx, List.replicate_succ', List.append_assoc]
  rw [List.set_append]
  simp

set_option maxRecDepth 20000 in
set_option maxHeartbeats 1000000 in
theorem copyTexts_any (A : Option Addr) (m c B : Nat) (b : List ByteArray) (w : World) (hB : B ≤ w.heap.size) (hb : Rd w B 1 A m (b.map Value.string)) (hm : m ≤ 4294967296) :
    Calls Try.prog 28 #[.slice A m c] w fun e w' => ∃ A' c', e = .returned (.slice A' m c') ∧ w'.ownsRow w.heap.size 9 1 (.slice A' m c') m (b.map Value.string) ∧ Below w.heap.size w w' := by
  have hbl : b.length = m := by simpa using hb.len1
  rcases Nat.eq_zero_or_pos m with rfl | hpos
  · have hb0 : b = [] := List.eq_nil_of_length_eq_zero hbl
    subst hb0
    clear hb hbl
    go_enter Try.func28, Try.ntmps28
    go_wp2
    go_ret
    exact ⟨none, 0, rfl, World.ownsRow_nil _ _ _ _, Below.refl _ _⟩
  have hne : decide (m = 0) = false := by simp; omega
  obtain ⟨i, hi, hz0, hz1, hz2⟩ := info_parts textInfo
  have Hb := hide hb
  have Hbl := hide hbl
  have Hi := hide hi
  have Hz0 := hide hz0
  have Hz1 := hide hz1
  have Hz2 := hide hz2
  clear hb hbl hi hz0 hz1 hz2
  go_enter Try.func28, Try.ntmps28
  go_wp2_with (at_make; refine wpList_make_full _ rfl _ _ 23 rfl w.heap.size 9 i (.string ⟨#[]⟩) 1 Try.underlying23 (unhide Hi) (unhide Hz0) (unhide Hz1) _ _ _ _ m rfl rfl rfl rfl (by rw [unhide Hz2]; omega) (by unfold maxLen; omega) (Nat.le_refl _) ?_; intro w1 hown hgrow; have hb1 := (Below.refl w.heap.size w).grown hgrow (Nat.le_refl _) (fun k hk => by cases hk); have Hown := hide hown; have Hb1 := hide hb1; clear hown hgrow hb1)
  go_loopw [4] (fun at_ wr => ∃ k : Nat, k ≤ m ∧ at_ = .int .i64 ((k : Int) - 1) ∧ wr.ownsRow w.heap.size 9 1 (.slice (some ⟨w.heap.size, 0, none⟩) m m) m (backToT b k) ∧ Below w.heap.size w wr) (fun at_ _ => (intOf at_ + 1).toNat)
  case atStart =>
    refine ⟨m, Nat.le_refl _, rfl, ?_, unhide Hb1⟩
    have := unhide Hown
    have e : (madeCells (Value.string ⟨#[]⟩).cells (m * 1)).toList = backToT b m := by
      unfold backToT
      rw [List.drop_eq_nil_of_le (by rw [unhide Hbl]; exact Nat.le_refl _)]
      simp [Value.cells, toList_madeCells_one]
    rwa [e] at this
  case round =>
  clear Hown Hb1
  obtain ⟨k, hk, rfl, hown, hb2⟩ := hrel
  have Hown := hide hown
  have Hb2 := hide hb2
  clear hown hb2
  by_cases hk0 : k = 0
  · subst hk0
    go_wp2
    go_ret
    refine ⟨_, _, rfl, ?_, unhide Hb2⟩
    have := unhide Hown
    simpa [backToT] using this
  · obtain ⟨j, rfl⟩ : ∃ j, k = j + 1 := ⟨k - 1, by omega⟩
    obtain ⟨x, hx⟩ : ∃ x, b[j]? = some x := ⟨_, List.getElem?_eq_getElem (by rw [unhide Hbl]; omega)⟩
    obtain ⟨ab, ao, rfl, hlt, hc⟩ := ((unhide Hb).below ((unhide Hb2).mono hB)).at_ (strs_at hx)
    have hset := own_set (i := j) (unhide Hown) (.string x)
    rw [backToT_set hx] at hset
    have hcl : (backToT b (j + 1))[j]? = some (.string ⟨#[]⟩) := by simp [backToT, List.getElem?_append]
    have hc2 := own_cell (unhide Hown) hcl
    have hf2 := own_free (unhide Hown) j
    have hge := own_at (unhide Hown)
    have e1 : ((j + 1 : Nat) : Int) - 1 = (j : Int) := by omega
    rw [e1]
    have Hset := hide hset
    clear hset hcl hx
    go_wp2
    go_roundw
    case rel => exact ⟨j, by omega, rfl, unhide Hset, (unhide Hb2).setCell (Nat.le_refl _) _⟩
    case measure => simp [intOf]

end Go.Proofs.Ytphbkjdheopmhaa
namespace Go.Proofs.Ytphbkjdheopmhaa
set_option linter.unusedVariables false
set_option linter.unusedSimpArgs false
open Go.RowKit

theorem own_other {w : World} {base : Nat} {e : TypeId} {size n : Nat} {v : Value} {xs : List Value} (h : w.ownsRow base e size v n xs) {p : Addr} (hp : p.block < base) (u : Value) : (w.setCell p u).ownsRow base e size v n xs :=
  ⟨h.1, h.2.imp id fun ⟨g, cap, cur, e1, e2, e3, r⟩ => ⟨g, cap, cur, e1, e2, (heap_setCell_other _ _ _ _ (by omega)).trans e3, r⟩⟩
theorem copy_start (w : World) (a b : Array Value) : Blk ((w.alloc (.cells a 26)).alloc (.cells b 26)) w.heap.size 26 a.toList ∧ Blk ((w.alloc (.cells a 26)).alloc (.cells b 26)) (w.heap.size + 1) 26 b.toList ∧ Below w.heap.size w ((w.alloc (.cells a 26)).alloc (.cells b 26)) := by
  have h1 := Blk.new w 26 a.toList
  have h2 := Blk.new (w.alloc (.cells a 26)) 26 b.toList
  rw [Array.toArray_toList] at h1 h2
  have e1 : (w.alloc (.cells a 26)).heap.size = w.heap.size + 1 := by simp
  rw [e1] at h2
  exact ⟨h1.alloc _, h2, ((Below.refl _ _).alloc (Nat.le_refl _) _).alloc (by simp) _⟩

set_option maxRecDepth 20000 in
set_option maxHeartbeats 4000000 in
theorem copyO_any (q : Cl.C) (x y z : Sl) (B : Nat) (w : World) (hq : ClOk w B q x y z) (hB : B ≤ w.heap.size) (h1 : x.n ≤ 4294967296) (h2 : y.n ≤ 4294967296) (h3 : z.n ≤ 4294967296) :
    Calls Try.prog 12 #[.agg (clCells q x y z)] w fun e w' => ∃ x' y' z', e = .returned (.agg (clCells q x' y' z')) ∧ ClOk w' w'.heap.size q x' y' z' ∧ w'.ownsRow w.heap.size 5 1 (.slice z'.A z'.n z'.c) z'.n (bys q.bytes) ∧ Below w.heap.size w w' := by
  obtain ⟨bi, br, hb⟩ := copy_start w (clCells q x y z) #[.int .u8 0, .int .u64 0, .int .u64 0, .int .u64 0, .int .u64 0, .int .u64 0, .string ⟨#[]⟩, .slice none 0 0, .slice none 0 0, .slice none 0 0]
  have hqW := (hq.below ((Below.refl B w).mono (Nat.le_refl _)))
  have i7 := bi.cell (i := 7) rfl
  have BI := hide bi
  have BR := hide br
  have HB := hide hb
  have Hq := hide (hq.below (hb.mono hB))
  clear bi br hb hqW
  go_enter Try.func12, Try.ntmps12
  go_wp2_with fail
  refine (copyTexts_any x.A x.n x.c B q.argv _ (Nat.le_trans hB (unhide HB).size) (unhide Hq).r1 h1).mono ?_
  rintro e w1 ⟨A1, c1, rfl, ho1, hb1⟩
  have bi1 := (unhide BI).belowSz hb1
  have br1 := (unhide BR).belowSz hb1
  have HB1 := hide ((unhide HB).trans (hb1.mono (unhide HB).size))
  have hs1 : w.heap.size + 1 < w1.heap.size := br1.lt
  have i8 := bi1.cell (i := 8) rfl
  have j7 := bi1.cell (i := 7) rfl
  have f7 := bi1.free 7
  have BI1 := hide (bi1.set 7 (.slice A1 x.n c1))
  have BR1 := hide (br1.other (p := ⟨w.heap.size, 7, none⟩) (by simp) (.slice A1 x.n c1))
  have HO1 := hide ho1
  have Hq1 := hide ((unhide Hq).below (hb1.mono (Nat.le_trans hB (unhide HB).size)))
  clear bi1 br1 ho1 hb1 i7 BI BR
  go_wp2_with fail
  clear i8 j7 f7
  have HB1s := hide ((unhide HB1).setCell (p := ⟨w.heap.size, 7, none⟩) (Nat.le_refl _) (.slice A1 x.n c1))
  have Hq1s := hide ((unhide Hq1).r2.setCell (p := ⟨w.heap.size, 7, none⟩) hB (.slice A1 x.n c1))
  have Hq1t := hide ((unhide Hq1).r3.setCell (p := ⟨w.heap.size, 7, none⟩) hB (.slice A1 x.n c1))
  have HO1s := hide (own_other (unhide HO1) (p := ⟨w.heap.size, 7, none⟩) (by simp; omega) (.slice A1 x.n c1))
  refine (copyTexts_any y.A y.n y.c B q.env _ (Nat.le_trans hB (unhide HB1s).size) (unhide Hq1s) h2).mono ?_
  rintro e w2 ⟨A2, c2, rfl, ho2, hb2⟩
  have bi2 := (unhide BI1).belowSz hb2
  have br2 := (unhide BR1).belowSz hb2
  have hs2 : w.heap.size + 1 < w2.heap.size := br2.lt
  have HB2 := hide ((unhide HB1s).trans (hb2.mono (unhide HB1s).size))
  have i9 := bi2.cell (i := 9) rfl
  have j8 := bi2.cell (i := 8) rfl
  have f8 := bi2.free 8
  have BI2 := hide (bi2.set 8 (.slice A2 y.n c2))
  have BR2 := hide (br2.other (p := ⟨w.heap.size, 8, none⟩) (by simp) (.slice A2 y.n c2))
  have HO1b := hide (own_below (unhide HO1s) hb2)
  have HO2 := hide ho2
  have Hq2 := hide ((unhide Hq1t).below (hb2.mono (Nat.le_trans hB (unhide HB1s).size)))
  clear bi2 br2 ho2 hb2 BI1 BR1
  go_wp2_with fail
  clear i9 j8 f8
  have HB2s := hide ((unhide HB2).setCell (p := ⟨w.heap.size, 8, none⟩) (Nat.le_refl _) (.slice A2 y.n c2))
  have Hq2s := hide ((unhide Hq2).setCell (p := ⟨w.heap.size, 8, none⟩) hB (.slice A2 y.n c2))
  have HO1c := hide (own_other (unhide HO1b) (p := ⟨w.heap.size, 8, none⟩) (by simp; omega) (.slice A2 y.n c2))
  have HO2c := hide (own_other (unhide HO2) (p := ⟨w.heap.size, 8, none⟩) (by simp; omega) (.slice A2 y.n c2))
  refine (copyBytes_any z.A z.n z.c B q.bytes _ (Nat.le_trans hB (unhide HB2s).size) (unhide Hq2s) h3).mono ?_
  rintro e w3 ⟨A3, c3, rfl, ho3, hb3⟩
  have bi3 := (unhide BI2).belowSz hb3
  have br3 := (unhide BR2).belowSz hb3
  have HB3 := hide ((unhide HB2s).trans (hb3.mono (unhide HB2s).size))
  have RF := hide (((((((((((br3.other (p := ⟨w.heap.size, 9, none⟩) (by simp) (.slice A3 z.n c3)).set 0 (.int .u8 q.kind)).set 1 (.int .u64 q.a)).set 2 (.int .u64 q.b)).set 3 (.int .u64 q.c)).set 4 (.int .u64 q.d)).set 5 (.int .u64 q.e)).set 6 (.string q.path)).set 7 (.slice A1 x.n c1)).set 8 (.slice A2 y.n c2)).set 9 (.slice A3 z.n c3))
  have BF := hide ((((((((((((unhide HB3).setCell (p := ⟨w.heap.size, 9, none⟩) (Nat.le_refl _) (.slice A3 z.n c3)).setCell (p := ⟨w.heap.size + 1, 0, none⟩) (by simp) (.int .u8 q.kind)).setCell (p := ⟨w.heap.size + 1, 1, none⟩) (by simp) (.int .u64 q.a)).setCell (p := ⟨w.heap.size + 1, 2, none⟩) (by simp) (.int .u64 q.b)).setCell (p := ⟨w.heap.size + 1, 3, none⟩) (by simp) (.int .u64 q.c)).setCell (p := ⟨w.heap.size + 1, 4, none⟩) (by simp) (.int .u64 q.d)).setCell (p := ⟨w.heap.size + 1, 5, none⟩) (by simp) (.int .u64 q.e)).setCell (p := ⟨w.heap.size + 1, 6, none⟩) (by simp) (.string q.path)).setCell (p := ⟨w.heap.size + 1, 7, none⟩) (by simp) (.slice A1 x.n c1)).setCell (p := ⟨w.heap.size + 1, 8, none⟩) (by simp) (.slice A2 y.n c2)).setCell (p := ⟨w.heap.size + 1, 9, none⟩) (by simp) (.slice A3 z.n c3))
  have O1 := hide (own_other (own_other (own_other (own_other (own_other (own_other (own_other (own_other (own_other (own_other (own_other (own_below (unhide HO1c) hb3) (p := ⟨w.heap.size, 9, none⟩) (by first | (simp; done) | (simp; omega)) (.slice A3 z.n c3)) (p := ⟨w.heap.size + 1, 0, none⟩) (by first | (simp; done) | (simp; omega)) (.int .u8 q.kind)) (p := ⟨w.heap.size + 1, 1, none⟩) (by first | (simp; done) | (simp; omega)) (.int .u64 q.a)) (p := ⟨w.heap.size + 1, 2, none⟩) (by first | (simp; done) | (simp; omega)) (.int .u64 q.b)) (p := ⟨w.heap.size + 1, 3, none⟩) (by first | (simp; done) | (simp; omega)) (.int .u64 q.c)) (p := ⟨w.heap.size + 1, 4, none⟩) (by first | (simp; done) | (simp; omega)) (.int .u64 q.d)) (p := ⟨w.heap.size + 1, 5, none⟩) (by first | (simp; done) | (simp; omega)) (.int .u64 q.e)) (p := ⟨w.heap.size + 1, 6, none⟩) (by first | (simp; done) | (simp; omega)) (.string q.path)) (p := ⟨w.heap.size + 1, 7, none⟩) (by first | (simp; done) | (simp; omega)) (.slice A1 x.n c1)) (p := ⟨w.heap.size + 1, 8, none⟩) (by first | (simp; done) | (simp; omega)) (.slice A2 y.n c2)) (p := ⟨w.heap.size + 1, 9, none⟩) (by first | (simp; done) | (simp; omega)) (.slice A3 z.n c3))
  have O2 := hide (own_other (own_other (own_other (own_other (own_other (own_other (own_other (own_other (own_other (own_other (own_other (own_below (unhide HO2c) hb3) (p := ⟨w.heap.size, 9, none⟩) (by first | (simp; done) | (simp; omega)) (.slice A3 z.n c3)) (p := ⟨w.heap.size + 1, 0, none⟩) (by first | (simp; done) | (simp; omega)) (.int .u8 q.kind)) (p := ⟨w.heap.size + 1, 1, none⟩) (by first | (simp; done) | (simp; omega)) (.int .u64 q.a)) (p := ⟨w.heap.size + 1, 2, none⟩) (by first | (simp; done) | (simp; omega)) (.int .u64 q.b)) (p := ⟨w.heap.size + 1, 3, none⟩) (by first | (simp; done) | (simp; omega)) (.int .u64 q.c)) (p := ⟨w.heap.size + 1, 4, none⟩) (by first | (simp; done) | (simp; omega)) (.int .u64 q.d)) (p := ⟨w.heap.size + 1, 5, none⟩) (by first | (simp; done) | (simp; omega)) (.int .u64 q.e)) (p := ⟨w.heap.size + 1, 6, none⟩) (by first | (simp; done) | (simp; omega)) (.string q.path)) (p := ⟨w.heap.size + 1, 7, none⟩) (by first | (simp; done) | (simp; omega)) (.slice A1 x.n c1)) (p := ⟨w.heap.size + 1, 8, none⟩) (by first | (simp; done) | (simp; omega)) (.slice A2 y.n c2)) (p := ⟨w.heap.size + 1, 9, none⟩) (by first | (simp; done) | (simp; omega)) (.slice A3 z.n c3))
  have O3 := hide (own_other (own_other (own_other (own_other (own_other (own_other (own_other (own_other (own_other (own_other (own_other ho3 (p := ⟨w.heap.size, 9, none⟩) (by first | (simp; done) | (simp; omega)) (.slice A3 z.n c3)) (p := ⟨w.heap.size + 1, 0, none⟩) (by first | (simp; done) | (simp; omega)) (.int .u8 q.kind)) (p := ⟨w.heap.size + 1, 1, none⟩) (by first | (simp; done) | (simp; omega)) (.int .u64 q.a)) (p := ⟨w.heap.size + 1, 2, none⟩) (by first | (simp; done) | (simp; omega)) (.int .u64 q.b)) (p := ⟨w.heap.size + 1, 3, none⟩) (by first | (simp; done) | (simp; omega)) (.int .u64 q.c)) (p := ⟨w.heap.size + 1, 4, none⟩) (by first | (simp; done) | (simp; omega)) (.int .u64 q.d)) (p := ⟨w.heap.size + 1, 5, none⟩) (by first | (simp; done) | (simp; omega)) (.int .u64 q.e)) (p := ⟨w.heap.size + 1, 6, none⟩) (by first | (simp; done) | (simp; omega)) (.string q.path)) (p := ⟨w.heap.size + 1, 7, none⟩) (by first | (simp; done) | (simp; omega)) (.slice A1 x.n c1)) (p := ⟨w.heap.size + 1, 8, none⟩) (by first | (simp; done) | (simp; omega)) (.slice A2 y.n c2)) (p := ⟨w.heap.size + 1, 9, none⟩) (by first | (simp; done) | (simp; omega)) (.slice A3 z.n c3))
  have b0 := bi3.cell (i := 0) rfl
  have r0 := br3.cell (i := 0) rfl
  have s0 := br3.free 0
  have b1 := bi3.cell (i := 1) rfl
  have r1 := br3.cell (i := 1) rfl
  have s1 := br3.free 1
  have b2 := bi3.cell (i := 2) rfl
  have r2 := br3.cell (i := 2) rfl
  have s2 := br3.free 2
  have b3 := bi3.cell (i := 3) rfl
  have r3 := br3.cell (i := 3) rfl
  have s3 := br3.free 3
  have b4 := bi3.cell (i := 4) rfl
  have r4 := br3.cell (i := 4) rfl
  have s4 := br3.free 4
  have b5 := bi3.cell (i := 5) rfl
  have r5 := br3.cell (i := 5) rfl
  have s5 := br3.free 5
  have b6 := bi3.cell (i := 6) rfl
  have r6 := br3.cell (i := 6) rfl
  have s6 := br3.free 6
  have b7 := bi3.cell (i := 7) rfl
  have r7 := br3.cell (i := 7) rfl
  have s7 := br3.free 7
  have b8 := bi3.cell (i := 8) rfl
  have r8 := br3.cell (i := 8) rfl
  have s8 := br3.free 8
  have b9 := bi3.cell (i := 9) rfl
  have r9 := br3.cell (i := 9) rfl
  have s9 := br3.free 9
  have f9 := bi3.free 9
  clear bi3 br3 ho3 hb3 BI2 BR2
  go_wp2_with fail
  refine bodyPost_ret (results_cell1 (P := Try.prog) rfl _ _ (w.heap.size + 1) 26 #[.int .u8 q.kind, .int .u64 q.a, .int .u64 q.b, .int .u64 q.c, .int .u64 q.d, .int .u64 q.e, .string q.path, .slice A1 x.n c1, .slice A2 y.n c2, .slice A3 z.n c3] (0, 0) _ rfl (unhide RF) Try.underlying26 rfl callInfo) rfl ?_
  exact ⟨⟨A1, x.n, c1⟩, ⟨A2, y.n, c2⟩, ⟨A3, z.n, c3⟩, rfl, ⟨Rd.of_own (unhide O1), Rd.of_own (unhide O2), Rd.of_own (unhide O3)⟩, own_base (unhide O3) (Nat.le_trans (unhide HB2s).size (Nat.le_refl _)), unhide BF⟩
theorem copy_any (q : Cl.C) (x y z : Sl) (B : Nat) (w : World) (hq : ClOk w B q x y z) (hB : B ≤ w.heap.size) (h1 : x.n ≤ 4294967296) (h2 : y.n ≤ 4294967296) (h3 : z.n ≤ 4294967296) :
    Calls Try.prog 12 #[.agg (clCells q x y z)] w fun e w' => ∃ x' y' z', e = .returned (.agg (clCells q x' y' z')) ∧ ClOk w' w'.heap.size q x' y' z' ∧ Below w.heap.size w w' :=
  (copyO_any q x y z B w hq hB h1 h2 h3).mono fun e w' ⟨x', y', z', a, b, _, c⟩ => ⟨x', y', z', a, b, c⟩
end Go.Proofs.Ytphbkjdheopmhaa
namespace Go.Proofs.Ytphbkjdheopmhaa
set_option linter.unusedVariables false
set_option linter.unusedSimpArgs false
open Go.RowKit

theorem results_cell_tmp2 {P : Program} {fn : Func} {p q r : Tmp} {ty : TypeId} (h : fn.results = #[.cell p ty, .tmp q, .tmp r]) (tmps : Array Value) (w : World) (g : Nat) (t : TypeId) (cs : Array Value) (fr : Nat × Nat) (d : TypeDesc)
    (hp : tmps.getD p undef = .pointer (some ⟨g, 0, none⟩)) (hg : w.heap[g]? = some (.cells cs t fr))
    (hu : P.underlying ty = some d) (hd : (match d with | .struct _ | .array _ _ => true | _ => false) = true) (hi : (P.info? ty).map (·.size) = some cs.size) :
    (results fn tmps).run P w = .ok (.tuple #[.agg cs, tmps.getD q undef, tmps.getD r undef]) w := by
  have hp' : tmps[p]?.getD undef = .pointer (some ⟨g, 0, none⟩) := by simpa using hp
  simp [results, h, hp', asAddr, run_loadVar_row w g t ty cs fr d hg hu hd hi]
/-- The lists of a call are rows of the call's own. -/
structure ClOwn (w : World) (base : Nat) (q : Cl.C) (x y z : Sl) : Prop where
  o1 : w.ownsRow base 9 1 (.slice x.A x.n x.c) x.n (q.argv.map Value.string)
  o2 : w.ownsRow base 9 1 (.slice y.A y.n y.c) y.n (q.env.map Value.string)
  o3 : w.ownsRow base 5 1 (.slice z.A z.n z.c) z.n (bys q.bytes)
theorem ClOwn.ok {w : World} {base : Nat} {q : Cl.C} {x y z : Sl} (h : ClOwn w base q x y z) : ClOk w w.heap.size q x y z := ⟨Rd.of_own h.o1, Rd.of_own h.o2, Rd.of_own h.o3⟩
theorem ClOwn.below {w w' : World} {base : Nat} {q : Cl.C} {x y z : Sl} (h : ClOwn w base q x y z) (hb : Below w.heap.size w w') : ClOwn w' base q x y z := ⟨own_below h.o1 hb, own_below h.o2 hb, own_below h.o3 hb⟩
theorem ClOwn.base {w : World} {base base' : Nat} {q : Cl.C} {x y z : Sl} (h : ClOwn w base q x y z) (hb : base' ≤ base) : ClOwn w base' q x y z := ⟨own_base h.o1 hb, own_base h.o2 hb, own_base h.o3 hb⟩
theorem ClOwn.grown {w w' : World} {base g : Nat} {q : Cl.C} {x y z : Sl} (h : ClOwn w base q x y z) (hg : w.grownBy w' (some g)) (hlt : g < base) : ClOwn w' base q x y z :=
  ⟨h.o1.kept hg (own_ne_g h.o1 hlt), h.o2.kept hg (own_ne_g h.o2 hlt), h.o3.kept hg (own_ne_g h.o3 hlt)⟩
theorem ClOwn.set {w : World} {base : Nat} {p : Addr} {q : Cl.C} {x y z : Sl} (h : ClOwn w base q x y z) (hp : p.block < base) (u : Value) : ClOwn (w.setCell p u) base q x y z :=
  ⟨own_other h.o1 hp u, own_other h.o2 hp u, own_other h.o3 hp u⟩
def slN : Sl := ⟨none, 0, 0⟩
theorem ClOwn.zero (w : World) (base k : Nat) : ClOwn w base (Cl.kindC k) slN slN slN := ⟨World.ownsRow_nil _ _ _ _, World.ownsRow_nil _ _ _ _, World.ownsRow_nil _ _ _ _⟩
/-- A call's cells as a list. -/
abbrev clL (q : Cl.C) (x y z : Sl) : List Value := [.int .u8 q.kind, .int .u64 q.a, .int .u64 q.b, .int .u64 q.c, .int .u64 q.d, .int .u64 q.e, .string q.path, .slice x.A x.n x.c, .slice y.A y.n y.c, .slice z.A z.n z.c]
abbrev zeroL : List Value := [.int .u8 0, .int .u64 0, .int .u64 0, .int .u64 0, .int .u64 0, .int .u64 0, .string ⟨#[]⟩, .slice none 0 0, .slice none 0 0, .slice none 0 0]
theorem zero_one : zeroL.toArray.all (·.oneCell') = true := by simp [Value.oneCell']
theorem cl_one (q : Cl.C) (x y z : Sl) : (clCells q x y z).all (·.oneCell') = true := by simp [Value.oneCell']
theorem blk_row {w : World} {g : Nat} {t : TypeId} {l m : List Value} (h : Blk w g t l) : Blk (w.setRow g m.toArray) g t m := setRow_heap w g _ _ t (0, 0) h

/-- What Read answers. -/
def ReadEnd (q : Cl.C × Nat × Int) (w : World) (e : Ending) (w' : World) : Prop := ∃ x y z, e = .returned (.tuple #[.agg (clCells q.1 x y z), .int .i64 (q.2.1 : Nat), .int .i64 q.2.2]) ∧ ClOwn w' w.heap.size q.1 x y z ∧ Below w.heap.size w w'

set_option maxRecDepth 100000 in
set_option maxHeartbeats 1000000 in
theorem callRead_nil (A : Option Addr) (c : Nat) (w : World) :
    Calls Try.prog 21 #[.slice A 0 c] w (ReadEnd (Cl.zeroC, 0, 24) w) := by
  have hb0 := Blk.new w 26 zeroL
  have HB := hide hb0
  have hci := callInfo
  clear hb0
  go_enter Try.func21, Try.ntmps21
  go_wp2
  refine bodyPost_ret (results_cell_tmp2 (P := Try.prog) rfl _ _ w.heap.size 26 zeroL.toArray (0, 0) _ rfl (unhide HB) Try.underlying26 rfl callInfo) rfl ?_
  exact ⟨slN, slN, slN, rfl, (ClOwn.zero _ _ 0), (Below.refl _ _).alloc (Nat.le_refl _) _⟩

set_option maxRecDepth 100000 in
set_option maxHeartbeats 4000000 in
theorem callRead_kind (A : Option Addr) (m c B : Nat) (k : UInt8) (l : List UInt8) (w : World) (hb : Rd w B 1 A m (bys (k :: l))) (hB : B ≤ w.heap.size) (hm : m ≤ 4294967296) (hk : k.toNat = 0 ∨ 12 < k.toNat) :
    Calls Try.prog 21 #[.slice A m c] w (ReadEnd (Cl.zeroC, 0, 23) w) := by
  have hml : m = l.length + 1 := by simpa [bys] using hb.len1.symm
  obtain ⟨ab, ao, rfl, hlt, c0⟩ := hb.at_ (k := 0) (u := .int .u8 k.toNat) (by simp [bys])
  rw [Nat.add_zero] at c0
  have hb0 := Blk.new w 26 zeroL
  have hb1 := Blk.new w 26 [.int .u8 k.toNat, .int .u64 0, .int .u64 0, .int .u64 0, .int .u64 0, .int .u64 0, .string ⟨#[]⟩, .slice none 0 0, .slice none 0 0, .slice none 0 0]
  have hc1 := (World.cell?_alloc_lt w (.cells zeroL.toArray 26) ⟨ab, ao, none⟩ (by show ab < _; omega)).trans c0
  have hz0 := hb0.cell (i := 0) rfl
  have hf0 := hb0.free 0
  have hbel : Below w.heap.size w (w.alloc (.cells #[.int .u8 k.toNat, .int .u64 0, .int .u64 0, .int .u64 0, .int .u64 0, .int .u64 0, .string ⟨#[]⟩, .slice none 0 0, .slice none 0 0, .slice none 0 0] 26)) := (Below.refl _ _).alloc (Nat.le_refl _) _
  have HB1 := hide hb1
  have Hbel := hide hbel
  have hci := callInfo
  have hmz : ((m : Int) == 0) = false := beq_eq_false_iff_ne.2 (by omega)
  have Hml := hide hml
  have hm1 : 1 ≤ m := by omega
  clear hb0 hb1 hb hbel c0 hml
  go_enter Try.func21, Try.ntmps21
  go_wp2_with fail
  generalize hgW : w.alloc (.cells #[.int .u8 k.toNat, .int .u64 0, .int .u64 0, .int .u64 0, .int .u64 0, .int .u64 0, .string ⟨#[]⟩, .slice none 0 0, .slice none 0 0, .slice none 0 0] 26) = W at *
  have hlW : w.heap.size < W.heap.size := (unhide HB1).lt
  clear hgW hz0 hf0 hc1 hmz
  have v0 := (unhide HB1).cell (i := 0) rfl
  go_region_held3 (fun w' => w'.cell? ⟨w.heap.size, 0, none⟩ = some (.int .u8 k.toNat)) (first | exact v0 | exact hx0) (first | (go_at_call 30; refine (fields_any _).mono ?_; rintro e w1 ⟨rfl, hFM0⟩; have hFM : FM W W.heap.size 12 w1 := hFM0.of_drew ⟨_, rfl⟩; clear hFM0; have hx0 := (hFM.below.cell (p := ⟨w.heap.size, 0, none⟩) hlW).trans v0; have hbl2 := look_no hFM hk))
  have HB2 := hide ((unhide HB1).below hFM.below hlW)
  have HB3 := hide (blk_row (m := zeroL) (unhide HB2))
  have Hbel2 := hide ((unhide Hbel).trans (hFM.below.mono (by omega)))
  clear HB1 Hbel hbl2 hx0 v0 hFM
  go_wp2_with ((with_reducible refine (@id (wpList _ _ _ (Oper.mk none (Op.store 26 (.tmp 2) (.tmp 28)) _ _ _ none :: _) _ _) ?_)); refine wpList_store_row rfl 26 (.tmp 2) (.tmp 28) rfl w.heap.size zeroL.toArray rfl rfl 26 _ (unhide HB2) hci rfl zero_one ?_)
  refine bodyPost_ret (results_cell_tmp2 (P := Try.prog) rfl _ _ w.heap.size 26 zeroL.toArray (0, 0) _ rfl (unhide HB3) Try.underlying26 rfl callInfo) rfl ?_
  exact ⟨slN, slN, slN, rfl, (ClOwn.zero _ _ 0), below_setRow (unhide Hbel2) (Nat.le_refl _) _⟩
end Go.Proofs.Ytphbkjdheopmhaa
namespace Go.Proofs.Ytphbkjdheopmhaa
set_option linter.unusedVariables false
set_option linter.unusedSimpArgs false
open Go.RowKit

set_option maxRecDepth 100000 in
set_option maxHeartbeats 1000000 in
theorem set_yes (g0 : Nat) (m c B : Nat) (b : List UInt8) (p s x : Nat) (w : World) (hB : B ≤ w.heap.size) (hb : Rd w B 1 (some ⟨g0, 0, none⟩) m (bys b)) (hm : m ≤ 4294967296) (hs : s = 1 ∨ s = 2 ∨ s = 4 ∨ s = 8) (h : p + s ≤ m) (hx : x < 18446744073709551616) :
    Calls Try.prog 67 #[.slice (some ⟨g0, 0, none⟩) m c, .int .u64 p, .int .i64 s, .int .u64 x] w fun e w' => ∃ A' c', e = .returned (.tuple #[.slice A' m c', .int .i64 0]) ∧ w'.ownsRow w.heap.size 5 1 (.slice A' m c') m (bys (setK b p x s)) ∧ Below w.heap.size w w' := by
  have hbl : b.length = m := by simpa [bys] using hb.len1
  have hs8 : s ≤ 8 := by omega
  have hs0 : 0 < s := by omega
  have Hck := hide (check_yes (some ⟨g0, 0, none⟩) m c p s w (by unfold maxLen; omega) (by omega) (by omega) (by omega) (by omega))
  have Hb := hide hb
  have Hbl := hide hbl
  clear hbl hb hs
  go_enter Try.func67, Try.ntmps67
  go_wp2_with (first
    | (go_at_call 75; refine (unhide Hck).mono ?_; rintro e w1 ⟨rfl, hb1⟩; have Hb1 := hide hb1; clear hb1)
    | (go_at_call 76; refine (clone_any _ m c B b _ (Nat.le_trans hB (unhide Hb1).size) ((unhide Hb).below ((unhide Hb1).mono hB)) hm (by simp)).mono ?_; rintro e w2 ⟨A', c', rfl, hown, hb2⟩; obtain ⟨g, rfl, hg1, hg2⟩ := own_some hown (by omega); have Hown := hide (own_base hown (unhide Hb1).size); have Hb2 := hide ((unhide Hb1).trans (hb2.mono (unhide Hb1).size)); have hg3 := (unhide Hb1).size; clear hown hb2))
  go_loopg [23] s (fun gk i wr => ∃ k : Nat, gk = s - k ∧ k ≤ s ∧ i = .int .i64 k ∧ wr.ownsRow w.heap.size 5 1 (.slice (some ⟨g, 0, none⟩) m c') m (bys (setK b p x k)) ∧ Below w.heap.size w wr)
  case atStart => exact ⟨0, by omega, by omega, rfl, unhide Hown, unhide Hb2⟩
  case round =>
  clear Hown Hb2
  obtain ⟨k, hgk, hk, rfl, hown, hb2⟩ := hrel
  have Hgk := hide hgk
  have Hown := hide hown
  have Hb2 := hide hb2
  clear hown hb2 hgk
  rcases Nat.lt_or_ge k s with hlt | hge
  case inr =>
    obtain rfl : k = s := by omega
    go_wp2
    go_ret2
    exact ⟨_, _, rfl, unhide Hown, unhide Hb2⟩
  obtain ⟨z, hz⟩ : ∃ z, (setK b p x k)[p + k]? = some z := ⟨_, List.getElem?_eq_getElem (by rw [setK_len, unhide Hbl]; omega)⟩
  have hset := own_set (i := p + k) (unhide Hown) (.int .u8 (UInt8.ofNat (x / 256 ^ k % 256)).toNat)
  rw [bys_set] at hset
  have hc2 := own_cell (unhide Hown) (bys_at hz)
  have hf2 := own_free (unhide Hown) (p + k)
  obtain ⟨hg3, hg4, hg5⟩ := own_at (unhide Hown)
  have hy3 : (UInt8.ofNat (x / 256 ^ k % 256)).toNat = x / 256 ^ k % 256 := by simp
  rw [show (setK b p x k).set (p + k) (UInt8.ofNat (x / 256 ^ k % 256)) = setK b p x (k + 1) from rfl, hy3] at hset
  have Hset := hide hset
  clear hset hy3 hz
  go_wp2
  go_roundg (s - (k + 1))
  case measure => have := unhide Hgk; omega
  case rel =>
    refine ⟨k + 1, rfl, by omega, by go_num, ?_, (unhide Hb2).setCell hg3 _⟩
    have e : ((x : Int) / 2 ^ (8 * k) % 256) = ((x / 256 ^ k % 256 : Nat) : Int) := by
      have h2 : (256 : Nat) ^ k = 2 ^ (8 * k) := by rw [Nat.pow_mul]
      rw [h2]
      push_cast
      rfl
    rw [e]
    exact unhide Hset
end Go.Proofs.Ytphbkjdheopmhaa
namespace Go.Proofs.Ytphbkjdheopmhaa
set_option linter.unusedVariables false
set_option linter.unusedSimpArgs false
open Go.RowKit

section
variable {P : Program}
theorem appS_at {w w' : World} {base : Nat} {t u ty e : TypeId} {i : TypeInfo} (ht : P.underlying t = some (.slice e)) (hu : P.underlying u = some .string) (hi : P.info? e = some i) (hz : i.zero = some (.int .u8 0))
    (hs : i.size = 1) (hby : i.bytes = 1) {v v' : Value} {n : Nat} {xs : List Value} (hown : w.ownsRow base e 1 v n xs) {s : ByteArray} (hb : n + s.size ≤ 140737488355328)
    (hr : (Builtin.append_ #[t, u] ty #[v, .string s]).run P w = .ok v' w') : ∀ k, v'.ownBlock = some k → v.ownBlock = some k ∨ w.heap.size ≤ k := by
  have hl := hown.1
  rcases hown.2 with ⟨rfl, rfl⟩ | ⟨g, cap, cur, rfl, h1, h2, h3, h4, h5, h6⟩
  · by_cases h0 : s.size = 0
    · have hf := Lib.run_firstCells_string (P := P) w 1 s
      rw [h0] at hf
      have hn : Lib.strCells s = [] := List.eq_nil_of_length_eq_zero (by rw [Lib.strCells_length]; exact h0)
      rw [hn] at hf
      simp [Builtin.append_, run_underlying ht, run_underlying hu, sizeOf, typeInfo, hi, hs, Builtin.lenOf, h0, hf] at hr
      obtain ⟨rfl, rfl⟩ := hr
      intro k hk
      cases hk
    · rw [run_append_nil_string (P := P) w t u ty e i (.int .u8 0) ht hu hi hz s (by omega) (by omega) (by rw [hby]; omega)] at hr
      injection hr with e1 e2
      subst e1
      intro k hk
      simp [Value.ownBlock] at hk
      exact .inr (by omega)
  · by_cases hroom : n + s.size ≤ cap
    · rw [Lib.run_append_room_string (P := P) w t u ty e i ht hu hi hs g n cap cur h2 s hroom (by omega)] at hr
      injection hr with e1 e2
      subst e1
      exact fun k hk => .inl hk
    · have hc : ∀ j u, xs[j]? = some u → w.cell? ((⟨g, 0, none⟩ : Addr).add j) = some u := hown.cells (g := g) rfl
      rw [Lib.run_append_grow_string (P := P) w t u ty e i (.int .u8 0) ht hu hi hz ⟨g, 0, none⟩ n cap xs (by rw [hs]; exact hl) hc s (by omega) (by omega) (by rw [hby]; exact growslice_fits (by omega) (by omega))] at hr
      injection hr with e1 e2
      subst e1
      intro k hk
      simp [Value.ownBlock] at hk
      exact .inr (by omega)
end

theorem strTyp : Try.prog.underlying 9 = some .string := Try.underlying9
/-- append(b, s...), s a text. -/
theorem wpList_appS {w : World} {ops : Array Oper} {rest : List Oper} {o : Oper} {a : Act} {Q : Exit → Act → World → Prop} (hgd : o.guard = none) (sl x : Operand)
    (ho : o.op = .call { callee := .builtin .append, args := #[sl, x], argTypes := #[24, 9] })
    (base : Nat) (v : Value) (n : Nat) (xs : List UInt8) (hs : a.eval sl = v) (hown : w.ownsRow base 5 1 v n (bys xs)) (s : ByteArray) (hx : a.eval x = .string s)
    (hb : n + s.size ≤ 140737488355328) (hbase : base ≤ w.heap.size)
    (h : ∀ A' c' w', Grew w w' base v (.slice A' (n + s.size) c') (n + s.size) (xs ++ s.data.toList) → wpList Try.prog ops Q rest (a.put o.dst (.slice A' (n + s.size) c')) w') : wpList Try.prog ops Q (o :: rest) a w := by
  obtain ⟨i, hi, hz0, hz1, hz2⟩ := info_parts byteInfo
  refine wpList_plain hgd fun K hK => ?_
  obtain ⟨v', w', hr, h2, h3, h4⟩ := Lib.run_append_own_string (P := Try.prog) w base 24 9 o.type 5 i Try.underlying24 strTyp hi hz0 hz1 hz2 v n (bys xs) hown s (by unfold maxLen; omega) hb hbase
  have h5 := appS_at Try.underlying24 strTyp hi hz0 hz1 hz2 hown hb hr
  obtain ⟨A', c', rfl⟩ := own_form h2
  unfold Oper.wp execOp
  simp only [ho, resolve, invoke, builtin, Sem.run_bind, Sem.run_pure, Result.andThen_ok, List.map_toArray, List.map_cons, List.map_nil, hs, hx, hr]
  refine hK _ _ (h A' c' w' ⟨?_, h3, h5⟩)
  rw [bys_app]
  exact h2
end Go.Proofs.Ytphbkjdheopmhaa
namespace Go.Proofs.Ytphbkjdheopmhaa
set_option linter.unusedVariables false
set_option linter.unusedSimpArgs false
open Go.RowKit

/-- A call that goes on with the bytes xs of its first argument. -/
def Puts (f : FuncId) (args : Array Value) (w : World) (base : Nat) (v : Value) (n : Nat) (xs more : List UInt8) : Prop :=
  Calls Try.prog f args w fun e w' => ∃ A' c', e = .returned (.slice A' (n + more.length) c') ∧ Grew w w' base v (.slice A' (n + more.length) c') (n + more.length) (xs ++ more)

set_option maxRecDepth 100000 in
set_option maxHeartbeats 1000000 in
theorem put_any (A : Option Addr) (n c base s x : Nat) (xs : List UInt8) (w : World) (hown : w.ownsRow base 5 1 (.slice A n c) n (bys xs)) (hbase : base ≤ w.heap.size) (hs : s = 1 ∨ s = 2 ∨ s = 4 ∨ s = 8) (hx : x < 18446744073709551616) (hn : n ≤ 70368744177664) :
    Puts 43 #[.slice A n c, .int .u64 x, .int .i64 s] w base (.slice A n c) n xs (Cl.lb x s) := by
  unfold Puts
  rw [Cl.lb_len]
  obtain ⟨i, hi, hz0, hz1, hz2⟩ := info_parts byteInfo
  have hs0 : 0 < s := by omega
  have hs8 : s ≤ 8 := by omega
  have Hown0 := hide hown
  have Hi := hide hi
  have Hz0 := hide hz0
  have Hz1 := hide hz1
  have Hz2 := hide hz2
  have Hs := hide hs
  clear hown hi hz0 hz1 hz2 hs
  go_enter Try.func43, Try.ntmps43
  have hzz : (madeCells (Value.int .u8 0).cells (s * 1)).toList = bys (List.replicate s 0) := by simp [bys, Value.cells, toList_madeCells_one]
  have Hzz := hide hzz
  clear hzz
  go_wp2_with (at_make; refine wpList_make_full _ rfl _ _ 24 rfl w.heap.size 5 i (.int .u8 0) 1 Try.underlying24 (unhide Hi) (unhide Hz0) (unhide Hz1) _ _ _ _ s rfl rfl rfl rfl (by rw [unhide Hz2]; omega) (by unfold maxLen; omega) (Nat.le_refl _) ?_; intro w1 hown hgrow; have Hb1 := hide ((Below.refl w.heap.size w).grown hgrow (Nat.le_refl _) (fun k hk => by cases hk)); rw [unhide Hzz] at hown; have Hmk := hide (Rd.of_own hown); clear hown hgrow)
  refine (set_yes _ s _ w1.heap.size (List.replicate s 0) 0 s x w1 (Nat.le_refl _) (unhide Hmk) (by omega) (unhide Hs) (by omega) hx).mono ?_
  rintro e w2 ⟨A2, c2, rfl, ho2, hb2⟩
  rw [setK_all] at ho2
  have Hr2 := hide (Rd.of_own ho2)
  have hb2' := (unhide Hb1).trans (hb2.mono (unhide Hb1).size)
  have Hb2 := hide hb2'
  have Ho1 := hide (own_below (unhide Hown0) hb2')
  have hsz2 := Nat.le_trans hbase hb2'.size
  clear ho2 hb2 hb2' Hmk Hb1 Hown0 Hi Hz0 Hz1 Hz2
  go_wp2_with (at_builtin; refine wpList_app byteTy rfl _ _ rfl base (.slice A n c) n (bys xs) rfl (unhide Ho1) w2.heap.size A2 s c2 (bys (Cl.lb x s)) rfl (unhide Hr2) (bys_one _) (by omega) hsz2 ?_; intro A3 c3 w3 ho3 hg3 hat3; rw [← bys_app] at ho3; have Hg3 := hide (Grew.after (unhide Hb2) ⟨ho3, hg3, hat3⟩); clear ho3 hg3 hat3)
  go_ret
  exact ⟨_, _, rfl, unhide Hg3⟩

set_option maxRecDepth 100000 in
set_option maxHeartbeats 1000000 in
theorem putText_any (A : Option Addr) (n c base : Nat) (xs : List UInt8) (s : ByteArray) (w : World) (hown : w.ownsRow base 5 1 (.slice A n c) n (bys xs)) (hbase : base ≤ w.heap.size) (hn : n ≤ 35184372088832) (hs : s.size ≤ 35184372088832) :
    Puts 41 #[.slice A n c, .string s] w base (.slice A n c) n xs (Cl.txt (Cl.bl s)) := by
  unfold Puts Cl.txt
  rw [List.length_append, Cl.lb_len, Cl.bl_len]
  have K := hide (put_any A n c base 2 s.size xs w hown hbase (by omega) (by omega) (by omega))
  clear hown
  go_enter Try.func41, Try.ntmps41
  go_wp2_with (first
    | (go_at_call 43; refine (unhide K).mono ?_; rintro e w1 ⟨A1, c1, rfl, hg1⟩; rw [Cl.lb_len] at hg1 ⊢; have Hg1 := hide hg1; have hsz := hg1.kept.size; clear hg1)
    | (at_builtin; refine wpList_appS rfl _ _ rfl base _ (n + 2) (xs ++ Cl.lb s.size 2) rfl (unhide Hg1).own s rfl (by omega) (by omega) ?_; intro A2 c2 w2 hg2; have Hg2 := hide ((unhide Hg1).trans hg2); clear hg2))
  go_ret
  have h := unhide Hg2
  rw [List.append_assoc] at h
  rw [← Nat.add_assoc]
  exact ⟨A2, c2, rfl, h⟩
/-- What lists of texts take is not too much: each text, and all of them in all. -/
def big (l : List ByteArray) : Nat := (Cl.txts l).length
theorem txts_snoc {l : List ByteArray} {k : Nat} {x : ByteArray} (h : l[k]? = some x) : Cl.txts (l.take (k + 1)) = Cl.txts (l.take k) ++ Cl.txt (Cl.bl x) := by
  rw [List.take_add_one, h, Cl.txts_app]
  simp [Cl.txts]
theorem txts_le (l : List ByteArray) (k : Nat) : (Cl.txts (l.take k)).length ≤ (Cl.txts l).length := by
  conv => rhs; rw [← List.take_append_drop k l, Cl.txts_app, List.length_append]
  omega

set_option maxRecDepth 100000 in
set_option maxHeartbeats 1000000 in
theorem putList_any (A : Option Addr) (n c base : Nat) (xs : List UInt8) (A2 : Option Addr) (m d B : Nat) (l : List ByteArray) (w : World) (hown : w.ownsRow base 5 1 (.slice A n c) n (bys xs)) (hbase : base ≤ w.heap.size) (hn : n ≤ 17592186044416)
    (hl : Rd w B 1 A2 m (l.map Value.string)) (hB : B ≤ base) (hm : m ≤ 17592186044416) (hs : ∀ x ∈ l, x.size ≤ 35184372088832) (hbig : (Cl.txts l).length ≤ 8796093022208) :
    Puts 42 #[.slice A n c, .slice A2 m d] w base (.slice A n c) n xs (Cl.lst l) := by
  unfold Puts Cl.lst
  have hll : l.length = m := by simpa using hl.len1
  rw [List.length_append, Cl.lb_len, hll]
  have K := hide (put_any A n c base 1 m xs w hown hbase (by omega) (by omega) (by omega))
  have Hl := hide hl
  have Hll := hide hll
  have Hs := hide hs
  have hnb : ∀ k, (Value.slice A n c).ownBlock = some k → B ≤ k := fun k hk => Nat.le_trans hB (own_lt hown k hk)
  have Hnb := hide hnb
  clear hl hll hs hown hnb
  go_enter Try.func42, Try.ntmps42
  go_wp2_with fail
  refine (unhide K).mono ?_
  rintro e w1 ⟨A1, c1, rfl, hg1⟩
  rw [Cl.lb_len] at hg1 ⊢
  have Hg1 := hide hg1
  clear hg1 K
  go_wp2_with fail
  go_loopg [0, 14] m (fun gk b i wr => ∃ (k : Nat) (Ak : Option Addr) (ck : Nat), gk = m - k ∧ k ≤ m ∧ i = .int .i64 k ∧ b = .slice Ak (n + 1 + (Cl.txts (l.take k)).length) ck ∧ Grew w wr base (.slice A n c) (.slice Ak (n + 1 + (Cl.txts (l.take k)).length) ck) (n + 1 + (Cl.txts (l.take k)).length) (xs ++ Cl.lb m 1 ++ Cl.txts (l.take k)))
  case atStart => exact ⟨0, A1, c1, by omega, by omega, rfl, by simp [Cl.txts], by simpa [Cl.txts] using unhide Hg1⟩
  case round =>
  obtain ⟨k, Ak, ck, hgk, hk, rfl, rfl, hg⟩ := hrel
  have Hgk := hide hgk
  have Hg := hide hg
  clear hgk hg Hg1
  have hsz := (unhide Hg).kept.size
  have hbk := (unhide Hg).below (Nat.le_trans hB hbase) (unhide Hnb)
  rcases Nat.lt_or_ge k m with hlt | hge
  case inr =>
    obtain rfl : k = m := by omega
    have e : l.take k = l := List.take_of_length_le (by have := unhide Hll; omega)
    rw [e] at Hg
    rw [e]
    clear hbk
    go_wp2
    go_ret
    rw [← Nat.add_assoc]
    have h := unhide Hg
    rw [List.append_assoc] at h
    exact ⟨Ak, ck, rfl, h⟩
  obtain ⟨x, hx⟩ : ∃ x, l[k]? = some x := ⟨_, List.getElem?_eq_getElem (by rw [unhide Hll]; exact hlt)⟩
  obtain ⟨b1, o1, rfl, hbb, c0⟩ := ((unhide Hl).below hbk).at_ (k := k) (u := .string x) (by simp [hx])
  have hle := txts_le l k
  have K2 := hide (putText_any Ak (n + 1 + (Cl.txts (l.take k)).length) ck base _ x wr (unhide Hg).own (Nat.le_trans hbase hsz) (by omega) ((unhide Hs) _ (List.mem_of_getElem? hx)))
  have Hx := hide (txts_snoc hx)
  clear hx hle hbk
  generalize hq : (Cl.txts (l.take k)).length = q at *
  have Hq := hide hq
  clear hq
  go_wp2_with fail
  refine (unhide K2).mono ?_
  rintro e w2 ⟨A3, c3, rfl, hg2⟩
  have Hg2 := hide ((unhide Hg).trans hg2)
  clear hg2 Hg
  go_wp2_with fail
  go_roundg (m - (k + 1))
  case measure => have := unhide Hgk; omega
  case rel => exact ⟨k + 1, A3, c3, rfl, by omega, by go_num, by rw [unhide Hx, List.length_append, unhide Hq, Nat.add_assoc (n + 1)], by rw [unhide Hx, List.length_append, unhide Hq, ← Nat.add_assoc (n + 1), ← List.append_assoc]; exact unhide Hg2⟩
end Go.Proofs.Ytphbkjdheopmhaa
namespace Go.Proofs.Ytphbkjdheopmhaa
set_option linter.unusedVariables false
set_option linter.unusedSimpArgs false
open Go.RowKit

set_option maxRecDepth 100000 in
set_option maxHeartbeats 1000000 in
theorem rnumber_any (s x : Nat) (w : World) (hs : s = 1 ∨ s = 2 ∨ s = 4 ∨ s = 8) (hx : x < 18446744073709551616) :
    Calls Try.prog 46 #[.int .u64 x, .int .i64 s] w fun e w' => ∃ A' c', e = .returned (.slice A' s c') ∧ w'.ownsRow w.heap.size 5 1 (.slice A' s c') s (bys (Cl.lb x s)) ∧ Below w.heap.size w w' := by
  obtain ⟨i, hi, hz0, hz1, hz2⟩ := info_parts byteInfo
  have hs0 : 0 < s := by omega
  have hs8 : s ≤ 8 := by omega
  have Hi := hide hi
  have Hz0 := hide hz0
  have Hz1 := hide hz1
  have Hz2 := hide hz2
  have Hs := hide hs
  clear hi hz0 hz1 hz2 hs
  go_enter Try.func46, Try.ntmps46
  have hzz : (madeCells (Value.int .u8 0).cells (s * 1)).toList = bys (List.replicate s 0) := by simp [bys, Value.cells, toList_madeCells_one]
  have Hzz := hide hzz
  clear hzz
  go_wp2_with (at_make; refine wpList_make_full _ rfl _ _ 24 rfl w.heap.size 5 i (.int .u8 0) 1 Try.underlying24 (unhide Hi) (unhide Hz0) (unhide Hz1) _ _ _ _ s rfl rfl rfl rfl (by rw [unhide Hz2]; omega) (by unfold maxLen; omega) (Nat.le_refl _) ?_; intro w1 hown hgrow; have Hb1 := hide ((Below.refl w.heap.size w).grown hgrow (Nat.le_refl _) (fun k hk => by cases hk)); rw [unhide Hzz] at hown; have Hmk := hide (Rd.of_own hown); clear hown hgrow)
  refine (refSet_yes _ s _ w1.heap.size (List.replicate s 0) 0 s x w1 (Nat.le_refl _) (unhide Hmk) (by omega) (unhide Hs) (by omega) hx).mono ?_
  rintro e w2 ⟨A2, c2, rfl, ho2, hb2⟩
  rw [setK_all] at ho2
  have Ho2 := hide (own_base ho2 (unhide Hb1).size)
  have Hb2 := hide ((unhide Hb1).trans (hb2.mono (unhide Hb1).size))
  clear ho2 hb2 Hmk Hb1 Hi Hz0 Hz1 Hz2
  go_wp2_with fail
  go_ret
  exact ⟨A2, c2, rfl, unhide Ho2, unhide Hb2⟩

set_option maxRecDepth 100000 in
set_option maxHeartbeats 1000000 in
theorem rtext_any (A : Option Addr) (n c base : Nat) (xs : List UInt8) (s : ByteArray) (w : World) (hown : w.ownsRow base 5 1 (.slice A n c) n (bys xs)) (hbase : base ≤ w.heap.size) (hn : n ≤ 35184372088832) (hs : s.size ≤ 35184372088832) :
    Puts 47 #[.slice A n c, .string s] w base (.slice A n c) n xs (Cl.txt (Cl.bl s)) := by
  unfold Puts Cl.txt
  rw [List.length_append, Cl.lb_len, Cl.bl_len]
  have K := hide (rnumber_any 2 s.size w (by omega) (by omega))
  have Hown0 := hide hown
  clear hown
  go_enter Try.func47, Try.ntmps47
  go_wp2_with fail
  refine (unhide K).mono ?_
  rintro e w1 ⟨A1, c1, rfl, ho1, hb1⟩
  have Hr1 := hide (Rd.of_own ho1)
  have Hb1 := hide hb1
  have Ho1 := hide (own_below (unhide Hown0) hb1)
  have hsz1 := Nat.le_trans hbase hb1.size
  clear ho1 hb1 K Hown0
  go_wp2_with (first
    | (at_builtin; refine wpList_app byteTy rfl _ _ rfl base (.slice A n c) n (bys xs) rfl (unhide Ho1) w1.heap.size A1 2 c1 (bys (Cl.lb s.size 2)) rfl (unhide Hr1) (bys_one _) (by omega) hsz1 ?_; intro A3 c3 w3 ho3 hg3 hat3; rw [← bys_app] at ho3; have Hg3 := hide (Grew.after (unhide Hb1) ⟨ho3, hg3, hat3⟩); have hsz3 := Nat.le_trans hbase (unhide Hg3).kept.size; clear ho3 hg3 hat3)
    | (at_builtin; refine wpList_appS rfl _ _ rfl base _ (n + 2) (xs ++ Cl.lb s.size 2) rfl (unhide Hg3).own s rfl (by omega) hsz3 ?_; intro A2 c2 w2 hg2; have Hg2 := hide ((unhide Hg3).trans hg2); clear hg2))
  go_ret
  have h := unhide Hg2
  rw [List.append_assoc] at h
  rw [← Nat.add_assoc]
  exact ⟨A2, c2, rfl, h⟩

theorem lb_one (m : Nat) : bys (Cl.lb m 1) = [.int .u8 ((m : Int) % 256)] := by
  simp [Cl.lb, bys]

set_option maxRecDepth 100000 in
set_option maxHeartbeats 1000000 in
theorem rlist_any (A : Option Addr) (n c base : Nat) (xs : List UInt8) (A2 : Option Addr) (m d B : Nat) (l : List ByteArray) (w : World) (hown : w.ownsRow base 5 1 (.slice A n c) n (bys xs)) (hbase : base ≤ w.heap.size) (hn : n ≤ 17592186044416)
    (hl : Rd w B 1 A2 m (l.map Value.string)) (hB : B ≤ base) (hm : m ≤ 17592186044416) (hs : ∀ x ∈ l, x.size ≤ 35184372088832) (hbig : (Cl.txts l).length ≤ 8796093022208) :
    Puts 48 #[.slice A n c, .slice A2 m d] w base (.slice A n c) n xs (Cl.lst l) := by
  unfold Puts Cl.lst
  have hll : l.length = m := by simpa using hl.len1
  rw [List.length_append, Cl.lb_len, hll]
  have Hl := hide hl
  have Hll := hide hll
  have Hs := hide hs
  have Hown := hide hown
  have hnb : ∀ k, (Value.slice A n c).ownBlock = some k → B ≤ k := fun k hk => Nat.le_trans hB (own_lt hown k hk)
  have Hnb := hide hnb
  clear hl hll hs hown hnb
  go_enter Try.func48, Try.ntmps48
  go_wp2_with (at_builtin; refine wpList_app1g byteTy rfl _ _ rfl base (.slice A n c) n (bys xs) rfl (unhide Hown) #[.int .u8 ((m : Int) % 256)] _ rfl (by simp) rfl (by simp [Value.oneCell']) (by omega) (by simpa using hbase) ?_; intro A1 c1 w1 ho1 hg1 hat1; rw [show (#[Value.int .u8 ((m : Int) % 256)] : Array Value).toList = bys (Cl.lb m 1) from (lb_one m).symm, ← bys_app] at ho1; have Hg1 := hide (Grew.mk ho1 hg1 hat1); clear ho1 hg1 hat1 Hown)
  go_loopg [0, 5] m (fun gk b i wr => ∃ (k : Nat) (Ak : Option Addr) (ck : Nat), gk = m - k ∧ k ≤ m ∧ i = .int .i64 k ∧ b = .slice Ak (n + 1 + (Cl.txts (l.take k)).length) ck ∧ Grew w wr base (.slice A n c) (.slice Ak (n + 1 + (Cl.txts (l.take k)).length) ck) (n + 1 + (Cl.txts (l.take k)).length) (xs ++ Cl.lb m 1 ++ Cl.txts (l.take k)))
  case atStart => exact ⟨0, A1, c1, by omega, by omega, rfl, by simp [Cl.txts], by simpa [Cl.txts] using unhide Hg1⟩
  case round =>
  obtain ⟨k, Ak, ck, hgk, hk, rfl, rfl, hg⟩ := hrel
  have Hgk := hide hgk
  have Hg := hide hg
  clear hgk hg Hg1
  have hsz := (unhide Hg).kept.size
  have hbk := (unhide Hg).below (Nat.le_trans hB hbase) (unhide Hnb)
  rcases Nat.lt_or_ge k m with hlt | hge
  case inr =>
    obtain rfl : k = m := by omega
    have e : l.take k = l := List.take_of_length_le (by have := unhide Hll; omega)
    rw [e] at Hg
    rw [e]
    clear hbk
    go_wp2
    go_ret
    rw [← Nat.add_assoc]
    have h := unhide Hg
    rw [List.append_assoc] at h
    exact ⟨Ak, ck, rfl, h⟩
  obtain ⟨x, hx⟩ : ∃ x, l[k]? = some x := ⟨_, List.getElem?_eq_getElem (by rw [unhide Hll]; exact hlt)⟩
  obtain ⟨b1, o1, rfl, hbb, c0⟩ := ((unhide Hl).below hbk).at_ (k := k) (u := .string x) (by simp [hx])
  have hle := txts_le l k
  have K2 := hide (rtext_any Ak (n + 1 + (Cl.txts (l.take k)).length) ck base _ x wr (unhide Hg).own (Nat.le_trans hbase hsz) (by omega) ((unhide Hs) _ (List.mem_of_getElem? hx)))
  have Hx := hide (txts_snoc hx)
  clear hx hle hbk
  generalize hq : (Cl.txts (l.take k)).length = q at *
  have Hq := hide hq
  clear hq
  go_wp2_with fail
  refine (unhide K2).mono ?_
  rintro e w2 ⟨A3, c3, rfl, hg2⟩
  have Hg2 := hide ((unhide Hg).trans hg2)
  clear hg2 Hg
  go_wp2_with fail
  go_roundg (m - (k + 1))
  case measure => have := unhide Hgk; omega
  case rel => exact ⟨k + 1, A3, c3, rfl, by omega, by go_num, by rw [unhide Hx, List.length_append, unhide Hq, Nat.add_assoc (n + 1)], by rw [unhide Hx, List.length_append, unhide Hq, ← Nat.add_assoc (n + 1), ← List.append_assoc]; exact unhide Hg2⟩
end Go.Proofs.Ytphbkjdheopmhaa
namespace Go.Proofs.Ytphbkjdheopmhaa
set_option linter.unusedVariables false
set_option linter.unusedSimpArgs false
open Go.RowKit

theorem fld_len {q : Cl.C} (hs : Cl.Small q) (f : Nat) : (Cl.fld q f).length ≤ 10000 := by
  have htx : ∀ l : List ByteArray, (∀ x ∈ l, x.size ≤ 256) → (Cl.txts l).length ≤ 258 * l.length := by
    intro l
    induction l with
    | nil => intro _; simp [Cl.txts]
    | cons x r ih =>
      intro h
      have h1 := ih fun y hy => h y (.tail _ hy)
      have h2 := h x (.head _)
      simp only [Cl.txts, Cl.txt, List.length_append, Cl.lb_len, Cl.bl_len, List.length_cons]
      omega
  have ha := htx _ hs.a2
  have he := htx _ hs.e2
  have a1 := hs.a1
  have e1 := hs.e1
  have hp := hs.p
  have hb := hs.b
  unfold Cl.fld
  split
  · simp only [Cl.txt, List.length_append, Cl.lb_len, Cl.bl_len]; omega
  · simp only [Cl.lst, List.length_append, Cl.lb_len]; omega
  · simp only [Cl.lst, List.length_append, Cl.lb_len]; omega
  · simp only [Cl.txt, List.length_append, Cl.lb_len]; omega
  · rw [Cl.lb_len]; omega
theorem flds_len {q : Cl.C} (hs : Cl.Small q) (l : List Nat) : (Cl.flds q l).length ≤ 10000 * l.length := by
  induction l with
  | nil => simp [Cl.flds]
  | cons f r ih =>
    have := fld_len hs f
    simp only [Cl.flds, List.length_append, List.length_cons]
    omega
theorem fsN_len (k : Nat) : (Cl.fsN k).length ≤ 5 := by
  unfold Cl.fsN
  split <;> simp
theorem flds_snoc {q : Cl.C} {l : List Nat} {k f : Nat} (h : l[k]? = some f) : Cl.flds q (l.take (k + 1)) = Cl.flds q (l.take k) ++ Cl.fld q f := by
  rw [List.take_add_one, h, Cl.flds_app]
  simp [Cl.flds]
theorem txts_small {l : List ByteArray} (h1 : l.length ≤ 32) (h2 : ∀ x ∈ l, x.size ≤ 256) : (Cl.txts l).length ≤ 8256 := by
  have htx : ∀ l : List ByteArray, (∀ x ∈ l, x.size ≤ 256) → (Cl.txts l).length ≤ 258 * l.length := by
    intro l
    induction l with
    | nil => intro _; simp [Cl.txts]
    | cons x r ih =>
      intro h
      have h1 := ih fun y hy => h y (.tail _ hy)
      have h2 := h x (.head _)
      simp only [Cl.txts, Cl.txt, List.length_append, Cl.lb_len, Cl.bl_len, List.length_cons]
      omega
  have := htx l h2
  omega

theorem callForm_bad (q : Cl.C) (x y z : Sl) (B : Nat) (w : World) (hq : ClOk w B q x y z) (hB : B ≤ w.heap.size) (hf : ClFit q) (hc : Cl.check q ≠ 0) :
    Calls Try.prog 16 #[.agg (clCells q x y z)] w fun e w' => e = .returned (.tuple #[.slice none 0 0, .int .i64 (Cl.check q)]) ∧ Below w.heap.size w w' := by
  have K := hide (callCheck_any q x y z B (w.alloc (.cells (clCells q x y z) 26)) (hq.alloc hB _) (by simp; omega) hf)
  have hc2 : (Cl.check q != 0) = true := by simpa using hc
  clear hq hf hc
  generalize Cl.check q = r at *
  go_enter Try.func16, Try.ntmps16
  go_wp2_with fail
  refine (unhide K).mono ?_
  rintro e w1 ⟨rfl, hb1⟩
  have Hb1 := hide (below_new hb1)
  clear hb1 K
  go_wp2_with fail
  go_ret2
  exact ⟨rfl, unhide Hb1⟩

theorem own_one (w : World) (x : UInt8) : (w.alloc (.cells #[.int .u8 x.toNat] 5)).ownsRow w.heap.size 5 1 (.slice (some ⟨w.heap.size, 0, none⟩) 1 1) 1 (bys [x]) :=
  ⟨rfl, .inr ⟨w.heap.size, 1, _, rfl, Nat.le_refl _, heap_alloc_new _ _, Nat.le_refl _, by decide, rfl, rfl⟩⟩
theorem fs_at {k j f : Nat} (h : (Cl.fsN k)[j]? = some f) : ((fs k).map (Value.int .i64))[j]? = some (.int .i64 (f : Nat)) := by
  rw [fs_map]
  simp [h]
theorem fs_len (k : Nat) : (fs k).length = (Cl.fsN k).length := by rw [fs_map, List.length_map]

set_option maxRecDepth 100000 in
set_option maxHeartbeats 4000000 in
theorem callForm_good (q : Cl.C) (x y z : Sl) (B : Nat) (w : World) (hq : ClOk w B q x y z) (hB : B ≤ w.heap.size) (hf : ClFit q) (hc : Cl.check q = 0) :
    Calls Try.prog 16 #[.agg (clCells q x y z)] w fun e w' => ∃ A' c', e = .returned (.tuple #[.slice A' (Cl.form q).length c', .int .i64 0]) ∧ w'.ownsRow w.heap.size 5 1 (.slice A' (Cl.form q).length c') (Cl.form q).length (bys (Cl.form q)) ∧ Below w.heap.size w w' := by
  have K := callCheck_any q x y z B (w.alloc (.cells (clCells q x y z) 26)) (hq.alloc hB _) (by simp; omega) hf
  rw [hc] at K
  replace K := hide K
  have hs := Cl.check_small hc
  have hk1 := hs.k1
  have hk2 := hs.k2
  have hkb := Cl.kind_byte hs
  have Hkb := hide hkb
  have Hs := hide hs
  have Hq := hide hq
  have Hf := hide hf
  clear hq hf hc hs hkb
  go_enter Try.func16, Try.ntmps16
  go_wp2_with fail
  refine (unhide K).mono ?_
  rintro e w1 ⟨rfl, hb1⟩
  have hbx1 := newblk hb1
  have hb1' := below_new hb1
  have Hb1 := hide hb1'
  have hsz1 := lt_of_block hbx1
  obtain ⟨v0, v1, v2, v3, v4, v5, v6, v7, v8, v9⟩ := box10 hbx1
  have Hq1 := hide ((unhide Hq).below (hb1'.mono hB))
  have Hbx1 := hide hbx1
  clear hb1 hb1' hbx1 Hq K v1 v2 v3 v4 v5 v6 v7 v8 v9
  go_wp2_with fail
  have hown := own_one w1 (UInt8.ofNat q.kind)
  rw [unhide Hkb] at hown
  have hbW : Below w1.heap.size w1 (w1.alloc (.cells #[.int .u8 q.kind] 5)) := (Below.refl _ _).alloc (Nat.le_refl _) _
  have hszW : (w1.alloc (.cells #[.int .u8 q.kind] 5)).heap.size = w1.heap.size + 1 := by simp
  have v0W := (hbW.cell (p := ⟨w.heap.size, 0, none⟩) hsz1).trans v0
  generalize hgW : w1.alloc (.cells #[.int .u8 q.kind] 5) = W at *
  have hlW : w.heap.size < W.heap.size := by omega
  have HszW := hide hszW
  clear hgW v0 hszW
  have HbW := hide hbW
  have Hown := hide hown
  clear hown hbW
  go_region_held3 (fun w' => w'.cell? ⟨w.heap.size, 0, none⟩ = some (.int .u8 q.kind)) (first | exact v0W | exact hx0) (first | (go_at_call 30; refine (fields_any _).mono ?_; rintro e w2 ⟨rfl, hFM0⟩; have hFM : FM W W.heap.size 12 w2 := hFM0.of_drew ⟨_, rfl⟩; clear hFM0; have hx0 := (hFM.below.cell (p := ⟨w.heap.size, 0, none⟩) hlW).trans v0W; obtain ⟨bl, hbl1, hbl2, hbl3, hbl4⟩ := look_yes hFM hk1 hk2; have Hb2 := hide hFM.below; have HBL4 := hide hbl4; clear hbl2 hbl4 hFM))
  have hb2 := unhide Hb2
  have hszW := unhide HszW
  have hs2 := hb2.size
  have hg0 : Grew w2 w2 w1.heap.size (.slice (some ⟨w1.heap.size, 0, none⟩) 1 1) (.slice (some ⟨w1.heap.size, 0, none⟩) 1 1) 1 [UInt8.ofNat q.kind] := ⟨own_below (unhide Hown) hb2, World.grownBy.refl _ _, fun k hk => .inl hk⟩
  have Hg0 := hide hg0
  have hbx2 := (hb2.block _ (by omega)).trans (((unhide HbW).block _ hsz1).trans (unhide Hbx1))
  have Hbx2 := hide hbx2
  have Hq2 := hide (((unhide Hq1).below ((unhide HbW).mono (by omega))).below (hb2.mono (by omega)))
  have Hbw2 := hide (((unhide Hb1).trans ((unhide HbW).mono (by omega))).trans (hb2.mono (by omega)))
  clear hszW hbx2 hg0 hb2 hx0 hbl3 Hq1 Hb1 HbW Hown Hb2 Hbx1 v0W
  have hfl := fs_len q.kind
  have hfn := fsN_len q.kind
  rw [hfl]
  rw [hfl] at HBL4
  obtain ⟨n, hn⟩ : ∃ n, (Cl.fsN q.kind).length = n := ⟨_, rfl⟩
  rw [hn] at hfn HBL4 ⊢
  have Hn := hide hn
  clear hn hfl
  go_wp2_with fail
  go_loopg [5, 21] n (fun gk b i wr => ∃ (k : Nat) (Ak : Option Addr) (ck : Nat), gk = n - k ∧ k ≤ n ∧ i = .int .i64 k ∧ b = .slice Ak (1 + (Cl.flds q ((Cl.fsN q.kind).take k)).length) ck ∧ Grew w2 wr w1.heap.size (.slice (some ⟨w1.heap.size, 0, none⟩) 1 1) (.slice Ak (1 + (Cl.flds q ((Cl.fsN q.kind).take k)).length) ck) (1 + (Cl.flds q ((Cl.fsN q.kind).take k)).length) ([UInt8.ofNat q.kind] ++ Cl.flds q ((Cl.fsN q.kind).take k)))
  case atStart => exact ⟨0, some ⟨w1.heap.size, 0, none⟩, 1, by omega, by omega, rfl, by simp [Cl.flds], by simpa [Cl.flds] using unhide Hg0⟩
  case round =>
  clear Hg0
  obtain ⟨k, Ak, ck, hgk, hk, rfl, rfl, hg⟩ := hrel
  have hszW := unhide HszW
  have Hgk := hide hgk
  have Hg := hide hg
  have hbg : Below B w2 wr := hg.below (by omega) (fun j hj => by simp [Value.ownBlock] at hj; omega)
  have hbg2 : Below w1.heap.size w2 wr := hg.below (by omega) (fun j hj => by simp [Value.ownBlock] at hj; omega)
  have Hq3 := hide ((unhide Hq2).below hbg)
  have Hbw3 := hide ((unhide Hbw2).trans (hbg2.mono (by omega)))
  have hbx3 := hg.blk (g := w.heap.size) (by omega) (by simp [Value.ownBlock]; omega) (unhide Hbx2)
  obtain ⟨v0, v1, v2, v3, v4, v5, v6, v7, v8, v9⟩ := box10 hbx3
  have hszr := hg.kept.size
  have hfk := flds_len (unhide Hs) ((Cl.fsN q.kind).take k)
  have htk : ((Cl.fsN q.kind).take k).length ≤ k := by simp; omega
  have hsmall : (Cl.flds q ((Cl.fsN q.kind).take k)).length ≤ 50000 := by omega
  clear hgk hbg hbg2 hfk htk hbx3
  rcases Nat.lt_or_ge k n with hlt | hge
  case inr =>
    obtain rfl : k = n := by omega
    have e : (Cl.fsN q.kind).take k = Cl.fsN q.kind := List.take_of_length_le (by have := unhide Hn; omega)
    have ef : (Cl.form q).length = 1 + (Cl.flds q (Cl.fsN q.kind)).length := by simp [Cl.form]; omega
    have eg : Cl.form q = [UInt8.ofNat q.kind] ++ Cl.flds q (Cl.fsN q.kind) := rfl
    rw [e] at hg ⊢
    have Ho := hide (own_base hg.own (show w.heap.size ≤ w1.heap.size by omega))
    have Hef := hide ef
    have Heg := hide eg
    clear e hg Hg ef eg v0 v1 v2 v3 v4 v5 v6 v7 v8 v9 hsmall hszW
    go_wp2
    go_ret2
    rw [unhide Hef]
    refine ⟨Ak, ck, rfl, ?_, unhide Hbw3⟩
    rw [unhide Heg]
    exact unhide Ho
  obtain ⟨f, hfk⟩ : ∃ f, (Cl.fsN q.kind)[k]? = some f := ⟨_, List.getElem?_eq_getElem (by rw [unhide Hn]; exact hlt)⟩
  have hf9 : f < 9 := (Cl.fsN_ok q.kind).1 f (List.mem_of_getElem? hfk)
  have hc0 : wr.cell? ⟨bl, k, none⟩ = some (.int .i64 (f : Nat)) := by
    obtain ⟨b1, o1, he, hb1, hc1⟩ := (unhide HBL4).at_ (fs_at hfk)
    obtain ⟨rfl, rfl⟩ : bl = b1 ∧ 0 = o1 := by injection he with he; injection he with h1 h2 h3; exact ⟨h1, h2⟩
    rw [Nat.zero_add] at hc1
    exact (World.cell?_of_block (w := w2) (a := ⟨bl, k, none⟩) (hg.kept.block bl hb1 (by simp [Value.ownBlock]; omega))).trans hc1
  have hsn := flds_snoc (q := q) hfk
  have Hsn := hide hsn
  have Hfd := hide (fld_len (unhide Hs) f)
  clear hg hfk hsn
  have hown := (unhide Hg).own
  generalize hL : (Cl.flds q ((Cl.fsN q.kind).take k)).length = L at *
  have HL := hide hL
  clear hL
  have hk9 : (k : Int) < (n : Int) := by omega
  by_cases h5 : f < 5
  · have t5 : (((f : Nat) : Int) == 5) = false := beq_eq_false_iff_ne.2 (by omega)
    have t6 : (((f : Nat) : Int) == 6) = false := beq_eq_false_iff_ne.2 (by omega)
    have t7 : (((f : Nat) : Int) == 7) = false := beq_eq_false_iff_ne.2 (by omega)
    have t8 : (((f : Nat) : Int) == 8) = false := beq_eq_false_iff_ne.2 (by omega)
    have hc2 : wr.cell? ⟨w.heap.size, f + 1, none⟩ = some (.int .u64 (Cl.num q f)) := by
      obtain rfl | rfl | rfl | rfl | rfl : f = 0 ∨ f = 1 ∨ f = 2 ∨ f = 3 ∨ f = 4 := by omega
      · exact v1
      · exact v2
      · exact v3
      · exact v4
      · exact v5
    have hnm : Cl.num q f < 18446744073709551616 := by
      have hf := unhide Hf
      obtain rfl | rfl | rfl | rfl | rfl : f = 0 ∨ f = 1 ∨ f = 2 ∨ f = 3 ∨ f = 4 := by omega
      · exact hf.a
      · exact hf.b
      · exact hf.c
      · exact hf.d
      · exact hf.e
    have hfd : Cl.fld q f = Cl.lb (Cl.num q f) 8 := by
      obtain rfl | rfl | rfl | rfl | rfl : f = 0 ∨ f = 1 ∨ f = 2 ∨ f = 3 ∨ f = 4 := by omega
      all_goals rfl
    have K1 := hide (number_any w.heap.size f wr h5)
    have K2 := hide (put_any Ak (1 + L) ck w1.heap.size 8 (Cl.num q f) _ wr hown (by omega) (by omega) hnm (by omega))
    rw [hfd] at Hsn
    clear v0 v1 v2 v3 v4 v5 v6 v7 v8 v9 hfd hown hsmall hnm h5 hszW
    generalize Cl.num q f = x at *
    go_wp2_with (go_at_call 44; refine (unhide K1).mono ?_; rintro e w3 ⟨rfl, rfl⟩)
    refine (unhide K2).mono ?_
    rintro e w3 ⟨A3, c3, rfl, hg3⟩
    have Hg3 := hide ((unhide Hg).trans hg3)
    clear hg3 K1 K2 Hg hc0 hc2 t5 t6 t7 t8
    go_wp2_with fail
    go_roundg (n - (k + 1))
    case measure => have := unhide Hgk; omega
    case rel => exact ⟨k + 1, A3, c3, rfl, by omega, by go_num, by rw [unhide Hsn, List.length_append, unhide HL, ← Nat.add_assoc], by rw [unhide Hsn, List.length_append, unhide HL, ← Nat.add_assoc, ← List.append_assoc]; exact unhide Hg3⟩
  obtain rfl | rfl | rfl | rfl : f = 5 ∨ f = 6 ∨ f = 7 ∨ f = 8 := by omega
  · have K2 := hide (putText_any Ak (1 + L) ck w1.heap.size _ q.path wr hown (by omega) (by omega) (by have := (unhide Hs).p; omega))
    clear v0 v1 v2 v3 v4 v5 v7 v8 v9 hown hsmall h5 hszW
    go_wp2_with fail
    refine (unhide K2).mono ?_
    rintro e w3 ⟨A3, c3, rfl, hg3⟩
    have Hg3 := hide ((unhide Hg).trans hg3)
    clear hg3 K2 Hg hc0 v6
    go_wp2_with fail
    go_roundg (n - (k + 1))
    case measure => have := unhide Hgk; omega
    case rel => exact ⟨k + 1, A3, c3, rfl, by omega, by go_num, by rw [unhide Hsn, List.length_append, unhide HL, ← Nat.add_assoc]; rfl, by rw [unhide Hsn, List.length_append, unhide HL, ← Nat.add_assoc, ← List.append_assoc]; exact unhide Hg3⟩
  · have hs := unhide Hs
    have h1 := hs.a1
    have h2 := (unhide Hq3).n1
    have K2 := hide (putList_any Ak (1 + L) ck w1.heap.size _ x.A x.n x.c B q.argv wr hown (by omega) (by omega) (unhide Hq3).r1 (by omega) (by omega) (fun t ht => by have := hs.a2 t ht; omega) (by have := txts_small h1 hs.a2; omega))
    clear v0 v1 v2 v3 v4 v5 v6 v8 v9 hown hsmall h5 hszW hs h1 h2
    go_wp2_with fail
    refine (unhide K2).mono ?_
    rintro e w3 ⟨A3, c3, rfl, hg3⟩
    have Hg3 := hide ((unhide Hg).trans hg3)
    clear hg3 K2 Hg hc0 v7
    go_wp2_with fail
    go_roundg (n - (k + 1))
    case measure => have := unhide Hgk; omega
    case rel => exact ⟨k + 1, A3, c3, rfl, by omega, by go_num, by rw [unhide Hsn, List.length_append, unhide HL, ← Nat.add_assoc]; rfl, by rw [unhide Hsn, List.length_append, unhide HL, ← Nat.add_assoc, ← List.append_assoc]; exact unhide Hg3⟩
  · have hs := unhide Hs
    have h1 := hs.e1
    have h2 := (unhide Hq3).n2
    have K2 := hide (putList_any Ak (1 + L) ck w1.heap.size _ y.A y.n y.c B q.env wr hown (by omega) (by omega) (unhide Hq3).r2 (by omega) (by omega) (fun t ht => by have := hs.e2 t ht; omega) (by have := txts_small h1 hs.e2; omega))
    clear v0 v1 v2 v3 v4 v5 v6 v7 v9 hown hsmall h5 hszW hs h1 h2
    go_wp2_with fail
    refine (unhide K2).mono ?_
    rintro e w3 ⟨A3, c3, rfl, hg3⟩
    have Hg3 := hide ((unhide Hg).trans hg3)
    clear hg3 K2 Hg hc0 v8
    go_wp2_with fail
    go_roundg (n - (k + 1))
    case measure => have := unhide Hgk; omega
    case rel => exact ⟨k + 1, A3, c3, rfl, by omega, by go_num, by rw [unhide Hsn, List.length_append, unhide HL, ← Nat.add_assoc]; rfl, by rw [unhide Hsn, List.length_append, unhide HL, ← Nat.add_assoc, ← List.append_assoc]; exact unhide Hg3⟩
  · have hs := unhide Hs
    have h1 := hs.b
    have K2 := hide (putText_any Ak (1 + L) ck w1.heap.size _ (Cl.ba q.bytes) wr hown (by omega) (by omega) (by rw [Cl.ba_size]; omega))
    have hcv : (convert 24 9 (.slice z.A z.n z.c)).run Try.prog wr = .ok (.string (Cl.ba q.bytes)) wr := conv_any (unhide Hq3).r3 Try.underlying24 Try.underlying5 Try.underlying9
    clear v0 v1 v2 v3 v4 v5 v6 v7 v8 hown hsmall h5 hszW hs h1
    go_wp2_with fail
    refine (unhide K2).mono ?_
    rintro e w3 ⟨A3, c3, rfl, hg3⟩
    have Hg3 := hide ((unhide Hg).trans hg3)
    clear hg3 K2 Hg hc0 v9 hcv
    go_wp2_with fail
    go_roundg (n - (k + 1))
    case measure => have := unhide Hgk; omega
    case rel => exact ⟨k + 1, A3, c3, rfl, by omega, by go_num, by rw [unhide Hsn, List.length_append, unhide HL, ← Nat.add_assoc]; rfl, by rw [unhide Hsn, List.length_append, unhide HL, ← Nat.add_assoc, ← List.append_assoc]; exact unhide Hg3⟩
end Go.Proofs.Ytphbkjdheopmhaa
namespace Go.Proofs.Ytphbkjdheopmhaa
set_option linter.unusedVariables false
set_option linter.unusedSimpArgs false
open Go.RowKit

theorem setRow_same {w : World} {g : Nat} {cs : Array Value} {t : TypeId} {fr : Nat × Nat} (h : w.heap[g]? = some (.cells cs t fr)) : w.setRow g cs = w := by
  have h1 := setRow_heap w g cs cs t fr h
  have h2 : (w.setRow g cs).heap = w.heap := by
    apply Array.ext_getElem?
    intro i
    by_cases e : i = g
    · subst e; rw [h1, h]
    · exact setRow_other w g i cs e
  unfold World.setRow at h2 ⊢
  simp only at h2
  rw [h2]
section
variable {P : Program} {ops : Array Oper} {W : World} {o : Oper} {a : Act}
theorem yields_load (hw : Region.wanted o (yielded ops a.tmps) = true) (ty : TypeId) (x : Operand) (ho : o.op = .load ty x)
    (g : Nat) (hx : a.eval x = .pointer (some ⟨g, 0, none⟩)) (t : TypeId) (cs : Array Value) (fr : Nat × Nat) (d : TypeDesc) (hg : W.heap[g]? = some (.cells cs t fr))
    (hu : P.underlying ty = some d) (hd : (match d with | .struct _ | .array _ _ => true | _ => false) = true) (hi : (P.info? ty).map (·.size) = some cs.size) :
    YieldsIf P ops (fun w' => w' = W) o (.agg cs) a := by
  refine .inl ⟨hw, fun w' hw' => ?_⟩
  subst hw'
  unfold execOp
  simp only [ho, hx, Instr.loadAt, Instr.sureAddr, Sem.run_bind, Sem.run_pure, Result.andThen_ok, run_loadVar_row _ g t ty cs fr d hg hu hd hi]
variable {S : World → Prop}
theorem yields_move (hw : Region.wanted o (yielded ops a.tmps) = true) (x : Operand) (ho : o.op = .move x) (v : Value) (hx : a.eval x = v) : YieldsIf P ops S o v a := by
  refine .inl ⟨hw, fun w' hw' => ?_⟩
  subst hx
  unfold execOp
  simp [ho]
theorem yields_assign (hw : Region.wanted o (yielded ops a.tmps) = true) (x : Operand) (ho : o.op = .assign x) (v : Value) (hx : a.eval x = v) : YieldsIf P ops S o v a := by
  refine .inl ⟨hw, fun w' hw' => ?_⟩
  subst hx
  unfold execOp
  simp [ho]
end
theorem takeD {P : Program} {md : Region.Mode} {ops : Array Oper} {Q : Exit → Act → World → Prop} {S : World → Prop} {i : Nat} {oi : Oper} {v : Value} {d : Option Tmp} {fuel : Nat} {listed : Array Bool} {a : Act} {w : World} (hi : ops[i]? = some oi) (hd : oi.dst = d)
    (hs : Region.noSelect ops = true) (hf : Region.free md ops listed i = true) (hr : (Region.ready md ops listed).contains i = true)
    (hQ : ∀ c a w, Q (.panic c) (a.put d v) w → Q (.panic c) a w) (hy : YieldsIf P ops S oi v a) (hS : S w)
    (h : wpAnyH P md ops Q S fuel (listed.setIfInBounds i true) (a.put d v) w) : wpAnyH P md ops Q S (fuel + 1) listed a w := by
  subst hd
  exact wpAnyH_take hi hs hf hr hQ hy hS h
/-- A store of what stands there already, where nothing else may come up. -/
theorem storeD {P : Program} {md : Region.Mode} {ops : Array Oper} {Q : Exit → Act → World → Prop} {W : World} {i : Nat} {oi : Oper} {fuel : Nat} {listed : Array Bool} {a : Act} (hi : ops[i]? = some oi) (hd : oi.dst = none)
    (hr : Region.ready md ops listed = [i]) (hw : Region.wanted oi (yielded ops a.tmps) = true) (ty : TypeId) (x y : Operand) (ho : oi.op = .store ty x y)
    (g : Nat) (cs : Array Value) (hx : a.eval x = .pointer (some ⟨g, 0, none⟩)) (hy : a.eval y = .agg cs)
    (t : TypeId) (hg : W.heap[g]? = some (.cells cs t (0, 0))) (hsz : (P.info? ty).map (·.size) = some cs.size) (h1 : cs.all (·.oneCell') = true)
    (h : wpAnyH P md ops Q (fun w' => w' = W) fuel (listed.setIfInBounds i true) a W) : wpAnyH P md ops Q (fun w' => w' = W) (fuel + 1) listed a W := by
  refine wpAnyH_ready (rs := [i]) hr (by simp) ?_
  refine AllReadyH.cons hi (fun K hK => ?_) AllReadyH.nil
  rw [if_pos hw]
  refine wp_store_row ty x y ho g cs hx hy t cs hg hsz rfl h1 ?_
  rw [setRow_same hg, hd]
  exact hK.out _ _ rfl (fun _ => h)
section
variable {ops : Array Oper} {W : World} {o : Oper} {a : Act} {S : World → Prop}
theorem yields_len (hw : Region.wanted o (yielded ops a.tmps) = true) (x : Operand) (ho : o.op = .call { callee := .builtin .len, args := #[x], argTypes := #[24] }) (A : Option Addr) (n c : Nat) (hx : a.eval x = .slice A n c) : YieldsIf Try.prog ops S o (.int .i64 n) a := by
  refine .inl ⟨hw, fun w' hw' => ?_⟩
  unfold execOp
  simp only [ho]
  simp [resolve, invoke, builtin, hx]
  go_simp
theorem yields_nil (hw : Region.wanted o (yielded ops a.tmps) = true) (x : Operand) (ho : o.op = .nilCheck x) (ad : Addr) (hx : a.eval x = .pointer (some ad)) : YieldsIf Try.prog ops S o (.pointer (some ad)) a := by
  refine .inl ⟨hw, fun w' hw' => ?_⟩
  unfold execOp
  simp [ho, hx]
theorem yields_field0 (hw : Region.wanted o (yielded ops a.tmps) = true) (x : Operand) (ho : o.op = .fieldAddr 77 x 0) (g : Nat) (hx : a.eval x = .pointer (some ⟨g, 0, none⟩)) : YieldsIf Try.prog ops S o (.pointer (some ⟨g, 0, none⟩)) a := by
  refine .inl ⟨hw, fun w' hw' => ?_⟩
  unfold execOp
  simp only [ho, hx]
  go_simp
theorem yields_sub (hw : Region.wanted o (yielded ops a.tmps) = true) (x y : Operand) (ho : o.op = .binOp .sub 3 x y 3) (m n : Int) (hx : a.eval x = .int .i64 m) (hy : a.eval y = .int .i64 n) (hr : IntKind.i64.wrap (m - n) = m - n) : YieldsIf Try.prog ops S o (.int .i64 (m - n)) a := by
  refine .inl ⟨hw, fun w' hw' => ?_⟩
  unfold execOp
  simp only [ho, hx, hy]
  go_simp
theorem yields_slice (hw : Region.wanted o (yielded ops a.tmps) = true) (x : Operand) (ho : o.op = .load 24 x) (g i : Nat) (hx : a.eval x = .pointer (some ⟨g, i, none⟩)) (A : Option Addr) (n c : Nat) (hc : W.cell? ⟨g, i, none⟩ = some (.slice A n c)) : YieldsIf Try.prog ops (fun w' => w' = W) o (.slice A n c) a := by
  refine .inl ⟨hw, fun w' hw' => ?_⟩
  subst hw'
  unfold execOp
  simp only [ho, hx]
  go_simp
end
end Go.Proofs.Ytphbkjdheopmhaa
