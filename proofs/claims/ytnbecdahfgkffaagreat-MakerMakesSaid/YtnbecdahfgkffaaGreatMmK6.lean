/- Texts of the claim LawMakerMakes (MkR5b, MkP9, MkP11, CopyT, MkL2, MkL3, MkP10): what the functions that the statement reaches compute, and plain laws of it. Conditions: those that each theorem states. -/
import Derived.Test.YtnbecdahfgkffaaGreatMmK3
import Derived.Test.YtnbecdahfgkffaaGreatMmK5
import Derived.Test.YtnbecdahfgkffaaGreatMmK1
import Derived.Test.YtnbecdahfgkffaaGreatMmK4
import Derived.Deep.MidRow
import Derived.Laws.EntriesVeiled
import Derived.Deep.DeepCutAuto
import Derived.Deep.CutBlock
set_option linter.unusedVariables false
set_option linter.unusedSimpArgs false
namespace Go.Proofs.YtnbecdahfgkffaaGreat
open Go.RowKit
theorem tbsInfo : (Tryz.prog.info? 96).map (·.size) = some 8 := by kernel_rfl
theorem tbsOne (q : Tb) : q.l.toArray.all (·.oneCell') = true := by simp [Tb.l, Value.oneCell']
theorem own_setRowG {w : World} {base n c size k : Nat} {A : Option Addr} {e : TypeId} {xs : List Value} (h : w.ownsRow base e size (.slice A n c) n xs) (hk : k < base) (cs : Array Value) : (w.setRow k cs).ownsRow base e size (.slice A n c) n xs := by
  refine ⟨h.1, h.2.imp id ?_⟩
  rintro ⟨g, cap, cur, e1, e2, e3, r'⟩
  exact ⟨g, cap, cur, e1, e2, (setRow_other w k g cs (by omega)).trans e3, r'⟩
theorem below_setRowG {w w' : World} {B k : Nat} (h : Below B w w') (hk : B ≤ k) (cs : Array Value) : Below B w (w'.setRow k cs) :=
  ⟨h.os, h.tape, h.output, by simpa [World.setRow] using h.size, fun i hi => (setRow_other w' k i cs (by omega)).trans (h.block i hi)⟩
theorem mkreInfo : (Tryz.prog.info? 141).map (·.size) = some 4 := by kernel_rfl
set_option maxRecDepth 100000 in
set_option maxHeartbeats 8000000 in
theorem rtables_any (s : Xq) (B : Nat) (w : World) (hB : B ≤ w.heap.size) (h : XqM w B s) (ho : XqOk s) (hf : DqFit s.q) (ha0 : 0 ≤ s.x.apart) (ha1 : s.x.apart ≤ s.x.dyn.relas.length) :
    Calls Tryz.prog 37 #[.agg s.l.toArray] w fun e w' => ∃ q : Tb, e = .returned (.agg q.l.toArray) ∧ TabM w' w.heap.size s.x q ∧ Below w.heap.size w w' := by
  have hb1 : Below w.heap.size w (w.alloc (.cells #[.int .u16 (s.x.type : Nat), .int .u64 (s.x.entry : Nat), .string s.x.interp, .slice s.At s.x.text.length s.ct, .slice s.Ad s.x.data.length s.cd, .int .u64 (s.x.more : Nat), .bool s.x.dynamic, .slice s.A1 s.x.dyn.needed.length s.c1, .string s.x.dyn.soname, .string s.x.dyn.run, .slice s.A2 s.x.dyn.syms.length s.c2, .slice s.A3 s.x.dyn.relas.length s.c3, .int .i64 s.x.apart] 31)) := (Below.refl _ _).alloc (Nat.le_refl _) _
  have hbS : Below (w.heap.size + 1 + 1) ((w.alloc (.cells #[.int .u16 (s.x.type : Nat), .int .u64 (s.x.entry : Nat), .string s.x.interp, .slice s.At s.x.text.length s.ct, .slice s.Ad s.x.data.length s.cd, .int .u64 (s.x.more : Nat), .bool s.x.dynamic, .slice s.A1 s.x.dyn.needed.length s.c1, .string s.x.dyn.soname, .string s.x.dyn.run, .slice s.A2 s.x.dyn.syms.length s.c2, .slice s.A3 s.x.dyn.relas.length s.c3, .int .i64 s.x.apart] 31)).alloc (.cells #[.slice none 0 0, .slice none 0 0, .slice none 0 0, .slice none 0 0, .slice none 0 0, .slice none 0 0, .int .u64 0, .int .u64 0] 96)) ((((w.alloc (.cells #[.int .u16 (s.x.type : Nat), .int .u64 (s.x.entry : Nat), .string s.x.interp, .slice s.At s.x.text.length s.ct, .slice s.Ad s.x.data.length s.cd, .int .u64 (s.x.more : Nat), .bool s.x.dynamic, .slice s.A1 s.x.dyn.needed.length s.c1, .string s.x.dyn.soname, .string s.x.dyn.run, .slice s.A2 s.x.dyn.syms.length s.c2, .slice s.A3 s.x.dyn.relas.length s.c3, .int .i64 s.x.apart] 31)).alloc (.cells #[.slice none 0 0, .slice none 0 0, .slice none 0 0, .slice none 0 0, .slice none 0 0, .slice none 0 0, .int .u64 0, .int .u64 0] 96)).alloc (.cells #[.int .u8 0] 5)).alloc (.cells #[.slice none 0 0, .slice none 0 0, .slice none 0 0, .slice none 0 0, .slice (some ⟨w.heap.size + 1 + 1, 0, none⟩) 1 1, .slice none 0 0, .int .u64 0, .int .u64 0] 96)) := ((Below.refl _ _).alloc (by simp) _).alloc (by simp) _
  have hb0 : Below w.heap.size w ((w.alloc (.cells #[.int .u16 (s.x.type : Nat), .int .u64 (s.x.entry : Nat), .string s.x.interp, .slice s.At s.x.text.length s.ct, .slice s.Ad s.x.data.length s.cd, .int .u64 (s.x.more : Nat), .bool s.x.dynamic, .slice s.A1 s.x.dyn.needed.length s.c1, .string s.x.dyn.soname, .string s.x.dyn.run, .slice s.A2 s.x.dyn.syms.length s.c2, .slice s.A3 s.x.dyn.relas.length s.c3, .int .i64 s.x.apart] 31)).alloc (.cells #[.slice none 0 0, .slice none 0 0, .slice none 0 0, .slice none 0 0, .slice none 0 0, .slice none 0 0, .int .u64 0, .int .u64 0] 96)) := hb1.alloc (by simp) _
  have hbx := (Blk.new w 31 s.l).alloc (.cells #[.slice none 0 0, .slice none 0 0, .slice none 0 0, .slice none 0 0, .slice none 0 0, .slice none 0 0, .int .u64 0, .int .u64 0] 96)
  have hbr : Blk ((w.alloc (.cells #[.int .u16 (s.x.type : Nat), .int .u64 (s.x.entry : Nat), .string s.x.interp, .slice s.At s.x.text.length s.ct, .slice s.Ad s.x.data.length s.cd, .int .u64 (s.x.more : Nat), .bool s.x.dynamic, .slice s.A1 s.x.dyn.needed.length s.c1, .string s.x.dyn.soname, .string s.x.dyn.run, .slice s.A2 s.x.dyn.syms.length s.c2, .slice s.A3 s.x.dyn.relas.length s.c3, .int .i64 s.x.apart] 31)).alloc (.cells #[.slice none 0 0, .slice none 0 0, .slice none 0 0, .slice none 0 0, .slice none 0 0, .slice none 0 0, .int .u64 0, .int .u64 0] 96)) (w.heap.size + 1) 96 [.slice none 0 0, .slice none 0 0, .slice none 0 0, .slice none 0 0, .slice none 0 0, .slice none 0 0, .int .u64 0, .int .u64 0] := by
    have h := Blk.new (w.alloc (.cells #[.int .u16 (s.x.type : Nat), .int .u64 (s.x.entry : Nat), .string s.x.interp, .slice s.At s.x.text.length s.ct, .slice s.Ad s.x.data.length s.cd, .int .u64 (s.x.more : Nat), .bool s.x.dynamic, .slice s.A1 s.x.dyn.needed.length s.c1, .string s.x.dyn.soname, .string s.x.dyn.run, .slice s.A2 s.x.dyn.syms.length s.c2, .slice s.A3 s.x.dyn.relas.length s.c3, .int .i64 s.x.apart] 31)) 96 [.slice none 0 0, .slice none 0 0, .slice none 0 0, .slice none 0 0, .slice none 0 0, .slice none 0 0, .int .u64 0, .int .u64 0]
    rw [show (w.alloc (.cells #[.int .u16 (s.x.type : Nat), .int .u64 (s.x.entry : Nat), .string s.x.interp, .slice s.At s.x.text.length s.ct, .slice s.Ad s.x.data.length s.cd, .int .u64 (s.x.more : Nat), .bool s.x.dynamic, .slice s.A1 s.x.dyn.needed.length s.c1, .string s.x.dyn.soname, .string s.x.dyn.run, .slice s.A2 s.x.dyn.syms.length s.c2, .slice s.A3 s.x.dyn.relas.length s.c3, .int .i64 s.x.apart] 31)).heap.size = w.heap.size + 1 by simp] at h
    exact h
  have hbt : Blk ((((w.alloc (.cells #[.int .u16 (s.x.type : Nat), .int .u64 (s.x.entry : Nat), .string s.x.interp, .slice s.At s.x.text.length s.ct, .slice s.Ad s.x.data.length s.cd, .int .u64 (s.x.more : Nat), .bool s.x.dynamic, .slice s.A1 s.x.dyn.needed.length s.c1, .string s.x.dyn.soname, .string s.x.dyn.run, .slice s.A2 s.x.dyn.syms.length s.c2, .slice s.A3 s.x.dyn.relas.length s.c3, .int .i64 s.x.apart] 31)).alloc (.cells #[.slice none 0 0, .slice none 0 0, .slice none 0 0, .slice none 0 0, .slice none 0 0, .slice none 0 0, .int .u64 0, .int .u64 0] 96)).alloc (.cells #[.int .u8 0] 5)).alloc (.cells #[.slice none 0 0, .slice none 0 0, .slice none 0 0, .slice none 0 0, .slice (some ⟨w.heap.size + 1 + 1, 0, none⟩) 1 1, .slice none 0 0, .int .u64 0, .int .u64 0] 96)) (w.heap.size + 1 + 1 + 1) 96 [.slice none 0 0, .slice none 0 0, .slice none 0 0, .slice none 0 0, .slice (some ⟨w.heap.size + 1 + 1, 0, none⟩) 1 1, .slice none 0 0, .int .u64 0, .int .u64 0] := by
    have h := Blk.new (((w.alloc (.cells #[.int .u16 (s.x.type : Nat), .int .u64 (s.x.entry : Nat), .string s.x.interp, .slice s.At s.x.text.length s.ct, .slice s.Ad s.x.data.length s.cd, .int .u64 (s.x.more : Nat), .bool s.x.dynamic, .slice s.A1 s.x.dyn.needed.length s.c1, .string s.x.dyn.soname, .string s.x.dyn.run, .slice s.A2 s.x.dyn.syms.length s.c2, .slice s.A3 s.x.dyn.relas.length s.c3, .int .i64 s.x.apart] 31)).alloc (.cells #[.slice none 0 0, .slice none 0 0, .slice none 0 0, .slice none 0 0, .slice none 0 0, .slice none 0 0, .int .u64 0, .int .u64 0] 96)).alloc (.cells #[.int .u8 0] 5)) 96 [.slice none 0 0, .slice none 0 0, .slice none 0 0, .slice none 0 0, .slice (some ⟨w.heap.size + 1 + 1, 0, none⟩) 1 1, .slice none 0 0, .int .u64 0, .int .u64 0]
    rw [show (((w.alloc (.cells #[.int .u16 (s.x.type : Nat), .int .u64 (s.x.entry : Nat), .string s.x.interp, .slice s.At s.x.text.length s.ct, .slice s.Ad s.x.data.length s.cd, .int .u64 (s.x.more : Nat), .bool s.x.dynamic, .slice s.A1 s.x.dyn.needed.length s.c1, .string s.x.dyn.soname, .string s.x.dyn.run, .slice s.A2 s.x.dyn.syms.length s.c2, .slice s.A3 s.x.dyn.relas.length s.c3, .int .i64 s.x.apart] 31)).alloc (.cells #[.slice none 0 0, .slice none 0 0, .slice none 0 0, .slice none 0 0, .slice none 0 0, .slice none 0 0, .int .u64 0, .int .u64 0] 96)).alloc (.cells #[.int .u8 0] 5)).heap.size = w.heap.size + 1 + 1 + 1 by simp] at h
    exact h
  have hrt : ((((w.alloc (.cells #[.int .u16 (s.x.type : Nat), .int .u64 (s.x.entry : Nat), .string s.x.interp, .slice s.At s.x.text.length s.ct, .slice s.Ad s.x.data.length s.cd, .int .u64 (s.x.more : Nat), .bool s.x.dynamic, .slice s.A1 s.x.dyn.needed.length s.c1, .string s.x.dyn.soname, .string s.x.dyn.run, .slice s.A2 s.x.dyn.syms.length s.c2, .slice s.A3 s.x.dyn.relas.length s.c3, .int .i64 s.x.apart] 31)).alloc (.cells #[.slice none 0 0, .slice none 0 0, .slice none 0 0, .slice none 0 0, .slice none 0 0, .slice none 0 0, .int .u64 0, .int .u64 0] 96)).alloc (.cells #[.int .u8 0] 5)).alloc (.cells #[.slice none 0 0, .slice none 0 0, .slice none 0 0, .slice none 0 0, .slice (some ⟨w.heap.size + 1 + 1, 0, none⟩) 1 1, .slice none 0 0, .int .u64 0, .int .u64 0] 96)).ownsRow (w.heap.size + 1 + 1) 5 1 (.slice (some ⟨w.heap.size + 1 + 1, 0, none⟩) 1 1) 1 (bys [0]) := by
    have h := (Blk.new ((w.alloc (.cells #[.int .u16 (s.x.type : Nat), .int .u64 (s.x.entry : Nat), .string s.x.interp, .slice s.At s.x.text.length s.ct, .slice s.Ad s.x.data.length s.cd, .int .u64 (s.x.more : Nat), .bool s.x.dynamic, .slice s.A1 s.x.dyn.needed.length s.c1, .string s.x.dyn.soname, .string s.x.dyn.run, .slice s.A2 s.x.dyn.syms.length s.c2, .slice s.A3 s.x.dyn.relas.length s.c3, .int .i64 s.x.apart] 31)).alloc (.cells #[.slice none 0 0, .slice none 0 0, .slice none 0 0, .slice none 0 0, .slice none 0 0, .slice none 0 0, .int .u64 0, .int .u64 0] 96)) 5 [.int .u8 0]).alloc (.cells #[.slice none 0 0, .slice none 0 0, .slice none 0 0, .slice none 0 0, .slice (some ⟨w.heap.size + 1 + 1, 0, none⟩) 1 1, .slice none 0 0, .int .u64 0, .int .u64 0] 96)
    rw [show ((w.alloc (.cells #[.int .u16 (s.x.type : Nat), .int .u64 (s.x.entry : Nat), .string s.x.interp, .slice s.At s.x.text.length s.ct, .slice s.Ad s.x.data.length s.cd, .int .u64 (s.x.more : Nat), .bool s.x.dynamic, .slice s.A1 s.x.dyn.needed.length s.c1, .string s.x.dyn.soname, .string s.x.dyn.run, .slice s.A2 s.x.dyn.syms.length s.c2, .slice s.A3 s.x.dyn.relas.length s.c3, .int .i64 s.x.apart] 31)).alloc (.cells #[.slice none 0 0, .slice none 0 0, .slice none 0 0, .slice none 0 0, .slice none 0 0, .slice none 0 0, .int .u64 0, .int .u64 0] 96)).heap.size = w.heap.size + 1 + 1 by simp] at h
    exact ⟨rfl, .inr ⟨_, 1, _, rfl, Nat.le_refl _, h, by omega, by unfold maxLen; omega, rfl, rfl⟩⟩
  have hT0 : TbM ((w.alloc (.cells #[.int .u16 (s.x.type : Nat), .int .u64 (s.x.entry : Nat), .string s.x.interp, .slice s.At s.x.text.length s.ct, .slice s.Ad s.x.data.length s.cd, .int .u64 (s.x.more : Nat), .bool s.x.dynamic, .slice s.A1 s.x.dyn.needed.length s.c1, .string s.x.dyn.soname, .string s.x.dyn.run, .slice s.A2 s.x.dyn.syms.length s.c2, .slice s.A3 s.x.dyn.relas.length s.c3, .int .i64 s.x.apart] 31)).alloc (.cells #[.slice none 0 0, .slice none 0 0, .slice none 0 0, .slice none 0 0, .slice none 0 0, .slice none 0 0, .int .u64 0, .int .u64 0] 96)) ((((w.alloc (.cells #[.int .u16 (s.x.type : Nat), .int .u64 (s.x.entry : Nat), .string s.x.interp, .slice s.At s.x.text.length s.ct, .slice s.Ad s.x.data.length s.cd, .int .u64 (s.x.more : Nat), .bool s.x.dynamic, .slice s.A1 s.x.dyn.needed.length s.c1, .string s.x.dyn.soname, .string s.x.dyn.run, .slice s.A2 s.x.dyn.syms.length s.c2, .slice s.A3 s.x.dyn.relas.length s.c3, .int .i64 s.x.apart] 31)).alloc (.cells #[.slice none 0 0, .slice none 0 0, .slice none 0 0, .slice none 0 0, .slice none 0 0, .slice none 0 0, .int .u64 0, .int .u64 0] 96)).alloc (.cells #[.int .u8 0] 5)).alloc (.cells #[.slice none 0 0, .slice none 0 0, .slice none 0 0, .slice none 0 0, .slice (some ⟨w.heap.size + 1 + 1, 0, none⟩) 1 1, .slice none 0 0, .int .u64 0, .int .u64 0] 96)) (w.heap.size + 1 + 1) (w.heap.size + 1 + 1 + 1) ⟨none, 0, 0, none, 0, 0, none, 0, 0, none, 0, 0, some ⟨w.heap.size + 1 + 1, 0, none⟩, 1, 1, none, 0, 0, 0, 0⟩ [0] [] :=
    ⟨hbt, hrt, World.ownsRow_nil _ _ _ _, (by simp [bk]), (by simp [bk]), (fun k hk => by simp [bk] at hk), hbS, by omega, by simp⟩
  have hxm : XqM ((w.alloc (.cells #[.int .u16 (s.x.type : Nat), .int .u64 (s.x.entry : Nat), .string s.x.interp, .slice s.At s.x.text.length s.ct, .slice s.Ad s.x.data.length s.cd, .int .u64 (s.x.more : Nat), .bool s.x.dynamic, .slice s.A1 s.x.dyn.needed.length s.c1, .string s.x.dyn.soname, .string s.x.dyn.run, .slice s.A2 s.x.dyn.syms.length s.c2, .slice s.A3 s.x.dyn.relas.length s.c3, .int .i64 s.x.apart] 31)).alloc (.cells #[.slice none 0 0, .slice none 0 0, .slice none 0 0, .slice none 0 0, .slice none 0 0, .slice none 0 0, .int .u64 0, .int .u64 0] 96)) B s := h.below (hb0.mono hB)
  have Hx : Hid (∀ W, Below (w.heap.size + 1 + 1) ((w.alloc (.cells #[.int .u16 (s.x.type : Nat), .int .u64 (s.x.entry : Nat), .string s.x.interp, .slice s.At s.x.text.length s.ct, .slice s.Ad s.x.data.length s.cd, .int .u64 (s.x.more : Nat), .bool s.x.dynamic, .slice s.A1 s.x.dyn.needed.length s.c1, .string s.x.dyn.soname, .string s.x.dyn.run, .slice s.A2 s.x.dyn.syms.length s.c2, .slice s.A3 s.x.dyn.relas.length s.c3, .int .i64 s.x.apart] 31)).alloc (.cells #[.slice none 0 0, .slice none 0 0, .slice none 0 0, .slice none 0 0, .slice none 0 0, .slice none 0 0, .int .u64 0, .int .u64 0] 96)) W → Blk W w.heap.size 31 s.l ∧ Blk W (w.heap.size + 1) 96 [.slice none 0 0, .slice none 0 0, .slice none 0 0, .slice none 0 0, .slice none 0 0, .slice none 0 0, .int .u64 0, .int .u64 0] ∧ XqM W B s) := hide (fun W hW => ⟨hbx.below hW (by omega), hbr.below hW (by omega), hxm.below (hW.mono (by omega))⟩)
  have Hb0 := hide hb0
  have HT0 := hide hT0
  have HS0z := hide (show ((w.alloc (.cells #[.int .u16 (s.x.type : Nat), .int .u64 (s.x.entry : Nat), .string s.x.interp, .slice s.At s.x.text.length s.ct, .slice s.Ad s.x.data.length s.cd, .int .u64 (s.x.more : Nat), .bool s.x.dynamic, .slice s.A1 s.x.dyn.needed.length s.c1, .string s.x.dyn.soname, .string s.x.dyn.run, .slice s.A2 s.x.dyn.syms.length s.c2, .slice s.A3 s.x.dyn.relas.length s.c3, .int .i64 s.x.apart] 31)).alloc (.cells #[.slice none 0 0, .slice none 0 0, .slice none 0 0, .slice none 0 0, .slice none 0 0, .slice none 0 0, .int .u64 0, .int .u64 0] 96)).heap.size = w.heap.size + 1 + 1 by simp)
  have n1 := hf.n1
  have n2 := hf.n2
  have n3 := hf.n3
  have Hn1 : Hid (s.x.dyn.needed.length ≤ 8) := hide n1
  have Hf := hide hf
  have Ho := hide ho
  show Calls _ _ #[.agg #[.int .u16 (s.x.type : Nat), .int .u64 (s.x.entry : Nat), .string s.x.interp, .slice s.At s.x.text.length s.ct, .slice s.Ad s.x.data.length s.cd, .int .u64 (s.x.more : Nat), .bool s.x.dynamic, .slice s.A1 s.x.dyn.needed.length s.c1, .string s.x.dyn.soname, .string s.x.dyn.run, .slice s.A2 s.x.dyn.syms.length s.c2, .slice s.A3 s.x.dyn.relas.length s.c3, .int .i64 s.x.apart]] w _
  clear hb1 hbS hb0 hbx hbr hbt hrt hT0 hxm hf ho h
  go_enter Tryz.func37, Tryz.ntmps37
  go_wp2_with fail
  generalize ((((w.alloc (.cells #[.int .u16 (s.x.type : Nat), .int .u64 (s.x.entry : Nat), .string s.x.interp, .slice s.At s.x.text.length s.ct, .slice s.Ad s.x.data.length s.cd, .int .u64 (s.x.more : Nat), .bool s.x.dynamic, .slice s.A1 s.x.dyn.needed.length s.c1, .string s.x.dyn.soname, .string s.x.dyn.run, .slice s.A2 s.x.dyn.syms.length s.c2, .slice s.A3 s.x.dyn.relas.length s.c3, .int .i64 s.x.apart] 31)).alloc (.cells #[.slice none 0 0, .slice none 0 0, .slice none 0 0, .slice none 0 0, .slice none 0 0, .slice none 0 0, .int .u64 0, .int .u64 0] 96)).alloc (.cells #[.int .u8 0] 5)).alloc (.cells #[.slice none 0 0, .slice none 0 0, .slice none 0 0, .slice none 0 0, .slice (some ⟨w.heap.size + 1 + 1, 0, none⟩) 1 1, .slice none 0 0, .int .u64 0, .int .u64 0] 96)) = W1 at *
  generalize ((w.alloc (.cells #[.int .u16 (s.x.type : Nat), .int .u64 (s.x.entry : Nat), .string s.x.interp, .slice s.At s.x.text.length s.ct, .slice s.Ad s.x.data.length s.cd, .int .u64 (s.x.more : Nat), .bool s.x.dynamic, .slice s.A1 s.x.dyn.needed.length s.c1, .string s.x.dyn.soname, .string s.x.dyn.run, .slice s.A2 s.x.dyn.syms.length s.c2, .slice s.A3 s.x.dyn.relas.length s.c3, .int .i64 s.x.apart] 31)).alloc (.cells #[.slice none 0 0, .slice none 0 0, .slice none 0 0, .slice none 0 0, .slice none 0 0, .slice none 0 0, .int .u64 0, .int .u64 0] 96)) = W0 at *
  go_loopg [4] s.x.dyn.needed.length (fun gk iv wr => ∃ (i : Nat) (q : Tb), gk = s.x.dyn.needed.length - i ∧ i ≤ s.x.dyn.needed.length ∧ iv = .int .i64 i ∧ TbM W0 wr (w.heap.size + 1 + 1) (w.heap.size + 1 + 1 + 1) q (Mk.puts [0] (s.x.dyn.needed.take i)) (Mk.places [0] (s.x.dyn.needed.take i)) ∧ (q.Ah = none ∧ q.nh = 0 ∧ q.ch = 0) ∧ (q.As = none ∧ q.ns = 0 ∧ q.cs = 0))
  case atStart => exact ⟨0, _, by omega, by omega, rfl, by simpa [Mk.puts, Mk.places] using unhide HT0, ⟨rfl, rfl, rfl⟩, ⟨rfl, rfl, rfl⟩⟩
  case round =>
  clear HT0
  obtain ⟨i, q, hgk, hi, rfl, hT, hz1, hz2⟩ := hrel
  have Hgk := hide hgk
  have Hz1 := hide hz1
  have Hz2 := hide hz2
  have y7 := ((unhide Hx) wr hT.bel).1.cell (i := 7) (u := .slice s.A1 s.x.dyn.needed.length s.c1) rfl
  have i7 : s.x.dyn.needed.length ≤ 8 := unhide Hn1
  have hnn : q.nn = i := by
    have h := hT.needed.1
    simp [u64s, places_len] at h
    omega
  have hsz := hT.sz
  have hnq : q.nn ≤ 8 := by omega
  have HT := hide hT
  clear hgk hz1 hz2 hT hnn
  by_cases hlt : i < s.x.dyn.needed.length
  case neg =>
    obtain rfl : i = s.x.dyn.needed.length := by omega
    have HTe := HT
    have hT := unhide HTe
    rw [List.take_length] at hT
    have HT1 := hide hT
    clear hT HTe HT hnq y7
    obtain ⟨a0, a1, a2, a3, a4, a5, a6, a7, a8, a9, a10, a11, a12⟩ := spec_cells ((unhide Hx) wr (unhide HT1).bel).1
    have hxl1 : (Mk.texts0 s.x.dyn).length ≤ 34359738377 := by
      have h2 := puts_le (t := [0]) (l := s.x.dyn.needed) (fun x hx => (unhide Ho).dyn.s1 x hx)
      have h4 : s.x.dyn.needed.length * 4294967297 ≤ 8 * 4294967297 := Nat.mul_le_mul_right _ i7
      have h5 : Mk.texts0 s.x.dyn = Mk.puts [0] s.x.dyn.needed := rfl
      rw [h5]
      simp at h2
      omega
    have hso := (unhide Ho).dyn.s3
    have hru := (unhide Ho).dyn.s4
    have hso' : s.x.dyn.soname.size ≤ 4294967296 := hso
    have hru' : s.x.dyn.run.size ≤ 4294967296 := hru
    have hT1 : TbM W0 wr (w.heap.size + 1 + 1) (w.heap.size + 1 + 1 + 1) q (Mk.texts0 s.x.dyn) (Mk.places [0] s.x.dyn.needed) := unhide HT1
    have hl1 := hT1.fi.len
    have KP1 := hide (rtput_any _ _ _ _ _ _ _ _ _ s.x.dyn.soname wr hT1.fi hT1.sz (by omega) hso')
    have HT1' := hide hT1
    clear hT1 HT1 hso hru
    go_wp2_with fail
    refine (unhide KP1).mono ?_
    rintro e w5 ⟨At5, nt5, ct5, rfl, hE5⟩
    have hT2 := (unhide HT1').put hE5
    have hpl5 := put_le (t := Mk.texts0 s.x.dyn) hso'
    have hT3 := hT2.set (q' := { q with At := At5, nt := nt5, ct := ct5, so := Mk.place (Mk.texts0 s.x.dyn) s.x.dyn.soname }) (i := 6) (v := .int .u64 (Mk.place (Mk.texts0 s.x.dyn) s.x.dyn.soname : Nat)) rfl rfl rfl rfl rfl rfl rfl
    have z6 := hT2.blk.cell (i := 6) rfl
    have f6 := hT2.blk.free 6
    have c9 := ((unhide Hx) _ hT3.bel).1.cell (i := 9) (u := .string s.x.dyn.run) rfl
    have hl3 := hT3.fi.len
    have hlp : (Mk.put (Mk.texts0 s.x.dyn) s.x.dyn.soname).length ≤ 38654705674 := by omega
    have KP2 := hide (rtput_any _ _ _ _ _ _ _ _ _ s.x.dyn.run _ hT3.fi hT3.sz (by omega) hru')
    have HT3 := hide hT3
    have hlx : (Mk.put (Mk.put (Mk.texts0 s.x.dyn) s.x.dyn.soname) s.x.dyn.run).length ≤ 42949672971 := by have := put_le (t := Mk.put (Mk.texts0 s.x.dyn) s.x.dyn.soname) hru'; omega
    clear hE5 hT2 hT3 hl1 hl3 KP1 HT1' hpl5 hlp hxl1 a0 a1 a2 a3 a4 a5 a6 a7 a8 a9 a10 a11 a12
    obtain ⟨p1, hp1⟩ : ∃ p1, Mk.place (Mk.texts0 s.x.dyn) s.x.dyn.soname = p1 := ⟨_, rfl⟩
    rw [hp1] at HT3 KP2 c9
    have Hp1 := hide hp1
    rw [hp1]
    clear hp1
    go_wp2_with fail
    refine (unhide KP2).mono ?_
    rintro e w6 ⟨At6, nt6, ct6, rfl, hE6⟩
    have hT4 := (unhide HT3).put hE6
    have hT5 := hT4.set (q' := { q with At := At6, nt := nt6, ct := ct6, so := p1, ru := Mk.place (Mk.put (Mk.texts0 s.x.dyn) s.x.dyn.soname) s.x.dyn.run }) (i := 7) (v := .int .u64 (Mk.place (Mk.put (Mk.texts0 s.x.dyn) s.x.dyn.soname) s.x.dyn.run : Nat)) rfl rfl rfl rfl rfl rfl rfl
    have z7 := hT4.blk.cell (i := 7) rfl
    have f7 := hT4.blk.free 7
    have hru2 : Mk.place (Mk.put (Mk.texts0 s.x.dyn) s.x.dyn.soname) s.x.dyn.run = Mk.place (Mk.texts1 s.x.dyn) s.x.dyn.run := rfl
    have htx2 : Mk.put (Mk.put (Mk.texts0 s.x.dyn) s.x.dyn.soname) s.x.dyn.run = Mk.texts2 s.x.dyn := rfl
    rw [htx2] at hT5 hlx
    obtain ⟨p2, hp2⟩ : ∃ p2, Mk.place (Mk.put (Mk.texts0 s.x.dyn) s.x.dyn.soname) s.x.dyn.run = p2 := ⟨_, rfl⟩
    rw [hp2] at hT5
    have Hp2 := hide (hru2.symm.trans hp2)
    have hsp := spec_cells ((unhide Hx) _ hT5.bel).1
    rw [hp2]
    have HT5 := hide hT5
    have Hsp := hide hsp
    clear hE6 hT4 hT5 KP2 HT3 z6 f6 c9 hru2 htx2 hp2 hsp
    have hxq := (unhide Hx) _ (unhide HT5).bel
    have Hxq := hide hxq.2.2
    have hla : (s.x.dyn.relas.length : Int) - s.x.apart = ((Mk.last s.x : Nat) : Int) := by unfold Mk.last; omega
    have hll : Mk.last s.x ≤ s.x.dyn.relas.length := by unfold Mk.last; omega
    have n3' : s.x.dyn.relas.length ≤ 64 := n3
    have hc3 : s.x.dyn.relas.length ≤ s.c3 := (unhide Ho).dyn.c3
    have kt : ∀ w', (Instr.slice 27 (.slice s.A3 s.x.dyn.relas.length s.c3) none (some (.int .i64 ((s.x.dyn.relas.length : Int) - s.x.apart))) none).run Tryz.prog w' = .ok (.slice s.A3 (Mk.last s.x) s.c3) w' := fun w' => by rw [hla]; exact run_toZ Tryz.underlying27 mkreInfo s.A3 _ s.c3 _ (by omega) w'
    have kf : ∀ w', (Instr.slice 27 (.slice s.A3 s.x.dyn.relas.length s.c3) (some (.int .i64 ((s.x.dyn.relas.length : Int) - s.x.apart))) none none).run Tryz.prog w' = .ok (.slice (fromZ 4 s.A3 s.c3 (Mk.last s.x)) (s.x.dyn.relas.length - Mk.last s.x) (s.c3 - Mk.last s.x)) w' := fun w' => by rw [hla]; exact run_fromZ Tryz.underlying27 mkreInfo s.A3 _ s.c3 _ hll w'
    have Hre : Hid (∀ r ∈ s.x.dyn.relas, MrOk r) := hide (unhide Hf).re
    clear hla hxq
    by_cases hsy : s.x.dyn.syms.length = 0
    · obtain ⟨m, hmm⟩ : ∃ m, s.x.dyn.syms.length = m := ⟨_, rfl⟩
      have c10 := (unhide Hsp).2.2.2.2.2.2.2.2.2.2.1
      rw [hmm] at c10 hsy
      have hs0 : ¬ (0 : Int) < (m : Int) := by omega
      have hnil : s.x.dyn.syms = [] := List.eq_nil_of_length_eq_zero (by omega)
      have ht3 : Mk.texts3 s.x.dyn = Mk.texts2 s.x.dyn := by unfold Mk.texts3 Mk.names; rw [hnil]; rfl
      have hT := unhide HT5
      rw [← ht3] at hT
      have HTV := hide hT
      have hRh := World.ownsRow_nil (w6.setCell ⟨w.heap.size + 1 + 1 + 1, 7, none⟩ (.int .u64 (p2 : Nat))) (w.heap.size + 1 + 1) 5 1
      have HRh : Hid ((w6.setCell ⟨w.heap.size + 1 + 1 + 1, 7, none⟩ (.int .u64 (p2 : Nat))).ownsRow (w.heap.size + 1 + 1) 5 1 (.slice q.Ah q.nh q.ch) q.nh (bys (hashP s.x.dyn)) ∧ bk q.Ah ≠ some (w.heap.size + 1 + 1 + 1)) := hide (by
        obtain ⟨e1, e2, e3⟩ := unhide Hz1
        rw [e1, e2, e3]
        unfold hashP
        rw [if_pos (by omega)]
        exact ⟨hRh, by simp [bk]⟩)
      have HRs : Hid ((w6.setCell ⟨w.heap.size + 1 + 1 + 1, 7, none⟩ (.int .u64 (p2 : Nat))).ownsRow (w.heap.size + 1 + 1) 5 1 (.slice q.As q.ns q.cs) q.ns (bys (symsP s.x.dyn)) ∧ bk q.As ≠ some (w.heap.size + 1 + 1 + 1)) := hide (by
        obtain ⟨e1, e2, e3⟩ := unhide Hz2
        rw [e1, e2, e3]
        unfold symsP
        rw [if_pos (by omega)]
        exact ⟨hRh, by simp [bk]⟩)
      have Hsy := hide hsy
      clear hsy hmm hnil ht3 hT hRh HT5
      have hsV := spec_cells ((unhide Hx) _ (unhide HTV).bel).1
      have d11 := hsV.2.2.2.2.2.2.2.2.2.2.2.1
      have d12 := hsV.2.2.2.2.2.2.2.2.2.2.2.2
      have hgV := (unhide HTV).blk.lt
      have hxV := ((unhide Hx) _ (unhide HTV).bel).2.2.dyn.relas
      have KR1 := hide (rrelas_any' s.A3 (Mk.last s.x) s.c3 B (s.x.dyn.relas.take (Mk.last s.x)) (w6.setCell ⟨w.heap.size + 1 + 1 + 1, 7, none⟩ (.int .u64 (p2 : Nat))) (by have := (unhide HTV).sz; omega) (by have h9 := Rd.toZ hxV hll; unfold mrC at h9 ⊢; rw [(flat_take mrV 4 (fun _ => rfl) _ _).1] at h9; exact h9) (by rw [List.length_take]; omega) (by omega) (fun r hr => (unhide Hre) r (List.mem_of_mem_take hr)))
      have HT9 := HTV
      clear hsV hxV
      go_wp2_with fail
      refine (unhide KR1).mono ?_
      rintro e v1 ⟨A1o, c1o, rfl, ho1, hb1⟩
      have hU1 := (unhide HT9).below hb1
      have hU2 := hU1.set (q' := { q with At := At6, nt := nt6, ct := ct6, so := p1, ru := p2, Ao := A1o, no := 24 * Mk.last s.x, co := c1o }) (i := 2) (v := .slice A1o (24 * Mk.last s.x) c1o) rfl rfl rfl rfl rfl rfl rfl
      have e2 := hU1.blk.cell (i := 2) rfl
      have g2 := hU1.blk.free 2
      have hA1 : bk A1o ≠ some (w.heap.size + 1 + 1 + 1) := fun e => by have := (own_bklt ho1 _ e).1; omega
      have hro := own_base (own_setG ho1 (p := ⟨w.heap.size + 1 + 1 + 1, 2, none⟩) hA1 (.slice A1o (24 * Mk.last s.x) c1o)) (unhide HT9).sz
      have hrh := own_setG (own_below (unhide HRh).1 hb1) (p := ⟨w.heap.size + 1 + 1 + 1, 2, none⟩) (unhide HRh).2 (.slice A1o (24 * Mk.last s.x) c1o)
      have hrs := own_setG (own_below (unhide HRs).1 hb1) (p := ⟨w.heap.size + 1 + 1 + 1, 2, none⟩) (unhide HRs).2 (.slice A1o (24 * Mk.last s.x) c1o)
      have hsV := spec_cells ((unhide Hx) _ hU2.bel).1
      have d21 := hsV.2.2.2.2.2.2.2.2.2.2.2.1
      have hgU := hU2.blk.lt
      have hxV := ((unhide Hx) _ hU2.bel).2.2.dyn.relas
      have KR2 := hide (rrelas_any' (fromZ 4 s.A3 s.c3 (Mk.last s.x)) (s.x.dyn.relas.length - Mk.last s.x) (s.c3 - Mk.last s.x) B (s.x.dyn.relas.drop (Mk.last s.x)) (v1.setCell ⟨w.heap.size + 1 + 1 + 1, 2, none⟩ (.slice A1o (24 * Mk.last s.x) c1o)) (by have := hU2.sz; omega) (by have h9 := Rd.fromZ hxV (by omega) hll hc3; unfold mrC at h9 ⊢; rw [(flat_take mrV 4 (fun _ => rfl) _ _).2] at h9; exact h9) (by rw [List.length_drop]) (by omega) (fun r hr => (unhide Hre) r (List.mem_of_mem_drop hr)))
      have HU2 := hide hU2
      have Hro := hide hro
      have Hrh := hide hrh
      have Hrs2 := hide hrs
      clear hU1 hU2 hro hrh hrs hsV hxV ho1 hb1 KR1 d11 d12
      go_wp2_with fail
      refine (unhide KR2).mono ?_
      rintro e v2 ⟨A2o, c2o, rfl, ho2, hb2⟩
      have hU3 := (unhide HU2).below hb2
      have hU4 := hU3.set (q' := { q with At := At6, nt := nt6, ct := ct6, so := p1, ru := p2, Ao := A1o, no := 24 * Mk.last s.x, co := c1o, Aw := A2o, nw := 24 * (s.x.dyn.relas.length - Mk.last s.x), cw := c2o }) (i := 3) (v := .slice A2o (24 * (s.x.dyn.relas.length - Mk.last s.x)) c2o) rfl rfl rfl rfl rfl rfl rfl
      have e3 := hU3.blk.cell (i := 3) rfl
      have g3 := hU3.blk.free 3
      have hA2 : bk A2o ≠ some (w.heap.size + 1 + 1 + 1) := fun e => by have := (own_bklt ho2 _ e).1; omega
      have hrw := own_base (own_setG ho2 (p := ⟨w.heap.size + 1 + 1 + 1, 3, none⟩) hA2 (.slice A2o (24 * (s.x.dyn.relas.length - Mk.last s.x)) c2o)) (unhide HU2).sz
      have hrh := own_setG (own_below (unhide Hrh) hb2) (p := ⟨w.heap.size + 1 + 1 + 1, 3, none⟩) (unhide HRh).2 (.slice A2o (24 * (s.x.dyn.relas.length - Mk.last s.x)) c2o)
      have hrs := own_setG (own_below (unhide Hrs2) hb2) (p := ⟨w.heap.size + 1 + 1 + 1, 3, none⟩) (unhide HRs).2 (.slice A2o (24 * (s.x.dyn.relas.length - Mk.last s.x)) c2o)
      have hro := own_setG (own_below (unhide Hro) hb2) (p := ⟨w.heap.size + 1 + 1 + 1, 3, none⟩) hA1 (.slice A2o (24 * (s.x.dyn.relas.length - Mk.last s.x)) c2o)
      have hbk := hU4.blk
      have l0 := hbk.cell (i := 0) rfl
      have l1 := hbk.cell (i := 1) rfl
      have l2 := hbk.cell (i := 2) rfl
      have l3 := hbk.cell (i := 3) rfl
      have l4 := hbk.cell (i := 4) rfl
      have l5 := hbk.cell (i := 5) rfl
      have l6 := hbk.cell (i := 6) rfl
      have l7 := hbk.cell (i := 7) rfl
      have hres := ((unhide Hx) _ hU4.bel).2.1
      have HRes := hide hres
      have HU4 := hide hU4
      have HF1 := hide hrh
      have HF2 := hide hrs
      have HF3 := hide hro
      have HF4 := hide hrw
      clear hU3 hU4 hrh hrs hro hrw hbk hres ho2 hb2 KR2 HU2 Hro Hrh Hrs2 d21
      have HBW := hide ((unhide Hb0).trans ((unhide HU4).bel.mono (by omega : w.heap.size ≤ w.heap.size + 1 + 1)))
      go_wp2_with ((with_reducible refine (@id (wpList _ _ _ (Oper.mk none (Op.store 96 (.tmp 2) (.tmp 77)) _ _ _ none :: _) _ _) ?_)); refine wpList_store_row rfl 96 (.tmp 2) (.tmp 77) rfl (w.heap.size + 1) (Tb.l { q with At := At6, nt := nt6, ct := ct6, so := p1, ru := p2, Ao := A1o, no := 24 * Mk.last s.x, co := c1o, Aw := A2o, nw := 24 * (s.x.dyn.relas.length - Mk.last s.x), cw := c2o }).toArray rfl rfl 96 _ (unhide HRes) tbsInfo rfl (tbsOne _) ?_)
      refine bodyPost_ret (results_cell_row (P := Tryz.prog) rfl _ _ (w.heap.size + 1) 96 (Tb.l { q with At := At6, nt := nt6, ct := ct6, so := p1, ru := p2, Ao := A1o, no := 24 * Mk.last s.x, co := c1o, Aw := A2o, nw := 24 * (s.x.dyn.relas.length - Mk.last s.x), cw := c2o }).toArray (0, 0) _ rfl (setRow_heap _ _ _ _ _ _ (unhide HRes)) Tryz.underlying96 rfl tbsInfo) rfl ?_
      refine ⟨{ q with At := At6, nt := nt6, ct := ct6, so := p1, ru := p2, Ao := A1o, no := 24 * Mk.last s.x, co := c1o, Aw := A2o, nw := 24 * (s.x.dyn.relas.length - Mk.last s.x), cw := c2o }, rfl, ⟨own_base (own_setRowG (unhide HF1) (by omega) _) (by omega), own_base (own_setRowG (unhide HF2) (by omega) _) (by omega), own_base (own_setRowG (unhide HF3) (by omega) _) (by omega), own_base (own_setRowG (unhide HF4) (by omega) _) (by omega), own_base (own_setRowG (unhide HU4).texts (by omega) _) (by omega), own_base (own_setRowG (unhide HU4).needed (by omega) _) (by omega), (unhide Hp1).symm, (unhide Hp2).symm⟩, below_setRowG (unhide HBW) (by omega) _⟩
    · have hs0 : (0 : Int) < (s.x.dyn.syms.length : Int) := by omega
      have a7 := (unhide Hsp).2.2.2.2.2.2.2.1
      have a8 := (unhide Hsp).2.2.2.2.2.2.2.2.1
      have a9 := (unhide Hsp).2.2.2.2.2.2.2.2.2.1
      have a10 := (unhide Hsp).2.2.2.2.2.2.2.2.2.2.1
      have a11 := (unhide Hsp).2.2.2.2.2.2.2.2.2.2.2.1
      have hT5 := unhide HT5
      have hnt := hT5.fi.len
      have KS0 := (rsymbols_any s.q _ _ _ _ _ _ _ _ _ B _ (by have := hT5.sz; omega) (unhide Hxq).dyn (unhide Ho).dyn (unhide Hf).n2 (unhide Hf).sy hT5.fi (by omega) hT5.sz (by omega) (by omega))
      dsimp only [Xq.q] at KS0
      have KS := hide KS0
      clear KS0
      have Hsy := hide hsy
      clear hT5 hnt hsy
      go_wp2_with fail
      refine (unhide KS).mono ?_
      rintro e w7 ⟨A7, c7, At7, nt7, ct7, rfl, ho7, hE7⟩
      have hT6 := (unhide HT5).put hE7
      have hT7 := hT6.set (q' := { q with At := At7, nt := nt7, ct := ct7, so := p1, ru := p2, As := A7, ns := 24 * (s.x.dyn.syms.length + 1), cs := c7 }) (i := 1) (v := .slice A7 (24 * (s.x.dyn.syms.length + 1)) c7) rfl rfl rfl rfl rfl rfl rfl
      have z1 := hT6.blk.cell (i := 1) rfl
      have f1 := hT6.blk.free 1
      have hglt := (unhide HT5).blk.lt
      have hA7 : bk A7 ≠ some (w.heap.size + 1 + 1 + 1) := fun e => by have := (own_bklt ho7 _ e).1; omega
      have hrs := own_base (own_setG ho7 (p := ⟨w.heap.size + 1 + 1 + 1, 1, none⟩) hA7 (.slice A7 (24 * (s.x.dyn.syms.length + 1)) c7)) (unhide HT5).sz
      have hx7 := (unhide Hx) _ hT7.bel
      obtain ⟨-, -, -, -, -, -, -, b7, b8, b9, b10, b11, -⟩ := spec_cells hx7.1
      have KHh := hide (rhashes_any s.q B _ (by have := hT7.sz; omega) hx7.2.2.dyn (unhide Ho).dyn (unhide Hf).n2)
      have HT7 := hide hT7
      have Hrs := hide hrs
      clear hE7 hT6 hT7 hx7 hrs KS a7 a8 a9 a10 a11 HT5 ho7
      go_wp2_with fail
      refine (unhide KHh).mono ?_
      rintro e w8 ⟨A8, n8, c8, rfl, ho8, hb8⟩
      have hT8 := (unhide HT7).below hb8
      have hT9 := hT8.set (q' := { q with At := At7, nt := nt7, ct := ct7, so := p1, ru := p2, As := A7, ns := 24 * (s.x.dyn.syms.length + 1), cs := c7, Ah := A8, nh := n8, ch := c8 }) (i := 0) (v := .slice A8 n8 c8) rfl rfl rfl rfl rfl rfl rfl
      have z2 := hT8.blk.cell (i := 0) rfl
      have f2 := hT8.blk.free 0
      have hgl8 := (unhide HT7).blk.lt
      have hA8 : bk A8 ≠ some (w.heap.size + 1 + 1 + 1) := fun e => by have := (own_bklt ho8 _ e).1; omega
      have hrh := own_base (own_setG ho8 (p := ⟨w.heap.size + 1 + 1 + 1, 0, none⟩) hA8 (.slice A8 n8 c8)) (unhide HT7).sz
      have hrs := own_setG (own_below (unhide Hrs) hb8) (p := ⟨w.heap.size + 1 + 1 + 1, 0, none⟩) hA7 (.slice A8 n8 c8)
      have HTV : Hid (TbM W0 (w8.setCell ⟨w.heap.size + 1 + 1 + 1, 0, none⟩ (.slice A8 n8 c8)) (w.heap.size + 1 + 1) (w.heap.size + 1 + 1 + 1) { q with At := At7, nt := nt7, ct := ct7, so := p1, ru := p2, As := A7, ns := 24 * (s.x.dyn.syms.length + 1), cs := c7, Ah := A8, nh := n8, ch := c8 } (Mk.texts3 s.x.dyn) (Mk.places [0] s.x.dyn.needed)) := hide hT9
      have HRh : Hid ((w8.setCell ⟨w.heap.size + 1 + 1 + 1, 0, none⟩ (.slice A8 n8 c8)).ownsRow (w.heap.size + 1 + 1) 5 1 (.slice A8 n8 c8) n8 (bys (hashP s.x.dyn)) ∧ bk A8 ≠ some (w.heap.size + 1 + 1 + 1)) := hide ⟨by unfold hashP; rw [if_neg (unhide Hsy)]; exact hrh, hA8⟩
      have HRs : Hid ((w8.setCell ⟨w.heap.size + 1 + 1 + 1, 0, none⟩ (.slice A8 n8 c8)).ownsRow (w.heap.size + 1 + 1) 5 1 (.slice A7 (24 * (s.x.dyn.syms.length + 1)) c7) (24 * (s.x.dyn.syms.length + 1)) (bys (symsP s.x.dyn)) ∧ bk A7 ≠ some (w.heap.size + 1 + 1 + 1)) := hide ⟨by unfold symsP; rw [if_neg (unhide Hsy)]; exact hrs, hA7⟩
      clear hT8 hT9 hrh hrs ho8 hb8 KHh HT7 Hrs b7 b8 b9 b10 b11 z1 f1
      have hsV := spec_cells ((unhide Hx) _ (unhide HTV).bel).1
      have d11 := hsV.2.2.2.2.2.2.2.2.2.2.2.1
      have d12 := hsV.2.2.2.2.2.2.2.2.2.2.2.2
      have hgV := (unhide HTV).blk.lt
      have hxV := ((unhide Hx) _ (unhide HTV).bel).2.2.dyn.relas
      have KR1 := hide (rrelas_any' s.A3 (Mk.last s.x) s.c3 B (s.x.dyn.relas.take (Mk.last s.x)) (w8.setCell ⟨w.heap.size + 1 + 1 + 1, 0, none⟩ (.slice A8 n8 c8)) (by have := (unhide HTV).sz; omega) (by have h9 := Rd.toZ hxV hll; unfold mrC at h9 ⊢; rw [(flat_take mrV 4 (fun _ => rfl) _ _).1] at h9; exact h9) (by rw [List.length_take]; omega) (by omega) (fun r hr => (unhide Hre) r (List.mem_of_mem_take hr)))
      have HT9 := HTV
      clear hsV hxV
      go_wp2_with fail
      refine (unhide KR1).mono ?_
      rintro e v1 ⟨A1o, c1o, rfl, ho1, hb1⟩
      have hU1 := (unhide HT9).below hb1
      have hU2 := hU1.set (q' := { q with At := At7, nt := nt7, ct := ct7, so := p1, ru := p2, As := A7, ns := 24 * (s.x.dyn.syms.length + 1), cs := c7, Ah := A8, nh := n8, ch := c8, Ao := A1o, no := 24 * Mk.last s.x, co := c1o }) (i := 2) (v := .slice A1o (24 * Mk.last s.x) c1o) rfl rfl rfl rfl rfl rfl rfl
      have e2 := hU1.blk.cell (i := 2) rfl
      have g2 := hU1.blk.free 2
      have hA1 : bk A1o ≠ some (w.heap.size + 1 + 1 + 1) := fun e => by have := (own_bklt ho1 _ e).1; omega
      have hro := own_base (own_setG ho1 (p := ⟨w.heap.size + 1 + 1 + 1, 2, none⟩) hA1 (.slice A1o (24 * Mk.last s.x) c1o)) (unhide HT9).sz
      have hrh := own_setG (own_below (unhide HRh).1 hb1) (p := ⟨w.heap.size + 1 + 1 + 1, 2, none⟩) (unhide HRh).2 (.slice A1o (24 * Mk.last s.x) c1o)
      have hrs := own_setG (own_below (unhide HRs).1 hb1) (p := ⟨w.heap.size + 1 + 1 + 1, 2, none⟩) (unhide HRs).2 (.slice A1o (24 * Mk.last s.x) c1o)
      have hsV := spec_cells ((unhide Hx) _ hU2.bel).1
      have d21 := hsV.2.2.2.2.2.2.2.2.2.2.2.1
      have hgU := hU2.blk.lt
      have hxV := ((unhide Hx) _ hU2.bel).2.2.dyn.relas
      have KR2 := hide (rrelas_any' (fromZ 4 s.A3 s.c3 (Mk.last s.x)) (s.x.dyn.relas.length - Mk.last s.x) (s.c3 - Mk.last s.x) B (s.x.dyn.relas.drop (Mk.last s.x)) (v1.setCell ⟨w.heap.size + 1 + 1 + 1, 2, none⟩ (.slice A1o (24 * Mk.last s.x) c1o)) (by have := hU2.sz; omega) (by have h9 := Rd.fromZ hxV (by omega) hll hc3; unfold mrC at h9 ⊢; rw [(flat_take mrV 4 (fun _ => rfl) _ _).2] at h9; exact h9) (by rw [List.length_drop]) (by omega) (fun r hr => (unhide Hre) r (List.mem_of_mem_drop hr)))
      have HU2 := hide hU2
      have Hro := hide hro
      have Hrh := hide hrh
      have Hrs2 := hide hrs
      clear hU1 hU2 hro hrh hrs hsV hxV ho1 hb1 KR1 d11 d12
      go_wp2_with fail
      refine (unhide KR2).mono ?_
      rintro e v2 ⟨A2o, c2o, rfl, ho2, hb2⟩
      have hU3 := (unhide HU2).below hb2
      have hU4 := hU3.set (q' := { q with At := At7, nt := nt7, ct := ct7, so := p1, ru := p2, As := A7, ns := 24 * (s.x.dyn.syms.length + 1), cs := c7, Ah := A8, nh := n8, ch := c8, Ao := A1o, no := 24 * Mk.last s.x, co := c1o, Aw := A2o, nw := 24 * (s.x.dyn.relas.length - Mk.last s.x), cw := c2o }) (i := 3) (v := .slice A2o (24 * (s.x.dyn.relas.length - Mk.last s.x)) c2o) rfl rfl rfl rfl rfl rfl rfl
      have e3 := hU3.blk.cell (i := 3) rfl
      have g3 := hU3.blk.free 3
      have hA2 : bk A2o ≠ some (w.heap.size + 1 + 1 + 1) := fun e => by have := (own_bklt ho2 _ e).1; omega
      have hrw := own_base (own_setG ho2 (p := ⟨w.heap.size + 1 + 1 + 1, 3, none⟩) hA2 (.slice A2o (24 * (s.x.dyn.relas.length - Mk.last s.x)) c2o)) (unhide HU2).sz
      have hrh := own_setG (own_below (unhide Hrh) hb2) (p := ⟨w.heap.size + 1 + 1 + 1, 3, none⟩) (unhide HRh).2 (.slice A2o (24 * (s.x.dyn.relas.length - Mk.last s.x)) c2o)
      have hrs := own_setG (own_below (unhide Hrs2) hb2) (p := ⟨w.heap.size + 1 + 1 + 1, 3, none⟩) (unhide HRs).2 (.slice A2o (24 * (s.x.dyn.relas.length - Mk.last s.x)) c2o)
      have hro := own_setG (own_below (unhide Hro) hb2) (p := ⟨w.heap.size + 1 + 1 + 1, 3, none⟩) hA1 (.slice A2o (24 * (s.x.dyn.relas.length - Mk.last s.x)) c2o)
      have hbk := hU4.blk
      have l0 := hbk.cell (i := 0) rfl
      have l1 := hbk.cell (i := 1) rfl
      have l2 := hbk.cell (i := 2) rfl
      have l3 := hbk.cell (i := 3) rfl
      have l4 := hbk.cell (i := 4) rfl
      have l5 := hbk.cell (i := 5) rfl
      have l6 := hbk.cell (i := 6) rfl
      have l7 := hbk.cell (i := 7) rfl
      have hres := ((unhide Hx) _ hU4.bel).2.1
      have HRes := hide hres
      have HU4 := hide hU4
      have HF1 := hide hrh
      have HF2 := hide hrs
      have HF3 := hide hro
      have HF4 := hide hrw
      clear hU3 hU4 hrh hrs hro hrw hbk hres ho2 hb2 KR2 HU2 Hro Hrh Hrs2 d21
      have HBW := hide ((unhide Hb0).trans ((unhide HU4).bel.mono (by omega : w.heap.size ≤ w.heap.size + 1 + 1)))
      go_wp2_with ((with_reducible refine (@id (wpList _ _ _ (Oper.mk none (Op.store 96 (.tmp 2) (.tmp 77)) _ _ _ none :: _) _ _) ?_)); refine wpList_store_row rfl 96 (.tmp 2) (.tmp 77) rfl (w.heap.size + 1) (Tb.l { q with At := At7, nt := nt7, ct := ct7, so := p1, ru := p2, As := A7, ns := 24 * (s.x.dyn.syms.length + 1), cs := c7, Ah := A8, nh := n8, ch := c8, Ao := A1o, no := 24 * Mk.last s.x, co := c1o, Aw := A2o, nw := 24 * (s.x.dyn.relas.length - Mk.last s.x), cw := c2o }).toArray rfl rfl 96 _ (unhide HRes) tbsInfo rfl (tbsOne _) ?_)
      refine bodyPost_ret (results_cell_row (P := Tryz.prog) rfl _ _ (w.heap.size + 1) 96 (Tb.l { q with At := At7, nt := nt7, ct := ct7, so := p1, ru := p2, As := A7, ns := 24 * (s.x.dyn.syms.length + 1), cs := c7, Ah := A8, nh := n8, ch := c8, Ao := A1o, no := 24 * Mk.last s.x, co := c1o, Aw := A2o, nw := 24 * (s.x.dyn.relas.length - Mk.last s.x), cw := c2o }).toArray (0, 0) _ rfl (setRow_heap _ _ _ _ _ _ (unhide HRes)) Tryz.underlying96 rfl tbsInfo) rfl ?_
      refine ⟨{ q with At := At7, nt := nt7, ct := ct7, so := p1, ru := p2, As := A7, ns := 24 * (s.x.dyn.syms.length + 1), cs := c7, Ah := A8, nh := n8, ch := c8, Ao := A1o, no := 24 * Mk.last s.x, co := c1o, Aw := A2o, nw := 24 * (s.x.dyn.relas.length - Mk.last s.x), cw := c2o }, rfl, ⟨own_base (own_setRowG (unhide HF1) (by omega) _) (by omega), own_base (own_setRowG (unhide HF2) (by omega) _) (by omega), own_base (own_setRowG (unhide HF3) (by omega) _) (by omega), own_base (own_setRowG (unhide HF4) (by omega) _) (by omega), own_base (own_setRowG (unhide HU4).texts (by omega) _) (by omega), own_base (own_setRowG (unhide HU4).needed (by omega) _) (by omega), (unhide Hp1).symm, (unhide Hp2).symm⟩, below_setRowG (unhide HBW) (by omega) _⟩
  obtain ⟨nm, hnm⟩ : ∃ nm, s.x.dyn.needed[i]? = some nm := ⟨_, List.getElem?_eq_getElem hlt⟩
  have hrdN : Rd wr B 1 s.A1 s.x.dyn.needed.length (s.x.dyn.needed.map Value.string) := ((unhide Hx) wr (unhide HT).bel).2.2.dyn.needed
  obtain ⟨b1, o1, hA1, hb1, st⟩ := hrdN.at_ (k := i) (u := .string nm) (by simp [hnm])
  have hnms : nm.size ≤ 4294967296 := (unhide Ho).dyn.s1 nm (List.mem_of_getElem? hnm)
  rw [hA1] at y7
  clear hA1
  have HSA : Hid (∀ W, Below (w.heap.size + 1 + 1) wr W → W.cell? ⟨w.heap.size, 7, none⟩ = some (.slice (some ⟨b1, o1, none⟩) s.x.dyn.needed.length s.c1) ∧ W.cell? ⟨b1, o1 + i, none⟩ = some (.string nm)) := hide (fun W hW => ⟨(hW.cell (p := ⟨w.heap.size, 7, none⟩) (by show w.heap.size < _; omega)).trans y7, (hW.cell (p := ⟨b1, o1 + i, none⟩) (by show b1 < _; omega)).trans st⟩)
  obtain ⟨hpl1, hpl2⟩ := places_next (t := [0]) hnm
  have hTd := (unhide HT).below (below_drew' (Below.refl wr.heap.size wr))
  have hts : q.nt ≤ 68719476752 := by
    have h1 := hTd.fi.len
    have h2 := puts_le (t := [0]) (l := s.x.dyn.needed.take i) (fun x hx => (unhide Ho).dyn.s1 x (List.mem_of_mem_take hx))
    have h3 : (s.x.dyn.needed.take i).length ≤ 8 := by rw [List.length_take]; omega
    have h4 : (s.x.dyn.needed.take i).length * 4294967297 ≤ 8 * 4294967297 := Nat.mul_le_mul_right _ h3
    simp at h2
    omega
  have KP := hide (rtput_any _ _ _ _ _ _ _ _ _ nm wr.drew hTd.fi hTd.sz (by omega) hnms)
  have HTd := hide hTd
  have Hpl1 := hide hpl1
  have Hpl2 := hide hpl2
  have z5 := (unhide HT).blk.cell (i := 5) rfl
  generalize Mk.place (Mk.puts [0] (s.x.dyn.needed.take i)) nm = pl at *
  have u2 : wr.cell? ⟨w.heap.size, 7, none⟩ = some (.slice (some ⟨b1, o1, none⟩) s.x.dyn.needed.length s.c1) ∧ wr.cell? ⟨b1, o1 + i, none⟩ = some (.string nm) := ⟨y7, st⟩
  have ilt : (i : Int) < (s.x.dyn.needed.length : Int) := by omega
  clear hTd hpl1 hpl2 hrdN hnm
  go_wp2_with fail
  go_wp2_with fail
  refine wp_region_noPanic ?_
  refine wp_region_held_drew (S := fun W => W.cell? ⟨w.heap.size, 7, none⟩ = some (.slice (some ⟨b1, o1, none⟩) s.x.dyn.needed.length s.c1) ∧ W.cell? ⟨b1, o1 + i, none⟩ = some (.string nm)) (by kernel_rfl) (u2) (fun HS0 => ?_)
  refine takeD (i := 0) (d := some 17) (v := ?_) rfl rfl (by kernel_rfl) (by kernel_rfl) (by kernel_rfl) (fun _ _ _ h => h) (Or.inl ⟨by rfl, ?y0⟩) HS0 ?_
  case y0 => (intro w' hSw; (try dsimp only at hSw); go_simp; (try with_reducible rfl))
  simp only [Act.put, List.setIfInBounds_toArray, List.set_cons_zero, List.set_cons_succ]
  refine takeD (i := 2) (d := some 19) (v := ?_) rfl rfl (by kernel_rfl) (by kernel_rfl) (by kernel_rfl) (fun _ _ _ h => h) (Or.inl ⟨by rfl, ?y2⟩) HS0 ?_
  case y2 => (intro w' hSw; (try dsimp only at hSw); go_simp; (try with_reducible rfl))
  simp only [Act.put, List.setIfInBounds_toArray, List.set_cons_zero, List.set_cons_succ]
  refine takeD (i := 3) (d := some 20) (v := ?_) rfl rfl (by kernel_rfl) (by kernel_rfl) (by kernel_rfl) (fun _ _ _ h => h) (Or.inl ⟨by rfl, ?y3⟩) HS0 ?_
  case y3 => (intro w' hSw; (try dsimp only at hSw); go_simp; (try with_reducible rfl))
  simp only [Act.put, List.setIfInBounds_toArray, List.set_cons_zero, List.set_cons_succ]
  refine takeD (i := 4) (d := some 21) (v := ?_) rfl rfl (by kernel_rfl) (by kernel_rfl) (by kernel_rfl) (fun _ _ _ h => h) (Or.inl ⟨by rfl, ?y4⟩) HS0 ?_
  case y4 => (intro w' hSw; (try dsimp only at hSw); go_simp; (try with_reducible rfl))
  simp only [Act.put, List.setIfInBounds_toArray, List.set_cons_zero, List.set_cons_succ]
  refine takeD (i := 5) (d := some 22) (v := ?_) rfl rfl (by kernel_rfl) (by kernel_rfl) (by kernel_rfl) (fun _ _ _ h => h) (Or.inl ⟨by rfl, ?y5⟩) HS0 ?_
  case y5 => (intro w' hSw; (try dsimp only at hSw); go_simp; (try with_reducible rfl))
  simp only [Act.put, List.setIfInBounds_toArray, List.set_cons_zero, List.set_cons_succ]
  refine takeD (i := 6) (d := some 23) (v := ?_) rfl rfl (by kernel_rfl) (by kernel_rfl) (by kernel_rfl) (fun _ _ _ h => h) (Or.inl ⟨by rfl, ?y6⟩) HS0 ?_
  case y6 => (intro w' hSw; (try dsimp only at hSw); go_simp; (try with_reducible rfl))
  simp only [Act.put, List.setIfInBounds_toArray, List.set_cons_zero, List.set_cons_succ]
  refine takeD (i := 7) (d := some 24) (v := ?_) rfl rfl (by kernel_rfl) (by kernel_rfl) (by kernel_rfl) (fun _ _ _ h => h) (Or.inl ⟨by rfl, ?y7⟩) HS0 ?_
  case y7 => (intro w' hSw; (try dsimp only at hSw); go_simp; (try with_reducible rfl))
  simp only [Act.put, List.setIfInBounds_toArray, List.set_cons_zero, List.set_cons_succ]
  refine takeD (i := 8) (d := some 25) (v := ?_) rfl rfl (by kernel_rfl) (by kernel_rfl) (by kernel_rfl) (fun _ _ _ h => h) (Or.inl ⟨by rfl, ?y8⟩) HS0 ?_
  case y8 => (intro w' hSw; (try dsimp only at hSw); go_simp; (try with_reducible rfl))
  simp only [Act.put, List.setIfInBounds_toArray, List.set_cons_zero, List.set_cons_succ]
  refine wpAnyH_ready (rs := [1, 9]) (by kernel_rfl) (by simp) ?_
  refine AllReadyH.cons (i := 1) rfl (fun K hK => ?way1) (AllReadyH.cons (i := 9) rfl (fun K hK => ?way9) AllReadyH.nil)
  case way1 =>
    rw [if_pos (by rfl)]
    go_simp
    refine hK.out _ _ HS0 (fun hHeld => ?_)
    clear hK K HS0
    have HS0 := hHeld
    clear hHeld
    (try simp only [Act.put, List.setIfInBounds_toArray, List.set_cons_zero, List.set_cons_succ])
    refine wpAnyH_ready (rs := [9]) (by kernel_rfl) (by simp) ?_
    refine AllReadyH.cons (i := 9) rfl (fun K hK => ?_) AllReadyH.nil
    rw [if_pos (by rfl)]
    go_simp
    go_at_call 85
    refine (unhide KP).mono ?_
    rintro e w5 ⟨At5, nt5, ct5, rfl, hE5⟩
    have HT5 := hide ((unhide HTd).put hE5)
    have hb5 := (below_drew' (Below.refl (w.heap.size + 1 + 1) wr)).trans (hE5.below (unhide HTd).hg (fun k hk => (own_bklt (unhide HTd).texts k hk).1) (unhide HTd).sz)
    have Hb5 := hide hb5
    have z5 := (unhide HT5).blk.cell (i := 5) rfl
    clear hE5 hb5
    refine hK.out _ _ ((unhide HSA) _ (unhide Hb5)) (fun hHeld => ?_)
    clear hK K HS0
    have HS0 := hHeld
    clear hHeld
    (try simp only [Act.put, List.setIfInBounds_toArray, List.set_cons_zero, List.set_cons_succ])
    refine wpAnyH_ready (rs := [10]) (by kernel_rfl) (by simp) ?_
    refine AllReadyH.cons (i := 10) rfl (fun K hK => ?_) AllReadyH.nil
    rw [if_pos (by rfl)]
    go_simp
    have z5 := ((unhide HT5).blk.alloc (.cells #[.int .u64 (pl : Nat)] 23)).cell (i := 5) rfl
    refine hK.out _ _ ((unhide HSA) _ ((unhide Hb5).alloc (unhide HT5).sz _)) (fun hHeld => ?_)
    clear hK K HS0
    have HS0 := hHeld
    clear hHeld
    (try simp only [Act.put, List.setIfInBounds_toArray, List.set_cons_zero, List.set_cons_succ])
    refine wpAnyH_ready (rs := [11]) (by kernel_rfl) (by simp) ?_
    refine AllReadyH.cons (i := 11) rfl (fun K hK => ?_) AllReadyH.nil
    rw [if_pos (by rfl)]
    refine wp_app1m u64Ty _ _ rfl (w.heap.size + 1 + 1) (.slice q.An q.nn q.cn) q.nn _ rfl (unhide HT5).needed #[.int .u64 (pl : Nat)] _ rfl (by simp) rfl (by intro u hu; simp at hu; rcases hu with rfl; rfl) (by omega) (unhide HT5).sz ?_
    intro A8 c8 w8 ho8 hg8 hat8
    obtain ⟨hb8, hbel8, hT8⟩ := (unhide HT5).grow ho8 hg8 hat8
    have z8 := hb8.cell (i := 5) rfl
    have g8 := hb8.free 5
    have HT8 := hide hT8
    have hB8 : Below (w.heap.size + 1 + 1) wr w8 := ((unhide Hb5).grown hg8 (unhide HT5).sz (fun k hk => ((unhide HT5).needed.lt k hk).1))
    clear ho8 hg8 hat8 hT8 hb8 hbel8
    refine hK.out _ _ ((unhide HSA) _ hB8) (fun hHeld => ?_)
    clear hK K HS0
    have HS0 := hHeld
    clear hHeld
    (try simp only [Act.put, List.setIfInBounds_toArray, List.set_cons_zero, List.set_cons_succ])
    refine takeD (i := 12) (d := some 29) (v := ?_) rfl rfl (by kernel_rfl) (by kernel_rfl) (by kernel_rfl) (fun _ _ _ h => h) (Or.inl ⟨by rfl, ?y12⟩) HS0 ?_
    case y12 => (intro w' hSw; (try dsimp only at hSw); go_simp; (try with_reducible rfl))
    simp only [Act.put, List.setIfInBounds_toArray, List.set_cons_zero, List.set_cons_succ]
    refine wpAnyH_ready (rs := [13]) (by kernel_rfl) (by simp) ?_
    refine AllReadyH.cons (i := 13) rfl (fun K hK => ?_) AllReadyH.nil
    rw [if_pos (by rfl)]
    go_simp
    refine hK.out _ _ ((unhide HSA) _ (hB8.setCell (unhide HT8).hg _)) (fun hHeld => ?_)
    clear hK K HS0
    have HS0 := hHeld
    clear hHeld
    (try simp only [Act.put, List.setIfInBounds_toArray, List.set_cons_zero, List.set_cons_succ])
    refine wpAnyH_done (by kernel_rfl) ?_ _
    refine NoPanic.normal ?_
    clear HS0 u2 z5 z8 g8 hB8 y7 st KP
    go_wp2_with fail
    go_roundg (s.x.dyn.needed.length - (i + 1))
    case measure => have := unhide Hgk; omega
    case rel =>
      have h := unhide HT8
      rw [← unhide Hpl1, ← unhide Hpl2] at h
      exact ⟨i + 1, _, rfl, by omega, by go_num, h, unhide Hz1, unhide Hz2⟩
  case way9 =>
    rw [if_pos (by rfl)]
    go_simp
    go_at_call 85
    refine (unhide KP).mono ?_
    rintro e w5 ⟨At5, nt5, ct5, rfl, hE5⟩
    have HT5 := hide ((unhide HTd).put hE5)
    have hb5 := (below_drew' (Below.refl (w.heap.size + 1 + 1) wr)).trans (hE5.below (unhide HTd).hg (fun k hk => (own_bklt (unhide HTd).texts k hk).1) (unhide HTd).sz)
    have Hb5 := hide hb5
    have z5 := (unhide HT5).blk.cell (i := 5) rfl
    clear hE5 hb5
    refine hK.out _ _ ((unhide HSA) _ (unhide Hb5)) (fun hHeld => ?_)
    clear hK K HS0
    have HS0 := hHeld
    clear hHeld
    (try simp only [Act.put, List.setIfInBounds_toArray, List.set_cons_zero, List.set_cons_succ])
    refine wpAnyH_ready (rs := [1, 10]) (by kernel_rfl) (by simp) ?_
    refine AllReadyH.cons (i := 1) rfl (fun K hK => ?way1) (AllReadyH.cons (i := 10) rfl (fun K hK => ?way10) AllReadyH.nil)
    case way1 =>
      rw [if_pos (by rfl)]
      go_simp
      refine hK.out _ _ HS0 (fun hHeld => ?_)
      clear hK K HS0
      have HS0 := hHeld
      clear hHeld
      (try simp only [Act.put, List.setIfInBounds_toArray, List.set_cons_zero, List.set_cons_succ])
      refine wpAnyH_ready (rs := [10]) (by kernel_rfl) (by simp) ?_
      refine AllReadyH.cons (i := 10) rfl (fun K hK => ?_) AllReadyH.nil
      rw [if_pos (by rfl)]
      go_simp
      have z5 := ((unhide HT5).blk.alloc (.cells #[.int .u64 (pl : Nat)] 23)).cell (i := 5) rfl
      refine hK.out _ _ ((unhide HSA) _ ((unhide Hb5).alloc (unhide HT5).sz _)) (fun hHeld => ?_)
      clear hK K HS0
      have HS0 := hHeld
      clear hHeld
      (try simp only [Act.put, List.setIfInBounds_toArray, List.set_cons_zero, List.set_cons_succ])
      refine wpAnyH_ready (rs := [11]) (by kernel_rfl) (by simp) ?_
      refine AllReadyH.cons (i := 11) rfl (fun K hK => ?_) AllReadyH.nil
      rw [if_pos (by rfl)]
      refine wp_app1m u64Ty _ _ rfl (w.heap.size + 1 + 1) (.slice q.An q.nn q.cn) q.nn _ rfl (unhide HT5).needed #[.int .u64 (pl : Nat)] _ rfl (by simp) rfl (by intro u hu; simp at hu; rcases hu with rfl; rfl) (by omega) (unhide HT5).sz ?_
      intro A8 c8 w8 ho8 hg8 hat8
      obtain ⟨hb8, hbel8, hT8⟩ := (unhide HT5).grow ho8 hg8 hat8
      have z8 := hb8.cell (i := 5) rfl
      have g8 := hb8.free 5
      have HT8 := hide hT8
      have hB8 : Below (w.heap.size + 1 + 1) wr w8 := ((unhide Hb5).grown hg8 (unhide HT5).sz (fun k hk => ((unhide HT5).needed.lt k hk).1))
      clear ho8 hg8 hat8 hT8 hb8 hbel8
      refine hK.out _ _ ((unhide HSA) _ hB8) (fun hHeld => ?_)
      clear hK K HS0
      have HS0 := hHeld
      clear hHeld
      (try simp only [Act.put, List.setIfInBounds_toArray, List.set_cons_zero, List.set_cons_succ])
      refine takeD (i := 12) (d := some 29) (v := ?_) rfl rfl (by kernel_rfl) (by kernel_rfl) (by kernel_rfl) (fun _ _ _ h => h) (Or.inl ⟨by rfl, ?y12⟩) HS0 ?_
      case y12 => (intro w' hSw; (try dsimp only at hSw); go_simp; (try with_reducible rfl))
      simp only [Act.put, List.setIfInBounds_toArray, List.set_cons_zero, List.set_cons_succ]
      refine wpAnyH_ready (rs := [13]) (by kernel_rfl) (by simp) ?_
      refine AllReadyH.cons (i := 13) rfl (fun K hK => ?_) AllReadyH.nil
      rw [if_pos (by rfl)]
      go_simp
      refine hK.out _ _ ((unhide HSA) _ (hB8.setCell (unhide HT8).hg _)) (fun hHeld => ?_)
      clear hK K HS0
      have HS0 := hHeld
      clear hHeld
      (try simp only [Act.put, List.setIfInBounds_toArray, List.set_cons_zero, List.set_cons_succ])
      refine wpAnyH_done (by kernel_rfl) ?_ _
      refine NoPanic.normal ?_
      clear HS0 u2 z5 z8 g8 hB8 y7 st KP
      go_wp2_with fail
      go_roundg (s.x.dyn.needed.length - (i + 1))
      case measure => have := unhide Hgk; omega
      case rel =>
        have h := unhide HT8
        rw [← unhide Hpl1, ← unhide Hpl2] at h
        exact ⟨i + 1, _, rfl, by omega, by go_num, h, unhide Hz1, unhide Hz2⟩
    case way10 =>
      rw [if_pos (by rfl)]
      go_simp
      have z5 := ((unhide HT5).blk.alloc (.cells #[.int .u64 (pl : Nat)] 23)).cell (i := 5) rfl
      refine hK.out _ _ ((unhide HSA) _ ((unhide Hb5).alloc (unhide HT5).sz _)) (fun hHeld => ?_)
      clear hK K HS0
      have HS0 := hHeld
      clear hHeld
      (try simp only [Act.put, List.setIfInBounds_toArray, List.set_cons_zero, List.set_cons_succ])
      refine wpAnyH_ready (rs := [1]) (by kernel_rfl) (by simp) ?_
      refine AllReadyH.cons (i := 1) rfl (fun K hK => ?_) AllReadyH.nil
      rw [if_pos (by rfl)]
      go_simp
      refine hK.out _ _ HS0 (fun hHeld => ?_)
      clear hK K HS0
      have HS0 := hHeld
      clear hHeld
      (try simp only [Act.put, List.setIfInBounds_toArray, List.set_cons_zero, List.set_cons_succ])
      refine wpAnyH_ready (rs := [11]) (by kernel_rfl) (by simp) ?_
      refine AllReadyH.cons (i := 11) rfl (fun K hK => ?_) AllReadyH.nil
      rw [if_pos (by rfl)]
      refine wp_app1m u64Ty _ _ rfl (w.heap.size + 1 + 1) (.slice q.An q.nn q.cn) q.nn _ rfl (unhide HT5).needed #[.int .u64 (pl : Nat)] _ rfl (by simp) rfl (by intro u hu; simp at hu; rcases hu with rfl; rfl) (by omega) (unhide HT5).sz ?_
      intro A8 c8 w8 ho8 hg8 hat8
      obtain ⟨hb8, hbel8, hT8⟩ := (unhide HT5).grow ho8 hg8 hat8
      have z8 := hb8.cell (i := 5) rfl
      have g8 := hb8.free 5
      have HT8 := hide hT8
      have hB8 : Below (w.heap.size + 1 + 1) wr w8 := ((unhide Hb5).grown hg8 (unhide HT5).sz (fun k hk => ((unhide HT5).needed.lt k hk).1))
      clear ho8 hg8 hat8 hT8 hb8 hbel8
      refine hK.out _ _ ((unhide HSA) _ hB8) (fun hHeld => ?_)
      clear hK K HS0
      have HS0 := hHeld
      clear hHeld
      (try simp only [Act.put, List.setIfInBounds_toArray, List.set_cons_zero, List.set_cons_succ])
      refine takeD (i := 12) (d := some 29) (v := ?_) rfl rfl (by kernel_rfl) (by kernel_rfl) (by kernel_rfl) (fun _ _ _ h => h) (Or.inl ⟨by rfl, ?y12⟩) HS0 ?_
      case y12 => (intro w' hSw; (try dsimp only at hSw); go_simp; (try with_reducible rfl))
      simp only [Act.put, List.setIfInBounds_toArray, List.set_cons_zero, List.set_cons_succ]
      refine wpAnyH_ready (rs := [13]) (by kernel_rfl) (by simp) ?_
      refine AllReadyH.cons (i := 13) rfl (fun K hK => ?_) AllReadyH.nil
      rw [if_pos (by rfl)]
      go_simp
      refine hK.out _ _ ((unhide HSA) _ (hB8.setCell (unhide HT8).hg _)) (fun hHeld => ?_)
      clear hK K HS0
      have HS0 := hHeld
      clear hHeld
      (try simp only [Act.put, List.setIfInBounds_toArray, List.set_cons_zero, List.set_cons_succ])
      refine wpAnyH_done (by kernel_rfl) ?_ _
      refine NoPanic.normal ?_
      clear HS0 u2 z5 z8 g8 hB8 y7 st KP
      go_wp2_with fail
      go_roundg (s.x.dyn.needed.length - (i + 1))
      case measure => have := unhide Hgk; omega
      case rel =>
        have h := unhide HT8
        rw [← unhide Hpl1, ← unhide Hpl2] at h
        exact ⟨i + 1, _, rfl, by omega, by go_num, h, unhide Hz1, unhide Hz2⟩
end Go.Proofs.YtnbecdahfgkffaaGreat
namespace Go.Proofs.YtnbecdahfgkffaaGreat
open Go.RowKit
theorem OldK.step {t : TypeId} {w w' : World} {g o base base2 n c n1 c1 n2 c2 : Nat} {l : List Value} {A A1 A2 : Option Addr} {xs ys zs : List UInt8} (h : OldK 5 1 w base A n c (bys xs) A1 n1 c1) (E : FiE t g o l base2 A1 w w' A2 n2 c2 zs) (k : OldK 5 1 w' base2 A1 n1 c1 (bys (xs ++ ys)) A2 n2 c2) (hb : base ≤ base2) (hb2 : base2 = base) (hg : bk A ≠ some g) (hn : xs.length = n) (hn1 : n1 = n + ys.length) : OldK 5 1 w' base A n c (bys xs) A2 n2 c2 := by
  subst hb2
  rcases h.at_ with ⟨rfl, rfl, h1⟩ | h1
  · have k1 := k.own
    rw [hn1, bys_app] at k1
    refine ⟨own_prefix k1 (by rw [bys_len]; exact hn), ?_⟩
    rcases k.at_ with ⟨h2, h3, h4⟩ | h2
    · exact .inl ⟨h2, h3, by omega⟩
    · exact .inr h2
  · obtain ⟨r1, r2⟩ := E.own h.own hg h1
    exact ⟨r1, .inr r2⟩
def tellF (k : Nat) : Nat := match k with
  | 0 => 75
  | 1 => 76
  | 2 => 78
  | 3 => 79
  | _ => 80
theorem lit4 (w : World) (a b c d : Int) : Rd (w.alloc (.cells #[.int .u64 a, .int .u64 b, .int .u64 c, .int .u64 d] 23)) (w.alloc (.cells #[.int .u64 a, .int .u64 b, .int .u64 c, .int .u64 d] 23)).heap.size 1 (some ⟨w.heap.size, 0, none⟩) 4 [.int .u64 a, .int .u64 b, .int .u64 c, .int .u64 d] := by
  rw [show (w.alloc (.cells #[.int .u64 a, .int .u64 b, .int .u64 c, .int .u64 d] 23)).heap.size = w.heap.size + 1 by simp]
  exact Rd.rowF (n := 4) (size := 1) rfl
def TellE (t : TypeId) (g o : Nat) (l : List Value) (base : Nat) (A : Option Addr) (n c : Nat) (xs : List UInt8) (es : List (Nat × Nat)) (w : World) (e : Ending) (w' : World) : Prop :=
  e = .returned (.tuple #[]) ∧ ∃ A' c', FiE t g o l base A w w' A' (n + 16 * es.length) c' (xs ++ Mk.entsB es) ∧ OldK 5 1 w' base A n c (bys xs) A' (n + 16 * es.length) c'
set_option maxRecDepth 100000 in
set_option maxHeartbeats 4000000 in
theorem tell0_any (t : TypeId) (g o : Nat) (l : List Value) (base : Nat) (A : Option Addr) (n c a m : Nat) (xs : List UInt8) (w : World) (h : FiM w t g o l base A n c xs) (hbase : base ≤ w.heap.size) (hn : n ≤ 17592186044416) (ha : a < 18446744073709551616) (hm : m ≤ 4294967296) :
    Calls Tryz.prog 75 #[.pointer (some ⟨g, o, none⟩), .int .u64 (a : Nat), .int .i64 (m : Nat)] w (TellE t g o l base A n c xs (Mk.tell 0 a m) w) := by
  have hb := below_al w (.cells #[.int .u64 4, .int .u64 (a : Nat)] 23)
  have hlt := h.lt
  have hgl := h.blk.lt
  have H1 := lit2 w 4 (a : Nat)
  have KN := hide (pnumber_any t g o l base A n c xs w.heap.size 0 2 2 8 [4, a] (w.alloc (.cells #[.int .u64 4, .int .u64 (a : Nat)] 23)) (h.below hb) (Nat.le_trans hbase hb.size) H1 (by omega) (fun e => by have := (hlt _ e).2; omega) (by intro v hv; simp at hv; omega) (by omega) hn (by omega))
  have Hb := hide hb
  clear hb hlt hgl H1 h
  go_enter Tryz.func75, Tryz.ntmps75
  go_wp2_with fail
  refine (unhide KN).mono ?_
  rintro e w1 ⟨rfl, A1, c1, hE, hK⟩
  have HE := hide (FiE.after (unhide Hb) hE)
  have HK := hide hK
  clear hE hK KN
  go_wp2_with fail
  go_end0
  exact ⟨rfl, A1, c1, by simpa [Mk.tell, Mk.entsB, Mk.pairB, Mk.lbs, List.append_assoc] using unhide HE, by simpa [Mk.tell] using unhide HK⟩
set_option maxRecDepth 100000 in
set_option maxHeartbeats 4000000 in
theorem tell1_any (t : TypeId) (g o : Nat) (l : List Value) (base : Nat) (A : Option Addr) (n c a m : Nat) (xs : List UInt8) (w : World) (h : FiM w t g o l base A n c xs) (hbase : base ≤ w.heap.size) (hn : n ≤ 17592186044416) (ha : a < 18446744073709551616) (hm : m ≤ 4294967296) :
    Calls Tryz.prog 76 #[.pointer (some ⟨g, o, none⟩), .int .u64 (a : Nat), .int .i64 (m : Nat)] w (TellE t g o l base A n c xs (Mk.tell 1 a m) w) := by
  have hb := below_al w (.cells #[.int .u64 6, .int .u64 (a : Nat), .int .u64 11, .int .u64 24] 23)
  have hlt := h.lt
  have hgl := h.blk.lt
  have H1 := lit4 w 6 (a : Nat) 11 24
  have KN := hide (pnumber_any t g o l base A n c xs w.heap.size 0 4 4 8 [6, a, 11, 24] (w.alloc (.cells #[.int .u64 6, .int .u64 (a : Nat), .int .u64 11, .int .u64 24] 23)) (h.below hb) (Nat.le_trans hbase hb.size) H1 (by omega) (fun e => by have := (hlt _ e).2; omega) (by intro v hv; simp at hv; omega) (by omega) hn (by omega))
  have Hb := hide hb
  clear hb hlt hgl H1 h
  go_enter Tryz.func76, Tryz.ntmps76
  go_wp2_with fail
  refine (unhide KN).mono ?_
  rintro e w1 ⟨rfl, A1, c1, hE, hK⟩
  have HE := hide (FiE.after (unhide Hb) hE)
  have HK := hide hK
  clear hE hK KN
  go_wp2_with fail
  go_end0
  exact ⟨rfl, A1, c1, by simpa [Mk.tell, Mk.entsB, Mk.pairB, Mk.lbs, List.append_assoc] using unhide HE, by simpa [Mk.tell] using unhide HK⟩
set_option maxRecDepth 100000 in
set_option maxHeartbeats 4000000 in
theorem tell2_any (t : TypeId) (g o : Nat) (l : List Value) (base : Nat) (A : Option Addr) (n c a m : Nat) (xs : List UInt8) (w : World) (h : FiM w t g o l base A n c xs) (hbase : base ≤ w.heap.size) (hn : n ≤ 17592186044416) (ha : a < 18446744073709551616) (hm : m ≤ 4294967296) :
    Calls Tryz.prog 78 #[.pointer (some ⟨g, o, none⟩), .int .u64 (a : Nat), .int .i64 (m : Nat)] w (TellE t g o l base A n c xs (Mk.tell 2 a m) w) := by
  have hb := below_al w (.cells #[.int .u64 7, .int .u64 (a : Nat), .int .u64 8, .int .u64 (m : Nat), .int .u64 9, .int .u64 24] 23)
  have hlt := h.lt
  have hgl := h.blk.lt
  have H1 := lit6 w 7 (a : Nat) 8 (m : Nat) 9 24
  have KN := hide (pnumber_any t g o l base A n c xs w.heap.size 0 6 6 8 [7, a, 8, m, 9, 24] (w.alloc (.cells #[.int .u64 7, .int .u64 (a : Nat), .int .u64 8, .int .u64 (m : Nat), .int .u64 9, .int .u64 24] 23)) (h.below hb) (Nat.le_trans hbase hb.size) H1 (by omega) (fun e => by have := (hlt _ e).2; omega) (by intro v hv; simp at hv; omega) (by omega) hn (by omega))
  have Hb := hide hb
  clear hb hlt hgl H1 h
  go_enter Tryz.func78, Tryz.ntmps78
  go_wp2_with fail
  refine (unhide KN).mono ?_
  rintro e w1 ⟨rfl, A1, c1, hE, hK⟩
  have HE := hide (FiE.after (unhide Hb) hE)
  have HK := hide hK
  clear hE hK KN
  go_wp2_with fail
  go_end0
  exact ⟨rfl, A1, c1, by simpa [Mk.tell, Mk.entsB, Mk.pairB, Mk.lbs, List.append_assoc] using unhide HE, by simpa [Mk.tell] using unhide HK⟩
set_option maxRecDepth 100000 in
set_option maxHeartbeats 4000000 in
theorem tell3_any (t : TypeId) (g o : Nat) (l : List Value) (base : Nat) (A : Option Addr) (n c a m : Nat) (xs : List UInt8) (w : World) (h : FiM w t g o l base A n c xs) (hbase : base ≤ w.heap.size) (hn : n ≤ 17592186044416) (ha : a < 18446744073709551616) (hm : m ≤ 4294967296) :
    Calls Tryz.prog 79 #[.pointer (some ⟨g, o, none⟩), .int .u64 (a : Nat), .int .i64 (m : Nat)] w (TellE t g o l base A n c xs (Mk.tell 3 a m) w) := by
  have hb := below_al w (.cells #[.int .u64 23, .int .u64 (a : Nat), .int .u64 2, .int .u64 (m : Nat), .int .u64 20, .int .u64 7] 23)
  have hlt := h.lt
  have hgl := h.blk.lt
  have H1 := lit6 w 23 (a : Nat) 2 (m : Nat) 20 7
  have KN := hide (pnumber_any t g o l base A n c xs w.heap.size 0 6 6 8 [23, a, 2, m, 20, 7] (w.alloc (.cells #[.int .u64 23, .int .u64 (a : Nat), .int .u64 2, .int .u64 (m : Nat), .int .u64 20, .int .u64 7] 23)) (h.below hb) (Nat.le_trans hbase hb.size) H1 (by omega) (fun e => by have := (hlt _ e).2; omega) (by intro v hv; simp at hv; omega) (by omega) hn (by omega))
  have Hb := hide hb
  clear hb hlt hgl H1 h
  go_enter Tryz.func79, Tryz.ntmps79
  go_wp2_with fail
  refine (unhide KN).mono ?_
  rintro e w1 ⟨rfl, A1, c1, hE, hK⟩
  have HE := hide (FiE.after (unhide Hb) hE)
  have HK := hide hK
  clear hE hK KN
  go_wp2_with fail
  go_end0
  exact ⟨rfl, A1, c1, by simpa [Mk.tell, Mk.entsB, Mk.pairB, Mk.lbs, List.append_assoc] using unhide HE, by simpa [Mk.tell] using unhide HK⟩
set_option maxRecDepth 100000 in
set_option maxHeartbeats 4000000 in
theorem tell4_any (t : TypeId) (g o : Nat) (l : List Value) (base : Nat) (A : Option Addr) (n c a m : Nat) (xs : List UInt8) (w : World) (h : FiM w t g o l base A n c xs) (hbase : base ≤ w.heap.size) (hn : n ≤ 17592186044416) (ha : a < 18446744073709551616) (hm : m ≤ 4294967296) :
    Calls Tryz.prog 80 #[.pointer (some ⟨g, o, none⟩), .int .u64 (a : Nat), .int .i64 (m : Nat)] w (TellE t g o l base A n c xs (Mk.tell 4 a m) w) := by
  have hb := below_al w (.cells #[.int .u64 5, .int .u64 (a : Nat), .int .u64 10, .int .u64 (m : Nat), .int .u64 0, .int .u64 0] 23)
  have hlt := h.lt
  have hgl := h.blk.lt
  have H1 := lit6 w 5 (a : Nat) 10 (m : Nat) 0 0
  have KN := hide (pnumber_any t g o l base A n c xs w.heap.size 0 6 6 8 [5, a, 10, m, 0, 0] (w.alloc (.cells #[.int .u64 5, .int .u64 (a : Nat), .int .u64 10, .int .u64 (m : Nat), .int .u64 0, .int .u64 0] 23)) (h.below hb) (Nat.le_trans hbase hb.size) H1 (by omega) (fun e => by have := (hlt _ e).2; omega) (by intro v hv; simp at hv; omega) (by omega) hn (by omega))
  have Hb := hide hb
  clear hb hlt hgl H1 h
  go_enter Tryz.func80, Tryz.ntmps80
  go_wp2_with fail
  refine (unhide KN).mono ?_
  rintro e w1 ⟨rfl, A1, c1, hE, hK⟩
  have HE := hide (FiE.after (unhide Hb) hE)
  have HK := hide hK
  clear hE hK KN
  go_wp2_with fail
  go_end0
  exact ⟨rfl, A1, c1, by simpa [Mk.tell, Mk.entsB, Mk.pairB, Mk.lbs, List.append_assoc] using unhide HE, by simpa [Mk.tell] using unhide HK⟩
theorem tell_any (k : Nat) (t : TypeId) (g o : Nat) (l : List Value) (base : Nat) (A : Option Addr) (n c a m : Nat) (xs : List UInt8) (w : World) (h : FiM w t g o l base A n c xs) (hbase : base ≤ w.heap.size) (hn : n ≤ 17592186044416) (ha : a < 18446744073709551616) (hm : m ≤ 4294967296) :
    Calls Tryz.prog (tellF k) #[.pointer (some ⟨g, o, none⟩), .int .u64 (a : Nat), .int .i64 (m : Nat)] w (TellE t g o l base A n c xs (Mk.tell k a m) w) := by
  match k with
  | 0 => exact tell0_any t g o l base A n c a m xs w h hbase hn ha hm
  | 1 => exact tell1_any t g o l base A n c a m xs w h hbase hn ha hm
  | 2 => exact tell2_any t g o l base A n c a m xs w h hbase hn ha hm
  | 3 => exact tell3_any t g o l base A n c a m xs w h hbase hn ha hm
  | k + 4 => exact tell4_any t g o l base A n c a m xs w h hbase hn ha hm
end Go.Proofs.YtnbecdahfgkffaaGreat
namespace Go.Proofs.YtnbecdahfgkffaaGreat
open Go.RowKit
structure PQ where
  k : Nat
  A : Option Addr
  n : Nat
  c : Nat
  b : List UInt8
def PQ.cells (q : PQ) : List Value := [.slice q.A q.n q.c, .func (.func (tellF q.k)) #[] #[]]
def partC (l : List PQ) : List Value := l.flatMap PQ.cells
def PQ.p (q : PQ) : Nat × List UInt8 := (q.k, q.b)
theorem partC_one (q : PQ) : partC [q] = q.cells := by simp [partC]
theorem partC_app (a b : List PQ) : partC (a ++ b) = partC a ++ partC b := by simp [partC]
theorem part_cell1 (l : List PQ) : ∀ u ∈ partC l, u.oneCell' = true := by
  intro u hu
  obtain ⟨q, -, hq⟩ := List.mem_flatMap.1 hu
  simp only [PQ.cells, List.mem_cons, List.not_mem_nil, or_false] at hq
  rcases hq with rfl | rfl <;> rfl
theorem part_at {w : World} {B n : Nat} {A : Option Addr} {l : List PQ} (h : Rd w B 2 A n (partC l)) {k : Nat} {x : PQ} (hk : l[k]? = some x) :
    ∃ b off, A = some ⟨b, off, none⟩ ∧ b < B ∧ w.cell? ⟨b, off + k * 2, none⟩ = some (.slice x.A x.n x.c) ∧ w.cell? ⟨b, off + k * 2 + 1, none⟩ = some (.func (.func (tellF x.k)) #[] #[]) := by
  have hc := flat_at PQ.cells 2 (fun _ => rfl) l k x hk
  obtain ⟨b, off, ea, hb, hx⟩ := h.open_ (by intro e0; have := hc 0 _ rfl; rw [show l.flatMap PQ.cells = partC l from rfl, e0] at this; simp at this)
  refine ⟨b, off, ea, hb, ?_, ?_⟩
  · exact hx _ _ (hc 0 _ rfl)
  · rw [Nat.add_assoc]; exact hx _ _ (hc 1 _ rfl)
theorem own_same {w w' : World} {base n c z : Nat} {A : Option Addr} {e : TypeId} {ys : List Value} (r : w.ownsRow base e z (.slice A n c) n ys) (hk : ∀ k, bk A = some k → w'.heap[k]? = w.heap[k]?) : w'.ownsRow base e z (.slice A n c) n ys := by
  refine ⟨r.1, r.2.imp id ?_⟩
  rintro ⟨k, cap, cur, e1, e2, e3, r'⟩
  have hk1 : bk A = some k := by injection e1 with e1; rw [e1]; rfl
  exact ⟨k, cap, cur, e1, e2, (hk k hk1).trans e3, r'⟩
structure PaS (h0 : Nat) (av : Nat → Prop) (w2 wr : World) (qs : List PQ) (Ap : Option Addr) (np cp : Nat) : Prop where
  below : Below w2.heap.size w2 wr
  row : wr.ownsRow w2.heap.size 158 2 (.slice Ap np cp) np (partC qs)
  len : np = qs.length
  own : ∀ q ∈ qs, wr.ownsRow h0 5 1 (.slice q.A q.n q.c) q.n (bys q.b) ∧ ∀ k, bk q.A = some k → bk Ap ≠ some k ∧ av k
section
variable {h0 np cp : Nat} {av : Nat → Prop} {w2 wr w' : World} {qs : List PQ} {Ap : Option Addr}
theorem PaS.nil : PaS h0 av w2 w2 [] none 0 0 := ⟨Below.refl _ _, World.ownsRow_nil _ _ _ _, rfl, fun q hq => by cases hq⟩
theorem PaS.size (h : PaS h0 av w2 wr qs Ap np cp) : w2.heap.size ≤ wr.heap.size := h.below.size
theorem PaS.calm (h : PaS h0 av w2 wr qs Ap np cp) (hb : Below wr.heap.size wr w') : PaS h0 av w2 w' qs Ap np cp :=
  ⟨h.below.trans (hb.mono h.size), own_below h.row hb, h.len, fun q hq => ⟨own_below (h.own q hq).1 hb, (h.own q hq).2⟩⟩
theorem PaS.add (h : PaS h0 av w2 wr qs Ap np cp) (new : List PQ) {A2 : Option Addr} {m c2 : Nat} (hm : m = new.length) (hnew : ∀ q ∈ new, wr.ownsRow h0 5 1 (.slice q.A q.n q.c) q.n (bys q.b) ∧ ∀ k, bk q.A = some k → bk Ap ≠ some k ∧ av k)
    (ho : w'.ownsRow w2.heap.size 158 2 (.slice A2 (np + m) c2) (np + m) (partC qs ++ partC new)) (hg : wr.grownBy w' (Value.slice Ap np cp).ownBlock) (ha : ∀ k, (Value.slice A2 (np + m) c2).ownBlock = some k → (Value.slice Ap np cp).ownBlock = some k ∨ wr.heap.size ≤ k) : PaS h0 av w2 w' (qs ++ new) A2 (np + m) c2 := by
  rw [own_bk] at hg
  simp only [own_bk] at ha
  refine ⟨h.below.grown hg h.size (fun k hk => (own_bklt h.row k hk).1), by rw [partC_app]; exact ho, by rw [h.len, hm, List.length_append], fun q hq => ?_⟩
  have hq' : wr.ownsRow h0 5 1 (.slice q.A q.n q.c) q.n (bys q.b) ∧ ∀ k, bk q.A = some k → bk Ap ≠ some k ∧ av k := by
    rcases List.mem_append.1 hq with hq | hq
    · exact h.own q hq
    · exact hnew q hq
  refine ⟨own_grownG hq'.1 hg (fun k hk => (hq'.2 k hk).1), fun k hk => ⟨fun e => ?_, (hq'.2 k hk).2⟩⟩
  rcases ha k e with h3 | h3
  · exact (hq'.2 k hk).1 h3
  · have := (own_bklt hq'.1 k hk).2; omega
end
structure PaF (h0 gs : Nat) (As : Option Addr) (w : World) (qs : List PQ) (Ap : Option Addr) (np cp : Nat) : Prop where
  row : w.ownsRow h0 158 2 (.slice Ap np cp) np (partC qs)
  rav : ∀ k, bk Ap = some k → k ≠ gs ∧ bk As ≠ some k
  len : np = qs.length
  own : ∀ q ∈ qs, w.ownsRow h0 5 1 (.slice q.A q.n q.c) q.n (bys q.b) ∧ ∀ k, bk q.A = some k → k ≠ gs ∧ bk As ≠ some k
section
variable {h0 gs np cp : Nat} {w2 wr w w' : World} {qs : List PQ} {Ap As : Option Addr}
theorem PaF.same (h : PaF h0 gs As w qs Ap np cp) (hs : ∀ k, h0 ≤ k → k < w.heap.size → k ≠ gs → bk As ≠ some k → w'.heap[k]? = w.heap[k]?) : PaF h0 gs As w' qs Ap np cp :=
  ⟨own_same h.row fun k hk => hs k (own_bklt h.row k hk).1 (own_bklt h.row k hk).2 (h.rav k hk).1 (h.rav k hk).2, h.rav, h.len, fun q hq => ⟨own_same (h.own q hq).1 fun k hk => hs k (own_bklt (h.own q hq).1 k hk).1 (own_bklt (h.own q hq).1 k hk).2 ((h.own q hq).2 k hk).1 ((h.own q hq).2 k hk).2, (h.own q hq).2⟩⟩
theorem PaF.calm (h : PaF h0 gs As w qs Ap np cp) (hb : Below w.heap.size w w') : PaF h0 gs As w' qs Ap np cp := h.same fun k _ h1 _ _ => hb.block k h1
theorem PaS.fix (h : PaS h0 (fun k => k ≠ gs ∧ bk As ≠ some k) w2 wr qs Ap np cp) (h1 : h0 ≤ w2.heap.size) (h2 : gs < w2.heap.size) (h3 : ∀ k, bk As = some k → k < w2.heap.size) : PaF h0 gs As wr qs Ap np cp :=
  ⟨own_base h.row h1, fun k hk => by
    have h4 := (own_bklt h.row k hk).1
    exact ⟨by omega, fun e => by have := h3 k e; omega⟩, h.len, fun q hq => ⟨(h.own q hq).1, fun k hk => ((h.own q hq).2 k hk).2⟩⟩
end
structure LoS (gf gs base : Nat) (l : List Value) (A As : Option Addr) (w w3 wr : World) (fs ss : List UInt8) (L : Option Nat) : Prop where
  st : ∃ Af nf cf A2 c2, FiE 71 gf 0 l base A w wr Af nf cf fs ∧ FiM wr 71 gs 0 [.slice A2 ss.length c2] w.heap.size A2 ss.length c2 ss ∧ (∀ k, bk A2 = some k → bk Af ≠ some k) ∧ bk Af ≠ some gs ∧ (∀ k, bk Af = some k → bk A = some k ∨ w3.heap.size ≤ k) ∧ (∀ k, bk A2 = some k → bk As = some k ∨ w3.heap.size ≤ k) ∧ (∀ k, L = some k → w.heap.size ≤ k ∧ k < wr.heap.size ∧ k ≠ gs ∧ bk Af ≠ some k ∧ bk A2 ≠ some k)
  keep : ∀ k, w.heap.size ≤ k → k < w3.heap.size → k ≠ gs → bk As ≠ some k → wr.heap[k]? = w3.heap[k]?
  hgs : w.heap.size ≤ gs
  hgf : gf < w.heap.size
  hA : ∀ k, bk A = some k → base ≤ k ∧ k < w.heap.size
  hb : base ≤ w.heap.size
  size : w3.heap.size ≤ wr.heap.size
  h3 : w.heap.size ≤ w3.heap.size
section
variable {gf gs base np cp : Nat} {l : List Value} {A As Ap : Option Addr} {w w3 wr w' : World} {fs ss ps : List UInt8} {qs : List PQ} {L : Option Nat}
theorem LoS.calm (h : LoS gf gs base l A As w w3 wr fs ss L) (hb : Below wr.heap.size wr w') : LoS gf gs base l A As w w3 w' fs ss L := by
  obtain ⟨Af, nf, cf, A2, c2, h1, h2, h3, h4, h5, h6, h7⟩ := h.st
  exact ⟨⟨Af, nf, cf, A2, c2, h1.then_ hb, h2.below hb, h3, h4, h5, h6, fun k hk => ⟨(h7 k hk).1, Nat.lt_of_lt_of_le (h7 k hk).2.1 hb.size, (h7 k hk).2.2⟩⟩, fun k k1 k2 k3 k4 => (hb.block k (Nat.lt_of_lt_of_le k2 h.size)).trans (h.keep k k1 k2 k3 k4), h.hgs, h.hgf, h.hA, h.hb, Nat.le_trans h.size hb.size, h.h3⟩
theorem LoS.drop (h : LoS gf gs base l A As w w3 wr fs ss L) : LoS gf gs base l A As w w3 wr fs ss none := by
  obtain ⟨Af, nf, cf, A2, c2, h1, h2, h3, h4, h5, h6, h7⟩ := h.st
  exact ⟨⟨Af, nf, cf, A2, c2, h1, h2, h3, h4, h5, h6, fun k hk => by cases hk⟩, h.keep, h.hgs, h.hgf, h.hA, h.hb, h.size, h.h3⟩
theorem LoS.lay (h : LoS gf gs base l A As w w3 wr fs ss L) (c : Obj) : LoS gf gs base l A As w w3 (wr.alloc c) fs ss (some wr.heap.size) := by
  obtain ⟨Af, nf, cf, A2, c2, h1, h2, h3, h4, h5, h6, h7⟩ := (h.calm (below_al wr c)).st
  obtain ⟨Af', nf', cf', A2', c2', g1, g2, -⟩ := h.st
  have h0 := h.calm (below_al wr c)
  obtain ⟨Ag, ng, cg, A3, c3, k1, k2, k3, k4, k5, k6, k7⟩ := h.st
  have hb := below_al wr c
  refine ⟨⟨Ag, ng, cg, A3, c3, k1.then_ hb, k2.below hb, k3, k4, k5, k6, fun k hk => ?_⟩, h0.keep, h.hgs, h.hgf, h.hA, h.hb, h0.size, h.h3⟩
  injection hk with hk
  subst hk
  refine ⟨k1.size, by simp, fun e => ?_, fun e => ?_, fun e => ?_⟩
  · have := k2.blk.lt; omega
  · have := (k1.m.lt _ e).2; omega
  · have := (k2.lt _ e).2; omega
theorem LoS.parts (h : LoS gf gs base l A As w w3 wr fs ss L) (p : PaF w.heap.size gs As w3 qs Ap np cp) : PaF w.heap.size gs As wr qs Ap np cp := p.same h.keep
theorem LoS.blk (h : LoS gf gs base l A As w w3 wr fs ss L) {k : Nat} {t : TypeId} {l2 : List Value} (b : Blk w3 k t l2) (h1 : w.heap.size ≤ k) (h2 : k ≠ gs) (h3 : bk As ≠ some k) : Blk wr k t l2 := (h.keep k h1 b.lt h2 h3).trans b
theorem LoS.bind (h : LoS gf gs base l A As w w3 wr fs ss L) {fs' ss' : List UInt8} (h1 : fs = fs') (h2 : ss = ss') : LoS gf gs base l A As w w3 wr fs' ss' L := by subst h1 h2; exact h
theorem LoS.callPut (h : LoS gf gs base l A As w w3 wr fs ss L) (hfs : fs.length ≤ 4294967296) (r : w3.ownsRow w.heap.size 5 1 (.slice Ap np cp) np (bys ps)) (hav : ∀ k, bk Ap = some k → k ≠ gs ∧ bk As ≠ some k) (hnp : np ≤ 4294967296) :
    Calls Tryz.prog 28 #[.pointer (some ⟨gf, 0, none⟩), .slice Ap np cp] wr fun e w' => e = .returned (.int .u64 ((Mk.pad 8 fs).length : Nat)) ∧ LoS gf gs base l A As w w3 w' (Mk.pad 8 fs ++ ps) ss L ∧ ∀ k, L = some k → w'.heap[k]? = wr.heap[k]? := by
  obtain ⟨Af, nf, cf, A2, c2, h1, h2, h3, h4, h5, h6, h7⟩ := h.st
  have hlt := own_bklt r
  have r1 := own_same r fun k hk => h.keep k (hlt k hk).1 (hlt k hk).2 (hav k hk).1 (hav k hk).2
  have hl := h1.m.len
  have hgf := h.hgf
  have hh3 := h.h3
  have hwr := h1.size
  refine (pput_any _ gf 0 _ base Af nf cf fs Ap np cp ps wr h1.m (Nat.le_trans h.hb h1.size) (by omega) hnp (Rd.of_own r1) (fun e => by have := (hlt _ e).1; omega) (fun k hk e => ?_)).mono ?_
  · rcases h5 k e with h9 | h9
    · have := (h.hA k h9).2; have := (hlt k hk).1; omega
    · have := (hlt k hk).2; omega
  rintro e w' ⟨A9, n9, c9, rfl, E⟩
  have hgs := h.hgs
  have hgsw := h2.blk.lt
  have hEs := E.size
  obtain ⟨m1, m2⟩ := h2.aside E (by omega) h4 (fun e => by have := (h2.lt _ e).1; omega) h3
  refine ⟨rfl, ⟨⟨A9, n9, c9, A2, c2, h1.trans E, m1, m2, fun e => ?_, fun k hk => ?_, h6, fun k hk => ?_⟩, fun k k1 k2 k3 k4 => (E.block k (Nat.lt_of_lt_of_le k2 h.size) (by omega) (fun e => ?_)).trans (h.keep k k1 k2 k3 k4), h.hgs, h.hgf, h.hA, h.hb, Nat.le_trans h.size E.size, h.h3⟩, fun k hk => ?_⟩
  · rcases E.at_ _ e with h9 | h9
    · exact h4 h9
    · omega
  · rcases E.at_ _ hk with h9 | h9
    · exact h5 k h9
    · exact .inr (Nat.le_trans h.size h9)
  · obtain ⟨q1, q2, q3, q4, q5⟩ := h7 k hk
    refine ⟨q1, by omega, q3, fun e => ?_, q5⟩
    rcases E.at_ _ e with h9 | h9
    · exact q4 h9
    · omega
  · rcases h5 k e with h9 | h9
    · have := (h.hA k h9).2; omega
    · omega
  · obtain ⟨q1, q2, q3, q4, q5⟩ := h7 k hk
    exact E.block k q2 (by omega) q4
theorem LoS.callTell (h : LoS gf gs base l A As w w3 wr fs ss L) (k a m : Nat) (ai mi : Int) (hai : ai = (a : Nat)) (hmi : mi = (m : Nat)) (hss : ss.length ≤ 17592186044416) (ha : a < 18446744073709551616) (hm : m ≤ 4294967296) :
    Calls Tryz.prog (tellF k) #[.pointer (some ⟨gs, 0, none⟩), .int .u64 ai, .int .i64 mi] wr fun e w' => e = .returned (.tuple #[]) ∧ LoS gf gs base l A As w w3 w' fs (ss ++ Mk.entsB (Mk.tell k a m)) L ∧ ∀ k, L = some k → w'.heap[k]? = wr.heap[k]? := by
  subst hai hmi
  obtain ⟨Af, nf, cf, A2, c2, h1, h2, h3, h4, h5, h6, h7⟩ := h.st
  have hgs := h.hgs
  have hgf := h.hgf
  have hlt := h2.lt
  refine (tell_any k _ gs 0 _ w.heap.size A2 ss.length c2 a m ss wr h2 h1.size hss ha hm).mono ?_
  rintro e w' ⟨rfl, A9, c9, E, -⟩
  have hn : ss.length + 16 * (Mk.tell k a m).length = (ss ++ Mk.entsB (Mk.tell k a m)).length := by rw [List.length_append, entsB_len]
  rw [hn] at E
  have hEs := E.size
  obtain ⟨m1, m2⟩ := h1.aside E hgs (fun k hk => (hlt k hk).1) (by omega) (fun e => by have := (hlt _ e).1; omega) h4 (fun k k1 k2 => h3 k k2 k1)
  refine ⟨rfl, ⟨⟨Af, nf, cf, A9, c9, m1, E.m, fun k k1 k2 => m2 k k2 k1, h4, h5, fun k hk => ?_, fun k hk => ?_⟩, fun k k1 k2 k3 k4 => (E.block k (Nat.lt_of_lt_of_le k2 h.size) k3 (fun e => ?_)).trans (h.keep k k1 k2 k3 k4), h.hgs, h.hgf, h.hA, h.hb, Nat.le_trans h.size E.size, h.h3⟩, fun k hk => ?_⟩
  · rcases E.at_ _ hk with h9 | h9
    · exact h6 k h9
    · exact .inr (Nat.le_trans h.size h9)
  · obtain ⟨q1, q2, q3, q4, q5⟩ := h7 k hk
    refine ⟨q1, by omega, q3, q4, fun e => ?_⟩
    rcases E.at_ _ e with h9 | h9
    · exact q5 h9
    · omega
  · rcases h6 k e with h9 | h9
    · exact k4 h9
    · omega
  · obtain ⟨q1, q2, q3, q4, q5⟩ := h7 k hk
    exact E.block k q2 q3 q5
end
end Go.Proofs.YtnbecdahfgkffaaGreat
namespace Go.Proofs.YtnbecdahfgkffaaGreat
open Go.RowKit
theorem textInfo : (Tryz.prog.info? 9).map (fun i => (i.zero, i.size, i.bytes)) = some (some (.string ⟨#[]⟩), 1, 16) := by kernel_rfl
theorem strs_at {b : List ByteArray} {i : Nat} {x : ByteArray} (h : b[i]? = some x) : (b.map Value.string)[i]? = some (.string x) := by simp [h]
def backToT (b : List ByteArray) (k : Nat) : List Value := List.replicate k (.string ⟨#[]⟩) ++ (b.drop k).map Value.string
theorem backToT_set {b : List ByteArray} {k : Nat} {x : ByteArray} (h : b[k]? = some x) : (backToT b (k + 1)).set k (.string x) = backToT b k := by
  unfold backToT
  rw [List.drop_eq_getElem_cons (i := k) (by have := (List.getElem?_eq_some_iff.1 h).1; exact this)]
  have hx : b[k]'((List.getElem?_eq_some_iff.1 h).1) = x := (List.getElem?_eq_some_iff.1 h).2
  rw [hx, List.replicate_succ', List.append_assoc]
  rw [List.set_append]
  simp
set_option maxRecDepth 20000 in
set_option maxHeartbeats 1000000 in
theorem copyTexts_any (A : Option Addr) (m c B : Nat) (b : List ByteArray) (w : World) (hB : B ≤ w.heap.size) (hb : Rd w B 1 A m (b.map Value.string)) (hm : m ≤ 4294967296) :
    Calls Tryz.prog 67 #[.slice A m c] w fun e w' => ∃ A' c', e = .returned (.slice A' m c') ∧ w'.ownsRow w.heap.size 9 1 (.slice A' m c') m (b.map Value.string) ∧ Below w.heap.size w w' := by
  have hbl : b.length = m := by simpa using hb.len1
  rcases Nat.eq_zero_or_pos m with rfl | hpos
  · have hb0 : b = [] := List.eq_nil_of_length_eq_zero hbl
    subst hb0
    clear hb hbl
    go_enter Tryz.func67, Tryz.ntmps67
    go_wp2
    go_ret
    exact ⟨none, 0, rfl, World.ownsRow_nil _ _ _ _, Below.refl _ _⟩
  have hne : decide (m = 0) = false := by simp; omega
  obtain ⟨i, hi, hz0, hz1, hz2⟩ := info_parts textInfo
  have Hb := hide hb
  have Hbl := hide hbl
  have Hi := hide hi
  have Hz0 := hide hz0
  have Hz1 := hide hz1
  have Hz2 := hide hz2
  clear hb hbl hi hz0 hz1 hz2
  go_enter Tryz.func67, Tryz.ntmps67
  go_wp2_with (at_make; refine wpList_make_full _ rfl _ _ 25 rfl w.heap.size 9 i (.string ⟨#[]⟩) 1 Tryz.underlying25 (unhide Hi) (unhide Hz0) (unhide Hz1) _ _ _ _ m rfl rfl rfl rfl (by rw [unhide Hz2]; omega) (by unfold maxLen; omega) (Nat.le_refl _) ?_; intro w1 hown hgrow; have hb1 := (Below.refl w.heap.size w).grown hgrow (Nat.le_refl _) (fun k hk => by cases hk); have Hown := hide hown; have Hb1 := hide hb1; clear hown hgrow hb1)
  go_loopw [4] (fun at_ wr => ∃ k : Nat, k ≤ m ∧ at_ = .int .i64 ((k : Int) - 1) ∧ wr.ownsRow w.heap.size 9 1 (.slice (some ⟨w.heap.size, 0, none⟩) m m) m (backToT b k) ∧ Below w.heap.size w wr) (fun at_ _ => (intOf at_ + 1).toNat)
  case atStart =>
    refine ⟨m, Nat.le_refl _, rfl, ?_, unhide Hb1⟩
    have := unhide Hown
    have e : (madeCells (Value.string ⟨#[]⟩).cells (m * 1)).toList = backToT b m := by
      unfold backToT
      rw [List.drop_eq_nil_of_le (by rw [unhide Hbl]; exact Nat.le_refl _)]
      simp [Value.cells, toList_madeCells_one]
    rwa [e] at this
  case round =>
  clear Hown Hb1
  obtain ⟨k, hk, rfl, hown, hb2⟩ := hrel
  have Hown := hide hown
  have Hb2 := hide hb2
  clear hown hb2
  by_cases hk0 : k = 0
  · subst hk0
    go_wp2
    go_ret
    refine ⟨_, _, rfl, ?_, unhide Hb2⟩
    have := unhide Hown
    simpa [backToT] using this
  · obtain ⟨j, rfl⟩ : ∃ j, k = j + 1 := ⟨k - 1, by omega⟩
    obtain ⟨x, hx⟩ : ∃ x, b[j]? = some x := ⟨_, List.getElem?_eq_getElem (by rw [unhide Hbl]; omega)⟩
    obtain ⟨ab, ao, rfl, hlt, hc⟩ := ((unhide Hb).below ((unhide Hb2).mono hB)).at_ (strs_at hx)
    have hset := own_set (i := j) (unhide Hown) (.string x)
    rw [backToT_set hx] at hset
    have hcl : (backToT b (j + 1))[j]? = some (.string ⟨#[]⟩) := by simp [backToT, List.getElem?_append]
    have hc2 := own_cell (unhide Hown) hcl
    have hf2 := own_free (unhide Hown) j
    have hge := own_at (unhide Hown)
    have e1 : ((j + 1 : Nat) : Int) - 1 = (j : Int) := by omega
    rw [e1]
    have Hset := hide hset
    clear hset hcl hx
    go_wp2
    go_roundw
    case rel => exact ⟨j, by omega, rfl, unhide Hset, (unhide Hb2).setCell (Nat.le_refl _) _⟩
    case measure => simp [intOf]
end Go.Proofs.YtnbecdahfgkffaaGreat
namespace Go.Proofs.YtnbecdahfgkffaaGreat
open Go.RowKit
theorem symC_one (l : List Dy.Sym) : ∀ u ∈ symC l, u.oneCell' = true := by
  intro u hu
  obtain ⟨r, -, hr⟩ := List.mem_flatMap.1 hu
  simp only [symV, List.mem_cons, List.not_mem_nil, or_false] at hr
  rcases hr with rfl | rfl | rfl | rfl | rfl <;> rfl
theorem mrC_one (l : List Mk.Rel) : ∀ u ∈ mrC l, u.oneCell' = true := by
  intro u hu
  obtain ⟨r, -, hr⟩ := List.mem_flatMap.1 hu
  simp only [mrV, List.mem_cons, List.not_mem_nil, or_false] at hr
  rcases hr with rfl | rfl | rfl | rfl <;> rfl
theorem dynInfo : (Tryz.prog.info? 29).map (·.size) = some 5 := by kernel_rfl
theorem apiInfo : (Tryz.prog.info? 31).map (·.size) = some 13 := by kernel_rfl
theorem dq_one (q : Dq) : q.l.toArray.all (·.oneCell') = true := by simp [Dq.l, Value.oneCell']
theorem xq_one (s : Xq) : s.l.toArray.all (·.oneCell') = true := by simp [Xq.l, Value.oneCell']
theorem below_set {B : Nat} {a w : World} (h : Below B a w) {p : Addr} (hp : B ≤ p.block) (u : Value) : Below B a (w.setCell p u) :=
  ⟨h.os, h.tape, h.output, by simpa using h.size, fun k hk => (heap_setCell_other _ _ _ _ (by omega)).trans (h.block k hk)⟩
theorem Rd.setC {w : World} {B size n : Nat} {A : Option Addr} {xs : List Value} (h : Rd w B size A n xs) {p : Addr} (hp : bk A ≠ some p.block) (u : Value) : Rd (w.setCell p u) B size A n xs := by
  refine ⟨h.1, h.2.imp id ?_⟩
  rintro ⟨b, off, e, hb, hc⟩
  refine ⟨b, off, e, hb, fun j v hv => ?_⟩
  rw [cell_blk (heap_setCell_other w p b u (fun e2 => hp (by rw [e, ← e2]; rfl)))]
  exact hc j v hv
theorem own_setCells {base n c z b : Nat} {A : Option Addr} {e : TypeId} {xs : List Value} (hp : bk A ≠ some b) : ∀ (vs : List Value) (o : Nat) (w : World), w.ownsRow base e z (.slice A n c) n xs → (w.setCells b o vs).ownsRow base e z (.slice A n c) n xs
  | [], _, _, h => h
  | v :: r, o, w, h => own_setCells hp r (o + 1) _ (own_setG h (p := ⟨b, o, none⟩) hp v)
theorem below_setCells {B b : Nat} {a : World} (hp : B ≤ b) : ∀ (vs : List Value) (o : Nat) (w : World), Below B a w → Below B a (w.setCells b o vs)
  | [], _, _, h => h
  | v :: r, o, w, h => below_setCells hp r (o + 1) _ (below_set h (p := ⟨b, o, none⟩) hp v)
theorem Rd.setCells {B n z b : Nat} {A : Option Addr} {xs : List Value} (hp : bk A ≠ some b) : ∀ (vs : List Value) (o : Nat) (w : World), Rd w B z A n xs → Rd (w.setCells b o vs) B z A n xs
  | [], _, _, h => h
  | v :: r, o, w, h => Rd.setCells hp r (o + 1) _ (Rd.setC h (p := ⟨b, o, none⟩) hp v)
theorem size_setCells {b : Nat} : ∀ (vs : List Value) (o : Nat) (w : World), (w.setCells b o vs).heap.size = w.heap.size
  | [], _, _ => rfl
  | v :: r, o, w => by rw [World.setCells, size_setCells r (o + 1)]; simp
theorem Rd.setRowN {w : World} {B size n k : Nat} {A : Option Addr} {xs : List Value} (h : Rd w B size A n xs) (hp : bk A ≠ some k) (cs : Array Value) : Rd (w.setRow k cs) B size A n xs := by
  refine ⟨h.1, h.2.imp id ?_⟩
  rintro ⟨b, off, e, hb, hc⟩
  refine ⟨b, off, e, hb, fun j v hv => ?_⟩
  rw [cell_blk (setRow_other w k b cs (fun e2 => hp (by rw [e, ← e2]; rfl)))]
  exact hc j v hv
theorem own_setRowN {w : World} {base n c z k : Nat} {A : Option Addr} {e : TypeId} {xs : List Value} (h : w.ownsRow base e z (.slice A n c) n xs) (hp : bk A ≠ some k) (cs : Array Value) : (w.setRow k cs).ownsRow base e z (.slice A n c) n xs :=
  own_same h fun j hj => setRow_other w k j cs (fun e => hp (by rw [← e]; exact hj))
theorem own_capG {w : World} {base n c size : Nat} {e : TypeId} {A : Option Addr} {xs : List Value} (h : w.ownsRow base e size (.slice A n c) n xs) : n ≤ c := by
  rcases h.2 with ⟨e1, h0⟩ | ⟨g, cap, cur, e1, e2, e3, h4, -⟩
  · injection e1 with _ _ e3; omega
  · injection e1 with _ _ e3; omega
def Copy13E (q : Dq) (w : World) (e : Ending) (w' : World) : Prop := ∃ q' : Dq, q'.d = q.d ∧ e = .returned (.agg q'.l.toArray) ∧ DqM w' w'.heap.size q' ∧ (q.d.needed.length ≤ q'.c1 ∧ q.d.syms.length ≤ q'.c2 ∧ q.d.relas.length ≤ q'.c3) ∧ Below w.heap.size w w' ∧ (∀ k, bk q'.A1 = some k → w.heap.size ≤ k) ∧ (∀ k, bk q'.A2 = some k → w.heap.size ≤ k) ∧ ∀ k, bk q'.A3 = some k → w.heap.size ≤ k
set_option maxRecDepth 100000 in
set_option maxHeartbeats 60000000 in
theorem rcopy13_any (q : Dq) (B : Nat) (w : World) (hB : B ≤ w.heap.size) (h : DqM w B q) (h1 : q.d.needed.length ≤ 1048576) (h2 : q.d.syms.length ≤ 1048576) (h3 : q.d.relas.length ≤ 1048576) :
    Calls Tryz.prog 24 #[.agg q.l.toArray] w (Copy13E q w) := by
  have e1 : (w.alloc (.cells #[.slice q.A1 q.d.needed.length q.c1, .string q.d.soname, .string q.d.run, .slice q.A2 q.d.syms.length q.c2, .slice q.A3 q.d.relas.length q.c3] 29)).heap.size = w.heap.size + 1 := by simp
  have e2 : ((w.alloc (.cells #[.slice q.A1 q.d.needed.length q.c1, .string q.d.soname, .string q.d.run, .slice q.A2 q.d.syms.length q.c2, .slice q.A3 q.d.relas.length q.c3] 29)).alloc (.cells #[.slice none 0 0, .string ⟨#[]⟩, .string ⟨#[]⟩, .slice none 0 0, .slice none 0 0] 29)).heap.size = w.heap.size + 1 + 1 := by simp
  have hb1 : Below w.heap.size w ((w.alloc (.cells #[.slice q.A1 q.d.needed.length q.c1, .string q.d.soname, .string q.d.run, .slice q.A2 q.d.syms.length q.c2, .slice q.A3 q.d.relas.length q.c3] 29)).alloc (.cells #[.slice none 0 0, .string ⟨#[]⟩, .string ⟨#[]⟩, .slice none 0 0, .slice none 0 0] 29)) := ((Below.refl _ _).alloc (Nat.le_refl _) _).alloc (by simp) _
  have hd : Blk ((w.alloc (.cells #[.slice q.A1 q.d.needed.length q.c1, .string q.d.soname, .string q.d.run, .slice q.A2 q.d.syms.length q.c2, .slice q.A3 q.d.relas.length q.c3] 29)).alloc (.cells #[.slice none 0 0, .string ⟨#[]⟩, .string ⟨#[]⟩, .slice none 0 0, .slice none 0 0] 29)) w.heap.size 29 q.l := (Blk.new w 29 q.l).alloc (.cells #[.slice none 0 0, .string ⟨#[]⟩, .string ⟨#[]⟩, .slice none 0 0, .slice none 0 0] 29)
  have hz := Blk.new (w.alloc (.cells #[.slice q.A1 q.d.needed.length q.c1, .string q.d.soname, .string q.d.run, .slice q.A2 q.d.syms.length q.c2, .slice q.A3 q.d.relas.length q.c3] 29)) 29 [.slice none 0 0, .string ⟨#[]⟩, .string ⟨#[]⟩, .slice none 0 0, .slice none 0 0]
  rw [e1] at hz
  have hq := h.below (hb1.mono hB)
  have y3 := hd.cell (i := 3) (u := .slice q.A2 q.d.syms.length q.c2) rfl
  have y4 := hd.cell (i := 4) (u := .slice q.A3 q.d.relas.length q.c3) rfl
  have y0 := hd.cell (i := 0) (u := .slice q.A1 q.d.needed.length q.c1) rfl
  have Hb1 := hide hb1
  have Hd := hide hd
  have Hz := hide hz
  have Hq := hide hq
  have Hn0 := hide (World.ownsRow_nil ((w.alloc (.cells #[.slice q.A1 q.d.needed.length q.c1, .string q.d.soname, .string q.d.run, .slice q.A2 q.d.syms.length q.c2, .slice q.A3 q.d.relas.length q.c3] 29)).alloc (.cells #[.slice none 0 0, .string ⟨#[]⟩, .string ⟨#[]⟩, .slice none 0 0, .slice none 0 0] 29)) (w.heap.size + 1 + 1) 48 5)
  have hs2 : w.heap.size + 1 + 1 ≤ ((w.alloc (.cells #[.slice q.A1 q.d.needed.length q.c1, .string q.d.soname, .string q.d.run, .slice q.A2 q.d.syms.length q.c2, .slice q.A3 q.d.relas.length q.c3] 29)).alloc (.cells #[.slice none 0 0, .string ⟨#[]⟩, .string ⟨#[]⟩, .slice none 0 0, .slice none 0 0] 29)).heap.size := by rw [e2]; exact Nat.le_refl _
  show Calls _ _ #[.agg #[.slice q.A1 q.d.needed.length q.c1, .string q.d.soname, .string q.d.run, .slice q.A2 q.d.syms.length q.c2, .slice q.A3 q.d.relas.length q.c3]] w _
  clear hb1 hd hz hq h e1 e2 y0 y4
  go_enter Tryz.func24, Tryz.ntmps24
  go_upto_region 3 with fail
  generalize ((w.alloc (.cells #[.slice q.A1 q.d.needed.length q.c1, .string q.d.soname, .string q.d.run, .slice q.A2 q.d.syms.length q.c2, .slice q.A3 q.d.relas.length q.c3] 29)).alloc (.cells #[.slice none 0 0, .string ⟨#[]⟩, .string ⟨#[]⟩, .slice none 0 0, .slice none 0 0] 29)) = W at *
  go_cut [3] (fun sv wx => ∃ (A : Option Addr) (c : Nat), sv = .slice A q.d.syms.length c ∧ wx.ownsRow (w.heap.size + 1 + 1) 48 5 (.slice A q.d.syms.length c) q.d.syms.length (symC q.d.syms) ∧ Below W.heap.size W wx)
  case first =>
    go_wp2_with (at_builtin; refine wpList_app syTy rfl _ _ rfl (w.heap.size + 1 + 1) (.slice none 0 0) 0 _ rfl (unhide Hn0) B q.A2 q.d.syms.length q.c2 (symC q.d.syms) rfl (unhide Hq).syms (symC_one _) (by omega) hs2 ?_; intro A5 c5 w5 ho5 hg5 ha5; have HO5 := hide ho5; have HB5 := hide ((Below.refl W.heap.size W).grown hg5 (Nat.le_refl _) (fun k hk => by cases hk)); clear ho5 hg5 ha5)
    go_meet
    case rel =>
      refine ⟨A5, c5, by first | rfl | simp, ?_, unhide HB5⟩
      have h9 := unhide HO5
      simp only [Nat.zero_add, List.nil_append] at h9
      exact h9
  case rest =>
    obtain ⟨As, cs, rfl, hoS, hbS⟩ := hcut
    have y4 := ((unhide Hd).belowSz hbS).cell (i := 4) (u := .slice q.A3 q.d.relas.length q.c3) rfl
    have Hn0' := hide (World.ownsRow_nil wc (w.heap.size + 1 + 1) 141 4)
    have HqS := hide ((unhide Hq).below (hbS.mono (by omega)))
    have hs3 : w.heap.size + 1 + 1 ≤ wc.heap.size := by have := hbS.size; omega
    have HoS := hide hoS
    have HbS := hide hbS
    obtain ⟨w3, hw3⟩ : ∃ w3, w3 = wc := ⟨_, rfl⟩
    rw [← hw3] at y4 Hn0' HqS hs3 HoS HbS ⊢
    clear hoS hbS y3 hw3
    go_upto_region 4 with fail
    go_cut [4] (fun sv wx => ∃ (A : Option Addr) (c : Nat), sv = .slice A q.d.relas.length c ∧ wx.ownsRow (w.heap.size + 1 + 1) 141 4 (.slice A q.d.relas.length c) q.d.relas.length (mrC q.d.relas) ∧ Below w3.heap.size w3 wx)
    case first =>
      go_wp2_with (at_builtin; refine wpList_app reTy rfl _ _ rfl (w.heap.size + 1 + 1) (.slice none 0 0) 0 _ rfl (unhide Hn0') B q.A3 q.d.relas.length q.c3 (mrC q.d.relas) rfl (unhide HqS).relas (mrC_one _) (by omega) hs3 ?_; intro A5 c5 w5 ho5 hg5 ha5; have HO5 := hide ho5; have HB5 := hide ((Below.refl w3.heap.size w3).grown hg5 (Nat.le_refl _) (fun k hk => by cases hk)); clear ho5 hg5 ha5)
      go_meet
      case rel =>
        refine ⟨A5, c5, by first | rfl | simp, ?_, unhide HB5⟩
        have h9 := unhide HO5
        simp only [Nat.zero_add, List.nil_append] at h9
        exact h9
    case rest =>
      obtain ⟨Ar, cr, rfl, hoR, hbR⟩ := hcut
      have hb4 := (unhide HbS).trans (hbR.mono (unhide HbS).size)
      have hd4 := (unhide Hd).belowSz hb4
      have hz4 := (unhide Hz).belowSz hb4
      have y0 := hd4.cell (i := 0) (u := .slice q.A1 q.d.needed.length q.c1) rfl
      have hs4 : w.heap.size + 1 + 1 ≤ wc.heap.size := by have := hb4.size; omega
      have KT := hide (copyTexts_any q.A1 q.d.needed.length q.c1 B q.d.needed wc (by omega) ((unhide Hq).below (hb4.mono (by omega))).needed (by omega))
      have HoS4 := hide (own_below (unhide HoS) hbR)
      have HoR := hide hoR
      have Hb4 := hide ((unhide Hb1).trans (hb4.mono (by omega)))
      have Hd4 := hide hd4
      have Hz4 := hide hz4
      clear hoR hbR hb4 hd4 hz4 y4 HoS HbS Hn0' Hn0 HqS Hq Hb1 Hd Hz
      go_wp2_with fail
      refine (unhide KT).mono ?_
      rintro e w5 ⟨A5, c5, rfl, hoT, hb5⟩
      have hd5 := (unhide Hd4).belowSz hb5
      have hz5 := (unhide Hz4).belowSz hb5
      have hoS5 := own_below (unhide HoS4) hb5
      have hoR5 := own_below (unhide HoR) hb5
      have hbT := (unhide Hb4).trans (hb5.mono (by omega))
      have hltS := own_bklt hoS5
      have hltR := own_bklt hoR5
      have hltT := own_bklt hoT
      have z0 := hd5.free 0
      have hd6 := hd5.set 0 (.slice A5 q.d.needed.length c5)
      have z3 := hd6.free 3
      have hd7 := hd6.set 3 (.slice As q.d.syms.length cs)
      have z4 := hd7.free 4
      have hd8 := hd7.set 4 (.slice Ar q.d.relas.length cr)
      have x0 := hd5.cell (i := 0) (u := .slice q.A1 q.d.needed.length q.c1) rfl
      have x3 := hd6.cell (i := 3) (u := .slice q.A2 q.d.syms.length q.c2) rfl
      have x4 := hd7.cell (i := 4) (u := .slice q.A3 q.d.relas.length q.c3) rfl
      obtain ⟨q', hq'⟩ : ∃ q' : Dq, q' = ⟨q.d, A5, c5, As, cs, Ar, cr⟩ := ⟨_, rfl⟩
      have hc := And.intro (hd8.cell (i := 0) (u := .slice A5 q.d.needed.length c5) rfl) (And.intro (hd8.cell (i := 1) (u := .string q.d.soname) rfl) (And.intro (hd8.cell (i := 2) (u := .string q.d.run) rfl) (And.intro (hd8.cell (i := 3) (u := .slice As q.d.syms.length cs) rfl) (hd8.cell (i := 4) (u := .slice Ar q.d.relas.length cr) rfl))))
      obtain ⟨c0, c1, c2, c3, c4⟩ := hc
      have hz8 := ((hz5.other (by show w.heap.size ≠ w.heap.size + 1; omega) (.slice A5 q.d.needed.length c5) (p := ⟨w.heap.size, 0, none⟩)).other (by show w.heap.size ≠ w.heap.size + 1; omega) (.slice As q.d.syms.length cs) (p := ⟨w.heap.size, 3, none⟩)).other (by show w.heap.size ≠ w.heap.size + 1; omega) (.slice Ar q.d.relas.length cr) (p := ⟨w.heap.size, 4, none⟩)
      have hn5 : bk A5 ≠ some w.heap.size := fun e => by have := (hltT _ e).1; omega
      have hnS : bk As ≠ some w.heap.size := fun e => by have := (hltS _ e).1; omega
      have hnR : bk Ar ≠ some w.heap.size := fun e => by have := (hltR _ e).1; omega
      have oT := own_setG (own_setG (own_setG hoT (p := ⟨w.heap.size, 0, none⟩) hn5 (.slice A5 q.d.needed.length c5)) (p := ⟨w.heap.size, 3, none⟩) hn5 (.slice As q.d.syms.length cs)) (p := ⟨w.heap.size, 4, none⟩) hn5 (.slice Ar q.d.relas.length cr)
      have oS := own_setG (own_setG (own_setG hoS5 (p := ⟨w.heap.size, 0, none⟩) hnS (.slice A5 q.d.needed.length c5)) (p := ⟨w.heap.size, 3, none⟩) hnS (.slice As q.d.syms.length cs)) (p := ⟨w.heap.size, 4, none⟩) hnS (.slice Ar q.d.relas.length cr)
      have oR := own_setG (own_setG (own_setG hoR5 (p := ⟨w.heap.size, 0, none⟩) hnR (.slice A5 q.d.needed.length c5)) (p := ⟨w.heap.size, 3, none⟩) hnR (.slice As q.d.syms.length cs)) (p := ⟨w.heap.size, 4, none⟩) hnR (.slice Ar q.d.relas.length cr)
      have hbF := below_set (below_set (below_set hbT (p := ⟨w.heap.size, 0, none⟩) (Nat.le_refl _) (.slice A5 q.d.needed.length c5)) (p := ⟨w.heap.size, 3, none⟩) (Nat.le_refl _) (.slice As q.d.syms.length cs)) (p := ⟨w.heap.size, 4, none⟩) (Nat.le_refl _) (.slice Ar q.d.relas.length cr)
      have HoT := hide oT
      have HoSf := hide oS
      have HoRf := hide oR
      have HbF := hide hbF
      have Hz8 := hide hz8
      have Hfr := hide (And.intro (fun k hk => show w.heap.size ≤ k by have := (hltT k hk).1; omega) (And.intro (fun k hk => show w.heap.size ≤ k by have := (hltS k hk).1; omega) (fun k hk => show w.heap.size ≤ k by have := (hltR k hk).1; omega)))
      have Hcaps := hide (And.intro (own_capG hoT) (And.intro (own_capG hoS5) (own_capG hoR5)))
      have hs5 := hb5.size
      clear hd5 hz5 hoS5 hoR5 hbT hltS hltR hltT hd6 hd7 hd8 hz8 oT oS oR hbF hoT hb5 KT Hd4 Hz4 HoS4 HoR Hb4 y0
      go_wp2_with ((with_reducible refine (@id (wpList _ _ _ (Oper.mk none (Op.store 29 (.tmp 2) (.tmp 21)) _ _ _ none :: _) _ _) ?_)); refine wpList_store_row rfl 29 (.tmp 2) (.tmp 21) rfl (w.heap.size + 1) (Dq.l ⟨q.d, A5, c5, As, cs, Ar, cr⟩).toArray rfl rfl 29 _ (unhide Hz8) dynInfo rfl (dq_one _) ?_)
      refine bodyPost_ret (results_cell_row (P := Tryz.prog) rfl _ _ (w.heap.size + 1) 29 (Dq.l ⟨q.d, A5, c5, As, cs, Ar, cr⟩).toArray (0, 0) _ rfl (setRow_heap _ _ _ _ _ _ (unhide Hz8)) Tryz.underlying29 rfl dynInfo) rfl ?_
      exact ⟨⟨q.d, A5, c5, As, cs, Ar, cr⟩, rfl, rfl, ⟨Rd.of_own (own_setRowG (unhide HoT) (by omega) _), Rd.of_own (own_setRowG (unhide HoSf) (by omega) _), Rd.of_own (own_setRowG (unhide HoRf) (by omega) _)⟩, unhide Hcaps, below_setRow (unhide HbF) (by omega) _, (unhide Hfr).1, (unhide Hfr).2.1, (unhide Hfr).2.2⟩
def CopiedE (s : Xq) (w : World) (e : Ending) (w' : World) : Prop := ∃ s' : Xq, s'.x = s.x ∧ e = .returned (.agg s'.l.toArray) ∧ XqM w' w'.heap.size s' ∧ (s.x.dyn.needed.length ≤ s'.c1 ∧ s.x.dyn.syms.length ≤ s'.c2 ∧ s.x.dyn.relas.length ≤ s'.c3) ∧ Below w.heap.size w w' ∧ ∃ b2, w.heap.size ≤ b2 ∧ b2 ≤ w'.heap.size ∧ w'.ownsRow w.heap.size 5 1 (.slice s'.At s.x.text.length s'.ct) s.x.text.length (bys s.x.text) ∧ (∀ k, bk s'.At = some k → k < b2) ∧ w'.ownsRow b2 5 1 (.slice s'.Ad s.x.data.length s'.cd) s.x.data.length (bys s.x.data)
set_option maxRecDepth 100000 in
set_option maxHeartbeats 60000000 in
theorem copied14_any (s : Xq) (B : Nat) (w : World) (hB : B ≤ w.heap.size) (h : XqM w B s) (h0 : s.x.text.length ≤ 1048576) (h00 : s.x.data.length ≤ 1048576) (h1 : s.x.dyn.needed.length ≤ 1048576) (h2 : s.x.dyn.syms.length ≤ 1048576) (h3 : s.x.dyn.relas.length ≤ 1048576) :
    Calls Tryz.prog 8 #[.agg s.l.toArray] w (CopiedE s w) := by
  have e1 : (w.alloc (.cells #[.int .u16 (s.x.type : Nat), .int .u64 (s.x.entry : Nat), .string s.x.interp, .slice s.At s.x.text.length s.ct, .slice s.Ad s.x.data.length s.cd, .int .u64 (s.x.more : Nat), .bool s.x.dynamic, .slice s.A1 s.x.dyn.needed.length s.c1, .string s.x.dyn.soname, .string s.x.dyn.run, .slice s.A2 s.x.dyn.syms.length s.c2, .slice s.A3 s.x.dyn.relas.length s.c3, .int .i64 s.x.apart] 31)).heap.size = w.heap.size + 1 := by simp
  have e2 : ((w.alloc (.cells #[.int .u16 (s.x.type : Nat), .int .u64 (s.x.entry : Nat), .string s.x.interp, .slice s.At s.x.text.length s.ct, .slice s.Ad s.x.data.length s.cd, .int .u64 (s.x.more : Nat), .bool s.x.dynamic, .slice s.A1 s.x.dyn.needed.length s.c1, .string s.x.dyn.soname, .string s.x.dyn.run, .slice s.A2 s.x.dyn.syms.length s.c2, .slice s.A3 s.x.dyn.relas.length s.c3, .int .i64 s.x.apart] 31)).alloc (.cells #[.int .u16 0, .int .u64 0, .string ⟨#[]⟩, .slice none 0 0, .slice none 0 0, .int .u64 0, .bool false, .slice none 0 0, .string ⟨#[]⟩, .string ⟨#[]⟩, .slice none 0 0, .slice none 0 0, .int .i64 0] 31)).heap.size = w.heap.size + 1 + 1 := by simp
  have hb1 : Below w.heap.size w ((w.alloc (.cells #[.int .u16 (s.x.type : Nat), .int .u64 (s.x.entry : Nat), .string s.x.interp, .slice s.At s.x.text.length s.ct, .slice s.Ad s.x.data.length s.cd, .int .u64 (s.x.more : Nat), .bool s.x.dynamic, .slice s.A1 s.x.dyn.needed.length s.c1, .string s.x.dyn.soname, .string s.x.dyn.run, .slice s.A2 s.x.dyn.syms.length s.c2, .slice s.A3 s.x.dyn.relas.length s.c3, .int .i64 s.x.apart] 31)).alloc (.cells #[.int .u16 0, .int .u64 0, .string ⟨#[]⟩, .slice none 0 0, .slice none 0 0, .int .u64 0, .bool false, .slice none 0 0, .string ⟨#[]⟩, .string ⟨#[]⟩, .slice none 0 0, .slice none 0 0, .int .i64 0] 31)) := ((Below.refl _ _).alloc (Nat.le_refl _) _).alloc (by simp) _
  have hd : Blk ((w.alloc (.cells #[.int .u16 (s.x.type : Nat), .int .u64 (s.x.entry : Nat), .string s.x.interp, .slice s.At s.x.text.length s.ct, .slice s.Ad s.x.data.length s.cd, .int .u64 (s.x.more : Nat), .bool s.x.dynamic, .slice s.A1 s.x.dyn.needed.length s.c1, .string s.x.dyn.soname, .string s.x.dyn.run, .slice s.A2 s.x.dyn.syms.length s.c2, .slice s.A3 s.x.dyn.relas.length s.c3, .int .i64 s.x.apart] 31)).alloc (.cells #[.int .u16 0, .int .u64 0, .string ⟨#[]⟩, .slice none 0 0, .slice none 0 0, .int .u64 0, .bool false, .slice none 0 0, .string ⟨#[]⟩, .string ⟨#[]⟩, .slice none 0 0, .slice none 0 0, .int .i64 0] 31)) w.heap.size 31 s.l := (Blk.new w 31 s.l).alloc (.cells #[.int .u16 0, .int .u64 0, .string ⟨#[]⟩, .slice none 0 0, .slice none 0 0, .int .u64 0, .bool false, .slice none 0 0, .string ⟨#[]⟩, .string ⟨#[]⟩, .slice none 0 0, .slice none 0 0, .int .i64 0] 31)
  have hz := Blk.new (w.alloc (.cells #[.int .u16 (s.x.type : Nat), .int .u64 (s.x.entry : Nat), .string s.x.interp, .slice s.At s.x.text.length s.ct, .slice s.Ad s.x.data.length s.cd, .int .u64 (s.x.more : Nat), .bool s.x.dynamic, .slice s.A1 s.x.dyn.needed.length s.c1, .string s.x.dyn.soname, .string s.x.dyn.run, .slice s.A2 s.x.dyn.syms.length s.c2, .slice s.A3 s.x.dyn.relas.length s.c3, .int .i64 s.x.apart] 31)) 31 [.int .u16 0, .int .u64 0, .string ⟨#[]⟩, .slice none 0 0, .slice none 0 0, .int .u64 0, .bool false, .slice none 0 0, .string ⟨#[]⟩, .string ⟨#[]⟩, .slice none 0 0, .slice none 0 0, .int .i64 0]
  rw [e1] at hz
  have hx := h.below (hb1.mono hB)
  have Hx0 := hide h
  have y3 := hd.cell (i := 3) (u := .slice s.At s.x.text.length s.ct) rfl
  have hs2 : w.heap.size + 1 + 1 ≤ ((w.alloc (.cells #[.int .u16 (s.x.type : Nat), .int .u64 (s.x.entry : Nat), .string s.x.interp, .slice s.At s.x.text.length s.ct, .slice s.Ad s.x.data.length s.cd, .int .u64 (s.x.more : Nat), .bool s.x.dynamic, .slice s.A1 s.x.dyn.needed.length s.c1, .string s.x.dyn.soname, .string s.x.dyn.run, .slice s.A2 s.x.dyn.syms.length s.c2, .slice s.A3 s.x.dyn.relas.length s.c3, .int .i64 s.x.apart] 31)).alloc (.cells #[.int .u16 0, .int .u64 0, .string ⟨#[]⟩, .slice none 0 0, .slice none 0 0, .int .u64 0, .bool false, .slice none 0 0, .string ⟨#[]⟩, .string ⟨#[]⟩, .slice none 0 0, .slice none 0 0, .int .i64 0] 31)).heap.size := by rw [e2]; exact Nat.le_refl _
  have Hb1 := hide hb1
  have Hd := hide hd
  have Hz := hide hz
  have Hx := hide hx
  show Calls _ _ #[.agg #[.int .u16 (s.x.type : Nat), .int .u64 (s.x.entry : Nat), .string s.x.interp, .slice s.At s.x.text.length s.ct, .slice s.Ad s.x.data.length s.cd, .int .u64 (s.x.more : Nat), .bool s.x.dynamic, .slice s.A1 s.x.dyn.needed.length s.c1, .string s.x.dyn.soname, .string s.x.dyn.run, .slice s.A2 s.x.dyn.syms.length s.c2, .slice s.A3 s.x.dyn.relas.length s.c3, .int .i64 s.x.apart]] w _
  have K0 := hide (copyBytes_any s.At s.x.text.length s.ct B s.x.text _ (Nat.le_trans hB (unhide Hb1).size) (unhide Hx).text (by omega))
  clear hb1 hd hz hx h e1 e2
  go_enter Tryz.func8, Tryz.ntmps8
  go_wp2_with fail
  refine (unhide K0).mono ?_
  rintro e w3 ⟨A3, c3, rfl, ho3, hb3⟩
  generalize ((w.alloc (.cells #[.int .u16 (s.x.type : Nat), .int .u64 (s.x.entry : Nat), .string s.x.interp, .slice s.At s.x.text.length s.ct, .slice s.Ad s.x.data.length s.cd, .int .u64 (s.x.more : Nat), .bool s.x.dynamic, .slice s.A1 s.x.dyn.needed.length s.c1, .string s.x.dyn.soname, .string s.x.dyn.run, .slice s.A2 s.x.dyn.syms.length s.c2, .slice s.A3 s.x.dyn.relas.length s.c3, .int .i64 s.x.apart] 31)).alloc (.cells #[.int .u16 0, .int .u64 0, .string ⟨#[]⟩, .slice none 0 0, .slice none 0 0, .int .u64 0, .bool false, .slice none 0 0, .string ⟨#[]⟩, .string ⟨#[]⟩, .slice none 0 0, .slice none 0 0, .int .i64 0] 31)) = W at *
  have hd3 := (unhide Hd).belowSz hb3
  have hz3 := (unhide Hz).belowSz hb3
  have hbw3 := (unhide Hb1).trans (hb3.mono (unhide Hb1).size)
  have hs3 := hb3.size
  have x3 := hd3.cell (i := 3) (u := .slice s.At s.x.text.length s.ct) rfl
  have z3 := hd3.free 3
  have hd4 := hd3.set 3 (.slice A3 s.x.text.length c3)
  have y4 := hd4.cell (i := 4) (u := .slice s.Ad s.x.data.length s.cd) rfl
  have hz4 := hz3.other (by show w.heap.size ≠ w.heap.size + 1; omega) (.slice A3 s.x.text.length c3) (p := ⟨w.heap.size, 3, none⟩)
  have hbw4 := below_set hbw3 (p := ⟨w.heap.size, 3, none⟩) (Nat.le_refl _) (.slice A3 s.x.text.length c3)
  have ho4 := own_setG ho3 (p := ⟨w.heap.size, 3, none⟩) (fun e => by have h9 : bk A3 = some w.heap.size := e; have := (own_bklt ho3 _ h9).1; omega) (.slice A3 s.x.text.length c3)
  have hlt4 := own_bklt ho4
  have K1 := hide (copyBytes_any s.Ad s.x.data.length s.cd B s.x.data _ (by have := hbw4.size; omega) ((unhide Hx0).below (hbw4.mono hB)).data (by omega))
  have hs4 : (w3.setCell ⟨w.heap.size, 3, none⟩ (.slice A3 s.x.text.length c3)).heap.size = w3.heap.size := by simp
  have Hd4 := hide hd4
  have Hz4 := hide hz4
  have Hbw4 := hide hbw4
  have Ho4 := hide ho4
  have Hlt4 := hide hlt4
  clear hd3 hz3 hbw3 ho3 hb3 hd4 hz4 hbw4 ho4 hlt4 K0 y3 Hb1 Hd Hz Hx
  go_wp2_with fail
  refine (unhide K1).mono ?_
  rintro e w5 ⟨A5, c5, rfl, ho5, hb5⟩
  rw [hs4] at ho5
  have hd5 := (unhide Hd4).belowSz hb5
  have hz5 := (unhide Hz4).belowSz hb5
  have hbw5 := (unhide Hbw4).trans (hb5.mono (unhide Hbw4).size)
  have ho45 := own_below (unhide Ho4) hb5
  have hs5 : w3.heap.size ≤ w5.heap.size := by have := hb5.size; omega
  generalize (w3.setCell ⟨w.heap.size, 3, none⟩ (.slice A3 s.x.text.length c3)) = W4 at *
  have x4 := hd5.cell (i := 4) (u := .slice s.Ad s.x.data.length s.cd) rfl
  have z4 := hd5.free 4
  have hd6 := hd5.set 4 (.slice A5 s.x.data.length c5)
  have hz6 := hz5.other (by show w.heap.size ≠ w.heap.size + 1; omega) (.slice A5 s.x.data.length c5) (p := ⟨w.heap.size, 4, none⟩)
  have hbw6 := below_set hbw5 (p := ⟨w.heap.size, 4, none⟩) (Nat.le_refl _) (.slice A5 s.x.data.length c5)
  have ho46 := own_setG ho45 (p := ⟨w.heap.size, 4, none⟩) (fun e => by have h9 : bk A3 = some w.heap.size := e; have := ((unhide Hlt4) _ h9).1; omega) (.slice A5 s.x.data.length c5)
  have ho56 := own_setG ho5 (p := ⟨w.heap.size, 4, none⟩) (fun e => by have h9 : bk A5 = some w.heap.size := e; have := (own_bklt ho5 _ h9).1; omega) (.slice A5 s.x.data.length c5)
  obtain ⟨y7, y8, y9, y10, y11⟩ := And.intro (hd6.cell (i := 7) (u := .slice s.A1 s.x.dyn.needed.length s.c1) rfl) (And.intro (hd6.cell (i := 8) (u := .string s.x.dyn.soname) rfl) (And.intro (hd6.cell (i := 9) (u := .string s.x.dyn.run) rfl) (And.intro (hd6.cell (i := 10) (u := .slice s.A2 s.x.dyn.syms.length s.c2) rfl) (hd6.cell (i := 11) (u := .slice s.A3 s.x.dyn.relas.length s.c3) rfl))))
  have hs6 : (w5.setCell ⟨w.heap.size, 4, none⟩ (.slice A5 s.x.data.length c5)).heap.size = w5.heap.size := by simp
  have K2 : Hid (Calls Tryz.prog 24 #[.agg #[.slice s.A1 s.x.dyn.needed.length s.c1, .string s.x.dyn.soname, .string s.x.dyn.run, .slice s.A2 s.x.dyn.syms.length s.c2, .slice s.A3 s.x.dyn.relas.length s.c3]] (w5.setCell ⟨w.heap.size, 4, none⟩ (.slice A5 s.x.data.length c5)) (Copy13E s.q (w5.setCell ⟨w.heap.size, 4, none⟩ (.slice A5 s.x.data.length c5)))) := hide (rcopy13_any s.q B _ (by have := hbw6.size; omega) ((unhide Hx0).below (hbw6.mono hB)).dyn h1 h2 h3)
  have Hd6 := hide hd6
  have Hz6 := hide hz6
  have Hbw6 := hide hbw6
  have Ho46 := hide ho46
  have Ho56 := hide ho56
  clear hd5 hz5 hbw5 ho45 ho5 hb5 hd6 hz6 hbw6 ho46 ho56 K1 Hd4 Hz4 Hbw4 Ho4 y4
  go_wp2_with fail
  refine (unhide K2).mono ?_
  rintro e w7 ⟨q', hq1, rfl, hq7, hcap, hb7, hf1, hf2, hf3⟩
  have hbs7 : w3.heap.size ≤ w7.heap.size := by have := hb7.size; rw [hs6] at this; omega
  have hd7 := (unhide Hd6).belowSz hb7
  have hz7 := (unhide Hz6).belowSz hb7
  have hbw7 := (unhide Hbw6).trans (hb7.mono (unhide Hbw6).size)
  have ho47 := own_below (unhide Ho46) hb7
  have ho57 := own_below (unhide Ho56) hb7
  generalize (w5.setCell ⟨w.heap.size, 4, none⟩ (.slice A5 s.x.data.length c5)) = W6 at *
  obtain ⟨x7, x8, x9, x10, x11⟩ := And.intro (hd7.cell (i := 7) (u := .slice s.A1 s.x.dyn.needed.length s.c1) rfl) (And.intro (hd7.cell (i := 8) (u := .string s.x.dyn.soname) rfl) (And.intro (hd7.cell (i := 9) (u := .string s.x.dyn.run) rfl) (And.intro (hd7.cell (i := 10) (u := .slice s.A2 s.x.dyn.syms.length s.c2) rfl) (hd7.cell (i := 11) (u := .slice s.A3 s.x.dyn.relas.length s.c3) rfl))))
  obtain ⟨z7, z8, z9, z10, z11⟩ := And.intro (hd7.free 7) (And.intro (hd7.free 8) (And.intro (hd7.free 9) (And.intro (hd7.free 10) (hd7.free 11))))
  obtain ⟨qd, B1, g1, B2, g2, B3, g3⟩ := q'
  obtain rfl : qd = s.q.d := hq1
  have hl : (Dq.l ⟨s.q.d, B1, g1, B2, g2, B3, g3⟩).toArray = #[.slice B1 s.x.dyn.needed.length g1, .string s.x.dyn.soname, .string s.x.dyn.run, .slice B2 s.x.dyn.syms.length g2, .slice B3 s.x.dyn.relas.length g3] := rfl
  rw [hl]
  have Hd7 := hide hd7
  have Hz7 := hide hz7
  have Hbw7 := hide hbw7
  have Ho47 := hide ho47
  have Ho57 := hide ho57
  have Hq7 := hide hq7
  have Hcap := hide hcap
  clear hl hd7 hz7 hbw7 ho47 ho57 hq7 hcap hb7 K2 Hd6 Hz6 Hbw6 Ho46 Ho56
  have hth : w7.there w.heap.size 7 5 := by
    intro j hj
    have e9 : j = 0 ∨ j = 1 ∨ j = 2 ∨ j = 3 ∨ j = 4 := by omega
    rcases e9 with rfl | rfl | rfl | rfl | rfl
    · exact ⟨by rw [x7]; rfl, z7⟩
    · exact ⟨by rw [x8]; rfl, z8⟩
    · exact ⟨by rw [x9]; rfl, z9⟩
    · exact ⟨by rw [x10]; rfl, z10⟩
    · exact ⟨by rw [x11]; rfl, z11⟩
  have Hth := hide hth
  obtain ⟨WF, hWF⟩ : ∃ WF, w7.setCells w.heap.size 7 [.slice B1 s.x.dyn.needed.length g1, .string s.x.dyn.soname, .string s.x.dyn.run, .slice B2 s.x.dyn.syms.length g2, .slice B3 s.x.dyn.relas.length g3] = WF := ⟨_, rfl⟩
  have hdF : Blk WF w.heap.size 31 (Xq.l ⟨s.x, A3, c3, A5, c5, B1, g1, B2, g2, B3, g3⟩) := by
    rw [← hWF]
    exact (((((unhide Hd7).set 7 (.slice B1 s.x.dyn.needed.length g1)).set 8 (.string s.x.dyn.soname)).set 9 (.string s.x.dyn.run)).set 10 (.slice B2 s.x.dyn.syms.length g2)).set 11 (.slice B3 s.x.dyn.relas.length g3)
  have hne : w.heap.size ≠ w.heap.size + 1 := by omega
  have hzF : Blk WF (w.heap.size + 1) 31 [.int .u16 0, .int .u64 0, .string ⟨#[]⟩, .slice none 0 0, .slice none 0 0, .int .u64 0, .bool false, .slice none 0 0, .string ⟨#[]⟩, .string ⟨#[]⟩, .slice none 0 0, .slice none 0 0, .int .i64 0] := by
    rw [← hWF]
    exact ((((((unhide Hz7).other hne (.slice B1 s.x.dyn.needed.length g1) (p := ⟨w.heap.size, 7, none⟩)).other hne (.string s.x.dyn.soname) (p := ⟨w.heap.size, 8, none⟩)).other hne (.string s.x.dyn.run) (p := ⟨w.heap.size, 9, none⟩)).other hne (.slice B2 s.x.dyn.syms.length g2) (p := ⟨w.heap.size, 10, none⟩)).other hne (.slice B3 s.x.dyn.relas.length g3) (p := ⟨w.heap.size, 11, none⟩))
  have hk3 : ∀ k, bk A3 = some k → w.heap.size + 1 < k := fun k hk => by have := ((unhide Hlt4) k hk).1; omega
  have hk5 : ∀ k, bk A5 = some k → w.heap.size + 1 < k := fun k hk => by have := (own_bklt (unhide Ho57) k hk).1; omega
  have hbF : Below w.heap.size w WF := by rw [← hWF]; exact below_setCells (Nat.le_refl _) _ _ _ (unhide Hbw7)
  have ho4F := own_setCells (b := w.heap.size) (fun e => by have := hk3 _ e; omega) [.slice B1 s.x.dyn.needed.length g1, .string s.x.dyn.soname, .string s.x.dyn.run, .slice B2 s.x.dyn.syms.length g2, .slice B3 s.x.dyn.relas.length g3] 7 w7 (unhide Ho47)
  have ho5F := own_setCells (b := w.heap.size) (fun e => by have := hk5 _ e; omega) [.slice B1 s.x.dyn.needed.length g1, .string s.x.dyn.soname, .string s.x.dyn.run, .slice B2 s.x.dyn.syms.length g2, .slice B3 s.x.dyn.relas.length g3] 7 w7 (unhide Ho57)
  have hszF : WF.heap.size = w7.heap.size := by rw [← hWF]; exact size_setCells _ _ _
  have hq1F := Rd.setCells (b := w.heap.size) (fun e => by have := hf1 _ e; omega) [.slice B1 s.x.dyn.needed.length g1, .string s.x.dyn.soname, .string s.x.dyn.run, .slice B2 s.x.dyn.syms.length g2, .slice B3 s.x.dyn.relas.length g3] 7 w7 (unhide Hq7).needed
  have hq2F := Rd.setCells (b := w.heap.size) (fun e => by have := hf2 _ e; omega) [.slice B1 s.x.dyn.needed.length g1, .string s.x.dyn.soname, .string s.x.dyn.run, .slice B2 s.x.dyn.syms.length g2, .slice B3 s.x.dyn.relas.length g3] 7 w7 (unhide Hq7).syms
  have hq3F := Rd.setCells (b := w.heap.size) (fun e => by have := hf3 _ e; omega) [.slice B1 s.x.dyn.needed.length g1, .string s.x.dyn.soname, .string s.x.dyn.run, .slice B2 s.x.dyn.syms.length g2, .slice B3 s.x.dyn.relas.length g3] 7 w7 (unhide Hq7).relas
  rw [hWF] at ho4F ho5F hq1F hq2F hq3F
  have HWF := hide hWF
  have HzF := hide hzF
  have HbF := hide hbF
  have Ho4F := hide ho4F
  have Ho5F := hide ho5F
  have Hq1F := hide hq1F
  have Hq2F := hide hq2F
  have Hq3F := hide hq3F
  obtain ⟨a0, a1, a2, a3, a4, a5, a6, a7, a8, a9, a10, a11, a12⟩ := spec_cells hdF
  have Hk3 := hide hk3
  have Hk5 := hide hk5
  clear hth hdF hzF hbF ho4F ho5F hq1F hq2F hq3F x7 x8 x9 x10 x11 z7 z8 z9 z10 z11 hk3 hk5
  go_wp2_with (first
    | ((with_reducible refine (@id (wpList _ _ _ (Oper.mk none (Op.store 29 (.tmp 14) (.tmp 13)) _ _ _ none :: _) _ _) ?_)); refine wpList_store_mid rfl 29 (.tmp 14) (.tmp 13) rfl w.heap.size 7 (Dq.l ⟨s.q.d, B1, g1, B2, g2, B3, g3⟩).toArray rfl rfl (unhide Hth) dynInfo (dq_one _) ?_; change wpList _ _ _ _ _ (w7.setCells w.heap.size 7 [.slice B1 s.x.dyn.needed.length g1, .string s.x.dyn.soname, .string s.x.dyn.run, .slice B2 s.x.dyn.syms.length g2, .slice B3 s.x.dyn.relas.length g3]); rw [unhide HWF])
    | ((with_reducible refine (@id (wpList _ _ _ (Oper.mk none (Op.store 31 (.tmp 2) (.tmp 15)) _ _ _ none :: _) _ _) ?_)); refine wpList_store_row rfl 31 (.tmp 2) (.tmp 15) rfl (w.heap.size + 1) (Xq.l ⟨s.x, A3, c3, A5, c5, B1, g1, B2, g2, B3, g3⟩).toArray rfl rfl 31 _ (unhide HzF) apiInfo rfl (xq_one _) ?_))
  refine bodyPost_ret (results_cell_row (P := Tryz.prog) rfl _ _ (w.heap.size + 1) 31 (Xq.l ⟨s.x, A3, c3, A5, c5, B1, g1, B2, g2, B3, g3⟩).toArray (0, 0) _ rfl (setRow_heap _ _ _ _ _ _ (unhide HzF)) Tryz.underlying31 rfl apiInfo) rfl ?_
  have oT := own_setRowN (k := w.heap.size + 1) (unhide Ho4F) (fun e => by have := (unhide Hk3) _ e; omega) (Xq.l ⟨s.x, A3, c3, A5, c5, B1, g1, B2, g2, B3, g3⟩).toArray
  have oD := own_setRowN (k := w.heap.size + 1) (unhide Ho5F) (fun e => by have := (unhide Hk5) _ e; omega) (Xq.l ⟨s.x, A3, c3, A5, c5, B1, g1, B2, g2, B3, g3⟩).toArray
  have hsr : (WF.setRow (w.heap.size + 1) (Xq.l ⟨s.x, A3, c3, A5, c5, B1, g1, B2, g2, B3, g3⟩).toArray).heap.size = w7.heap.size := by rw [← hszF]; simp [World.setRow]
  have hlow : ∀ k, w3.heap.size ≤ k → w.heap.size + 1 ≠ k := fun k hk => by omega
  refine ⟨⟨s.x, A3, c3, A5, c5, B1, g1, B2, g2, B3, g3⟩, rfl, rfl, ⟨Rd.of_own oT, Rd.of_own oD, ⟨?_, ?_, ?_⟩⟩, unhide Hcap, below_setRow (unhide HbF) (by omega) _, w3.heap.size, by omega, by rw [hsr]; exact hbs7, own_base oT (by omega), fun k hk => ?_, oD⟩
  · rw [hsr]; exact Rd.setRowN (unhide Hq1F) (fun e => by have := hf1 _ e; omega) _
  · rw [hsr]; exact Rd.setRowN (unhide Hq2F) (fun e => by have := hf2 _ e; omega) _
  · rw [hsr]; exact Rd.setRowN (unhide Hq3F) (fun e => by have := hf3 _ e; omega) _
  · have := ((unhide Hlt4) k hk).2; omega
end Go.Proofs.YtnbecdahfgkffaaGreat
namespace Go.Proofs.YtnbecdahfgkffaaGreat
open Go.RowKit
set_option maxRecDepth 100000 in
set_option maxHeartbeats 60000000 in
theorem same13_any (q r : Dq) (hqr : r.d = q.d) (B : Nat) (w : World) (hB : B ≤ w.heap.size) (h : DqM w B q) (h' : DqM w B r) (h1 : q.d.needed.length ≤ 1048576) (h2 : q.d.syms.length ≤ 1048576) (h3 : q.d.relas.length ≤ 1048576) :
    Calls Tryz.prog 21 #[.agg q.l.toArray, .agg r.l.toArray] w fun e w' => e = .returned (.bool true) ∧ Below w.heap.size w w' := by
  have e1 : (w.alloc (.cells #[.slice q.A1 q.d.needed.length q.c1, .string q.d.soname, .string q.d.run, .slice q.A2 q.d.syms.length q.c2, .slice q.A3 q.d.relas.length q.c3] 29)).heap.size = w.heap.size + 1 := by simp
  have hb1 : Below w.heap.size w ((w.alloc (.cells #[.slice q.A1 q.d.needed.length q.c1, .string q.d.soname, .string q.d.run, .slice q.A2 q.d.syms.length q.c2, .slice q.A3 q.d.relas.length q.c3] 29)).alloc (.cells #[.slice r.A1 q.d.needed.length r.c1, .string q.d.soname, .string q.d.run, .slice r.A2 q.d.syms.length r.c2, .slice r.A3 q.d.relas.length r.c3] 29)) := ((Below.refl _ _).alloc (Nat.le_refl _) _).alloc (by simp) _
  have hrl : r.l = [.slice r.A1 q.d.needed.length r.c1, .string q.d.soname, .string q.d.run, .slice r.A2 q.d.syms.length r.c2, .slice r.A3 q.d.relas.length r.c3] := by unfold Dq.l; rw [hqr]
  have hx : Blk ((w.alloc (.cells #[.slice q.A1 q.d.needed.length q.c1, .string q.d.soname, .string q.d.run, .slice q.A2 q.d.syms.length q.c2, .slice q.A3 q.d.relas.length q.c3] 29)).alloc (.cells #[.slice r.A1 q.d.needed.length r.c1, .string q.d.soname, .string q.d.run, .slice r.A2 q.d.syms.length r.c2, .slice r.A3 q.d.relas.length r.c3] 29)) w.heap.size 29 q.l := (Blk.new w 29 q.l).alloc (.cells #[.slice r.A1 q.d.needed.length r.c1, .string q.d.soname, .string q.d.run, .slice r.A2 q.d.syms.length r.c2, .slice r.A3 q.d.relas.length r.c3] 29)
  have hy := Blk.new (w.alloc (.cells #[.slice q.A1 q.d.needed.length q.c1, .string q.d.soname, .string q.d.run, .slice q.A2 q.d.syms.length q.c2, .slice q.A3 q.d.relas.length q.c3] 29)) 29 [.slice r.A1 q.d.needed.length r.c1, .string q.d.soname, .string q.d.run, .slice r.A2 q.d.syms.length r.c2, .slice r.A3 q.d.relas.length r.c3]
  rw [e1] at hy
  have hq := h.below (hb1.mono hB)
  have hr := h'.below (hb1.mono hB)
  have hrn : Rd ((w.alloc (.cells #[.slice q.A1 q.d.needed.length q.c1, .string q.d.soname, .string q.d.run, .slice q.A2 q.d.syms.length q.c2, .slice q.A3 q.d.relas.length q.c3] 29)).alloc (.cells #[.slice r.A1 q.d.needed.length r.c1, .string q.d.soname, .string q.d.run, .slice r.A2 q.d.syms.length r.c2, .slice r.A3 q.d.relas.length r.c3] 29)) B 1 r.A1 q.d.needed.length (q.d.needed.map Value.string) := by have h9 := hr.needed; rw [hqr] at h9; exact h9
  have hrs : Rd ((w.alloc (.cells #[.slice q.A1 q.d.needed.length q.c1, .string q.d.soname, .string q.d.run, .slice q.A2 q.d.syms.length q.c2, .slice q.A3 q.d.relas.length q.c3] 29)).alloc (.cells #[.slice r.A1 q.d.needed.length r.c1, .string q.d.soname, .string q.d.run, .slice r.A2 q.d.syms.length r.c2, .slice r.A3 q.d.relas.length r.c3] 29)) B 5 r.A2 q.d.syms.length (symC q.d.syms) := by have h9 := hr.syms; rw [hqr] at h9; exact h9
  have hrr : Rd ((w.alloc (.cells #[.slice q.A1 q.d.needed.length q.c1, .string q.d.soname, .string q.d.run, .slice q.A2 q.d.syms.length q.c2, .slice q.A3 q.d.relas.length q.c3] 29)).alloc (.cells #[.slice r.A1 q.d.needed.length r.c1, .string q.d.soname, .string q.d.run, .slice r.A2 q.d.syms.length r.c2, .slice r.A3 q.d.relas.length r.c3] 29)) B 4 r.A3 q.d.relas.length (mrC q.d.relas) := by have h9 := hr.relas; rw [hqr] at h9; exact h9
  have KE := eqTexts_any q.A1 r.A1 q.d.needed.length q.d.needed.length q.c1 r.c1 B q.d.needed q.d.needed ((w.alloc (.cells #[.slice q.A1 q.d.needed.length q.c1, .string q.d.soname, .string q.d.run, .slice q.A2 q.d.syms.length q.c2, .slice q.A3 q.d.relas.length q.c3] 29)).alloc (.cells #[.slice r.A1 q.d.needed.length r.c1, .string q.d.soname, .string q.d.run, .slice r.A2 q.d.syms.length r.c2, .slice r.A3 q.d.relas.length r.c3] 29)) hq.needed hrn (by unfold maxLen; omega) (by unfold maxLen; omega)
  rw [show decide (q.d.needed = q.d.needed) = true from decide_eq_true rfl] at KE
  obtain ⟨x0, x1, x2, x3, x4⟩ := And.intro (hx.cell (i := 0) (u := .slice q.A1 q.d.needed.length q.c1) rfl) (And.intro (hx.cell (i := 1) (u := .string q.d.soname) rfl) (And.intro (hx.cell (i := 2) (u := .string q.d.run) rfl) (And.intro (hx.cell (i := 3) (u := .slice q.A2 q.d.syms.length q.c2) rfl) (hx.cell (i := 4) (u := .slice q.A3 q.d.relas.length q.c3) rfl))))
  obtain ⟨y0, y1, y2, y3, y4⟩ := And.intro (hy.cell (i := 0) rfl) (And.intro (hy.cell (i := 1) rfl) (And.intro (hy.cell (i := 2) rfl) (And.intro (hy.cell (i := 3) rfl) (hy.cell (i := 4) rfl))))
  have HX := hide hx
  have HY := hide hy
  have HB := hide hb1
  have Hqs := hide hq.syms
  have Hqr := hide hq.relas
  have Hrs := hide hrs
  have Hrr := hide hrr
  have KE := hide KE
  have hBw : B ≤ ((w.alloc (.cells #[.slice q.A1 q.d.needed.length q.c1, .string q.d.soname, .string q.d.run, .slice q.A2 q.d.syms.length q.c2, .slice q.A3 q.d.relas.length q.c3] 29)).alloc (.cells #[.slice r.A1 q.d.needed.length r.c1, .string q.d.soname, .string q.d.run, .slice r.A2 q.d.syms.length r.c2, .slice r.A3 q.d.relas.length r.c3] 29)).heap.size := Nat.le_trans hB hb1.size
  show Calls _ _ #[.agg #[.slice q.A1 q.d.needed.length q.c1, .string q.d.soname, .string q.d.run, .slice q.A2 q.d.syms.length q.c2, .slice q.A3 q.d.relas.length q.c3], .agg r.l.toArray] w _
  rw [hrl]
  show Calls _ _ #[.agg #[.slice q.A1 q.d.needed.length q.c1, .string q.d.soname, .string q.d.run, .slice q.A2 q.d.syms.length q.c2, .slice q.A3 q.d.relas.length q.c3], .agg #[.slice r.A1 q.d.needed.length r.c1, .string q.d.soname, .string q.d.run, .slice r.A2 q.d.syms.length r.c2, .slice r.A3 q.d.relas.length r.c3]] w _
  clear hb1 hrl hx hy hq hr hrn hrs hrr h h' hqr e1
  go_enter Tryz.func21, Tryz.ntmps21
  go_upto_region 1 with fail
  generalize ((w.alloc (.cells #[.slice q.A1 q.d.needed.length q.c1, .string q.d.soname, .string q.d.run, .slice q.A2 q.d.syms.length q.c2, .slice q.A3 q.d.relas.length q.c3] 29)).alloc (.cells #[.slice r.A1 q.d.needed.length r.c1, .string q.d.soname, .string q.d.run, .slice r.A2 q.d.syms.length r.c2, .slice r.A3 q.d.relas.length r.c3] 29)) = V0 at *
  go_wp2_with fail
  refine (unhide KE).mono ?_
  rintro e w1 ⟨rfl, j, rfl⟩
  have hx := (unhide HX).drewN j
  have hy := (unhide HY).drewN j
  have hb := below_drewN' (unhide HB) j
  have hsq : Rd (V0.drewN j) B 5 q.A2 q.d.syms.length (symC q.d.syms) := unhide Hqs
  have hsr : Rd (V0.drewN j) B 5 r.A2 q.d.syms.length (symC q.d.syms) := unhide Hrs
  have hrq : Rd (V0.drewN j) B 4 q.A3 q.d.relas.length (mrC q.d.relas) := unhide Hqr
  have hrr : Rd (V0.drewN j) B 4 r.A3 q.d.relas.length (mrC q.d.relas) := unhide Hrr
  have hBs : B ≤ (V0.drewN j).heap.size := hBw
  generalize V0.drewN j = V at *
  have HX := hide hx
  have HY := hide hy
  have HB := hide hb
  have Hqs := hide hsq
  have Hrs := hide hsr
  have Hqr := hide hrq
  have Hrr := hide hrr
  obtain ⟨M, hM⟩ : ∃ M, q.d.syms.length = M := ⟨_, rfl⟩
  obtain ⟨R, hR⟩ : ∃ R, q.d.relas.length = R := ⟨_, rfl⟩
  obtain ⟨A2, hA2⟩ : ∃ A, q.A2 = A := ⟨_, rfl⟩
  obtain ⟨B2, hB2⟩ : ∃ A, r.A2 = A := ⟨_, rfl⟩
  obtain ⟨A3, hA3⟩ : ∃ A, q.A3 = A := ⟨_, rfl⟩
  obtain ⟨B3, hB3⟩ : ∃ A, r.A3 = A := ⟨_, rfl⟩
  have z3 : V.cell? ⟨w.heap.size, 3, none⟩ = some (.slice A2 M q.c2) := by rw [← hA2, ← hM]; exact hx.cell (i := 3) rfl
  have z4 : V.cell? ⟨w.heap.size, 4, none⟩ = some (.slice A3 R q.c3) := by rw [← hA3, ← hR]; exact hx.cell (i := 4) rfl
  have v3 : V.cell? ⟨w.heap.size + 1, 3, none⟩ = some (.slice B2 M r.c2) := by rw [← hB2, ← hM]; exact hy.cell (i := 3) rfl
  have v4 : V.cell? ⟨w.heap.size + 1, 4, none⟩ = some (.slice B3 R r.c3) := by rw [← hB3, ← hR]; exact hy.cell (i := 4) rfl
  have hMb : M ≤ 1048576 := by omega
  have hRb : R ≤ 1048576 := by omega
  rw [hM, hA2] at Hqs
  rw [hM, hB2] at Hrs
  rw [hR, hA3] at Hqr
  rw [hR, hB3] at Hrr
  have HM := hide hM
  have HR := hide hR
  have Hz := hide (And.intro z3 (And.intro z4 (And.intro v3 v4)))
  clear x0 x1 x2 x3 x4 y0 y1 y2 y3 y4 hx hy hb hsq hsr hrq hrr KE hM hR hA2 hB2 hA3 hB3
  go_wp2_with fail
  go_loopg [5] M (fun gk iv wr => ∃ i : Nat, gk = M - i ∧ i ≤ M ∧ iv = .int .i64 i ∧ Below V.heap.size V wr)
  case atStart => exact ⟨0, by omega, by omega, rfl, Below.refl _ _⟩
  case round =>
  clear z3 z4 v3 v4
  obtain ⟨i, hgk, hi, rfl, hbv⟩ := hrel
  have Hgk := hide hgk
  have hx := (unhide HX).belowSz hbv
  have hy := (unhide HY).belowSz hbv
  have hqj0 := (unhide Hqs).below (hbv.mono hBs)
  have hrj0 := (unhide Hrs).below (hbv.mono hBs)
  have Hbv := hide hbv
  clear hgk hbv
  have z3 := (cell_blk (hx.trans (unhide HX).symm) 3).trans (unhide Hz).1
  have v3 := (cell_blk (hy.trans (unhide HY).symm) 3).trans (unhide Hz).2.2.1
  clear hx hy
  by_cases hlt : i < M
  · have ilt : (i : Int) < (M : Int) := by omega
    obtain ⟨x, hxx⟩ : ∃ x, q.d.syms[i]? = some x := ⟨_, List.getElem?_eq_getElem (by rw [unhide HM]; exact hlt)⟩
    obtain ⟨b1, o1, hAA, -, s0, s1, s2, s3, s4⟩ := mksym_at hqj0 hxx
    obtain ⟨b2, o2, hBB, -, t0, t1, t2, t3, t4⟩ := mksym_at hrj0 hxx
    subst hAA hBB
    clear hxx hqj0 hrj0
    go_wp2_with fail
    go_quiet (fail)
    have Hbn := hide (below_drewN' (unhide Hbv) nq)
    clear z3 v3 s0 s1 s2 s3 s4 t0 t1 t2 t3 t4
    go_wp2_with fail
    go_roundg (M - (i + 1))
    case measure => have := unhide Hgk; omega
    case rel => exact ⟨i + 1, rfl, by omega, by go_num, unhide Hbn⟩
  have hiM : i = M := by omega
  subst hiM
  have ige : ¬ (i : Int) < (i : Int) := by omega
  have hx := (unhide HX).belowSz (unhide Hbv)
  have hy := (unhide HY).belowSz (unhide Hbv)
  have z4 := (cell_blk (hx.trans (unhide HX).symm) 4).trans (unhide Hz).2.1
  have v4 := (cell_blk (hy.trans (unhide HY).symm) 4).trans (unhide Hz).2.2.2
  have hBr : B ≤ wr.heap.size := by have := (unhide Hbv).size; omega
  have Hqw := hide ((unhide Hqr).below ((unhide Hbv).mono hBs))
  have Hrw := hide ((unhide Hrr).below ((unhide Hbv).mono hBs))
  obtain ⟨U, hU⟩ : ∃ U, wr = U := ⟨_, rfl⟩
  rw [hU] at z4 v4 hBr Hqw Hrw Hbv z3 v3 hx hy ⊢
  have HXU := hide hx
  have HYU := hide hy
  have HZU := hide (And.intro z4 v4)
  clear hx hy hqj0 hrj0 hU hlt
  go_wp2_with fail
  go_loopg [6] R (fun gk iv wr => ∃ i : Nat, gk = R - i ∧ i ≤ R ∧ iv = .int .i64 i ∧ Below U.heap.size U wr)
  case atStart => exact ⟨0, by omega, by omega, rfl, Below.refl _ _⟩
  case round =>
  clear z4 v4 z3 v3
  obtain ⟨k, hgk2, hk, rfl, hbv2⟩ := hrel
  have Hgk2 := hide hgk2
  have hx := (unhide HXU).belowSz hbv2
  have hy := (unhide HYU).belowSz hbv2
  have z4 := (cell_blk (hx.trans (unhide HXU).symm) 4).trans (unhide HZU).1
  have v4 := (cell_blk (hy.trans (unhide HYU).symm) 4).trans (unhide HZU).2
  have hqj0 := (unhide Hqw).below (hbv2.mono hBr)
  have hrj0 := (unhide Hrw).below (hbv2.mono hBr)
  have Hbv2 := hide hbv2
  clear hgk2 hbv2 hx hy
  by_cases hlt : k < R
  · have klt : (k : Int) < (R : Int) := by omega
    obtain ⟨x, hxx⟩ : ∃ x, q.d.relas[k]? = some x := ⟨_, List.getElem?_eq_getElem (by rw [unhide HR]; exact hlt)⟩
    obtain ⟨b1, o1, hAA, -, s0, s1, s2, s3⟩ := mkrel_at hqj0 hxx
    obtain ⟨b2, o2, hBB, -, t0, t1, t2, t3⟩ := mkrel_at hrj0 hxx
    subst hAA hBB
    clear hxx hqj0 hrj0
    go_wp2_with fail
    go_quiet (fail)
    have Hbn := hide (below_drewN' (unhide Hbv2) nq)
    clear z4 v4 s0 s1 s2 s3 t0 t1 t2 t3
    go_wp2_with fail
    go_roundg (R - (k + 1))
    case measure => have := unhide Hgk2; omega
    case rel => exact ⟨k + 1, rfl, by omega, by go_num, unhide Hbn⟩
  have hkR : k = R := by omega
  subst hkR
  have kge : ¬ (k : Int) < (k : Int) := by omega
  clear hqj0 hrj0
  go_wp2_with fail
  go_ret
  exact ⟨rfl, (unhide HB).trans (((unhide Hbv).mono (by have := (unhide HB).size; omega)).trans ((unhide Hbv2).mono (by have := (unhide HB).size; have := (unhide Hbv).size; omega)))⟩
set_option maxRecDepth 100000 in
set_option maxHeartbeats 60000000 in
theorem same14_any (s r : Xq) (hsr : r.x = s.x) (B : Nat) (w : World) (hB : B ≤ w.heap.size) (h : XqM w B s) (h' : XqM w B r) (h0 : s.x.text.length ≤ 1048576) (h00 : s.x.data.length ≤ 1048576) (h1 : s.x.dyn.needed.length ≤ 1048576) (h2 : s.x.dyn.syms.length ≤ 1048576) (h3 : s.x.dyn.relas.length ≤ 1048576) :
    Calls Tryz.prog 12 #[.agg s.l.toArray, .agg r.l.toArray] w fun e w' => e = .returned (.bool true) ∧ Below w.heap.size w w' := by
  have e1 : (w.alloc (.cells #[.int .u16 (s.x.type : Nat), .int .u64 (s.x.entry : Nat), .string s.x.interp, .slice s.At s.x.text.length s.ct, .slice s.Ad s.x.data.length s.cd, .int .u64 (s.x.more : Nat), .bool s.x.dynamic, .slice s.A1 s.x.dyn.needed.length s.c1, .string s.x.dyn.soname, .string s.x.dyn.run, .slice s.A2 s.x.dyn.syms.length s.c2, .slice s.A3 s.x.dyn.relas.length s.c3, .int .i64 s.x.apart] 31)).heap.size = w.heap.size + 1 := by simp
  have hb1 : Below w.heap.size w ((w.alloc (.cells #[.int .u16 (s.x.type : Nat), .int .u64 (s.x.entry : Nat), .string s.x.interp, .slice s.At s.x.text.length s.ct, .slice s.Ad s.x.data.length s.cd, .int .u64 (s.x.more : Nat), .bool s.x.dynamic, .slice s.A1 s.x.dyn.needed.length s.c1, .string s.x.dyn.soname, .string s.x.dyn.run, .slice s.A2 s.x.dyn.syms.length s.c2, .slice s.A3 s.x.dyn.relas.length s.c3, .int .i64 s.x.apart] 31)).alloc (.cells #[.int .u16 (s.x.type : Nat), .int .u64 (s.x.entry : Nat), .string s.x.interp, .slice r.At s.x.text.length r.ct, .slice r.Ad s.x.data.length r.cd, .int .u64 (s.x.more : Nat), .bool s.x.dynamic, .slice r.A1 s.x.dyn.needed.length r.c1, .string s.x.dyn.soname, .string s.x.dyn.run, .slice r.A2 s.x.dyn.syms.length r.c2, .slice r.A3 s.x.dyn.relas.length r.c3, .int .i64 s.x.apart] 31)) := ((Below.refl _ _).alloc (Nat.le_refl _) _).alloc (by simp) _
  have hrl : r.l = [.int .u16 (s.x.type : Nat), .int .u64 (s.x.entry : Nat), .string s.x.interp, .slice r.At s.x.text.length r.ct, .slice r.Ad s.x.data.length r.cd, .int .u64 (s.x.more : Nat), .bool s.x.dynamic, .slice r.A1 s.x.dyn.needed.length r.c1, .string s.x.dyn.soname, .string s.x.dyn.run, .slice r.A2 s.x.dyn.syms.length r.c2, .slice r.A3 s.x.dyn.relas.length r.c3, .int .i64 s.x.apart] := by unfold Xq.l; rw [hsr]
  have hx : Blk ((w.alloc (.cells #[.int .u16 (s.x.type : Nat), .int .u64 (s.x.entry : Nat), .string s.x.interp, .slice s.At s.x.text.length s.ct, .slice s.Ad s.x.data.length s.cd, .int .u64 (s.x.more : Nat), .bool s.x.dynamic, .slice s.A1 s.x.dyn.needed.length s.c1, .string s.x.dyn.soname, .string s.x.dyn.run, .slice s.A2 s.x.dyn.syms.length s.c2, .slice s.A3 s.x.dyn.relas.length s.c3, .int .i64 s.x.apart] 31)).alloc (.cells #[.int .u16 (s.x.type : Nat), .int .u64 (s.x.entry : Nat), .string s.x.interp, .slice r.At s.x.text.length r.ct, .slice r.Ad s.x.data.length r.cd, .int .u64 (s.x.more : Nat), .bool s.x.dynamic, .slice r.A1 s.x.dyn.needed.length r.c1, .string s.x.dyn.soname, .string s.x.dyn.run, .slice r.A2 s.x.dyn.syms.length r.c2, .slice r.A3 s.x.dyn.relas.length r.c3, .int .i64 s.x.apart] 31)) w.heap.size 31 s.l := (Blk.new w 31 s.l).alloc (.cells #[.int .u16 (s.x.type : Nat), .int .u64 (s.x.entry : Nat), .string s.x.interp, .slice r.At s.x.text.length r.ct, .slice r.Ad s.x.data.length r.cd, .int .u64 (s.x.more : Nat), .bool s.x.dynamic, .slice r.A1 s.x.dyn.needed.length r.c1, .string s.x.dyn.soname, .string s.x.dyn.run, .slice r.A2 s.x.dyn.syms.length r.c2, .slice r.A3 s.x.dyn.relas.length r.c3, .int .i64 s.x.apart] 31)
  have hy := Blk.new (w.alloc (.cells #[.int .u16 (s.x.type : Nat), .int .u64 (s.x.entry : Nat), .string s.x.interp, .slice s.At s.x.text.length s.ct, .slice s.Ad s.x.data.length s.cd, .int .u64 (s.x.more : Nat), .bool s.x.dynamic, .slice s.A1 s.x.dyn.needed.length s.c1, .string s.x.dyn.soname, .string s.x.dyn.run, .slice s.A2 s.x.dyn.syms.length s.c2, .slice s.A3 s.x.dyn.relas.length s.c3, .int .i64 s.x.apart] 31)) 31 [.int .u16 (s.x.type : Nat), .int .u64 (s.x.entry : Nat), .string s.x.interp, .slice r.At s.x.text.length r.ct, .slice r.Ad s.x.data.length r.cd, .int .u64 (s.x.more : Nat), .bool s.x.dynamic, .slice r.A1 s.x.dyn.needed.length r.c1, .string s.x.dyn.soname, .string s.x.dyn.run, .slice r.A2 s.x.dyn.syms.length r.c2, .slice r.A3 s.x.dyn.relas.length r.c3, .int .i64 s.x.apart]
  rw [e1] at hy
  have hq := h.below (hb1.mono hB)
  have hr := h'.below (hb1.mono hB)
  have hrt : Rd ((w.alloc (.cells #[.int .u16 (s.x.type : Nat), .int .u64 (s.x.entry : Nat), .string s.x.interp, .slice s.At s.x.text.length s.ct, .slice s.Ad s.x.data.length s.cd, .int .u64 (s.x.more : Nat), .bool s.x.dynamic, .slice s.A1 s.x.dyn.needed.length s.c1, .string s.x.dyn.soname, .string s.x.dyn.run, .slice s.A2 s.x.dyn.syms.length s.c2, .slice s.A3 s.x.dyn.relas.length s.c3, .int .i64 s.x.apart] 31)).alloc (.cells #[.int .u16 (s.x.type : Nat), .int .u64 (s.x.entry : Nat), .string s.x.interp, .slice r.At s.x.text.length r.ct, .slice r.Ad s.x.data.length r.cd, .int .u64 (s.x.more : Nat), .bool s.x.dynamic, .slice r.A1 s.x.dyn.needed.length r.c1, .string s.x.dyn.soname, .string s.x.dyn.run, .slice r.A2 s.x.dyn.syms.length r.c2, .slice r.A3 s.x.dyn.relas.length r.c3, .int .i64 s.x.apart] 31)) B 1 r.At s.x.text.length (bys s.x.text) := by have h9 := hr.text; rw [hsr] at h9; exact h9
  have hrd : Rd ((w.alloc (.cells #[.int .u16 (s.x.type : Nat), .int .u64 (s.x.entry : Nat), .string s.x.interp, .slice s.At s.x.text.length s.ct, .slice s.Ad s.x.data.length s.cd, .int .u64 (s.x.more : Nat), .bool s.x.dynamic, .slice s.A1 s.x.dyn.needed.length s.c1, .string s.x.dyn.soname, .string s.x.dyn.run, .slice s.A2 s.x.dyn.syms.length s.c2, .slice s.A3 s.x.dyn.relas.length s.c3, .int .i64 s.x.apart] 31)).alloc (.cells #[.int .u16 (s.x.type : Nat), .int .u64 (s.x.entry : Nat), .string s.x.interp, .slice r.At s.x.text.length r.ct, .slice r.Ad s.x.data.length r.cd, .int .u64 (s.x.more : Nat), .bool s.x.dynamic, .slice r.A1 s.x.dyn.needed.length r.c1, .string s.x.dyn.soname, .string s.x.dyn.run, .slice r.A2 s.x.dyn.syms.length r.c2, .slice r.A3 s.x.dyn.relas.length r.c3, .int .i64 s.x.apart] 31)) B 1 r.Ad s.x.data.length (bys s.x.data) := by have h9 := hr.data; rw [hsr] at h9; exact h9
  have hqr : r.q.d = s.q.d := by show r.x.dyn = s.x.dyn; rw [hsr]
  have Hq := hide hq.dyn
  have Hr := hide hr.dyn
  have Hqt := hide hq.text
  have Hqd := hide hq.data
  have Hrt := hide hrt
  have Hrd := hide hrd
  have HX := hide hx
  have HY := hide hy
  have HB := hide hb1
  have Hqr := hide hqr
  have hBw : B ≤ ((w.alloc (.cells #[.int .u16 (s.x.type : Nat), .int .u64 (s.x.entry : Nat), .string s.x.interp, .slice s.At s.x.text.length s.ct, .slice s.Ad s.x.data.length s.cd, .int .u64 (s.x.more : Nat), .bool s.x.dynamic, .slice s.A1 s.x.dyn.needed.length s.c1, .string s.x.dyn.soname, .string s.x.dyn.run, .slice s.A2 s.x.dyn.syms.length s.c2, .slice s.A3 s.x.dyn.relas.length s.c3, .int .i64 s.x.apart] 31)).alloc (.cells #[.int .u16 (s.x.type : Nat), .int .u64 (s.x.entry : Nat), .string s.x.interp, .slice r.At s.x.text.length r.ct, .slice r.Ad s.x.data.length r.cd, .int .u64 (s.x.more : Nat), .bool s.x.dynamic, .slice r.A1 s.x.dyn.needed.length r.c1, .string s.x.dyn.soname, .string s.x.dyn.run, .slice r.A2 s.x.dyn.syms.length r.c2, .slice r.A3 s.x.dyn.relas.length r.c3, .int .i64 s.x.apart] 31)).heap.size := Nat.le_trans hB hb1.size
  show Calls _ _ #[.agg #[.int .u16 (s.x.type : Nat), .int .u64 (s.x.entry : Nat), .string s.x.interp, .slice s.At s.x.text.length s.ct, .slice s.Ad s.x.data.length s.cd, .int .u64 (s.x.more : Nat), .bool s.x.dynamic, .slice s.A1 s.x.dyn.needed.length s.c1, .string s.x.dyn.soname, .string s.x.dyn.run, .slice s.A2 s.x.dyn.syms.length s.c2, .slice s.A3 s.x.dyn.relas.length s.c3, .int .i64 s.x.apart], .agg r.l.toArray] w _
  rw [hrl]
  show Calls _ _ #[.agg #[.int .u16 (s.x.type : Nat), .int .u64 (s.x.entry : Nat), .string s.x.interp, .slice s.At s.x.text.length s.ct, .slice s.Ad s.x.data.length s.cd, .int .u64 (s.x.more : Nat), .bool s.x.dynamic, .slice s.A1 s.x.dyn.needed.length s.c1, .string s.x.dyn.soname, .string s.x.dyn.run, .slice s.A2 s.x.dyn.syms.length s.c2, .slice s.A3 s.x.dyn.relas.length s.c3, .int .i64 s.x.apart], .agg #[.int .u16 (s.x.type : Nat), .int .u64 (s.x.entry : Nat), .string s.x.interp, .slice r.At s.x.text.length r.ct, .slice r.Ad s.x.data.length r.cd, .int .u64 (s.x.more : Nat), .bool s.x.dynamic, .slice r.A1 s.x.dyn.needed.length r.c1, .string s.x.dyn.soname, .string s.x.dyn.run, .slice r.A2 s.x.dyn.syms.length r.c2, .slice r.A3 s.x.dyn.relas.length r.c3, .int .i64 s.x.apart]] w _
  have hdr : r.q.l = [.slice r.A1 s.x.dyn.needed.length r.c1, .string s.x.dyn.soname, .string s.x.dyn.run, .slice r.A2 s.x.dyn.syms.length r.c2, .slice r.A3 s.x.dyn.relas.length r.c3] := by unfold Dq.l; rw [hqr]; rfl
  have KD : Hid (∀ W, Below ((w.alloc (.cells #[.int .u16 (s.x.type : Nat), .int .u64 (s.x.entry : Nat), .string s.x.interp, .slice s.At s.x.text.length s.ct, .slice s.Ad s.x.data.length s.cd, .int .u64 (s.x.more : Nat), .bool s.x.dynamic, .slice s.A1 s.x.dyn.needed.length s.c1, .string s.x.dyn.soname, .string s.x.dyn.run, .slice s.A2 s.x.dyn.syms.length s.c2, .slice s.A3 s.x.dyn.relas.length s.c3, .int .i64 s.x.apart] 31)).alloc (.cells #[.int .u16 (s.x.type : Nat), .int .u64 (s.x.entry : Nat), .string s.x.interp, .slice r.At s.x.text.length r.ct, .slice r.Ad s.x.data.length r.cd, .int .u64 (s.x.more : Nat), .bool s.x.dynamic, .slice r.A1 s.x.dyn.needed.length r.c1, .string s.x.dyn.soname, .string s.x.dyn.run, .slice r.A2 s.x.dyn.syms.length r.c2, .slice r.A3 s.x.dyn.relas.length r.c3, .int .i64 s.x.apart] 31)).heap.size ((w.alloc (.cells #[.int .u16 (s.x.type : Nat), .int .u64 (s.x.entry : Nat), .string s.x.interp, .slice s.At s.x.text.length s.ct, .slice s.Ad s.x.data.length s.cd, .int .u64 (s.x.more : Nat), .bool s.x.dynamic, .slice s.A1 s.x.dyn.needed.length s.c1, .string s.x.dyn.soname, .string s.x.dyn.run, .slice s.A2 s.x.dyn.syms.length s.c2, .slice s.A3 s.x.dyn.relas.length s.c3, .int .i64 s.x.apart] 31)).alloc (.cells #[.int .u16 (s.x.type : Nat), .int .u64 (s.x.entry : Nat), .string s.x.interp, .slice r.At s.x.text.length r.ct, .slice r.Ad s.x.data.length r.cd, .int .u64 (s.x.more : Nat), .bool s.x.dynamic, .slice r.A1 s.x.dyn.needed.length r.c1, .string s.x.dyn.soname, .string s.x.dyn.run, .slice r.A2 s.x.dyn.syms.length r.c2, .slice r.A3 s.x.dyn.relas.length r.c3, .int .i64 s.x.apart] 31)) W → Calls Tryz.prog 21 #[.agg #[.slice s.A1 s.x.dyn.needed.length s.c1, .string s.x.dyn.soname, .string s.x.dyn.run, .slice s.A2 s.x.dyn.syms.length s.c2, .slice s.A3 s.x.dyn.relas.length s.c3], .agg #[.slice r.A1 s.x.dyn.needed.length r.c1, .string s.x.dyn.soname, .string s.x.dyn.run, .slice r.A2 s.x.dyn.syms.length r.c2, .slice r.A3 s.x.dyn.relas.length r.c3]] W fun e w' => e = .returned (.bool true) ∧ Below W.heap.size W w') := hide (fun W hW => by
    have h9 := same13_any s.q r.q hqr B W (Nat.le_trans hBw hW.size) (hq.dyn.below (hW.mono hBw)) (hr.dyn.below (hW.mono hBw)) h1 h2 h3
    rw [hdr] at h9
    exact h9)
  clear hb1 hrl hx hy hq hr hrt hrd h h' hsr e1 hqr hdr
  go_enter Tryz.func12, Tryz.ntmps12
  go_upto_region 1 with fail
  generalize ((w.alloc (.cells #[.int .u16 (s.x.type : Nat), .int .u64 (s.x.entry : Nat), .string s.x.interp, .slice s.At s.x.text.length s.ct, .slice s.Ad s.x.data.length s.cd, .int .u64 (s.x.more : Nat), .bool s.x.dynamic, .slice s.A1 s.x.dyn.needed.length s.c1, .string s.x.dyn.soname, .string s.x.dyn.run, .slice s.A2 s.x.dyn.syms.length s.c2, .slice s.A3 s.x.dyn.relas.length s.c3, .int .i64 s.x.apart] 31)).alloc (.cells #[.int .u16 (s.x.type : Nat), .int .u64 (s.x.entry : Nat), .string s.x.interp, .slice r.At s.x.text.length r.ct, .slice r.Ad s.x.data.length r.cd, .int .u64 (s.x.more : Nat), .bool s.x.dynamic, .slice r.A1 s.x.dyn.needed.length r.c1, .string s.x.dyn.soname, .string s.x.dyn.run, .slice r.A2 s.x.dyn.syms.length r.c2, .slice r.A3 s.x.dyn.relas.length r.c3, .int .i64 s.x.apart] 31)) = V0 at *
  obtain ⟨x0, x1, x2, x3, x4, x5, x6, x7, x8, x9, x10, x11, x12⟩ := spec_cells (unhide HX)
  have y0 : V0.cell? ⟨w.heap.size + 1, 0, none⟩ = some (.int .u16 (s.x.type : Nat)) := (unhide HY).cell (i := 0) rfl
  have y1 : V0.cell? ⟨w.heap.size + 1, 1, none⟩ = some (.int .u64 (s.x.entry : Nat)) := (unhide HY).cell (i := 1) rfl
  have y2 : V0.cell? ⟨w.heap.size + 1, 2, none⟩ = some (.string s.x.interp) := (unhide HY).cell (i := 2) rfl
  have y3 : V0.cell? ⟨w.heap.size + 1, 3, none⟩ = some (.slice r.At s.x.text.length r.ct) := (unhide HY).cell (i := 3) rfl
  have y4 : V0.cell? ⟨w.heap.size + 1, 4, none⟩ = some (.slice r.Ad s.x.data.length r.cd) := (unhide HY).cell (i := 4) rfl
  have y5 : V0.cell? ⟨w.heap.size + 1, 5, none⟩ = some (.int .u64 (s.x.more : Nat)) := (unhide HY).cell (i := 5) rfl
  have y6 : V0.cell? ⟨w.heap.size + 1, 6, none⟩ = some (.bool s.x.dynamic) := (unhide HY).cell (i := 6) rfl
  have y7 : V0.cell? ⟨w.heap.size + 1, 7, none⟩ = some (.slice r.A1 s.x.dyn.needed.length r.c1) := (unhide HY).cell (i := 7) rfl
  have y8 : V0.cell? ⟨w.heap.size + 1, 8, none⟩ = some (.string s.x.dyn.soname) := (unhide HY).cell (i := 8) rfl
  have y9 : V0.cell? ⟨w.heap.size + 1, 9, none⟩ = some (.string s.x.dyn.run) := (unhide HY).cell (i := 9) rfl
  have y10 : V0.cell? ⟨w.heap.size + 1, 10, none⟩ = some (.slice r.A2 s.x.dyn.syms.length r.c2) := (unhide HY).cell (i := 10) rfl
  have y11 : V0.cell? ⟨w.heap.size + 1, 11, none⟩ = some (.slice r.A3 s.x.dyn.relas.length r.c3) := (unhide HY).cell (i := 11) rfl
  have y12 : V0.cell? ⟨w.heap.size + 1, 12, none⟩ = some (.int .i64 s.x.apart) := (unhide HY).cell (i := 12) rfl
  have K1 := hide (eqBytes_any s.At r.At s.x.text.length s.x.text.length s.ct r.ct B s.x.text s.x.text V0 (unhide Hqt) (unhide Hrt) (by unfold maxLen; omega) (by unfold maxLen; omega))
  rw [show decide (s.x.text = s.x.text) = true from decide_eq_true rfl] at K1
  go_wp2_with fail
  refine (unhide K1).mono ?_
  rintro e w1 ⟨rfl, j, rfl⟩
  have hx := (unhide HX).drewN j
  have hy := (unhide HY).drewN j
  have hb := below_drewN' (Below.refl V0.heap.size V0) j
  have hqd : Rd (V0.drewN j) B 1 s.Ad s.x.data.length (bys s.x.data) := unhide Hqd
  have hrd : Rd (V0.drewN j) B 1 r.Ad s.x.data.length (bys s.x.data) := unhide Hrd
  generalize V0.drewN j = V1 at *
  have HX1 := hide hx
  have HY1 := hide hy
  have HB1 := hide hb
  clear x0 x1 x2 x3 x4 x5 x6 x7 x8 x9 x10 x11 x12 y0 y1 y2 y3 y4 y5 y6 y7 y8 y9 y10 y11 y12 hx hy hb K1
  obtain ⟨x0, x1, x2, x3, x4, x5, x6, x7, x8, x9, x10, x11, x12⟩ := spec_cells (unhide HX1)
  have y0 : V1.cell? ⟨w.heap.size + 1, 0, none⟩ = some (.int .u16 (s.x.type : Nat)) := (unhide HY1).cell (i := 0) rfl
  have y1 : V1.cell? ⟨w.heap.size + 1, 1, none⟩ = some (.int .u64 (s.x.entry : Nat)) := (unhide HY1).cell (i := 1) rfl
  have y2 : V1.cell? ⟨w.heap.size + 1, 2, none⟩ = some (.string s.x.interp) := (unhide HY1).cell (i := 2) rfl
  have y3 : V1.cell? ⟨w.heap.size + 1, 3, none⟩ = some (.slice r.At s.x.text.length r.ct) := (unhide HY1).cell (i := 3) rfl
  have y4 : V1.cell? ⟨w.heap.size + 1, 4, none⟩ = some (.slice r.Ad s.x.data.length r.cd) := (unhide HY1).cell (i := 4) rfl
  have y5 : V1.cell? ⟨w.heap.size + 1, 5, none⟩ = some (.int .u64 (s.x.more : Nat)) := (unhide HY1).cell (i := 5) rfl
  have y6 : V1.cell? ⟨w.heap.size + 1, 6, none⟩ = some (.bool s.x.dynamic) := (unhide HY1).cell (i := 6) rfl
  have y7 : V1.cell? ⟨w.heap.size + 1, 7, none⟩ = some (.slice r.A1 s.x.dyn.needed.length r.c1) := (unhide HY1).cell (i := 7) rfl
  have y8 : V1.cell? ⟨w.heap.size + 1, 8, none⟩ = some (.string s.x.dyn.soname) := (unhide HY1).cell (i := 8) rfl
  have y9 : V1.cell? ⟨w.heap.size + 1, 9, none⟩ = some (.string s.x.dyn.run) := (unhide HY1).cell (i := 9) rfl
  have y10 : V1.cell? ⟨w.heap.size + 1, 10, none⟩ = some (.slice r.A2 s.x.dyn.syms.length r.c2) := (unhide HY1).cell (i := 10) rfl
  have y11 : V1.cell? ⟨w.heap.size + 1, 11, none⟩ = some (.slice r.A3 s.x.dyn.relas.length r.c3) := (unhide HY1).cell (i := 11) rfl
  have y12 : V1.cell? ⟨w.heap.size + 1, 12, none⟩ = some (.int .i64 s.x.apart) := (unhide HY1).cell (i := 12) rfl
  have K2 := hide (eqBytes_any s.Ad r.Ad s.x.data.length s.x.data.length s.cd r.cd B s.x.data s.x.data V1 hqd hrd (by unfold maxLen; omega) (by unfold maxLen; omega))
  rw [show decide (s.x.data = s.x.data) = true from decide_eq_true rfl] at K2
  clear hqd hrd
  go_wp2_with fail
  refine (unhide K2).mono ?_
  rintro e w1 ⟨rfl, j2, rfl⟩
  have hx := (unhide HX1).drewN j2
  have hy := (unhide HY1).drewN j2
  have hb := below_drewN' (unhide HB1) j2
  generalize V1.drewN j2 = V2 at *
  clear x0 x1 x2 x3 x4 x5 x6 x7 x8 x9 x10 x11 x12 y0 y1 y2 y3 y4 y5 y6 y7 y8 y9 y10 y11 y12 K2
  obtain ⟨x0, x1, x2, x3, x4, x5, x6, x7, x8, x9, x10, x11, x12⟩ := spec_cells hx
  have HY2 := hide hy
  have y0 : V2.cell? ⟨w.heap.size + 1, 0, none⟩ = some (.int .u16 (s.x.type : Nat)) := (unhide HY2).cell (i := 0) rfl
  have y1 : V2.cell? ⟨w.heap.size + 1, 1, none⟩ = some (.int .u64 (s.x.entry : Nat)) := (unhide HY2).cell (i := 1) rfl
  have y2 : V2.cell? ⟨w.heap.size + 1, 2, none⟩ = some (.string s.x.interp) := (unhide HY2).cell (i := 2) rfl
  have y3 : V2.cell? ⟨w.heap.size + 1, 3, none⟩ = some (.slice r.At s.x.text.length r.ct) := (unhide HY2).cell (i := 3) rfl
  have y4 : V2.cell? ⟨w.heap.size + 1, 4, none⟩ = some (.slice r.Ad s.x.data.length r.cd) := (unhide HY2).cell (i := 4) rfl
  have y5 : V2.cell? ⟨w.heap.size + 1, 5, none⟩ = some (.int .u64 (s.x.more : Nat)) := (unhide HY2).cell (i := 5) rfl
  have y6 : V2.cell? ⟨w.heap.size + 1, 6, none⟩ = some (.bool s.x.dynamic) := (unhide HY2).cell (i := 6) rfl
  have y7 : V2.cell? ⟨w.heap.size + 1, 7, none⟩ = some (.slice r.A1 s.x.dyn.needed.length r.c1) := (unhide HY2).cell (i := 7) rfl
  have y8 : V2.cell? ⟨w.heap.size + 1, 8, none⟩ = some (.string s.x.dyn.soname) := (unhide HY2).cell (i := 8) rfl
  have y9 : V2.cell? ⟨w.heap.size + 1, 9, none⟩ = some (.string s.x.dyn.run) := (unhide HY2).cell (i := 9) rfl
  have y10 : V2.cell? ⟨w.heap.size + 1, 10, none⟩ = some (.slice r.A2 s.x.dyn.syms.length r.c2) := (unhide HY2).cell (i := 10) rfl
  have y11 : V2.cell? ⟨w.heap.size + 1, 11, none⟩ = some (.slice r.A3 s.x.dyn.relas.length r.c3) := (unhide HY2).cell (i := 11) rfl
  have y12 : V2.cell? ⟨w.heap.size + 1, 12, none⟩ = some (.int .i64 s.x.apart) := (unhide HY2).cell (i := 12) rfl
  have Hb := hide hb
  have K3 := hide ((unhide KD) V2 hb)
  clear hx hy hb KD
  go_wp2_with fail
  refine (unhide K3).mono ?_
  rintro e w1 ⟨rfl, hbz⟩
  have Hbz := hide ((unhide HB).trans (((unhide Hb).mono (unhide HB).size).trans (hbz.mono (by have := (unhide HB).size; have := (unhide Hb).size; omega))))
  clear hbz K3 x0 x1 x2 x3 x4 x5 x6 x7 x8 x9 x10 x11 x12 y0 y1 y2 y3 y4 y5 y6 y7 y8 y9 y10 y11 y12
  go_wp2_with fail
  go_ret
  exact ⟨rfl, unhide Hbz⟩
end Go.Proofs.YtnbecdahfgkffaaGreat
namespace Go.Proofs.YtnbecdahfgkffaaGreat
open Go.RowKit
theorem mSegInfo : (Tryz.prog.info? 74).map (·.size) = some 7 := by kernel_rfl
set_option maxRecDepth 100000 in
set_option maxHeartbeats 4000000 in
theorem pin_any (s : Xq) (gx k off sz al : Nat) (w : World) (hx : Blk w gx 66 s.l) (ho : off ≤ 4294967296) :
    Calls Tryz.prog 26 #[.int .u64 (k : Nat), .int .u64 (off : Nat), .int .u64 (sz : Nat), .int .u64 (al : Nat), .pointer (some ⟨gx, 0, none⟩)] w fun e w' => e = .returned (.agg (rowV (Mk.inRow s.x k off sz al)).toArray) ∧ Below w.heap.size w w' := by
  have hb1 := below_al w (.cells #[.int .u64 0, .int .u64 0, .int .u64 0, .int .u64 0, .int .u64 0, .int .u64 0, .int .u64 0] 74)
  have hbz := Blk.new w 74 [.int .u64 0, .int .u64 0, .int .u64 0, .int .u64 0, .int .u64 0, .int .u64 0, .int .u64 0]
  have hx1 := hx.belowSz hb1
  have hlt := hx.lt
  have hbs : Mk.base s.x ≤ 4194304 := by unfold Mk.base; split <;> omega
  obtain ⟨a0, a1, a2, a3, a4, a5, a6, a7, a8, a9, a10, a11, a12⟩ := spec_cellsP hx1
  have KB : Hid (Calls Tryz.prog 27 #[.agg #[.int .u16 (s.x.type : Nat), .int .u64 (s.x.entry : Nat), .string s.x.interp, .slice s.At s.x.text.length s.ct, .slice s.Ad s.x.data.length s.cd, .int .u64 (s.x.more : Nat), .bool s.x.dynamic, .slice s.A1 s.x.dyn.needed.length s.c1, .string s.x.dyn.soname, .string s.x.dyn.run, .slice s.A2 s.x.dyn.syms.length s.c2, .slice s.A3 s.x.dyn.relas.length s.c3, .int .i64 s.x.apart]] (w.alloc (.cells #[.int .u64 0, .int .u64 0, .int .u64 0, .int .u64 0, .int .u64 0, .int .u64 0, .int .u64 0] 74)) fun e w' => e = .returned (.int .u64 (Mk.base s.x : Nat)) ∧ Below (w.alloc (.cells #[.int .u64 0, .int .u64 0, .int .u64 0, .int .u64 0, .int .u64 0, .int .u64 0, .int .u64 0] 74)).heap.size (w.alloc (.cells #[.int .u64 0, .int .u64 0, .int .u64 0, .int .u64 0, .int .u64 0, .int .u64 0, .int .u64 0] 74)) w') := hide (pbase_any s (w.alloc (.cells #[.int .u64 0, .int .u64 0, .int .u64 0, .int .u64 0, .int .u64 0, .int .u64 0, .int .u64 0] 74)))
  have Hb1 := hide hb1
  have Hbz : Hid (Blk (w.alloc (.cells #[.int .u64 0, .int .u64 0, .int .u64 0, .int .u64 0, .int .u64 0, .int .u64 0, .int .u64 0] 74)) w.heap.size 74 [.int .u64 0, .int .u64 0, .int .u64 0, .int .u64 0, .int .u64 0, .int .u64 0, .int .u64 0]) := hide hbz
  clear hb1 hbz hx1 hx
  go_enter Tryz.func26, Tryz.ntmps26
  go_wp2_with fail
  generalize (w.alloc (.cells #[.int .u64 0, .int .u64 0, .int .u64 0, .int .u64 0, .int .u64 0, .int .u64 0, .int .u64 0] 74)) = W1 at *
  refine (unhide KB).mono ?_
  rintro e w1 ⟨rfl, hb⟩
  have Hb2 := hide ((unhide Hb1).trans (hb.mono (unhide Hb1).size))
  have Hbz1 := hide ((unhide Hbz).belowSz hb)
  clear hb KB a0 a1 a2 a3 a4 a5 a6 a7 a8 a9 a10 a11 a12
  generalize hbe : Mk.base s.x = bs at *
  have Hbe := hide hbe
  clear hbe
  go_wp2_with ((with_reducible refine (@id (wpList _ _ _ (Oper.mk none (Op.store 74 (.tmp 9) (.tmp 19)) _ _ _ none :: _) _ _) ?_)); refine wpList_store_row rfl 74 (.tmp 9) (.tmp 19) rfl w.heap.size (rowV ⟨k, 4, off, bs + off, sz, sz, al⟩).toArray rfl rfl 74 _ (unhide Hbz1) mSegInfo rfl (rowV_all _) ?_)
  refine bodyPost_ret (results_cell_row (P := Tryz.prog) rfl _ _ w.heap.size 74 (rowV ⟨k, 4, off, bs + off, sz, sz, al⟩).toArray (0, 0) _ rfl (setRow_heap _ _ _ _ _ _ (unhide Hbz1)) Tryz.underlying74 rfl mSegInfo) rfl ?_
  exact ⟨by unfold Mk.inRow; rw [unhide Hbe], below_setRow (unhide Hb2) (Nat.le_refl _) _⟩
end Go.Proofs.YtnbecdahfgkffaaGreat
