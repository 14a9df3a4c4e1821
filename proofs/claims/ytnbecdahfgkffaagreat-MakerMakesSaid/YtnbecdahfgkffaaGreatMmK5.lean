/- Texts of the claim LawMakerMakes (MkR4c, MkP7, RevJoin, MkP8): what the functions that the statement reaches compute, and plain laws of it. Conditions: those that each theorem states. -/
import Derived.Test.YtnbecdahfgkffaaGreatMmK3
import Derived.Test.YtnbecdahfgkffaaGreatMmK4
import Derived.Test.YtnbecdahfgkffaaGreatMmK1
import Derived.Test.YtnbecdahfgkffaaGreatShelf
import Derived.Test.YtnbecdahfgkffaaGreatMmK2
import Derived.Laws.IdiomCopy
import Derived.Lib.RowBridge
import Derived.Deep.DeepCutAuto
import Derived.Deep.CutBlock
set_option linter.unusedVariables false
set_option linter.unusedSimpArgs false
namespace Go.Proofs.YtnbecdahfgkffaaGreat
open Go.RowKit
theorem conv24 (w : World) (C : Array Value) (n c : Nat) : (convert 24 24 (.slice (some ⟨w.heap.size, 0, none⟩) n c)).run Tryz.prog (w.alloc (.cells C 5)) = .ok (.slice (some ⟨w.heap.size, 0, none⟩) n c) (w.alloc (.cells C 5 (C.size, C.size + 1))) := Lib.run_convert_bytes_const w 24 5 C n c Tryz.underlying24 Tryz.underlying5
theorem wpList_appZG {w : World} {ops : Array Oper} {rest : List Oper} {o : Oper} {a : Act} {Q : Exit → Act → World → Prop} (hgd : o.guard = none) (s x : Operand)
    (ho : o.op = .call { callee := .builtin .append, args := #[s, x], argTypes := #[24, 3] }) (g n c : Nat) (xs : List UInt8) (hs : a.eval s = .slice (some ⟨g, 0, none⟩) n c) (hr : ∀ j u, (bys xs)[j]? = some u → w.cell? ((⟨g, 0, none⟩ : Addr).add j) = some u) (hxl : xs.length = n)
    (k : Nat) (hx : a.eval x = .int .i64 (k : Nat)) (hroom : c < n + k) (hb : n + k ≤ 140737488355328)
    (h : ∀ c' w', w'.ownsRow w.heap.size 5 1 (.slice (some ⟨w.heap.size, 0, none⟩) (n + k) c') (n + k) (bys (xs ++ List.replicate k 0)) → Below w.heap.size w w' → wpList Tryz.prog ops Q rest (a.put o.dst (.slice (some ⟨w.heap.size, 0, none⟩) (n + k) c')) w') (hk : 0 < k) : wpList Tryz.prog ops Q (o :: rest) a w := by
  obtain ⟨i, hi, hz, hsize, hby⟩ := info_parts byteInfo
  have ht := Tryz.underlying24
  have htn := intTyp
  have hxl2 : (bys xs).length = n := by simp [bys]; exact hxl
  have hzl : (bys (List.replicate k 0)).length = k := by simp [bys]
  have hlen : (bys xs ++ bys (List.replicate k 0)).length = (n + k) * 1 := by rw [List.length_append, hxl2]; simp [bys]
  have hfo := run_firstCells_some (P := Tryz.prog) w.drew 1 n ⟨g, 0, none⟩ n c (bys xs) (by simpa using hxl2) (by simpa using hr)
  have hrr := Lib.run_append_grow_zeros (P := Tryz.prog) w 24 3 o.type 5 i (.int .u8 0) .i64 .i64 ht htn hi hz (some ⟨g, 0, none⟩) n c (bys xs) (by rw [hsize]; exact hfo) k hk (by omega) hroom (by omega) (by rw [hby]; omega) (by rw [hby]; exact growslice_fits (by omega) (by omega))
  refine wpList_plain hgd fun K hK => ?_
  unfold Oper.wp execOp
  simp only [ho, resolve, invoke, builtin, Sem.run_bind, Sem.run_pure, Result.andThen_ok, List.map_toArray, List.map_cons, List.map_nil, hs, hx, hrr]
  refine hK _ _ (h _ _ ?_ ((below_drew' (Below.refl _ _)).alloc (Nat.le_refl _) _))
  have hge := grownCap_ge w (n + k) c 5
  have hcm : grownCap w (n + k) c 5 ≤ maxLen := grownCap_le_maxLen w (n + k) c 5 (by unfold maxLen; omega)
  rw [bys_app]
  refine ⟨hlen, .inr ⟨w.heap.size, _, _, rfl, Nat.le_refl _, heap_alloc_new w.drew _, hge, hcm, ?_, ?_⟩⟩
  · have hz1 : (Value.int IntKind.u8 0).cells.size = 1 := rfl
    simp only [Array.size_append, List.size_toArray, size_zeroCells, hz1, hxl2]
    omega
  · rw [Array.toList_append, Array.toList_append, zeroL, List.append_assoc, ← hlen, ← List.append_assoc]
    exact List.take_left
set_option maxRecDepth 100000 in
set_option maxHeartbeats 8000000 in
theorem rheader_any (s : Xq) (Al : Option Addr) (nl cl B : Nat) (l : List Mk.Row) (w : World) (hB : B ≤ w.heap.size) (ho : XqOk s) (hl : l.length = nl) (hnl : nl ≤ 4294967296) (hr : Rd w B 7 Al nl (rowC l)) (hok : ∀ r ∈ l, RowOk r) :
    Calls Tryz.prog 39 #[.agg s.l.toArray, .slice Al nl cl] w fun e w' => ∃ A' c', e = .returned (.slice A' (64 + 56 * nl) c') ∧ w'.ownsRow w.heap.size 5 1 (.slice A' (64 + 56 * nl) c') (64 + 56 * nl) (bys (Mk.head s.x l)) ∧ Below w.heap.size w w' := by
  have hb1 : Below w.heap.size w (w.alloc (.cells #[.int .u16 (s.x.type : Nat), .int .u64 (s.x.entry : Nat), .string s.x.interp, .slice s.At s.x.text.length s.ct, .slice s.Ad s.x.data.length s.cd, .int .u64 (s.x.more : Nat), .bool s.x.dynamic, .slice s.A1 s.x.dyn.needed.length s.c1, .string s.x.dyn.soname, .string s.x.dyn.run, .slice s.A2 s.x.dyn.syms.length s.c2, .slice s.A3 s.x.dyn.relas.length s.c3, .int .i64 s.x.apart] 31)) := (Below.refl _ _).alloc (Nat.le_refl _) _
  have hbl := Blk.new w 31 s.l
  have hr1 := hr.below (hb1.mono hB)
  have Hty : Hid (∀ W, Below (w.heap.size + 1) (w.alloc (.cells #[.int .u16 (s.x.type : Nat), .int .u64 (s.x.entry : Nat), .string s.x.interp, .slice s.At s.x.text.length s.ct, .slice s.Ad s.x.data.length s.cd, .int .u64 (s.x.more : Nat), .bool s.x.dynamic, .slice s.A1 s.x.dyn.needed.length s.c1, .string s.x.dyn.soname, .string s.x.dyn.run, .slice s.A2 s.x.dyn.syms.length s.c2, .slice s.A3 s.x.dyn.relas.length s.c3, .int .i64 s.x.apart] 31)) W → W.cell? ⟨w.heap.size, 0, none⟩ = some (.int .u16 (s.x.type : Nat))) := hide (fun W hW => (hW.cell (p := ⟨w.heap.size, 0, none⟩) (by show w.heap.size < _; omega)).trans (hbl.cell (i := 0) rfl))
  have hen := ho.entry
  have hty := ho.type
  have Hbl : Hid (∀ W, Below (w.heap.size + 1) (w.alloc (.cells #[.int .u16 (s.x.type : Nat), .int .u64 (s.x.entry : Nat), .string s.x.interp, .slice s.At s.x.text.length s.ct, .slice s.Ad s.x.data.length s.cd, .int .u64 (s.x.more : Nat), .bool s.x.dynamic, .slice s.A1 s.x.dyn.needed.length s.c1, .string s.x.dyn.soname, .string s.x.dyn.run, .slice s.A2 s.x.dyn.syms.length s.c2, .slice s.A3 s.x.dyn.relas.length s.c3, .int .i64 s.x.apart] 31)) W → W.cell? ⟨w.heap.size, 1, none⟩ = some (.int .u64 (s.x.entry : Nat))) := hide (fun W hW => (hW.cell (p := ⟨w.heap.size, 1, none⟩) (by show w.heap.size < _; omega)).trans (hbl.cell (i := 1) rfl))
  have HBx := hide hb1
  have Hr := hide hr1
  have Hok := hide hok
  have Hl := hide hl
  have HE1 := hide (show (w.alloc (.cells #[.int .u16 (s.x.type : Nat), .int .u64 (s.x.entry : Nat), .string s.x.interp, .slice s.At s.x.text.length s.ct, .slice s.Ad s.x.data.length s.cd, .int .u64 (s.x.more : Nat), .bool s.x.dynamic, .slice s.A1 s.x.dyn.needed.length s.c1, .string s.x.dyn.soname, .string s.x.dyn.run, .slice s.A2 s.x.dyn.syms.length s.c2, .slice s.A3 s.x.dyn.relas.length s.c3, .int .i64 s.x.apart] 31)).heap.size = w.heap.size + 1 by simp)
  have Hhead := hide (show Mk.head s.x l = Mk.magic ++ Cl.lb s.x.type 2 ++ Cl.lb 62 2 ++ Cl.lb 1 4 ++ Cl.lb s.x.entry 8 ++ Cl.lb 64 8 ++ Cl.lb 0 8 ++ Cl.lb 0 4 ++ Cl.lb 64 2 ++ Cl.lb 56 2 ++ Cl.lb l.length 2 ++ Cl.lb 64 2 ++ Cl.lb 0 2 ++ Cl.lb 0 2 ++ Mk.rowsB l from rfl)
  show Calls _ _ #[.agg #[.int .u16 (s.x.type : Nat), .int .u64 (s.x.entry : Nat), .string s.x.interp, .slice s.At s.x.text.length s.ct, .slice s.Ad s.x.data.length s.cd, .int .u64 (s.x.more : Nat), .bool s.x.dynamic, .slice s.A1 s.x.dyn.needed.length s.c1, .string s.x.dyn.soname, .string s.x.dyn.run, .slice s.A2 s.x.dyn.syms.length s.c2, .slice s.A3 s.x.dyn.relas.length s.c3, .int .i64 s.x.apart], .slice Al nl cl] w _
  clear hb1 hbl hr hr1 hok hl ho
  generalize Mk.head s.x l = hd at *
  generalize s.x.type = ty at *
  generalize s.x.entry = en at *
  have hcv := conv24 (w.alloc (.cells #[.int .u16 (ty : Nat), .int .u64 (en : Nat), .string s.x.interp, .slice s.At s.x.text.length s.ct, .slice s.Ad s.x.data.length s.cd, .int .u64 (s.x.more : Nat), .bool s.x.dynamic, .slice s.A1 s.x.dyn.needed.length s.c1, .string s.x.dyn.soname, .string s.x.dyn.run, .slice s.A2 s.x.dyn.syms.length s.c2, .slice s.A3 s.x.dyn.relas.length s.c3, .int .i64 s.x.apart] 31)) #[.int .u8 127, .int .u8 69, .int .u8 76, .int .u8 70, .int .u8 2, .int .u8 1, .int .u8 1] 7 7
  rw [unhide HE1] at hcv
  have hbw : Below (w.heap.size + 1) (w.alloc (.cells #[.int .u16 (ty : Nat), .int .u64 (en : Nat), .string s.x.interp, .slice s.At s.x.text.length s.ct, .slice s.Ad s.x.data.length s.cd, .int .u64 (s.x.more : Nat), .bool s.x.dynamic, .slice s.A1 s.x.dyn.needed.length s.c1, .string s.x.dyn.soname, .string s.x.dyn.run, .slice s.A2 s.x.dyn.syms.length s.c2, .slice s.A3 s.x.dyn.relas.length s.c3, .int .i64 s.x.apart] 31)) ((w.alloc (.cells #[.int .u16 (ty : Nat), .int .u64 (en : Nat), .string s.x.interp, .slice s.At s.x.text.length s.ct, .slice s.Ad s.x.data.length s.cd, .int .u64 (s.x.more : Nat), .bool s.x.dynamic, .slice s.A1 s.x.dyn.needed.length s.c1, .string s.x.dyn.soname, .string s.x.dyn.run, .slice s.A2 s.x.dyn.syms.length s.c2, .slice s.A3 s.x.dyn.relas.length s.c3, .int .i64 s.x.apart] 31)).alloc (.cells #[.int .u8 127, .int .u8 69, .int .u8 76, .int .u8 70, .int .u8 2, .int .u8 1, .int .u8 1] 5 (7, 8))) := (Below.refl _ _).alloc (by rw [unhide HE1]; exact Nat.le_refl _) _
  have hcells : ∀ j u, (bys [127, 69, 76, 70, 2, 1, 1])[j]? = some u → ((w.alloc (.cells #[.int .u16 (ty : Nat), .int .u64 (en : Nat), .string s.x.interp, .slice s.At s.x.text.length s.ct, .slice s.Ad s.x.data.length s.cd, .int .u64 (s.x.more : Nat), .bool s.x.dynamic, .slice s.A1 s.x.dyn.needed.length s.c1, .string s.x.dyn.soname, .string s.x.dyn.run, .slice s.A2 s.x.dyn.syms.length s.c2, .slice s.A3 s.x.dyn.relas.length s.c3, .int .i64 s.x.apart] 31)).alloc (.cells #[.int .u8 127, .int .u8 69, .int .u8 76, .int .u8 70, .int .u8 2, .int .u8 1, .int .u8 1] 5 (7, 8))).cell? ((⟨w.heap.size + 1, 0, none⟩ : Addr).add j) = some u := by
    intro j u hu
    have h := heap_alloc_new (w.alloc (.cells #[.int .u16 (ty : Nat), .int .u64 (en : Nat), .string s.x.interp, .slice s.At s.x.text.length s.ct, .slice s.Ad s.x.data.length s.cd, .int .u64 (s.x.more : Nat), .bool s.x.dynamic, .slice s.A1 s.x.dyn.needed.length s.c1, .string s.x.dyn.soname, .string s.x.dyn.run, .slice s.A2 s.x.dyn.syms.length s.c2, .slice s.A3 s.x.dyn.relas.length s.c3, .int .i64 s.x.apart] 31)) (.cells #[.int .u8 127, .int .u8 69, .int .u8 76, .int .u8 70, .int .u8 2, .int .u8 1, .int .u8 1] 5 (7, 8))
    rw [unhide HE1] at h
    rw [Addr.add_lit, cell_of_row _ _ _ _ _ _ h, Nat.zero_add]
    simpa [bys] using hu
  have Hbw := hide hbw
  have Hcells := hide hcells
  have hszw : w.heap.size + 1 ≤ ((w.alloc (.cells #[.int .u16 (ty : Nat), .int .u64 (en : Nat), .string s.x.interp, .slice s.At s.x.text.length s.ct, .slice s.Ad s.x.data.length s.cd, .int .u64 (s.x.more : Nat), .bool s.x.dynamic, .slice s.A1 s.x.dyn.needed.length s.c1, .string s.x.dyn.soname, .string s.x.dyn.run, .slice s.A2 s.x.dyn.syms.length s.c2, .slice s.A3 s.x.dyn.relas.length s.c3, .int .i64 s.x.apart] 31)).alloc (.cells #[.int .u8 127, .int .u8 69, .int .u8 76, .int .u8 70, .int .u8 2, .int .u8 1, .int .u8 1] 5 (7, 8))).heap.size := by have := hbw.size; rw [unhide HE1] at this; exact this
  have Hszw := hide hszw
  clear hbw hcells hszw
  go_enter Tryz.func39, Tryz.ntmps39
  go_wp2_with (at_builtin; refine wpList_appZG rfl _ _ rfl (w.heap.size + 1) 7 7 [127, 69, 76, 70, 2, 1, 1] rfl (unhide Hcells) rfl 9 rfl (by omega) (by omega) ?_ (by omega); intro c0 v0 ho hb; have HO0 := hide (own_base ho (unhide Hszw)); have HB0 := hide ((unhide Hbw).trans (hb.mono (unhide Hszw))); clear ho hb; have y0 := (unhide Hty) v0 (unhide HB0))
  have hs0 : w.heap.size + 1 ≤ v0.heap.size := by
    have h2 := (unhide HB0).size
    rw [unhide HE1] at h2
    exact h2
  have hown0 : v0.ownsRow (w.heap.size + 1) 5 1 (.slice (some ⟨w.heap.size + 1 + 1, 0, none⟩) 16 c0) 16 (bys ([127, 69, 76, 70, 2, 1, 1] ++ List.replicate 9 0)) := by
    have h := unhide HO0
    rw [show ((w.alloc (.cells #[.int .u16 (ty : Nat), .int .u64 (en : Nat), .string s.x.interp, .slice s.At s.x.text.length s.ct, .slice s.Ad s.x.data.length s.cd, .int .u64 (s.x.more : Nat), .bool s.x.dynamic, .slice s.A1 s.x.dyn.needed.length s.c1, .string s.x.dyn.soname, .string s.x.dyn.run, .slice s.A2 s.x.dyn.syms.length s.c2, .slice s.A3 s.x.dyn.relas.length s.c3, .int .i64 s.x.apart] 31)).alloc (.cells #[.int .u8 127, .int .u8 69, .int .u8 76, .int .u8 70, .int .u8 2, .int .u8 1, .int .u8 1] 5 (7, 8))).heap.size = w.heap.size + 1 + 1 by simp] at h
    exact h
  have HG00 := hide (Grew.refl hown0)
  have Hlow := hide (fun k hk => (hown0.lt k hk).1)
  clear Hbw hown0 HO0 hcv Hcells Hszw
  generalize (w.alloc (.cells #[.int .u16 (ty : Nat), .int .u64 (en : Nat), .string s.x.interp, .slice s.At s.x.text.length s.ct, .slice s.Ad s.x.data.length s.cd, .int .u64 (s.x.more : Nat), .bool s.x.dynamic, .slice s.A1 s.x.dyn.needed.length s.c1, .string s.x.dyn.soname, .string s.x.dyn.run, .slice s.A2 s.x.dyn.syms.length s.c2, .slice s.A3 s.x.dyn.relas.length s.c3, .int .i64 s.x.apart] 31)) = W1 at *
  have e1 := unhide HE1
  refine (rbytes14_c (ty) 2 _ _ (rfl) rfl v0 (by omega) (.inr (.inl rfl))).mono ?_
  rintro e x1w ⟨A1n, c1n, rfl, ho, hb⟩
  have hs1n := hb.size
  have Ho1 := hide ho
  have Hb1 := hide hb
  have Hr1 := hide (own_below (unhide HG00).own hb)
  have hsg1 := (unhide HG00).kept.size
  clear ho hb
  go_wp2_with (at_builtin; refine wpList_app byteTy rfl _ _ rfl (w.heap.size + 1) (.slice (some ⟨w.heap.size + 1 + 1, 0, none⟩) (16) c0) (16) _ rfl (unhide Hr1) x1w.heap.size A1n 2 c1n (bys (Cl.lb (ty) 2)) rfl (Rd.of_own (unhide Ho1)) (bys_one _) (by omega) (by omega) ?_; intro A1r c1r x1v ho hg hat; have HG1 := hide ((unhide HG00).trans (Grew.after (unhide Hb1) (show Grew x1w x1v (w.heap.size + 1) (.slice (some ⟨w.heap.size + 1 + 1, 0, none⟩) (16) c0) (.slice A1r (16 + 2) c1r) (16 + 2) (([127, 69, 76, 70, 2, 1, 1] ++ List.replicate 9 0) ++ Cl.lb (ty) 2) from ⟨by rw [bys_app]; exact ho, hg, hat⟩))); clear ho hg hat; have y1 := (unhide Hbl) x1v ((unhide HB0).trans ((unhide HG1).below hs0 (unhide Hlow))))
  have hsw1 := (unhide HG1).kept.size
  refine (rbytes14_c (62) 2 _ _ (rfl) rfl x1v (by omega) (.inr (.inl rfl))).mono ?_
  rintro e x2w ⟨A2n, c2n, rfl, ho, hb⟩
  have hs2n := hb.size
  have Ho2 := hide ho
  have Hb2 := hide hb
  have Hr2 := hide (own_below (unhide HG1).own hb)
  have hsg2 := (unhide HG1).kept.size
  clear ho hb
  go_wp2_with (at_builtin; refine wpList_app byteTy rfl _ _ rfl (w.heap.size + 1) (.slice A1r (16 + 2) c1r) (16 + 2) _ rfl (unhide Hr2) x2w.heap.size A2n 2 c2n (bys (Cl.lb (62) 2)) rfl (Rd.of_own (unhide Ho2)) (bys_one _) (by omega) (by omega) ?_; intro A2r c2r x2v ho hg hat; have HG2 := hide ((unhide HG1).trans (Grew.after (unhide Hb2) (show Grew x2w x2v (w.heap.size + 1) (.slice A1r (16 + 2) c1r) (.slice A2r (16 + 2 + 2) c2r) (16 + 2 + 2) (([127, 69, 76, 70, 2, 1, 1] ++ List.replicate 9 0) ++ Cl.lb (ty) 2 ++ Cl.lb (62) 2) from ⟨by rw [bys_app]; exact ho, hg, hat⟩))); clear ho hg hat; skip)
  have hsw2 := (unhide HG2).kept.size
  refine (rbytes14_c (1) 4 _ _ (rfl) rfl x2v (by omega) (.inr (.inr (.inl rfl)))).mono ?_
  rintro e x3w ⟨A3n, c3n, rfl, ho, hb⟩
  have hs3n := hb.size
  have Ho3 := hide ho
  have Hb3 := hide hb
  have Hr3 := hide (own_below (unhide HG2).own hb)
  have hsg3 := (unhide HG2).kept.size
  clear ho hb
  go_wp2_with (at_builtin; refine wpList_app byteTy rfl _ _ rfl (w.heap.size + 1) (.slice A2r (16 + 2 + 2) c2r) (16 + 2 + 2) _ rfl (unhide Hr3) x3w.heap.size A3n 4 c3n (bys (Cl.lb (1) 4)) rfl (Rd.of_own (unhide Ho3)) (bys_one _) (by omega) (by omega) ?_; intro A3r c3r x3v ho hg hat; have HG3 := hide ((unhide HG2).trans (Grew.after (unhide Hb3) (show Grew x3w x3v (w.heap.size + 1) (.slice A2r (16 + 2 + 2) c2r) (.slice A3r (16 + 2 + 2 + 4) c3r) (16 + 2 + 2 + 4) (([127, 69, 76, 70, 2, 1, 1] ++ List.replicate 9 0) ++ Cl.lb (ty) 2 ++ Cl.lb (62) 2 ++ Cl.lb (1) 4) from ⟨by rw [bys_app]; exact ho, hg, hat⟩))); clear ho hg hat; have y1 := (unhide Hbl) x3v ((unhide HB0).trans ((unhide HG3).below hs0 (unhide Hlow))))
  have hsw3 := (unhide HG3).kept.size
  refine (rbytes14_c (en) 8 _ _ (rfl) rfl x3v hen (.inr (.inr (.inr rfl)))).mono ?_
  rintro e x4w ⟨A4n, c4n, rfl, ho, hb⟩
  have hs4n := hb.size
  have Ho4 := hide ho
  have Hb4 := hide hb
  have Hr4 := hide (own_below (unhide HG3).own hb)
  have hsg4 := (unhide HG3).kept.size
  clear ho hb
  go_wp2_with (at_builtin; refine wpList_app byteTy rfl _ _ rfl (w.heap.size + 1) (.slice A3r (16 + 2 + 2 + 4) c3r) (16 + 2 + 2 + 4) _ rfl (unhide Hr4) x4w.heap.size A4n 8 c4n (bys (Cl.lb (en) 8)) rfl (Rd.of_own (unhide Ho4)) (bys_one _) (by omega) (by omega) ?_; intro A4r c4r x4v ho hg hat; have HG4 := hide ((unhide HG3).trans (Grew.after (unhide Hb4) (show Grew x4w x4v (w.heap.size + 1) (.slice A3r (16 + 2 + 2 + 4) c3r) (.slice A4r (16 + 2 + 2 + 4 + 8) c4r) (16 + 2 + 2 + 4 + 8) (([127, 69, 76, 70, 2, 1, 1] ++ List.replicate 9 0) ++ Cl.lb (ty) 2 ++ Cl.lb (62) 2 ++ Cl.lb (1) 4 ++ Cl.lb (en) 8) from ⟨by rw [bys_app]; exact ho, hg, hat⟩))); clear ho hg hat; skip)
  have hsw4 := (unhide HG4).kept.size
  refine (rbytes14_c (64) 8 _ _ (rfl) rfl x4v (by omega) (.inr (.inr (.inr rfl)))).mono ?_
  rintro e x5w ⟨A5n, c5n, rfl, ho, hb⟩
  have hs5n := hb.size
  have Ho5 := hide ho
  have Hb5 := hide hb
  have Hr5 := hide (own_below (unhide HG4).own hb)
  have hsg5 := (unhide HG4).kept.size
  clear ho hb
  go_wp2_with (first | (at_builtin; refine wpList_app byteTy rfl _ _ rfl (w.heap.size + 1) (.slice A4r (16 + 2 + 2 + 4 + 8) c4r) (16 + 2 + 2 + 4 + 8) _ rfl (unhide Hr5) x5w.heap.size A5n 8 c5n (bys (Cl.lb (64) 8)) rfl (Rd.of_own (unhide Ho5)) (bys_one _) (by omega) (by omega) ?_; intro A5r c5r x5v ho hg hat; have HG5 := hide ((unhide HG4).trans (Grew.after (unhide Hb5) (show Grew x5w x5v (w.heap.size + 1) (.slice A4r (16 + 2 + 2 + 4 + 8) c4r) (.slice A5r (16 + 2 + 2 + 4 + 8 + 8) c5r) (16 + 2 + 2 + 4 + 8 + 8) (([127, 69, 76, 70, 2, 1, 1] ++ List.replicate 9 0) ++ Cl.lb (ty) 2 ++ Cl.lb (62) 2 ++ Cl.lb (1) 4 ++ Cl.lb (en) 8 ++ Cl.lb (64) 8) from ⟨by rw [bys_app]; exact ho, hg, hat⟩))); clear ho hg hat; skip) | (at_builtin; refine wpList_appZ rfl _ _ rfl (w.heap.size + 1) (.slice A5r (16 + 2 + 2 + 4 + 8 + 8) c5r) (16 + 2 + 2 + 4 + 8 + 8) _ rfl (unhide HG5).own 12 rfl (by omega) (by have := (unhide HG5).kept.size; omega) ?_; intro A5z c5z z5v hG; have HZ5 := hide ((unhide HG5).trans hG); clear hG; skip))
  have hsw5 := (unhide HG5).kept.size
  have hsz5 := (unhide HZ5).kept.size
  refine (rbytes14_c (64) 2 _ _ (rfl) rfl z5v (by omega) (.inr (.inl rfl))).mono ?_
  rintro e x6w ⟨A6n, c6n, rfl, ho, hb⟩
  have hs6n := hb.size
  have Ho6 := hide ho
  have Hb6 := hide hb
  have Hr6 := hide (own_below (unhide HZ5).own hb)
  have hsg6 := (unhide HZ5).kept.size
  clear ho hb
  go_wp2_with (at_builtin; refine wpList_app byteTy rfl _ _ rfl (w.heap.size + 1) (.slice A5z (16 + 2 + 2 + 4 + 8 + 8 + 12) c5z) (16 + 2 + 2 + 4 + 8 + 8 + 12) _ rfl (unhide Hr6) x6w.heap.size A6n 2 c6n (bys (Cl.lb (64) 2)) rfl (Rd.of_own (unhide Ho6)) (bys_one _) (by omega) (by omega) ?_; intro A6r c6r x6v ho hg hat; have HG6 := hide ((unhide HZ5).trans (Grew.after (unhide Hb6) (show Grew x6w x6v (w.heap.size + 1) (.slice A5z (16 + 2 + 2 + 4 + 8 + 8 + 12) c5z) (.slice A6r (16 + 2 + 2 + 4 + 8 + 8 + 12 + 2) c6r) (16 + 2 + 2 + 4 + 8 + 8 + 12 + 2) (([127, 69, 76, 70, 2, 1, 1] ++ List.replicate 9 0) ++ Cl.lb (ty) 2 ++ Cl.lb (62) 2 ++ Cl.lb (1) 4 ++ Cl.lb (en) 8 ++ Cl.lb (64) 8 ++ List.replicate 12 0 ++ Cl.lb (64) 2) from ⟨by rw [bys_app]; exact ho, hg, hat⟩))); clear ho hg hat; skip)
  have hsw6 := (unhide HG6).kept.size
  refine (rbytes14_c (56) 2 _ _ (rfl) rfl x6v (by omega) (.inr (.inl rfl))).mono ?_
  rintro e x7w ⟨A7n, c7n, rfl, ho, hb⟩
  have hs7n := hb.size
  have Ho7 := hide ho
  have Hb7 := hide hb
  have Hr7 := hide (own_below (unhide HG6).own hb)
  have hsg7 := (unhide HG6).kept.size
  clear ho hb
  go_wp2_with (at_builtin; refine wpList_app byteTy rfl _ _ rfl (w.heap.size + 1) (.slice A6r (16 + 2 + 2 + 4 + 8 + 8 + 12 + 2) c6r) (16 + 2 + 2 + 4 + 8 + 8 + 12 + 2) _ rfl (unhide Hr7) x7w.heap.size A7n 2 c7n (bys (Cl.lb (56) 2)) rfl (Rd.of_own (unhide Ho7)) (bys_one _) (by omega) (by omega) ?_; intro A7r c7r x7v ho hg hat; have HG7 := hide ((unhide HG6).trans (Grew.after (unhide Hb7) (show Grew x7w x7v (w.heap.size + 1) (.slice A6r (16 + 2 + 2 + 4 + 8 + 8 + 12 + 2) c6r) (.slice A7r (16 + 2 + 2 + 4 + 8 + 8 + 12 + 2 + 2) c7r) (16 + 2 + 2 + 4 + 8 + 8 + 12 + 2 + 2) (([127, 69, 76, 70, 2, 1, 1] ++ List.replicate 9 0) ++ Cl.lb (ty) 2 ++ Cl.lb (62) 2 ++ Cl.lb (1) 4 ++ Cl.lb (en) 8 ++ Cl.lb (64) 8 ++ List.replicate 12 0 ++ Cl.lb (64) 2 ++ Cl.lb (56) 2) from ⟨by rw [bys_app]; exact ho, hg, hat⟩))); clear ho hg hat; skip)
  have hsw7 := (unhide HG7).kept.size
  refine (rbytes14_c (nl) 2 _ _ (rfl) rfl x7v (by omega) (.inr (.inl rfl))).mono ?_
  rintro e x8w ⟨A8n, c8n, rfl, ho, hb⟩
  have hs8n := hb.size
  have Ho8 := hide ho
  have Hb8 := hide hb
  have Hr8 := hide (own_below (unhide HG7).own hb)
  have hsg8 := (unhide HG7).kept.size
  clear ho hb
  go_wp2_with (at_builtin; refine wpList_app byteTy rfl _ _ rfl (w.heap.size + 1) (.slice A7r (16 + 2 + 2 + 4 + 8 + 8 + 12 + 2 + 2) c7r) (16 + 2 + 2 + 4 + 8 + 8 + 12 + 2 + 2) _ rfl (unhide Hr8) x8w.heap.size A8n 2 c8n (bys (Cl.lb (nl) 2)) rfl (Rd.of_own (unhide Ho8)) (bys_one _) (by omega) (by omega) ?_; intro A8r c8r x8v ho hg hat; have HG8 := hide ((unhide HG7).trans (Grew.after (unhide Hb8) (show Grew x8w x8v (w.heap.size + 1) (.slice A7r (16 + 2 + 2 + 4 + 8 + 8 + 12 + 2 + 2) c7r) (.slice A8r (16 + 2 + 2 + 4 + 8 + 8 + 12 + 2 + 2 + 2) c8r) (16 + 2 + 2 + 4 + 8 + 8 + 12 + 2 + 2 + 2) (([127, 69, 76, 70, 2, 1, 1] ++ List.replicate 9 0) ++ Cl.lb (ty) 2 ++ Cl.lb (62) 2 ++ Cl.lb (1) 4 ++ Cl.lb (en) 8 ++ Cl.lb (64) 8 ++ List.replicate 12 0 ++ Cl.lb (64) 2 ++ Cl.lb (56) 2 ++ Cl.lb (nl) 2) from ⟨by rw [bys_app]; exact ho, hg, hat⟩))); clear ho hg hat; skip)
  have hsw8 := (unhide HG8).kept.size
  refine (rbytes14_c (64) 2 _ _ (rfl) rfl x8v (by omega) (.inr (.inl rfl))).mono ?_
  rintro e x9w ⟨A9n, c9n, rfl, ho, hb⟩
  have hs9n := hb.size
  have Ho9 := hide ho
  have Hb9 := hide hb
  have Hr9 := hide (own_below (unhide HG8).own hb)
  have hsg9 := (unhide HG8).kept.size
  clear ho hb
  go_wp2_with (first | (at_builtin; refine wpList_app byteTy rfl _ _ rfl (w.heap.size + 1) (.slice A8r (16 + 2 + 2 + 4 + 8 + 8 + 12 + 2 + 2 + 2) c8r) (16 + 2 + 2 + 4 + 8 + 8 + 12 + 2 + 2 + 2) _ rfl (unhide Hr9) x9w.heap.size A9n 2 c9n (bys (Cl.lb (64) 2)) rfl (Rd.of_own (unhide Ho9)) (bys_one _) (by omega) (by omega) ?_; intro A9r c9r x9v ho hg hat; have HG9 := hide ((unhide HG8).trans (Grew.after (unhide Hb9) (show Grew x9w x9v (w.heap.size + 1) (.slice A8r (16 + 2 + 2 + 4 + 8 + 8 + 12 + 2 + 2 + 2) c8r) (.slice A9r (16 + 2 + 2 + 4 + 8 + 8 + 12 + 2 + 2 + 2 + 2) c9r) (16 + 2 + 2 + 4 + 8 + 8 + 12 + 2 + 2 + 2 + 2) (([127, 69, 76, 70, 2, 1, 1] ++ List.replicate 9 0) ++ Cl.lb (ty) 2 ++ Cl.lb (62) 2 ++ Cl.lb (1) 4 ++ Cl.lb (en) 8 ++ Cl.lb (64) 8 ++ List.replicate 12 0 ++ Cl.lb (64) 2 ++ Cl.lb (56) 2 ++ Cl.lb (nl) 2 ++ Cl.lb (64) 2) from ⟨by rw [bys_app]; exact ho, hg, hat⟩))); clear ho hg hat; skip) | (at_builtin; refine wpList_appZ rfl _ _ rfl (w.heap.size + 1) (.slice A9r (16 + 2 + 2 + 4 + 8 + 8 + 12 + 2 + 2 + 2 + 2) c9r) (16 + 2 + 2 + 4 + 8 + 8 + 12 + 2 + 2 + 2 + 2) _ rfl (unhide HG9).own 4 rfl (by omega) (by have := (unhide HG9).kept.size; omega) ?_; intro A9z c9z z9v hG; have HZ9 := hide ((unhide HG9).trans hG); clear hG; skip))
  have hsw9 := (unhide HG9).kept.size
  have hsz9 := (unhide HZ9).kept.size
  have hGF := unhide HZ9
  have HBF := hide ((unhide HB0).trans (hGF.below hs0 (unhide Hlow)))
  have hownF := hGF.own
  obtain ⟨H, hH⟩ : ∃ H, ([127, 69, 76, 70, 2, 1, 1] ++ List.replicate 9 0) ++ Cl.lb (ty) 2 ++ Cl.lb (62) 2 ++ Cl.lb (1) 4 ++ Cl.lb (en) 8 ++ Cl.lb (64) 8 ++ List.replicate 12 0 ++ Cl.lb (64) 2 ++ Cl.lb (56) 2 ++ Cl.lb (nl) 2 ++ Cl.lb (64) 2 ++ List.replicate 4 0 = H := ⟨_, rfl⟩
  rw [hH] at hownF
  have HOF := hide hownF
  have HHd : Hid (hd = H ++ Mk.rowsB l) := hide (by
    rw [unhide Hhead, ← hH, unhide Hl]
    have e : ([127, 69, 76, 70, 2, 1, 1] : List UInt8) ++ List.replicate 9 0 = Mk.magic := rfl
    have e8 : Cl.lb 0 8 ++ Cl.lb 0 4 = List.replicate 12 0 := rfl
    have e4 : Cl.lb 0 2 ++ Cl.lb 0 2 = List.replicate 4 0 := rfl
    rw [e, ← e8, ← e4]
    simp only [List.append_assoc])
  clear hGF hownF hH Hhead y1 Hty Hbl
  generalize z9v = vF at *
  generalize A9z = AF at *
  generalize c9z = cF at *
  go_loopg [5, 6] nl (fun gk bv iv wr => ∃ (j : Nat) (Aj : Option Addr) (cj : Nat), gk = nl - j ∧ j ≤ nl ∧ iv = .int .i64 j ∧ bv = .slice Aj (64 + 56 * j) cj ∧ wr.ownsRow (w.heap.size + 1) 5 1 (.slice Aj (64 + 56 * j) cj) (64 + 56 * j) (bys (H ++ Mk.rowsB (l.take j))) ∧ Below (w.heap.size + 1) W1 wr)
  case atStart => exact ⟨0, AF, cF, by omega, by omega, rfl, rfl, by simpa [Mk.rowsB] using unhide HOF, unhide HBF⟩
  case round =>
  clear HOF HBF
  try clear HB0
  try clear Hlow
  try clear HG00
  obtain ⟨j, Aj, cj, hgk, hj, rfl, rfl, hown, hb⟩ := hrel
  have Hgk := hide hgk
  have hsz := hb.size
  have Hb := hide hb
  have HG0 := hide (Grew.refl hown)
  have Hlow := hide (fun k hk => (hown.lt k hk).1)
  clear hgk hb hown
  rcases Nat.lt_or_ge j nl with hlt | hge
  case inr =>
    obtain rfl : j = nl := by omega
    have h := (unhide HG0).own
    rw [List.take_of_length_le (by rw [unhide Hl]; exact Nat.le_refl _), ← unhide HHd] at h
    have HF := hide h
    clear h
    go_wp2_with fail
    go_ret
    exact ⟨Aj, cj, rfl, own_base (unhide HF) (by omega), (unhide HBx).trans ((unhide Hb).mono (by omega))⟩
  obtain ⟨x, hx⟩ : ∃ x, l[j]? = some x := ⟨_, List.getElem?_eq_getElem (by rw [unhide Hl]; exact hlt)⟩
  obtain ⟨b1, o1, rfl, hb1, y0, y1, y2, y3, y4, y5, y6⟩ := mkrow_at ((unhide Hr).below ((unhide Hb).mono (by omega))) hx
  have hb1w : b1 < w.heap.size := by omega
  have Hall : Hid (∀ W, Below (w.heap.size + 1) wr W → W.cell? ⟨b1, o1 + j * 7, none⟩ = some (.int .u64 (x.kind : Nat)) ∧ W.cell? ⟨b1, o1 + j * 7 + 1, none⟩ = some (.int .u64 (x.flags : Nat)) ∧ W.cell? ⟨b1, o1 + j * 7 + 2, none⟩ = some (.int .u64 (x.off : Nat)) ∧ W.cell? ⟨b1, o1 + j * 7 + 3, none⟩ = some (.int .u64 (x.addr : Nat)) ∧ W.cell? ⟨b1, o1 + j * 7 + 4, none⟩ = some (.int .u64 (x.fsz : Nat)) ∧ W.cell? ⟨b1, o1 + j * 7 + 5, none⟩ = some (.int .u64 (x.msz : Nat)) ∧ W.cell? ⟨b1, o1 + j * 7 + 6, none⟩ = some (.int .u64 (x.align : Nat))) := hide (fun W hW => by
    have hb1' : b1 < w.heap.size + 1 := by omega
    exact ⟨(hW.cell (p := ⟨b1, _, none⟩) hb1').trans y0, (hW.cell (p := ⟨b1, _, none⟩) hb1').trans y1, (hW.cell (p := ⟨b1, _, none⟩) hb1').trans y2, (hW.cell (p := ⟨b1, _, none⟩) hb1').trans y3, (hW.cell (p := ⟨b1, _, none⟩) hb1').trans y4, (hW.cell (p := ⟨b1, _, none⟩) hb1').trans y5, (hW.cell (p := ⟨b1, _, none⟩) hb1').trans y6⟩)
  obtain ⟨k0, k1, k2, k3, k4, k5, k6⟩ := (unhide Hok) x (List.mem_of_getElem? hx)
  have Hnext := hide (rowsB_next hx)
  have HrB : Hid (Mk.rowB x = Cl.lb x.kind 4 ++ Cl.lb x.flags 4 ++ Mk.lbs 8 [x.off, x.addr, x.addr, x.fsz, x.msz, x.align]) := hide (by unfold Mk.rowB; simp [Mk.lbs])
  have hlt' : j < nl := hlt
  clear hx y2 y3 y4 y5 y6
  generalize Mk.rowB x = rb at *
  generalize x.kind = x0 at *
  generalize x.flags = x1 at *
  generalize x.off = x2 at *
  generalize x.addr = x3 at *
  generalize x.fsz = x4 at *
  generalize x.msz = x5 at *
  generalize x.align = x6 at *
  go_wp2_with fail
  refine (rbytes14_c (x0) 4 _ _ (rfl) rfl wr k0 (.inr (.inr (.inl rfl)))).mono ?_
  rintro e x1w ⟨A1n, c1n, rfl, ho, hb⟩
  have hs1n := hb.size
  have Ho1 := hide ho
  have Hb1 := hide hb
  have Hr1 := hide (own_below (unhide HG0).own hb)
  have hsg1 := (unhide HG0).kept.size
  clear ho hb
  go_wp2_with (at_builtin; refine wpList_app byteTy rfl _ _ rfl (w.heap.size + 1) (.slice Aj (64 + 56 * j) cj) (64 + 56 * j) _ rfl (unhide Hr1) x1w.heap.size A1n 4 c1n (bys (Cl.lb (x0) 4)) rfl (Rd.of_own (unhide Ho1)) (bys_one _) (by omega) (by omega) ?_; intro A1r c1r x1v ho hg hat; have HG1 := hide ((unhide HG0).trans (Grew.after (unhide Hb1) (show Grew x1w x1v (w.heap.size + 1) (.slice Aj (64 + 56 * j) cj) (.slice A1r (64 + 56 * j + 4) c1r) (64 + 56 * j + 4) ((H ++ Mk.rowsB (l.take j)) ++ Cl.lb (x0) 4) from ⟨by rw [bys_app]; exact ho, hg, hat⟩))); clear ho hg hat; clear y0 y1; obtain ⟨y0, y1, y2, y3, y4, y5, y6⟩ := (unhide Hall) x1v ((unhide HG1).below (by omega) (unhide Hlow)))
  have hsw1 := (unhide HG1).kept.size
  refine (rbytes14_c (x1) 4 _ _ (rfl) rfl x1v k1 (.inr (.inr (.inl rfl)))).mono ?_
  rintro e x2w ⟨A2n, c2n, rfl, ho, hb⟩
  have hs2n := hb.size
  have Ho2 := hide ho
  have Hb2 := hide hb
  have Hr2 := hide (own_below (unhide HG1).own hb)
  have hsg2 := (unhide HG1).kept.size
  clear ho hb
  go_wp2_with (at_builtin; refine wpList_app byteTy rfl _ _ rfl (w.heap.size + 1) (.slice A1r (64 + 56 * j + 4) c1r) (64 + 56 * j + 4) _ rfl (unhide Hr2) x2w.heap.size A2n 4 c2n (bys (Cl.lb (x1) 4)) rfl (Rd.of_own (unhide Ho2)) (bys_one _) (by omega) (by omega) ?_; intro A2r c2r x2v ho hg hat; have HG2 := hide ((unhide HG1).trans (Grew.after (unhide Hb2) (show Grew x2w x2v (w.heap.size + 1) (.slice A1r (64 + 56 * j + 4) c1r) (.slice A2r (64 + 56 * j + 4 + 4) c2r) (64 + 56 * j + 4 + 4) ((H ++ Mk.rowsB (l.take j)) ++ Cl.lb (x0) 4 ++ Cl.lb (x1) 4) from ⟨by rw [bys_app]; exact ho, hg, hat⟩))); clear ho hg hat; clear y0 y1; obtain ⟨y0, y1, y2, y3, y4, y5, y6⟩ := (unhide Hall) x2v ((unhide HG2).below (by omega) (unhide Hlow)))
  have hsw2 := (unhide HG2).kept.size
  have hBV := (unhide HG2).below (by omega : w.heap.size + 1 ≤ wr.heap.size) (unhide Hlow)
  have HBV := hide ((unhide Hb).trans hBV)
  have hOV := (unhide HG2).own
  have hsV := hBV.size
  have HOV := hide hOV
  have HNn := hide (show 64 + 56 * j + 4 + 4 = 64 + 56 * j + 8 by omega)
  clear hBV hOV HG0 Hall
  go_wp2_with fail
  refine wp_region_noPanic ?_
  refine wp_region_held_drew (S := fun W => W.cell? ⟨b1, o1 + j * 7 + 2, none⟩ = some (.int .u64 (x2 : Nat)) ∧ W.cell? ⟨b1, o1 + j * 7 + 3, none⟩ = some (.int .u64 (x3 : Nat)) ∧ W.cell? ⟨b1, o1 + j * 7 + 4, none⟩ = some (.int .u64 (x4 : Nat)) ∧ W.cell? ⟨b1, o1 + j * 7 + 5, none⟩ = some (.int .u64 (x5 : Nat)) ∧ W.cell? ⟨b1, o1 + j * 7 + 6, none⟩ = some (.int .u64 (x6 : Nat))) (by kernel_rfl) (⟨y2, y3, y4, y5, y6⟩) (fun HS0 => ?_)
  refine takeD (i := 0) (d := some 74) (v := ?_) rfl rfl (by kernel_rfl) (by kernel_rfl) (by kernel_rfl) (fun _ _ _ h => h) (Or.inl ⟨by rfl, ?y0⟩) HS0 ?_
  case y0 => (intro w' hSw; (try dsimp only at hSw); go_simp; (try with_reducible rfl))
  simp only [Act.put, List.setIfInBounds_toArray, List.set_cons_zero, List.set_cons_succ]
  refine takeD (i := 1) (d := some 75) (v := ?_) rfl rfl (by kernel_rfl) (by kernel_rfl) (by kernel_rfl) (fun _ _ _ h => h) (Or.inl ⟨by rfl, ?y1⟩) HS0 ?_
  case y1 => (intro w' hSw; (try dsimp only at hSw); go_simp; (try with_reducible rfl))
  simp only [Act.put, List.setIfInBounds_toArray, List.set_cons_zero, List.set_cons_succ]
  refine takeD (i := 2) (d := some 76) (v := ?_) rfl rfl (by kernel_rfl) (by kernel_rfl) (by kernel_rfl) (fun _ _ _ h => h) (Or.inl ⟨by rfl, ?y2⟩) HS0 ?_
  case y2 => (intro w' hSw; (try dsimp only at hSw); go_simp; (try with_reducible rfl))
  simp only [Act.put, List.setIfInBounds_toArray, List.set_cons_zero, List.set_cons_succ]
  refine takeD (i := 3) (d := some 77) (v := ?_) rfl rfl (by kernel_rfl) (by kernel_rfl) (by kernel_rfl) (fun _ _ _ h => h) (Or.inl ⟨by rfl, ?y3⟩) HS0 ?_
  case y3 => (intro w' hSw; (try dsimp only at hSw); go_simp; (try with_reducible rfl))
  simp only [Act.put, List.setIfInBounds_toArray, List.set_cons_zero, List.set_cons_succ]
  refine takeD (i := 4) (d := some 78) (v := ?_) rfl rfl (by kernel_rfl) (by kernel_rfl) (by kernel_rfl) (fun _ _ _ h => h) (Or.inl ⟨by rfl, ?y4⟩) HS0 ?_
  case y4 => (intro w' hSw; (try dsimp only at hSw); go_simp; (try with_reducible rfl))
  simp only [Act.put, List.setIfInBounds_toArray, List.set_cons_zero, List.set_cons_succ]
  refine takeD (i := 5) (d := some 79) (v := ?_) rfl rfl (by kernel_rfl) (by kernel_rfl) (by kernel_rfl) (fun _ _ _ h => h) (Or.inl ⟨by rfl, ?y5⟩) HS0 ?_
  case y5 => (intro w' hSw; (try dsimp only at hSw); go_simp; (try with_reducible rfl))
  simp only [Act.put, List.setIfInBounds_toArray, List.set_cons_zero, List.set_cons_succ]
  refine takeD (i := 6) (d := some 80) (v := ?_) rfl rfl (by kernel_rfl) (by kernel_rfl) (by kernel_rfl) (fun _ _ _ h => h) (Or.inl ⟨by rfl, ?y6⟩) HS0 ?_
  case y6 => (intro w' hSw; (try dsimp only at hSw); go_simp; (try with_reducible rfl))
  simp only [Act.put, List.setIfInBounds_toArray, List.set_cons_zero, List.set_cons_succ]
  refine takeD (i := 7) (d := some 81) (v := ?_) rfl rfl (by kernel_rfl) (by kernel_rfl) (by kernel_rfl) (fun _ _ _ h => h) (Or.inl ⟨by rfl, ?y7⟩) HS0 ?_
  case y7 => (intro w' hSw; (try dsimp only at hSw); go_simp; (try with_reducible rfl))
  simp only [Act.put, List.setIfInBounds_toArray, List.set_cons_zero, List.set_cons_succ]
  refine takeD (i := 8) (d := some 82) (v := ?_) rfl rfl (by kernel_rfl) (by kernel_rfl) (by kernel_rfl) (fun _ _ _ h => h) (Or.inl ⟨by rfl, ?y8⟩) HS0 ?_
  case y8 => (intro w' hSw; (try dsimp only at hSw); go_simp; (try with_reducible rfl))
  simp only [Act.put, List.setIfInBounds_toArray, List.set_cons_zero, List.set_cons_succ]
  refine takeD (i := 9) (d := some 83) (v := ?_) rfl rfl (by kernel_rfl) (by kernel_rfl) (by kernel_rfl) (fun _ _ _ h => h) (Or.inl ⟨by rfl, ?y9⟩) HS0 ?_
  case y9 => (intro w' hSw; (try dsimp only at hSw); go_simp; (try with_reducible rfl))
  simp only [Act.put, List.setIfInBounds_toArray, List.set_cons_zero, List.set_cons_succ]
  refine takeD (i := 10) (d := some 84) (v := ?_) rfl rfl (by kernel_rfl) (by kernel_rfl) (by kernel_rfl) (fun _ _ _ h => h) (Or.inl ⟨by rfl, ?y10⟩) HS0 ?_
  case y10 => (intro w' hSw; (try dsimp only at hSw); go_simp; (try with_reducible rfl))
  simp only [Act.put, List.setIfInBounds_toArray, List.set_cons_zero, List.set_cons_succ]
  refine takeD (i := 11) (d := some 85) (v := ?_) rfl rfl (by kernel_rfl) (by kernel_rfl) (by kernel_rfl) (fun _ _ _ h => h) (Or.inl ⟨by rfl, ?y11⟩) HS0 ?_
  case y11 => (intro w' hSw; (try dsimp only at hSw); go_simp; (try with_reducible rfl))
  simp only [Act.put, List.setIfInBounds_toArray, List.set_cons_zero, List.set_cons_succ]
  refine takeD (i := 12) (d := some 86) (v := ?_) rfl rfl (by kernel_rfl) (by kernel_rfl) (by kernel_rfl) (fun _ _ _ h => h) (Or.inl ⟨by rfl, ?y12⟩) HS0 ?_
  case y12 => (intro w' hSw; (try dsimp only at hSw); go_simp; (try with_reducible rfl))
  simp only [Act.put, List.setIfInBounds_toArray, List.set_cons_zero, List.set_cons_succ]
  refine takeD (i := 13) (d := some 87) (v := ?_) rfl rfl (by kernel_rfl) (by kernel_rfl) (by kernel_rfl) (fun _ _ _ h => h) (Or.inl ⟨by rfl, ?y13⟩) HS0 ?_
  case y13 => (intro w' hSw; (try dsimp only at hSw); go_simp; (try with_reducible rfl))
  simp only [Act.put, List.setIfInBounds_toArray, List.set_cons_zero, List.set_cons_succ]
  refine takeD (i := 14) (d := some 88) (v := ?_) rfl rfl (by kernel_rfl) (by kernel_rfl) (by kernel_rfl) (fun _ _ _ h => h) (Or.inl ⟨by rfl, ?y14⟩) HS0 ?_
  case y14 => (intro w' hSw; (try dsimp only at hSw); go_simp; (try with_reducible rfl))
  simp only [Act.put, List.setIfInBounds_toArray, List.set_cons_zero, List.set_cons_succ]
  refine takeD (i := 15) (d := some 89) (v := ?_) rfl rfl (by kernel_rfl) (by kernel_rfl) (by kernel_rfl) (fun _ _ _ h => h) (Or.inl ⟨by rfl, ?y15⟩) HS0 ?_
  case y15 => (intro w' hSw; (try dsimp only at hSw); go_simp; (try with_reducible rfl))
  simp only [Act.put, List.setIfInBounds_toArray, List.set_cons_zero, List.set_cons_succ]
  refine takeD (i := 16) (d := some 90) (v := ?_) rfl rfl (by kernel_rfl) (by kernel_rfl) (by kernel_rfl) (fun _ _ _ h => h) (Or.inl ⟨by rfl, ?y16⟩) HS0 ?_
  case y16 => (intro w' hSw; (try dsimp only at hSw); go_simp; (try with_reducible rfl))
  simp only [Act.put, List.setIfInBounds_toArray, List.set_cons_zero, List.set_cons_succ]
  refine takeD (i := 17) (d := some 91) (v := ?_) rfl rfl (by kernel_rfl) (by kernel_rfl) (by kernel_rfl) (fun _ _ _ h => h) (Or.inl ⟨by rfl, ?y17⟩) HS0 ?_
  case y17 => (intro w' hSw; (try dsimp only at hSw); go_simp; (try with_reducible rfl))
  simp only [Act.put, List.setIfInBounds_toArray, List.set_cons_zero, List.set_cons_succ]
  refine takeD (i := 18) (d := some 92) (v := ?_) rfl rfl (by kernel_rfl) (by kernel_rfl) (by kernel_rfl) (fun _ _ _ h => h) (Or.inl ⟨by rfl, ?y18⟩) HS0 ?_
  case y18 => (intro w' hSw; (try dsimp only at hSw); go_simp; (try with_reducible rfl))
  simp only [Act.put, List.setIfInBounds_toArray, List.set_cons_zero, List.set_cons_succ]
  refine takeD (i := 19) (d := some 93) (v := ?_) rfl rfl (by kernel_rfl) (by kernel_rfl) (by kernel_rfl) (fun _ _ _ h => h) (Or.inl ⟨by rfl, ?y19⟩) HS0 ?_
  case y19 => (intro w' hSw; (try dsimp only at hSw); go_simp; (try with_reducible rfl))
  simp only [Act.put, List.setIfInBounds_toArray, List.set_cons_zero, List.set_cons_succ]
  refine takeD (i := 20) (d := some 94) (v := ?_) rfl rfl (by kernel_rfl) (by kernel_rfl) (by kernel_rfl) (fun _ _ _ h => h) (Or.inl ⟨by rfl, ?y20⟩) HS0 ?_
  case y20 => (intro w' hSw; (try dsimp only at hSw); go_simp; (try with_reducible rfl))
  simp only [Act.put, List.setIfInBounds_toArray, List.set_cons_zero, List.set_cons_succ]
  refine takeD (i := 21) (d := some 95) (v := ?_) rfl rfl (by kernel_rfl) (by kernel_rfl) (by kernel_rfl) (fun _ _ _ h => h) (Or.inl ⟨by rfl, ?y21⟩) HS0 ?_
  case y21 => (intro w' hSw; (try dsimp only at hSw); go_simp; (try with_reducible rfl))
  simp only [Act.put, List.setIfInBounds_toArray, List.set_cons_zero, List.set_cons_succ]
  refine takeD (i := 22) (d := some 96) (v := ?_) rfl rfl (by kernel_rfl) (by kernel_rfl) (by kernel_rfl) (fun _ _ _ h => h) (Or.inl ⟨by rfl, ?y22⟩) HS0 ?_
  case y22 => (intro w' hSw; (try dsimp only at hSw); go_simp; (try with_reducible rfl))
  simp only [Act.put, List.setIfInBounds_toArray, List.set_cons_zero, List.set_cons_succ]
  refine takeD (i := 23) (d := some 97) (v := ?_) rfl rfl (by kernel_rfl) (by kernel_rfl) (by kernel_rfl) (fun _ _ _ h => h) (Or.inl ⟨by rfl, ?y23⟩) HS0 ?_
  case y23 => (intro w' hSw; (try dsimp only at hSw); go_simp; (try with_reducible rfl))
  simp only [Act.put, List.setIfInBounds_toArray, List.set_cons_zero, List.set_cons_succ]
  refine takeD (i := 24) (d := some 98) (v := ?_) rfl rfl (by kernel_rfl) (by kernel_rfl) (by kernel_rfl) (fun _ _ _ h => h) (Or.inl ⟨by rfl, ?y24⟩) HS0 ?_
  case y24 => (intro w' hSw; (try dsimp only at hSw); go_simp; (try with_reducible rfl))
  simp only [Act.put, List.setIfInBounds_toArray, List.set_cons_zero, List.set_cons_succ]
  refine takeD (i := 25) (d := some 99) (v := ?_) rfl rfl (by kernel_rfl) (by kernel_rfl) (by kernel_rfl) (fun _ _ _ h => h) (Or.inl ⟨by rfl, ?y25⟩) HS0 ?_
  case y25 => (intro w' hSw; (try dsimp only at hSw); go_simp; (try with_reducible rfl))
  simp only [Act.put, List.setIfInBounds_toArray, List.set_cons_zero, List.set_cons_succ]
  refine takeD (i := 26) (d := some 100) (v := ?_) rfl rfl (by kernel_rfl) (by kernel_rfl) (by kernel_rfl) (fun _ _ _ h => h) (Or.inl ⟨by rfl, ?y26⟩) HS0 ?_
  case y26 => (intro w' hSw; (try dsimp only at hSw); go_simp; (try with_reducible rfl))
  simp only [Act.put, List.setIfInBounds_toArray, List.set_cons_zero, List.set_cons_succ]
  refine takeD (i := 27) (d := some 101) (v := ?_) rfl rfl (by kernel_rfl) (by kernel_rfl) (by kernel_rfl) (fun _ _ _ h => h) (Or.inl ⟨by rfl, ?y27⟩) HS0 ?_
  case y27 => (intro w' hSw; (try dsimp only at hSw); go_simp; (try with_reducible rfl))
  simp only [Act.put, List.setIfInBounds_toArray, List.set_cons_zero, List.set_cons_succ]
  refine takeD (i := 28) (d := some 102) (v := ?_) rfl rfl (by kernel_rfl) (by kernel_rfl) (by kernel_rfl) (fun _ _ _ h => h) (Or.inl ⟨by rfl, ?y28⟩) HS0 ?_
  case y28 => (intro w' hSw; (try dsimp only at hSw); go_simp; (try with_reducible rfl))
  simp only [Act.put, List.setIfInBounds_toArray, List.set_cons_zero, List.set_cons_succ]
  refine takeD (i := 29) (d := some 103) (v := ?_) rfl rfl (by kernel_rfl) (by kernel_rfl) (by kernel_rfl) (fun _ _ _ h => h) (Or.inl ⟨by rfl, ?y29⟩) HS0 ?_
  case y29 => (intro w' hSw; (try dsimp only at hSw); go_simp; (try with_reducible rfl))
  simp only [Act.put, List.setIfInBounds_toArray, List.set_cons_zero, List.set_cons_succ]
  refine wpAnyH_ready (rs := [30]) (by kernel_rfl) (by simp) ?_
  refine AllReadyH.cons (i := 30) rfl (fun K hK => ?_) AllReadyH.nil
  rw [if_pos (by rfl)]
  go_simp
  refine hK.out _ _ ((by obtain ⟨q2, q3, q4, q5, q6⟩ := HS0; exact ⟨(World.cell?_alloc_lt _ _ _ (by show b1 < _; first | omega | (simp; omega))).trans y2, (World.cell?_alloc_lt _ _ _ (by show b1 < _; first | omega | (simp; omega))).trans y3, (World.cell?_alloc_lt _ _ _ (by show b1 < _; first | omega | (simp; omega))).trans y4, (World.cell?_alloc_lt _ _ _ (by show b1 < _; first | omega | (simp; omega))).trans y5, (World.cell?_alloc_lt _ _ _ (by show b1 < _; first | omega | (simp; omega))).trans y6⟩)) (fun hHeld => ?_)
  clear hK K HS0
  have HS0 := hHeld
  clear hHeld
  (try simp only [Act.put, List.setIfInBounds_toArray, List.set_cons_zero, List.set_cons_succ])
  refine takeD (i := 31) (d := some 7) (v := ?_) rfl rfl (by kernel_rfl) (by kernel_rfl) (by kernel_rfl) (fun _ _ _ h => h) (Or.inl ⟨by rfl, ?y31⟩) HS0 ?_
  case y31 => (intro w' hSw; (try dsimp only at hSw); go_simp; (try with_reducible rfl))
  simp only [Act.put, List.setIfInBounds_toArray, List.set_cons_zero, List.set_cons_succ]
  refine wpAnyH_done (by kernel_rfl) ?_ _
  refine NoPanic.normal ?_
  clear HS0
  go_wp2_with fail
  have hbl3 := Blk.new x2v 23 (u64s [x2, x3, x3, x4, x5, x6])
  have hbb : Below x2v.heap.size x2v ((x2v.alloc (.cells #[.int .u64 (x2 : Nat), .int .u64 (x3 : Nat), .int .u64 (x3 : Nat), .int .u64 (x4 : Nat), .int .u64 (x5 : Nat), .int .u64 (x6 : Nat)] 23)).drew) := below_drew' ((Below.refl _ _).alloc (Nat.le_refl _) _)
  have hO3 := own_below (unhide HOV) hbb
  have hB3 := (unhide HBV).trans (hbb.mono (by omega))
  have hbl3' : Blk ((x2v.alloc (.cells #[.int .u64 (x2 : Nat), .int .u64 (x3 : Nat), .int .u64 (x3 : Nat), .int .u64 (x4 : Nat), .int .u64 (x5 : Nat), .int .u64 (x6 : Nat)] 23)).drew) x2v.heap.size 23 (u64s [x2, x3, x3, x4, x5, x6]) := hbl3
  have hne3 : bk A2r ≠ some x2v.heap.size := fun e => by have := ((unhide HOV).lt _ (by rw [own_bk]; exact e)).2; omega
  have hN6 : ∀ y ∈ [x2, x3, x3, x4, x5, x6], y < 18446744073709551616 := by
    intro y hy
    simp only [List.mem_cons, List.not_mem_nil, or_false] at hy
    rcases hy with rfl | rfl | rfl | rfl | rfl | rfl <;> assumption
  obtain ⟨XS, hXS⟩ : ∃ XS, (H ++ Mk.rowsB (l.take j)) ++ Cl.lb (x0) 4 ++ Cl.lb (x1) 4 = XS := ⟨_, rfl⟩
  rw [hXS] at hO3
  have HXS : Hid (H ++ Mk.rowsB (l.take (j + 1)) = XS ++ Mk.lbs 8 [x2, x3, x3, x4, x5, x6]) := hide (by
    rw [← hXS, unhide Hnext, unhide HrB]
    simp only [List.append_assoc])
  have h6 : [x2, x3, x3, x4, x5, x6].length = 6 := rfl
  have HO3 := hide hO3
  have HB3 := hide hB3
  have HBl3 := hide hbl3'
  have Hne3 := hide hne3
  have HN6 := hide hN6
  have H6 := hide h6
  clear hbl3 hbb hO3 hB3 hbl3' hne3 hN6 hXS HOV HBV Hnext HrB h6 y0 y1 y2 y3 y4 y5 y6
  generalize (x2v.alloc (.cells #[.int .u64 (x2 : Nat), .int .u64 (x3 : Nat), .int .u64 (x3 : Nat), .int .u64 (x4 : Nat), .int .u64 (x5 : Nat), .int .u64 (x6 : Nat)] 23)).drew = W3 at *
  generalize [x2, x3, x3, x4, x5, x6] = N6 at *
  generalize x2v.heap.size = gl at *
  go_loopg [5, 8] 6 (fun gk2 bv2 iv2 wr2 => ∃ (i : Nat) (Ai : Option Addr) (ci : Nat), gk2 = 6 - i ∧ i ≤ 6 ∧ iv2 = .int .i64 i ∧ bv2 = .slice Ai (64 + 56 * j + 8 + 8 * i) ci ∧ wr2.ownsRow (w.heap.size + 1) 5 1 (.slice Ai (64 + 56 * j + 8 + 8 * i) ci) (64 + 56 * j + 8 + 8 * i) (bys (XS ++ Mk.lbs 8 (N6.take i))) ∧ Blk wr2 gl 23 (u64s N6) ∧ bk Ai ≠ some gl ∧ Below (w.heap.size + 1) W1 wr2)
  case atStart => exact ⟨0, A2r, c2r, rfl, by omega, rfl, by rw [show 64 + 56 * j + 8 + 8 * 0 = 64 + 56 * j + 4 + 4 by omega], by rw [show 64 + 56 * j + 8 + 8 * 0 = 64 + 56 * j + 4 + 4 by omega]; simpa [Mk.lbs] using unhide HO3, unhide HBl3, unhide Hne3, unhide HB3⟩
  case round =>
  clear HO3 HB3 HBl3 Hne3
  obtain ⟨i, Ai, ci, hgk2, hi, rfl, rfl, hown, hbl, hne, hb⟩ := hrel
  have Hgk2 := hide hgk2
  have hsz2 := hb.size
  have HG2 := hide (Grew.refl hown)
  have Hlow2 := hide (fun k hk => (hown.lt k hk).1)
  have Hb2 := hide hb
  have Hbl2 := hide hbl
  have Hne2 := hide hne
  clear hgk2 hb hown hne
  rcases Nat.lt_or_ge i 6 with hlt2 | hge2
  case inr =>
    obtain rfl : i = 6 := by omega
    have h := (unhide HG2).own
    rw [List.take_of_length_le (by rw [unhide H6]; exact Nat.le_refl _), ← unhide HXS] at h
    have HF := hide h
    have Hn56 := hide (show 64 + 56 * (j + 1) = 64 + 56 * j + 8 + 8 * 6 by omega)
    clear h hbl
    go_wp2_with fail
    go_roundg (nl - (j + 1))
    case measure => have := unhide Hgk; omega
    case rel => exact ⟨j + 1, Ai, ci, rfl, by omega, by go_num, by rw [unhide Hn56], by rw [unhide Hn56]; exact unhide HF, unhide Hb2⟩
  obtain ⟨y, hy⟩ : ∃ y, N6[i]? = some y := ⟨_, List.getElem?_eq_getElem (by rw [unhide H6]; exact hlt2)⟩
  have hy64 := (unhide HN6) y (List.mem_of_getElem? hy)
  have y0 := hbl.cell (i := i) (u := .int .u64 (y : Nat)) (by simp [u64s, hy])
  have Htk : Hid (XS ++ Mk.lbs 8 (N6.take (i + 1)) = XS ++ Mk.lbs 8 (N6.take i) ++ Cl.lb y 8) := hide (by rw [List.take_add_one, hy]; simp only [Option.toList]; rw [lbs_snoc, List.append_assoc])
  clear hy hbl
  go_wp2_with fail
  refine (rbytes14_c (y) 8 _ _ (rfl) rfl wr hy64 (.inr (.inr (.inr rfl)))).mono ?_
  rintro e x1w ⟨A1n, c1n, rfl, ho, hb⟩
  have hs1n := hb.size
  have Ho1 := hide ho
  have Hb1 := hide hb
  have Hr1 := hide (own_below (unhide HG2).own hb)
  have hsg1 := (unhide HG2).kept.size
  clear ho hb
  go_wp2_with (at_builtin; refine wpList_app byteTy rfl _ _ rfl (w.heap.size + 1) (.slice Ai (64 + 56 * j + 8 + 8 * i) ci) (64 + 56 * j + 8 + 8 * i) _ rfl (unhide Hr1) x1w.heap.size A1n 8 c1n (bys (Cl.lb (y) 8)) rfl (Rd.of_own (unhide Ho1)) (bys_one _) (by omega) (by omega) ?_; intro A1r c1r x1v ho hg hat; have HG1 := hide ((unhide HG2).trans (Grew.after (unhide Hb1) (show Grew x1w x1v (w.heap.size + 1) (.slice Ai (64 + 56 * j + 8 + 8 * i) ci) (.slice A1r (64 + 56 * j + 8 + 8 * i + 8) c1r) (64 + 56 * j + 8 + 8 * i + 8) ((XS ++ Mk.lbs 8 (N6.take i)) ++ Cl.lb (y) 8) from ⟨by rw [bys_app]; exact ho, hg, hat⟩))); clear ho hg hat; skip)
  have hsw1 := (unhide HG1).kept.size
  have hGF := unhide HG1
  rw [← unhide Htk] at hGF
  have HGF := hide hGF
  have hblF : Blk x1v gl 23 (u64s N6) := (hGF.kept.block gl (unhide Hbl2).lt (fun e => (unhide Hne2) (by rw [own_bk] at e; exact e.symm))).trans (unhide Hbl2)
  have hneF : bk A1r ≠ some gl := fun e => by
    rcases hGF.at_ gl (by rw [own_bk]; exact e) with h3 | h3
    · rw [own_bk] at h3; exact (unhide Hne2) h3
    · have := (unhide Hbl2).lt; omega
  have hbF := (unhide Hb2).trans (hGF.below (by omega : w.heap.size + 1 ≤ wr.heap.size) (unhide Hlow2))
  have HblF := hide hblF
  have HneF := hide hneF
  have HbF := hide hbF
  have Hn8 := hide (show 64 + 56 * j + 8 + 8 * (i + 1) = 64 + 56 * j + 8 + 8 * i + 8 by omega)
  clear hGF hblF hneF hbF y0
  go_roundg (6 - (i + 1))
  case measure => have := unhide Hgk2; omega
  case rel => exact ⟨i + 1, A1r, c1r, rfl, by omega, by go_num, by rw [unhide Hn8], by rw [unhide Hn8]; exact (unhide HGF).own, unhide HblF, unhide HneF, unhide HbF⟩
end Go.Proofs.YtnbecdahfgkffaaGreat
namespace Go.Proofs.YtnbecdahfgkffaaGreat
open Go.RowKit
theorem lit3 (w : World) (a b c : Int) : Rd (w.alloc (.cells #[.int .u64 a, .int .u64 b, .int .u64 c] 23)) (w.alloc (.cells #[.int .u64 a, .int .u64 b, .int .u64 c] 23)).heap.size 1 (some ⟨w.heap.size, 0, none⟩) 3 [.int .u64 a, .int .u64 b, .int .u64 c] := by
  rw [show (w.alloc (.cells #[.int .u64 a, .int .u64 b, .int .u64 c] 23)).heap.size = w.heap.size + 1 by simp]
  exact Rd.rowF (n := 3) (size := 1) rfl
theorem lit6 (w : World) (a b c d e f : Int) : Rd (w.alloc (.cells #[.int .u64 a, .int .u64 b, .int .u64 c, .int .u64 d, .int .u64 e, .int .u64 f] 23)) (w.alloc (.cells #[.int .u64 a, .int .u64 b, .int .u64 c, .int .u64 d, .int .u64 e, .int .u64 f] 23)).heap.size 1 (some ⟨w.heap.size, 0, none⟩) 6 [.int .u64 a, .int .u64 b, .int .u64 c, .int .u64 d, .int .u64 e, .int .u64 f] := by
  rw [show (w.alloc (.cells #[.int .u64 a, .int .u64 b, .int .u64 c, .int .u64 d, .int .u64 e, .int .u64 f] 23)).heap.size = w.heap.size + 1 by simp]
  exact Rd.rowF (n := 6) (size := 1) rfl
theorem FiE.first {t : TypeId} {g o base n n' c' : Nat} {l : List Value} {A A' : Option Addr} {w w1 : World} {xs' : List UInt8} {ys : List Value} {c : Nat} (hbase : base ≤ w.heap.size) (h : Blk w g t l) (hb : Below w.heap.size w w1) (hat : l[o]? = some (.slice A n c)) (ho : w1.ownsRow w.heap.size 5 1 (.slice A' n' c') n' ys) (hy : ys = bys xs') : FiE t g o l base none w (w1.setCell ⟨g, o, none⟩ (.slice A' n' c')) A' n' c' xs' := by
  subst hy
  have hlt := h.lt
  have hl := own_bklt ho
  have hne : bk A' ≠ some g := fun e => by have := (hl g e).1; omega
  exact ⟨⟨(h.belowSz hb).set o _, by rw [List.getElem?_set_self (List.getElem?_eq_some_iff.1 hat).1], own_base (own_setG ho hne _) hbase, hne⟩, hb.os, hb.tape, hb.output, by simpa using hb.size, fun k hk h1 _ => (heap_setCell_other _ _ _ _ (by show k ≠ g; exact h1)).trans (hb.block k hk), fun k hk => .inr (hl k hk).1⟩
set_option maxRecDepth 100000 in
set_option maxHeartbeats 8000000 in
theorem pnumberG_any (t : TypeId) (g o : Nat) (l : List Value) (base : Nat) (A : Option Addr) (n : Nat) (xs : List UInt8) (kv ov m cv s : Nat) (vs : List Nat) (w : World) (h : Blk w g t l) (hat : l[o]? = some (.slice A n n)) (hrA : Rd w w.heap.size 1 A n (bys xs)) (hgA : bk A ≠ some g) (hbase : base ≤ w.heap.size)
    (hr : Rd w w.heap.size 1 (some ⟨kv, ov, none⟩) m (u64s vs)) (hbg : kv ≠ g) (hv : ∀ v ∈ vs, v < 18446744073709551616) (hs : s = 1 ∨ s = 2 ∨ s = 4 ∨ s = 8) (hn : n ≤ 17592186044416) (hm : m ≤ 1048576) (hm0 : 0 < m) :
    Calls Tryz.prog 72 #[.pointer (some ⟨g, o, none⟩), .int .i64 s, .slice (some ⟨kv, ov, none⟩) m cv] w fun e w' => e = .returned (.tuple #[]) ∧ ∃ A' c', FiE t g o l base none w w' A' (n + s * m) c' (xs ++ Mk.lbs s vs) := by
  have hvl : vs.length = m := by have := hr.1; simp [u64s] at this; omega
  have hs8 : s ≤ 8 := by omega
  have hsp : 0 < s := by omega
  obtain ⟨i, hi, hz0, hz1, hz2⟩ := info_parts byteInfo
  have Hi := hide hi
  have Hz0 := hide hz0
  have Hz1 := hide hz1
  have Hz2 := hide hz2
  have H := hide h
  have Hr := hide hr
  have Hbg := hide hbg
  have Hat := hide hat
  have HrA := hide hrA
  have HgA := hide hgA
  have Hv := hide hv
  have Hs := hide hs
  have Hvl := hide hvl
  clear h hr hbg hat hrA hgA hv hs hvl hi hz0 hz1 hz2
  go_enter Tryz.func72, Tryz.ntmps72
  go_wp2_with fail
  go_loopg [12] m (fun gk iv wr => ∃ (j : Nat), gk = m - j ∧ j ≤ m ∧ iv = .int .i64 j ∧ ((j = 0 ∧ wr = w) ∨ (0 < j ∧ ∃ A1 c1, FiE t g o l base none w wr A1 (n + s * j) c1 (xs ++ Mk.lbs s (vs.take j)))))
  case atStart => exact ⟨0, by omega, by omega, rfl, .inl ⟨rfl, rfl⟩⟩
  case round =>
  obtain ⟨j, hgk, hj, rfl, hE⟩ := hrel
  have Hgk := hide hgk
  clear hgk
  rcases hE with ⟨rfl, rfl⟩ | ⟨hj0, A1, c1, hE⟩
  · obtain ⟨x, hx⟩ : ∃ x, vs[0]? = some x := ⟨_, List.getElem?_eq_getElem (by rw [unhide Hvl]; exact hm0)⟩
    have hx64 := (unhide Hv) x (List.mem_of_getElem? hx)
    obtain ⟨b1, o1, hA1, hb1, st⟩ := (unhide Hr).at_ (k := 0) (u := .int .u64 (x : Nat)) (by simp [u64s, hx])
    injection hA1 with hA1
    injection hA1 with hA1 hA2
    subst hA1 hA2
    rw [Nat.add_zero] at st
    have Hx := hide hx
    have hji : (0 : Int) < (m : Int) := by omega
    clear hx
    go_wp2_with (at_make; refine wpList_make_full _ rfl _ _ 24 rfl wr.heap.size 5 i (.int .u8 0) 1 Tryz.underlying24 (unhide Hi) (unhide Hz0) (unhide Hz1) _ _ _ _ s rfl (by rfl) rfl (by rfl) (by rw [unhide Hz2]; omega) (by unfold maxLen; omega) (Nat.le_refl _) ?_; intro w1 hown hgrow; rw [zerosN] at hown; have hb1 := (Below.refl wr.heap.size wr).grown hgrow (Nat.le_refl _) (fun k hk => by cases hk); have Hown := hide hown; have Hb1 := hide hb1; clear hown hgrow hb1)
    have ho := unhide Hown
    have KS := hide (set_yes wr.heap.size s s w1.heap.size (List.replicate s 0) 0 s x w1 (Nat.le_refl _) (Rd.of_own ho) (by omega) (unhide Hs) (by omega) hx64)
    clear ho
    refine (unhide KS).mono ?_
    rintro e w2 ⟨A2, c2, rfl, ho2, hb2⟩
    rw [setK_all] at ho2
    have hs1 := (unhide Hb1).size
    have hb12 := (unhide Hb1).trans (hb2.mono hs1)
    have hB2 := (unhide H).belowSz hb12
    have y0 := hB2.cell (unhide Hat)
    have z0 := hB2.free o
    have HB2 := hide hB2
    have Hb12 := hide hb12
    have Ho2 := hide ho2
    have hs2 := hb12.size
    clear KS ho2 hb2 hb12 hB2
    go_wp2_with (at_builtin; refine wpList_appGo byteTy rfl _ _ rfl A n wr.heap.size (bys xs) rfl ((unhide HrA).below (unhide Hb12)) w2.heap.size A2 s c2 (bys (Cl.lb x s)) rfl (Rd.of_own (unhide Ho2)) (bys_one _) (by omega) hsp ?_; intro A3 c3 w3 ho3 hb3; have z2 := ((unhide HB2).belowSz hb3).cell (unhide Hat); have z3 := ((unhide HB2).belowSz hb3).free o; have HE3 := hide (FiE.first (l := l) (o := o) (g := g) (t := t) hbase (unhide H) ((unhide Hb12).trans (hb3.mono hs2)) (unhide Hat) (own_base ho3 hs2) (show bys xs ++ bys (Cl.lb x s) = bys (xs ++ Cl.lb x s) from (bys_app _ _).symm)); clear ho3 hb3 y0 z0)
    go_roundg (m - 1)
    case measure => have := unhide Hgk; omega
    case rel => exact ⟨1, rfl, by omega, by go_num, .inr ⟨by omega, A3, c3, by
      have h9 := unhide HE3
      have h8 : vs.take 1 = [x] := by
        have h7 := unhide Hx
        cases vs with
        | nil => simp at h7
        | cons a r => simp at h7; subst h7; rfl
      rw [h8, Nat.mul_one]
      simpa [Mk.lbs] using h9⟩⟩
  have hsz := hE.size
  have HE := hide hE
  clear hE
  rcases Nat.lt_or_ge j m with hlt | hge
  · obtain ⟨x, hx⟩ : ∃ x, vs[j]? = some x := ⟨_, List.getElem?_eq_getElem (by rw [unhide Hvl]; exact hlt)⟩
    have hx64 := (unhide Hv) x (List.mem_of_getElem? hx)
    obtain ⟨b1, o1, hA1, hb1, st⟩ := ((unhide HE).rdK (unhide Hr) (Nat.le_refl _) (fun e => (unhide Hbg) (by injection e)) (fun k e e2 => by cases e2)).at_ (k := j) (u := .int .u64 (x : Nat)) (by simp [u64s, hx])
    injection hA1 with hA1
    injection hA1 with hA1 hA2
    subst hA1 hA2
    have Hx := hide hx
    have hsj : s * j ≤ 8388608 := Nat.le_trans (Nat.mul_le_mul hs8 (by omega)) (by omega : 8 * 1048576 ≤ 8388608)
    have hji : (j : Int) < (m : Int) := by omega
    clear hx
    go_wp2_with (at_make; refine wpList_make_full _ rfl _ _ 24 rfl wr.heap.size 5 i (.int .u8 0) 1 Tryz.underlying24 (unhide Hi) (unhide Hz0) (unhide Hz1) _ _ _ _ s rfl (by rfl) rfl (by rfl) (by rw [unhide Hz2]; omega) (by unfold maxLen; omega) (Nat.le_refl _) ?_; intro w1 hown hgrow; rw [zerosN] at hown; have hb1 := (Below.refl wr.heap.size wr).grown hgrow (Nat.le_refl _) (fun k hk => by cases hk); have Hown := hide hown; have Hb1 := hide hb1; clear hown hgrow hb1)
    have ho := unhide Hown
    have KS := hide (set_yes wr.heap.size s s w1.heap.size (List.replicate s 0) 0 s x w1 (Nat.le_refl _) (Rd.of_own ho) (by omega) (unhide Hs) (by omega) hx64)
    clear ho
    refine (unhide KS).mono ?_
    rintro e w2 ⟨A2, c2, rfl, ho2, hb2⟩
    rw [setK_all] at ho2
    have hs1 := (unhide Hb1).size
    have hb12 := (unhide Hb1).trans (hb2.mono hs1)
    have hE2 := (unhide HE).then_ hb12
    have y0 := hE2.m.cell
    have z0 := hE2.m.blk.free o
    have HE2 := hide hE2
    have Ho2 := hide ho2
    have hs2 := hb12.size
    clear KS ho2 hb2 hb12 hE2 HE
    go_wp2_with (at_builtin; refine wpList_appKk byteTy rfl _ _ rfl base A1 (n + s * j) c1 _ rfl (unhide HE2).m.row w2.heap.size A2 s c2 (bys (Cl.lb x s)) rfl (Rd.of_own (unhide Ho2)) (bys_one _) hsp (by omega) (by omega) ?_; intro A3 c3 w3 ho3 hg3 ha3 hk3; clear hk3; obtain ⟨hb3, hE3⟩ := (unhide HE2).more (Below.refl _ _) (show Grew _ w3 base _ _ (n + s * j + s) (xs ++ Mk.lbs s (vs.take j) ++ Cl.lb x s) from ⟨by rw [bys_app]; exact ho3, hg3, ha3⟩); have z2 := hb3.cell (unhide HE2).m.at_; have z3 := hb3.free o; have HE3 := hide hE3; clear ho3 hg3 ha3 hb3 hE3 y0 z0)
    go_roundg (m - (j + 1))
    case measure => have := unhide Hgk; omega
    case rel => exact ⟨j + 1, rfl, by omega, by go_num, .inr ⟨by omega, A3, c3, by
      have h9 := unhide HE3
      rw [List.take_add_one, unhide Hx, Option.toList_some, lbs_snoc, ← List.append_assoc, Nat.mul_succ, ← Nat.add_assoc]
      exact h9⟩⟩
  · obtain rfl : j = m := by omega
    have ige : ¬ (j : Int) < (j : Int) := by omega
    have hE := unhide HE
    rw [List.take_of_length_le (by rw [unhide Hvl]; omega)] at hE
    have HE3 := hide hE
    clear hE HE
    go_wp2_with fail
    go_end0
    exact ⟨rfl, A1, c1, unhide HE3⟩
structure OwF (gF b0 : Nat) (W0 wr : World) (fs : List UInt8) (L : List (Nat × TypeId × List Value)) : Prop where
  fi : ∃ A c, FiM wr 71 gF 0 [.slice A fs.length c] b0 A fs.length c fs ∧ ∀ q ∈ L, Blk wr q.1 q.2.1 q.2.2 ∧ q.1 ≠ gF ∧ bk A ≠ some q.1
  bel : Below b0 W0 wr
  hg : b0 ≤ gF
  hb : b0 ≤ W0.heap.size
section
variable {gF b0 : Nat} {W0 wr w2 : World} {fs : List UInt8} {L : List (Nat × TypeId × List Value)}
theorem OwF.calm (h : OwF gF b0 W0 wr fs L) (hb : Below wr.heap.size wr w2) : OwF gF b0 W0 w2 fs L := by
  obtain ⟨A, c, F, d⟩ := h.fi
  exact ⟨⟨A, c, F.below hb, fun q hq => ⟨(d q hq).1.belowSz hb, (d q hq).2⟩⟩, h.bel.trans (hb.mono (by have := h.bel.size; have := h.hb; omega)), h.hg, h.hb⟩
theorem OwF.sub (h : OwF gF b0 W0 wr fs L) {L' : List (Nat × TypeId × List Value)} (hL : ∀ q ∈ L', q ∈ L) : OwF gF b0 W0 wr fs L' := by
  obtain ⟨A, c, F, d⟩ := h.fi
  exact ⟨⟨A, c, F, fun q hq => d q (hL q hq)⟩, h.bel, h.hg, h.hb⟩
theorem OwF.lay (h : OwF gF b0 W0 wr fs L) (t3 : TypeId) (l3 : List Value) : OwF gF b0 W0 (wr.alloc (.cells l3.toArray t3)) fs ((wr.heap.size, t3, l3) :: L) := by
  have hb : Below wr.heap.size wr (wr.alloc (.cells l3.toArray t3)) := below_al _ _
  have h1 := h.calm hb
  obtain ⟨A, c, F, d⟩ := h.fi
  refine ⟨⟨A, c, F.below hb, fun q hq => ?_⟩, h1.bel, h1.hg, h1.hb⟩
  rcases List.mem_cons.1 hq with rfl | hq
  · refine ⟨Blk.new wr t3 l3, fun e => ?_, fun e => ?_⟩
    · have := F.blk.lt; simp at e; omega
    · have := (F.lt _ e).2; simp at this
  · exact ⟨(d q hq).1.belowSz hb, (d q hq).2⟩
theorem OwF.cell (h : OwF gF b0 W0 wr fs L) {k i : Nat} {t3 : TypeId} {l3 : List Value} {v : Value} (hm : (k, t3, l3) ∈ L) (hi : l3[i]? = some v) : wr.cell? ⟨k, i, none⟩ = some v := by
  obtain ⟨A, c, F, d⟩ := h.fi
  exact (d _ hm).1.cell hi
theorem OwF.bind (h : OwF gF b0 W0 wr fs L) {fs' : List UInt8} (e : fs = fs') : OwF gF b0 W0 wr fs' L := by subst e; exact h
theorem OwF.callNumber (h : OwF gF b0 W0 wr fs L) (hb : Below wr.heap.size wr w2) {kv m cv s : Nat} {sv : Int} {vs : List Nat} {us : List Value} (hkv : wr.heap.size ≤ kv) (hr : Rd w2 w2.heap.size 1 (some ⟨kv, 0, none⟩) m us) (hu : us = u64s vs) (hv : ∀ v ∈ vs, v < 18446744073709551616) (hsv : sv = (s : Nat)) (hs : s = 1 ∨ s = 2 ∨ s = 4 ∨ s = 8) (hn : fs.length ≤ 17592186044416) (hm : m ≤ 1048576) :
    Calls Tryz.prog 72 #[.pointer (some ⟨gF, 0, none⟩), .int .i64 sv, .slice (some ⟨kv, 0, none⟩) m cv] w2 fun e w3 => e = .returned (.tuple #[]) ∧ OwF gF b0 W0 w3 (fs ++ Mk.lbs s vs) L := by
  subst hsv hu
  obtain ⟨A, c, F, d⟩ := h.fi
  have F2 := F.below hb
  have hlt := F.lt
  have hgl := F.blk.lt
  have h2 := h.calm hb
  have hvl : vs.length = m := by have := hr.1; simp [u64s] at this; omega
  refine (pnumber_any _ gF 0 _ b0 A fs.length c fs kv 0 m cv s vs w2 F2 (by have := h2.bel.size; have := h.hb; omega) hr (by omega) (fun e => by have := (hlt kv e).2; omega) hv hs hn hm).mono ?_
  rintro e w3 ⟨rfl, A', c', E, -⟩
  have hnl : fs.length + s * m = (fs ++ Mk.lbs s vs).length := by rw [List.length_append, lbs_len', hvl]
  rw [hnl] at E
  refine ⟨rfl, ⟨⟨A', c', E.m, fun q hq => ?_⟩, h2.bel.trans (E.below h.hg (fun k hk => (hlt k hk).1) (by have := h2.bel.size; have := h.hb; omega)), h.hg, h.hb⟩⟩
  obtain ⟨q1, q2, q3⟩ := d q hq
  refine ⟨E.blk (q1.belowSz hb) q2 q3, q2, fun e => ?_⟩
  rcases E.at_ _ e with h9 | h9
  · exact q3 h9
  · have := (q1.belowSz hb).lt; omega
end
theorem OwF.startG {gF b0 n : Nat} {A : Option Addr} {W0 w2 : World} {xs : List UInt8} {L : List (Nat × TypeId × List Value)} (hf : Blk W0 gF 71 [.slice A n n]) (hrA : Rd W0 W0.heap.size 1 A n (bys xs)) (hA : bk A ≠ some gF) (hg : b0 ≤ gF) (hb0 : b0 ≤ W0.heap.size) (hL : ∀ q ∈ L, Blk W0 q.1 q.2.1 q.2.2 ∧ q.1 ≠ gF)
    (hb : Below W0.heap.size W0 w2) {kv m cv s : Nat} {sv : Int} {vs : List Nat} {us : List Value} (hkv : W0.heap.size ≤ kv) (hr : Rd w2 w2.heap.size 1 (some ⟨kv, 0, none⟩) m us) (hu : us = u64s vs) (hv : ∀ v ∈ vs, v < 18446744073709551616) (hsv : sv = (s : Nat)) (hs : s = 1 ∨ s = 2 ∨ s = 4 ∨ s = 8) (hn : n ≤ 17592186044416) (hm : m ≤ 1048576) (hm0 : 0 < m) :
    Calls Tryz.prog 72 #[.pointer (some ⟨gF, 0, none⟩), .int .i64 sv, .slice (some ⟨kv, 0, none⟩) m cv] w2 fun e w3 => e = .returned (.tuple #[]) ∧ OwF gF b0 W0 w3 (xs ++ Mk.lbs s vs) L := by
  subst hsv hu
  have hgl := hf.lt
  have hxl : xs.length = n := by simpa [bys] using hrA.len1
  have hvl : vs.length = m := by have := hr.1; simp [u64s] at this; omega
  have hsz := hb.size
  refine (pnumberG_any _ gF 0 _ b0 A n xs kv 0 m cv s vs w2 (hf.belowSz hb) rfl ((hrA.below hb).more hsz) hA (by omega) hr (by omega) hv hs hn hm hm0).mono ?_
  rintro e w3 ⟨rfl, A', c', E⟩
  have hnl : n + s * m = (xs ++ Mk.lbs s vs).length := by rw [List.length_append, lbs_len', hvl, hxl]
  rw [hnl] at E
  refine ⟨rfl, ⟨⟨A', c', E.m, fun q hq => ?_⟩, (hb.mono hb0).trans (E.below hg (fun k hk => by cases hk) (by omega)), hg, hb0⟩⟩
  obtain ⟨q1, q2⟩ := hL q hq
  refine ⟨E.blk (q1.belowSz hb) q2 (by simp [bk]), q2, fun e => ?_⟩
  rcases E.at_ _ e with h9 | h9
  · cases h9
  · have := q1.lt; omega
set_option maxRecDepth 100000 in
set_option maxHeartbeats 16000000 in
theorem phead_any (s : Xq) (Al : Option Addr) (nl cl B : Nat) (l : List Mk.Row) (w : World) (hB : B ≤ w.heap.size) (hl : l.length = nl) (hnl : nl ≤ 64) (hr : Rd w B 7 Al nl (rowC l)) (hok : ∀ r ∈ l, RowOk r) (hty : s.x.type < 65536) (hen : s.x.entry < 18446744073709551616) :
    Calls Tryz.prog 32 #[.agg s.l.toArray, .slice Al nl cl] w fun e w' => ∃ A' c', e = .returned (.slice A' (64 + 56 * nl) c') ∧ w'.ownsRow w.heap.size 5 1 (.slice A' (64 + 56 * nl) c') (64 + 56 * nl) (bys (Mk.head s.x l)) ∧ Below w.heap.size w w' := by
  have hb1 : Below w.heap.size w (w.alloc (.cells #[.int .u16 (s.x.type : Nat), .int .u64 (s.x.entry : Nat), .string s.x.interp, .slice s.At s.x.text.length s.ct, .slice s.Ad s.x.data.length s.cd, .int .u64 (s.x.more : Nat), .bool s.x.dynamic, .slice s.A1 s.x.dyn.needed.length s.c1, .string s.x.dyn.soname, .string s.x.dyn.run, .slice s.A2 s.x.dyn.syms.length s.c2, .slice s.A3 s.x.dyn.relas.length s.c3, .int .i64 s.x.apart] 66)) := (Below.refl _ _).alloc (Nat.le_refl _) _
  have hbl := Blk.new w 66 s.l
  have e1 : (w.alloc (.cells #[.int .u16 (s.x.type : Nat), .int .u64 (s.x.entry : Nat), .string s.x.interp, .slice s.At s.x.text.length s.ct, .slice s.Ad s.x.data.length s.cd, .int .u64 (s.x.more : Nat), .bool s.x.dynamic, .slice s.A1 s.x.dyn.needed.length s.c1, .string s.x.dyn.soname, .string s.x.dyn.run, .slice s.A2 s.x.dyn.syms.length s.c2, .slice s.A3 s.x.dyn.relas.length s.c3, .int .i64 s.x.apart] 66)).heap.size = w.heap.size + 1 := by simp
  have hcv := conv24 (w.alloc (.cells #[.int .u16 (s.x.type : Nat), .int .u64 (s.x.entry : Nat), .string s.x.interp, .slice s.At s.x.text.length s.ct, .slice s.Ad s.x.data.length s.cd, .int .u64 (s.x.more : Nat), .bool s.x.dynamic, .slice s.A1 s.x.dyn.needed.length s.c1, .string s.x.dyn.soname, .string s.x.dyn.run, .slice s.A2 s.x.dyn.syms.length s.c2, .slice s.A3 s.x.dyn.relas.length s.c3, .int .i64 s.x.apart] 66)) #[.int .u8 127, .int .u8 69, .int .u8 76, .int .u8 70, .int .u8 2, .int .u8 1, .int .u8 1, .int .u8 0, .int .u8 0, .int .u8 0, .int .u8 0, .int .u8 0, .int .u8 0, .int .u8 0, .int .u8 0, .int .u8 0] 16 16
  rw [e1] at hcv
  have hbM : Below (w.alloc (.cells #[.int .u16 (s.x.type : Nat), .int .u64 (s.x.entry : Nat), .string s.x.interp, .slice s.At s.x.text.length s.ct, .slice s.Ad s.x.data.length s.cd, .int .u64 (s.x.more : Nat), .bool s.x.dynamic, .slice s.A1 s.x.dyn.needed.length s.c1, .string s.x.dyn.soname, .string s.x.dyn.run, .slice s.A2 s.x.dyn.syms.length s.c2, .slice s.A3 s.x.dyn.relas.length s.c3, .int .i64 s.x.apart] 66)).heap.size (w.alloc (.cells #[.int .u16 (s.x.type : Nat), .int .u64 (s.x.entry : Nat), .string s.x.interp, .slice s.At s.x.text.length s.ct, .slice s.Ad s.x.data.length s.cd, .int .u64 (s.x.more : Nat), .bool s.x.dynamic, .slice s.A1 s.x.dyn.needed.length s.c1, .string s.x.dyn.soname, .string s.x.dyn.run, .slice s.A2 s.x.dyn.syms.length s.c2, .slice s.A3 s.x.dyn.relas.length s.c3, .int .i64 s.x.apart] 66)) ((w.alloc (.cells #[.int .u16 (s.x.type : Nat), .int .u64 (s.x.entry : Nat), .string s.x.interp, .slice s.At s.x.text.length s.ct, .slice s.Ad s.x.data.length s.cd, .int .u64 (s.x.more : Nat), .bool s.x.dynamic, .slice s.A1 s.x.dyn.needed.length s.c1, .string s.x.dyn.soname, .string s.x.dyn.run, .slice s.A2 s.x.dyn.syms.length s.c2, .slice s.A3 s.x.dyn.relas.length s.c3, .int .i64 s.x.apart] 66)).alloc (.cells #[.int .u8 127, .int .u8 69, .int .u8 76, .int .u8 70, .int .u8 2, .int .u8 1, .int .u8 1, .int .u8 0, .int .u8 0, .int .u8 0, .int .u8 0, .int .u8 0, .int .u8 0, .int .u8 0, .int .u8 0, .int .u8 0] 5 (16, 17))) := below_al _ _
  have e2 : ((w.alloc (.cells #[.int .u16 (s.x.type : Nat), .int .u64 (s.x.entry : Nat), .string s.x.interp, .slice s.At s.x.text.length s.ct, .slice s.Ad s.x.data.length s.cd, .int .u64 (s.x.more : Nat), .bool s.x.dynamic, .slice s.A1 s.x.dyn.needed.length s.c1, .string s.x.dyn.soname, .string s.x.dyn.run, .slice s.A2 s.x.dyn.syms.length s.c2, .slice s.A3 s.x.dyn.relas.length s.c3, .int .i64 s.x.apart] 66)).alloc (.cells #[.int .u8 127, .int .u8 69, .int .u8 76, .int .u8 70, .int .u8 2, .int .u8 1, .int .u8 1, .int .u8 0, .int .u8 0, .int .u8 0, .int .u8 0, .int .u8 0, .int .u8 0, .int .u8 0, .int .u8 0, .int .u8 0] 5 (16, 17))).heap.size = w.heap.size + 1 + 1 := by simp
  have hb2 : Below w.heap.size w (((w.alloc (.cells #[.int .u16 (s.x.type : Nat), .int .u64 (s.x.entry : Nat), .string s.x.interp, .slice s.At s.x.text.length s.ct, .slice s.Ad s.x.data.length s.cd, .int .u64 (s.x.more : Nat), .bool s.x.dynamic, .slice s.A1 s.x.dyn.needed.length s.c1, .string s.x.dyn.soname, .string s.x.dyn.run, .slice s.A2 s.x.dyn.syms.length s.c2, .slice s.A3 s.x.dyn.relas.length s.c3, .int .i64 s.x.apart] 66)).alloc (.cells #[.int .u8 127, .int .u8 69, .int .u8 76, .int .u8 70, .int .u8 2, .int .u8 1, .int .u8 1, .int .u8 0, .int .u8 0, .int .u8 0, .int .u8 0, .int .u8 0, .int .u8 0, .int .u8 0, .int .u8 0, .int .u8 0] 5 (16, 17))).alloc (.cells #[.slice (some ⟨w.heap.size + 1, 0, none⟩) 16 16] 71)) := (hb1.alloc (by simp) _).alloc (by simp; omega) _
  have hbl2 : Blk (((w.alloc (.cells #[.int .u16 (s.x.type : Nat), .int .u64 (s.x.entry : Nat), .string s.x.interp, .slice s.At s.x.text.length s.ct, .slice s.Ad s.x.data.length s.cd, .int .u64 (s.x.more : Nat), .bool s.x.dynamic, .slice s.A1 s.x.dyn.needed.length s.c1, .string s.x.dyn.soname, .string s.x.dyn.run, .slice s.A2 s.x.dyn.syms.length s.c2, .slice s.A3 s.x.dyn.relas.length s.c3, .int .i64 s.x.apart] 66)).alloc (.cells #[.int .u8 127, .int .u8 69, .int .u8 76, .int .u8 70, .int .u8 2, .int .u8 1, .int .u8 1, .int .u8 0, .int .u8 0, .int .u8 0, .int .u8 0, .int .u8 0, .int .u8 0, .int .u8 0, .int .u8 0, .int .u8 0] 5 (16, 17))).alloc (.cells #[.slice (some ⟨w.heap.size + 1, 0, none⟩) 16 16] 71)) w.heap.size 66 s.l := ((show Blk (w.alloc (.cells #[.int .u16 (s.x.type : Nat), .int .u64 (s.x.entry : Nat), .string s.x.interp, .slice s.At s.x.text.length s.ct, .slice s.Ad s.x.data.length s.cd, .int .u64 (s.x.more : Nat), .bool s.x.dynamic, .slice s.A1 s.x.dyn.needed.length s.c1, .string s.x.dyn.soname, .string s.x.dyn.run, .slice s.A2 s.x.dyn.syms.length s.c2, .slice s.A3 s.x.dyn.relas.length s.c3, .int .i64 s.x.apart] 66)) w.heap.size 66 s.l from hbl).alloc _).alloc _
  have hf2 : Blk (((w.alloc (.cells #[.int .u16 (s.x.type : Nat), .int .u64 (s.x.entry : Nat), .string s.x.interp, .slice s.At s.x.text.length s.ct, .slice s.Ad s.x.data.length s.cd, .int .u64 (s.x.more : Nat), .bool s.x.dynamic, .slice s.A1 s.x.dyn.needed.length s.c1, .string s.x.dyn.soname, .string s.x.dyn.run, .slice s.A2 s.x.dyn.syms.length s.c2, .slice s.A3 s.x.dyn.relas.length s.c3, .int .i64 s.x.apart] 66)).alloc (.cells #[.int .u8 127, .int .u8 69, .int .u8 76, .int .u8 70, .int .u8 2, .int .u8 1, .int .u8 1, .int .u8 0, .int .u8 0, .int .u8 0, .int .u8 0, .int .u8 0, .int .u8 0, .int .u8 0, .int .u8 0, .int .u8 0] 5 (16, 17))).alloc (.cells #[.slice (some ⟨w.heap.size + 1, 0, none⟩) 16 16] 71)) (w.heap.size + 1 + 1) 71 [.slice (some ⟨w.heap.size + 1, 0, none⟩) 16 16] := by
    have h9 := Blk.new ((w.alloc (.cells #[.int .u16 (s.x.type : Nat), .int .u64 (s.x.entry : Nat), .string s.x.interp, .slice s.At s.x.text.length s.ct, .slice s.Ad s.x.data.length s.cd, .int .u64 (s.x.more : Nat), .bool s.x.dynamic, .slice s.A1 s.x.dyn.needed.length s.c1, .string s.x.dyn.soname, .string s.x.dyn.run, .slice s.A2 s.x.dyn.syms.length s.c2, .slice s.A3 s.x.dyn.relas.length s.c3, .int .i64 s.x.apart] 66)).alloc (.cells #[.int .u8 127, .int .u8 69, .int .u8 76, .int .u8 70, .int .u8 2, .int .u8 1, .int .u8 1, .int .u8 0, .int .u8 0, .int .u8 0, .int .u8 0, .int .u8 0, .int .u8 0, .int .u8 0, .int .u8 0, .int .u8 0] 5 (16, 17))) 71 [.slice (some ⟨w.heap.size + 1, 0, none⟩) 16 16]
    rw [e2] at h9
    exact h9
  have hs0 : (((w.alloc (.cells #[.int .u16 (s.x.type : Nat), .int .u64 (s.x.entry : Nat), .string s.x.interp, .slice s.At s.x.text.length s.ct, .slice s.Ad s.x.data.length s.cd, .int .u64 (s.x.more : Nat), .bool s.x.dynamic, .slice s.A1 s.x.dyn.needed.length s.c1, .string s.x.dyn.soname, .string s.x.dyn.run, .slice s.A2 s.x.dyn.syms.length s.c2, .slice s.A3 s.x.dyn.relas.length s.c3, .int .i64 s.x.apart] 66)).alloc (.cells #[.int .u8 127, .int .u8 69, .int .u8 76, .int .u8 70, .int .u8 2, .int .u8 1, .int .u8 1, .int .u8 0, .int .u8 0, .int .u8 0, .int .u8 0, .int .u8 0, .int .u8 0, .int .u8 0, .int .u8 0, .int .u8 0] 5 (16, 17))).alloc (.cells #[.slice (some ⟨w.heap.size + 1, 0, none⟩) 16 16] 71)).heap.size = w.heap.size + 3 := by simp
  have hm2 : Rd (((w.alloc (.cells #[.int .u16 (s.x.type : Nat), .int .u64 (s.x.entry : Nat), .string s.x.interp, .slice s.At s.x.text.length s.ct, .slice s.Ad s.x.data.length s.cd, .int .u64 (s.x.more : Nat), .bool s.x.dynamic, .slice s.A1 s.x.dyn.needed.length s.c1, .string s.x.dyn.soname, .string s.x.dyn.run, .slice s.A2 s.x.dyn.syms.length s.c2, .slice s.A3 s.x.dyn.relas.length s.c3, .int .i64 s.x.apart] 66)).alloc (.cells #[.int .u8 127, .int .u8 69, .int .u8 76, .int .u8 70, .int .u8 2, .int .u8 1, .int .u8 1, .int .u8 0, .int .u8 0, .int .u8 0, .int .u8 0, .int .u8 0, .int .u8 0, .int .u8 0, .int .u8 0, .int .u8 0] 5 (16, 17))).alloc (.cells #[.slice (some ⟨w.heap.size + 1, 0, none⟩) 16 16] 71)) (((w.alloc (.cells #[.int .u16 (s.x.type : Nat), .int .u64 (s.x.entry : Nat), .string s.x.interp, .slice s.At s.x.text.length s.ct, .slice s.Ad s.x.data.length s.cd, .int .u64 (s.x.more : Nat), .bool s.x.dynamic, .slice s.A1 s.x.dyn.needed.length s.c1, .string s.x.dyn.soname, .string s.x.dyn.run, .slice s.A2 s.x.dyn.syms.length s.c2, .slice s.A3 s.x.dyn.relas.length s.c3, .int .i64 s.x.apart] 66)).alloc (.cells #[.int .u8 127, .int .u8 69, .int .u8 76, .int .u8 70, .int .u8 2, .int .u8 1, .int .u8 1, .int .u8 0, .int .u8 0, .int .u8 0, .int .u8 0, .int .u8 0, .int .u8 0, .int .u8 0, .int .u8 0, .int .u8 0] 5 (16, 17))).alloc (.cells #[.slice (some ⟨w.heap.size + 1, 0, none⟩) 16 16] 71)).heap.size 1 (some ⟨w.heap.size + 1, 0, none⟩) 16 (bys Mk.magic) := by
    have h9 := Rd.rowF (w := (w.alloc (.cells #[.int .u16 (s.x.type : Nat), .int .u64 (s.x.entry : Nat), .string s.x.interp, .slice s.At s.x.text.length s.ct, .slice s.Ad s.x.data.length s.cd, .int .u64 (s.x.more : Nat), .bool s.x.dynamic, .slice s.A1 s.x.dyn.needed.length s.c1, .string s.x.dyn.soname, .string s.x.dyn.run, .slice s.A2 s.x.dyn.syms.length s.c2, .slice s.A3 s.x.dyn.relas.length s.c3, .int .i64 s.x.apart] 66))) (cs := #[.int .u8 127, .int .u8 69, .int .u8 76, .int .u8 70, .int .u8 2, .int .u8 1, .int .u8 1, .int .u8 0, .int .u8 0, .int .u8 0, .int .u8 0, .int .u8 0, .int .u8 0, .int .u8 0, .int .u8 0, .int .u8 0]) (e := 5) (size := 1) (n := 16) (fz := (16, 17)) rfl
    rw [e1] at h9
    exact (h9.below (((Below.refl _ _).alloc (by simp) _))).more (by rw [hs0]; omega)
  have hr2 := hr.below (hb2.mono hB)
  have yt : (((w.alloc (.cells #[.int .u16 (s.x.type : Nat), .int .u64 (s.x.entry : Nat), .string s.x.interp, .slice s.At s.x.text.length s.ct, .slice s.Ad s.x.data.length s.cd, .int .u64 (s.x.more : Nat), .bool s.x.dynamic, .slice s.A1 s.x.dyn.needed.length s.c1, .string s.x.dyn.soname, .string s.x.dyn.run, .slice s.A2 s.x.dyn.syms.length s.c2, .slice s.A3 s.x.dyn.relas.length s.c3, .int .i64 s.x.apart] 66)).alloc (.cells #[.int .u8 127, .int .u8 69, .int .u8 76, .int .u8 70, .int .u8 2, .int .u8 1, .int .u8 1, .int .u8 0, .int .u8 0, .int .u8 0, .int .u8 0, .int .u8 0, .int .u8 0, .int .u8 0, .int .u8 0, .int .u8 0] 5 (16, 17))).alloc (.cells #[.slice (some ⟨w.heap.size + 1, 0, none⟩) 16 16] 71)).cell? ⟨w.heap.size, 0, none⟩ = some (.int .u16 (s.x.type : Nat)) := hbl2.cell (i := 0) rfl
  have Hbl : Hid (Blk (((w.alloc (.cells #[.int .u16 (s.x.type : Nat), .int .u64 (s.x.entry : Nat), .string s.x.interp, .slice s.At s.x.text.length s.ct, .slice s.Ad s.x.data.length s.cd, .int .u64 (s.x.more : Nat), .bool s.x.dynamic, .slice s.A1 s.x.dyn.needed.length s.c1, .string s.x.dyn.soname, .string s.x.dyn.run, .slice s.A2 s.x.dyn.syms.length s.c2, .slice s.A3 s.x.dyn.relas.length s.c3, .int .i64 s.x.apart] 66)).alloc (.cells #[.int .u8 127, .int .u8 69, .int .u8 76, .int .u8 70, .int .u8 2, .int .u8 1, .int .u8 1, .int .u8 0, .int .u8 0, .int .u8 0, .int .u8 0, .int .u8 0, .int .u8 0, .int .u8 0, .int .u8 0, .int .u8 0] 5 (16, 17))).alloc (.cells #[.slice (some ⟨w.heap.size + 1, 0, none⟩) 16 16] 71)) w.heap.size 66 s.l) := hide hbl2
  have Hf2 := hide hf2
  have Hm2 := hide hm2
  have Hb2 := hide hb2
  have Hr := hide hr2
  have Hl := hide hl
  have Hok := hide hok
  have Hs0 := hide hs0
  show Calls _ _ #[.agg #[.int .u16 (s.x.type : Nat), .int .u64 (s.x.entry : Nat), .string s.x.interp, .slice s.At s.x.text.length s.ct, .slice s.Ad s.x.data.length s.cd, .int .u64 (s.x.more : Nat), .bool s.x.dynamic, .slice s.A1 s.x.dyn.needed.length s.c1, .string s.x.dyn.soname, .string s.x.dyn.run, .slice s.A2 s.x.dyn.syms.length s.c2, .slice s.A3 s.x.dyn.relas.length s.c3, .int .i64 s.x.apart], .slice Al nl cl] w _
  clear hb1 hbl e1 e2 hbM hbl2 hf2 hm2 hb2 hr2 hr hl hok hs0
  go_enter Tryz.func32, Tryz.ntmps32
  go_upto_region 2 with fail
  generalize (((w.alloc (.cells #[.int .u16 (s.x.type : Nat), .int .u64 (s.x.entry : Nat), .string s.x.interp, .slice s.At s.x.text.length s.ct, .slice s.Ad s.x.data.length s.cd, .int .u64 (s.x.more : Nat), .bool s.x.dynamic, .slice s.A1 s.x.dyn.needed.length s.c1, .string s.x.dyn.soname, .string s.x.dyn.run, .slice s.A2 s.x.dyn.syms.length s.c2, .slice s.A3 s.x.dyn.relas.length s.c3, .int .i64 s.x.apart] 66)).alloc (.cells #[.int .u8 127, .int .u8 69, .int .u8 76, .int .u8 70, .int .u8 2, .int .u8 1, .int .u8 1, .int .u8 0, .int .u8 0, .int .u8 0, .int .u8 0, .int .u8 0, .int .u8 0, .int .u8 0, .int .u8 0, .int .u8 0] 5 (16, 17))).alloc (.cells #[.slice (some ⟨w.heap.size + 1, 0, none⟩) 16 16] 71)) = W0 at *
  have hs0 : w.heap.size + 3 ≤ W0.heap.size := by rw [unhide Hs0]; exact Nat.le_refl _
  have HL1 := hide (lit2 W0 (s.x.type : Nat) 62)
  have KN1 := hide (OwF.startG (b0 := w.heap.size + 1) (L := [(w.heap.size, 66, s.l)]) (w2 := W0.alloc (.cells #[.int .u64 (s.x.type : Nat), .int .u64 62] 23)) (unhide Hf2) (unhide Hm2) (fun e => by injection e with e; have h9 : w.heap.size + 1 = w.heap.size + 1 + 1 := e; omega) (by omega) (by omega) (fun q hq => by rw [List.mem_singleton] at hq; subst hq; exact ⟨unhide Hbl, by show w.heap.size ≠ _; omega⟩) (below_al _ _) (kv := W0.heap.size) (m := 2) (cv := 2) (s := 2) (sv := 2) (vs := [s.x.type, 62]) (Nat.le_refl _) (unhide HL1) rfl (by intro v hv; simp at hv; omega) rfl (by omega) (by omega) (by omega) (by omega))
  go_wp2_with fail
  refine (unhide KN1).mono ?_
  rintro e v1 ⟨rfl, hS1⟩
  have HS1 := hide hS1
  clear hS1 KN1 HL1 yt Hf2 Hm2 Hs0
  have hf1 : (Mk.magic ++ Mk.lbs 2 [s.x.type, 62]).length ≤ 20 := by rw [List.length_append, lbs_len']; show 16 + 2 * 2 ≤ 20; decide
  have HL2 := hide (lit1 v1 1)
  have KN2 := hide ((unhide HS1).callNumber (w2 := v1.alloc (.cells #[.int .u64 1] 23)) (below_al _ _) (kv := v1.heap.size) (m := 1) (cv := 1) (s := 4) (sv := 4) (vs := [1]) (Nat.le_refl _) (unhide HL2) rfl (by intro v hv; simp at hv; omega) rfl (by omega) (by omega) (by omega))
  go_wp2_with fail
  refine (unhide KN2).mono ?_
  rintro e v2 ⟨rfl, hS2⟩
  have hf2 : (Mk.magic ++ Mk.lbs 2 [s.x.type, 62] ++ Mk.lbs 4 [1]).length ≤ 24 := by rw [List.length_append, lbs_len']; exact Nat.le_trans (Nat.add_le_add_right hf1 _) (by simp)
  have HS2 := hide hS2
  clear hS2 KN2 HL2
  have ye := (unhide HS2).cell List.mem_cons_self (i := 1) rfl
  have HL3 := hide (lit3 v2 (s.x.entry : Nat) 64 0)
  have KN3 := hide ((unhide HS2).callNumber (w2 := v2.alloc (.cells #[.int .u64 (s.x.entry : Nat), .int .u64 64, .int .u64 0] 23)) (below_al _ _) (kv := v2.heap.size) (m := 3) (cv := 3) (s := 8) (sv := 8) (vs := [s.x.entry, 64, 0]) (Nat.le_refl _) (unhide HL3) rfl (by intro v hv; simp at hv; omega) rfl (by omega) (by omega) (by omega))
  go_wp2_with fail
  refine (unhide KN3).mono ?_
  rintro e v3 ⟨rfl, hS3⟩
  have hf3 : (Mk.magic ++ Mk.lbs 2 [s.x.type, 62] ++ Mk.lbs 4 [1] ++ Mk.lbs 8 [s.x.entry, 64, 0]).length ≤ 48 := by rw [List.length_append, lbs_len']; exact Nat.le_trans (Nat.add_le_add_right hf2 _) (by simp)
  have HS3 := hide hS3
  clear ye hS3 KN3 HL3
  have HL4 := hide (lit1 v3 0)
  have KN4 := hide ((unhide HS3).callNumber (w2 := v3.alloc (.cells #[.int .u64 0] 23)) (below_al _ _) (kv := v3.heap.size) (m := 1) (cv := 1) (s := 4) (sv := 4) (vs := [0]) (Nat.le_refl _) (unhide HL4) rfl (by intro v hv; simp at hv; omega) rfl (by omega) (by omega) (by omega))
  go_wp2_with fail
  refine (unhide KN4).mono ?_
  rintro e v4 ⟨rfl, hS4⟩
  have hf4 : (Mk.magic ++ Mk.lbs 2 [s.x.type, 62] ++ Mk.lbs 4 [1] ++ Mk.lbs 8 [s.x.entry, 64, 0] ++ Mk.lbs 4 [0]).length ≤ 52 := by rw [List.length_append, lbs_len']; exact Nat.le_trans (Nat.add_le_add_right hf3 _) (by simp)
  have HS4 := hide hS4
  clear hS4 KN4 HL4
  have HL5 := hide (lit6 v4 64 56 (nl : Nat) 64 0 0)
  have KN5 := hide ((unhide HS4).callNumber (w2 := v4.alloc (.cells #[.int .u64 64, .int .u64 56, .int .u64 (nl : Nat), .int .u64 64, .int .u64 0, .int .u64 0] 23)) (below_al _ _) (kv := v4.heap.size) (m := 6) (cv := 6) (s := 2) (sv := 2) (vs := [64, 56, nl, 64, 0, 0]) (Nat.le_refl _) (unhide HL5) rfl (by intro v hv; simp at hv; omega) rfl (by omega) (by omega) (by omega))
  go_wp2_with fail
  refine (unhide KN5).mono ?_
  rintro e v5 ⟨rfl, hS5⟩
  have hf5 : (Mk.magic ++ Mk.lbs 2 [s.x.type, 62] ++ Mk.lbs 4 [1] ++ Mk.lbs 8 [s.x.entry, 64, 0] ++ Mk.lbs 4 [0] ++ Mk.lbs 2 [64, 56, nl, 64, 0, 0]).length ≤ 64 := by rw [List.length_append, lbs_len']; exact Nat.le_trans (Nat.add_le_add_right hf4 _) (by simp)
  have HS5 := hide hS5
  clear hS5 KN5 HL5
  obtain ⟨h5, he5⟩ : ∃ h5, Mk.magic ++ Mk.lbs 2 [s.x.type, 62] ++ Mk.lbs 4 [1] ++ Mk.lbs 8 [s.x.entry, 64, 0] ++ Mk.lbs 4 [0] ++ Mk.lbs 2 [64, 56, nl, 64, 0, 0] = h5 := ⟨_, rfl⟩
  rw [he5] at HS5 hf5
  have Hh5 := hide he5
  clear he5 hf1 hf2 hf3 hf4
  go_wp2_with fail
  go_loopg [37] nl (fun gk iv wr => ∃ j : Nat, gk = nl - j ∧ j ≤ nl ∧ iv = .int .i64 j ∧ OwF (w.heap.size + 1 + 1) (w.heap.size + 1) W0 wr (h5 ++ Mk.rowsB (l.take j)) [])
  case atStart => exact ⟨0, by omega, by omega, rfl, by simpa [Mk.rowsB] using (unhide HS5).sub (by intro q hq; cases hq)⟩
  case round =>
  clear HS5
  obtain ⟨j, hgk, hj, rfl, hS⟩ := hrel
  have Hgk := hide hgk
  have HS := hide hS
  have hbw := hS.bel
  have Hbw := hide hbw
  clear hgk hS hbw
  rcases Nat.lt_or_ge j nl with hlt | hge
  · obtain ⟨r, hr⟩ : ∃ r, l[j]? = some r := ⟨_, List.getElem?_eq_getElem (by rw [unhide Hl]; exact hlt)⟩
    have hro := (unhide Hok) r (List.mem_of_getElem? hr)
    obtain ⟨b1, o1, hA1, hb1, st0, st1, st2, st3, st4, st5, st6⟩ := mkrow_at ((unhide Hr).below ((unhide Hbw).mono (by omega))) hr
    subst hA1
    have ilt : (j : Int) < (nl : Int) := by omega
    have Hx := hide hr
    have Hro := hide hro
    have hfj : (h5 ++ Mk.rowsB (l.take j)).length ≤ 3700 := by rw [List.length_append, rowsB_len, List.length_take]; omega
    obtain ⟨fj, hfe⟩ : ∃ fj, h5 ++ Mk.rowsB (l.take j) = fj := ⟨_, rfl⟩
    rw [hfe] at hfj HS
    have Hfe := hide hfe
    have HSl : Hid (OwF (w.heap.size + 1 + 1) (w.heap.size + 1) W0 (wr.alloc (.cells #[.int .u64 (r.kind : Nat), .int .u64 (r.flags : Nat), .int .u64 (r.off : Nat), .int .u64 (r.addr : Nat), .int .u64 (r.fsz : Nat), .int .u64 (r.msz : Nat), .int .u64 (r.align : Nat)] 74)) fj [(wr.heap.size, 74, [.int .u64 (r.kind : Nat), .int .u64 (r.flags : Nat), .int .u64 (r.off : Nat), .int .u64 (r.addr : Nat), .int .u64 (r.fsz : Nat), .int .u64 (r.msz : Nat), .int .u64 (r.align : Nat)])]) := hide ((unhide HS).lay 74 [.int .u64 (r.kind : Nat), .int .u64 (r.flags : Nat), .int .u64 (r.off : Nat), .int .u64 (r.addr : Nat), .int .u64 (r.fsz : Nat), .int .u64 (r.msz : Nat), .int .u64 (r.align : Nat)])
    have hsx : (wr.alloc (.cells #[.int .u64 (r.kind : Nat), .int .u64 (r.flags : Nat), .int .u64 (r.off : Nat), .int .u64 (r.addr : Nat), .int .u64 (r.fsz : Nat), .int .u64 (r.msz : Nat), .int .u64 (r.align : Nat)] 74)).heap.size = wr.heap.size + 1 := by simp
    have HL7 := hide (lit2 (wr.alloc (.cells #[.int .u64 (r.kind : Nat), .int .u64 (r.flags : Nat), .int .u64 (r.off : Nat), .int .u64 (r.addr : Nat), .int .u64 (r.fsz : Nat), .int .u64 (r.msz : Nat), .int .u64 (r.align : Nat)] 74)) (r.kind : Nat) (r.flags : Nat))
    rw [hsx] at HL7
    have KN7 := hide ((unhide HSl).callNumber (w2 := (wr.alloc (.cells #[.int .u64 (r.kind : Nat), .int .u64 (r.flags : Nat), .int .u64 (r.off : Nat), .int .u64 (r.addr : Nat), .int .u64 (r.fsz : Nat), .int .u64 (r.msz : Nat), .int .u64 (r.align : Nat)] 74)).alloc (.cells #[.int .u64 (r.kind : Nat), .int .u64 (r.flags : Nat)] 23)) (below_al _ _) (kv := wr.heap.size + 1) (m := 2) (cv := 2) (s := 4) (sv := 4) (vs := [r.kind, r.flags]) (by rw [hsx]; exact Nat.le_refl _) (unhide HL7) rfl (by intro v hv; simp at hv; have h8 := (unhide Hro).kind; have h9 := (unhide Hro).flags; rcases hv with rfl | rfl <;> assumption) rfl (by omega) (by omega) (by omega))
    clear hr hro hfe hb1 hsx HSl HS
    go_wp2_with fail
    refine (unhide KN7).mono ?_
    rintro e v7 ⟨rfl, hS7⟩
    have z2 := hS7.cell List.mem_cons_self (i := 2) rfl
    have z3 := hS7.cell List.mem_cons_self (i := 3) rfl
    have z4 := hS7.cell List.mem_cons_self (i := 4) rfl
    have z5 := hS7.cell List.mem_cons_self (i := 5) rfl
    have z6 := hS7.cell List.mem_cons_self (i := 6) rfl
    have hf7 : (fj ++ Mk.lbs 4 [r.kind, r.flags]).length ≤ 3708 := by rw [List.length_append, lbs_len']; exact Nat.le_trans (Nat.add_le_add_right hfj _) (by simp)
    have HL8 := hide (lit6 v7 (r.off : Nat) (r.addr : Nat) (r.addr : Nat) (r.fsz : Nat) (r.msz : Nat) (r.align : Nat))
    have KN8 := hide (hS7.callNumber (w2 := v7.alloc (.cells #[.int .u64 (r.off : Nat), .int .u64 (r.addr : Nat), .int .u64 (r.addr : Nat), .int .u64 (r.fsz : Nat), .int .u64 (r.msz : Nat), .int .u64 (r.align : Nat)] 23)) (below_al _ _) (kv := v7.heap.size) (m := 6) (cv := 6) (s := 8) (sv := 8) (vs := [r.off, r.addr, r.addr, r.fsz, r.msz, r.align]) (Nat.le_refl _) (unhide HL8) rfl (by intro v hv; simp at hv; have q2 := (unhide Hro).off; have q3 := (unhide Hro).addr; have q4 := (unhide Hro).fsz; have q5 := (unhide Hro).msz; have q6 := (unhide Hro).align; rcases hv with rfl | rfl | rfl | rfl | rfl <;> assumption) rfl (by omega) (by omega) (by omega))
    clear hS7 KN7 HL7
    go_wp2_with fail
    refine (unhide KN8).mono ?_
    rintro e v8 ⟨rfl, hS8⟩
    have HS8 := hide hS8
    clear hS8 KN8 HL8 z2 z3 z4 z5 z6
    go_wp2_with fail
    go_roundg (nl - (j + 1))
    case measure => have := unhide Hgk; omega
    case rel => exact ⟨j + 1, rfl, by omega, by go_num, ((unhide HS8).sub (by intro q hq; cases hq)).bind (by rw [rowsB_next (unhide Hx), ← List.append_assoc, unhide Hfe]; simp [Mk.rowB, Mk.lbs, List.append_assoc])⟩
  · obtain rfl : j = nl := by omega
    have ige : ¬ (j : Int) < (j : Int) := by omega
    have hS := unhide HS
    rw [List.take_of_length_le (by rw [unhide Hl]; omega)] at hS
    have hhd : h5 ++ Mk.rowsB l = Mk.head s.x l := by
      rw [← unhide Hh5]
      unfold Mk.head
      rw [unhide Hl]
      simp [Mk.lbs, List.append_assoc]
    rw [hhd] at hS
    obtain ⟨A9, c9, F, -⟩ := hS.fi
    have hll := head_len s.x l
    rw [unhide Hl] at hll
    rw [hll] at F
    have y0 := F.cell
    have HF := hide F
    have HS9 := hide hS
    clear F hS hhd hll HS
    go_wp2_with fail
    go_ret
    exact ⟨A9, c9, rfl, own_base (unhide HF).row (by omega), (unhide Hb2).trans ((unhide Hbw).mono (by omega))⟩
end Go.Proofs.YtnbecdahfgkffaaGreat
namespace Go.Proofs.YtnbecdahfgkffaaGreat
open Go.RowKit Go.Lib Go.Sort
theorem join_any' (A : Option Addr) (n c : Nat) (l : List ByteArray) (sep : ByteArray) (w : World) (h : Rd w w.heap.size 1 A n (l.map Value.string)) (hc : n ≤ c) (hn : n ≤ 4294967296) (hlen : (Lib.join (l.map (·.data.toList)) sep.data.toList).length ≤ 140737488355328) :
    Calls Tryz.prog 70 #[.slice A n c, .string sep] w fun e w' => e = .returned (.string ⟨(Lib.join (l.map (·.data.toList)) sep.data.toList).toArray⟩) ∧ Below w.heap.size w w' := by
  have hl : l.length = n := by simpa using h.1
  rcases h.2 with h0 | ⟨b, off, rfl, hb, hcl⟩
  · have h1 : l = [] := by simpa using h0
    subst h1
    simp only [List.length_nil] at hl
    subst hl
    refine (Tryz.strings_Join_none A c sep w).mono ?_
    rintro e w' ⟨rfl, rfl⟩
    exact ⟨rfl, Below.refl _ _⟩
  · subst hl
    exact Tryz.strings_Join b off c l sep w (fun j x hx => hcl j _ (by rw [List.getElem?_map, hx]; rfl)) hb (by omega) hc hlen
end Go.Proofs.YtnbecdahfgkffaaGreat
namespace Go.Proofs.YtnbecdahfgkffaaGreat
open Go.RowKit
theorem index_has (l : List UInt8) : decide (0 ≤ Lib.indexByte l 0) = l.contains 0 := by
  have h1 := Lib.indexByte_ge l 0
  by_cases h : Lib.indexByte l 0 = -1
  · have h2 := Lib.indexByte_none h
    rw [decide_eq_false (by omega)]
    symm
    rw [← Bool.not_eq_true, List.contains_iff_mem]
    intro hm
    obtain ⟨k, hk⟩ := List.mem_iff_getElem?.1 hm
    exact h2 k hk
  · obtain ⟨o, ho⟩ : ∃ o : Nat, Lib.indexByte l 0 = o := ⟨(Lib.indexByte l 0).toNat, by omega⟩
    have h2 := (Lib.indexByte_some ho).1
    rw [decide_eq_true (by omega)]
    symm
    rw [List.contains_iff_mem]
    exact List.mem_of_getElem? h2
theorem join_flat (xs : List (List UInt8)) : Lib.join xs [] = xs.flatten := by
  cases xs with
  | nil => rfl
  | cons x r =>
    rw [Lib.join_cons]
    unfold Lib.joinTail
    simp
theorem names_has (l : List ByteArray) : (Lib.join (l.map (·.data.toList)) []).contains 0 = l.any Mk.has := by
  rw [join_flat]
  induction l with
  | nil => rfl
  | cons a r ih =>
    rw [List.map_cons, List.flatten_cons, List.any_cons, ← ih]
    unfold Mk.has
    rw [Bool.eq_iff_iff]
    simp
theorem any_or {α : Type} (f g : α → Bool) (l : List α) : l.any (fun x => f x || g x) = (l.any f || l.any g) := by
  induction l with
  | nil => rfl
  | cons a r ih =>
    rw [List.any_cons, List.any_cons, List.any_cons, ih]
    cases f a <;> cases g a <;> cases r.any f <;> cases r.any g <;> rfl
theorem all_not {α : Type} (g : α → Bool) (l : List α) : l.all (fun x => !g x) = !l.any g := by
  induction l with
  | nil => rfl
  | cons a r ih => rw [List.all_cons, List.any_cons, ih, Bool.not_or]
theorem le2 (b : Nat) : decide ((b : Int) ≤ 2) = !decide (2 < b) := by
  by_cases h : 2 < b
  · rw [decide_eq_true h, decide_eq_false (by omega)]; rfl
  · rw [decide_eq_false h, decide_eq_true (by omega)]; rfl
theorem leN (n : Nat) (x : Int) : decide (x ≤ (n : Int)) = !decide ((n : Int) < x) := by
  by_cases h : (n : Int) < x
  · rw [decide_eq_true h, decide_eq_false (by omega)]; rfl
  · rw [decide_eq_false h, decide_eq_true (by omega)]; rfl
def fits1 (l : List Dy.Sym) : Bool := l.all fun s => !decide (2 < s.bind)
def fits2 (n : Nat) (l : List Mk.Rel) : Bool := l.all fun r => !Mk.badRel n r
def namesOf (d : Mk.Dyn) : List ByteArray := [d.soname, d.run] ++ d.needed ++ Mk.names d.syms
theorem bad_eq (d : Mk.Dyn) : Mk.bad d = (!(fits1 d.syms && fits2 d.syms.length d.relas) || (namesOf d).any Mk.has) := by
  unfold Mk.bad fits1 fits2 namesOf Mk.names
  rw [all_not, all_not]
  have h1 : d.syms.any Mk.badSym = ((d.syms.any fun s => Mk.has s.name) || (d.syms.any fun s => decide (2 < s.bind))) := any_or _ _ _
  have h2 : (d.syms.map (·.name)).any Mk.has = d.syms.any fun s => Mk.has s.name := by rw [List.any_map]; rfl
  rw [h1, List.any_append, List.any_append, h2]
  simp only [List.any_cons, List.any_nil, Bool.or_false]
  cases Mk.has d.soname <;> cases Mk.has d.run <;> cases d.needed.any Mk.has <;> cases (d.syms.any fun s => Mk.has s.name) <;> cases (d.syms.any fun s => decide (2 < s.bind)) <;> cases d.relas.any (Mk.badRel d.syms.length) <;> rfl
def sumB (l : List ByteArray) : Nat := (l.map (·.data.toList)).flatten.length
theorem sumB_app (a b : List ByteArray) : sumB (a ++ b) = sumB a + sumB b := by unfold sumB; simp
theorem sumB_cons (a : ByteArray) (b : List ByteArray) : sumB (a :: b) = a.size + sumB b := by unfold sumB; simp
theorem put_ge (t : List UInt8) (s : ByteArray) : t.length + s.size ≤ (Mk.put t s).length := by
  unfold Mk.put
  split
  · omega
  · simp
theorem puts_sum (t : List UInt8) (l : List ByteArray) : t.length + sumB l ≤ (Mk.puts t l).length := by
  induction l generalizing t with
  | nil => exact Nat.le_refl _
  | cons s r ih =>
    have h1 := ih (Mk.put t s)
    have h2 := put_ge t s
    rw [sumB_cons]
    show _ ≤ (Mk.puts (Mk.put t s) r).length
    omega
theorem namesOf_sum (d : Mk.Dyn) : sumB (namesOf d) ≤ (Mk.texts3 d).length := by
  have h1 := puts_sum [0] d.needed
  have h2 := put_ge (Mk.texts0 d) d.soname
  have h3 := put_ge (Mk.texts1 d) d.run
  have h4 := puts_sum (Mk.texts2 d) (Mk.names d.syms)
  have e1 : (Mk.texts0 d) = Mk.puts [0] d.needed := rfl
  have e2 : (Mk.texts1 d) = Mk.put (Mk.texts0 d) d.soname := rfl
  have e3 : (Mk.texts2 d) = Mk.put (Mk.texts1 d) d.run := rfl
  have e4 : (Mk.texts3 d) = Mk.puts (Mk.texts2 d) (Mk.names d.syms) := rfl
  unfold namesOf
  rw [sumB_app, sumB_app, sumB_cons, sumB_cons]
  have h5 : sumB [] = 0 := rfl
  rw [← e1] at h1
  rw [← e2] at h2
  rw [← e3] at h3
  rw [← e4] at h4
  omega
set_option maxRecDepth 100000 in
set_option maxHeartbeats 60000000 in
theorem pcheck_any (s : Xq) (B : Nat) (w : World) (hB : B ≤ w.heap.size) (h : XqM w B s) (hf : MkFit s) (hn12 : s.x.dyn.needed.length + s.x.dyn.syms.length ≤ 1048576) :
    Calls Tryz.prog 25 #[.agg s.l.toArray] w fun e w' => e = .returned (.int .i64 (Mk.may s.x)) ∧ Below w.heap.size w w' := by
  have e1 : (w.alloc (.cells #[.int .u16 (s.x.type : Nat), .int .u64 (s.x.entry : Nat), .string s.x.interp, .slice s.At s.x.text.length s.ct, .slice s.Ad s.x.data.length s.cd, .int .u64 (s.x.more : Nat), .bool s.x.dynamic, .slice s.A1 s.x.dyn.needed.length s.c1, .string s.x.dyn.soname, .string s.x.dyn.run, .slice s.A2 s.x.dyn.syms.length s.c2, .slice s.A3 s.x.dyn.relas.length s.c3, .int .i64 s.x.apart] 66)).heap.size = w.heap.size + 1 := by simp
  have hb1 : Below w.heap.size w ((w.alloc (.cells #[.int .u16 (s.x.type : Nat), .int .u64 (s.x.entry : Nat), .string s.x.interp, .slice s.At s.x.text.length s.ct, .slice s.Ad s.x.data.length s.cd, .int .u64 (s.x.more : Nat), .bool s.x.dynamic, .slice s.A1 s.x.dyn.needed.length s.c1, .string s.x.dyn.soname, .string s.x.dyn.run, .slice s.A2 s.x.dyn.syms.length s.c2, .slice s.A3 s.x.dyn.relas.length s.c3, .int .i64 s.x.apart] 66)).alloc (.cells #[.slice s.A1 s.x.dyn.needed.length s.c1, .string s.x.dyn.soname, .string s.x.dyn.run, .slice s.A2 s.x.dyn.syms.length s.c2, .slice s.A3 s.x.dyn.relas.length s.c3] 29)) := ((Below.refl _ _).alloc (Nat.le_refl _) _).alloc (by simp) _
  have hbl : Blk ((w.alloc (.cells #[.int .u16 (s.x.type : Nat), .int .u64 (s.x.entry : Nat), .string s.x.interp, .slice s.At s.x.text.length s.ct, .slice s.Ad s.x.data.length s.cd, .int .u64 (s.x.more : Nat), .bool s.x.dynamic, .slice s.A1 s.x.dyn.needed.length s.c1, .string s.x.dyn.soname, .string s.x.dyn.run, .slice s.A2 s.x.dyn.syms.length s.c2, .slice s.A3 s.x.dyn.relas.length s.c3, .int .i64 s.x.apart] 66)).alloc (.cells #[.slice s.A1 s.x.dyn.needed.length s.c1, .string s.x.dyn.soname, .string s.x.dyn.run, .slice s.A2 s.x.dyn.syms.length s.c2, .slice s.A3 s.x.dyn.relas.length s.c3] 29)) w.heap.size 66 s.l := (Blk.new w 66 s.l).alloc _
  have hbd : Blk ((w.alloc (.cells #[.int .u16 (s.x.type : Nat), .int .u64 (s.x.entry : Nat), .string s.x.interp, .slice s.At s.x.text.length s.ct, .slice s.Ad s.x.data.length s.cd, .int .u64 (s.x.more : Nat), .bool s.x.dynamic, .slice s.A1 s.x.dyn.needed.length s.c1, .string s.x.dyn.soname, .string s.x.dyn.run, .slice s.A2 s.x.dyn.syms.length s.c2, .slice s.A3 s.x.dyn.relas.length s.c3, .int .i64 s.x.apart] 66)).alloc (.cells #[.slice s.A1 s.x.dyn.needed.length s.c1, .string s.x.dyn.soname, .string s.x.dyn.run, .slice s.A2 s.x.dyn.syms.length s.c2, .slice s.A3 s.x.dyn.relas.length s.c3] 29)) (w.heap.size + 1) 29 [.slice s.A1 s.x.dyn.needed.length s.c1, .string s.x.dyn.soname, .string s.x.dyn.run, .slice s.A2 s.x.dyn.syms.length s.c2, .slice s.A3 s.x.dyn.relas.length s.c3] := by
    have h9 := Blk.new (w.alloc (.cells #[.int .u16 (s.x.type : Nat), .int .u64 (s.x.entry : Nat), .string s.x.interp, .slice s.At s.x.text.length s.ct, .slice s.Ad s.x.data.length s.cd, .int .u64 (s.x.more : Nat), .bool s.x.dynamic, .slice s.A1 s.x.dyn.needed.length s.c1, .string s.x.dyn.soname, .string s.x.dyn.run, .slice s.A2 s.x.dyn.syms.length s.c2, .slice s.A3 s.x.dyn.relas.length s.c3, .int .i64 s.x.apart] 66)) 29 [.slice s.A1 s.x.dyn.needed.length s.c1, .string s.x.dyn.soname, .string s.x.dyn.run, .slice s.A2 s.x.dyn.syms.length s.c2, .slice s.A3 s.x.dyn.relas.length s.c3]
    rw [e1] at h9
    exact h9
  have hs1 : ((w.alloc (.cells #[.int .u16 (s.x.type : Nat), .int .u64 (s.x.entry : Nat), .string s.x.interp, .slice s.At s.x.text.length s.ct, .slice s.Ad s.x.data.length s.cd, .int .u64 (s.x.more : Nat), .bool s.x.dynamic, .slice s.A1 s.x.dyn.needed.length s.c1, .string s.x.dyn.soname, .string s.x.dyn.run, .slice s.A2 s.x.dyn.syms.length s.c2, .slice s.A3 s.x.dyn.relas.length s.c3, .int .i64 s.x.apart] 66)).alloc (.cells #[.slice s.A1 s.x.dyn.needed.length s.c1, .string s.x.dyn.soname, .string s.x.dyn.run, .slice s.A2 s.x.dyn.syms.length s.c2, .slice s.A3 s.x.dyn.relas.length s.c3] 29)).heap.size = w.heap.size + 2 := by simp
  have hxm := h.below (hb1.mono hB)
  have Hx : Hid (∀ W, Below (w.heap.size + 2) ((w.alloc (.cells #[.int .u16 (s.x.type : Nat), .int .u64 (s.x.entry : Nat), .string s.x.interp, .slice s.At s.x.text.length s.ct, .slice s.Ad s.x.data.length s.cd, .int .u64 (s.x.more : Nat), .bool s.x.dynamic, .slice s.A1 s.x.dyn.needed.length s.c1, .string s.x.dyn.soname, .string s.x.dyn.run, .slice s.A2 s.x.dyn.syms.length s.c2, .slice s.A3 s.x.dyn.relas.length s.c3, .int .i64 s.x.apart] 66)).alloc (.cells #[.slice s.A1 s.x.dyn.needed.length s.c1, .string s.x.dyn.soname, .string s.x.dyn.run, .slice s.A2 s.x.dyn.syms.length s.c2, .slice s.A3 s.x.dyn.relas.length s.c3] 29)) W → (Blk W w.heap.size 66 s.l ∧ Blk W (w.heap.size + 1) 29 [.slice s.A1 s.x.dyn.needed.length s.c1, .string s.x.dyn.soname, .string s.x.dyn.run, .slice s.A2 s.x.dyn.syms.length s.c2, .slice s.A3 s.x.dyn.relas.length s.c3]) ∧ XqM W B s) := hide (fun W hW => ⟨⟨hbl.below hW (by omega), hbd.below hW (by omega)⟩, hxm.below (hW.mono (by omega))⟩)
  have Hbr := hide (Below.refl (w.heap.size + 2) ((w.alloc (.cells #[.int .u16 (s.x.type : Nat), .int .u64 (s.x.entry : Nat), .string s.x.interp, .slice s.At s.x.text.length s.ct, .slice s.Ad s.x.data.length s.cd, .int .u64 (s.x.more : Nat), .bool s.x.dynamic, .slice s.A1 s.x.dyn.needed.length s.c1, .string s.x.dyn.soname, .string s.x.dyn.run, .slice s.A2 s.x.dyn.syms.length s.c2, .slice s.A3 s.x.dyn.relas.length s.c3, .int .i64 s.x.apart] 66)).alloc (.cells #[.slice s.A1 s.x.dyn.needed.length s.c1, .string s.x.dyn.soname, .string s.x.dyn.run, .slice s.A2 s.x.dyn.syms.length s.c2, .slice s.A3 s.x.dyn.relas.length s.c3] 29)))
  have Hb1 := hide hb1
  have Hs1 := hide (show w.heap.size + 2 ≤ ((w.alloc (.cells #[.int .u16 (s.x.type : Nat), .int .u64 (s.x.entry : Nat), .string s.x.interp, .slice s.At s.x.text.length s.ct, .slice s.Ad s.x.data.length s.cd, .int .u64 (s.x.more : Nat), .bool s.x.dynamic, .slice s.A1 s.x.dyn.needed.length s.c1, .string s.x.dyn.soname, .string s.x.dyn.run, .slice s.A2 s.x.dyn.syms.length s.c2, .slice s.A3 s.x.dyn.relas.length s.c3, .int .i64 s.x.apart] 66)).alloc (.cells #[.slice s.A1 s.x.dyn.needed.length s.c1, .string s.x.dyn.soname, .string s.x.dyn.run, .slice s.A2 s.x.dyn.syms.length s.c2, .slice s.A3 s.x.dyn.relas.length s.c3] 29)).heap.size by rw [hs1]; exact Nat.le_refl _)
  have KB : Hid (∀ W, Calls Tryz.prog 27 #[.agg #[.int .u16 (s.x.type : Nat), .int .u64 (s.x.entry : Nat), .string s.x.interp, .slice s.At s.x.text.length s.ct, .slice s.Ad s.x.data.length s.cd, .int .u64 (s.x.more : Nat), .bool s.x.dynamic, .slice s.A1 s.x.dyn.needed.length s.c1, .string s.x.dyn.soname, .string s.x.dyn.run, .slice s.A2 s.x.dyn.syms.length s.c2, .slice s.A3 s.x.dyn.relas.length s.c3, .int .i64 s.x.apart]] W fun e w' => e = .returned (.int .u64 (Mk.base s.x : Nat)) ∧ Below W.heap.size W w') := hide (fun W => pbase_any s W)
  have Hf := hide hf
  have hty := hf.ok.type
  have hen := hf.ok.entry
  have hmo := hf.ok.more
  have hte := hf.ok.text
  have hb4 : Mk.base s.x ≤ 4194304 := by unfold Mk.base; split <;> omega
  obtain ⟨a0, a1, a2, a3, a4, a5, a6, a7, a8, a9, a10, a11, a12⟩ := spec_cellsP hbl
  show Calls _ _ #[.agg #[.int .u16 (s.x.type : Nat), .int .u64 (s.x.entry : Nat), .string s.x.interp, .slice s.At s.x.text.length s.ct, .slice s.Ad s.x.data.length s.cd, .int .u64 (s.x.more : Nat), .bool s.x.dynamic, .slice s.A1 s.x.dyn.needed.length s.c1, .string s.x.dyn.soname, .string s.x.dyn.run, .slice s.A2 s.x.dyn.syms.length s.c2, .slice s.A3 s.x.dyn.relas.length s.c3, .int .i64 s.x.apart]] w _
  clear e1 hb1 hbl hbd hs1 hxm h hf
  go_enter Tryz.func25, Tryz.ntmps25
  go_upto_region 2 with fail
  generalize ((w.alloc (.cells #[.int .u16 (s.x.type : Nat), .int .u64 (s.x.entry : Nat), .string s.x.interp, .slice s.At s.x.text.length s.ct, .slice s.Ad s.x.data.length s.cd, .int .u64 (s.x.more : Nat), .bool s.x.dynamic, .slice s.A1 s.x.dyn.needed.length s.c1, .string s.x.dyn.soname, .string s.x.dyn.run, .slice s.A2 s.x.dyn.syms.length s.c2, .slice s.A3 s.x.dyn.relas.length s.c3, .int .i64 s.x.apart] 66)).alloc (.cells #[.slice s.A1 s.x.dyn.needed.length s.c1, .string s.x.dyn.soname, .string s.x.dyn.run, .slice s.A2 s.x.dyn.syms.length s.c2, .slice s.A3 s.x.dyn.relas.length s.c3] 29)) = W1 at *
  have hs1 := unhide Hs1
  have Henr := hide (show Mk.enters s.x = (Mk.within s.x || (decide (s.x.type = 3) && decide (s.x.entry = 0))) from rfl)
  have Hwi := hide (show Mk.within s.x = (decide (Mk.base s.x + 65536 ≤ s.x.entry) && decide (s.x.entry - (Mk.base s.x + 65536) < s.x.text.length)) from rfl)
  go_cut [4] (fun v wx => v = .bool (decide (s.x.type = 3) && decide (s.x.entry = 0)) ∧ wx = W1)
  case first =>
    by_cases c1 : s.x.type = 3
    · have q1 : ((s.x.type : Int) == 3) = true := by rw [c1]; rfl
      by_cases c2 : s.x.entry = 0
      · have q2 : ((s.x.entry : Int) == 0) = true := by rw [c2]; rfl
        have He := hide (show (decide (s.x.type = 3) && decide (s.x.entry = 0)) = true by simp [c1, c2])
        clear c1 c2
        go_wp2_with fail
        go_meet
        case rel => exact ⟨by rw [unhide He], rfl⟩
      · have q2 : ((s.x.entry : Int) == 0) = false := by rw [beq_eq_false_iff_ne]; omega
        have He := hide (show (decide (s.x.type = 3) && decide (s.x.entry = 0)) = false by simp [c2])
        clear c1 c2
        go_wp2_with fail
        go_meet
        case rel => exact ⟨by rw [unhide He], rfl⟩
    · have q1 : ((s.x.type : Int) == 3) = false := by rw [beq_eq_false_iff_ne]; omega
      have He := hide (show (decide (s.x.type = 3) && decide (s.x.entry = 0)) = false by simp [c1])
      clear c1
      go_wp2_with fail
      go_meet
      case rel => exact ⟨by rw [unhide He], rfl⟩
  case rest =>
    obtain ⟨rfl, hwc⟩ := hcut
    obtain rfl : W1 = wc := hwc.symm
    generalize (decide (s.x.type = 3) && decide (s.x.entry = 0)) = ef at *
    have KB1 := hide ((unhide KB) W1)
    go_wp2_with fail
    refine (unhide KB1).mono ?_
    rintro e w2 ⟨rfl, hb2⟩
    have hx2 := (unhide Hx) w2 ((unhide Hbr).trans (hb2.mono hs1))
    obtain ⟨x0, x1, x2, x3, x4, x5, x6, x7, x8, x9, x10, x11, x12⟩ := spec_cellsP hx2.1.1
    have d0 := hx2.1.2.cell (i := 0) rfl
    have d1 := hx2.1.2.cell (i := 1) rfl
    have d2 := hx2.1.2.cell (i := 2) rfl
    have d3 := hx2.1.2.cell (i := 3) rfl
    have HB2 := hide ((unhide Hbr).trans (hb2.mono hs1))
    have Hxm2 := hide hx2.2
    have hs2 := hb2.size
    clear hb2 hx2 KB KB1 a0 a1 a2 a3 a4 a5 a6 a7 a8 a9 a10 a11 a12
    generalize Mk.base s.x = bs at *
    go_upto_region 4 with fail
    go_cut [39] (fun v wx => v = .bool (Mk.within s.x) ∧ wx = w2)
    case first =>
      by_cases c1 : bs + 65536 ≤ s.x.entry
      · have c1i : decide (bs + 65536 ≤ s.x.entry) = true := decide_eq_true c1
        have c1j : ((bs : Int) + 65536 ≤ (s.x.entry : Int)) := by omega
        have c3 : (s.x.entry : Int) - ((bs : Int) + 65536) = ((s.x.entry - (bs + 65536) : Nat) : Int) := by omega
        have c4 : Mk.within s.x = decide (s.x.entry - (bs + 65536) < s.x.text.length) := by rw [unhide Hwi, decide_eq_true c1, Bool.true_and]
        obtain ⟨d, hd⟩ : ∃ d, s.x.entry - (bs + 65536) = d := ⟨_, rfl⟩
        rw [hd] at c3 c4
        have hdl : d < 18446744073709551616 := by omega
        by_cases c5 : d < s.x.text.length
        · have c5i : ((d : Int) < (s.x.text.length : Int)) := by omega
          have He := hide (show Mk.within s.x = true by rw [c4, decide_eq_true c5])
          clear hd c4 c5 c1
          go_wp2_with fail
          go_meet
          case rel => exact ⟨by rw [unhide He], rfl⟩
        · have c5i : ¬ ((d : Int) < (s.x.text.length : Int)) := by omega
          have He := hide (show Mk.within s.x = false by rw [c4, decide_eq_false c5])
          clear hd c4 c5 c1
          go_wp2_with fail
          go_meet
          case rel => exact ⟨by rw [unhide He], rfl⟩
      · have c1i : ¬ ((bs : Int) + 65536 ≤ (s.x.entry : Int)) := by omega
        have He := hide (show Mk.within s.x = false by rw [unhide Hwi, decide_eq_false c1]; rfl)
        clear c1
        go_wp2_with fail
        go_meet
        case rel => exact ⟨by rw [unhide He], rfl⟩
    case rest =>
      obtain ⟨rfl, hwc⟩ := hcut
      obtain rfl : w2 = wc := hwc.symm
      clear Hwi
      generalize Mk.within s.x = wi at *
      go_upto_if 39 with fail
      go_cut [4] (fun v wx => v = .bool (Mk.enters s.x) ∧ wx = w2)
      case first =>
        cases wi
        case false =>
          go_wp2_with fail
          go_meet
          case rel => exact ⟨by rw [unhide Henr]; rfl, rfl⟩
        case true =>
          go_wp2_with fail
          go_meet
          case rel => exact ⟨by rw [unhide Henr]; rfl, rfl⟩
      case rest =>
        obtain ⟨rfl, hwc⟩ := hcut
        obtain rfl : w2 = wc := hwc.symm
        clear Henr
        obtain ⟨en, hene⟩ : ∃ en, Mk.enters s.x = en := ⟨_, rfl⟩
        rw [hene]
        have Hene := hide hene
        clear hene
        have hn1 : s.x.dyn.needed.length ≤ 4294967296 := (unhide Hf).ok.dyn.n1
        have hn2 : s.x.dyn.syms.length ≤ 4294967296 := (unhide Hf).ok.dyn.n2
        have hn3 : s.x.dyn.relas.length ≤ 4294967296 := (unhide Hf).ok.dyn.n3
        have hl2 : (w2.alloc (.cells #[.string s.x.dyn.soname, .string s.x.dyn.run] 9)).ownsRow (w.heap.size + 2) 9 1 (.slice (some ⟨w2.heap.size, 0, none⟩) 2 2) 2 (([s.x.dyn.soname, s.x.dyn.run] : List ByteArray).map Value.string) := ⟨rfl, .inr ⟨_, 2, _, rfl, by omega, Blk.new w2 9 [.string s.x.dyn.soname, .string s.x.dyn.run], Nat.le_refl _, by unfold maxLen; omega, rfl, rfl⟩⟩
        have hba : Below w2.heap.size w2 (w2.alloc (.cells #[.string s.x.dyn.soname, .string s.x.dyn.run] 9)) := below_al _ _
        have hBW := (unhide HB2).trans (hba.mono (by omega))
        have hx3 := (unhide Hx) _ hBW
        have y0 : (w2.alloc (.cells #[.string s.x.dyn.soname, .string s.x.dyn.run] 9)).cell? ⟨w.heap.size + 1, 0, none⟩ = some (.slice s.A1 s.x.dyn.needed.length s.c1) := hx3.1.2.cell (i := 0) rfl
        have Hl2 := hide hl2
        have HBW := hide hBW
        have Hxm3 := hide hx3.2
        have hsz3 := hBW.size
        have Hsz3 := hide hsz3
        clear hl2 hba hBW hx3 HB2 Hxm2
        go_upto_region 8 with (at_builtin; refine wpList_app strTy rfl _ _ rfl (w.heap.size + 2) (.slice (some ⟨w2.heap.size, 0, none⟩) 2 2) 2 _ rfl (unhide Hl2) B s.A1 s.x.dyn.needed.length s.c1 (s.x.dyn.needed.map Value.string) rfl (unhide Hxm3).dyn.needed (by intro u hu; obtain ⟨y, -, rfl⟩ := List.mem_map.1 hu; rfl) (by omega) (by omega) ?_; intro An cn w4 ho4 hg4 ha4; have HN := hide (show w4.ownsRow (w.heap.size + 2) 9 1 (.slice An (2 + s.x.dyn.needed.length) cn) (2 + s.x.dyn.needed.length) (([s.x.dyn.soname, s.x.dyn.run] ++ s.x.dyn.needed).map Value.string) by rw [List.map_append]; exact ho4); have HB4 := hide ((unhide HBW).grown hg4 (by omega) (fun k hk => ((unhide Hl2).lt k hk).1)); clear ho4 hg4 ha4)
        have hx4 := (unhide Hx) _ (unhide HB4)
        have d3 := hx4.1.2.cell (i := 3) rfl
        obtain ⟨A2v, hA2v⟩ : ∃ A2v, s.A2 = A2v := ⟨_, rfl⟩
        rw [hA2v] at d3
        have HA2v := hide hA2v
        clear hx4 y0 d0 d1 d2 Hl2 HBW Hxm3 hA2v
        go_wp2_with fail
        go_loopg [6, 7, 52] s.x.dyn.syms.length (fun gk nv fv iv wr => ∃ (j : Nat) (An : Option Addr) (cn : Nat), gk = s.x.dyn.syms.length - j ∧ j ≤ s.x.dyn.syms.length ∧ iv = .int .i64 j ∧ nv = .slice An (2 + s.x.dyn.needed.length + j) cn ∧ fv = .bool (fits1 (s.x.dyn.syms.take j)) ∧ wr.ownsRow (w.heap.size + 2) 9 1 (.slice An (2 + s.x.dyn.needed.length + j) cn) (2 + s.x.dyn.needed.length + j) (([s.x.dyn.soname, s.x.dyn.run] ++ s.x.dyn.needed ++ Mk.names (s.x.dyn.syms.take j)).map Value.string) ∧ Below (w.heap.size + 2) W1 wr)
        case atStart => exact ⟨0, An, cn, by omega, by omega, rfl, rfl, rfl, by simpa [Mk.names] using unhide HN, unhide HB4⟩
        case round =>
        clear HN
        obtain ⟨j, An, cn, hgk, hj, rfl, rfl, rfl, hN, hB4⟩ := hrel
        have Hgk := hide hgk
        have HN := hide hN
        have HB5 := hide hB4
        have hws : w.heap.size + 2 ≤ wr.heap.size := Nat.le_trans hs1 hB4.size
        clear hgk hN hB4 HB4
        rcases Nat.lt_or_ge j s.x.dyn.syms.length with hlt | hge
        · obtain ⟨x, hx⟩ : ∃ x, s.x.dyn.syms[j]? = some x := ⟨_, List.getElem?_eq_getElem hlt⟩
          obtain ⟨b1, o1, hA1, hb1, st0, st1, st2, st3, st4⟩ := mksym_at ((unhide Hx) _ (unhide HB5)).2.dyn.syms hx
          have ilt : (j : Int) < (s.x.dyn.syms.length : Int) := by omega
          have htk : fits1 (s.x.dyn.syms.take (j + 1)) = (fits1 (s.x.dyn.syms.take j) && !decide (2 < x.bind)) := by unfold fits1; rw [List.take_add_one, hx, List.all_append]; simp
          have hnk : Mk.names (s.x.dyn.syms.take (j + 1)) = Mk.names (s.x.dyn.syms.take j) ++ [x.name] := by unfold Mk.names; rw [List.take_add_one, hx, List.map_append]; rfl
          have Htk := hide htk
          have Hnk := hide hnk
          have hA2' : A2v = some ⟨b1, o1, none⟩ := (unhide HA2v).symm.trans hA1
          subst hA2'
          have hbS : Below wr.heap.size wr (wr.alloc (.cells #[.string x.name, .int .u64 (x.value : Nat), .int .u64 (x.size : Nat), .int .u8 (x.bind : Nat), .bool x.isdef] 48)) := below_al _ _
          have hN2 := (own_below (unhide HN) hbS)
          have hSs : (wr.alloc (.cells #[.string x.name, .int .u64 (x.value : Nat), .int .u64 (x.size : Nat), .int .u8 (x.bind : Nat), .bool x.isdef] 48)).heap.size = wr.heap.size + 1 := by simp
          have HN2 := hide hN2
          have HbS := hide hbS
          have Hss := hide (show w.heap.size + 2 ≤ (wr.alloc (.cells #[.string x.name, .int .u64 (x.value : Nat), .int .u64 (x.size : Nat), .int .u8 (x.bind : Nat), .bool x.isdef] 48)).heap.size by simp; omega)
          have Hbx := hide (Blk.new wr 48 [.string x.name, .int .u64 (x.value : Nat), .int .u64 (x.size : Nat), .int .u8 (x.bind : Nat), .bool x.isdef])
          clear hx hA1 htk hnk hb1 hbS hN2 hSs
          obtain ⟨fv, hfv⟩ : ∃ fv, fits1 (s.x.dyn.syms.take j) = fv := ⟨_, rfl⟩
          rw [hfv]
          have Hfv := hide hfv
          clear hfv
          go_upto_region 13 with (at_builtin; go_loud (refine wpList_app1g strTy rfl _ _ rfl (w.heap.size + 2) (.slice An (2 + s.x.dyn.needed.length + j) cn) (2 + s.x.dyn.needed.length + j) _ rfl (unhide HN2) #[.string x.name] _ rfl (by simp) rfl (by intro u hu; simp at hu; subst hu; rfl) (by omega) (unhide Hss) ?_; intro A3 c3 w5 ho5 hg5 ha5; have HN3 := hide ho5; have hb5 := (unhide HB5).trans ((unhide HbS).mono hws) |>.grown hg5 (unhide Hss) (fun k hk => ((unhide HN2).lt k hk).1); have HB6 := hide hb5; have Hbx2 := hide (show Blk w5 wr.heap.size 48 [.string x.name, .int .u64 (x.value : Nat), .int .u64 (x.size : Nat), .int .u8 (x.bind : Nat), .bool x.isdef] from (hg5.block _ (unhide Hbx).lt (fun e => by have := ((unhide HN).lt _ e.symm).2; omega)).trans (unhide Hbx)); have z3 := (unhide Hbx2).cell (i := 3) rfl; clear ho5 hg5 ha5 hb5))
          cases fv
          case false =>
            go_wp2_with fail
            go_roundg (s.x.dyn.syms.length - (j + 1))
            case measure => have := unhide Hgk; omega
            case rel => exact ⟨j + 1, A3, c3, rfl, by omega, by go_num, by rw [← Nat.add_assoc], by rw [unhide Htk, unhide Hfv]; rfl, by rw [unhide Hnk, ← Nat.add_assoc, ← List.append_assoc, List.map_append]; exact unhide HN3, unhide HB6⟩
          case true =>
            go_wp2_with fail
            go_roundg (s.x.dyn.syms.length - (j + 1))
            case measure => have := unhide Hgk; omega
            case rel => exact ⟨j + 1, A3, c3, rfl, by omega, by go_num, by rw [← Nat.add_assoc], by rw [unhide Htk, unhide Hfv, le2]; rfl, by rw [unhide Hnk, ← Nat.add_assoc, ← List.append_assoc, List.map_append]; exact unhide HN3, unhide HB6⟩
        · obtain rfl : j = s.x.dyn.syms.length := by omega
          have ige : ¬ ((s.x.dyn.syms.length : Nat) : Int) < ((s.x.dyn.syms.length : Nat) : Int) := by omega
          rw [List.take_length] at *
          have hx6 := (unhide Hx) _ (unhide HB5)
          have d4 := hx6.1.2.cell (i := 4) rfl
          have d3b := hx6.1.2.cell (i := 3) rfl
          obtain ⟨A3v, hA3v⟩ : ∃ A3v, s.A3 = A3v := ⟨_, rfl⟩
          rw [hA3v] at d4
          have HA3v := hide hA3v
          have HB7 := hide (unhide HB5)
          obtain ⟨f1, hf1⟩ : ∃ f1, fits1 s.x.dyn.syms = f1 := ⟨_, rfl⟩
          have Hf1 := hide hf1
          clear hf1 hA3v hx6
          rw [unhide Hf1]
          have hws2 := hws
          clear d3b
          go_wp2_with fail
          go_loopg [7, 71] s.x.dyn.relas.length (fun gk fv iv wr => ∃ i : Nat, gk = s.x.dyn.relas.length - i ∧ i ≤ s.x.dyn.relas.length ∧ iv = .int .i64 i ∧ fv = .bool (f1 && fits2 s.x.dyn.syms.length (s.x.dyn.relas.take i)) ∧ wr.ownsRow (w.heap.size + 2) 9 1 (.slice An (2 + s.x.dyn.needed.length + s.x.dyn.syms.length) cn) (2 + s.x.dyn.needed.length + s.x.dyn.syms.length) ((namesOf s.x.dyn).map Value.string) ∧ Below (w.heap.size + 2) W1 wr)
          case atStart => exact ⟨0, by omega, by omega, rfl, by simp [fits2], unhide HN, unhide HB7⟩
          case round =>
          clear HN HB7 HB5 Hgk ige
          obtain ⟨i, hgk2, hi, rfl, rfl, hN, hB7⟩ := hrel
          have Hgk2 := hide hgk2
          have HN := hide hN
          have HB7 := hide hB7
          have hws3 : w.heap.size + 2 ≤ wr.heap.size := Nat.le_trans hs1 hB7.size
          clear hgk2 hN hB7 hws hws2
          rcases Nat.lt_or_ge i s.x.dyn.relas.length with hlt | hge
          · obtain ⟨x, hx⟩ : ∃ x, s.x.dyn.relas[i]? = some x := ⟨_, List.getElem?_eq_getElem hlt⟩
            obtain ⟨b1, o1, hA1, hb1, st0, st1, st2, st3⟩ := mkrel_at ((unhide Hx) _ (unhide HB7)).2.dyn.relas hx
            have hA2' : A3v = some ⟨b1, o1, none⟩ := (unhide HA3v).symm.trans hA1
            subst hA2'
            have ilt : (i : Int) < (s.x.dyn.relas.length : Int) := by omega
            have htk : fits2 s.x.dyn.syms.length (s.x.dyn.relas.take (i + 1)) = (fits2 s.x.dyn.syms.length (s.x.dyn.relas.take i) && !(decide (x.sym < 0) || decide ((s.x.dyn.syms.length : Int) < x.sym))) := by unfold fits2; rw [List.take_add_one, hx, List.all_append]; simp [Mk.badRel]
            have hbS : Below wr.heap.size wr (wr.alloc (.cells #[.int .u64 (x.off : Nat), .int .u32 (x.type : Nat), .int .i64 x.sym, .int .i64 x.add] 141)) := below_al _ _
            have hBa := (unhide HB7).trans (hbS.mono hws3)
            have HBa := hide hBa
            have HNa := hide (own_below (unhide HN) hbS)
            have d3c : (wr.alloc (.cells #[.int .u64 (x.off : Nat), .int .u32 (x.type : Nat), .int .i64 x.sym, .int .i64 x.add] 141)).cell? ⟨w.heap.size + 1, 3, none⟩ = some (.slice s.A2 s.x.dyn.syms.length s.c2) := ((unhide Hx) _ hBa).1.2.cell (i := 3) rfl
            have z2 : (wr.alloc (.cells #[.int .u64 (x.off : Nat), .int .u32 (x.type : Nat), .int .i64 x.sym, .int .i64 x.add] 141)).cell? ⟨wr.heap.size, 2, none⟩ = some (.int .i64 x.sym) := (Blk.new wr 141 [.int .u64 (x.off : Nat), .int .u32 (x.type : Nat), .int .i64 x.sym, .int .i64 x.add]).cell (i := 2) rfl
            generalize fits2 s.x.dyn.syms.length (s.x.dyn.relas.take i) = f2 at *
            have Htk2 := hide htk
            generalize x.sym = sm at *
            clear hx hA1 htk hb1 hbS hBa
            obtain ⟨ff, hff⟩ : ∃ ff, (f1 && f2) = ff := ⟨_, rfl⟩
            rw [hff]
            have Hff := hide hff
            clear hff
            cases ff
            case false =>
              go_wp2_with fail
              go_roundg (s.x.dyn.relas.length - (i + 1))
              case measure => have := unhide Hgk2; omega
              case rel => exact ⟨i + 1, rfl, by omega, by go_num, by rw [unhide Htk2]; rw [← Bool.and_assoc, unhide Hff]; rfl, unhide HNa, unhide HBa⟩
            case true =>
              by_cases c2 : 0 ≤ sm
              · have c2i : decide (0 ≤ sm) = true := decide_eq_true c2
                have C2 := hide (show decide (sm < 0) = false from decide_eq_false (by omega))
                clear c2
                go_wp2_with fail
                go_roundg (s.x.dyn.relas.length - (i + 1))
                case measure => have := unhide Hgk2; omega
                case rel => exact ⟨i + 1, rfl, by omega, by go_num, by rw [unhide Htk2]; rw [← Bool.and_assoc, unhide Hff, unhide C2, Bool.false_or, Bool.true_and, leN], unhide HNa, unhide HBa⟩
              · have c2i : decide (0 ≤ sm) = false := decide_eq_false c2
                have C2 := hide (show decide (sm < 0) = true from decide_eq_true (by omega))
                clear c2
                go_wp2_with fail
                go_roundg (s.x.dyn.relas.length - (i + 1))
                case measure => have := unhide Hgk2; omega
                case rel => exact ⟨i + 1, rfl, by omega, by go_num, by rw [unhide Htk2]; rw [← Bool.and_assoc, unhide Hff, unhide C2]; rfl, unhide HNa, unhide HBa⟩
          · obtain rfl : i = s.x.dyn.relas.length := by omega
            have ige : ¬ ((s.x.dyn.relas.length : Nat) : Int) < ((s.x.dyn.relas.length : Nat) : Int) := by omega
            rw [List.take_length] at *
            obtain ⟨fz, hfz⟩ : ∃ fz, (f1 && fits2 s.x.dyn.syms.length s.x.dyn.relas) = fz := ⟨_, rfl⟩
            rw [hfz]
            have Hfz := hide hfz
            have hx8 := (unhide Hx) _ (unhide HB7)
            obtain ⟨x0, x1, x2, x3, x4, x5, x6, x7, x8, x9, x10, x11, x12⟩ := spec_cellsP hx8.1.1
            clear hx8 hfz
            go_upto_region 20 with fail
            have Hmay := hide (show Mk.may s.x = (if Mk.bad1 s.x = true then 1 else if Mk.bad2 s.x = true then 1 else if Mk.bad s.x.dyn = true then 1 else if Mk.tooBig s.x = true then 12 else 0) from rfl)
            have Hb1d := hide (show Mk.bad1 s.x = ((!(decide (s.x.type = 2) || decide (s.x.type = 3))) || !Mk.enters s.x || (decide (s.x.interp.size ≠ 0) && decide (Pth.chk s.x.interp ≠ 0))) from rfl)
            have Hb2d := hide (show Mk.bad2 s.x = ((!s.x.dynamic && !Mk.empty s.x.dyn) || decide (s.x.apart < 0) || decide ((s.x.dyn.relas.length : Int) < s.x.apart)) from rfl)
            have Hbd := hide (bad_eq s.x.dyn)
            have Htb := hide (show Mk.tooBig s.x = (decide (8 < s.x.dyn.needed.length) || decide (64 < s.x.dyn.syms.length) || decide (64 < s.x.dyn.relas.length) || decide (65536 < s.x.text.length) || decide (1048576 < s.x.more)) from rfl)
            rw [unhide Hene] at Hb1d
            rw [unhide Hf1, unhide Hfz] at Hbd
            go_cut [90] (fun v wx => v = .bool (!(decide (s.x.type = 2) || decide (s.x.type = 3))) ∧ wx = wr)
            case first =>
              by_cases c2 : s.x.type = 2
              · have q1 : ((s.x.type : Int) != 2) = false := by rw [c2]; rfl
                have He := hide (show (!(decide (s.x.type = 2) || decide (s.x.type = 3))) = false by simp [c2])
                clear c2
                go_wp2_with fail
                go_meet
                case rel => exact ⟨by rw [unhide He], rfl⟩
              · have q1 : ((s.x.type : Int) != 2) = true := by rw [bne_iff_ne]; omega
                by_cases c3 : s.x.type = 3
                · have q2 : ((s.x.type : Int) != 3) = false := by rw [c3]; rfl
                  have He := hide (show (!(decide (s.x.type = 2) || decide (s.x.type = 3))) = false by simp [c3])
                  clear c2 c3
                  go_wp2_with fail
                  go_meet
                  case rel => exact ⟨by rw [unhide He], rfl⟩
                · have q2 : ((s.x.type : Int) != 3) = true := by rw [bne_iff_ne]; omega
                  have He := hide (show (!(decide (s.x.type = 2) || decide (s.x.type = 3))) = true by simp [c2, c3])
                  clear c2 c3
                  go_wp2_with fail
                  go_meet
                  case rel => exact ⟨by rw [unhide He], rfl⟩
            case rest =>
              obtain ⟨rfl, hwc⟩ := hcut
              obtain rfl : wr = wc := hwc.symm
              generalize (!(decide (s.x.type = 2) || decide (s.x.type = 3))) = tb at *
              cases tb
              case true =>
                have HM : Hid (Mk.may s.x = 1) := hide (by rw [unhide Hmay, unhide Hb1d]; rfl)
                go_wp2_with fail
                go_ret
                exact ⟨ret_int (unhide HM).symm, (unhide Hb1).trans ((unhide HB7).mono (by omega))⟩
              cases en
              case false =>
                have HM : Hid (Mk.may s.x = 1) := hide (by rw [unhide Hmay, unhide Hb1d]; rfl)
                go_wp2_with fail
                go_ret
                exact ⟨ret_int (unhide HM).symm, (unhide Hb1).trans ((unhide HB7).mono (by omega))⟩
              have KC := hide (check_any s.x.interp (by have := (unhide Hf).interp; unfold maxLen; omega) wr)
              go_upto_region 22 with fail
              go_cut [90] (fun v wx => v = .bool (decide (s.x.interp.size ≠ 0) && decide (Pth.chk s.x.interp ≠ 0)) ∧ Below wr.heap.size wr wx)
              case first =>
                by_cases ci : s.x.interp.size = 0
                · have q3 := toList_empty ci
                  have He := hide (show (decide (s.x.interp.size ≠ 0) && decide (Pth.chk s.x.interp ≠ 0)) = false by simp [ci])
                  clear ci
                  go_wp2_with fail
                  go_meet
                  case rel => exact ⟨by rw [unhide He], Below.refl _ _⟩
                · have q3 := toList_some ci
                  have He := hide (show (decide (s.x.interp.size ≠ 0) && decide (Pth.chk s.x.interp ≠ 0)) = decide (Pth.chk s.x.interp ≠ 0) by simp [ci])
                  clear ci
                  go_wp2_with (go_at_call 54; refine (unhide KC).mono ?_; rintro e w5 ⟨rfl, hb5⟩; have Hb5 := hide hb5; clear hb5)
                  go_meet
                  case rel => exact ⟨by rw [unhide He]; congr 1; by_cases hc : Pth.chk s.x.interp = 0 <;> simp [hc], unhide Hb5⟩
              case rest =>
                obtain ⟨rfl, hbw⟩ := hcut
                have HB8 := hide ((unhide HB7).trans (hbw.mono hws3))
                have HN8 := hide (own_below (unhide HN) hbw)
                have hws8 : w.heap.size + 2 ≤ wc.heap.size := Nat.le_trans hws3 hbw.size
                clear hbw KC x0 x1 x2 x3 x4 x5 x6 x7 x8 x9 x10 x11 x12
                generalize (decide (s.x.interp.size ≠ 0) && decide (Pth.chk s.x.interp ≠ 0)) = ib at *
                cases ib
                case true =>
                  have HM : Hid (Mk.may s.x = 1) := hide (by rw [unhide Hmay, unhide Hb1d]; rfl)
                  go_wp2_with fail
                  go_ret
                  exact ⟨ret_int (unhide HM).symm, (unhide Hb1).trans ((unhide HB8).mono (by omega))⟩
                have hx8 := (unhide Hx) _ (unhide HB8)
                obtain ⟨x0, x1, x2, x3, x4, x5, x6, x7, x8, x9, x10, x11, x12⟩ := spec_cellsP hx8.1.1
                have d0 := hx8.1.2.cell (i := 0) rfl
                have d1 := hx8.1.2.cell (i := 1) rfl
                have d2 := hx8.1.2.cell (i := 2) rfl
                have d3 := hx8.1.2.cell (i := 3) rfl
                have d4 := hx8.1.2.cell (i := 4) rfl
                have KE := hide (pempty_any s wc (unhide Hf).ok.dyn)
                clear hx8
                obtain ⟨dy, hdy⟩ : ∃ dy, s.x.dynamic = dy := ⟨_, rfl⟩
                rw [hdy] at x6
                rw [hdy] at Hb2d
                obtain ⟨em, hem⟩ : ∃ em, Mk.empty s.x.dyn = em := ⟨_, rfl⟩
                rw [hem] at KE
                rw [hem] at Hb2d
                clear hdy hem
                go_upto_region 24 with fail
                go_cut [110] (fun v wx => v = .bool (!dy && !em) ∧ Below wc.heap.size wc wx)
                case first =>
                  cases dy
                  case true =>
                    go_wp2_with fail
                    go_meet
                    case rel => exact ⟨rfl, Below.refl _ _⟩
                  case false =>
                    go_wp2_with (go_at_call 68; refine (unhide KE).mono ?_; rintro e w5 ⟨rfl, hb5⟩; have Hb5 := hide hb5; clear hb5)
                    go_meet
                    case rel => exact ⟨by cases em <;> rfl, unhide Hb5⟩
                case rest =>
                  obtain ⟨rfl, hbw⟩ := hcut
                  have HB9 := hide ((unhide HB8).trans (hbw.mono hws8))
                  have HN9 := hide (own_below (unhide HN8) hbw)
                  have hws9 := Nat.le_trans hws8 hbw.size
                  clear hbw KE x0 x1 x2 x3 x4 x5 x6 x7 x8 x9 x10 x11 x12 d0 d1 d2 d3 d4
                  generalize (!dy && !em) = de at *
                  cases de
                  case true =>
                    have HM : Hid (Mk.may s.x = 1) := hide (by rw [unhide Hmay, unhide Hb1d, unhide Hb2d]; rfl)
                    go_wp2_with fail
                    go_ret
                    exact ⟨ret_int (unhide HM).symm, (unhide Hb1).trans ((unhide HB9).mono (by omega))⟩
                  have hx9 := (unhide Hx) _ (unhide HB9)
                  obtain ⟨x0, x1, x2, x3, x4, x5, x6, x7, x8, x9, x10, x11, x12⟩ := spec_cellsP hx9.1.1
                  have d0 := hx9.1.2.cell (i := 0) rfl
                  have d3 := hx9.1.2.cell (i := 3) rfl
                  have d4 := hx9.1.2.cell (i := 4) rfl
                  clear hx9
                  by_cases ca : s.x.apart < 0
                  · have HM : Hid (Mk.may s.x = 1) := hide (by rw [unhide Hmay, unhide Hb1d, unhide Hb2d, decide_eq_true ca]; rfl)
                    go_wp2_with fail
                    go_ret
                    exact ⟨ret_int (unhide HM).symm, (unhide Hb1).trans ((unhide HB9).mono (by omega))⟩
                  by_cases cb : (s.x.dyn.relas.length : Int) < s.x.apart
                  · have HM : Hid (Mk.may s.x = 1) := hide (by rw [unhide Hmay, unhide Hb1d, unhide Hb2d, decide_eq_true cb, Bool.or_true]; rfl)
                    go_wp2_with fail
                    go_ret
                    exact ⟨ret_int (unhide HM).symm, (unhide Hb1).trans ((unhide HB9).mono (by omega))⟩
                  have Hb2f : Hid (Mk.bad2 s.x = false) := hide (by rw [unhide Hb2d, decide_eq_false ca, decide_eq_false cb]; rfl)
                  cases fz
                  case false =>
                    have HM : Hid (Mk.may s.x = 1) := hide (by rw [unhide Hmay, unhide Hb1d, unhide Hb2f, unhide Hbd]; rfl)
                    go_wp2_with fail
                    go_ret
                    exact ⟨ret_int (unhide HM).symm, (unhide Hb1).trans ((unhide HB9).mono (by omega))⟩
                  have hsum := namesOf_sum s.x.dyn
                  have htx := (unhide Hf).texts
                  have hnl : (namesOf s.x.dyn).length = 2 + s.x.dyn.needed.length + s.x.dyn.syms.length := by unfold namesOf Mk.names; simp; omega
                  have hcap : 2 + s.x.dyn.needed.length + s.x.dyn.syms.length ≤ cn := by
                    obtain ⟨g9, e9, -⟩ := own_some (unhide HN9) (by omega)
                    subst e9
                    exact (own_at (unhide HN9)).2.2
                  have KJ := hide (join_any' An (2 + s.x.dyn.needed.length + s.x.dyn.syms.length) cn (namesOf s.x.dyn) ⟨#[]⟩ wc (Rd.of_own (unhide HN9)) hcap (by omega) (by rw [show (⟨#[]⟩ : ByteArray).data.toList = [] from rfl, join_flat]; unfold sumB at hsum; omega))
                  clear hsum htx hnl hcap
                  go_wp2_with fail
                  refine (unhide KJ).mono ?_
                  rintro e w10 ⟨rfl, hbj⟩
                  have hct := Tryz.strings_Contains_one ⟨(Lib.join ((namesOf s.x.dyn).map (·.data.toList)) (⟨#[]⟩ : ByteArray).data.toList).toArray⟩ 0 w10
                  have hix : decide (0 ≤ Lib.indexByte (⟨(Lib.join ((namesOf s.x.dyn).map (·.data.toList)) (⟨#[]⟩ : ByteArray).data.toList).toArray⟩ : ByteArray).data.toList 0) = (namesOf s.x.dyn).any Mk.has := by
                    rw [index_has, ← names_has]
                  rw [hix] at hct
                  have KC2 := hide hct
                  have HB10 := hide ((unhide HB9).trans (hbj.mono hws9))
                  have hx10 := (unhide Hx) _ (unhide HB10)
                  have hws10 := Nat.le_trans hws9 hbj.size
                  obtain ⟨x0, x1, x2, x3, x4, x5, x6, x7, x8, x9, x10, x11, x12⟩ := spec_cellsP hx10.1.1
                  have d0 := hx10.1.2.cell (i := 0) rfl
                  have d3 := hx10.1.2.cell (i := 3) rfl
                  have d4 := hx10.1.2.cell (i := 4) rfl
                  generalize (namesOf s.x.dyn).any Mk.has = nh at *
                  generalize (⟨(Lib.join ((namesOf s.x.dyn).map (·.data.toList)) (⟨#[]⟩ : ByteArray).data.toList).toArray⟩ : ByteArray) = js at *
                  clear hx10 hbj hct hix KJ HN9 HB9
                  go_wp2_with fail
                  refine (unhide KC2).mono ?_
                  rintro e w11 ⟨rfl, rfl⟩
                  cases nh
                  case true =>
                    have HM : Hid (Mk.may s.x = 1) := hide (by rw [unhide Hmay, unhide Hb1d, unhide Hb2f, unhide Hbd]; rfl)
                    go_wp2_with fail
                    go_ret
                    exact ⟨ret_int (unhide HM).symm, (unhide Hb1).trans ((unhide HB10).mono (by omega))⟩
                  have HM0 : Hid (Mk.may s.x = if Mk.tooBig s.x = true then 12 else 0) := hide (by rw [unhide Hmay, unhide Hb1d, unhide Hb2f, unhide Hbd]; rfl)
                  clear KC2
                  by_cases e0 : 8 < s.x.dyn.needed.length
                  · have g0 : (8 : Int) < (s.x.dyn.needed.length : Int) := by omega
                    have HT : Hid (Mk.may s.x = 12) := hide (by rw [unhide HM0, unhide Htb]; simp [e0])
                    clear e0
                    go_wp2_with fail
                    go_ret
                    exact ⟨ret_int (unhide HT).symm, (unhide Hb1).trans ((unhide HB10).mono (by omega))⟩
                  have g0 : ¬ (8 : Int) < (s.x.dyn.needed.length : Int) := by omega
                  by_cases e1 : 64 < s.x.dyn.syms.length
                  · have g1 : (64 : Int) < (s.x.dyn.syms.length : Int) := by omega
                    have HT : Hid (Mk.may s.x = 12) := hide (by rw [unhide HM0, unhide Htb]; simp [e1])
                    clear e1
                    go_wp2_with fail
                    go_ret
                    exact ⟨ret_int (unhide HT).symm, (unhide Hb1).trans ((unhide HB10).mono (by omega))⟩
                  have g1 : ¬ (64 : Int) < (s.x.dyn.syms.length : Int) := by omega
                  by_cases e2 : 64 < s.x.dyn.relas.length
                  · have g2 : (64 : Int) < (s.x.dyn.relas.length : Int) := by omega
                    have HT : Hid (Mk.may s.x = 12) := hide (by rw [unhide HM0, unhide Htb]; simp [e2])
                    clear e2
                    go_wp2_with fail
                    go_ret
                    exact ⟨ret_int (unhide HT).symm, (unhide Hb1).trans ((unhide HB10).mono (by omega))⟩
                  have g2 : ¬ (64 : Int) < (s.x.dyn.relas.length : Int) := by omega
                  by_cases e3 : 65536 < s.x.text.length
                  · have g3 : (65536 : Int) < (s.x.text.length : Int) := by omega
                    have HT : Hid (Mk.may s.x = 12) := hide (by rw [unhide HM0, unhide Htb]; simp [e3])
                    clear e3
                    go_wp2_with fail
                    go_ret
                    exact ⟨ret_int (unhide HT).symm, (unhide Hb1).trans ((unhide HB10).mono (by omega))⟩
                  have g3 : ¬ (65536 : Int) < (s.x.text.length : Int) := by omega
                  by_cases e4 : 1048576 < s.x.more
                  · have g4 : (1048576 : Int) < (s.x.more : Int) := by omega
                    have HT : Hid (Mk.may s.x = 12) := hide (by rw [unhide HM0, unhide Htb]; simp [e4])
                    clear e4
                    go_wp2_with fail
                    go_ret
                    exact ⟨ret_int (unhide HT).symm, (unhide Hb1).trans ((unhide HB10).mono (by omega))⟩
                  have g4 : ¬ (1048576 : Int) < (s.x.more : Int) := by omega
                  have HT : Hid (Mk.may s.x = 0) := hide (by rw [unhide HM0, unhide Htb]; simp [e0, e1, e2, e3, e4])
                  clear e0 e1 e2 e3 e4
                  go_wp2_with fail
                  go_ret
                  exact ⟨ret_int (unhide HT).symm, (unhide Hb1).trans ((unhide HB10).mono (by omega))⟩
end Go.Proofs.YtnbecdahfgkffaaGreat
