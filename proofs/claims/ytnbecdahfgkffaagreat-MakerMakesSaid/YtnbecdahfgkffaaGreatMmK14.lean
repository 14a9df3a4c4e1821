/- Texts of the claim LawMakerMakes (MkR9b): what the functions that the statement reaches compute, and plain laws of it. Conditions: those that each theorem states. -/
import Derived.Test.YtnbecdahfgkffaaGreatMmK11
import Derived.Test.YtnbecdahfgkffaaGreatMmK4
import Derived.Test.YtnbecdahfgkffaaGreatMmK13
import Derived.Test.YtnbecdahfgkffaaGreatMmK6
import Derived.Test.YtnbecdahfgkffaaGreatMmK5
import Derived.Deep.DeepCutAuto
import Derived.Deep.CutBlock
set_option linter.unusedVariables false
set_option linter.unusedSimpArgs false
namespace Go.Proofs.YtnbecdahfgkffaaGreat
open Go.RowKit
set_option maxRecDepth 100000 in
set_option maxHeartbeats 60000000 in
theorem rmake14_any (s : Xq) (B : Nat) (w : World) (hB : B ≤ w.heap.size) (h : XqM w B s) (hf : MkFit s) :
    Calls Tryz.prog 10 #[.agg s.l.toArray] w (MkE s.x w) := by
  have hb1 : Below w.heap.size w (w.alloc (.cells #[.int .u16 (s.x.type : Nat), .int .u64 (s.x.entry : Nat), .string s.x.interp, .slice s.At s.x.text.length s.ct, .slice s.Ad s.x.data.length s.cd, .int .u64 (s.x.more : Nat), .bool s.x.dynamic, .slice s.A1 s.x.dyn.needed.length s.c1, .string s.x.dyn.soname, .string s.x.dyn.run, .slice s.A2 s.x.dyn.syms.length s.c2, .slice s.A3 s.x.dyn.relas.length s.c3, .int .i64 s.x.apart] 31)) := (Below.refl _ _).alloc (Nat.le_refl _) _
  have hbl := Blk.new w 31 s.l
  have Hb1 := hide hb1
  have hxm := h.below (hb1.mono hB)
  have HE1 := hide (show (w.alloc (.cells #[.int .u16 (s.x.type : Nat), .int .u64 (s.x.entry : Nat), .string s.x.interp, .slice s.At s.x.text.length s.ct, .slice s.Ad s.x.data.length s.cd, .int .u64 (s.x.more : Nat), .bool s.x.dynamic, .slice s.A1 s.x.dyn.needed.length s.c1, .string s.x.dyn.soname, .string s.x.dyn.run, .slice s.A2 s.x.dyn.syms.length s.c2, .slice s.A3 s.x.dyn.relas.length s.c3, .int .i64 s.x.apart] 31)).heap.size = w.heap.size + 1 by simp)
  have Hx : Hid (∀ W, Below (w.heap.size + 1) (w.alloc (.cells #[.int .u16 (s.x.type : Nat), .int .u64 (s.x.entry : Nat), .string s.x.interp, .slice s.At s.x.text.length s.ct, .slice s.Ad s.x.data.length s.cd, .int .u64 (s.x.more : Nat), .bool s.x.dynamic, .slice s.A1 s.x.dyn.needed.length s.c1, .string s.x.dyn.soname, .string s.x.dyn.run, .slice s.A2 s.x.dyn.syms.length s.c2, .slice s.A3 s.x.dyn.relas.length s.c3, .int .i64 s.x.apart] 31)) W → Blk W w.heap.size 31 s.l ∧ XqM W B s) := hide (fun W hW => ⟨Blk.below (show Blk (w.alloc (.cells #[.int .u16 (s.x.type : Nat), .int .u64 (s.x.entry : Nat), .string s.x.interp, .slice s.At s.x.text.length s.ct, .slice s.Ad s.x.data.length s.cd, .int .u64 (s.x.more : Nat), .bool s.x.dynamic, .slice s.A1 s.x.dyn.needed.length s.c1, .string s.x.dyn.soname, .string s.x.dyn.run, .slice s.A2 s.x.dyn.syms.length s.c2, .slice s.A3 s.x.dyn.relas.length s.c3, .int .i64 s.x.apart] 31)) w.heap.size 31 s.l from hbl) hW (by omega), hxm.below (hW.mono (by omega))⟩)
  have KM : Hid (∀ W, B ≤ W.heap.size → XqM W B s → Calls Tryz.prog 33 #[.agg #[.int .u16 (s.x.type : Nat), .int .u64 (s.x.entry : Nat), .string s.x.interp, .slice s.At s.x.text.length s.ct, .slice s.Ad s.x.data.length s.cd, .int .u64 (s.x.more : Nat), .bool s.x.dynamic, .slice s.A1 s.x.dyn.needed.length s.c1, .string s.x.dyn.soname, .string s.x.dyn.run, .slice s.A2 s.x.dyn.syms.length s.c2, .slice s.A3 s.x.dyn.relas.length s.c3, .int .i64 s.x.apart]] W fun e w' => e = .returned (.int .i64 (Mk.may s.x)) ∧ Below W.heap.size W w') := hide (fun W hW hx => rmay14_any s B W hW hx hf.ok)
  have KR : Hid (∀ W, Calls Tryz.prog 34 #[.agg #[.int .u16 (s.x.type : Nat), .int .u64 (s.x.entry : Nat), .string s.x.interp, .slice s.At s.x.text.length s.ct, .slice s.Ad s.x.data.length s.cd, .int .u64 (s.x.more : Nat), .bool s.x.dynamic, .slice s.A1 s.x.dyn.needed.length s.c1, .string s.x.dyn.soname, .string s.x.dyn.run, .slice s.A2 s.x.dyn.syms.length s.c2, .slice s.A3 s.x.dyn.relas.length s.c3, .int .i64 s.x.apart]] W fun e w' => e = .returned (.int .i64 (Mk.many s.x : Nat)) ∧ Below W.heap.size W w') := hide (fun W => rrows_any s W hf.ok)
  have KB := hide (fun W => rbase14_any s.x.type W)
  have Hf := hide hf
  have HxB := hide hxm
  have hte : s.x.text.length ≤ 4294967296 := hf.ok.text
  have hda : s.x.data.length ≤ 1048576 := hf.data
  have hin : s.x.interp.size ≤ 1048576 := hf.interp
  have hmo := hf.ok.more
  have hmany := many_ge s.x
  have hb4 : Mk.base s.x ≤ 4194304 := by unfold Mk.base; split <;> omega
  have Hbase := hide (show Mk.base s.x = (if s.x.type = 2 then 4194304 else 0) from rfl)
  obtain ⟨a0, a1, a2, a3, a4, a5, a6, a7, a8, a9, a10, a11, a12⟩ := spec_cells hbl
  show Calls _ _ #[.agg #[.int .u16 (s.x.type : Nat), .int .u64 (s.x.entry : Nat), .string s.x.interp, .slice s.At s.x.text.length s.ct, .slice s.Ad s.x.data.length s.cd, .int .u64 (s.x.more : Nat), .bool s.x.dynamic, .slice s.A1 s.x.dyn.needed.length s.c1, .string s.x.dyn.soname, .string s.x.dyn.run, .slice s.A2 s.x.dyn.syms.length s.c2, .slice s.A3 s.x.dyn.relas.length s.c3, .int .i64 s.x.apart]] w _
  clear hb1 hbl hxm h hf
  go_enter Tryz.func10, Tryz.ntmps10
  go_wp2_with fail
  refine ((unhide KM) _ (by simp; omega) (unhide HxB)).mono ?_
  rintro e w1 ⟨rfl, hbw⟩
  generalize (w.alloc (.cells #[.int .u16 (s.x.type : Nat), .int .u64 (s.x.entry : Nat), .string s.x.interp, .slice s.At s.x.text.length s.ct, .slice s.Ad s.x.data.length s.cd, .int .u64 (s.x.more : Nat), .bool s.x.dynamic, .slice s.A1 s.x.dyn.needed.length s.c1, .string s.x.dyn.soname, .string s.x.dyn.run, .slice s.A2 s.x.dyn.syms.length s.c2, .slice s.A3 s.x.dyn.relas.length s.c3, .int .i64 s.x.apart] 31)) = W1 at *
  have HBW := hide hbw
  have hW1 := unhide HE1
  have hws := hbw.size
  have hcb := ((unhide Hx) _ (hW1 ▸ hbw)).1
  clear KM HxB hbw a0 a1 a2 a3 a4 a5 a6 a7 a8 a9 a10 a11 a12
  by_cases hmay : Mk.may s.x = 0
  case neg =>
    have hmk : Mk.make s.x = ([], Mk.may s.x) := by unfold Mk.make; rw [if_pos hmay]
    have Hmk := hide hmk
    have hm1 : ((Mk.may s.x : Int) != 0) = true := by rw [bne_iff_ne]; exact hmay
    clear hmay hmk hcb
    go_wp2_with fail
    go_ret2
    refine ⟨(unhide Hb1).trans ((unhide HBW).mono (by omega)), none, 0, 0, ?_, ?_⟩
    · rw [unhide Hmk]; rfl
    · rw [unhide Hmk]; exact World.ownsRow_nil _ _ _ _
  have HM := hide (may_zero hmay)
  rw [hmay]
  have Hmay := hide hmay
  obtain ⟨a0, a1, a2, a3, a4, a5, a6, a7, a8, a9, a10, a11, a12⟩ := spec_cells hcb
  clear hmay hcb
  go_wp2_with fail
  refine ((unhide KB) _).mono ?_
  rintro e w2 ⟨rfl, rfl⟩
  rw [← unhide Hbase]
  go_wp2_with fail
  refine ((unhide KR) _).mono ?_
  rintro e w2 ⟨rfl, hb2⟩
  obtain ⟨ag, hag⟩ : ∃ ag, Value.agg #[.int .u16 (s.x.type : Nat), .int .u64 (s.x.entry : Nat), .string s.x.interp, .slice s.At s.x.text.length s.ct, .slice s.Ad s.x.data.length s.cd, .int .u64 (s.x.more : Nat), .bool s.x.dynamic, .slice s.A1 s.x.dyn.needed.length s.c1, .string s.x.dyn.soname, .string s.x.dyn.run, .slice s.A2 s.x.dyn.syms.length s.c2, .slice s.A3 s.x.dyn.relas.length s.c3, .int .i64 s.x.apart] = ag := ⟨_, rfl⟩
  rw [hag]
  clear hag
  have hB12 := (unhide HBW).trans (hb2.mono hws)
  have hs2 := hB12.size
  have HB2 := hide hB12
  obtain ⟨i, hi, hz0, hz1, hz2⟩ := info_parts byteInfo
  have Hi := hide hi
  have Hz0 := hide hz0
  have Hz1 := hide hz1
  have Hz2 := hide hz2
  clear HBW hB12 hb2 hws KR KB hi hz0 hz1 hz2 a0 a1 a2 a3 a4 a5 a6 a7 a8 a9 a10 a11 a12
  go_upto_if 49 with (at_make; refine wpList_make_full _ rfl _ _ 24 rfl W1.heap.size 5 i (.int .u8 0) 1 Tryz.underlying24 (unhide Hi) (unhide Hz0) (unhide Hz1) _ _ _ _ (64 + 56 * Mk.many s.x) rfl (by rfl) rfl (by rfl) (by rw [unhide Hz2]; omega) (by unfold maxLen; omega) hs2 ?_; intro w3 hown hgrow; have hb3 := (unhide HB2).grown hgrow hs2 (fun k hk => by cases hk); rw [zerosN] at hown; have hS := MaS.start (b0 := Mk.base s.x) hb3 hown (Mk.inRow s.x 6 64 (56 * Mk.many s.x) 8); have HS : Hid (MaS (Mk.base s.x) W1 w3.heap.size none ((w3.alloc (.cells #[.slice (some ⟨w2.heap.size, 0, none⟩) (64 + 56 * Mk.many s.x) (64 + 56 * Mk.many s.x), .int .u64 (Mk.base s.x : Nat)] 87)).alloc (.cells #[.int .u64 6, .int .u64 4, .int .u64 64, .int .u64 ((Mk.base s.x : Nat) + 64), .int .u64 (56 * (Mk.many s.x : Nat)), .int .u64 (56 * (Mk.many s.x : Nat)), .int .u64 8] 89)) (Mk.front0 s.x) (Mk.rowPhdr s.x) (some ⟨w3.heap.size + 1, 0, none⟩) 1 1) := hide hS; have y2 : ((w3.alloc (.cells #[.slice (some ⟨w2.heap.size, 0, none⟩) (64 + 56 * Mk.many s.x) (64 + 56 * Mk.many s.x), .int .u64 (Mk.base s.x : Nat)] 87)).alloc (.cells #[.int .u64 6, .int .u64 4, .int .u64 64, .int .u64 ((Mk.base s.x : Nat) + 64), .int .u64 (56 * (Mk.many s.x : Nat)), .int .u64 (56 * (Mk.many s.x : Nat)), .int .u64 8] 89)).cell? ⟨w.heap.size, 2, none⟩ = some (.string s.x.interp) := ((unhide Hx) ((w3.alloc (.cells #[.slice (some ⟨w2.heap.size, 0, none⟩) (64 + 56 * Mk.many s.x) (64 + 56 * Mk.many s.x), .int .u64 (Mk.base s.x : Nat)] 87)).alloc (.cells #[.int .u64 6, .int .u64 4, .int .u64 64, .int .u64 ((Mk.base s.x : Nat) + 64), .int .u64 (56 * (Mk.many s.x : Nat)), .int .u64 (56 * (Mk.many s.x : Nat)), .int .u64 8] 89)) (hW1 ▸ hS.below)).1.cell (i := 2) rfl; clear hown hgrow hb3 hS)
  generalize ((w3.alloc (.cells #[.slice (some ⟨w2.heap.size, 0, none⟩) (64 + 56 * Mk.many s.x) (64 + 56 * Mk.many s.x), .int .u64 (Mk.base s.x : Nat)] 87)).alloc (.cells #[.int .u64 6, .int .u64 4, .int .u64 64, .int .u64 ((Mk.base s.x : Nat) + 64), .int .u64 (56 * (Mk.many s.x : Nat)), .int .u64 (56 * (Mk.many s.x : Nat)), .int .u64 8] 89)) = w4 at *
  have Hgf := (unhide HS).hg
  generalize w3.heap.size = gf at *
  generalize (some (⟨gf + 1, 0, none⟩ : Addr)) = Al at *
  clear HB2 hs2
  obtain ⟨bi, hbi⟩ : ∃ bi, s.x.interp.toList.isEmpty = bi := ⟨_, rfl⟩
  rw [hbi]
  have Hbi := hide hbi
  clear hbi
  go_cut [8] (fun bv wx => ∃ Al nl cl, bv = .slice Al nl cl ∧ nl ≤ 2 ∧ MaS (Mk.base s.x) W1 gf none wx (Mk.front1 s.x) (Mk.rowPhdr s.x ++ Mk.rowInterp s.x) Al nl cl)
  case first =>
    cases bi
    case true =>
      have hi : s.x.interp.size = 0 := by have h9 := unhide Hbi; rw [isEmpty_toList, decide_eq_true_eq] at h9; exact h9
      have hii : Mk.isInterp s.x = false := by unfold Mk.isInterp; simp [hi]
      have He := hide (show Mk.front1 s.x = Mk.front0 s.x ∧ Mk.rowInterp s.x = [] by unfold Mk.front1 Mk.rowInterp; rw [hii]; exact ⟨rfl, rfl⟩)
      clear hi hii
      go_wp2_with fail
      go_meet
      case rel => exact ⟨Al, _, _, rfl, by omega, by rw [(unhide He).1, (unhide He).2, List.append_nil]; exact unhide HS⟩
    case false =>
      have hi : s.x.interp.size ≠ 0 := by have h9 := unhide Hbi; rw [isEmpty_toList, decide_eq_false_iff_not] at h9; exact h9
      have hii : Mk.isInterp s.x = true := by unfold Mk.isInterp; simp [hi]
      have He := hide (show Mk.front1 s.x = Mk.pad 8 (Mk.front0 s.x) ++ Mk.interpB s.x ∧ Mk.rowInterp s.x = [Mk.inRow s.x 3 (Mk.pad 8 (Mk.front0 s.x)).length (s.x.interp.size + 1) 1] by unfold Mk.front1 Mk.rowInterp; rw [hii]; exact ⟨rfl, rfl⟩)
      have hcv := run_bytes_of_string (P := Tryz.prog) w4 9 24 5 s.x.interp Tryz.underlying9 Tryz.underlying24 Tryz.underlying5
      have hm := OwnM.conv w4 s.x.interp (by unfold maxLen; omega)
      have hv1 : Below w4.heap.size w4 (w4.drew.alloc (.cells (bytesRow s.x.interp (grownCap w4 s.x.interp.size 0 5)) 5 ((bytesRow s.x.interp (grownCap w4 s.x.interp.size 0 5)).size, (bytesRow s.x.interp (grownCap w4 s.x.interp.size 0 5)).size + 1))) := (below_drew' (Below.refl _ _)).alloc (Nat.le_refl _) _
      generalize (w4.drew.alloc (.cells (bytesRow s.x.interp (grownCap w4 s.x.interp.size 0 5)) 5 ((bytesRow s.x.interp (grownCap w4 s.x.interp.size 0 5)).size, (bytesRow s.x.interp (grownCap w4 s.x.interp.size 0 5)).size + 1))) = v1 at *
      generalize grownCap w4 s.x.interp.size 0 5 = cc at *
      have hbl : Below v1.heap.size v1 (v1.alloc (.cells #[.int .u8 0] 5)) := (Below.refl _ _).alloc (Nat.le_refl _) _
      have hm1 := hm.below hbl
      have hlit : Rd (v1.alloc (.cells #[.int .u8 0] 5)) (v1.heap.size + 1) 1 (some ⟨v1.heap.size, 0, none⟩) 1 (bys [0]) := Rd.row (w := v1) rfl
      have hvs := hv1.size
      have Hm1 := hide hm1
      have Hlit := hide hlit
      have HVb := hide (hv1.trans (hbl.mono hvs))
      clear hm hm1 hlit hv1 hbl hi hii
      go_wp2_with (at_builtin; refine wpList_appM rfl _ _ rfl w4.heap.size (some ⟨w4.heap.size, 0, none⟩) s.x.interp.size cc s.x.interp.data.toList rfl (unhide Hm1) (v1.heap.size + 1) v1.heap.size 0 1 1 [0] rfl (unhide Hlit) (by omega) (by simp; omega) ?_; intro A2 c2 v2 hm2 hg2 ha2; have Hm2 := hide hm2; have Hb2 := hide ((unhide HVb).grown hg2 (by simp; omega) (fun k hk => by simp [Value.ownBlock] at hk; omega)); clear hm2 hg2 ha2)
      have hpl := pad_le 8 (by omega) (Mk.front0 s.x)
      have hfl := front0_len s.x
      have KP := hide ((unhide HS).callPut (unhide Hb2) (unhide Hm2) (by omega) (by omega) (by omega))
      clear Hm1 Hlit HVb Hm2 hvs
      refine (unhide KP).mono ?_
      rintro e v3 ⟨rfl, hS3⟩
      obtain ⟨L0, hL0⟩ : ∃ L0, (Mk.pad 8 (Mk.front0 s.x)).length = L0 := ⟨_, rfl⟩
      rw [hL0] at hpl ⊢
      have He2 := hide hL0
      have HS3 := hide hS3
      have hL : L0 ≤ 4294967296 := by omega
      have hsub : ((Mk.base s.x : Nat) : Int) + ((L0 : Nat) : Int) - ((Mk.base s.x : Nat) : Int) = ((L0 : Nat) : Int) := by omega
      clear KP hS3 hL0 hpl hfl HS Hb2
      go_wp2_with (at_builtin; refine wpList_app1g row14Ty rfl _ _ rfl W1.heap.size (.slice Al 1 1) 1 (rowC (Mk.rowPhdr s.x)) rfl (unhide HS3).row _ _ rfl (by simp) rfl (rowV_one (Mk.inRow s.x 3 L0 (s.x.interp.size + 1) 1)) (by omega) (unhide HS3).size ?_; intro A9 c9 w9 ho9 hg9 hat9; have HP := hide ((unhide HS3).push (Mk.inRow s.x 3 L0 (s.x.interp.size + 1) 1) ho9 hg9 hat9); clear ho9 hg9 hat9)
      go_meet
      case rel => exact ⟨A9, _, _, rfl, by omega, by rw [(unhide He).1, (unhide He).2, unhide He2]; exact unhide HP⟩
  case rest =>
    obtain ⟨Al, nl, cl, rfl, hnl, hS⟩ := hcut
    have hwc := hS.lt
    have hSl := hS.lay (l := zrow)
    have hcb := ((unhide Hx) _ (hW1 ▸ hSl.below)).1
    have y6 : (wc.alloc (.cells #[.int .u64 0, .int .u64 0, .int .u64 0, .int .u64 0, .int .u64 0, .int .u64 0, .int .u64 0] 89)).cell? ⟨w.heap.size, 6, none⟩ = some (.bool s.x.dynamic) := hcb.cell (i := 6) rfl
    have HS : Hid (MaS (Mk.base s.x) W1 gf (some (wc.heap.size, zrow)) (wc.alloc (.cells #[.int .u64 0, .int .u64 0, .int .u64 0, .int .u64 0, .int .u64 0, .int .u64 0, .int .u64 0] 89)) (Mk.front1 s.x) (Mk.rowPhdr s.x ++ Mk.rowInterp s.x) Al nl cl) := hide hSl
    clear hcb hSl hS Hbi y2
    go_upto_if 75 with fail
    generalize (wc.alloc (.cells #[.int .u64 0, .int .u64 0, .int .u64 0, .int .u64 0, .int .u64 0, .int .u64 0, .int .u64 0] 89)) = w5 at *
    generalize wc.heap.size = gl at *
    obtain ⟨dy, hdy⟩ : ∃ dy, s.x.dynamic = dy := ⟨_, rfl⟩
    rw [hdy]
    have Hdy := hide hdy
    have Hfr1 := hide (front1_len s.x)
    have KT : Hid (∀ W, B ≤ W.heap.size → XqM W B s → Calls Tryz.prog 37 #[.agg #[.int .u16 (s.x.type : Nat), .int .u64 (s.x.entry : Nat), .string s.x.interp, .slice s.At s.x.text.length s.ct, .slice s.Ad s.x.data.length s.cd, .int .u64 (s.x.more : Nat), .bool s.x.dynamic, .slice s.A1 s.x.dyn.needed.length s.c1, .string s.x.dyn.soname, .string s.x.dyn.run, .slice s.A2 s.x.dyn.syms.length s.c2, .slice s.A3 s.x.dyn.relas.length s.c3, .int .i64 s.x.apart]] W fun e w' => ∃ q : Tb, e = .returned (.agg q.l.toArray) ∧ TabM w' W.heap.size s.x q ∧ Below W.heap.size W w') := hide (fun W hW hx => rtables_any s B W hW hx (unhide Hf).ok ((unhide Hf).dq (unhide HM)) (unhide HM).a0 (unhide HM).a1)
    clear hdy
    go_cut [8] (fun bv wx => ∃ Al nl cl, bv = .slice Al nl cl ∧ nl ≤ 2 ∧ MaS (Mk.base s.x) W1 gf (some (gl, lastV s.x)) wx (Mk.front2 s.x) (Mk.rowPhdr s.x ++ Mk.rowInterp s.x) Al nl cl)
    case first =>
      cases dy
      case false =>
        have He := hide (show Mk.front2 s.x = Mk.front1 s.x ∧ lastV s.x = zrow by unfold Mk.front2 lastV; rw [unhide Hdy]; exact ⟨rfl, rfl⟩)
        go_wp2_with fail
        go_meet
        case rel => exact ⟨Al, nl, cl, rfl, by omega, by rw [(unhide He).1, (unhide He).2]; exact unhide HS⟩
      case true =>
        have He := hide (show Mk.front2 s.x = Mk.section_ s.x (Mk.front1 s.x) ∧ lastV s.x = rowV (Mk.inRow s.x 2 (Mk.pad 8 (Mk.front1 s.x)).length (Mk.room s.x) 8) by unfold Mk.front2 lastV; rw [unhide Hdy]; exact ⟨rfl, rfl⟩)
        have hx5 := (unhide Hx) _ (hW1 ▸ (unhide HS).below)
        obtain ⟨a0, a1, a2, a3, a4, a5, a6, a7, a8, a9, a10, a11, a12⟩ := spec_cells hx5.1
        have hs5 := (unhide HS).size
        have KT5 := hide ((unhide KT) _ (by omega) hx5.2)
        have hf0 := front0_len s.x
        have hfr1 := unhide Hfr1
        clear hx5 y6
        go_wp2_with fail
        refine (unhide KT5).mono ?_
        rintro e w6 ⟨q, rfl, hT, hb6⟩
        have KS := hide ((unhide HS).callSection hb6 hT (by omega) (by have := (unhide Hf).texts; omega) (unhide HM))
        clear hT hb6 KT5 a0 a1 a2 a3 a4 a5 a6 a7 a8 a9 a10 a11 a12
        go_wp2_with fail
        refine (unhide KS).mono ?_
        rintro e w7 ⟨rfl, hS7⟩
        have hpl := pad_le 8 (by omega) (Mk.front1 s.x)
        have hrm := room_le s.x (unhide HM).n1
        obtain ⟨L0, hL0⟩ : ∃ L0, (Mk.pad 8 (Mk.front1 s.x)).length = L0 := ⟨_, rfl⟩
        rw [hL0] at hpl ⊢
        have He2 := hide hL0
        obtain ⟨rm, hrme⟩ : ∃ rm, Mk.room s.x = rm := ⟨_, rfl⟩
        rw [hrme] at hrm ⊢
        have He3 := hide hrme
        have hbl := (hS7.last _ rfl).1
        have Hbl := hide hbl
        have HS7 := hide hS7
        have hL : L0 ≤ 4294967296 := by omega
        have hsub : ((Mk.base s.x : Nat) : Int) + ((L0 : Nat) : Int) - ((Mk.base s.x : Nat) : Int) = ((L0 : Nat) : Int) := by omega
        clear KS hS7 hL0 hpl hrme hbl HS hf0 hfr1
        go_wp2_with ((with_reducible refine (@id (wpList _ _ _ (Oper.mk none (Op.store 89 (.tmp 12) (.tmp 89)) _ _ _ none :: _) _ _) ?_)); refine wpList_store_row rfl 89 (.tmp 12) (.tmp 89) rfl gl (rowV (Mk.inRow s.x 2 L0 rm 8)).toArray rfl rfl 89 _ (unhide Hbl) row14Info rfl (rowV_all _) ?_)
        go_meet
        case rel => exact ⟨Al, _, _, rfl, by omega, by rw [(unhide He).1, (unhide He).2, unhide He2, unhide He3]; exact (unhide HS7).setLast⟩
    case rest =>
      obtain ⟨Al, nl, cl, rfl, hnl, hS⟩ := hcut
      go_step
      exact rmakeB s B w W1 wc gf gl cl Al hB Hf Hb1 hW1 Hx hb4 HM Hmay nl hnl dy Hdy hS _ _ _ _ _ _ _ _ _ _ _ _ _ _ _ _ _ _ _ _ _ _ _ _ _ _ _ _ _ _ _ _ _ _ _ _ _ _ _ _ _ _ _ _ _ _ _ _ _ _ _ _ _ _ _ _ _ _ _ _ _ _ _ _ _ _ _ _ _ _ _ _ _ _ _ _ _ _ _ _ _ _ _ _ _ _ _ _ _ _ _ _ _ _ _ _ _ _ _ _ _ _ _ _ _ _ _ _ _ _ _ _ _ _ _ _ _ _ _ _ _ _ _ _ _ _ _ _ _ _ _ _ _ _ _ _ _ _ _ _ _ _ _ _ _ _ _ _ _ _ _ _ _ _ _ _ _ _ _ _ _ _ _ _ _ _ _ _ _ _ _ _ _ _ _ _ _ _ _ _ _ _ _ _ _ _ _ _ _ _ _ _ _ _ _ _ _ _ _ _ _ _ _ _ _ _ _ _ _ _ _ _
end Go.Proofs.YtnbecdahfgkffaaGreat
