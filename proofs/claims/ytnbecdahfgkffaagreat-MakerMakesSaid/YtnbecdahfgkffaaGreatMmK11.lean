/- Texts of the claim LawMakerMakes (MkR9d): what the functions that the statement reaches compute, and plain laws of it. Conditions: those that each theorem states. -/
import Derived.Test.YtnbecdahfgkffaaGreatMmK10
import Derived.Test.YtnbecdahfgkffaaGreatMmK4
import Derived.Test.YtnbecdahfgkffaaGreatMmK6
import Derived.Test.YtnbecdahfgkffaaGreatMmK5
import Derived.Deep.DeepCutAuto
import Derived.Deep.CutBlock
set_option linter.unusedVariables false
set_option linter.unusedSimpArgs false
namespace Go.Proofs.YtnbecdahfgkffaaGreat
open Go.RowKit
set_option maxRecDepth 100000 in
set_option maxHeartbeats 60000000 in
theorem rmakeB (s : Xq) (B : Nat) (w W1 wc : World) (gf gl cl : Nat) (Al : Option Addr) (hB : B ≤ w.heap.size) (Hf : Hid (MkFit s)) (Hb1 : Hid (Below w.heap.size w W1)) (hW1 : W1.heap.size = w.heap.size + 1) (Hx : Hid (∀ W, Below (w.heap.size + 1) W1 W → Blk W w.heap.size 31 s.l ∧ XqM W B s)) (hb4 : Mk.base s.x ≤ 4194304) (HM : Hid (MayOk s.x)) (Hmay : Hid (Mk.may s.x = 0))  (nl : Nat) (hnl : nl ≤ 2) (dy : Bool) (Hdy : Hid (s.x.dynamic = dy)) (hS : MaS (Mk.base s.x) W1 gf (some (gl, lastV s.x)) wc (Mk.front2 s.x) (Mk.rowPhdr s.x ++ Mk.rowInterp s.x) Al nl cl)
    (u0 u2 u3 u4 u6 u9 u10 u11 u13 u14 u15 u16 u17 u18 u19 u20 u21 u22 u23 u24 u25 u26 u27 u28 u29 u30 u31 u32 u33 u34 u35 u36 u37 u38 u39 u40 u41 u42 u43 u44 u45 u46 u47 u48 u49 u50 u51 u52 u53 u54 u55 u56 u57 u58 u59 u60 u61 u62 u63 u64 u65 u66 u67 u68 u69 u70 u71 u72 u73 u74 u75 u76 u77 u78 u79 u80 u81 u82 u83 u84 u85 u86 u87 u88 u89 u90 u91 u92 u93 u94 u95 u96 u97 u98 u99 u100 u101 u102 u103 u104 u105 u106 u107 u108 u109 u110 u111 u112 u113 u114 u115 u116 u117 u118 u119 u120 u121 u122 u123 u124 u125 u126 u127 u128 u129 u130 u131 u132 u133 u134 u135 u136 u137 u138 u139 u140 u141 u142 u143 u144 u145 u146 u147 u148 u149 u150 u151 u152 u153 u154 u155 u156 u157 u158 u159 u160 u161 u162 u163 u164 u165 u166 u167 u168 u169 u170 u171 u172 u173 u174 u175 u176 u177 u178 u179 u180 u181 u182 u183 u184 u185 u186 u187 u188 u189 u190 u191 u192 u193 u194 u195 u196 u197 u198 u199 u200 u201 u202 u203 u204 u205 u206 u207 u208 u209 u210 u211 u212 u213 u214 u215 u216 : Value) :
    (dropC 10 (Tryz.f10.body.getD .skip)).wp Tryz.prog (bodyPost Tryz.prog Tryz.f10 (MkE s.x w)) ⟨#[u0, .pointer (some ⟨w.heap.size, 0, none⟩), u2, u3, u4, .int .u64 (Mk.base s.x : Nat), u6, .pointer (some ⟨gf, 0, none⟩), .slice Al nl cl, u9, u10, u11, .pointer (some ⟨gl, 0, none⟩), u13, u14, u15, u16, u17, u18, u19, u20, u21, u22, u23, u24, u25, u26, u27, u28, u29, u30, u31, u32, u33, u34, u35, u36, u37, u38, u39, u40, u41, u42, u43, u44, u45, u46, u47, u48, u49, u50, u51, u52, u53, u54, u55, u56, u57, u58, u59, u60, u61, u62, u63, u64, u65, u66, u67, u68, u69, u70, u71, u72, u73, u74, u75, u76, u77, u78, u79, u80, u81, u82, u83, u84, u85, u86, u87, u88, u89, u90, u91, u92, u93, u94, u95, u96, u97, u98, u99, u100, u101, u102, u103, u104, u105, u106, u107, u108, u109, u110, u111, u112, u113, u114, u115, u116, u117, u118, u119, u120, u121, u122, u123, u124, u125, u126, u127, u128, u129, u130, u131, u132, u133, u134, u135, u136, u137, u138, u139, u140, u141, u142, u143, u144, u145, u146, u147, u148, u149, u150, u151, u152, u153, u154, u155, u156, u157, u158, u159, u160, u161, u162, u163, u164, u165, u166, u167, u168, u169, u170, u171, u172, u173, u174, u175, u176, u177, u178, u179, u180, u181, u182, u183, u184, u185, u186, u187, u188, u189, u190, u191, u192, u193, u194, u195, u196, u197, u198, u199, u200, u201, u202, u203, u204, u205, u206, u207, u208, u209, u210, u211, u212, u213, u214, u215, u216], []⟩ wc := by
  have hte : s.x.text.length ≤ 4294967296 := (unhide Hf).ok.text
  have hda : s.x.data.length ≤ 1048576 := (unhide Hf).data
  have hin : s.x.interp.size ≤ 1048576 := (unhide Hf).interp
  have hmo := (unhide Hf).ok.more
  have hmany := many_ge s.x
  have Hfr1 := hide (front1_len s.x)
  obtain ⟨i, hi, hz0, hz1, hz2⟩ := info_parts byteInfo
  have Hi := hide hi
  have Hz0 := hide hz0
  have Hz1 := hide hz1
  have Hz2 := hide hz2
  clear hi hz0 hz1 hz2
  conv => arg 2; whnf
  have hcb := ((unhide Hx) _ (hW1 ▸ hS.below)).1
  have y3 := hcb.cell (i := 3) rfl
  obtain ⟨Af, nf, cf, hF, hd1, hd2⟩ := hS.fi
  have yf : wc.cell? ⟨gf, 0, none⟩ = some (.slice Af nf cf) := hF.cell
  have hfl : (Mk.front2 s.x).length = nf := hF.len
  have hT := (unhide Hf).texts
  have hnf : nf ≤ 100000000 := by
    have h1 := front2_le s.x (unhide HM) 16777216 hT
    have h2 := (unhide Hfr1).2
    have h3 := front0_len s.x
    omega
  have htx6 : s.x.text.length ≤ 65536 := (unhide HM).text
  have hmo6 : s.x.more ≤ 1048576 := (unhide HM).more
  obtain ⟨ta, hta⟩ : ∃ ta, Mk.textAt s.x = ta := ⟨_, rfl⟩
  obtain ⟨da, hda⟩ : ∃ da, Mk.dataAt s.x = da := ⟨_, rfl⟩
  have htu : (nf + 4095) / 4096 * 4096 = ta := by rw [← hta, text_up, hfl]
  have hdu : (ta + s.x.text.length + 4095) / 4096 * 4096 = da := by rw [← hda, data_up, hta]
  have htb : ta ≤ 100010000 := by omega
  have hdb : da ≤ 100100000 := by omega
  have KU1 := hide (fun W => rup_any nf W (by omega))
  have KU2 := hide (fun W => rup_any (ta + s.x.text.length) W (by omega))
  rw [htu] at KU1
  rw [hdu] at KU2
  have Hta := hide hta
  have Hda := hide hda
  have Hfl := hide hfl
  have HS := hide hS
  clear hcb hF hd1 hd2 hfl hT hta hda htu hdu hS
  go_wp2_with fail
  refine ((unhide KU1) _).mono ?_
  rintro e w5 ⟨rfl, rfl⟩
  go_wp2_with fail
  refine ((unhide KU2) _).mono ?_
  rintro e w5 ⟨rfl, rfl⟩
  clear KU1 KU2 yf y3
  go_upto_if 116 with (at_builtin; refine wpList_app1g row14Ty rfl _ _ rfl W1.heap.size (.slice Al nl cl) nl (rowC (Mk.rowPhdr s.x ++ Mk.rowInterp s.x)) rfl (unhide HS).row _ _ rfl (by simp) rfl (rowV_one (Mk.inRow s.x 1 0 nf 4096)) (by omega) (unhide HS).size ?_; intro A9 c9 w9 ho9 hg9 hat9; have HP := hide ((unhide HS).push (Mk.inRow s.x 1 0 nf 4096) ho9 hg9 hat9); clear ho9 hg9 hat9; have y3 := ((unhide Hx) _ (hW1 ▸ (unhide HP).below)).1.cell (i := 3) rfl)
  have HP1 : Hid (MaS (Mk.base s.x) W1 gf (some (gl, lastV s.x)) w9 (Mk.front2 s.x) (Mk.rowPhdr s.x ++ Mk.rowInterp s.x ++ Mk.rowFirst s.x) A9 (nl + 1) c9) := hide (by have h9 := unhide HP; rw [← unhide Hfl] at h9; exact h9)
  obtain ⟨bt, hbt⟩ : ∃ bt, decide (0 < s.x.text.length) = bt := ⟨_, rfl⟩
  rw [hbt]
  have Hbt := hide hbt
  clear HP hbt HS
  go_cut [8, 18] (fun bv ev wx => ∃ Al nl cl, bv = .slice Al nl cl ∧ nl ≤ 4 ∧ ev = .int .i64 ((Mk.out1 s.x).length : Nat) ∧ MaS (Mk.base s.x) W1 gf (some (gl, lastV s.x)) wx (Mk.front2 s.x) (Mk.rowPhdr s.x ++ Mk.rowInterp s.x ++ Mk.rowFirst s.x ++ Mk.rowText s.x) Al nl cl)
  case first =>
    cases bt
    case false =>
      have hit : Mk.isText s.x = false := by
        unfold Mk.isText
        have h9 := unhide Hbt
        rw [decide_eq_false_iff_not] at h9 ⊢
        omega
      have He := hide (show Mk.out1 s.x = Mk.front2 s.x ∧ Mk.rowText s.x = [] by unfold Mk.out1 Mk.rowText; rw [hit]; exact ⟨rfl, rfl⟩)
      clear hit
      go_wp2_with fail
      go_meet
      case rel => exact ⟨A9, _, c9, rfl, by omega, by rw [(unhide He).1, unhide Hfl], by rw [(unhide He).2, List.append_nil]; exact unhide HP1⟩
    case true =>
      have hit : Mk.isText s.x = true := by
        unfold Mk.isText
        have h9 := unhide Hbt
        rw [decide_eq_true_eq] at h9 ⊢
        omega
      have He := hide (show (Mk.out1 s.x).length = ta + s.x.text.length ∧ Mk.rowText s.x = [⟨1, 5, ta, Mk.base s.x + 65536, s.x.text.length, s.x.text.length, 4096⟩] by unfold Mk.out1 Mk.rowText; rw [hit, if_pos rfl, if_pos rfl, List.length_append]; exact ⟨by rw [← unhide Hta]; rfl, by rw [← unhide Hta]; rfl⟩)
      clear hit
      go_wp2_with (at_builtin; refine wpList_app1g row14Ty rfl _ _ rfl W1.heap.size (.slice A9 (nl + 1) c9) (nl + 1) (rowC (Mk.rowPhdr s.x ++ Mk.rowInterp s.x ++ Mk.rowFirst s.x)) rfl (unhide HP1).row _ _ rfl (by simp) rfl (rowV_one ((⟨1, 5, ta, Mk.base s.x + 65536, s.x.text.length, s.x.text.length, 4096⟩ : Mk.Row))) (by omega) (unhide HP1).size ?_; intro A9 c9 w9 ho9 hg9 hat9; have HP := hide ((unhide HP1).push ((⟨1, 5, ta, Mk.base s.x + 65536, s.x.text.length, s.x.text.length, 4096⟩ : Mk.Row)) ho9 hg9 hat9); clear ho9 hg9 hat9; have y3 := ((unhide Hx) _ (hW1 ▸ (unhide HP).below)).1.cell (i := 3) rfl)
      go_meet
      case rel => exact ⟨A9, _, _, rfl, by omega, by rw [(unhide He).1]; rfl, by rw [(unhide He).2]; exact unhide HP⟩
  case rest =>
    obtain ⟨Al, nl, cl, rfl, hnl2, rfl, hS⟩ := hcut
    have hcb := ((unhide Hx) _ (hW1 ▸ hS.below)).1
    have y4 := hcb.cell (i := 4) rfl
    have y5 := hcb.cell (i := 5) rfl
    have HS2 := hide hS
    obtain ⟨o1, ho1⟩ : ∃ o1, (Mk.out1 s.x).length = o1 := ⟨_, rfl⟩
    rw [ho1]
    have ho1b : o1 ≤ 100100000 := by
      have h1 := data_up s.x
      have h2 : Mk.dataAt s.x = (Mk.pad 4096 (Mk.out1 s.x)).length := rfl
      rw [pad_len] at h2
      have h3 := unhide Hda
      omega
    have Ho1 := hide ho1
    have Hda4 := hide (show (s.x.data.length : Int) ≤ 1048576 by omega)
    clear hcb hS ho1 y3 HP1 Hbt
    go_upto_region 26 with fail
    go_cut [146] (fun v wx => v = .bool (Mk.isData s.x) ∧ wx = wc)
    case first =>
      by_cases c1 : 0 < s.x.data.length
      · have c1i : decide (0 < s.x.data.length) = true := decide_eq_true c1
        have He := hide (show Mk.isData s.x = true by unfold Mk.isData; simp [c1])
        clear c1
        go_wp2_with fail
        go_meet
        case rel => exact ⟨by rw [unhide He], rfl⟩
      · have c1i : decide (0 < s.x.data.length) = false := decide_eq_false c1
        by_cases c2 : 0 < s.x.more
        · have c2i : decide (0 < s.x.more) = true := decide_eq_true c2
          have He := hide (show Mk.isData s.x = true by unfold Mk.isData; simp [c2])
          clear c1 c2
          go_wp2_with fail
          go_meet
          case rel => exact ⟨by rw [unhide He], rfl⟩
        · have c2i : decide (0 < s.x.more) = false := decide_eq_false c2
          have He := hide (show Mk.isData s.x = false by unfold Mk.isData; simp [c1, c2])
          clear c1 c2
          go_wp2_with fail
          go_meet
          case rel => exact ⟨by rw [unhide He], rfl⟩
    case rest =>
      obtain ⟨rfl, rfl⟩ := hcut
      obtain ⟨bd, hbd⟩ : ∃ bd, Mk.isData s.x = bd := ⟨_, rfl⟩
      rw [hbd]
      have Hbd := hide hbd
      clear hbd
      go_upto_if 146 with fail
      go_cut [8, 18] (fun bv ev wx => ∃ Al nl cl, bv = .slice Al nl cl ∧ nl ≤ 5 ∧ ev = .int .i64 ((Mk.out2 s.x).length : Nat) ∧ MaS (Mk.base s.x) W1 gf (some (gl, lastV s.x)) wx (Mk.front2 s.x) (Mk.rowPhdr s.x ++ Mk.rowInterp s.x ++ Mk.rowFirst s.x ++ Mk.rowText s.x ++ Mk.rowData s.x) Al nl cl)
      case first =>
        cases bd
        case false =>
          have He := hide (show Mk.out2 s.x = Mk.out1 s.x ∧ Mk.rowData s.x = [] by unfold Mk.out2 Mk.rowData; rw [unhide Hbd]; exact ⟨rfl, rfl⟩)
          go_wp2_with fail
          go_meet
          case rel => exact ⟨Al, _, cl, rfl, by omega, by rw [(unhide He).1, unhide Ho1], by rw [(unhide He).2, List.append_nil]; exact unhide HS2⟩
        case true =>
          have He := hide (show (Mk.out2 s.x).length = da + s.x.data.length ∧ Mk.rowData s.x = [⟨1, 6, da, Mk.base s.x + 131072, s.x.data.length, s.x.data.length + s.x.more, 4096⟩] by unfold Mk.out2 Mk.rowData; rw [unhide Hbd, if_pos rfl, if_pos rfl, List.length_append]; exact ⟨by rw [← unhide Hda]; rfl, by rw [← unhide Hda]; rfl⟩)
          go_wp2_with (at_builtin; refine wpList_app1g row14Ty rfl _ _ rfl W1.heap.size (.slice Al nl cl) nl (rowC (Mk.rowPhdr s.x ++ Mk.rowInterp s.x ++ Mk.rowFirst s.x ++ Mk.rowText s.x)) rfl (unhide HS2).row _ _ rfl (by simp) rfl (rowV_one ((⟨1, 6, da, Mk.base s.x + 131072, s.x.data.length, s.x.data.length + s.x.more, 4096⟩ : Mk.Row))) (by omega) (unhide HS2).size ?_; intro A9 c9 w9 ho9 hg9 hat9; have HP := hide ((unhide HS2).push ((⟨1, 6, da, Mk.base s.x + 131072, s.x.data.length, s.x.data.length + s.x.more, 4096⟩ : Mk.Row)) ho9 hg9 hat9); clear ho9 hg9 hat9; have y4 := ((unhide Hx) _ (hW1 ▸ (unhide HP).below)).1.cell (i := 4) rfl)
          go_meet
          case rel => exact ⟨A9, _, _, rfl, by omega, by rw [(unhide He).1]; rfl, by rw [(unhide He).2]; exact unhide HP⟩
      case rest =>
        obtain ⟨Al, nl, cl, rfl, hnl3, rfl, hS⟩ := hcut
        have hcb := ((unhide Hx) _ (hW1 ▸ hS.below)).1
        have y6 := hcb.cell (i := 6) rfl
        rw [unhide Hdy] at y6
        have HS3 := hide hS
        obtain ⟨o2, ho2⟩ : ∃ o2, (Mk.out2 s.x).length = o2 := ⟨_, rfl⟩
        rw [ho2]
        have ho2b : o2 ≤ 102000000 := by
          have h1 := out2_len s.x
          rw [ho2] at h1
          have h2 := unhide Hda
          have h3 := unhide Hta
          have h4 := unhide Hfl
          split at h1
          · omega
          · split at h1 <;> omega
        have Ho2 := hide ho2
        have Hrl := hide (rows_len s.x)
        clear hcb hS ho2 y4 y5 HS2 Hbd
        go_upto_if 172 with fail
        go_cut [8] (fun bv wx => ∃ Al cl, bv = .slice Al (Mk.many s.x) cl ∧ MaS (Mk.base s.x) W1 gf (some (gl, lastV s.x)) wx (Mk.front2 s.x) (Mk.rows s.x) Al (Mk.many s.x) cl)
        case first =>
          cases dy
          case false =>
            have He : Hid (Mk.rows s.x = Mk.rowPhdr s.x ++ Mk.rowInterp s.x ++ Mk.rowFirst s.x ++ Mk.rowText s.x ++ Mk.rowData s.x) := hide (by unfold Mk.rows Mk.rowDyn; rw [unhide Hdy, if_neg (by decide), List.append_nil])
            have hnq : nl = Mk.many s.x := by rw [← unhide Hrl, unhide He]; exact (unhide HS3).len
            subst hnq
            go_wp2_with fail
            go_meet
            case rel => exact ⟨Al, cl, rfl, by rw [unhide He]; exact unhide HS3⟩
          case true =>
            have hr := lastV_dyn (unhide Hdy)
            obtain ⟨rd, hrd⟩ : ∃ rd, Mk.inRow s.x 2 (Mk.pad 8 (Mk.front1 s.x)).length (Mk.room s.x) 8 = rd := ⟨_, rfl⟩
            rw [hrd] at hr
            have He : Hid (Mk.rows s.x = Mk.rowPhdr s.x ++ Mk.rowInterp s.x ++ Mk.rowFirst s.x ++ Mk.rowText s.x ++ Mk.rowData s.x ++ [rd]) := hide (by unfold Mk.rows Mk.rowDyn; rw [unhide Hdy, if_pos rfl, hrd])
            have hnq : Mk.many s.x = nl + 1 := by rw [← unhide Hrl, unhide He, List.length_append]; exact congrArg (· + 1) (unhide HS3).len.symm
            have Hnq := hide hnq
            have hbl := ((unhide HS3).last _ rfl).1
            rw [hr] at hbl
            have z0 := hbl.cell (i := 0) rfl
            have z1 := hbl.cell (i := 1) rfl
            have z2 := hbl.cell (i := 2) rfl
            have z3 := hbl.cell (i := 3) rfl
            have z4 := hbl.cell (i := 4) rfl
            have z5 := hbl.cell (i := 5) rfl
            have z6 := hbl.cell (i := 6) rfl
            clear hbl hr hrd hnq
            go_wp2_with (at_builtin; refine wpList_app1g row14Ty rfl _ _ rfl W1.heap.size (.slice Al nl cl) nl (rowC (Mk.rowPhdr s.x ++ Mk.rowInterp s.x ++ Mk.rowFirst s.x ++ Mk.rowText s.x ++ Mk.rowData s.x)) rfl (unhide HS3).row _ _ rfl (by simp) rfl (rowV_one (rd)) (by omega) (unhide HS3).size ?_; intro A9 c9 w9 ho9 hg9 hat9; have HP := hide ((unhide HS3).push (rd) ho9 hg9 hat9); clear ho9 hg9 hat9)
            go_meet
            case rel => exact ⟨A9, c9, by rw [unhide Hnq], by rw [unhide He, unhide Hnq]; exact unhide HP⟩
        case rest =>
          obtain ⟨Al, cl, rfl, hS⟩ := hcut
          go_step
          exact rmakeC s B w W1 wc gf gl cl Al hB Hf Hb1 hW1 Hx hb4 HM Hmay nf ta da o2 hnf htb hdb ho2b htx6 hmo6 Hta Hda Hfl Ho2 hS _ _ _ _ _ _ _ _ _ _ _ _ _ _ _ _ _ _ _ _ _ _ _ _ _ _ _ _ _ _ _ _ _ _ _ _ _ _ _ _ _ _ _ _ _ _ _ _ _ _ _ _ _ _ _ _ _ _ _ _ _ _ _ _ _ _ _ _ _ _ _ _ _ _ _ _ _ _ _ _ _ _ _ _ _ _ _ _ _ _ _ _ _ _ _ _ _ _ _ _ _ _ _ _ _ _ _ _ _ _ _ _ _ _ _ _ _ _ _ _ _ _ _ _ _ _ _ _ _ _ _ _ _ _ _ _ _ _ _ _ _ _ _ _ _ _ _ _ _ _ _ _ _ _ _ _ _ _ _ _ _ _ _ _ _ _ _ _ _ _ _ _ _ _ _ _ _ _ _ _ _ _ _ _ _ _ _ _ _ _ _ _ _ _ _ _ _ _ _ _ _ _ _ _ _ _ _ _ _ _
end Go.Proofs.YtnbecdahfgkffaaGreat
