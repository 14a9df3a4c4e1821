/- Texts of the claim LawMakerMakes (MkR9c): what the functions that the statement reaches compute, and plain laws of it. Conditions: those that each theorem states. -/
import Derived.Test.YtnbecdahfgkffaaGreatMmK4
import Derived.Test.YtnbecdahfgkffaaGreatMmK5
import Derived.Deep.DeepCutAuto
import Derived.Deep.CutBlock
set_option linter.unusedVariables false
set_option linter.unusedSimpArgs false
namespace Go.Proofs.YtnbecdahfgkffaaGreat
open Go.RowKit
set_option maxRecDepth 100000 in
set_option maxHeartbeats 60000000 in
theorem rmakeC (s : Xq) (B : Nat) (w W1 wc : World) (gf gl cl : Nat) (Al : Option Addr) (hB : B ≤ w.heap.size) (Hf : Hid (MkFit s)) (Hb1 : Hid (Below w.heap.size w W1)) (hW1 : W1.heap.size = w.heap.size + 1) (Hx : Hid (∀ W, Below (w.heap.size + 1) W1 W → Blk W w.heap.size 31 s.l ∧ XqM W B s)) (hb4 : Mk.base s.x ≤ 4194304) (HM : Hid (MayOk s.x)) (Hmay : Hid (Mk.may s.x = 0))  (nf ta da o2 : Nat) (hnf : nf ≤ 100000000) (htb : ta ≤ 100010000) (hdb : da ≤ 100100000) (ho2b : o2 ≤ 102000000) (htx6 : s.x.text.length ≤ 65536) (hmo6 : s.x.more ≤ 1048576) (Hta : Hid (Mk.textAt s.x = ta)) (Hda : Hid (Mk.dataAt s.x = da)) (Hfl : Hid ((Mk.front2 s.x).length = nf)) (Ho2 : Hid ((Mk.out2 s.x).length = o2)) (hS : MaS (Mk.base s.x) W1 gf (some (gl, lastV s.x)) wc (Mk.front2 s.x) (Mk.rows s.x) Al (Mk.many s.x) cl)
    (u0 u2 u3 u4 u5 u6 u9 u10 u11 u12 u13 u14 u19 u20 u21 u22 u23 u24 u25 u26 u27 u28 u29 u30 u31 u32 u33 u34 u35 u36 u37 u38 u39 u40 u41 u42 u43 u44 u45 u46 u47 u48 u49 u50 u51 u52 u53 u54 u55 u56 u57 u58 u59 u60 u61 u62 u63 u64 u65 u66 u67 u68 u69 u70 u71 u72 u73 u74 u75 u76 u77 u78 u79 u80 u81 u82 u83 u84 u85 u86 u87 u88 u89 u90 u91 u92 u93 u94 u95 u96 u97 u98 u99 u100 u101 u102 u103 u104 u105 u106 u107 u108 u109 u110 u111 u112 u113 u114 u115 u116 u117 u118 u119 u120 u121 u122 u123 u124 u125 u126 u127 u128 u129 u130 u131 u132 u133 u134 u135 u136 u137 u138 u139 u140 u141 u142 u143 u144 u145 u146 u147 u148 u149 u150 u151 u152 u153 u154 u155 u156 u157 u158 u159 u160 u161 u162 u163 u164 u165 u166 u167 u168 u169 u170 u171 u172 u173 u174 u175 u176 u177 u178 u179 u180 u181 u182 u183 u184 u185 u186 u187 u188 u189 u190 u191 u192 u193 u194 u195 u196 u197 u198 u199 u200 u201 u202 u203 u204 u205 u206 u207 u208 u209 u210 u211 u212 u213 u214 u215 u216 : Value) :
    (dropC 18 (Tryz.f10.body.getD .skip)).wp Tryz.prog (bodyPost Tryz.prog Tryz.f10 (MkE s.x w)) ⟨#[u0, .pointer (some ⟨w.heap.size, 0, none⟩), u2, u3, u4, u5, u6, .pointer (some ⟨gf, 0, none⟩), .slice Al (Mk.many s.x) cl, u9, u10, u11, u12, u13, u14, .int .i64 (nf : Nat), .int .i64 (ta : Nat), .int .i64 (da : Nat), .int .i64 (o2 : Nat), u19, u20, u21, u22, u23, u24, u25, u26, u27, u28, u29, u30, u31, u32, u33, u34, u35, u36, u37, u38, u39, u40, u41, u42, u43, u44, u45, u46, u47, u48, u49, u50, u51, u52, u53, u54, u55, u56, u57, u58, u59, u60, u61, u62, u63, u64, u65, u66, u67, u68, u69, u70, u71, u72, u73, u74, u75, u76, u77, u78, u79, u80, u81, u82, u83, u84, u85, u86, u87, u88, u89, u90, u91, u92, u93, u94, u95, u96, u97, u98, u99, u100, u101, u102, u103, u104, u105, u106, u107, u108, u109, u110, u111, u112, u113, u114, u115, u116, u117, u118, u119, u120, u121, u122, u123, u124, u125, u126, u127, u128, u129, u130, u131, u132, u133, u134, u135, u136, u137, u138, u139, u140, u141, u142, u143, u144, u145, u146, u147, u148, u149, u150, u151, u152, u153, u154, u155, u156, u157, u158, u159, u160, u161, u162, u163, u164, u165, u166, u167, u168, u169, u170, u171, u172, u173, u174, u175, u176, u177, u178, u179, u180, u181, u182, u183, u184, u185, u186, u187, u188, u189, u190, u191, u192, u193, u194, u195, u196, u197, u198, u199, u200, u201, u202, u203, u204, u205, u206, u207, u208, u209, u210, u211, u212, u213, u214, u215, u216], []⟩ wc := by
  have hte : s.x.text.length ≤ 4294967296 := (unhide Hf).ok.text
  have hda : s.x.data.length ≤ 1048576 := (unhide Hf).data
  have hin : s.x.interp.size ≤ 1048576 := (unhide Hf).interp
  have hmo := (unhide Hf).ok.more
  have hmany := many_ge s.x
  have Hfr1 := hide (front1_len s.x)
  obtain ⟨i, hi, hz0, hz1, hz2⟩ := info_parts byteInfo
  have Hi := hide hi
  have Hz0 := hide hz0
  have Hz1 := hide hz1
  have Hz2 := hide hz2
  clear hi hz0 hz1 hz2
  have Hrl := hide (rows_len s.x)
  conv => arg 2; whnf
  obtain ⟨Af, n7, cf, hF, hd1, hd2⟩ := hS.fi
  have hfl7 := hF.len
  obtain rfl : n7 = nf := by have := unhide Hfl; omega
  have hnf3 : 100 ≤ n7 := by
    have h1 := front0_len s.x
    have h2 := (unhide Hfr1).1
    have h3 := front2_len s.x
    omega
  obtain ⟨kf, hkf, -, hkf2⟩ := own_some hF.row (by omega)
  subst hkf
  have yf := hF.cell
  have hRf : Rd wc wc.heap.size 1 (some ⟨kf, 0, none⟩) n7 (bys (Mk.front2 s.x)) := hF.rd
  have HRf := hide hRf
  have HS4 := hide hS
  clear hRf hS hF hd1 hd2 hfl7
  have Hmk : Hid (Mk.make s.x = if 65536 < n7 ∨ 65536 < o2 then ([], 12) else (Mk.file s.x, 0)) := hide (by unfold Mk.make; rw [if_neg (by rw [unhide Hmay]; decide), unhide Hfl, unhide Ho2])
  have HBw := hide ((unhide Hb1).trans ((unhide HS4).below.mono (by omega)))
  by_cases e1 : 65536 < n7
  · have e1i : (65536 : Int) < (n7 : Int) := by omega
    have Hm2 : Hid (Mk.make s.x = ([], 12)) := hide (by rw [unhide Hmk, if_pos (Or.inl e1)])
    clear e1 yf
    go_wp2_with fail
    go_ret2
    refine ⟨unhide HBw, none, 0, 0, ?_, ?_⟩
    · rw [unhide Hm2]; rfl
    · rw [unhide Hm2]; exact World.ownsRow_nil _ _ _ _
  have e1i : ¬ (65536 : Int) < (n7 : Int) := by omega
  by_cases e2 : 65536 < o2
  · have e2i : (65536 : Int) < (o2 : Int) := by omega
    have Hm2 : Hid (Mk.make s.x = ([], 12)) := hide (by rw [unhide Hmk, if_pos (Or.inr e2)])
    clear e1 e2 yf
    go_wp2_with fail
    go_ret2
    refine ⟨unhide HBw, none, 0, 0, ?_, ?_⟩
    · rw [unhide Hm2]; rfl
    · rw [unhide Hm2]; exact World.ownsRow_nil _ _ _ _
  have e2i : ¬ (65536 : Int) < (o2 : Int) := by omega
  have Hm2 : Hid (Mk.make s.x = (Mk.file s.x, 0)) := hide (by rw [unhide Hmk, if_neg (by omega)])
  have hno : n7 ≤ o2 := by
    have h1 := out1_ge s.x
    have h2 := out2_ge s.x
    have h3 := unhide Hfl
    have h4 := unhide Ho2
    omega
  clear Hmk e1 e2
  generalize wc = wr0 at *
  go_wp2_with (first
    | (at_make; refine wpList_make_full _ rfl _ _ 24 rfl wr0.heap.size 5 i (.int .u8 0) 1 Tryz.underlying24 (unhide Hi) (unhide Hz0) (unhide Hz1) _ _ _ _ o2 rfl (by rfl) rfl (by rfl) (by rw [unhide Hz2]; omega) (by unfold maxLen; omega) (Nat.le_refl _) ?_; intro w10 hown hgrow; rw [zerosN] at hown; have hb10 := (Below.refl wr0.heap.size wr0).grown hgrow (Nat.le_refl _) (fun k hk => by cases hk); have HC0 := hide (CpM.mk hb10 (Nat.le_refl _) hown); have yf2 := (unhide HC0).below.cell (p := ⟨gf, 0, none⟩) (unhide HS4).lt |>.trans yf; clear hown hgrow hb10)
    | ((with_reducible refine (@id (wpList _ _ _ (Oper.mk _ (Op.call { callee := .builtin .copy, args := _, argTypes := _ }) _ _ _ none :: _) _ _) ?_)); go_loud (refine wpList_copyB rfl _ _ rfl wr0.heap.size 0 o2 o2 wr0.heap.size o2 o2 _ _ rfl (unhide HC0).row kf 0 n7 cf wr0.heap.size rfl ((unhide HRf).below (unhide HC0).below) (by omega) (by omega) ?_; intro w11 ho11 hcs11; have HC1 := hide ((unhide HC0).copied ho11 hcs11); have hx11 := (unhide Hx) _ (hW1 ▸ ((unhide HS4).below.trans ((unhide HC1).below.mono (unhide HS4).size))); have hcells := spec_cells hx11.1; have Hxm := hide hx11.2; clear ho11 hcs11 hx11; obtain ⟨a0, a1, a2, a3, a4, a5, a6, a7, a8, a9, a10, a11, a12⟩ := hcells)))
  have hno1 : (Mk.zs o2).length = o2 := zs_len _
  have hHl := head_len s.x (Mk.rows s.x)
  rw [unhide Hrl] at hHl
  have HCb : Hid (CpM wr0 w11 wr0.heap.size o2 (Mk.blank s.x)) := hide (by
    have h1 := blank_eq s.x
    rw [unhide Ho2] at h1
    have h2 := unhide HC1
    rw [show List.replicate o2 (0 : UInt8) = Mk.zs o2 from rfl, h1] at h2
    exact h2)
  have hrok := rows_ok s.x 102000000 (by omega) (by rw [unhide Hfl]; omega) (by rw [unhide Hta]; omega) (by rw [unhide Hda]; omega) (by omega) (by omega) (by omega) (by omega) (by have := room_le s.x (unhide HM).n1; omega)
  have hRl : Rd w11 wr0.heap.size 7 Al (Mk.many s.x) (rowC (Mk.rows s.x)) := (Rd.of_own (unhide HS4).row).below (unhide HC1).below
  have hs11 : wr0.heap.size ≤ w11.heap.size := (unhide HC1).below.size
  have hm32 : Mk.many s.x ≤ 4294967296 := by omega
  have KH := hide (rheader_any s Al (Mk.many s.x) cl wr0.heap.size (Mk.rows s.x) w11 hs11 (unhide Hf).ok (unhide Hrl) hm32 hRl hrok)
  clear hrok hRl hs11 hm32 hno1 HC0 HC1 yf yf2 a0 a1 a2 a3 a4 a5 a6 a7 a8 a9 a10 a11 a12
  refine (unhide KH).mono ?_
  rintro e w12 ⟨Ah, ch, rfl, hoh, hb12⟩
  obtain ⟨kh, hkh, -, hkh2⟩ := own_some hoh (by omega)
  subst hkh
  have HRh := hide (Rd.of_own hoh)
  have HC12 := hide ((unhide HCb).calm hb12)
  have hmn : 64 + 56 * Mk.many s.x ≤ n7 := by
    have h1 := front0_len s.x
    have h2 := (unhide Hfr1).1
    have h3 := front2_len s.x
    have h4 := unhide Hfl
    omega
  clear KH hoh hb12 HCb Hxm hHl
  have hgk : w.heap.size ≠ wr0.heap.size := by have := (unhide HS4).size; omega
  go_upto_if 199 with ((with_reducible refine (@id (wpList _ _ _ (Oper.mk _ (Op.call { callee := .builtin .copy, args := _, argTypes := _ }) _ _ _ none :: _) _ _) ?_)); refine wpList_copyB rfl _ _ rfl wr0.heap.size 0 o2 o2 wr0.heap.size o2 o2 _ _ rfl (unhide HC12).row kh 0 (64 + 56 * Mk.many s.x) ch w12.heap.size rfl (unhide HRh) (by omega) (by omega) ?_; intro w13 ho13 hcs13; have HC2 := hide ((unhide HC12).copied ho13 hcs13); have hx13 := (unhide Hx) _ (hW1 ▸ ((unhide HS4).below.trans ((unhide HC2).below.mono (unhide HS4).size))); have y3 := hx13.1.cell (i := 3) rfl; have Hxm := hide hx13.2; clear ho13 hcs13 hx13)
  obtain ⟨bq, hbq⟩ : ∃ bq, decide (0 < s.x.text.length) = bq := ⟨_, rfl⟩
  rw [hbq]
  have Hbq := hide hbq
  clear hbq
  go_cut [] (fun wx => CpM wr0 wx wr0.heap.size o2 (if Mk.isText s.x = true then Mk.over (Mk.over (Mk.blank s.x) 0 (Mk.head s.x (Mk.rows s.x))) ta s.x.text else Mk.over (Mk.blank s.x) 0 (Mk.head s.x (Mk.rows s.x))))
  case first =>
    cases bq
    case false =>
      have hit : Mk.isText s.x = false := by unfold Mk.isText; exact unhide Hbq
      have He := hide hit
      clear hit
      go_wp2_with fail
      go_meet
      case rel => rw [unhide He, if_neg (by decide)]; exact unhide HC2
    case true =>
      have hit : Mk.isText s.x = true := by unfold Mk.isText; exact unhide Hbq
      have hlp : 0 < s.x.text.length := of_decide_eq_true (unhide Hbq)
      have He := hide hit
      have hfit : ta + s.x.text.length ≤ o2 := by 
        have h1 : (Mk.out1 s.x).length = Mk.textAt s.x + s.x.text.length := by unfold Mk.out1; rw [hit, if_pos rfl, List.length_append]; rfl
        have h2 := out2_ge s.x
        have h3 := unhide Ho2
        have h4 := unhide Hta
        omega
      obtain ⟨kx, ox, hA, -, -⟩ := (unhide Hxm).text.open_ (by intro e9; have h9 := congrArg List.length e9; simp only [bys, List.length_map, List.length_nil] at h9; omega)
      have hrd := (unhide Hxm).text
      rw [hA] at hrd y3
      have HRd := hide hrd
      have ks : ∀ w', (Instr.slice 24 (.slice (some ⟨wr0.heap.size, 0, none⟩) o2 o2) (some (.int .i64 (ta : Nat))) none none).run Tryz.prog w' = .ok (.slice (some ⟨wr0.heap.size, ta, none⟩) (o2 - ta) (o2 - ta)) w' := fun w' => by
        have h := run_fromK (P := Tryz.prog) Tryz.underlying24 u8sz .i64 (some ⟨wr0.heap.size, 0, none⟩) o2 o2 ta (by omega) w'
        unfold fromA at h
        rw [if_neg (by omega), Option.map_some, Addr.add_lit, Nat.zero_add] at h
        exact h
      clear hit hA hrd
      go_wp2_with fail
      refine wp_region_noPanic ?_
      refine wp_region_held_drew (S := fun W => W.cell? ⟨w.heap.size, 3, none⟩ = some (.slice (some ⟨kx, ox, none⟩) s.x.text.length s.ct)) (by kernel_rfl) y3 (fun HS0 => ?_)
      refine takeD (i := 0) (d := some 200) (v := ?_) rfl rfl (by kernel_rfl) (by kernel_rfl) (by kernel_rfl) (fun _ _ _ h => h) (Or.inl ⟨by rfl, ?y0⟩) HS0 ?_
      case y0 => (intro w' hSw; (try dsimp only at hSw); go_simp; (try with_reducible rfl))
      simp only [Act.put, List.setIfInBounds_toArray, List.set_cons_zero, List.set_cons_succ]
      refine takeD (i := 1) (d := some 201) (v := ?_) rfl rfl (by kernel_rfl) (by kernel_rfl) (by kernel_rfl) (fun _ _ _ h => h) (Or.inl ⟨by rfl, ?y1⟩) HS0 ?_
      case y1 => (intro w' hSw; (try dsimp only at hSw); go_simp; (try with_reducible rfl))
      simp only [Act.put, List.setIfInBounds_toArray, List.set_cons_zero, List.set_cons_succ]
      refine takeD (i := 2) (d := some 202) (v := .slice (some ⟨wr0.heap.size, ta, none⟩) (o2 - ta) (o2 - ta)) rfl rfl (by kernel_rfl) (by kernel_rfl) (by kernel_rfl) (fun _ _ _ h => h) (Or.inl ⟨by rfl, ?y2⟩) HS0 ?_
      case y2 => (intro w' hSw; (try dsimp only at hSw); go_simp; (try simp [ks]))
      simp only [Act.put, List.setIfInBounds_toArray, List.set_cons_zero, List.set_cons_succ]
      refine takeD (i := 3) (d := some 203) (v := ?_) rfl rfl (by kernel_rfl) (by kernel_rfl) (by kernel_rfl) (fun _ _ _ h => h) (Or.inl ⟨by rfl, ?y3⟩) HS0 ?_
      case y3 => (intro w' hSw; (try dsimp only at hSw); go_simp; (try with_reducible rfl))
      simp only [Act.put, List.setIfInBounds_toArray, List.set_cons_zero, List.set_cons_succ]
      refine takeD (i := 4) (d := some 204) (v := ?_) rfl rfl (by kernel_rfl) (by kernel_rfl) (by kernel_rfl) (fun _ _ _ h => h) (Or.inl ⟨by rfl, ?y4⟩) HS0 ?_
      case y4 => (intro w' hSw; (try dsimp only at hSw); go_simp; (try with_reducible rfl))
      simp only [Act.put, List.setIfInBounds_toArray, List.set_cons_zero, List.set_cons_succ]
      refine wpAnyH_ready (rs := [5]) (by kernel_rfl) (by simp) ?_
      refine AllReadyH.cons (i := 5) rfl (fun K hK => ?_) AllReadyH.nil
      rw [if_pos (by rfl)]
      refine wp_copyB (.tmp 202) (.tmp 204) rfl wr0.heap.size ta (o2 - ta) (o2 - ta) wr0.heap.size o2 o2 _ _ rfl (unhide HC2).row kx ox s.x.text.length s.ct B rfl (unhide HRd) (by omega) (by omega) ?_
      rintro w19 ho19 hcs
      have HC9 := hide ((unhide HC2).drew1.copied ho19 hcs)
      obtain ⟨cs, rfl⟩ := hcs
      show K (Act.put _ (some 205) _) _
      refine hK.out _ _ (by exact (cell_blk (setRow_other _ wr0.heap.size w.heap.size cs hgk) 3).trans y3) (fun hHeld => ?_)
      clear hK K HS0 ho19
      have HS0 := hHeld
      clear hHeld
      (try simp only [Act.put, List.setIfInBounds_toArray, List.set_cons_zero, List.set_cons_succ])
      refine wpAnyH_done (by kernel_rfl) ?_ _
      refine NoPanic.normal ?_
      clear HS0 y3 ks
      go_wp2_with fail
      go_meet
      case rel => rw [unhide He, if_pos rfl]; first | exact unhide HC9 | exact (unhide HC9).drew1
  case rest =>
    have HC3 := hide hcut
    have hx14 := (unhide Hx) _ (hW1 ▸ ((unhide HS4).below.trans (hcut.below.mono (unhide HS4).size)))
    have y4 := hx14.1.cell (i := 4) rfl
    have Hxm := hide hx14.2
    clear hx14 hcut HC2 y3 Hbq
    go_upto_if 209 with fail
    obtain ⟨bq, hbq⟩ : ∃ bq, decide (0 < s.x.data.length) = bq := ⟨_, rfl⟩
    rw [hbq]
    have Hbq := hide hbq
    clear hbq
    go_cut [] (fun wx => CpM wr0 wx wr0.heap.size o2 (if decide (0 < s.x.data.length) = true then Mk.over (if Mk.isText s.x = true then Mk.over (Mk.over (Mk.blank s.x) 0 (Mk.head s.x (Mk.rows s.x))) ta s.x.text else Mk.over (Mk.blank s.x) 0 (Mk.head s.x (Mk.rows s.x))) da s.x.data else if Mk.isText s.x = true then Mk.over (Mk.over (Mk.blank s.x) 0 (Mk.head s.x (Mk.rows s.x))) ta s.x.text else Mk.over (Mk.blank s.x) 0 (Mk.head s.x (Mk.rows s.x))))
    case first =>
      cases bq
      case false =>
        have hit : decide (0 < s.x.data.length) = false := by exact unhide Hbq
        have He := hide hit
        clear hit
        go_wp2_with fail
        go_meet
        case rel => rw [unhide He, if_neg (by decide)]; exact unhide HC3
      case true =>
        have hit : decide (0 < s.x.data.length) = true := by exact unhide Hbq
        have hlp : 0 < s.x.data.length := of_decide_eq_true (unhide Hbq)
        have He := hide hit
        have hfit : da + s.x.data.length ≤ o2 := by 
          have h0 : Mk.isData s.x = true := by unfold Mk.isData; rw [decide_eq_true (of_decide_eq_true (unhide Hbq))]; rfl
          have h1 : (Mk.out2 s.x).length = Mk.dataAt s.x + s.x.data.length := by unfold Mk.out2; rw [h0, if_pos rfl, List.length_append]; rfl
          have h3 := unhide Ho2
          have h4 := unhide Hda
          omega
        obtain ⟨kx, ox, hA, -, -⟩ := (unhide Hxm).data.open_ (by intro e9; have h9 := congrArg List.length e9; simp only [bys, List.length_map, List.length_nil] at h9; omega)
        have hrd := (unhide Hxm).data
        rw [hA] at hrd y4
        have HRd := hide hrd
        have ks : ∀ w', (Instr.slice 24 (.slice (some ⟨wr0.heap.size, 0, none⟩) o2 o2) (some (.int .i64 (da : Nat))) none none).run Tryz.prog w' = .ok (.slice (some ⟨wr0.heap.size, da, none⟩) (o2 - da) (o2 - da)) w' := fun w' => by
          have h := run_fromK (P := Tryz.prog) Tryz.underlying24 u8sz .i64 (some ⟨wr0.heap.size, 0, none⟩) o2 o2 da (by omega) w'
          unfold fromA at h
          rw [if_neg (by omega), Option.map_some, Addr.add_lit, Nat.zero_add] at h
          exact h
        clear hit hA hrd
        go_wp2_with fail
        refine wp_region_noPanic ?_
        refine wp_region_held_drew (S := fun W => W.cell? ⟨w.heap.size, 4, none⟩ = some (.slice (some ⟨kx, ox, none⟩) s.x.data.length s.cd)) (by kernel_rfl) y4 (fun HS0 => ?_)
        refine takeD (i := 0) (d := some 210) (v := ?_) rfl rfl (by kernel_rfl) (by kernel_rfl) (by kernel_rfl) (fun _ _ _ h => h) (Or.inl ⟨by rfl, ?y0⟩) HS0 ?_
        case y0 => (intro w' hSw; (try dsimp only at hSw); go_simp; (try with_reducible rfl))
        simp only [Act.put, List.setIfInBounds_toArray, List.set_cons_zero, List.set_cons_succ]
        refine takeD (i := 1) (d := some 211) (v := ?_) rfl rfl (by kernel_rfl) (by kernel_rfl) (by kernel_rfl) (fun _ _ _ h => h) (Or.inl ⟨by rfl, ?y1⟩) HS0 ?_
        case y1 => (intro w' hSw; (try dsimp only at hSw); go_simp; (try with_reducible rfl))
        simp only [Act.put, List.setIfInBounds_toArray, List.set_cons_zero, List.set_cons_succ]
        refine takeD (i := 2) (d := some 212) (v := .slice (some ⟨wr0.heap.size, da, none⟩) (o2 - da) (o2 - da)) rfl rfl (by kernel_rfl) (by kernel_rfl) (by kernel_rfl) (fun _ _ _ h => h) (Or.inl ⟨by rfl, ?y2⟩) HS0 ?_
        case y2 => (intro w' hSw; (try dsimp only at hSw); go_simp; (try simp [ks]))
        simp only [Act.put, List.setIfInBounds_toArray, List.set_cons_zero, List.set_cons_succ]
        refine takeD (i := 3) (d := some 213) (v := ?_) rfl rfl (by kernel_rfl) (by kernel_rfl) (by kernel_rfl) (fun _ _ _ h => h) (Or.inl ⟨by rfl, ?y3⟩) HS0 ?_
        case y3 => (intro w' hSw; (try dsimp only at hSw); go_simp; (try with_reducible rfl))
        simp only [Act.put, List.setIfInBounds_toArray, List.set_cons_zero, List.set_cons_succ]
        refine takeD (i := 4) (d := some 214) (v := ?_) rfl rfl (by kernel_rfl) (by kernel_rfl) (by kernel_rfl) (fun _ _ _ h => h) (Or.inl ⟨by rfl, ?y4⟩) HS0 ?_
        case y4 => (intro w' hSw; (try dsimp only at hSw); go_simp; (try with_reducible rfl))
        simp only [Act.put, List.setIfInBounds_toArray, List.set_cons_zero, List.set_cons_succ]
        refine wpAnyH_ready (rs := [5]) (by kernel_rfl) (by simp) ?_
        refine AllReadyH.cons (i := 5) rfl (fun K hK => ?_) AllReadyH.nil
        rw [if_pos (by rfl)]
        refine wp_copyB (.tmp 212) (.tmp 214) rfl wr0.heap.size da (o2 - da) (o2 - da) wr0.heap.size o2 o2 _ _ rfl (unhide HC3).row kx ox s.x.data.length s.cd B rfl (unhide HRd) (by omega) (by omega) ?_
        rintro w19 ho19 hcs
        have HC9 := hide ((unhide HC3).drew1.copied ho19 hcs)
        obtain ⟨cs, rfl⟩ := hcs
        show K (Act.put _ (some 215) _) _
        refine hK.out _ _ (by exact (cell_blk (setRow_other _ wr0.heap.size w.heap.size cs hgk) 4).trans y4) (fun hHeld => ?_)
        clear hK K HS0 ho19
        have HS0 := hHeld
        clear hHeld
        (try simp only [Act.put, List.setIfInBounds_toArray, List.set_cons_zero, List.set_cons_succ])
        refine wpAnyH_done (by kernel_rfl) ?_ _
        refine NoPanic.normal ?_
        clear HS0 y4 ks
        go_wp2_with fail
        go_meet
        case rel => rw [unhide He, if_pos rfl]; first | exact unhide HC9 | exact (unhide HC9).drew1
    case rest =>
      have HC4 := hide hcut
      clear hcut
      go_wp2_with fail
      go_ret2
      have hcp := copies_eq s.x (Mk.head s.x (Mk.rows s.x)) (by rw [head_len, unhide Hrl, unhide Hfl]; exact hmn)
      rw [unhide Hta, unhide Hda, isData_if] at hcp
      have h9 := unhide HC4
      rw [hcp] at h9
      refine ⟨(unhide HBw).trans (h9.below.mono ?_), some ⟨wr0.heap.size, 0, none⟩, o2, o2, ?_, ?_⟩
      · have := (unhide HS4).size; omega
      · rw [unhide Hm2]; rfl
      · rw [unhide Hm2]; exact own_base h9.row (by have := (unhide HS4).size; omega)
end Go.Proofs.YtnbecdahfgkffaaGreat
