/- Texts of the claim LawMakerSymbols (MkP19): what the functions that the statement reaches compute, and plain laws of it. Conditions: those that each theorem states. -/
import Derived.Test.YtnbecdahfgkffaaGreatMsK5
import Derived.Laws.EntriesVeiled
import Derived.Deep.DeepCutAuto
import Derived.Deep.CutBlock
set_option linter.unusedVariables false
set_option linter.unusedSimpArgs false
namespace Go.Proofs.YtnbecdahfgkffaaGreat
open Go.RowKit
set_option maxRecDepth 100000 in
set_option maxHeartbeats 60000000 in
theorem pmakeB (s : Xq) (gF gl gx nf cf cl B : Nat) (Af Al : Option Addr) (rs : List Mk.Row) (H : List (Nat × TypeId × List Value)) (w wc : World) (hB : B ≤ w.heap.size) (hx : XqM w B s)
    (h : PmS gF gl w wc Af nf cf (Mk.front1 s.x) Al cl rs H none 0 0 []) (hgx : (gx, 66, s.l) ∈ H) (hrs : rs = Mk.rowPhdr s.x ++ Mk.rowInterp s.x)
    (hmay : Mk.may s.x = 0) (hf : MkFit s) (hm : MayOk s.x)
    (u0 u1 u2 u3 u5 u6 u7 u8 u12 u13 u14 u15 u16 u17 u18 u19 u20 u21 u22 u23 u24 u25 u26 u27 u28 u29 u30 u31 u32 u33 u34 u35 u36 u37 u38 u39 u40 u41 u42 u43 u44 u45 u46 u47 u48 u49 u50 u51 u52 u53 u54 u55 u56 u57 u58 u59 u60 u61 u62 u63 u64 u65 u66 u67 u68 u69 u70 u71 u72 u73 u74 u75 u76 u77 u78 u79 u80 u81 u82 u83 u84 u85 u86 u87 u88 u89 u90 u91 u92 u93 u94 u95 u96 u97 u98 u99 u100 u101 u102 u103 u104 u105 u106 u107 u108 u109 u110 u111 u112 u113 u114 u115 u116 u117 u118 u119 u120 u121 u122 u123 u124 u125 u126 u127 u128 u129 u130 u131 u132 u133 u134 u135 u136 u137 u138 u139 u140 u141 u142 u143 u144 u145 u146 u147 u148 u149 u150 u151 u152 u153 u154 u155 u156 u157 u158 u159 u160 u161 u162 u163 u164 u165 u166 u167 u168 : Value) :
    (dropC 10 (Tryz.f9.body.getD .skip)).wp Tryz.prog (bodyPost Tryz.prog Tryz.f9 (MkE s.x w)) ⟨#[u0, u1, u2, u3, .pointer (some ⟨gx, 0, none⟩), u5, u6, u7, u8, .pointer (some ⟨gF, 0, none⟩), .pointer (some ⟨gl, 0, none⟩), .func (.func 26) #[] #[.pointer (some ⟨gx, 0, none⟩)], u12, u13, u14, u15, u16, u17, u18, u19, u20, u21, u22, u23, u24, u25, u26, u27, u28, u29, u30, u31, u32, u33, u34, u35, u36, u37, u38, u39, u40, u41, u42, u43, u44, u45, u46, u47, u48, u49, u50, u51, u52, u53, u54, u55, u56, u57, u58, u59, u60, u61, u62, u63, u64, u65, u66, u67, u68, u69, u70, u71, u72, u73, u74, u75, u76, u77, u78, u79, u80, u81, u82, u83, u84, u85, u86, u87, u88, u89, u90, u91, u92, u93, u94, u95, u96, u97, u98, u99, u100, u101, u102, u103, u104, u105, u106, u107, u108, u109, u110, u111, u112, u113, u114, u115, u116, u117, u118, u119, u120, u121, u122, u123, u124, u125, u126, u127, u128, u129, u130, u131, u132, u133, u134, u135, u136, u137, u138, u139, u140, u141, u142, u143, u144, u145, u146, u147, u148, u149, u150, u151, u152, u153, u154, u155, u156, u157, u158, u159, u160, u161, u162, u163, u164, u165, u166, u167, u168], []⟩ wc := by
  conv => arg 2; whnf
  have hfr1 := front1_len s.x
  have hfr0 := front0_len s.x
  have hmany := many_ge s.x
  have hin := hf.interp
  obtain ⟨a0, a1, a2, a3, a4, a5, a6, a7, a8, a9, a10, a11, a12⟩ := spec_cellsP (h.held _ hgx).1
  have hrm := room_le s.x hm.n1
  have hfl : (Mk.front1 s.x).length ≤ 1073741824 := by omega
  have Hh := hide h
  have Hf := hide hf
  have Hm := hide hm
  have Hx := hide hx
  clear h hf hm hx
  go_upto_if 88 with fail
  obtain ⟨dy, hdy⟩ : ∃ dy, s.x.dynamic = dy := ⟨_, rfl⟩
  rw [hdy]
  rw [hdy] at a6
  have Hdy := hide hdy
  clear hdy
  go_cut [13] (fun dv wx => ∃ (Af : Option Addr) (nf cf : Nat) (Ad : Option Addr) (nd cd : Nat) (ds : List Mk.Row), dv = .slice Ad nd cd ∧ PmS gF gl w wx Af nf cf (Mk.front2 s.x) Al cl rs H Ad nd cd ds ∧ ds = Mk.rowDyn s.x)
  case first =>
    cases dy
    case false =>
      have He := hide (show Mk.front2 s.x = Mk.front1 s.x ∧ Mk.rowDyn s.x = [] by unfold Mk.front2 Mk.rowDyn; rw [unhide Hdy]; exact ⟨rfl, rfl⟩)
      go_wp2_with fail
      go_meet
      case rel => exact ⟨Af, nf, cf, none, 0, 0, [], rfl, by rw [(unhide He).1]; exact unhide Hh, (unhide He).2.symm⟩
    case true =>
      have He := hide (show Mk.front2 s.x = Mk.section_ s.x (Mk.front1 s.x) ∧ Mk.rowDyn s.x = [Mk.inRow s.x 2 (Mk.pad 8 (Mk.front1 s.x)).length (Mk.room s.x) 8] by unfold Mk.front2 Mk.rowDyn; rw [unhide Hdy]; exact ⟨rfl, rfl⟩)
      have KS : Hid (Calls Tryz.prog 29 #[.agg #[.int .u16 (s.x.type : Nat), .int .u64 (s.x.entry : Nat), .string s.x.interp, .slice s.At s.x.text.length s.ct, .slice s.Ad s.x.data.length s.cd, .int .u64 (s.x.more : Nat), .bool true, .slice s.A1 s.x.dyn.needed.length s.c1, .string s.x.dyn.soname, .string s.x.dyn.run, .slice s.A2 s.x.dyn.syms.length s.c2, .slice s.A3 s.x.dyn.relas.length s.c3, .int .i64 s.x.apart], .pointer (some ⟨gF, 0, none⟩)] wc (SecE s gF w.heap.size [.slice Af nf cf] Af (Mk.front1 s.x) wc)) := hide (by
        have h9 := psection_any s gF w.heap.size nf cf B 16777216 Af (Mk.front1 s.x) wc (by have := (unhide Hh).size; omega) ((unhide Hx).below ((unhide Hh).below.mono hB)) (unhide Hh).fi (unhide Hh).size hfl (unhide Hm) (unhide Hf) (unhide Hf).texts (by omega)
        unfold Xq.l at h9
        rw [unhide Hdy] at h9
        exact h9)
      have hpl := pad_le 8 (by omega) (Mk.front1 s.x)
      go_wp2_with fail
      refine (unhide KS).mono ?_
      rintro e w5 ⟨A5, n5, c5, rfl, hE⟩
      have hP5 := (unhide Hh).front hE
      rw [← (unhide He).1] at hP5
      obtain ⟨p0, hp0⟩ : ∃ p0, (Mk.pad 8 (Mk.front1 s.x)).length = p0 := ⟨_, rfl⟩
      obtain ⟨rm, hrme⟩ : ∃ rm, Mk.room s.x = rm := ⟨_, rfl⟩
      rw [hp0, hrme]
      rw [hp0] at hpl
      rw [hrme] at hrm
      have Hp0 := hide hp0
      have Hrme := hide hrme
      have HP5 := hide hP5
      clear hP5 hE KS hp0 hrme a0 a1 a2 a3 a4 a5 a6 a7 a8 a9 a10 a11 a12
      obtain ⟨r1, hr1⟩ : ∃ r, Mk.inRow s.x 2 p0 rm 8 = r := ⟨_, rfl⟩
      have Kr1 : Hid (∀ W, Blk W gx 66 s.l → Calls Tryz.prog 26 #[.int .u64 2, .int .u64 (p0 : Nat), .int .u64 (rm : Nat), .int .u64 8, .pointer (some ⟨gx, 0, none⟩)] W fun e w' => e = .returned (.agg #[.int .u64 (r1.kind : Nat), .int .u64 (r1.flags : Nat), .int .u64 (r1.off : Nat), .int .u64 (r1.addr : Nat), .int .u64 (r1.fsz : Nat), .int .u64 (r1.msz : Nat), .int .u64 (r1.align : Nat)]) ∧ Below W.heap.size W w') := hide (fun W hW => by have h9 := pin_any s gx 2 p0 rm 8 W hW (by omega); rw [hr1] at h9; exact h9)
      have Hr1 := hide hr1
      clear hr1
      have Kr1' := hide ((unhide Kr1) w5 ((unhide HP5).held _ hgx).1)
      go_wp2_with fail
      refine (unhide Kr1').mono ?_
      rintro e w6 ⟨rfl, hb6⟩
      have HP6 := hide ((unhide HP5).calm hb6)
      have hs6 := (unhide HP6).size
      clear hb6 Kr1 Kr1'
      go_wp2_with (at_builtin; go_loud (refine wpList_app1g mSegTy rfl _ _ rfl w.heap.size (.slice none 0 0) 0 _ rfl (unhide HP6).dyn _ _ rfl (by simp) rfl (rowV_one r1) (by omega) hs6 ?_); intro A9 c9 w9 ho9 hg9 hat9; have HP9 := hide ((unhide HP6).putDyn r1 ho9 hg9 hat9); clear ho9 hg9 hat9)
      go_meet
      case rel => exact ⟨A5, n5, c5, A9, 1, c9, [r1], rfl, unhide HP9, by rw [(unhide He).2, ← unhide Hr1, unhide Hp0, unhide Hrme]⟩
  case rest =>
    obtain ⟨Af5, nf5, cf5, Ad, nd, cd, ds, rfl, hP, hds⟩ := hcut
    go_step
    exact pmakeC s gF gl gx nf5 cf5 cl nd cd B Af5 Al Ad rs ds H w wc hB (unhide Hx) hP hgx hrs hds hmay (unhide Hf) (unhide Hm) _ _ _ _ _ _ _ _ _ _ _ _ _ _ _ _ _ _ _ _ _ _ _ _ _ _ _ _ _ _ _ _ _ _ _ _ _ _ _ _ _ _ _ _ _ _ _ _ _ _ _ _ _ _ _ _ _ _ _ _ _ _ _ _ _ _ _ _ _ _ _ _ _ _ _ _ _ _ _ _ _ _ _ _ _ _ _ _ _ _ _ _ _ _ _ _ _ _ _ _ _ _ _ _ _ _ _ _ _ _ _ _ _ _ _ _ _ _ _ _ _ _ _ _ _ _ _ _ _ _ _ _ _ _ _ _ _ _ _ _ _ _ _ _ _ _ _ _ _ _ _ _ _ _ _ _ _ _ _ _ _ _ _ _
end Go.Proofs.YtnbecdahfgkffaaGreat
