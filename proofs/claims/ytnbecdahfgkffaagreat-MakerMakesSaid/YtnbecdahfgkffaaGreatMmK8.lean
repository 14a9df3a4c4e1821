/- Texts of the claim LawMakerMakes (MkP19, MkP20, MkEl, MkEl2, MkEl3, Elf4, Elf5): what the functions that the statement reaches compute, and plain laws of it. Conditions: those that each theorem states. -/
import Derived.Test.YtnbecdahfgkffaaGreatMmK7
import Derived.Laws.EntriesVeiled
import Derived.Deep.DeepCutAuto
import Derived.Deep.CutBlock
import Derived.Test.YtnbecdahfgkffaaGreatMmK5
import Derived.Test.YtnbecdahfgkffaaGreatMmK1
import Derived.Test.YtnbecdahfgkffaaGreatMmK4
import Derived.Test.YtnbecdahfgkffaaGreatMmK2
import Derived.Maps.OwnOps
import Derived.Maps.OwnSet
set_option linter.unusedVariables false
set_option linter.unusedSimpArgs false
namespace Go.Proofs.YtnbecdahfgkffaaGreat
open Go.RowKit
set_option maxRecDepth 100000 in
set_option maxHeartbeats 60000000 in
theorem pmakeB (s : Xq) (gF gl gx nf cf cl B : Nat) (Af Al : Option Addr) (rs : List Mk.Row) (H : List (Nat × TypeId × List Value)) (w wc : World) (hB : B ≤ w.heap.size) (hx : XqM w B s)
    (h : PmS gF gl w wc Af nf cf (Mk.front1 s.x) Al cl rs H none 0 0 []) (hgx : (gx, 66, s.l) ∈ H) (hrs : rs = Mk.rowPhdr s.x ++ Mk.rowInterp s.x)
    (hmay : Mk.may s.x = 0) (hf : MkFit s) (hm : MayOk s.x)
    (u0 u1 u2 u3 u5 u6 u7 u8 u12 u13 u14 u15 u16 u17 u18 u19 u20 u21 u22 u23 u24 u25 u26 u27 u28 u29 u30 u31 u32 u33 u34 u35 u36 u37 u38 u39 u40 u41 u42 u43 u44 u45 u46 u47 u48 u49 u50 u51 u52 u53 u54 u55 u56 u57 u58 u59 u60 u61 u62 u63 u64 u65 u66 u67 u68 u69 u70 u71 u72 u73 u74 u75 u76 u77 u78 u79 u80 u81 u82 u83 u84 u85 u86 u87 u88 u89 u90 u91 u92 u93 u94 u95 u96 u97 u98 u99 u100 u101 u102 u103 u104 u105 u106 u107 u108 u109 u110 u111 u112 u113 u114 u115 u116 u117 u118 u119 u120 u121 u122 u123 u124 u125 u126 u127 u128 u129 u130 u131 u132 u133 u134 u135 u136 u137 u138 u139 u140 u141 u142 u143 u144 u145 u146 u147 u148 u149 u150 u151 u152 u153 u154 u155 u156 u157 u158 u159 u160 u161 u162 u163 u164 u165 u166 u167 u168 : Value) :
    (dropC 10 (Tryz.f9.body.getD .skip)).wp Tryz.prog (bodyPost Tryz.prog Tryz.f9 (MkE s.x w)) ⟨#[u0, u1, u2, u3, .pointer (some ⟨gx, 0, none⟩), u5, u6, u7, u8, .pointer (some ⟨gF, 0, none⟩), .pointer (some ⟨gl, 0, none⟩), .func (.func 26) #[] #[.pointer (some ⟨gx, 0, none⟩)], u12, u13, u14, u15, u16, u17, u18, u19, u20, u21, u22, u23, u24, u25, u26, u27, u28, u29, u30, u31, u32, u33, u34, u35, u36, u37, u38, u39, u40, u41, u42, u43, u44, u45, u46, u47, u48, u49, u50, u51, u52, u53, u54, u55, u56, u57, u58, u59, u60, u61, u62, u63, u64, u65, u66, u67, u68, u69, u70, u71, u72, u73, u74, u75, u76, u77, u78, u79, u80, u81, u82, u83, u84, u85, u86, u87, u88, u89, u90, u91, u92, u93, u94, u95, u96, u97, u98, u99, u100, u101, u102, u103, u104, u105, u106, u107, u108, u109, u110, u111, u112, u113, u114, u115, u116, u117, u118, u119, u120, u121, u122, u123, u124, u125, u126, u127, u128, u129, u130, u131, u132, u133, u134, u135, u136, u137, u138, u139, u140, u141, u142, u143, u144, u145, u146, u147, u148, u149, u150, u151, u152, u153, u154, u155, u156, u157, u158, u159, u160, u161, u162, u163, u164, u165, u166, u167, u168], []⟩ wc := by
  conv => arg 2; whnf
  have hfr1 := front1_len s.x
  have hfr0 := front0_len s.x
  have hmany := many_ge s.x
  have hin := hf.interp
  obtain ⟨a0, a1, a2, a3, a4, a5, a6, a7, a8, a9, a10, a11, a12⟩ := spec_cellsP (h.held _ hgx).1
  have hrm := room_le s.x hm.n1
  have hfl : (Mk.front1 s.x).length ≤ 1073741824 := by omega
  have Hh := hide h
  have Hf := hide hf
  have Hm := hide hm
  have Hx := hide hx
  clear h hf hm hx
  go_upto_if 88 with fail
  obtain ⟨dy, hdy⟩ : ∃ dy, s.x.dynamic = dy := ⟨_, rfl⟩
  rw [hdy]
  rw [hdy] at a6
  have Hdy := hide hdy
  clear hdy
  go_cut [13] (fun dv wx => ∃ (Af : Option Addr) (nf cf : Nat) (Ad : Option Addr) (nd cd : Nat) (ds : List Mk.Row), dv = .slice Ad nd cd ∧ PmS gF gl w wx Af nf cf (Mk.front2 s.x) Al cl rs H Ad nd cd ds ∧ ds = Mk.rowDyn s.x)
  case first =>
    cases dy
    case false =>
      have He := hide (show Mk.front2 s.x = Mk.front1 s.x ∧ Mk.rowDyn s.x = [] by unfold Mk.front2 Mk.rowDyn; rw [unhide Hdy]; exact ⟨rfl, rfl⟩)
      go_wp2_with fail
      go_meet
      case rel => exact ⟨Af, nf, cf, none, 0, 0, [], rfl, by rw [(unhide He).1]; exact unhide Hh, (unhide He).2.symm⟩
    case true =>
      have He := hide (show Mk.front2 s.x = Mk.section_ s.x (Mk.front1 s.x) ∧ Mk.rowDyn s.x = [Mk.inRow s.x 2 (Mk.pad 8 (Mk.front1 s.x)).length (Mk.room s.x) 8] by unfold Mk.front2 Mk.rowDyn; rw [unhide Hdy]; exact ⟨rfl, rfl⟩)
      have KS : Hid (Calls Tryz.prog 29 #[.agg #[.int .u16 (s.x.type : Nat), .int .u64 (s.x.entry : Nat), .string s.x.interp, .slice s.At s.x.text.length s.ct, .slice s.Ad s.x.data.length s.cd, .int .u64 (s.x.more : Nat), .bool true, .slice s.A1 s.x.dyn.needed.length s.c1, .string s.x.dyn.soname, .string s.x.dyn.run, .slice s.A2 s.x.dyn.syms.length s.c2, .slice s.A3 s.x.dyn.relas.length s.c3, .int .i64 s.x.apart], .pointer (some ⟨gF, 0, none⟩)] wc (SecE s gF w.heap.size [.slice Af nf cf] Af (Mk.front1 s.x) wc)) := hide (by
        have h9 := psection_any s gF w.heap.size nf cf B 16777216 Af (Mk.front1 s.x) wc (by have := (unhide Hh).size; omega) ((unhide Hx).below ((unhide Hh).below.mono hB)) (unhide Hh).fi (unhide Hh).size hfl (unhide Hm) (unhide Hf) (unhide Hf).texts (by omega)
        unfold Xq.l at h9
        rw [unhide Hdy] at h9
        exact h9)
      have hpl := pad_le 8 (by omega) (Mk.front1 s.x)
      go_wp2_with fail
      refine (unhide KS).mono ?_
      rintro e w5 ⟨A5, n5, c5, rfl, hE⟩
      have hP5 := (unhide Hh).front hE
      rw [← (unhide He).1] at hP5
      obtain ⟨p0, hp0⟩ : ∃ p0, (Mk.pad 8 (Mk.front1 s.x)).length = p0 := ⟨_, rfl⟩
      obtain ⟨rm, hrme⟩ : ∃ rm, Mk.room s.x = rm := ⟨_, rfl⟩
      rw [hp0, hrme]
      rw [hp0] at hpl
      rw [hrme] at hrm
      have Hp0 := hide hp0
      have Hrme := hide hrme
      have HP5 := hide hP5
      clear hP5 hE KS hp0 hrme a0 a1 a2 a3 a4 a5 a6 a7 a8 a9 a10 a11 a12
      obtain ⟨r1, hr1⟩ : ∃ r, Mk.inRow s.x 2 p0 rm 8 = r := ⟨_, rfl⟩
      have Kr1 : Hid (∀ W, Blk W gx 66 s.l → Calls Tryz.prog 26 #[.int .u64 2, .int .u64 (p0 : Nat), .int .u64 (rm : Nat), .int .u64 8, .pointer (some ⟨gx, 0, none⟩)] W fun e w' => e = .returned (.agg #[.int .u64 (r1.kind : Nat), .int .u64 (r1.flags : Nat), .int .u64 (r1.off : Nat), .int .u64 (r1.addr : Nat), .int .u64 (r1.fsz : Nat), .int .u64 (r1.msz : Nat), .int .u64 (r1.align : Nat)]) ∧ Below W.heap.size W w') := hide (fun W hW => by have h9 := pin_any s gx 2 p0 rm 8 W hW (by omega); rw [hr1] at h9; exact h9)
      have Hr1 := hide hr1
      clear hr1
      have Kr1' := hide ((unhide Kr1) w5 ((unhide HP5).held _ hgx).1)
      go_wp2_with fail
      refine (unhide Kr1').mono ?_
      rintro e w6 ⟨rfl, hb6⟩
      have HP6 := hide ((unhide HP5).calm hb6)
      have hs6 := (unhide HP6).size
      clear hb6 Kr1 Kr1'
      go_wp2_with (at_builtin; go_loud (refine wpList_app1g mSegTy rfl _ _ rfl w.heap.size (.slice none 0 0) 0 _ rfl (unhide HP6).dyn _ _ rfl (by simp) rfl (rowV_one r1) (by omega) hs6 ?_); intro A9 c9 w9 ho9 hg9 hat9; have HP9 := hide ((unhide HP6).putDyn r1 ho9 hg9 hat9); clear ho9 hg9 hat9)
      go_meet
      case rel => exact ⟨A5, n5, c5, A9, 1, c9, [r1], rfl, unhide HP9, by rw [(unhide He).2, ← unhide Hr1, unhide Hp0, unhide Hrme]⟩
  case rest =>
    obtain ⟨Af5, nf5, cf5, Ad, nd, cd, ds, rfl, hP, hds⟩ := hcut
    go_step
    exact pmakeC s gF gl gx nf5 cf5 cl nd cd B Af5 Al Ad rs ds H w wc hB (unhide Hx) hP hgx hrs hds hmay (unhide Hf) (unhide Hm) _ _ _ _ _ _ _ _ _ _ _ _ _ _ _ _ _ _ _ _ _ _ _ _ _ _ _ _ _ _ _ _ _ _ _ _ _ _ _ _ _ _ _ _ _ _ _ _ _ _ _ _ _ _ _ _ _ _ _ _ _ _ _ _ _ _ _ _ _ _ _ _ _ _ _ _ _ _ _ _ _ _ _ _ _ _ _ _ _ _ _ _ _ _ _ _ _ _ _ _ _ _ _ _ _ _ _ _ _ _ _ _ _ _ _ _ _ _ _ _ _ _ _ _ _ _ _ _ _ _ _ _ _ _ _ _ _ _ _ _ _ _ _ _ _ _ _ _ _ _ _ _ _ _ _ _ _ _ _ _ _ _ _ _
end Go.Proofs.YtnbecdahfgkffaaGreat
namespace Go.Proofs.YtnbecdahfgkffaaGreat
open Go.RowKit
theorem PmS.start {w w9 : World} {gx n c : Nat} {A : Option Addr} {fs : List UInt8} {t3 : TypeId} {l3 : List Value} (hb : Below w.heap.size w w9) (ho : w9.ownsRow w.heap.size 5 1 (.slice A n c) n (bys fs)) (hx : Blk w9 gx t3 l3) (hax : bk A ≠ some gx) :
    PmS w9.heap.size (w9.heap.size + 1) w ((w9.alloc (.cells #[.slice A n c] 71)).alloc (.cells #[.slice none 0 0] 72)) A n c fs none 0 [] [(gx, t3, l3)] none 0 0 [] := by
  have hs := hb.size
  have b1 : Below w9.heap.size w9 ((w9.alloc (.cells #[.slice A n c] 71)).alloc (.cells #[.slice none 0 0] 72)) := ((Below.refl _ _).alloc (Nat.le_refl _) _).alloc (by simp) _
  have hbl := (Blk.new w9 71 [.slice A n c]).alloc (.cells #[.slice none 0 0] 72)
  have hbr := Blk.new (w9.alloc (.cells #[.slice A n c] 71)) 72 [.slice none 0 0]
  have e1 : (w9.alloc (.cells #[.slice A n c] 71)).heap.size = w9.heap.size + 1 := by simp
  rw [e1] at hbr
  have hlt := own_bklt ho
  refine ⟨hb.trans (b1.mono hs), ⟨hbl, rfl, own_below ho b1, fun e => by have := (hlt _ e).2; omega⟩, hbr, World.ownsRow_nil _ _ _ _, World.ownsRow_nil _ _ _ _, fun k hk => by simp [bk] at hk, fun e => by have := (hlt _ e).2; omega, fun k hk => by simp [bk] at hk, fun p hp => ?_, hs, by omega, by omega⟩
  rw [List.mem_singleton.1 hp]
  have := hx.lt
  exact ⟨hx.belowSz b1, by show gx ≠ _; omega, by show gx ≠ _; omega, hax, by simp [bk]⟩
def cnt (l : List Bool) (j : Nat) : Nat := ((l.take j).filter id).length
theorem cnt_step {l : List Bool} {j : Nat} {b : Bool} (h : l[j]? = some b) : cnt l (j + 1) = cnt l j + Mk.one b := by
  unfold cnt
  rw [List.take_add_one, h]
  cases b <;> simp [Mk.one]
theorem cnt_le (l : List Bool) (j : Nat) : cnt l j ≤ j := by
  unfold cnt
  have h1 := List.length_filter_le id (l.take j)
  rw [List.length_take] at h1
  omega
theorem cnt_many (x : Mk.Spec) : 2 + cnt [Mk.isInterp x, x.dynamic, Mk.isText x, Mk.isData x] 4 = Mk.many x := by
  unfold Mk.many cnt
  cases Mk.isInterp x <;> cases x.dynamic <;> cases Mk.isText x <;> cases Mk.isData x <;> rfl
set_option maxRecDepth 100000 in
set_option maxHeartbeats 60000000 in
theorem pmake_any (s : Xq) (B : Nat) (w : World) (hB : B ≤ w.heap.size) (h : XqM w B s) (hf : MkFit s) (hn12 : s.x.dyn.needed.length + s.x.dyn.syms.length ≤ 1048576) :
    Calls Tryz.prog 9 #[.agg s.l.toArray] w (MkE s.x w) := by
  have hb1 : Below w.heap.size w ((w.alloc (.cells #[.int .u16 (s.x.type : Nat), .int .u64 (s.x.entry : Nat), .string s.x.interp, .slice s.At s.x.text.length s.ct, .slice s.Ad s.x.data.length s.cd, .int .u64 (s.x.more : Nat), .bool s.x.dynamic, .slice s.A1 s.x.dyn.needed.length s.c1, .string s.x.dyn.soname, .string s.x.dyn.run, .slice s.A2 s.x.dyn.syms.length s.c2, .slice s.A3 s.x.dyn.relas.length s.c3, .int .i64 s.x.apart] 31)).alloc (.cells #[.int .u16 (s.x.type : Nat), .int .u64 (s.x.entry : Nat), .string s.x.interp, .slice s.At s.x.text.length s.ct, .slice s.Ad s.x.data.length s.cd, .int .u64 (s.x.more : Nat), .bool s.x.dynamic, .slice s.A1 s.x.dyn.needed.length s.c1, .string s.x.dyn.soname, .string s.x.dyn.run, .slice s.A2 s.x.dyn.syms.length s.c2, .slice s.A3 s.x.dyn.relas.length s.c3, .int .i64 s.x.apart] 66)) := ((Below.refl _ _).alloc (Nat.le_refl _) _).alloc (by simp) _
  have hbl := Blk.new (w.alloc (.cells #[.int .u16 (s.x.type : Nat), .int .u64 (s.x.entry : Nat), .string s.x.interp, .slice s.At s.x.text.length s.ct, .slice s.Ad s.x.data.length s.cd, .int .u64 (s.x.more : Nat), .bool s.x.dynamic, .slice s.A1 s.x.dyn.needed.length s.c1, .string s.x.dyn.soname, .string s.x.dyn.run, .slice s.A2 s.x.dyn.syms.length s.c2, .slice s.A3 s.x.dyn.relas.length s.c3, .int .i64 s.x.apart] 31)) 66 s.l
  have e1 : (w.alloc (.cells #[.int .u16 (s.x.type : Nat), .int .u64 (s.x.entry : Nat), .string s.x.interp, .slice s.At s.x.text.length s.ct, .slice s.Ad s.x.data.length s.cd, .int .u64 (s.x.more : Nat), .bool s.x.dynamic, .slice s.A1 s.x.dyn.needed.length s.c1, .string s.x.dyn.soname, .string s.x.dyn.run, .slice s.A2 s.x.dyn.syms.length s.c2, .slice s.A3 s.x.dyn.relas.length s.c3, .int .i64 s.x.apart] 31)).heap.size = w.heap.size + 1 := by simp
  rw [e1] at hbl
  have hs1 : ((w.alloc (.cells #[.int .u16 (s.x.type : Nat), .int .u64 (s.x.entry : Nat), .string s.x.interp, .slice s.At s.x.text.length s.ct, .slice s.Ad s.x.data.length s.cd, .int .u64 (s.x.more : Nat), .bool s.x.dynamic, .slice s.A1 s.x.dyn.needed.length s.c1, .string s.x.dyn.soname, .string s.x.dyn.run, .slice s.A2 s.x.dyn.syms.length s.c2, .slice s.A3 s.x.dyn.relas.length s.c3, .int .i64 s.x.apart] 31)).alloc (.cells #[.int .u16 (s.x.type : Nat), .int .u64 (s.x.entry : Nat), .string s.x.interp, .slice s.At s.x.text.length s.ct, .slice s.Ad s.x.data.length s.cd, .int .u64 (s.x.more : Nat), .bool s.x.dynamic, .slice s.A1 s.x.dyn.needed.length s.c1, .string s.x.dyn.soname, .string s.x.dyn.run, .slice s.A2 s.x.dyn.syms.length s.c2, .slice s.A3 s.x.dyn.relas.length s.c3, .int .i64 s.x.apart] 66)).heap.size = w.heap.size + 1 + 1 := by simp
  obtain ⟨a0, a1, a2, a3, a4, a5, a6, a7, a8, a9, a10, a11, a12⟩ := spec_cellsP (show Blk ((w.alloc (.cells #[.int .u16 (s.x.type : Nat), .int .u64 (s.x.entry : Nat), .string s.x.interp, .slice s.At s.x.text.length s.ct, .slice s.Ad s.x.data.length s.cd, .int .u64 (s.x.more : Nat), .bool s.x.dynamic, .slice s.A1 s.x.dyn.needed.length s.c1, .string s.x.dyn.soname, .string s.x.dyn.run, .slice s.A2 s.x.dyn.syms.length s.c2, .slice s.A3 s.x.dyn.relas.length s.c3, .int .i64 s.x.apart] 31)).alloc (.cells #[.int .u16 (s.x.type : Nat), .int .u64 (s.x.entry : Nat), .string s.x.interp, .slice s.At s.x.text.length s.ct, .slice s.Ad s.x.data.length s.cd, .int .u64 (s.x.more : Nat), .bool s.x.dynamic, .slice s.A1 s.x.dyn.needed.length s.c1, .string s.x.dyn.soname, .string s.x.dyn.run, .slice s.A2 s.x.dyn.syms.length s.c2, .slice s.A3 s.x.dyn.relas.length s.c3, .int .i64 s.x.apart] 66)) (w.heap.size + 1) 66 s.l from hbl)
  have KM : Hid (∀ W, B ≤ W.heap.size → XqM W B s → Calls Tryz.prog 25 #[.agg #[.int .u16 (s.x.type : Nat), .int .u64 (s.x.entry : Nat), .string s.x.interp, .slice s.At s.x.text.length s.ct, .slice s.Ad s.x.data.length s.cd, .int .u64 (s.x.more : Nat), .bool s.x.dynamic, .slice s.A1 s.x.dyn.needed.length s.c1, .string s.x.dyn.soname, .string s.x.dyn.run, .slice s.A2 s.x.dyn.syms.length s.c2, .slice s.A3 s.x.dyn.relas.length s.c3, .int .i64 s.x.apart]] W fun e w' => e = .returned (.int .i64 (Mk.may s.x)) ∧ Below W.heap.size W w') := hide (fun W hW hx => pcheck_any s B W hW hx hf hn12)
  have hxm := h.below (hb1.mono hB)
  have HxB := hide hxm
  have Hx := hide h
  have Hf := hide hf
  have Hb1 := hide hb1
  have Hbl : Hid (Blk ((w.alloc (.cells #[.int .u16 (s.x.type : Nat), .int .u64 (s.x.entry : Nat), .string s.x.interp, .slice s.At s.x.text.length s.ct, .slice s.Ad s.x.data.length s.cd, .int .u64 (s.x.more : Nat), .bool s.x.dynamic, .slice s.A1 s.x.dyn.needed.length s.c1, .string s.x.dyn.soname, .string s.x.dyn.run, .slice s.A2 s.x.dyn.syms.length s.c2, .slice s.A3 s.x.dyn.relas.length s.c3, .int .i64 s.x.apart] 31)).alloc (.cells #[.int .u16 (s.x.type : Nat), .int .u64 (s.x.entry : Nat), .string s.x.interp, .slice s.At s.x.text.length s.ct, .slice s.Ad s.x.data.length s.cd, .int .u64 (s.x.more : Nat), .bool s.x.dynamic, .slice s.A1 s.x.dyn.needed.length s.c1, .string s.x.dyn.soname, .string s.x.dyn.run, .slice s.A2 s.x.dyn.syms.length s.c2, .slice s.A3 s.x.dyn.relas.length s.c3, .int .i64 s.x.apart] 66)) (w.heap.size + 1) 66 s.l) := hide hbl
  have hte : s.x.text.length ≤ 4294967296 := hf.ok.text
  have hda : s.x.data.length ≤ 1048576 := hf.data
  have hin : s.x.interp.size ≤ 1048576 := hf.interp
  have hmany := many_ge s.x
  show Calls _ _ #[.agg #[.int .u16 (s.x.type : Nat), .int .u64 (s.x.entry : Nat), .string s.x.interp, .slice s.At s.x.text.length s.ct, .slice s.Ad s.x.data.length s.cd, .int .u64 (s.x.more : Nat), .bool s.x.dynamic, .slice s.A1 s.x.dyn.needed.length s.c1, .string s.x.dyn.soname, .string s.x.dyn.run, .slice s.A2 s.x.dyn.syms.length s.c2, .slice s.A3 s.x.dyn.relas.length s.c3, .int .i64 s.x.apart]] w _
  clear hb1 hbl hxm h hf e1
  go_enter Tryz.func9, Tryz.ntmps9
  go_wp2_with fail
  refine ((unhide KM) _ (by rw [hs1]; omega) (unhide HxB)).mono ?_
  rintro e w1 ⟨rfl, hbw⟩
  have hb2 := (unhide Hb1).trans (hbw.mono (by rw [hs1]; omega))
  have hbx2 : Blk w1 (w.heap.size + 1) 66 s.l := (unhide Hbl).belowSz hbw
  have hs2 := hb2.size
  have hbws := hbw.size
  have Hb2 := hide hb2
  have Hbx2 := hide hbx2
  generalize ((w.alloc (.cells #[.int .u16 (s.x.type : Nat), .int .u64 (s.x.entry : Nat), .string s.x.interp, .slice s.At s.x.text.length s.ct, .slice s.Ad s.x.data.length s.cd, .int .u64 (s.x.more : Nat), .bool s.x.dynamic, .slice s.A1 s.x.dyn.needed.length s.c1, .string s.x.dyn.soname, .string s.x.dyn.run, .slice s.A2 s.x.dyn.syms.length s.c2, .slice s.A3 s.x.dyn.relas.length s.c3, .int .i64 s.x.apart] 31)).alloc (.cells #[.int .u16 (s.x.type : Nat), .int .u64 (s.x.entry : Nat), .string s.x.interp, .slice s.At s.x.text.length s.ct, .slice s.Ad s.x.data.length s.cd, .int .u64 (s.x.more : Nat), .bool s.x.dynamic, .slice s.A1 s.x.dyn.needed.length s.c1, .string s.x.dyn.soname, .string s.x.dyn.run, .slice s.A2 s.x.dyn.syms.length s.c2, .slice s.A3 s.x.dyn.relas.length s.c3, .int .i64 s.x.apart] 66)) = W1 at *
  clear KM HxB hbw Hb1 Hbl hb2 a0 a1 a2 a3 a4 a5 a6 a7 a8 a9 a10 a11 a12
  by_cases hmay : Mk.may s.x = 0
  case neg =>
    have hmk : Mk.make s.x = ([], Mk.may s.x) := by unfold Mk.make; rw [if_pos hmay]
    have Hmk := hide hmk
    have hm1 : ((Mk.may s.x : Int) != 0) = true := by rw [bne_iff_ne]; exact hmay
    clear hmay hmk hbx2
    go_wp2_with fail
    go_ret2
    refine ⟨unhide Hb2, none, 0, 0, ?_, ?_⟩
    · rw [unhide Hmk]; rfl
    · rw [unhide Hmk]; exact World.ownsRow_nil _ _ _ _
  have HM := hide (may_zero hmay)
  rw [hmay]
  have Hmay := hide hmay
  obtain ⟨a0, a1, a2, a3, a4, a5, a6, -⟩ := spec_cellsP hbx2
  clear hmay hbx2
  go_upto_region 6 with fail
  go_cut [6, 42, 43, 44] (fun mv rv lv iv wx => mv = .int .i64 2 ∧ rv = .slice (some ⟨w1.heap.size, 0, none⟩) 4 4 ∧ lv = .int .i64 4 ∧ iv = .int .i64 0 ∧ wx = w1.alloc (.cells #[.bool (Mk.isInterp s.x), .bool s.x.dynamic, .bool (Mk.isText s.x), .bool (Mk.isData s.x)] 4))
  case first =>
    have He1 := hide (show Mk.isInterp s.x = !s.x.interp.toList.isEmpty by unfold Mk.isInterp; rw [isEmpty_toList]; by_cases e : s.x.interp.size = 0 <;> simp [e])
    by_cases c1 : 0 < s.x.data.length
    · have c1i : decide (0 < s.x.data.length) = true := decide_eq_true c1
      have He := hide (show Mk.isData s.x = true by unfold Mk.isData; simp [c1])
      clear c1
      go_wp2_with fail
      go_meet
      case rel => exact ⟨rfl, rfl, rfl, rfl, by rw [unhide He, unhide He1]; rfl⟩
    · have c1i : decide (0 < s.x.data.length) = false := decide_eq_false c1
      by_cases c2 : 0 < s.x.more
      · have c2i : decide (0 < s.x.more) = true := decide_eq_true c2
        have He := hide (show Mk.isData s.x = true by unfold Mk.isData; simp [c2])
        clear c1 c2
        go_wp2_with fail
        go_meet
        case rel => exact ⟨rfl, rfl, rfl, rfl, by rw [unhide He, unhide He1]; rfl⟩
      · have c2i : decide (0 < s.x.more) = false := decide_eq_false c2
        have He := hide (show Mk.isData s.x = false by unfold Mk.isData; simp [c1, c2])
        clear c1 c2
        go_wp2_with fail
        go_meet
        case rel => exact ⟨rfl, rfl, rfl, rfl, by rw [unhide He, unhide He1]; rfl⟩
  case rest =>
    obtain ⟨rfl, rfl, rfl, rfl, rfl⟩ := hcut
    obtain ⟨bl, hbl⟩ : ∃ bl, bl = [Mk.isInterp s.x, s.x.dynamic, Mk.isText s.x, Mk.isData s.x] := ⟨_, rfl⟩
    have hrd : Rd (w1.alloc (.cells #[.bool (Mk.isInterp s.x), .bool s.x.dynamic, .bool (Mk.isText s.x), .bool (Mk.isData s.x)] 4)) (w1.heap.size + 1) 1 (some ⟨w1.heap.size, 0, none⟩) 4 (bl.map Value.bool) := by rw [hbl]; exact Rd.rowF (n := 4) (size := 1) rfl
    have hll : bl.length = 4 := by rw [hbl]; rfl
    have Hmy := hide (show 2 + cnt bl 4 = Mk.many s.x by rw [hbl]; exact cnt_many s.x)
    have hb3 := (unhide Hb2).trans ((below_al w1 (.cells #[.bool (Mk.isInterp s.x), .bool s.x.dynamic, .bool (Mk.isText s.x), .bool (Mk.isData s.x)] 4)).mono hs2)
    have hbx3 := (unhide Hbx2).belowSz (below_al w1 (.cells #[.bool (Mk.isInterp s.x), .bool s.x.dynamic, .bool (Mk.isText s.x), .bool (Mk.isData s.x)] 4))
    have Hrd := hide hrd
    have Hll := hide hll
    have Hb3 := hide hb3
    have Hbx3 := hide hbx3
    clear hbl hrd hll hb3 hbx3 Hb2 Hbx2 a0 a1 a2 a3 a4 a5 a6
    obtain ⟨br, hbr⟩ : ∃ br, w1.heap.size = br := ⟨_, rfl⟩
    rw [hbr] at Hrd
    rw [hbr]
    clear hbr
    generalize (w1.alloc (.cells #[.bool (Mk.isInterp s.x), .bool s.x.dynamic, .bool (Mk.isText s.x), .bool (Mk.isData s.x)] 4)) = W3 at *
    go_wp2_with fail
    go_loopg [6, 44] 4 (fun gk mv iv wr => ∃ j : Nat, gk = 4 - j ∧ j ≤ 4 ∧ iv = .int .i64 j ∧ mv = .int .i64 ((2 + cnt bl j : Nat) : Int) ∧ W3 = wr)
    case atStart => exact ⟨0, by omega, by omega, rfl, rfl, rfl⟩
    case round =>
    obtain ⟨j, hgk, hj, rfl, rfl, rfl⟩ := hrel
    have Hgk := hide hgk
    have hcl := cnt_le bl j
    clear hgk
    by_cases hlt : j < 4
    · obtain ⟨x, hx⟩ : ∃ x, bl[j]? = some x := ⟨_, List.getElem?_eq_getElem (by rw [unhide Hll]; exact hlt)⟩
      obtain ⟨b1, o1, hA, -, st⟩ := (unhide Hrd).at_ (k := j) (u := .bool x) (by simp [hx])
      injection hA with hA
      injection hA with hA1 hA2
      subst hA1 hA2
      rw [Nat.zero_add] at st
      have ilt : (j : Int) < (4 : Int) := by omega
      have Hc := hide (cnt_step hx)
      clear hx
      cases x
      case false =>
        go_wp2_with fail
        go_roundg (4 - (j + 1))
        case measure => have := unhide Hgk; omega
        case rel => exact ⟨j + 1, rfl, by omega, by go_num, by rw [unhide Hc]; rfl, rfl⟩
      case true =>
        go_wp2_with fail
        go_roundg (4 - (j + 1))
        case measure => have := unhide Hgk; omega
        case rel => exact ⟨j + 1, rfl, by omega, by go_num, by rw [unhide Hc]; first | rfl | go_num, rfl⟩
    have hj4 : j = 4 := by omega
    subst hj4
    rw [unhide Hmy]
    clear hcl hlt hj Hrd Hll Hgk
    have ige : ¬ ((4 : Nat) : Int) < 4 := by omega
    obtain ⟨m, hm⟩ : ∃ m, Mk.many s.x = m := ⟨_, rfl⟩
    rw [hm] at hmany ⊢
    have Hm9 := hide hm
    obtain ⟨i, hi, hz0, hz1, hz2⟩ := info_parts byteInfo
    have Hi := hide hi
    have Hz0 := hide hz0
    have Hz1 := hide hz1
    have Hz2 := hide hz2
    have hs3 := (unhide Hb3).size
    have hgl3 := (unhide Hbx3).lt
    have hwi : IntKind.i64.wrap (56 * (m : Int)) = 56 * (m : Int) := by rw [IntKind.wrap_i64]; omega
    have hwu : IntKind.u64.wrap (56 * (m : Int)) = 56 * (m : Int) := by rw [IntKind.wrap_u64]; omega
    clear hm hi hz0 hz1 hz2 Hmy
    go_wp2_with (at_make; refine wpList_make_full _ rfl _ _ 24 rfl w.heap.size 5 i (.int .u8 0) 1 Tryz.underlying24 (unhide Hi) (unhide Hz0) (unhide Hz1) _ _ _ _ (64 + 56 * m) rfl (by rfl) rfl (by rfl) (by rw [unhide Hz2]; omega) (by unfold maxLen; omega) hs3 ?_; intro w4 hown hgrow; have hb4 := (unhide Hb3).grown hgrow hs3 (fun k hk => by cases hk); rw [zerosN] at hown; have hbx4 := (unhide Hbx3).belowSz ((Below.refl _ _).grown hgrow (Nat.le_refl _) (fun k hk => by cases hk)); have HP0 := hide (PmS.start hb4 hown hbx4 (fun e => by injection e with e; have h9 : W3.heap.size = w.heap.size + 1 := e; omega)); clear hown hgrow hb4 hbx4)
    generalize ((w4.alloc (.cells #[.slice (some ⟨W3.heap.size, 0, none⟩) (64 + 56 * m) (64 + 56 * m)] 71)).alloc (.cells #[.slice none 0 0] 72)) = W4 at *
    have hP0 := (unhide HP0).bind (show _ = Mk.front0 s.x by unfold Mk.front0; rw [unhide Hm9]; rfl)
    obtain ⟨rs0, hrs0⟩ : ∃ r : List Mk.Row, [] = r := ⟨_, rfl⟩
    obtain ⟨Al, hAl⟩ : ∃ A : Option Addr, none = A := ⟨_, rfl⟩
    obtain ⟨cl, hcl⟩ : ∃ c : Nat, 0 = c := ⟨_, rfl⟩
    obtain ⟨H, hH⟩ : ∃ H, [(w.heap.size + 1, 66, s.l)] = H := ⟨_, rfl⟩
    obtain ⟨gF, hgF⟩ : ∃ g, w4.heap.size = g := ⟨_, rfl⟩
    obtain ⟨gl, hgl⟩ : ∃ g, w4.heap.size + 1 = g := ⟨_, rfl⟩
    obtain ⟨gx, hgx0⟩ : ∃ g, w.heap.size + 1 = g := ⟨_, rfl⟩
    have hP1 : PmS gF gl w W4 (some ⟨W3.heap.size, 0, none⟩) (64 + 56 * m) (64 + 56 * m) (Mk.front0 s.x) Al cl rs0 H none 0 0 [] := by
      rw [← hrs0, ← hAl, ← hcl, ← hH, ← hgF, ← hgl]
      exact hP0
    have hgx : (gx, 66, s.l) ∈ H := by rw [← hH, ← hgx0]; exact List.mem_singleton.2 rfl
    rw [hgl, hgF, hgx0]
    have HP1 := hide hP1
    have hrs0l : rs0.length = 0 := by rw [← hrs0]; rfl
    have Hrs0 := hide hrs0
    have hrl0 : rs0.length ≤ 1 := by omega
    have hbs4 : Mk.base s.x ≤ 4194304 := by unfold Mk.base; split <;> omega
    obtain ⟨A0, hA0⟩ : ∃ A : Option Addr, (some (⟨W3.heap.size, 0, none⟩ : Addr)) = A := ⟨_, rfl⟩
    obtain ⟨n0, hn0⟩ : ∃ n, 64 + 56 * m = n := ⟨_, rfl⟩
    rw [hA0, hn0] at HP1
    clear hP0 hP1 HP0 hrs0 hAl hcl hH hgF hgl hgx0 hrs0l hA0 hn0 Hb3 Hbx3 hgl3 hs3 ige Hi Hz0 Hz1 Hz2
    obtain ⟨r0, hr0⟩ : ∃ r, Mk.inRow s.x 6 64 (56 * m) 8 = r := ⟨_, rfl⟩
    have Kr0 : Hid (∀ W, Blk W gx 66 s.l → Calls Tryz.prog 26 #[.int .u64 6, .int .u64 64, .int .u64 (56 * (m : Int)), .int .u64 8, .pointer (some ⟨gx, 0, none⟩)] W fun e w' => e = .returned (.agg #[.int .u64 (r0.kind : Nat), .int .u64 (r0.flags : Nat), .int .u64 (r0.off : Nat), .int .u64 (r0.addr : Nat), .int .u64 (r0.fsz : Nat), .int .u64 (r0.msz : Nat), .int .u64 (r0.align : Nat)]) ∧ Below W.heap.size W w') := hide (fun W hW => by have h9 := pin_any s gx 6 64 (56 * m) 8 W hW (by omega); rw [hr0] at h9; exact h9)
    have Hr0 := hide hr0
    clear hr0
    go_cut [] (fun wx => ∃ (Al : Option Addr) (cl : Nat), PmS gF gl w wx A0 n0 n0 (Mk.front0 s.x) Al cl (rs0 ++ [r0]) H none 0 0 [])
    case first =>
      refine wp_region_noPanic ?_
      refine wp_region_held_drew (S := fun _ => True) (by kernel_rfl) (trivial) (fun HS0 => ?_)
      refine takeD (i := 1) (d := some 60) (v := ?_) rfl rfl (by kernel_rfl) (by kernel_rfl) (by kernel_rfl) (fun _ _ _ h => h) (Or.inl ⟨by rfl, ?y1⟩) HS0 ?_
      case y1 => (intro w' hSw; (try dsimp only at hSw); go_simp; (try with_reducible rfl))
      simp only [Act.put, List.setIfInBounds_toArray, List.set_cons_zero, List.set_cons_succ]
      refine takeD (i := 2) (d := some 61) (v := ?_) rfl rfl (by kernel_rfl) (by kernel_rfl) (by kernel_rfl) (fun _ _ _ h => h) (Or.inl ⟨by rfl, ?y2⟩) HS0 ?_
      case y2 => (intro w' hSw; (try dsimp only at hSw); go_simp; (try with_reducible rfl))
      simp only [Act.put, List.setIfInBounds_toArray, List.set_cons_zero, List.set_cons_succ]
      refine takeD (i := 3) (d := some 62) (v := .int .i64 (56 * (m : Int))) rfl rfl (by kernel_rfl) (by kernel_rfl) (by kernel_rfl) (fun _ _ _ h => h) (Or.inl ⟨by rfl, ?y3⟩) HS0 ?_
      case y3 => (intro w' hSw; (try dsimp only at hSw); go_simp; (try rw [hwi]))
      simp only [Act.put, List.setIfInBounds_toArray, List.set_cons_zero, List.set_cons_succ]
      refine takeD (i := 4) (d := some 63) (v := .int .u64 (56 * (m : Int))) rfl rfl (by kernel_rfl) (by kernel_rfl) (by kernel_rfl) (fun _ _ _ h => h) (Or.inl ⟨by rfl, ?y4⟩) HS0 ?_
      case y4 => (intro w' hSw; (try dsimp only at hSw); go_simp; (try rw [hwu]))
      simp only [Act.put, List.setIfInBounds_toArray, List.set_cons_zero, List.set_cons_succ]
      refine wpAnyH_ready (rs := [0, 5]) (by kernel_rfl) (by simp) ?_
      refine AllReadyH.cons (i := 0) rfl (fun K hK => ?wayL) (AllReadyH.cons (i := 5) rfl (fun K hK => ?wayN) AllReadyH.nil)
      case wayL =>
        rw [if_pos (by rfl)]
        have zl := (show W4.drew.cell? ⟨gl, 0, none⟩ = some (.slice Al rs0.length cl) from (unhide HP1).lb.cell (i := 0) rfl)
        go_simp
        refine hK.out _ _ (HS0) (fun hHeld => ?_)
        clear hK K HS0
        have HS0 := hHeld
        clear hHeld
        (try simp only [Act.put, List.setIfInBounds_toArray, List.set_cons_zero, List.set_cons_succ])
        clear zl
        refine wpAnyH_ready (rs := [5]) (by kernel_rfl) (by simp) ?_
        refine AllReadyH.cons (i := 5) rfl (fun K hK => ?_) AllReadyH.nil
        rw [if_pos (by rfl)]
        go_simp
        go_at_call 26
        refine ((unhide Kr0) _ (show Blk W4.drew gx 66 s.l from ((unhide HP1).held _ hgx).1)).mono ?_
        rintro e w7 ⟨rfl, hb7⟩
        have hP7 := (unhide HP1).calm (below_undrew1 hb7)
        refine hK.out _ _ (trivial) (fun hHeld => ?_)
        clear hK K HS0
        have HS0 := hHeld
        clear hHeld
        (try simp only [Act.put, List.setIfInBounds_toArray, List.set_cons_zero, List.set_cons_succ])
        refine wpAnyH_ready (rs := [6]) (by kernel_rfl) (by simp) ?_
        refine AllReadyH.cons (i := 6) rfl (fun K hK => ?_) AllReadyH.nil
        rw [if_pos (by rfl)]
        go_simp
        refine hK.out _ _ (trivial) (fun hHeld => ?_)
        clear hK K HS0
        have HS0 := hHeld
        clear hHeld
        (try simp only [Act.put, List.setIfInBounds_toArray, List.set_cons_zero, List.set_cons_succ])
        refine wpAnyH_ready (rs := [7]) (by kernel_rfl) (by simp) ?_
        refine AllReadyH.cons (i := 7) rfl (fun K hK => ?_) AllReadyH.nil
        rw [if_pos (by rfl)]
        refine wp_app1m mSegTy _ _ rfl w.heap.size (.slice Al rs0.length cl) rs0.length (rowC rs0) rfl hP7.row _ _ rfl (by simp) rfl (rowV_one r0) (by omega) hP7.size ?_
        intro A5 c5 w5 ho5 hg5 ha5
        have hP9 := hP7.push r0 ho5 hg5 ha5
        have zs := (hP7.midL hg5).cell (i := 0) rfl
        have zf := (hP7.midL hg5).free 0
        show K (Act.put _ (some 66) _) _
        refine hK.out _ _ (trivial) (fun hHeld => ?_)
        clear hK K HS0
        have HS0 := hHeld
        clear hHeld
        (try simp only [Act.put, List.setIfInBounds_toArray, List.set_cons_zero, List.set_cons_succ])
        refine wpAnyH_ready (rs := [8]) (by kernel_rfl) (by simp) ?_
        refine AllReadyH.cons (i := 8) rfl (fun K hK => ?_) AllReadyH.nil
        rw [if_pos (by rfl)]
        go_simp
        refine hK.out _ _ (trivial) (fun hHeld => ?_)
        clear hK K HS0
        have HS0 := hHeld
        clear hHeld
        (try simp only [Act.put, List.setIfInBounds_toArray, List.set_cons_zero, List.set_cons_succ])
        refine wpAnyH_done (by kernel_rfl) ?_ _
        refine NoPanic.normal ?_
        go_wp2_with fail
        go_meet
        case rel => exact ⟨A5, c5, hP9⟩
      case wayN =>
        rw [if_pos (by rfl)]
        go_simp
        go_at_call 26
        refine ((unhide Kr0) _ (show Blk W4.drew gx 66 s.l from ((unhide HP1).held _ hgx).1)).mono ?_
        rintro e w7 ⟨rfl, hb7⟩
        have hP7 := (unhide HP1).calm (below_undrew1 hb7)
        refine hK.out _ _ (trivial) (fun hHeld => ?_)
        clear hK K HS0
        have HS0 := hHeld
        clear hHeld
        (try simp only [Act.put, List.setIfInBounds_toArray, List.set_cons_zero, List.set_cons_succ])
        refine wpAnyH_ready (rs := [0, 6]) (by kernel_rfl) (by simp) ?_
        refine AllReadyH.cons (i := 0) rfl (fun K hK => ?wayL) (AllReadyH.cons (i := 6) rfl (fun K hK => ?wayN) AllReadyH.nil)
        case wayL =>
          rw [if_pos (by rfl)]
          have zl := hP7.lb.cell (i := 0) rfl
          go_simp
          refine hK.out _ _ (HS0) (fun hHeld => ?_)
          clear hK K HS0
          have HS0 := hHeld
          clear hHeld
          (try simp only [Act.put, List.setIfInBounds_toArray, List.set_cons_zero, List.set_cons_succ])
          clear zl
          refine wpAnyH_ready (rs := [6]) (by kernel_rfl) (by simp) ?_
          refine AllReadyH.cons (i := 6) rfl (fun K hK => ?_) AllReadyH.nil
          rw [if_pos (by rfl)]
          go_simp
          refine hK.out _ _ (trivial) (fun hHeld => ?_)
          clear hK K HS0
          have HS0 := hHeld
          clear hHeld
          (try simp only [Act.put, List.setIfInBounds_toArray, List.set_cons_zero, List.set_cons_succ])
          refine wpAnyH_ready (rs := [7]) (by kernel_rfl) (by simp) ?_
          refine AllReadyH.cons (i := 7) rfl (fun K hK => ?_) AllReadyH.nil
          rw [if_pos (by rfl)]
          refine wp_app1m mSegTy _ _ rfl w.heap.size (.slice Al rs0.length cl) rs0.length (rowC rs0) rfl hP7.row _ _ rfl (by simp) rfl (rowV_one r0) (by omega) hP7.size ?_
          intro A5 c5 w5 ho5 hg5 ha5
          have hP9 := hP7.push r0 ho5 hg5 ha5
          have zs := (hP7.midL hg5).cell (i := 0) rfl
          have zf := (hP7.midL hg5).free 0
          show K (Act.put _ (some 66) _) _
          refine hK.out _ _ (trivial) (fun hHeld => ?_)
          clear hK K HS0
          have HS0 := hHeld
          clear hHeld
          (try simp only [Act.put, List.setIfInBounds_toArray, List.set_cons_zero, List.set_cons_succ])
          refine wpAnyH_ready (rs := [8]) (by kernel_rfl) (by simp) ?_
          refine AllReadyH.cons (i := 8) rfl (fun K hK => ?_) AllReadyH.nil
          rw [if_pos (by rfl)]
          go_simp
          refine hK.out _ _ (trivial) (fun hHeld => ?_)
          clear hK K HS0
          have HS0 := hHeld
          clear hHeld
          (try simp only [Act.put, List.setIfInBounds_toArray, List.set_cons_zero, List.set_cons_succ])
          refine wpAnyH_done (by kernel_rfl) ?_ _
          refine NoPanic.normal ?_
          go_wp2_with fail
          go_meet
          case rel => exact ⟨A5, c5, hP9⟩
        case wayN =>
          rw [if_pos (by rfl)]
          go_simp
          refine hK.out _ _ (trivial) (fun hHeld => ?_)
          clear hK K HS0
          have HS0 := hHeld
          clear hHeld
          (try simp only [Act.put, List.setIfInBounds_toArray, List.set_cons_zero, List.set_cons_succ])
          refine wpAnyH_ready (rs := [0]) (by kernel_rfl) (by simp) ?_
          refine AllReadyH.cons (i := 0) rfl (fun K hK => ?_) AllReadyH.nil
          rw [if_pos (by rfl)]
          have zl := fun c => (hP7.calm (below_al w7 c)).lb.cell (i := 0) rfl
          go_simp
          refine hK.out _ _ (HS0) (fun hHeld => ?_)
          clear hK K HS0
          have HS0 := hHeld
          clear hHeld
          (try simp only [Act.put, List.setIfInBounds_toArray, List.set_cons_zero, List.set_cons_succ])
          clear zl
          refine wpAnyH_ready (rs := [7]) (by kernel_rfl) (by simp) ?_
          refine AllReadyH.cons (i := 7) rfl (fun K hK => ?_) AllReadyH.nil
          rw [if_pos (by rfl)]
          refine wp_app1m mSegTy _ _ rfl w.heap.size (.slice Al rs0.length cl) rs0.length (rowC rs0) rfl hP7.row _ _ rfl (by simp) rfl (rowV_one r0) (by omega) hP7.size ?_
          intro A5 c5 w5 ho5 hg5 ha5
          have hP9 := hP7.push r0 ho5 hg5 ha5
          have zs := (hP7.midL hg5).cell (i := 0) rfl
          have zf := (hP7.midL hg5).free 0
          show K (Act.put _ (some 66) _) _
          refine hK.out _ _ (trivial) (fun hHeld => ?_)
          clear hK K HS0
          have HS0 := hHeld
          clear hHeld
          (try simp only [Act.put, List.setIfInBounds_toArray, List.set_cons_zero, List.set_cons_succ])
          refine wpAnyH_ready (rs := [8]) (by kernel_rfl) (by simp) ?_
          refine AllReadyH.cons (i := 8) rfl (fun K hK => ?_) AllReadyH.nil
          rw [if_pos (by rfl)]
          go_simp
          refine hK.out _ _ (trivial) (fun hHeld => ?_)
          clear hK K HS0
          have HS0 := hHeld
          clear hHeld
          (try simp only [Act.put, List.setIfInBounds_toArray, List.set_cons_zero, List.set_cons_succ])
          refine wpAnyH_done (by kernel_rfl) ?_ _
          refine NoPanic.normal ?_
          go_wp2_with fail
          go_meet
          case rel => exact ⟨A5, c5, hP9⟩
    case rest =>
      obtain ⟨Al2, cl2, hP⟩ := hcut
      have hP2 : PmS gF gl w wc A0 n0 n0 (Mk.front0 s.x) Al2 cl2 (Mk.rowPhdr s.x) H none 0 0 [] := by
        have e9 : rs0 ++ [r0] = Mk.rowPhdr s.x := by rw [← unhide Hrs0, ← unhide Hr0, ← unhide Hm9]; rfl
        rw [← e9]
        exact hP
      obtain ⟨-, -, t2, -⟩ := spec_cellsP (hP2.held _ hgx).1
      have HP2 := hide hP2
      clear hP hP2 Kr0 HP1 hwi hwu
      go_upto_if 69 with fail
      obtain ⟨bi, hbi⟩ : ∃ bi, s.x.interp.toList.isEmpty = bi := ⟨_, rfl⟩
      rw [hbi]
      have Hbi := hide hbi
      clear hbi
      go_cut [] (fun wx => ∃ (Af : Option Addr) (nf cf : Nat) (Al : Option Addr) (cl : Nat) (rs : List Mk.Row), PmS gF gl w wx Af nf cf (Mk.front1 s.x) Al cl rs H none 0 0 [] ∧ rs = Mk.rowPhdr s.x ++ Mk.rowInterp s.x)
      case first =>
        cases bi
        case true =>
          have hi : s.x.interp.size = 0 := by have h9 := unhide Hbi; rw [isEmpty_toList, decide_eq_true_eq] at h9; exact h9
          have hii : Mk.isInterp s.x = false := by unfold Mk.isInterp; simp [hi]
          have He := hide (show Mk.front1 s.x = Mk.front0 s.x ∧ Mk.rowInterp s.x = [] by unfold Mk.front1 Mk.rowInterp; rw [hii]; exact ⟨rfl, rfl⟩)
          clear hi hii
          go_wp2_with fail
          go_meet
          case rel => exact ⟨A0, n0, n0, Al2, cl2, _, by rw [(unhide He).1]; exact unhide HP2, by rw [(unhide He).2, List.append_nil]⟩
        case false =>
          have hi : s.x.interp.size ≠ 0 := by have h9 := unhide Hbi; rw [isEmpty_toList, decide_eq_false_iff_not] at h9; exact h9
          have hii : Mk.isInterp s.x = true := by unfold Mk.isInterp; simp [hi]
          have He := hide (show Mk.front1 s.x = Mk.pad 8 (Mk.front0 s.x) ++ Mk.interpB s.x ∧ Mk.rowInterp s.x = [Mk.inRow s.x 3 (Mk.pad 8 (Mk.front0 s.x)).length (s.x.interp.size + 1) 1] by unfold Mk.front1 Mk.rowInterp; rw [hii]; exact ⟨rfl, rfl⟩)
          clear hi hii
          go_wp2_with fail
          obtain ⟨ss, hss⟩ : ∃ ss, s.x.interp ++ (⟨#[0]⟩ : ByteArray) = ss := ⟨_, rfl⟩
          rw [hss]
          have hsl : ss.size = s.x.interp.size + 1 := by rw [← hss, ByteArray.size_append]; rfl
          have hsd : ss.data.toList = Mk.interpB s.x := by rw [← hss]; unfold Mk.interpB; simp
          have hcv := run_bytes_of_string (P := Tryz.prog) wc 9 24 5 ss Tryz.underlying9 Tryz.underlying24 Tryz.underlying5
          have hmk := OwnM.conv wc ss (by unfold maxLen; omega)
          have hv1 : Below wc.heap.size wc (wc.drew.alloc (.cells (bytesRow ss (grownCap wc ss.size 0 5)) 5 ((bytesRow ss (grownCap wc ss.size 0 5)).size, (bytesRow ss (grownCap wc ss.size 0 5)).size + 1))) := (below_drew' (Below.refl _ _)).alloc (Nat.le_refl _) _
          rw [hsd] at hmk
          generalize (wc.drew.alloc (.cells (bytesRow ss (grownCap wc ss.size 0 5)) 5 ((bytesRow ss (grownCap wc ss.size 0 5)).size, (bytesRow ss (grownCap wc ss.size 0 5)).size + 1))) = v1 at *
          generalize grownCap wc ss.size 0 5 = cc at *
          obtain ⟨sz, hsz⟩ : ∃ sz, ss.size = sz := ⟨_, rfl⟩
          rw [hsz] at hmk hcv hsl
          have hP3 := (unhide HP2).calm hv1
          have hfr0 := front0_len s.x
          have hpl := pad_le 8 (by omega) (Mk.front0 s.x)
          have hn0 := hP3.fi.len
          have hin4 : (Mk.front0 s.x).length ≤ 4294967296 := by have := unhide Hm9; omega
          have KP := hide (fun cb : Nat => pput_any _ gF 0 _ w.heap.size A0 n0 n0 (Mk.front0 s.x) _ sz cb (Mk.interpB s.x) v1 hP3.fi hP3.size (by omega) (by omega) (hmk.rd) (by obtain ⟨g, e9, h4, -⟩ := hmk.at_; rw [e9]; intro e; injection e with e; have h9 : g = gF := e; have := (unhide HP2).fi.blk.lt; omega) (by obtain ⟨g, e9, h4, -⟩ := hmk.at_; rw [e9]; intro k hk e; injection hk with hk; have h9 : g = k := hk; have := ((unhide HP2).fi.lt k e).2; omega))
          have HP3 := hide hP3
          have Hsl := hide hsl
          clear hP3 hmk hsd hss hv1 hfr0 hn0 hsz hsl
          rw [hcv]
          clear hcv
          go_wp2_with fail
          refine ((unhide KP) _).mono ?_
          rintro e w5 ⟨A5, n5, c5, rfl, hE⟩
          have hP5 := (unhide HP3).front hE
          rw [← (unhide He).1] at hP5
          obtain ⟨p0, hp0⟩ : ∃ p0, (Mk.pad 8 (Mk.front0 s.x)).length = p0 := ⟨_, rfl⟩
          rw [hp0] at hpl ⊢
          have hpb : p0 ≤ 4294967296 := by have := front0_len s.x; have := unhide Hm9; omega
          have Hp0 := hide hp0
          obtain ⟨r2, hr2⟩ : ∃ r2, Mk.rowPhdr s.x = r2 := ⟨_, rfl⟩
          have hr2l : r2.length ≤ 1 := by rw [← hr2]; exact Nat.le_refl _
          rw [hr2] at hP5
          have Hr2 := hide hr2
          obtain ⟨-, -, t2, -⟩ := spec_cellsP (hP5.held _ hgx).1
          have HP5 := hide hP5
          obtain ⟨iz, hiz⟩ : ∃ iz, s.x.interp.size = iz := ⟨_, rfl⟩
          have Hiz := hide hiz
          rw [hiz] at hin
          have hw1 : IntKind.i64.wrap ((iz : Int) + 1) = (iz : Int) + 1 := by rw [IntKind.wrap_i64]; omega
          have hw2 : IntKind.u64.wrap ((iz : Int) + 1) = (iz : Int) + 1 := by rw [IntKind.wrap_u64]; omega
          obtain ⟨Al, hAl⟩ : ∃ Al, Al2 = Al := ⟨_, rfl⟩
          obtain ⟨cl, hcl⟩ : ∃ cl, cl2 = cl := ⟨_, rfl⟩
          rw [hAl, hcl] at HP5
          clear hE KP hp0 hr2 hP5 HP3 hiz HP2 hAl hcl hpl
          go_wp2_with fail
          obtain ⟨r3, hr3⟩ : ∃ r, Mk.inRow s.x 3 p0 (iz + 1) 1 = r := ⟨_, rfl⟩
          have Kr3 : Hid (∀ W, Blk W gx 66 s.l → Calls Tryz.prog 26 #[.int .u64 3, .int .u64 (p0 : Nat), .int .u64 ((iz : Int) + 1), .int .u64 1, .pointer (some ⟨gx, 0, none⟩)] W fun e w' => e = .returned (.agg #[.int .u64 (r3.kind : Nat), .int .u64 (r3.flags : Nat), .int .u64 (r3.off : Nat), .int .u64 (r3.addr : Nat), .int .u64 (r3.fsz : Nat), .int .u64 (r3.msz : Nat), .int .u64 (r3.align : Nat)]) ∧ Below W.heap.size W w') := hide (fun W hW => by have h9 := pin_any s gx 3 p0 (iz + 1) 1 W hW (by omega); rw [hr3] at h9; exact h9)
          have Hr3 := hide hr3
          clear hr3
          refine wp_region_noPanic ?_
          refine wp_region_held_drew (S := fun W => W.cell? ⟨gx, 2, none⟩ = some (.string s.x.interp)) (by kernel_rfl) (t2) (fun HS0 => ?_)
          refine takeD (i := 1) (d := some 77) (v := ?_) rfl rfl (by kernel_rfl) (by kernel_rfl) (by kernel_rfl) (fun _ _ _ h => h) (Or.inl ⟨by rfl, ?y1⟩) HS0 ?_
          case y1 => (intro w' hSw; (try dsimp only at hSw); go_simp; (try with_reducible rfl))
          simp only [Act.put, List.setIfInBounds_toArray, List.set_cons_zero, List.set_cons_succ]
          refine takeD (i := 2) (d := some 78) (v := ?_) rfl rfl (by kernel_rfl) (by kernel_rfl) (by kernel_rfl) (fun _ _ _ h => h) (Or.inl ⟨by rfl, ?y2⟩) HS0 ?_
          case y2 => (intro w' hSw; (try dsimp only at hSw); go_simp; (try with_reducible rfl))
          simp only [Act.put, List.setIfInBounds_toArray, List.set_cons_zero, List.set_cons_succ]
          refine takeD (i := 3) (d := some 79) (v := ?_) rfl rfl (by kernel_rfl) (by kernel_rfl) (by kernel_rfl) (fun _ _ _ h => h) (Or.inl ⟨by rfl, ?y3⟩) HS0 ?_
          case y3 => (intro w' hSw; (try dsimp only at hSw); go_simp; (try with_reducible rfl))
          simp only [Act.put, List.setIfInBounds_toArray, List.set_cons_zero, List.set_cons_succ]
          refine takeD (i := 4) (d := some 80) (v := ?_) rfl rfl (by kernel_rfl) (by kernel_rfl) (by kernel_rfl) (fun _ _ _ h => h) (Or.inl ⟨by rfl, ?y4⟩) HS0 ?_
          case y4 => (intro w' hSw; (try dsimp only at hSw); go_simp; (try with_reducible rfl))
          simp only [Act.put, List.setIfInBounds_toArray, List.set_cons_zero, List.set_cons_succ]
          refine takeD (i := 5) (d := some 81) (v := .int .i64 (iz : Nat)) rfl rfl (by kernel_rfl) (by kernel_rfl) (by kernel_rfl) (fun _ _ _ h => h) (Or.inl ⟨by rfl, ?y5⟩) HS0 ?_
          case y5 => (intro w' hSw; (try dsimp only at hSw); go_simp; (try rw [unhide Hiz]))
          simp only [Act.put, List.setIfInBounds_toArray, List.set_cons_zero, List.set_cons_succ]
          refine takeD (i := 6) (d := some 82) (v := .int .i64 ((iz : Int) + 1)) rfl rfl (by kernel_rfl) (by kernel_rfl) (by kernel_rfl) (fun _ _ _ h => h) (Or.inl ⟨by rfl, ?y6⟩) HS0 ?_
          case y6 => (intro w' hSw; (try dsimp only at hSw); go_simp; (try rw [hw1]))
          simp only [Act.put, List.setIfInBounds_toArray, List.set_cons_zero, List.set_cons_succ]
          refine takeD (i := 7) (d := some 83) (v := .int .u64 ((iz : Int) + 1)) rfl rfl (by kernel_rfl) (by kernel_rfl) (by kernel_rfl) (fun _ _ _ h => h) (Or.inl ⟨by rfl, ?y7⟩) HS0 ?_
          case y7 => (intro w' hSw; (try dsimp only at hSw); go_simp; (try rw [hw2]))
          simp only [Act.put, List.setIfInBounds_toArray, List.set_cons_zero, List.set_cons_succ]
          refine wpAnyH_ready (rs := [0, 8]) (by kernel_rfl) (by simp) ?_
          refine AllReadyH.cons (i := 0) rfl (fun K hK => ?wayL) (AllReadyH.cons (i := 8) rfl (fun K hK => ?wayN) AllReadyH.nil)
          case wayL =>
            rw [if_pos (by rfl)]
            have zl := (show w5.drew.cell? ⟨gl, 0, none⟩ = some (.slice Al r2.length cl) from (unhide HP5).lb.cell (i := 0) rfl)
            go_simp
            refine hK.out _ _ (HS0) (fun hHeld => ?_)
            clear hK K HS0
            have HS0 := hHeld
            clear hHeld
            (try simp only [Act.put, List.setIfInBounds_toArray, List.set_cons_zero, List.set_cons_succ])
            clear zl
            refine wpAnyH_ready (rs := [8]) (by kernel_rfl) (by simp) ?_
            refine AllReadyH.cons (i := 8) rfl (fun K hK => ?_) AllReadyH.nil
            rw [if_pos (by rfl)]
            go_simp
            go_at_call 26
            refine ((unhide Kr3) _ (show Blk w5.drew gx 66 s.l from ((unhide HP5).held _ hgx).1)).mono ?_
            rintro e w7 ⟨rfl, hb7⟩
            have hP7 := (unhide HP5).calm (below_undrew1 hb7)
            refine hK.out _ _ (hP7.cell hgx (i := 2) rfl) (fun hHeld => ?_)
            clear hK K HS0
            have HS0 := hHeld
            clear hHeld
            (try simp only [Act.put, List.setIfInBounds_toArray, List.set_cons_zero, List.set_cons_succ])
            refine wpAnyH_ready (rs := [9]) (by kernel_rfl) (by simp) ?_
            refine AllReadyH.cons (i := 9) rfl (fun K hK => ?_) AllReadyH.nil
            rw [if_pos (by rfl)]
            go_simp
            refine hK.out _ _ ((hP7.calm (below_al _ _)).cell hgx (i := 2) rfl) (fun hHeld => ?_)
            clear hK K HS0
            have HS0 := hHeld
            clear hHeld
            (try simp only [Act.put, List.setIfInBounds_toArray, List.set_cons_zero, List.set_cons_succ])
            refine wpAnyH_ready (rs := [10]) (by kernel_rfl) (by simp) ?_
            refine AllReadyH.cons (i := 10) rfl (fun K hK => ?_) AllReadyH.nil
            rw [if_pos (by rfl)]
            refine wp_app1m mSegTy _ _ rfl w.heap.size (.slice Al r2.length cl) r2.length (rowC r2) rfl hP7.row _ _ rfl (by simp) rfl (rowV_one r3) (by omega) hP7.size ?_
            intro A9p c9p w9 ho5 hg5 ha5
            have hP9 := hP7.push r3 ho5 hg5 ha5
            have zs := (hP7.midL hg5).cell (i := 0) rfl
            have zf := (hP7.midL hg5).free 0
            show K (Act.put _ (some 86) _) _
            refine hK.out _ _ ((hP7.midBlk hg5 hgx).cell (i := 2) rfl) (fun hHeld => ?_)
            clear hK K HS0
            have HS0 := hHeld
            clear hHeld
            (try simp only [Act.put, List.setIfInBounds_toArray, List.set_cons_zero, List.set_cons_succ])
            refine wpAnyH_ready (rs := [11]) (by kernel_rfl) (by simp) ?_
            refine AllReadyH.cons (i := 11) rfl (fun K hK => ?_) AllReadyH.nil
            rw [if_pos (by rfl)]
            go_simp
            refine hK.out _ _ (hP9.cell hgx (i := 2) rfl) (fun hHeld => ?_)
            clear hK K HS0
            have HS0 := hHeld
            clear hHeld
            (try simp only [Act.put, List.setIfInBounds_toArray, List.set_cons_zero, List.set_cons_succ])
            refine wpAnyH_done (by kernel_rfl) ?_ _
            refine NoPanic.normal ?_
            go_wp2_with fail
            go_meet
            case rel => exact ⟨A5, n5, c5, A9p, c9p, _, hP9, by rw [(unhide He).2, unhide Hr2, ← unhide Hr3, unhide Hp0, unhide Hiz]⟩
          case wayN =>
            rw [if_pos (by rfl)]
            go_simp
            go_at_call 26
            refine ((unhide Kr3) _ (show Blk w5.drew gx 66 s.l from ((unhide HP5).held _ hgx).1)).mono ?_
            rintro e w7 ⟨rfl, hb7⟩
            have hP7 := (unhide HP5).calm (below_undrew1 hb7)
            refine hK.out _ _ (hP7.cell hgx (i := 2) rfl) (fun hHeld => ?_)
            clear hK K HS0
            have HS0 := hHeld
            clear hHeld
            (try simp only [Act.put, List.setIfInBounds_toArray, List.set_cons_zero, List.set_cons_succ])
            refine wpAnyH_ready (rs := [0, 9]) (by kernel_rfl) (by simp) ?_
            refine AllReadyH.cons (i := 0) rfl (fun K hK => ?wayL) (AllReadyH.cons (i := 9) rfl (fun K hK => ?wayN) AllReadyH.nil)
            case wayL =>
              rw [if_pos (by rfl)]
              have zl := hP7.lb.cell (i := 0) rfl
              go_simp
              refine hK.out _ _ (HS0) (fun hHeld => ?_)
              clear hK K HS0
              have HS0 := hHeld
              clear hHeld
              (try simp only [Act.put, List.setIfInBounds_toArray, List.set_cons_zero, List.set_cons_succ])
              clear zl
              refine wpAnyH_ready (rs := [9]) (by kernel_rfl) (by simp) ?_
              refine AllReadyH.cons (i := 9) rfl (fun K hK => ?_) AllReadyH.nil
              rw [if_pos (by rfl)]
              go_simp
              refine hK.out _ _ ((hP7.calm (below_al _ _)).cell hgx (i := 2) rfl) (fun hHeld => ?_)
              clear hK K HS0
              have HS0 := hHeld
              clear hHeld
              (try simp only [Act.put, List.setIfInBounds_toArray, List.set_cons_zero, List.set_cons_succ])
              refine wpAnyH_ready (rs := [10]) (by kernel_rfl) (by simp) ?_
              refine AllReadyH.cons (i := 10) rfl (fun K hK => ?_) AllReadyH.nil
              rw [if_pos (by rfl)]
              refine wp_app1m mSegTy _ _ rfl w.heap.size (.slice Al r2.length cl) r2.length (rowC r2) rfl hP7.row _ _ rfl (by simp) rfl (rowV_one r3) (by omega) hP7.size ?_
              intro A9p c9p w9 ho5 hg5 ha5
              have hP9 := hP7.push r3 ho5 hg5 ha5
              have zs := (hP7.midL hg5).cell (i := 0) rfl
              have zf := (hP7.midL hg5).free 0
              show K (Act.put _ (some 86) _) _
              refine hK.out _ _ ((hP7.midBlk hg5 hgx).cell (i := 2) rfl) (fun hHeld => ?_)
              clear hK K HS0
              have HS0 := hHeld
              clear hHeld
              (try simp only [Act.put, List.setIfInBounds_toArray, List.set_cons_zero, List.set_cons_succ])
              refine wpAnyH_ready (rs := [11]) (by kernel_rfl) (by simp) ?_
              refine AllReadyH.cons (i := 11) rfl (fun K hK => ?_) AllReadyH.nil
              rw [if_pos (by rfl)]
              go_simp
              refine hK.out _ _ (hP9.cell hgx (i := 2) rfl) (fun hHeld => ?_)
              clear hK K HS0
              have HS0 := hHeld
              clear hHeld
              (try simp only [Act.put, List.setIfInBounds_toArray, List.set_cons_zero, List.set_cons_succ])
              refine wpAnyH_done (by kernel_rfl) ?_ _
              refine NoPanic.normal ?_
              go_wp2_with fail
              go_meet
              case rel => exact ⟨A5, n5, c5, A9p, c9p, _, hP9, by rw [(unhide He).2, unhide Hr2, ← unhide Hr3, unhide Hp0, unhide Hiz]⟩
            case wayN =>
              rw [if_pos (by rfl)]
              go_simp
              refine hK.out _ _ ((hP7.calm (below_al _ _)).cell hgx (i := 2) rfl) (fun hHeld => ?_)
              clear hK K HS0
              have HS0 := hHeld
              clear hHeld
              (try simp only [Act.put, List.setIfInBounds_toArray, List.set_cons_zero, List.set_cons_succ])
              refine wpAnyH_ready (rs := [0]) (by kernel_rfl) (by simp) ?_
              refine AllReadyH.cons (i := 0) rfl (fun K hK => ?_) AllReadyH.nil
              rw [if_pos (by rfl)]
              have zl := fun c => (hP7.calm (below_al w7 c)).lb.cell (i := 0) rfl
              go_simp
              refine hK.out _ _ (HS0) (fun hHeld => ?_)
              clear hK K HS0
              have HS0 := hHeld
              clear hHeld
              (try simp only [Act.put, List.setIfInBounds_toArray, List.set_cons_zero, List.set_cons_succ])
              clear zl
              refine wpAnyH_ready (rs := [10]) (by kernel_rfl) (by simp) ?_
              refine AllReadyH.cons (i := 10) rfl (fun K hK => ?_) AllReadyH.nil
              rw [if_pos (by rfl)]
              refine wp_app1m mSegTy _ _ rfl w.heap.size (.slice Al r2.length cl) r2.length (rowC r2) rfl hP7.row _ _ rfl (by simp) rfl (rowV_one r3) (by omega) hP7.size ?_
              intro A9p c9p w9 ho5 hg5 ha5
              have hP9 := hP7.push r3 ho5 hg5 ha5
              have zs := (hP7.midL hg5).cell (i := 0) rfl
              have zf := (hP7.midL hg5).free 0
              show K (Act.put _ (some 86) _) _
              refine hK.out _ _ ((hP7.midBlk hg5 hgx).cell (i := 2) rfl) (fun hHeld => ?_)
              clear hK K HS0
              have HS0 := hHeld
              clear hHeld
              (try simp only [Act.put, List.setIfInBounds_toArray, List.set_cons_zero, List.set_cons_succ])
              refine wpAnyH_ready (rs := [11]) (by kernel_rfl) (by simp) ?_
              refine AllReadyH.cons (i := 11) rfl (fun K hK => ?_) AllReadyH.nil
              rw [if_pos (by rfl)]
              go_simp
              refine hK.out _ _ (hP9.cell hgx (i := 2) rfl) (fun hHeld => ?_)
              clear hK K HS0
              have HS0 := hHeld
              clear hHeld
              (try simp only [Act.put, List.setIfInBounds_toArray, List.set_cons_zero, List.set_cons_succ])
              refine wpAnyH_done (by kernel_rfl) ?_ _
              refine NoPanic.normal ?_
              go_wp2_with fail
              go_meet
              case rel => exact ⟨A5, n5, c5, A9p, c9p, _, hP9, by rw [(unhide He).2, unhide Hr2, ← unhide Hr3, unhide Hp0, unhide Hiz]⟩
      case rest =>
        obtain ⟨Af5, nf5, cf5, Al5, cl5, rs5, hP, hrs⟩ := hcut
        go_step
        exact pmakeB s gF gl gx nf5 cf5 cl5 B Af5 Al5 rs5 H w wc hB (unhide Hx) hP hgx hrs (unhide Hmay) (unhide Hf) (unhide HM) _ _ _ _ _ _ _ _ _ _ _ _ _ _ _ _ _ _ _ _ _ _ _ _ _ _ _ _ _ _ _ _ _ _ _ _ _ _ _ _ _ _ _ _ _ _ _ _ _ _ _ _ _ _ _ _ _ _ _ _ _ _ _ _ _ _ _ _ _ _ _ _ _ _ _ _ _ _ _ _ _ _ _ _ _ _ _ _ _ _ _ _ _ _ _ _ _ _ _ _ _ _ _ _ _ _ _ _ _ _ _ _ _ _ _ _ _ _ _ _ _ _ _ _ _ _ _ _ _ _ _ _ _ _ _ _ _ _ _ _ _ _ _ _ _ _ _ _ _ _ _ _ _ _ _ _ _ _ _ _ _ _ _ _ _
end Go.Proofs.YtnbecdahfgkffaaGreat
namespace Go.Proofs.YtnbecdahfgkffaaGreat.Mk
open Cl (lb lb_len le_lb)
def sg (r : Row) : El.Sg := ⟨r.kind, r.flags, r.off, r.addr, r.fsz, r.msz⟩
theorem num_at {b P S : List UInt8} {v n p : Nat} (h : b = P ++ (lb v n ++ S)) (hp : P.length = p) (hv : v < 256 ^ n) : Wd.num b p n = v := by
  subst h hp
  unfold Wd.num
  rw [List.drop_left, List.take_left' (lb_len n v), le_lb n v hv]
structure RowFit (r : Row) : Prop where
  kind : r.kind < 4294967296
  flags : r.flags < 4294967296
  off : r.off < 18446744073709551616
  addr : r.addr < 18446744073709551616
  fsz : r.fsz < 18446744073709551616
  msz : r.msz < 18446744073709551616
  align : r.align < 18446744073709551616
theorem seg_row {b P S : List UInt8} {r : Row} {p : Nat} (h : b = P ++ (rowB r ++ S)) (hp : P.length = p) (hr : RowFit r) : El.segAt b p = sg r ∧ Wd.num b (p + 48) 8 = r.align := by
  subst hp
  obtain ⟨h1, h2, h3, h4, h5, h6, h7⟩ := hr
  have hb : b = P ++ (lb r.kind 4 ++ (lb r.flags 4 ++ (lb r.off 8 ++ (lb r.addr 8 ++ (lb r.addr 8 ++ (lb r.fsz 8 ++ (lb r.msz 8 ++ (lb r.align 8 ++ S)))))))) := by rw [h]; unfold rowB; simp only [List.append_assoc]
  have e1 := num_at (P := P) (n := 4) hb rfl (by omega)
  have e2 := num_at (b := b) (P := P ++ lb r.kind 4) (n := 4) (p := P.length + 4) (v := r.flags) (by rw [hb]; simp only [List.append_assoc]; rfl) (by simp [lb_len]) (by omega)
  have e3 := num_at (b := b) (P := P ++ lb r.kind 4 ++ lb r.flags 4) (n := 8) (p := P.length + 8) (v := r.off) (by rw [hb]; simp only [List.append_assoc]; rfl) (by simp [lb_len]) (by omega)
  have e4 := num_at (b := b) (P := P ++ lb r.kind 4 ++ lb r.flags 4 ++ lb r.off 8) (n := 8) (p := P.length + 16) (v := r.addr) (by rw [hb]; simp only [List.append_assoc]; rfl) (by simp [lb_len]) (by omega)
  have e5 := num_at (b := b) (P := P ++ lb r.kind 4 ++ lb r.flags 4 ++ lb r.off 8 ++ lb r.addr 8 ++ lb r.addr 8) (n := 8) (p := P.length + 32) (v := r.fsz) (by rw [hb]; simp only [List.append_assoc]; rfl) (by simp [lb_len]) (by omega)
  have e6 := num_at (b := b) (P := P ++ lb r.kind 4 ++ lb r.flags 4 ++ lb r.off 8 ++ lb r.addr 8 ++ lb r.addr 8 ++ lb r.fsz 8) (n := 8) (p := P.length + 40) (v := r.msz) (by rw [hb]; simp only [List.append_assoc]; rfl) (by simp [lb_len]) (by omega)
  have e7 := num_at (b := b) (P := P ++ lb r.kind 4 ++ lb r.flags 4 ++ lb r.off 8 ++ lb r.addr 8 ++ lb r.addr 8 ++ lb r.fsz 8 ++ lb r.msz 8) (n := 8) (p := P.length + 48) (v := r.align) (by rw [hb]; simp only [List.append_assoc]; rfl) (by simp [lb_len]) (by omega)
  refine ⟨?_, e7⟩
  unfold El.segAt sg
  rw [e1, e2, e3, e4, e5, e6]
theorem rowsB_at {l : List Row} {i : Nat} {r : Row} (h : l[i]? = some r) : rowsB l = rowsB (l.take i) ++ (rowB r ++ rowsB (l.drop (i + 1))) ∧ (rowsB (l.take i)).length = 56 * i := by
  obtain ⟨hi, hr⟩ := List.getElem?_eq_some_iff.1 h
  constructor
  · have e : l = l.take i ++ (r :: l.drop (i + 1)) := by rw [← hr, ← List.drop_eq_getElem_cons hi, List.take_append_drop]
    conv => lhs; rw [e]
    unfold rowsB
    rw [List.flatMap_append, List.flatMap_cons]
  · rw [rowsB_len, List.length_take]
    omega
theorem file_head (x : Spec) : Mk.file x = head x (rows x) ++ (out2 x).drop (head x (rows x)).length := by
  unfold Mk.file over
  simp
theorem head_shape (x : Spec) (S : List UInt8) : head x (rows x) ++ S = magic ++ (lb x.type 2 ++ (lb 62 2 ++ (lb 1 4 ++ (lb x.entry 8 ++ (lb 64 8 ++ (lb 0 8 ++ (lb 0 4 ++ (lb 64 2 ++ (lb 56 2 ++ (lb (rows x).length 2 ++ (lb 64 2 ++ (lb 0 2 ++ (lb 0 2 ++ (rowsB (rows x) ++ S)))))))))))))) := by
  unfold head
  simp only [List.append_assoc]
theorem head_nums {b S : List UInt8} {x : Spec} (hb : b = head x (rows x) ++ S) (ht : x.type < 65536) (he : x.entry < 18446744073709551616) (hr : (rows x).length < 65536) :
    Wd.num b 16 2 = x.type ∧ Wd.num b 18 2 = 62 ∧ Wd.num b 20 4 = 1 ∧ Wd.num b 24 8 = x.entry ∧ Wd.num b 32 8 = 64 ∧ Wd.num b 54 2 = 56 ∧ Wd.num b 56 2 = (rows x).length := by
  rw [head_shape] at hb
  have hm : magic.length = 16 := rfl
  refine ⟨num_at (P := magic) hb rfl (by omega), num_at (P := magic ++ lb x.type 2) (S := ?_) (by rw [hb]; simp only [List.append_assoc]; rfl) (by simp [lb_len, hm]) (by omega), num_at (P := magic ++ lb x.type 2 ++ lb 62 2) (by rw [hb]; simp only [List.append_assoc]; rfl) (by simp [lb_len, hm]) (by omega), num_at (P := magic ++ lb x.type 2 ++ lb 62 2 ++ lb 1 4) (by rw [hb]; simp only [List.append_assoc]; rfl) (by simp [lb_len, hm]) (by omega), num_at (P := magic ++ lb x.type 2 ++ lb 62 2 ++ lb 1 4 ++ lb x.entry 8) (by rw [hb]; simp only [List.append_assoc]; rfl) (by simp [lb_len, hm]) (by omega),
    num_at (P := magic ++ lb x.type 2 ++ lb 62 2 ++ lb 1 4 ++ lb x.entry 8 ++ lb 64 8 ++ lb 0 8 ++ lb 0 4 ++ lb 64 2) (by rw [hb]; simp only [List.append_assoc]; rfl) (by simp [lb_len, hm]) (by omega), num_at (P := magic ++ lb x.type 2 ++ lb 62 2 ++ lb 1 4 ++ lb x.entry 8 ++ lb 64 8 ++ lb 0 8 ++ lb 0 4 ++ lb 64 2 ++ lb 56 2) (by rw [hb]; simp only [List.append_assoc]; rfl) (by simp [lb_len, hm]) (by omega)⟩
theorem head_seg {b S : List UInt8} {x : Spec} (hb : b = head x (rows x) ++ S) {i : Nat} {r : Row} (h : (rows x)[i]? = some r) (hr : RowFit r) : El.segAt b (64 + i * 56) = sg r ∧ Wd.num b (64 + i * 56 + 48) 8 = r.align := by
  obtain ⟨h1, h2⟩ := rowsB_at h
  rw [head_shape, h1] at hb
  refine seg_row (P := magic ++ lb x.type 2 ++ lb 62 2 ++ lb 1 4 ++ lb x.entry 8 ++ lb 64 8 ++ lb 0 8 ++ lb 0 4 ++ lb 64 2 ++ lb 56 2 ++ lb (rows x).length 2 ++ lb 64 2 ++ lb 0 2 ++ lb 0 2 ++ rowsB ((rows x).take i)) (S := rowsB ((rows x).drop (i + 1)) ++ S) (by rw [hb]; simp only [List.append_assoc]) ?_ hr
  have hm : magic.length = 16 := rfl
  simp [lb_len, hm, h2]
  omega
theorem head_prefix {b S : List UInt8} {x : Spec} (hb : b = head x (rows x) ++ S) : Lib.hasPrefix b El.magic = true := by
  rw [head_shape] at hb
  unfold Lib.hasPrefix
  rw [List.isPrefixOf_iff_prefix, hb]
  exact ⟨[1, 0, 0, 0, 0, 0, 0, 0, 0].drop 0 |> fun _ => _, rfl⟩
end Go.Proofs.YtnbecdahfgkffaaGreat.Mk
namespace Go.Proofs.YtnbecdahfgkffaaGreat.Mk
open Cl (lb lb_len le_lb)
theorem base_cases (x : Spec) : (base x = 4194304 ∧ x.type = 2) ∨ (base x = 0 ∧ x.type ≠ 2) := by
  unfold base
  split
  · exact .inl ⟨rfl, ‹_›⟩
  · exact .inr ⟨rfl, ‹_›⟩
theorem pad_mod (f : List UInt8) : (pad 4096 f).length % 4096 = 0 := by rw [pad_up]; exact Nat.mul_mod_left _ _
structure Made (x : Spec) : Prop where
  ok : MayOk x
  entry : x.entry < 18446744073709551616
  f2 : (front2 x).length ≤ 65536
  o2 : (out2 x).length ≤ 65536
section
variable {x : Spec}
theorem file_len (x : Spec) : (Mk.file x).length = (out2 x).length := by
  unfold Mk.file
  refine over_len _ _ _ ?_
  rw [head_len, rows_len]
  have h1 := front0_len x
  have h2 := (front1_len x).1
  have h3 := front2_len x
  have h4 := out1_ge x
  have h5 := out2_ge x
  omega
structure RowG (x : Spec) (r : Row) : Prop where
  fit : RowFit r
  flags : r.flags ≤ 7
  le : r.fsz ≤ r.msz
  inn : r.off + r.fsz ≤ (out2 x).length
  end_ : r.addr + r.msz ≤ 4294967296
  kind : r.kind = 1 ∨ r.kind = 2 ∨ r.kind = 3 ∨ r.kind = 6
  load : r.kind = 1 → r.align = 4096 ∧ r.off % 4096 = r.addr % 4096 ∧ 0 < r.msz
theorem inRow_g {k off sz al : Nat} (h : Made x) (hk : k = 1 ∨ k = 2 ∨ k = 3 ∨ k = 6) (hin : off + sz ≤ (out2 x).length) (hal : al ≤ 4096) (h1 : k = 1 → al = 4096 ∧ off % 4096 = 0 ∧ 0 < sz) : RowG x (inRow x k off sz al) := by
  have h2 := h.o2
  have hb := base_cases x
  unfold inRow
  refine ⟨⟨?_, ?_, ?_, ?_, ?_, ?_, ?_⟩, ?_, ?_, hin, ?_, hk, fun e => ?_⟩
  all_goals first | (show k < _; omega) | (show (4 : Nat) < _; omega) | (show off < _; omega) | (show base x + off < _; omega) | (show sz < _; omega) | (show al < _; omega) | (show (4 : Nat) ≤ 7; omega) | (show sz ≤ sz; omega) | (show base x + off + sz ≤ _; omega) | skip
  obtain ⟨q1, q2, q3⟩ := h1 e
  refine ⟨q1, ?_, q3⟩
  show off % 4096 = (base x + off) % 4096
  omega
theorem lens (x : Spec) : (front0 x).length = 64 + 56 * many x ∧ (front0 x).length ≤ (front1 x).length ∧ (front1 x).length ≤ (front2 x).length ∧ (front2 x).length ≤ (out1 x).length ∧ (out1 x).length ≤ (out2 x).length := ⟨front0_len x, (front1_len x).1, front2_len x, out1_ge x, out2_ge x⟩
theorem phdr_g (h : Made x) : ∀ r ∈ rowPhdr x, RowG x r := by
  intro r hr
  rw [List.mem_singleton.1 hr]
  have := lens x
  exact inRow_g h (by omega) (by omega) (by omega) (by omega)
theorem interp_in (hi : isInterp x = true) : (pad 8 (front0 x)).length + (x.interp.size + 1) = (front1 x).length := by
  unfold front1
  rw [if_pos hi, List.length_append, interpB_len]
theorem interp_g (h : Made x) : ∀ r ∈ rowInterp x, RowG x r := by
  intro r hr
  unfold rowInterp at hr
  split at hr
  · rename_i hi
    rw [List.mem_singleton.1 hr]
    have := lens x
    have h2 := interp_in hi
    exact inRow_g h (by omega) (by omega) (by omega) (by omega)
  · cases hr
theorem first_g (h : Made x) : ∀ r ∈ rowFirst x, RowG x r := by
  intro r hr
  rw [List.mem_singleton.1 hr]
  have := lens x
  exact inRow_g h (by omega) (by omega) (by omega) (fun _ => ⟨rfl, rfl, by omega⟩)
theorem room_in (hd : x.dynamic = true) : (pad 8 (front1 x)).length + room x ≤ (front2 x).length := by
  unfold front2
  rw [if_pos hd, section_len]
  have h1 := laid_len1 x (front1 x)
  have h2 : (st0 x (front1 x)).1.length = (pad 8 (front1 x)).length + room x := by unfold st0; rw [List.length_append, zs_len]
  omega
theorem dyn_g (h : Made x) : ∀ r ∈ rowDyn x, RowG x r := by
  intro r hr
  unfold rowDyn at hr
  split at hr
  · rename_i hd
    rw [List.mem_singleton.1 hr]
    have := lens x
    have h2 := room_in hd
    exact inRow_g h (by omega) (by omega) (by omega) (by omega)
  · cases hr
theorem text_in (hi : isText x = true) : (pad 4096 (front2 x)).length + x.text.length = (out1 x).length := by
  unfold out1
  rw [if_pos hi, List.length_append]
theorem text_g (h : Made x) : ∀ r ∈ rowText x, RowG x r := by
  intro r hr
  unfold rowText at hr
  split at hr
  · rename_i hi
    rw [List.mem_singleton.1 hr]
    have := lens x
    have h2 := text_in hi
    have h3 := h.o2
    have h4 := pad_mod (front2 x)
    have h5 : 0 < x.text.length := by unfold isText at hi; exact of_decide_eq_true hi
    have hb := base_cases x
    exact ⟨⟨by show (1 : Nat) < _; omega, by show (5 : Nat) < _; omega, by show (pad 4096 (front2 x)).length < _; omega, by show base x + 65536 < _; omega, by show x.text.length < _; omega, by show x.text.length < _; omega, by show (4096 : Nat) < _; omega⟩, by show (5 : Nat) ≤ 7; omega, Nat.le_refl _, by show (pad 4096 (front2 x)).length + x.text.length ≤ _; omega, by show base x + 65536 + x.text.length ≤ _; omega, .inl rfl, fun _ => ⟨rfl, by show (pad 4096 (front2 x)).length % 4096 = (base x + 65536) % 4096; omega, h5⟩⟩
  · cases hr
theorem data_in (hi : isData x = true) : (pad 4096 (out1 x)).length + x.data.length = (out2 x).length := by
  unfold out2
  rw [if_pos hi, List.length_append]
theorem data_g (h : Made x) : ∀ r ∈ rowData x, RowG x r := by
  intro r hr
  unfold rowData at hr
  split at hr
  · rename_i hi
    rw [List.mem_singleton.1 hr]
    have := lens x
    have h2 := data_in hi
    have h3 := h.o2
    have h4 := pad_mod (out1 x)
    have h6 := h.ok.more
    have h5 : 0 < x.data.length + x.more := by unfold isData at hi; simp at hi; omega
    have hb := base_cases x
    exact ⟨⟨by show (1 : Nat) < _; omega, by show (6 : Nat) < _; omega, by show (pad 4096 (out1 x)).length < _; omega, by show base x + 131072 < _; omega, by show x.data.length < _; omega, by show x.data.length + x.more < _; omega, by show (4096 : Nat) < _; omega⟩, by show (6 : Nat) ≤ 7; omega, Nat.le_add_right _ _, by show (pad 4096 (out1 x)).length + x.data.length ≤ _; omega, by show base x + 131072 + (x.data.length + x.more) ≤ _; omega, .inl rfl, fun _ => ⟨rfl, by show (pad 4096 (out1 x)).length % 4096 = (base x + 131072) % 4096; omega, h5⟩⟩
  · cases hr
theorem rows_g (h : Made x) : ∀ r ∈ rows x, RowG x r := by
  intro r hr
  unfold rows at hr
  simp only [List.mem_append] at hr
  rcases hr with ((((hr | hr) | hr) | hr) | hr) | hr
  · exact phdr_g h r hr
  · exact interp_g h r hr
  · exact first_g h r hr
  · exact text_g h r hr
  · exact data_g h r hr
  · exact dyn_g h r hr
theorem loads_app (a b : List El.Sg) : El.loads (a ++ b) = El.loads a ++ El.loads b := by unfold El.loads; exact List.filter_append _ _
theorem loads_rows (x : Spec) : El.loads ((rows x).map sg) = (rowFirst x ++ rowText x ++ rowData x).map sg := by
  unfold rows
  simp only [List.map_append, loads_app]
  have e1 : El.loads ((rowPhdr x).map sg) = [] := rfl
  have e2 : El.loads ((rowInterp x).map sg) = [] := by unfold rowInterp; split <;> rfl
  have e3 : El.loads ((rowFirst x).map sg) = (rowFirst x).map sg := rfl
  have e4 : El.loads ((rowText x).map sg) = (rowText x).map sg := by unfold rowText; split <;> rfl
  have e5 : El.loads ((rowData x).map sg) = (rowData x).map sg := by unfold rowData; split <;> rfl
  have e6 : El.loads ((rowDyn x).map sg) = [] := by unfold rowDyn; split <;> rfl
  rw [e1, e2, e3, e4, e5, e6]
  simp
theorem rises_loads (l : List El.Sg) : ∀ t, El.rises l t = El.rises (El.loads l) t := by
  induction l with
  | nil => intro t; rfl
  | cons s r ih =>
    intro t
    unfold El.loads at ih ⊢
    by_cases e : El.isLoad s = true
    · rw [List.filter_cons_of_pos e, El.rises, El.rises, if_pos e, if_pos e, ih]
    · rw [List.filter_cons_of_neg e, El.rises, if_neg e, ih]
theorem up_le {a b : Nat} (h : a ≤ b) (hb : b % 4096 = 0) : El.up a ≤ b := by unfold El.up; omega
theorem rises_rows (h : Made x) : El.rises ((rows x).map sg) 0 = true := by
  rw [rises_loads, loads_rows]
  have hb := base_cases x
  have hf := h.f2
  have ht := h.ok.text
  have hm := h.ok.more
  have u1 : El.up (base x + 0 + (front2 x).length) ≤ base x + 65536 := up_le (by omega) (by omega)
  have u2 : El.up (base x + 65536 + x.text.length) ≤ base x + 131072 := up_le (by omega) (by omega)
  have first : ∀ l, El.rises ((rowFirst x).map sg ++ l) 0 = El.rises l (El.up (base x + 0 + (front2 x).length)) := by
    intro l
    show El.rises (sg (inRow x 1 0 (front2 x).length 4096) :: l) 0 = _
    rw [El.rises, if_pos (by rfl)]
    show (decide (0 ≤ _) && _) = _
    rw [decide_eq_true (Nat.zero_le _), Bool.true_and]
    rfl
  have text : ∀ l t, t ≤ base x + 65536 → El.rises l (El.up (base x + 65536 + x.text.length)) = true → El.rises ((⟨1, 5, (pad 4096 (front2 x)).length, base x + 65536, x.text.length, x.text.length⟩ : El.Sg) :: l) t = true := by
    intro l t h1 h2
    rw [El.rises, if_pos (by rfl)]
    show (decide (t ≤ base x + 65536) && _) = true
    rw [decide_eq_true h1, Bool.true_and]
    exact h2
  have data : ∀ t, t ≤ base x + 131072 → El.rises [(⟨1, 6, (pad 4096 (out1 x)).length, base x + 131072, x.data.length, x.data.length + x.more⟩ : El.Sg)] t = true := by
    intro t h1
    rw [El.rises, if_pos (by rfl)]
    show (decide (t ≤ base x + 131072) && _) = true
    rw [decide_eq_true h1, Bool.true_and]
    rfl
  rw [List.map_append, List.map_append, List.append_assoc, first]
  unfold rowText rowData
  cases isText x <;> cases isData x
  · rfl
  · exact data _ (by omega)
  · exact text _ _ u1 rfl
  · exact text _ _ u1 (data _ u2)
end
end Go.Proofs.YtnbecdahfgkffaaGreat.Mk
namespace Go.Proofs.YtnbecdahfgkffaaGreat.Mk
open Cl (lb lb_len le_lb)
theorem w64_zero {a : Nat} (h : a < 18446744073709551616) : El.w64 a 0 = a := by unfold El.w64; omega
theorem w64_sub {a b : Nat} (h : a < 18446744073709551616) (hb : b ≤ a) : El.w64 a b = a - b := by unfold El.w64; omega
section
variable {x : Spec}
def hd (x : Spec) : El.Hd := ⟨x.type, x.entry, 64, (rows x).map sg⟩
theorem filled_in (h : Made x) {k off sz al : Nat} (hin : off + sz ≤ (front2 x).length) : El.filled (hd x) (sg (inRow x k off sz al)) = true := by
  have hf := h.f2
  have hb := base_cases x
  have e1 : El.holds (sg (inRow x k off sz al)) (sg (inRow x 1 0 (front2 x).length 4096)) = true := by
    unfold El.holds
    show (decide (base x + 0 ≤ base x + off) && decide (base x + off - (base x + 0) + sz ≤ (front2 x).length)) = true
    rw [decide_eq_true (by omega), decide_eq_true (by omega)]
    rfl
  unfold El.filled
  have e2 : (El.loads (hd x).segs).find? (El.holds (sg (inRow x k off sz al))) = some (sg (inRow x 1 0 (front2 x).length 4096)) := by
    show (El.loads ((rows x).map sg)).find? _ = _
    rw [loads_rows, List.map_append, List.map_append, List.append_assoc]
    show (sg (inRow x 1 0 (front2 x).length 4096) :: _).find? _ = _
    rw [List.find?_cons_of_pos e1]
  rw [e2]
  show (El.w64 off 0 == base x + off - (base x + 0)) = true
  rw [w64_zero (by omega), beq_iff_eq]
  omega
theorem chk_size {s : ByteArray} (h : Pth.chk s = 0) : s.size ≤ 200 := by
  unfold Pth.chk at h
  split at h
  · cases h
  · split at h
    · cases h
    · omega
theorem whole_seg (h : Made x) : ∀ r ∈ rows x, El.segWhole (hd x) (sg r) = true := by
  intro r hr
  have hl := lens x
  unfold rows at hr
  simp only [List.mem_append] at hr
  rcases hr with ((((hr | hr) | hr) | hr) | hr) | hr
  · rw [List.mem_singleton.1 hr]
    unfold El.segWhole
    rw [if_pos (by rfl)]
    exact filled_in h (by omega)
  · unfold rowInterp at hr
    split at hr
    · rename_i hi
      rw [List.mem_singleton.1 hr]
      unfold El.segWhole
      show (if (false : Bool) = true then _ else if (true : Bool) = true then _ else _) = true
      rw [if_neg (by decide), if_pos rfl]
      have h1 := chk_size (h.ok.interp (by unfold isInterp at hi; simpa using hi))
      show (decide (0 < x.interp.size + 1) && decide (x.interp.size + 1 ≤ 201)) = true
      rw [decide_eq_true (by omega), decide_eq_true (by omega)]
      rfl
    · cases hr
  · rw [List.mem_singleton.1 hr]
    rfl
  · unfold rowText at hr
    split at hr
    · rw [List.mem_singleton.1 hr]; rfl
    · cases hr
  · unfold rowData at hr
    split at hr
    · rw [List.mem_singleton.1 hr]; rfl
    · cases hr
  · unfold rowDyn at hr
    split at hr
    · rename_i hd'
      rw [List.mem_singleton.1 hr]
      unfold El.segWhole
      rw [if_pos (by rfl)]
      exact filled_in h (room_in hd')
    · cases hr
theorem count_app (a b : List El.Sg) (k : Nat) : El.countK (a ++ b) k = El.countK a k + El.countK b k := by unfold El.countK; rw [List.filter_append, List.length_append]
theorem counts (x : Spec) : 0 < El.countK ((rows x).map sg) 1 ∧ El.countK ((rows x).map sg) 2 < 2 ∧ El.countK ((rows x).map sg) 3 < 2 ∧ El.countK ((rows x).map sg) 6 < 2 := by
  unfold rows
  simp only [List.map_append, count_app]
  have a1 : El.countK ((rowPhdr x).map sg) 1 = 0 ∧ El.countK ((rowPhdr x).map sg) 2 = 0 ∧ El.countK ((rowPhdr x).map sg) 3 = 0 ∧ El.countK ((rowPhdr x).map sg) 6 = 1 := ⟨rfl, rfl, rfl, rfl⟩
  have a2 : El.countK ((rowInterp x).map sg) 1 = 0 ∧ El.countK ((rowInterp x).map sg) 2 = 0 ∧ El.countK ((rowInterp x).map sg) 3 ≤ 1 ∧ El.countK ((rowInterp x).map sg) 6 = 0 := by
    unfold rowInterp
    split
    · exact ⟨rfl, rfl, Nat.le_refl 1, rfl⟩
    · exact ⟨rfl, rfl, Nat.zero_le 1, rfl⟩
  have a3 : El.countK ((rowFirst x).map sg) 1 = 1 ∧ El.countK ((rowFirst x).map sg) 2 = 0 ∧ El.countK ((rowFirst x).map sg) 3 = 0 ∧ El.countK ((rowFirst x).map sg) 6 = 0 := ⟨rfl, rfl, rfl, rfl⟩
  have a4 : El.countK ((rowText x).map sg) 2 = 0 ∧ El.countK ((rowText x).map sg) 3 = 0 ∧ El.countK ((rowText x).map sg) 6 = 0 := by unfold rowText; split <;> exact ⟨rfl, rfl, rfl⟩
  have a5 : El.countK ((rowData x).map sg) 2 = 0 ∧ El.countK ((rowData x).map sg) 3 = 0 ∧ El.countK ((rowData x).map sg) 6 = 0 := by unfold rowData; split <;> exact ⟨rfl, rfl, rfl⟩
  have a6 : El.countK ((rowDyn x).map sg) 2 ≤ 1 ∧ El.countK ((rowDyn x).map sg) 3 = 0 ∧ El.countK ((rowDyn x).map sg) 6 = 0 := by
    unfold rowDyn
    split
    · exact ⟨Nat.le_refl 1, rfl, rfl⟩
    · exact ⟨Nat.zero_le 1, rfl, rfl⟩
  omega
theorem enters_hd (h : Made x) : El.enters (hd x) = true := by
  have h1 := h.ok.enters
  unfold Mk.enters at h1
  unfold El.enters
  rw [Bool.or_eq_true] at h1 ⊢
  rcases h1 with h1 | h1
  · refine .inr ?_
    unfold within at h1
    rw [Bool.and_eq_true, decide_eq_true_eq, decide_eq_true_eq] at h1
    have hi : isText x = true := by unfold isText; exact decide_eq_true (by omega)
    have hr : (⟨1, 5, (pad 4096 (front2 x)).length, base x + 65536, x.text.length, x.text.length, 4096⟩ : Row) ∈ rows x := by
      unfold rows rowText
      rw [if_pos hi]
      simp
    rw [List.any_eq_true]
    refine ⟨sg _, List.mem_map.2 ⟨_, hr, rfl⟩, ?_⟩
    unfold El.entersBy
    have e9 : decide (El.w64 (hd x).entry (base x + 65536) < x.text.length) = true := by
      show decide (El.w64 x.entry (base x + 65536) < x.text.length) = true
      rw [w64_sub h.entry h1.1]
      exact decide_eq_true h1.2
    show (_ && (_ && decide (El.w64 (hd x).entry (base x + 65536) < x.text.length))) = true
    rw [e9]
    simp [sg, El.isLoad]
  · refine .inl ?_
    rw [Bool.and_eq_true, decide_eq_true_eq, decide_eq_true_eq] at h1
    show (x.type == 3 && x.entry == 0) = true
    rw [h1.1, h1.2]
    rfl
theorem wholeOk_hd (h : Made x) : El.wholeOk (hd x) = true := by
  obtain ⟨c1, c2, c3, c4⟩ := counts x
  unfold El.wholeOk
  have e1 : (hd x).segs.all (El.segWhole (hd x)) = true := by
    rw [List.all_eq_true]
    intro s hs
    obtain ⟨r, hr, rfl⟩ := List.mem_map.1 hs
    exact whole_seg h r hr
  rw [e1]
  show (true && (decide (0 < El.countK ((rows x).map sg) 1) && decide (El.countK ((rows x).map sg) 2 < 2) && decide (El.countK ((rows x).map sg) 3 < 2) && decide (El.countK ((rows x).map sg) 6 < 2) && El.enters (hd x))) = true
  rw [decide_eq_true c1, decide_eq_true c2, decide_eq_true c3, decide_eq_true c4, enters_hd h]
  rfl
theorem segs_file {b S : List UInt8} (h : Made x) (hb : b = head x (rows x) ++ S) : El.segsOf b (rows x).length = (rows x).map sg := by
  have hty : x.type < 65536 := by have := h.ok.type; omega
  have hrl : (rows x).length < 65536 := by rw [rows_len]; have := many_ge x; omega
  obtain ⟨n1, n2, n3, n4, n5, n6, n7⟩ := head_nums hb hty h.entry hrl
  unfold El.segsOf
  rw [n5]
  apply List.ext_getElem?
  intro i
  rw [List.getElem?_map, List.getElem?_map]
  by_cases hi : i < (rows x).length
  · have hr : (rows x)[i]? = some (rows x)[i] := List.getElem?_eq_getElem hi
    rw [List.getElem?_range hi, hr]
    have hg := rows_g h _ (List.getElem_mem hi)
    show some (El.segAt b (64 + i * 56)) = some (sg (rows x)[i])
    rw [(head_seg hb hr hg.fit).1]
  · rw [List.getElem?_eq_none (by simpa using hi), List.getElem?_eq_none (by omega)]
    rfl
theorem parse_file (h : Made x) : El.parse (Mk.file x) = (0, hd x) := by
  have hb := file_head x
  obtain ⟨b, hbe⟩ : ∃ b, Mk.file x = b := ⟨_, rfl⟩
  obtain ⟨S, hS⟩ : ∃ S, (out2 x).drop (head x (rows x)).length = S := ⟨_, rfl⟩
  have hlen : b.length = (out2 x).length := by rw [← hbe, file_len]
  rw [hbe, hS] at hb
  have hty : x.type < 65536 := by have := h.ok.type; omega
  have hmany := many_ge x
  have hrn := rows_len x
  have hrl : (rows x).length < 65536 := by omega
  obtain ⟨n1, n2, n3, n4, n5, n6, n7⟩ := head_nums hb hty h.entry hrl
  have hls := lens x
  have hhd : El.headOf b = hd x := by
    unfold El.headOf hd
    rw [n1, n4, n5, n7, segs_file h hb]
  have hh : El.hdrOk b = true := by
    unfold El.hdrOk
    rw [decide_eq_true (by omega), head_prefix hb, n1, n2, n3, n6, n7, decide_eq_true (by omega), decide_eq_true (by omega)]
    have ht := h.ok.type
    rcases ht with ht | ht <;> rw [ht] <;> rfl
  have hf : El.formOk b = true := by
    unfold El.formOk
    rw [n5, n7, segs_file h hb, rises_rows h, hhd, wholeOk_hd h, decide_eq_true (by omega), n1]
    have ha : (List.range (rows x).length).all (fun i => El.segOk b (64 + i * 56) x.type) = true := by
      rw [List.all_eq_true]
      intro i hi
      rw [List.mem_range] at hi
      have hr : (rows x)[i]? = some (rows x)[i] := List.getElem?_eq_getElem hi
      have hg := rows_g h _ (List.getElem_mem hi)
      obtain ⟨q1, q2⟩ := head_seg hb hr hg.fit
      unfold El.segOk
      rw [q1, q2]
      have g1 : El.flagsB (sg (rows x)[i]) = true := decide_eq_true hg.flags
      have g2 : El.insideB b.length (sg (rows x)[i]) = true := by
        unfold El.insideB
        rw [hlen]
        show (decide ((rows x)[i].fsz ≤ (rows x)[i].msz) && decide ((rows x)[i].off + (rows x)[i].fsz ≤ (out2 x).length)) = true
        rw [decide_eq_true hg.le, decide_eq_true hg.inn]
        rfl
      have g3 : El.endB x.type (sg (rows x)[i]) = true := by
        unfold El.endB
        have : (sg (rows x)[i]).addr + (sg (rows x)[i]).msz ≤ El.endOf x.type := by
          have := hg.end_
          unfold El.endOf
          show (rows x)[i].addr + (rows x)[i].msz ≤ _
          split <;> omega
        rw [decide_eq_true this, Bool.or_true]
      have g4 : El.alignB (rows x)[i].align (sg (rows x)[i]) = true := by
        unfold El.alignB
        by_cases e : (rows x)[i].kind = 1
        · obtain ⟨l1, l2, l3⟩ := hg.load e
          show (!((rows x)[i].kind == 1) || ((rows x)[i].align == 4096 && (rows x)[i].off % 4096 == (rows x)[i].addr % 4096 && decide (0 < (rows x)[i].msz))) = true
          rw [l1, l2, decide_eq_true l3]
          simp
        · show (!((rows x)[i].kind == 1) || _) = true
          rw [beq_eq_false_iff_ne.2 e]
          rfl
      rw [g1, g2, g3, g4]
      rfl
    rw [ha]
    rfl
  rw [hbe]
  unfold El.parse
  rw [hh, hf, if_pos rfl, if_pos rfl, hhd]
end
end Go.Proofs.YtnbecdahfgkffaaGreat.Mk
namespace Go.Proofs.YtnbecdahfgkffaaGreat
open Go.RowKit
theorem w64_eq (a b : Nat) (ha : a < 18446744073709551616) (hb : b < 18446744073709551616) : IntKind.u64.wrap ((a : Int) - (b : Int)) = ((El.w64 a b : Nat) : Int) := by
  rw [IntKind.wrap_u64]
  unfold El.w64
  omega
theorem loads_mem {l : List El.Sg} (h : ∀ s ∈ l, SgFit s) : ∀ s ∈ El.loads l, SgFit s := fun s hs => h s (List.mem_filter.1 hs).1
theorem loads_len (l : List El.Sg) : (El.loads l).length ≤ l.length := List.length_filter_le _ _
theorem find_none_snoc {α : Type} {p : α → Bool} {l : List α} {k : Nat} {x : α} (h : (l.take k).find? p = none) (hx : l[k]? = some x) (hp : p x = false) : (l.take (k + 1)).find? p = none := by
  rw [List.take_add_one, hx, List.find?_append, h]
  simp [hp]
theorem find_hit {α : Type} {p : α → Bool} {l : List α} {k : Nat} {x : α} (h : (l.take k).find? p = none) (hx : l[k]? = some x) (hp : p x = true) : l.find? p = some x := by
  have hk : k < l.length := (List.getElem?_eq_some_iff.1 hx).1
  have e : l = l.take k ++ x :: l.drop (k + 1) := by
    have e2 := List.drop_eq_getElem_cons hk
    have e3 : l[k] = x := (List.getElem?_eq_some_iff.1 hx).2
    rw [e3] at e2
    rw [← e2, List.take_append_drop]
  rw [e, List.find?_append, h]
  simp [hp]
set_option maxHeartbeats 2000000 in
theorem filled_any (A : Option Addr) (n c B : Nat) (h : El.Hd) (s : El.Sg) (w : World) (hB : B ≤ w.heap.size) (hl : Rd w B 6 A n (segCells h.segs)) (hn : n ≤ 4294967296) (hf : ∀ x ∈ h.segs, SgFit x) (hs : SgFit s) :
    Calls Tryz.prog 94 #[.agg #[.int .u16 h.type, .int .u64 h.entry, .int .u64 h.phoff, .slice A n c], .agg #[.int .u32 s.kind, .int .u8 s.flags, .int .u64 s.off, .int .u64 s.addr, .int .u64 s.fsz, .int .u64 s.msz]] w fun e w' =>
      e = .returned (.bool (El.filled h s)) ∧ Below w.heap.size w w' := by
  have hln : h.segs.length = n := by have := hl.1; rw [segCells_len] at this; omega
  have hll := loads_len h.segs
  have hlf := loads_mem hf
  have hfd : El.filled h s = match (El.loads h.segs).find? (El.holds s) with
    | some l => El.w64 s.off l.off == s.addr - l.addr
    | none => false := rfl
  have hload := fun (w' : World) (hb : Below w.heap.size w w') => loads_any A n c B h.segs h.type h.entry h.phoff w' (Nat.le_trans hB hb.size) (hl.below (hb.mono hB)) hn
  generalize El.loads h.segs = L at *
  generalize h.segs = SS at *
  obtain ⟨sk, sfl, so, sa, sf, sm⟩ := s
  obtain ⟨i1, i2, i3, i4, i5, i6⟩ := hs
  simp only at *
  have Hload := hide hload
  have Hlf := hide hlf
  have Hfd := hide hfd
  clear hl hload hlf hfd hf
  go_enter Tryz.func94, Tryz.ntmps94
  go_wp2_with (go_at_call 17; refine ((unhide Hload) _ (((Below.refl _ _).alloc (Nat.le_refl _) _).alloc (by simp) _)).mono ?_; rintro e w1 ⟨A2, c2, rfl, hown, hb1⟩)
  have hb0 : Below w.heap.size w w1 := (((Below.refl _ _).alloc (Nat.le_refl _) _).alloc (by simp) _).trans (hb1.mono (by simp only [World.size_alloc]; omega))
  have hrd := Rd.of_own hown
  have Hrd := hide hrd
  have hnb := (hb1.block (w.heap.size + 1) (by simp only [World.size_alloc]; omega)).trans (heap_alloc2_new _ _ _)
  have hnbl := lt_of_block hnb
  have Hnb := hide hnb
  clear hrd hown hnb hb1
  have hb0s := hb0.size
  go_loopw [10] (fun i wr => ∃ k : Nat, k ≤ L.length ∧ i = .int .i64 k ∧ (L.take k).find? (El.holds ⟨sk, sfl, so, sa, sf, sm⟩) = none ∧ Below w1.heap.size w1 wr) (fun i _ => L.length - (intOf i).toNat)
  case atStart => exact ⟨0, Nat.zero_le _, rfl, rfl, Below.refl _ _⟩
  case round =>
    obtain ⟨k, hk, rfl, hno, hb⟩ := hrel
    have Hno := hide hno
    clear hno
    by_cases hlt : k < L.length
    · obtain ⟨l, hlk⟩ : ∃ l, L[k]? = some l := ⟨_, List.getElem?_eq_getElem hlt⟩
      obtain ⟨b1, o1, rfl, hbb, c0, c1, c2', c3, c4, c5⟩ := seg_at ((unhide Hrd).below hb) hlk
      obtain ⟨lk, lfl, lo, la, lf, lm⟩ := l
      obtain ⟨j1, j2, j3, j4, j5, j6⟩ := (unhide Hlf) _ (List.mem_of_getElem? hlk)
      simp only at j1 j2 j3 j4 j5 j6 c0 c1 c2' c3 c4 c5
      have hn2 := (hb.block _ hnbl).trans (unhide Hnb)
      have s2 := cell_of_row _ _ 2 _ _ _ hn2
      have s3 := cell_of_row _ _ 3 _ _ _ hn2
      have s4 := cell_of_row _ _ 4 _ _ _ hn2
      simp only [List.getElem?_toArray, List.getElem?_cons_zero, List.getElem?_cons_succ] at s2 s3 s4
      have hsr : w.heap.size + 1 < wr.heap.size := Nat.lt_of_lt_of_le hnbl hb.size
      have hbr : b1 < wr.heap.size := Nat.lt_of_lt_of_le hbb hb.size
      have hsz := hb.size
      have Hlk := hide hlk
      have Hb := hide hb
      clear hn2 hlk hb
      by_cases h1 : la ≤ sa
      · have i1 : ((la : Nat) : Int) ≤ ((sa : Nat) : Int) := by omega
        by_cases h2 : sa - la + sf ≤ lf
        · have i2 : decide (((sa : Nat) : Int) - ((la : Nat) : Int) + ((sf : Nat) : Int) ≤ ((lf : Nat) : Int)) = true := by simp; omega
          have hhit : El.filled h ⟨sk, sfl, so, sa, sf, sm⟩ = (El.w64 so lo == sa - la) := by
            rw [unhide Hfd, find_hit (unhide Hno) (unhide Hlk) (by simp [El.holds, h1, h2])]
          have Hhit := hide hhit
          clear hhit h2
          go_wp2_with (go_at_call 46; refine (inside_any _ _ _ _ (by omega) (by omega) (by omega) (by omega) (by omega)).mono ?_; rintro e w1 ⟨rfl, rfl⟩)
          go_ret
          refine ⟨?_, hb0.trans (((unhide Hb).alloc hsz _).mono hb0s)⟩
          rw [unhide Hhit]
          refine ret_bool ?_
          rw [w64_eq _ _ i3 j3, Bool.eq_iff_iff, beq_iff_eq, beq_iff_eq]
          omega
        · have i2 : decide (((sa : Nat) : Int) - ((la : Nat) : Int) + ((sf : Nat) : Int) ≤ ((lf : Nat) : Int)) = false := by simp; omega
          have hno2 := find_none_snoc (unhide Hno) (unhide Hlk) (by simp [El.holds, h2])
          have Hno2 := hide hno2
          clear hno2 h2
          go_wp2_with (go_at_call 46; refine (inside_any _ _ _ _ (by omega) (by omega) (by omega) (by omega) (by omega)).mono ?_; rintro e w1 ⟨rfl, rfl⟩)
          go_roundw
          case rel => exact ⟨k + 1, by omega, by go_num, unhide Hno2, (unhide Hb).alloc hsz _⟩
          case measure => simp [intOf]; omega
      · have i1 : decide (la ≤ sa) = false := by simp; omega
        have i1' : ¬ ((la : Nat) : Int) ≤ ((sa : Nat) : Int) := by omega
        have hno2 := find_none_snoc (unhide Hno) (unhide Hlk) (by simp [El.holds, h1])
        have Hno2 := hide hno2
        clear hno2 h1
        go_wp2
        go_roundw
        case rel => exact ⟨k + 1, by omega, by go_num, unhide Hno2, (unhide Hb).alloc hsz _⟩
        case measure => simp [intOf]; omega
    · have hno2 : L.find? (El.holds ⟨sk, sfl, so, sa, sf, sm⟩) = none := by
        have := unhide Hno
        rwa [List.take_of_length_le (by omega)] at this
      have hfin : El.filled h ⟨sk, sfl, so, sa, sf, sm⟩ = false := by rw [unhide Hfd, hno2]
      have Hfin := hide hfin
      clear hfin hno2
      go_wp2
      go_ret
      exact ⟨by rw [unhide Hfin]; rfl, hb0.trans (hb.mono hb0s)⟩
end Go.Proofs.YtnbecdahfgkffaaGreat
namespace Go.Proofs.YtnbecdahfgkffaaGreat
open Go.RowKit Go.Maps
def CM (D : DataW Unit) (l : List El.Sg) : Prop := IsMap D ∧ ∀ q : Nat, D.atKey (.int .u32 q) (.lit (.int .i64 0)) = .lit (.int .i64 (El.countK l q))
theorem CM.nil : CM (.map []) [] := ⟨isMap_empty, fun q => rfl⟩
theorem CM.step {D : DataW Unit} {l : List El.Sg} (h : CM D l) (s : El.Sg) : CM (D.put (.int .u32 s.kind) (.lit (.int .i64 ((El.countK l s.kind : Nat) + 1)))) (l ++ [s]) := by
  refine ⟨h.1.put _ _, fun q => ?_⟩
  by_cases e : q = s.kind
  · subst e
    rw [atKey_put_same h.1 (by simp [WideAt.IsKeyLit])]
    simp [El.countK]
  · rw [atKey_put_other (by simp only [ne_eq, Lit.int.injEq, true_and]; omega), h.2 q]
    have e2 : (s.kind == q) = false := by simp; exact fun h => e h.symm
    simp [El.countK, List.filter_append, List.filter_cons, e2]
theorem CM.read {D : DataW Unit} {l : List El.Sg} (h : CM D l) {q : Nat} {c : Int} (hat : D.atKey (.int .u32 q) (.lit (.int .i64 0)) = .lit (.int .i64 c)) : c = (El.countK l q : Nat) := by
  rw [h.2 q] at hat
  injection hat with h1
  injection h1 with _ h2
  exact h2.symm
theorem count_le (l : List El.Sg) (q : Nat) : El.countK l q ≤ l.length := List.length_filter_le _ _
theorem law_u32 : Keyed Tryz.prog 56 := int_keyed Tryz.underlying56
theorem wf_u32 {n : Nat} (h : n < 4294967296) : (Lit.int .u32 (n : Int)).wf = true := WalkArith.wf_u32 (by omega)
theorem wf_i64 {n : Int} (h0 : 0 ≤ n) (h : n ≤ 4294967297) : (Lit.int .i64 n).wf = true := WalkArith.wf_i64 (by omega)
theorem and_one_u8 (n : Nat) (h : n < 256) : bits .and .u8 (n : Int) 1 = ((n % 2 : Nat) : Int) := by
  have e : (1 : Int) = ((1 : Nat) : Int) := rfl
  rw [e, u8_and_nat n 1 h (by omega), nat_mask1]
theorem whole_facts {w wr w1 : World} {A : Option Addr} {n c : Nat} {ty en ph : Int} {S : Obj} (hg : (wr.alloc S).grownBy w1 (some (w.heap.size + 1)))
    (hb : wr.heap[w.heap.size]? = some (.cells #[.int .u16 ty, .int .u64 en, .int .u64 ph, .slice A n c] 44)) (hsz : w.heap.size + 1 < wr.heap.size) :
    w1.heap[w.heap.size]? = some (.cells #[.int .u16 ty, .int .u64 en, .int .u64 ph, .slice A n c] 44) ∧ w1.heap[wr.heap.size]? = some S ∧ w.heap.size < w1.heap.size ∧ wr.heap.size < w1.heap.size ∧ w.heap.size + 1 < w1.heap.size := by
  have hs := hg.size
  simp only [World.size_alloc] at hs
  refine ⟨?_, ?_, by omega, by omega, by omega⟩
  · exact (hg.block w.heap.size (by simp; omega) (by simp)).trans ((Below.heap_alloc _ _ _ (by omega)).trans hb)
  · exact (hg.block wr.heap.size (by simp) (by simp; omega)).trans (heap_alloc_new _ _)
theorem box_facts {w : World} {g : Nat} {a b c d : Value} {t : TypeId} (h : w.heap[g]? = some (.cells #[a, b, c, d] t)) : w.cell? ⟨g, 0, none⟩ = some a ∧ w.cell? ⟨g, 1, none⟩ = some b ∧ w.cell? ⟨g, 2, none⟩ = some c ∧ w.cell? ⟨g, 3, none⟩ = some d :=
  ⟨cell_of_row _ _ 0 _ _ _ h, cell_of_row _ _ 1 _ _ _ h, cell_of_row _ _ 2 _ _ _ h, cell_of_row _ _ 3 _ _ _ h⟩
theorem sbox_facts {w : World} {g : Nat} {a b c d e f : Value} {t : TypeId} (h : w.heap[g]? = some (.cells #[a, b, c, d, e, f] t)) : w.cell? ⟨g, 0, none⟩ = some a ∧ w.cell? ⟨g, 1, none⟩ = some b ∧ w.cell? ⟨g, 2, none⟩ = some c ∧ w.cell? ⟨g, 3, none⟩ = some d ∧ w.cell? ⟨g, 4, none⟩ = some e ∧ w.cell? ⟨g, 5, none⟩ = some f :=
  ⟨cell_of_row _ _ 0 _ _ _ h, cell_of_row _ _ 1 _ _ _ h, cell_of_row _ _ 2 _ _ _ h, cell_of_row _ _ 3 _ _ _ h, cell_of_row _ _ 4 _ _ _ h, cell_of_row _ _ 5 _ _ _ h⟩
theorem whole_below {w wr w1 : World} {S : Obj} (hb : Below w.heap.size w wr) (hg : (wr.alloc S).grownBy w1 (some (w.heap.size + 1))) : Below w.heap.size w w1 :=
  (hb.alloc hb.size _).grown hg (by have := hb.size; simp; omega) (fun k hk => by injection hk with hk; omega)
theorem own_map_below {P : Program} {k : TypeId} {R : Value → Option (DataW Unit × List MemPlace)} {b n : Nat} {D : DataW Unit} {w w' : World} (h : w.ownsMap P k R b n D) (hb : Below w.heap.size w w') : w'.ownsMap P k R b n D :=
  h.kept (row := none) ⟨hb.os, hb.tape, hb.output, hb.size, fun i hi _ => hb.block i hi⟩ (by simp)
def Or3 (c : Bool) (a b : Ending) : Ending := if c then a else b
theorem cnt_pos {c : Int} {n : Nat} (e : c = (n : Nat)) : decide (0 < n) = decide ((0 : Int) < c) := by rw [e, decide_eq_decide]; omega
theorem cnt_lt {c : Int} {n : Nat} (e : c = (n : Nat)) : decide (n < 2) = decide (c < 2) := by rw [e, decide_eq_decide]; omega
theorem map_made2 (w : World) (o : Obj) : ((w.alloc o).alloc (.map #[] 0)).ownsMap Tryz.prog 56 (plainElem (H := Unit) Tryz.prog 3) (w.heap.size + 1) 0 (.map []) := by
  have := World.ownsMap_made (w.alloc o) Tryz.prog 56 (plainElem (H := Unit) Tryz.prog 3)
  simpa using this
theorem whole_no {h : El.Hd} {s : El.Sg} (hs : s ∈ h.segs) (hn : El.segWhole h s = false) : El.wholeOk h = false := by
  unfold El.wholeOk
  rw [show h.segs.all (El.segWhole h) = false from by
    rw [Bool.eq_false_iff]
    intro ha
    have := List.all_eq_true.1 ha s hs
    rw [hn] at this
    cases this]
  rfl
set_option maxRecDepth 100000 in
set_option maxHeartbeats 8000000 in
theorem whole_any (A : Option Addr) (n c B : Nat) (h : El.Hd) (w : World) (hB : B ≤ w.heap.size) (hl : Rd w B 6 A n (segCells h.segs)) (hn : n ≤ 4294967296) (hf : ∀ x ∈ h.segs, SgFit x) (hty : h.type < 65536) (hen : h.entry < 18446744073709551616) :
    Calls Tryz.prog 49 #[.agg #[.int .u16 h.type, .int .u64 h.entry, .int .u64 h.phoff, .slice A n c]] w fun e w' =>
      e = Or3 (El.wholeOk h) (.returned (.tuple #[])) (wrongs 25) ∧ Below w.heap.size w w' := by
  have hln : h.segs.length = n := by have := hl.1; rw [segCells_len] at this; omega
  have hmm := @run_makeMap Tryz.prog
  have hfil := fun (s : El.Sg) (hs : SgFit s) (w' : World) (hb : Below w.heap.size w w') => filled_any A n c B h s w' (Nat.le_trans hB hb.size) (hl.below (hb.mono hB)) hn hf hs
  have Hl := hide hl
  have Hf := hide hf
  have Hfil := hide hfil
  have Hln := hide hln
  clear hl hf hfil hln
  have e0 : El.enters h = ((h.type == 3 && h.entry == 0) || h.segs.any (El.entersBy h)) := rfl
  have E0 := hide e0
  clear e0
  generalize hee : (h.type == 3 && h.entry == 0) = ee at *
  have Hee := hide hee
  have t1 : (((h.type : Nat) : Int) == 3) = (h.type == 3) := by rw [Bool.eq_iff_iff, beq_iff_eq, beq_iff_eq]; omega
  have t2 : (((h.entry : Nat) : Int) == 0) = (h.entry == 0) := by rw [Bool.eq_iff_iff, beq_iff_eq, beq_iff_eq]; omega
  have cases3 : ((((h.type : Nat) : Int) == 3) = true ∧ (((h.entry : Nat) : Int) == 0) = ee) ∨ ((((h.type : Nat) : Int) == 3) = false ∧ ee = false) := by
    rw [t1, t2, ← hee]
    cases h.type == 3
    · exact .inr ⟨rfl, rfl⟩
    · exact .inl ⟨rfl, by simp⟩
  clear t1 t2 hee
  rcases cases3 with ⟨t1, t2⟩ | ⟨t1, rfl⟩
  · go_enter Tryz.func49, Tryz.ntmps49
    go_wp2
    go_loopw [3, 18] (fun e3 i wr => ∃ (k : Nat) (D : DataW Unit), k ≤ n ∧ i = .int .i64 k ∧ e3 = .bool (ee || (h.segs.take k).any (El.entersBy h)) ∧ (h.segs.take k).all (El.segWhole h) = true ∧ CM D (h.segs.take k) ∧ wr.ownsMap Tryz.prog 56 (plainElem Tryz.prog 3) (w.heap.size + 1) k D ∧ Below w.heap.size w wr ∧ wr.heap[w.heap.size]? = some (.cells #[.int .u16 h.type, .int .u64 h.entry, .int .u64 h.phoff, .slice A n c] 44) ∧ w.heap.size + 1 < wr.heap.size) (fun _ i _ => n - (intOf i).toNat)
    case atStart => exact ⟨0, .map [], Nat.zero_le _, rfl, by simp, rfl, CM.nil, map_made2 _ _, ((Below.refl _ _).alloc (Nat.le_refl _) _).alloc (by simp) _, (Below.heap_alloc _ _ _ (by simp)).trans (heap_alloc_new _ _), by simp⟩
    case round =>
    obtain ⟨k, D, hk, rfl, rfl, hall, hcm, hown, hb, hbox, hsz⟩ := hrel
    have Hall := hide hall
    have Hcm := hide hcm
    have Hb := hide hb
    have Hbox := hide hbox
    clear hall hcm hbox
    rcases Nat.lt_or_ge k n with hlt | hge
    case inr =>
      obtain rfl : k = n := by omega
      have htk : h.segs.take k = h.segs := List.take_of_length_le (by rw [unhide Hln]; exact Nat.le_refl _)
      rw [htk]
      have hall := unhide Hall
      rw [htk] at hall
      have hcm := unhide Hcm
      rw [htk] at hcm
      have hent : El.enters h = (ee || h.segs.any (El.entersBy h)) := unhide E0
      rw [← hent]
      obtain ⟨c1, r1, a1, _⟩ := hown.lookup_int law_u32 Tryz.underlying171 Tryz.underlying3 (zero_int _) (key := .int .u32 1) (kl := .int .u32 ((1 : Nat) : Int)) (keyOf_int_mk Tryz.underlying56 (by decide))
      have e1 := hcm.read a1
      obtain ⟨c2, r2, a2, _⟩ := hown.lookup_int law_u32 Tryz.underlying171 Tryz.underlying3 (zero_int _) (key := .int .u32 2) (kl := .int .u32 ((2 : Nat) : Int)) (keyOf_int_mk Tryz.underlying56 (by decide))
      have e2 := hcm.read a2
      obtain ⟨c3, r3, a3, _⟩ := hown.lookup_int law_u32 Tryz.underlying171 Tryz.underlying3 (zero_int _) (key := .int .u32 3) (kl := .int .u32 ((3 : Nat) : Int)) (keyOf_int_mk Tryz.underlying56 (by decide))
      have e3 := hcm.read a3
      obtain ⟨c6, r6, a6, _⟩ := hown.lookup_int law_u32 Tryz.underlying171 Tryz.underlying3 (zero_int _) (key := .int .u32 6) (kl := .int .u32 ((6 : Nat) : Int)) (keyOf_int_mk Tryz.underlying56 (by decide))
      have e6 := hcm.read a6
      have hwo : El.wholeOk h = (decide (0 < c1) && decide (c2 < 2) && decide (c3 < 2) && decide (c6 < 2) && El.enters h) := by
        unfold El.wholeOk
        rw [hall, Bool.true_and, cnt_pos e1, cnt_lt e2, cnt_lt e3, cnt_lt e6]
      have Hwo := hide hwo
      clear hwo hent hall hcm a1 a2 a3 a6 e1 e2 e3 e6 hown hge htk
      generalize El.enters h = eb at *
      by_cases d1 : 0 < c1
      case neg =>
        have d1' : decide (0 < c1) = false := by simp; omega
        go_wp2_with (first
          | (go_at_call_of 45 (Value.bool true); refine (must_yes _ _).mono ?_; rintro e w3 ⟨rfl, rfl⟩)
          | (go_at_call_of 45 (Value.bool false); refine (must_no _ _).mono ?_; rintro e w3 ⟨rfl, rfl⟩))
        all_goals exact ⟨rfl, by first | rfl | (rw [unhide Hwo]; simp [Or3, *]), hb⟩
      by_cases d2 : c2 < 2
      case neg =>
        have d2' : decide (c2 < 2) = false := by simp; omega
        go_wp2_with (first
          | (go_at_call_of 45 (Value.bool true); refine (must_yes _ _).mono ?_; rintro e w3 ⟨rfl, rfl⟩)
          | (go_at_call_of 45 (Value.bool false); refine (must_no _ _).mono ?_; rintro e w3 ⟨rfl, rfl⟩))
        all_goals exact ⟨rfl, by first | rfl | (rw [unhide Hwo]; simp [Or3, *]), hb⟩
      by_cases d3 : c3 < 2
      case neg =>
        have d3' : decide (c3 < 2) = false := by simp; omega
        go_wp2_with (first
          | (go_at_call_of 45 (Value.bool true); refine (must_yes _ _).mono ?_; rintro e w3 ⟨rfl, rfl⟩)
          | (go_at_call_of 45 (Value.bool false); refine (must_no _ _).mono ?_; rintro e w3 ⟨rfl, rfl⟩))
        all_goals exact ⟨rfl, by first | rfl | (rw [unhide Hwo]; simp [Or3, *]), hb⟩
      by_cases d6 : c6 < 2
      case neg =>
        have d6' : decide (c6 < 2) = false := by simp; omega
        go_wp2_with (first
          | (go_at_call_of 45 (Value.bool true); refine (must_yes _ _).mono ?_; rintro e w3 ⟨rfl, rfl⟩)
          | (go_at_call_of 45 (Value.bool false); refine (must_no _ _).mono ?_; rintro e w3 ⟨rfl, rfl⟩))
        all_goals exact ⟨rfl, by first | rfl | (rw [unhide Hwo]; simp [Or3, *]), hb⟩
      cases eb
      case false =>
        go_wp2_with (first
          | (go_at_call_of 45 (Value.bool true); refine (must_yes _ _).mono ?_; rintro e w3 ⟨rfl, rfl⟩)
          | (go_at_call_of 45 (Value.bool false); refine (must_no _ _).mono ?_; rintro e w3 ⟨rfl, rfl⟩))
        all_goals exact ⟨rfl, by first | rfl | (rw [unhide Hwo]; simp [Or3, *]), hb⟩
      case true =>
        go_wp2_with (first
          | (go_at_call_of 45 (Value.bool true); refine (must_yes _ _).mono ?_; rintro e w3 ⟨rfl, rfl⟩)
          | (go_at_call_of 45 (Value.bool false); refine (must_no _ _).mono ?_; rintro e w3 ⟨rfl, rfl⟩))
        go_end0
        exact ⟨by first | rfl | (rw [unhide Hwo]; simp [Or3, *]), hb⟩
    obtain ⟨s, hs⟩ : ∃ s, h.segs[k]? = some s := ⟨_, List.getElem?_eq_getElem (by rw [unhide Hln]; exact hlt)⟩
    obtain ⟨b1', o1, rfl, hbb, c0, c1, c2', c3, c4, c5⟩ := seg_at ((unhide Hl).below (hb.mono hB)) hs
    have hfit := (unhide Hf) _ (List.mem_of_getElem? hs)
    have hcl := count_le (h.segs.take k) s.kind
    have hcl2 : (h.segs.take k).length ≤ k := List.length_take_le _ _
    have hcm2 := CM.step (unhide Hcm) s
    have Hcm2 : Hid (CM (D.put (.int .u32 (s.kind : Nat)) (.lit (.int .i64 ((El.countK (h.segs.take k) s.kind : Nat) + 1)))) (h.segs.take (k + 1))) := by rw [List.take_add_one, hs]; exact hide hcm2
    obtain ⟨sk, sfl, so, sa, sf, sm⟩ := s
    have Hfit := hide hfit
    obtain ⟨i1, i2, i3, i4, i5, i6⟩ := hfit
    simp only at i1 i2 i3 i4 i5 i6 c0 c1 c2' c3 c4 c5 hcl
    have hsz1 : w.heap.size + 1 < wr.heap.size := hsz
    have hkey : keyOf Tryz.prog 56 (.int .u32 ((sk : Nat) : Int)) = some (.int .u32 ((sk : Nat) : Int)) := keyOf_int_mk Tryz.underlying56 (wf_u32 i1)
    have hwf : (Lit.int .i64 (((El.countK (h.segs.take k) sk : Nat) : Int) + 1)).wf = true := wf_i64 (by omega) (by omega)
    have Hkey := hide hkey
    have Hwf := hide hwf
    have Hs := hide hs
    clear hkey hwf hs hcm2 hb
    by_cases hk1 : sk = 1
    · rcases Bool.eq_false_or_eq_true (ee || (h.segs.take k).any (El.entersBy h)) with heb | heb
      · have heb2 := heb
        have b1 : (((sk : Nat) : Int) == 1) = true := by simp; omega
        have hsw : El.segWhole h ⟨sk, sfl, so, sa, sf, sm⟩ = true := by simp [El.segWhole, hk1]
        have hall2 : (h.segs.take (k + 1)).all (El.segWhole h) = true := by rw [List.take_add_one, unhide Hs, List.all_append, unhide Hall]; simp [hsw]
        have Hall2 := hide hall2
        have hany2 : (ee || (h.segs.take (k + 1)).any (El.entersBy h)) = true := by rw [List.take_add_one, List.any_append, ← Bool.or_assoc, heb]; rfl
        have Hany2 := hide hany2
        clear hall2 hany2 hsw heb2 hk1
        rw [heb]
        clear heb
        go_wp2_with (first
          | (at_lookup; refine wpList_lookup_own_int _ rfl _ _ 171 rfl 56 3 .i64 law_u32 Tryz.underlying171 Tryz.underlying3 (zero_int _) (w.heap.size + 1) k _ rfl (hown.alloc _) _ _ rfl (unhide Hkey) ?_; intro c hat hwc; obtain rfl := (unhide Hcm).read hat; clear hat hwc)
          | (at_mapUpdate; refine wpList_mapUpdate_own _ rfl _ _ _ 171 rfl 56 3 law_u32 Tryz.underlying171 _ (w.heap.size + 1) k _ rfl (hown.alloc _) (by unfold maxLen; omega) _ _ _ rfl rfl (unhide Hkey) _ [] (plainElem_int Tryz.underlying3 (unhide Hwf)) ?_; intro w1 hown1 hgrow1; have g1 := whole_facts hgrow1 (unhide Hbox) hsz1; obtain ⟨g1a, g1b, g1c⟩ := g1; obtain ⟨q0, q1, q2, q3⟩ := box_facts g1a; obtain ⟨p0, p1, p2, p3, p4, p5⟩ := sbox_facts g1b; have G1a := hide g1a; have Hown1 := hide hown1; have Hbl := hide (whole_below (unhide Hb) hgrow1); clear g1a g1b hown1 hgrow1 hown)
          | (go_at_call_of 45 (Value.bool true); refine (must_yes _ _).mono ?_; rintro e w3 ⟨rfl, rfl⟩)
          | (go_at_call_of 45 (Value.bool false); refine (must_no _ _).mono ?_; rintro e w3 ⟨rfl, rfl⟩))
        go_roundw
        case rel =>
          refine ⟨k + 1, _, by omega, by go_num, by rw [unhide Hany2], unhide Hall2, (unhide Hcm2), unhide Hown1, unhide Hbl, unhide G1a, by omega⟩
        case measure => simp [intOf]; omega
      · have Heb := hide heb
        rw [heb]
        clear heb
        by_cases hfl : sfl % 2 = 1
        · have hfb : bits .and .u8 ((sfl : Nat) : Int) 1 = 1 := by rw [and_one_u8 _ i2, hfl]; rfl
          by_cases hlt2 : El.w64 h.entry sa < sm
          · have hw := w64_eq h.entry sa hen i4
            have b1 : (((sk : Nat) : Int) == 1) = true := by simp; omega
            have hlt3 : (IntKind.u64.wrap (((h.entry : Nat) : Int) - ((sa : Nat) : Int))) < ((sm : Nat) : Int) := by rw [hw]; omega
            have hsw : El.segWhole h ⟨sk, sfl, so, sa, sf, sm⟩ = true := by simp [El.segWhole, hk1]
            have hent : El.entersBy h ⟨sk, sfl, so, sa, sf, sm⟩ = true := by simp [El.entersBy, El.isLoad, hk1, hfl, hlt2]
            have hall2 : (h.segs.take (k + 1)).all (El.segWhole h) = true := by rw [List.take_add_one, unhide Hs, List.all_append, unhide Hall]; simp [hsw]
            have Hall2 := hide hall2
            clear hall2
            have hany2 : (h.segs.take (k + 1)).any (El.entersBy h) = ((h.segs.take k).any (El.entersBy h) || El.entersBy h ⟨sk, sfl, so, sa, sf, sm⟩) := by rw [List.take_add_one, unhide Hs, List.any_append]; simp
            rw [hent] at hany2
            have Hany2 := hide hany2
            clear hany2 hent hsw
            clear hk1 hfl hlt2 hw
            go_wp2_with (first
              | (at_lookup; refine wpList_lookup_own_int _ rfl _ _ 171 rfl 56 3 .i64 law_u32 Tryz.underlying171 Tryz.underlying3 (zero_int _) (w.heap.size + 1) k _ rfl (hown.alloc _) _ _ rfl (unhide Hkey) ?_; intro c hat hwc; obtain rfl := (unhide Hcm).read hat; clear hat hwc)
              | (at_mapUpdate; refine wpList_mapUpdate_own _ rfl _ _ _ 171 rfl 56 3 law_u32 Tryz.underlying171 _ (w.heap.size + 1) k _ rfl (hown.alloc _) (by unfold maxLen; omega) _ _ _ rfl rfl (unhide Hkey) _ [] (plainElem_int Tryz.underlying3 (unhide Hwf)) ?_; intro w1 hown1 hgrow1; have g1 := whole_facts hgrow1 (unhide Hbox) hsz1; obtain ⟨g1a, g1b, g1c⟩ := g1; obtain ⟨q0, q1, q2, q3⟩ := box_facts g1a; obtain ⟨p0, p1, p2, p3, p4, p5⟩ := sbox_facts g1b; have G1a := hide g1a; have Hown1 := hide hown1; have Hbl := hide (whole_below (unhide Hb) hgrow1); clear g1a g1b hown1 hgrow1 hown)
              | (go_at_call_of 45 (Value.bool true); refine (must_yes _ _).mono ?_; rintro e w3 ⟨rfl, rfl⟩)
              | (go_at_call_of 45 (Value.bool false); refine (must_no _ _).mono ?_; rintro e w3 ⟨rfl, rfl⟩))
            go_roundw
            case rel =>
              refine ⟨k + 1, _, by omega, by go_num, by rw [unhide Hany2]; simp, unhide Hall2, (unhide Hcm2), unhide Hown1, unhide Hbl, unhide G1a, by omega⟩
            case measure => simp [intOf]; omega
          · have hw := w64_eq h.entry sa hen i4
            have b1 : (((sk : Nat) : Int) == 1) = true := by simp; omega
            have hlt3 : decide ((IntKind.u64.wrap (((h.entry : Nat) : Int) - ((sa : Nat) : Int))) < ((sm : Nat) : Int)) = false := by rw [hw]; simp; omega
            have hsw : El.segWhole h ⟨sk, sfl, so, sa, sf, sm⟩ = true := by simp [El.segWhole, hk1]
            have hent : El.entersBy h ⟨sk, sfl, so, sa, sf, sm⟩ = false := by simp [El.entersBy, El.isLoad, hk1, hfl, hlt2]
            have hall2 : (h.segs.take (k + 1)).all (El.segWhole h) = true := by rw [List.take_add_one, unhide Hs, List.all_append, unhide Hall]; simp [hsw]
            have Hall2 := hide hall2
            clear hall2
            have hany2 : (h.segs.take (k + 1)).any (El.entersBy h) = ((h.segs.take k).any (El.entersBy h) || El.entersBy h ⟨sk, sfl, so, sa, sf, sm⟩) := by rw [List.take_add_one, unhide Hs, List.any_append]; simp
            rw [hent] at hany2
            have Hany2 := hide hany2
            clear hany2 hent hsw
            clear hk1 hfl hlt2 hw
            go_wp2_with (first
              | (at_lookup; refine wpList_lookup_own_int _ rfl _ _ 171 rfl 56 3 .i64 law_u32 Tryz.underlying171 Tryz.underlying3 (zero_int _) (w.heap.size + 1) k _ rfl (hown.alloc _) _ _ rfl (unhide Hkey) ?_; intro c hat hwc; obtain rfl := (unhide Hcm).read hat; clear hat hwc)
              | (at_mapUpdate; refine wpList_mapUpdate_own _ rfl _ _ _ 171 rfl 56 3 law_u32 Tryz.underlying171 _ (w.heap.size + 1) k _ rfl (hown.alloc _) (by unfold maxLen; omega) _ _ _ rfl rfl (unhide Hkey) _ [] (plainElem_int Tryz.underlying3 (unhide Hwf)) ?_; intro w1 hown1 hgrow1; have g1 := whole_facts hgrow1 (unhide Hbox) hsz1; obtain ⟨g1a, g1b, g1c⟩ := g1; obtain ⟨q0, q1, q2, q3⟩ := box_facts g1a; obtain ⟨p0, p1, p2, p3, p4, p5⟩ := sbox_facts g1b; have G1a := hide g1a; have Hown1 := hide hown1; have Hbl := hide (whole_below (unhide Hb) hgrow1); clear g1a g1b hown1 hgrow1 hown)
              | (go_at_call_of 45 (Value.bool true); refine (must_yes _ _).mono ?_; rintro e w3 ⟨rfl, rfl⟩)
              | (go_at_call_of 45 (Value.bool false); refine (must_no _ _).mono ?_; rintro e w3 ⟨rfl, rfl⟩))
            go_roundw
            case rel =>
              refine ⟨k + 1, _, by omega, by go_num, by rw [unhide Hany2, Bool.or_false, unhide Heb], unhide Hall2, (unhide Hcm2), unhide Hown1, unhide Hbl, unhide G1a, by omega⟩
            case measure => simp [intOf]; omega
        · have hfl0 : sfl % 2 = 0 := by omega
          have hfb : bits .and .u8 ((sfl : Nat) : Int) 1 = 0 := by rw [and_one_u8 _ i2, hfl0]; rfl
          have b1 : (((sk : Nat) : Int) == 1) = true := by simp; omega
          have hsw : El.segWhole h ⟨sk, sfl, so, sa, sf, sm⟩ = true := by simp [El.segWhole, hk1]
          have hent : El.entersBy h ⟨sk, sfl, so, sa, sf, sm⟩ = false := by simp [El.entersBy, El.isLoad, hk1, hfl0]
          have hall2 : (h.segs.take (k + 1)).all (El.segWhole h) = true := by rw [List.take_add_one, unhide Hs, List.all_append, unhide Hall]; simp [hsw]
          have Hall2 := hide hall2
          clear hall2
          have hany2 : (h.segs.take (k + 1)).any (El.entersBy h) = ((h.segs.take k).any (El.entersBy h) || El.entersBy h ⟨sk, sfl, so, sa, sf, sm⟩) := by rw [List.take_add_one, unhide Hs, List.any_append]; simp
          rw [hent] at hany2
          have Hany2 := hide hany2
          clear hany2 hent hsw
          clear hk1 hfl hfl0
          go_wp2_with (first
            | (at_lookup; refine wpList_lookup_own_int _ rfl _ _ 171 rfl 56 3 .i64 law_u32 Tryz.underlying171 Tryz.underlying3 (zero_int _) (w.heap.size + 1) k _ rfl (hown.alloc _) _ _ rfl (unhide Hkey) ?_; intro c hat hwc; obtain rfl := (unhide Hcm).read hat; clear hat hwc)
            | (at_mapUpdate; refine wpList_mapUpdate_own _ rfl _ _ _ 171 rfl 56 3 law_u32 Tryz.underlying171 _ (w.heap.size + 1) k _ rfl (hown.alloc _) (by unfold maxLen; omega) _ _ _ rfl rfl (unhide Hkey) _ [] (plainElem_int Tryz.underlying3 (unhide Hwf)) ?_; intro w1 hown1 hgrow1; have g1 := whole_facts hgrow1 (unhide Hbox) hsz1; obtain ⟨g1a, g1b, g1c⟩ := g1; obtain ⟨q0, q1, q2, q3⟩ := box_facts g1a; obtain ⟨p0, p1, p2, p3, p4, p5⟩ := sbox_facts g1b; have G1a := hide g1a; have Hown1 := hide hown1; have Hbl := hide (whole_below (unhide Hb) hgrow1); clear g1a g1b hown1 hgrow1 hown)
            | (go_at_call_of 45 (Value.bool true); refine (must_yes _ _).mono ?_; rintro e w3 ⟨rfl, rfl⟩)
            | (go_at_call_of 45 (Value.bool false); refine (must_no _ _).mono ?_; rintro e w3 ⟨rfl, rfl⟩))
          go_roundw
          case rel =>
            refine ⟨k + 1, _, by omega, by go_num, by rw [unhide Hany2, Bool.or_false, unhide Heb], unhide Hall2, (unhide Hcm2), unhide Hown1, unhide Hbl, unhide G1a, by omega⟩
          case measure => simp [intOf]; omega
    · have Hk1 := hide hk1
      generalize heb : (ee || (h.segs.take k).any (El.entersBy h)) = eb at *
      have Heb := hide heb
      clear heb
      by_cases hk2 : sk = 2
      · by_cases hfd : El.filled h ⟨sk, sfl, so, sa, sf, sm⟩ = true
        · have Hfd := hide hfd
          have b1 : (((sk : Nat) : Int) == 1) = false := by simp; omega
          have b2 : (((sk : Nat) : Int) == 2) = true := by simp; omega
          have hsw : El.segWhole h ⟨sk, sfl, so, sa, sf, sm⟩ = true := by subst hk2; simp [El.segWhole, hfd]
          have hent : El.entersBy h ⟨sk, sfl, so, sa, sf, sm⟩ = false := by simp [El.entersBy, El.isLoad, hk1]
          have hall2 : (h.segs.take (k + 1)).all (El.segWhole h) = true := by rw [List.take_add_one, unhide Hs, List.all_append, unhide Hall]; simp [hsw]
          have Hall2 := hide hall2
          clear hall2
          have hany2 : (h.segs.take (k + 1)).any (El.entersBy h) = ((h.segs.take k).any (El.entersBy h) || El.entersBy h ⟨sk, sfl, so, sa, sf, sm⟩) := by rw [List.take_add_one, unhide Hs, List.any_append]; simp
          rw [hent] at hany2
          have Hany2 := hide hany2
          clear hany2 hent hsw
          clear hk1 hk2 hfd
          go_wp2_with (first
            | (at_lookup; refine wpList_lookup_own_int _ rfl _ _ 171 rfl 56 3 .i64 law_u32 Tryz.underlying171 Tryz.underlying3 (zero_int _) (w.heap.size + 1) k _ rfl (hown.alloc _) _ _ rfl (unhide Hkey) ?_; intro c hat hwc; obtain rfl := (unhide Hcm).read hat; clear hat hwc)
            | (at_mapUpdate; refine wpList_mapUpdate_own _ rfl _ _ _ 171 rfl 56 3 law_u32 Tryz.underlying171 _ (w.heap.size + 1) k _ rfl (hown.alloc _) (by unfold maxLen; omega) _ _ _ rfl rfl (unhide Hkey) _ [] (plainElem_int Tryz.underlying3 (unhide Hwf)) ?_; intro w1 hown1 hgrow1; have g1 := whole_facts hgrow1 (unhide Hbox) hsz1; obtain ⟨g1a, g1b, g1c⟩ := g1; obtain ⟨q0, q1, q2, q3⟩ := box_facts g1a; obtain ⟨p0, p1, p2, p3, p4, p5⟩ := sbox_facts g1b; have G1a := hide g1a; have Hown1 := hide hown1; have Hbl := hide (whole_below (unhide Hb) hgrow1); clear g1a g1b hown1 hgrow1 hown)
            | (go_at_call_of 45 (Value.bool true); refine (must_yes _ _).mono ?_; rintro e w3 ⟨rfl, rfl⟩)
            | (go_at_call_of 45 (Value.bool false); refine (must_no _ _).mono ?_; rintro e w3 ⟨rfl, rfl⟩)
            | (go_at_call 94; refine ((unhide Hfil) ⟨sk, sfl, so, sa, sf, sm⟩ (unhide Hfit) _ (unhide Hbl)).mono ?_; rintro e w2 ⟨rfl, hb2⟩; rw [unhide Hfd]; have Hb2 := hide hb2; have hq := (hb2.block _ g1c.1).trans (unhide G1a); have HQ := hide hq; have hz2 := hb2.size; clear hb2 hq))
          go_roundw
          case rel =>
            refine ⟨k + 1, _, by omega, by go_num, by rw [unhide Hany2, Bool.or_false, unhide Heb], unhide Hall2, (unhide Hcm2), own_map_below (unhide Hown1) (unhide Hb2), (unhide Hbl).trans ((unhide Hb2).mono (unhide Hbl).size), unhide HQ, by omega⟩
          case measure => simp [intOf]; omega
        · rw [Bool.not_eq_true] at hfd
          have Hfd := hide hfd
          have b1 : (((sk : Nat) : Int) == 1) = false := by simp; omega
          have b2 : (((sk : Nat) : Int) == 2) = true := by simp; omega
          have hbad : El.wholeOk h = false := whole_no (List.mem_of_getElem? (unhide Hs)) (by subst hk2; simp [El.segWhole, hfd])
          have Hbad := hide hbad
          clear hbad
          clear hk1 hk2 hfd
          go_wp2_with (first
            | (at_lookup; refine wpList_lookup_own_int _ rfl _ _ 171 rfl 56 3 .i64 law_u32 Tryz.underlying171 Tryz.underlying3 (zero_int _) (w.heap.size + 1) k _ rfl (hown.alloc _) _ _ rfl (unhide Hkey) ?_; intro c hat hwc; obtain rfl := (unhide Hcm).read hat; clear hat hwc)
            | (at_mapUpdate; refine wpList_mapUpdate_own _ rfl _ _ _ 171 rfl 56 3 law_u32 Tryz.underlying171 _ (w.heap.size + 1) k _ rfl (hown.alloc _) (by unfold maxLen; omega) _ _ _ rfl rfl (unhide Hkey) _ [] (plainElem_int Tryz.underlying3 (unhide Hwf)) ?_; intro w1 hown1 hgrow1; have g1 := whole_facts hgrow1 (unhide Hbox) hsz1; obtain ⟨g1a, g1b, g1c⟩ := g1; obtain ⟨q0, q1, q2, q3⟩ := box_facts g1a; obtain ⟨p0, p1, p2, p3, p4, p5⟩ := sbox_facts g1b; have G1a := hide g1a; have Hown1 := hide hown1; have Hbl := hide (whole_below (unhide Hb) hgrow1); clear g1a g1b hown1 hgrow1 hown)
            | (go_at_call_of 45 (Value.bool true); refine (must_yes _ _).mono ?_; rintro e w3 ⟨rfl, rfl⟩)
            | (go_at_call_of 45 (Value.bool false); refine (must_no _ _).mono ?_; rintro e w3 ⟨rfl, rfl⟩)
            | (go_at_call 94; refine ((unhide Hfil) ⟨sk, sfl, so, sa, sf, sm⟩ (unhide Hfit) _ (unhide Hbl)).mono ?_; rintro e w2 ⟨rfl, hb2⟩; rw [unhide Hfd]; have Hb2 := hide hb2; have hq := (hb2.block _ g1c.1).trans (unhide G1a); have HQ := hide hq; have hz2 := hb2.size; clear hb2 hq))
          exact ⟨rfl, by rw [unhide Hbad]; rfl, (unhide Hbl).trans ((unhide Hb2).mono (unhide Hbl).size)⟩
      by_cases hk6 : sk = 6
      · by_cases hfd : El.filled h ⟨sk, sfl, so, sa, sf, sm⟩ = true
        · have Hfd := hide hfd
          have b1 : (((sk : Nat) : Int) == 1) = false := by simp; omega
          have b2 : (((sk : Nat) : Int) == 2) = false := by simp; omega
          have b6 : (((sk : Nat) : Int) == 6) = true := by simp; omega
          have hsw : El.segWhole h ⟨sk, sfl, so, sa, sf, sm⟩ = true := by subst hk6; simp [El.segWhole, hfd]
          have hent : El.entersBy h ⟨sk, sfl, so, sa, sf, sm⟩ = false := by simp [El.entersBy, El.isLoad, hk1]
          have hall2 : (h.segs.take (k + 1)).all (El.segWhole h) = true := by rw [List.take_add_one, unhide Hs, List.all_append, unhide Hall]; simp [hsw]
          have Hall2 := hide hall2
          clear hall2
          have hany2 : (h.segs.take (k + 1)).any (El.entersBy h) = ((h.segs.take k).any (El.entersBy h) || El.entersBy h ⟨sk, sfl, so, sa, sf, sm⟩) := by rw [List.take_add_one, unhide Hs, List.any_append]; simp
          rw [hent] at hany2
          have Hany2 := hide hany2
          clear hany2 hent hsw
          clear hk1 hk6 hfd hk2
          go_wp2_with (first
            | (at_lookup; refine wpList_lookup_own_int _ rfl _ _ 171 rfl 56 3 .i64 law_u32 Tryz.underlying171 Tryz.underlying3 (zero_int _) (w.heap.size + 1) k _ rfl (hown.alloc _) _ _ rfl (unhide Hkey) ?_; intro c hat hwc; obtain rfl := (unhide Hcm).read hat; clear hat hwc)
            | (at_mapUpdate; refine wpList_mapUpdate_own _ rfl _ _ _ 171 rfl 56 3 law_u32 Tryz.underlying171 _ (w.heap.size + 1) k _ rfl (hown.alloc _) (by unfold maxLen; omega) _ _ _ rfl rfl (unhide Hkey) _ [] (plainElem_int Tryz.underlying3 (unhide Hwf)) ?_; intro w1 hown1 hgrow1; have g1 := whole_facts hgrow1 (unhide Hbox) hsz1; obtain ⟨g1a, g1b, g1c⟩ := g1; obtain ⟨q0, q1, q2, q3⟩ := box_facts g1a; obtain ⟨p0, p1, p2, p3, p4, p5⟩ := sbox_facts g1b; have G1a := hide g1a; have Hown1 := hide hown1; have Hbl := hide (whole_below (unhide Hb) hgrow1); clear g1a g1b hown1 hgrow1 hown)
            | (go_at_call_of 45 (Value.bool true); refine (must_yes _ _).mono ?_; rintro e w3 ⟨rfl, rfl⟩)
            | (go_at_call_of 45 (Value.bool false); refine (must_no _ _).mono ?_; rintro e w3 ⟨rfl, rfl⟩)
            | (go_at_call 94; refine ((unhide Hfil) ⟨sk, sfl, so, sa, sf, sm⟩ (unhide Hfit) _ (unhide Hbl)).mono ?_; rintro e w2 ⟨rfl, hb2⟩; rw [unhide Hfd]; have Hb2 := hide hb2; have hq := (hb2.block _ g1c.1).trans (unhide G1a); have HQ := hide hq; have hz2 := hb2.size; clear hb2 hq))
          go_roundw
          case rel =>
            refine ⟨k + 1, _, by omega, by go_num, by rw [unhide Hany2, Bool.or_false, unhide Heb], unhide Hall2, (unhide Hcm2), own_map_below (unhide Hown1) (unhide Hb2), (unhide Hbl).trans ((unhide Hb2).mono (unhide Hbl).size), unhide HQ, by omega⟩
          case measure => simp [intOf]; omega
        · rw [Bool.not_eq_true] at hfd
          have Hfd := hide hfd
          have b1 : (((sk : Nat) : Int) == 1) = false := by simp; omega
          have b2 : (((sk : Nat) : Int) == 2) = false := by simp; omega
          have b6 : (((sk : Nat) : Int) == 6) = true := by simp; omega
          have hbad : El.wholeOk h = false := whole_no (List.mem_of_getElem? (unhide Hs)) (by subst hk6; simp [El.segWhole, hfd])
          have Hbad := hide hbad
          clear hbad
          clear hk1 hk6 hfd hk2
          go_wp2_with (first
            | (at_lookup; refine wpList_lookup_own_int _ rfl _ _ 171 rfl 56 3 .i64 law_u32 Tryz.underlying171 Tryz.underlying3 (zero_int _) (w.heap.size + 1) k _ rfl (hown.alloc _) _ _ rfl (unhide Hkey) ?_; intro c hat hwc; obtain rfl := (unhide Hcm).read hat; clear hat hwc)
            | (at_mapUpdate; refine wpList_mapUpdate_own _ rfl _ _ _ 171 rfl 56 3 law_u32 Tryz.underlying171 _ (w.heap.size + 1) k _ rfl (hown.alloc _) (by unfold maxLen; omega) _ _ _ rfl rfl (unhide Hkey) _ [] (plainElem_int Tryz.underlying3 (unhide Hwf)) ?_; intro w1 hown1 hgrow1; have g1 := whole_facts hgrow1 (unhide Hbox) hsz1; obtain ⟨g1a, g1b, g1c⟩ := g1; obtain ⟨q0, q1, q2, q3⟩ := box_facts g1a; obtain ⟨p0, p1, p2, p3, p4, p5⟩ := sbox_facts g1b; have G1a := hide g1a; have Hown1 := hide hown1; have Hbl := hide (whole_below (unhide Hb) hgrow1); clear g1a g1b hown1 hgrow1 hown)
            | (go_at_call_of 45 (Value.bool true); refine (must_yes _ _).mono ?_; rintro e w3 ⟨rfl, rfl⟩)
            | (go_at_call_of 45 (Value.bool false); refine (must_no _ _).mono ?_; rintro e w3 ⟨rfl, rfl⟩)
            | (go_at_call 94; refine ((unhide Hfil) ⟨sk, sfl, so, sa, sf, sm⟩ (unhide Hfit) _ (unhide Hbl)).mono ?_; rintro e w2 ⟨rfl, hb2⟩; rw [unhide Hfd]; have Hb2 := hide hb2; have hq := (hb2.block _ g1c.1).trans (unhide G1a); have HQ := hide hq; have hz2 := hb2.size; clear hb2 hq))
          exact ⟨rfl, by rw [unhide Hbad]; rfl, (unhide Hbl).trans ((unhide Hb2).mono (unhide Hbl).size)⟩
      by_cases hk3 : sk = 3
      · by_cases hf1 : 0 < sf
        · by_cases hf2 : sf ≤ 201
          · have f1 : decide (0 < sf) = true := by simp; omega
            have f2 : decide (((sf : Nat) : Int) ≤ 201) = true := by simp; omega
            clear i3 i4 i6
            have b1 : (((sk : Nat) : Int) == 1) = false := by simp; omega
            have b2 : (((sk : Nat) : Int) == 2) = false := by simp; omega
            have b6 : (((sk : Nat) : Int) == 6) = false := by simp; omega
            have b3 : (((sk : Nat) : Int) == 3) = true := by simp; omega
            have hsw : El.segWhole h ⟨sk, sfl, so, sa, sf, sm⟩ = true := by simp [El.segWhole, hk3, hf1, hf2]
            have hent : El.entersBy h ⟨sk, sfl, so, sa, sf, sm⟩ = false := by simp [El.entersBy, El.isLoad, hk1]
            have hall2 : (h.segs.take (k + 1)).all (El.segWhole h) = true := by rw [List.take_add_one, unhide Hs, List.all_append, unhide Hall]; simp [hsw]
            have Hall2 := hide hall2
            clear hall2
            have hany2 : (h.segs.take (k + 1)).any (El.entersBy h) = ((h.segs.take k).any (El.entersBy h) || El.entersBy h ⟨sk, sfl, so, sa, sf, sm⟩) := by rw [List.take_add_one, unhide Hs, List.any_append]; simp
            rw [hent] at hany2
            have Hany2 := hide hany2
            clear hany2 hent hsw
            clear hk1 hk2 hk6 hk3 hf1 hf2
            go_wp2_with (first
              | (at_lookup; refine wpList_lookup_own_int _ rfl _ _ 171 rfl 56 3 .i64 law_u32 Tryz.underlying171 Tryz.underlying3 (zero_int _) (w.heap.size + 1) k _ rfl (hown.alloc _) _ _ rfl (unhide Hkey) ?_; intro c hat hwc; obtain rfl := (unhide Hcm).read hat; clear hat hwc)
              | (at_mapUpdate; refine wpList_mapUpdate_own _ rfl _ _ _ 171 rfl 56 3 law_u32 Tryz.underlying171 _ (w.heap.size + 1) k _ rfl (hown.alloc _) (by unfold maxLen; omega) _ _ _ rfl rfl (unhide Hkey) _ [] (plainElem_int Tryz.underlying3 (unhide Hwf)) ?_; intro w1 hown1 hgrow1; have g1 := whole_facts hgrow1 (unhide Hbox) hsz1; obtain ⟨g1a, g1b, g1c⟩ := g1; obtain ⟨q0, q1, q2, q3⟩ := box_facts g1a; obtain ⟨p0, p1, p2, p3, p4, p5⟩ := sbox_facts g1b; have G1a := hide g1a; have Hown1 := hide hown1; have Hbl := hide (whole_below (unhide Hb) hgrow1); clear g1a g1b hown1 hgrow1 hown)
              | (go_at_call_of 45 (Value.bool true); refine (must_yes _ _).mono ?_; rintro e w3 ⟨rfl, rfl⟩)
              | (go_at_call_of 45 (Value.bool false); refine (must_no _ _).mono ?_; rintro e w3 ⟨rfl, rfl⟩))
            go_roundw
            case rel =>
              refine ⟨k + 1, _, by omega, by go_num, by rw [unhide Hany2, Bool.or_false, unhide Heb], unhide Hall2, (unhide Hcm2), unhide Hown1, unhide Hbl, unhide G1a, by omega⟩
            case measure => simp [intOf]; omega
          · have f1 : decide (0 < sf) = true := by simp; omega
            clear i3 i4 i6
            have f2 : decide (((sf : Nat) : Int) ≤ 201) = false := by simp; omega
            have b1 : (((sk : Nat) : Int) == 1) = false := by simp; omega
            have b2 : (((sk : Nat) : Int) == 2) = false := by simp; omega
            have b6 : (((sk : Nat) : Int) == 6) = false := by simp; omega
            have b3 : (((sk : Nat) : Int) == 3) = true := by simp; omega
            have hbad : El.wholeOk h = false := whole_no (List.mem_of_getElem? (unhide Hs)) (by simp [El.segWhole, hk3, hf2])
            have Hbad := hide hbad
            clear hbad
            clear hk1 hk2 hk6 hk3 hf1 hf2
            go_wp2_with (first
              | (at_lookup; refine wpList_lookup_own_int _ rfl _ _ 171 rfl 56 3 .i64 law_u32 Tryz.underlying171 Tryz.underlying3 (zero_int _) (w.heap.size + 1) k _ rfl (hown.alloc _) _ _ rfl (unhide Hkey) ?_; intro c hat hwc; obtain rfl := (unhide Hcm).read hat; clear hat hwc)
              | (at_mapUpdate; refine wpList_mapUpdate_own _ rfl _ _ _ 171 rfl 56 3 law_u32 Tryz.underlying171 _ (w.heap.size + 1) k _ rfl (hown.alloc _) (by unfold maxLen; omega) _ _ _ rfl rfl (unhide Hkey) _ [] (plainElem_int Tryz.underlying3 (unhide Hwf)) ?_; intro w1 hown1 hgrow1; have g1 := whole_facts hgrow1 (unhide Hbox) hsz1; obtain ⟨g1a, g1b, g1c⟩ := g1; obtain ⟨q0, q1, q2, q3⟩ := box_facts g1a; obtain ⟨p0, p1, p2, p3, p4, p5⟩ := sbox_facts g1b; have G1a := hide g1a; have Hown1 := hide hown1; have Hbl := hide (whole_below (unhide Hb) hgrow1); clear g1a g1b hown1 hgrow1 hown)
              | (go_at_call_of 45 (Value.bool true); refine (must_yes _ _).mono ?_; rintro e w3 ⟨rfl, rfl⟩)
              | (go_at_call_of 45 (Value.bool false); refine (must_no _ _).mono ?_; rintro e w3 ⟨rfl, rfl⟩))
            exact ⟨rfl, by rw [unhide Hbad]; rfl, unhide Hbl⟩
        · have f1 : ¬ (0 : Int) < ((sf : Nat) : Int) := by omega
          have f1' : decide (0 < sf) = false := by simp; omega
          have b1 : (((sk : Nat) : Int) == 1) = false := by simp; omega
          have b2 : (((sk : Nat) : Int) == 2) = false := by simp; omega
          have b6 : (((sk : Nat) : Int) == 6) = false := by simp; omega
          have b3 : (((sk : Nat) : Int) == 3) = true := by simp; omega
          have hbad : El.wholeOk h = false := whole_no (List.mem_of_getElem? (unhide Hs)) (by simp [El.segWhole, hk3, hf1])
          have Hbad := hide hbad
          clear hbad
          clear hk1 hk2 hk6 hk3 hf1
          go_wp2_with (first
            | (at_lookup; refine wpList_lookup_own_int _ rfl _ _ 171 rfl 56 3 .i64 law_u32 Tryz.underlying171 Tryz.underlying3 (zero_int _) (w.heap.size + 1) k _ rfl (hown.alloc _) _ _ rfl (unhide Hkey) ?_; intro c hat hwc; obtain rfl := (unhide Hcm).read hat; clear hat hwc)
            | (at_mapUpdate; refine wpList_mapUpdate_own _ rfl _ _ _ 171 rfl 56 3 law_u32 Tryz.underlying171 _ (w.heap.size + 1) k _ rfl (hown.alloc _) (by unfold maxLen; omega) _ _ _ rfl rfl (unhide Hkey) _ [] (plainElem_int Tryz.underlying3 (unhide Hwf)) ?_; intro w1 hown1 hgrow1; have g1 := whole_facts hgrow1 (unhide Hbox) hsz1; obtain ⟨g1a, g1b, g1c⟩ := g1; obtain ⟨q0, q1, q2, q3⟩ := box_facts g1a; obtain ⟨p0, p1, p2, p3, p4, p5⟩ := sbox_facts g1b; have G1a := hide g1a; have Hown1 := hide hown1; have Hbl := hide (whole_below (unhide Hb) hgrow1); clear g1a g1b hown1 hgrow1 hown)
            | (go_at_call_of 45 (Value.bool true); refine (must_yes _ _).mono ?_; rintro e w3 ⟨rfl, rfl⟩)
            | (go_at_call_of 45 (Value.bool false); refine (must_no _ _).mono ?_; rintro e w3 ⟨rfl, rfl⟩))
          exact ⟨rfl, by rw [unhide Hbad]; rfl, unhide Hbl⟩
      have b1 : (((sk : Nat) : Int) == 1) = false := by simp; omega
      have b2 : (((sk : Nat) : Int) == 2) = false := by simp; omega
      have b6 : (((sk : Nat) : Int) == 6) = false := by simp; omega
      have b3 : (((sk : Nat) : Int) == 3) = false := by simp; omega
      have hsw : El.segWhole h ⟨sk, sfl, so, sa, sf, sm⟩ = true := by simp [El.segWhole, hk2, hk6, hk3]
      have hent : El.entersBy h ⟨sk, sfl, so, sa, sf, sm⟩ = false := by simp [El.entersBy, El.isLoad, hk1]
      have hall2 : (h.segs.take (k + 1)).all (El.segWhole h) = true := by rw [List.take_add_one, unhide Hs, List.all_append, unhide Hall]; simp [hsw]
      have Hall2 := hide hall2
      clear hall2
      have hany2 : (h.segs.take (k + 1)).any (El.entersBy h) = ((h.segs.take k).any (El.entersBy h) || El.entersBy h ⟨sk, sfl, so, sa, sf, sm⟩) := by rw [List.take_add_one, unhide Hs, List.any_append]; simp
      rw [hent] at hany2
      have Hany2 := hide hany2
      clear hany2 hent hsw
      clear hk1 hk2 hk6 hk3
      go_wp2_with (first
        | (at_lookup; refine wpList_lookup_own_int _ rfl _ _ 171 rfl 56 3 .i64 law_u32 Tryz.underlying171 Tryz.underlying3 (zero_int _) (w.heap.size + 1) k _ rfl (hown.alloc _) _ _ rfl (unhide Hkey) ?_; intro c hat hwc; obtain rfl := (unhide Hcm).read hat; clear hat hwc)
        | (at_mapUpdate; refine wpList_mapUpdate_own _ rfl _ _ _ 171 rfl 56 3 law_u32 Tryz.underlying171 _ (w.heap.size + 1) k _ rfl (hown.alloc _) (by unfold maxLen; omega) _ _ _ rfl rfl (unhide Hkey) _ [] (plainElem_int Tryz.underlying3 (unhide Hwf)) ?_; intro w1 hown1 hgrow1; have g1 := whole_facts hgrow1 (unhide Hbox) hsz1; obtain ⟨g1a, g1b, g1c⟩ := g1; obtain ⟨q0, q1, q2, q3⟩ := box_facts g1a; obtain ⟨p0, p1, p2, p3, p4, p5⟩ := sbox_facts g1b; have G1a := hide g1a; have Hown1 := hide hown1; have Hbl := hide (whole_below (unhide Hb) hgrow1); clear g1a g1b hown1 hgrow1 hown)
        | (go_at_call_of 45 (Value.bool true); refine (must_yes _ _).mono ?_; rintro e w3 ⟨rfl, rfl⟩)
        | (go_at_call_of 45 (Value.bool false); refine (must_no _ _).mono ?_; rintro e w3 ⟨rfl, rfl⟩))
      go_roundw
      case rel =>
        refine ⟨k + 1, _, by omega, by go_num, by rw [unhide Hany2, Bool.or_false, unhide Heb], unhide Hall2, (unhide Hcm2), unhide Hown1, unhide Hbl, unhide G1a, by omega⟩
      case measure => simp [intOf]; omega
  · go_enter Tryz.func49, Tryz.ntmps49
    go_wp2
    go_loopw [3, 18] (fun e3 i wr => ∃ (k : Nat) (D : DataW Unit), k ≤ n ∧ i = .int .i64 k ∧ e3 = .bool (false || (h.segs.take k).any (El.entersBy h)) ∧ (h.segs.take k).all (El.segWhole h) = true ∧ CM D (h.segs.take k) ∧ wr.ownsMap Tryz.prog 56 (plainElem Tryz.prog 3) (w.heap.size + 1) k D ∧ Below w.heap.size w wr ∧ wr.heap[w.heap.size]? = some (.cells #[.int .u16 h.type, .int .u64 h.entry, .int .u64 h.phoff, .slice A n c] 44) ∧ w.heap.size + 1 < wr.heap.size) (fun _ i _ => n - (intOf i).toNat)
    case atStart => exact ⟨0, .map [], Nat.zero_le _, rfl, by simp, rfl, CM.nil, map_made2 _ _, ((Below.refl _ _).alloc (Nat.le_refl _) _).alloc (by simp) _, (Below.heap_alloc _ _ _ (by simp)).trans (heap_alloc_new _ _), by simp⟩
    case round =>
    obtain ⟨k, D, hk, rfl, rfl, hall, hcm, hown, hb, hbox, hsz⟩ := hrel
    have Hall := hide hall
    have Hcm := hide hcm
    have Hb := hide hb
    have Hbox := hide hbox
    clear hall hcm hbox
    rcases Nat.lt_or_ge k n with hlt | hge
    case inr =>
      obtain rfl : k = n := by omega
      have htk : h.segs.take k = h.segs := List.take_of_length_le (by rw [unhide Hln]; exact Nat.le_refl _)
      rw [htk]
      have hall := unhide Hall
      rw [htk] at hall
      have hcm := unhide Hcm
      rw [htk] at hcm
      have hent : El.enters h = (false || h.segs.any (El.entersBy h)) := unhide E0
      rw [← hent]
      obtain ⟨c1, r1, a1, _⟩ := hown.lookup_int law_u32 Tryz.underlying171 Tryz.underlying3 (zero_int _) (key := .int .u32 1) (kl := .int .u32 ((1 : Nat) : Int)) (keyOf_int_mk Tryz.underlying56 (by decide))
      have e1 := hcm.read a1
      obtain ⟨c2, r2, a2, _⟩ := hown.lookup_int law_u32 Tryz.underlying171 Tryz.underlying3 (zero_int _) (key := .int .u32 2) (kl := .int .u32 ((2 : Nat) : Int)) (keyOf_int_mk Tryz.underlying56 (by decide))
      have e2 := hcm.read a2
      obtain ⟨c3, r3, a3, _⟩ := hown.lookup_int law_u32 Tryz.underlying171 Tryz.underlying3 (zero_int _) (key := .int .u32 3) (kl := .int .u32 ((3 : Nat) : Int)) (keyOf_int_mk Tryz.underlying56 (by decide))
      have e3 := hcm.read a3
      obtain ⟨c6, r6, a6, _⟩ := hown.lookup_int law_u32 Tryz.underlying171 Tryz.underlying3 (zero_int _) (key := .int .u32 6) (kl := .int .u32 ((6 : Nat) : Int)) (keyOf_int_mk Tryz.underlying56 (by decide))
      have e6 := hcm.read a6
      have hwo : El.wholeOk h = (decide (0 < c1) && decide (c2 < 2) && decide (c3 < 2) && decide (c6 < 2) && El.enters h) := by
        unfold El.wholeOk
        rw [hall, Bool.true_and, cnt_pos e1, cnt_lt e2, cnt_lt e3, cnt_lt e6]
      have Hwo := hide hwo
      clear hwo hent hall hcm a1 a2 a3 a6 e1 e2 e3 e6 hown hge htk
      generalize El.enters h = eb at *
      by_cases d1 : 0 < c1
      case neg =>
        have d1' : decide (0 < c1) = false := by simp; omega
        go_wp2_with (first
          | (go_at_call_of 45 (Value.bool true); refine (must_yes _ _).mono ?_; rintro e w3 ⟨rfl, rfl⟩)
          | (go_at_call_of 45 (Value.bool false); refine (must_no _ _).mono ?_; rintro e w3 ⟨rfl, rfl⟩))
        all_goals exact ⟨rfl, by first | rfl | (rw [unhide Hwo]; simp [Or3, *]), hb⟩
      by_cases d2 : c2 < 2
      case neg =>
        have d2' : decide (c2 < 2) = false := by simp; omega
        go_wp2_with (first
          | (go_at_call_of 45 (Value.bool true); refine (must_yes _ _).mono ?_; rintro e w3 ⟨rfl, rfl⟩)
          | (go_at_call_of 45 (Value.bool false); refine (must_no _ _).mono ?_; rintro e w3 ⟨rfl, rfl⟩))
        all_goals exact ⟨rfl, by first | rfl | (rw [unhide Hwo]; simp [Or3, *]), hb⟩
      by_cases d3 : c3 < 2
      case neg =>
        have d3' : decide (c3 < 2) = false := by simp; omega
        go_wp2_with (first
          | (go_at_call_of 45 (Value.bool true); refine (must_yes _ _).mono ?_; rintro e w3 ⟨rfl, rfl⟩)
          | (go_at_call_of 45 (Value.bool false); refine (must_no _ _).mono ?_; rintro e w3 ⟨rfl, rfl⟩))
        all_goals exact ⟨rfl, by first | rfl | (rw [unhide Hwo]; simp [Or3, *]), hb⟩
      by_cases d6 : c6 < 2
      case neg =>
        have d6' : decide (c6 < 2) = false := by simp; omega
        go_wp2_with (first
          | (go_at_call_of 45 (Value.bool true); refine (must_yes _ _).mono ?_; rintro e w3 ⟨rfl, rfl⟩)
          | (go_at_call_of 45 (Value.bool false); refine (must_no _ _).mono ?_; rintro e w3 ⟨rfl, rfl⟩))
        all_goals exact ⟨rfl, by first | rfl | (rw [unhide Hwo]; simp [Or3, *]), hb⟩
      cases eb
      case false =>
        go_wp2_with (first
          | (go_at_call_of 45 (Value.bool true); refine (must_yes _ _).mono ?_; rintro e w3 ⟨rfl, rfl⟩)
          | (go_at_call_of 45 (Value.bool false); refine (must_no _ _).mono ?_; rintro e w3 ⟨rfl, rfl⟩))
        all_goals exact ⟨rfl, by first | rfl | (rw [unhide Hwo]; simp [Or3, *]), hb⟩
      case true =>
        go_wp2_with (first
          | (go_at_call_of 45 (Value.bool true); refine (must_yes _ _).mono ?_; rintro e w3 ⟨rfl, rfl⟩)
          | (go_at_call_of 45 (Value.bool false); refine (must_no _ _).mono ?_; rintro e w3 ⟨rfl, rfl⟩))
        go_end0
        exact ⟨by first | rfl | (rw [unhide Hwo]; simp [Or3, *]), hb⟩
    obtain ⟨s, hs⟩ : ∃ s, h.segs[k]? = some s := ⟨_, List.getElem?_eq_getElem (by rw [unhide Hln]; exact hlt)⟩
    obtain ⟨b1', o1, rfl, hbb, c0, c1, c2', c3, c4, c5⟩ := seg_at ((unhide Hl).below (hb.mono hB)) hs
    have hfit := (unhide Hf) _ (List.mem_of_getElem? hs)
    have hcl := count_le (h.segs.take k) s.kind
    have hcl2 : (h.segs.take k).length ≤ k := List.length_take_le _ _
    have hcm2 := CM.step (unhide Hcm) s
    have Hcm2 : Hid (CM (D.put (.int .u32 (s.kind : Nat)) (.lit (.int .i64 ((El.countK (h.segs.take k) s.kind : Nat) + 1)))) (h.segs.take (k + 1))) := by rw [List.take_add_one, hs]; exact hide hcm2
    obtain ⟨sk, sfl, so, sa, sf, sm⟩ := s
    have Hfit := hide hfit
    obtain ⟨i1, i2, i3, i4, i5, i6⟩ := hfit
    simp only at i1 i2 i3 i4 i5 i6 c0 c1 c2' c3 c4 c5 hcl
    have hsz1 : w.heap.size + 1 < wr.heap.size := hsz
    have hkey : keyOf Tryz.prog 56 (.int .u32 ((sk : Nat) : Int)) = some (.int .u32 ((sk : Nat) : Int)) := keyOf_int_mk Tryz.underlying56 (wf_u32 i1)
    have hwf : (Lit.int .i64 (((El.countK (h.segs.take k) sk : Nat) : Int) + 1)).wf = true := wf_i64 (by omega) (by omega)
    have Hkey := hide hkey
    have Hwf := hide hwf
    have Hs := hide hs
    clear hkey hwf hs hcm2 hb
    by_cases hk1 : sk = 1
    · rcases Bool.eq_false_or_eq_true (false || (h.segs.take k).any (El.entersBy h)) with heb | heb
      · have heb2 := heb
        have b1 : (((sk : Nat) : Int) == 1) = true := by simp; omega
        have hsw : El.segWhole h ⟨sk, sfl, so, sa, sf, sm⟩ = true := by simp [El.segWhole, hk1]
        have hall2 : (h.segs.take (k + 1)).all (El.segWhole h) = true := by rw [List.take_add_one, unhide Hs, List.all_append, unhide Hall]; simp [hsw]
        have Hall2 := hide hall2
        have hany2 : (false || (h.segs.take (k + 1)).any (El.entersBy h)) = true := by rw [List.take_add_one, List.any_append, ← Bool.or_assoc, heb]; rfl
        have Hany2 := hide hany2
        clear hall2 hany2 hsw heb2 hk1
        rw [heb]
        clear heb
        go_wp2_with (first
          | (at_lookup; refine wpList_lookup_own_int _ rfl _ _ 171 rfl 56 3 .i64 law_u32 Tryz.underlying171 Tryz.underlying3 (zero_int _) (w.heap.size + 1) k _ rfl (hown.alloc _) _ _ rfl (unhide Hkey) ?_; intro c hat hwc; obtain rfl := (unhide Hcm).read hat; clear hat hwc)
          | (at_mapUpdate; refine wpList_mapUpdate_own _ rfl _ _ _ 171 rfl 56 3 law_u32 Tryz.underlying171 _ (w.heap.size + 1) k _ rfl (hown.alloc _) (by unfold maxLen; omega) _ _ _ rfl rfl (unhide Hkey) _ [] (plainElem_int Tryz.underlying3 (unhide Hwf)) ?_; intro w1 hown1 hgrow1; have g1 := whole_facts hgrow1 (unhide Hbox) hsz1; obtain ⟨g1a, g1b, g1c⟩ := g1; obtain ⟨q0, q1, q2, q3⟩ := box_facts g1a; obtain ⟨p0, p1, p2, p3, p4, p5⟩ := sbox_facts g1b; have G1a := hide g1a; have Hown1 := hide hown1; have Hbl := hide (whole_below (unhide Hb) hgrow1); clear g1a g1b hown1 hgrow1 hown)
          | (go_at_call_of 45 (Value.bool true); refine (must_yes _ _).mono ?_; rintro e w3 ⟨rfl, rfl⟩)
          | (go_at_call_of 45 (Value.bool false); refine (must_no _ _).mono ?_; rintro e w3 ⟨rfl, rfl⟩))
        go_roundw
        case rel =>
          refine ⟨k + 1, _, by omega, by go_num, by rw [unhide Hany2], unhide Hall2, (unhide Hcm2), unhide Hown1, unhide Hbl, unhide G1a, by omega⟩
        case measure => simp [intOf]; omega
      · have Heb := hide heb
        rw [heb]
        clear heb
        by_cases hfl : sfl % 2 = 1
        · have hfb : bits .and .u8 ((sfl : Nat) : Int) 1 = 1 := by rw [and_one_u8 _ i2, hfl]; rfl
          by_cases hlt2 : El.w64 h.entry sa < sm
          · have hw := w64_eq h.entry sa hen i4
            have b1 : (((sk : Nat) : Int) == 1) = true := by simp; omega
            have hlt3 : (IntKind.u64.wrap (((h.entry : Nat) : Int) - ((sa : Nat) : Int))) < ((sm : Nat) : Int) := by rw [hw]; omega
            have hsw : El.segWhole h ⟨sk, sfl, so, sa, sf, sm⟩ = true := by simp [El.segWhole, hk1]
            have hent : El.entersBy h ⟨sk, sfl, so, sa, sf, sm⟩ = true := by simp [El.entersBy, El.isLoad, hk1, hfl, hlt2]
            have hall2 : (h.segs.take (k + 1)).all (El.segWhole h) = true := by rw [List.take_add_one, unhide Hs, List.all_append, unhide Hall]; simp [hsw]
            have Hall2 := hide hall2
            clear hall2
            have hany2 : (h.segs.take (k + 1)).any (El.entersBy h) = ((h.segs.take k).any (El.entersBy h) || El.entersBy h ⟨sk, sfl, so, sa, sf, sm⟩) := by rw [List.take_add_one, unhide Hs, List.any_append]; simp
            rw [hent] at hany2
            have Hany2 := hide hany2
            clear hany2 hent hsw
            clear hk1 hfl hlt2 hw
            go_wp2_with (first
              | (at_lookup; refine wpList_lookup_own_int _ rfl _ _ 171 rfl 56 3 .i64 law_u32 Tryz.underlying171 Tryz.underlying3 (zero_int _) (w.heap.size + 1) k _ rfl (hown.alloc _) _ _ rfl (unhide Hkey) ?_; intro c hat hwc; obtain rfl := (unhide Hcm).read hat; clear hat hwc)
              | (at_mapUpdate; refine wpList_mapUpdate_own _ rfl _ _ _ 171 rfl 56 3 law_u32 Tryz.underlying171 _ (w.heap.size + 1) k _ rfl (hown.alloc _) (by unfold maxLen; omega) _ _ _ rfl rfl (unhide Hkey) _ [] (plainElem_int Tryz.underlying3 (unhide Hwf)) ?_; intro w1 hown1 hgrow1; have g1 := whole_facts hgrow1 (unhide Hbox) hsz1; obtain ⟨g1a, g1b, g1c⟩ := g1; obtain ⟨q0, q1, q2, q3⟩ := box_facts g1a; obtain ⟨p0, p1, p2, p3, p4, p5⟩ := sbox_facts g1b; have G1a := hide g1a; have Hown1 := hide hown1; have Hbl := hide (whole_below (unhide Hb) hgrow1); clear g1a g1b hown1 hgrow1 hown)
              | (go_at_call_of 45 (Value.bool true); refine (must_yes _ _).mono ?_; rintro e w3 ⟨rfl, rfl⟩)
              | (go_at_call_of 45 (Value.bool false); refine (must_no _ _).mono ?_; rintro e w3 ⟨rfl, rfl⟩))
            go_roundw
            case rel =>
              refine ⟨k + 1, _, by omega, by go_num, by rw [unhide Hany2]; simp, unhide Hall2, (unhide Hcm2), unhide Hown1, unhide Hbl, unhide G1a, by omega⟩
            case measure => simp [intOf]; omega
          · have hw := w64_eq h.entry sa hen i4
            have b1 : (((sk : Nat) : Int) == 1) = true := by simp; omega
            have hlt3 : decide ((IntKind.u64.wrap (((h.entry : Nat) : Int) - ((sa : Nat) : Int))) < ((sm : Nat) : Int)) = false := by rw [hw]; simp; omega
            have hsw : El.segWhole h ⟨sk, sfl, so, sa, sf, sm⟩ = true := by simp [El.segWhole, hk1]
            have hent : El.entersBy h ⟨sk, sfl, so, sa, sf, sm⟩ = false := by simp [El.entersBy, El.isLoad, hk1, hfl, hlt2]
            have hall2 : (h.segs.take (k + 1)).all (El.segWhole h) = true := by rw [List.take_add_one, unhide Hs, List.all_append, unhide Hall]; simp [hsw]
            have Hall2 := hide hall2
            clear hall2
            have hany2 : (h.segs.take (k + 1)).any (El.entersBy h) = ((h.segs.take k).any (El.entersBy h) || El.entersBy h ⟨sk, sfl, so, sa, sf, sm⟩) := by rw [List.take_add_one, unhide Hs, List.any_append]; simp
            rw [hent] at hany2
            have Hany2 := hide hany2
            clear hany2 hent hsw
            clear hk1 hfl hlt2 hw
            go_wp2_with (first
              | (at_lookup; refine wpList_lookup_own_int _ rfl _ _ 171 rfl 56 3 .i64 law_u32 Tryz.underlying171 Tryz.underlying3 (zero_int _) (w.heap.size + 1) k _ rfl (hown.alloc _) _ _ rfl (unhide Hkey) ?_; intro c hat hwc; obtain rfl := (unhide Hcm).read hat; clear hat hwc)
              | (at_mapUpdate; refine wpList_mapUpdate_own _ rfl _ _ _ 171 rfl 56 3 law_u32 Tryz.underlying171 _ (w.heap.size + 1) k _ rfl (hown.alloc _) (by unfold maxLen; omega) _ _ _ rfl rfl (unhide Hkey) _ [] (plainElem_int Tryz.underlying3 (unhide Hwf)) ?_; intro w1 hown1 hgrow1; have g1 := whole_facts hgrow1 (unhide Hbox) hsz1; obtain ⟨g1a, g1b, g1c⟩ := g1; obtain ⟨q0, q1, q2, q3⟩ := box_facts g1a; obtain ⟨p0, p1, p2, p3, p4, p5⟩ := sbox_facts g1b; have G1a := hide g1a; have Hown1 := hide hown1; have Hbl := hide (whole_below (unhide Hb) hgrow1); clear g1a g1b hown1 hgrow1 hown)
              | (go_at_call_of 45 (Value.bool true); refine (must_yes _ _).mono ?_; rintro e w3 ⟨rfl, rfl⟩)
              | (go_at_call_of 45 (Value.bool false); refine (must_no _ _).mono ?_; rintro e w3 ⟨rfl, rfl⟩))
            go_roundw
            case rel =>
              refine ⟨k + 1, _, by omega, by go_num, by rw [unhide Hany2, Bool.or_false, unhide Heb], unhide Hall2, (unhide Hcm2), unhide Hown1, unhide Hbl, unhide G1a, by omega⟩
            case measure => simp [intOf]; omega
        · have hfl0 : sfl % 2 = 0 := by omega
          have hfb : bits .and .u8 ((sfl : Nat) : Int) 1 = 0 := by rw [and_one_u8 _ i2, hfl0]; rfl
          have b1 : (((sk : Nat) : Int) == 1) = true := by simp; omega
          have hsw : El.segWhole h ⟨sk, sfl, so, sa, sf, sm⟩ = true := by simp [El.segWhole, hk1]
          have hent : El.entersBy h ⟨sk, sfl, so, sa, sf, sm⟩ = false := by simp [El.entersBy, El.isLoad, hk1, hfl0]
          have hall2 : (h.segs.take (k + 1)).all (El.segWhole h) = true := by rw [List.take_add_one, unhide Hs, List.all_append, unhide Hall]; simp [hsw]
          have Hall2 := hide hall2
          clear hall2
          have hany2 : (h.segs.take (k + 1)).any (El.entersBy h) = ((h.segs.take k).any (El.entersBy h) || El.entersBy h ⟨sk, sfl, so, sa, sf, sm⟩) := by rw [List.take_add_one, unhide Hs, List.any_append]; simp
          rw [hent] at hany2
          have Hany2 := hide hany2
          clear hany2 hent hsw
          clear hk1 hfl hfl0
          go_wp2_with (first
            | (at_lookup; refine wpList_lookup_own_int _ rfl _ _ 171 rfl 56 3 .i64 law_u32 Tryz.underlying171 Tryz.underlying3 (zero_int _) (w.heap.size + 1) k _ rfl (hown.alloc _) _ _ rfl (unhide Hkey) ?_; intro c hat hwc; obtain rfl := (unhide Hcm).read hat; clear hat hwc)
            | (at_mapUpdate; refine wpList_mapUpdate_own _ rfl _ _ _ 171 rfl 56 3 law_u32 Tryz.underlying171 _ (w.heap.size + 1) k _ rfl (hown.alloc _) (by unfold maxLen; omega) _ _ _ rfl rfl (unhide Hkey) _ [] (plainElem_int Tryz.underlying3 (unhide Hwf)) ?_; intro w1 hown1 hgrow1; have g1 := whole_facts hgrow1 (unhide Hbox) hsz1; obtain ⟨g1a, g1b, g1c⟩ := g1; obtain ⟨q0, q1, q2, q3⟩ := box_facts g1a; obtain ⟨p0, p1, p2, p3, p4, p5⟩ := sbox_facts g1b; have G1a := hide g1a; have Hown1 := hide hown1; have Hbl := hide (whole_below (unhide Hb) hgrow1); clear g1a g1b hown1 hgrow1 hown)
            | (go_at_call_of 45 (Value.bool true); refine (must_yes _ _).mono ?_; rintro e w3 ⟨rfl, rfl⟩)
            | (go_at_call_of 45 (Value.bool false); refine (must_no _ _).mono ?_; rintro e w3 ⟨rfl, rfl⟩))
          go_roundw
          case rel =>
            refine ⟨k + 1, _, by omega, by go_num, by rw [unhide Hany2, Bool.or_false, unhide Heb], unhide Hall2, (unhide Hcm2), unhide Hown1, unhide Hbl, unhide G1a, by omega⟩
          case measure => simp [intOf]; omega
    · have Hk1 := hide hk1
      generalize heb : (false || (h.segs.take k).any (El.entersBy h)) = eb at *
      have Heb := hide heb
      clear heb
      by_cases hk2 : sk = 2
      · by_cases hfd : El.filled h ⟨sk, sfl, so, sa, sf, sm⟩ = true
        · have Hfd := hide hfd
          have b1 : (((sk : Nat) : Int) == 1) = false := by simp; omega
          have b2 : (((sk : Nat) : Int) == 2) = true := by simp; omega
          have hsw : El.segWhole h ⟨sk, sfl, so, sa, sf, sm⟩ = true := by subst hk2; simp [El.segWhole, hfd]
          have hent : El.entersBy h ⟨sk, sfl, so, sa, sf, sm⟩ = false := by simp [El.entersBy, El.isLoad, hk1]
          have hall2 : (h.segs.take (k + 1)).all (El.segWhole h) = true := by rw [List.take_add_one, unhide Hs, List.all_append, unhide Hall]; simp [hsw]
          have Hall2 := hide hall2
          clear hall2
          have hany2 : (h.segs.take (k + 1)).any (El.entersBy h) = ((h.segs.take k).any (El.entersBy h) || El.entersBy h ⟨sk, sfl, so, sa, sf, sm⟩) := by rw [List.take_add_one, unhide Hs, List.any_append]; simp
          rw [hent] at hany2
          have Hany2 := hide hany2
          clear hany2 hent hsw
          clear hk1 hk2 hfd
          go_wp2_with (first
            | (at_lookup; refine wpList_lookup_own_int _ rfl _ _ 171 rfl 56 3 .i64 law_u32 Tryz.underlying171 Tryz.underlying3 (zero_int _) (w.heap.size + 1) k _ rfl (hown.alloc _) _ _ rfl (unhide Hkey) ?_; intro c hat hwc; obtain rfl := (unhide Hcm).read hat; clear hat hwc)
            | (at_mapUpdate; refine wpList_mapUpdate_own _ rfl _ _ _ 171 rfl 56 3 law_u32 Tryz.underlying171 _ (w.heap.size + 1) k _ rfl (hown.alloc _) (by unfold maxLen; omega) _ _ _ rfl rfl (unhide Hkey) _ [] (plainElem_int Tryz.underlying3 (unhide Hwf)) ?_; intro w1 hown1 hgrow1; have g1 := whole_facts hgrow1 (unhide Hbox) hsz1; obtain ⟨g1a, g1b, g1c⟩ := g1; obtain ⟨q0, q1, q2, q3⟩ := box_facts g1a; obtain ⟨p0, p1, p2, p3, p4, p5⟩ := sbox_facts g1b; have G1a := hide g1a; have Hown1 := hide hown1; have Hbl := hide (whole_below (unhide Hb) hgrow1); clear g1a g1b hown1 hgrow1 hown)
            | (go_at_call_of 45 (Value.bool true); refine (must_yes _ _).mono ?_; rintro e w3 ⟨rfl, rfl⟩)
            | (go_at_call_of 45 (Value.bool false); refine (must_no _ _).mono ?_; rintro e w3 ⟨rfl, rfl⟩)
            | (go_at_call 94; refine ((unhide Hfil) ⟨sk, sfl, so, sa, sf, sm⟩ (unhide Hfit) _ (unhide Hbl)).mono ?_; rintro e w2 ⟨rfl, hb2⟩; rw [unhide Hfd]; have Hb2 := hide hb2; have hq := (hb2.block _ g1c.1).trans (unhide G1a); have HQ := hide hq; have hz2 := hb2.size; clear hb2 hq))
          go_roundw
          case rel =>
            refine ⟨k + 1, _, by omega, by go_num, by rw [unhide Hany2, Bool.or_false, unhide Heb], unhide Hall2, (unhide Hcm2), own_map_below (unhide Hown1) (unhide Hb2), (unhide Hbl).trans ((unhide Hb2).mono (unhide Hbl).size), unhide HQ, by omega⟩
          case measure => simp [intOf]; omega
        · rw [Bool.not_eq_true] at hfd
          have Hfd := hide hfd
          have b1 : (((sk : Nat) : Int) == 1) = false := by simp; omega
          have b2 : (((sk : Nat) : Int) == 2) = true := by simp; omega
          have hbad : El.wholeOk h = false := whole_no (List.mem_of_getElem? (unhide Hs)) (by subst hk2; simp [El.segWhole, hfd])
          have Hbad := hide hbad
          clear hbad
          clear hk1 hk2 hfd
          go_wp2_with (first
            | (at_lookup; refine wpList_lookup_own_int _ rfl _ _ 171 rfl 56 3 .i64 law_u32 Tryz.underlying171 Tryz.underlying3 (zero_int _) (w.heap.size + 1) k _ rfl (hown.alloc _) _ _ rfl (unhide Hkey) ?_; intro c hat hwc; obtain rfl := (unhide Hcm).read hat; clear hat hwc)
            | (at_mapUpdate; refine wpList_mapUpdate_own _ rfl _ _ _ 171 rfl 56 3 law_u32 Tryz.underlying171 _ (w.heap.size + 1) k _ rfl (hown.alloc _) (by unfold maxLen; omega) _ _ _ rfl rfl (unhide Hkey) _ [] (plainElem_int Tryz.underlying3 (unhide Hwf)) ?_; intro w1 hown1 hgrow1; have g1 := whole_facts hgrow1 (unhide Hbox) hsz1; obtain ⟨g1a, g1b, g1c⟩ := g1; obtain ⟨q0, q1, q2, q3⟩ := box_facts g1a; obtain ⟨p0, p1, p2, p3, p4, p5⟩ := sbox_facts g1b; have G1a := hide g1a; have Hown1 := hide hown1; have Hbl := hide (whole_below (unhide Hb) hgrow1); clear g1a g1b hown1 hgrow1 hown)
            | (go_at_call_of 45 (Value.bool true); refine (must_yes _ _).mono ?_; rintro e w3 ⟨rfl, rfl⟩)
            | (go_at_call_of 45 (Value.bool false); refine (must_no _ _).mono ?_; rintro e w3 ⟨rfl, rfl⟩)
            | (go_at_call 94; refine ((unhide Hfil) ⟨sk, sfl, so, sa, sf, sm⟩ (unhide Hfit) _ (unhide Hbl)).mono ?_; rintro e w2 ⟨rfl, hb2⟩; rw [unhide Hfd]; have Hb2 := hide hb2; have hq := (hb2.block _ g1c.1).trans (unhide G1a); have HQ := hide hq; have hz2 := hb2.size; clear hb2 hq))
          exact ⟨rfl, by rw [unhide Hbad]; rfl, (unhide Hbl).trans ((unhide Hb2).mono (unhide Hbl).size)⟩
      by_cases hk6 : sk = 6
      · by_cases hfd : El.filled h ⟨sk, sfl, so, sa, sf, sm⟩ = true
        · have Hfd := hide hfd
          have b1 : (((sk : Nat) : Int) == 1) = false := by simp; omega
          have b2 : (((sk : Nat) : Int) == 2) = false := by simp; omega
          have b6 : (((sk : Nat) : Int) == 6) = true := by simp; omega
          have hsw : El.segWhole h ⟨sk, sfl, so, sa, sf, sm⟩ = true := by subst hk6; simp [El.segWhole, hfd]
          have hent : El.entersBy h ⟨sk, sfl, so, sa, sf, sm⟩ = false := by simp [El.entersBy, El.isLoad, hk1]
          have hall2 : (h.segs.take (k + 1)).all (El.segWhole h) = true := by rw [List.take_add_one, unhide Hs, List.all_append, unhide Hall]; simp [hsw]
          have Hall2 := hide hall2
          clear hall2
          have hany2 : (h.segs.take (k + 1)).any (El.entersBy h) = ((h.segs.take k).any (El.entersBy h) || El.entersBy h ⟨sk, sfl, so, sa, sf, sm⟩) := by rw [List.take_add_one, unhide Hs, List.any_append]; simp
          rw [hent] at hany2
          have Hany2 := hide hany2
          clear hany2 hent hsw
          clear hk1 hk6 hfd hk2
          go_wp2_with (first
            | (at_lookup; refine wpList_lookup_own_int _ rfl _ _ 171 rfl 56 3 .i64 law_u32 Tryz.underlying171 Tryz.underlying3 (zero_int _) (w.heap.size + 1) k _ rfl (hown.alloc _) _ _ rfl (unhide Hkey) ?_; intro c hat hwc; obtain rfl := (unhide Hcm).read hat; clear hat hwc)
            | (at_mapUpdate; refine wpList_mapUpdate_own _ rfl _ _ _ 171 rfl 56 3 law_u32 Tryz.underlying171 _ (w.heap.size + 1) k _ rfl (hown.alloc _) (by unfold maxLen; omega) _ _ _ rfl rfl (unhide Hkey) _ [] (plainElem_int Tryz.underlying3 (unhide Hwf)) ?_; intro w1 hown1 hgrow1; have g1 := whole_facts hgrow1 (unhide Hbox) hsz1; obtain ⟨g1a, g1b, g1c⟩ := g1; obtain ⟨q0, q1, q2, q3⟩ := box_facts g1a; obtain ⟨p0, p1, p2, p3, p4, p5⟩ := sbox_facts g1b; have G1a := hide g1a; have Hown1 := hide hown1; have Hbl := hide (whole_below (unhide Hb) hgrow1); clear g1a g1b hown1 hgrow1 hown)
            | (go_at_call_of 45 (Value.bool true); refine (must_yes _ _).mono ?_; rintro e w3 ⟨rfl, rfl⟩)
            | (go_at_call_of 45 (Value.bool false); refine (must_no _ _).mono ?_; rintro e w3 ⟨rfl, rfl⟩)
            | (go_at_call 94; refine ((unhide Hfil) ⟨sk, sfl, so, sa, sf, sm⟩ (unhide Hfit) _ (unhide Hbl)).mono ?_; rintro e w2 ⟨rfl, hb2⟩; rw [unhide Hfd]; have Hb2 := hide hb2; have hq := (hb2.block _ g1c.1).trans (unhide G1a); have HQ := hide hq; have hz2 := hb2.size; clear hb2 hq))
          go_roundw
          case rel =>
            refine ⟨k + 1, _, by omega, by go_num, by rw [unhide Hany2, Bool.or_false, unhide Heb], unhide Hall2, (unhide Hcm2), own_map_below (unhide Hown1) (unhide Hb2), (unhide Hbl).trans ((unhide Hb2).mono (unhide Hbl).size), unhide HQ, by omega⟩
          case measure => simp [intOf]; omega
        · rw [Bool.not_eq_true] at hfd
          have Hfd := hide hfd
          have b1 : (((sk : Nat) : Int) == 1) = false := by simp; omega
          have b2 : (((sk : Nat) : Int) == 2) = false := by simp; omega
          have b6 : (((sk : Nat) : Int) == 6) = true := by simp; omega
          have hbad : El.wholeOk h = false := whole_no (List.mem_of_getElem? (unhide Hs)) (by subst hk6; simp [El.segWhole, hfd])
          have Hbad := hide hbad
          clear hbad
          clear hk1 hk6 hfd hk2
          go_wp2_with (first
            | (at_lookup; refine wpList_lookup_own_int _ rfl _ _ 171 rfl 56 3 .i64 law_u32 Tryz.underlying171 Tryz.underlying3 (zero_int _) (w.heap.size + 1) k _ rfl (hown.alloc _) _ _ rfl (unhide Hkey) ?_; intro c hat hwc; obtain rfl := (unhide Hcm).read hat; clear hat hwc)
            | (at_mapUpdate; refine wpList_mapUpdate_own _ rfl _ _ _ 171 rfl 56 3 law_u32 Tryz.underlying171 _ (w.heap.size + 1) k _ rfl (hown.alloc _) (by unfold maxLen; omega) _ _ _ rfl rfl (unhide Hkey) _ [] (plainElem_int Tryz.underlying3 (unhide Hwf)) ?_; intro w1 hown1 hgrow1; have g1 := whole_facts hgrow1 (unhide Hbox) hsz1; obtain ⟨g1a, g1b, g1c⟩ := g1; obtain ⟨q0, q1, q2, q3⟩ := box_facts g1a; obtain ⟨p0, p1, p2, p3, p4, p5⟩ := sbox_facts g1b; have G1a := hide g1a; have Hown1 := hide hown1; have Hbl := hide (whole_below (unhide Hb) hgrow1); clear g1a g1b hown1 hgrow1 hown)
            | (go_at_call_of 45 (Value.bool true); refine (must_yes _ _).mono ?_; rintro e w3 ⟨rfl, rfl⟩)
            | (go_at_call_of 45 (Value.bool false); refine (must_no _ _).mono ?_; rintro e w3 ⟨rfl, rfl⟩)
            | (go_at_call 94; refine ((unhide Hfil) ⟨sk, sfl, so, sa, sf, sm⟩ (unhide Hfit) _ (unhide Hbl)).mono ?_; rintro e w2 ⟨rfl, hb2⟩; rw [unhide Hfd]; have Hb2 := hide hb2; have hq := (hb2.block _ g1c.1).trans (unhide G1a); have HQ := hide hq; have hz2 := hb2.size; clear hb2 hq))
          exact ⟨rfl, by rw [unhide Hbad]; rfl, (unhide Hbl).trans ((unhide Hb2).mono (unhide Hbl).size)⟩
      by_cases hk3 : sk = 3
      · by_cases hf1 : 0 < sf
        · by_cases hf2 : sf ≤ 201
          · have f1 : decide (0 < sf) = true := by simp; omega
            have f2 : decide (((sf : Nat) : Int) ≤ 201) = true := by simp; omega
            clear i3 i4 i6
            have b1 : (((sk : Nat) : Int) == 1) = false := by simp; omega
            have b2 : (((sk : Nat) : Int) == 2) = false := by simp; omega
            have b6 : (((sk : Nat) : Int) == 6) = false := by simp; omega
            have b3 : (((sk : Nat) : Int) == 3) = true := by simp; omega
            have hsw : El.segWhole h ⟨sk, sfl, so, sa, sf, sm⟩ = true := by simp [El.segWhole, hk3, hf1, hf2]
            have hent : El.entersBy h ⟨sk, sfl, so, sa, sf, sm⟩ = false := by simp [El.entersBy, El.isLoad, hk1]
            have hall2 : (h.segs.take (k + 1)).all (El.segWhole h) = true := by rw [List.take_add_one, unhide Hs, List.all_append, unhide Hall]; simp [hsw]
            have Hall2 := hide hall2
            clear hall2
            have hany2 : (h.segs.take (k + 1)).any (El.entersBy h) = ((h.segs.take k).any (El.entersBy h) || El.entersBy h ⟨sk, sfl, so, sa, sf, sm⟩) := by rw [List.take_add_one, unhide Hs, List.any_append]; simp
            rw [hent] at hany2
            have Hany2 := hide hany2
            clear hany2 hent hsw
            clear hk1 hk2 hk6 hk3 hf1 hf2
            go_wp2_with (first
              | (at_lookup; refine wpList_lookup_own_int _ rfl _ _ 171 rfl 56 3 .i64 law_u32 Tryz.underlying171 Tryz.underlying3 (zero_int _) (w.heap.size + 1) k _ rfl (hown.alloc _) _ _ rfl (unhide Hkey) ?_; intro c hat hwc; obtain rfl := (unhide Hcm).read hat; clear hat hwc)
              | (at_mapUpdate; refine wpList_mapUpdate_own _ rfl _ _ _ 171 rfl 56 3 law_u32 Tryz.underlying171 _ (w.heap.size + 1) k _ rfl (hown.alloc _) (by unfold maxLen; omega) _ _ _ rfl rfl (unhide Hkey) _ [] (plainElem_int Tryz.underlying3 (unhide Hwf)) ?_; intro w1 hown1 hgrow1; have g1 := whole_facts hgrow1 (unhide Hbox) hsz1; obtain ⟨g1a, g1b, g1c⟩ := g1; obtain ⟨q0, q1, q2, q3⟩ := box_facts g1a; obtain ⟨p0, p1, p2, p3, p4, p5⟩ := sbox_facts g1b; have G1a := hide g1a; have Hown1 := hide hown1; have Hbl := hide (whole_below (unhide Hb) hgrow1); clear g1a g1b hown1 hgrow1 hown)
              | (go_at_call_of 45 (Value.bool true); refine (must_yes _ _).mono ?_; rintro e w3 ⟨rfl, rfl⟩)
              | (go_at_call_of 45 (Value.bool false); refine (must_no _ _).mono ?_; rintro e w3 ⟨rfl, rfl⟩))
            go_roundw
            case rel =>
              refine ⟨k + 1, _, by omega, by go_num, by rw [unhide Hany2, Bool.or_false, unhide Heb], unhide Hall2, (unhide Hcm2), unhide Hown1, unhide Hbl, unhide G1a, by omega⟩
            case measure => simp [intOf]; omega
          · have f1 : decide (0 < sf) = true := by simp; omega
            clear i3 i4 i6
            have f2 : decide (((sf : Nat) : Int) ≤ 201) = false := by simp; omega
            have b1 : (((sk : Nat) : Int) == 1) = false := by simp; omega
            have b2 : (((sk : Nat) : Int) == 2) = false := by simp; omega
            have b6 : (((sk : Nat) : Int) == 6) = false := by simp; omega
            have b3 : (((sk : Nat) : Int) == 3) = true := by simp; omega
            have hbad : El.wholeOk h = false := whole_no (List.mem_of_getElem? (unhide Hs)) (by simp [El.segWhole, hk3, hf2])
            have Hbad := hide hbad
            clear hbad
            clear hk1 hk2 hk6 hk3 hf1 hf2
            go_wp2_with (first
              | (at_lookup; refine wpList_lookup_own_int _ rfl _ _ 171 rfl 56 3 .i64 law_u32 Tryz.underlying171 Tryz.underlying3 (zero_int _) (w.heap.size + 1) k _ rfl (hown.alloc _) _ _ rfl (unhide Hkey) ?_; intro c hat hwc; obtain rfl := (unhide Hcm).read hat; clear hat hwc)
              | (at_mapUpdate; refine wpList_mapUpdate_own _ rfl _ _ _ 171 rfl 56 3 law_u32 Tryz.underlying171 _ (w.heap.size + 1) k _ rfl (hown.alloc _) (by unfold maxLen; omega) _ _ _ rfl rfl (unhide Hkey) _ [] (plainElem_int Tryz.underlying3 (unhide Hwf)) ?_; intro w1 hown1 hgrow1; have g1 := whole_facts hgrow1 (unhide Hbox) hsz1; obtain ⟨g1a, g1b, g1c⟩ := g1; obtain ⟨q0, q1, q2, q3⟩ := box_facts g1a; obtain ⟨p0, p1, p2, p3, p4, p5⟩ := sbox_facts g1b; have G1a := hide g1a; have Hown1 := hide hown1; have Hbl := hide (whole_below (unhide Hb) hgrow1); clear g1a g1b hown1 hgrow1 hown)
              | (go_at_call_of 45 (Value.bool true); refine (must_yes _ _).mono ?_; rintro e w3 ⟨rfl, rfl⟩)
              | (go_at_call_of 45 (Value.bool false); refine (must_no _ _).mono ?_; rintro e w3 ⟨rfl, rfl⟩))
            exact ⟨rfl, by rw [unhide Hbad]; rfl, unhide Hbl⟩
        · have f1 : ¬ (0 : Int) < ((sf : Nat) : Int) := by omega
          have f1' : decide (0 < sf) = false := by simp; omega
          have b1 : (((sk : Nat) : Int) == 1) = false := by simp; omega
          have b2 : (((sk : Nat) : Int) == 2) = false := by simp; omega
          have b6 : (((sk : Nat) : Int) == 6) = false := by simp; omega
          have b3 : (((sk : Nat) : Int) == 3) = true := by simp; omega
          have hbad : El.wholeOk h = false := whole_no (List.mem_of_getElem? (unhide Hs)) (by simp [El.segWhole, hk3, hf1])
          have Hbad := hide hbad
          clear hbad
          clear hk1 hk2 hk6 hk3 hf1
          go_wp2_with (first
            | (at_lookup; refine wpList_lookup_own_int _ rfl _ _ 171 rfl 56 3 .i64 law_u32 Tryz.underlying171 Tryz.underlying3 (zero_int _) (w.heap.size + 1) k _ rfl (hown.alloc _) _ _ rfl (unhide Hkey) ?_; intro c hat hwc; obtain rfl := (unhide Hcm).read hat; clear hat hwc)
            | (at_mapUpdate; refine wpList_mapUpdate_own _ rfl _ _ _ 171 rfl 56 3 law_u32 Tryz.underlying171 _ (w.heap.size + 1) k _ rfl (hown.alloc _) (by unfold maxLen; omega) _ _ _ rfl rfl (unhide Hkey) _ [] (plainElem_int Tryz.underlying3 (unhide Hwf)) ?_; intro w1 hown1 hgrow1; have g1 := whole_facts hgrow1 (unhide Hbox) hsz1; obtain ⟨g1a, g1b, g1c⟩ := g1; obtain ⟨q0, q1, q2, q3⟩ := box_facts g1a; obtain ⟨p0, p1, p2, p3, p4, p5⟩ := sbox_facts g1b; have G1a := hide g1a; have Hown1 := hide hown1; have Hbl := hide (whole_below (unhide Hb) hgrow1); clear g1a g1b hown1 hgrow1 hown)
            | (go_at_call_of 45 (Value.bool true); refine (must_yes _ _).mono ?_; rintro e w3 ⟨rfl, rfl⟩)
            | (go_at_call_of 45 (Value.bool false); refine (must_no _ _).mono ?_; rintro e w3 ⟨rfl, rfl⟩))
          exact ⟨rfl, by rw [unhide Hbad]; rfl, unhide Hbl⟩
      have b1 : (((sk : Nat) : Int) == 1) = false := by simp; omega
      have b2 : (((sk : Nat) : Int) == 2) = false := by simp; omega
      have b6 : (((sk : Nat) : Int) == 6) = false := by simp; omega
      have b3 : (((sk : Nat) : Int) == 3) = false := by simp; omega
      have hsw : El.segWhole h ⟨sk, sfl, so, sa, sf, sm⟩ = true := by simp [El.segWhole, hk2, hk6, hk3]
      have hent : El.entersBy h ⟨sk, sfl, so, sa, sf, sm⟩ = false := by simp [El.entersBy, El.isLoad, hk1]
      have hall2 : (h.segs.take (k + 1)).all (El.segWhole h) = true := by rw [List.take_add_one, unhide Hs, List.all_append, unhide Hall]; simp [hsw]
      have Hall2 := hide hall2
      clear hall2
      have hany2 : (h.segs.take (k + 1)).any (El.entersBy h) = ((h.segs.take k).any (El.entersBy h) || El.entersBy h ⟨sk, sfl, so, sa, sf, sm⟩) := by rw [List.take_add_one, unhide Hs, List.any_append]; simp
      rw [hent] at hany2
      have Hany2 := hide hany2
      clear hany2 hent hsw
      clear hk1 hk2 hk6 hk3
      go_wp2_with (first
        | (at_lookup; refine wpList_lookup_own_int _ rfl _ _ 171 rfl 56 3 .i64 law_u32 Tryz.underlying171 Tryz.underlying3 (zero_int _) (w.heap.size + 1) k _ rfl (hown.alloc _) _ _ rfl (unhide Hkey) ?_; intro c hat hwc; obtain rfl := (unhide Hcm).read hat; clear hat hwc)
        | (at_mapUpdate; refine wpList_mapUpdate_own _ rfl _ _ _ 171 rfl 56 3 law_u32 Tryz.underlying171 _ (w.heap.size + 1) k _ rfl (hown.alloc _) (by unfold maxLen; omega) _ _ _ rfl rfl (unhide Hkey) _ [] (plainElem_int Tryz.underlying3 (unhide Hwf)) ?_; intro w1 hown1 hgrow1; have g1 := whole_facts hgrow1 (unhide Hbox) hsz1; obtain ⟨g1a, g1b, g1c⟩ := g1; obtain ⟨q0, q1, q2, q3⟩ := box_facts g1a; obtain ⟨p0, p1, p2, p3, p4, p5⟩ := sbox_facts g1b; have G1a := hide g1a; have Hown1 := hide hown1; have Hbl := hide (whole_below (unhide Hb) hgrow1); clear g1a g1b hown1 hgrow1 hown)
        | (go_at_call_of 45 (Value.bool true); refine (must_yes _ _).mono ?_; rintro e w3 ⟨rfl, rfl⟩)
        | (go_at_call_of 45 (Value.bool false); refine (must_no _ _).mono ?_; rintro e w3 ⟨rfl, rfl⟩))
      go_roundw
      case rel =>
        refine ⟨k + 1, _, by omega, by go_num, by rw [unhide Hany2, Bool.or_false, unhide Heb], unhide Hall2, (unhide Hcm2), unhide Hown1, unhide Hbl, unhide G1a, by omega⟩
      case measure => simp [intOf]; omega
end Go.Proofs.YtnbecdahfgkffaaGreat
