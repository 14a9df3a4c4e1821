/- Texts of the claim LawMakerSymbols (MkP12, MkP13, MkP14, MkP15, MkP16, MkP17, MkP18): what the functions that the statement reaches compute, and plain laws of it. Conditions: those that each theorem states. -/
import Derived.Test.YtnbecdahfgkffaaGreatMsK4
import Derived.Test.YtnbecdahfgkffaaGreatMsK3
import Derived.Laws.EntriesVeiled
import Derived.Deep.DeepCutAuto
import Derived.Deep.CutBlock
set_option linter.unusedVariables false
set_option linter.unusedSimpArgs false
namespace Go.Proofs.YtnbecdahfgkffaaGreat
open Go.RowKit
def SecE (s : Xq) (gf base : Nat) (l : List Value) (A : Option Addr) (fs : List UInt8) (w : World) (e : Ending) (w' : World) : Prop :=
  ∃ A' n' c', e = .returned (.tuple #[.int .u64 ((Mk.pad 8 fs).length : Nat), .int .u64 (Mk.room s.x : Nat)]) ∧ FiE 71 gf 0 l base A w w' A' n' c' (Mk.section_ s.x fs)
def stAt (x : Mk.Spec) (f : List UInt8) (i : Nat) : List UInt8 × List (Nat × Nat) := ((Mk.parts x).take i).foldl (Mk.stepPart (Mk.base x)) (Mk.pad 8 f ++ Mk.zs (Mk.room x), Mk.heads2 x.dyn)
theorem stAt_end {x : Mk.Spec} {f : List UInt8} {i : Nat} (h : (Mk.parts x).length ≤ i) : stAt x f i = Mk.laidParts x f := by
  unfold stAt Mk.laidParts
  rw [List.take_of_length_le h]
theorem stAt_step {x : Mk.Spec} {f : List UInt8} {i : Nat} {p : Nat × List UInt8} (h : (Mk.parts x)[i]? = some p) : stAt x f (i + 1) = (Mk.pad 8 (stAt x f i).1 ++ p.2, (stAt x f i).2 ++ Mk.tell p.1 (Mk.base x + (Mk.pad 8 (stAt x f i).1).length) p.2.length) := by
  unfold stAt
  rw [List.take_add_one, h, List.foldl_append]
  rfl
theorem stAt_le {x : Mk.Spec} (f : List UInt8) (i T : Nat) (h2 : x.dyn.syms.length ≤ 64) (h3 : x.dyn.relas.length ≤ 64) (hT : (Mk.texts3 x.dyn).length ≤ T) : (stAt x f i).1.length ≤ f.length + 8 + Mk.room x + 5 * (T + 1600) := by
  have h1 := fold_le (Mk.base x) ((Mk.parts x).take i) (T + 1600) (Mk.pad 8 f ++ Mk.zs (Mk.room x), Mk.heads2 x.dyn) (fun p hp => part_len x h2 h3 T hT p (List.mem_of_mem_take hp))
  have h4 := parts_len x
  have h5 : ((Mk.parts x).take i).length ≤ 5 := by rw [List.length_take]; omega
  have h6 := Nat.mul_le_mul_left (T + 1600) h5
  have h7 := pad_le 8 (by omega) f
  unfold stAt
  simp only [List.length_append, zs_len] at h1
  omega
theorem stAt_ents {x : Mk.Spec} (f : List UInt8) (i : Nat) : (Mk.entsB (stAt x f i).2).length ≤ Mk.room x := by
  rw [entsB_len]
  unfold stAt Mk.room
  rw [(fold_len _ _ _).1, List.length_append]
  have h : (Mk.told ((Mk.parts x).take i)).length ≤ (Mk.told (Mk.parts x)).length := by
    have e := List.take_append_drop i (Mk.parts x)
    rw [show Mk.told (Mk.parts x) = Mk.told ((Mk.parts x).take i ++ (Mk.parts x).drop i) by rw [e], told_app, List.length_append]
    omega
  have e9 : ((Mk.pad 8 f ++ Mk.zs (16 * (List.length (Mk.heads2 x.dyn) + List.length (Mk.told (Mk.parts x)))), Mk.heads2 x.dyn) : List UInt8 × List (Nat × Nat)).2 = Mk.heads2 x.dyn := rfl
  rw [e9]
  omega
theorem told_next {l : List (Nat × List UInt8)} {i : Nat} {p : Nat × List UInt8} (h : l[i]? = some p) : Mk.told (l.take (i + 1)) = Mk.told (l.take i) ++ Mk.tell p.1 0 0 := by
  rw [List.take_add_one, h, told_app]
  simp [Mk.told]
theorem enter_tell0 (args : Array Value) (w : World) : (callFunc 75 args).run Tryz.prog w = .ok (.enter 75 args) w := by kernel_rfl
theorem enter_tell1 (args : Array Value) (w : World) : (callFunc 76 args).run Tryz.prog w = .ok (.enter 76 args) w := by kernel_rfl
theorem enter_tell2 (args : Array Value) (w : World) : (callFunc 78 args).run Tryz.prog w = .ok (.enter 78 args) w := by kernel_rfl
theorem enter_tell3 (args : Array Value) (w : World) : (callFunc 79 args).run Tryz.prog w = .ok (.enter 79 args) w := by kernel_rfl
theorem enter_tell4 (args : Array Value) (w : World) : (callFunc 80 args).run Tryz.prog w = .ok (.enter 80 args) w := by kernel_rfl
theorem tellF_enter (k : Nat) (args : Array Value) (w : World) : (callFunc (tellF k) args).run Tryz.prog w = .ok (.enter (tellF k) args) w := by
  match k with
  | 0 => exact enter_tell0 args w
  | 1 => exact enter_tell1 args w
  | 2 => exact enter_tell2 args w
  | 3 => exact enter_tell3 args w
  | k + 4 => exact enter_tell4 args w
theorem below_undrew1 {w w' : World} (h : Below (w.drew).heap.size w.drew w') : Below w.heap.size w w' := ⟨h.os, h.tape, h.output, h.size, h.block⟩
theorem entsB_app (a b : List (Nat × Nat)) : Mk.entsB (a ++ b) = Mk.entsB a ++ Mk.entsB b := by unfold Mk.entsB; simp
set_option maxRecDepth 100000 in
set_option maxHeartbeats 60000000 in
theorem psecC (s : Xq) (gf gs base n c np cp ns cs0 T : Nat) (A As Ap : Option Addr) (fs : List UInt8) (qs : List PQ) (w wc : World)
    (hxB : Blk wc w.heap.size 66 s.l) (hF : FiM w 71 gf 0 [.slice A n c] base A n c fs) (hbase : base ≤ w.heap.size) (hfs : fs.length ≤ 1073741824) (hbw : Below w.heap.size w wc)
    (hgs : w.heap.size < gs) (hS : FiM wc 71 gs 0 [.slice As ns cs0] w.heap.size As ns cs0 (Mk.entsB (Mk.heads2 s.x.dyn))) (hax : bk As ≠ some w.heap.size) (hP : PaF w.heap.size gs As wc qs Ap np cp) (hqs : qs.map PQ.p = Mk.parts s.x)
    (n1 : s.x.dyn.needed.length ≤ 8) (n2 : s.x.dyn.syms.length ≤ 64) (n3 : s.x.dyn.relas.length ≤ 64) (hT : (Mk.texts3 s.x.dyn).length ≤ T) (hT2 : T ≤ 536870912)
    (u0 u3 u4 u5 u6 u7 u9 u10 u11 u13 u14 u15 u16 u17 u18 u19 u20 u21 u22 u23 u24 u25 u26 u27 u28 u29 u30 u31 u32 u33 u34 u35 u36 u37 u38 u39 u40 u41 u42 u43 u44 u45 u46 u47 u48 u49 u50 u51 u52 u53 u54 u55 u56 u57 u58 u59 u60 u61 u62 u63 u64 u65 u66 u67 u68 u69 u70 u71 u72 u73 u74 u75 u76 u77 u78 u79 u80 u81 u82 u83 u84 u85 u86 u87 u88 u89 u90 u91 u92 u93 u94 u95 u96 u97 u98 u99 u100 u101 u102 u103 u104 u105 u106 u107 u108 u109 u110 u111 u112 u113 u114 u115 u116 u117 u118 u119 u120 u121 u122 u123 u124 u125 u126 u127 u128 u129 u130 u131 u132 u133 u134 u135 u136 u137 u138 u139 u140 u141 u142 u143 u144 u145 u146 u147 u148 u149 u150 u151 u152 u153 u154 u155 u156 u157 u158 u159 u160 u161 u162 u163 u164 u165 u166 u167 u168 u169 u170 u171 u172 u173 u174 u175 u176 : Value) :
    (dropC 13 (Tryz.f29.body.getD .skip)).wp Tryz.prog (bodyPost Tryz.prog Tryz.f29 (SecE s gf base [.slice A n c] A fs w)) ⟨#[u0, .pointer (some ⟨gf, 0, none⟩), .pointer (some ⟨w.heap.size, 0, none⟩), u3, u4, u5, u6, u7, .pointer (some ⟨gs, 0, none⟩), u9, u10, u11, .slice Ap np cp, u13, u14, u15, u16, u17, u18, u19, u20, u21, u22, u23, u24, u25, u26, u27, u28, u29, u30, u31, u32, u33, u34, u35, u36, u37, u38, u39, u40, u41, u42, u43, u44, u45, u46, u47, u48, u49, u50, u51, u52, u53, u54, u55, u56, u57, u58, u59, u60, u61, u62, u63, u64, u65, u66, u67, u68, u69, u70, u71, u72, u73, u74, u75, u76, u77, u78, u79, u80, u81, u82, u83, u84, u85, u86, u87, u88, u89, u90, u91, u92, u93, u94, u95, u96, u97, u98, u99, u100, u101, u102, u103, u104, u105, u106, u107, u108, u109, u110, u111, u112, u113, u114, u115, u116, u117, u118, u119, u120, u121, u122, u123, u124, u125, u126, u127, u128, u129, u130, u131, u132, u133, u134, u135, u136, u137, u138, u139, u140, u141, u142, u143, u144, u145, u146, u147, u148, u149, u150, u151, u152, u153, u154, u155, u156, u157, u158, u159, u160, u161, u162, u163, u164, u165, u166, u167, u168, u169, u170, u171, u172, u173, u174, u175, u176], []⟩ wc := by
  conv => arg 2; whnf
  have hnp : np ≤ 5 := by
    have h1 := parts_len s.x
    have h2 := congrArg List.length hqs
    rw [List.length_map] at h2
    have := hP.len
    omega
  have hsl := hS.len
  rw [entsB_len] at hsl
  have hh2 := heads2_len s.x.dyn
  have hns : ns ≤ 160 := by omega
  have hrm := room_le s.x n1
  have y0 := hS.cell
  have hgsl := hS.blk.lt
  have hbl := Blk.new wc 71 [.slice As ns cs0]
  have HP := hide hP
  have HS := hide hS
  have HF := hide hF
  have HxB := hide hxB
  have Hqs := hide hqs
  have Hbw := hide hbw
  have Hsl := hide hsl
  clear hP hS hF hxB hqs hbw hsl hh2
  have hE0 : FiE 71 wc.heap.size 0 [.slice As ns cs0] w.heap.size As wc (wc.alloc (.cells #[.slice As ns cs0] 71)) As ns cs0 (Mk.entsB (Mk.heads2 s.x.dyn)) :=
    FiE.after (below_al _ _) (FiE.refl ⟨hbl, rfl, own_below (unhide HS).row (below_al _ _), fun e => by have := (own_bklt (unhide HS).row _ e).2; omega⟩)
  have hO0 : OldK 5 1 (wc.alloc (.cells #[.slice As ns cs0] 71)) w.heap.size As ns cs0 (bys (Mk.entsB (Mk.heads2 s.x.dyn))) As ns cs0 := OldK.refl (own_below (unhide HS).row (below_al _ _))
  have HE0 := hide hE0
  have HO0 := hide hO0
  clear hE0 hO0 hbl
  go_wp2_with fail
  go_loopg [124] np (fun gk iv wr => ∃ (i : Nat) (A' : Option Addr) (c' : Nat), gk = np - i ∧ i ≤ np ∧ iv = .int .i64 i ∧ FiE 71 wc.heap.size 0 [.slice As ns cs0] w.heap.size As wc wr A' (ns + 16 * (Mk.told ((Mk.parts s.x).take i)).length) c' (Mk.entsB (Mk.heads2 s.x.dyn) ++ Mk.entsB (Mk.told ((Mk.parts s.x).take i))) ∧ OldK 5 1 wr w.heap.size As ns cs0 (bys (Mk.entsB (Mk.heads2 s.x.dyn))) A' (ns + 16 * (Mk.told ((Mk.parts s.x).take i)).length) c')
  case atStart => exact ⟨0, As, cs0, by omega, by omega, rfl, by simpa [Mk.told, Mk.entsB] using unhide HE0, by simpa [Mk.told] using unhide HO0⟩
  case round =>
  clear HE0 HO0 y0
  obtain ⟨i, A', c', hgk, hi, rfl, hE, hO⟩ := hrel
  have Hgk := hide hgk
  have hPr := (unhide HP).same (w' := wr) (fun k h1 h2 h3 h4 => hE.block k h2 (by omega) h4)
  have HE := hide hE
  have HO := hide hO
  have hwr := hE.size
  clear hgk hE hO
  by_cases hlt : i < np
  · obtain ⟨q, hq⟩ : ∃ q, qs[i]? = some q := ⟨_, List.getElem?_eq_getElem (by have := hPr.len; omega)⟩
    have hqp : (Mk.parts s.x)[i]? = some q.p := by rw [← unhide Hqs, List.getElem?_map, hq]; rfl
    have Ht := hide (told_next hqp)
    obtain ⟨kp, op, hAp, -, st0, st1⟩ := part_at (Rd.of_own hPr.row) hq
    subst hAp
    have ilt : (i : Int) < (np : Int) := by omega
    have hb1 := below_al wr (.cells #[.slice q.A q.n q.c, .func (.func (tellF q.k)) #[] #[]] 158)
    have hl16 : (Mk.told ((Mk.parts s.x).take i)).length ≤ 15 := by
      have h1 := told_len ((Mk.parts s.x).take i)
      rw [List.length_take] at h1
      omega
    have hent : (Mk.entsB (Mk.told ((Mk.parts s.x).take i))).length = 16 * (Mk.told ((Mk.parts s.x).take i)).length := entsB_len _
    have KT : Hid (Calls Tryz.prog (tellF q.k) #[.pointer (some ⟨wc.heap.size, 0, none⟩), .int .u64 0, .int .i64 0] (wr.alloc (.cells #[.slice q.A q.n q.c, .func (.func (tellF q.k)) #[] #[]] 158)) (TellE 71 wc.heap.size 0 ([.slice As ns cs0].set 0 (.slice A' (ns + 16 * (Mk.told ((Mk.parts s.x).take i)).length) c')) w.heap.size A' (ns + 16 * (Mk.told ((Mk.parts s.x).take i)).length) c' (Mk.entsB (Mk.heads2 s.x.dyn) ++ Mk.entsB (Mk.told ((Mk.parts s.x).take i))) (Mk.tell q.k 0 0) (wr.alloc (.cells #[.slice q.A q.n q.c, .func (.func (tellF q.k)) #[] #[]] 158)))) :=
      hide (tell_any q.k _ wc.heap.size 0 _ w.heap.size A' _ c' 0 0 _ _ ((unhide HE).m.below hb1) (by have := hb1.size; have := (unhide Hbw).size; omega) (by omega) (by omega) (by omega))
    have Hb1 := hide hb1
    have Hq := hide hq
    have Hent := hide hent
    clear hb1 hq hqp hent hPr hl16
    go_wp2_with fail
    rw [tellF_enter, Oper.upon_enter]
    refine (unhide KT).mono ?_
    rintro e w5 ⟨rfl, A2, c2, hE2, hK2⟩
    have hE3 := ((unhide HE).then_ (unhide Hb1)).trans hE2
    have hO3 := OldK.step ((unhide HO).below (unhide Hb1)) hE2 hK2 (Nat.le_refl _) rfl (fun e => by have := ((unhide HS).lt _ e).2; omega) (unhide HS).len (by rw [unhide Hent])
    have hn3 : ns + 16 * (Mk.told ((Mk.parts s.x).take i)).length + 16 * (Mk.tell q.k 0 0).length = ns + 16 * (Mk.told ((Mk.parts s.x).take (i + 1))).length := by rw [unhide Ht, List.length_append]; show _ + 16 * (Mk.tell q.p.1 0 0).length = _; omega
    rw [hn3] at hE3 hO3
    rw [List.append_assoc, ← entsB_app, show Mk.told ((Mk.parts s.x).take i) ++ Mk.tell q.k 0 0 = Mk.told ((Mk.parts s.x).take (i + 1)) from (unhide Ht).symm] at hE3
    have HE3 := hide hE3
    have HO3 := hide hO3
    clear hE2 hK2 hE3 hO3 hn3 KT st0 st1
    go_wp2_with fail
    go_roundg (np - (i + 1))
    case measure => have := unhide Hgk; omega
    case rel => exact ⟨i + 1, A2, c2, rfl, by omega, by go_num, unhide HE3, unhide HO3⟩
  have hi' : i = np := by omega
  subst hi'
  have ige : ¬ (i : Int) < (i : Int) := by omega
  have hpl : (Mk.parts s.x).length = i := by rw [← unhide Hqs, List.length_map]; exact hPr.len.symm
  have hE := unhide HE
  have hO := unhide HO
  rw [List.take_of_length_le (by omega)] at hE hO
  have hrm2 : ns + 16 * (Mk.told (Mk.parts s.x)).length = Mk.room s.x := by unfold Mk.room; rw [List.length_append]; have := unhide Hsl; omega
  rw [hrm2] at hE hO
  obtain ⟨rm, hrme⟩ : ∃ rm, Mk.room s.x = rm := ⟨_, rfl⟩
  rw [hrme] at hE hO hrm
  have Hrm := hide hrme
  have y1 := hE.m.cell
  have hS4 : FiM wr 71 gs 0 [.slice As ns cs0] w.heap.size As ns cs0 (Mk.entsB (Mk.heads2 s.x.dyn)) := ⟨hE.blk (unhide HS).blk (by omega) (unhide HS).ne, rfl, hO.own, (unhide HS).ne⟩
  have hx4 := hE.blk (unhide HxB) (by have := (unhide HxB).lt; omega) hax
  have hb4 := (unhide Hbw).trans (hE.below (B := w.heap.size) (by have := (unhide Hbw).size; omega) (fun k hk => ((unhide HS).lt k hk).1) (unhide Hbw).size)
  have HS4 := hide hS4
  have Hx4 := hide hx4
  have Hb4 := hide hb4
  have HPr := hide hPr
  have Hpl := hide hpl
  have hb4s := hb4.size
  obtain ⟨bi, hbi, hz0, hz1, hz2⟩ := info_parts byteInfo
  have Hbi := hide hbi
  have Hz0 := hide hz0
  have Hz1 := hide hz1
  have Hz2 := hide hz2
  clear hE hO hS4 hx4 hb4 hPr hlt hi HE HO hpl hrm2 hrme hbi hz0 hz1 hz2 HP
  go_wp2_with (at_make; refine wpList_make_full _ rfl _ _ 24 rfl wr.heap.size 5 bi (.int .u8 0) 1 Tryz.underlying24 (unhide Hbi) (unhide Hz0) (unhide Hz1) _ _ _ _ rm rfl (by rfl) rfl (by rfl) (by rw [unhide Hz2]; omega) (by unfold maxLen; omega) (Nat.le_refl _) ?_; intro w5 hown hgrow; have hb5 := (Below.refl wr.heap.size wr).grown hgrow (Nat.le_refl _) (fun k hk => by cases hk); rw [zerosN] at hown; have Hown := hide hown; have Hb5 := hide hb5; clear hown hgrow hb5)
  have hL : LoS gf gs base [.slice A n c] A As w w5 w5 fs (Mk.entsB (Mk.heads2 s.x.dyn)) none := by
    have hb5 := (unhide Hb4).trans ((unhide Hb5).mono (unhide Hb4).size)
    have hF := unhide HF
    have hS5 := (unhide HS4).below (unhide Hb5)
    have hnl := (unhide HS).len
    refine ⟨⟨A, n, c, As, cs0, (FiE.refl hF).then_ hb5, by rw [hnl]; exact hS5, fun k h1 h2 => ?_, fun e => ?_, fun k hk => .inl hk, fun k hk => .inl hk, fun k hk => by cases hk⟩, fun k _ _ _ _ => rfl, by omega, hF.blk.lt, hF.lt, hbase, Nat.le_refl _, hb5.size⟩
    · have := (hF.lt k h2).2; have := (hS5.lt k h1).1; omega
    · have := (hF.lt _ e).2; omega
  have hP5 := (unhide HPr).calm (unhide Hb5)
  have hx5 := (unhide Hx4).belowSz (unhide Hb5)
  have hs5 := (unhide Hb5).size
  have KP := hide (hL.callPut (by omega) (own_base (unhide Hown) (show w.heap.size ≤ wr.heap.size by omega)) (fun k hk => by
    have h1 := (own_bklt (unhide Hown) k hk).1
    exact ⟨by omega, fun e => by have := ((unhide HS).lt k e).2; omega⟩) (by omega))
  have HP5 := hide hP5
  have Hx5 := hide hx5
  clear hL hP5 hx5 Hown HS4 Hx4 HPr y1
  refine (unhide KP).mono ?_
  rintro e w6 ⟨rfl, hL, -⟩
  have hpd := pad_le 8 (by omega) fs
  obtain ⟨p0, hp0⟩ : ∃ p0, (Mk.pad 8 fs).length = p0 := ⟨_, rfl⟩
  rw [hp0] at hpd ⊢
  have Hp0 := hide hp0
  have hL0 : LoS gf gs base [.slice A n c] A As w w5 w6 (stAt s.x fs 0).1 (Mk.entsB (stAt s.x fs 0).2) none := hL.bind (by unfold stAt; rw [unhide Hrm]; rfl) rfl
  have HL0 := hide hL0
  clear hL hL0 KP hp0
  go_wp2_with fail
  go_loopg [140] i (fun gk iv wr => ∃ j : Nat, gk = i - j ∧ j ≤ i ∧ iv = .int .i64 j ∧ LoS gf gs base [.slice A n c] A As w w5 wr (stAt s.x fs j).1 (Mk.entsB (stAt s.x fs j).2) none)
  case atStart => exact ⟨0, by omega, by omega, rfl, unhide HL0⟩
  case round =>
  clear HL0
  rename_i wr0 _ _ _
  obtain ⟨j, hgk, hj, rfl, hL⟩ := hrel
  have Hgk := hide hgk
  have HL := hide hL
  have hPr := hL.parts (unhide HP5)
  have hxr := hL.blk (unhide Hx5) (Nat.le_refl _) (by omega) hax
  have hwr5 := hL.size
  have hww := hL.h3
  clear hgk hL
  by_cases hlt : j < i
  · obtain ⟨q, hq⟩ : ∃ q, qs[j]? = some q := ⟨_, List.getElem?_eq_getElem (by have := hPr.len; omega)⟩
    have hqp : (Mk.parts s.x)[j]? = some q.p := by rw [← unhide Hqs, List.getElem?_map, hq]; rfl
    have hqo := ((unhide HP5).own q (List.mem_of_getElem? hq))
    have hqn : q.b.length = q.n := by have := hqo.1.1; simpa [bys] using this
    have hstep := stAt_step (f := fs) hqp
    have hst1 := stAt_le fs j T n2 n3 hT
    have hst2 := stAt_ents (x := s.x) fs j
    rw [unhide Hrm] at hst1 hst2
    have hqle : q.n ≤ 4294967296 := by
      have h9 := part_len s.x n2 n3 T hT _ (List.mem_of_getElem? hqp)
      have h8 : q.p.2 = q.b := rfl
      rw [h8] at h9
      omega
    obtain ⟨f9, hf9⟩ : ∃ f9, (stAt s.x fs j).1 = f9 := ⟨_, rfl⟩
    obtain ⟨e9, he9⟩ : ∃ e9, (stAt s.x fs j).2 = e9 := ⟨_, rfl⟩
    rw [hf9] at hst1 hstep HL
    rw [he9] at hst2 hstep HL
    obtain ⟨kp, op, hAp, -, st0, st1⟩ := part_at (Rd.of_own hPr.row) hq
    subst hAp
    have ilt : (j : Int) < (i : Int) := by omega
    have hpad := pad_le 8 (by omega) f9
    obtain ⟨p9, hp9⟩ : ∃ p9, (Mk.pad 8 f9).length = p9 := ⟨_, rfl⟩
    rw [hp9] at hpad hstep
    have hbs : Mk.base s.x ≤ 4194304 := by unfold Mk.base; split <;> omega
    have Hbs := hide (show Mk.base s.x = Mk.base s.x from rfl)
    obtain ⟨b9, hb9⟩ : ∃ b9, Mk.base s.x = b9 := ⟨_, rfl⟩
    rw [hb9] at hbs hstep
    have hb1 := below_al wr (.cells #[.slice q.A q.n q.c, .func (.func (tellF q.k)) #[] #[]] 158)
    have hpb := Blk.new wr 158 [.slice q.A q.n q.c, .func (.func (tellF q.k)) #[] #[]]
    have hxp := hxr.belowSz hb1
    obtain ⟨a0, a1, a2, a3, a4, a5, a6, a7, a8, a9, a10, a11, a12⟩ := spec_cellsP hxp
    have z0 : (wr.alloc (.cells #[.slice q.A q.n q.c, .func (.func (tellF q.k)) #[] #[]] 158)).cell? ⟨wr.heap.size, 0, none⟩ = some (.slice q.A q.n q.c) := hpb.cell (i := 0) rfl
    have z1 : (wr.alloc (.cells #[.slice q.A q.n q.c, .func (.func (tellF q.k)) #[] #[]] 158)).cell? ⟨wr.heap.size, 1, none⟩ = some (.func (.func (tellF q.k)) #[] #[]) := hpb.cell (i := 1) rfl
    have HLp : Hid (LoS gf gs base [.slice A n c] A As w w5 (wr.alloc (.cells #[.slice q.A q.n q.c, .func (.func (tellF q.k)) #[] #[]] 158)) f9 (Mk.entsB e9) (some wr.heap.size)) := hide ((unhide HL).lay _)
    have hwb : IntKind.u64.wrap ((b9 : Int) + (p9 : Int)) = (b9 : Int) + (p9 : Int) := by rw [IntKind.wrap_u64]; omega
    have hsz1 : (wr.alloc (.cells #[.slice q.A q.n q.c, .func (.func (tellF q.k)) #[] #[]] 158)).heap.size = wr.heap.size + 1 := by simp
    have hwp : w.heap.size < wr.heap.size := by have := hxr.lt; omega
    have KB : Hid (∀ W, Calls Tryz.prog 27 #[.agg #[.int .u16 (s.x.type : Nat), .int .u64 (s.x.entry : Nat), .string s.x.interp, .slice s.At s.x.text.length s.ct, .slice s.Ad s.x.data.length s.cd, .int .u64 (s.x.more : Nat), .bool s.x.dynamic, .slice s.A1 s.x.dyn.needed.length s.c1, .string s.x.dyn.soname, .string s.x.dyn.run, .slice s.A2 s.x.dyn.syms.length s.c2, .slice s.A3 s.x.dyn.relas.length s.c3, .int .i64 s.x.apart]] W fun e w' => e = .returned (.int .u64 (b9 : Nat)) ∧ Below W.heap.size W w') := hide (fun W => by have h9 := pbase_any s W; rw [hb9] at h9; exact h9)
    have Hb1 := hide hb1
    have Hqo := hide hqo
    have Hqn := hide hqn
    have Hstep := hide hstep
    have Hf9 := hide hf9
    have Hp9 := hide hp9
    have Hq := hide hq
    have Hsz1 := hide hsz1
    clear hb1 hq hqp hqo hqn hPr hstep hf9 he9 hp9 hb9 Hbs hsz1 hpb hxr hxp
    go_wp2_with fail
    refine wp_region_noPanic ?_
    refine wp_region_held_drew (S := fun W => W.cell? ⟨wr.heap.size, 0, none⟩ = some (.slice q.A q.n q.c) ∧ W.cell? ⟨wr.heap.size, 1, none⟩ = some (.func (.func (tellF q.k)) #[] #[]) ∧ W.cell? ⟨w.heap.size, 0, none⟩ = some (.int .u16 (s.x.type : Nat)) ∧ W.cell? ⟨w.heap.size, 1, none⟩ = some (.int .u64 (s.x.entry : Nat)) ∧ W.cell? ⟨w.heap.size, 2, none⟩ = some (.string s.x.interp) ∧ W.cell? ⟨w.heap.size, 3, none⟩ = some (.slice s.At s.x.text.length s.ct) ∧ W.cell? ⟨w.heap.size, 4, none⟩ = some (.slice s.Ad s.x.data.length s.cd) ∧ W.cell? ⟨w.heap.size, 5, none⟩ = some (.int .u64 (s.x.more : Nat)) ∧ W.cell? ⟨w.heap.size, 6, none⟩ = some (.bool s.x.dynamic) ∧ W.cell? ⟨w.heap.size, 7, none⟩ = some (.slice s.A1 s.x.dyn.needed.length s.c1) ∧ W.cell? ⟨w.heap.size, 8, none⟩ = some (.string s.x.dyn.soname) ∧ W.cell? ⟨w.heap.size, 9, none⟩ = some (.string s.x.dyn.run) ∧ W.cell? ⟨w.heap.size, 10, none⟩ = some (.slice s.A2 s.x.dyn.syms.length s.c2) ∧ W.cell? ⟨w.heap.size, 11, none⟩ = some (.slice s.A3 s.x.dyn.relas.length s.c3) ∧ W.cell? ⟨w.heap.size, 12, none⟩ = some (.int .i64 s.x.apart)) (by kernel_rfl) (⟨z0, z1, a0, a1, a2, a3, a4, a5, a6, a7, a8, a9, a10, a11, a12⟩) (fun HS0 => ?_)
    refine takeD (i := 0) (d := some 144) (v := ?_) rfl rfl (by kernel_rfl) (by kernel_rfl) (by kernel_rfl) (fun _ _ _ h => h) (Or.inl ⟨by rfl, ?y0⟩) HS0 ?_
    case y0 => (intro w' hSw; (try dsimp only at hSw); go_simp; (try with_reducible rfl))
    simp only [Act.put, List.setIfInBounds_toArray, List.set_cons_zero, List.set_cons_succ]
    refine takeD (i := 1) (d := some 145) (v := ?_) rfl rfl (by kernel_rfl) (by kernel_rfl) (by kernel_rfl) (fun _ _ _ h => h) (Or.inl ⟨by rfl, ?y1⟩) HS0 ?_
    case y1 => (intro w' hSw; (try dsimp only at hSw); go_simp; (try with_reducible rfl))
    simp only [Act.put, List.setIfInBounds_toArray, List.set_cons_zero, List.set_cons_succ]
    refine takeD (i := 2) (d := some 146) (v := ?_) rfl rfl (by kernel_rfl) (by kernel_rfl) (by kernel_rfl) (fun _ _ _ h => h) (Or.inl ⟨by rfl, ?y2⟩) HS0 ?_
    case y2 => (intro w' hSw; (try dsimp only at hSw); go_simp; (try with_reducible rfl))
    simp only [Act.put, List.setIfInBounds_toArray, List.set_cons_zero, List.set_cons_succ]
    refine takeD (i := 3) (d := some 147) (v := ?_) rfl rfl (by kernel_rfl) (by kernel_rfl) (by kernel_rfl) (fun _ _ _ h => h) (Or.inl ⟨by rfl, ?y3⟩) HS0 ?_
    case y3 => (intro w' hSw; (try dsimp only at hSw); go_simp; (try with_reducible rfl))
    simp only [Act.put, List.setIfInBounds_toArray, List.set_cons_zero, List.set_cons_succ]
    refine takeD (i := 5) (d := some 149) (v := ?_) rfl rfl (by kernel_rfl) (by kernel_rfl) (by kernel_rfl) (fun _ _ _ h => h) (Or.inl ⟨by rfl, ?y5⟩) HS0 ?_
    case y5 => (intro w' hSw; (try dsimp only at hSw); go_simp; (try with_reducible rfl))
    simp only [Act.put, List.setIfInBounds_toArray, List.set_cons_zero, List.set_cons_succ]
    refine takeD (i := 6) (d := some 150) (v := ?_) rfl rfl (by kernel_rfl) (by kernel_rfl) (by kernel_rfl) (fun _ _ _ h => h) (Or.inl ⟨by rfl, ?y6⟩) HS0 ?_
    case y6 => (intro w' hSw; (try dsimp only at hSw); go_simp; (try with_reducible rfl))
    simp only [Act.put, List.setIfInBounds_toArray, List.set_cons_zero, List.set_cons_succ]
    refine takeD (i := 7) (d := some 151) (v := ?_) rfl rfl (by kernel_rfl) (by kernel_rfl) (by kernel_rfl) (fun _ _ _ h => h) (Or.inl ⟨by rfl, ?y7⟩) HS0 ?_
    case y7 => (intro w' hSw; (try dsimp only at hSw); go_simp; (try with_reducible rfl))
    simp only [Act.put, List.setIfInBounds_toArray, List.set_cons_zero, List.set_cons_succ]
    refine takeD (i := 10) (d := some 154) (v := ?_) rfl rfl (by kernel_rfl) (by kernel_rfl) (by kernel_rfl) (fun _ _ _ h => h) (Or.inl ⟨by rfl, ?y10⟩) HS0 ?_
    case y10 => (intro w' hSw; (try dsimp only at hSw); go_simp; (try with_reducible rfl))
    simp only [Act.put, List.setIfInBounds_toArray, List.set_cons_zero, List.set_cons_succ]
    refine takeD (i := 11) (d := some 155) (v := ?_) rfl rfl (by kernel_rfl) (by kernel_rfl) (by kernel_rfl) (fun _ _ _ h => h) (Or.inl ⟨by rfl, ?y11⟩) HS0 ?_
    case y11 => (intro w' hSw; (try dsimp only at hSw); go_simp; (try with_reducible rfl))
    simp only [Act.put, List.setIfInBounds_toArray, List.set_cons_zero, List.set_cons_succ]
    refine takeD (i := 12) (d := some 156) (v := ?_) rfl rfl (by kernel_rfl) (by kernel_rfl) (by kernel_rfl) (fun _ _ _ h => h) (Or.inl ⟨by rfl, ?y12⟩) HS0 ?_
    case y12 => (intro w' hSw; (try dsimp only at hSw); go_simp; (try with_reducible rfl))
    simp only [Act.put, List.setIfInBounds_toArray, List.set_cons_zero, List.set_cons_succ]
    refine wpAnyH_ready (rs := [4]) (by kernel_rfl) (by simp) ?_
    refine AllReadyH.cons (i := 4) rfl (fun K hK => ?_) AllReadyH.nil
    rw [if_pos (by rfl)]
    go_simp
    go_at_call 27
    with_reducible refine ((unhide KB) _).mono ?_
    rintro e w7 ⟨rfl, hb7⟩
    have hb7 := below_undrew1 hb7
    have hL7 := (unhide HLp).calm hb7
    have hk7 : w7.heap[wr.heap.size]? = (wr.alloc (.cells #[.slice q.A q.n q.c, .func (.func (tellF q.k)) #[] #[]] 158)).heap[wr.heap.size]? := hb7.block _ (by rw [unhide Hsz1]; omega)
    have hx7 : w7.heap[w.heap.size]? = (wr.alloc (.cells #[.slice q.A q.n q.c, .func (.func (tellF q.k)) #[] #[]] 158)).heap[w.heap.size]? := hb7.block _ (by rw [unhide Hsz1]; omega)
    refine hK.out _ _ (⟨(cell_blk hk7 0).trans z0, (cell_blk hk7 1).trans z1, (cell_blk hx7 0).trans a0, (cell_blk hx7 1).trans a1, (cell_blk hx7 2).trans a2, (cell_blk hx7 3).trans a3, (cell_blk hx7 4).trans a4, (cell_blk hx7 5).trans a5, (cell_blk hx7 6).trans a6, (cell_blk hx7 7).trans a7, (cell_blk hx7 8).trans a8, (cell_blk hx7 9).trans a9, (cell_blk hx7 10).trans a10, (cell_blk hx7 11).trans a11, (cell_blk hx7 12).trans a12⟩) (fun hHeld => ?_)
    clear hK K HS0
    have HS0 := hHeld
    clear hHeld
    (try simp only [Act.put, List.setIfInBounds_toArray, List.set_cons_zero, List.set_cons_succ])
    refine wpAnyH_ready (rs := [8]) (by kernel_rfl) (by simp) ?_
    refine AllReadyH.cons (i := 8) rfl (fun K hK => ?_) AllReadyH.nil
    rw [if_pos (by rfl)]
    have KP := hide (hL7.callPut (by omega) (unhide Hqo).1 (unhide Hqo).2 hqle)
    rw [unhide Hp9] at KP
    go_simp
    go_at_call 28
    with_reducible refine (unhide KP).mono ?_
    rintro e w8 ⟨rfl, hL8, hm8⟩
    have hk8 := (hm8 _ rfl).trans hk7
    have hx8 : w8.heap[w.heap.size]? = (wr.alloc (.cells #[.slice q.A q.n q.c, .func (.func (tellF q.k)) #[] #[]] 158)).heap[w.heap.size]? := (hL8.keep _ (Nat.le_refl _) (by have := (unhide Hx5).lt; omega) (by omega) hax).trans ((unhide HLp).keep _ (Nat.le_refl _) (by have := (unhide Hx5).lt; omega) (by omega) hax).symm
    refine hK.out _ _ (⟨(cell_blk hk8 0).trans z0, (cell_blk hk8 1).trans z1, (cell_blk hx8 0).trans a0, (cell_blk hx8 1).trans a1, (cell_blk hx8 2).trans a2, (cell_blk hx8 3).trans a3, (cell_blk hx8 4).trans a4, (cell_blk hx8 5).trans a5, (cell_blk hx8 6).trans a6, (cell_blk hx8 7).trans a7, (cell_blk hx8 8).trans a8, (cell_blk hx8 9).trans a9, (cell_blk hx8 10).trans a10, (cell_blk hx8 11).trans a11, (cell_blk hx8 12).trans a12⟩) (fun hHeld => ?_)
    clear hK K HS0
    have HS0 := hHeld
    clear hHeld
    (try simp only [Act.put, List.setIfInBounds_toArray, List.set_cons_zero, List.set_cons_succ])
    refine takeD (i := 9) (d := some 153) (v := .int .u64 ((b9 : Int) + (p9 : Int))) rfl rfl (by kernel_rfl) (by kernel_rfl) (by kernel_rfl) (fun _ _ _ h => h) (Or.inl ⟨by rfl, ?y9⟩) HS0 ?_
    case y9 => (intro w' hSw; (try dsimp only at hSw); go_simp; (try rw [hwb]))
    simp only [Act.put, List.setIfInBounds_toArray, List.set_cons_zero, List.set_cons_succ]
    refine wpAnyH_ready (rs := [13]) (by kernel_rfl) (by simp) ?_
    refine AllReadyH.cons (i := 13) rfl (fun K hK => ?_) AllReadyH.nil
    rw [if_pos (by rfl)]
    have hss9 : (Mk.entsB e9).length ≤ 17592186044416 := by omega
    have KT := hide (hL8.callTell q.k (b9 + p9) q.n ((b9 : Int) + (p9 : Int)) (q.n : Int) (by omega) rfl hss9 (by omega) hqle)
    go_simp
    rw [tellF_enter, Oper.upon_enter]
    refine (unhide KT).mono ?_
    rintro e w9 ⟨rfl, hL9, hm9⟩
    have hk9 := (hm9 _ rfl).trans hk8
    have hx9 : w9.heap[w.heap.size]? = (wr.alloc (.cells #[.slice q.A q.n q.c, .func (.func (tellF q.k)) #[] #[]] 158)).heap[w.heap.size]? := (hL9.keep _ (Nat.le_refl _) (by have := (unhide Hx5).lt; omega) (by omega) hax).trans ((unhide HLp).keep _ (Nat.le_refl _) (by have := (unhide Hx5).lt; omega) (by omega) hax).symm
    have HL9 := hide hL9
    refine hK.out _ _ (⟨(cell_blk hk9 0).trans z0, (cell_blk hk9 1).trans z1, (cell_blk hx9 0).trans a0, (cell_blk hx9 1).trans a1, (cell_blk hx9 2).trans a2, (cell_blk hx9 3).trans a3, (cell_blk hx9 4).trans a4, (cell_blk hx9 5).trans a5, (cell_blk hx9 6).trans a6, (cell_blk hx9 7).trans a7, (cell_blk hx9 8).trans a8, (cell_blk hx9 9).trans a9, (cell_blk hx9 10).trans a10, (cell_blk hx9 11).trans a11, (cell_blk hx9 12).trans a12⟩) (fun hHeld => ?_)
    clear hK K HS0
    have HS0 := hHeld
    clear hHeld
    (try simp only [Act.put, List.setIfInBounds_toArray, List.set_cons_zero, List.set_cons_succ])
    refine wpAnyH_done (by kernel_rfl) ?_ _
    refine NoPanic.normal ?_
    clear HS0 z0 z1 a0 a1 a2 a3 a4 a5 a6 a7 a8 a9 a10 a11 a12 KB
    go_wp2_with fail
    go_roundg (i - (j + 1))
    case measure => have := unhide Hgk; omega
    case rel => exact ⟨j + 1, rfl, by omega, by go_num, (unhide HL9).drop.bind (by rw [unhide Hstep]; rfl) (by rw [unhide Hstep, entsB_app]; show _ = _ ++ Mk.entsB (Mk.tell q.k (b9 + p9) q.b.length); rw [unhide Hqn])⟩
  have hj' : j = i := by omega
  subst hj'
  have jge : ¬ (j : Int) < (j : Int) := by omega
  have hL := unhide HL
  rw [stAt_end (by rw [unhide Hpl]; omega)] at hL
  obtain ⟨Af, nf, cf, A2, c2, hE, hM, hd1, hd2, -⟩ := hL.st
  have hel : (Mk.entsB (Mk.laidParts s.x fs).2).length = rm := by rw [ents_len, unhide Hrm]
  rw [hel] at hM
  have hl1 := laid_len1 s.x fs
  have hl0 : (Mk.st0 s.x fs).1.length = p0 + rm := by unfold Mk.st0; rw [List.length_append, zs_len, unhide Hp0, unhide Hrm]
  rw [hl0] at hl1
  have hnf := hE.m.len
  have hnf2 : p0 + rm ≤ nf := by omega
  have hrm0 : 0 < rm := by
    have h1 := unhide Hrm
    unfold Mk.room Mk.parts at h1
    rw [told_app] at h1
    have h5 : (Mk.told [(4, Mk.texts3 s.x.dyn)]).length = 3 := rfl
    simp only [List.length_append, h5] at h1
    omega
  obtain ⟨kf, hkf, -, hkf2⟩ := own_some hE.m.row (by omega)
  subst hkf
  obtain ⟨kb, hkb, -, -⟩ := own_some hM.row (by omega)
  subst hkb
  have hcf := (own_at hE.m.row).2.2
  have x0 : wr.cell? ⟨gf, 0, none⟩ = some (.slice (some ⟨kf, 0, none⟩) nf cf) := hE.m.cell
  have x1 := hM.cell
  have ks : ∀ w', (Instr.slice 24 (.slice (some ⟨kf, 0, none⟩) nf cf) (some (.int .u64 (p0 : Nat))) none none).run Tryz.prog w' = .ok (.slice (some ⟨kf, p0, none⟩) (nf - p0) (cf - p0)) w' := fun w' => by
    have h := run_fromK (P := Tryz.prog) Tryz.underlying24 u8sz .u64 (some ⟨kf, 0, none⟩) nf cf p0 (by omega) w'
    unfold fromA at h
    rw [if_neg (by omega), Option.map_some, Addr.add_lit, Nat.zero_add] at h
    exact h
  have hgk : gf ≠ kf := fun e => hE.m.ne (by rw [← e]; rfl)
  have hsk : gs ≠ kf := fun e => hd2 (by rw [e]; rfl)
  have hwrm : IntKind.u64.wrap (rm : Int) = (rm : Int) := by rw [IntKind.wrap_u64]; omega
  have HE9 := hide hE
  have HM9 := hide hM
  have Hcpr := hide (Rd.of_own hM.row)
  have Hwrm := hide hwrm
  clear hL hE hM hd1 hd2 hel hl1 hl0 hPr hxr HL HP5 hwrm
  go_wp2_with fail
  refine wp_region_noPanic ?_
  refine wp_region_held_drew (S := fun W => W.cell? ⟨gf, 0, none⟩ = some (.slice (some ⟨kf, 0, none⟩) nf cf) ∧ W.cell? ⟨gs, 0, none⟩ = some (.slice (some ⟨kb, 0, none⟩) rm c2)) (by kernel_rfl) (⟨x0, x1⟩) (fun HS0 => ?_)
  refine takeD (i := 0) (d := some 159) (v := ?_) rfl rfl (by kernel_rfl) (by kernel_rfl) (by kernel_rfl) (fun _ _ _ h => h) (Or.inl ⟨by rfl, ?y0⟩) HS0 ?_
  case y0 => (intro w' hSw; (try dsimp only at hSw); go_simp; (try with_reducible rfl))
  simp only [Act.put, List.setIfInBounds_toArray, List.set_cons_zero, List.set_cons_succ]
  refine takeD (i := 1) (d := some 160) (v := ?_) rfl rfl (by kernel_rfl) (by kernel_rfl) (by kernel_rfl) (fun _ _ _ h => h) (Or.inl ⟨by rfl, ?y1⟩) HS0 ?_
  case y1 => (intro w' hSw; (try dsimp only at hSw); go_simp; (try with_reducible rfl))
  simp only [Act.put, List.setIfInBounds_toArray, List.set_cons_zero, List.set_cons_succ]
  refine takeD (i := 2) (d := some 161) (v := ?_) rfl rfl (by kernel_rfl) (by kernel_rfl) (by kernel_rfl) (fun _ _ _ h => h) (Or.inl ⟨by rfl, ?y2⟩) HS0 ?_
  case y2 => (intro w' hSw; (try dsimp only at hSw); go_simp; (try with_reducible rfl))
  simp only [Act.put, List.setIfInBounds_toArray, List.set_cons_zero, List.set_cons_succ]
  refine takeD (i := 3) (d := some 162) (v := ?_) rfl rfl (by kernel_rfl) (by kernel_rfl) (by kernel_rfl) (fun _ _ _ h => h) (Or.inl ⟨by rfl, ?y3⟩) HS0 ?_
  case y3 => (intro w' hSw; (try dsimp only at hSw); go_simp; (try with_reducible rfl))
  simp only [Act.put, List.setIfInBounds_toArray, List.set_cons_zero, List.set_cons_succ]
  refine takeD (i := 4) (d := some 163) (v := ?_) rfl rfl (by kernel_rfl) (by kernel_rfl) (by kernel_rfl) (fun _ _ _ h => h) (Or.inl ⟨by rfl, ?y4⟩) HS0 ?_
  case y4 => (intro w' hSw; (try dsimp only at hSw); go_simp; (try with_reducible rfl))
  simp only [Act.put, List.setIfInBounds_toArray, List.set_cons_zero, List.set_cons_succ]
  refine takeD (i := 5) (d := some 164) (v := .slice (some ⟨kf, p0, none⟩) (nf - p0) (cf - p0)) rfl rfl (by kernel_rfl) (by kernel_rfl) (by kernel_rfl) (fun _ _ _ h => h) (Or.inl ⟨by rfl, ?y5⟩) HS0 ?_
  case y5 => (intro w' hSw; (try dsimp only at hSw); go_simp; (try simp [ks]))
  simp only [Act.put, List.setIfInBounds_toArray, List.set_cons_zero, List.set_cons_succ]
  refine takeD (i := 6) (d := some 165) (v := ?_) rfl rfl (by kernel_rfl) (by kernel_rfl) (by kernel_rfl) (fun _ _ _ h => h) (Or.inl ⟨by rfl, ?y6⟩) HS0 ?_
  case y6 => (intro w' hSw; (try dsimp only at hSw); go_simp; (try with_reducible rfl))
  simp only [Act.put, List.setIfInBounds_toArray, List.set_cons_zero, List.set_cons_succ]
  refine takeD (i := 7) (d := some 166) (v := ?_) rfl rfl (by kernel_rfl) (by kernel_rfl) (by kernel_rfl) (fun _ _ _ h => h) (Or.inl ⟨by rfl, ?y7⟩) HS0 ?_
  case y7 => (intro w' hSw; (try dsimp only at hSw); go_simp; (try with_reducible rfl))
  simp only [Act.put, List.setIfInBounds_toArray, List.set_cons_zero, List.set_cons_succ]
  refine takeD (i := 8) (d := some 167) (v := ?_) rfl rfl (by kernel_rfl) (by kernel_rfl) (by kernel_rfl) (fun _ _ _ h => h) (Or.inl ⟨by rfl, ?y8⟩) HS0 ?_
  case y8 => (intro w' hSw; (try dsimp only at hSw); go_simp; (try with_reducible rfl))
  simp only [Act.put, List.setIfInBounds_toArray, List.set_cons_zero, List.set_cons_succ]
  refine takeD (i := 9) (d := some 168) (v := ?_) rfl rfl (by kernel_rfl) (by kernel_rfl) (by kernel_rfl) (fun _ _ _ h => h) (Or.inl ⟨by rfl, ?y9⟩) HS0 ?_
  case y9 => (intro w' hSw; (try dsimp only at hSw); go_simp; (try with_reducible rfl))
  simp only [Act.put, List.setIfInBounds_toArray, List.set_cons_zero, List.set_cons_succ]
  refine wpAnyH_ready (rs := [10]) (by kernel_rfl) (by simp) ?_
  refine AllReadyH.cons (i := 10) rfl (fun K hK => ?_) AllReadyH.nil
  rw [if_pos (by rfl)]
  refine wp_copyB (.tmp 164) (.tmp 168) rfl kf p0 (nf - p0) (cf - p0) base nf cf _ _ rfl (unhide HE9).m.row kb 0 rm c2 _ rfl (unhide Hcpr) (by omega) (by omega) ?_
  rintro w9 ho9 ⟨cs, rfl⟩
  have hEF := (unhide HE9).copy cs ho9
  have HEF := hide hEF
  have x2 := (cell_blk (setRow_other _ kf gs cs hsk) 0).trans x1
  clear ho9 hEF
  show K (Act.put _ (some 169) _) _
  refine hK.out _ _ (⟨(cell_blk (setRow_other _ kf gf cs hgk) 0).trans x0, x2⟩) (fun hHeld => ?_)
  clear hK K HS0
  have HS0 := hHeld
  clear hHeld
  (try simp only [Act.put, List.setIfInBounds_toArray, List.set_cons_zero, List.set_cons_succ])
  refine wpAnyH_done (by kernel_rfl) ?_ _
  refine NoPanic.normal ?_
  clear HS0 x0 ks
  go_wp2_with fail
  refine wp_region_noPanic ?_
  refine wp_region_held_drew (S := fun W => W.cell? ⟨gs, 0, none⟩ = some (.slice (some ⟨kb, 0, none⟩) rm c2)) (by kernel_rfl) (x2) (fun HS0 => ?_)
  refine takeD (i := 0) (d := some 170) (v := ?_) rfl rfl (by kernel_rfl) (by kernel_rfl) (by kernel_rfl) (fun _ _ _ h => h) (Or.inl ⟨by rfl, ?y0⟩) HS0 ?_
  case y0 => (intro w' hSw; (try dsimp only at hSw); go_simp; (try with_reducible rfl))
  simp only [Act.put, List.setIfInBounds_toArray, List.set_cons_zero, List.set_cons_succ]
  refine takeD (i := 1) (d := some 171) (v := ?_) rfl rfl (by kernel_rfl) (by kernel_rfl) (by kernel_rfl) (fun _ _ _ h => h) (Or.inl ⟨by rfl, ?y1⟩) HS0 ?_
  case y1 => (intro w' hSw; (try dsimp only at hSw); go_simp; (try with_reducible rfl))
  simp only [Act.put, List.setIfInBounds_toArray, List.set_cons_zero, List.set_cons_succ]
  refine takeD (i := 2) (d := some 172) (v := ?_) rfl rfl (by kernel_rfl) (by kernel_rfl) (by kernel_rfl) (fun _ _ _ h => h) (Or.inl ⟨by rfl, ?y2⟩) HS0 ?_
  case y2 => (intro w' hSw; (try dsimp only at hSw); go_simp; (try with_reducible rfl))
  simp only [Act.put, List.setIfInBounds_toArray, List.set_cons_zero, List.set_cons_succ]
  refine takeD (i := 3) (d := some 173) (v := ?_) rfl rfl (by kernel_rfl) (by kernel_rfl) (by kernel_rfl) (fun _ _ _ h => h) (Or.inl ⟨by rfl, ?y3⟩) HS0 ?_
  case y3 => (intro w' hSw; (try dsimp only at hSw); go_simp; (try with_reducible rfl))
  simp only [Act.put, List.setIfInBounds_toArray, List.set_cons_zero, List.set_cons_succ]
  refine takeD (i := 4) (d := some 174) (v := ?_) rfl rfl (by kernel_rfl) (by kernel_rfl) (by kernel_rfl) (fun _ _ _ h => h) (Or.inl ⟨by rfl, ?y4⟩) HS0 ?_
  case y4 => (intro w' hSw; (try dsimp only at hSw); go_simp; (try with_reducible rfl))
  simp only [Act.put, List.setIfInBounds_toArray, List.set_cons_zero, List.set_cons_succ]
  refine takeD (i := 5) (d := some 175) (v := ?_) rfl rfl (by kernel_rfl) (by kernel_rfl) (by kernel_rfl) (fun _ _ _ h => h) (Or.inl ⟨by rfl, ?y5⟩) HS0 ?_
  case y5 => (intro w' hSw; (try dsimp only at hSw); go_simp; (try with_reducible rfl))
  simp only [Act.put, List.setIfInBounds_toArray, List.set_cons_zero, List.set_cons_succ]
  refine takeD (i := 6) (d := some 176) (v := .int .u64 (rm : Nat)) rfl rfl (by kernel_rfl) (by kernel_rfl) (by kernel_rfl) (fun _ _ _ h => h) (Or.inl ⟨by rfl, ?y6⟩) HS0 ?_
  case y6 => (intro w' hSw; (try dsimp only at hSw); go_simp; (try rw [unhide Hwrm]))
  simp only [Act.put, List.setIfInBounds_toArray, List.set_cons_zero, List.set_cons_succ]
  refine takeD (i := 7) (d := some 4) (v := ?_) rfl rfl (by kernel_rfl) (by kernel_rfl) (by kernel_rfl) (fun _ _ _ h => h) (Or.inl ⟨by rfl, ?y7⟩) HS0 ?_
  case y7 => (intro w' hSw; (try dsimp only at hSw); go_simp; (try with_reducible rfl))
  simp only [Act.put, List.setIfInBounds_toArray, List.set_cons_zero, List.set_cons_succ]
  refine takeD (i := 8) (d := some 5) (v := ?_) rfl rfl (by kernel_rfl) (by kernel_rfl) (by kernel_rfl) (fun _ _ _ h => h) (Or.inl ⟨by rfl, ?y8⟩) HS0 ?_
  case y8 => (intro w' hSw; (try dsimp only at hSw); go_simp; (try with_reducible rfl))
  simp only [Act.put, List.setIfInBounds_toArray, List.set_cons_zero, List.set_cons_succ]
  refine wpAnyH_done (by kernel_rfl) ?_ _
  refine NoPanic.normal ?_
  clear HS0 x2
  go_wp2_with fail
  go_ret2
  have hsec : Mk.section_ s.x fs = Mk.over (Mk.laidParts s.x fs).1 p0 (Mk.entsB (Mk.laidParts s.x fs).2) := by unfold Mk.section_; rw [unhide Hp0]
  refine ⟨some ⟨kf, 0, none⟩, nf, cf, by rw [unhide Hrm, unhide Hp0]; first | rfl | (rw [unhide Hwrm]; rfl), ?_⟩
  rw [hsec]
  exact (unhide HEF).then_ (below_drew' (below_drew' (Below.refl _ _)))
end Go.Proofs.YtnbecdahfgkffaaGreat
namespace Go.Proofs.YtnbecdahfgkffaaGreat
open Go.RowKit
theorem partTy : SlTy Tryz.prog 153 158 2 32 := slTy_mk (z := .agg #[.slice none 0 0, .nilFunc]) Tryz.underlying153 (by kernel_rfl) rfl (by omega) (by omega)
structure SeB (h0 B gs gt gd bt : Nat) (s : Xq) (Af : Option Addr) (cf : Nat) (At : Option Addr) (nt ct : Nat) (ts ss : List UInt8) (w w2 : World) : Prop where
  x : Blk w2 h0 66 s.l
  xq : XqM w2 B s
  tb : FiM w2 150 gt 0 [.slice At nt ct] bt At nt ct ts
  sf : FiM w2 71 gs 0 [.slice Af ss.length cf] h0 Af ss.length cf ss
  d : Blk w2 gd 29 s.q.l
  d1 : ∀ k, bk At = some k → k ≠ gs ∧ bk Af ≠ some k
  below : Below h0 w w2
  h1 : h0 ≤ w2.heap.size
  h2 : B ≤ h0
section
variable {h0 B gs gt gd bt cf nt ct : Nat} {s : Xq} {Af At : Option Addr} {ts ss : List UInt8} {w w2 wr : World}
theorem SeB.calm (h : SeB h0 B gs gt gd bt s Af cf At nt ct ts ss w w2) (hb : Below w2.heap.size w2 wr) : SeB h0 B gs gt gd bt s Af cf At nt ct ts ss w wr :=
  ⟨h.x.belowSz hb, h.xq.below (hb.mono (Nat.le_trans h.h2 h.h1)), h.tb.below hb, h.sf.below hb, h.d.belowSz hb, h.d1, h.below.trans (hb.mono h.h1), Nat.le_trans h.h1 hb.size, h.h2⟩
end
theorem PaS.add1 {h0 np cp : Nat} {av : Nat → Prop} {w2 wr w' : World} {qs : List PQ} {Ap : Option Addr} (h : PaS h0 av w2 wr qs Ap np cp) (q : PQ) {A2 : Option Addr} {c2 : Nat} (hnew : wr.ownsRow h0 5 1 (.slice q.A q.n q.c) q.n (bys q.b) ∧ ∀ k, bk q.A = some k → bk Ap ≠ some k ∧ av k)
    (ho : w'.ownsRow w2.heap.size 158 2 (.slice A2 (np + 1) c2) (np + 1) (partC qs ++ q.cells)) (hg : wr.grownBy w' (Value.slice Ap np cp).ownBlock) (ha : ∀ k, (Value.slice A2 (np + 1) c2).ownBlock = some k → (Value.slice Ap np cp).ownBlock = some k ∨ wr.heap.size ≤ k) : PaS h0 av w2 w' (qs ++ [q]) A2 (np + 1) c2 :=
  h.add [q] rfl (fun q' hq => by rw [List.mem_singleton.1 hq]; exact hnew) (by rw [partC_one]; exact ho) hg ha
theorem cells_one (q : PQ) : ∀ u ∈ q.cells, u.oneCell' = true := by
  intro u hu
  simp only [PQ.cells, List.mem_cons, List.not_mem_nil, or_false] at hu
  rcases hu with rfl | rfl <;> rfl
theorem dyn_cellsP {w : World} {g : Nat} {s : Xq} (h : Blk w g 29 s.q.l) : w.cell? ⟨g, 0, none⟩ = some (.slice s.A1 s.x.dyn.needed.length s.c1) ∧ w.cell? ⟨g, 1, none⟩ = some (.string s.x.dyn.soname) ∧ w.cell? ⟨g, 2, none⟩ = some (.string s.x.dyn.run) ∧ w.cell? ⟨g, 3, none⟩ = some (.slice s.A2 s.x.dyn.syms.length s.c2) ∧ w.cell? ⟨g, 4, none⟩ = some (.slice s.A3 s.x.dyn.relas.length s.c3) :=
  ⟨h.cell (i := 0) rfl, h.cell (i := 1) rfl, h.cell (i := 2) rfl, h.cell (i := 3) rfl, h.cell (i := 4) rfl⟩
set_option maxRecDepth 100000 in
set_option maxHeartbeats 60000000 in
theorem psecB (s : Xq) (gf gs gt gd base n c B nt0 ct0 cf bt T : Nat) (A Af At0 : Option Addr) (fs : List UInt8) (w wc : World) (hF : FiM w 71 gf 0 [.slice A n c] base A n c fs) (hbase : base ≤ w.heap.size) (hfs : fs.length ≤ 1073741824)
    (hb : SeB w.heap.size B gs gt gd bt s Af cf At0 nt0 ct0 (Mk.texts2 s.x.dyn) (Mk.entsB (Mk.heads2 s.x.dyn)) w wc) (hgs : w.heap.size < gs) (hbt : w.heap.size < bt) (hbt2 : bt ≤ wc.heap.size) (hgt : w.heap.size < gt) (e1 : gs ≠ gt) (e2 : gd ≠ gt) (e3 : bk At0 ≠ some gd) (e4 : bk Af ≠ some gt) (e5 : bk Af ≠ some w.heap.size)
    (hm : MayOk s.x) (hf : MkFit s) (hT : (Mk.texts3 s.x.dyn).length ≤ T) (hT2 : T ≤ 536870912)
    (u0 u3 u4 u5 u10 u11 u12 u13 u14 u15 u16 u17 u18 u19 u20 u21 u22 u23 u24 u25 u26 u27 u28 u29 u30 u31 u32 u33 u34 u35 u36 u37 u38 u39 u40 u41 u42 u43 u44 u45 u46 u47 u48 u49 u50 u51 u52 u53 u54 u55 u56 u57 u58 u59 u60 u61 u62 u63 u64 u65 u66 u67 u68 u69 u70 u71 u72 u73 u74 u75 u76 u77 u78 u79 u80 u81 u82 u83 u84 u85 u86 u87 u88 u89 u90 u91 u92 u93 u94 u95 u96 u97 u98 u99 u100 u101 u102 u103 u104 u105 u106 u107 u108 u109 u110 u111 u112 u113 u114 u115 u116 u117 u118 u119 u120 u121 u122 u123 u124 u125 u126 u127 u128 u129 u130 u131 u132 u133 u134 u135 u136 u137 u138 u139 u140 u141 u142 u143 u144 u145 u146 u147 u148 u149 u150 u151 u152 u153 u154 u155 u156 u157 u158 u159 u160 u161 u162 u163 u164 u165 u166 u167 u168 u169 u170 u171 u172 u173 u174 u175 u176 : Value) :
    (dropC 7 (Tryz.f29.body.getD .skip)).wp Tryz.prog (bodyPost Tryz.prog Tryz.f29 (SecE s gf base [.slice A n c] A fs w)) ⟨#[u0, .pointer (some ⟨gf, 0, none⟩), .pointer (some ⟨w.heap.size, 0, none⟩), u3, u4, u5, .pointer (some ⟨gt, 0, none⟩), .func (.func 71) #[.pointer (some ⟨gt, 0, none⟩)] #[], .pointer (some ⟨gs, 0, none⟩), .pointer (some ⟨gd, 0, none⟩), u10, u11, u12, u13, u14, u15, u16, u17, u18, u19, u20, u21, u22, u23, u24, u25, u26, u27, u28, u29, u30, u31, u32, u33, u34, u35, u36, u37, u38, u39, u40, u41, u42, u43, u44, u45, u46, u47, u48, u49, u50, u51, u52, u53, u54, u55, u56, u57, u58, u59, u60, u61, u62, u63, u64, u65, u66, u67, u68, u69, u70, u71, u72, u73, u74, u75, u76, u77, u78, u79, u80, u81, u82, u83, u84, u85, u86, u87, u88, u89, u90, u91, u92, u93, u94, u95, u96, u97, u98, u99, u100, u101, u102, u103, u104, u105, u106, u107, u108, u109, u110, u111, u112, u113, u114, u115, u116, u117, u118, u119, u120, u121, u122, u123, u124, u125, u126, u127, u128, u129, u130, u131, u132, u133, u134, u135, u136, u137, u138, u139, u140, u141, u142, u143, u144, u145, u146, u147, u148, u149, u150, u151, u152, u153, u154, u155, u156, u157, u158, u159, u160, u161, u162, u163, u164, u165, u166, u167, u168, u169, u170, u171, u172, u173, u174, u175, u176], []⟩ wc := by
  conv => arg 2; whnf
  have n1 := hm.n1
  have n2 := hm.n2
  have n3 := hm.n3
  have ha0 := hm.a0
  have ha1 := hm.a1
  have hq := hf.dq hm
  have hok := hf.ok.dyn
  have hnm : ∀ y ∈ s.x.dyn.syms, y.name.size ≤ 4294967296 := hok.s2
  have hc3 : s.x.dyn.relas.length ≤ s.c3 := hok.c3
  have hsy : ∀ y ∈ s.x.dyn.syms, SyOk y := hq.sy
  have hre : ∀ r ∈ s.x.dyn.relas, MrOk r := hq.re
  have ht2 : (Mk.texts2 s.x.dyn).length ≤ T := Nat.le_trans (texts0_pos _ (Mk.names s.x.dyn.syms)) hT
  have hwc := hb.h1
  have hBw := hb.h2
  obtain ⟨d0, d1, d2, d3, d4⟩ := dyn_cellsP hb.d
  have HF := hide hF
  have Hb := hide hb
  have Hnm := hide hnm
  have Hsy := hide hsy
  have Hre := hide hre
  clear hF hb hm hf hq hok hnm hsy hre d0 d1 d2
  go_upto_if 67 with fail
  obtain ⟨bs, hbs⟩ : ∃ bs, decide (0 < s.x.dyn.syms.length) = bs := ⟨_, rfl⟩
  rw [hbs]
  have Hbs := hide hbs
  clear hbs
  go_cut [12] (fun pv wx => ∃ (qs : List PQ) (Ap : Option Addr) (np cp : Nat) (At : Option Addr) (nt ct : Nat) (w2 : World), pv = .slice Ap np cp ∧ np ≤ 2 ∧ SeB w.heap.size B gs gt gd bt s Af cf At nt ct (Mk.texts3 s.x.dyn) (Mk.entsB (Mk.heads2 s.x.dyn)) w w2 ∧ PaS w.heap.size (fun k => k ≠ gs ∧ bk Af ≠ some k) w2 wx qs Ap np cp ∧ qs.map PQ.p = Mk.partSyms s.x.dyn ∧ gs < w2.heap.size ∧ (∀ k, bk Af = some k → k < w2.heap.size) ∧ (∀ k, bk At = some k → k < w2.heap.size))
  case first =>
    cases bs
    case false =>
      have hs0 : s.x.dyn.syms.length = 0 := by have := of_decide_eq_false (unhide Hbs); omega
      have hnil : s.x.dyn.syms = [] := List.eq_nil_of_length_eq_zero hs0
      have He := hide (show Mk.texts3 s.x.dyn = Mk.texts2 s.x.dyn ∧ Mk.partSyms s.x.dyn = [] from ⟨by unfold Mk.texts3 Mk.names; rw [hnil]; rfl, by unfold Mk.partSyms; rw [if_pos hs0]⟩)
      clear hnil hs0
      go_wp2_with fail
      go_meet
      case rel => exact ⟨[], none, 0, 0, At0, nt0, ct0, wc, rfl, by omega, by rw [(unhide He).1]; exact unhide Hb, PaS.nil, by rw [(unhide He).2]; rfl, (unhide Hb).sf.blk.lt, fun k hk => ((unhide Hb).sf.lt k hk).2, fun k hk => ((unhide Hb).tb.lt k hk).2⟩
    case true =>
      have hs0 : s.x.dyn.syms.length ≠ 0 := by have := of_decide_eq_true (unhide Hbs); omega
      have He : Hid (Mk.partSyms s.x.dyn = [(0, Mk.hashB s.x.dyn.syms), (1, Mk.symsB (Mk.texts2 s.x.dyn) s.x.dyn.syms)]) := hide (by unfold Mk.partSyms; rw [if_neg hs0])
      have hxs : Rd wc B 5 s.A2 s.x.dyn.syms.length (symC s.x.dyn.syms) := (unhide Hb).xq.dyn.syms
      have KS := hide (psymbols_any _ gt 0 bt _ At0 nt0 ct0 _ s.A2 _ s.c2 B s.x.dyn.syms wc (by omega) hxs rfl n2 (unhide Hsy) (unhide Hnm) (unhide Hb).tb (by omega) hbt2 (by omega) (by omega))
      clear hxs hs0
      go_wp2_with fail
      refine (unhide KS).mono ?_
      rintro e w2 ⟨As, cs, At, nt, ct, rfl, hoS, hE, hd⟩
      have hb2 : SeB w.heap.size B gs gt gd bt s Af cf At nt ct (Mk.texts3 s.x.dyn) (Mk.entsB (Mk.heads2 s.x.dyn)) w w2 := by
        have hb := unhide Hb
        have hlt := hb.tb.lt
        have hgsl := hb.sf.blk.lt
        have hfl := hb.sf.lt
        have e6 : bk At0 ≠ some gs := fun e => (hb.d1 _ e).1 rfl
        obtain ⟨m1, m2⟩ := hb.sf.aside hE e1 e6 (fun e => e4 e) (fun k h1 h2 => (hb.d1 k h2).2 h1)
        refine ⟨hE.blk hb.x (by omega) (fun e => by have := (hlt _ e).1; omega), hb.xq.below (hE.below (by omega) (fun k hk => by have := (hlt k hk).1; omega) (by omega)), hE.m, m1, hE.blk hb.d e2 e3, fun k hk => ⟨fun e => ?_, fun e => m2 k e hk⟩, hb.below.trans (hE.below (by omega) (fun k hk => by have := (hlt k hk).1; omega) hb.h1), Nat.le_trans hb.h1 hE.size, hb.h2⟩
        rcases hE.at_ k hk with h9 | h9
        · exact (hb.d1 k h9).1 e
        · omega
      have hsz2 := hE.size
      have hgs2 : gs < w2.heap.size := by have := (unhide Hb).sf.blk.lt; omega
      have hAf2 : ∀ k, bk Af = some k → k < w2.heap.size := fun k hk => by have := ((unhide Hb).sf.lt k hk).2; omega
      have hoS' := own_bklt hoS
      have hAs2 : ∀ k, bk As = some k → k ≠ gs ∧ bk Af ≠ some k := fun k hk => ⟨fun e => by have := (hoS' k hk).1; have := (unhide Hb).sf.blk.lt; omega, fun e => by have := (hoS' k hk).1; have := ((unhide Hb).sf.lt k e).2; omega⟩
      have hxs2 : Rd w2 B 5 s.A2 s.x.dyn.syms.length (symC s.x.dyn.syms) := hb2.xq.dyn.syms
      have KH := hide (phashes_any s.A2 _ s.c2 B s.x.dyn.syms w2 (by omega) hxs2 rfl n2 (unhide Hnm))
      obtain ⟨-, -, -, f3, -⟩ := dyn_cellsP hb2.d
      have Hb2 := hide hb2
      have HoS := hide hoS
      have HAs2 := hide hAs2
      have HAf2 := hide hAf2
      clear KS hE hd hb2 hoS hoS' hAs2 hAf2 hxs2 d3 d4
      go_wp2_with fail
      refine (unhide KH).mono ?_
      rintro e w3 ⟨Ah, nh, ch, rfl, hoH, hb3⟩
      obtain ⟨q0, hq0⟩ : ∃ q0 : PQ, q0 = ⟨0, Ah, nh, ch, Mk.hashB s.x.dyn.syms⟩ := ⟨_, rfl⟩
      obtain ⟨q1, hq1⟩ : ∃ q1 : PQ, q1 = ⟨1, As, 24 * (s.x.dyn.syms.length + 1), cs, Mk.symsB (Mk.texts2 s.x.dyn) s.x.dyn.syms⟩ := ⟨_, rfl⟩
      have hb4 := below_al w3 (.cells #[.slice Ah nh ch, .func (.func 75) #[] #[], .slice As (24 * (s.x.dyn.syms.length + 1)) cs, .func (.func 76) #[] #[]] 158)
      have hP := (PaS.nil (h0 := w.heap.size) (av := (fun k => k ≠ gs ∧ bk Af ≠ some k)) (w2 := w2)).calm (hb3.trans (hb4.mono hb3.size))
      have hr2 : Rd (w3.alloc (.cells #[.slice Ah nh ch, .func (.func 75) #[] #[], .slice As (24 * (s.x.dyn.syms.length + 1)) cs, .func (.func 76) #[] #[]] 158)) (w3.heap.size + 1) 2 (some ⟨w3.heap.size, 0, none⟩) 2 (partC [q0, q1]) := by
        rw [hq0, hq1]
        exact Rd.rowF (n := 2) (size := 2) rfl
      have hs3 := hb3.size
      have hw2 := (unhide Hb2).h1
      have hoH4 : (w3.alloc (.cells #[.slice Ah nh ch, .func (.func 75) #[] #[], .slice As (24 * (s.x.dyn.syms.length + 1)) cs, .func (.func 76) #[] #[]] 158)).ownsRow w.heap.size 5 1 (.slice Ah nh ch) nh (bys (Mk.hashB s.x.dyn.syms)) := own_base (own_below hoH hb4) hw2
      have hoS4 : (w3.alloc (.cells #[.slice Ah nh ch, .func (.func 75) #[] #[], .slice As (24 * (s.x.dyn.syms.length + 1)) cs, .func (.func 76) #[] #[]] 158)).ownsRow w.heap.size 5 1 (.slice As (24 * (s.x.dyn.syms.length + 1)) cs) (24 * (s.x.dyn.syms.length + 1)) (bys (Mk.symsB (Mk.texts2 s.x.dyn) s.x.dyn.syms)) := own_base (own_below (unhide HoS) (hb3.trans (hb4.mono hb3.size))) hwc
      have hnew : ∀ q ∈ [q0, q1], (w3.alloc (.cells #[.slice Ah nh ch, .func (.func 75) #[] #[], .slice As (24 * (s.x.dyn.syms.length + 1)) cs, .func (.func 76) #[] #[]] 158)).ownsRow w.heap.size 5 1 (.slice q.A q.n q.c) q.n (bys q.b) ∧ ∀ k, bk q.A = some k → bk none ≠ some k ∧ (k ≠ gs ∧ bk Af ≠ some k) := by
        intro q hq
        rcases List.mem_cons.1 hq with rfl | hq
        · rw [hq0]
          exact ⟨hoH4, fun k hk => ⟨by simp [bk], fun e => by have := (own_bklt hoH k hk).1; omega, fun e => by have := (own_bklt hoH k hk).1; have := (unhide HAf2) k e; omega⟩⟩
        · rw [List.mem_singleton.1 hq, hq1]
          exact ⟨hoS4, fun k hk => ⟨by simp [bk], (unhide HAs2) k hk⟩⟩
      have hmap : Hid ([q0, q1].map PQ.p = Mk.partSyms s.x.dyn) := hide (by rw [unhide He, hq0, hq1]; rfl)
      have HP := hide hP
      have Hr2 := hide hr2
      have Hnew := hide hnew
      have hsz4 := hb4.size
      have hszz : w2.heap.size ≤ (w3.alloc (.cells #[.slice Ah nh ch, .func (.func 75) #[] #[], .slice As (24 * (s.x.dyn.syms.length + 1)) cs, .func (.func 76) #[] #[]] 158)).heap.size := Nat.le_trans hs3 hsz4
      clear KH hoH hb3 hb4 hP hr2 hoH4 hoS4 hnew hq0 hq1 f3 HoS HAs2 He
      go_wp2_with (at_builtin; refine wpList_app partTy rfl _ _ rfl w2.heap.size (.slice none 0 0) 0 _ rfl (unhide HP).row _ (some ⟨w3.heap.size, 0, none⟩) 2 2 _ rfl (unhide Hr2) (part_cell1 _) (by omega) hszz ?_; intro A5 c5 w5 ho5 hg5 ha5; have HP5 := hide ((unhide HP).add [q0, q1] rfl (unhide Hnew) ho5 hg5 ha5); clear ho5 hg5 ha5)
      go_meet
      case rel => exact ⟨[] ++ [q0, q1], A5, 0 + 2, c5, At, nt, ct, w2, rfl, by omega, unhide Hb2, unhide HP5, unhide hmap, hgs2, unhide HAf2, fun k hk => ((unhide Hb2).tb.lt k hk).2⟩
  case rest =>
    obtain ⟨qs1, Ap, np, cp, At, nt, ct, w2, rfl, hnp, hb2, hP, hmap, hgs2, hAf2, hAt2⟩ := hcut
    have hb3 := hb2.calm hP.below
    obtain ⟨-, -, -, -, f4⟩ := dyn_cellsP hb3.d
    obtain ⟨-, -, -, -, -, -, -, -, -, -, -, -, x12⟩ := spec_cellsP hb3.x
    have Hb2 := hide hb2
    have HP := hide hP
    have Hmap := hide hmap
    have HAf2 := hide hAf2
    have HAt2 := hide hAt2
    clear hb2 hP hmap hAf2 hAt2 hb3 Hb d3 d4
    have hla : (s.x.dyn.relas.length : Int) - s.x.apart = ((Mk.last s.x : Nat) : Int) := by unfold Mk.last; omega
    have hll : Mk.last s.x ≤ s.x.dyn.relas.length := by unfold Mk.last; omega
    have hwl : IntKind.i64.wrap ((s.x.dyn.relas.length : Int) - s.x.apart) = (s.x.dyn.relas.length : Int) - s.x.apart := by rw [IntKind.wrap_i64]; omega
    have kt : ∀ w', (Instr.slice 27 (.slice s.A3 s.x.dyn.relas.length s.c3) none (some (.int .i64 ((s.x.dyn.relas.length : Int) - s.x.apart))) none).run Tryz.prog w' = .ok (.slice s.A3 (Mk.last s.x) s.c3) w' := fun w' => by rw [hla]; exact run_toZ Tryz.underlying27 mkreInfo s.A3 _ s.c3 _ (by omega) w'
    have kf : ∀ w', (Instr.slice 27 (.slice s.A3 s.x.dyn.relas.length s.c3) (some (.int .i64 ((s.x.dyn.relas.length : Int) - s.x.apart))) none none).run Tryz.prog w' = .ok (.slice (fromZ 4 s.A3 s.c3 (Mk.last s.x)) (s.x.dyn.relas.length - Mk.last s.x) (s.c3 - Mk.last s.x)) w' := fun w' => by rw [hla]; exact run_fromZ Tryz.underlying27 mkreInfo s.A3 _ s.c3 _ hll w'
    have Hla := hide hla
    clear hla
    go_upto_if 88 with fail
    obtain ⟨bo, hbo⟩ : ∃ bo, decide (s.x.apart < (s.x.dyn.relas.length : Int)) = bo := ⟨_, rfl⟩
    rw [hbo]
    have Hbo := hide hbo
    clear hbo
    go_cut [12] (fun pv wx => ∃ (qs : List PQ) (Ap : Option Addr) (np cp : Nat), pv = .slice Ap np cp ∧ np ≤ 3 ∧ PaS w.heap.size (fun k => k ≠ gs ∧ bk Af ≠ some k) w2 wx qs Ap np cp ∧ qs.map PQ.p = Mk.partSyms s.x.dyn ++ Mk.partOne s.x)
    case first =>
      cases bo
      case false =>
        have hl0 : Mk.last s.x = 0 := by have := of_decide_eq_false (unhide Hbo); have := unhide Hla; omega
        have He := hide (show Mk.partOne s.x = [] by unfold Mk.partOne; rw [if_pos hl0])
        clear hl0
        go_wp2_with fail
        go_meet
        case rel => exact ⟨qs1, Ap, np, cp, rfl, by omega, unhide HP, by rw [unhide He, List.append_nil]; exact unhide Hmap⟩
      case true =>
        have hl0 : Mk.last s.x ≠ 0 := by have := of_decide_eq_true (unhide Hbo); have := unhide Hla; omega
        have He := hide (show Mk.partOne s.x = [(2, Mk.relsB (s.x.dyn.relas.take (Mk.last s.x)))] by unfold Mk.partOne; rw [if_neg hl0])
        have hxr : Rd wc B 4 s.A3 s.x.dyn.relas.length (mrC s.x.dyn.relas) := ((unhide Hb2).calm (unhide HP).below).xq.dyn.relas
        have hwcs := (unhide HP).size
        have KR := hide (prelas_any s.A3 (Mk.last s.x) s.c3 B (s.x.dyn.relas.take (Mk.last s.x)) wc (by have := (unhide Hb2).h1; omega) (by have h9 := Rd.toZ hxr hll; unfold mrC at h9 ⊢; rw [(flat_take mrV 4 (fun _ => rfl) _ _).1] at h9; exact h9) (by rw [List.length_take]; omega) (by omega) (fun r hr => (unhide Hre) r (List.mem_of_mem_take hr)))
        clear hl0 hxr
        go_wp2_with fail
        refine (unhide KR).mono ?_
        rintro e w3 ⟨Ar, cr, rfl, hoR, hb3⟩
        obtain ⟨q0, hq0⟩ : ∃ q0 : PQ, q0 = ⟨2, Ar, 24 * Mk.last s.x, cr, Mk.relsB (s.x.dyn.relas.take (Mk.last s.x))⟩ := ⟨_, rfl⟩
        have hP3 := (unhide HP).calm hb3
        have hnew : w3.ownsRow w.heap.size 5 1 (.slice q0.A q0.n q0.c) q0.n (bys q0.b) ∧ ∀ k, bk q0.A = some k → bk Ap ≠ some k ∧ (k ≠ gs ∧ bk Af ≠ some k) := by
          rw [hq0]
          refine ⟨own_base hoR (by have := (unhide Hb2).h1; omega), fun k hk => ?_⟩
          have h8 := (own_bklt hoR k hk).1
          exact ⟨fun e => by have := (own_bklt (unhide HP).row k e).2; omega, fun e => by omega, fun e => by have := (unhide HAf2) k e; omega⟩
        have hcl : #[.slice Ar (24 * Mk.last s.x) cr, Value.func (.func 78) #[] #[]] = q0.cells.toArray := by rw [hq0]; rfl
        have Hm2 : Hid ((qs1 ++ [q0]).map PQ.p = Mk.partSyms s.x.dyn ++ Mk.partOne s.x) := hide (by rw [List.map_append, unhide Hmap, unhide He, hq0]; rfl)
        have HP3 := hide hP3
        have Hnew := hide hnew
        have Hcl := hide hcl
        have hs3 := hP3.size
        have hb3s := hb3.size
        clear KR hoR hb3 hP3 hnew hq0 hcl kt f4 x12 He
        go_wp2_with (at_builtin; refine wpList_app1g partTy rfl _ _ rfl w2.heap.size (.slice Ap np cp) np _ rfl (unhide HP3).row _ _ rfl (by simp) rfl (by first | (rw [unhide Hcl]; exact cells_one q0) | (intro u hu; simp at hu; rcases hu with rfl | rfl <;> rfl)) (by omega) hs3 ?_; intro A5 c5 w5 ho5 hg5 ha5; have HP5 := hide ((unhide HP3).add1 q0 (unhide Hnew) (by rw [unhide Hcl] at ho5; exact ho5) hg5 ha5); clear ho5 hg5 ha5)
        go_meet
        case rel => exact ⟨qs1 ++ [q0], A5, np + 1, c5, rfl, by omega, unhide HP5, unhide Hm2⟩
    case rest =>
      obtain ⟨qs2, Ap, np, cp, rfl, hnp, hP, hmap⟩ := hcut
      have hb3 := (unhide Hb2).calm hP.below
      obtain ⟨-, -, -, -, f4⟩ := dyn_cellsP hb3.d
      obtain ⟨-, -, -, -, -, -, -, -, -, -, -, -, x12⟩ := spec_cellsP hb3.x
      have HP2 := hide hP
      have Hmap2 := hide hmap
      clear hP hmap hb3 Hmap HP kt Hbo
      go_upto_if 100 with fail
      obtain ⟨bo, hbo⟩ : ∃ bo, decide ((0 : Int) < s.x.apart) = bo := ⟨_, rfl⟩
      rw [hbo]
      have Hbo := hide hbo
      clear hbo
      go_cut [12] (fun pv wx => ∃ (qs : List PQ) (Ap : Option Addr) (np cp : Nat), pv = .slice Ap np cp ∧ np ≤ 4 ∧ PaS w.heap.size (fun k => k ≠ gs ∧ bk Af ≠ some k) w2 wx qs Ap np cp ∧ qs.map PQ.p = Mk.partSyms s.x.dyn ++ Mk.partOne s.x ++ Mk.partTwo s.x)
      case first =>
        cases bo
        case false =>
          have hl0 : s.x.apart.toNat = 0 := by have := of_decide_eq_false (unhide Hbo); omega
          have He := hide (show Mk.partTwo s.x = [] by unfold Mk.partTwo; rw [if_pos hl0])
          clear hl0
          go_wp2_with fail
          go_meet
          case rel => exact ⟨qs2, Ap, np, cp, rfl, by omega, unhide HP2, by rw [unhide He, List.append_nil]; exact unhide Hmap2⟩
        case true =>
          have hl0 : s.x.apart.toNat ≠ 0 := by have := of_decide_eq_true (unhide Hbo); omega
          have He := hide (show Mk.partTwo s.x = [(3, Mk.relsB (s.x.dyn.relas.drop (Mk.last s.x)))] by unfold Mk.partTwo; rw [if_neg hl0])
          have hxr : Rd wc B 4 s.A3 s.x.dyn.relas.length (mrC s.x.dyn.relas) := ((unhide Hb2).calm (unhide HP2).below).xq.dyn.relas
          have hwcs := (unhide HP2).size
          have KR := hide (prelas_any (fromZ 4 s.A3 s.c3 (Mk.last s.x)) (s.x.dyn.relas.length - Mk.last s.x) (s.c3 - Mk.last s.x) B (s.x.dyn.relas.drop (Mk.last s.x)) wc (by have := (unhide Hb2).h1; omega) (by have h9 := Rd.fromZ hxr (by omega) hll hc3; unfold mrC at h9 ⊢; rw [(flat_take mrV 4 (fun _ => rfl) _ _).2] at h9; exact h9) (by rw [List.length_drop]) (by omega) (fun r hr => (unhide Hre) r (List.mem_of_mem_drop hr)))
          clear hl0 hxr
          go_wp2_with fail
          refine (unhide KR).mono ?_
          rintro e w3 ⟨Ar, cr, rfl, hoR, hb3⟩
          obtain ⟨m9, hm9⟩ : ∃ m9, 24 * (s.x.dyn.relas.length - Mk.last s.x) = m9 := ⟨_, rfl⟩
          rw [hm9] at hoR ⊢
          obtain ⟨q0, hq0⟩ : ∃ q0 : PQ, q0 = ⟨3, Ar, m9, cr, Mk.relsB (s.x.dyn.relas.drop (Mk.last s.x))⟩ := ⟨_, rfl⟩
          have hP3 := (unhide HP2).calm hb3
          have hnew : w3.ownsRow w.heap.size 5 1 (.slice q0.A q0.n q0.c) q0.n (bys q0.b) ∧ ∀ k, bk q0.A = some k → bk Ap ≠ some k ∧ (k ≠ gs ∧ bk Af ≠ some k) := by
            rw [hq0]
            refine ⟨own_base hoR (by have := (unhide Hb2).h1; omega), fun k hk => ?_⟩
            have h8 := (own_bklt hoR k hk).1
            exact ⟨fun e => by have := (own_bklt (unhide HP2).row k e).2; omega, fun e => by omega, fun e => by have := (unhide HAf2) k e; omega⟩
          have hcl : #[.slice Ar m9 cr, Value.func (.func 79) #[] #[]] = q0.cells.toArray := by rw [hq0]; rfl
          have Hm2 : Hid ((qs2 ++ [q0]).map PQ.p = Mk.partSyms s.x.dyn ++ Mk.partOne s.x ++ Mk.partTwo s.x) := hide (by rw [List.map_append, unhide Hmap2, unhide He, hq0]; rfl)
          have HP3 := hide hP3
          have Hnew := hide hnew
          have Hcl := hide hcl
          have hs3 := hP3.size
          have hb3s := hb3.size
          clear KR hoR hb3 hP3 hnew hq0 hcl kf f4 x12 He hm9
          go_wp2_with (at_builtin; refine wpList_app1g partTy rfl _ _ rfl w2.heap.size (.slice Ap np cp) np _ rfl (unhide HP3).row _ _ rfl (by simp) rfl (by first | (rw [unhide Hcl]; exact cells_one q0) | (intro u hu; simp at hu; rcases hu with rfl | rfl <;> rfl)) (by omega) hs3 ?_; intro A5 c5 w5 ho5 hg5 ha5; have HP5 := hide ((unhide HP3).add1 q0 (unhide Hnew) (by rw [unhide Hcl] at ho5; exact ho5) hg5 ha5); clear ho5 hg5 ha5)
          go_meet
          case rel => exact ⟨qs2 ++ [q0], A5, np + 1, c5, rfl, by omega, unhide HP5, unhide Hm2⟩
      case rest =>
        obtain ⟨qs3, Ap, np, cp, rfl, hnp, hP, hmap⟩ := hcut
        have hb3 := (unhide Hb2).calm hP.below
        have t0 := hb3.tb.cell
        have hnew : wc.ownsRow w.heap.size 5 1 (.slice At nt ct) nt (bys (Mk.texts3 s.x.dyn)) ∧ ∀ k, bk At = some k → bk Ap ≠ some k ∧ (k ≠ gs ∧ bk Af ≠ some k) :=
          ⟨own_base hb3.tb.row (by omega), fun k hk => ⟨fun e => by have := (own_bklt hP.row k e).1; have := (unhide HAt2) k hk; omega, (unhide Hb2).d1 k hk⟩⟩
        obtain ⟨q0, hq0⟩ : ∃ q0 : PQ, q0 = ⟨4, At, nt, ct, Mk.texts3 s.x.dyn⟩ := ⟨_, rfl⟩
        have hcl : #[.slice At nt ct, Value.func (.func 80) #[] #[]] = q0.cells.toArray := by rw [hq0]; rfl
        have hnew' : wc.ownsRow w.heap.size 5 1 (.slice q0.A q0.n q0.c) q0.n (bys q0.b) ∧ ∀ k, bk q0.A = some k → bk Ap ≠ some k ∧ (k ≠ gs ∧ bk Af ≠ some k) := by rw [hq0]; exact hnew
        have Hm2 : Hid ((qs3 ++ [q0]).map PQ.p = Mk.parts s.x) := hide (by unfold Mk.parts; rw [List.map_append, hmap, hq0]; rfl)
        have HP3 := hide hP
        have Hnew := hide hnew'
        have Hcl := hide hcl
        have hs3 := hP.size
        clear hP hmap hb3 hnew hnew' hq0 hcl kf f4 x12 Hbo HP2 Hmap2
        go_upto_region 22 with fail
        go_cut [12] (fun pv wx => ∃ (qs : List PQ) (Ap : Option Addr) (np cp : Nat), pv = .slice Ap np cp ∧ PaS w.heap.size (fun k => k ≠ gs ∧ bk Af ≠ some k) w2 wx qs Ap np cp ∧ qs.map PQ.p = Mk.parts s.x)
        case first =>
          go_wp2_with (at_builtin; refine wpList_app1g partTy rfl _ _ rfl w2.heap.size (.slice Ap np cp) np _ rfl (unhide HP3).row _ _ rfl (by simp) rfl (by first | (rw [unhide Hcl]; exact cells_one q0) | (intro u hu; simp at hu; rcases hu with rfl | rfl <;> rfl)) (by omega) hs3 ?_; intro A5 c5 w5 ho5 hg5 ha5; have HP5 := hide ((unhide HP3).add1 q0 (unhide Hnew) (by rw [unhide Hcl] at ho5; exact ho5) hg5 ha5); clear ho5 hg5 ha5)
          go_meet
          case rel => exact ⟨qs3 ++ [q0], A5, np + 1, c5, rfl, unhide HP5, unhide Hm2⟩
        case rest =>
          obtain ⟨qs4, Ap, np, cp, rfl, hP, hmap⟩ := hcut
          have hb3 := (unhide Hb2).calm hP.below
          go_step
          exact psecC s gf gs base n c np cp _ cf T A Af Ap fs qs4 w wc hb3.x (unhide HF) hbase hfs hb3.below hgs hb3.sf e5 (hP.fix (unhide Hb2).h1 hgs2 (unhide HAf2)) hmap n1 n2 n3 hT hT2 _ _ _ _ _ _ _ _ _ _ _ _ _ _ _ _ _ _ _ _ _ _ _ _ _ _ _ _ _ _ _ _ _ _ _ _ _ _ _ _ _ _ _ _ _ _ _ _ _ _ _ _ _ _ _ _ _ _ _ _ _ _ _ _ _ _ _ _ _ _ _ _ _ _ _ _ _ _ _ _ _ _ _ _ _ _ _ _ _ _ _ _ _ _ _ _ _ _ _ _ _ _ _ _ _ _ _ _ _ _ _ _ _ _ _ _ _ _ _ _ _ _ _ _ _ _ _ _ _ _ _ _ _ _ _ _ _ _ _ _ _ _ _ _ _ _ _ _ _ _ _ _ _ _ _ _ _ _ _ _ _ _ _ _ _ _ _ _ _ _ _ _ _
end Go.Proofs.YtnbecdahfgkffaaGreat
namespace Go.Proofs.YtnbecdahfgkffaaGreat
open Go.RowKit
theorem SyS.start {tt t3 : TypeId} {gt bt gs gd : Nat} {A0 : Option Addr} {l3 : List Value} {w1 wx : World} {ts : List UInt8} {nt ct : Nat} (hT : FiM w1 tt gt 0 [.slice A0 nt ct] bt A0 nt ct ts) (hb : Below w1.heap.size w1 wx) (hs : Blk wx gs 71 [.slice none 0 0]) (hd : Blk wx gd t3 l3) (h1 : w1.heap.size ≤ gs) (h2 : w1.heap.size ≤ gd) (h3 : gd ≠ gs) (hbt : bt ≤ w1.heap.size) : SyS tt gt 0 bt gs [.slice A0 nt ct] A0 w1 wx ts [] (some (gd, t3, l3)) := by
  refine ⟨⟨A0, nt, ct, none, 0, (FiE.refl hT).then_ hb, ⟨hs, rfl, World.ownsRow_nil _ _ _ _, by simp [bk]⟩, fun k hk => by simp [bk] at hk, fun e => by have := (hT.lt _ e).2; omega, fun p hp => ?_⟩, h1, hT.blk.lt, hbt⟩
  injection hp with hp
  subst hp
  exact ⟨hd, h3, h2, fun e => by have := (hT.lt _ e).2; omega, by simp [bk]⟩
theorem puts_take_le (t : List UInt8) (l : List ByteArray) (j : Nat) : (Mk.puts t (l.take j)).length ≤ (Mk.puts t l).length := by
  have h := texts0_pos (Mk.puts t (l.take j)) (l.drop j)
  rw [← puts_app, List.take_append_drop] at h
  exact h
theorem texts_up (d : Mk.Dyn) : (Mk.texts0 d).length ≤ (Mk.texts1 d).length ∧ (Mk.texts1 d).length ≤ (Mk.texts2 d).length ∧ (Mk.texts2 d).length ≤ (Mk.texts3 d).length := by
  refine ⟨?_, ?_, texts0_pos _ (Mk.names d.syms)⟩
  · unfold Mk.texts1 Mk.put; split <;> simp <;> omega
  · unfold Mk.texts2 Mk.put; split <;> simp <;> omega
theorem pair_lbs (a b : Nat) : Mk.lbs 8 [a, b] = Mk.pairB (a, b) := by simp [Mk.lbs, Mk.pairB]
theorem place_le (t : List UInt8) (s : ByteArray) : Mk.place t s ≤ t.length := by unfold Mk.place; split <;> omega
theorem bytes0_own (w : World) (c : Obj) : ((w.alloc (.cells #[.int .u8 0] 5)).alloc c).ownsRow w.heap.size 5 1 (.slice (some ⟨w.heap.size, 0, none⟩) 1 1) 1 (bys [0]) := by
  have hb := (Blk.new w 5 [.int .u8 0]).alloc c
  refine ⟨rfl, .inr ⟨_, 1, _, rfl, Nat.le_refl _, hb, Nat.le_refl _, by unfold maxLen; omega, rfl, ?_⟩⟩
  simp [bys]
theorem heads_up (d : Mk.Dyn) : (Mk.heads0 d).length ≤ (Mk.heads2 d).length ∧ (Mk.heads1 d).length ≤ (Mk.heads2 d).length := by
  have h1 : (Mk.heads0 d).length ≤ (Mk.heads1 d).length := by unfold Mk.heads1; split <;> simp
  have h2 : (Mk.heads1 d).length ≤ (Mk.heads2 d).length := by unfold Mk.heads2; split <;> simp
  exact ⟨Nat.le_trans h1 h2, h2⟩
set_option maxRecDepth 100000 in
set_option maxHeartbeats 60000000 in
theorem psection_any (s : Xq) (gf base n c B T : Nat) (A : Option Addr) (fs : List UInt8) (w : World) (hB : B ≤ w.heap.size) (hx : XqM w B s) (hF : FiM w 71 gf 0 [.slice A n c] base A n c fs) (hbase : base ≤ w.heap.size) (hfs : fs.length ≤ 1073741824)
    (hm : MayOk s.x) (hf : MkFit s) (hT : (Mk.texts3 s.x.dyn).length ≤ T) (hT2 : T ≤ 536870912) :
    Calls Tryz.prog 29 #[.agg s.l.toArray, .pointer (some ⟨gf, 0, none⟩)] w (SecE s gf base [.slice A n c] A fs w) := by
  have hb0 : Below w.heap.size w (((w.alloc (.cells #[.int .u16 (s.x.type : Nat), .int .u64 (s.x.entry : Nat), .string s.x.interp, .slice s.At s.x.text.length s.ct, .slice s.Ad s.x.data.length s.cd, .int .u64 (s.x.more : Nat), .bool s.x.dynamic, .slice s.A1 s.x.dyn.needed.length s.c1, .string s.x.dyn.soname, .string s.x.dyn.run, .slice s.A2 s.x.dyn.syms.length s.c2, .slice s.A3 s.x.dyn.relas.length s.c3, .int .i64 s.x.apart] 66)).alloc (.cells #[.int .u8 0] 5)).alloc (.cells #[.slice (some ⟨w.heap.size + 1, 0, none⟩) 1 1] 150)) := (((Below.refl _ _).alloc (Nat.le_refl _) _).alloc (by simp) _).alloc (by simp; omega) _
  have hbx : Blk (((w.alloc (.cells #[.int .u16 (s.x.type : Nat), .int .u64 (s.x.entry : Nat), .string s.x.interp, .slice s.At s.x.text.length s.ct, .slice s.Ad s.x.data.length s.cd, .int .u64 (s.x.more : Nat), .bool s.x.dynamic, .slice s.A1 s.x.dyn.needed.length s.c1, .string s.x.dyn.soname, .string s.x.dyn.run, .slice s.A2 s.x.dyn.syms.length s.c2, .slice s.A3 s.x.dyn.relas.length s.c3, .int .i64 s.x.apart] 66)).alloc (.cells #[.int .u8 0] 5)).alloc (.cells #[.slice (some ⟨w.heap.size + 1, 0, none⟩) 1 1] 150)) w.heap.size 66 s.l := ((Blk.new w 66 s.l).alloc (.cells #[.int .u8 0] 5)).alloc (.cells #[.slice (some ⟨w.heap.size + 1, 0, none⟩) 1 1] 150)
  have hs1 : (((w.alloc (.cells #[.int .u16 (s.x.type : Nat), .int .u64 (s.x.entry : Nat), .string s.x.interp, .slice s.At s.x.text.length s.ct, .slice s.Ad s.x.data.length s.cd, .int .u64 (s.x.more : Nat), .bool s.x.dynamic, .slice s.A1 s.x.dyn.needed.length s.c1, .string s.x.dyn.soname, .string s.x.dyn.run, .slice s.A2 s.x.dyn.syms.length s.c2, .slice s.A3 s.x.dyn.relas.length s.c3, .int .i64 s.x.apart] 66)).alloc (.cells #[.int .u8 0] 5)).alloc (.cells #[.slice (some ⟨w.heap.size + 1, 0, none⟩) 1 1] 150)).heap.size = w.heap.size + 1 + 1 + 1 := by simp
  have hTb : FiM (((w.alloc (.cells #[.int .u16 (s.x.type : Nat), .int .u64 (s.x.entry : Nat), .string s.x.interp, .slice s.At s.x.text.length s.ct, .slice s.Ad s.x.data.length s.cd, .int .u64 (s.x.more : Nat), .bool s.x.dynamic, .slice s.A1 s.x.dyn.needed.length s.c1, .string s.x.dyn.soname, .string s.x.dyn.run, .slice s.A2 s.x.dyn.syms.length s.c2, .slice s.A3 s.x.dyn.relas.length s.c3, .int .i64 s.x.apart] 66)).alloc (.cells #[.int .u8 0] 5)).alloc (.cells #[.slice (some ⟨w.heap.size + 1, 0, none⟩) 1 1] 150)) 150 (w.heap.size + 1 + 1) 0 [.slice (some ⟨w.heap.size + 1, 0, none⟩) 1 1] (w.heap.size + 1) (some ⟨w.heap.size + 1, 0, none⟩) 1 1 [0] := by
    have h1 := Blk.new ((w.alloc (.cells #[.int .u16 (s.x.type : Nat), .int .u64 (s.x.entry : Nat), .string s.x.interp, .slice s.At s.x.text.length s.ct, .slice s.Ad s.x.data.length s.cd, .int .u64 (s.x.more : Nat), .bool s.x.dynamic, .slice s.A1 s.x.dyn.needed.length s.c1, .string s.x.dyn.soname, .string s.x.dyn.run, .slice s.A2 s.x.dyn.syms.length s.c2, .slice s.A3 s.x.dyn.relas.length s.c3, .int .i64 s.x.apart] 66)).alloc (.cells #[.int .u8 0] 5)) 150 [.slice (some ⟨w.heap.size + 1, 0, none⟩) 1 1]
    have h2 := bytes0_own (w.alloc (.cells #[.int .u16 (s.x.type : Nat), .int .u64 (s.x.entry : Nat), .string s.x.interp, .slice s.At s.x.text.length s.ct, .slice s.Ad s.x.data.length s.cd, .int .u64 (s.x.more : Nat), .bool s.x.dynamic, .slice s.A1 s.x.dyn.needed.length s.c1, .string s.x.dyn.soname, .string s.x.dyn.run, .slice s.A2 s.x.dyn.syms.length s.c2, .slice s.A3 s.x.dyn.relas.length s.c3, .int .i64 s.x.apart] 66)) (.cells #[.slice (some ⟨w.heap.size + 1, 0, none⟩) 1 1] 150)
    have e1 : (w.alloc (.cells #[.int .u16 (s.x.type : Nat), .int .u64 (s.x.entry : Nat), .string s.x.interp, .slice s.At s.x.text.length s.ct, .slice s.Ad s.x.data.length s.cd, .int .u64 (s.x.more : Nat), .bool s.x.dynamic, .slice s.A1 s.x.dyn.needed.length s.c1, .string s.x.dyn.soname, .string s.x.dyn.run, .slice s.A2 s.x.dyn.syms.length s.c2, .slice s.A3 s.x.dyn.relas.length s.c3, .int .i64 s.x.apart] 66)).heap.size = w.heap.size + 1 := by simp
    have e2 : ((w.alloc (.cells #[.int .u16 (s.x.type : Nat), .int .u64 (s.x.entry : Nat), .string s.x.interp, .slice s.At s.x.text.length s.ct, .slice s.Ad s.x.data.length s.cd, .int .u64 (s.x.more : Nat), .bool s.x.dynamic, .slice s.A1 s.x.dyn.needed.length s.c1, .string s.x.dyn.soname, .string s.x.dyn.run, .slice s.A2 s.x.dyn.syms.length s.c2, .slice s.A3 s.x.dyn.relas.length s.c3, .int .i64 s.x.apart] 66)).alloc (.cells #[.int .u8 0] 5)).heap.size = w.heap.size + 1 + 1 := by simp
    rw [e1] at h2
    rw [e2] at h1
    exact ⟨h1, rfl, h2, fun e => by injection e with e; have h9 : w.heap.size + 1 = w.heap.size + 1 + 1 := e; omega⟩
  have hx1 := hx.below (hb0.mono hB)
  have hneed : ∀ y ∈ s.x.dyn.needed, y.size ≤ 4294967296 := hf.ok.dyn.s1
  have hson : s.x.dyn.soname.size ≤ 4294967296 := hf.ok.dyn.s3
  have hrun : s.x.dyn.run.size ≤ 4294967296 := hf.ok.dyn.s4
  have n1 := hm.n1
  obtain ⟨t01, t12, t23⟩ := texts_up s.x.dyn
  obtain ⟨a0, a1, a2, a3, a4, a5, a6, a7, a8, a9, a10, a11, a12⟩ := spec_cellsP hbx
  show Calls _ _ #[.agg #[.int .u16 (s.x.type : Nat), .int .u64 (s.x.entry : Nat), .string s.x.interp, .slice s.At s.x.text.length s.ct, .slice s.Ad s.x.data.length s.cd, .int .u64 (s.x.more : Nat), .bool s.x.dynamic, .slice s.A1 s.x.dyn.needed.length s.c1, .string s.x.dyn.soname, .string s.x.dyn.run, .slice s.A2 s.x.dyn.syms.length s.c2, .slice s.A3 s.x.dyn.relas.length s.c3, .int .i64 s.x.apart], _] w _
  have Hb0 := hide hb0
  have Hbx := hide hbx
  have HTb := hide hTb
  have Hx1 := hide hx1
  have Hneed := hide hneed
  have Hs1 := hide hs1
  clear a0 a1 a2 a3 a4 a5 a6 a12 hb0 hbx hTb hx1 hx hneed
  go_enter Tryz.func29, Tryz.ntmps29
  go_upto_region 3 with fail
  generalize (((w.alloc (.cells #[.int .u16 (s.x.type : Nat), .int .u64 (s.x.entry : Nat), .string s.x.interp, .slice s.At s.x.text.length s.ct, .slice s.Ad s.x.data.length s.cd, .int .u64 (s.x.more : Nat), .bool s.x.dynamic, .slice s.A1 s.x.dyn.needed.length s.c1, .string s.x.dyn.soname, .string s.x.dyn.run, .slice s.A2 s.x.dyn.syms.length s.c2, .slice s.A3 s.x.dyn.relas.length s.c3, .int .i64 s.x.apart] 66)).alloc (.cells #[.int .u8 0] 5)).alloc (.cells #[.slice (some ⟨w.heap.size + 1, 0, none⟩) 1 1] 150)) = w1 at *
  go_cut [8, 9] (fun sv dv wx => ∃ gs gd, sv = .pointer (some ⟨gs, 0, none⟩) ∧ dv = .pointer (some ⟨gd, 0, none⟩) ∧ SyS 150 (w.heap.size + 1 + 1) 0 (w.heap.size + 1) gs [.slice (some ⟨w.heap.size + 1, 0, none⟩) 1 1] (some ⟨w.heap.size + 1, 0, none⟩) w1 wx [0] [] (some (gd, 29, s.q.l)))
  case first =>
    go_region
    · go_wp2_with fail
      go_meet
      case rel =>
        have h1 := (Blk.new w1 71 [.slice none 0 0]).alloc (.cells #[.slice s.A1 s.x.dyn.needed.length s.c1, .string s.x.dyn.soname, .string s.x.dyn.run, .slice s.A2 s.x.dyn.syms.length s.c2, .slice s.A3 s.x.dyn.relas.length s.c3] 29)
        have h2 := Blk.new (w1.alloc (.cells #[.slice none 0 0] 71)) 29 s.q.l
        have e9 : (w1.alloc (.cells #[.slice none 0 0] 71)).heap.size = w.heap.size + 1 + 1 + 1 + 1 := by simp [unhide Hs1]
        rw [e9] at h2
        rw [unhide Hs1] at h1
        exact ⟨_, _, rfl, rfl, SyS.start (unhide HTb) (below_drew' (((Below.refl _ _).alloc (Nat.le_refl _) _).alloc (by simp) _)) h1 h2 (by rw [unhide Hs1]; omega) (by rw [unhide Hs1]; omega) (by omega) (by rw [unhide Hs1]; omega)⟩
    · go_wp2_with fail
      go_meet
      case rel =>
        have h1 := Blk.new (w1.alloc (.cells #[.slice s.A1 s.x.dyn.needed.length s.c1, .string s.x.dyn.soname, .string s.x.dyn.run, .slice s.A2 s.x.dyn.syms.length s.c2, .slice s.A3 s.x.dyn.relas.length s.c3] 29)) 71 [.slice none 0 0]
        have h2 : Blk ((w1.alloc (.cells #[.slice s.A1 s.x.dyn.needed.length s.c1, .string s.x.dyn.soname, .string s.x.dyn.run, .slice s.A2 s.x.dyn.syms.length s.c2, .slice s.A3 s.x.dyn.relas.length s.c3] 29)).alloc (.cells #[.slice none 0 0] 71)) w1.heap.size 29 s.q.l := (Blk.new w1 29 s.q.l).alloc (.cells #[.slice none 0 0] 71)
        have e9 : (w1.alloc (.cells #[.slice s.A1 s.x.dyn.needed.length s.c1, .string s.x.dyn.soname, .string s.x.dyn.run, .slice s.A2 s.x.dyn.syms.length s.c2, .slice s.A3 s.x.dyn.relas.length s.c3] 29)).heap.size = w.heap.size + 1 + 1 + 1 + 1 := by simp [unhide Hs1]
        rw [e9] at h1
        rw [unhide Hs1] at h2
        exact ⟨_, _, rfl, rfl, SyS.start (unhide HTb) (below_drew' (((Below.refl _ _).alloc (Nat.le_refl _) _).alloc (by simp) _)) h1 h2 (by rw [unhide Hs1]; omega) (by rw [unhide Hs1]; omega) (by omega) (by rw [unhide Hs1]; omega)⟩
  case rest =>
    obtain ⟨gs, gd, rfl, rfl, hS⟩ := hcut
    obtain ⟨N, hN⟩ : ∃ N, s.x.dyn.needed.length = N := ⟨_, rfl⟩
    have hN8 : N ≤ 8 := by omega
    have HS0 := hide hS
    have HN := hide hN
    have z0 : wc.cell? ⟨gd, 0, none⟩ = some (.slice s.A1 N s.c1) := by rw [← hN]; exact hS.cell (i := 0) rfl
    obtain ⟨A1, hA1⟩ : ∃ A1, s.A1 = A1 := ⟨_, rfl⟩
    rw [hA1] at z0
    have HA1 := hide hA1
    clear hS hN a7 a8 a9 a10 a11 hA1
    go_wp2_with fail
    go_loopg [33] N (fun gk iv wr => ∃ j : Nat, gk = N - j ∧ j ≤ N ∧ iv = .int .i64 j ∧ SyS 150 (w.heap.size + 1 + 1) 0 (w.heap.size + 1) gs [.slice (some ⟨w.heap.size + 1, 0, none⟩) 1 1] (some ⟨w.heap.size + 1, 0, none⟩) w1 wr (Mk.puts [0] (s.x.dyn.needed.take j)) (Mk.entsB (((Mk.places [0] s.x.dyn.needed).take j).map fun p => (1, p))) (some (gd, 29, s.q.l)))
    case atStart => exact ⟨0, by omega, by omega, rfl, by simpa [Mk.puts, Mk.entsB] using unhide HS0⟩
    case round =>
    clear HS0 z0
    obtain ⟨j, hgk, hj, rfl, hS⟩ := hrel
    have Hgk := hide hgk
    have hbB := hS.bel (B := B) (by omega) (fun k hk => by injection hk with hk; have h9 : w.heap.size + 1 = k := hk; omega) (by rw [unhide Hs1]; omega)
    have hxr := (unhide Hx1).below hbB
    have HS := hide hS
    have hnd : Rd wr B 1 A1 N (s.x.dyn.needed.map Value.string) := by have h9 := hxr.dyn.needed; rw [show s.q.A1 = s.A1 from rfl, unhide HA1, show s.q.d.needed = s.x.dyn.needed from rfl, unhide HN] at h9; exact h9
    clear hgk hS hbB hxr
    by_cases hlt : j < N
    · obtain ⟨x, hx⟩ : ∃ x, s.x.dyn.needed[j]? = some x := ⟨_, List.getElem?_eq_getElem (by rw [unhide HN]; exact hlt)⟩
      have hxn := (unhide Hneed) x (List.mem_of_getElem? hx)
      obtain ⟨b1, o1, hAA, -, st⟩ := hnd.at_ (k := j) (u := .string x) (by simp [hx])
      subst hAA
      have ilt : (j : Int) < (N : Int) := by omega
      have hpn := places_next (t := [0]) hx
      have hpl := places_len [0] s.x.dyn.needed
      have hpx : (Mk.places [0] s.x.dyn.needed)[j]? = some (Mk.place (Mk.puts [0] (s.x.dyn.needed.take j)) x) := by
        have h1 := hpn.1
        have h2 : (Mk.places [0] (s.x.dyn.needed.take j ++ s.x.dyn.needed.drop j))[j]? = some (Mk.place (Mk.puts [0] (s.x.dyn.needed.take j)) x) := by
          rw [places_app, List.getElem?_append_right (by rw [places_len, List.length_take]; omega), places_len, List.length_take]
          obtain ⟨hi, hxi⟩ := List.getElem?_eq_some_iff.1 hx
          rw [List.drop_eq_getElem_cons hi, hxi, Mk.places, show j - min j s.x.dyn.needed.length = 0 by omega]
          rfl
        rw [List.take_append_drop] at h2
        exact h2
      have hpt := puts_take_le [0] s.x.dyn.needed j
      rw [show Mk.puts [0] s.x.dyn.needed = Mk.texts0 s.x.dyn from rfl] at hpt
      have Hpn := hide hpn.2
      obtain ⟨tj, htj⟩ : ∃ tj, Mk.puts [0] (s.x.dyn.needed.take j) = tj := ⟨_, rfl⟩
      have hel : (Mk.entsB (((Mk.places [0] s.x.dyn.needed).take j).map fun p => (1, p))).length ≤ 256 := by rw [entsB_len, List.length_map, List.length_take]; omega
      obtain ⟨fj, hfj⟩ : ∃ fj, Mk.entsB (((Mk.places [0] s.x.dyn.needed).take j).map fun p => (1, p)) = fj := ⟨_, rfl⟩
      rw [hfj] at hel HS
      rw [htj] at hpt HS Hpn hpx
      have hpv := place_le tj x
      obtain ⟨pv, hpe⟩ : ∃ pv, Mk.place tj x = pv := ⟨_, rfl⟩
      rw [hpe] at hpv hpx
      have hej : Mk.entsB (((Mk.places [0] s.x.dyn.needed).take (j + 1)).map fun p => (1, p)) = fj ++ Mk.pairB (1, pv) := by rw [List.take_add_one, hpx, List.map_append, ← hfj]; exact entsB_snoc _ _
      have Hej := hide hej
      have KT := hide ((unhide HS).callText (by omega) x hxn)
      rw [hpe] at KT
      clear hx hpn hpl hpx htj hfj hpe hej hnd hxn
      go_wp2_with fail
      refine (unhide KT).mono ?_
      rintro e w5 ⟨rfl, hS5⟩
      have H1 := hide (lit2 w5 1 (pv : Nat))
      have KN := hide (hS5.callNumber (w2 := w5.alloc (.cells #[.int .u64 1, .int .u64 (pv : Nat)] 23)) (below_al _ _) (kv := w5.heap.size) (m := 2) (cv := 2) (s := 8) (sv := 8) (vs := [1, pv]) (Nat.le_refl _) (unhide H1) rfl (by intro v hv; simp at hv; rcases hv with rfl | rfl <;> omega) rfl (by omega) (by omega) (by omega))
      clear hS5 KT HS st
      go_wp2_with fail
      refine (unhide KN).mono ?_
      rintro e w6 ⟨rfl, hS6⟩
      have HS6 := hide hS6
      clear hS6 KN H1
      go_wp2_with fail
      go_roundg (N - (j + 1))
      case measure => have := unhide Hgk; omega
      case rel => exact ⟨j + 1, rfl, by omega, by go_num, (unhide HS6).bind (unhide Hpn).symm (by rw [unhide Hej, pair_lbs])⟩
    have hj' : j = N := by omega
    subst hj'
    have ige : ¬ (j : Int) < (j : Int) := by omega
    have hS := unhide HS
    rw [List.take_of_length_le (by rw [unhide HN]; exact Nat.le_refl _), List.take_of_length_le (by rw [places_len, unhide HN]; exact Nat.le_refl _)] at hS
    have hS : SyS 150 (w.heap.size + 1 + 1) 0 (w.heap.size + 1) gs [.slice (some ⟨w.heap.size + 1, 0, none⟩) 1 1] (some ⟨w.heap.size + 1, 0, none⟩) w1 wr (Mk.texts0 s.x.dyn) (Mk.entsB (Mk.heads0 s.x.dyn)) (some (gd, 29, s.q.l)) := hS
    have z1 := hS.cell (i := 1) (v := .string s.x.dyn.soname) rfl
    have HSa := hide hS
    clear hS HS hnd hlt hj
    go_upto_if 46 with fail
    obtain ⟨bi, hbi⟩ : ∃ bi, s.x.dyn.soname.toList.isEmpty = bi := ⟨_, rfl⟩
    rw [hbi]
    have Hbi := hide hbi
    clear hbi
    go_cut [] (fun wx => SyS 150 (w.heap.size + 1 + 1) 0 (w.heap.size + 1) gs [.slice (some ⟨w.heap.size + 1, 0, none⟩) 1 1] (some ⟨w.heap.size + 1, 0, none⟩) w1 wx (Mk.texts1 s.x.dyn) (Mk.entsB (Mk.heads1 s.x.dyn)) (some (gd, 29, s.q.l)))
    case first =>
      cases bi
      case true =>
        have hi : s.x.dyn.soname.size = 0 := by have h9 := unhide Hbi; rw [isEmpty_toList, decide_eq_true_eq] at h9; exact h9
        have He := hide (show Mk.texts1 s.x.dyn = Mk.texts0 s.x.dyn ∧ Mk.heads1 s.x.dyn = Mk.heads0 s.x.dyn from ⟨by unfold Mk.texts1 Mk.put; rw [if_pos hi], by unfold Mk.heads1; rw [if_pos hi]⟩)
        clear hi
        go_wp2_with fail
        go_meet
        case rel => rw [(unhide He).1, (unhide He).2]; exact unhide HSa
      case false =>
        have hi : s.x.dyn.soname.size ≠ 0 := by have h9 := unhide Hbi; rw [isEmpty_toList, decide_eq_false_iff_not] at h9; exact h9
        have He := hide (show Mk.heads1 s.x.dyn = Mk.heads0 s.x.dyn ++ [(14, Mk.place (Mk.texts0 s.x.dyn) s.x.dyn.soname)] by unfold Mk.heads1; rw [if_neg hi])
        have KT := hide ((unhide HSa).callText (by omega) s.x.dyn.soname hson)
        clear hi
        go_wp2_with fail
        refine (unhide KT).mono ?_
        rintro e w5 ⟨rfl, hS5⟩
        have hpv := place_le (Mk.texts0 s.x.dyn) s.x.dyn.soname
        obtain ⟨pv, hpe⟩ : ∃ pv, Mk.place (Mk.texts0 s.x.dyn) s.x.dyn.soname = pv := ⟨_, rfl⟩
        have Hpe := hide hpe
        rw [hpe] at hpv ⊢
        have H1 := hide (lit2 w5 14 (pv : Nat))
        have KN := hide (hS5.callNumber (w2 := w5.alloc (.cells #[.int .u64 14, .int .u64 (pv : Nat)] 23)) (below_al _ _) (kv := w5.heap.size) (m := 2) (cv := 2) (s := 8) (sv := 8) (vs := [14, pv]) (Nat.le_refl _) (unhide H1) rfl (by intro v hv; simp at hv; rcases hv with rfl | rfl <;> omega) rfl (by omega) (by rw [entsB_len]; have := heads2_len s.x.dyn; have := heads_up s.x.dyn; omega) (by omega))
        clear hS5 KT hpe
        go_wp2_with fail
        refine (unhide KN).mono ?_
        rintro e w6 ⟨rfl, hS6⟩
        have HS6 := hide hS6
        clear hS6 KN H1
        go_wp2_with fail
        go_meet
        case rel => exact (unhide HS6).bind rfl (by rw [unhide He, unhide Hpe, entsB_snoc, pair_lbs])
    case rest =>
      have HSb := hide hcut
      clear hcut Hbi
      have z2 := (unhide HSb).cell (i := 2) (v := .string s.x.dyn.run) rfl
      clear HSa z1
      go_upto_if 56 with fail
      obtain ⟨bi, hbi⟩ : ∃ bi, s.x.dyn.run.toList.isEmpty = bi := ⟨_, rfl⟩
      rw [hbi]
      have Hbi := hide hbi
      clear hbi
      go_cut [] (fun wx => SyS 150 (w.heap.size + 1 + 1) 0 (w.heap.size + 1) gs [.slice (some ⟨w.heap.size + 1, 0, none⟩) 1 1] (some ⟨w.heap.size + 1, 0, none⟩) w1 wx (Mk.texts2 s.x.dyn) (Mk.entsB (Mk.heads2 s.x.dyn)) (some (gd, 29, s.q.l)))
      case first =>
        cases bi
        case true =>
          have hi : s.x.dyn.run.size = 0 := by have h9 := unhide Hbi; rw [isEmpty_toList, decide_eq_true_eq] at h9; exact h9
          have He := hide (show Mk.texts2 s.x.dyn = Mk.texts1 s.x.dyn ∧ Mk.heads2 s.x.dyn = Mk.heads1 s.x.dyn from ⟨by unfold Mk.texts2 Mk.put; rw [if_pos hi], by unfold Mk.heads2; rw [if_pos hi]⟩)
          clear hi
          go_wp2_with fail
          go_meet
          case rel => rw [(unhide He).1, (unhide He).2]; exact unhide HSb
        case false =>
          have hi : s.x.dyn.run.size ≠ 0 := by have h9 := unhide Hbi; rw [isEmpty_toList, decide_eq_false_iff_not] at h9; exact h9
          have He := hide (show Mk.heads2 s.x.dyn = Mk.heads1 s.x.dyn ++ [(29, Mk.place (Mk.texts1 s.x.dyn) s.x.dyn.run)] by unfold Mk.heads2; rw [if_neg hi])
          have KT := hide ((unhide HSb).callText (by omega) s.x.dyn.run hrun)
          clear hi
          go_wp2_with fail
          refine (unhide KT).mono ?_
          rintro e w5 ⟨rfl, hS5⟩
          have hpv := place_le (Mk.texts1 s.x.dyn) s.x.dyn.run
          obtain ⟨pv, hpe⟩ : ∃ pv, Mk.place (Mk.texts1 s.x.dyn) s.x.dyn.run = pv := ⟨_, rfl⟩
          have Hpe := hide hpe
          rw [hpe] at hpv ⊢
          have H1 := hide (lit2 w5 29 (pv : Nat))
          have KN := hide (hS5.callNumber (w2 := w5.alloc (.cells #[.int .u64 29, .int .u64 (pv : Nat)] 23)) (below_al _ _) (kv := w5.heap.size) (m := 2) (cv := 2) (s := 8) (sv := 8) (vs := [29, pv]) (Nat.le_refl _) (unhide H1) rfl (by intro v hv; simp at hv; rcases hv with rfl | rfl <;> omega) rfl (by omega) (by rw [entsB_len]; have := heads2_len s.x.dyn; have := heads_up s.x.dyn; omega) (by omega))
          clear hS5 KT hpe
          go_wp2_with fail
          refine (unhide KN).mono ?_
          rintro e w6 ⟨rfl, hS6⟩
          have HS6 := hide hS6
          clear hS6 KN H1
          go_wp2_with fail
          go_meet
          case rel => exact (unhide HS6).bind rfl (by rw [unhide He, unhide Hpe, entsB_snoc, pair_lbs])
      case rest =>
        have HSc := hide hcut
        clear hcut Hbi
        have hS := unhide HSc
        obtain ⟨At, nt, ct, Af, cf, hE, hM, q1, q2, q3⟩ := hS.tx
        obtain ⟨g1, g2, g3, g4, g5⟩ := q3 _ rfl
        have hgs := hS.hgF
        rw [unhide Hs1] at hgs g3
        have hb9 := hS.bel (B := w.heap.size + 1) (by omega) (fun k hk => by injection hk with hk; have h9 : w.heap.size + 1 = k := hk; omega) (by rw [unhide Hs1]; omega)
        have hlt := hM.lt
        have hsz9 := hb9.size
        clear z2 HSb
        go_step
        exact psecB s gf gs (w.heap.size + 1 + 1) gd base n c B nt ct cf (w.heap.size + 1) T A Af At fs w wc hF hbase hfs
          ⟨Blk.below (unhide Hbx) hb9 (by omega), (unhide Hx1).below (hb9.mono (by omega)), hE.m, ⟨hM.blk, hM.at_, own_base hM.row (by rw [unhide Hs1]; omega), hM.ne⟩, g1, fun k hk => ⟨fun e => q2 (by rw [← e]; exact hk), fun e => q1 k e hk⟩, (unhide Hb0).trans (hb9.mono (by omega)), by have := unhide Hs1; omega, hB⟩
          (by omega) (by omega) (by have := unhide Hs1; omega) (by omega) (by omega) (by omega) g4 (fun e => by have := (hlt _ e).1; have := unhide Hs1; omega) (fun e => by have := (hlt _ e).1; have := unhide Hs1; omega) hm hf hT hT2 _ _ _ _ _ _ _ _ _ _ _ _ _ _ _ _ _ _ _ _ _ _ _ _ _ _ _ _ _ _ _ _ _ _ _ _ _ _ _ _ _ _ _ _ _ _ _ _ _ _ _ _ _ _ _ _ _ _ _ _ _ _ _ _ _ _ _ _ _ _ _ _ _ _ _ _ _ _ _ _ _ _ _ _ _ _ _ _ _ _ _ _ _ _ _ _ _ _ _ _ _ _ _ _ _ _ _ _ _ _ _ _ _ _ _ _ _ _ _ _ _ _ _ _ _ _ _ _ _ _ _ _ _ _ _ _ _ _ _ _ _ _ _ _ _ _ _ _ _ _ _ _ _ _ _ _ _ _ _ _ _ _ _ _ _ _ _ _ _ _ _
end Go.Proofs.YtnbecdahfgkffaaGreat
namespace Go.Proofs.YtnbecdahfgkffaaGreat
open Go.RowKit
theorem rowC_len (l : List Mk.Row) : (rowC l).length = 7 * l.length := by
  unfold rowC
  induction l with
  | nil => rfl
  | cons s r ih => rw [List.flatMap_cons, List.length_append, ih, List.length_cons, Nat.mul_succ]; show 7 + _ = _; omega
theorem rowC_app (a b : List Mk.Row) : rowC (a ++ b) = rowC a ++ rowC b := by simp [rowC]
theorem rowC_one (l : List Mk.Row) : ∀ u ∈ rowC l, u.oneCell' = true := by
  intro u hu
  obtain ⟨r, -, hr⟩ := List.mem_flatMap.1 hu
  exact rowV_one r u hr
theorem mSegTy : SlTy Tryz.prog 72 74 7 56 := slTy_mk (z := .agg #[.int .u64 0, .int .u64 0, .int .u64 0, .int .u64 0, .int .u64 0, .int .u64 0, .int .u64 0]) Tryz.underlying72 (by kernel_rfl) rfl (by omega) (by omega)
structure PmS (gF gl : Nat) (w wr : World) (Af : Option Addr) (nf cf : Nat) (fs : List UInt8) (Al : Option Addr) (cl : Nat) (rs : List Mk.Row) (H : List (Nat × TypeId × List Value)) (Ad : Option Addr) (nd cd : Nat) (ds : List Mk.Row) : Prop where
  below : Below w.heap.size w wr
  fi : FiM wr 71 gF 0 [.slice Af nf cf] w.heap.size Af nf cf fs
  lb : Blk wr gl 72 [.slice Al rs.length cl]
  row : wr.ownsRow w.heap.size 74 7 (.slice Al rs.length cl) rs.length (rowC rs)
  dyn : wr.ownsRow w.heap.size 74 7 (.slice Ad nd cd) nd (rowC ds)
  d1 : ∀ k, bk Al = some k → bk Af ≠ some k ∧ k ≠ gF ∧ k ≠ gl
  d2 : bk Af ≠ some gl
  d3 : ∀ k, bk Ad = some k → bk Af ≠ some k ∧ bk Al ≠ some k ∧ k ≠ gF ∧ k ≠ gl
  held : ∀ p ∈ H, Blk wr p.1 p.2.1 p.2.2 ∧ p.1 ≠ gF ∧ p.1 ≠ gl ∧ bk Af ≠ some p.1 ∧ bk Al ≠ some p.1
  hF : w.heap.size ≤ gF
  hl : w.heap.size ≤ gl
  ne : gF ≠ gl
section
variable {gF gl nf cf cl nd cd nf2 cf2 : Nat} {w wr w' : World} {Af Al Ad Af2 : Option Addr} {fs fs2 : List UInt8} {rs ds : List Mk.Row} {H : List (Nat × TypeId × List Value)}
theorem PmS.size (h : PmS gF gl w wr Af nf cf fs Al cl rs H Ad nd cd ds) : w.heap.size ≤ wr.heap.size := h.below.size
theorem PmS.calm (h : PmS gF gl w wr Af nf cf fs Al cl rs H Ad nd cd ds) (hb : Below wr.heap.size wr w') : PmS gF gl w w' Af nf cf fs Al cl rs H Ad nd cd ds :=
  ⟨h.below.trans (hb.mono h.size), h.fi.below hb, h.lb.belowSz hb, own_below h.row hb, own_below h.dyn hb, h.d1, h.d2, h.d3, fun p hp => ⟨(h.held p hp).1.belowSz hb, (h.held p hp).2⟩, h.hF, h.hl, h.ne⟩
theorem PmS.sub (h : PmS gF gl w wr Af nf cf fs Al cl rs H Ad nd cd ds) {H' : List (Nat × TypeId × List Value)} (hs : ∀ p ∈ H', p ∈ H) : PmS gF gl w wr Af nf cf fs Al cl rs H' Ad nd cd ds :=
  ⟨h.below, h.fi, h.lb, h.row, h.dyn, h.d1, h.d2, h.d3, fun p hp => h.held p (hs p hp), h.hF, h.hl, h.ne⟩
theorem PmS.bind (h : PmS gF gl w wr Af nf cf fs Al cl rs H Ad nd cd ds) {fs' : List UInt8} (e : fs = fs') : PmS gF gl w wr Af nf cf fs' Al cl rs H Ad nd cd ds := by subst e; exact h
theorem PmS.cell (h : PmS gF gl w wr Af nf cf fs Al cl rs H Ad nd cd ds) {k i : Nat} {t3 : TypeId} {l3 : List Value} {v : Value} (hm : (k, t3, l3) ∈ H) (hi : l3[i]? = some v) : wr.cell? ⟨k, i, none⟩ = some v := (h.held _ hm).1.cell hi
theorem PmS.front (h : PmS gF gl w wr Af nf cf fs Al cl rs H Ad nd cd ds) (E : FiE 71 gF 0 [.slice Af nf cf] w.heap.size Af wr w' Af2 nf2 cf2 fs2) : PmS gF gl w w' Af2 nf2 cf2 fs2 Al cl rs H Ad nd cd ds := by
  obtain ⟨r1, r2⟩ := E.own h.row (fun e => (h.d1 _ e).2.1 rfl) (fun k hk => (h.d1 k hk).1)
  obtain ⟨q1, q2⟩ := E.own h.dyn (fun e => (h.d3 _ e).2.2.1 rfl) (fun k hk => (h.d3 k hk).1)
  refine ⟨h.below.trans (E.below h.hF (fun k hk => (h.fi.lt k hk).1) h.size), E.m, E.blk h.lb (fun e => h.ne e.symm) h.d2, r1, q1, fun k hk => ⟨r2 k hk, (h.d1 k hk).2⟩, fun e => ?_, fun k hk => ⟨q2 k hk, (h.d3 k hk).2⟩, fun p hp => ?_, h.hF, h.hl, h.ne⟩
  · rcases E.at_ _ e with h9 | h9
    · exact h.d2 h9
    · have := h.lb.lt; omega
  · obtain ⟨p1, p2, p3, p4, p5⟩ := h.held p hp
    refine ⟨E.blk p1 p2 p4, p2, p3, fun e => ?_, p5⟩
    rcases E.at_ _ e with h9 | h9
    · exact p4 h9
    · have := p1.lt; omega
theorem PmS.midBlk (h : PmS gF gl w wr Af nf cf fs Al cl rs H Ad nd cd ds) (hg : wr.grownBy w' (Value.slice Al rs.length cl).ownBlock) {p : Nat × TypeId × List Value} (hp : p ∈ H) : Blk w' p.1 p.2.1 p.2.2 := by
  rw [own_bk] at hg
  exact (hg.block p.1 (h.held p hp).1.lt (fun e => (h.held p hp).2.2.2.2 e.symm)).trans (h.held p hp).1
theorem PmS.midL (h : PmS gF gl w wr Af nf cf fs Al cl rs H Ad nd cd ds) (hg : wr.grownBy w' (Value.slice Al rs.length cl).ownBlock) : Blk w' gl 72 [.slice Al rs.length cl] := by
  rw [own_bk] at hg
  exact (hg.block gl h.lb.lt (fun e => (h.d1 gl e.symm).2.2 rfl)).trans h.lb
theorem PmS.midF (h : PmS gF gl w wr Af nf cf fs Al cl rs H Ad nd cd ds) (hg : wr.grownBy w' (Value.slice Al rs.length cl).ownBlock) : Blk w' gF 71 [.slice Af nf cf] := by
  rw [own_bk] at hg
  exact (hg.block gF h.fi.blk.lt (fun e => (h.d1 gF e.symm).2.1 rfl)).trans h.fi.blk
theorem PmS.midRow (h : PmS gF gl w wr Af nf cf fs Al cl rs H Ad nd cd ds) (hg : wr.grownBy w' (Value.slice Al rs.length cl).ownBlock) : w'.ownsRow w.heap.size 5 1 (.slice Af nf cf) nf (bys fs) := by
  rw [own_bk] at hg
  exact own_grownG h.fi.row hg (fun k hk e => (h.d1 k e).1 hk)
theorem PmS.kne (h : PmS gF gl w wr Af nf cf fs Al cl rs H Ad nd cd ds) {p : Nat × TypeId × List Value} (hp : p ∈ H) : bk Af ≠ some p.1 := (h.held p hp).2.2.2.1
theorem PmS.push {A2 : Option Addr} {c2 : Nat} (h : PmS gF gl w wr Af nf cf fs Al cl rs H Ad nd cd ds) (r : Mk.Row) (ho : w'.ownsRow w.heap.size 74 7 (.slice A2 (rs.length + 1) c2) (rs.length + 1) (rowC rs ++ rowV r)) (hg : wr.grownBy w' (Value.slice Al rs.length cl).ownBlock) (hat : ∀ k, (Value.slice A2 (rs.length + 1) c2).ownBlock = some k → (Value.slice Al rs.length cl).ownBlock = some k ∨ wr.heap.size ≤ k) :
    PmS gF gl w (w'.setCell ⟨gl, 0, none⟩ (.slice A2 (rs.length + 1) c2)) Af nf cf fs A2 c2 (rs ++ [r]) H Ad nd cd ds := by
  have hL := h.midL hg
  have hF := h.midF hg
  have hH := fun p hp => h.midBlk hg (p := p) hp
  rw [own_bk] at hg
  simp only [own_bk] at hat
  have hfr := (h.fi.grown hg (fun e => (h.d1 gF e).2.1 rfl) (fun k hk e => (h.d1 k e).1 hk))
  have hdy := own_grownG h.dyn hg (fun k hk => (h.d3 k hk).2.1)
  have hlen : (rs ++ [r]).length = rs.length + 1 := by rw [List.length_append]; rfl
  have hA2 : ∀ k, bk A2 = some k → bk Af ≠ some k ∧ k ≠ gF ∧ k ≠ gl := fun k hk => by
    rcases hat k hk with h9 | h9
    · exact h.d1 k h9
    · exact ⟨fun e => by have := (h.fi.lt k e).2; omega, fun e => by have := h.fi.blk.lt; omega, fun e => by have := h.lb.lt; omega⟩
  have hB := h.below.grown hg h.size (fun k hk => (own_bklt h.row k hk).1)
  refine ⟨⟨hB.os, hB.tape, hB.output, by simpa using hB.size, fun k hk => (heap_setCell_other _ _ _ _ (by have := h.hl; show k ≠ gl; omega)).trans (hB.block k hk)⟩, ?_, ?_, ?_, ?_, hA2, h.d2, fun k hk => ⟨(h.d3 k hk).1, fun e => ?_, (h.d3 k hk).2.2⟩, fun p hp => ?_, h.hF, h.hl, h.ne⟩
  · exact ⟨(heap_setCell_other _ _ _ _ (by show gF ≠ gl; exact h.ne)).trans hF, rfl, own_setG hfr.row (fun e => h.d2 e) _, h.fi.ne⟩
  · rw [hlen]
    exact hL.set 0 _
  · rw [hlen, rowC_snoc]
    exact own_setG ho (fun e => (hA2 _ e).2.2 rfl) _
  · exact own_setG hdy (fun e => (h.d3 _ e).2.2.2 rfl) _
  · rcases hat k e with h9 | h9
    · exact (h.d3 k hk).2.1 h9
    · have := (own_bklt h.dyn k hk).2; omega
  · obtain ⟨p1, p2, p3, p4, p5⟩ := h.held p hp
    refine ⟨(heap_setCell_other _ _ _ _ (by show p.1 ≠ gl; exact p3)).trans (hH p hp), p2, p3, p4, fun e => ?_⟩
    rcases hat _ e with h9 | h9
    · exact p5 h9
    · have := p1.lt; omega
theorem PmS.putDyn {A2 : Option Addr} {c2 : Nat} (h : PmS gF gl w wr Af nf cf fs Al cl rs H none 0 0 []) (r : Mk.Row) (ho : w'.ownsRow w.heap.size 74 7 (.slice A2 1 c2) 1 (rowV r)) (hg : wr.grownBy w' none) (hat : ∀ k, (Value.slice A2 1 c2).ownBlock = some k → (Value.slice none 0 0).ownBlock = some k ∨ wr.heap.size ≤ k) :
    PmS gF gl w w' Af nf cf fs Al cl rs H A2 1 c2 [r] := by
  have h2 := h.calm ((Below.refl _ _).grown hg (Nat.le_refl _) (fun k hk => by cases hk))
  simp only [own_bk] at hat
  have hnew : ∀ k, bk A2 = some k → wr.heap.size ≤ k := fun k hk => by
    rcases hat k hk with h9 | h9
    · simp [bk] at h9
    · exact h9
  refine ⟨h2.below, h2.fi, h2.lb, h2.row, by simpa [rowC] using ho, h2.d1, h2.d2, fun k hk => ⟨fun e => ?_, fun e => ?_, fun e => ?_, fun e => ?_⟩, h2.held, h.hF, h.hl, h.ne⟩
  · have := hnew k hk; have := (h.fi.lt k e).2; omega
  · have := hnew k hk; have := (own_bklt h.row k e).2; omega
  · have := hnew k hk; have := h.fi.blk.lt; omega
  · have := hnew k hk; have := h.lb.lt; omega
theorem PmS.lay (h : PmS gF gl w wr Af nf cf fs Al cl rs H Ad nd cd ds) (t3 : TypeId) (l3 : List Value) : PmS gF gl w (wr.alloc (.cells l3.toArray t3)) Af nf cf fs Al cl rs ((wr.heap.size, t3, l3) :: H) Ad nd cd ds := by
  have h2 := h.calm (below_al wr (.cells l3.toArray t3))
  refine ⟨h2.below, h2.fi, h2.lb, h2.row, h2.dyn, h2.d1, h2.d2, h2.d3, fun p hp => ?_, h.hF, h.hl, h.ne⟩
  rcases List.mem_cons.1 hp with rfl | hp
  · exact ⟨Blk.new wr t3 l3, fun e => by have := h.fi.blk.lt; have e' : wr.heap.size = gF := e; omega, fun e => by have := h.lb.lt; have e' : wr.heap.size = gl := e; omega, fun e => by have := (h.fi.lt _ e).2; have e' : wr.heap.size < wr.heap.size := this; omega, fun e => by have := (own_bklt h.row _ e).2; have e' : wr.heap.size < wr.heap.size := this; omega⟩
  · exact h2.held p hp
theorem PmS.out (h : PmS gF gl w wr Af nf cf fs Al cl rs H Ad nd cd ds) : PmS wr.heap.size gl w (wr.alloc (.cells #[.slice Af nf cf] 71)) Af nf cf fs Al cl rs ((gF, 71, [.slice Af nf cf]) :: H) Ad nd cd ds := by
  have h2 := h.calm (below_al wr (.cells #[.slice Af nf cf] 71))
  refine ⟨h2.below, ⟨Blk.new wr _ _, rfl, h2.fi.row, fun e => by have := (h.fi.lt _ e).2; omega⟩, h2.lb, h2.row, h2.dyn, fun k hk => ⟨(h.d1 k hk).1, fun e => by have := (own_bklt h.row k hk).2; omega, (h.d1 k hk).2.2⟩, h.d2, fun k hk => ⟨(h.d3 k hk).1, (h.d3 k hk).2.1, fun e => by have := (own_bklt h.dyn k hk).2; omega, (h.d3 k hk).2.2.2⟩, fun p hp => ?_, h.size, h.hl, fun e => by have := h.lb.lt; omega⟩
  rcases List.mem_cons.1 hp with rfl | hp
  · exact ⟨h2.fi.blk, fun e => by have := h.fi.blk.lt; have e' : gF = wr.heap.size := e; omega, h.ne, h.fi.ne, fun e => (h.d1 _ e).2.1 rfl⟩
  · obtain ⟨p1, p2, p3, p4, p5⟩ := h2.held p hp
    exact ⟨p1, fun e => by have := (h.held p hp).1.lt; omega, p3, p4, p5⟩
end
end Go.Proofs.YtnbecdahfgkffaaGreat
namespace Go.Proofs.YtnbecdahfgkffaaGreat
open Go.RowKit
def BhE (gF gl : Nat) (s : Xq) (w : World) (fs : List UInt8) (rs : List Mk.Row) (H : List (Nat × TypeId × List Value)) (Ad : Option Addr) (nd cd : Nat) (ds : List Mk.Row) (b : List UInt8) (fl ad mo : Nat) (e : Ending) (w' : World) : Prop :=
  e = .returned (.tuple #[]) ∧ ∃ Af nf cf Al cl, PmS gF gl w w' Af nf cf (Mk.pad 4096 fs ++ b) Al cl (rs ++ [⟨1, fl, (Mk.pad 4096 fs).length, Mk.base s.x + ad, b.length, b.length + mo, 4096⟩]) H Ad nd cd ds
set_option maxRecDepth 100000 in
set_option maxHeartbeats 60000000 in
theorem pbehind_any (s : Xq) (gF gl go_ gx nf cf cl nd cd B nb cb fl ad mo : Nat) (Af Al Ad Ab : Option Addr) (fs b : List UInt8) (rs ds : List Mk.Row) (H : List (Nat × TypeId × List Value)) (w wr : World)
    (hr0 : Rd w B 1 Ab nb (bys b)) (h : PmS gF gl w wr Af nf cf fs Al cl rs H Ad nd cd ds) (hgo : (go_, 69, [.pointer (some ⟨gF, 0, none⟩)]) ∈ H) (hgx : (gx, 66, s.l) ∈ H)
    (hB : B ≤ w.heap.size) (hfs : fs.length ≤ 4294967296) (hnb : nb ≤ 4294967296) (had : ad ≤ 4294967296) (hmo : mo ≤ 4294967296) (hrs : rs.length ≤ 64) :
    Calls Tryz.prog 30 #[.slice Ab nb cb, .int .u64 (fl : Nat), .int .u64 (ad : Nat), .int .u64 (mo : Nat), .pointer (some ⟨go_, 0, none⟩), .pointer (some ⟨gl, 0, none⟩), .pointer (some ⟨gx, 0, none⟩)] wr (BhE gF gl s w fs rs H Ad nd cd ds b fl ad mo) := by
  have hr := hr0.below (h.below.mono hB)
  have hbl : b.length = nb := by have := hr.1; simpa [bys] using this
  have hfl := h.fi.len
  have g0 := h.cell hgo (i := 0) rfl
  have KP := hide (ppad_any _ gF 0 _ w.heap.size Af nf cf 4096 fs wr h.fi h.size (by omega) (by omega) (by omega))
  have Hh := hide h
  have Hr := hide hr
  clear h hr
  go_enter Tryz.func30, Tryz.ntmps30
  go_wp2_with fail
  refine (unhide KP).mono ?_
  rintro e w1 ⟨rfl, A1, n1, c1, hE⟩
  have hP1 := (unhide Hh).front hE
  have hr1 : Rd w1 B 1 Ab nb (bys b) := (unhide Hr).below (hE.below (by have := (unhide Hh).hF; omega) (fun k hk => by have := ((unhide Hh).fi.lt k hk).1; omega) (by have := (unhide Hh).size; omega))
  have hpl := pad_le 4096 (by omega) fs
  have hpn := hP1.fi.len
  obtain ⟨ps, hps⟩ : ∃ ps, Mk.pad 4096 fs = ps := ⟨_, rfl⟩
  rw [hps] at hP1 hpl hpn
  have Hps := hide hps
  have y0 := hP1.cell hgo (i := 0) rfl
  have y1 := hP1.fi.cell
  obtain ⟨a0, a1, a2, a3, a4, a5, a6, a7, a8, a9, a10, a11, a12⟩ := spec_cellsP (hP1.held _ hgx).1
  have HP1 := hide hP1
  have Hr1 := hide hr1
  have Hbl := hide hbl
  have Hpn := hide hpn
  obtain ⟨bs, hbs⟩ : ∃ bs, Mk.base s.x = bs := ⟨_, rfl⟩
  have hbs2 : bs ≤ 4194304 := by rw [← hbs]; unfold Mk.base; split <;> omega
  have KB : Hid (∀ W, Calls Tryz.prog 27 #[.agg #[.int .u16 (s.x.type : Nat), .int .u64 (s.x.entry : Nat), .string s.x.interp, .slice s.At s.x.text.length s.ct, .slice s.Ad s.x.data.length s.cd, .int .u64 (s.x.more : Nat), .bool s.x.dynamic, .slice s.A1 s.x.dyn.needed.length s.c1, .string s.x.dyn.soname, .string s.x.dyn.run, .slice s.A2 s.x.dyn.syms.length s.c2, .slice s.A3 s.x.dyn.relas.length s.c3, .int .i64 s.x.apart]] W fun e w' => e = .returned (.int .u64 (bs : Nat)) ∧ Below W.heap.size W w') := hide (fun W => by have h9 := pbase_any s W; rw [hbs] at h9; exact h9)
  have Hbs := hide hbs
  have hwn : IntKind.u64.wrap (nb : Int) = (nb : Int) := by rw [IntKind.wrap_u64]; omega
  clear hE hP1 hr1 hps hpn hbl KP Hh Hr g0 hbs
  go_wp2_with fail
  have hw1 : IntKind.u64.wrap ((bs : Int) + (ad : Int)) = (bs : Int) + (ad : Int) := by rw [IntKind.wrap_u64]; omega
  have hw2 : IntKind.u64.wrap ((nb : Int) + (mo : Int)) = (nb : Int) + (mo : Int) := by rw [IntKind.wrap_u64]; omega
  have hw3 : IntKind.u64.wrap (n1 : Int) = (n1 : Int) := by rw [IntKind.wrap_u64]; have := unhide Hpn; omega
  have Hw := hide (And.intro hw1 (And.intro hw2 hw3))
  go_cut [] (fun wx => ∃ (Al : Option Addr) (cl : Nat), PmS gF gl w wx A1 n1 c1 ps Al cl (rs ++ [⟨1, fl, n1, bs + ad, nb, nb + mo, 4096⟩]) H Ad nd cd ds)
  case first =>
    refine wp_region_noPanic ?_
    refine wp_region_held_drew (S := fun W => W.cell? ⟨go_, 0, none⟩ = some (.pointer (some ⟨gF, 0, none⟩)) ∧ W.cell? ⟨gF, 0, none⟩ = some (.slice A1 n1 c1) ∧ W.cell? ⟨gx, 0, none⟩ = some (.int .u16 (s.x.type : Nat)) ∧ W.cell? ⟨gx, 1, none⟩ = some (.int .u64 (s.x.entry : Nat)) ∧ W.cell? ⟨gx, 2, none⟩ = some (.string s.x.interp) ∧ W.cell? ⟨gx, 3, none⟩ = some (.slice s.At s.x.text.length s.ct) ∧ W.cell? ⟨gx, 4, none⟩ = some (.slice s.Ad s.x.data.length s.cd) ∧ W.cell? ⟨gx, 5, none⟩ = some (.int .u64 (s.x.more : Nat)) ∧ W.cell? ⟨gx, 6, none⟩ = some (.bool s.x.dynamic) ∧ W.cell? ⟨gx, 7, none⟩ = some (.slice s.A1 s.x.dyn.needed.length s.c1) ∧ W.cell? ⟨gx, 8, none⟩ = some (.string s.x.dyn.soname) ∧ W.cell? ⟨gx, 9, none⟩ = some (.string s.x.dyn.run) ∧ W.cell? ⟨gx, 10, none⟩ = some (.slice s.A2 s.x.dyn.syms.length s.c2) ∧ W.cell? ⟨gx, 11, none⟩ = some (.slice s.A3 s.x.dyn.relas.length s.c3) ∧ W.cell? ⟨gx, 12, none⟩ = some (.int .i64 s.x.apart)) (by kernel_rfl) (⟨y0, y1, a0, a1, a2, a3, a4, a5, a6, a7, a8, a9, a10, a11, a12⟩) (fun HS0 => ?_)
    refine takeD (i := 1) (d := some 18) (v := ?_) rfl rfl (by kernel_rfl) (by kernel_rfl) (by kernel_rfl) (fun _ _ _ h => h) (Or.inl ⟨by rfl, ?y1⟩) HS0 ?_
    case y1 => (intro w' hSw; (try dsimp only at hSw); go_simp; (try with_reducible rfl))
    simp only [Act.put, List.setIfInBounds_toArray, List.set_cons_zero, List.set_cons_succ]
    refine takeD (i := 2) (d := some 19) (v := ?_) rfl rfl (by kernel_rfl) (by kernel_rfl) (by kernel_rfl) (fun _ _ _ h => h) (Or.inl ⟨by rfl, ?y2⟩) HS0 ?_
    case y2 => (intro w' hSw; (try dsimp only at hSw); go_simp; (try with_reducible rfl))
    simp only [Act.put, List.setIfInBounds_toArray, List.set_cons_zero, List.set_cons_succ]
    refine takeD (i := 3) (d := some 20) (v := ?_) rfl rfl (by kernel_rfl) (by kernel_rfl) (by kernel_rfl) (fun _ _ _ h => h) (Or.inl ⟨by rfl, ?y3⟩) HS0 ?_
    case y3 => (intro w' hSw; (try dsimp only at hSw); go_simp; (try with_reducible rfl))
    simp only [Act.put, List.setIfInBounds_toArray, List.set_cons_zero, List.set_cons_succ]
    refine takeD (i := 4) (d := some 21) (v := ?_) rfl rfl (by kernel_rfl) (by kernel_rfl) (by kernel_rfl) (fun _ _ _ h => h) (Or.inl ⟨by rfl, ?y4⟩) HS0 ?_
    case y4 => (intro w' hSw; (try dsimp only at hSw); go_simp; (try with_reducible rfl))
    simp only [Act.put, List.setIfInBounds_toArray, List.set_cons_zero, List.set_cons_succ]
    refine takeD (i := 5) (d := some 22) (v := ?_) rfl rfl (by kernel_rfl) (by kernel_rfl) (by kernel_rfl) (fun _ _ _ h => h) (Or.inl ⟨by rfl, ?y5⟩) HS0 ?_
    case y5 => (intro w' hSw; (try dsimp only at hSw); go_simp; (try with_reducible rfl))
    simp only [Act.put, List.setIfInBounds_toArray, List.set_cons_zero, List.set_cons_succ]
    refine takeD (i := 6) (d := some 23) (v := ?_) rfl rfl (by kernel_rfl) (by kernel_rfl) (by kernel_rfl) (fun _ _ _ h => h) (Or.inl ⟨by rfl, ?y6⟩) HS0 ?_
    case y6 => (intro w' hSw; (try dsimp only at hSw); go_simp; (try with_reducible rfl))
    simp only [Act.put, List.setIfInBounds_toArray, List.set_cons_zero, List.set_cons_succ]
    refine takeD (i := 7) (d := some 24) (v := .int .u64 (n1 : Int)) rfl rfl (by kernel_rfl) (by kernel_rfl) (by kernel_rfl) (fun _ _ _ h => h) (Or.inl ⟨by rfl, ?y7⟩) HS0 ?_
    case y7 => (intro w' hSw; (try dsimp only at hSw); go_simp; (try rw [hw3]))
    simp only [Act.put, List.setIfInBounds_toArray, List.set_cons_zero, List.set_cons_succ]
    refine takeD (i := 8) (d := some 25) (v := ?_) rfl rfl (by kernel_rfl) (by kernel_rfl) (by kernel_rfl) (fun _ _ _ h => h) (Or.inl ⟨by rfl, ?y8⟩) HS0 ?_
    case y8 => (intro w' hSw; (try dsimp only at hSw); go_simp; (try with_reducible rfl))
    simp only [Act.put, List.setIfInBounds_toArray, List.set_cons_zero, List.set_cons_succ]
    refine takeD (i := 10) (d := some 27) (v := ?_) rfl rfl (by kernel_rfl) (by kernel_rfl) (by kernel_rfl) (fun _ _ _ h => h) (Or.inl ⟨by rfl, ?y10⟩) HS0 ?_
    case y10 => (intro w' hSw; (try dsimp only at hSw); go_simp; (try with_reducible rfl))
    simp only [Act.put, List.setIfInBounds_toArray, List.set_cons_zero, List.set_cons_succ]
    refine takeD (i := 12) (d := some 29) (v := ?_) rfl rfl (by kernel_rfl) (by kernel_rfl) (by kernel_rfl) (fun _ _ _ h => h) (Or.inl ⟨by rfl, ?y12⟩) HS0 ?_
    case y12 => (intro w' hSw; (try dsimp only at hSw); go_simp; (try with_reducible rfl))
    simp only [Act.put, List.setIfInBounds_toArray, List.set_cons_zero, List.set_cons_succ]
    refine takeD (i := 13) (d := some 30) (v := ?_) rfl rfl (by kernel_rfl) (by kernel_rfl) (by kernel_rfl) (fun _ _ _ h => h) (Or.inl ⟨by rfl, ?y13⟩) HS0 ?_
    case y13 => (intro w' hSw; (try dsimp only at hSw); go_simp; (try with_reducible rfl))
    simp only [Act.put, List.setIfInBounds_toArray, List.set_cons_zero, List.set_cons_succ]
    refine takeD (i := 14) (d := some 31) (v := ?_) rfl rfl (by kernel_rfl) (by kernel_rfl) (by kernel_rfl) (fun _ _ _ h => h) (Or.inl ⟨by rfl, ?y14⟩) HS0 ?_
    case y14 => (intro w' hSw; (try dsimp only at hSw); go_simp; (try with_reducible rfl))
    simp only [Act.put, List.setIfInBounds_toArray, List.set_cons_zero, List.set_cons_succ]
    refine takeD (i := 15) (d := some 32) (v := .int .u64 ((nb : Int) + (mo : Int))) rfl rfl (by kernel_rfl) (by kernel_rfl) (by kernel_rfl) (fun _ _ _ h => h) (Or.inl ⟨by rfl, ?y15⟩) HS0 ?_
    case y15 => (intro w' hSw; (try dsimp only at hSw); go_simp; (try rw [hw2]))
    simp only [Act.put, List.setIfInBounds_toArray, List.set_cons_zero, List.set_cons_succ]
    refine wpAnyH_ready (rs := [0, 9]) (by kernel_rfl) (by simp) ?_
    refine AllReadyH.cons (i := 0) rfl (fun K hK => ?wayL) (AllReadyH.cons (i := 9) rfl (fun K hK => ?wayN) AllReadyH.nil)
    case wayL =>
      rw [if_pos (by rfl)]
      have zl := (show w1.drew.cell? ⟨gl, 0, none⟩ = some (.slice Al rs.length cl) from (unhide HP1).lb.cell (i := 0) rfl)
      go_simp
      refine hK.out _ _ (HS0) (fun hHeld => ?_)
      clear hK K HS0
      have HS0 := hHeld
      clear hHeld
      (try simp only [Act.put, List.setIfInBounds_toArray, List.set_cons_zero, List.set_cons_succ])
      clear zl
      refine wpAnyH_ready (rs := [9]) (by kernel_rfl) (by simp) ?_
      refine AllReadyH.cons (i := 9) rfl (fun K hK => ?_) AllReadyH.nil
      rw [if_pos (by rfl)]
      go_simp
      go_at_call 27
      with_reducible refine ((unhide KB) _).mono ?_
      rintro e w7 ⟨rfl, hb7⟩
      have hP7 := (unhide HP1).calm (below_undrew1 hb7)
      refine hK.out _ _ (⟨hP7.cell hgo (i := 0) rfl, hP7.fi.cell, spec_cellsP (hP7.held _ hgx).1⟩) (fun hHeld => ?_)
      clear hK K HS0
      have HS0 := hHeld
      clear hHeld
      (try simp only [Act.put, List.setIfInBounds_toArray, List.set_cons_zero, List.set_cons_succ])
      refine takeD (i := 11) (d := some 28) (v := .int .u64 ((bs : Int) + (ad : Int))) rfl rfl (by kernel_rfl) (by kernel_rfl) (by kernel_rfl) (fun _ _ _ h => h) (Or.inl ⟨by rfl, ?y11⟩) HS0 ?_
      case y11 => (intro w' hSw; (try dsimp only at hSw); go_simp; (try rw [hw1]))
      simp only [Act.put, List.setIfInBounds_toArray, List.set_cons_zero, List.set_cons_succ]
      refine takeD (i := 16) (d := some 33) (v := ?_) rfl rfl (by kernel_rfl) (by kernel_rfl) (by kernel_rfl) (fun _ _ _ h => h) (Or.inl ⟨by rfl, ?y16⟩) HS0 ?_
      case y16 => (intro w' hSw; (try dsimp only at hSw); go_simp; (try with_reducible rfl))
      simp only [Act.put, List.setIfInBounds_toArray, List.set_cons_zero, List.set_cons_succ]
      refine wpAnyH_ready (rs := [17]) (by kernel_rfl) (by simp) ?_
      refine AllReadyH.cons (i := 17) rfl (fun K hK => ?_) AllReadyH.nil
      rw [if_pos (by rfl)]
      go_simp
      refine hK.out _ _ (⟨(hP7.calm (below_al _ _)).cell hgo (i := 0) rfl, (hP7.calm (below_al _ _)).fi.cell, spec_cellsP ((hP7.calm (below_al _ _)).held _ hgx).1⟩) (fun hHeld => ?_)
      clear hK K HS0
      have HS0 := hHeld
      clear hHeld
      (try simp only [Act.put, List.setIfInBounds_toArray, List.set_cons_zero, List.set_cons_succ])
      refine wpAnyH_ready (rs := [18]) (by kernel_rfl) (by simp) ?_
      refine AllReadyH.cons (i := 18) rfl (fun K hK => ?_) AllReadyH.nil
      rw [if_pos (by rfl)]
      refine wp_app1m mSegTy _ _ rfl w.heap.size (.slice Al rs.length cl) rs.length (rowC rs) rfl hP7.row _ _ rfl (by simp) rfl (by intro u hu; simp at hu; rcases hu with rfl | rfl | rfl | rfl | rfl | rfl | rfl <;> rfl) (by omega) hP7.size ?_
      intro A5 c5 w5 ho5 hg5 ha5
      have hP9 := hP7.push ⟨1, fl, n1, bs + ad, nb, nb + mo, 4096⟩ ho5 hg5 ha5
      have zs := (hP7.midL hg5).cell (i := 0) rfl
      have zf := (hP7.midL hg5).free 0
      show K (Act.put _ (some 35) _) _
      refine hK.out _ _ (⟨(hP7.midBlk hg5 hgo).cell (i := 0) rfl, (hP7.midF hg5).cell (i := 0) rfl, spec_cellsP (hP7.midBlk hg5 hgx)⟩) (fun hHeld => ?_)
      clear hK K HS0
      have HS0 := hHeld
      clear hHeld
      (try simp only [Act.put, List.setIfInBounds_toArray, List.set_cons_zero, List.set_cons_succ])
      refine wpAnyH_ready (rs := [19]) (by kernel_rfl) (by simp) ?_
      refine AllReadyH.cons (i := 19) rfl (fun K hK => ?_) AllReadyH.nil
      rw [if_pos (by rfl)]
      go_simp
      refine hK.out _ _ (⟨hP9.cell hgo (i := 0) rfl, hP9.fi.cell, spec_cellsP (hP9.held _ hgx).1⟩) (fun hHeld => ?_)
      clear hK K HS0
      have HS0 := hHeld
      clear hHeld
      (try simp only [Act.put, List.setIfInBounds_toArray, List.set_cons_zero, List.set_cons_succ])
      refine wpAnyH_done (by kernel_rfl) ?_ _
      refine NoPanic.normal ?_
      go_wp2_with fail
      go_meet
      case rel => exact ⟨A5, c5, hP9⟩
    case wayN =>
      rw [if_pos (by rfl)]
      go_simp
      go_at_call 27
      with_reducible refine ((unhide KB) _).mono ?_
      rintro e w7 ⟨rfl, hb7⟩
      have hP7 := (unhide HP1).calm (below_undrew1 hb7)
      refine hK.out _ _ (⟨hP7.cell hgo (i := 0) rfl, hP7.fi.cell, spec_cellsP (hP7.held _ hgx).1⟩) (fun hHeld => ?_)
      clear hK K HS0
      have HS0 := hHeld
      clear hHeld
      (try simp only [Act.put, List.setIfInBounds_toArray, List.set_cons_zero, List.set_cons_succ])
      refine takeD (i := 11) (d := some 28) (v := .int .u64 ((bs : Int) + (ad : Int))) rfl rfl (by kernel_rfl) (by kernel_rfl) (by kernel_rfl) (fun _ _ _ h => h) (Or.inl ⟨by rfl, ?y11⟩) HS0 ?_
      case y11 => (intro w' hSw; (try dsimp only at hSw); go_simp; (try rw [hw1]))
      simp only [Act.put, List.setIfInBounds_toArray, List.set_cons_zero, List.set_cons_succ]
      refine takeD (i := 16) (d := some 33) (v := ?_) rfl rfl (by kernel_rfl) (by kernel_rfl) (by kernel_rfl) (fun _ _ _ h => h) (Or.inl ⟨by rfl, ?y16⟩) HS0 ?_
      case y16 => (intro w' hSw; (try dsimp only at hSw); go_simp; (try with_reducible rfl))
      simp only [Act.put, List.setIfInBounds_toArray, List.set_cons_zero, List.set_cons_succ]
      refine wpAnyH_ready (rs := [0, 17]) (by kernel_rfl) (by simp) ?_
      refine AllReadyH.cons (i := 0) rfl (fun K hK => ?wayL) (AllReadyH.cons (i := 17) rfl (fun K hK => ?wayN) AllReadyH.nil)
      case wayL =>
        rw [if_pos (by rfl)]
        have zl := hP7.lb.cell (i := 0) rfl
        go_simp
        refine hK.out _ _ (HS0) (fun hHeld => ?_)
        clear hK K HS0
        have HS0 := hHeld
        clear hHeld
        (try simp only [Act.put, List.setIfInBounds_toArray, List.set_cons_zero, List.set_cons_succ])
        clear zl
        refine wpAnyH_ready (rs := [17]) (by kernel_rfl) (by simp) ?_
        refine AllReadyH.cons (i := 17) rfl (fun K hK => ?_) AllReadyH.nil
        rw [if_pos (by rfl)]
        go_simp
        refine hK.out _ _ (⟨(hP7.calm (below_al _ _)).cell hgo (i := 0) rfl, (hP7.calm (below_al _ _)).fi.cell, spec_cellsP ((hP7.calm (below_al _ _)).held _ hgx).1⟩) (fun hHeld => ?_)
        clear hK K HS0
        have HS0 := hHeld
        clear hHeld
        (try simp only [Act.put, List.setIfInBounds_toArray, List.set_cons_zero, List.set_cons_succ])
        refine wpAnyH_ready (rs := [18]) (by kernel_rfl) (by simp) ?_
        refine AllReadyH.cons (i := 18) rfl (fun K hK => ?_) AllReadyH.nil
        rw [if_pos (by rfl)]
        refine wp_app1m mSegTy _ _ rfl w.heap.size (.slice Al rs.length cl) rs.length (rowC rs) rfl hP7.row _ _ rfl (by simp) rfl (by intro u hu; simp at hu; rcases hu with rfl | rfl | rfl | rfl | rfl | rfl | rfl <;> rfl) (by omega) hP7.size ?_
        intro A5 c5 w5 ho5 hg5 ha5
        have hP9 := hP7.push ⟨1, fl, n1, bs + ad, nb, nb + mo, 4096⟩ ho5 hg5 ha5
        have zs := (hP7.midL hg5).cell (i := 0) rfl
        have zf := (hP7.midL hg5).free 0
        show K (Act.put _ (some 35) _) _
        refine hK.out _ _ (⟨(hP7.midBlk hg5 hgo).cell (i := 0) rfl, (hP7.midF hg5).cell (i := 0) rfl, spec_cellsP (hP7.midBlk hg5 hgx)⟩) (fun hHeld => ?_)
        clear hK K HS0
        have HS0 := hHeld
        clear hHeld
        (try simp only [Act.put, List.setIfInBounds_toArray, List.set_cons_zero, List.set_cons_succ])
        refine wpAnyH_ready (rs := [19]) (by kernel_rfl) (by simp) ?_
        refine AllReadyH.cons (i := 19) rfl (fun K hK => ?_) AllReadyH.nil
        rw [if_pos (by rfl)]
        go_simp
        refine hK.out _ _ (⟨hP9.cell hgo (i := 0) rfl, hP9.fi.cell, spec_cellsP (hP9.held _ hgx).1⟩) (fun hHeld => ?_)
        clear hK K HS0
        have HS0 := hHeld
        clear hHeld
        (try simp only [Act.put, List.setIfInBounds_toArray, List.set_cons_zero, List.set_cons_succ])
        refine wpAnyH_done (by kernel_rfl) ?_ _
        refine NoPanic.normal ?_
        go_wp2_with fail
        go_meet
        case rel => exact ⟨A5, c5, hP9⟩
      case wayN =>
        rw [if_pos (by rfl)]
        go_simp
        refine hK.out _ _ (⟨(hP7.calm (below_al _ _)).cell hgo (i := 0) rfl, (hP7.calm (below_al _ _)).fi.cell, spec_cellsP ((hP7.calm (below_al _ _)).held _ hgx).1⟩) (fun hHeld => ?_)
        clear hK K HS0
        have HS0 := hHeld
        clear hHeld
        (try simp only [Act.put, List.setIfInBounds_toArray, List.set_cons_zero, List.set_cons_succ])
        refine wpAnyH_ready (rs := [0]) (by kernel_rfl) (by simp) ?_
        refine AllReadyH.cons (i := 0) rfl (fun K hK => ?_) AllReadyH.nil
        rw [if_pos (by rfl)]
        have zl := fun c => (hP7.calm (below_al w7 c)).lb.cell (i := 0) rfl
        go_simp
        refine hK.out _ _ (HS0) (fun hHeld => ?_)
        clear hK K HS0
        have HS0 := hHeld
        clear hHeld
        (try simp only [Act.put, List.setIfInBounds_toArray, List.set_cons_zero, List.set_cons_succ])
        clear zl
        refine wpAnyH_ready (rs := [18]) (by kernel_rfl) (by simp) ?_
        refine AllReadyH.cons (i := 18) rfl (fun K hK => ?_) AllReadyH.nil
        rw [if_pos (by rfl)]
        refine wp_app1m mSegTy _ _ rfl w.heap.size (.slice Al rs.length cl) rs.length (rowC rs) rfl hP7.row _ _ rfl (by simp) rfl (by intro u hu; simp at hu; rcases hu with rfl | rfl | rfl | rfl | rfl | rfl | rfl <;> rfl) (by omega) hP7.size ?_
        intro A5 c5 w5 ho5 hg5 ha5
        have hP9 := hP7.push ⟨1, fl, n1, bs + ad, nb, nb + mo, 4096⟩ ho5 hg5 ha5
        have zs := (hP7.midL hg5).cell (i := 0) rfl
        have zf := (hP7.midL hg5).free 0
        show K (Act.put _ (some 35) _) _
        refine hK.out _ _ (⟨(hP7.midBlk hg5 hgo).cell (i := 0) rfl, (hP7.midF hg5).cell (i := 0) rfl, spec_cellsP (hP7.midBlk hg5 hgx)⟩) (fun hHeld => ?_)
        clear hK K HS0
        have HS0 := hHeld
        clear hHeld
        (try simp only [Act.put, List.setIfInBounds_toArray, List.set_cons_zero, List.set_cons_succ])
        refine wpAnyH_ready (rs := [19]) (by kernel_rfl) (by simp) ?_
        refine AllReadyH.cons (i := 19) rfl (fun K hK => ?_) AllReadyH.nil
        rw [if_pos (by rfl)]
        go_simp
        refine hK.out _ _ (⟨hP9.cell hgo (i := 0) rfl, hP9.fi.cell, spec_cellsP (hP9.held _ hgx).1⟩) (fun hHeld => ?_)
        clear hK K HS0
        have HS0 := hHeld
        clear hHeld
        (try simp only [Act.put, List.setIfInBounds_toArray, List.set_cons_zero, List.set_cons_succ])
        refine wpAnyH_done (by kernel_rfl) ?_ _
        refine NoPanic.normal ?_
        go_wp2_with fail
        go_meet
        case rel => exact ⟨A5, c5, hP9⟩
  case rest =>
    obtain ⟨Al5, cl5, hP5⟩ := hcut
    have y0 := hP5.cell hgo (i := 0) rfl
    have y2 : wc.drew.cell? ⟨gF, 0, none⟩ = some (.slice A1 n1 c1) := hP5.fi.cell
    have hPd := hP5.calm (below_drew' (Below.refl _ _))
    have hr5 : Rd wc.drew B 1 Ab nb (bys b) := hr0.below (hPd.below.mono hB)
    have hnn := unhide Hpn
    have HP5 := hide hP5
    have HPd := hide hPd
    have Hr5 := hide hr5
    have hpb := hPd.size
    clear hP5 hPd hr5 HP1 Hw hw1 hw2 hw3 hwn KB y1 a0 a1 a2 a3 a4 a5 a6 a7 a8 a9 a10 a11 a12 Hr1
    go_wp2_with fail
    refine wp_region_noPanic ?_
    refine wp_region_held_drew (S := fun W => W.cell? ⟨go_, 0, none⟩ = some (.pointer (some ⟨gF, 0, none⟩))) (by kernel_rfl) (y0) (fun HS0 => ?_)
    refine takeD (i := 0) (d := some 36) (v := ?_) rfl rfl (by kernel_rfl) (by kernel_rfl) (by kernel_rfl) (fun _ _ _ h => h) (Or.inl ⟨by rfl, ?y0⟩) HS0 ?_
    case y0 => (intro w' hSw; (try dsimp only at hSw); go_simp; (try with_reducible rfl))
    simp only [Act.put, List.setIfInBounds_toArray, List.set_cons_zero, List.set_cons_succ]
    refine takeD (i := 1) (d := some 37) (v := ?_) rfl rfl (by kernel_rfl) (by kernel_rfl) (by kernel_rfl) (fun _ _ _ h => h) (Or.inl ⟨by rfl, ?y1⟩) HS0 ?_
    case y1 => (intro w' hSw; (try dsimp only at hSw); go_simp; (try with_reducible rfl))
    simp only [Act.put, List.setIfInBounds_toArray, List.set_cons_zero, List.set_cons_succ]
    refine takeD (i := 2) (d := some 38) (v := ?_) rfl rfl (by kernel_rfl) (by kernel_rfl) (by kernel_rfl) (fun _ _ _ h => h) (Or.inl ⟨by rfl, ?y2⟩) HS0 ?_
    case y2 => (intro w' hSw; (try dsimp only at hSw); go_simp; (try with_reducible rfl))
    simp only [Act.put, List.setIfInBounds_toArray, List.set_cons_zero, List.set_cons_succ]
    refine takeD (i := 3) (d := some 39) (v := ?_) rfl rfl (by kernel_rfl) (by kernel_rfl) (by kernel_rfl) (fun _ _ _ h => h) (Or.inl ⟨by rfl, ?y3⟩) HS0 ?_
    case y3 => (intro w' hSw; (try dsimp only at hSw); go_simp; (try with_reducible rfl))
    simp only [Act.put, List.setIfInBounds_toArray, List.set_cons_zero, List.set_cons_succ]
    refine takeD (i := 5) (d := some 41) (v := ?_) rfl rfl (by kernel_rfl) (by kernel_rfl) (by kernel_rfl) (fun _ _ _ h => h) (Or.inl ⟨by rfl, ?y5⟩) HS0 ?_
    case y5 => (intro w' hSw; (try dsimp only at hSw); go_simp; (try with_reducible rfl))
    simp only [Act.put, List.setIfInBounds_toArray, List.set_cons_zero, List.set_cons_succ]
    refine wpAnyH_ready (rs := [4]) (by kernel_rfl) (by simp) ?_
    refine AllReadyH.cons (i := 4) rfl (fun K hK => ?_) AllReadyH.nil
    rw [if_pos (by rfl)]
    go_simp
    refine hK.out _ _ (HS0) (fun hHeld => ?_)
    clear hK K HS0
    have HS0 := hHeld
    clear hHeld
    (try simp only [Act.put, List.setIfInBounds_toArray, List.set_cons_zero, List.set_cons_succ])
    refine wpAnyH_ready (rs := [6]) (by kernel_rfl) (by simp) ?_
    refine AllReadyH.cons (i := 6) rfl (fun K hK => ?_) AllReadyH.nil
    rw [if_pos (by rfl)]
    refine wp_app byteTy _ _ rfl w.heap.size (.slice A1 n1 c1) n1 (bys ps) rfl (unhide HPd).fi.row B Ab nb cb (bys b) rfl (unhide Hr5) (bys_one _) (by omega) hpb fun v6 w6 h62 h63 h64 => ?_
    obtain ⟨A6, c6, rfl⟩ := own_form h62
    have hG : Grew wc.drew w6 w.heap.size (.slice A1 n1 c1) (.slice A6 (n1 + nb) c6) (n1 + nb) (ps ++ b) := ⟨by rw [bys_app]; exact h62, h63, h64⟩
    obtain ⟨hb6, hE6⟩ := (unhide HPd).fi.app hG
    have zs := hb6.cell (i := 0) rfl
    have zf := hb6.free 0
    have hP6 := (unhide HPd).front hE6
    have yg : w6.cell? ⟨go_, 0, none⟩ = some (.pointer (some ⟨gF, 0, none⟩)) := (cell_blk (hG.kept.block go_ ((unhide HPd).held _ hgo).1.lt (fun e => ((unhide HPd).held _ hgo).2.2.2.1 (by rw [own_bk] at e; exact e.symm))) 0).trans y0
    refine hK.out _ _ (yg) (fun hHeld => ?_)
    clear hK K HS0
    have HS0 := hHeld
    clear hHeld
    (try simp only [Act.put, List.setIfInBounds_toArray, List.set_cons_zero, List.set_cons_succ])
    refine takeD (i := 7) (d := some 43) (v := ?_) rfl rfl (by kernel_rfl) (by kernel_rfl) (by kernel_rfl) (fun _ _ _ h => h) (Or.inl ⟨by rfl, ?y7⟩) HS0 ?_
    case y7 => (intro w' hSw; (try dsimp only at hSw); go_simp; (try with_reducible rfl))
    simp only [Act.put, List.setIfInBounds_toArray, List.set_cons_zero, List.set_cons_succ]
    refine takeD (i := 8) (d := some 44) (v := ?_) rfl rfl (by kernel_rfl) (by kernel_rfl) (by kernel_rfl) (fun _ _ _ h => h) (Or.inl ⟨by rfl, ?y8⟩) HS0 ?_
    case y8 => (intro w' hSw; (try dsimp only at hSw); go_simp; (try with_reducible rfl))
    simp only [Act.put, List.setIfInBounds_toArray, List.set_cons_zero, List.set_cons_succ]
    refine wpAnyH_ready (rs := [9]) (by kernel_rfl) (by simp) ?_
    refine AllReadyH.cons (i := 9) rfl (fun K hK => ?_) AllReadyH.nil
    rw [if_pos (by rfl)]
    go_simp
    refine hK.out _ _ (hP6.cell hgo (i := 0) rfl) (fun hHeld => ?_)
    clear hK K HS0
    have HS0 := hHeld
    clear hHeld
    (try simp only [Act.put, List.setIfInBounds_toArray, List.set_cons_zero, List.set_cons_succ])
    refine wpAnyH_done (by kernel_rfl) ?_ _
    refine NoPanic.normal ?_
    go_wp2_with fail
    go_end0
    refine ⟨rfl, A6, n1 + nb, c6, Al5, cl5, ?_⟩
    rw [unhide Hps, unhide Hpn, unhide Hbl, unhide Hbs]
    exact hP6
end Go.Proofs.YtnbecdahfgkffaaGreat
namespace Go.Proofs.YtnbecdahfgkffaaGreat
open Go.RowKit
set_option maxRecDepth 100000 in
set_option maxHeartbeats 60000000 in
theorem pmakeD (s : Xq) (gO gl go_ gx nf cf cl nd cd : Nat) (Af Al Ad : Option Addr) (rs ds : List Mk.Row) (H : List (Nat × TypeId × List Value)) (w wc : World)
    (h : PmS gO gl w wc Af nf cf (Mk.out2 s.x) Al cl rs H Ad nd cd ds) (hgo : (go_, 69, [.pointer (some ⟨gO, 0, none⟩)]) ∈ H) (hgx : (gx, 66, s.l) ∈ H) (hrs : rs ++ ds = Mk.rows s.x)
    (hmay : Mk.may s.x = 0) (hfr : (Mk.front2 s.x).length ≤ 65536) (hf : MkFit s) (hm : MayOk s.x)
    (u0 u1 u2 u3 u5 u6 u7 u8 u9 u11 u12 u14 u15 u17 u18 u19 u20 u21 u22 u23 u24 u25 u26 u27 u28 u29 u30 u31 u32 u33 u34 u35 u36 u37 u38 u39 u40 u41 u42 u43 u44 u45 u46 u47 u48 u49 u50 u51 u52 u53 u54 u55 u56 u57 u58 u59 u60 u61 u62 u63 u64 u65 u66 u67 u68 u69 u70 u71 u72 u73 u74 u75 u76 u77 u78 u79 u80 u81 u82 u83 u84 u85 u86 u87 u88 u89 u90 u91 u92 u93 u94 u95 u96 u97 u98 u99 u100 u101 u102 u103 u104 u105 u106 u107 u108 u109 u110 u111 u112 u113 u114 u115 u116 u117 u118 u119 u120 u121 u122 u123 u124 u125 u126 u127 u128 u129 u130 u131 u132 u133 u134 u135 u136 u137 u138 u139 u140 u141 u142 u143 u144 u145 u146 u147 u148 u149 u150 u151 u152 u153 u154 u155 u156 u157 u158 u159 u160 u161 u162 u163 u164 u165 u166 u167 u168 : Value) :
    (dropC 18 (Tryz.f9.body.getD .skip)).wp Tryz.prog (bodyPost Tryz.prog Tryz.f9 (MkE s.x w)) ⟨#[u0, u1, u2, u3, .pointer (some ⟨gx, 0, none⟩), u5, u6, u7, u8, u9, .pointer (some ⟨gl, 0, none⟩), u11, u12, .slice Ad nd cd, u14, u15, .pointer (some ⟨go_, 0, none⟩), u17, u18, u19, u20, u21, u22, u23, u24, u25, u26, u27, u28, u29, u30, u31, u32, u33, u34, u35, u36, u37, u38, u39, u40, u41, u42, u43, u44, u45, u46, u47, u48, u49, u50, u51, u52, u53, u54, u55, u56, u57, u58, u59, u60, u61, u62, u63, u64, u65, u66, u67, u68, u69, u70, u71, u72, u73, u74, u75, u76, u77, u78, u79, u80, u81, u82, u83, u84, u85, u86, u87, u88, u89, u90, u91, u92, u93, u94, u95, u96, u97, u98, u99, u100, u101, u102, u103, u104, u105, u106, u107, u108, u109, u110, u111, u112, u113, u114, u115, u116, u117, u118, u119, u120, u121, u122, u123, u124, u125, u126, u127, u128, u129, u130, u131, u132, u133, u134, u135, u136, u137, u138, u139, u140, u141, u142, u143, u144, u145, u146, u147, u148, u149, u150, u151, u152, u153, u154, u155, u156, u157, u158, u159, u160, u161, u162, u163, u164, u165, u166, u167, u168], []⟩ wc := by
  conv => arg 2; whnf
  have hmany := many_ge s.x
  have hrl := rows_len s.x
  have hlen : rs.length + ds.length = Mk.many s.x := by rw [← hrl, ← hrs, List.length_append]
  have hnd : ds.length = nd := by have h9 := h.dyn.1; have h8 : (rowC ds).length = 7 * ds.length := rowC_len ds; omega
  have hn6 : rs.length + nd ≤ 6 := by omega
  have hnf := h.fi.len
  have y0 := h.cell hgo (i := 0) rfl
  have y1 := h.fi.cell
  have y2 := h.lb.cell (i := 0) rfl
  obtain ⟨a0, a1, a2, a3, a4, a5, a6, a7, a8, a9, a10, a11, a12⟩ := spec_cellsP (h.held _ hgx).1
  have hmn : 64 + 56 * Mk.many s.x ≤ nf := by
    have h1 := front0_len s.x
    have h2 := (front1_len s.x).1
    have h3 := front2_len s.x
    have h4 := out1_ge s.x
    have h5 := out2_ge s.x
    omega
  have hmake : Mk.make s.x = if 65536 < nf then ([], 12) else (Mk.file s.x, 0) := by
    unfold Mk.make
    rw [if_neg (by rw [hmay]; decide), hnf]
    by_cases e : 65536 < nf
    · rw [if_pos (Or.inr e), if_pos e]
    · rw [if_neg (by omega), if_neg e]
  have hrok := rows_ok s.x 102000000 (by omega) (by omega) (by have h1 := text_up s.x; omega) (by have h1 := text_up s.x; have h2 := data_up s.x; have := hm.text; omega) (by have := hm.text; omega) (by have := hf.data; omega) (by have := hm.more; omega) (by have := hf.interp; omega) (by have := room_le s.x hm.n1; omega)
  have hty := hf.ok.type
  have hen := hf.ok.entry
  have Hh := hide h
  have Hrs := hide hrs
  have Hrok := hide hrok
  have Hmk := hide hmake
  have Hnf := hide hnf
  have Hnd := hide hnd
  have Hhl := hide (head_len s.x (Mk.rows s.x))
  have Hrl := hide hrl
  clear h hrs hrok hmake hfr hmay hf hm hnf hnd hrl
  by_cases hbig : 65536 < nf
  · have hbi : (65536 : Int) < (nf : Int) := by omega
    have Hm2 : Hid (Mk.make s.x = ([], 12)) := hide (by rw [unhide Hmk, if_pos hbig])
    clear hbig
    go_wp2_with fail
    go_ret2
    refine ⟨(unhide Hh).below, none, 0, 0, ?_, ?_⟩
    · rw [unhide Hm2]; rfl
    · rw [unhide Hm2]; exact World.ownsRow_nil _ _ _ _
  have hbi : ¬ (65536 : Int) < (nf : Int) := by omega
  have Hm2 : Hid (Mk.make s.x = (Mk.file s.x, 0)) := hide (by rw [unhide Hmk, if_neg hbig])
  obtain ⟨kf, hkf, -, hkf2⟩ := own_some (unhide Hh).fi.row (by omega)
  subst hkf
  have hPd := (unhide Hh).calm (below_drew' (Below.refl _ _))
  have HPd := hide hPd
  have hpds := hPd.size
  clear hPd Hmk hbig
  go_wp2_with fail
  refine wp_region_noPanic ?_
  refine wp_region_held_drew (S := fun W => W.cell? ⟨go_, 0, none⟩ = some (.pointer (some ⟨gO, 0, none⟩)) ∧ W.cell? ⟨gO, 0, none⟩ = some (.slice (some ⟨kf, 0, none⟩) nf cf) ∧ W.cell? ⟨gl, 0, none⟩ = some (.slice Al rs.length cl) ∧ W.cell? ⟨gx, 0, none⟩ = some (.int .u16 (s.x.type : Nat)) ∧ W.cell? ⟨gx, 1, none⟩ = some (.int .u64 (s.x.entry : Nat)) ∧ W.cell? ⟨gx, 2, none⟩ = some (.string s.x.interp) ∧ W.cell? ⟨gx, 3, none⟩ = some (.slice s.At s.x.text.length s.ct) ∧ W.cell? ⟨gx, 4, none⟩ = some (.slice s.Ad s.x.data.length s.cd) ∧ W.cell? ⟨gx, 5, none⟩ = some (.int .u64 (s.x.more : Nat)) ∧ W.cell? ⟨gx, 6, none⟩ = some (.bool s.x.dynamic) ∧ W.cell? ⟨gx, 7, none⟩ = some (.slice s.A1 s.x.dyn.needed.length s.c1) ∧ W.cell? ⟨gx, 8, none⟩ = some (.string s.x.dyn.soname) ∧ W.cell? ⟨gx, 9, none⟩ = some (.string s.x.dyn.run) ∧ W.cell? ⟨gx, 10, none⟩ = some (.slice s.A2 s.x.dyn.syms.length s.c2) ∧ W.cell? ⟨gx, 11, none⟩ = some (.slice s.A3 s.x.dyn.relas.length s.c3) ∧ W.cell? ⟨gx, 12, none⟩ = some (.int .i64 s.x.apart)) (by kernel_rfl) (⟨y0, y1, y2, a0, a1, a2, a3, a4, a5, a6, a7, a8, a9, a10, a11, a12⟩) (fun HS0 => ?_)
  refine takeD (i := 0) (d := some 155) (v := ?_) rfl rfl (by kernel_rfl) (by kernel_rfl) (by kernel_rfl) (fun _ _ _ h => h) (Or.inl ⟨by rfl, ?y0⟩) HS0 ?_
  case y0 => (intro w' hSw; (try dsimp only at hSw); go_simp; (try with_reducible rfl))
  simp only [Act.put, List.setIfInBounds_toArray, List.set_cons_zero, List.set_cons_succ]
  refine takeD (i := 1) (d := some 156) (v := ?_) rfl rfl (by kernel_rfl) (by kernel_rfl) (by kernel_rfl) (fun _ _ _ h => h) (Or.inl ⟨by rfl, ?y1⟩) HS0 ?_
  case y1 => (intro w' hSw; (try dsimp only at hSw); go_simp; (try with_reducible rfl))
  simp only [Act.put, List.setIfInBounds_toArray, List.set_cons_zero, List.set_cons_succ]
  refine takeD (i := 2) (d := some 157) (v := ?_) rfl rfl (by kernel_rfl) (by kernel_rfl) (by kernel_rfl) (fun _ _ _ h => h) (Or.inl ⟨by rfl, ?y2⟩) HS0 ?_
  case y2 => (intro w' hSw; (try dsimp only at hSw); go_simp; (try with_reducible rfl))
  simp only [Act.put, List.setIfInBounds_toArray, List.set_cons_zero, List.set_cons_succ]
  refine takeD (i := 3) (d := some 158) (v := ?_) rfl rfl (by kernel_rfl) (by kernel_rfl) (by kernel_rfl) (fun _ _ _ h => h) (Or.inl ⟨by rfl, ?y3⟩) HS0 ?_
  case y3 => (intro w' hSw; (try dsimp only at hSw); go_simp; (try with_reducible rfl))
  simp only [Act.put, List.setIfInBounds_toArray, List.set_cons_zero, List.set_cons_succ]
  refine takeD (i := 4) (d := some 159) (v := ?_) rfl rfl (by kernel_rfl) (by kernel_rfl) (by kernel_rfl) (fun _ _ _ h => h) (Or.inl ⟨by rfl, ?y4⟩) HS0 ?_
  case y4 => (intro w' hSw; (try dsimp only at hSw); go_simp; (try with_reducible rfl))
  simp only [Act.put, List.setIfInBounds_toArray, List.set_cons_zero, List.set_cons_succ]
  refine takeD (i := 5) (d := some 160) (v := ?_) rfl rfl (by kernel_rfl) (by kernel_rfl) (by kernel_rfl) (fun _ _ _ h => h) (Or.inl ⟨by rfl, ?y5⟩) HS0 ?_
  case y5 => (intro w' hSw; (try dsimp only at hSw); go_simp; (try with_reducible rfl))
  simp only [Act.put, List.setIfInBounds_toArray, List.set_cons_zero, List.set_cons_succ]
  refine takeD (i := 6) (d := some 161) (v := ?_) rfl rfl (by kernel_rfl) (by kernel_rfl) (by kernel_rfl) (fun _ _ _ h => h) (Or.inl ⟨by rfl, ?y6⟩) HS0 ?_
  case y6 => (intro w' hSw; (try dsimp only at hSw); go_simp; (try with_reducible rfl))
  simp only [Act.put, List.setIfInBounds_toArray, List.set_cons_zero, List.set_cons_succ]
  refine wpAnyH_ready (rs := [7]) (by kernel_rfl) (by simp) ?_
  refine AllReadyH.cons (i := 7) rfl (fun K hK => ?_) AllReadyH.nil
  rw [if_pos (by rfl)]
  refine wp_app mSegTy _ _ rfl w.heap.size (.slice Al rs.length cl) rs.length (rowC rs) rfl (unhide HPd).row _ Ad nd cd (rowC ds) rfl (Rd.of_own (unhide HPd).dyn) (rowC_one ds) (by omega) hpds fun v6 w6 h62 h63 h64 => ?_
  obtain ⟨A6, c6, rfl⟩ := own_form h62
  have hL6 := (unhide HPd).midL h63
  have hF6 := (unhide HPd).midF h63
  have hx6 := (unhide HPd).midBlk h63 hgx
  have ho6 := (unhide HPd).midBlk h63 hgo
  have hfr6 := (unhide HPd).midRow h63
  have hb6 := (unhide HPd).below.grown (by rw [own_bk] at h63; exact h63) hpds (fun k hk => (own_bklt (unhide HPd).row k hk).1)
  refine hK.out _ _ (⟨ho6.cell (i := 0) rfl, hF6.cell (i := 0) rfl, hL6.cell (i := 0) rfl, spec_cellsP hx6⟩) (fun hHeld => ?_)
  clear hK K HS0
  have HS0 := hHeld
  clear hHeld
  (try simp only [Act.put, List.setIfInBounds_toArray, List.set_cons_zero, List.set_cons_succ])
  refine wpAnyH_ready (rs := [8]) (by kernel_rfl) (by simp) ?_
  refine AllReadyH.cons (i := 8) rfl (fun K hK => ?_) AllReadyH.nil
  rw [if_pos (by rfl)]
  have hR6 : Rd w6 w6.heap.size 7 A6 (rs.length + nd) (rowC (Mk.rows s.x)) := by have h9 := Rd.of_own h62; rw [← rowC_app, unhide Hrs] at h9; exact h9
  have KH := hide (phead_any s A6 (rs.length + nd) c6 w6.heap.size (Mk.rows s.x) w6 (Nat.le_refl _) (by rw [unhide Hrl]; have := unhide Hnd; omega) (by have := unhide Hnd; omega) hR6 (unhide Hrok) hty hen)
  go_simp
  go_at_call 32
  refine (unhide KH).mono ?_
  rintro e w7 ⟨A7, c7, rfl, hoh, hb7⟩
  have hL7 := hL6.belowSz hb7
  have hF7 := hF6.belowSz hb7
  have hx7 := hx6.belowSz hb7
  have ho7 := ho6.belowSz hb7
  have hfr7 := own_below hfr6 hb7
  have hbw7 := hb6.trans (hb7.mono hb6.size)
  have hbl6 := (own_bklt hfr6 kf rfl).2
  have hbh := own_bklt hoh
  refine hK.out _ _ (⟨ho7.cell (i := 0) rfl, hF7.cell (i := 0) rfl, hL7.cell (i := 0) rfl, spec_cellsP hx7⟩) (fun hHeld => ?_)
  clear hK K HS0
  have HS0 := hHeld
  clear hHeld
  (try simp only [Act.put, List.setIfInBounds_toArray, List.set_cons_zero, List.set_cons_succ])
  refine wpAnyH_ready (rs := [9]) (by kernel_rfl) (by simp) ?_
  refine AllReadyH.cons (i := 9) rfl (fun K hK => ?_) AllReadyH.nil
  rw [if_pos (by rfl)]
  obtain ⟨kh, hkh, -, hkh2⟩ := own_some hoh (by omega)
  subst hkh
  refine wp_copyB (.tmp 158) (.tmp 163) rfl kf 0 nf cf w.heap.size nf cf _ _ rfl hfr7 kh 0 (64 + 56 * (rs.length + nd)) c7 _ rfl (Rd.of_own hoh) (by have := unhide Hnd; omega) (by have := unhide Hnd; omega) ?_
  rintro w9 ho9 ⟨cs, rfl⟩
  show K (Act.put _ (some 164) _) _
  have q1 := (unhide HPd).kne hgo
  have q2 := (unhide HPd).kne hgx
  have q3 : gO ≠ kf := fun e => (unhide HPd).fi.ne (by rw [e]; rfl)
  have q4 : gl ≠ kf := fun e => (unhide HPd).d2 (by rw [e]; rfl)
  have z0 := (cell_blk (setRow_other w7 kf go_ cs (fun e => q1 (by rw [e]; rfl))) 0).trans (ho7.cell (i := 0) rfl)
  have z1 := (cell_blk (setRow_other w7 kf gO cs q3) 0).trans (hF7.cell (i := 0) rfl)
  refine hK.out _ _ (⟨z0, z1, (cell_blk (setRow_other w7 kf gl cs q4) 0).trans (hL7.cell (i := 0) rfl), (cell_blk (setRow_other w7 kf gx cs (fun e => q2 (by rw [e]; rfl))) 0).trans (hx7.cell (i := 0) rfl), (cell_blk (setRow_other w7 kf gx cs (fun e => q2 (by rw [e]; rfl))) 1).trans (hx7.cell (i := 1) rfl), (cell_blk (setRow_other w7 kf gx cs (fun e => q2 (by rw [e]; rfl))) 2).trans (hx7.cell (i := 2) rfl), (cell_blk (setRow_other w7 kf gx cs (fun e => q2 (by rw [e]; rfl))) 3).trans (hx7.cell (i := 3) rfl), (cell_blk (setRow_other w7 kf gx cs (fun e => q2 (by rw [e]; rfl))) 4).trans (hx7.cell (i := 4) rfl), (cell_blk (setRow_other w7 kf gx cs (fun e => q2 (by rw [e]; rfl))) 5).trans (hx7.cell (i := 5) rfl), (cell_blk (setRow_other w7 kf gx cs (fun e => q2 (by rw [e]; rfl))) 6).trans (hx7.cell (i := 6) rfl), (cell_blk (setRow_other w7 kf gx cs (fun e => q2 (by rw [e]; rfl))) 7).trans (hx7.cell (i := 7) rfl), (cell_blk (setRow_other w7 kf gx cs (fun e => q2 (by rw [e]; rfl))) 8).trans (hx7.cell (i := 8) rfl), (cell_blk (setRow_other w7 kf gx cs (fun e => q2 (by rw [e]; rfl))) 9).trans (hx7.cell (i := 9) rfl), (cell_blk (setRow_other w7 kf gx cs (fun e => q2 (by rw [e]; rfl))) 10).trans (hx7.cell (i := 10) rfl), (cell_blk (setRow_other w7 kf gx cs (fun e => q2 (by rw [e]; rfl))) 11).trans (hx7.cell (i := 11) rfl), (cell_blk (setRow_other w7 kf gx cs (fun e => q2 (by rw [e]; rfl))) 12).trans (hx7.cell (i := 12) rfl)⟩) (fun hHeld => ?_)
  clear hK K HS0
  have HS0 := hHeld
  clear hHeld
  (try simp only [Act.put, List.setIfInBounds_toArray, List.set_cons_zero, List.set_cons_succ])
  refine wpAnyH_done (by kernel_rfl) ?_ _
  refine NoPanic.normal ?_
  clear HS0 y0 y1 y2 a0 a1 a2 a3 a4 a5 a6 a7 a8 a9 a10 a11 a12 KH
  go_wp2_with fail
  go_ret2
  refine ⟨below_setRow hbw7 (own_bklt hfr7 kf rfl).1 cs, some ⟨kf, 0, none⟩, nf, cf, ?_, ?_⟩
  · rw [unhide Hm2]; rfl
  · rw [unhide Hm2]; exact ho9
end Go.Proofs.YtnbecdahfgkffaaGreat
namespace Go.Proofs.YtnbecdahfgkffaaGreat
open Go.RowKit
set_option maxRecDepth 100000 in
set_option maxHeartbeats 60000000 in
theorem pmakeC (s : Xq) (gF gl gx nf cf cl nd cd B : Nat) (Af Al Ad : Option Addr) (rs ds : List Mk.Row) (H : List (Nat × TypeId × List Value)) (w wc : World) (hB : B ≤ w.heap.size) (hx : XqM w B s)
    (h : PmS gF gl w wc Af nf cf (Mk.front2 s.x) Al cl rs H Ad nd cd ds) (hgx : (gx, 66, s.l) ∈ H) (hrs : rs = Mk.rowPhdr s.x ++ Mk.rowInterp s.x) (hds : ds = Mk.rowDyn s.x)
    (hmay : Mk.may s.x = 0) (hf : MkFit s) (hm : MayOk s.x)
    (u0 u1 u2 u3 u5 u6 u7 u8 u12 u14 u15 u16 u17 u18 u19 u20 u21 u22 u23 u24 u25 u26 u27 u28 u29 u30 u31 u32 u33 u34 u35 u36 u37 u38 u39 u40 u41 u42 u43 u44 u45 u46 u47 u48 u49 u50 u51 u52 u53 u54 u55 u56 u57 u58 u59 u60 u61 u62 u63 u64 u65 u66 u67 u68 u69 u70 u71 u72 u73 u74 u75 u76 u77 u78 u79 u80 u81 u82 u83 u84 u85 u86 u87 u88 u89 u90 u91 u92 u93 u94 u95 u96 u97 u98 u99 u100 u101 u102 u103 u104 u105 u106 u107 u108 u109 u110 u111 u112 u113 u114 u115 u116 u117 u118 u119 u120 u121 u122 u123 u124 u125 u126 u127 u128 u129 u130 u131 u132 u133 u134 u135 u136 u137 u138 u139 u140 u141 u142 u143 u144 u145 u146 u147 u148 u149 u150 u151 u152 u153 u154 u155 u156 u157 u158 u159 u160 u161 u162 u163 u164 u165 u166 u167 u168 : Value) :
    (dropC 12 (Tryz.f9.body.getD .skip)).wp Tryz.prog (bodyPost Tryz.prog Tryz.f9 (MkE s.x w)) ⟨#[u0, u1, u2, u3, .pointer (some ⟨gx, 0, none⟩), u5, u6, u7, u8, .pointer (some ⟨gF, 0, none⟩), .pointer (some ⟨gl, 0, none⟩), .func (.func 26) #[] #[.pointer (some ⟨gx, 0, none⟩)], u12, .slice Ad nd cd, u14, u15, u16, u17, u18, u19, u20, u21, u22, u23, u24, u25, u26, u27, u28, u29, u30, u31, u32, u33, u34, u35, u36, u37, u38, u39, u40, u41, u42, u43, u44, u45, u46, u47, u48, u49, u50, u51, u52, u53, u54, u55, u56, u57, u58, u59, u60, u61, u62, u63, u64, u65, u66, u67, u68, u69, u70, u71, u72, u73, u74, u75, u76, u77, u78, u79, u80, u81, u82, u83, u84, u85, u86, u87, u88, u89, u90, u91, u92, u93, u94, u95, u96, u97, u98, u99, u100, u101, u102, u103, u104, u105, u106, u107, u108, u109, u110, u111, u112, u113, u114, u115, u116, u117, u118, u119, u120, u121, u122, u123, u124, u125, u126, u127, u128, u129, u130, u131, u132, u133, u134, u135, u136, u137, u138, u139, u140, u141, u142, u143, u144, u145, u146, u147, u148, u149, u150, u151, u152, u153, u154, u155, u156, u157, u158, u159, u160, u161, u162, u163, u164, u165, u166, u167, u168], []⟩ wc := by
  conv => arg 2; whnf
  have hnf := h.fi.len
  have y1 := h.fi.cell
  have hrl := rows_len s.x
  have hmany := many_ge s.x
  have hlen : rs.length + (Mk.rowFirst s.x).length + (Mk.rowText s.x).length + (Mk.rowData s.x).length + ds.length ≤ 6 := by
    rw [hrs, hds]
    unfold Mk.rows at hrl
    simp only [List.length_append] at hrl ⊢
    omega
  have hte := hm.text
  have hmo := hm.more
  have hda := hf.data
  have Hh := hide h
  have Hrs := hide hrs
  have Hds := hide hds
  have Hnf := hide hnf
  have Hf := hide hf
  have Hm := hide hm
  have Hmay := hide hmay
  have Hx := hide hx
  clear h hrs hds hf hm hmay hrl hx
  by_cases hbig : 65536 < nf
  · have hbi : (65536 : Int) < (nf : Int) := by omega
    have Hm2 : Hid (Mk.make s.x = ([], 12)) := hide (by unfold Mk.make; rw [if_neg (by rw [unhide Hmay]; decide), if_pos (Or.inl (by have := unhide Hnf; omega))])
    clear hbig hnf
    go_wp2_with fail
    go_ret2
    refine ⟨(unhide Hh).below, none, 0, 0, ?_, ?_⟩
    · rw [unhide Hm2]; rfl
    · rw [unhide Hm2]; exact World.ownsRow_nil _ _ _ _
  have hbi : ¬ (65536 : Int) < (nf : Int) := by omega
  have hfr : (Mk.front2 s.x).length ≤ 65536 := by omega
  have Hfr := hide hfr
  have hnb : nf ≤ 65536 := by omega
  clear hbig hnf hfr
  have hP1 := (unhide Hh).out.lay 69 [.pointer (some ⟨wc.heap.size, 0, none⟩)]
  have e9 : (wc.alloc (.cells #[.slice Af nf cf] 71)).heap.size = wc.heap.size + 1 := by simp
  rw [e9] at hP1
  have HP1 : Hid (PmS wc.heap.size gl w ((wc.alloc (.cells #[.slice Af nf cf] 71)).alloc (.cells #[.pointer (some ⟨wc.heap.size, 0, none⟩)] 69)) Af nf cf (Mk.front2 s.x) Al cl rs ((wc.heap.size + 1, 69, [.pointer (some ⟨wc.heap.size, 0, none⟩)]) :: (gF, 71, [.slice Af nf cf]) :: H) Ad nd cd ds) := hide hP1
  clear hP1 e9
  go_upto_region 26 with fail
  generalize ((wc.alloc (.cells #[.slice Af nf cf] 71)).alloc (.cells #[.pointer (some ⟨wc.heap.size, 0, none⟩)] 69)) = W0 at *
  obtain ⟨H2, hH2⟩ : ∃ H2, ((wc.heap.size + 1, 69, [.pointer (some ⟨wc.heap.size, 0, none⟩)]) :: (gF, 71, [.slice Af nf cf]) :: H) = H2 := ⟨_, rfl⟩
  have hgo : (wc.heap.size + 1, 69, [.pointer (some ⟨wc.heap.size, 0, none⟩)]) ∈ H2 := by rw [← hH2]; exact List.mem_cons_self
  have hgF : (gF, 71, [.slice Af nf cf]) ∈ H2 := by rw [← hH2]; exact List.mem_cons_of_mem _ List.mem_cons_self
  have hgx : (gx, 66, s.l) ∈ H2 := by rw [← hH2]; exact List.mem_cons_of_mem _ (List.mem_cons_of_mem _ hgx)
  rw [hH2] at HP1
  clear hH2 Hh y1
  obtain ⟨gO, hgO⟩ : ∃ gO, wc.heap.size = gO := ⟨_, rfl⟩
  obtain ⟨go_, hgo_⟩ : ∃ go_, wc.heap.size + 1 = go_ := ⟨_, rfl⟩
  rw [hgo_, hgO] at hgo
  rw [hgO] at HP1
  rw [hgo_, hgO]
  clear hgO hgo_
  have y0 := (unhide HP1).cell hgF (i := 0) rfl
  have hwn : IntKind.u64.wrap (nf : Int) = (nf : Int) := by rw [IntKind.wrap_u64]; omega
  obtain ⟨r1, hr1⟩ : ∃ r, Mk.inRow s.x 1 0 nf 4096 = r := ⟨_, rfl⟩
  have Kr1 : Hid (∀ W, Blk W gx 66 s.l → Calls Tryz.prog 26 #[.int .u64 1, .int .u64 0, .int .u64 (nf : Nat), .int .u64 4096, .pointer (some ⟨gx, 0, none⟩)] W fun e w' => e = .returned (.agg #[.int .u64 (r1.kind : Nat), .int .u64 (r1.flags : Nat), .int .u64 (r1.off : Nat), .int .u64 (r1.addr : Nat), .int .u64 (r1.fsz : Nat), .int .u64 (r1.msz : Nat), .int .u64 (r1.align : Nat)]) ∧ Below W.heap.size W w') := hide (fun W hW => by have h9 := pin_any s gx 1 0 nf 4096 W hW (by omega); rw [hr1] at h9; exact h9)
  have Hr1 := hide hr1
  clear hr1
  go_cut [] (fun wx => ∃ (Al : Option Addr) (cl : Nat), PmS gO gl w wx Af nf cf (Mk.front2 s.x) Al cl (rs ++ [r1]) H2 Ad nd cd ds)
  case first =>
    refine wp_region_noPanic ?_
    refine wp_region_held_drew (S := fun W => W.cell? ⟨gF, 0, none⟩ = some (.slice Af nf cf)) (by kernel_rfl) (y0) (fun HS0 => ?_)
    refine takeD (i := 1) (d := some 115) (v := ?_) rfl rfl (by kernel_rfl) (by kernel_rfl) (by kernel_rfl) (fun _ _ _ h => h) (Or.inl ⟨by rfl, ?y1⟩) HS0 ?_
    case y1 => (intro w' hSw; (try dsimp only at hSw); go_simp; (try with_reducible rfl))
    simp only [Act.put, List.setIfInBounds_toArray, List.set_cons_zero, List.set_cons_succ]
    refine takeD (i := 2) (d := some 116) (v := ?_) rfl rfl (by kernel_rfl) (by kernel_rfl) (by kernel_rfl) (fun _ _ _ h => h) (Or.inl ⟨by rfl, ?y2⟩) HS0 ?_
    case y2 => (intro w' hSw; (try dsimp only at hSw); go_simp; (try with_reducible rfl))
    simp only [Act.put, List.setIfInBounds_toArray, List.set_cons_zero, List.set_cons_succ]
    refine takeD (i := 3) (d := some 117) (v := ?_) rfl rfl (by kernel_rfl) (by kernel_rfl) (by kernel_rfl) (fun _ _ _ h => h) (Or.inl ⟨by rfl, ?y3⟩) HS0 ?_
    case y3 => (intro w' hSw; (try dsimp only at hSw); go_simp; (try with_reducible rfl))
    simp only [Act.put, List.setIfInBounds_toArray, List.set_cons_zero, List.set_cons_succ]
    refine takeD (i := 4) (d := some 118) (v := ?_) rfl rfl (by kernel_rfl) (by kernel_rfl) (by kernel_rfl) (fun _ _ _ h => h) (Or.inl ⟨by rfl, ?y4⟩) HS0 ?_
    case y4 => (intro w' hSw; (try dsimp only at hSw); go_simp; (try with_reducible rfl))
    simp only [Act.put, List.setIfInBounds_toArray, List.set_cons_zero, List.set_cons_succ]
    refine takeD (i := 5) (d := some 119) (v := ?_) rfl rfl (by kernel_rfl) (by kernel_rfl) (by kernel_rfl) (fun _ _ _ h => h) (Or.inl ⟨by rfl, ?y5⟩) HS0 ?_
    case y5 => (intro w' hSw; (try dsimp only at hSw); go_simp; (try with_reducible rfl))
    simp only [Act.put, List.setIfInBounds_toArray, List.set_cons_zero, List.set_cons_succ]
    refine takeD (i := 6) (d := some 120) (v := ?_) rfl rfl (by kernel_rfl) (by kernel_rfl) (by kernel_rfl) (fun _ _ _ h => h) (Or.inl ⟨by rfl, ?y6⟩) HS0 ?_
    case y6 => (intro w' hSw; (try dsimp only at hSw); go_simp; (try with_reducible rfl))
    simp only [Act.put, List.setIfInBounds_toArray, List.set_cons_zero, List.set_cons_succ]
    refine takeD (i := 7) (d := some 121) (v := .int .u64 (nf : Int)) rfl rfl (by kernel_rfl) (by kernel_rfl) (by kernel_rfl) (fun _ _ _ h => h) (Or.inl ⟨by rfl, ?y7⟩) HS0 ?_
    case y7 => (intro w' hSw; (try dsimp only at hSw); go_simp; (try rw [hwn]))
    simp only [Act.put, List.setIfInBounds_toArray, List.set_cons_zero, List.set_cons_succ]
    refine wpAnyH_ready (rs := [0, 8]) (by kernel_rfl) (by simp) ?_
    refine AllReadyH.cons (i := 0) rfl (fun K hK => ?wayL) (AllReadyH.cons (i := 8) rfl (fun K hK => ?wayN) AllReadyH.nil)
    case wayL =>
      rw [if_pos (by rfl)]
      have zl := (show W0.drew.cell? ⟨gl, 0, none⟩ = some (.slice Al rs.length cl) from (unhide HP1).lb.cell (i := 0) rfl)
      go_simp
      refine hK.out _ _ (HS0) (fun hHeld => ?_)
      clear hK K HS0
      have HS0 := hHeld
      clear hHeld
      (try simp only [Act.put, List.setIfInBounds_toArray, List.set_cons_zero, List.set_cons_succ])
      clear zl
      refine wpAnyH_ready (rs := [8]) (by kernel_rfl) (by simp) ?_
      refine AllReadyH.cons (i := 8) rfl (fun K hK => ?_) AllReadyH.nil
      rw [if_pos (by rfl)]
      go_simp
      go_at_call 26
      refine ((unhide Kr1) _ (show Blk W0.drew gx 66 s.l from ((unhide HP1).held _ hgx).1)).mono ?_
      rintro e w7 ⟨rfl, hb7⟩
      have hP7 := (unhide HP1).calm (below_undrew1 hb7)
      refine hK.out _ _ (hP7.cell hgF (i := 0) rfl) (fun hHeld => ?_)
      clear hK K HS0
      have HS0 := hHeld
      clear hHeld
      (try simp only [Act.put, List.setIfInBounds_toArray, List.set_cons_zero, List.set_cons_succ])
      refine wpAnyH_ready (rs := [9]) (by kernel_rfl) (by simp) ?_
      refine AllReadyH.cons (i := 9) rfl (fun K hK => ?_) AllReadyH.nil
      rw [if_pos (by rfl)]
      go_simp
      refine hK.out _ _ ((hP7.calm (below_al _ _)).cell hgF (i := 0) rfl) (fun hHeld => ?_)
      clear hK K HS0
      have HS0 := hHeld
      clear hHeld
      (try simp only [Act.put, List.setIfInBounds_toArray, List.set_cons_zero, List.set_cons_succ])
      refine wpAnyH_ready (rs := [10]) (by kernel_rfl) (by simp) ?_
      refine AllReadyH.cons (i := 10) rfl (fun K hK => ?_) AllReadyH.nil
      rw [if_pos (by rfl)]
      refine wp_app1m mSegTy _ _ rfl w.heap.size (.slice Al rs.length cl) rs.length (rowC rs) rfl hP7.row _ _ rfl (by simp) rfl (rowV_one r1) (by omega) hP7.size ?_
      intro A5 c5 w5 ho5 hg5 ha5
      have hP9 := hP7.push r1 ho5 hg5 ha5
      have zs := (hP7.midL hg5).cell (i := 0) rfl
      have zf := (hP7.midL hg5).free 0
      show K (Act.put _ (some 124) _) _
      refine hK.out _ _ ((hP7.midBlk hg5 hgF).cell (i := 0) rfl) (fun hHeld => ?_)
      clear hK K HS0
      have HS0 := hHeld
      clear hHeld
      (try simp only [Act.put, List.setIfInBounds_toArray, List.set_cons_zero, List.set_cons_succ])
      refine wpAnyH_ready (rs := [11]) (by kernel_rfl) (by simp) ?_
      refine AllReadyH.cons (i := 11) rfl (fun K hK => ?_) AllReadyH.nil
      rw [if_pos (by rfl)]
      go_simp
      refine hK.out _ _ (hP9.cell hgF (i := 0) rfl) (fun hHeld => ?_)
      clear hK K HS0
      have HS0 := hHeld
      clear hHeld
      (try simp only [Act.put, List.setIfInBounds_toArray, List.set_cons_zero, List.set_cons_succ])
      refine wpAnyH_done (by kernel_rfl) ?_ _
      refine NoPanic.normal ?_
      go_wp2_with fail
      go_meet
      case rel => exact ⟨A5, c5, hP9⟩
    case wayN =>
      rw [if_pos (by rfl)]
      go_simp
      go_at_call 26
      refine ((unhide Kr1) _ (show Blk W0.drew gx 66 s.l from ((unhide HP1).held _ hgx).1)).mono ?_
      rintro e w7 ⟨rfl, hb7⟩
      have hP7 := (unhide HP1).calm (below_undrew1 hb7)
      refine hK.out _ _ (hP7.cell hgF (i := 0) rfl) (fun hHeld => ?_)
      clear hK K HS0
      have HS0 := hHeld
      clear hHeld
      (try simp only [Act.put, List.setIfInBounds_toArray, List.set_cons_zero, List.set_cons_succ])
      refine wpAnyH_ready (rs := [0, 9]) (by kernel_rfl) (by simp) ?_
      refine AllReadyH.cons (i := 0) rfl (fun K hK => ?wayL) (AllReadyH.cons (i := 9) rfl (fun K hK => ?wayN) AllReadyH.nil)
      case wayL =>
        rw [if_pos (by rfl)]
        have zl := hP7.lb.cell (i := 0) rfl
        go_simp
        refine hK.out _ _ (HS0) (fun hHeld => ?_)
        clear hK K HS0
        have HS0 := hHeld
        clear hHeld
        (try simp only [Act.put, List.setIfInBounds_toArray, List.set_cons_zero, List.set_cons_succ])
        clear zl
        refine wpAnyH_ready (rs := [9]) (by kernel_rfl) (by simp) ?_
        refine AllReadyH.cons (i := 9) rfl (fun K hK => ?_) AllReadyH.nil
        rw [if_pos (by rfl)]
        go_simp
        refine hK.out _ _ ((hP7.calm (below_al _ _)).cell hgF (i := 0) rfl) (fun hHeld => ?_)
        clear hK K HS0
        have HS0 := hHeld
        clear hHeld
        (try simp only [Act.put, List.setIfInBounds_toArray, List.set_cons_zero, List.set_cons_succ])
        refine wpAnyH_ready (rs := [10]) (by kernel_rfl) (by simp) ?_
        refine AllReadyH.cons (i := 10) rfl (fun K hK => ?_) AllReadyH.nil
        rw [if_pos (by rfl)]
        refine wp_app1m mSegTy _ _ rfl w.heap.size (.slice Al rs.length cl) rs.length (rowC rs) rfl hP7.row _ _ rfl (by simp) rfl (rowV_one r1) (by omega) hP7.size ?_
        intro A5 c5 w5 ho5 hg5 ha5
        have hP9 := hP7.push r1 ho5 hg5 ha5
        have zs := (hP7.midL hg5).cell (i := 0) rfl
        have zf := (hP7.midL hg5).free 0
        show K (Act.put _ (some 124) _) _
        refine hK.out _ _ ((hP7.midBlk hg5 hgF).cell (i := 0) rfl) (fun hHeld => ?_)
        clear hK K HS0
        have HS0 := hHeld
        clear hHeld
        (try simp only [Act.put, List.setIfInBounds_toArray, List.set_cons_zero, List.set_cons_succ])
        refine wpAnyH_ready (rs := [11]) (by kernel_rfl) (by simp) ?_
        refine AllReadyH.cons (i := 11) rfl (fun K hK => ?_) AllReadyH.nil
        rw [if_pos (by rfl)]
        go_simp
        refine hK.out _ _ (hP9.cell hgF (i := 0) rfl) (fun hHeld => ?_)
        clear hK K HS0
        have HS0 := hHeld
        clear hHeld
        (try simp only [Act.put, List.setIfInBounds_toArray, List.set_cons_zero, List.set_cons_succ])
        refine wpAnyH_done (by kernel_rfl) ?_ _
        refine NoPanic.normal ?_
        go_wp2_with fail
        go_meet
        case rel => exact ⟨A5, c5, hP9⟩
      case wayN =>
        rw [if_pos (by rfl)]
        go_simp
        refine hK.out _ _ ((hP7.calm (below_al _ _)).cell hgF (i := 0) rfl) (fun hHeld => ?_)
        clear hK K HS0
        have HS0 := hHeld
        clear hHeld
        (try simp only [Act.put, List.setIfInBounds_toArray, List.set_cons_zero, List.set_cons_succ])
        refine wpAnyH_ready (rs := [0]) (by kernel_rfl) (by simp) ?_
        refine AllReadyH.cons (i := 0) rfl (fun K hK => ?_) AllReadyH.nil
        rw [if_pos (by rfl)]
        have zl := fun c => (hP7.calm (below_al w7 c)).lb.cell (i := 0) rfl
        go_simp
        refine hK.out _ _ (HS0) (fun hHeld => ?_)
        clear hK K HS0
        have HS0 := hHeld
        clear hHeld
        (try simp only [Act.put, List.setIfInBounds_toArray, List.set_cons_zero, List.set_cons_succ])
        clear zl
        refine wpAnyH_ready (rs := [10]) (by kernel_rfl) (by simp) ?_
        refine AllReadyH.cons (i := 10) rfl (fun K hK => ?_) AllReadyH.nil
        rw [if_pos (by rfl)]
        refine wp_app1m mSegTy _ _ rfl w.heap.size (.slice Al rs.length cl) rs.length (rowC rs) rfl hP7.row _ _ rfl (by simp) rfl (rowV_one r1) (by omega) hP7.size ?_
        intro A5 c5 w5 ho5 hg5 ha5
        have hP9 := hP7.push r1 ho5 hg5 ha5
        have zs := (hP7.midL hg5).cell (i := 0) rfl
        have zf := (hP7.midL hg5).free 0
        show K (Act.put _ (some 124) _) _
        refine hK.out _ _ ((hP7.midBlk hg5 hgF).cell (i := 0) rfl) (fun hHeld => ?_)
        clear hK K HS0
        have HS0 := hHeld
        clear hHeld
        (try simp only [Act.put, List.setIfInBounds_toArray, List.set_cons_zero, List.set_cons_succ])
        refine wpAnyH_ready (rs := [11]) (by kernel_rfl) (by simp) ?_
        refine AllReadyH.cons (i := 11) rfl (fun K hK => ?_) AllReadyH.nil
        rw [if_pos (by rfl)]
        go_simp
        refine hK.out _ _ (hP9.cell hgF (i := 0) rfl) (fun hHeld => ?_)
        clear hK K HS0
        have HS0 := hHeld
        clear hHeld
        (try simp only [Act.put, List.setIfInBounds_toArray, List.set_cons_zero, List.set_cons_succ])
        refine wpAnyH_done (by kernel_rfl) ?_ _
        refine NoPanic.normal ?_
        go_wp2_with fail
        go_meet
        case rel => exact ⟨A5, c5, hP9⟩
  case rest =>
    obtain ⟨Al2, cl2, hP⟩ := hcut
    obtain ⟨-, -, -, t3, t4, t5, -⟩ := spec_cellsP (hP.held _ hgx).1
    obtain ⟨r2, hr2⟩ : ∃ r2, rs ++ [r1] = r2 := ⟨_, rfl⟩
    rw [hr2] at hP
    have hr2l : r2.length ≤ 6 := by
      have h9 : (Mk.rowFirst s.x).length = 1 := rfl
      rw [← hr2, List.length_append]
      simp only [List.length_cons, List.length_nil]
      omega
    have Hr2 := hide (show r2 = Mk.rowPhdr s.x ++ Mk.rowInterp s.x ++ Mk.rowFirst s.x by
      rw [← hr2, unhide Hrs, ← unhide Hr1]
      unfold Mk.rowFirst
      rw [unhide Hnf])
    have HP := hide hP
    clear hP hr2 Kr1 y0 HP1 hwn
    go_upto_if 129 with fail
    obtain ⟨bt, hbt⟩ : ∃ bt, decide (0 < s.x.text.length) = bt := ⟨_, rfl⟩
    rw [hbt]
    have Hbt := hide hbt
    clear hbt
    go_cut [] (fun wx => ∃ (Af : Option Addr) (nf cf : Nat) (Al : Option Addr) (cl : Nat) (r3 : List Mk.Row), PmS gO gl w wx Af nf cf (Mk.out1 s.x) Al cl r3 H2 Ad nd cd ds ∧ r3 = r2 ++ Mk.rowText s.x)
    case first =>
      cases bt
      case false =>
        have hit : Mk.isText s.x = false := unhide Hbt
        have He := hide (show Mk.out1 s.x = Mk.front2 s.x ∧ Mk.rowText s.x = [] by unfold Mk.out1 Mk.rowText; rw [hit]; exact ⟨rfl, rfl⟩)
        clear hit
        go_wp2_with fail
        go_meet
        case rel => exact ⟨Af, nf, cf, Al2, cl2, r2, by rw [(unhide He).1]; exact unhide HP, by rw [(unhide He).2, List.append_nil]⟩
      case true =>
        have hit : Mk.isText s.x = true := unhide Hbt
        have He := hide (show Mk.out1 s.x = Mk.pad 4096 (Mk.front2 s.x) ++ s.x.text ∧ Mk.rowText s.x = [⟨1, 5, (Mk.pad 4096 (Mk.front2 s.x)).length, Mk.base s.x + 65536, s.x.text.length, s.x.text.length, 4096⟩] by unfold Mk.out1 Mk.rowText; rw [hit]; exact ⟨rfl, rfl⟩)
        have KT : Hid (Calls Tryz.prog 30 #[.slice s.At s.x.text.length s.ct, .int .u64 5, .int .u64 65536, .int .u64 0, .pointer (some ⟨go_, 0, none⟩), .pointer (some ⟨gl, 0, none⟩), .pointer (some ⟨gx, 0, none⟩)] wc (BhE gO gl s w (Mk.front2 s.x) r2 H2 Ad nd cd ds s.x.text 5 65536 0)) := hide (pbehind_any s gO gl go_ gx nf cf cl2 nd cd B s.x.text.length s.ct 5 65536 0 Af Al2 Ad s.At (Mk.front2 s.x) s.x.text r2 ds H2 w wc (unhide Hx).text (unhide HP) hgo hgx hB (by have := unhide Hfr; omega) (by omega) (by omega) (by omega) (by omega))
        clear hit
        go_wp2_with fail
        refine (unhide KT).mono ?_
        rintro e w5 ⟨rfl, Af5, nf5, cf5, Al5, cl5, hP5⟩
        have HP5 := hide hP5
        clear hP5 KT t3 t4 t5
        go_wp2_with fail
        go_meet
        case rel => exact ⟨Af5, nf5, cf5, Al5, cl5, _, by rw [(unhide He).1]; exact unhide HP5, by rw [(unhide He).2]; rfl⟩
    case rest =>
      obtain ⟨Af3, nf3, cf3, Al3, cl3, r3, hP, hr3⟩ := hcut
      obtain ⟨-, -, -, -, t4, t5, -⟩ := spec_cellsP (hP.held _ hgx).1
      have hn3 := hP.fi.len
      have hr3l : r3.length + (Mk.rowData s.x).length ≤ 6 := by
        rw [hr3, unhide Hr2, ← unhide Hrs]
        simp only [List.length_append] at hlen ⊢
        omega
      have hn3b : (Mk.out1 s.x).length ≤ 4294967296 := by
        have h1 := unhide Hfr
        have h2 := pad_le 4096 (by omega) (Mk.front2 s.x)
        unfold Mk.out1
        split
        · rw [List.length_append]; omega
        · omega
      have HP3 := hide hP
      have Hr3 := hide hr3
      have Hn3 := hide hn3
      clear hP hr3 hn3 HP t3 Hbt
      go_upto_region 30 with fail
      go_cut [142] (fun v wx => v = .bool (Mk.isData s.x) ∧ wx = wc)
      case first =>
        by_cases c1 : 0 < s.x.data.length
        · have c1i : decide (0 < s.x.data.length) = true := decide_eq_true c1
          have He := hide (show Mk.isData s.x = true by unfold Mk.isData; simp [c1])
          clear c1
          go_wp2_with fail
          go_meet
          case rel => exact ⟨by rw [unhide He], rfl⟩
        · have c1i : decide (0 < s.x.data.length) = false := decide_eq_false c1
          by_cases c2 : 0 < s.x.more
          · have c2i : decide (0 < s.x.more) = true := decide_eq_true c2
            have He := hide (show Mk.isData s.x = true by unfold Mk.isData; simp [c2])
            clear c1 c2
            go_wp2_with fail
            go_meet
            case rel => exact ⟨by rw [unhide He], rfl⟩
          · have c2i : decide (0 < s.x.more) = false := decide_eq_false c2
            have He := hide (show Mk.isData s.x = false by unfold Mk.isData; simp [c1, c2])
            clear c1 c2
            go_wp2_with fail
            go_meet
            case rel => exact ⟨by rw [unhide He], rfl⟩
      case rest =>
        obtain ⟨rfl, rfl⟩ := hcut
        obtain ⟨bd, hbd⟩ : ∃ bd, Mk.isData s.x = bd := ⟨_, rfl⟩
        rw [hbd]
        have Hbd := hide hbd
        clear hbd
        go_upto_if 142 with fail
        go_cut [] (fun wx => ∃ (Af : Option Addr) (nf cf : Nat) (Al : Option Addr) (cl : Nat) (r4 : List Mk.Row), PmS gO gl w wx Af nf cf (Mk.out2 s.x) Al cl r4 H2 Ad nd cd ds ∧ r4 = r3 ++ Mk.rowData s.x)
        case first =>
          cases bd
          case false =>
            have He := hide (show Mk.out2 s.x = Mk.out1 s.x ∧ Mk.rowData s.x = [] by unfold Mk.out2 Mk.rowData; rw [unhide Hbd]; exact ⟨rfl, rfl⟩)
            go_wp2_with fail
            go_meet
            case rel => exact ⟨Af3, nf3, cf3, Al3, cl3, r3, by rw [(unhide He).1]; exact unhide HP3, by rw [(unhide He).2, List.append_nil]⟩
          case true =>
            have He := hide (show Mk.out2 s.x = Mk.pad 4096 (Mk.out1 s.x) ++ s.x.data ∧ Mk.rowData s.x = [⟨1, 6, (Mk.pad 4096 (Mk.out1 s.x)).length, Mk.base s.x + 131072, s.x.data.length, s.x.data.length + s.x.more, 4096⟩] by unfold Mk.out2 Mk.rowData; rw [unhide Hbd]; exact ⟨rfl, rfl⟩)
            have KD : Hid (Calls Tryz.prog 30 #[.slice s.Ad s.x.data.length s.cd, .int .u64 6, .int .u64 131072, .int .u64 (s.x.more : Nat), .pointer (some ⟨go_, 0, none⟩), .pointer (some ⟨gl, 0, none⟩), .pointer (some ⟨gx, 0, none⟩)] _ (BhE gO gl s w (Mk.out1 s.x) r3 H2 Ad nd cd ds s.x.data 6 131072 s.x.more)) := hide (pbehind_any s gO gl go_ gx nf3 cf3 cl3 nd cd B s.x.data.length s.cd 6 131072 s.x.more Af3 Al3 Ad s.Ad (Mk.out1 s.x) s.x.data r3 ds H2 w _ (unhide Hx).data (unhide HP3) hgo hgx hB hn3b (by omega) (by omega) (by omega) (by omega))
            go_wp2_with fail
            refine (unhide KD).mono ?_
            rintro e w5 ⟨rfl, Af5, nf5, cf5, Al5, cl5, hP5⟩
            have HP5 := hide hP5
            clear hP5 KD t4 t5
            go_wp2_with fail
            go_meet
            case rel => exact ⟨Af5, nf5, cf5, Al5, cl5, _, by rw [(unhide He).1]; exact unhide HP5, by rw [(unhide He).2]⟩
        case rest =>
          obtain ⟨Af4, nf4, cf4, Al4, cl4, r4, hP, hr4⟩ := hcut
          go_step
          exact pmakeD s gO gl go_ gx nf4 cf4 cl4 nd cd Af4 Al4 Ad r4 ds H2 w _ hP hgo hgx (by rw [hr4, unhide Hr3, unhide Hr2, unhide Hds]; rfl) (unhide Hmay) (unhide Hfr) (unhide Hf) (unhide Hm) _ _ _ _ _ _ _ _ _ _ _ _ _ _ _ _ _ _ _ _ _ _ _ _ _ _ _ _ _ _ _ _ _ _ _ _ _ _ _ _ _ _ _ _ _ _ _ _ _ _ _ _ _ _ _ _ _ _ _ _ _ _ _ _ _ _ _ _ _ _ _ _ _ _ _ _ _ _ _ _ _ _ _ _ _ _ _ _ _ _ _ _ _ _ _ _ _ _ _ _ _ _ _ _ _ _ _ _ _ _ _ _ _ _ _ _ _ _ _ _ _ _ _ _ _ _ _ _ _ _ _ _ _ _ _ _ _ _ _ _ _ _ _ _ _ _ _ _ _ _ _ _ _ _ _ _ _ _ _ _ _ _ _ _ _
end Go.Proofs.YtnbecdahfgkffaaGreat
