/- Texts of the claim LawMakerParsed (MkP20): what the functions that the statement reaches compute, and plain laws of it. Conditions: those that each theorem states. -/
import Derived.Test.YtnbecdahfgkffaaGreatMpK6
import Derived.Test.YtnbecdahfgkffaaGreatMpK4
import Derived.Test.YtnbecdahfgkffaaGreatMpK1
import Derived.Laws.EntriesVeiled
import Derived.Deep.DeepCutAuto
import Derived.Deep.CutBlock
set_option linter.unusedVariables false
set_option linter.unusedSimpArgs false
namespace Go.Proofs.YtnbecdahfgkffaaGreat
open Go.RowKit
theorem PmS.start {w w9 : World} {gx n c : Nat} {A : Option Addr} {fs : List UInt8} {t3 : TypeId} {l3 : List Value} (hb : Below w.heap.size w w9) (ho : w9.ownsRow w.heap.size 5 1 (.slice A n c) n (bys fs)) (hx : Blk w9 gx t3 l3) (hax : bk A ≠ some gx) :
  PmS w9.heap.size (w9.heap.size + 1) w ((w9.alloc (.cells #[.slice A n c] 71)).alloc (.cells #[.slice none 0 0] 72)) A n c fs none 0 [] [(gx, t3, l3)] none 0 0 [] := by
 have hs := hb.size
 have b1 : Below w9.heap.size w9 ((w9.alloc (.cells #[.slice A n c] 71)).alloc (.cells #[.slice none 0 0] 72)) := ((Below.refl _ _).alloc (Nat.le_refl _) _).alloc (by simp) _
 have hbl := (Blk.new w9 71 [.slice A n c]).alloc (.cells #[.slice none 0 0] 72)
 have hbr := Blk.new (w9.alloc (.cells #[.slice A n c] 71)) 72 [.slice none 0 0]
 have e1 : (w9.alloc (.cells #[.slice A n c] 71)).heap.size = w9.heap.size + 1 := by simp
 rw [e1] at hbr
 have hlt := zJ7 ho
 refine ⟨hb.trans (b1.mono hs), ⟨hbl, rfl, own_below ho b1, fun e => by have := (hlt _ e).2; omega⟩, hbr, World.ownsRow_nil _ _ _ _, World.ownsRow_nil _ _ _ _, fun k hk => by simp [bk] at hk, fun e => by have := (hlt _ e).2; omega, fun k hk => by simp [bk] at hk, fun p hp => ?_, hs, by omega, by omega⟩
 rw [List.mem_singleton.1 hp]
 have := hx.lt
 exact ⟨hx.belowSz b1, by show gx ≠ _; omega, by show gx ≠ _; omega, hax, by simp [bk]⟩
def cnt (l : List Bool) (j : Nat) : Nat := ((l.take j).filter id).length
theorem cnt_step {l : List Bool} {j : Nat} {b : Bool} (h : l[j]? = some b) : cnt l (j + 1) = cnt l j + Mk.one b := by
 unfold cnt
 rw [List.take_add_one, h]
 cases b <;> simp [Mk.one]
theorem cnt_le (l : List Bool) (j : Nat) : cnt l j <= j := by
 unfold cnt
 have h1 := List.length_filter_le id (l.take j)
 rw [List.length_take] at h1
 omega
theorem cnt_many (x : Mk.Spec) : 2 + cnt [Mk.isInterp x, x.dynamic, Mk.isText x, Mk.isData x] 4 = Mk.many x := by
 unfold Mk.many cnt
 cases Mk.isInterp x <;> cases x.dynamic <;> cases Mk.isText x <;> cases Mk.isData x <;> rfl
set_option maxRecDepth 100000 in
set_option maxHeartbeats 60000000 in
theorem vJq (s : Xq) (B : Nat) (w : World) (hB : B <= w.heap.size) (h : XqM w B s) (hf : MkFit s) (hn12 : s.x.dyn.needed.length + s.x.dyn.syms.length <= 1048576) :
  Calls Tryz.prog 9 #[.agg s.l.toArray] w (MkE s.x w) := by
 have hb1 : Below w.heap.size w ((w.alloc (.cells #[.int .u16 (s.x.type : Nat), .int .u64 (s.x.entry : Nat), .string s.x.interp, .slice s.At s.x.text.length s.ct, .slice s.Ad s.x.data.length s.cd, .int .u64 (s.x.more : Nat), .bool s.x.dynamic, .slice s.A1 s.x.dyn.needed.length s.c1, .string s.x.dyn.soname, .string s.x.dyn.run, .slice s.A2 s.x.dyn.syms.length s.c2, .slice s.A3 s.x.dyn.relas.length s.c3, .int .i64 s.x.apart] 31)).alloc (.cells #[.int .u16 (s.x.type : Nat), .int .u64 (s.x.entry : Nat), .string s.x.interp, .slice s.At s.x.text.length s.ct, .slice s.Ad s.x.data.length s.cd, .int .u64 (s.x.more : Nat), .bool s.x.dynamic, .slice s.A1 s.x.dyn.needed.length s.c1, .string s.x.dyn.soname, .string s.x.dyn.run, .slice s.A2 s.x.dyn.syms.length s.c2, .slice s.A3 s.x.dyn.relas.length s.c3, .int .i64 s.x.apart] 66)) := ((Below.refl _ _).alloc (Nat.le_refl _) _).alloc (by simp) _
 have hbl := Blk.new (w.alloc (.cells #[.int .u16 (s.x.type : Nat), .int .u64 (s.x.entry : Nat), .string s.x.interp, .slice s.At s.x.text.length s.ct, .slice s.Ad s.x.data.length s.cd, .int .u64 (s.x.more : Nat), .bool s.x.dynamic, .slice s.A1 s.x.dyn.needed.length s.c1, .string s.x.dyn.soname, .string s.x.dyn.run, .slice s.A2 s.x.dyn.syms.length s.c2, .slice s.A3 s.x.dyn.relas.length s.c3, .int .i64 s.x.apart] 31)) 66 s.l
 have e1 : (w.alloc (.cells #[.int .u16 (s.x.type : Nat), .int .u64 (s.x.entry : Nat), .string s.x.interp, .slice s.At s.x.text.length s.ct, .slice s.Ad s.x.data.length s.cd, .int .u64 (s.x.more : Nat), .bool s.x.dynamic, .slice s.A1 s.x.dyn.needed.length s.c1, .string s.x.dyn.soname, .string s.x.dyn.run, .slice s.A2 s.x.dyn.syms.length s.c2, .slice s.A3 s.x.dyn.relas.length s.c3, .int .i64 s.x.apart] 31)).heap.size = w.heap.size + 1 := by simp
 rw [e1] at hbl
 have hs1 : ((w.alloc (.cells #[.int .u16 (s.x.type : Nat), .int .u64 (s.x.entry : Nat), .string s.x.interp, .slice s.At s.x.text.length s.ct, .slice s.Ad s.x.data.length s.cd, .int .u64 (s.x.more : Nat), .bool s.x.dynamic, .slice s.A1 s.x.dyn.needed.length s.c1, .string s.x.dyn.soname, .string s.x.dyn.run, .slice s.A2 s.x.dyn.syms.length s.c2, .slice s.A3 s.x.dyn.relas.length s.c3, .int .i64 s.x.apart] 31)).alloc (.cells #[.int .u16 (s.x.type : Nat), .int .u64 (s.x.entry : Nat), .string s.x.interp, .slice s.At s.x.text.length s.ct, .slice s.Ad s.x.data.length s.cd, .int .u64 (s.x.more : Nat), .bool s.x.dynamic, .slice s.A1 s.x.dyn.needed.length s.c1, .string s.x.dyn.soname, .string s.x.dyn.run, .slice s.A2 s.x.dyn.syms.length s.c2, .slice s.A3 s.x.dyn.relas.length s.c3, .int .i64 s.x.apart] 66)).heap.size = w.heap.size + 1 + 1 := by simp
 obtain ⟨a0, a1, a2, a3, a4, a5, a6, a7, a8, a9, a10, a11, a12⟩ := zJ6 (show Blk ((w.alloc (.cells #[.int .u16 (s.x.type : Nat), .int .u64 (s.x.entry : Nat), .string s.x.interp, .slice s.At s.x.text.length s.ct, .slice s.Ad s.x.data.length s.cd, .int .u64 (s.x.more : Nat), .bool s.x.dynamic, .slice s.A1 s.x.dyn.needed.length s.c1, .string s.x.dyn.soname, .string s.x.dyn.run, .slice s.A2 s.x.dyn.syms.length s.c2, .slice s.A3 s.x.dyn.relas.length s.c3, .int .i64 s.x.apart] 31)).alloc (.cells #[.int .u16 (s.x.type : Nat), .int .u64 (s.x.entry : Nat), .string s.x.interp, .slice s.At s.x.text.length s.ct, .slice s.Ad s.x.data.length s.cd, .int .u64 (s.x.more : Nat), .bool s.x.dynamic, .slice s.A1 s.x.dyn.needed.length s.c1, .string s.x.dyn.soname, .string s.x.dyn.run, .slice s.A2 s.x.dyn.syms.length s.c2, .slice s.A3 s.x.dyn.relas.length s.c3, .int .i64 s.x.apart] 66)) (w.heap.size + 1) 66 s.l from hbl)
 have KM : Hid (∀ W, B <= W.heap.size -> XqM W B s -> Calls Tryz.prog 25 #[.agg #[.int .u16 (s.x.type : Nat), .int .u64 (s.x.entry : Nat), .string s.x.interp, .slice s.At s.x.text.length s.ct, .slice s.Ad s.x.data.length s.cd, .int .u64 (s.x.more : Nat), .bool s.x.dynamic, .slice s.A1 s.x.dyn.needed.length s.c1, .string s.x.dyn.soname, .string s.x.dyn.run, .slice s.A2 s.x.dyn.syms.length s.c2, .slice s.A3 s.x.dyn.relas.length s.c3, .int .i64 s.x.apart]] W fun e w' => e = .returned (.int .i64 (Mk.may s.x)) /\ Below W.heap.size W w') := zJ2 (fun W hW hx => pcheck_any s B W hW hx hf hn12)
 have hxm := h.below (hb1.mono hB)
 have HxB := zJ2 hxm
 have Hx := zJ2 h
 have Hf := zJ2 hf
 have Hb1 := zJ2 hb1
 have Hbl : Hid (Blk ((w.alloc (.cells #[.int .u16 (s.x.type : Nat), .int .u64 (s.x.entry : Nat), .string s.x.interp, .slice s.At s.x.text.length s.ct, .slice s.Ad s.x.data.length s.cd, .int .u64 (s.x.more : Nat), .bool s.x.dynamic, .slice s.A1 s.x.dyn.needed.length s.c1, .string s.x.dyn.soname, .string s.x.dyn.run, .slice s.A2 s.x.dyn.syms.length s.c2, .slice s.A3 s.x.dyn.relas.length s.c3, .int .i64 s.x.apart] 31)).alloc (.cells #[.int .u16 (s.x.type : Nat), .int .u64 (s.x.entry : Nat), .string s.x.interp, .slice s.At s.x.text.length s.ct, .slice s.Ad s.x.data.length s.cd, .int .u64 (s.x.more : Nat), .bool s.x.dynamic, .slice s.A1 s.x.dyn.needed.length s.c1, .string s.x.dyn.soname, .string s.x.dyn.run, .slice s.A2 s.x.dyn.syms.length s.c2, .slice s.A3 s.x.dyn.relas.length s.c3, .int .i64 s.x.apart] 66)) (w.heap.size + 1) 66 s.l) := zJ2 hbl
 have hte : s.x.text.length <= 4294967296 := hf.ok.text
 have hda : s.x.data.length <= 1048576 := hf.data
 have hin : s.x.interp.size <= 1048576 := hf.interp
 have hmany := xJm s.x
 show Calls _ _ #[.agg #[.int .u16 (s.x.type : Nat), .int .u64 (s.x.entry : Nat), .string s.x.interp, .slice s.At s.x.text.length s.ct, .slice s.Ad s.x.data.length s.cd, .int .u64 (s.x.more : Nat), .bool s.x.dynamic, .slice s.A1 s.x.dyn.needed.length s.c1, .string s.x.dyn.soname, .string s.x.dyn.run, .slice s.A2 s.x.dyn.syms.length s.c2, .slice s.A3 s.x.dyn.relas.length s.c3, .int .i64 s.x.apart]] w _
 clear hb1 hbl hxm h hf e1
 go_enter Tryz.func9, Tryz.ntmps9
 go_wp2_with fail
 refine ((zJ1 KM) _ (by rw [hs1]; omega) (zJ1 HxB)).mono ?_
 rintro e w1 ⟨rfl, hbw⟩
 have hb2 := (zJ1 Hb1).trans (hbw.mono (by rw [hs1]; omega))
 have hbx2 : Blk w1 (w.heap.size + 1) 66 s.l := (zJ1 Hbl).belowSz hbw
 have hs2 := hb2.size
 have hbws := hbw.size
 have Hb2 := zJ2 hb2
 have Hbx2 := zJ2 hbx2
 generalize ((w.alloc (.cells #[.int .u16 (s.x.type : Nat), .int .u64 (s.x.entry : Nat), .string s.x.interp, .slice s.At s.x.text.length s.ct, .slice s.Ad s.x.data.length s.cd, .int .u64 (s.x.more : Nat), .bool s.x.dynamic, .slice s.A1 s.x.dyn.needed.length s.c1, .string s.x.dyn.soname, .string s.x.dyn.run, .slice s.A2 s.x.dyn.syms.length s.c2, .slice s.A3 s.x.dyn.relas.length s.c3, .int .i64 s.x.apart] 31)).alloc (.cells #[.int .u16 (s.x.type : Nat), .int .u64 (s.x.entry : Nat), .string s.x.interp, .slice s.At s.x.text.length s.ct, .slice s.Ad s.x.data.length s.cd, .int .u64 (s.x.more : Nat), .bool s.x.dynamic, .slice s.A1 s.x.dyn.needed.length s.c1, .string s.x.dyn.soname, .string s.x.dyn.run, .slice s.A2 s.x.dyn.syms.length s.c2, .slice s.A3 s.x.dyn.relas.length s.c3, .int .i64 s.x.apart] 66)) = W1 at *
 clear KM HxB hbw Hb1 Hbl hb2 a0 a1 a2 a3 a4 a5 a6 a7 a8 a9 a10 a11 a12
 by_cases hmay : Mk.may s.x = 0
 case neg =>
  have hmk : Mk.make s.x = ([], Mk.may s.x) := by unfold Mk.make; rw [if_pos hmay]
  have Hmk := zJ2 hmk
  have hm1 : ((Mk.may s.x : Int) != 0) = true := by rw [bne_iff_ne]; exact hmay
  clear hmay hmk hbx2
  go_wp2_with fail
  go_ret2
  refine ⟨zJ1 Hb2, none, 0, 0, ?_, ?_⟩
  ·rw [zJ1 Hmk]; rfl
  ·rw [zJ1 Hmk]; exact World.ownsRow_nil _ _ _ _
 have HM := zJ2 (tJ1 hmay)
 rw [hmay]
 have Hmay := zJ2 hmay
 obtain ⟨a0, a1, a2, a3, a4, a5, a6, -⟩ := zJ6 hbx2
 clear hmay hbx2
 go_upto_region 6 with fail
 go_cut [6, 42, 43, 44] (fun mv rv lv iv wx => mv = .int .i64 2 /\ rv = .slice (some ⟨w1.heap.size, 0, none⟩) 4 4 /\ lv = .int .i64 4 /\ iv = .int .i64 0 /\ wx = w1.alloc (.cells #[.bool (Mk.isInterp s.x), .bool s.x.dynamic, .bool (Mk.isText s.x), .bool (Mk.isData s.x)] 4))
 case first =>
  have He1 := zJ2 (show Mk.isInterp s.x = !s.x.interp.toList.isEmpty by unfold Mk.isInterp; rw [zJi]; by_cases e : s.x.interp.size = 0 <;> simp [e])
  by_cases c1 : 0 < s.x.data.length
  ·have c1i : decide (0 < s.x.data.length) = true := decide_eq_true c1
   have He := zJ2 (show Mk.isData s.x = true by unfold Mk.isData; simp [c1])
   clear c1
   go_wp2_with fail
   go_meet
   case rel => exact ⟨rfl, rfl, rfl, rfl, by rw [zJ1 He, zJ1 He1]; rfl⟩
  ·have c1i : decide (0 < s.x.data.length) = false := decide_eq_false c1
   by_cases c2 : 0 < s.x.more
   ·have c2i : decide (0 < s.x.more) = true := decide_eq_true c2
    have He := zJ2 (show Mk.isData s.x = true by unfold Mk.isData; simp [c2])
    clear c1 c2
    go_wp2_with fail
    go_meet
    case rel => exact ⟨rfl, rfl, rfl, rfl, by rw [zJ1 He, zJ1 He1]; rfl⟩
   ·have c2i : decide (0 < s.x.more) = false := decide_eq_false c2
    have He := zJ2 (show Mk.isData s.x = false by unfold Mk.isData; simp [c1, c2])
    clear c1 c2
    go_wp2_with fail
    go_meet
    case rel => exact ⟨rfl, rfl, rfl, rfl, by rw [zJ1 He, zJ1 He1]; rfl⟩
 case rest =>
  obtain ⟨rfl, rfl, rfl, rfl, rfl⟩ := hcut
  obtain ⟨bl, hbl⟩ : ∃ bl, bl = [Mk.isInterp s.x, s.x.dynamic, Mk.isText s.x, Mk.isData s.x] := ⟨_, rfl⟩
  have hrd : Rd (w1.alloc (.cells #[.bool (Mk.isInterp s.x), .bool s.x.dynamic, .bool (Mk.isText s.x), .bool (Mk.isData s.x)] 4)) (w1.heap.size + 1) 1 (some ⟨w1.heap.size, 0, none⟩) 4 (bl.map Value.bool) := by rw [hbl]; exact Rd.rowF (n := 4) (size := 1) rfl
  have hll : bl.length = 4 := by rw [hbl]; rfl
  have Hmy := zJ2 (show 2 + cnt bl 4 = Mk.many s.x by rw [hbl]; exact cnt_many s.x)
  have hb3 := (zJ1 Hb2).trans ((zJ3 w1 (.cells #[.bool (Mk.isInterp s.x), .bool s.x.dynamic, .bool (Mk.isText s.x), .bool (Mk.isData s.x)] 4)).mono hs2)
  have hbx3 := (zJ1 Hbx2).belowSz (zJ3 w1 (.cells #[.bool (Mk.isInterp s.x), .bool s.x.dynamic, .bool (Mk.isText s.x), .bool (Mk.isData s.x)] 4))
  have Hrd := zJ2 hrd
  have Hll := zJ2 hll
  have Hb3 := zJ2 hb3
  have Hbx3 := zJ2 hbx3
  clear hbl hrd hll hb3 hbx3 Hb2 Hbx2 a0 a1 a2 a3 a4 a5 a6
  obtain ⟨br, hbr⟩ : ∃ br, w1.heap.size = br := ⟨_, rfl⟩
  rw [hbr] at Hrd
  rw [hbr]
  clear hbr
  generalize (w1.alloc (.cells #[.bool (Mk.isInterp s.x), .bool s.x.dynamic, .bool (Mk.isText s.x), .bool (Mk.isData s.x)] 4)) = W3 at *
  go_wp2_with fail
  go_loopg [6, 44] 4 (fun gk mv iv wr => ∃ j : Nat, gk = 4 - j /\ j <= 4 /\ iv = .int .i64 j /\ mv = .int .i64 ((2 + cnt bl j : Nat) : Int) /\ W3 = wr)
  case atStart => exact ⟨0, by omega, by omega, rfl, rfl, rfl⟩
  case round =>
  obtain ⟨j, hgk, hj, rfl, rfl, rfl⟩ := hrel
  have Hgk := zJ2 hgk
  have hcl := cnt_le bl j
  clear hgk
  by_cases hlt : j < 4
  ·obtain ⟨x, hx⟩ : ∃ x, bl[j]? = some x := ⟨_, List.getElem?_eq_getElem (by rw [zJ1 Hll]; exact hlt)⟩
   obtain ⟨b1, o1, hA, -, st⟩ := (zJ1 Hrd).at_ (k := j) (u := .bool x) (by simp [hx])
   injection hA with hA
   injection hA with hA1 hA2
   subst hA1 hA2
   rw [Nat.zero_add] at st
   have ilt : (j : Int) < (4 : Int) := by omega
   have Hc := zJ2 (cnt_step hx)
   clear hx
   cases x
   case false =>
    go_wp2_with fail
    go_roundg (4 - (j + 1))
    case measure => have := zJ1 Hgk; omega
    case rel => exact ⟨j + 1, rfl, by omega, by go_num, by rw [zJ1 Hc]; rfl, rfl⟩
   case true =>
    go_wp2_with fail
    go_roundg (4 - (j + 1))
    case measure => have := zJ1 Hgk; omega
    case rel => exact ⟨j + 1, rfl, by omega, by go_num, by rw [zJ1 Hc]; first | rfl | go_num, rfl⟩
  have hj4 : j = 4 := by omega
  subst hj4
  rw [zJ1 Hmy]
  clear hcl hlt hj Hrd Hll Hgk
  have ige : ¬ ((4 : Nat) : Int) < 4 := by omega
  obtain ⟨m, hm⟩ : ∃ m, Mk.many s.x = m := ⟨_, rfl⟩
  rw [hm] at hmany ⊢
  have Hm9 := zJ2 hm
  obtain ⟨i, hi, hz0, hz1, hz2⟩ := info_parts yJw
  have Hi := zJ2 hi
  have Hz0 := zJ2 hz0
  have Hz1 := zJ2 hz1
  have Hz2 := zJ2 hz2
  have hs3 := (zJ1 Hb3).size
  have hgl3 := (zJ1 Hbx3).lt
  have hwi : IntKind.i64.wrap (56 * (m : Int)) = 56 * (m : Int) := by rw [IntKind.wrap_i64]; omega
  have hwu : IntKind.u64.wrap (56 * (m : Int)) = 56 * (m : Int) := by rw [IntKind.wrap_u64]; omega
  clear hm hi hz0 hz1 hz2 Hmy
  go_wp2_with (at_make; refine wpList_make_full _ rfl _ _ 24 rfl w.heap.size 5 i (.int .u8 0) 1 Tryz.underlying24 (zJ1 Hi) (zJ1 Hz0) (zJ1 Hz1) _ _ _ _ (64 + 56 * m) rfl (by rfl) rfl (by rfl) (by rw [zJ1 Hz2]; omega) (by unfold maxLen; omega) hs3 ?_; intro w4 hown hgrow; have hb4 := (zJ1 Hb3).grown hgrow hs3 (fun k hk => by cases hk); rw [uJ7] at hown; have hbx4 := (zJ1 Hbx3).belowSz ((Below.refl _ _).grown hgrow (Nat.le_refl _) (fun k hk => by cases hk)); have HP0 := zJ2 (PmS.start hb4 hown hbx4 (fun e => by injection e with e; have h9 : W3.heap.size = w.heap.size + 1 := e; omega)); clear hown hgrow hb4 hbx4)
  generalize ((w4.alloc (.cells #[.slice (some ⟨W3.heap.size, 0, none⟩) (64 + 56 * m) (64 + 56 * m)] 71)).alloc (.cells #[.slice none 0 0] 72)) = W4 at *
  have hP0 := (zJ1 HP0).bind (show _ = Mk.front0 s.x by unfold Mk.front0; rw [zJ1 Hm9]; rfl)
  obtain ⟨rs0, hrs0⟩ : ∃ r : List Mk.Row, [] = r := ⟨_, rfl⟩
  obtain ⟨Al, hAl⟩ : ∃ A : Option Addr, none = A := ⟨_, rfl⟩
  obtain ⟨cl, hcl⟩ : ∃ c : Nat, 0 = c := ⟨_, rfl⟩
  obtain ⟨H, hH⟩ : ∃ H, [(w.heap.size + 1, 66, s.l)] = H := ⟨_, rfl⟩
  obtain ⟨gF, hgF⟩ : ∃ g, w4.heap.size = g := ⟨_, rfl⟩
  obtain ⟨gl, hgl⟩ : ∃ g, w4.heap.size + 1 = g := ⟨_, rfl⟩
  obtain ⟨gx, hgx0⟩ : ∃ g, w.heap.size + 1 = g := ⟨_, rfl⟩
  have hP1 : PmS gF gl w W4 (some ⟨W3.heap.size, 0, none⟩) (64 + 56 * m) (64 + 56 * m) (Mk.front0 s.x) Al cl rs0 H none 0 0 [] := by
   rw [<- hrs0, <- hAl, <- hcl, <- hH, <- hgF, <- hgl]
   exact hP0
  have hgx : (gx, 66, s.l) ∈ H := by rw [<- hH, <- hgx0]; exact List.mem_singleton.2 rfl
  rw [hgl, hgF, hgx0]
  have HP1 := zJ2 hP1
  have hrs0l : rs0.length = 0 := by rw [<- hrs0]; rfl
  have Hrs0 := zJ2 hrs0
  have hrl0 : rs0.length <= 1 := by omega
  have hbs4 : Mk.base s.x <= 4194304 := by unfold Mk.base; split <;> omega
  obtain ⟨A0, hA0⟩ : ∃ A : Option Addr, (some (⟨W3.heap.size, 0, none⟩ : Addr)) = A := ⟨_, rfl⟩
  obtain ⟨n0, hn0⟩ : ∃ n, 64 + 56 * m = n := ⟨_, rfl⟩
  rw [hA0, hn0] at HP1
  clear hP0 hP1 HP0 hrs0 hAl hcl hH hgF hgl hgx0 hrs0l hA0 hn0 Hb3 Hbx3 hgl3 hs3 ige Hi Hz0 Hz1 Hz2
  obtain ⟨r0, hr0⟩ : ∃ r, Mk.inRow s.x 6 64 (56 * m) 8 = r := ⟨_, rfl⟩
  have Kr0 : Hid (∀ W, Blk W gx 66 s.l -> Calls Tryz.prog 26 #[.int .u64 6, .int .u64 64, .int .u64 (56 * (m : Int)), .int .u64 8, .pointer (some ⟨gx, 0, none⟩)] W fun e w' => e = .returned (.agg #[.int .u64 (r0.kind : Nat), .int .u64 (r0.flags : Nat), .int .u64 (r0.off : Nat), .int .u64 (r0.addr : Nat), .int .u64 (r0.fsz : Nat), .int .u64 (r0.msz : Nat), .int .u64 (r0.align : Nat)]) /\ Below W.heap.size W w') := zJ2 (fun W hW => by have h9 := uJv s gx 6 64 (56 * m) 8 W hW (by omega); rw [hr0] at h9; exact h9)
  have Hr0 := zJ2 hr0
  clear hr0
  go_cut [] (fun wx => ∃ (Al : Option Addr) (cl : Nat), PmS gF gl w wx A0 n0 n0 (Mk.front0 s.x) Al cl (rs0 ++ [r0]) H none 0 0 [])
  case first =>
   refine wp_region_noPanic ?_
   refine wp_region_held_drew (S := fun _ => True) (by kernel_rfl) (trivial) (fun HS0 => ?_)
   refine takeD (i := 1) (d := some 60) (v := ?_) rfl rfl (by kernel_rfl) (by kernel_rfl) (by kernel_rfl) (fun _ _ _ h => h) (Or.inl ⟨by rfl, ?y1⟩) HS0 ?_
   case y1 => (intro w' hSw; (try dsimp only at hSw); go_simp; (try with_reducible rfl))
   simp only [Act.put, List.setIfInBounds_toArray, List.set_cons_zero, List.set_cons_succ]
   refine takeD (i := 2) (d := some 61) (v := ?_) rfl rfl (by kernel_rfl) (by kernel_rfl) (by kernel_rfl) (fun _ _ _ h => h) (Or.inl ⟨by rfl, ?y2⟩) HS0 ?_
   case y2 => (intro w' hSw; (try dsimp only at hSw); go_simp; (try with_reducible rfl))
   simp only [Act.put, List.setIfInBounds_toArray, List.set_cons_zero, List.set_cons_succ]
   refine takeD (i := 3) (d := some 62) (v := .int .i64 (56 * (m : Int))) rfl rfl (by kernel_rfl) (by kernel_rfl) (by kernel_rfl) (fun _ _ _ h => h) (Or.inl ⟨by rfl, ?y3⟩) HS0 ?_
   case y3 => (intro w' hSw; (try dsimp only at hSw); go_simp; (try rw [hwi]))
   simp only [Act.put, List.setIfInBounds_toArray, List.set_cons_zero, List.set_cons_succ]
   refine takeD (i := 4) (d := some 63) (v := .int .u64 (56 * (m : Int))) rfl rfl (by kernel_rfl) (by kernel_rfl) (by kernel_rfl) (fun _ _ _ h => h) (Or.inl ⟨by rfl, ?y4⟩) HS0 ?_
   case y4 => (intro w' hSw; (try dsimp only at hSw); go_simp; (try rw [hwu]))
   simp only [Act.put, List.setIfInBounds_toArray, List.set_cons_zero, List.set_cons_succ]
   refine wpAnyH_ready (rs := [0, 5]) (by kernel_rfl) (by simp) ?_
   refine AllReadyH.cons (i := 0) rfl (fun K hK => ?wayL) (AllReadyH.cons (i := 5) rfl (fun K hK => ?wayN) AllReadyH.nil)
   case wayL =>
    rw [if_pos (by rfl)]
    have zl := (show W4.drew.cell? ⟨gl, 0, none⟩ = some (.slice Al rs0.length cl) from (zJ1 HP1).lb.cell (i := 0) rfl)
    go_simp
    refine hK.out _ _ (HS0) (fun hHeld => ?_)
    clear hK K HS0
    have HS0 := hHeld
    clear hHeld
    (try simp only [Act.put, List.setIfInBounds_toArray, List.set_cons_zero, List.set_cons_succ])
    clear zl
    refine wpAnyH_ready (rs := [5]) (by kernel_rfl) (by simp) ?_
    refine AllReadyH.cons (i := 5) rfl (fun K hK => ?_) AllReadyH.nil
    rw [if_pos (by rfl)]
    go_simp
    go_at_call 26
    refine ((zJ1 Kr0) _ (show Blk W4.drew gx 66 s.l from ((zJ1 HP1).held _ hgx).1)).mono ?_
    rintro e w7 ⟨rfl, hb7⟩
    have hP7 := (zJ1 HP1).calm (zJn hb7)
    refine hK.out _ _ (trivial) (fun hHeld => ?_)
    clear hK K HS0
    have HS0 := hHeld
    clear hHeld
    (try simp only [Act.put, List.setIfInBounds_toArray, List.set_cons_zero, List.set_cons_succ])
    refine wpAnyH_ready (rs := [6]) (by kernel_rfl) (by simp) ?_
    refine AllReadyH.cons (i := 6) rfl (fun K hK => ?_) AllReadyH.nil
    rw [if_pos (by rfl)]
    go_simp
    refine hK.out _ _ (trivial) (fun hHeld => ?_)
    clear hK K HS0
    have HS0 := hHeld
    clear hHeld
    (try simp only [Act.put, List.setIfInBounds_toArray, List.set_cons_zero, List.set_cons_succ])
    refine wpAnyH_ready (rs := [7]) (by kernel_rfl) (by simp) ?_
    refine AllReadyH.cons (i := 7) rfl (fun K hK => ?_) AllReadyH.nil
    rw [if_pos (by rfl)]
    refine yJ1 yJu _ _ rfl w.heap.size (.slice Al rs0.length cl) rs0.length (rowC rs0) rfl hP7.row _ _ rfl (by simp) rfl (yJ5 r0) (by omega) hP7.size ?_
    intro A5 c5 w5 ho5 hg5 ha5
    have hP9 := hP7.push r0 ho5 hg5 ha5
    have zs := (hP7.midL hg5).cell (i := 0) rfl
    have zf := (hP7.midL hg5).free 0
    show K (Act.put _ (some 66) _) _
    refine hK.out _ _ (trivial) (fun hHeld => ?_)
    clear hK K HS0
    have HS0 := hHeld
    clear hHeld
    (try simp only [Act.put, List.setIfInBounds_toArray, List.set_cons_zero, List.set_cons_succ])
    refine wpAnyH_ready (rs := [8]) (by kernel_rfl) (by simp) ?_
    refine AllReadyH.cons (i := 8) rfl (fun K hK => ?_) AllReadyH.nil
    rw [if_pos (by rfl)]
    go_simp
    refine hK.out _ _ (trivial) (fun hHeld => ?_)
    clear hK K HS0
    have HS0 := hHeld
    clear hHeld
    (try simp only [Act.put, List.setIfInBounds_toArray, List.set_cons_zero, List.set_cons_succ])
    refine wpAnyH_done (by kernel_rfl) ?_ _
    refine NoPanic.normal ?_
    go_wp2_with fail
    go_meet
    case rel => exact ⟨A5, c5, hP9⟩
   case wayN =>
    rw [if_pos (by rfl)]
    go_simp
    go_at_call 26
    refine ((zJ1 Kr0) _ (show Blk W4.drew gx 66 s.l from ((zJ1 HP1).held _ hgx).1)).mono ?_
    rintro e w7 ⟨rfl, hb7⟩
    have hP7 := (zJ1 HP1).calm (zJn hb7)
    refine hK.out _ _ (trivial) (fun hHeld => ?_)
    clear hK K HS0
    have HS0 := hHeld
    clear hHeld
    (try simp only [Act.put, List.setIfInBounds_toArray, List.set_cons_zero, List.set_cons_succ])
    refine wpAnyH_ready (rs := [0, 6]) (by kernel_rfl) (by simp) ?_
    refine AllReadyH.cons (i := 0) rfl (fun K hK => ?wayL) (AllReadyH.cons (i := 6) rfl (fun K hK => ?wayN) AllReadyH.nil)
    case wayL =>
     rw [if_pos (by rfl)]
     have zl := hP7.lb.cell (i := 0) rfl
     go_simp
     refine hK.out _ _ (HS0) (fun hHeld => ?_)
     clear hK K HS0
     have HS0 := hHeld
     clear hHeld
     (try simp only [Act.put, List.setIfInBounds_toArray, List.set_cons_zero, List.set_cons_succ])
     clear zl
     refine wpAnyH_ready (rs := [6]) (by kernel_rfl) (by simp) ?_
     refine AllReadyH.cons (i := 6) rfl (fun K hK => ?_) AllReadyH.nil
     rw [if_pos (by rfl)]
     go_simp
     refine hK.out _ _ (trivial) (fun hHeld => ?_)
     clear hK K HS0
     have HS0 := hHeld
     clear hHeld
     (try simp only [Act.put, List.setIfInBounds_toArray, List.set_cons_zero, List.set_cons_succ])
     refine wpAnyH_ready (rs := [7]) (by kernel_rfl) (by simp) ?_
     refine AllReadyH.cons (i := 7) rfl (fun K hK => ?_) AllReadyH.nil
     rw [if_pos (by rfl)]
     refine yJ1 yJu _ _ rfl w.heap.size (.slice Al rs0.length cl) rs0.length (rowC rs0) rfl hP7.row _ _ rfl (by simp) rfl (yJ5 r0) (by omega) hP7.size ?_
     intro A5 c5 w5 ho5 hg5 ha5
     have hP9 := hP7.push r0 ho5 hg5 ha5
     have zs := (hP7.midL hg5).cell (i := 0) rfl
     have zf := (hP7.midL hg5).free 0
     show K (Act.put _ (some 66) _) _
     refine hK.out _ _ (trivial) (fun hHeld => ?_)
     clear hK K HS0
     have HS0 := hHeld
     clear hHeld
     (try simp only [Act.put, List.setIfInBounds_toArray, List.set_cons_zero, List.set_cons_succ])
     refine wpAnyH_ready (rs := [8]) (by kernel_rfl) (by simp) ?_
     refine AllReadyH.cons (i := 8) rfl (fun K hK => ?_) AllReadyH.nil
     rw [if_pos (by rfl)]
     go_simp
     refine hK.out _ _ (trivial) (fun hHeld => ?_)
     clear hK K HS0
     have HS0 := hHeld
     clear hHeld
     (try simp only [Act.put, List.setIfInBounds_toArray, List.set_cons_zero, List.set_cons_succ])
     refine wpAnyH_done (by kernel_rfl) ?_ _
     refine NoPanic.normal ?_
     go_wp2_with fail
     go_meet
     case rel => exact ⟨A5, c5, hP9⟩
    case wayN =>
     rw [if_pos (by rfl)]
     go_simp
     refine hK.out _ _ (trivial) (fun hHeld => ?_)
     clear hK K HS0
     have HS0 := hHeld
     clear hHeld
     (try simp only [Act.put, List.setIfInBounds_toArray, List.set_cons_zero, List.set_cons_succ])
     refine wpAnyH_ready (rs := [0]) (by kernel_rfl) (by simp) ?_
     refine AllReadyH.cons (i := 0) rfl (fun K hK => ?_) AllReadyH.nil
     rw [if_pos (by rfl)]
     have zl := fun c => (hP7.calm (zJ3 w7 c)).lb.cell (i := 0) rfl
     go_simp
     refine hK.out _ _ (HS0) (fun hHeld => ?_)
     clear hK K HS0
     have HS0 := hHeld
     clear hHeld
     (try simp only [Act.put, List.setIfInBounds_toArray, List.set_cons_zero, List.set_cons_succ])
     clear zl
     refine wpAnyH_ready (rs := [7]) (by kernel_rfl) (by simp) ?_
     refine AllReadyH.cons (i := 7) rfl (fun K hK => ?_) AllReadyH.nil
     rw [if_pos (by rfl)]
     refine yJ1 yJu _ _ rfl w.heap.size (.slice Al rs0.length cl) rs0.length (rowC rs0) rfl hP7.row _ _ rfl (by simp) rfl (yJ5 r0) (by omega) hP7.size ?_
     intro A5 c5 w5 ho5 hg5 ha5
     have hP9 := hP7.push r0 ho5 hg5 ha5
     have zs := (hP7.midL hg5).cell (i := 0) rfl
     have zf := (hP7.midL hg5).free 0
     show K (Act.put _ (some 66) _) _
     refine hK.out _ _ (trivial) (fun hHeld => ?_)
     clear hK K HS0
     have HS0 := hHeld
     clear hHeld
     (try simp only [Act.put, List.setIfInBounds_toArray, List.set_cons_zero, List.set_cons_succ])
     refine wpAnyH_ready (rs := [8]) (by kernel_rfl) (by simp) ?_
     refine AllReadyH.cons (i := 8) rfl (fun K hK => ?_) AllReadyH.nil
     rw [if_pos (by rfl)]
     go_simp
     refine hK.out _ _ (trivial) (fun hHeld => ?_)
     clear hK K HS0
     have HS0 := hHeld
     clear hHeld
     (try simp only [Act.put, List.setIfInBounds_toArray, List.set_cons_zero, List.set_cons_succ])
     refine wpAnyH_done (by kernel_rfl) ?_ _
     refine NoPanic.normal ?_
     go_wp2_with fail
     go_meet
     case rel => exact ⟨A5, c5, hP9⟩
  case rest =>
   obtain ⟨Al2, cl2, hP⟩ := hcut
   have hP2 : PmS gF gl w wc A0 n0 n0 (Mk.front0 s.x) Al2 cl2 (Mk.rowPhdr s.x) H none 0 0 [] := by
    have e9 : rs0 ++ [r0] = Mk.rowPhdr s.x := by rw [<- zJ1 Hrs0, <- zJ1 Hr0, <- zJ1 Hm9]; rfl
    rw [<- e9]
    exact hP
   obtain ⟨-, -, t2, -⟩ := zJ6 (hP2.held _ hgx).1
   have HP2 := zJ2 hP2
   clear hP hP2 Kr0 HP1 hwi hwu
   go_upto_if 69 with fail
   obtain ⟨bi, hbi⟩ : ∃ bi, s.x.interp.toList.isEmpty = bi := ⟨_, rfl⟩
   rw [hbi]
   have Hbi := zJ2 hbi
   clear hbi
   go_cut [] (fun wx => ∃ (Af : Option Addr) (nf cf : Nat) (Al : Option Addr) (cl : Nat) (rs : List Mk.Row), PmS gF gl w wx Af nf cf (Mk.front1 s.x) Al cl rs H none 0 0 [] /\ rs = Mk.rowPhdr s.x ++ Mk.rowInterp s.x)
   case first =>
    cases bi
    case true =>
     have hi : s.x.interp.size = 0 := by have h9 := zJ1 Hbi; rw [zJi, decide_eq_true_eq] at h9; exact h9
     have hii : Mk.isInterp s.x = false := by unfold Mk.isInterp; simp [hi]
     have He := zJ2 (show Mk.front1 s.x = Mk.front0 s.x /\ Mk.rowInterp s.x = [] by unfold Mk.front1 Mk.rowInterp; rw [hii]; exact ⟨rfl, rfl⟩)
     clear hi hii
     go_wp2_with fail
     go_meet
     case rel => exact ⟨A0, n0, n0, Al2, cl2, _, by rw [(zJ1 He).1]; exact zJ1 HP2, by rw [(zJ1 He).2, List.append_nil]⟩
    case false =>
     have hi : s.x.interp.size ≠ 0 := by have h9 := zJ1 Hbi; rw [zJi, decide_eq_false_iff_not] at h9; exact h9
     have hii : Mk.isInterp s.x = true := by unfold Mk.isInterp; simp [hi]
     have He := zJ2 (show Mk.front1 s.x = Mk.pad 8 (Mk.front0 s.x) ++ Mk.interpB s.x /\ Mk.rowInterp s.x = [Mk.inRow s.x 3 (Mk.pad 8 (Mk.front0 s.x)).length (s.x.interp.size + 1) 1] by unfold Mk.front1 Mk.rowInterp; rw [hii]; exact ⟨rfl, rfl⟩)
     clear hi hii
     go_wp2_with fail
     obtain ⟨ss, hss⟩ : ∃ ss, s.x.interp ++ (⟨#[0]⟩ : ByteArray) = ss := ⟨_, rfl⟩
     rw [hss]
     have hsl : ss.size = s.x.interp.size + 1 := by rw [<- hss, ByteArray.size_append]; rfl
     have hsd : ss.data.toList = Mk.interpB s.x := by rw [<- hss]; unfold Mk.interpB; simp
     have hcv := run_bytes_of_string (P := Tryz.prog) wc 9 24 5 ss Tryz.underlying9 Tryz.underlying24 Tryz.underlying5
     have hmk := OwnM.conv wc ss (by unfold maxLen; omega)
     have hv1 : Below wc.heap.size wc (wc.drew.alloc (.cells (bytesRow ss (grownCap wc ss.size 0 5)) 5 ((bytesRow ss (grownCap wc ss.size 0 5)).size, (bytesRow ss (grownCap wc ss.size 0 5)).size + 1))) := (zJ5 (Below.refl _ _)).alloc (Nat.le_refl _) _
     rw [hsd] at hmk
     generalize (wc.drew.alloc (.cells (bytesRow ss (grownCap wc ss.size 0 5)) 5 ((bytesRow ss (grownCap wc ss.size 0 5)).size, (bytesRow ss (grownCap wc ss.size 0 5)).size + 1))) = v1 at *
     generalize grownCap wc ss.size 0 5 = cc at *
     obtain ⟨sz, hsz⟩ : ∃ sz, ss.size = sz := ⟨_, rfl⟩
     rw [hsz] at hmk hcv hsl
     have hP3 := (zJ1 HP2).calm hv1
     have hfr0 := yJ9 s.x
     have hpl := xJj 8 (by omega) (Mk.front0 s.x)
     have hn0 := hP3.fi.len
     have hin4 : (Mk.front0 s.x).length <= 4294967296 := by have := zJ1 Hm9; omega
     have KP := zJ2 (fun cb : Nat => pput_any _ gF 0 _ w.heap.size A0 n0 n0 (Mk.front0 s.x) _ sz cb (Mk.interpB s.x) v1 hP3.fi hP3.size (by omega) (by omega) (hmk.rd) (by obtain ⟨g, e9, h4, -⟩ := hmk.at_; rw [e9]; intro e; injection e with e; have h9 : g = gF := e; have := (zJ1 HP2).fi.blk.lt; omega) (by obtain ⟨g, e9, h4, -⟩ := hmk.at_; rw [e9]; intro k hk e; injection hk with hk; have h9 : g = k := hk; have := ((zJ1 HP2).fi.lt k e).2; omega))
     have HP3 := zJ2 hP3
     have Hsl := zJ2 hsl
     clear hP3 hmk hsd hss hv1 hfr0 hn0 hsz hsl
     rw [hcv]
     clear hcv
     go_wp2_with fail
     refine ((zJ1 KP) _).mono ?_
     rintro e w5 ⟨A5, n5, c5, rfl, hE⟩
     have hP5 := (zJ1 HP3).front hE
     rw [<- (zJ1 He).1] at hP5
     obtain ⟨p0, hp0⟩ : ∃ p0, (Mk.pad 8 (Mk.front0 s.x)).length = p0 := ⟨_, rfl⟩
     rw [hp0] at hpl ⊢
     have hpb : p0 <= 4294967296 := by have := yJ9 s.x; have := zJ1 Hm9; omega
     have Hp0 := zJ2 hp0
     obtain ⟨r2, hr2⟩ : ∃ r2, Mk.rowPhdr s.x = r2 := ⟨_, rfl⟩
     have hr2l : r2.length <= 1 := by rw [<- hr2]; exact Nat.le_refl _
     rw [hr2] at hP5
     have Hr2 := zJ2 hr2
     obtain ⟨-, -, t2, -⟩ := zJ6 (hP5.held _ hgx).1
     have HP5 := zJ2 hP5
     obtain ⟨iz, hiz⟩ : ∃ iz, s.x.interp.size = iz := ⟨_, rfl⟩
     have Hiz := zJ2 hiz
     rw [hiz] at hin
     have hw1 : IntKind.i64.wrap ((iz : Int) + 1) = (iz : Int) + 1 := by rw [IntKind.wrap_i64]; omega
     have hw2 : IntKind.u64.wrap ((iz : Int) + 1) = (iz : Int) + 1 := by rw [IntKind.wrap_u64]; omega
     obtain ⟨Al, hAl⟩ : ∃ Al, Al2 = Al := ⟨_, rfl⟩
     obtain ⟨cl, hcl⟩ : ∃ cl, cl2 = cl := ⟨_, rfl⟩
     rw [hAl, hcl] at HP5
     clear hE KP hp0 hr2 hP5 HP3 hiz HP2 hAl hcl hpl
     go_wp2_with fail
     obtain ⟨r3, hr3⟩ : ∃ r, Mk.inRow s.x 3 p0 (iz + 1) 1 = r := ⟨_, rfl⟩
     have Kr3 : Hid (∀ W, Blk W gx 66 s.l -> Calls Tryz.prog 26 #[.int .u64 3, .int .u64 (p0 : Nat), .int .u64 ((iz : Int) + 1), .int .u64 1, .pointer (some ⟨gx, 0, none⟩)] W fun e w' => e = .returned (.agg #[.int .u64 (r3.kind : Nat), .int .u64 (r3.flags : Nat), .int .u64 (r3.off : Nat), .int .u64 (r3.addr : Nat), .int .u64 (r3.fsz : Nat), .int .u64 (r3.msz : Nat), .int .u64 (r3.align : Nat)]) /\ Below W.heap.size W w') := zJ2 (fun W hW => by have h9 := uJv s gx 3 p0 (iz + 1) 1 W hW (by omega); rw [hr3] at h9; exact h9)
     have Hr3 := zJ2 hr3
     clear hr3
     refine wp_region_noPanic ?_
     refine wp_region_held_drew (S := fun W => W.cell? ⟨gx, 2, none⟩ = some (.string s.x.interp)) (by kernel_rfl) (t2) (fun HS0 => ?_)
     refine takeD (i := 1) (d := some 77) (v := ?_) rfl rfl (by kernel_rfl) (by kernel_rfl) (by kernel_rfl) (fun _ _ _ h => h) (Or.inl ⟨by rfl, ?y1⟩) HS0 ?_
     case y1 => (intro w' hSw; (try dsimp only at hSw); go_simp; (try with_reducible rfl))
     simp only [Act.put, List.setIfInBounds_toArray, List.set_cons_zero, List.set_cons_succ]
     refine takeD (i := 2) (d := some 78) (v := ?_) rfl rfl (by kernel_rfl) (by kernel_rfl) (by kernel_rfl) (fun _ _ _ h => h) (Or.inl ⟨by rfl, ?y2⟩) HS0 ?_
     case y2 => (intro w' hSw; (try dsimp only at hSw); go_simp; (try with_reducible rfl))
     simp only [Act.put, List.setIfInBounds_toArray, List.set_cons_zero, List.set_cons_succ]
     refine takeD (i := 3) (d := some 79) (v := ?_) rfl rfl (by kernel_rfl) (by kernel_rfl) (by kernel_rfl) (fun _ _ _ h => h) (Or.inl ⟨by rfl, ?y3⟩) HS0 ?_
     case y3 => (intro w' hSw; (try dsimp only at hSw); go_simp; (try with_reducible rfl))
     simp only [Act.put, List.setIfInBounds_toArray, List.set_cons_zero, List.set_cons_succ]
     refine takeD (i := 4) (d := some 80) (v := ?_) rfl rfl (by kernel_rfl) (by kernel_rfl) (by kernel_rfl) (fun _ _ _ h => h) (Or.inl ⟨by rfl, ?y4⟩) HS0 ?_
     case y4 => (intro w' hSw; (try dsimp only at hSw); go_simp; (try with_reducible rfl))
     simp only [Act.put, List.setIfInBounds_toArray, List.set_cons_zero, List.set_cons_succ]
     refine takeD (i := 5) (d := some 81) (v := .int .i64 (iz : Nat)) rfl rfl (by kernel_rfl) (by kernel_rfl) (by kernel_rfl) (fun _ _ _ h => h) (Or.inl ⟨by rfl, ?y5⟩) HS0 ?_
     case y5 => (intro w' hSw; (try dsimp only at hSw); go_simp; (try rw [zJ1 Hiz]))
     simp only [Act.put, List.setIfInBounds_toArray, List.set_cons_zero, List.set_cons_succ]
     refine takeD (i := 6) (d := some 82) (v := .int .i64 ((iz : Int) + 1)) rfl rfl (by kernel_rfl) (by kernel_rfl) (by kernel_rfl) (fun _ _ _ h => h) (Or.inl ⟨by rfl, ?y6⟩) HS0 ?_
     case y6 => (intro w' hSw; (try dsimp only at hSw); go_simp; (try rw [hw1]))
     simp only [Act.put, List.setIfInBounds_toArray, List.set_cons_zero, List.set_cons_succ]
     refine takeD (i := 7) (d := some 83) (v := .int .u64 ((iz : Int) + 1)) rfl rfl (by kernel_rfl) (by kernel_rfl) (by kernel_rfl) (fun _ _ _ h => h) (Or.inl ⟨by rfl, ?y7⟩) HS0 ?_
     case y7 => (intro w' hSw; (try dsimp only at hSw); go_simp; (try rw [hw2]))
     simp only [Act.put, List.setIfInBounds_toArray, List.set_cons_zero, List.set_cons_succ]
     refine wpAnyH_ready (rs := [0, 8]) (by kernel_rfl) (by simp) ?_
     refine AllReadyH.cons (i := 0) rfl (fun K hK => ?wayL) (AllReadyH.cons (i := 8) rfl (fun K hK => ?wayN) AllReadyH.nil)
     case wayL =>
      rw [if_pos (by rfl)]
      have zl := (show w5.drew.cell? ⟨gl, 0, none⟩ = some (.slice Al r2.length cl) from (zJ1 HP5).lb.cell (i := 0) rfl)
      go_simp
      refine hK.out _ _ (HS0) (fun hHeld => ?_)
      clear hK K HS0
      have HS0 := hHeld
      clear hHeld
      (try simp only [Act.put, List.setIfInBounds_toArray, List.set_cons_zero, List.set_cons_succ])
      clear zl
      refine wpAnyH_ready (rs := [8]) (by kernel_rfl) (by simp) ?_
      refine AllReadyH.cons (i := 8) rfl (fun K hK => ?_) AllReadyH.nil
      rw [if_pos (by rfl)]
      go_simp
      go_at_call 26
      refine ((zJ1 Kr3) _ (show Blk w5.drew gx 66 s.l from ((zJ1 HP5).held _ hgx).1)).mono ?_
      rintro e w7 ⟨rfl, hb7⟩
      have hP7 := (zJ1 HP5).calm (zJn hb7)
      refine hK.out _ _ (hP7.cell hgx (i := 2) rfl) (fun hHeld => ?_)
      clear hK K HS0
      have HS0 := hHeld
      clear hHeld
      (try simp only [Act.put, List.setIfInBounds_toArray, List.set_cons_zero, List.set_cons_succ])
      refine wpAnyH_ready (rs := [9]) (by kernel_rfl) (by simp) ?_
      refine AllReadyH.cons (i := 9) rfl (fun K hK => ?_) AllReadyH.nil
      rw [if_pos (by rfl)]
      go_simp
      refine hK.out _ _ ((hP7.calm (zJ3 _ _)).cell hgx (i := 2) rfl) (fun hHeld => ?_)
      clear hK K HS0
      have HS0 := hHeld
      clear hHeld
      (try simp only [Act.put, List.setIfInBounds_toArray, List.set_cons_zero, List.set_cons_succ])
      refine wpAnyH_ready (rs := [10]) (by kernel_rfl) (by simp) ?_
      refine AllReadyH.cons (i := 10) rfl (fun K hK => ?_) AllReadyH.nil
      rw [if_pos (by rfl)]
      refine yJ1 yJu _ _ rfl w.heap.size (.slice Al r2.length cl) r2.length (rowC r2) rfl hP7.row _ _ rfl (by simp) rfl (yJ5 r3) (by omega) hP7.size ?_
      intro A9p c9p w9 ho5 hg5 ha5
      have hP9 := hP7.push r3 ho5 hg5 ha5
      have zs := (hP7.midL hg5).cell (i := 0) rfl
      have zf := (hP7.midL hg5).free 0
      show K (Act.put _ (some 86) _) _
      refine hK.out _ _ ((hP7.midBlk hg5 hgx).cell (i := 2) rfl) (fun hHeld => ?_)
      clear hK K HS0
      have HS0 := hHeld
      clear hHeld
      (try simp only [Act.put, List.setIfInBounds_toArray, List.set_cons_zero, List.set_cons_succ])
      refine wpAnyH_ready (rs := [11]) (by kernel_rfl) (by simp) ?_
      refine AllReadyH.cons (i := 11) rfl (fun K hK => ?_) AllReadyH.nil
      rw [if_pos (by rfl)]
      go_simp
      refine hK.out _ _ (hP9.cell hgx (i := 2) rfl) (fun hHeld => ?_)
      clear hK K HS0
      have HS0 := hHeld
      clear hHeld
      (try simp only [Act.put, List.setIfInBounds_toArray, List.set_cons_zero, List.set_cons_succ])
      refine wpAnyH_done (by kernel_rfl) ?_ _
      refine NoPanic.normal ?_
      go_wp2_with fail
      go_meet
      case rel => exact ⟨A5, n5, c5, A9p, c9p, _, hP9, by rw [(zJ1 He).2, zJ1 Hr2, <- zJ1 Hr3, zJ1 Hp0, zJ1 Hiz]⟩
     case wayN =>
      rw [if_pos (by rfl)]
      go_simp
      go_at_call 26
      refine ((zJ1 Kr3) _ (show Blk w5.drew gx 66 s.l from ((zJ1 HP5).held _ hgx).1)).mono ?_
      rintro e w7 ⟨rfl, hb7⟩
      have hP7 := (zJ1 HP5).calm (zJn hb7)
      refine hK.out _ _ (hP7.cell hgx (i := 2) rfl) (fun hHeld => ?_)
      clear hK K HS0
      have HS0 := hHeld
      clear hHeld
      (try simp only [Act.put, List.setIfInBounds_toArray, List.set_cons_zero, List.set_cons_succ])
      refine wpAnyH_ready (rs := [0, 9]) (by kernel_rfl) (by simp) ?_
      refine AllReadyH.cons (i := 0) rfl (fun K hK => ?wayL) (AllReadyH.cons (i := 9) rfl (fun K hK => ?wayN) AllReadyH.nil)
      case wayL =>
       rw [if_pos (by rfl)]
       have zl := hP7.lb.cell (i := 0) rfl
       go_simp
       refine hK.out _ _ (HS0) (fun hHeld => ?_)
       clear hK K HS0
       have HS0 := hHeld
       clear hHeld
       (try simp only [Act.put, List.setIfInBounds_toArray, List.set_cons_zero, List.set_cons_succ])
       clear zl
       refine wpAnyH_ready (rs := [9]) (by kernel_rfl) (by simp) ?_
       refine AllReadyH.cons (i := 9) rfl (fun K hK => ?_) AllReadyH.nil
       rw [if_pos (by rfl)]
       go_simp
       refine hK.out _ _ ((hP7.calm (zJ3 _ _)).cell hgx (i := 2) rfl) (fun hHeld => ?_)
       clear hK K HS0
       have HS0 := hHeld
       clear hHeld
       (try simp only [Act.put, List.setIfInBounds_toArray, List.set_cons_zero, List.set_cons_succ])
       refine wpAnyH_ready (rs := [10]) (by kernel_rfl) (by simp) ?_
       refine AllReadyH.cons (i := 10) rfl (fun K hK => ?_) AllReadyH.nil
       rw [if_pos (by rfl)]
       refine yJ1 yJu _ _ rfl w.heap.size (.slice Al r2.length cl) r2.length (rowC r2) rfl hP7.row _ _ rfl (by simp) rfl (yJ5 r3) (by omega) hP7.size ?_
       intro A9p c9p w9 ho5 hg5 ha5
       have hP9 := hP7.push r3 ho5 hg5 ha5
       have zs := (hP7.midL hg5).cell (i := 0) rfl
       have zf := (hP7.midL hg5).free 0
       show K (Act.put _ (some 86) _) _
       refine hK.out _ _ ((hP7.midBlk hg5 hgx).cell (i := 2) rfl) (fun hHeld => ?_)
       clear hK K HS0
       have HS0 := hHeld
       clear hHeld
       (try simp only [Act.put, List.setIfInBounds_toArray, List.set_cons_zero, List.set_cons_succ])
       refine wpAnyH_ready (rs := [11]) (by kernel_rfl) (by simp) ?_
       refine AllReadyH.cons (i := 11) rfl (fun K hK => ?_) AllReadyH.nil
       rw [if_pos (by rfl)]
       go_simp
       refine hK.out _ _ (hP9.cell hgx (i := 2) rfl) (fun hHeld => ?_)
       clear hK K HS0
       have HS0 := hHeld
       clear hHeld
       (try simp only [Act.put, List.setIfInBounds_toArray, List.set_cons_zero, List.set_cons_succ])
       refine wpAnyH_done (by kernel_rfl) ?_ _
       refine NoPanic.normal ?_
       go_wp2_with fail
       go_meet
       case rel => exact ⟨A5, n5, c5, A9p, c9p, _, hP9, by rw [(zJ1 He).2, zJ1 Hr2, <- zJ1 Hr3, zJ1 Hp0, zJ1 Hiz]⟩
      case wayN =>
       rw [if_pos (by rfl)]
       go_simp
       refine hK.out _ _ ((hP7.calm (zJ3 _ _)).cell hgx (i := 2) rfl) (fun hHeld => ?_)
       clear hK K HS0
       have HS0 := hHeld
       clear hHeld
       (try simp only [Act.put, List.setIfInBounds_toArray, List.set_cons_zero, List.set_cons_succ])
       refine wpAnyH_ready (rs := [0]) (by kernel_rfl) (by simp) ?_
       refine AllReadyH.cons (i := 0) rfl (fun K hK => ?_) AllReadyH.nil
       rw [if_pos (by rfl)]
       have zl := fun c => (hP7.calm (zJ3 w7 c)).lb.cell (i := 0) rfl
       go_simp
       refine hK.out _ _ (HS0) (fun hHeld => ?_)
       clear hK K HS0
       have HS0 := hHeld
       clear hHeld
       (try simp only [Act.put, List.setIfInBounds_toArray, List.set_cons_zero, List.set_cons_succ])
       clear zl
       refine wpAnyH_ready (rs := [10]) (by kernel_rfl) (by simp) ?_
       refine AllReadyH.cons (i := 10) rfl (fun K hK => ?_) AllReadyH.nil
       rw [if_pos (by rfl)]
       refine yJ1 yJu _ _ rfl w.heap.size (.slice Al r2.length cl) r2.length (rowC r2) rfl hP7.row _ _ rfl (by simp) rfl (yJ5 r3) (by omega) hP7.size ?_
       intro A9p c9p w9 ho5 hg5 ha5
       have hP9 := hP7.push r3 ho5 hg5 ha5
       have zs := (hP7.midL hg5).cell (i := 0) rfl
       have zf := (hP7.midL hg5).free 0
       show K (Act.put _ (some 86) _) _
       refine hK.out _ _ ((hP7.midBlk hg5 hgx).cell (i := 2) rfl) (fun hHeld => ?_)
       clear hK K HS0
       have HS0 := hHeld
       clear hHeld
       (try simp only [Act.put, List.setIfInBounds_toArray, List.set_cons_zero, List.set_cons_succ])
       refine wpAnyH_ready (rs := [11]) (by kernel_rfl) (by simp) ?_
       refine AllReadyH.cons (i := 11) rfl (fun K hK => ?_) AllReadyH.nil
       rw [if_pos (by rfl)]
       go_simp
       refine hK.out _ _ (hP9.cell hgx (i := 2) rfl) (fun hHeld => ?_)
       clear hK K HS0
       have HS0 := hHeld
       clear hHeld
       (try simp only [Act.put, List.setIfInBounds_toArray, List.set_cons_zero, List.set_cons_succ])
       refine wpAnyH_done (by kernel_rfl) ?_ _
       refine NoPanic.normal ?_
       go_wp2_with fail
       go_meet
       case rel => exact ⟨A5, n5, c5, A9p, c9p, _, hP9, by rw [(zJ1 He).2, zJ1 Hr2, <- zJ1 Hr3, zJ1 Hp0, zJ1 Hiz]⟩
   case rest =>
    obtain ⟨Af5, nf5, cf5, Al5, cl5, rs5, hP, hrs⟩ := hcut
    go_step
    exact pmakeB s gF gl gx nf5 cf5 cl5 B Af5 Al5 rs5 H w wc hB (zJ1 Hx) hP hgx hrs (zJ1 Hmay) (zJ1 Hf) (zJ1 HM) _ _ _ _ _ _ _ _ _ _ _ _ _ _ _ _ _ _ _ _ _ _ _ _ _ _ _ _ _ _ _ _ _ _ _ _ _ _ _ _ _ _ _ _ _ _ _ _ _ _ _ _ _ _ _ _ _ _ _ _ _ _ _ _ _ _ _ _ _ _ _ _ _ _ _ _ _ _ _ _ _ _ _ _ _ _ _ _ _ _ _ _ _ _ _ _ _ _ _ _ _ _ _ _ _ _ _ _ _ _ _ _ _ _ _ _ _ _ _ _ _ _ _ _ _ _ _ _ _ _ _ _ _ _ _ _ _ _ _ _ _ _ _ _ _ _ _ _ _ _ _ _ _ _ _ _ _ _ _ _ _ _ _ _ _
end Go.Proofs.YtnbecdahfgkffaaGreat
