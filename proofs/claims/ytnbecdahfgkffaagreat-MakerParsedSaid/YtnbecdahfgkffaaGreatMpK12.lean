/- Texts of the claim LawMakerParsed (Dy19, Dy20, Dy21, Dy22, MkL8, Read, Flds, FldsW, MkOp, LawMakerParsed): what the functions that the statement reaches compute, and plain laws of it. Conditions: those that each theorem states. -/
import Derived.Test.YtnbecdahfgkffaaGreatMpK11
import Derived.Test.YtnbecdahfgkffaaGreatMpK10
import Derived.Test.YtnbecdahfgkffaaGreatMpK9
import Derived.Laws.EntriesVeiled
import Derived.Deep.DeepCutAuto
import Derived.Deep.CutBlock
import Derived.Test.YtnbecdahfgkffaaGreatMpK1
import Derived.ChangeSlices
import Derived.SliceStrings
import Derived.OpenShut
import Derived.Deep.Slices
import Derived.Lib.SmallJoins
import Derived.SizedLaws
import Derived.Test.YtnbecdahfgkffaaGreatRows
import Derived.ProofKit
import Derived.ShutString
import Derived.ChangeOld
import Derived.Below
set_option linter.unusedVariables false
set_option linter.unusedSimpArgs false
namespace Go.Proofs.YtnbecdahfgkffaaGreat
open Go.RowKit
theorem zJv {P : Program} {fn : Func} {p q r s : Tmp} {ty ty2 : TypeId} (h : fn.results = #[.cell p ty, .cell q ty2, .tmp r, .tmp s]) (tmps : Array Value) (w : World) (g g2 : Nat) (t t2 : TypeId) (cs cs2 : Array Value) (fr fr2 : Nat × Nat) (d d2 : TypeDesc)
  (hp : tmps.getD p undef = .pointer (some ⟨g, 0, none⟩)) (hg : w.heap[g]? = some (.cells cs t fr)) (hu : P.underlying ty = some d) (hd : (match d with | .struct _ | .array _ _ => true | _ => false) = true) (hi : (P.info? ty).map (·.size) = some cs.size)
  (hp2 : tmps.getD q undef = .pointer (some ⟨g2, 0, none⟩)) (hg2 : w.heap[g2]? = some (.cells cs2 t2 fr2)) (hu2 : P.underlying ty2 = some d2) (hd2 : (match d2 with | .struct _ | .array _ _ => true | _ => false) = true) (hi2 : (P.info? ty2).map (·.size) = some cs2.size) :
  (results fn tmps).run P w = .ok (.tuple #[.agg cs, .agg cs2, tmps.getD r undef, tmps.getD s undef]) w := by
 have hp' : tmps[p]?.getD undef = .pointer (some ⟨g, 0, none⟩) := by simpa using hp
 have hp2' : tmps[q]?.getD undef = .pointer (some ⟨g2, 0, none⟩) := by simpa using hp2
 simp [results, h, hp', hp2', asAddr, run_loadVar_row w g t ty cs fr d hg hu hd hi, run_loadVar_row w g2 t2 ty2 cs2 fr2 d2 hg2 hu2 hd2 hi2]
theorem wJv {P : Program} {ops : Array Oper} {o : Oper} {a : Act} {S : World -> Prop} (hw : Region.wanted o (yielded ops a.tmps) = true) (ty : TypeId) (x : Operand) (ho : o.op = .load ty x)
  (g : Nat) (hx : a.eval x = .pointer (some ⟨g, 0, none⟩)) (t : TypeId) (cs : Array Value) (fr : Nat × Nat) (d : TypeDesc) (hg : ∀ w', S w' -> w'.heap[g]? = some (.cells cs t fr))
  (hu : P.underlying ty = some d) (hd : (match d with | .struct _ | .array _ _ => true | _ => false) = true) (hi : (P.info? ty).map (·.size) = some cs.size) :
  YieldsIf P ops S o (.agg cs) a := by
 refine .inl ⟨hw, fun w' hw' => ?_⟩
 unfold execOp
 simp only [ho, hx, Instr.loadAt, Instr.sureAddr, Sem.run_bind, Sem.run_pure, Result.andThen_ok, run_loadVar_row _ g t ty cs fr d (hg w' hw') hu hd hi]
theorem Rd.setRowT {w : World} {B r n : Nat} {A : Option Addr} {l : List UInt8} {t : TypeId} {cells : List Value} (h : Rd w B 1 A n (bys l)) (hr : Blk w r t cells) (hc : ∀ u ∈ cells, ∀ z, u ≠ .int .u8 z) (cs : Array Value) : Rd (w.setRow r cs) B 1 A n (bys l) := by
 refine ⟨h.1, h.2.imp id ?_⟩
 rintro ⟨b, off, rfl, hb, hx⟩
 refine ⟨b, off, rfl, hb, fun j u hj => ?_⟩
 have h1 := hx j u hj
 by_cases hbr : b = r
 ·subst hbr
  exfalso
  have hm := List.mem_of_getElem? hj
  unfold bys at hm
  obtain ⟨z, -, rfl⟩ := List.mem_map.1 hm
  rw [cell_of_row _ _ _ _ _ _ hr] at h1
  have h2 : cells[off + j]? = some (.int .u8 ((z.toNat : Nat) : Int)) := by simpa using h1
  exact hc _ (List.mem_of_getElem? h2) _ rfl
 ·rw [cell_setRow_other _ _ _ _ hbr]
  exact h1
theorem NmM.setRowT {w : World} {B r : Nat} {b : List UInt8} {N : Dy.Names} {Ah As : Option Addr} {nh ch cs : Nat} {t : TypeId} {cells : List Value} (h : NmM w B b N Ah nh ch As cs) (hr : Blk w r t cells) (hc : ∀ u ∈ cells, ∀ z, u ≠ .int .u8 z) (cs2 : Array Value) : NmM (w.setRow r cs2) B b N Ah nh ch As cs := ⟨fun h0 => ⟨(h.h h0).1, (h.h h0).2.setRowT hr hc _⟩, h.hc, h.s.setRowT hr hc _, h.sc, h.fit⟩
theorem NmM.more {w : World} {B B2 : Nat} {b : List UInt8} {r : Dy.Names} {Ah As : Option Addr} {nh ch cs : Nat} (h : NmM w B b r Ah nh ch As cs) (hB : B <= B2) : NmM w B2 b r Ah nh ch As cs := ⟨fun h0 => ⟨(h.h h0).1, (h.h h0).2.more hB⟩, h.hc, h.s.more hB, h.sc, h.fit⟩
theorem NmM.below {w w' : World} {B : Nat} {b : List UInt8} {r : Dy.Names} {Ah As : Option Addr} {nh ch cs : Nat} (h : NmM w B b r Ah nh ch As cs) (hb : Below B w w') : NmM w' B b r Ah nh ch As cs := ⟨fun h0 => ⟨(h.h h0).1, (h.h h0).2.below hb⟩, h.hc, h.s.below hb, h.sc, h.fit⟩
theorem NmM.belowSz {w w' : World} {b : List UInt8} {r : Dy.Names} {Ah As : Option Addr} {nh ch cs : Nat} (h : NmM w w.heap.size b r Ah nh ch As cs) (hb : Below w.heap.size w w') : NmM w' w'.heap.size b r Ah nh ch As cs := (h.below hb).more hb.size
theorem NmM.nil (w : World) (B : Nat) (b : List UInt8) : NmM w B b ⟨0, 0, 0, 0⟩ none 0 0 none 0 := ⟨fun h => absurd h (Nat.lt_irrefl 0), Nat.le_refl _, Rd.none_ _ _ _ _, Nat.le_refl _, Nat.zero_lt_succ _, Nat.zero_le _⟩
theorem DynM.setRowB {w : World} {B k : Nat} {D : Dy.Dyn} {A1 A2 A3 : Option Addr} {c1 c2 c3 : Nat} (h : DynM w B D A1 c1 A2 c2 A3 c3) (hk : k < B) (cs : Array Value) : DynM (w.setRow k cs) B D A1 c1 A2 c2 A3 c3 := ⟨zJs h.needed hk _, zJs h.syms hk _, zJs h.relas hk _⟩
theorem DynM.base {w : World} {B B2 : Nat} {D : Dy.Dyn} {A1 A2 A3 : Option Addr} {c1 c2 c3 : Nat} (h : DynM w B D A1 c1 A2 c2 A3 c3) (hk : B2 <= B) : DynM w B2 D A1 c1 A2 c2 A3 c3 := ⟨zJh h.needed hk, zJh h.syms hk, zJh h.relas hk⟩
def Dy.has (b : List UInt8) (segs : List El.Sg) (N : Dy.Names) (q : Bool) : Prop :=
 (q = false /\ N = ⟨0, 0, 0, 0⟩ /\ ((Dy.parse b segs).2 ≠ 0 \/ (Dy.open_ b segs).2 = none)) \/ (q = true /\ (Dy.parse b segs).2 = 0 /\ ∃ L, Dy.open_ b segs = (0, some L) /\ N = (Dy.names b (El.loads segs) L).2)
def BothE (b : List UInt8) (segs : List El.Sg) (w : World) (e : Ending) (w' : World) : Prop := Below w.heap.size w w' /\ ∃ A1 c1 A2 c2 A3 c3 N Ah nh ch A4 c4 q, e = .returned (.tuple #[.agg #[.slice A1 (Dy.parse b segs).1.needed.length c1, .string (Dy.parse b segs).1.soname, .string (Dy.parse b segs).1.run, .slice A2 (Dy.parse b segs).1.syms.length c2, .slice A3 (Dy.parse b segs).1.relas.length c3], .agg #[.int .u64 (N.buckets : Nat), .int .u64 (N.chain : Nat), .slice Ah nh ch, .slice A4 (24 * N.chain) c4], .bool q, .int .i64 (Dy.parse b segs).2]) /\
 DynM w' w.heap.size (Dy.parse b segs).1 A1 c1 A2 c2 A3 c3 /\ NmM w' w'.heap.size b N Ah nh ch A4 c4 /\ Dy.has b segs N q
set_option maxRecDepth 100000 in
set_option maxHeartbeats 8000000 in
theorem both_any (A : Option Addr) (n c B : Nat) (b : List UInt8) (ty en ph : Int) (As : Option Addr) (ns cs : Nat) (segs : List El.Sg) (w : World) (hB : B <= w.heap.size) (hb : Rd w B 1 A n (bys b)) (hs : Rd w B 6 As ns (segCells segs)) (hn : n <= 4294967296) (hns : ns <= 4294967296) (hc : n <= c) (hfit : ∀ s ∈ segs, SgFit s) :
  Calls Tryz.prog 50 #[.slice A n c, .agg #[.int .u16 ty, .int .u64 en, .int .u64 ph, .slice As ns cs]] w (BothE b segs w) := by
 have hbl : b.length = n := by have := hb.1; simp [bys] at this; omega
 have e1 : (w.alloc (.cells #[.int .u16 ty, .int .u64 en, .int .u64 ph, .slice As ns cs] 44)).heap.size = w.heap.size + 1 := by simp
 have e2 : ((w.alloc (.cells #[.int .u16 ty, .int .u64 en, .int .u64 ph, .slice As ns cs] 44)).alloc (.cells #[.slice none 0 0, .string ⟨#[]⟩, .string ⟨#[]⟩, .slice none 0 0, .slice none 0 0] 29)).heap.size = w.heap.size + 1 + 1 := by simp
 have e3 : (((w.alloc (.cells #[.int .u16 ty, .int .u64 en, .int .u64 ph, .slice As ns cs] 44)).alloc (.cells #[.slice none 0 0, .string ⟨#[]⟩, .string ⟨#[]⟩, .slice none 0 0, .slice none 0 0] 29)).alloc (.cells #[.int .u64 0, .int .u64 0, .slice none 0 0, .slice none 0 0] 112)).heap.size = w.heap.size + 1 + 1 + 1 := by simp
 have hB0 : Below w.heap.size w (((w.alloc (.cells #[.int .u16 ty, .int .u64 en, .int .u64 ph, .slice As ns cs] 44)).alloc (.cells #[.slice none 0 0, .string ⟨#[]⟩, .string ⟨#[]⟩, .slice none 0 0, .slice none 0 0] 29)).alloc (.cells #[.int .u64 0, .int .u64 0, .slice none 0 0, .slice none 0 0] 112)) := (((Below.refl _ _).alloc (Nat.le_refl _) _).alloc (by rw [e1]; omega) _).alloc (by rw [e2]; omega) _
 have hK0 := (Blk.new (w.alloc (.cells #[.int .u16 ty, .int .u64 en, .int .u64 ph, .slice As ns cs] 44)) 29 [.slice none 0 0, .string ⟨#[]⟩, .string ⟨#[]⟩, .slice none 0 0, .slice none 0 0]).alloc (.cells #[.int .u64 0, .int .u64 0, .slice none 0 0, .slice none 0 0] 112)
 have hN0 := Blk.new ((w.alloc (.cells #[.int .u16 ty, .int .u64 en, .int .u64 ph, .slice As ns cs] 44)).alloc (.cells #[.slice none 0 0, .string ⟨#[]⟩, .string ⟨#[]⟩, .slice none 0 0, .slice none 0 0] 29)) 112 [.int .u64 0, .int .u64 0, .slice none 0 0, .slice none 0 0]
 rw [e1] at hK0
 rw [e2] at hN0
 have hH0 := ((Blk.new w 44 [.int .u16 ty, .int .u64 en, .int .u64 ph, .slice As ns cs]).alloc (.cells #[.slice none 0 0, .string ⟨#[]⟩, .string ⟨#[]⟩, .slice none 0 0, .slice none 0 0] 29)).alloc (.cells #[.int .u64 0, .int .u64 0, .slice none 0 0, .slice none 0 0] 112)
 have HKP := zJ2 (fun (w' : World) (h : Below w.heap.size w w') => uJm A n c B b ty en ph As ns cs segs w' (Nat.le_trans hB h.size) (hb.below (h.mono hB)) (hs.below (h.mono hB)) hn hns hc hfit)
 have HKO := zJ2 (fun (w' : World) (h : Below w.heap.size w w') => dopen_any A n c B b ty en ph As ns cs segs w' (Nat.le_trans hB h.size) (hb.below (h.mono hB)) (hs.below (h.mono hB)) hn hns hc hfit)
 have z0 := hH0.cell (i := 0) rfl
 have z1 := hH0.cell (i := 1) rfl
 have z2 := hH0.cell (i := 2) rfl
 have z3 := hH0.cell (i := 3) rfl
 have HB0 := zJ2 hB0
 have HK0 := zJ2 hK0
 have HN0 := zJ2 hN0
 have HH0 := zJ2 hH0
 have He3 := zJ2 e3
 have hno : (Dy.open_ b segs).2 = none -> (Dy.parse b segs).2 = 0 -> (Dy.open_ b segs).1 = 0 := by
  intro h h2
  obtain ⟨⟨x, ox⟩, hx⟩ : ∃ y, Dy.open_ b segs = y := ⟨_, rfl⟩
  rw [hx] at h ⊢
  dsimp only at h ⊢
  subst h
  rw [Dy.parse_no hx] at h2
  exact h2
 have hNa : ∀ L, Dy.open_ b segs = (0, some L) -> (Dy.parse b segs).2 = 0 -> (Dy.names b (El.loads segs) L).1 = 0 := by
  intro L h h2
  rw [Dy.parse_some h] at h2
  cases ht : Dy.table b.length (El.loads segs) L 5 10 with
  | none => rw [ht, Dy.pBody_1] at h2; exact absurd h2 (by decide)
  | some t =>
   rw [ht] at h2
   by_cases h3 : (Dy.names b (El.loads segs) L).1 = 0
   ·exact h3
   ·rw [Dy.pBody_2 h3] at h2
    exact h2
 obtain ⟨⟨D, px⟩, hP⟩ : ∃ x, Dy.parse b segs = x := ⟨_, rfl⟩
 have hBE : ∀ e w', (Below w.heap.size w w' /\ ∃ A1 c1 A2 c2 A3 c3 N Ah nh ch A4 c4 q, e = .returned (.tuple #[.agg #[.slice A1 D.needed.length c1, .string D.soname, .string D.run, .slice A2 D.syms.length c2, .slice A3 D.relas.length c3], .agg #[.int .u64 (N.buckets : Nat), .int .u64 (N.chain : Nat), .slice Ah nh ch, .slice A4 (24 * N.chain) c4], .bool q, .int .i64 px]) /\ DynM w' w.heap.size D A1 c1 A2 c2 A3 c3 /\ NmM w' w'.heap.size b N Ah nh ch A4 c4 /\ Dy.has b segs N q) -> BothE b segs w e w' := by
  intro e w' h
  unfold BothE
  rw [hP]
  exact h
 have hkp := zJ1 HKP
 rw [hP] at hkp
 have HKP2 := zJ2 hkp
 have HP := zJ2 hP
 have Hno := zJ2 hno
 have HNa := zJ2 hNa
 have HBE := zJ2 hBE
 have Hbl := zJ2 hbl
 clear hb hs hfit hB0 hK0 hN0 hH0 e1 e2 e3 hbl hno hNa hP hkp HKP hBE
 go_enter Tryz.func50, Tryz.ntmps50
 go_wp2_with fail
 refine ((zJ1 HKP2) _ (zJ1 HB0)).mono ?_
 rintro e w1 ⟨hb1, A1, c1, A2, c2, A3, c3, rfl, hdy⟩
 dsimp only at hdy ⊢
 rw [zJ1 He3] at hdy
 have hbt := (zJ1 HB0).trans (hb1.mono (zJ1 HB0).size)
 have hs1 := hb1.size
 rw [zJ1 He3] at hs1
 have HB1 : Hid (Below w.heap.size w (w1.alloc (.cells #[.slice A1 D.needed.length c1, .string D.soname, .string D.run, .slice A2 D.syms.length c2, .slice A3 D.relas.length c3] 29))) := zJ2 (hbt.alloc hbt.size _)
 have HK1 : Hid (Blk (w1.alloc (.cells #[.slice A1 D.needed.length c1, .string D.soname, .string D.run, .slice A2 D.syms.length c2, .slice A3 D.relas.length c3] 29)) (w.heap.size + 1) 29 [.slice none 0 0, .string ⟨#[]⟩, .string ⟨#[]⟩, .slice none 0 0, .slice none 0 0]) := zJ2 (((zJ1 HK0).belowSz hb1).alloc _)
 have HN1 : Hid (Blk (w1.alloc (.cells #[.slice A1 D.needed.length c1, .string D.soname, .string D.run, .slice A2 D.syms.length c2, .slice A3 D.relas.length c3] 29)) (w.heap.size + 1 + 1) 112 [.int .u64 0, .int .u64 0, .slice none 0 0, .slice none 0 0]) := zJ2 (((zJ1 HN0).belowSz hb1).alloc _)
 have HD1 : Hid (Blk (w1.alloc (.cells #[.slice A1 D.needed.length c1, .string D.soname, .string D.run, .slice A2 D.syms.length c2, .slice A3 D.relas.length c3] 29)) w1.heap.size 29 [.slice A1 D.needed.length c1, .string D.soname, .string D.run, .slice A2 D.syms.length c2, .slice A3 D.relas.length c3]) := zJ2 (Blk.new w1 29 [.slice A1 D.needed.length c1, .string D.soname, .string D.run, .slice A2 D.syms.length c2, .slice A3 D.relas.length c3])
 have HDy1 : Hid (DynM (w1.alloc (.cells #[.slice A1 D.needed.length c1, .string D.soname, .string D.run, .slice A2 D.syms.length c2, .slice A3 D.relas.length c3] 29)) (w.heap.size + 1 + 1 + 1) D A1 c1 A2 c2 A3 c3) := zJ2 (hdy.belowSz ((Below.refl _ _).alloc (Nat.le_refl _) _))
 have hh1 := ((zJ1 HH0).belowSz hb1).alloc (.cells #[.slice A1 D.needed.length c1, .string D.soname, .string D.run, .slice A2 D.syms.length c2, .slice A3 D.relas.length c3] 29)
 have y0 := hh1.cell (i := 0) rfl
 have y1 := hh1.cell (i := 1) rfl
 have y2 := hh1.cell (i := 2) rfl
 have y3 := hh1.cell (i := 3) rfl
 clear hb1 hdy hbt hh1 HB0 HK0 HN0 HH0 HKP2 z0 z1 z2 z3 He3
 go_wp2_with fail
 refine ((zJ1 HKO) _ (zJ1 HB1)).mono ?_
 intro e w2 h2
 have hb2 := h2.1
 have HB2 := zJ2 ((zJ1 HB1).trans (hb2.mono (zJ1 HB1).size))
 have HK2 := zJ2 ((zJ1 HK1).belowSz hb2)
 have HN2 := zJ2 ((zJ1 HN1).belowSz hb2)
 have HD2 := zJ2 ((zJ1 HD1).belowSz hb2)
 have HDy2 := zJ2 ((zJ1 HDy1).belowSz hb2)
 have hdv : (#[.slice A1 D.needed.length c1, .string D.soname, .string D.run, .slice A2 D.syms.length c2, .slice A3 D.relas.length c3] : Array Value).all (·.oneCell') = true := wJk _ _ _ _ _ _ _ _ _ _ _
 have hs2 : w1.heap.size < w2.heap.size := (zJ1 HD2).lt
 clear hb2 y0 y1 y2 y3 HB1 HK1 HN1 HD1 HDy1 HKO
 have HS4 : Hid (∀ W, W = (w2.setRow (w.heap.size + 1) #[.slice A1 D.needed.length c1, .string D.soname, .string D.run, .slice A2 D.syms.length c2, .slice A3 D.relas.length c3]).setRow (w.heap.size + 1 + 1) #[.int .u64 0, .int .u64 0, .slice none 0 0, .slice none 0 0] -> Blk W (w.heap.size + 1) 29 [.slice A1 D.needed.length c1, .string D.soname, .string D.run, .slice A2 D.syms.length c2, .slice A3 D.relas.length c3] /\ Blk W (w.heap.size + 1 + 1) 112 [.int .u64 0, .int .u64 0, .slice none 0 0, .slice none 0 0] /\ Below w.heap.size w W /\ DynM W w.heap.size D A1 c1 A2 c2 A3 c3) := zJ2 (by
  intro W hW
  subst hW
  refine ⟨(setRow_other _ _ _ _ (by omega)).trans (setRow_heap _ _ _ _ _ _ (zJ1 HK2)), setRow_heap _ _ _ _ _ _ ((setRow_other _ _ _ _ (by omega)).trans (zJ1 HN2)), below_setRow (below_setRow (zJ1 HB2) (by omega) _) (by omega) _, ?_⟩
  exact (((zJ1 HDy2).setRowB (by omega) _).setRowB (by omega) _).base (by omega))
 rcases h2 with ⟨-, ⟨q, ho, rfl, hq⟩ | ⟨g, Al, k, cl, L, gm, ho, rfl, hds, hok⟩⟩
 ·have HHas : Hid (Dy.has b segs ⟨0, 0, 0, 0⟩ false) := zJ2 (.inl ⟨rfl, rfl, .inr ho⟩)
  by_cases hx0 : px = 0
  ·have hq0 := hq ((zJ1 Hno) ho (by rw [zJ1 HP]; exact hx0))
   subst hq0
   subst hx0
   obtain ⟨xo, hxo⟩ : ∃ x, (Dy.open_ b segs).1 = x := ⟨_, rfl⟩
   rw [hxo]
   clear hq ho hxo
   go_wp2_with (first
    | ((with_reducible refine (@id (wpList _ _ _ (Oper.mk _ (Op.load 29 (.tmp 8)) _ _ _ none :: _) _ _) ?_)); refine wpList_load_row rfl 29 (.tmp 8) rfl w1.heap.size rfl 29 #[.slice A1 D.needed.length c1, .string D.soname, .string D.run, .slice A2 D.syms.length c2, .slice A3 D.relas.length c3] (0, 0) _ (zJ1 HD2) Tryz.underlying29 rfl zJj ?_)
    | ((with_reducible refine (@id (wpList _ _ _ (Oper.mk none (Op.store 29 (.tmp 4) (.tmp 32)) _ _ _ none :: _) _ _) ?_)); refine wpList_store_row rfl 29 (.tmp 4) (.tmp 32) rfl (w.heap.size + 1) #[.slice A1 D.needed.length c1, .string D.soname, .string D.run, .slice A2 D.syms.length c2, .slice A3 D.relas.length c3] rfl rfl 29 _ (zJ1 HK2) zJj rfl hdv ?_)
    | ((with_reducible refine (@id (wpList _ _ _ (Oper.mk none (Op.store 112 (.tmp 5) (.tmp 33)) _ _ _ none :: _) _ _) ?_)); refine wpList_store_row rfl 112 (.tmp 5) (.tmp 33) rfl (w.heap.size + 1 + 1) #[.int .u64 0, .int .u64 0, .slice none 0 0, .slice none 0 0] rfl rfl 112 _ ((setRow_other _ _ _ _ (by omega)).trans (zJ1 HN2)) zJt rfl (vJ4 _ _ _ _ _ _ _ _) ?_))
   obtain ⟨gK, gN, gB, gD⟩ := (zJ1 HS4) _ rfl
   refine bodyPost_ret (zJv (P := Tryz.prog) rfl _ _ (w.heap.size + 1) (w.heap.size + 1 + 1) 29 112 #[.slice A1 D.needed.length c1, .string D.soname, .string D.run, .slice A2 D.syms.length c2, .slice A3 D.relas.length c3] #[.int .u64 0, .int .u64 0, .slice none 0 0, .slice none 0 0] (0, 0) (0, 0) _ _ rfl gK Tryz.underlying29 rfl zJj rfl gN Tryz.underlying112 rfl zJt) rfl ?_
   exact (zJ1 HBE) _ _ ⟨gB, A1, c1, A2, c2, A3, c3, ⟨0, 0, 0, 0⟩, none, 0, 0, none, 0, false, rfl, gD, NmM.nil _ _ _, zJ1 HHas⟩
  ·obtain ⟨xo, hxo⟩ : ∃ x, (Dy.open_ b segs).1 = x := ⟨_, rfl⟩
   rw [hxo]
   clear hq ho hxo
   go_wp2_with (first
    | ((with_reducible refine (@id (wpList _ _ _ (Oper.mk _ (Op.load 29 (.tmp 8)) _ _ _ none :: _) _ _) ?_)); refine wpList_load_row rfl 29 (.tmp 8) rfl w1.heap.size rfl 29 #[.slice A1 D.needed.length c1, .string D.soname, .string D.run, .slice A2 D.syms.length c2, .slice A3 D.relas.length c3] (0, 0) _ (zJ1 HD2) Tryz.underlying29 rfl zJj ?_)
    | ((with_reducible refine (@id (wpList _ _ _ (Oper.mk none (Op.store 29 (.tmp 4) (.tmp 32)) _ _ _ none :: _) _ _) ?_)); refine wpList_store_row rfl 29 (.tmp 4) (.tmp 32) rfl (w.heap.size + 1) #[.slice A1 D.needed.length c1, .string D.soname, .string D.run, .slice A2 D.syms.length c2, .slice A3 D.relas.length c3] rfl rfl 29 _ (zJ1 HK2) zJj rfl hdv ?_)
    | ((with_reducible refine (@id (wpList _ _ _ (Oper.mk none (Op.store 112 (.tmp 5) (.tmp 33)) _ _ _ none :: _) _ _) ?_)); refine wpList_store_row rfl 112 (.tmp 5) (.tmp 33) rfl (w.heap.size + 1 + 1) #[.int .u64 0, .int .u64 0, .slice none 0 0, .slice none 0 0] rfl rfl 112 _ ((setRow_other _ _ _ _ (by omega)).trans (zJ1 HN2)) zJt rfl (vJ4 _ _ _ _ _ _ _ _) ?_))
   obtain ⟨gK, gN, gB, gD⟩ := (zJ1 HS4) _ rfl
   refine bodyPost_ret (zJv (P := Tryz.prog) rfl _ _ (w.heap.size + 1) (w.heap.size + 1 + 1) 29 112 #[.slice A1 D.needed.length c1, .string D.soname, .string D.run, .slice A2 D.syms.length c2, .slice A3 D.relas.length c3] #[.int .u64 0, .int .u64 0, .slice none 0 0, .slice none 0 0] (0, 0) (0, 0) _ _ rfl gK Tryz.underlying29 rfl zJj rfl gN Tryz.underlying112 rfl zJt) rfl ?_
   exact (zJ1 HBE) _ _ ⟨gB, A1, c1, A2, c2, A3, c3, ⟨0, 0, 0, 0⟩, none, 0, 0, none, 0, false, rfl, gD, NmM.nil _ _ _, zJ1 HHas⟩
 by_cases hx0 : px = 0
 case neg =>
  have HHas : Hid (Dy.has b segs ⟨0, 0, 0, 0⟩ false) := zJ2 (.inl ⟨rfl, rfl, .inl (by rw [zJ1 HP]; exact hx0)⟩)
  clear hds hok ho
  go_wp2_with (first
   | ((with_reducible refine (@id (wpList _ _ _ (Oper.mk _ (Op.load 29 (.tmp 8)) _ _ _ none :: _) _ _) ?_)); refine wpList_load_row rfl 29 (.tmp 8) rfl w1.heap.size rfl 29 #[.slice A1 D.needed.length c1, .string D.soname, .string D.run, .slice A2 D.syms.length c2, .slice A3 D.relas.length c3] (0, 0) _ (zJ1 HD2) Tryz.underlying29 rfl zJj ?_)
   | ((with_reducible refine (@id (wpList _ _ _ (Oper.mk none (Op.store 29 (.tmp 4) (.tmp 32)) _ _ _ none :: _) _ _) ?_)); refine wpList_store_row rfl 29 (.tmp 4) (.tmp 32) rfl (w.heap.size + 1) #[.slice A1 D.needed.length c1, .string D.soname, .string D.run, .slice A2 D.syms.length c2, .slice A3 D.relas.length c3] rfl rfl 29 _ (zJ1 HK2) zJj rfl hdv ?_)
   | ((with_reducible refine (@id (wpList _ _ _ (Oper.mk none (Op.store 112 (.tmp 5) (.tmp 33)) _ _ _ none :: _) _ _) ?_)); refine wpList_store_row rfl 112 (.tmp 5) (.tmp 33) rfl (w.heap.size + 1 + 1) #[.int .u64 0, .int .u64 0, .slice none 0 0, .slice none 0 0] rfl rfl 112 _ ((setRow_other _ _ _ _ (by omega)).trans (zJ1 HN2)) zJt rfl (vJ4 _ _ _ _ _ _ _ _) ?_))
  obtain ⟨gK, gN, gB, gD⟩ := (zJ1 HS4) _ rfl
  refine bodyPost_ret (zJv (P := Tryz.prog) rfl _ _ (w.heap.size + 1) (w.heap.size + 1 + 1) 29 112 #[.slice A1 D.needed.length c1, .string D.soname, .string D.run, .slice A2 D.syms.length c2, .slice A3 D.relas.length c3] #[.int .u64 0, .int .u64 0, .slice none 0 0, .slice none 0 0] (0, 0) (0, 0) _ _ rfl gK Tryz.underlying29 rfl zJj rfl gN Tryz.underlying112 rfl zJt) rfl ?_
  exact (zJ1 HBE) _ _ ⟨gB, A1, c1, A2, c2, A3, c3, ⟨0, 0, 0, 0⟩, none, 0, 0, none, 0, false, rfl, gD, NmM.nil _ _ _, zJ1 HHas⟩
 have hNx := (zJ1 HNa) L ho (by rw [zJ1 HP]; exact hx0)
 obtain ⟨d, hd⟩ : ∃ d : Ds, (⟨A, n, c, b, ty, en, ph, As, ns, cs, segs, Al, k, cl, L, gm⟩ : Ds) = d := ⟨_, rfl⟩
 have dm : d.m = n := by rw [<- hd]
 have db : d.b = b := by rw [<- hd]
 have dsg : d.segs = segs := by rw [<- hd]
 have dL : d.L = L := by rw [<- hd]
 rw [hd] at hds hok
 obtain ⟨B1, hB1⟩ : ∃ x, (w1.alloc (.cells #[.slice A1 D.needed.length c1, .string D.soname, .string D.run, .slice A2 D.syms.length c2, .slice A3 D.relas.length c3] 29)).heap.size = x := ⟨_, rfl⟩
 rw [hB1] at hds
 have hds2 : DsM w2 B1 g d d.L := by rw [dL]; exact hds
 have KN := names_any B1 g d w2 hds2 hok (by rw [db, dm]; exact zJ1 Hbl)
 rw [dsg, db, dL] at KN
 have HHas : Hid (∀ N, (Dy.names b (El.loads segs) L).2 = N -> Dy.has b segs N true) := zJ2 (fun N h => .inr ⟨rfl, by rw [zJ1 HP]; exact hx0, L, ho, h.symm⟩)
 obtain ⟨⟨nx, N⟩, hN⟩ : ∃ x, Dy.names b (El.loads segs) L = x := ⟨_, rfl⟩
 rw [hN] at KN hNx
 dsimp only at hNx
 subst hNx
 have hhas := (zJ1 HHas) N (by rw [hN])
 have HHas2 := zJ2 hhas
 have HKN := zJ2 KN
 have hB1s : B1 <= w2.heap.size := hds2.sz
 subst hx0
 clear hd hds hok dm db dsg dL hB1 hds2 KN hN hhas HHas ho
 go_wp2_with fail
 refine (zJ1 HKN).mono ?_
 rintro e w3 ⟨Ah, nh, ch, A4, c4, rfl, hnm, hb3⟩
 dsimp only at hnm ⊢
 have hnm2 : NmM w3 w3.heap.size b N Ah nh ch A4 c4 := hnm.more (Nat.le_trans hB1s hb3.size)
 obtain ⟨N1, N2, N3, N4⟩ := N
 dsimp only at hnm hnm2 ⊢
 obtain ⟨sl, hsl⟩ : ∃ x, 24 * N2 = x := ⟨_, rfl⟩
 have Hsl := zJ2 hsl
 rw [hsl]
 have HB3 : Hid (Below w.heap.size w (w3.alloc (.cells #[.int .u64 (N1 : Nat), .int .u64 (N2 : Nat), .slice Ah nh ch, .slice A4 sl c4] 112))) := zJ2 (((zJ1 HB2).trans (hb3.mono (zJ1 HB2).size)).alloc ((zJ1 HB2).trans (hb3.mono (zJ1 HB2).size)).size _)
 have HK3 : Hid (Blk (w3.alloc (.cells #[.int .u64 (N1 : Nat), .int .u64 (N2 : Nat), .slice Ah nh ch, .slice A4 sl c4] 112)) (w.heap.size + 1) 29 [.slice none 0 0, .string ⟨#[]⟩, .string ⟨#[]⟩, .slice none 0 0, .slice none 0 0]) := zJ2 (((zJ1 HK2).belowSz hb3).alloc _)
 have HN3 : Hid (Blk (w3.alloc (.cells #[.int .u64 (N1 : Nat), .int .u64 (N2 : Nat), .slice Ah nh ch, .slice A4 sl c4] 112)) (w.heap.size + 1 + 1) 112 [.int .u64 0, .int .u64 0, .slice none 0 0, .slice none 0 0]) := zJ2 (((zJ1 HN2).belowSz hb3).alloc _)
 have HD3 : Hid (Blk (w3.alloc (.cells #[.int .u64 (N1 : Nat), .int .u64 (N2 : Nat), .slice Ah nh ch, .slice A4 sl c4] 112)) w1.heap.size 29 [.slice A1 D.needed.length c1, .string D.soname, .string D.run, .slice A2 D.syms.length c2, .slice A3 D.relas.length c3]) := zJ2 (((zJ1 HD2).belowSz hb3).alloc _)
 have HV3 : Hid (Blk (w3.alloc (.cells #[.int .u64 (N1 : Nat), .int .u64 (N2 : Nat), .slice Ah nh ch, .slice A4 sl c4] 112)) w3.heap.size 112 [.int .u64 (N1 : Nat), .int .u64 (N2 : Nat), .slice Ah nh ch, .slice A4 sl c4]) := zJ2 (Blk.new w3 112 [.int .u64 (N1 : Nat), .int .u64 (N2 : Nat), .slice Ah nh ch, .slice A4 sl c4])
 have HDy3 : Hid (DynM (w3.alloc (.cells #[.int .u64 (N1 : Nat), .int .u64 (N2 : Nat), .slice Ah nh ch, .slice A4 sl c4] 112)) (w.heap.size + 1 + 1 + 1) D A1 c1 A2 c2 A3 c3) := zJ2 (((zJ1 HDy2).belowSz hb3).belowSz ((Below.refl _ _).alloc (Nat.le_refl _) _))
 have HNm3 : Hid (NmM (w3.alloc (.cells #[.int .u64 (N1 : Nat), .int .u64 (N2 : Nat), .slice Ah nh ch, .slice A4 sl c4] 112)) (w3.alloc (.cells #[.int .u64 (N1 : Nat), .int .u64 (N2 : Nat), .slice Ah nh ch, .slice A4 sl c4] 112)).heap.size b ⟨N1, N2, N3, N4⟩ Ah nh ch A4 c4) := zJ2 (hnm2.belowSz ((Below.refl _ _).alloc (Nat.le_refl _) _))
 have hs3 : w2.heap.size <= w3.heap.size := hb3.size
 clear hnm hnm2 hb3 hsl HB2 HK2 HN2 HD2 HDy2 HS4 HKN
 go_wp2_with fail
 have gK : Blk (w3.alloc (.cells #[.int .u64 (N1 : Nat), .int .u64 (N2 : Nat), .slice Ah nh ch, .slice A4 sl c4] 112)).drew (w.heap.size + 1) 29 [.slice none 0 0, .string ⟨#[]⟩, .string ⟨#[]⟩, .slice none 0 0, .slice none 0 0] := (zJ1 HK3).drew
 have gN : Blk (w3.alloc (.cells #[.int .u64 (N1 : Nat), .int .u64 (N2 : Nat), .slice Ah nh ch, .slice A4 sl c4] 112)).drew (w.heap.size + 1 + 1) 112 [.int .u64 0, .int .u64 0, .slice none 0 0, .slice none 0 0] := (zJ1 HN3).drew
 have HSD : Hid (Blk (w3.alloc (.cells #[.int .u64 (N1 : Nat), .int .u64 (N2 : Nat), .slice Ah nh ch, .slice A4 sl c4] 112)).drew w1.heap.size 29 [.slice A1 D.needed.length c1, .string D.soname, .string D.run, .slice A2 D.syms.length c2, .slice A3 D.relas.length c3] /\ Blk (w3.alloc (.cells #[.int .u64 (N1 : Nat), .int .u64 (N2 : Nat), .slice Ah nh ch, .slice A4 sl c4] 112)).drew w3.heap.size 112 [.int .u64 (N1 : Nat), .int .u64 (N2 : Nat), .slice Ah nh ch, .slice A4 sl c4]) := zJ2 ⟨(zJ1 HD3).drew, (zJ1 HV3).drew⟩
 have HEnd : Hid (∀ W, W = ((w3.alloc (.cells #[.int .u64 (N1 : Nat), .int .u64 (N2 : Nat), .slice Ah nh ch, .slice A4 sl c4] 112)).drew.setRow (w.heap.size + 1) #[.slice A1 D.needed.length c1, .string D.soname, .string D.run, .slice A2 D.syms.length c2, .slice A3 D.relas.length c3]).setRow (w.heap.size + 1 + 1) #[.int .u64 (N1 : Nat), .int .u64 (N2 : Nat), .slice Ah nh ch, .slice A4 sl c4] -> Blk W (w.heap.size + 1) 29 [.slice A1 D.needed.length c1, .string D.soname, .string D.run, .slice A2 D.syms.length c2, .slice A3 D.relas.length c3] /\ Blk W (w.heap.size + 1 + 1) 112 [.int .u64 (N1 : Nat), .int .u64 (N2 : Nat), .slice Ah nh ch, .slice A4 sl c4] /\ Below w.heap.size w W /\ DynM W w.heap.size D A1 c1 A2 c2 A3 c3 /\ NmM W W.heap.size b ⟨N1, N2, N3, N4⟩ Ah nh ch A4 c4) := zJ2 (by
  intro W hW
  subst hW
  refine ⟨(setRow_other _ _ _ _ (by omega)).trans (setRow_heap _ _ _ _ _ _ gK), setRow_heap _ _ _ _ _ _ ((setRow_other _ _ _ _ (by omega)).trans gN), below_setRow (below_setRow (zJ5 (zJ1 HB3)) (by omega) _) (by omega) _, ?_, ?_⟩
  ·exact ((((zJ1 HDy3).belowSz (zJ5 (Below.refl _ _))).setRowB (by omega) _).setRowB (by omega) _).base (by omega)
  ·have h1 := ((zJ1 HNm3).belowSz (zJ5 (Below.refl _ _))).setRowT gK (by intro u hu z e; simp at hu; subst e; simp at hu) #[.slice A1 D.needed.length c1, .string D.soname, .string D.run, .slice A2 D.syms.length c2, .slice A3 D.relas.length c3]
   have h2 := h1.setRowT (r := w.heap.size + 1 + 1) (t := 112) (cells := [.int .u64 0, .int .u64 0, .slice none 0 0, .slice none 0 0]) ((setRow_other _ _ _ _ (by omega)).trans gN) (by intro u hu z e; simp at hu; subst e; simp at hu) #[.int .u64 (N1 : Nat), .int .u64 (N2 : Nat), .slice Ah nh ch, .slice A4 sl c4]
   simpa using h2)
 refine wp_region_held_drew (S := fun w' => Blk w' w1.heap.size 29 [.slice A1 D.needed.length c1, .string D.soname, .string D.run, .slice A2 D.syms.length c2, .slice A3 D.relas.length c3] /\ Blk w' w3.heap.size 112 [.int .u64 (N1 : Nat), .int .u64 (N2 : Nat), .slice Ah nh ch, .slice A4 sl c4]) (by kernel_rfl) (zJ1 HSD) (fun HS0 => ?_)
 refine takeD (i := 0) (d := some 40) (v := .agg #[.slice A1 D.needed.length c1, .string D.soname, .string D.run, .slice A2 D.syms.length c2, .slice A3 D.relas.length c3]) rfl rfl (by kernel_rfl) (by kernel_rfl) (by kernel_rfl) (fun _ _ _ h => h) (wJv (by rfl) 29 (.tmp 8) rfl w1.heap.size rfl 29 #[.slice A1 D.needed.length c1, .string D.soname, .string D.run, .slice A2 D.syms.length c2, .slice A3 D.relas.length c3] (0, 0) _ (fun w' h => h.1) Tryz.underlying29 rfl zJj) HS0 ?_
 simp only [Act.put, List.setIfInBounds_toArray, List.set_cons_zero, List.set_cons_succ]
 refine takeD (i := 1) (d := some 41) (v := .agg #[.int .u64 (N1 : Nat), .int .u64 (N2 : Nat), .slice Ah nh ch, .slice A4 sl c4]) rfl rfl (by kernel_rfl) (by kernel_rfl) (by kernel_rfl) (fun _ _ _ h => h) (wJv (by rfl) 112 (.tmp 12) rfl w3.heap.size rfl 112 #[.int .u64 (N1 : Nat), .int .u64 (N2 : Nat), .slice Ah nh ch, .slice A4 sl c4] (0, 0) _ (fun w' h => h.2) Tryz.underlying112 rfl zJt) HS0 ?_
 simp only [Act.put, List.setIfInBounds_toArray, List.set_cons_zero, List.set_cons_succ]
 refine wpAnyH_ready (rs := [2]) (by kernel_rfl) (by simp) ?_
 refine AllReadyH.cons (i := 2) rfl (fun K hK => ?_) AllReadyH.nil
 rw [if_pos (by rfl)]
 refine wp_store_row 29 (.tmp 4) (.tmp 40) rfl (w.heap.size + 1) #[.slice A1 D.needed.length c1, .string D.soname, .string D.run, .slice A2 D.syms.length c2, .slice A3 D.relas.length c3] rfl rfl 29 _ gK zJj rfl hdv ?_
 refine hK.out _ _ ⟨(setRow_other _ _ _ _ (by omega)).trans (zJ1 HSD).1, (setRow_other _ _ _ _ (by omega)).trans (zJ1 HSD).2⟩ (fun hHeld => ?_)
 clear hK K HS0
 have HS0 := hHeld
 clear hHeld
 (try simp only [Act.put, List.setIfInBounds_toArray, List.set_cons_zero, List.set_cons_succ])
 refine wpAnyH_ready (rs := [3]) (by kernel_rfl) (by simp) ?_
 refine AllReadyH.cons (i := 3) rfl (fun K hK => ?_) AllReadyH.nil
 rw [if_pos (by rfl)]
 refine wp_store_row 112 (.tmp 5) (.tmp 41) rfl (w.heap.size + 1 + 1) #[.int .u64 (N1 : Nat), .int .u64 (N2 : Nat), .slice Ah nh ch, .slice A4 sl c4] rfl rfl 112 _ ((setRow_other _ _ _ _ (by omega)).trans gN) zJt rfl (vJ4 _ _ _ _ _ _ _ _) ?_
 refine hK.out _ _ ⟨(setRow_other _ _ _ _ (by omega)).trans HS0.1, (setRow_other _ _ _ _ (by omega)).trans HS0.2⟩ (fun hHeld => ?_)
 clear hK K HS0
 have HS0 := hHeld
 clear hHeld
 (try simp only [Act.put, List.setIfInBounds_toArray, List.set_cons_zero, List.set_cons_succ])
 refine takeD (i := 4) (d := some 6) (v := ?_) rfl rfl (by kernel_rfl) (by kernel_rfl) (by kernel_rfl) (fun _ _ _ h => h) (Or.inl ⟨by rfl, ?y4⟩) HS0 ?_
 case y4 => (intro w' hSw; (try dsimp only at hSw); go_simp; (try with_reducible rfl))
 simp only [Act.put, List.setIfInBounds_toArray, List.set_cons_zero, List.set_cons_succ]
 refine takeD (i := 5) (d := some 7) (v := ?_) rfl rfl (by kernel_rfl) (by kernel_rfl) (by kernel_rfl) (fun _ _ _ h => h) (Or.inl ⟨by rfl, ?y5⟩) HS0 ?_
 case y5 => (intro w' hSw; (try dsimp only at hSw); go_simp; (try with_reducible rfl))
 simp only [Act.put, List.setIfInBounds_toArray, List.set_cons_zero, List.set_cons_succ]
 refine wpAnyH_done (by kernel_rfl) ?_ _
 clear HS0
 go_wp2_with fail
 obtain ⟨fK, fN, fB, fD, fM⟩ := (zJ1 HEnd) _ rfl
 refine bodyPost_ret (zJv (P := Tryz.prog) rfl _ _ (w.heap.size + 1) (w.heap.size + 1 + 1) 29 112 #[.slice A1 D.needed.length c1, .string D.soname, .string D.run, .slice A2 D.syms.length c2, .slice A3 D.relas.length c3] #[.int .u64 (N1 : Nat), .int .u64 (N2 : Nat), .slice Ah nh ch, .slice A4 sl c4] (0, 0) (0, 0) _ _ rfl fK Tryz.underlying29 rfl zJj rfl fN Tryz.underlying112 rfl zJt) rfl ?_
 refine (zJ1 HBE) _ _ ⟨fB, A1, c1, A2, c2, A3, c3, ⟨N1, N2, N3, N4⟩, Ah, nh, ch, A4, c4, true, ?_, fD, fM, zJ1 HHas2⟩
 show _ = Ending.returned (.tuple #[.agg #[.slice A1 D.needed.length c1, .string D.soname, .string D.run, .slice A2 D.syms.length c2, .slice A3 D.relas.length c3], .agg #[.int .u64 (N1 : Nat), .int .u64 (N2 : Nat), .slice Ah nh ch, .slice A4 (24 * N2) c4], .bool true, .int .i64 0])
 rw [zJ1 Hsl]
 rfl
def lkV (l : List Nat) : List Value := l.map fun x => .int .u64 (x : Nat)
theorem lkTy : SlTy Tryz.prog 94 23 1 8 := yJx (z := .int .u64 0) Tryz.underlying94 (by kernel_rfl) rfl (by omega) (by omega)
namespace Dy
theorem links_zero {b : List UInt8} {n : Names} : ∀ k, linksFrom b n k 0 = ([], true)
 | 0 => rfl
 | k + 1 => by rw [linksFrom, if_pos rfl]
theorem links_out {b : List UInt8} {n : Names} {i : Nat} (hi : ¬ i = 0) (h : n.chain <= i) : ∀ k, linksFrom b n k i = ([], false)
 | 0 => by rw [linksFrom, decide_eq_false hi]
 | k + 1 => by rw [linksFrom, if_neg hi, if_pos h]
theorem links_on {b : List UInt8} {n : Names} {i k : Nat} (hi : ¬ i = 0) (h : ¬ n.chain <= i) : linksFrom b n (k + 1) i = (i :: (linksFrom b n k (Wd.num b (n.hash + 8 + 4 * n.buckets + 4 * i) 4)).1, (linksFrom b n k (Wd.num b (n.hash + 8 + 4 * n.buckets + 4 * i) 4)).2) := by rw [linksFrom, if_neg hi, if_neg h]
end Dy
def LinksE (r : List Nat × Bool) (w : World) (e : Ending) (w' : World) : Prop := ∃ A c, e = .returned (.tuple #[.slice A r.1.length c, .bool r.2]) /\ w'.ownsRow w.heap.size 23 1 (.slice A r.1.length c) r.1.length (lkV r.1) /\ Below w.heap.size w w'
theorem wJd {r : List Nat × Bool} {l : List Nat} {q : Bool} {A : Option Addr} {c : Nat} {w w' : World} (h : r = (l, q)) (ho : w'.ownsRow w.heap.size 23 1 (.slice A l.length c) l.length (lkV l)) (hb : Below w.heap.size w w') : LinksE r w (.returned (.tuple #[.slice A l.length c, .bool q])) w' := by
 subst h
 exact ⟨A, c, rfl, ho, hb⟩
set_option maxRecDepth 100000 in
set_option maxHeartbeats 4000000 in
theorem links_any (B : Nat) (b : List UInt8) (N : Dy.Names) (Ah : Option Addr) (nh ch : Nat) (A4 : Option Addr) (c4 : Nat) (name : ByteArray) (w : World) (hB : B <= w.heap.size) (h : NmM w B b N Ah nh ch A4 c4) (hname : name.size <= 4294967296) :
  Calls Tryz.prog 51 #[.agg #[.int .u64 (N.buckets : Nat), .int .u64 (N.chain : Nat), .slice Ah nh ch, .slice A4 (24 * N.chain) c4], .string name] w (LinksE (Dy.links b N name.data.toList) w) := by
 obtain ⟨hfb, hfc⟩ := h.fit
 have KN := fun (hb0 : 0 < N.buckets) (q : Nat) (hq : q + 4 <= 8 + 4 * N.buckets + 4 * N.chain) (w' : World) (hb : Below w.heap.size w w') => yJ8 Ah nh ch B (Dy.cut b N.hash nh) q 4 w' (Nat.le_trans hB hb.size) (((h.h hb0).2).below (hb.mono hB)) (by have := (h.h hb0).1; unfold maxLen; omega) (by omega) (by have := (h.h hb0).1; omega)
 have hcn := fun (hb0 : 0 < N.buckets) (q : Nat) (hq : q + 4 <= 8 + 4 * N.buckets + 4 * N.chain) => zJw (b := b) (p := N.hash) (n := nh) (q := q) (s := 4) (by have := (h.h hb0).1; omega)
 have KK : ∀ (hb0 : 0 < N.buckets) (q : Nat) (hq : q + 4 <= 8 + 4 * N.buckets + 4 * N.chain) (w' : World) (hb : Below w.heap.size w w'), Calls Tryz.prog 63 #[.slice Ah nh ch, .int .u64 (q : Nat), .int .i64 4] w' (fun e w2 => e = .returned (.int .u64 (Wd.num b (N.hash + q) 4 : Nat)) /\ Below w'.heap.size w' w2) := by
  intro hb0 q hq w' hb
  rw [<- hcn hb0 q hq]
  exact KN hb0 q hq w' hb
 have hlk : Dy.links b N name.data.toList = if N.buckets = 0 then ([], true) else Dy.linksFrom b N N.chain (Wd.num b (N.hash + (8 + 4 * (Dy.hash name.data.toList % N.buckets))) 4) := by
  unfold Dy.links
  rw [<- Nat.add_assoc]
 obtain ⟨R, hR⟩ : ∃ R, Dy.links b N name.data.toList = R := ⟨_, rfl⟩
 rw [hR] at hlk ⊢
 have hzero := fun k => Dy.links_zero (b := b) (n := N) k
 have hout := fun (i : Nat) (h1 : ¬ i = 0) (h2 : N.chain <= i) (k : Nat) => Dy.links_out (b := b) (n := N) h1 h2 k
 have hon := fun (i k : Nat) (h1 : ¬ i = 0) (h2 : ¬ N.chain <= i) => Dy.links_on (b := b) (n := N) (k := k) h1 h2
 have hend := fun (i : Nat) (h1 : ¬ i = 0) => show Dy.linksFrom b N 0 i = ([], false) by rw [Dy.linksFrom, decide_eq_false h1]
 simp only [Nat.add_assoc] at hon
 obtain ⟨F, hF⟩ : ∃ F, Dy.linksFrom b N = F := ⟨_, rfl⟩
 rw [hF] at hlk hzero hout hon hend
 obtain ⟨bk, chn, ho, so⟩ := N
 dsimp only at *
 obtain ⟨sl, hsl⟩ : ∃ x, 24 * chn = x := ⟨_, rfl⟩
 rw [hsl]
 obtain ⟨hv, hhv⟩ : ∃ x, Dy.hash name.data.toList = x := ⟨_, rfl⟩
 have KH := fun w' => hash_any name w' hname
 rw [hhv] at hlk KH
 have hhl : hv < 4294967296 := by rw [<- hhv]; have := Dy.hash_lt name.data.toList; omega
 have HKK := zJ2 KK
 have HKH := zJ2 KH
 have Hlk := zJ2 hlk
 have Hzero := zJ2 hzero
 have Hout := zJ2 hout
 have Hon := zJ2 hon
 have Hend := zJ2 hend
 have HB0 : Hid (Below w.heap.size w (w.alloc (.cells #[.int .u64 (bk : Nat), .int .u64 (chn : Nat), .slice Ah nh ch, .slice A4 sl c4] 112))) := zJ2 ((Below.refl _ _).alloc (Nat.le_refl _) _)
 have HK0 : Hid (Blk (w.alloc (.cells #[.int .u64 (bk : Nat), .int .u64 (chn : Nat), .slice Ah nh ch, .slice A4 sl c4] 112)) w.heap.size 112 [.int .u64 (bk : Nat), .int .u64 (chn : Nat), .slice Ah nh ch, .slice A4 sl c4]) := zJ2 (Blk.new w 112 [.int .u64 (bk : Nat), .int .u64 (chn : Nat), .slice Ah nh ch, .slice A4 sl c4])
 have HC : Hid (∀ W : World, Blk W w.heap.size 112 [.int .u64 (bk : Nat), .int .u64 (chn : Nat), .slice Ah nh ch, .slice A4 sl c4] -> W.cell? ⟨w.heap.size, 0, none⟩ = some (.int .u64 (bk : Nat)) /\ W.cell? ⟨w.heap.size, 1, none⟩ = some (.int .u64 (chn : Nat)) /\ W.cell? ⟨w.heap.size, 2, none⟩ = some (.slice Ah nh ch)) := zJ2 (fun W h => ⟨h.cell (i := 0) rfl, h.cell (i := 1) rfl, h.cell (i := 2) rfl⟩)
 obtain ⟨x0, x1, x2⟩ := (zJ1 HC) _ (zJ1 HK0)
 clear h KN hcn KK hlk hzero hout hon hend hF hsl hhv KH hR
 by_cases hbk : bk = 0
 case pos =>
  have hr := zJ1 Hlk
  rw [if_pos hbk] at hr
  have HR := zJ2 hr
  have hbI : (bk : Int) = 0 := by omega
  clear hr Hlk HKK HKH Hzero Hout Hon Hend HC
  go_enter Tryz.func51, Tryz.ntmps51
  go_wp2_with fail
  go_ret2
  refine wJd (l := []) (zJ1 HR) (World.ownsRow_nil _ _ _ _) ?_
  exact (Below.refl _ _).alloc (Nat.le_refl _) _
 have hr := zJ1 Hlk
 rw [if_neg hbk] at hr
 have hbI : ¬ (bk : Int) = 0 := by omega
 have hbp : 0 < bk := by omega
 obtain ⟨v, hv2⟩ : ∃ x, hv % bk = x := ⟨_, rfl⟩
 have hvl : v < bk := by rw [<- hv2]; exact Nat.mod_lt _ hbp
 rw [hv2] at hr
 have m1 : (hv : Int) % (bk : Int) = (v : Int) := by rw [<- hv2]; simp
 have m2 : (hv : Int).tmod (bk : Int) = (v : Int) := by rw [<- hv2]; exact Int.ofNat_tmod _ _ |>.symm ▸ rfl
 have wh : IntKind.u64.wrap (hv : Int) = (hv : Int) := by rw [IntKind.wrap_u64]; omega
 have w4 : IntKind.u64.wrap (4 * (v : Int)) = 4 * (v : Int) := by rw [IntKind.wrap_u64]; omega
 have w8 : IntKind.u64.wrap (8 + 4 * (v : Int)) = 8 + 4 * (v : Int) := by rw [IntKind.wrap_u64]; omega
 have k0 := fun w' hb => (zJ1 HKK) hbp (8 + 4 * v) (by omega) w' hb
 have hcI : ((8 + 4 * v : Nat) : Int) = 8 + 4 * (v : Int) := by omega
 rw [hcI] at k0
 obtain ⟨i0, hi0⟩ : ∃ x, Wd.num b (ho + (8 + 4 * v)) 4 = x := ⟨_, rfl⟩
 rw [hi0] at k0 hr
 have hi0l : i0 < 4294967296 := by rw [<- hi0]; have := Wd.num_lt b (ho + (8 + 4 * v)) 4; simpa using this
 have K0 := zJ2 k0
 have HR := zJ2 hr
 clear hr k0 hcI hi0 hv2 Hlk
 go_enter Tryz.func51, Tryz.ntmps51
 go_wp2_with fail
 refine wp_region_noPanic ?_
 refine wp_region_held_drew (S := fun w' => w'.cell? ⟨w.heap.size, 0, none⟩ = some (.int .u64 (bk : Nat)) /\ w'.cell? ⟨w.heap.size, 1, none⟩ = some (.int .u64 (chn : Nat)) /\ w'.cell? ⟨w.heap.size, 2, none⟩ = some (.slice Ah nh ch)) (by kernel_rfl) ((zJ1 HC) _ (zJ1 HK0).drew) (fun HS0 => ?_)
 refine takeD (i := 0) (d := some 10) (v := ?_) rfl rfl (by kernel_rfl) (by kernel_rfl) (by kernel_rfl) (fun _ _ _ h => h) (Or.inl ⟨by rfl, ?y0⟩) HS0 ?_
 case y0 => (intro w' hSw; (try dsimp only at hSw); go_simp; (try with_reducible rfl))
 simp only [Act.put, List.setIfInBounds_toArray, List.set_cons_zero, List.set_cons_succ]
 refine takeD (i := 1) (d := some 11) (v := ?_) rfl rfl (by kernel_rfl) (by kernel_rfl) (by kernel_rfl) (fun _ _ _ h => h) (Or.inl ⟨by rfl, ?y1⟩) HS0 ?_
 case y1 => (intro w' hSw; (try dsimp only at hSw); go_simp; (try with_reducible rfl))
 simp only [Act.put, List.setIfInBounds_toArray, List.set_cons_zero, List.set_cons_succ]
 refine takeD (i := 2) (d := some 12) (v := ?_) rfl rfl (by kernel_rfl) (by kernel_rfl) (by kernel_rfl) (fun _ _ _ h => h) (Or.inl ⟨by rfl, ?y2⟩) HS0 ?_
 case y2 => (intro w' hSw; (try dsimp only at hSw); go_simp; (try with_reducible rfl))
 simp only [Act.put, List.setIfInBounds_toArray, List.set_cons_zero, List.set_cons_succ]
 refine takeD (i := 5) (d := some 15) (v := ?_) rfl rfl (by kernel_rfl) (by kernel_rfl) (by kernel_rfl) (fun _ _ _ h => h) (Or.inl ⟨by rfl, ?y5⟩) HS0 ?_
 case y5 => (intro w' hSw; (try dsimp only at hSw); go_simp; (try with_reducible rfl))
 simp only [Act.put, List.setIfInBounds_toArray, List.set_cons_zero, List.set_cons_succ]
 refine takeD (i := 6) (d := some 16) (v := ?_) rfl rfl (by kernel_rfl) (by kernel_rfl) (by kernel_rfl) (fun _ _ _ h => h) (Or.inl ⟨by rfl, ?y6⟩) HS0 ?_
 case y6 => (intro w' hSw; (try dsimp only at hSw); go_simp; (try with_reducible rfl))
 simp only [Act.put, List.setIfInBounds_toArray, List.set_cons_zero, List.set_cons_succ]
 refine wpAnyH_ready (rs := [3]) (by kernel_rfl) (by simp) ?_
 refine AllReadyH.cons (i := 3) rfl (fun K hK => ?_) AllReadyH.nil
 rw [if_pos (by rfl)]
 go_simp
 go_at_call 95
 with_reducible refine ((zJ1 HKH) _).mono ?_
 rintro e w1 ⟨rfl, hb1⟩
 have HB1 := zJ2 ((zJ5 (zJ1 HB0)).trans (hb1.mono (zJ5 (zJ1 HB0)).size))
 have HK1 := zJ2 ((zJ1 HK0).drew.belowSz hb1)
 clear hb1
 refine hK.out _ _ ((zJ1 HC) _ (zJ1 HK1)) (fun hHeld => ?_)
 clear hK K HS0
 have HS0 := hHeld
 clear hHeld
 (try simp only [Act.put, List.setIfInBounds_toArray, List.set_cons_zero, List.set_cons_succ])
 refine takeD (i := 4) (d := some 14) (v := ?_) rfl rfl (by kernel_rfl) (by kernel_rfl) (by kernel_rfl) (fun _ _ _ h => h) (Or.inl ⟨by rfl, ?y4⟩) HS0 ?_
 case y4 => (intro w' hSw; (try dsimp only at hSw); go_simp; (try with_reducible rfl))
 simp only [Act.put, List.setIfInBounds_toArray, List.set_cons_zero, List.set_cons_succ]
 refine takeD (i := 7) (d := some 17) (v := ?_) rfl rfl (by kernel_rfl) (by kernel_rfl) (by kernel_rfl) (fun _ _ _ h => h) (Or.inl ⟨by rfl, ?y7⟩) HS0 ?_
 case y7 => (intro w' hSw; (try dsimp only at hSw); go_simp; (try with_reducible rfl))
 simp only [Act.put, List.setIfInBounds_toArray, List.set_cons_zero, List.set_cons_succ]
 refine takeD (i := 8) (d := some 18) (v := ?_) rfl rfl (by kernel_rfl) (by kernel_rfl) (by kernel_rfl) (fun _ _ _ h => h) (Or.inl ⟨by rfl, ?y8⟩) HS0 ?_
 case y8 => (intro w' hSw; (try dsimp only at hSw); go_simp; (try with_reducible rfl))
 simp only [Act.put, List.setIfInBounds_toArray, List.set_cons_zero, List.set_cons_succ]
 refine takeD (i := 9) (d := some 19) (v := ?_) rfl rfl (by kernel_rfl) (by kernel_rfl) (by kernel_rfl) (fun _ _ _ h => h) (Or.inl ⟨by rfl, ?y9⟩) HS0 ?_
 case y9 => (intro w' hSw; (try dsimp only at hSw); go_simp; (try with_reducible rfl))
 simp only [Act.put, List.setIfInBounds_toArray, List.set_cons_zero, List.set_cons_succ]
 refine wpAnyH_ready (rs := [10]) (by kernel_rfl) (by simp) ?_
 refine AllReadyH.cons (i := 10) rfl (fun K hK => ?_) AllReadyH.nil
 rw [if_pos (by rfl)]
 go_simp
 go_at_call 63
 with_reducible refine ((zJ1 K0) _ (zJ1 HB1)).mono ?_
 rintro e w2 ⟨rfl, hb2⟩
 have HB2 := zJ2 ((zJ1 HB1).trans (hb2.mono (zJ1 HB1).size))
 have HK2 := zJ2 ((zJ1 HK1).belowSz hb2)
 clear hb2
 refine hK.out _ _ ((zJ1 HC) _ (zJ1 HK2)) (fun hHeld => ?_)
 clear hK K HS0
 have HS0 := hHeld
 clear hHeld
 (try simp only [Act.put, List.setIfInBounds_toArray, List.set_cons_zero, List.set_cons_succ])
 refine takeD (i := 11) (d := some 6) (v := ?_) rfl rfl (by kernel_rfl) (by kernel_rfl) (by kernel_rfl) (fun _ _ _ h => h) (Or.inl ⟨by rfl, ?y11⟩) HS0 ?_
 case y11 => (intro w' hSw; (try dsimp only at hSw); go_simp; (try with_reducible rfl))
 simp only [Act.put, List.setIfInBounds_toArray, List.set_cons_zero, List.set_cons_succ]
 refine wpAnyH_done (by kernel_rfl) ?_ _
 refine NoPanic.normal ?_
 clear HS0 m1 m2 wh w4 w8 K0 HKH HB1 HK1 HB0 HK0 x0 x1 x2
 go_wp2_with fail
 go_loopg [4, 6] chn (fun gk lv iv wr => ∃ (l : List Nat) (i : Nat) (A : Option Addr) (c : Nat), gk = chn - l.length /\ l.length <= chn /\ lv = .slice A l.length c /\ iv = .int .u64 (i : Nat) /\ i < 4294967296 /\ wr.ownsRow (w.heap.size + 1) 23 1 (.slice A l.length c) l.length (lkV l) /\ Below w.heap.size w wr /\ Blk wr w.heap.size 112 [.int .u64 (bk : Nat), .int .u64 (chn : Nat), .slice Ah nh ch, .slice A4 sl c4] /\ R = (l ++ (F (chn - l.length) i).1, (F (chn - l.length) i).2))
 case atStart => exact ⟨[], i0, none, 0, rfl, Nat.zero_le _, rfl, rfl, hi0l, World.ownsRow_nil _ _ _ _, zJ1 HB2, zJ1 HK2, zJ1 HR⟩
 case round =>
 obtain ⟨l, i, A, c, hgk, hll, rfl, rfl, hil, hown, hb, hk, hR⟩ := hrel
 obtain ⟨x0, x1, x2⟩ := (zJ1 HC) _ hk
 have Hown := zJ2 hown
 have HB := zJ2 hb
 have HK := zJ2 hk
 have HR2 := zJ2 hR
 clear hown hb hk hR HR HB2 HK2
 by_cases hi : i = 0
 case pos =>
  have HE : Hid (R = (l, true)) := zJ2 (by have := zJ1 HR2; rw [hi, (zJ1 Hzero)] at this; simpa using this)
  have hiI : (i : Int) = 0 := by omega
  clear HR2 Hzero Hout Hon Hend HKK HC hi
  go_wp2_with fail
  go_ret2
  exact wJd (zJ1 HE) (zJh (zJ1 Hown) (Nat.le_succ _)) (zJ1 HB)
 have hiI : ¬ (i : Int) = 0 := by omega
 by_cases hic : chn <= i
 case pos =>
  have HE : Hid (R = (l, false)) := zJ2 (by have := zJ1 HR2; rw [(zJ1 Hout) i hi hic] at this; simpa using this)
  have hcI : (chn : Int) <= (i : Int) := by omega
  clear HR2 Hzero Hout Hon Hend HKK HC hi hic
  go_wp2_with fail
  go_ret2
  exact wJd (zJ1 HE) (zJh (zJ1 Hown) (Nat.le_succ _)) (zJ1 HB)
 have hcI : ¬ (chn : Int) <= (i : Int) := by omega
 obtain ⟨m, hm⟩ : ∃ m, l.length = m := ⟨_, rfl⟩
 have Hm := zJ2 hm
 rw [hm] at hll hgk ⊢
 have hO := zJ1 Hown
 rw [hm] at hO
 have Hown2 := zJ2 hO
 clear hm hO
 by_cases hlc : chn <= m
 case pos =>
  have HE : Hid (R = (l, false)) := zJ2 (by have := zJ1 HR2; rw [zJ1 Hm, show chn - m = 0 from by omega, (zJ1 Hend) i hi] at this; simpa using this)
  have hlI : (chn : Int) <= (m : Int) := by omega
  clear HR2 Hzero Hout Hon Hend HKK HC hi hic hlc Hown2
  go_wp2_with fail
  go_ret2
  have := wJd (zJ1 HE) (zJh (zJ1 Hown) (Nat.le_succ _)) (zJ1 HB)
  rw [zJ1 Hm] at this
  exact this
 have hlI : ¬ (chn : Int) <= (m : Int) := by omega
 have hr := zJ1 HR2
 rw [zJ1 Hm, show chn - m = (chn - (m + 1)) + 1 from by omega, (zJ1 Hon) i _ hi hic] at hr
 obtain ⟨i2, hi2⟩ : ∃ x, Wd.num b (ho + (8 + (4 * bk + 4 * i))) 4 = x := ⟨_, rfl⟩
 rw [hi2] at hr
 have hi2l : i2 < 4294967296 := by rw [<- hi2]; have := Wd.num_lt b (ho + (8 + (4 * bk + 4 * i))) 4; simpa using this
 have k2 := fun w' hb => (zJ1 HKK) hbp (8 + (4 * bk + 4 * i)) (by omega) w' hb
 have hcI2 : ((8 + (4 * bk + 4 * i) : Nat) : Int) = 8 + 4 * (bk : Int) + 4 * (i : Int) := by omega
 rw [hcI2, hi2] at k2
 have K2 := zJ2 k2
 have HR3 : Hid (R = ((l ++ [i]) ++ (F (chn - (m + 1)) i2).1, (F (chn - (m + 1)) i2).2)) := zJ2 (by rw [hr]; simp)
 clear hr k2 hcI2 hi2 HR2 Hzero Hout Hon Hend HKK hi hic
 have HB3 : Hid (Below w.heap.size w (wr.alloc (.cells #[.int .u64 (i : Nat)] 23))) := zJ2 ((zJ1 HB).alloc (zJ1 HB).size _)
 go_wp2_with (at_builtin; refine zJl lkTy rfl _ _ rfl (w.heap.size + 1) (.slice A m c) m (lkV l) rfl (zJ1 Hown2) #[.int .u64 (i : Nat)] _ rfl (by simp) rfl (by intro u hu; simp at hu; subst hu; rfl) (by omega) (zJ1 HK).lt ?_; intro A3 c3 w3 hown' hgrow hat; have HB4 := zJ2 ((zJ1 HB).grown hgrow (zJ1 HB).size (fun k hk => Nat.le_of_succ_le ((zJ1 Hown2).lt k hk).1)); have HO4 := zJ2 hown'; have HK4 : Hid (Blk w3 w.heap.size 112 [.int .u64 (bk : Nat), .int .u64 (chn : Nat), .slice Ah nh ch, .slice A4 sl c4]) := zJ2 ((hgrow.block _ (zJ1 HK).lt (fun e => by have := ((zJ1 Hown2).lt _ e.symm).1; omega)).trans (zJ1 HK)); obtain ⟨x0', x1', x2'⟩ := (zJ1 HC) _ (zJ1 HK4); clear hgrow hat hown' HB3 Hown2)
 refine ((zJ1 K2) _ (zJ1 HB4)).mono ?_
 rintro e w4 ⟨rfl, hb4⟩
 have HB5 := zJ2 ((zJ1 HB4).trans (hb4.mono (zJ1 HB4).size))
 have HK5 := zJ2 ((zJ1 HK4).belowSz hb4)
 have HO5 := zJ2 (own_below (zJ1 HO4) hb4)
 clear hb4 HB4 HK4 HO4 K2 x0' x1' x2'
 go_wp2_with fail
 go_roundg (chn - (m + 1))
 case measure => omega
 case rel =>
  have e1 : (l ++ [i]).length = m + 1 := by rw [List.length_append, zJ1 Hm]; rfl
  have e2 : lkV (l ++ [i]) = lkV l ++ [.int .u64 (i : Nat)] := by simp [lkV]
  exact ⟨l ++ [i], i2, A3, c3, by rw [e1], by rw [e1]; omega, by rw [e1], rfl, hi2l, by rw [e1, e2]; exact zJ1 HO5, zJ1 HB5, zJ1 HK5, by rw [e1]; exact zJ1 HR3⟩
open Go.RowKit
namespace Dy
theorem wJc {b : List UInt8} {n : Names} : ∀ (k i : Nat), (linksFrom b n k i).1.length <= k
 | 0, i => Nat.le_refl _
 | k + 1, i => by
  by_cases hi : i = 0
  ·rw [linksFrom, if_pos hi]; exact Nat.zero_le _
  ·by_cases hc : n.chain <= i
   ·rw [linksFrom, if_neg hi, if_pos hc]; exact Nat.zero_le _
   ·rw [linksFrom, if_neg hi, if_neg hc]
    have := wJc (b := b) (n := n) k (Wd.num b (n.hash + 8 + 4 * n.buckets + 4 * i) 4)
    simpa using this
theorem links_len {b : List UInt8} {n : Names} {name : List UInt8} : (links b n name).1.length <= n.chain := by
 unfold links
 split
 ·exact Nat.zero_le _
 ·exact wJc _ _
theorem text_le {t : List UInt8} {q : Nat} {s : ByteArray} (h : text t q = some s) : s.size <= t.length := by
 unfold text at h
 split at h
 ·cases h
 ·split at h
  ·injection h with h
   subst h
   show (((t.drop q).takeWhile fun c => c != 0).toArray).size <= _
   have h1 : ((t.drop q).takeWhile fun c => c != 0).length <= (t.drop q).length := (List.takeWhile_sublist _).length_le
   rw [List.length_drop] at h1
   simp only [List.size_toArray]
   omega
  ·cases h
theorem wJ3 {t b : List UInt8} : ∀ {n p : Nat} {l : List Sym}, symsFrom t b n p = some l -> ∀ x ∈ l, x.name.size <= t.length
 | 0, _, _, h => by unfold symsFrom at h; injection h with h; subst h; intro x hx; cases hx
 | n + 1, p, l, h => by
  unfold symsFrom at h
  cases hs : symAt t b p with
  | none => rw [hs] at h; cases h
  | some s =>
   rw [hs] at h
   cases hr : symsFrom t b n (p + 24) with
   | none => rw [hr] at h; cases h
   | some r =>
    rw [hr] at h
    injection h with h
    subst h
    intro x hx
    rcases List.mem_cons.1 hx with rfl | hx
    ·unfold symAt at hs
     cases ht : text t (Wd.num b p 4) with
     | none => rw [ht] at hs; cases hs
     | some y =>
      rw [ht] at hs
      dsimp only at hs
      split at hs
      ·cases hs
      ·injection hs with hs
       subst hs
       exact text_le ht
    ·exact wJ3 hr x hx
theorem parse_parts {b : List UInt8} {segs : List El.Sg} {L : List (Nat × Nat)} (h : open_ b segs = (0, some L)) (h2 : (parse b segs).2 = 0) :
  ∃ t d ss rs, table b.length (El.loads segs) L 5 10 = some t /\ (names b (El.loads segs) L).1 = 0 /\ (relaB b (El.loads segs) L).1 = 0 /\ texts (cut b t.1 t.2) (val L 29).isSome L zero = some d /\ symsFrom (cut b t.1 t.2) b ((names b (El.loads segs) L).2.chain - 1) ((names b (El.loads segs) L).2.syms + 24) = some ss /\
   relsFrom ss.length (relaB b (El.loads segs) L).2 ((relaB b (El.loads segs) L).2.length / 24) 0 = some rs /\ parse b segs = ({ d with syms := ss, relas := rs }, 0) := by
 rw [parse_some h] at h2 ⊢
 cases ht : table b.length (El.loads segs) L 5 10 with
 | none => rw [ht, pBody_1] at h2; exact absurd h2 (by decide)
 | some t =>
  rw [ht] at h2
  by_cases h3 : (names b (El.loads segs) L).1 = 0
  ·by_cases h4 : (relaB b (El.loads segs) L).1 = 0
   ·cases hd : texts (cut b t.1 t.2) (val L 29).isSome L zero with
    | none => rw [pBody_4 h3 h4 hd] at h2; exact absurd h2 (by decide)
    | some d =>
     cases hs : symsFrom (cut b t.1 t.2) b ((names b (El.loads segs) L).2.chain - 1) ((names b (El.loads segs) L).2.syms + 24) with
     | none => rw [pBody_5 h3 h4 hd hs] at h2; exact absurd h2 (by decide)
     | some ss =>
      cases hr : relsFrom ss.length (relaB b (El.loads segs) L).2 ((relaB b (El.loads segs) L).2.length / 24) 0 with
      | none => rw [pBody_6 h3 h4 hd hs hr] at h2; exact absurd h2 (by decide)
      | some rs => exact ⟨t, d, ss, rs, rfl, h3, h4, hd, hs, hr, pBody_7 h3 h4 hd hs hr⟩
   ·rw [pBody_3 h3 h4] at h2
    exact absurd h2 h4
  ·rw [pBody_2 h3] at h2
   exact absurd h2 h3
theorem parse_syms {b : List UInt8} {segs : List El.Sg} {L : List (Nat × Nat)} (h : open_ b segs = (0, some L)) (h2 : (parse b segs).2 = 0) : (parse b segs).1.syms.length = (names b (El.loads segs) L).2.chain - 1 /\ ∀ x ∈ (parse b segs).1.syms, x.name.size <= b.length := by
 obtain ⟨t, d, ss, rs, -, -, -, -, hs, -, hp⟩ := parse_parts h h2
 rw [hp]
 refine ⟨symsFrom_len hs, fun x hx => ?_⟩
 have := wJ3 hs x hx
 unfold cut at this
 rw [List.length_take, List.length_drop] at this
 omega
theorem has_right {b : List UInt8} {segs : List El.Sg} {N : Names} {q : Bool} (h : has b segs N q) : right b segs = if q = true then rightFrom b N (parse b segs).1.syms 0 else decide ((parse b segs).2 = 0) := by
 unfold right
 rcases h with ⟨rfl, -, h | h⟩ | ⟨rfl, h, L, ho, rfl⟩
 ·rw [if_pos h, if_neg (by decide), decide_eq_false h]
 ·rw [h]
  by_cases h2 : (parse b segs).2 = 0
  ·rw [if_neg (by simpa using h2), if_neg (by decide), decide_eq_true h2]
  ·rw [if_pos h2, if_neg (by decide), decide_eq_false h2]
 ·rw [if_neg (by simpa using h), ho, if_pos rfl]
theorem has_syms {b : List UInt8} {segs : List El.Sg} {N : Names} (h : has b segs N true) : (parse b segs).1.syms.length = N.chain - 1 /\ ∀ x ∈ (parse b segs).1.syms, x.name.size <= b.length := by
 rcases h with ⟨h, -⟩ | ⟨-, h, L, ho, rfl⟩
 ·cases h
 ·exact parse_syms ho h
end Dy
theorem symC_at (l : List Dy.Sym) : ∀ (k : Nat) (x : Dy.Sym), l[k]? = some x -> ∀ j v, (symV x)[j]? = some v -> (symC l)[k * 5 + j]? = some v := by
 induction l with
 | nil => intro k x h; simp at h
 | cons a r ih =>
  intro k x h j v hv
  have e0 : symC (a :: r) = symV a ++ symC r := rfl
  have hj : j < 5 := by have := (List.getElem?_eq_some_iff.1 hv).1; simpa [symV] using this
  have h5 : (symV a).length = 5 := rfl
  cases k with
  | zero =>
   simp at h
   subst h
   rw [e0, List.getElem?_append_left (by omega), Nat.zero_mul, Nat.zero_add]
   exact hv
  | succ k =>
   simp at h
   rw [e0, List.getElem?_append_right (by omega), h5, show (k + 1) * 5 + j - 5 = k * 5 + j from by omega]
   exact ih k x h j v hv
theorem sym_at {w : World} {B n : Nat} {A : Option Addr} {l : List Dy.Sym} (h : Rd w B 5 A n (symC l)) {k : Nat} {x : Dy.Sym} (hk : l[k]? = some x) :
  ∃ b off, A = some ⟨b, off, none⟩ /\ b < B /\ w.cell? ⟨b, off + k * 5, none⟩ = some (.string x.name) /\ w.cell? ⟨b, off + k * 5 + 1, none⟩ = some (.int .u64 (x.value : Nat)) /\ w.cell? ⟨b, off + k * 5 + 2, none⟩ = some (.int .u64 (x.size : Nat)) /\ w.cell? ⟨b, off + k * 5 + 3, none⟩ = some (.int .u8 (x.bind : Nat)) /\ w.cell? ⟨b, off + k * 5 + 4, none⟩ = some (.bool x.isdef) := by
 have hc := symC_at l k x hk
 obtain ⟨b, off, ea, hb, hx⟩ := h.open_ (by
  intro e0
  have := hc 0 _ rfl
  rw [e0] at this
  simp at this)
 refine ⟨b, off, ea, hb, ?_, ?_, ?_, ?_, ?_⟩
 ·exact hx _ _ (hc 0 _ rfl)
 ·rw [Nat.add_assoc]; exact hx _ _ (hc 1 _ rfl)
 ·rw [Nat.add_assoc]; exact hx _ _ (hc 2 _ rfl)
 ·rw [Nat.add_assoc]; exact hx _ _ (hc 3 _ rfl)
 ·rw [Nat.add_assoc]; exact hx _ _ (hc 4 _ rfl)
open Go.RowKit
def LkM (w W : World) (g : Nat) (dv nv : List Value) (b : List UInt8) (N : Dy.Names) (Ah : Option Addr) (nh ch : Nat) (A4 : Option Addr) (c4 : Nat) (A2 : Option Addr) (m2 c2 : Nat) (S : List Dy.Sym) : Prop :=
 Blk W g 29 dv /\ Blk W (g + 1) 112 nv /\ Below w.heap.size w W /\ NmM W W.heap.size b N Ah nh ch A4 c4 /\ W.ownsRow (w.heap.size + 1) 48 5 (.slice A2 m2 c2) m2 (symC S)
theorem LkM.belowSz {w W W' : World} {g : Nat} {dv nv : List Value} {b : List UInt8} {N : Dy.Names} {Ah : Option Addr} {nh ch : Nat} {A4 : Option Addr} {c4 : Nat} {A2 : Option Addr} {m2 c2 : Nat} {S : List Dy.Sym} (h : LkM w W g dv nv b N Ah nh ch A4 c4 A2 m2 c2 S) (hb : Below W.heap.size W W') : LkM w W' g dv nv b N Ah nh ch A4 c4 A2 m2 c2 S :=
 ⟨h.1.belowSz hb, h.2.1.belowSz hb, h.2.2.1.trans (hb.mono h.2.2.1.size), h.2.2.2.1.belowSz hb, own_below h.2.2.2.2 hb⟩
theorem tJc {l : List Nat} {t x y : Nat} (h : l[t]? = some x) : (l.take (t + 1)).contains y = ((l.take t).contains y || decide (x = y)) := by
 rw [List.take_add_one, h, Bool.eq_iff_iff, Bool.or_eq_true, decide_eq_true_eq, List.contains_iff_mem, List.contains_iff_mem, List.mem_append]
 constructor
 ·rintro (h2 | h2)
  ·exact .inl h2
  ·simp at h2
   exact .inr h2.symm
 ·rintro (h2 | h2)
  ·exact .inl h2
  ·exact .inr (by simp [h2])
theorem empty_of {nm : ByteArray} (h : nm.size = 0) : nm = ⟨#[]⟩ := by
 apply ByteArray.ext
 exact Array.eq_empty_of_size_eq_zero h
set_option maxRecDepth 100000 in
set_option maxHeartbeats 8000000 in
theorem right_any (A : Option Addr) (n c B : Nat) (b : List UInt8) (ty en ph : Int) (As : Option Addr) (ns cs : Nat) (segs : List El.Sg) (w : World) (hB : B <= w.heap.size) (hb : Rd w B 1 A n (bys b)) (hs : Rd w B 6 As ns (segCells segs)) (hn : n <= 4294967296) (hns : ns <= 4294967296) (hc : n <= c) (hfit : ∀ s ∈ segs, SgFit s) :
  Calls Tryz.prog 22 #[.slice A n c, .agg #[.int .u16 ty, .int .u64 en, .int .u64 ph, .slice As ns cs]] w fun e w' => e = .returned (.bool (Dy.right b segs)) /\ Below w.heap.size w w' := by
 have hB0 : Below w.heap.size w (w.alloc (.cells #[.int .u16 ty, .int .u64 en, .int .u64 ph, .slice As ns cs] 44)) := (Below.refl _ _).alloc (Nat.le_refl _) _
 have hH0 := Blk.new w 44 [.int .u16 ty, .int .u64 en, .int .u64 ph, .slice As ns cs]
 have KB := zJ2 (both_any A n c B b ty en ph As ns cs segs _ (Nat.le_trans hB hB0.size) (hb.below (hB0.mono hB)) (hs.below (hB0.mono hB)) hn hns hc hfit)
 have z0 := hH0.cell (i := 0) rfl
 have z1 := hH0.cell (i := 1) rfl
 have z2 := hH0.cell (i := 2) rfl
 have z3 := hH0.cell (i := 3) rfl
 have HB0 := zJ2 hB0
 have Hbl : Hid (b.length = n) := zJ2 (by have := hb.1; simp [bys] at this; omega)
 have hsz0 : (w.alloc (.cells #[.int .u16 ty, .int .u64 en, .int .u64 ph, .slice As ns cs] 44)).heap.size = w.heap.size + 1 := by simp
 have Hsz0 := zJ2 hsz0
 obtain ⟨R, hR⟩ : ∃ R, Dy.right b segs = R := ⟨_, rfl⟩
 rw [hR]
 have HR := zJ2 hR
 clear hb hs hfit hB0 hH0 hsz0 hR
 go_enter Tryz.func22, Tryz.ntmps22
 go_wp2_with fail
 refine (zJ1 KB).mono ?_
 rintro e w1 ⟨hb1, A1, c1, A2, c2, A3, c3, N, Ah, nh, ch, A4, c4, q, rfl, hdy, hnm, hhas⟩
 have hlook := Dy.has_right hhas
 have hnms : q = true -> ∀ x ∈ (Dy.parse b segs).1.syms, x.name.size <= b.length := fun h => (Dy.has_syms (by rw [<- h]; exact hhas)).2
 have hsyms : q = true -> (Dy.parse b segs).1.syms.length = N.chain - 1 := fun h => (Dy.has_syms (by rw [<- h]; exact hhas)).1
 rw [zJ1 HR] at hlook
 obtain ⟨⟨D, px⟩, hP⟩ : ∃ x, Dy.parse b segs = x := ⟨_, rfl⟩
 rw [hP] at hdy hlook hsyms hnms ⊢
 dsimp only at hdy hlook hsyms hnms ⊢
 obtain ⟨m2, hm2⟩ : ∃ x, D.syms.length = x := ⟨_, rfl⟩
 obtain ⟨sl, hsl⟩ : ∃ x, 24 * N.chain = x := ⟨_, rfl⟩
 rw [hm2] at hsyms
 rw [hm2, hsl]
 have hfit := hnm.fit
 have hbt := (zJ1 HB0).trans (hb1.mono (zJ1 HB0).size)
 have hbs := hbt.size
 have hw1 : w.heap.size < w1.heap.size := by have := hb1.size; rw [zJ1 Hsz0] at this; exact this
 have e1 : (w1.alloc (.cells #[.slice none 0 0, .string ⟨#[]⟩, .string ⟨#[]⟩, .slice none 0 0, .slice none 0 0] 29)).heap.size = w1.heap.size + 1 := by simp
 have e2 : ((w1.alloc (.cells #[.slice none 0 0, .string ⟨#[]⟩, .string ⟨#[]⟩, .slice none 0 0, .slice none 0 0] 29)).alloc (.cells #[.int .u64 0, .int .u64 0, .slice none 0 0, .slice none 0 0] 112)).heap.size = w1.heap.size + 1 + 1 := by simp
 have bb : Below w1.heap.size w1 ((w1.alloc (.cells #[.slice none 0 0, .string ⟨#[]⟩, .string ⟨#[]⟩, .slice none 0 0, .slice none 0 0] 29)).alloc (.cells #[.int .u64 0, .int .u64 0, .slice none 0 0, .slice none 0 0] 112)) := ((Below.refl _ _).alloc (Nat.le_refl _) _).alloc (by rw [e1]; omega) _
 have HK1 : Hid (Blk ((w1.alloc (.cells #[.slice none 0 0, .string ⟨#[]⟩, .string ⟨#[]⟩, .slice none 0 0, .slice none 0 0] 29)).alloc (.cells #[.int .u64 0, .int .u64 0, .slice none 0 0, .slice none 0 0] 112)) w1.heap.size 29 [.slice none 0 0, .string ⟨#[]⟩, .string ⟨#[]⟩, .slice none 0 0, .slice none 0 0]) := zJ2 ((Blk.new w1 29 [.slice none 0 0, .string ⟨#[]⟩, .string ⟨#[]⟩, .slice none 0 0, .slice none 0 0]).alloc _)
 have HN1 : Hid (Blk ((w1.alloc (.cells #[.slice none 0 0, .string ⟨#[]⟩, .string ⟨#[]⟩, .slice none 0 0, .slice none 0 0] 29)).alloc (.cells #[.int .u64 0, .int .u64 0, .slice none 0 0, .slice none 0 0] 112)) (w1.heap.size + 1) 112 [.int .u64 0, .int .u64 0, .slice none 0 0, .slice none 0 0]) := zJ2 (by have := Blk.new (w1.alloc (.cells #[.slice none 0 0, .string ⟨#[]⟩, .string ⟨#[]⟩, .slice none 0 0, .slice none 0 0] 29)) 112 [.int .u64 0, .int .u64 0, .slice none 0 0, .slice none 0 0]; rw [e1] at this; exact this)
 have hdv : (#[.slice A1 D.needed.length c1, .string D.soname, .string D.run, .slice A2 m2 c2, .slice A3 D.relas.length c3] : Array Value).all (·.oneCell') = true := wJk _ _ _ _ _ _ _ _ _ _ _
 have HS : Hid (∀ W, W = (((w1.alloc (.cells #[.slice none 0 0, .string ⟨#[]⟩, .string ⟨#[]⟩, .slice none 0 0, .slice none 0 0] 29)).alloc (.cells #[.int .u64 0, .int .u64 0, .slice none 0 0, .slice none 0 0] 112)).setRow w1.heap.size #[.slice A1 D.needed.length c1, .string D.soname, .string D.run, .slice A2 m2 c2, .slice A3 D.relas.length c3]).setRow (w1.heap.size + 1) #[.int .u64 (N.buckets : Nat), .int .u64 (N.chain : Nat), .slice Ah nh ch, .slice A4 sl c4] -> LkM w W w1.heap.size [.slice A1 D.needed.length c1, .string D.soname, .string D.run, .slice A2 m2 c2, .slice A3 D.relas.length c3] [.int .u64 (N.buckets : Nat), .int .u64 (N.chain : Nat), .slice Ah nh ch, .slice A4 sl c4] b N Ah nh ch A4 c4 A2 m2 c2 D.syms) := zJ2 (by
  intro W hW
  subst hW
  have hbw : Below w1.heap.size w1 ((((w1.alloc (.cells #[.slice none 0 0, .string ⟨#[]⟩, .string ⟨#[]⟩, .slice none 0 0, .slice none 0 0] 29)).alloc (.cells #[.int .u64 0, .int .u64 0, .slice none 0 0, .slice none 0 0] 112)).setRow w1.heap.size #[.slice A1 D.needed.length c1, .string D.soname, .string D.run, .slice A2 m2 c2, .slice A3 D.relas.length c3]).setRow (w1.heap.size + 1) #[.int .u64 (N.buckets : Nat), .int .u64 (N.chain : Nat), .slice Ah nh ch, .slice A4 sl c4]) := below_setRow (below_setRow bb (Nat.le_refl _) _) (by omega) _
  refine ⟨(setRow_other _ _ _ _ (by omega)).trans (setRow_heap _ _ _ _ _ _ (zJ1 HK1)), setRow_heap _ _ _ _ _ _ ((setRow_other _ _ _ _ (by omega)).trans (zJ1 HN1)), hbt.trans (hbw.mono hbs), hnm.belowSz hbw, ?_⟩
  have := own_below hdy.syms hbw
  rw [zJ1 Hsz0, hm2] at this
  exact this)
 have HP := zJ2 hP
 have Hnms := zJ2 hnms
 have Hm2 := zJ2 hm2
 have Hlook := zJ2 hlook
 have Hsyms := zJ2 hsyms
 have Hsl := zJ2 hsl
 clear hnms hb1 hdy hnm hhas hP hm2 hlook hsyms hbt bb e1 e2 hsl HB0 KB z0 z1 z2 z3
 cases q
 ·have HE : Hid (R = decide (px = 0)) := zJ2 (by rw [zJ1 Hlook]; rfl)
  clear Hlook Hsyms HP Hm2 Hnms
  by_cases hp0 : px = 0
  ·have HE2 : Hid (R = true) := zJ2 (by rw [zJ1 HE]; exact decide_eq_true hp0)
   subst hp0
   clear HE
   go_wp2_with (first
    | ((with_reducible refine (@id (wpList _ _ _ (Oper.mk none (Op.store 29 (.tmp 5) (.tmp 20)) _ _ _ none :: _) _ _) ?_)); refine wpList_store_row rfl 29 (.tmp 5) (.tmp 20) rfl w1.heap.size #[.slice A1 D.needed.length c1, .string D.soname, .string D.run, .slice A2 m2 c2, .slice A3 D.relas.length c3] rfl rfl 29 _ (zJ1 HK1) zJj rfl hdv ?_)
    | ((with_reducible refine (@id (wpList _ _ _ (Oper.mk none (Op.store 112 (.tmp 6) (.tmp 21)) _ _ _ none :: _) _ _) ?_)); refine wpList_store_row rfl 112 (.tmp 6) (.tmp 21) rfl (w1.heap.size + 1) #[.int .u64 (N.buckets : Nat), .int .u64 (N.chain : Nat), .slice Ah nh ch, .slice A4 sl c4] rfl rfl 112 _ ((setRow_other _ _ _ _ (by omega)).trans (zJ1 HN1)) zJt rfl (vJ4 _ _ _ _ _ _ _ _) ?_; obtain ⟨W, hW⟩ : ∃ W, (((w1.alloc (.cells #[.slice none 0 0, .string ⟨#[]⟩, .string ⟨#[]⟩, .slice none 0 0, .slice none 0 0] 29)).alloc (.cells #[.int .u64 0, .int .u64 0, .slice none 0 0, .slice none 0 0] 112)).setRow w1.heap.size #[.slice A1 D.needed.length c1, .string D.soname, .string D.run, .slice A2 m2 c2, .slice A3 D.relas.length c3]).setRow (w1.heap.size + 1) #[.int .u64 (N.buckets : Nat), .int .u64 (N.chain : Nat), .slice Ah nh ch, .slice A4 sl c4] = W := ⟨_, rfl⟩; have hws := (zJ1 HS) W hW.symm; rw [hW]; have HWs := zJ2 hws; have x3 := hws.1.cell (i := 3) rfl; clear hws hW))
   go_ret
   rw [zJ1 HE2]
   exact ⟨rfl, (zJ1 HWs).2.2.1⟩
  ·have HE2 : Hid (R = false) := zJ2 (by rw [zJ1 HE]; exact decide_eq_false hp0)
   clear HE
   go_wp2_with (first
    | ((with_reducible refine (@id (wpList _ _ _ (Oper.mk none (Op.store 29 (.tmp 5) (.tmp 20)) _ _ _ none :: _) _ _) ?_)); refine wpList_store_row rfl 29 (.tmp 5) (.tmp 20) rfl w1.heap.size #[.slice A1 D.needed.length c1, .string D.soname, .string D.run, .slice A2 m2 c2, .slice A3 D.relas.length c3] rfl rfl 29 _ (zJ1 HK1) zJj rfl hdv ?_)
    | ((with_reducible refine (@id (wpList _ _ _ (Oper.mk none (Op.store 112 (.tmp 6) (.tmp 21)) _ _ _ none :: _) _ _) ?_)); refine wpList_store_row rfl 112 (.tmp 6) (.tmp 21) rfl (w1.heap.size + 1) #[.int .u64 (N.buckets : Nat), .int .u64 (N.chain : Nat), .slice Ah nh ch, .slice A4 sl c4] rfl rfl 112 _ ((setRow_other _ _ _ _ (by omega)).trans (zJ1 HN1)) zJt rfl (vJ4 _ _ _ _ _ _ _ _) ?_; obtain ⟨W, hW⟩ : ∃ W, (((w1.alloc (.cells #[.slice none 0 0, .string ⟨#[]⟩, .string ⟨#[]⟩, .slice none 0 0, .slice none 0 0] 29)).alloc (.cells #[.int .u64 0, .int .u64 0, .slice none 0 0, .slice none 0 0] 112)).setRow w1.heap.size #[.slice A1 D.needed.length c1, .string D.soname, .string D.run, .slice A2 m2 c2, .slice A3 D.relas.length c3]).setRow (w1.heap.size + 1) #[.int .u64 (N.buckets : Nat), .int .u64 (N.chain : Nat), .slice Ah nh ch, .slice A4 sl c4] = W := ⟨_, rfl⟩; have hws := (zJ1 HS) W hW.symm; rw [hW]; have HWs := zJ2 hws; have x3 := hws.1.cell (i := 3) rfl; clear hws hW))
   go_ret
   rw [zJ1 HE2]
   exact ⟨by first | rfl | simp [hp0], (zJ1 HWs).2.2.1⟩
 have hlook := zJ1 Hlook
 rw [if_pos rfl] at hlook
 have hm2c : m2 = N.chain - 1 := by have := zJ1 Hsyms; simpa using this
 have hnm9 : ∀ x ∈ D.syms, x.name.size <= 4294967296 := fun x hx => Nat.le_trans (by have := zJ1 Hnms; simp only [forall_const] at this; exact this x hx) (by rw [zJ1 Hbl]; exact hn)
 have Hnm9 := zJ2 hnm9
 have Hlk := zJ2 hlook
 have hm64 : m2 <= 65 := by omega
 clear hlook Hlook Hsyms Hnms hnm9 hm2c
 have x3 := ((zJ1 HS) _ rfl).1.cell (i := 3) rfl
 go_wp2_with (first
  | ((with_reducible refine (@id (wpList _ _ _ (Oper.mk none (Op.store 29 (.tmp 5) (.tmp 20)) _ _ _ none :: _) _ _) ?_)); refine wpList_store_row rfl 29 (.tmp 5) (.tmp 20) rfl w1.heap.size #[.slice A1 D.needed.length c1, .string D.soname, .string D.run, .slice A2 m2 c2, .slice A3 D.relas.length c3] rfl rfl 29 _ (zJ1 HK1) zJj rfl hdv ?_)
  | ((with_reducible refine (@id (wpList _ _ _ (Oper.mk none (Op.store 112 (.tmp 6) (.tmp 21)) _ _ _ none :: _) _ _) ?_)); refine wpList_store_row rfl 112 (.tmp 6) (.tmp 21) rfl (w1.heap.size + 1) #[.int .u64 (N.buckets : Nat), .int .u64 (N.chain : Nat), .slice Ah nh ch, .slice A4 sl c4] rfl rfl 112 _ ((setRow_other _ _ _ _ (by omega)).trans (zJ1 HN1)) zJt rfl (vJ4 _ _ _ _ _ _ _ _) ?_))
 clear x3
 go_loopg [31] m2 (fun gk iv wr => ∃ j : Nat, gk = m2 - j /\ j <= m2 /\ iv = .int .i64 j /\ LkM w wr w1.heap.size [.slice A1 D.needed.length c1, .string D.soname, .string D.run, .slice A2 m2 c2, .slice A3 D.relas.length c3] [.int .u64 (N.buckets : Nat), .int .u64 (N.chain : Nat), .slice Ah nh ch, .slice A4 sl c4] b N Ah nh ch A4 c4 A2 m2 c2 D.syms /\ R = Dy.rightFrom b N (D.syms.drop j) j)
 case atStart => exact ⟨0, by omega, Nat.zero_le _, rfl, (zJ1 HS) _ rfl, by simpa using zJ1 Hlk⟩
 case round =>
 obtain ⟨j, hgk, hj, rfl, hlm, hr⟩ := hrel
 have HM := zJ2 hlm
 have HR3 := zJ2 hr
 clear hr Hlk hlm HS HK1 HN1
 by_cases hlt : j < m2
 case neg =>
  have HE : Hid (R = true) := zJ2 (by rw [zJ1 HR3, List.drop_of_length_le (by rw [zJ1 Hm2]; omega)]; rfl)
  have ige : ¬ (j : Int) < (m2 : Int) := by omega
  clear HR3
  go_wp2_with fail
  go_ret
  rw [zJ1 HE]
  exact ⟨rfl, (zJ1 HM).2.2.1⟩
 have ilt : (j : Int) < (m2 : Int) := by omega
 obtain ⟨s, hs⟩ : ∃ s, D.syms[j]? = some s := ⟨_, List.getElem?_eq_getElem (by rw [zJ1 Hm2]; exact hlt)⟩
 obtain ⟨b6, o6, hA6, -, y0, y1, y2, y3, y4⟩ := sym_at (Rd.of_own (zJ1 HM).2.2.2.2) hs
 subst hA6
 have hd := zJ1 HR3
 rw [List.drop_eq_getElem_cons (by rw [zJ1 Hm2]; exact hlt), show D.syms[j]'(by rw [zJ1 Hm2]; exact hlt) = s from (List.getElem?_eq_some_iff.1 hs).2, Dy.rightFrom] at hd
 have hns2 : s.name.size <= 4294967296 := (zJ1 Hnm9) s (List.mem_of_getElem? hs)
 obtain ⟨nm, s1, s2, s3, s4⟩ := s
 dsimp only at y0 y1 y2 y3 y4 hd hns2
 have HM1 := zJ2 ((zJ1 HM).belowSz ((Below.refl _ _).alloc (Nat.le_refl _) (.cells #[.string nm, .int .u64 (s1 : Nat), .int .u64 (s2 : Nat), .int .u8 (s3 : Nat), .bool s4] 48)))
 have hE1 := Blk.new wr 48 [.string nm, .int .u64 (s1 : Nat), .int .u64 (s2 : Nat), .int .u8 (s3 : Nat), .bool s4]
 have v0 := hE1.cell (i := 0) rfl
 have hd9 := zJ2 hd
 clear hd HR3 hs hE1
 by_cases hz : nm.size = 0
 case pos =>
  have hnil := empty_of hz
  subst hnil
  have HE : Hid (R = Dy.rightFrom b N (D.syms.drop (j + 1)) (j + 1)) := zJ2 (by have := zJ1 hd9; rw [decide_eq_true (show (⟨#[]⟩ : ByteArray).size = 0 from rfl), Bool.true_or, Bool.true_and] at this; exact this)
  clear hd9 hz
  go_wp2_with fail
  go_roundg (m2 - (j + 1))
  case measure => omega
  case rel => exact ⟨j + 1, rfl, by omega, by go_num, zJ1 HM1, zJ1 HE⟩
 have hq0 : nm.toList.isEmpty = false := by
  rw [Lib.toList_data, List.isEmpty_eq_false_iff]
  intro h
  exact hz (by show nm.data.size = 0; rw [<- Array.length_toList, h]; rfl)
 have hd := zJ1 hd9
 rw [decide_eq_false hz, Bool.false_or] at hd
 have KL := links_any _ b N Ah nh ch A4 c4 nm (wr.alloc (.cells #[.string nm, .int .u64 (s1 : Nat), .int .u64 (s2 : Nat), .int .u8 (s3 : Nat), .bool s4] 48)) (Nat.le_refl _) (zJ1 HM1).2.2.2.1 hns2
 have hlen := Dy.links_len (b := b) (n := N) (name := nm.data.toList)
 rw [zJ1 Hsl] at KL
 obtain ⟨⟨ls, en2⟩, hls⟩ : ∃ x, Dy.links b N nm.data.toList = x := ⟨_, rfl⟩
 rw [hls] at KL hlen hd
 dsimp only at hlen hd
 have HKL := zJ2 KL
 have Hd := zJ2 hd
 have hll : ls.length <= 65 := by omega
 clear KL hls hlen hd hd9
 go_wp2_with ((with_reducible refine (@id (wpList _ _ _ (Oper.mk _ (Op.load 112 (.tmp 6)) _ _ _ none :: _) _ _) ?_)); refine wpList_load_row rfl 112 (.tmp 6) rfl (w1.heap.size + 1) rfl 112 #[.int .u64 (N.buckets : Nat), .int .u64 (N.chain : Nat), .slice Ah nh ch, .slice A4 sl c4] (0, 0) _ (zJ1 HM1).2.1 Tryz.underlying112 rfl zJt ?_)
 refine (zJ1 HKL).mono ?_
 rintro e w5 ⟨A5, c5, rfl, ho5, hb5⟩
 dsimp only at ho5 ⊢
 have HM5 := zJ2 ((zJ1 HM1).belowSz hb5)
 have HO5 := zJ2 (Rd.of_own ho5)
 obtain ⟨k5, hk5⟩ : ∃ k, ls.length = k := ⟨_, rfl⟩
 rw [hk5] at hll ⊢
 have hO := zJ1 HO5
 rw [hk5] at hO
 have HO6 := zJ2 hO
 have Hk5 := zJ2 hk5
 clear hb5 ho5 hO hk5 HO5 HKL HM1 HM y0 y1 y2 y3 y4 v0 hq0
 go_wp2_with fail
 go_loopg [13, 48] k5 (fun gk2 fv iv2 wr2 => ∃ t : Nat, gk2 = k5 - t /\ t <= k5 /\ iv2 = .int .i64 t /\ fv = .bool ((ls.take t).contains (j + 1)) /\ w5 = wr2)
 case atStart => exact ⟨0, by omega, Nat.zero_le _, rfl, rfl, rfl⟩
 case round =>
 obtain ⟨t, hgk2, ht, rfl, rfl, rfl⟩ := hrel
 by_cases hlt2 : t < k5
 case neg =>
  have htk : ls.take t = ls := List.take_of_length_le (by rw [zJ1 Hk5]; omega)
  have ige : ¬ (t : Int) < (k5 : Int) := by omega
  have hd := zJ1 Hd
  rw [htk]
  obtain ⟨fb, hfb⟩ : ∃ x, ls.contains (j + 1) = x := ⟨_, rfl⟩
  rw [hfb] at hd ⊢
  have Hd2 := zJ2 hd
  clear hd htk hfb Hd
  cases en2
  ·have HE : Hid (R = false) := zJ2 (by rw [zJ1 Hd2]; rfl)
   clear Hd2
   go_wp2_with fail
   go_ret
   rw [zJ1 HE]
   exact ⟨rfl, (zJ1 HM5).2.2.1⟩
  ·cases fb
   ·have HE : Hid (R = false) := zJ2 (by rw [zJ1 Hd2]; rfl)
    clear Hd2
    go_wp2_with fail
    go_ret
    rw [zJ1 HE]
    exact ⟨rfl, (zJ1 HM5).2.2.1⟩
   ·have HE : Hid (R = Dy.rightFrom b N (D.syms.drop (j + 1)) (j + 1)) := zJ2 (by rw [zJ1 Hd2]; rfl)
    clear Hd2
    go_wp2_with fail
    go_roundg (m2 - (j + 1))
    case measure => omega
    case rel => exact ⟨j + 1, rfl, by omega, by go_num, zJ1 HM5, zJ1 HE⟩
 have ilt2 : (t : Int) < (k5 : Int) := by omega
 obtain ⟨x, hx⟩ : ∃ i, ls[t]? = some i := ⟨_, List.getElem?_eq_getElem (by rw [zJ1 Hk5]; exact hlt2)⟩
 obtain ⟨b5, o5, hA5, -, hc5⟩ := (zJ1 HO6).at_ (k := t) (u := .int .u64 (x : Nat)) (by unfold lkV; rw [List.getElem?_map, hx]; rfl)
 subst hA5
 have hct := tJc (y := j + 1) hx
 obtain ⟨fb, hfb⟩ : ∃ y, (ls.take t).contains (j + 1) = y := ⟨_, rfl⟩
 rw [hfb] at hct ⊢
 have Hct := zJ2 hct
 have hw1 : IntKind.u64.wrap ((j : Int) + 1) = (j : Int) + 1 := by rw [IntKind.wrap_u64]; omega
 clear hct hx hfb Hd
 cases fb
 ·by_cases hxe : x = j + 1
  ·have hxI : (x : Int) = (j : Int) + 1 := by omega
   have HE : Hid ((ls.take (t + 1)).contains (j + 1) = true) := zJ2 (by rw [zJ1 Hct, decide_eq_true hxe]; rfl)
   clear Hct hxe
   go_wp2_with fail
   go_roundg (k5 - (t + 1))
   case measure => omega
   case rel => exact ⟨t + 1, rfl, by omega, by go_num, by first | (rw [zJ1 HE]; done) | (rw [zJ1 HE]; first | rfl | (simp; omega)), rfl⟩
  ·have hxI : ¬ (x : Int) = (j : Int) + 1 := by omega
   have HE : Hid ((ls.take (t + 1)).contains (j + 1) = false) := zJ2 (by rw [zJ1 Hct, decide_eq_false hxe]; rfl)
   clear Hct hxe
   go_wp2_with fail
   go_roundg (k5 - (t + 1))
   case measure => omega
   case rel => exact ⟨t + 1, rfl, by omega, by go_num, by first | (rw [zJ1 HE]; done) | (rw [zJ1 HE]; first | rfl | (simp; omega)), rfl⟩
 ·have HE : Hid ((ls.take (t + 1)).contains (j + 1) = true) := zJ2 (by rw [zJ1 Hct]; rfl)
  clear Hct
  go_wp2_with fail
  go_roundg (k5 - (t + 1))
  case measure => omega
  case rel => exact ⟨t + 1, rfl, by omega, by go_num, by rw [zJ1 HE], rfl⟩
set_option maxRecDepth 100000 in
set_option maxHeartbeats 60000000 in
theorem parsed_any (s : Xq) (w : World) (h : XqM w w.heap.size s) (hin : XqIn s) :
  Calls Tryz.prog 5 #[.agg s.l.toArray] w fun e w' => e = .returned (.bool true) /\ Below w.heap.size w w' := by
 have hb1 := zJ3 w (.cells #[.int .u16 (s.x.type : Nat), .int .u64 (s.x.entry : Nat), .string s.x.interp, .slice s.At s.x.text.length s.ct, .slice s.Ad s.x.data.length s.cd, .int .u64 (s.x.more : Nat), .bool s.x.dynamic, .slice s.A1 s.x.dyn.needed.length s.c1, .string s.x.dyn.soname, .string s.x.dyn.run, .slice s.A2 s.x.dyn.syms.length s.c2, .slice s.A3 s.x.dyn.relas.length s.c3, .int .i64 s.x.apart] 31)
 have e1 : (w.alloc (.cells #[.int .u16 (s.x.type : Nat), .int .u64 (s.x.entry : Nat), .string s.x.interp, .slice s.At s.x.text.length s.ct, .slice s.Ad s.x.data.length s.cd, .int .u64 (s.x.more : Nat), .bool s.x.dynamic, .slice s.A1 s.x.dyn.needed.length s.c1, .string s.x.dyn.soname, .string s.x.dyn.run, .slice s.A2 s.x.dyn.syms.length s.c2, .slice s.A3 s.x.dyn.relas.length s.c3, .int .i64 s.x.apart] 31)).heap.size = w.heap.size + 1 := by simp
 have hx : Blk (w.alloc (.cells #[.int .u16 (s.x.type : Nat), .int .u64 (s.x.entry : Nat), .string s.x.interp, .slice s.At s.x.text.length s.ct, .slice s.Ad s.x.data.length s.cd, .int .u64 (s.x.more : Nat), .bool s.x.dynamic, .slice s.A1 s.x.dyn.needed.length s.c1, .string s.x.dyn.soname, .string s.x.dyn.run, .slice s.A2 s.x.dyn.syms.length s.c2, .slice s.A3 s.x.dyn.relas.length s.c3, .int .i64 s.x.apart] 31)) w.heap.size 31 s.l := Blk.new w 31 s.l
 have hq := h.below hb1
 obtain ⟨a0, a1, a2, a3, a4, a5, a6, a7, a8, a9, a10, a11, a12⟩ := zJx hx
 have KL : Hid (Calls Tryz.prog 6 #[.agg #[.int .u16 (s.x.type : Nat), .int .u64 (s.x.entry : Nat), .string s.x.interp, .slice s.At s.x.text.length s.ct, .slice s.Ad s.x.data.length s.cd, .int .u64 (s.x.more : Nat), .bool s.x.dynamic, .slice s.A1 s.x.dyn.needed.length s.c1, .string s.x.dyn.soname, .string s.x.dyn.run, .slice s.A2 s.x.dyn.syms.length s.c2, .slice s.A3 s.x.dyn.relas.length s.c3, .int .i64 s.x.apart]] (w.alloc (.cells #[.int .u16 (s.x.type : Nat), .int .u64 (s.x.entry : Nat), .string s.x.interp, .slice s.At s.x.text.length s.ct, .slice s.Ad s.x.data.length s.cd, .int .u64 (s.x.more : Nat), .bool s.x.dynamic, .slice s.A1 s.x.dyn.needed.length s.c1, .string s.x.dyn.soname, .string s.x.dyn.run, .slice s.A2 s.x.dyn.syms.length s.c2, .slice s.A3 s.x.dyn.relas.length s.c3, .int .i64 s.x.apart] 31)) (LargeE s (w.alloc (.cells #[.int .u16 (s.x.type : Nat), .int .u64 (s.x.entry : Nat), .string s.x.interp, .slice s.At s.x.text.length s.ct, .slice s.Ad s.x.data.length s.cd, .int .u64 (s.x.more : Nat), .bool s.x.dynamic, .slice s.A1 s.x.dyn.needed.length s.c1, .string s.x.dyn.soname, .string s.x.dyn.run, .slice s.A2 s.x.dyn.syms.length s.c2, .slice s.A3 s.x.dyn.relas.length s.c3, .int .i64 s.x.apart] 31)))) := zJ2 (large14_any s w.heap.size (w.alloc (.cells #[.int .u16 (s.x.type : Nat), .int .u64 (s.x.entry : Nat), .string s.x.interp, .slice s.At s.x.text.length s.ct, .slice s.Ad s.x.data.length s.cd, .int .u64 (s.x.more : Nat), .bool s.x.dynamic, .slice s.A1 s.x.dyn.needed.length s.c1, .string s.x.dyn.soname, .string s.x.dyn.run, .slice s.A2 s.x.dyn.syms.length s.c2, .slice s.A3 s.x.dyn.relas.length s.c3, .int .i64 s.x.apart] 31)) hb1.size hq hin.max)
 have KW := zJ2 works14_any
 have HX := zJ2 hx
 have HB := zJ2 hb1
 have HQ := zJ2 hq
 have HIN := zJ2 hin
 have hs0 : w.heap.size < (w.alloc (.cells #[.int .u16 (s.x.type : Nat), .int .u64 (s.x.entry : Nat), .string s.x.interp, .slice s.At s.x.text.length s.ct, .slice s.Ad s.x.data.length s.cd, .int .u64 (s.x.more : Nat), .bool s.x.dynamic, .slice s.A1 s.x.dyn.needed.length s.c1, .string s.x.dyn.soname, .string s.x.dyn.run, .slice s.A2 s.x.dyn.syms.length s.c2, .slice s.A3 s.x.dyn.relas.length s.c3, .int .i64 s.x.apart] 31)).heap.size := by rw [e1]; omega
 show Calls _ _ #[.agg #[.int .u16 (s.x.type : Nat), .int .u64 (s.x.entry : Nat), .string s.x.interp, .slice s.At s.x.text.length s.ct, .slice s.Ad s.x.data.length s.cd, .int .u64 (s.x.more : Nat), .bool s.x.dynamic, .slice s.A1 s.x.dyn.needed.length s.c1, .string s.x.dyn.soname, .string s.x.dyn.run, .slice s.A2 s.x.dyn.syms.length s.c2, .slice s.A3 s.x.dyn.relas.length s.c3, .int .i64 s.x.apart]] w _
 clear hb1 e1 hx hq h hin
 go_enter Tryz.func5, Tryz.ntmps5
 go_wp2_with fail
 refine (zJ1 KL).mono ?_
 rintro e w1 ⟨r, rfl, hb1, hrl⟩
 generalize (w.alloc (.cells #[.int .u16 (s.x.type : Nat), .int .u64 (s.x.entry : Nat), .string s.x.interp, .slice s.At s.x.text.length s.ct, .slice s.Ad s.x.data.length s.cd, .int .u64 (s.x.more : Nat), .bool s.x.dynamic, .slice s.A1 s.x.dyn.needed.length s.c1, .string s.x.dyn.soname, .string s.x.dyn.run, .slice s.A2 s.x.dyn.syms.length s.c2, .slice s.A3 s.x.dyn.relas.length s.c3, .int .i64 s.x.apart] 31)) = W0 at *
 have hbw1 := (zJ1 HB).trans (hb1.mono (zJ1 HB).size)
 have hx1 := (zJ1 HX).belowSz hb1
 have hq1 := (zJ1 HQ).below (hb1.mono (by omega))
 have hs1 : w.heap.size < w1.heap.size := by have := hb1.size; omega
 have HB1 := zJ2 hbw1
 have HX1 := zJ2 hx1
 have HQ1 := zJ2 hq1
 have HRL := zJ2 hrl
 clear hb1 hbw1 hx1 hq1 hrl KL a0 a1 a2 a3 a4 a5 a6 a7 a8 a9 a10 a11 a12
 obtain ⟨a0, a1, a2, a3, a4, a5, a6, a7, a8, a9, a10, a11, a12⟩ := zJx (zJ1 HX1)
 cases r
 case true =>
  clear a0 a1 a2 a3 a4 a5 a6 a7 a8 a9 a10 a11 a12
  go_wp2_with fail
  refine ((zJ1 KW) _).mono ?_
  rintro e w2 ⟨rfl, hb2⟩
  have HB2 := zJ2 ((zJ1 HB1).trans (hb2.mono (by omega)))
  clear hb2
  go_wp2_with fail
  go_ret
  exact ⟨rfl, zJ1 HB2⟩
 case false =>
 have hlg := (zJ1 HRL) rfl
 have hfit := (zJ1 HIN).fit hlg
 have Hlg := zJ2 hlg
 unfold LgOk large0 at hlg
 have HF := zJ2 hfit
 have l0 : s.x.text.length <= 1048576 := by omega
 have l00 : s.x.data.length <= 1048576 := by omega
 have l1 : s.x.dyn.needed.length <= 1048576 := by omega
 have l2 : s.x.dyn.syms.length <= 1048576 := by omega
 have l3 : s.x.dyn.relas.length <= 1048576 := by omega
 have l12 : s.x.dyn.needed.length + s.x.dyn.syms.length <= 1048576 := by omega
 have KC : Hid (Calls Tryz.prog 8 #[.agg #[.int .u16 (s.x.type : Nat), .int .u64 (s.x.entry : Nat), .string s.x.interp, .slice s.At s.x.text.length s.ct, .slice s.Ad s.x.data.length s.cd, .int .u64 (s.x.more : Nat), .bool s.x.dynamic, .slice s.A1 s.x.dyn.needed.length s.c1, .string s.x.dyn.soname, .string s.x.dyn.run, .slice s.A2 s.x.dyn.syms.length s.c2, .slice s.A3 s.x.dyn.relas.length s.c3, .int .i64 s.x.apart]] w1 (CopiedE s w1)) := zJ2 (copied14_any s w.heap.size w1 (by omega) (zJ1 HQ1) l0 l00 l1 l2 l3)
 clear hlg hfit HRL
 go_wp2_with fail
 refine (zJ1 KC).mono ?_
 rintro e w2 ⟨s', hsx, rfl, hq2, ⟨hc1, hc2, hc3⟩, hb2, b2, hbb1, hbb2, hoT, hlT, hoD⟩
 obtain ⟨sx, A1, k1, A2, k2, A3, k3, A4, k4, A5, k5⟩ := s'
 obtain rfl : sx = s.x := hsx
 have hl : (Xq.l ⟨s.x, A1, k1, A2, k2, A3, k3, A4, k4, A5, k5⟩).toArray = #[.int .u16 (s.x.type : Nat), .int .u64 (s.x.entry : Nat), .string s.x.interp, .slice A1 s.x.text.length k1, .slice A2 s.x.data.length k2, .int .u64 (s.x.more : Nat), .bool s.x.dynamic, .slice A3 s.x.dyn.needed.length k3, .string s.x.dyn.soname, .string s.x.dyn.run, .slice A4 s.x.dyn.syms.length k4, .slice A5 s.x.dyn.relas.length k5, .int .i64 s.x.apart] := rfl
 rw [hl]
 have hfit2 : MkFit ⟨s.x, A1, k1, A2, k2, A3, k3, A4, k4, A5, k5⟩ := by
  have hf := zJ1 HF
  exact ⟨⟨hf.ok.type, hf.ok.entry, hf.ok.more, hf.ok.interp, hf.ok.text, hf.ok.data, xJa hoT, xJa hoD, ⟨hf.ok.dyn.n1, hf.ok.dyn.n2, hf.ok.dyn.n3, hf.ok.dyn.s1, hf.ok.dyn.s2, hf.ok.dyn.s3, hf.ok.dyn.s4, hc1, hc2, hc3⟩⟩, hf.interp, hf.data, hf.texts, hf.sy, hf.re⟩
 have hs2 : w1.heap.size <= w2.heap.size := hb2.size
 have HB2 := zJ2 ((zJ1 HB1).trans (hb2.mono (by omega)))
 have HX2 := zJ2 ((zJ1 HX1).belowSz hb2)
 have HQ2 := zJ2 ((zJ1 HQ1).below (hb2.mono (by omega)))
 have KM : Hid (Calls Tryz.prog 9 #[.agg #[.int .u16 (s.x.type : Nat), .int .u64 (s.x.entry : Nat), .string s.x.interp, .slice A1 s.x.text.length k1, .slice A2 s.x.data.length k2, .int .u64 (s.x.more : Nat), .bool s.x.dynamic, .slice A3 s.x.dyn.needed.length k3, .string s.x.dyn.soname, .string s.x.dyn.run, .slice A4 s.x.dyn.syms.length k4, .slice A5 s.x.dyn.relas.length k5, .int .i64 s.x.apart]] w2 (MkE s.x w2)) := zJ2 (vJq ⟨s.x, A1, k1, A2, k2, A3, k3, A4, k4, A5, k5⟩ w2.heap.size w2 (Nat.le_refl _) hq2 hfit2 l12)
 clear hl hfit2 hoT hlT hoD hq2 hc1 hc2 hc3 hb2 hbb1 hbb2 KC HX1 HB1 HQ1 a0 a1 a2 a3 a4 a5 a6 a7 a8 a9 a10 a11 a12
 go_wp2_with fail
 refine (zJ1 KM).mono ?_
 rintro e w3 ⟨hb3, Aa, na, ca, rfl, hoa⟩
 have hs3 : w2.heap.size <= w3.heap.size := hb3.size
 have HB3 := zJ2 ((zJ1 HB2).trans (hb3.mono (by omega)))
 have HX3 := zJ2 ((zJ1 HX2).belowSz hb3)
 have HQ3 := zJ2 ((zJ1 HQ2).below (hb3.mono (by omega)))
 clear KM HB2 HX2 HQ2 hb3
 by_cases hz : (Mk.make s.x).2 = 0
 case neg =>
  obtain ⟨he, hnil⟩ : ((Mk.make s.x).2 = 1 \/ (Mk.make s.x).2 = 12) /\ (Mk.make s.x).1 = [] := (Mk.make_errs s.x).resolve_left hz
  rw [hnil] at hoa
  have hna : na = 0 := by
   have h1 := hoa.1
   simp [bys] at h1
   omega
  subst hna
  clear hoa hz hnil
  rcases he with he | he
  all_goals
   rw [he]
   clear he
   go_wp2_with fail
   refine ((zJ1 KW) _).mono ?_
   rintro e w4 ⟨rfl, hb4⟩
   have HB4 := zJ2 ((zJ1 HB3).trans (hb4.mono (by omega)))
   clear hb4
   go_wp2_with fail
   go_ret
   exact ⟨rfl, zJ1 HB4⟩
 case pos =>
 obtain ⟨hmade, hfile⟩ := Mk.make_made hz (zJ1 HIN).entry
 have hml := Mk.make_len s.x
 have hna : na <= 65536 := by
  have h1 := hoa.1
  simp [bys] at h1
  omega
 rw [hz]
 rw [hfile] at hoa
 have hcap := xJa hoa
 have KP := zJ2 (uJ0 Aa na ca w3.heap.size (Mk.file s.x) s.x.type s.x.entry 64 (Mk.segs s.x) w3 (Nat.le_refl _) (Rd.of_own hoa) (by omega) hcap (Mk.parse_file hmade))
 have HM := zJ2 hmade
 have Hoa := zJ2 hoa
 have Hcap := zJ2 hcap
 have hnum : Mk.NumOk s.x := ⟨(zJ1 HIN).sy, fun r hr => ⟨((zJ1 HIN).re r hr).off, ((zJ1 HIN).re r hr).type⟩⟩
 have HNum := zJ2 hnum
 have hsl : (Mk.segs s.x).length <= 6 := by
  unfold Mk.segs
  rw [List.length_map, yJd]
  exact (xJm s.x).2
 clear hz hfile hml hmade hoa hcap hnum
 go_wp2_with fail
 refine (zJ1 KP).mono ?_
 rintro e w4 ⟨As, cs, rfl, hrs, hb4⟩
 have hs4 : w3.heap.size <= w4.heap.size := hb4.size
 have hb5 := zJ3 w4 (.cells #[.int .u16 (s.x.type : Nat), .int .u64 (s.x.entry : Nat), .int .u64 64, .slice As (Mk.segs s.x).length cs] 44)
 have hh := Blk.new w4 44 [.int .u16 (s.x.type : Nat), .int .u64 (s.x.entry : Nat), .int .u64 64, .slice As (Mk.segs s.x).length cs]
 have hs5 : (w4.alloc (.cells #[.int .u16 (s.x.type : Nat), .int .u64 (s.x.entry : Nat), .int .u64 64, .slice As (Mk.segs s.x).length cs] 44)).heap.size = w4.heap.size + 1 := by simp
 have HH : Hid (Blk (w4.alloc (.cells #[.int .u16 (s.x.type : Nat), .int .u64 (s.x.entry : Nat), .int .u64 64, .slice As (Mk.segs s.x).length cs] 44)) w4.heap.size 44 [.int .u16 (s.x.type : Nat), .int .u64 (s.x.entry : Nat), .int .u64 64, .slice As (Mk.segs s.x).length cs]) := zJ2 hh
 have HB5 := zJ2 ((zJ1 HB3).trans ((hb4.trans (hb5.mono hs4)).mono (by omega)))
 have HX5 := zJ2 ((zJ1 HX3).belowSz (hb4.trans (hb5.mono hs4)))
 have HQ5 := zJ2 ((zJ1 HQ3).below ((hb4.trans (hb5.mono hs4)).mono (by omega)))
 have Ho5 : Hid (Rd (w4.alloc (.cells #[.int .u16 (s.x.type : Nat), .int .u64 (s.x.entry : Nat), .int .u64 64, .slice As (Mk.segs s.x).length cs] 44)) (w4.alloc (.cells #[.int .u16 (s.x.type : Nat), .int .u64 (s.x.entry : Nat), .int .u64 64, .slice As (Mk.segs s.x).length cs] 44)).heap.size 1 Aa na (bys (Mk.file s.x))) := zJ2 ((Rd.of_own (zJ1 Hoa)).belowSz (hb4.trans (hb5.mono hs4)))
 have HS5 : Hid (Rd (w4.alloc (.cells #[.int .u16 (s.x.type : Nat), .int .u64 (s.x.entry : Nat), .int .u64 64, .slice As (Mk.segs s.x).length cs] 44)) (w4.alloc (.cells #[.int .u16 (s.x.type : Nat), .int .u64 (s.x.entry : Nat), .int .u64 64, .slice As (Mk.segs s.x).length cs] 44)).heap.size 6 As (Mk.segs s.x).length (segCells (Mk.segs s.x))) := zJ2 (hrs.belowSz hb5)
 have hs6 : w.heap.size < (w4.alloc (.cells #[.int .u16 (s.x.type : Nat), .int .u64 (s.x.entry : Nat), .int .u64 64, .slice As (Mk.segs s.x).length cs] 44)).heap.size := by rw [hs5]; omega
 clear hb4 hb5 hh hrs KP HB3 HX3 HQ3 Hoa hs5
 go_wp2_with fail
 generalize (w4.alloc (.cells #[.int .u16 (s.x.type : Nat), .int .u64 (s.x.entry : Nat), .int .u64 64, .slice As (Mk.segs s.x).length cs] 44)) = V at *
 have KI0 := interp_any Aa na ca (Mk.file s.x) As (Mk.segs s.x).length cs V.heap.size (Mk.segs s.x) (s.x.type : Nat) (s.x.entry : Nat) 64 V (Nat.le_refl _) (zJ1 Ho5) (zJ1 HS5) (by omega) (zJ1 Hcap) (by omega) (Mk.segs_fit (zJ1 HM))
 unfold InterpEnd at KI0
 rw [Mk.interp_file (zJ1 HM)] at KI0
 have KI := zJ2 KI0
 clear KI0
 go_wp2_with fail
 refine (zJ1 KI).mono ?_
 rintro e w6 ⟨rfl, hb6⟩
 have hs7 : V.heap.size <= w6.heap.size := hb6.size
 have HB6 := zJ2 ((zJ1 HB5).trans (hb6.mono (by omega)))
 have HX6 := zJ2 ((zJ1 HX5).belowSz hb6)
 have HH6 := zJ2 ((zJ1 HH).belowSz hb6)
 have HQ6 := zJ2 ((zJ1 HQ5).below (hb6.mono (by omega)))
 have Ho6 := zJ2 ((zJ1 Ho5).belowSz hb6)
 have HS6 := zJ2 ((zJ1 HS5).belowSz hb6)
 obtain ⟨q, hq⟩ : ∃ q, Mk.isInterp s.x = q := ⟨_, rfl⟩
 have Hq := zJ2 hq
 rw [hq]
 obtain ⟨a0, a1, a2, a3, a4, a5, a6, a7, a8, a9, a10, a11, a12⟩ := zJx (zJ1 HX6)
 obtain ⟨z0, z1, z2, z3⟩ := And.intro ((zJ1 HH6).cell (i := 0) rfl) (And.intro ((zJ1 HH6).cell (i := 1) rfl) (And.intro ((zJ1 HH6).cell (i := 2) rfl) ((zJ1 HH6).cell (i := 3) rfl)))
 have i1 : ¬ ((65536 : Int) < (na : Int)) := by omega
 have i2 : (((s.x.type : Nat) : Int) != ((s.x.type : Nat) : Int)) = false := by simp
 have i3 : (((s.x.entry : Nat) : Int) != ((s.x.entry : Nat) : Int)) = false := by simp
 have i4 : (!(q == !s.x.interp.toList.isEmpty)) = false := by
  rw [<- hq, zJi]
  unfold Mk.isInterp
  by_cases h0 : s.x.interp.size = 0 <;> simp [h0]
 clear hb6 hq KI HB5 HX5 HH HQ5 Ho5 HS5
 go_wp2_with fail
 have KLd := zJ2 (vJw As (Mk.segs s.x).length cs w6.heap.size (Mk.segs s.x) (s.x.type : Nat) (s.x.entry : Nat) 64 w6 (Nat.le_refl _) (zJ1 HS6) (by omega))
 refine (zJ1 KLd).mono ?_
 rintro e w7 ⟨Al, cl, rfl, hol, hb7⟩
 obtain ⟨L, hL⟩ : ∃ L, El.loads (Mk.segs s.x) = L := ⟨_, rfl⟩
 rw [hL] at hol ⊢
 have hLl : L.length <= 6 := by rw [<- hL]; exact Nat.le_trans (List.length_filter_le _ _) hsl
 have HB7 := zJ2 ((zJ1 HB6).trans (hb7.mono (by omega)))
 have HX7 := zJ2 ((zJ1 HX6).belowSz hb7)
 have HH7 := zJ2 ((zJ1 HH6).belowSz hb7)
 have HQ7 := zJ2 ((zJ1 HQ6).below (hb7.mono (by omega)))
 have Ho7 := zJ2 ((zJ1 Ho6).belowSz hb7)
 have HS7 := zJ2 ((zJ1 HS6).belowSz hb7)
 have HL7 := zJ2 (Rd.of_own hol)
 have hs8 : w6.heap.size <= w7.heap.size := hb7.size
 have HLe := zJ2 hL
 clear hb7 hol hL KLd HB6 HX6 HH6 HQ6 Ho6 HS6 i1 i2 i3 i4 a0 a1 a2 a3 a4 a5 a6 a7 a8 a9 a10 a11 a12 z0 z1 z2 z3
 obtain ⟨a0, a1, a2, a3, a4, a5, a6, a7, a8, a9, a10, a11, a12⟩ := zJx (zJ1 HX7)
 clear a1 a2 a3 a4 a5 a6 a7 a8 a9 a10 a11 a12
 go_wp2_with fail
 refine (rbase14_any _ _).mono ?_
 rintro e w8 ⟨rfl, rfl⟩
 have hbs : (if s.x.type = 2 then 4194304 else 0 : Nat) = Mk.base s.x := rfl
 rw [hbs]
 clear hbs
 obtain ⟨bs, hbs⟩ : ∃ bs, Mk.base s.x = bs := ⟨_, rfl⟩
 have hbl : bs <= 4194304 := by rw [<- hbs]; unfold Mk.base; split <;> omega
 rw [hbs]
 have HBs := zJ2 hbs
 clear hbs
 go_wp2_with fail
 have e8 : (w7.alloc (.cells #[.int .u32 0, .int .u8 0, .int .u64 0, .int .u64 0, .int .u64 0, .int .u64 0] 58)).heap.size = w7.heap.size + 1 := by simp
 have hT0 : Blk ((w7.alloc (.cells #[.int .u32 0, .int .u8 0, .int .u64 0, .int .u64 0, .int .u64 0, .int .u64 0] 58)).alloc (.cells #[.int .u32 0, .int .u8 0, .int .u64 0, .int .u64 0, .int .u64 0, .int .u64 0] 58)) w7.heap.size 58 (sgVals (Mk.lastAt (bs + 65536) (L.take 0))) := (Blk.new w7 58 (sgVals Mk.zeroSg)).alloc _
 have hD0 : Blk ((w7.alloc (.cells #[.int .u32 0, .int .u8 0, .int .u64 0, .int .u64 0, .int .u64 0, .int .u64 0] 58)).alloc (.cells #[.int .u32 0, .int .u8 0, .int .u64 0, .int .u64 0, .int .u64 0, .int .u64 0] 58)) (w7.heap.size + 1) 58 (sgVals (Mk.lastAt (bs + 131072) (L.take 0))) := by rw [<- e8]; exact Blk.new _ 58 (sgVals Mk.zeroSg)
 have hb9 : Below w7.heap.size w7 ((w7.alloc (.cells #[.int .u32 0, .int .u8 0, .int .u64 0, .int .u64 0, .int .u64 0, .int .u64 0] 58)).alloc (.cells #[.int .u32 0, .int .u8 0, .int .u64 0, .int .u64 0, .int .u64 0, .int .u64 0] 58)) := ((Below.refl _ _).alloc (Nat.le_refl _) _).alloc (by rw [e8]; omega) _
 generalize ((w7.alloc (.cells #[.int .u32 0, .int .u8 0, .int .u64 0, .int .u64 0, .int .u64 0, .int .u64 0] 58)).alloc (.cells #[.int .u32 0, .int .u8 0, .int .u64 0, .int .u64 0, .int .u64 0, .int .u64 0] 58)) = V9 at *
 clear e8 a0
 go_loopg [14] L.length (fun gk iv wr => ∃ k : Nat, gk = L.length - k /\ k <= L.length /\ iv = .int .i64 k /\ Blk wr w7.heap.size 58 (sgVals (Mk.lastAt (bs + 65536) (L.take k))) /\ Blk wr (w7.heap.size + 1) 58 (sgVals (Mk.lastAt (bs + 131072) (L.take k))) /\ Below w7.heap.size w7 wr)
 case atStart => exact ⟨0, by omega, Nat.zero_le _, rfl, hT0, hD0, hb9⟩
 case round =>
 obtain ⟨k, hgk, hk, rfl, hT, hD, hB⟩ := hrel
 clear hT0 hD0 hb9
 have Hgk := zJ2 hgk
 have HT := zJ2 hT
 have HD := zJ2 hD
 have HB := zJ2 hB
 clear hgk hT hD hB
 by_cases hlt : k < L.length
 case pos =>
  have ilt : (k : Int) < (L.length : Int) := by omega
  obtain ⟨s1, hs1⟩ : ∃ x, L[k]? = some x := ⟨_, List.getElem?_eq_getElem hlt⟩
  obtain ⟨b1, o1, hAl, hbb, c0, c1, c2, c3, c4, c5⟩ := wJz ((zJ1 HL7).below (zJ1 HB)) hs1
  have st1 := Mk.lastAt_step (a := bs + 65536) hs1
  have st2 := Mk.lastAt_step (a := bs + 131072) hs1
  subst hAl
  obtain ⟨sk, sfl, so, sa, sf, sm⟩ := s1
  dsimp only at st1 st2 c0 c1 c2 c3 c4 c5
  have St1 := zJ2 st1
  have St2 := zJ2 st2
  clear st1 st2 hs1
  by_cases g1 : sa = bs + 65536
  ·have q1 : ((sa : Int) == (bs : Int) + 65536) = true := by rw [beq_iff_eq]; omega
   have q2 : ((sa : Int) == (bs : Int) + 131072) = false := by rw [beq_eq_false_iff_ne]; omega
   have n1 := (cell_setRow_other wr w7.heap.size #[.int .u32 sk, .int .u8 sfl, .int .u64 so, .int .u64 sa, .int .u64 sf, .int .u64 sm] ⟨b1, o1 + k * 6 + 3, none⟩ (by show b1 ≠ _; omega)).trans c3
   have R1 := zJ2 (show Mk.lastAt (bs + 65536) (L.take (k + 1)) = ⟨sk, sfl, so, sa, sf, sm⟩ by rw [zJ1 St1, if_pos g1])
   have R2 := zJ2 (show Mk.lastAt (bs + 131072) (L.take (k + 1)) = Mk.lastAt (bs + 131072) (L.take k) by rw [zJ1 St2, if_neg (by omega)])
   clear St1 St2 g1
   go_wp2_with ((with_reducible refine (@id (wpList _ _ _ (Oper.mk none (Op.store 58 (.tmp 12) (.tmp 115)) _ _ _ none :: _) _ _) ?_)); refine wpList_store_row rfl 58 (.tmp 12) (.tmp 115) rfl w7.heap.size #[.int .u32 sk, .int .u8 sfl, .int .u64 so, .int .u64 sa, .int .u64 sf, .int .u64 sm] rfl rfl 58 _ (zJ1 HT) yJy rfl (vJj _ _ _ _ _ _) ?_)
   go_roundg (L.length - (k + 1))
   case measure => have := zJ1 Hgk; omega
   case rel =>
    refine ⟨k + 1, rfl, by omega, by go_num, ?_, ?_, below_setRow (zJ1 HB) (Nat.le_refl _) _⟩
    ·rw [zJ1 R1]; exact setRow_heap _ _ _ _ _ _ (zJ1 HT)
    ·rw [zJ1 R2]; exact (setRow_other _ _ _ _ (by omega)).trans (zJ1 HD)
  ·have q1 : ((sa : Int) == (bs : Int) + 65536) = false := by rw [beq_eq_false_iff_ne]; omega
   have R1 := zJ2 (show Mk.lastAt (bs + 65536) (L.take (k + 1)) = Mk.lastAt (bs + 65536) (L.take k) by rw [zJ1 St1, if_neg g1])
   by_cases g2 : sa = bs + 131072
   ·have q2 : ((sa : Int) == (bs : Int) + 131072) = true := by rw [beq_iff_eq]; omega
    have R2 := zJ2 (show Mk.lastAt (bs + 131072) (L.take (k + 1)) = ⟨sk, sfl, so, sa, sf, sm⟩ by rw [zJ1 St2, if_pos g2])
    clear St1 St2 g1 g2
    go_wp2_with ((with_reducible refine (@id (wpList _ _ _ (Oper.mk none (Op.store 58 (.tmp 13) (.tmp 127)) _ _ _ none :: _) _ _) ?_)); refine wpList_store_row rfl 58 (.tmp 13) (.tmp 127) rfl (w7.heap.size + 1) #[.int .u32 sk, .int .u8 sfl, .int .u64 so, .int .u64 sa, .int .u64 sf, .int .u64 sm] rfl rfl 58 _ (zJ1 HD) yJy rfl (vJj _ _ _ _ _ _) ?_)
    go_roundg (L.length - (k + 1))
    case measure => have := zJ1 Hgk; omega
    case rel =>
     refine ⟨k + 1, rfl, by omega, by go_num, ?_, ?_, below_setRow (zJ1 HB) (by omega) _⟩
     ·rw [zJ1 R1]; exact (setRow_other _ _ _ _ (by omega)).trans (zJ1 HT)
     ·rw [zJ1 R2]; exact setRow_heap _ _ _ _ _ _ (zJ1 HD)
   ·have q2 : ((sa : Int) == (bs : Int) + 131072) = false := by rw [beq_eq_false_iff_ne]; omega
    have R2 := zJ2 (show Mk.lastAt (bs + 131072) (L.take (k + 1)) = Mk.lastAt (bs + 131072) (L.take k) by rw [zJ1 St2, if_neg g2])
    clear St1 St2 g1 g2
    go_wp2_with fail
    go_roundg (L.length - (k + 1))
    case measure => have := zJ1 Hgk; omega
    case rel => exact ⟨k + 1, rfl, by omega, by go_num, by rw [zJ1 R1]; exact zJ1 HT, by rw [zJ1 R2]; exact zJ1 HD, zJ1 HB⟩
 case neg =>
 obtain rfl : k = L.length := by omega
 have ige : ¬ ((L.length : Nat) : Int) < ((L.length : Nat) : Int) := by omega
 rw [List.take_length, <- zJ1 HLe, <- zJ1 HBs] at HT HD
 rw [Mk.last_text (zJ1 HM)] at HT
 rw [Mk.last_data (zJ1 HM)] at HD
 obtain ⟨T, hTe⟩ : ∃ T, Mk.textSg s.x = T := ⟨_, rfl⟩
 obtain ⟨D, hDe⟩ : ∃ D, Mk.dataSg s.x = D := ⟨_, rfl⟩
 have KT : Hid (∀ W, Below w7.heap.size w7 W -> Calls Tryz.prog 19 #[.slice Aa na ca, .agg (sgVals T).toArray, .slice s.At s.x.text.length s.ct, .int .u64 0, .int .u8 5] W fun e w' => e = .returned (.bool true) /\ Below W.heap.size W w') := zJ2 (fun W hW => by
  have h9 := holds_text s (zJ1 HM) Aa na ca w7.heap.size W hW.size ((zJ1 Ho7).below hW) (((zJ1 HQ7).below (hW.mono (by omega))).text.more (by omega)) (by omega) (zJ1 Hcap)
  rw [hTe] at h9
  exact h9)
 have KD : Hid (∀ W, Below w7.heap.size w7 W -> Calls Tryz.prog 19 #[.slice Aa na ca, .agg (sgVals D).toArray, .slice s.Ad s.x.data.length s.cd, .int .u64 (s.x.more : Nat), .int .u8 6] W fun e w' => e = .returned (.bool true) /\ Below W.heap.size W w') := zJ2 (fun W hW => by
  have h9 := holds_data s (zJ1 HM) Aa na ca w7.heap.size W hW.size ((zJ1 Ho7).below hW) (((zJ1 HQ7).below (hW.mono (by omega))).data.more (by omega)) (by omega) (zJ1 Hcap) l00
  rw [hDe] at h9
  exact h9)
 rw [hTe] at HT
 rw [hDe] at HD
 clear hTe hDe
 obtain ⟨tk, tf, tq, ta, tz, tm⟩ := T
 obtain ⟨dk, df, dq, da, dz, dm⟩ := D
 have HX10 := zJ2 ((zJ1 HX7).belowSz (zJ1 HB))
 have HH10 := zJ2 ((zJ1 HH7).belowSz (zJ1 HB))
 have KT1 := zJ2 ((zJ1 KT) wr (zJ1 HB))
 obtain ⟨a0, a1, a2, a3, a4, a5, a6, a7, a8, a9, a10, a11, a12⟩ := zJx (zJ1 HX10)
 obtain ⟨t0, t1, t2, t3, t4, t5⟩ := And.intro ((zJ1 HT).cell (i := 0) rfl) (And.intro ((zJ1 HT).cell (i := 1) rfl) (And.intro ((zJ1 HT).cell (i := 2) rfl) (And.intro ((zJ1 HT).cell (i := 3) rfl) (And.intro ((zJ1 HT).cell (i := 4) rfl) ((zJ1 HT).cell (i := 5) rfl)))))
 clear KT hlt hk Hgk
 go_wp2_with fail
 refine (zJ1 KT1).mono ?_
 rintro e w11 ⟨rfl, hb11⟩
 have HB11 := zJ2 ((zJ1 HB).trans (hb11.mono (zJ1 HB).size))
 have HX11 := zJ2 ((zJ1 HX10).belowSz hb11)
 have HH11 := zJ2 ((zJ1 HH10).belowSz hb11)
 have HD11 := zJ2 ((zJ1 HD).belowSz hb11)
 have KD1 := zJ2 ((zJ1 KD) w11 (zJ1 HB11))
 clear hb11 KD KT1 HB HT HD HX10 HH10 t0 t1 t2 t3 t4 t5 a0 a1 a2 a3 a4 a5 a6 a7 a8 a9 a10 a11 a12
 obtain ⟨a0, a1, a2, a3, a4, a5, a6, a7, a8, a9, a10, a11, a12⟩ := zJx (zJ1 HX11)
 obtain ⟨t0, t1, t2, t3, t4, t5⟩ := And.intro ((zJ1 HD11).cell (i := 0) rfl) (And.intro ((zJ1 HD11).cell (i := 1) rfl) (And.intro ((zJ1 HD11).cell (i := 2) rfl) (And.intro ((zJ1 HD11).cell (i := 3) rfl) (And.intro ((zJ1 HD11).cell (i := 4) rfl) ((zJ1 HD11).cell (i := 5) rfl)))))
 go_wp2_with fail
 refine (zJ1 KD1).mono ?_
 rintro e w12 ⟨rfl, hb12⟩
 have HB12 := zJ2 ((zJ1 HB11).trans (hb12.mono (zJ1 HB11).size))
 have HX12 := zJ2 ((zJ1 HX11).belowSz hb12)
 have HH12 := zJ2 ((zJ1 HH11).belowSz hb12)
 have KY0 := uJm Aa na ca w7.heap.size (Mk.file s.x) (s.x.type : Nat) (s.x.entry : Nat) 64 As (Mk.segs s.x).length cs (Mk.segs s.x) w12 (zJ1 HB12).size ((zJ1 Ho7).below (zJ1 HB12)) ((zJ1 HS7).below (zJ1 HB12)) (by omega) (by omega) (zJ1 Hcap) (Mk.segs_fit (zJ1 HM))
 unfold ParseE at KY0
 rw [Mk.dyn_file (zJ1 HM) (zJ1 HNum)] at KY0
 have KY := zJ2 KY0
 clear KY0 hb12 KD1 HB11 HX11 HH11 HD11 t0 t1 t2 t3 t4 t5 a0 a1 a2 a3 a4 a5 a6 a7 a8 a9 a10 a11 a12
 obtain ⟨z0, z1, z2, z3⟩ := And.intro ((zJ1 HH12).cell (i := 0) rfl) (And.intro ((zJ1 HH12).cell (i := 1) rfl) (And.intro ((zJ1 HH12).cell (i := 2) rfl) ((zJ1 HH12).cell (i := 3) rfl)))
 go_wp2_with fail
 refine (zJ1 KY).mono ?_
 rintro e w13 ⟨hb13, B1, g1, B2, g2, B3, g3, rfl, hdm⟩
 have hdq := zJ2 (Mk.dq_of (zJ1 HM) (zJ1 HIN).ad hdm)
 have hlr : (Mk.toDyn s.x.dyn).relas.length = s.x.dyn.relas.length := by unfold Mk.toDyn; rw [List.length_map]
 rw [hlr]
 rw [show (Mk.toDyn s.x.dyn).needed = s.x.dyn.needed from rfl, show (Mk.toDyn s.x.dyn).soname = s.x.dyn.soname from rfl, show (Mk.toDyn s.x.dyn).run = s.x.dyn.run from rfl, show (Mk.toDyn s.x.dyn).syms = s.x.dyn.syms from rfl]
 have HB13 := zJ2 ((zJ1 HB12).trans (hb13.mono (zJ1 HB12).size))
 have hb14 := zJ3 w13 (.cells #[.slice B1 s.x.dyn.needed.length g1, .string s.x.dyn.soname, .string s.x.dyn.run, .slice B2 s.x.dyn.syms.length g2, .slice B3 s.x.dyn.relas.length g3] 29)
 have hx14 := ((zJ1 HX12).belowSz hb13).belowSz hb14
 have HH14 := zJ2 (((zJ1 HH12).belowSz hb13).belowSz hb14)
 have HB14 := zJ2 ((zJ1 HB13).trans (hb14.mono (zJ1 HB13).size))
 have KS0 := same13_any ⟨s.x.dyn, B1, g1, B2, g2, B3, g3⟩ s.q rfl (w13.alloc (.cells #[.slice B1 s.x.dyn.needed.length g1, .string s.x.dyn.soname, .string s.x.dyn.run, .slice B2 s.x.dyn.syms.length g2, .slice B3 s.x.dyn.relas.length g3] 29)).heap.size (w13.alloc (.cells #[.slice B1 s.x.dyn.needed.length g1, .string s.x.dyn.soname, .string s.x.dyn.run, .slice B2 s.x.dyn.syms.length g2, .slice B3 s.x.dyn.relas.length g3] 29)) (Nat.le_refl _) (((zJ1 hdq).below hb14).more hb14.size) (((zJ1 HQ7).below ((zJ1 HB14).mono (by omega))).dyn.more (by have := (zJ1 HB14).size; omega)) l1 l2 l3
 have KS : Hid (Calls Tryz.prog 21 #[.agg #[.slice B1 s.x.dyn.needed.length g1, .string s.x.dyn.soname, .string s.x.dyn.run, .slice B2 s.x.dyn.syms.length g2, .slice B3 s.x.dyn.relas.length g3], .agg #[.slice s.A1 s.x.dyn.needed.length s.c1, .string s.x.dyn.soname, .string s.x.dyn.run, .slice s.A2 s.x.dyn.syms.length s.c2, .slice s.A3 s.x.dyn.relas.length s.c3]] (w13.alloc (.cells #[.slice B1 s.x.dyn.needed.length g1, .string s.x.dyn.soname, .string s.x.dyn.run, .slice B2 s.x.dyn.syms.length g2, .slice B3 s.x.dyn.relas.length g3] 29)) fun e w' => e = .returned (.bool true) /\ Below (w13.alloc (.cells #[.slice B1 s.x.dyn.needed.length g1, .string s.x.dyn.soname, .string s.x.dyn.run, .slice B2 s.x.dyn.syms.length g2, .slice B3 s.x.dyn.relas.length g3] 29)).heap.size (w13.alloc (.cells #[.slice B1 s.x.dyn.needed.length g1, .string s.x.dyn.soname, .string s.x.dyn.run, .slice B2 s.x.dyn.syms.length g2, .slice B3 s.x.dyn.relas.length g3] 29)) w') := zJ2 KS0
 clear KS0 hdq hb14 hb13 hdm hlr KY HB12 HB13 HX12 HH12 z0 z1 z2 z3
 obtain ⟨a0, a1, a2, a3, a4, a5, a6, a7, a8, a9, a10, a11, a12⟩ := zJx hx14
 clear hx14 a0 a1 a2 a3 a4 a5 a6 a12
 go_wp2_with fail
 refine (zJ1 KS).mono ?_
 rintro e w15 ⟨rfl, hb15⟩
 have HB15 := zJ2 ((zJ1 HB14).trans (hb15.mono (zJ1 HB14).size))
 have hh15 := (zJ1 HH14).belowSz hb15
 obtain ⟨z0, z1, z2, z3⟩ := And.intro (hh15.cell (i := 0) rfl) (And.intro (hh15.cell (i := 1) rfl) (And.intro (hh15.cell (i := 2) rfl) (hh15.cell (i := 3) rfl)))
 have KR0 := right_any Aa na ca w7.heap.size (Mk.file s.x) (s.x.type : Nat) (s.x.entry : Nat) 64 As (Mk.segs s.x).length cs (Mk.segs s.x) w15 (zJ1 HB15).size ((zJ1 Ho7).below (zJ1 HB15)) ((zJ1 HS7).below (zJ1 HB15)) (by omega) (by omega) (zJ1 Hcap) (Mk.segs_fit (zJ1 HM))
 rw [Mk.right_file (zJ1 HM) (zJ1 HNum)] at KR0
 have KR := zJ2 KR0
 clear KR0 hh15 hb15 KS HB14 HH14 a7 a8 a9 a10 a11
 go_wp2_with fail
 refine (zJ1 KR).mono ?_
 rintro e w16 ⟨rfl, hb16⟩
 have HB16 := zJ2 ((zJ1 HB7).trans (((zJ1 HB15).trans (hb16.mono (zJ1 HB15).size)).mono (by omega)))
 clear hb16 KR HB15 z0 z1 z2 z3
 go_wp2_with fail
 refine ((zJ1 KW) _).mono ?_
 rintro e w17 ⟨rfl, hb17⟩
 have HB17 := zJ2 ((zJ1 HB16).trans (hb17.mono (zJ1 HB16).size))
 clear hb17
 go_wp2_with fail
 go_ret
 exact ⟨rfl, zJ1 HB17⟩
end Go.Proofs.YtnbecdahfgkffaaGreat
namespace Go.Proofs.YtnbecdahfgkffaaGreat
open Go.RowKit Go.ChangeShapes Go.WideShapes
theorem cell_lt {w : World} {a : Addr} {v : Value} (h : w.cell? a = some v) : a.block < w.heap.size := by
 unfold World.cell? at h
 split at h
 ·rename_i hb
  exact (Array.getElem?_eq_some_iff.1 hb).1
 ·cases h
section
variable {H : Type} {enc : TypeId × Value -> H} {P : Program} {w : World} {base : Nat} {held : Bool} {t e : TypeId} {A : Option Addr} {n c : Nat} {d : DataW H} {p : List MemPlace}
end
end Go.Proofs.YtnbecdahfgkffaaGreat
namespace Go.Proofs.YtnbecdahfgkffaaGreat
open Go.RowKit Go.ChangeShapes Go.WideShapes Go.Joins Go.Deep
section
variable {H : Type} {enc : TypeId × Value -> H} {P : Program} {w : World} {base : Nat} {held : Bool}
theorem fcells_at {a : Addr} {k : Nat} {cs : List Value} (h : w.cells? base a k = some cs) : cs.length = k /\ ∀ j, j < k -> w.cell? (a.add j) = cs[j]? := by
 unfold World.cells? at h
 split at h
 ·have hl := mapM_some_length h
  refine ⟨by simpa using hl, fun j hj => ?_⟩
  exact mapM_some_get h j j (by simp [hj])
 ·cases h
theorem wJi {t e : TypeId} {fuel : Nat} {v : Value} {y : DataW H × List MemPlace} (ht : P.underlying t = some (.slice e)) (hf : DataW.trod enc P w base (fun _ => true) held fuel t [v] = some y) : ∃ A n c, v = .slice A n c := by
 obtain ⟨a, l, c, h⟩ := slice_form ht hf
 simp only [List.cons.injEq, and_true] at h
 exact ⟨a, l, c, h⟩
theorem vJy {t : TypeId} {fuel : Nat} {v : Value} {y : DataW H × List MemPlace} (ht : P.underlying t = some (.int .u64)) (hf : DataW.trod enc P w base (fun _ => true) held fuel t [v] = some y) : ∃ n : Nat, v = .int .u64 n /\ n < 18446744073709551616 := by
 obtain ⟨z, q, -, hw⟩ := DataW.trod_int ht hf
 simp only [List.cons.injEq, and_true] at q
 have b : 0 <= z /\ z <= 18446744073709551615 := by simpa [Lit.wf, IntKind.min, IntKind.max, IntKind.signed, IntKind.bits] using hw
 obtain ⟨n, rfl⟩ := Int.eq_ofNat_of_zero_le b.1
 exact ⟨n, q, by omega⟩
theorem fu32_is {t : TypeId} {fuel : Nat} {v : Value} {y : DataW H × List MemPlace} (ht : P.underlying t = some (.int .u32)) (hf : DataW.trod enc P w base (fun _ => true) held fuel t [v] = some y) : ∃ n : Nat, v = .int .u32 n /\ n < 4294967296 := by
 obtain ⟨z, q, -, hw⟩ := DataW.trod_int ht hf
 simp only [List.cons.injEq, and_true] at q
 have b : 0 <= z /\ z <= 4294967295 := by simpa [Lit.wf, IntKind.min, IntKind.max, IntKind.signed, IntKind.bits] using hw
 obtain ⟨n, rfl⟩ := Int.eq_ofNat_of_zero_le b.1
 exact ⟨n, q, by omega⟩
theorem fu16_is {t : TypeId} {fuel : Nat} {v : Value} {y : DataW H × List MemPlace} (ht : P.underlying t = some (.int .u16)) (hf : DataW.trod enc P w base (fun _ => true) held fuel t [v] = some y) : ∃ n : Nat, v = .int .u16 n /\ n < 65536 := by
 obtain ⟨z, q, -, hw⟩ := DataW.trod_int ht hf
 simp only [List.cons.injEq, and_true] at q
 have b : 0 <= z /\ z <= 65535 := by simpa [Lit.wf, IntKind.min, IntKind.max, IntKind.signed, IntKind.bits] using hw
 obtain ⟨n, rfl⟩ := Int.eq_ofNat_of_zero_le b.1
 exact ⟨n, q, by omega⟩
theorem fu8_is {t : TypeId} {fuel : Nat} {v : Value} {y : DataW H × List MemPlace} (ht : P.underlying t = some (.int .u8)) (hf : DataW.trod enc P w base (fun _ => true) held fuel t [v] = some y) : ∃ n : Nat, v = .int .u8 n /\ n < 256 := by
 obtain ⟨z, q, -, hw⟩ := DataW.trod_int ht hf
 simp only [List.cons.injEq, and_true] at q
 have b : 0 <= z /\ z <= 255 := by simpa [Lit.wf, IntKind.min, IntKind.max, IntKind.signed, IntKind.bits] using hw
 obtain ⟨n, rfl⟩ := Int.eq_ofNat_of_zero_le b.1
 exact ⟨n, q, by omega⟩
theorem fint_is {t : TypeId} {fuel : Nat} {v : Value} {y : DataW H × List MemPlace} (ht : P.underlying t = some (.int .i64)) (hf : DataW.trod enc P w base (fun _ => true) held fuel t [v] = some y) : ∃ n : Int, v = .int .i64 n /\ -9223372036854775808 <= n /\ n <= 9223372036854775807 := by
 obtain ⟨z, q, -, hw⟩ := DataW.trod_int ht hf
 simp only [List.cons.injEq, and_true] at q
 have b : -9223372036854775808 <= z /\ z <= 9223372036854775807 := by simpa [Lit.wf, IntKind.min, IntKind.max, IntKind.signed, IntKind.bits] using hw
 exact ⟨z, q, b⟩
theorem fbool_is {t : TypeId} {fuel : Nat} {v : Value} {y : DataW H × List MemPlace} (ht : P.underlying t = some .bool) (hf : DataW.trod enc P w base (fun _ => true) held fuel t [v] = some y) : ∃ b : Bool, v = .bool b := by
 obtain ⟨s, q, -⟩ := DataW.trod_bool ht hf
 simp only [List.cons.injEq, and_true] at q
 exact ⟨s, q⟩
def rowCs {α : Type} (vals : α -> List Value) (l : List α) : List Value := l.flatMap vals
theorem vJo {α : Type} {vals : α -> List Value} {size : Nat} (hv : ∀ s, (vals s).length = size) (l : List α) : (rowCs vals l).length = l.length * size := by
 induction l with
 | nil => simp [rowCs]
 | cons s r ih =>
  have : (rowCs vals (s :: r)).length = size + (rowCs vals r).length := by simp [rowCs, hv]
  rw [this, ih, List.length_cons, Nat.add_mul]
  omega
theorem rowCs_app {α : Type} (vals : α -> List Value) (a b : List α) : rowCs vals (a ++ b) = rowCs vals a ++ rowCs vals b := by simp [rowCs]
theorem rowCs_at {α : Type} {vals : α -> List Value} {size : Nat} (hv : ∀ s, (vals s).length = size) (l : List α) (k : Nat) (s : α) (hk : l[k]? = some s) (j : Nat) (hj : j < size) : (rowCs vals l)[k * size + j]? = (vals s)[j]? := by
 have hlt := (List.getElem?_eq_some_iff.1 hk).1
 have e : l = l.take k ++ s :: l.drop (k + 1) := by
  rw [<- (List.getElem?_eq_some_iff.1 hk).2, <- List.drop_eq_getElem_cons hlt, List.take_append_drop]
 have hl : (rowCs vals (l.take k)).length = k * size := by rw [vJo hv, List.length_take]; congr 1; omega
 conv => lhs; rw [e]
 rw [rowCs_app, List.getElem?_append_right (by omega), hl, Nat.add_sub_cancel_left]
 show (vals s ++ rowCs vals (l.drop (k + 1)))[j]? = _
 rw [List.getElem?_append_left (by rw [hv]; exact hj)]
end
open Go.RowKit Go.ChangeShapes Go.WideShapes Go.Joins Go.Deep
section
variable {H : Type} {enc : TypeId × Value -> H} {P : Program} {w : World} {base : Nat} {held : Bool} {R : Nat}
theorem xJt {t : TypeId} (tys : Array (TypeId × Nat × Nat)) {fuel : Nat} {cs : List Value} {x : DataW H × List MemPlace}
  (hS : ∃ fs, P.underlying t = some (.struct fs) /\ fs.map (fun f => (f.type, f.offset, P.cellsOf f.type)) = tys)
  (h : DataW.trod enc P w base (fun _ => true) held fuel t cs = some x) (hR : ∀ k ∈ x.1.weights P t, k <= R) :
  cs.length = P.cellsOf t /\ ∃ n, ∀ (i : Nat) (ty : TypeId) (o k : Nat), tys[i]? = some (ty, o, k) -> ∃ y, DataW.trod enc P w base (fun _ => true) held n ty ((cs.drop o).take k) = some y /\ ∀ z ∈ y.1.weights P ty, z <= R := by
 obtain ⟨fs, ht, hty⟩ := hS
 obtain ⟨xs, n, _, rfl, hl, hlen, hf⟩ := DataW.trod_struct ht h
 refine ⟨hl, n, fun i ty o k hi => ?_⟩
 rw [<- hty, Array.getElem?_map] at hi
 cases hq : fs[i]? with
 | none => rw [hq] at hi; cases hi
 | some f =>
  rw [hq] at hi
  have e : (f.type, f.offset, P.cellsOf f.type) = (ty, o, k) := by simpa using hi
  injection e with e1 e
  injection e with e2 e3
  subst e1 e2 e3
  have hi2 : i < fs.size := (Array.getElem?_eq_some_iff.1 hq).1
  have h1 := hf i f hq
  have hx : xs[i]? = some (xs[i]'(by omega)) := List.getElem?_eq_getElem (by omega)
  refine ⟨_, h1.trans hx, fun z hz => hR z ?_⟩
  have hw : (DataW.agg (xs.map (·.1))).weights P t = DataW.weightsEach P (fs.toList.map (·.type)) (xs.map (·.1)) := by rw [DataW.weights, ht]
  show z ∈ (DataW.agg (xs.map (·.1))).weights P t
  rw [hw]
  refine DataW.weights_mem_each (j := i) (t := f.type) (d := (xs[i]'(by omega)).1) ?_ ?_ z hz
  ·have : fs.toList[i]? = some f := by rw [Array.getElem?_toList]; exact hq
   rw [List.getElem?_map, this]; rfl
  ·rw [List.getElem?_map, hx]; rfl
theorem uJ5 {e : TypeId} {l : List (DataW H)} {d : DataW H} (h : d ∈ l) {z : Nat} (hz : z ∈ d.weights P e) : z ∈ DataW.weightsAll P e l := by
 induction l with
 | nil => cases h
 | cons a r ih =>
  rw [DataW.weightsAll, List.mem_append]
  rcases List.mem_cons.1 h with rfl | h
  ·exact .inl hz
  ·exact .inr (ih h)
theorem yJ2 {α : Type} [Inhabited α] {A : Option Addr} {n c fuel size : Nat} {t e : TypeId} {x : DataW H × List MemPlace} (ht : P.underlying t = some (.slice e)) (h6 : P.cellsOf e = size) (hpos : 0 < size) (vals : α -> List Value) (ok : α -> Prop) (hv : ∀ s, (vals s).length = size)
  (hone : ∀ fuel cs x, DataW.trod enc P w base (fun _ => true) held fuel e cs = some x -> (∀ k ∈ x.1.weights P e, k <= R) -> ∃ s, cs = vals s /\ ok s)
  (h : DataW.trod enc P w base (fun _ => true) held fuel t [.slice A n c] = some x) (hR : ∀ k ∈ x.1.weights P t, k <= R) :
  ∃ l : List α, Rd w w.heap.size size A n (rowCs vals l) /\ l.length = n /\ n <= c /\ c * P.bytesOf e <= R /\ ∀ s ∈ l, ok s := by
 rcases Go.Deep.open_slice ht h with ⟨h1, h2⟩ | ⟨a, len, cap, m, k, D, Pl, h1, hb, hl, hm, hmm, hx, hel⟩
 ·simp at h1
  obtain ⟨rfl, rfl, rfl⟩ := h1
  exact ⟨[], Rd.none_ _ _ _ _, rfl, Nat.le_refl _, by rw [Nat.zero_mul]; exact Nat.zero_le _, by simp⟩
 ·simp at h1
  obtain ⟨rfl, rfl, rfl⟩ := h1
  simp only [if_true] at hmm
  subst hmm
  subst hx
  have hw : (DataW.slice ((List.range n).map D) ((List.range (m - n)).map fun j => D (n + j))).weights P t = (n + (m - n)) * P.bytesOf e :: (DataW.weightsAll P e ((List.range n).map D) ++ DataW.weightsAll P e ((List.range (m - n)).map fun j => D (n + j))) := by
   rw [DataW.weights, ht]
   simp
  have hR' : ∀ k ∈ (DataW.slice ((List.range n).map D) ((List.range (m - n)).map fun j => D (n + j))).weights P t, k <= R := hR
  rw [hw] at hR'
  have hcap := hR' _ (List.mem_cons_self ..)
  rw [show n + (m - n) = m from by omega] at hcap
  have each : ∀ i, i < n -> ∃ s : α, ok s /\ ∀ j, j < size -> w.cell? (a.add (i * size + j)) = (vals s)[j]? := by
   intro i hi
   obtain ⟨cs, hc, ht⟩ := hel i (by omega)
   rw [h6] at hc
   obtain ⟨s, rfl, hs⟩ := hone _ _ _ ht (fun z hz => hR' z (List.mem_cons_of_mem _ (List.mem_append.2 (.inl (uJ5 (List.mem_map.2 ⟨i, List.mem_range.2 hi, rfl⟩) hz)))))
   obtain ⟨_, hcell⟩ := fcells_at hc
   refine ⟨s, hs, fun j hj => ?_⟩
   have := hcell j hj
   rw [<- this]
   congr 1
   by_cases g1 : i * size = 0 <;> by_cases g2 : j = 0 <;> simp [Addr.add, g1, g2, Nat.add_assoc]
  obtain ⟨S, hS⟩ := Go.Deep.choose_lt each
  refine ⟨(List.range n).map S, ⟨by rw [vJo hv]; simp, ?_⟩, by simp, hl, hcap, ?_⟩
  ·by_cases h0 : n = 0
   ·subst h0; exact .inl rfl
   ·obtain ⟨b, off, spot⟩ := a
    have hs0 := (hS 0 (by omega)).2 0 hpos
    have hlt0 : 0 < (vals (S 0)).length := by rw [hv]; exact hpos
    have hs : spot = none := by simpa [Addr.add] using World.cell?_spot (hs0.trans (List.getElem?_eq_getElem hlt0))
    subst hs
    have hc2 : ∀ i, i < n -> ∀ j, j < size -> w.cell? ⟨b, off + (i * size + j), none⟩ = (vals (S i))[j]? := fun i hi j hj => by
     rw [<- Go.WideShapes.add_plain]; exact (hS i hi).2 j hj
    have hblk : b < w.heap.size := cell_lt (a := ⟨b, off + (0 * size + 0), none⟩) ((hc2 0 (by omega) 0 hpos).trans (List.getElem?_eq_getElem hlt0))
    refine .inr ⟨b, off, rfl, hblk, fun j u hu => ?_⟩
    have hj : j < n * size := by
     have := (List.getElem?_eq_some_iff.1 hu).1
     rw [vJo hv] at this
     simpa using this
    have hq : j / size < n := (Nat.div_lt_iff_lt_mul hpos).2 hj
    have hr : j % size < size := Nat.mod_lt _ hpos
    have hjj : j / size * size + j % size = j := by rw [Nat.mul_comm]; exact Nat.div_add_mod j size
    have hat := rowCs_at hv ((List.range n).map S) (j / size) (S (j / size)) (by simp [hq]) (j % size) hr
    rw [hjj] at hat
    have := hc2 (j / size) hq (j % size) hr
    rw [hjj] at this
    rw [this, <- hat, hu]
  ·intro s hs
   simp only [List.mem_map, List.mem_range] at hs
   obtain ⟨i, hi, rfl⟩ := hs
   exact (hS i hi).1
theorem rowCs_one {α : Type} (f : α -> Value) (l : List α) : rowCs (fun s => [f s]) l = l.map f := by
 unfold rowCs
 induction l with
 | nil => rfl
 | cons a r ih => rw [List.flatMap_cons, ih]; rfl
theorem wJh {t : TypeId} {fuel : Nat} {v : Value} {y : DataW H × List MemPlace} (ht : P.underlying t = some .string) (hf : DataW.trod enc P w base (fun _ => true) held fuel t [v] = some y) (hR : ∀ k ∈ y.1.weights P t, k <= R) : ∃ s : ByteArray, v = .string s /\ s.size <= maxLen /\ s.size <= R := by
 obtain ⟨s, q, hy, bs⟩ := DataW.trod_string ht hf
 simp only [List.cons.injEq, and_true] at q
 refine ⟨s, q, bs, ?_⟩
 subst hy
 have h1 : s.data.toList.length <= R := hR _ (by
  show _ ∈ (DataW.lit (.string s.data.toList) : DataW H).weights P t
  rw [DataW.weights]
  exact List.mem_singleton.2 rfl)
 rw [Array.length_toList] at h1
 exact h1
theorem fstrsW_is {t e : TypeId} {fuel : Nat} {v : Value} {y : DataW H × List MemPlace} (ht : P.underlying t = some (.slice e)) (he : P.underlying e = some .string) (hc : P.cellsOf e = 1) (hf : DataW.trod enc P w base (fun _ => true) held fuel t [v] = some y) (hR : ∀ k ∈ y.1.weights P t, k <= R) :
  ∃ (A : Option Addr) (c : Nat) (l : List ByteArray), v = .slice A l.length c /\ Rd w w.heap.size 1 A l.length (l.map Value.string) /\ l.length <= c /\ c * P.bytesOf e <= R /\ ∀ s ∈ l, s.size <= R := by
 obtain ⟨A, n, c, rfl⟩ := wJi ht hf
 obtain ⟨l, h1, h2, h3, h4, h5⟩ := yJ2 (α := ByteArray) ht hc (by decide) (fun s => [Value.string s]) (fun s => s.size <= R) (fun _ => rfl) (fun fuel cs x hx hr => by
  have hl : ∃ v, cs = [v] := by
   obtain ⟨s, q, _⟩ := DataW.trod_string he hx
   exact ⟨_, q⟩
  obtain ⟨v, rfl⟩ := hl
  obtain ⟨s, rfl, _, hs⟩ := wJh he hx hr
  exact ⟨s, rfl, hs⟩) hf hR
 subst h2
 refine ⟨A, c, l, rfl, ?_, h3, h4, h5⟩
 rw [rowCs_one] at h1
 exact h1
theorem uJl {t e : TypeId} {fuel : Nat} {v : Value} {y : DataW H × List MemPlace} (ht : P.underlying t = some (.slice e)) (he : P.underlying e = some (.int .u8)) (hc : P.cellsOf e = 1) (hf : DataW.trod enc P w base (fun _ => true) held fuel t [v] = some y) (hR : ∀ k ∈ y.1.weights P t, k <= R) :
  ∃ (A : Option Addr) (c : Nat) (l : List UInt8), v = .slice A l.length c /\ Rd w w.heap.size 1 A l.length (l.map fun c => .int .u8 c.toNat) /\ l.length <= c /\ c * P.bytesOf e <= R := by
 obtain ⟨A, n, c, rfl⟩ := wJi ht hf
 obtain ⟨l, h1, h2, h3, h4, h5⟩ := yJ2 (α := UInt8) ht hc (by decide) (fun s => [Value.int .u8 s.toNat]) (fun s => True) (fun _ => rfl) (fun fuel cs x hx hr => by
  have hl : ∃ v, cs = [v] := by
   obtain ⟨z, q, _⟩ := DataW.trod_int he hx
   exact ⟨_, q⟩
  obtain ⟨v, rfl⟩ := hl
  obtain ⟨n, rfl, hn⟩ := fu8_is he hx
  refine ⟨UInt8.ofNat n, ?_, trivial⟩
  have : (UInt8.ofNat n).toNat = n := by simp; omega
  rw [this]) hf hR
 subst h2
 refine ⟨A, c, l, rfl, ?_, h3, h4⟩
 rw [rowCs_one] at h1
 exact h1
end
open Go.RowKit Go.ChangeShapes Go.WideShapes Go.Joins Go.Deep
theorem specTys : ∃ fs, Tryz.prog.underlying 31 = some (.struct fs) /\ fs.map (fun f => (f.type, f.offset, Tryz.prog.cellsOf f.type)) = #[(22, 0, 1), (23, 1, 1), (9, 2, 1), (24, 3, 1), (24, 4, 1), (23, 5, 1), (4, 6, 1), (29, 7, 5), (3, 12, 1)] :=
 ⟨_, Tryz.underlying31, by kernel_rfl⟩
theorem dynTys : ∃ fs, Tryz.prog.underlying 29 = some (.struct fs) /\ fs.map (fun f => (f.type, f.offset, Tryz.prog.cellsOf f.type)) = #[(25, 0, 1), (9, 1, 1), (9, 2, 1), (26, 3, 1), (27, 4, 1)] :=
 ⟨_, Tryz.underlying29, by kernel_rfl⟩
theorem symTys : ∃ fs, Tryz.prog.underlying 48 = some (.struct fs) /\ fs.map (fun f => (f.type, f.offset, Tryz.prog.cellsOf f.type)) = #[(9, 0, 1), (23, 1, 1), (23, 2, 1), (5, 3, 1), (4, 4, 1)] :=
 ⟨_, Tryz.underlying48, by kernel_rfl⟩
theorem relTys : ∃ fs, Tryz.prog.underlying 141 = some (.struct fs) /\ fs.map (fun f => (f.type, f.offset, Tryz.prog.cellsOf f.type)) = #[(23, 0, 1), (56, 1, 1), (3, 2, 1), (2, 3, 1)] :=
 ⟨_, Tryz.underlying141, by kernel_rfl⟩
instance : Inhabited Dy.Sym := ⟨⟨⟨#[]⟩, 0, 0, 0, false⟩⟩
instance : Inhabited Mk.Rel := ⟨⟨0, 0, 0, 0⟩⟩
theorem reach_le : reachBytes <= 140737488355328 := by decide +kernel
theorem list4 {α : Type} {cs : List α} (h : cs.length = 4) : ∃ c0 c1 c2 c3, cs = [c0, c1, c2, c3] := by
 match cs, h with
 | [c0, c1, c2, c3], _ => exact ⟨c0, c1, c2, c3, rfl⟩
theorem list5 {α : Type} {cs : List α} (h : cs.length = 5) : ∃ c0 c1 c2 c3 c4, cs = [c0, c1, c2, c3, c4] := by
 match cs, h with
 | [c0, c1, c2, c3, c4], _ => exact ⟨c0, c1, c2, c3, c4, rfl⟩
theorem list13 {α : Type} {cs : List α} (h : cs.length = 13) : ∃ c0 c1 c2 c3 c4 c5 c6 c7 c8 c9 c10 c11 c12, cs = [c0, c1, c2, c3, c4, c5, c6, c7, c8, c9, c10, c11, c12] := by
 match cs, h with
 | [c0, c1, c2, c3, c4, c5, c6, c7, c8, c9, c10, c11, c12], _ => exact ⟨c0, c1, c2, c3, c4, c5, c6, c7, c8, c9, c10, c11, c12, rfl⟩
section
variable {H : Type} {enc : TypeId × Value -> H} {w : World} {base : Nat} {held : Bool} {R : Nat}
theorem sym_vals {fuel : Nat} {cs : List Value} {x : DataW H × List MemPlace} (h : DataW.trod enc Tryz.prog w base (fun _ => true) held fuel 48 cs = some x) (hR : ∀ k ∈ x.1.weights Tryz.prog 48, k <= R) :
  ∃ s : Dy.Sym, cs = symV s /\ s.name.size <= R /\ s.value < 18446744073709551616 /\ s.size < 18446744073709551616 := by
 obtain ⟨hl, n, hf⟩ := xJt _ symTys h hR
 rw [show Tryz.prog.cellsOf 48 = 5 from by kernel_rfl] at hl
 obtain ⟨c0, c1, c2, c3, c4, rfl⟩ := list5 hl
 obtain ⟨y0, h0, r0⟩ := hf 0 _ _ _ rfl
 obtain ⟨y1, h1, r1⟩ := hf 1 _ _ _ rfl
 obtain ⟨y2, h2, r2⟩ := hf 2 _ _ _ rfl
 obtain ⟨y3, h3, r3⟩ := hf 3 _ _ _ rfl
 obtain ⟨y4, h4, r4⟩ := hf 4 _ _ _ rfl
 obtain ⟨s, rfl, _, hs⟩ := wJh (v := c0) Tryz.underlying9 h0 r0
 obtain ⟨a, rfl, ha⟩ := vJy (v := c1) Tryz.underlying23 h1
 obtain ⟨b, rfl, hb⟩ := vJy (v := c2) Tryz.underlying23 h2
 obtain ⟨c, rfl, hc⟩ := fu8_is (v := c3) Tryz.underlying5 h3
 obtain ⟨d, rfl⟩ := fbool_is (v := c4) Tryz.underlying4 h4
 exact ⟨⟨s, a, b, c, d⟩, rfl, hs, ha, hb⟩
theorem rel_vals {fuel : Nat} {cs : List Value} {x : DataW H × List MemPlace} (h : DataW.trod enc Tryz.prog w base (fun _ => true) held fuel 141 cs = some x) (hR : ∀ k ∈ x.1.weights Tryz.prog 141, k <= R) :
  ∃ s : Mk.Rel, cs = mrV s /\ MrOk s /\ -9223372036854775808 <= s.add /\ s.add <= 9223372036854775807 := by
 obtain ⟨hl, n, hf⟩ := xJt _ relTys h hR
 rw [show Tryz.prog.cellsOf 141 = 4 from by kernel_rfl] at hl
 obtain ⟨c0, c1, c2, c3, rfl⟩ := list4 hl
 obtain ⟨y0, h0, r0⟩ := hf 0 _ _ _ rfl
 obtain ⟨y1, h1, r1⟩ := hf 1 _ _ _ rfl
 obtain ⟨y2, h2, r2⟩ := hf 2 _ _ _ rfl
 obtain ⟨y3, h3, r3⟩ := hf 3 _ _ _ rfl
 obtain ⟨a, rfl, ha⟩ := vJy (v := c0) Tryz.underlying23 h0
 obtain ⟨b, rfl, hb⟩ := fu32_is (v := c1) Tryz.underlying56 h1
 obtain ⟨c, rfl, hc⟩ := fint_is (v := c2) Tryz.underlying3 h2
 obtain ⟨d, rfl, hd⟩ := fint_is (v := c3) Tryz.underlying2 h3
 exact ⟨⟨a, b, c, d⟩, rfl, ⟨ha, hb⟩, hd⟩
theorem spec_vals {fuel : Nat} {cs : List Value} {x : DataW H × List MemPlace} (h : DataW.trod enc Tryz.prog w base (fun _ => true) held fuel 31 cs = some x) (hR : ∀ k ∈ x.1.weights Tryz.prog 31, k <= 140737488355328) :
  ∃ s : Xq, cs = s.l /\ XqM w w.heap.size s /\ XqIn s := by
 obtain ⟨hl, n, hf⟩ := xJt _ specTys h hR
 rw [show Tryz.prog.cellsOf 31 = 13 from by kernel_rfl] at hl
 obtain ⟨c0, c1, c2, c3, c4, c5, c6, c7, c8, c9, c10, c11, c12, rfl⟩ := list13 hl
 obtain ⟨y0, h0, r0⟩ := hf 0 _ _ _ rfl
 obtain ⟨y1, h1, r1⟩ := hf 1 _ _ _ rfl
 obtain ⟨y2, h2, r2⟩ := hf 2 _ _ _ rfl
 obtain ⟨y3, h3, r3⟩ := hf 3 _ _ _ rfl
 obtain ⟨y4, h4, r4⟩ := hf 4 _ _ _ rfl
 obtain ⟨y5, h5, r5⟩ := hf 5 _ _ _ rfl
 obtain ⟨y6, h6, r6⟩ := hf 6 _ _ _ rfl
 obtain ⟨y7, h7, r7⟩ := hf 7 _ _ _ rfl
 obtain ⟨y8, h8, r8⟩ := hf 8 _ _ _ rfl
 obtain ⟨ty, rfl, bty⟩ := fu16_is (v := c0) Tryz.underlying22 h0
 obtain ⟨en, rfl, ben⟩ := vJy (v := c1) Tryz.underlying23 h1
 obtain ⟨ip, rfl, _, bip⟩ := wJh (v := c2) Tryz.underlying9 h2 r2
 obtain ⟨At, ct, te, rfl, m3, l3, w3⟩ := uJl (v := c3) Tryz.underlying24 Tryz.underlying5 (by kernel_rfl) h3 r3
 obtain ⟨Ad, cd, da, rfl, m4, l4, w4⟩ := uJl (v := c4) Tryz.underlying24 Tryz.underlying5 (by kernel_rfl) h4 r4
 obtain ⟨mo, rfl, bmo⟩ := vJy (v := c5) Tryz.underlying23 h5
 obtain ⟨dy, rfl⟩ := fbool_is (v := c6) Tryz.underlying4 h6
 obtain ⟨ap, rfl, bap⟩ := fint_is (v := c12) Tryz.underlying3 h8
 have hd : DataW.trod enc Tryz.prog w base (fun _ => true) held n 29 [c7, c8, c9, c10, c11] = some y7 := h7
 obtain ⟨hl2, n2, hg⟩ := xJt _ dynTys hd r7
 obtain ⟨z0, g0, q0⟩ := hg 0 _ _ _ rfl
 obtain ⟨z1, g1, q1⟩ := hg 1 _ _ _ rfl
 obtain ⟨z2, g2, q2⟩ := hg 2 _ _ _ rfl
 obtain ⟨z3, g3, q3⟩ := hg 3 _ _ _ rfl
 obtain ⟨z4, g4, q4⟩ := hg 4 _ _ _ rfl
 obtain ⟨A1, k1, ne, rfl, m7, l7, w7, s7⟩ := fstrsW_is (v := c7) Tryz.underlying25 Tryz.underlying9 (by kernel_rfl) g0 q0
 obtain ⟨so, rfl, _, bso⟩ := wJh (v := c8) Tryz.underlying9 g1 q1
 obtain ⟨ru, rfl, _, bru⟩ := wJh (v := c9) Tryz.underlying9 g2 q2
 have g3' : DataW.trod enc Tryz.prog w base (fun _ => true) held n2 26 [c10] = some z3 := g3
 have g4' : DataW.trod enc Tryz.prog w base (fun _ => true) held n2 27 [c11] = some z4 := g4
 obtain ⟨A2, n10, k2, rfl⟩ := wJi Tryz.underlying26 g3'
 obtain ⟨A3, n11, k3, rfl⟩ := wJi Tryz.underlying27 g4'
 obtain ⟨sy, m10, e10, l10, w10, s10⟩ := yJ2 (α := Dy.Sym) Tryz.underlying26 (show Tryz.prog.cellsOf 48 = 5 from by kernel_rfl) (by decide) symV (fun s => s.name.size <= 140737488355328 /\ s.value < 18446744073709551616 /\ s.size < 18446744073709551616) (fun _ => rfl) (fun fuel cs x hx hr => sym_vals hx hr) g3' q3
 obtain ⟨re, m11, e11, l11, w11, s11⟩ := yJ2 (α := Mk.Rel) Tryz.underlying27 (show Tryz.prog.cellsOf 141 = 4 from by kernel_rfl) (by decide) mrV (fun s => MrOk s /\ -9223372036854775808 <= s.add /\ s.add <= 9223372036854775807) (fun _ => rfl) (fun fuel cs x hx hr => rel_vals hx hr) g4' q4
 subst e10 e11
 rw [show Tryz.prog.bytesOf 5 = 1 from by kernel_rfl] at w3 w4
 rw [show Tryz.prog.bytesOf 9 = 16 from by kernel_rfl] at w7
 rw [show Tryz.prog.bytesOf 48 = 40 from by kernel_rfl] at w10
 rw [show Tryz.prog.bytesOf 141 = 32 from by kernel_rfl] at w11
 refine ⟨⟨⟨ty, en, ip, te, da, mo, dy, ⟨ne, so, ru, sy, re⟩, ap⟩, At, ct, Ad, cd, A1, k1, A2, k2, A3, k3⟩, rfl, ⟨m3, m4, ⟨m7, m10, m11⟩⟩, ⟨?_, bty, ben, bmo, l3, l4, l7, l10, l11, fun y hy => (s10 y hy).2, fun r hr => (s11 r hr).1, fun r hr => (s11 r hr).2⟩⟩
 exact ⟨by show te.length <= _; omega, by show da.length <= _; omega, bip, bso, bru, by show ne.length <= _; omega, by show sy.length <= _; omega, by show re.length <= _; omega, s7, fun y hy => (s10 y hy).1⟩
set_option maxRecDepth 100000 in
theorem open_spec_rd {r : Reach} {b0 : Nat} {v : Value} {d : DataW H} {p : List MemPlace} (hv : Value.okWide Tryz.prog w r b0 31 v) (h : DataW.Trod enc Tryz.prog w base (fun _ => true) held 31 v d p) (hR : ∀ k ∈ d.weights Tryz.prog 31, k <= reachBytes) :
  ∃ s : Xq, v = .agg s.l.toArray /\ XqM w w.heap.size s /\ XqIn s := by
 obtain ⟨cs, rfl, hsz⟩ := okWide_struct Tryz.underlying31 hv
 obtain ⟨fuel, hf⟩ := h
 obtain ⟨s, e, h1, h2⟩ := spec_vals hf (fun k hk => Nat.le_trans (hR k hk) reach_le)
 refine ⟨s, ?_, h1, h2⟩
 have e2 : cs.toList = s.l := e
 rw [<- Array.toArray_toList (xs := cs), e2]
end
end Go.Proofs.YtnbecdahfgkffaaGreat
namespace Go.Proofs.YtnbecdahfgkffaaGreat.makerParsed
open Go.ChangeShapes Go.WideShapes Go.ChangeAt Go.RowKit
open Go.ChangeMaps (open_string shut_string)
theorem own : ownKnob Tryz.prog.godebug = none := by kernel_rfl
theorem laidOut : laidOutB Tryz.prog = true := by kernel_rfl
theorem wfi {z : Int} (h : (Lit.int .i64 z).wf = true) : -9223372036854775808 <= z /\ z <= 9223372036854775807 := by simpa [Lit.wf, IntKind.min, IntKind.max, IntKind.signed, IntKind.bits] using h
set_option maxRecDepth 100000 in
theorem lifted (os : Os) (started : os.Started) (H : Type) (enc : TypeId × Value -> H) :
  ReturnsInHanded {} Tryz.checked os 5 .any (Rows.makerParsedSpec.pre6 enc Tryz.prog Tryz.f5 Rows.makerParsedRow.domain false) (Rows.makerParsedSpec.post enc Tryz.prog Tryz.f5 false true false false) := by
 refine returnsInHanded_of_change_sized (C := Tryz.checked) own started (by kernel_rfl) Tryz.func5
  (ChangeSpec.witness6 (enc := enc) (C := Tryz.checked) false ⟨#[], #[.agg #[.int .u16 0, .int .u64 0, .string ByteArray.empty, .slice none 0 0, .slice none 0 0, .int .u64 0, .bool false, .slice none 0 0, .string ByteArray.empty, .string ByteArray.empty, .slice none 0 0, .slice none 0 0, .int .i64 0]], []⟩ 8 (by kernel_rfl) (by kernel_rfl) (by kernel_rfl) (by kernel_rfl)) ?_
 intro W base args ds gs before hval0 hW hcnd hsz0 _
 have hval : ∀ (j : Nat) t v, Tryz.f5.params[j]? = some t -> args[j]? = some v -> Value.okWide Tryz.prog W .any base t v := hval0
 have hW' := hW
 obtain ⟨p, q, hA0, hV, rfl, hfz, hnd⟩ := hW
 have hA : DataW.TrodAll enc Tryz.prog W 0 (fun _ => true) true Tryz.f5.params.toList args.toList ds p := hA0
 rw [Tryz.params5] at hA hval
 obtain ⟨v0, vs0, d0, ds0, p0, q0, hargs, rfl, rfl, h0, r0⟩ := trodAll_cons hA
 obtain ⟨rfl, rfl, rfl⟩ := trodAll_nil r0
 obtain rfl : args = #[v0] := by cases args; simp_all
 obtain ⟨rfl, rfl⟩ := trodVars_none hV
 have k0 := h0
 have lt0 : ∀ x ∈ p0, x.block < W.heap.size := by obtain ⟨m, hm⟩ := k0; exact DataW.trod_lt m _ _ _ hm
 have sz0 : ∀ k ∈ d0.weights Tryz.prog 31, k <= reachBytes := fun k hk => by
  have := List.all_eq_true.1 hsz0 k (DataW.weights_mem_each (j := 0) (t := 31) (d := d0) (by rw [Tryz.params5]; rfl) rfl k hk)
  simpa using this
 obtain ⟨s0, rfl, m0, i0⟩ := open_spec_rd (hval 0 31 v0 rfl rfl) h0 sz0
 clear hA0 hval0
 refine (parsed_any s0 W m0 i0).mono fun e W' ⟨he, bel⟩ => ?_
 subst he
 exact ⟨_, rfl, _, _, _, [], _, [], hW', trodAll_mk1 (shut_bool Tryz.underlying4 _), (trodAll_cons_mk (Below.trod laidOut (by kernel_rfl) (of_decide_eq_true (by kernel_rfl)) k0 bel lt0) trodAll_mk0), rfl, bel.frame _, fun h => by cases h⟩
theorem over : Rows.makerParsedRow.holds Tryz.pinned (OpenSpec.ofChange Rows.makerParsedSpec) :=
 OpenClaim.holds_of_wide 5 Tryz.f5 rfl rfl rfl rfl rfl rfl rfl ⟨rfl, rfl, rfl, rfl, rfl⟩ rfl rfl rfl rfl rfl (by kernel_rfl) Tryz.func5 (by kernel_rfl)
  (of_decide_eq_true (by kernel_rfl)) (by unfold Func.isWrapper; first | (rw [if_pos (by decide +kernel)]; kernel_rfl) | (rw [if_neg (by decide +kernel)]; exact ⟨rfl, rfl⟩))
  (fun os started H enc _ => lifted os started H enc)
theorem proved : Rows.MakerParsedSaid := over
#print axioms proved
end Go.Proofs.YtnbecdahfgkffaaGreat.makerParsed
