/- Texts of the claim LawCloManyCard (Dy5, Dy6, Dy11, DyPure3, Dy14, Dy15, Dy16, Dy17): what the functions that the statement reaches compute, and plain laws of it. Conditions: those that each theorem states. -/
import Derived.Test.YtiiiblmhlhikkaaGreatDoorCbK2
import Derived.Deep.RegionHeld3
import Derived.Test.YtiiiblmhlhikkaaGreatDoorCbK1
import Derived.Laws.CopyOwn
import Derived.Test.YtiiiblmhlhikkaaGreatDoorCbK3
import Derived.Test.YtiiiblmhlhikkaaGreatDoorCbK6
set_option linter.unusedVariables false
set_option linter.unusedSimpArgs false
namespace Go.Proofs.YtiiiblmhlhikkaaGreatDoor
open Go.RowKit
structure NmM (w : World) (B : Nat) (b : List UInt8) (r : Dy.Names) (Ah : Option Addr) (nh ch : Nat) (As : Option Addr) (cs : Nat) : Prop where
 h : 0 < r.buckets -> nh = 8 + 4 * r.buckets + 4 * r.chain /\ Rd w B 1 Ah nh (bys (Dy.cut b r.hash nh))
 hc : nh <= ch
 s : Rd w B 1 As (24 * r.chain) (bys (Dy.cut b r.syms (24 * r.chain)))
 sc : 24 * r.chain <= cs
 fit : r.buckets < 4294967296 /\ r.chain <= 65
def NamesE (r : Int × Dy.Names) (B : Nat) (b : List UInt8) (w : World) (e : Ending) (w' : World) : Prop :=
 ∃ Ah nh ch As cs, e = .returned (.tuple #[.agg #[.int .u64 (r.2.buckets : Nat), .int .u64 (r.2.chain : Nat), .slice Ah nh ch, .slice As (24 * r.2.chain) cs], .int .i64 r.1]) /\ NmM w' B b r.2 Ah nh ch As cs /\ Below w.heap.size w w'
theorem xJ5 {w w' : World} {B : Nat} {b : List UInt8} (x : Int) (hb : Below w.heap.size w w') : NamesE (x, ⟨0, 0, 0, 0⟩) B b w (.returned (.tuple #[.agg #[.int .u64 0, .int .u64 0, .slice none 0 0, .slice none 0 0], .int .i64 x])) w' :=
 ⟨none, 0, 0, none, 0, rfl, ⟨fun h => absurd h (Nat.lt_irrefl 0), Nat.le_refl _, Rd.none_ _ _ _ _, Nat.le_refl _, Nat.zero_lt_succ _, Nat.zero_le _⟩, hb⟩
theorem laidE_form {o : Option Nat} {size B : Nat} {b : List UInt8} {w w' : World} {e : Ending} (h : LaidE o size B b w e w') :
  ∃ A n c q, e = .returned (.tuple #[.slice A n c, .bool q]) /\ ((q = false /\ o = none) \/ (q = true /\ ∃ off, o = some off /\ n = size /\ Rd w' B 1 A n (bys (Dy.cut b off size)) /\ n <= c)) /\ Below w.heap.size w w' := by
 rcases h with ⟨⟨h1, rfl⟩ | ⟨off, A, c, h1, rfl, h2, h3⟩, hb⟩
 ·exact ⟨none, 0, 0, false, rfl, .inl ⟨rfl, h1⟩, hb⟩
 ·exact ⟨A, size, c, true, rfl, .inr ⟨rfl, off, h1, rfl, h2, h3⟩, hb⟩
theorem yJy : (Tryz.prog.info? 194).map (·.size) = some 4 := by kernel_rfl
theorem nmOne (a b : Int) (A : Option Addr) (n k : Nat) (A2 : Option Addr) (n2 k2 : Nat) : (#[.int .u64 a, .int .u64 b, .slice A n k, .slice A2 n2 k2] : Array Value).all (·.oneCell') = true := by simp [Value.oneCell']
theorem zJs {b : List UInt8} {p n q s : Nat} (h : q + s <= n) : Wd.num (Dy.cut b p n) q s = Wd.num b (p + q) s := by
 unfold Wd.num Dy.cut
 congr 1
 rw [List.drop_take, List.take_take, List.drop_drop, Nat.min_eq_left (by omega)]
set_option maxRecDepth 100000 in
set_option maxHeartbeats 4000000 in
theorem names_any (B g : Nat) (d : Ds) (w : World) (hd : DsM w B g d d.L) (ho : DsOk d) (hbl : d.b.length = d.m) :
  Calls Tryz.prog 90 #[.pointer (some ⟨g, 0, none⟩)] w (NamesE (Dy.names d.b (El.loads d.segs) d.L) B d.b w) := by
 have hb0 : Below w.heap.size w (w.alloc (.cells #[.int .u64 0, .int .u64 0, .slice none 0 0, .slice none 0 0] 194)) := (Below.refl _ _).alloc (Nat.le_refl _) _
 have hk0 : Blk (w.alloc (.cells #[.int .u64 0, .int .u64 0, .slice none 0 0, .slice none 0 0] 194)) w.heap.size 194 [.int .u64 0, .int .u64 0, .slice none 0 0, .slice none 0 0] := Blk.new w 194 _
 have hd0 := hd.belowSz hb0
 obtain ⟨-, -, -, -, -, -, x6⟩ := hd0.cells
 have l4 := (yJn hd0 (t := 4) rfl).1
 have hn : Dy.names d.b (El.loads d.segs) d.L = match Dy.val d.L 4 with
  | none => (0, ⟨0, 0, 0, 0⟩)
  | some at_ =>
   match Dy.laid d.b.length (El.loads d.segs) at_ 8 with
   | none => (25, ⟨0, 0, 0, 0⟩)
   | some p =>
    if 65 < Wd.num d.b (p + 4) 4 then (12, ⟨0, 0, 0, 0⟩)
    else match Dy.laid d.b.length (El.loads d.segs) at_ (8 + 4 * Wd.num d.b p 4 + 4 * Wd.num d.b (p + 4) 4), Dy.laid d.b.length (El.loads d.segs) ((Dy.val d.L 6).getD 0) (24 * Wd.num d.b (p + 4) 4) with
     | some h, some s => (0, ⟨Wd.num d.b p 4, Wd.num d.b (p + 4) 4, h, s⟩)
     | _, _ => (25, ⟨0, 0, 0, 0⟩) := rfl
 rw [hbl] at hn
 rw [hn]
 clear hn
 cases hv : Dy.val d.L 4 with
 | none =>
  rw [hv] at l4
  have l4' : (Instr.lookup 252 (.map (some d.gm)) (.int .u64 4) true).run Tryz.prog (w.alloc (.cells #[.int .u64 0, .int .u64 0, .slice none 0 0, .slice none 0 0] 194)) = .ok (.tuple #[.int .u64 0, .bool false]) _ := l4
  have Hb0 := zJ2 hb0
  have Hk0 := zJ2 hk0
  obtain ⟨gm, hgm⟩ : ∃ g, d.gm = g := ⟨_, rfl⟩
  rw [hgm] at x6 l4'
  dsimp only
  clear l4 hv hd hd0 ho hbl hb0 hk0 hgm
  go_enter Tryz.func90, Tryz.ntmps90
  go_wp2_with fail
  refine bodyPost_ret (results_cell_tmp (P := Tryz.prog) rfl _ _ w.heap.size 194 #[.int .u64 0, .int .u64 0, .slice none 0 0, .slice none 0 0] (0, 0) _ rfl (zJ1 Hk0) Tryz.underlying194 rfl yJy) rfl ?_
  exact xJ5 0 (zJ1 Hb0)
 | some at_ =>
  rw [hv] at l4
  have l4' : (Instr.lookup 252 (.map (some d.gm)) (.int .u64 4) true).run Tryz.prog (w.alloc (.cells #[.int .u64 0, .int .u64 0, .slice none 0 0, .slice none 0 0] 194)) = .ok (.tuple #[.int .u64 (at_ : Nat), .bool true]) _ := l4
  have hat : at_ < 18446744073709551616 := by have := vJx ho 4; rw [hv] at this; exact this
  have KL := fun (w' : World) (hb : Below w.heap.size w w') (a s : Nat) (ha : a < 18446744073709551616) (hs : s < 18446744073709551616) => laid_any B g d d.L a s w' (hd.belowSz hb) ho ha hs
  have h6 := vJx ho 6
  have hdz := fun (w' : World) (hb : Below w.heap.size w w') => (hd.belowSz hb).cells
  have hlk := fun (w' : World) (hb : Below w.heap.size w w') => (yJn (hd.belowSz hb) (t := 6) rfl).2
  have hBw := hd.sz
  have hgw : g < w.heap.size := hd.blk.lt
  obtain ⟨v6, hv6⟩ : ∃ v, (Dy.val d.L 6).getD 0 = v := ⟨_, rfl⟩
  have hm32 := ho.m
  rw [hv6] at h6 hlk
  dsimp only at hlk ⊢
  rw [hv6]
  obtain ⟨lo, hlo⟩ : ∃ l, El.loads d.segs = l := ⟨_, rfl⟩
  obtain ⟨gm, hgm⟩ : ∃ g, d.gm = g := ⟨_, rfl⟩
  obtain ⟨b, hbb⟩ : ∃ b, d.b = b := ⟨_, rfl⟩
  obtain ⟨m, hmm⟩ : ∃ m, d.m = m := ⟨_, rfl⟩
  rw [hlo, hbb, hmm] at KL
  rw [hgm] at x6 l4' hlk
  rw [hgm] at hdz
  rw [hbb, hmm] at hbl
  rw [hmm] at hm32
  rw [hlo, hbb, hmm]
  have K8 := KL _ hb0 at_ 8 hat (by omega)
  have hli := fun a s o (h : Dy.laid m lo a s = some o) => Dy.laid_in h
  have HKL := zJ2 KL
  have HK8 := zJ2 K8
  have Hdz := zJ2 hdz
  have Hlk := zJ2 hlk
  have Hb0 := zJ2 hb0
  have Hk0 := zJ2 hk0
  have Hbl := zJ2 hbl
  have Hli := zJ2 hli
  obtain ⟨Res, hRes⟩ : ∃ R, (match Dy.laid m lo at_ 8 with
   | none => ((25 : Int), (⟨0, 0, 0, 0⟩ : Dy.Names))
   | some p =>
    if 65 < Wd.num b (p + 4) 4 then (12, ⟨0, 0, 0, 0⟩)
    else match Dy.laid m lo at_ (8 + 4 * Wd.num b p 4 + 4 * Wd.num b (p + 4) 4), Dy.laid m lo v6 (24 * Wd.num b (p + 4) 4) with
     | some h, some s => (0, ⟨Wd.num b p 4, Wd.num b (p + 4) 4, h, s⟩)
     | _, _ => (25, ⟨0, 0, 0, 0⟩)) = R := ⟨_, rfl⟩
  rw [hRes]
  have HRes := zJ2 hRes
  clear l4 hv hd hd0 ho hbl hb0 hk0 hgm hbb hmm hlo hv6 KL K8 hdz hlk hli hRes
  go_enter Tryz.func90, Tryz.ntmps90
  go_wp2_with fail
  refine (zJ1 HK8).mono ?_
  rintro e w1 ⟨⟨hln, rfl⟩ | ⟨p, A1, c1, hln, rfl, hr1, hc1⟩, hb1⟩
  ·have hR := zJ1 HRes
   rw [hln] at hR
   subst hR
   have HB1 := zJ2 ((zJ1 Hb0).trans (hb1.mono (zJ1 Hb0).size))
   have HK1 := zJ2 ((zJ1 Hk0).belowSz hb1)
   clear hb1 hln HRes HK8 x6 l4'
   go_wp2_with ((with_reducible refine (@id (wpList _ _ _ (Oper.mk none (Op.store 194 (.tmp 2) (.tmp 27)) _ _ _ none :: _) _ _) ?_)); refine wpList_store_row rfl 194 (.tmp 2) (.tmp 27) rfl w.heap.size #[.int .u64 0, .int .u64 0, .slice none 0 0, .slice none 0 0] rfl rfl 194 _ (zJ1 HK1) yJy rfl (nmOne _ _ _ _ _ _ _ _) ?_)
   refine bodyPost_ret (results_cell_tmp (P := Tryz.prog) rfl _ _ w.heap.size 194 #[.int .u64 0, .int .u64 0, .slice none 0 0, .slice none 0 0] (0, 0) _ rfl (setRow_heap _ _ _ _ _ _ (zJ1 HK1)) Tryz.underlying194 rfl yJy) rfl ?_
   exact xJ5 25 (below_setRow (zJ1 HB1) (Nat.le_refl _) _)
  have hR := zJ1 HRes
  rw [hln] at hR
  dsimp only at hR
  have hp8 := (zJ1 Hli) _ _ _ hln
  have HB1 := zJ2 ((zJ1 Hb0).trans (hb1.mono (zJ1 Hb0).size))
  have HK1 := zJ2 ((zJ1 Hk0).belowSz hb1)
  have Hr1 := zJ2 hr1
  obtain ⟨bk, hbk⟩ : ∃ v, Wd.num b p 4 = v := ⟨_, rfl⟩
  obtain ⟨ch, hch⟩ : ∃ v, Wd.num b (p + 4) 4 = v := ⟨_, rfl⟩
  rw [hbk, hch] at hR
  have hbk4 : bk < 4294967296 := by rw [<- hbk]; have := Wd.num_lt b p 4; simpa using this
  have hch4 : ch < 4294967296 := by rw [<- hch]; have := Wd.num_lt b (p + 4) 4; simpa using this
  have hcl : (Dy.cut b p 8).length = 8 := by unfold Dy.cut; rw [List.length_take, List.length_drop, zJ1 Hbl]; omega
  have KN1 := fun (w' : World) (hb : Below w1.heap.size w1 w') => yJf A1 8 c1 B (Dy.cut b p 8) 0 4 w' (Nat.le_trans hBw (Nat.le_trans (zJ1 HB1).size hb.size)) ((zJ1 Hr1).below (hb.mono (Nat.le_trans hBw (zJ1 HB1).size))) (by unfold maxLen; omega) (by omega) (by omega)
  have KN2 := fun (w' : World) (hb : Below w1.heap.size w1 w') => yJf A1 8 c1 B (Dy.cut b p 8) 4 4 w' (Nat.le_trans hBw (Nat.le_trans (zJ1 HB1).size hb.size)) ((zJ1 Hr1).below (hb.mono (Nat.le_trans hBw (zJ1 HB1).size))) (by unfold maxLen; omega) (by omega) (by omega)
  rw [zJs (by omega), Nat.add_zero, hbk] at KN1
  rw [zJs (by omega), hch] at KN2
  have HN1 := zJ2 (KN1 w1 (Below.refl _ _))
  have HN2 := zJ2 KN2
  have HR := zJ2 hR
  clear hb1 hln HRes HK8 x6 l4' KN1 KN2 hbk hch hcl hr1 hR
  go_wp2_with fail
  refine (zJ1 HN1).mono ?_
  rintro e w2 ⟨rfl, hb2⟩
  have HB2 := zJ2 ((zJ1 HB1).trans (hb2.mono (zJ1 HB1).size))
  have HK2 := zJ2 ((zJ1 HK1).belowSz hb2)
  have HN2' := zJ2 ((zJ1 HN2) w2 hb2)
  clear hb2 HN1 HN2 Hr1
  go_wp2_with fail
  refine (zJ1 HN2').mono ?_
  rintro e w3 ⟨rfl, hb3⟩
  have HB3 := zJ2 ((zJ1 HB2).trans (hb3.mono (zJ1 HB2).size))
  have hk3 := (zJ1 HK2).belowSz hb3
  have u0 := hk3.cell (i := 0) rfl
  have u1 := hk3.cell (i := 1) rfl
  have f0 := hk3.free 0
  have f1 := hk3.free 1
  have HK4 : Hid (Blk ((w3.setCell ⟨w.heap.size, 0, none⟩ (.int .u64 (bk : Nat))).setCell ⟨w.heap.size, 1, none⟩ (.int .u64 (ch : Nat))) w.heap.size 194 [.int .u64 (bk : Nat), .int .u64 (ch : Nat), .slice none 0 0, .slice none 0 0]) := zJ2 ((hk3.set 0 _).set 1 _)
  have HB4 : Hid (Below w.heap.size w ((w3.setCell ⟨w.heap.size, 0, none⟩ (.int .u64 (bk : Nat))).setCell ⟨w.heap.size, 1, none⟩ (.int .u64 (ch : Nat)))) := zJ2 (((zJ1 HB3).setCell (p := ⟨w.heap.size, 0, none⟩) (Nat.le_refl _) _).setCell (p := ⟨w.heap.size, 1, none⟩) (Nat.le_refl _) _)
  clear hb3 HB1 HK1 HB2 HK2 HN2' hk3
  by_cases hc65 : 65 < ch
  ·have hR := zJ1 HR
   rw [if_pos hc65] at hR
   subst hR
   have g1 : decide (65 < ch) = true := by simpa using hc65
   have g2 : (65 : Int) < (ch : Int) := by omega
   clear hc65 HR
   go_wp2_with ((with_reducible refine (@id (wpList _ _ _ (Oper.mk none (Op.store 194 (.tmp 2) (.tmp 37)) _ _ _ none :: _) _ _) ?_)); refine wpList_store_row rfl 194 (.tmp 2) (.tmp 37) rfl w.heap.size #[.int .u64 0, .int .u64 0, .slice none 0 0, .slice none 0 0] rfl rfl 194 _ (zJ1 HK4) yJy rfl (nmOne _ _ _ _ _ _ _ _) ?_)
   refine bodyPost_ret (results_cell_tmp (P := Tryz.prog) rfl _ _ w.heap.size 194 #[.int .u64 0, .int .u64 0, .slice none 0 0, .slice none 0 0] (0, 0) _ rfl (setRow_heap _ _ _ _ _ _ (zJ1 HK4)) Tryz.underlying194 rfl yJy) rfl ?_
   exact xJ5 12 (below_setRow (zJ1 HB4) (Nat.le_refl _) _)
  have hR := zJ1 HR
  rw [if_neg hc65] at hR
  have g1 : decide (65 < ch) = false := by simpa using hc65
  have g2 : ¬ (65 : Int) < (ch : Int) := by omega
  obtain ⟨hs, hhs⟩ : ∃ v, 8 + 4 * bk + 4 * ch = v := ⟨_, rfl⟩
  rw [hhs] at hR
  have hsI : (8 : Int) + 4 * (bk : Int) + 4 * (ch : Int) = (hs : Int) := by omega
  have K9 := (zJ1 HKL) _ (zJ1 HB4) at_ hs hat (by omega)
  have HK9 := zJ2 K9
  have HR2 := zJ2 hR
  have Hhs := zJ2 hhs
  clear hR HR K9 hhs
  go_wp2_with fail
  refine (zJ1 HK9).mono ?_
  rintro e w5 ⟨⟨hln2, rfl⟩ | ⟨ph, A5, c5, hln2, rfl, hr5, hc5⟩, hb5⟩
  ·have hR := zJ1 HR2
   rw [hln2] at hR
   subst hR
   have hk5 := (zJ1 HK4).belowSz hb5
   have u2 := hk5.cell (i := 2) rfl
   have f2 := hk5.free 2
   have HB6 : Hid (Below w.heap.size w (w5.setCell ⟨w.heap.size, 2, none⟩ (.slice none 0 0))) := zJ2 (((zJ1 HB4).trans (hb5.mono (zJ1 HB4).size)).setCell (p := ⟨w.heap.size, 2, none⟩) (Nat.le_refl _) _)
   have HK6 : Hid (Blk (w5.setCell ⟨w.heap.size, 2, none⟩ (.slice none 0 0)) w.heap.size 194 [.int .u64 (bk : Nat), .int .u64 (ch : Nat), .slice none 0 0, .slice none 0 0]) := zJ2 (hk5.set 2 _)
   clear hb5 hln2 HR2 HK9 hk5
   go_wp2_with ((with_reducible refine (@id (wpList _ _ _ (Oper.mk none (Op.store 194 (.tmp 2) (.tmp 55)) _ _ _ none :: _) _ _) ?_)); refine wpList_store_row rfl 194 (.tmp 2) (.tmp 55) rfl w.heap.size #[.int .u64 0, .int .u64 0, .slice none 0 0, .slice none 0 0] rfl rfl 194 _ (zJ1 HK6) yJy rfl (nmOne _ _ _ _ _ _ _ _) ?_)
   refine bodyPost_ret (results_cell_tmp (P := Tryz.prog) rfl _ _ w.heap.size 194 #[.int .u64 0, .int .u64 0, .slice none 0 0, .slice none 0 0] (0, 0) _ rfl (setRow_heap _ _ _ _ _ _ (zJ1 HK6)) Tryz.underlying194 rfl yJy) rfl ?_
   exact xJ5 25 (below_setRow (zJ1 HB6) (Nat.le_refl _) _)
  have hR := zJ1 HR2
  rw [hln2] at hR
  have hk5 := (zJ1 HK4).belowSz hb5
  have u2 := hk5.cell (i := 2) rfl
  have f2 := hk5.free 2
  have HB5 := zJ2 ((zJ1 HB4).trans (hb5.mono (zJ1 HB4).size))
  have HB6 : Hid (Below w.heap.size w (w5.setCell ⟨w.heap.size, 2, none⟩ (.slice A5 hs c5))) := zJ2 ((zJ1 HB5).setCell (p := ⟨w.heap.size, 2, none⟩) (Nat.le_refl _) _)
  have HK6 : Hid (Blk (w5.setCell ⟨w.heap.size, 2, none⟩ (.slice A5 hs c5)) w.heap.size 194 [.int .u64 (bk : Nat), .int .u64 (ch : Nat), .slice A5 hs c5, .slice none 0 0]) := zJ2 (hk5.set 2 _)
  have HR3 := zJ2 hR
  have Hr5 := zJ2 (hr5.setCell (p := ⟨w.heap.size, 2, none⟩) hBw (.slice A5 hs c5))
  clear hb5 hln2 HR2 HK9 hk5 hR hr5
  obtain ⟨ss, hss⟩ : ∃ v, 24 * ch = v := ⟨_, rfl⟩
  have hR := zJ1 HR3
  rw [hss] at hR
  have ssI : (24 : Int) * (ch : Int) = (ss : Int) := by omega
  have ssW : IntKind.u64.wrap (ss : Int) = (ss : Int) := by rw [IntKind.wrap_u64]; omega
  obtain ⟨W6, hW6⟩ : ∃ W, w5.setCell ⟨w.heap.size, 2, none⟩ (.slice A5 hs c5) = W := ⟨_, rfl⟩
  have hB6 := zJ1 HB6
  have hK6 := zJ1 HK6
  have hR5 := zJ1 Hr5
  rw [hW6] at hB6 hK6 hR5
  have KLs := (zJ1 HKL) W6.drew (zJ3 hB6) v6 ss h6 (by omega)
  have HSK : ∀ w', Below w.heap.size w w' -> w'.cell? ⟨w.heap.size, 1, none⟩ = some (.int .u64 (ch : Nat)) -> (Below w.heap.size w w' /\ w'.cell? ⟨g, 6, none⟩ = some (.map (some gm)) /\ w'.cell? ⟨w.heap.size, 1, none⟩ = some (.int .u64 (ch : Nat)) /\ (Instr.lookup 252 (.map (some gm)) (.int .u64 6) false).run Tryz.prog w' = .ok (.int .u64 (v6 : Nat)) w') := by
   intro w' hb hc
   obtain ⟨-, -, -, -, -, -, z6⟩ := (zJ1 Hdz) w' hb
   exact ⟨hb, z6, hc, (zJ1 Hlk) w' hb⟩
  have HSK' := zJ2 HSK
  have HKLs := zJ2 KLs
  have HB7 := zJ2 hB6
  have HK7 := zJ2 hK6
  have Hr7 := zJ2 hR5
  clear HSK KLs hB6 hK6 hR5 HB6 HK6 Hr5 HB5 HKL Hdz Hlk Hk0 Hb0 hR
  go_wp2_with fail
  clear hW6 u2 f2
  refine wp_region_held_drew (S := fun w' => Below w.heap.size w w' /\ w'.cell? ⟨g, 6, none⟩ = some (.map (some gm)) /\ w'.cell? ⟨w.heap.size, 1, none⟩ = some (.int .u64 (ch : Nat)) /\ (Instr.lookup 252 (.map (some gm)) (.int .u64 6) false).run Tryz.prog w' = .ok (.int .u64 (v6 : Nat)) w') (by kernel_rfl) ((zJ1 HSK') _ (zJ3 (zJ1 HB7)) ((zJ1 HK7).drew.cell (i := 1) rfl)) (fun HS0 => ?_)
  refine takeD (i := 0) (d := some 57) (v := ?_) rfl rfl (by kernel_rfl) (by kernel_rfl) (by kernel_rfl) (fun _ _ _ h => h) (Or.inl ⟨by rfl, ?y0⟩) HS0 ?_
  case y0 => (intro w' hSw; (try dsimp only at hSw); go_simp; (try with_reducible rfl))
  simp only [Act.put, List.setIfInBounds_toArray, List.set_cons_zero, List.set_cons_succ]
  refine takeD (i := 1) (d := some 58) (v := ?_) rfl rfl (by kernel_rfl) (by kernel_rfl) (by kernel_rfl) (fun _ _ _ h => h) (Or.inl ⟨by rfl, ?y1⟩) HS0 ?_
  case y1 => (intro w' hSw; (try dsimp only at hSw); go_simp; (try with_reducible rfl))
  simp only [Act.put, List.setIfInBounds_toArray, List.set_cons_zero, List.set_cons_succ]
  refine takeD (i := 2) (d := some 59) (v := ?_) rfl rfl (by kernel_rfl) (by kernel_rfl) (by kernel_rfl) (fun _ _ _ h => h) (Or.inl ⟨by rfl, ?y2⟩) HS0 ?_
  case y2 => (intro w' hSw; (try dsimp only at hSw); go_simp; (try with_reducible rfl))
  simp only [Act.put, List.setIfInBounds_toArray, List.set_cons_zero, List.set_cons_succ]
  refine takeD (i := 3) (d := some 60) (v := ?_) rfl rfl (by kernel_rfl) (by kernel_rfl) (by kernel_rfl) (fun _ _ _ h => h) (Or.inl ⟨by rfl, ?y3⟩) HS0 ?_
  case y3 => (intro w' hSw; (try dsimp only at hSw); go_simp; (try with_reducible rfl))
  simp only [Act.put, List.setIfInBounds_toArray, List.set_cons_zero, List.set_cons_succ]
  refine takeD (i := 4) (d := some 61) (v := ?_) rfl rfl (by kernel_rfl) (by kernel_rfl) (by kernel_rfl) (fun _ _ _ h => h) (Or.inl ⟨by rfl, ?y4⟩) HS0 ?_
  case y4 => (intro w' hSw; (try dsimp only at hSw); go_simp; (try with_reducible rfl))
  simp only [Act.put, List.setIfInBounds_toArray, List.set_cons_zero, List.set_cons_succ]
  refine takeD (i := 5) (d := some 62) (v := ?_) rfl rfl (by kernel_rfl) (by kernel_rfl) (by kernel_rfl) (fun _ _ _ h => h) (Or.inl ⟨by rfl, ?y5⟩) HS0 ?_
  case y5 => (intro w' hSw; (try dsimp only at hSw); go_simp; (try with_reducible rfl))
  simp only [Act.put, List.setIfInBounds_toArray, List.set_cons_zero, List.set_cons_succ]
  refine takeD (i := 6) (d := some 63) (v := ?_) rfl rfl (by kernel_rfl) (by kernel_rfl) (by kernel_rfl) (fun _ _ _ h => h) (Or.inl ⟨by rfl, ?y6⟩) HS0 ?_
  case y6 => (intro w' hSw; (try dsimp only at hSw); go_simp; (try with_reducible rfl))
  simp only [Act.put, List.setIfInBounds_toArray, List.set_cons_zero, List.set_cons_succ]
  refine takeD (i := 7) (d := some 64) (v := ?_) rfl rfl (by kernel_rfl) (by kernel_rfl) (by kernel_rfl) (fun _ _ _ h => h) (Or.inl ⟨by rfl, ?y7⟩) HS0 ?_
  case y7 => (intro w' hSw; (try dsimp only at hSw); go_simp; (try with_reducible rfl))
  simp only [Act.put, List.setIfInBounds_toArray, List.set_cons_zero, List.set_cons_succ]
  refine takeD (i := 8) (d := some 65) (v := ?_) rfl rfl (by kernel_rfl) (by kernel_rfl) (by kernel_rfl) (fun _ _ _ h => h) (Or.inl ⟨by rfl, ?y8⟩) HS0 ?_
  case y8 => (intro w' hSw; (try dsimp only at hSw); go_simp; (try with_reducible rfl))
  simp only [Act.put, List.setIfInBounds_toArray, List.set_cons_zero, List.set_cons_succ]
  refine wpAnyH_ready (rs := [9]) (by kernel_rfl) (by simp) ?_
  refine AllReadyH.cons (i := 9) rfl (fun K hK => ?_) AllReadyH.nil
  rw [if_pos (by rfl)]
  go_simp
  go_at_call 141
  with_reducible refine (zJ1 HKLs).mono ?_
  intro e w8 h8
  obtain ⟨A8, n8, c8, bq, rfl, hf8, hb8⟩ := laidE_form h8
  have HB8 := zJ2 ((zJ3 (zJ1 HB7)).trans (hb8.mono (zJ3 (zJ1 HB7)).size))
  have HK8 := zJ2 ((zJ1 HK7).drew.belowSz hb8)
  have Hf8 := zJ2 hf8
  have hr8 := ((zJ1 Hr7).drew).below (hb8.mono (Nat.le_trans hBw (zJ3 (zJ1 HB7)).size))
  have Hr8 := zJ2 hr8
  clear hr8 hf8 hb8 h8
  refine hK.out _ _ ((zJ1 HSK') _ (zJ1 HB8) ((zJ1 HK8).cell (i := 1) rfl)) (fun hHeld => ?_)
  clear hK K HS0
  have HS0 := hHeld
  clear hHeld
  (try simp only [Act.put, List.setIfInBounds_toArray, List.set_cons_zero, List.set_cons_succ])
  refine takeD (i := 10) (d := some 56) (v := ?_) rfl rfl (by kernel_rfl) (by kernel_rfl) (by kernel_rfl) (fun _ _ _ h => h) (Or.inl ⟨by rfl, ?y10⟩) HS0 ?_
  case y10 => (intro w' hSw; (try dsimp only at hSw); go_simp; (try with_reducible rfl))
  simp only [Act.put, List.setIfInBounds_toArray, List.set_cons_zero, List.set_cons_succ]
  refine takeD (i := 11) (d := some 67) (v := ?_) rfl rfl (by kernel_rfl) (by kernel_rfl) (by kernel_rfl) (fun _ _ _ h => h) (Or.inl ⟨by rfl, ?y11⟩) HS0 ?_
  case y11 => (intro w' hSw; (try dsimp only at hSw); go_simp; (try with_reducible rfl))
  simp only [Act.put, List.setIfInBounds_toArray, List.set_cons_zero, List.set_cons_succ]
  refine takeD (i := 12) (d := some 68) (v := ?_) rfl rfl (by kernel_rfl) (by kernel_rfl) (by kernel_rfl) (fun _ _ _ h => h) (Or.inl ⟨by rfl, ?y12⟩) HS0 ?_
  case y12 => (intro w' hSw; (try dsimp only at hSw); go_simp; (try with_reducible rfl))
  simp only [Act.put, List.setIfInBounds_toArray, List.set_cons_zero, List.set_cons_succ]
  refine takeD (i := 13) (d := some 69) (v := ?_) rfl rfl (by kernel_rfl) (by kernel_rfl) (by kernel_rfl) (fun _ _ _ h => h) (Or.inl ⟨by rfl, ?y13⟩) HS0 ?_
  case y13 => (intro w' hSw; (try dsimp only at hSw); go_simp; (try with_reducible rfl))
  simp only [Act.put, List.setIfInBounds_toArray, List.set_cons_zero, List.set_cons_succ]
  have u3 := (zJ1 HK8).cell (i := 3) rfl
  have f3 := (zJ1 HK8).free 3
  have HB9 : Hid (Below w.heap.size w (w8.setCell ⟨w.heap.size, 3, none⟩ (.slice A8 n8 c8))) := zJ2 ((zJ1 HB8).setCell (p := ⟨w.heap.size, 3, none⟩) (Nat.le_refl _) _)
  have HK9 : Hid (Blk (w8.setCell ⟨w.heap.size, 3, none⟩ (.slice A8 n8 c8)) w.heap.size 194 [.int .u64 (bk : Nat), .int .u64 (ch : Nat), .slice A5 hs c5, .slice A8 n8 c8]) := zJ2 ((zJ1 HK8).set 3 _)
  refine wpAnyH_ready (rs := [14]) (by kernel_rfl) (by simp) ?_
  refine AllReadyH.cons (i := 14) rfl (fun K hK => ?_) AllReadyH.nil
  rw [if_pos (by rfl)]
  go_simp
  refine hK.out _ _ ((zJ1 HSK') _ (zJ1 HB9) ((zJ1 HK9).cell (i := 1) rfl)) (fun hHeld => ?_)
  clear hK K HS0
  have HS0 := hHeld
  clear hHeld
  (try simp only [Act.put, List.setIfInBounds_toArray, List.set_cons_zero, List.set_cons_succ])
  refine takeD (i := 15) (d := some 7) (v := ?_) rfl rfl (by kernel_rfl) (by kernel_rfl) (by kernel_rfl) (fun _ _ _ h => h) (Or.inl ⟨by rfl, ?y15⟩) HS0 ?_
  case y15 => (intro w' hSw; (try dsimp only at hSw); go_simp; (try with_reducible rfl))
  simp only [Act.put, List.setIfInBounds_toArray, List.set_cons_zero, List.set_cons_succ]
  refine wpAnyH_done (by kernel_rfl) ?_ _
  clear HSK' HKLs HS0 u3 f3
  cases bq with
  | false =>
   rcases zJ1 Hf8 with ⟨-, ho8⟩ | ⟨h8, _⟩
   ·have hR := zJ1 HR3
    rw [hss, ho8] at hR
    subst hR
    clear ho8 HR3 Hf8
    go_wp2_with ((with_reducible refine (@id (wpList _ _ _ (Oper.mk none (Op.store 194 (.tmp 2) (.tmp 72)) _ _ _ none :: _) _ _) ?_)); refine wpList_store_row rfl 194 (.tmp 2) (.tmp 72) rfl w.heap.size #[.int .u64 0, .int .u64 0, .slice none 0 0, .slice none 0 0] rfl rfl 194 _ (zJ1 HK9) yJy rfl (nmOne _ _ _ _ _ _ _ _) ?_)
    refine bodyPost_ret (results_cell_tmp (P := Tryz.prog) rfl _ _ w.heap.size 194 #[.int .u64 0, .int .u64 0, .slice none 0 0, .slice none 0 0] (0, 0) _ rfl (setRow_heap _ _ _ _ _ _ (zJ1 HK9)) Tryz.underlying194 rfl yJy) rfl ?_
    exact xJ5 25 (below_setRow (zJ1 HB9) (Nat.le_refl _) _)
   ·cases h8
  | true =>
  rcases zJ1 Hf8 with ⟨h8, _⟩ | ⟨-, off8, ho8, rfl, hr8', hc8⟩
  ·cases h8
  have hR := zJ1 HR3
  rw [hss, ho8] at hR
  subst hR
  have hnm : NmM (w8.setCell ⟨w.heap.size, 3, none⟩ (.slice A8 n8 c8)) B b ⟨bk, ch, ph, off8⟩ A5 hs c5 A8 c8 := by
   refine ⟨fun _ => ⟨(zJ1 Hhs).symm, (zJ1 Hr8).setCell (p := ⟨w.heap.size, 3, none⟩) hBw _⟩, hc5, ?_, ?_, hbk4, by show ch <= 65; omega⟩
   ·show Rd _ B 1 A8 (24 * ch) (bys (Dy.cut b off8 (24 * ch)))
    rw [hss]
    exact hr8'.setCell (p := ⟨w.heap.size, 3, none⟩) hBw _
   ·show 24 * ch <= c8
    rw [hss]
    exact hc8
  have Hnm := zJ2 hnm
  have hssn := zJ2 hss
  clear ho8 HR3 Hf8 hr8' hnm hss ssI ssW hsI
  go_wp2_with (first
   | ((with_reducible refine (@id (wpList _ _ _ (Oper.mk _ (Op.load 194 (.tmp 2)) _ _ _ none :: _) _ _) ?_)); refine wpList_load_row rfl 194 (.tmp 2) rfl w.heap.size rfl 194 #[.int .u64 (bk : Nat), .int .u64 (ch : Nat), .slice A5 hs c5, .slice A8 n8 c8] (0, 0) _ (zJ1 HK9) Tryz.underlying194 rfl yJy ?_)
   | ((with_reducible refine (@id (wpList _ _ _ (Oper.mk none (Op.store 194 (.tmp 2) (.tmp 73)) _ _ _ none :: _) _ _) ?_)); refine wpList_store_row rfl 194 (.tmp 2) (.tmp 73) rfl w.heap.size #[.int .u64 (bk : Nat), .int .u64 (ch : Nat), .slice A5 hs c5, .slice A8 n8 c8] rfl rfl 194 _ (zJ1 HK9) yJy rfl (nmOne _ _ _ _ _ _ _ _) ?_; rw [wJz (zJ1 HK9)]))
  refine bodyPost_ret (results_cell_tmp (P := Tryz.prog) rfl _ _ w.heap.size 194 #[.int .u64 (bk : Nat), .int .u64 (ch : Nat), .slice A5 hs c5, .slice A8 n8 c8] (0, 0) _ rfl (zJ1 HK9) Tryz.underlying194 rfl yJy) rfl ?_
  refine ⟨A5, hs, c5, A8, c8, ?_, zJ1 Hnm, zJ1 HB9⟩
  show _ = Ending.returned (.tuple #[.agg #[.int .u64 (bk : Nat), .int .u64 (ch : Nat), .slice A5 hs c5, .slice A8 (24 * ch) c8], .int .i64 0])
  rw [zJ1 hssn]
  rfl
theorem byteTyD : SlTy Tryz.prog 64 5 1 1 := yJ0 (z := .int .u8 0) Tryz.underlying64 (by kernel_rfl) rfl (by omega) (by omega)
theorem bys_oneD (b : List UInt8) : ∀ u ∈ bys b, u.oneCell' = true := by
 intro u hu
 obtain ⟨x, _, rfl⟩ := List.mem_map.1 hu
 simp [Value.oneCell']
theorem own_emptyD (w : World) (e : TypeId) : (w.alloc (.cells #[] e)).ownsRow w.heap.size e 1 (.slice (some ⟨w.heap.size, 0, none⟩) 0 0) 0 [] :=
 ⟨rfl, .inr ⟨w.heap.size, 0, #[], rfl, Nat.le_refl _, heap_alloc_new _ _, Nat.le_refl _, by decide, rfl, rfl⟩⟩
def BytesE (xs : List UInt8) (w : World) (e : Ending) (w' : World) : Prop :=
 ∃ A' c', e = .returned (.slice A' xs.length c') /\ w'.ownsRow w.heap.size 5 1 (.slice A' xs.length c') xs.length (bys xs) /\ Below w.heap.size w w'
set_option maxRecDepth 100000 in
set_option maxHeartbeats 1000000 in
theorem bclone_any (A : Option Addr) (m c B : Nat) (b : List UInt8) (w : World) (hB : B <= w.heap.size) (hb : Rd w B 1 A m (bys b)) (hm : m <= 4294967296) :
  Calls Tryz.prog 142 #[.slice A m c] w (BytesE b w) := by
 have hl : b.length = m := by simpa [bys] using hb.len1
 have q : ∀ (w : World) (a : Option Addr) (n c n' c' : Nat), (binOp .eql 64 (.slice a n c) (.slice none n' c')).run Tryz.prog w = .ok (.bool a.isNone) w := fun w a n c n' c' => Lib.run_eql_slice_nil w _ _ a n c n' c' Tryz.underlying64
 cases A with
 | none =>
  have h0 : bys b = [] := by
   rcases hb.2 with h0 | ⟨b, off, h1, _⟩
   ·exact h0
   ·cases h1
  have hx : b = [] := by simpa [bys] using h0
  subst hx
  simp only [List.length_nil] at hl
  subst hl
  have q1 : (none : Option Addr).isNone = true := rfl
  clear h0 hb
  go_enter Tryz.func142, Tryz.ntmps142
  go_wp2_with fail
  go_ret
  exact ⟨none, 0, rfl, World.ownsRow_nil _ _ _ _, Below.refl _ _⟩
 | some a =>
  have q1 : (some a : Option Addr).isNone = false := rfl
  have Hm := zJ2 (own_emptyD w 5)
  have hb1 : Below w.heap.size w (w.alloc (.cells #[] 5)) := (Below.refl _ _).alloc (Nat.le_refl _) _
  have Hb1 := zJ2 hb1
  have Hr := zJ2 (hb.below (hb1.mono hB))
  have Hl := zJ2 hl
  clear hb1 hl hb
  go_enter Tryz.func142, Tryz.ntmps142
  go_wp2_with (at_builtin; refine zJe byteTyD rfl _ _ rfl w.heap.size (.slice (some ⟨w.heap.size, 0, none⟩) 0 0) 0 [] rfl (zJ1 Hm) B (some a) m c _ rfl (zJ1 Hr) (bys_oneD _) (by omega) (zJ1 Hb1).size ?_; intro A4 c4 w4 ho4 hg4 hat4; have hb4 := (zJ1 Hb1).grown hg4 (zJ1 Hb1).size (fun k hk => ((zJ1 Hm).lt k hk).1); simp only [Nat.zero_add, List.nil_append] at ho4 ⊢; have Ho4 := zJ2 ho4; have Hb4 := zJ2 hb4; clear ho4 hg4 hat4 hb4)
  go_ret
  have hT : BytesE b w (.returned (.slice A4 m c4)) w4 := by
   unfold BytesE
   rw [zJ1 Hl]
   exact ⟨A4, c4, rfl, zJ1 Ho4, zJ1 Hb4⟩
  exact hT
theorem xJe {o : Option (Nat × Nat)} {B : Nat} {b : List UInt8} {w w' : World} {e : Ending} (h : TableE o B b w e w') :
  ∃ A n c q, e = .returned (.tuple #[.slice A n c, .bool q]) /\ ((q = false /\ o = none) \/ (q = true /\ ∃ p, o = some (p, n) /\ Rd w' B 1 A n (bys (Dy.cut b p n)) /\ n <= c)) /\ Below w.heap.size w w' := by
 rcases h with ⟨⟨h1, rfl⟩ | ⟨p, n, A, c, h1, rfl, h2, h3⟩, hb⟩
 ·exact ⟨none, 0, 0, false, rfl, .inl ⟨rfl, h1⟩, hb⟩
 ·exact ⟨A, n, c, true, rfl, .inr ⟨rfl, p, h1, h2, h3⟩, hb⟩
def RelasE (r : Int × List UInt8) (w : World) (e : Ending) (w' : World) : Prop :=
 ∃ A' c', e = .returned (.tuple #[.slice A' r.2.length c', .int .i64 r.1]) /\ w'.ownsRow w.heap.size 5 1 (.slice A' r.2.length c') r.2.length (bys r.2) /\ Below w.heap.size w w'
theorem xJ2 {w w' : World} (x : Int) (hb : Below w.heap.size w w') : RelasE (x, []) w (.returned (.tuple #[.slice none 0 0, .int .i64 x])) w' :=
 ⟨none, 0, rfl, World.ownsRow_nil _ _ _ _, hb⟩
theorem xJj {n : Nat} {l : List El.Sg} {L : List (Nat × Nat)} {a s p k : Nat} (h : Dy.table n l L a s = some (p, k)) : k = (Dy.val L s).getD 0 \/ k = 0 := by
 unfold Dy.table at h
 split at h
 ·injection h with h; injection h with h1 h2; exact .inr h2.symm
 ·cases hl : Dy.laid n l _ ((Dy.val L s).getD 0) with
  | none => rw [hl] at h; cases h
  | some o => rw [hl] at h; injection h with h; injection h with h1 h2; exact .inl h2.symm
theorem table_cut {n : Nat} {l : List El.Sg} {L : List (Nat × Nat)} {a s p k : Nat} {b : List UInt8} (hb : b.length = n) (h : Dy.table n l L a s = some (p, k)) : (Dy.cut b p k).length = k := by
 unfold Dy.table at h
 split at h
 ·injection h with h; injection h with h1 h2; subst h1 h2; rfl
 ·cases hl : Dy.laid n l _ ((Dy.val L s).getD 0) with
  | none => rw [hl] at h; cases h
  | some o =>
   rw [hl] at h
   injection h with h; injection h with h1 h2
   subst h1 h2
   have := Dy.laid_in hl
   unfold Dy.cut
   rw [List.length_take, List.length_drop]
   omega
set_option maxRecDepth 100000 in
set_option maxHeartbeats 4000000 in
theorem relas_any (B g : Nat) (d : Ds) (w : World) (hd : DsM w B g d d.L) (ho : DsOk d) (hbl : d.b.length = d.m) :
  Calls Tryz.prog 91 #[.pointer (some ⟨g, 0, none⟩)] w (RelasE (Dy.relaB d.b (El.loads d.segs) d.L) w) := by
 have hBw := hd.sz
 have hdz := fun (w' : World) (hb : Below w.heap.size w w') => (hd.belowSz hb).cells
 have hl8 := fun (w' : World) (hb : Below w.heap.size w w') => (yJn (hd.belowSz hb) (t := 8) rfl).2
 have hl2 := fun (w' : World) (hb : Below w.heap.size w w') => (yJn (hd.belowSz hb) (t := 2) rfl).2
 have KT7 := fun (w' : World) (hb : Below w.heap.size w w') => wJx B g d 7 8 w' (hd.belowSz hb) ho rfl rfl
 have KT23 := fun (w' : World) (hb : Below w.heap.size w w') => wJx B g d 23 2 w' (hd.belowSz hb) ho rfl rfl
 have h8 := vJx ho 8
 have h2 := vJx ho 2
 have hlen7 := fun p k h => xJj (n := d.m) (l := El.loads d.segs) (L := d.L) (a := 7) (s := 8) (p := p) (k := k) h
 have hlen23 := fun p k h => xJj (n := d.m) (l := El.loads d.segs) (L := d.L) (a := 23) (s := 2) (p := p) (k := k) h
 have hcut7 := fun p k h => table_cut (n := d.m) (l := El.loads d.segs) (L := d.L) (a := 7) (s := 8) (p := p) (k := k) (b := d.b) hbl h
 have hcut23 := fun p k h => table_cut (n := d.m) (l := El.loads d.segs) (L := d.L) (a := 23) (s := 2) (p := p) (k := k) (b := d.b) hbl h
 have hr : Dy.relaB d.b (El.loads d.segs) d.L = if ((Dy.val d.L 8).getD 0) % 24 ≠ 0 \/ ((Dy.val d.L 2).getD 0) % 24 ≠ 0 then ((25 : Int), ([] : List UInt8))
  else if 1536 < (Dy.val d.L 8).getD 0 + (Dy.val d.L 2).getD 0 then (12, [])
  else match Dy.table d.m (El.loads d.segs) d.L 7 8, Dy.table d.m (El.loads d.segs) d.L 23 2 with
   | some x, some y => (0, Dy.cut d.b x.1 x.2 ++ Dy.cut d.b y.1 y.2)
   | _, _ => (25, []) := by unfold Dy.relaB; rw [hbl]; rfl
 rw [hr]
 clear hr
 have hm32 := ho.m
 obtain ⟨v8, hv8⟩ : ∃ v, (Dy.val d.L 8).getD 0 = v := ⟨_, rfl⟩
 obtain ⟨v2, hv2⟩ : ∃ v, (Dy.val d.L 2).getD 0 = v := ⟨_, rfl⟩
 rw [hv8] at h8 hl8 hlen7 ⊢
 rw [hv2] at h2 hl2 hlen23 ⊢
 obtain ⟨o1, ho1⟩ : ∃ o, Dy.table d.m (El.loads d.segs) d.L 7 8 = o := ⟨_, rfl⟩
 obtain ⟨o2, ho2⟩ : ∃ o, Dy.table d.m (El.loads d.segs) d.L 23 2 = o := ⟨_, rfl⟩
 rw [ho1] at KT7 hlen7 hcut7 ⊢
 rw [ho2] at KT23 hlen23 hcut23 ⊢
 obtain ⟨gm, hgm⟩ : ∃ g, d.gm = g := ⟨_, rfl⟩
 obtain ⟨b, hbb⟩ : ∃ b, d.b = b := ⟨_, rfl⟩
 rw [hgm] at hl8 hl2 hdz
 rw [hbb] at KT7 KT23 hcut7 hcut23 ⊢
 obtain ⟨Res, hRes⟩ : ∃ R, (if v8 % 24 ≠ 0 \/ v2 % 24 ≠ 0 then ((25 : Int), ([] : List UInt8))
  else if 1536 < v8 + v2 then (12, [])
  else match o1, o2 with
   | some x, some y => (0, Dy.cut b x.1 x.2 ++ Dy.cut b y.1 y.2)
   | _, _ => (25, [])) = R := ⟨_, rfl⟩
 rw [hRes]
 have HRes := zJ2 hRes
 have HT7 := zJ2 KT7
 have HT23 := zJ2 KT23
 have Hlen7 := zJ2 hlen7
 have Hlen23 := zJ2 hlen23
 have Hcut7 := zJ2 hcut7
 have Hcut23 := zJ2 hcut23
 have HSK : ∀ w', Below w.heap.size w w' -> (w'.cell? ⟨g, 6, none⟩ = some (.map (some gm)) /\ (Instr.lookup 252 (.map (some gm)) (.int .u64 8) false).run Tryz.prog w' = .ok (.int .u64 (v8 : Nat)) w' /\ (Instr.lookup 252 (.map (some gm)) (.int .u64 2) false).run Tryz.prog w' = .ok (.int .u64 (v2 : Nat)) w') := by
  intro w' hb
  obtain ⟨-, -, -, -, -, -, z6⟩ := hdz w' hb
  exact ⟨z6, hl8 w' hb, hl2 w' hb⟩
 have HSK' := zJ2 HSK
 clear hd ho hbl hdz hl8 hl2 KT7 KT23 hlen7 hlen23 hcut7 hcut23 hv8 hv2 ho1 ho2 hgm hbb hRes HSK
 go_enter Tryz.func91, Tryz.ntmps91
 go_wp2_with fail
 refine wp_region_held_drew (S := fun w' => w'.cell? ⟨g, 6, none⟩ = some (.map (some gm)) /\ (Instr.lookup 252 (.map (some gm)) (.int .u64 8) false).run Tryz.prog w' = .ok (.int .u64 (v8 : Nat)) w' /\ (Instr.lookup 252 (.map (some gm)) (.int .u64 2) false).run Tryz.prog w' = .ok (.int .u64 (v2 : Nat)) w') (by kernel_rfl) ((zJ1 HSK') _ (zJ3 (Below.refl _ _))) (fun HS0 => ?_)
 refine takeD (i := 0) (d := some 10) (v := ?_) rfl rfl (by kernel_rfl) (by kernel_rfl) (by kernel_rfl) (fun _ _ _ h => h) (Or.inl ⟨by rfl, ?y0⟩) HS0 ?_
 case y0 => (intro w' hSw; (try dsimp only at hSw); go_simp; (try with_reducible rfl))
 simp only [Act.put, List.setIfInBounds_toArray, List.set_cons_zero, List.set_cons_succ]
 refine takeD (i := 1) (d := some 11) (v := ?_) rfl rfl (by kernel_rfl) (by kernel_rfl) (by kernel_rfl) (fun _ _ _ h => h) (Or.inl ⟨by rfl, ?y1⟩) HS0 ?_
 case y1 => (intro w' hSw; (try dsimp only at hSw); go_simp; (try with_reducible rfl))
 simp only [Act.put, List.setIfInBounds_toArray, List.set_cons_zero, List.set_cons_succ]
 refine takeD (i := 2) (d := some 12) (v := ?_) rfl rfl (by kernel_rfl) (by kernel_rfl) (by kernel_rfl) (fun _ _ _ h => h) (Or.inl ⟨by rfl, ?y2⟩) HS0 ?_
 case y2 => (intro w' hSw; (try dsimp only at hSw); go_simp; (try with_reducible rfl))
 simp only [Act.put, List.setIfInBounds_toArray, List.set_cons_zero, List.set_cons_succ]
 refine takeD (i := 3) (d := some 13) (v := ?_) rfl rfl (by kernel_rfl) (by kernel_rfl) (by kernel_rfl) (fun _ _ _ h => h) (Or.inl ⟨by rfl, ?y3⟩) HS0 ?_
 case y3 => (intro w' hSw; (try dsimp only at hSw); go_simp; (try with_reducible rfl))
 simp only [Act.put, List.setIfInBounds_toArray, List.set_cons_zero, List.set_cons_succ]
 refine takeD (i := 4) (d := some 14) (v := ?_) rfl rfl (by kernel_rfl) (by kernel_rfl) (by kernel_rfl) (fun _ _ _ h => h) (Or.inl ⟨by rfl, ?y4⟩) HS0 ?_
 case y4 => (intro w' hSw; (try dsimp only at hSw); go_simp; (try with_reducible rfl))
 simp only [Act.put, List.setIfInBounds_toArray, List.set_cons_zero, List.set_cons_succ]
 refine takeD (i := 5) (d := some 15) (v := ?_) rfl rfl (by kernel_rfl) (by kernel_rfl) (by kernel_rfl) (fun _ _ _ h => h) (Or.inl ⟨by rfl, ?y5⟩) HS0 ?_
 case y5 => (intro w' hSw; (try dsimp only at hSw); go_simp; (try with_reducible rfl))
 simp only [Act.put, List.setIfInBounds_toArray, List.set_cons_zero, List.set_cons_succ]
 refine takeD (i := 6) (d := some 16) (v := ?_) rfl rfl (by kernel_rfl) (by kernel_rfl) (by kernel_rfl) (fun _ _ _ h => h) (Or.inl ⟨by rfl, ?y6⟩) HS0 ?_
 case y6 => (intro w' hSw; (try dsimp only at hSw); go_simp; (try with_reducible rfl))
 simp only [Act.put, List.setIfInBounds_toArray, List.set_cons_zero, List.set_cons_succ]
 refine takeD (i := 7) (d := some 17) (v := ?_) rfl rfl (by kernel_rfl) (by kernel_rfl) (by kernel_rfl) (fun _ _ _ h => h) (Or.inl ⟨by rfl, ?y7⟩) HS0 ?_
 case y7 => (intro w' hSw; (try dsimp only at hSw); go_simp; (try with_reducible rfl))
 simp only [Act.put, List.setIfInBounds_toArray, List.set_cons_zero, List.set_cons_succ]
 refine takeD (i := 8) (d := some 18) (v := ?_) rfl rfl (by kernel_rfl) (by kernel_rfl) (by kernel_rfl) (fun _ _ _ h => h) (Or.inl ⟨by rfl, ?y8⟩) HS0 ?_
 case y8 => (intro w' hSw; (try dsimp only at hSw); go_simp; (try with_reducible rfl))
 simp only [Act.put, List.setIfInBounds_toArray, List.set_cons_zero, List.set_cons_succ]
 refine takeD (i := 9) (d := some 19) (v := ?_) rfl rfl (by kernel_rfl) (by kernel_rfl) (by kernel_rfl) (fun _ _ _ h => h) (Or.inl ⟨by rfl, ?y9⟩) HS0 ?_
 case y9 => (intro w' hSw; (try dsimp only at hSw); go_simp; (try with_reducible rfl))
 simp only [Act.put, List.setIfInBounds_toArray, List.set_cons_zero, List.set_cons_succ]
 refine takeD (i := 10) (d := some 4) (v := ?_) rfl rfl (by kernel_rfl) (by kernel_rfl) (by kernel_rfl) (fun _ _ _ h => h) (Or.inl ⟨by rfl, ?y10⟩) HS0 ?_
 case y10 => (intro w' hSw; (try dsimp only at hSw); go_simp; (try with_reducible rfl))
 simp only [Act.put, List.setIfInBounds_toArray, List.set_cons_zero, List.set_cons_succ]
 refine takeD (i := 11) (d := some 5) (v := ?_) rfl rfl (by kernel_rfl) (by kernel_rfl) (by kernel_rfl) (fun _ _ _ h => h) (Or.inl ⟨by rfl, ?y11⟩) HS0 ?_
 case y11 => (intro w' hSw; (try dsimp only at hSw); go_simp; (try with_reducible rfl))
 simp only [Act.put, List.setIfInBounds_toArray, List.set_cons_zero, List.set_cons_succ]
 refine wpAnyH_done (by kernel_rfl) ?_ _
 clear HS0 HSK'
 have HB1 : Hid (Below w.heap.size w w.drew) := zJ2 (zJ3 (Below.refl _ _))
 generalize w.drew = w1 at *
 by_cases hmod : v8 % 24 ≠ 0 \/ v2 % 24 ≠ 0
 ·have hR := zJ1 HRes
  rw [if_pos hmod] at hR
  subst hR
  have g1 : (((v8 : Int) % 24 + (v2 : Int) % 24) != 0) = true := by simp; omega
  clear hmod HRes
  go_wp2_with fail
  go_ret2
  exact xJ2 25 (zJ1 HB1)
 have hR := zJ1 HRes
 rw [if_neg hmod] at hR
 have g1 : (((v8 : Int) % 24 + (v2 : Int) % 24) != 0) = false := by simp; omega
 by_cases hbig : 1536 < v8 + v2
 ·rw [if_pos hbig] at hR
  subst hR
  clear hmod HRes
  by_cases h88 : 1536 < v8
  ·have g2 : (1536 : Int) < (v8 : Int) := by omega
   clear hbig
   go_wp2_with fail
   go_ret2
   exact xJ2 12 (zJ1 HB1)
  ·have g2 : ¬ (1536 : Int) < (v8 : Int) := by omega
   have g3 : (1536 : Int) - (v8 : Int) < (v2 : Int) := by omega
   clear hbig
   go_wp2_with fail
   go_ret2
   exact xJ2 12 (zJ1 HB1)
 rw [if_neg hbig] at hR
 have g2 : ¬ (1536 : Int) < (v8 : Int) := by omega
 have g3 : ¬ (1536 : Int) - (v8 : Int) < (v2 : Int) := by omega
 have HR := zJ2 hR
 have K7 := zJ2 ((zJ1 HT7) w1 (zJ1 HB1))
 clear hR HRes hmod
 go_wp2_with fail
 refine (zJ1 K7).mono ?_
 intro e w2 h
 obtain ⟨A2, n2, c2, q2, rfl, hf2, hb2⟩ := xJe h
 have HB2 := zJ2 ((zJ1 HB1).trans (hb2.mono (zJ1 HB1).size))
 have Hf2 := zJ2 hf2
 have K23 := zJ2 ((zJ1 HT23) w2 (zJ1 HB2))
 clear h hf2 hb2 K7
 go_wp2_with fail
 refine (zJ1 K23).mono ?_
 intro e w3 h
 obtain ⟨A3, n3, c3, q3, rfl, hf3, hb3⟩ := xJe h
 have HB3 := zJ2 ((zJ1 HB2).trans (hb3.mono (zJ1 HB2).size))
 have Hf3 := zJ2 hf3
 have Hb23 := zJ2 hb3
 clear h hf3 hb3 K23
 cases q2 with
 | false =>
  rcases zJ1 Hf2 with ⟨-, h0⟩ | ⟨h0, _⟩
  ·subst h0
   have hR := zJ1 HR
   have hR : Res = (25, []) := by rw [<- hR]; first | done | (cases o2 <;> rfl)
   subst hR
   clear HR
   go_wp2_with fail
   go_ret2
   exact xJ2 25 (zJ1 HB3)
  ·cases h0
 | true =>
 cases q3 with
 | false =>
  rcases zJ1 Hf3 with ⟨-, h0⟩ | ⟨h0, _⟩
  ·subst h0
   have hR := zJ1 HR
   have hR : Res = (25, []) := by rw [<- hR]; first | done | (cases o1 <;> rfl)
   subst hR
   clear HR
   go_wp2_with fail
   go_ret2
   exact xJ2 25 (zJ1 HB3)
  ·cases h0
 | true =>
 rcases zJ1 Hf2 with ⟨h0, _⟩ | ⟨-, p2, rfl, hr2, hc2⟩
 ·cases h0
 rcases zJ1 Hf3 with ⟨h0, _⟩ | ⟨-, p3, rfl, hr3, hc3⟩
 ·cases h0
 have hl2 : n2 <= 1536 := by rcases (zJ1 Hlen7) _ _ rfl with h | h <;> omega
 have hl3 : n3 <= 1536 := by rcases (zJ1 Hlen23) _ _ rfl with h | h <;> omega
 have hR := zJ1 HR
 dsimp only at hR
 subst hR
 have hBw2 : B <= w2.heap.size := Nat.le_trans hBw (zJ1 HB2).size
 have hr23 := hr2.below ((zJ1 Hb23).mono hBw2)
 have hBw3 : B <= w3.heap.size := Nat.le_trans hBw (zJ1 HB3).size
 have KC := bclone_any A2 n2 c2 B (Dy.cut b p2 n2) w3 hBw3 hr23 (by omega)
 have hx2 := (zJ1 Hcut7) _ _ rfl
 have hx3 := (zJ1 Hcut23) _ _ rfl
 obtain ⟨X2, hX2⟩ : ∃ X, Dy.cut b p2 n2 = X := ⟨_, rfl⟩
 obtain ⟨X3, hX3⟩ : ∃ X, Dy.cut b p3 n3 = X := ⟨_, rfl⟩
 rw [hX2] at KC hx2 ⊢
 rw [hX3] at hr3 hx3 ⊢
 unfold BytesE at KC
 rw [hx2] at KC
 have HKC := zJ2 KC
 have Hr3 := zJ2 hr3
 have HX2 := zJ2 hX2
 have HX3 := zJ2 hX3
 have Hx2 := zJ2 hx2
 have Hx3 := zJ2 hx3
 clear KC hr2 hr23 hr3 hx2 hx3 hX2 hX3 Hf2 Hf3 HR Hlen7 Hlen23 Hcut7 Hcut23 HT7 HT23
 go_wp2_with fail
 refine (zJ1 HKC).mono ?_
 rintro e w4 ⟨A4, c4, rfl, ho4, hb4⟩
 have Ho4 := zJ2 ho4
 have HB4 := zJ2 ((zJ1 HB3).trans (hb4.mono (zJ1 HB3).size))
 have Hr4 := zJ2 ((zJ1 Hr3).below (hb4.mono hBw3))
 have Hb34 := zJ2 hb4
 clear ho4 hb4 HKC
 go_wp2_with (at_builtin; refine zJe byteTyD rfl _ _ rfl w3.heap.size _ n2 (bys X2) rfl (zJ1 Ho4) B A3 n3 c3 (bys X3) rfl (zJ1 Hr4) (bys_oneD _) (by omega) (zJ1 Hb34).size ?_; intro A5 c5 w5 ho5 hg5 hk5; have Ho5 := zJ2 ho5; have HB5 := zJ2 ((zJ1 HB4).grown hg5 (zJ1 HB4).size (fun k hk => Nat.le_trans (zJ1 HB3).size ((zJ1 Ho4).lt k hk).1) : Below w.heap.size w w5); clear ho5 hg5 hk5)
 go_ret2
 have hT : RelasE (0, Dy.cut b p2 n2 ++ Dy.cut b p3 n3) w (.returned (.tuple #[.slice A5 (n2 + n3) c5, .int .i64 0])) w5 := by
  rw [zJ1 HX2, zJ1 HX3]
  unfold RelasE
  dsimp only
  rw [List.length_append, zJ1 Hx2, zJ1 Hx3, show bys (X2 ++ X3) = bys X2 ++ bys X3 by unfold bys; rw [List.map_append]]
  exact ⟨A5, c5, rfl, zJd (zJ1 Ho5) (zJ1 HB3).size, zJ1 HB5⟩
 exact hT
theorem wJn {P : Program} {t e : TypeId} {size bytes : Nat} (T : SlTy P t e size bytes) {W : World} {o : Oper} {a : Act} {K : Act -> World -> Prop} {Q : Exit -> Act -> World -> Prop} (s x : Operand)
  (ho : o.op = .call { callee := .builtin .append, args := #[s, x], argTypes := #[t, t] })
  (base : Nat) (v : Value) (n : Nat) (xs : List Value) (hs : a.eval s = v) (hown : W.ownsRow base e size v n xs)
  (cs : Array Value) (g : Nat) (hx : a.eval x = .slice (some ⟨g, 0, none⟩) 1 1) (hg : g = W.heap.size) (hcs : cs.size = size) (h1 : ∀ u ∈ cs.toList, u.oneCell' = true)
  (hb : (n + 1) * bytes <= 140737488355328) (hbase : base <= W.heap.size)
  (h : ∀ A' c' w', w'.ownsRow base e size (.slice A' (n + 1) c') (n + 1) (xs ++ cs.toList) -> W.grownBy w' v.ownBlock -> K (a.put o.dst (.slice A' (n + 1) c')) w') : o.wp P a (W.alloc (.cells cs e)) K Q := by
 subst hg
 refine wp_app T s x ho base v n xs hs (hown.alloc _) (W.heap.size + 1) (some ⟨W.heap.size, 0, none⟩) 1 1 cs.toList hx (Rd.row hcs) h1 hb (by simp; omega) fun v' w' h2 h3 h4 => ?_
 obtain ⟨A', c', rfl⟩ := yJd h2
 exact h A' c' w' h2 (yJ5 (World.grownBy_alloc W _ _) h3)
theorem vJ2 {α : Type} (f : Nat -> α) : ∀ N k, rowsOf (fun k => some (f k)) N k = some ((List.range' k N).map f)
 | 0, k => rfl
 | N + 1, k => by
  rw [rowsOf]
  dsimp only
  rw [vJ2 f N (k + 1)]
  simp [List.range'_succ]
namespace Dy
def pr (b : List UInt8) (off k : Nat) : Nat × Nat := (Wd.num b (off + k * 16) 8, Wd.num b (off + k * 16 + 8) 8)
def prs (b : List UInt8) (off N : Nat) : List (Nat × Nat) := (List.range' 0 N).map (pr b off)
theorem prs_len (b : List UInt8) (off N : Nat) : (prs b off N).length = N := by simp [prs]
theorem prs_at (b : List UInt8) (off N k : Nat) (h : k < N) : (prs b off N)[k]? = some (pr b off k) := by
 unfold prs
 rw [List.getElem?_map, List.getElem?_range' h]
 simp
theorem prs_take {b : List UInt8} {off N k : Nat} (h : k < N) : (prs b off N).take (k + 1) = (prs b off N).take k ++ [pr b off k] := by
 rw [List.take_add_one, prs_at b off N k h]
 rfl
theorem ents_stop {b : List UInt8} {off N k : Nat} {l : List (Nat × Nat)} (h : ents b N off = (ents b (N - k) (off + k * 16)).map (l ++ ·)) (hk : k < N) (h0 : (pr b off k).1 = 0) : ents b N off = some l := by
 rw [h, show N - k = (N - (k + 1)) + 1 from by omega, ents, if_pos (show Wd.num b (off + k * 16) 8 = 0 from h0)]
 simp
theorem ents_on {b : List UInt8} {off N k : Nat} {l : List (Nat × Nat)} (h : ents b N off = (ents b (N - k) (off + k * 16)).map (l ++ ·)) (hk : k < N) (h0 : ¬ (pr b off k).1 = 0) : ents b N off = (ents b (N - (k + 1)) (off + (k + 1) * 16)).map ((l ++ [pr b off k]) ++ ·) := by
 rw [h, show N - k = (N - (k + 1)) + 1 from by omega, ents, if_neg (show ¬ Wd.num b (off + k * 16) 8 = 0 from h0), show off + k * 16 + 16 = off + (k + 1) * 16 from by omega]
 cases ents b (N - (k + 1)) (off + (k + 1) * 16) <;> simp [pr]
theorem ents_end {b : List UInt8} {off N k : Nat} {l : List (Nat × Nat)} (h : ents b N off = (ents b (N - k) (off + k * 16)).map (l ++ ·)) (hk : k = N) : ents b N off = none := by
 rw [h, hk, Nat.sub_self]
 rfl
theorem pr_lt (b : List UInt8) (off k : Nat) : (pr b off k).1 < 18446744073709551616 /\ (pr b off k).2 < 18446744073709551616 := by
 unfold pr
 have h1 := Wd.num_lt b (off + k * 16) 8
 have h2 := Wd.num_lt b (off + k * 16 + 8) 8
 simp at h1 h2
 exact ⟨h1, h2⟩
end Dy
theorem DsM.start {w wr : World} {B : Nat} {A As : Option Addr} {n c ns cs : Nat} {b : List UInt8} {ty en ph : Int} {segs : List El.Sg} {S : Obj} (hB : B <= w.heap.size) (hb : Rd w B 1 A n (bys b)) (hs : Rd w B 6 As ns (segCells segs)) (hbr : Below w.heap.size w wr) :
  DsM (((wr.alloc S).alloc (.map #[] 0)).alloc (.cells #[.slice A n c, .int .u16 ty, .int .u64 en, .int .u64 ph, .slice As ns cs, .slice none 0 0, .map (some (wr.heap.size + 1))] 255)) w.heap.size (wr.heap.size + 1 + 1) ⟨A, n, c, b, ty, en, ph, As, ns, cs, segs, none, 0, 0, [], wr.heap.size + 1⟩ [] := by
 have hsz := hbr.size
 have e1 : (wr.alloc S).heap.size = wr.heap.size + 1 := by simp
 have e2 : ((wr.alloc S).alloc (.map #[] 0)).heap.size = wr.heap.size + 1 + 1 := by simp
 have hB2 : Below w.heap.size w (((wr.alloc S).alloc (.map #[] 0)).alloc (.cells #[.slice A n c, .int .u16 ty, .int .u64 en, .int .u64 ph, .slice As ns cs, .slice none 0 0, .map (some (wr.heap.size + 1))] 255)) := ((hbr.alloc hsz _).alloc (by rw [e1]; omega) _).alloc (by rw [e2]; omega) _
 refine ⟨by omega, ?_, (hb.more hB).below hB2, (hs.more hB).below hB2, World.ownsRow_nil _ _ _ _, ?_, by dsimp only; omega⟩
 ·have := Blk.new ((wr.alloc S).alloc (.map #[] 0)) 255 [.slice A n c, .int .u16 ty, .int .u64 en, .int .u64 ph, .slice As ns cs, .slice none 0 0, .map (some (wr.heap.size + 1))]
  rw [e2] at this
  exact this
 ·have h := (MapB.nil (wr.alloc S) (.int .u64)).belowSz ((Below.refl _ _).alloc (Nat.le_refl _) (.cells #[.slice A n c, .int .u16 ty, .int .u64 en, .int .u64 ph, .slice As ns cs, .slice none 0 0, .map (some (wr.heap.size + 1))] 255))
  rw [e1] at h
  exact h
theorem entC_snoc (L : List (Nat × Nat)) (x : Nat × Nat) : entC (L ++ [x]) = entC L ++ [.int .u64 (x.1 : Nat), .int .u64 (x.2 : Nat)] := by simp [entC]
theorem DsM.notG {V : World} {B g : Nat} {d : Ds} {T : List (Nat × Nat)} (h : DsM V B g d T) : ∀ q, (Value.slice d.Al d.k d.cl).ownBlock = some q -> q = g -> True -> False := by
 intro q hq e _
 rcases h.list.2 with ⟨e0, -⟩ | ⟨q2, cap, cur, e1, e2, e3, -⟩
 ·injection e0 with e0
  rw [e0] at hq
  cases hq
 ·injection e1 with e1
  rw [e1] at hq
  have : q2 = q := Option.some.inj hq
  have hb := h.blk
  unfold Blk at hb
  rw [this, e, hb] at e3
  simp at e3
theorem DsM.push {V w6 : World} {B g c6 : Nat} {d : Ds} {T : List (Nat × Nat)} {A6 : Option Addr} {x : Nat × Nat} (h : DsM V B g d T) (ho : w6.ownsRow B 259 2 (.slice A6 (d.k + 1) c6) (d.k + 1) (entC d.L ++ [.int .u64 (x.1 : Nat), .int .u64 (x.2 : Nat)])) (hg : V.grownBy w6 (Value.slice d.Al d.k d.cl).ownBlock) :
  DsM (w6.setCell ⟨g, 5, none⟩ (.slice A6 (d.k + 1) c6)) B g ⟨d.Ab, d.m, d.cb, d.b, d.ty, d.en, d.ph, d.As, d.n, d.c, d.segs, A6, d.k + 1, c6, d.L ++ [x], d.gm⟩ T := by
 have hneg : ∀ q, (Value.slice d.Al d.k d.cl).ownBlock = some q -> q ≠ g := by
  intro q hq e
  rcases h.list.2 with ⟨e0, -⟩ | ⟨q2, cap, cur, e1, e2, e3, -⟩
  ·injection e0 with e0
   rw [e0] at hq
   cases hq
  ·injection e1 with e1
   rw [e1] at hq
   have : q2 = q := Option.some.inj hq
   have hb := h.blk
   unfold Blk at hb
   rw [this, e, hb] at e3
   simp at e3
 have hnem : ∀ q, (Value.slice d.Al d.k d.cl).ownBlock = some q -> q ≠ d.gm := by
  intro q hq e
  rcases h.list.2 with ⟨e0, -⟩ | ⟨q2, cap, cur, e1, e2, e3, -⟩
  ·injection e0 with e0
   rw [e0] at hq
   cases hq
  ·injection e1 with e1
   rw [e1] at hq
   have : q2 = q := Option.some.inj hq
   obtain ⟨⟨es, clk, hmap, _⟩, _, _⟩ := h.tags
   rw [this, e, hmap] at e3
   simp at e3
 have hgm : d.gm ≠ g := by
  intro e
  obtain ⟨⟨es, clk, hmap, _⟩, _, _⟩ := h.tags
  have hb := h.blk
  unfold Blk at hb
  rw [e, hb] at hmap
  simp at hmap
 have hbel : Below B V (w6.setCell ⟨g, 5, none⟩ (.slice A6 (d.k + 1) c6)) := ((Below.refl B V).grown hg h.sz (fun k hk => (h.list.lt k hk).1)).setCell (p := ⟨g, 5, none⟩) h.hB _
 have hblk6 : Blk w6 g 255 _ := (hg.block g h.blk.lt (fun e => hneg g e.symm rfl)).trans h.blk
 refine ⟨h.hB, hblk6.set 5 _, h.b.below hbel, h.segs.below hbel, ?_, ?_, h.tagsB⟩
 ·dsimp only
  rw [entC_snoc]
  refine ⟨ho.1, ho.2.imp id ?_⟩
  rintro ⟨q, cap, cur, e1, e2, e3, r⟩
  refine ⟨q, cap, cur, e1, e2, (heap_setCell_other _ _ _ _ ?_).trans e3, r⟩
  intro e
  have hb := hblk6
  unfold Blk at hb
  dsimp only at e
  rw [e, hb] at e3
  simp at e3
 ·exact h.tags.keep ((heap_setCell_other _ _ _ _ hgm).trans (hg.block d.gm h.tags.lt (fun e => hnem d.gm e.symm rfl)))
structure OpR (w V w3 wq : World) (g : Nat) (d : Ds) (b : List UInt8) (off N i : Nat) : Prop where
 ds : DsM wq w.heap.size g d []
 own : wq.ownsRow w3.heap.size 259 2 (.slice d.Al d.k d.cl) d.k (entC d.L)
 keep : ∀ q, V.heap.size <= q -> q < w3.heap.size -> wq.heap[q]? = w3.heap[q]?
 bel : Below w.heap.size w wq
 sz : w3.heap.size <= wq.heap.size
 L : d.L = (Dy.prs b off N).take i
 k : d.k = i
 en : Dy.ents b N off = (Dy.ents b (N - i) (off + i * 16)).map ((Dy.prs b off N).take i ++ ·)
theorem OpR.alloc {w V w3 wq : World} {g : Nat} {d : Ds} {b : List UInt8} {off N i : Nat} (h : OpR w V w3 wq g d b off N i) (o : Obj) : OpR w V w3 (wq.alloc o) g d b off N i :=
 ⟨h.ds.belowSz ((Below.refl _ _).alloc (Nat.le_refl _) o), h.own.alloc _, fun q h1 h2 => (heap_alloc_old wq o (Nat.lt_of_lt_of_le h2 h.sz)).trans (h.keep q h1 h2), h.bel.alloc h.bel.size o, by have := h.sz; simp; omega, h.L, h.k, h.en⟩
theorem OpR.drew {w V w3 wq : World} {g : Nat} {d : Ds} {b : List UInt8} {off N i : Nat} (h : OpR w V w3 wq g d b off N i) : OpR w V w3 wq.drew g d b off N i :=
 ⟨h.ds.drewN 1, h.own, h.keep, zJ3 h.bel, h.sz, h.L, h.k, h.en⟩
theorem OpR.push {w V w3 wq w6 : World} {g : Nat} {d : Ds} {b : List UInt8} {off N i c6 : Nat} {A6 : Option Addr} (h : OpR w V w3 wq g d b off N i) (hi : i < N) (h0 : ¬ (Dy.pr b off i).1 = 0) (hgV : g < V.heap.size) (hV3 : V.heap.size <= w3.heap.size) (hw3 : w.heap.size <= w3.heap.size)
  (ho : w6.ownsRow w3.heap.size 259 2 (.slice A6 (d.k + 1) c6) (d.k + 1) (entC d.L ++ [.int .u64 ((Dy.pr b off i).1 : Nat), .int .u64 ((Dy.pr b off i).2 : Nat)])) (hg : wq.grownBy w6 (Value.slice d.Al d.k d.cl).ownBlock) :
  OpR w V w3 (w6.setCell ⟨g, 5, none⟩ (.slice A6 (d.k + 1) c6)) g ⟨d.Ab, d.m, d.cb, d.b, d.ty, d.en, d.ph, d.As, d.n, d.c, d.segs, A6, d.k + 1, c6, d.L ++ [Dy.pr b off i], d.gm⟩ b off N (i + 1) := by
 have hd := h.ds.push (x := Dy.pr b off i) (zJd ho hw3) hg
 refine ⟨hd, ?_, ?_, ?_, ?_, ?_, ?_, ?_⟩
 ·dsimp only
  rw [entC_snoc]
  refine ⟨ho.1, ho.2.imp id ?_⟩
  rintro ⟨q, cap, cur, e1, e2, e3, r⟩
  exact ⟨q, cap, cur, e1, e2, (heap_setCell_other _ _ _ _ (by dsimp only; omega)).trans e3, r⟩
 ·intro q h1 h2
  rw [heap_setCell_other _ _ _ _ (by dsimp only; omega), hg.block q (Nat.lt_of_lt_of_le h2 h.sz) (fun e => by have := (h.own.lt _ e.symm).1; omega)]
  exact h.keep q h1 h2
 ·exact (h.bel.grown hg h.bel.size (fun k hk => by have := (h.own.lt k hk).1; omega)).setCell (p := ⟨g, 5, none⟩) h.ds.hB _
 ·have := h.sz
  have := hg.size
  simp
  omega
 ·dsimp only
  rw [h.L, Dy.prs_take hi]
 ·dsimp only
  rw [h.k]
 ·rw [Dy.prs_take hi]
  exact Dy.ents_on h.en hi h0
def OpenE (A : Option Addr) (n c : Nat) (b : List UInt8) (ty en ph : Int) (As : Option Addr) (ns cs : Nat) (segs : List El.Sg) (w : World) (e : Ending) (w' : World) : Prop := Below w.heap.size w w' /\
 ((∃ p, (Dy.open_ b segs).2 = none /\ e = .returned (.tuple #[.pointer p, .int .i64 (Dy.open_ b segs).1]) /\ ((Dy.open_ b segs).1 = 0 -> p = none)) \/
  ∃ g Al k cl L gm, Dy.open_ b segs = (0, some L) /\ e = .returned (.tuple #[.pointer (some ⟨g, 0, none⟩), .int .i64 0]) /\ DsM w' w.heap.size g ⟨A, n, c, b, ty, en, ph, As, ns, cs, segs, Al, k, cl, L, gm⟩ L /\ DsOk ⟨A, n, c, b, ty, en, ph, As, ns, cs, segs, Al, k, cl, L, gm⟩)
theorem open_none {b : List UInt8} {segs : List El.Sg} (h : segs.find? (fun s => s.kind == 2) = none) : Dy.open_ b segs = (0, none) := by
 unfold Dy.open_
 rw [h]
theorem open_some {b : List UInt8} {segs : List El.Sg} {s : El.Sg} (h : segs.find? (fun s => s.kind == 2) = some s) : Dy.open_ b segs = if s.fsz % 16 ≠ 0 \/ b.length < s.off + s.fsz then (25, none) else match Dy.ents b (s.fsz / 16) s.off with
   | none => (25, none)
   | some L => if Dy.may L = 0 then (0, some L) else (Dy.may L, none) := by
 unfold Dy.open_
 rw [h]
 rfl
theorem wJr {A : Option Addr} {n c : Nat} {b : List UInt8} {ty en ph : Int} {As : Option Addr} {ns cs : Nat} {segs : List El.Sg} {w w' : World} {x : Int} (h : Dy.open_ b segs = (x, none)) (hb : Below w.heap.size w w') : OpenE A n c b ty en ph As ns cs segs w (.returned (.tuple #[.pointer none, .int .i64 x])) w' := by
 refine ⟨hb, .inl ⟨none, ?_, ?_, fun _ => rfl⟩⟩ <;> rw [h]
set_option maxRecDepth 100000 in
set_option maxHeartbeats 4000000 in
theorem dopen_any (A : Option Addr) (n c B : Nat) (b : List UInt8) (ty en ph : Int) (As : Option Addr) (ns cs : Nat) (segs : List El.Sg) (w : World) (hB : B <= w.heap.size) (hb : Rd w B 1 A n (bys b)) (hs : Rd w B 6 As ns (segCells segs)) (hn : n <= 4294967296) (hns : ns <= 4294967296) (hc : n <= c) (hfit : ∀ s ∈ segs, SgFit s) :
  Calls Tryz.prog 88 #[.slice A n c, .agg #[.int .u16 ty, .int .u64 en, .int .u64 ph, .slice As ns cs]] w (OpenE A n c b ty en ph As ns cs segs w) := by
 have hsl : segs.length = ns := by have := hs.1; rw [zJw] at this; omega
 have hbl : b.length = n := by have := hb.1; simp [bys] at this; omega
 have kf : ∀ (k j : Nat), k <= j -> j <= c -> ∀ w' : World, (Instr.slice 64 (.slice A n c) (some (.int .u64 (k : Nat))) (some (.int .u64 (j : Nat))) none).run Tryz.prog w' = .ok (.slice (fromA A c k) (j - k) (c - k)) w' := fun k j h h2 w' => vJ1 (P := Tryz.prog) Tryz.underlying64 (e := 5) (by kernel_rfl) .u64 .u64 A n c k j h h2 w'
 have Hkf := zJ2 kf
 have Hr := zJ2 hb
 have Hs := zJ2 hs
 have Hsl := zJ2 hsl
 have Hbl := zJ2 hbl
 have Hfit := zJ2 hfit
 have HB0 : Hid (Below w.heap.size w (w.alloc (.cells #[.int .u16 ty, .int .u64 en, .int .u64 ph, .slice As ns cs] 49))) := zJ2 ((Below.refl _ _).alloc (Nat.le_refl _) _)
 have HK0 : Hid (Blk (w.alloc (.cells #[.int .u16 ty, .int .u64 en, .int .u64 ph, .slice As ns cs] 49)) w.heap.size 49 [.int .u16 ty, .int .u64 en, .int .u64 ph, .slice As ns cs]) := zJ2 (Blk.new w 49 [.int .u16 ty, .int .u64 en, .int .u64 ph, .slice As ns cs])
 clear hb hs hsl hbl hfit kf
 go_enter Tryz.func88, Tryz.ntmps88
 go_wp2_with fail
 go_loopg [16] ns (fun gk iv wr => ∃ j : Nat, gk = ns - j /\ j <= ns /\ iv = .int .i64 j /\ segs.find? (fun s => s.kind == 2) = (segs.drop j).find? (fun s => s.kind == 2) /\ Below w.heap.size w wr /\ Blk wr w.heap.size 49 [.int .u16 ty, .int .u64 en, .int .u64 ph, .slice As ns cs])
 case atStart => exact ⟨0, by omega, Nat.zero_le _, rfl, rfl, zJ1 HB0, zJ1 HK0⟩
 case round =>
 obtain ⟨j, hgk, hj, rfl, hfd, hbr, hkr⟩ := hrel
 have Hfd := zJ2 hfd
 have Hbr := zJ2 hbr
 have Hkr := zJ2 hkr
 clear hfd hbr hkr HB0 HK0
 by_cases hlt : j < ns
 case neg =>
  have hno : segs.find? (fun s => s.kind == 2) = none := by rw [zJ1 Hfd, List.drop_of_length_le (by rw [zJ1 Hsl]; omega)]; rfl
  have Hno := zJ2 (open_none (b := b) hno)
  have ige : ¬ (j : Int) < (ns : Int) := by omega
  clear hno Hfd Hkf Hr Hs
  go_wp2_with fail
  go_ret2
  exact wJr (zJ1 Hno) (zJ1 Hbr)
 have ilt : (j : Int) < (ns : Int) := by omega
 obtain ⟨s, hsj⟩ : ∃ s, segs[j]? = some s := ⟨_, List.getElem?_eq_getElem (by rw [zJ1 Hsl]; exact hlt)⟩
 obtain ⟨hf0, hf1, hf2, hf3, hf4, hf5⟩ := (zJ1 Hfit) s (List.mem_of_getElem? hsj)
 obtain ⟨b1, o1, hA1, hbb, c0, c1, c2, c3, c4, c5⟩ := wJb ((zJ1 Hs).below ((zJ1 Hbr).mono hB)) hsj
 subst hA1
 have hfd2 := zJ1 Hfd
 rw [List.drop_eq_getElem_cons (by rw [zJ1 Hsl]; exact hlt), show segs[j]'(by rw [zJ1 Hsl]; exact hlt) = s from (List.getElem?_eq_some_iff.1 hsj).2, List.find?_cons] at hfd2
 have HE : Hid (Blk (wr.alloc (.cells #[.int .u32 (s.kind : Nat), .int .u8 (s.flags : Nat), .int .u64 (s.off : Nat), .int .u64 (s.addr : Nat), .int .u64 (s.fsz : Nat), .int .u64 (s.msz : Nat)] 58)) wr.heap.size 58 [.int .u32 (s.kind : Nat), .int .u8 (s.flags : Nat), .int .u64 (s.off : Nat), .int .u64 (s.addr : Nat), .int .u64 (s.fsz : Nat), .int .u64 (s.msz : Nat)]) := zJ2 (Blk.new wr 58 [.int .u32 (s.kind : Nat), .int .u8 (s.flags : Nat), .int .u64 (s.off : Nat), .int .u64 (s.addr : Nat), .int .u64 (s.fsz : Nat), .int .u64 (s.msz : Nat)])
 have HB2 : Hid (Below w.heap.size w (wr.alloc (.cells #[.int .u32 (s.kind : Nat), .int .u8 (s.flags : Nat), .int .u64 (s.off : Nat), .int .u64 (s.addr : Nat), .int .u64 (s.fsz : Nat), .int .u64 (s.msz : Nat)] 58))) := zJ2 ((zJ1 Hbr).alloc (zJ1 Hbr).size _)
 have HK2 : Hid (Blk (wr.alloc (.cells #[.int .u32 (s.kind : Nat), .int .u8 (s.flags : Nat), .int .u64 (s.off : Nat), .int .u64 (s.addr : Nat), .int .u64 (s.fsz : Nat), .int .u64 (s.msz : Nat)] 58)) w.heap.size 49 [.int .u16 ty, .int .u64 en, .int .u64 ph, .slice (some ⟨b1, o1, none⟩) ns cs]) := zJ2 ((zJ1 Hkr).belowSz ((Below.refl _ _).alloc (Nat.le_refl _) _))
 clear Hfd Hkr
 by_cases hkd : s.kind = 2
 case neg =>
  have hkq : (s.kind == 2) = false := by simpa using hkd
  rw [hkq] at hfd2
  have Hfd3 := zJ2 hfd2
  have hkq2 : ¬ (s.kind : Int) = 2 := by omega
  clear hfd2 hkq
  go_wp2_with fail
  go_roundg (ns - (j + 1))
  case measure => omega
  case rel => exact ⟨j + 1, rfl, by omega, by go_num, zJ1 Hfd3, zJ1 HB2, zJ1 HK2⟩
 have hkq : (s.kind == 2) = true := by simpa using hkd
 rw [hkq] at hfd2
 dsimp only at hfd2
 have hop := open_some (b := b) hfd2
 rw [zJ1 Hbl] at hop
 have Hop := zJ2 hop
 have hkI : (s.kind : Int) = 2 := by omega
 have hB2 := zJ1 HB2
 have hK2 := zJ1 HK2
 have hE := zJ1 HE
 rw [hkI] at hB2 hK2 hE
 have HB3 := zJ2 hB2
 have HK3 := zJ2 hK2
 have HE3 := zJ2 hE
 obtain ⟨z0, z1, z2, z3⟩ := And.intro (hK2.cell (i := 0) rfl) (And.intro (hK2.cell (i := 1) rfl) (And.intro (hK2.cell (i := 2) rfl) (hK2.cell (i := 3) rfl)))
 clear hop hfd2 hkq HB2 HK2 HE hB2 hK2 hE
 by_cases hmd : s.fsz % 16 = 0
 case neg =>
  have hr := zJ1 Hop
  rw [if_pos (.inl hmd)] at hr
  have Hno := zJ2 hr
  have m1 : ¬ (s.fsz : Int) % 16 = 0 := by omega
  have m2 : ¬ (s.fsz : Int).tmod 16 = 0 := by rw [Int.tmod_eq_emod_of_nonneg (by omega)]; exact m1
  clear hr Hop
  go_wp2_with fail
  go_ret2
  exact wJr (zJ1 Hno) (zJ1 HB3)
 have m1 : (s.fsz : Int) % 16 = 0 := by omega
 have m2 : (s.fsz : Int).tmod 16 = 0 := by rw [Int.tmod_eq_emod_of_nonneg (by omega)]; exact m1
 have KI := zJ2 (fun w' => zJf (s.off : Int) (s.fsz : Int) (n : Int) w' (by omega) (by omega) (by omega) (by omega) (by omega))
 by_cases hin : s.off + s.fsz <= n
 case neg =>
  have hr := zJ1 Hop
  rw [if_pos (.inr (by omega))] at hr
  have Hno := zJ2 hr
  have ki := zJ1 KI
  rw [show decide ((s.off : Int) + (s.fsz : Int) <= (n : Int)) = false by simp; omega] at ki
  have KI2 := zJ2 ki
  clear hr Hop ki KI
  go_wp2_with fail
  refine ((zJ1 KI2) _).mono ?_
  rintro e w2 ⟨rfl, rfl⟩
  go_wp2_with fail
  go_ret2
  exact wJr (zJ1 Hno) (zJ1 HB3)
 have ki := zJ1 KI
 rw [show decide ((s.off : Int) + (s.fsz : Int) <= (n : Int)) = true by simp; omega] at ki
 have KI2 := zJ2 ki
 have hr := zJ1 Hop
 rw [if_neg (by omega)] at hr
 have Hop2 := zJ2 hr
 clear hr ki KI Hop
 go_wp2_with fail
 refine ((zJ1 KI2) _).mono ?_
 rintro e w2 ⟨rfl, rfl⟩
 clear KI2
 have kf1 := (zJ1 Hkf) s.off (s.off + s.fsz) (by omega) (by omega)
 rw [Nat.add_sub_cancel_left] at kf1
 have hcs : ((s.off + s.fsz : Nat) : Int) = (s.off : Int) + (s.fsz : Int) := by omega
 rw [hcs] at kf1
 have hwr : (s.off : Int) + (s.fsz : Int) < 18446744073709551616 := by omega
 have hmm := @run_makeMap Tryz.prog
 have hDS := DsM.start (S := .cells #[.int .u32 (s.kind : Nat), .int .u8 (s.flags : Nat), .int .u64 (s.off : Nat), .int .u64 (s.addr : Nat), .int .u64 (s.fsz : Nat), .int .u64 (s.msz : Nat)] 58) (n := n) (c := c) (ns := ns) (cs := cs) (ty := ty) (en := en) (ph := ph) hB (zJ1 Hr) (zJ1 Hs) (zJ1 Hbr)
 rw [hkI] at hDS
 have hbV : Below w.heap.size w (((wr.alloc (.cells #[.int .u32 (s.kind : Nat), .int .u8 (s.flags : Nat), .int .u64 (s.off : Nat), .int .u64 (s.addr : Nat), .int .u64 (s.fsz : Nat), .int .u64 (s.msz : Nat)] 58)).alloc (.map #[] 0)).alloc (.cells #[.slice A n c, .int .u16 ty, .int .u64 en, .int .u64 ph, .slice (some ⟨b1, o1, none⟩) ns cs, .slice none 0 0, .map (some (wr.heap.size + 1))] 255)) := (((zJ1 Hbr).alloc (zJ1 Hbr).size _).alloc (by have := (zJ1 Hbr).size; simp; omega) _).alloc (by have := (zJ1 Hbr).size; simp; omega) _
 rw [hkI] at hbV
 have HDS := zJ2 hDS
 have HBV := zJ2 hbV
 have Hgl : Hid (w.heap.size <= wr.heap.size) := zJ2 (zJ1 Hbr).size
 clear hDS hbV
 go_wp2_with fail
 obtain ⟨V, hV⟩ : ∃ x, x = (((wr.alloc (.cells #[.int .u32 2, .int .u8 (s.flags : Nat), .int .u64 (s.off : Nat), .int .u64 (s.addr : Nat), .int .u64 (s.fsz : Nat), .int .u64 (s.msz : Nat)] 58)).alloc (.map #[] 0)).alloc (.cells #[.slice A n c, .int .u16 ty, .int .u64 en, .int .u64 ph, .slice (some ⟨b1, o1, none⟩) ns cs, .slice none 0 0, .map (some (wr.heap.size + 1))] 255)) := ⟨_, rfl⟩
 have hbV : Below w.heap.size w V := by rw [hV]; exact zJ1 HBV
 have hDS := hV ▸ zJ1 HDS
 rw [<- hV]
 clear hV HDS HBV z0 z1 z2 z3
 obtain ⟨g, hg⟩ : ∃ g, wr.heap.size + 1 + 1 = g := ⟨_, rfl⟩
 have hgV : g < V.heap.size := by rw [<- hg]; exact hDS.blk.lt
 rw [hg] at hDS ⊢
 obtain ⟨gm, hgm⟩ : ∃ g, wr.heap.size + 1 = g := ⟨_, rfl⟩
 rw [hgm] at hDS ⊢
 have hrd := hDS.b.cut (k := s.off) (j := s.off + s.fsz) (by omega) hin hc
 dsimp only at hrd
 rw [Nat.add_sub_cancel_left, show ((bys b).drop s.off).take s.fsz = bys (Dy.cut b s.off s.fsz) by unfold bys Dy.cut; rw [List.map_take, List.map_drop]] at hrd
 have KR := en_rows (fromA A c s.off) s.fsz (c - s.off) w.heap.size (Dy.cut b s.off s.fsz) (fun k => some (Dy.pr b s.off k)) V hbV.size hrd (by omega) (by omega) (by
  intro k A2 c2 w' hk hb' hr hc2
  refine (entOf_any A2 c2 w.heap.size (Dy.cut (Dy.cut b s.off s.fsz) (k * 16) 16) w' (Nat.le_trans hbV.size hb'.size) hr).mono ?_
  rintro e w2 ⟨rfl, hb2⟩
  refine ⟨hb2, ?_⟩
  have e1 : Wd.num (Dy.cut (Dy.cut b s.off s.fsz) (k * 16) 16) 0 8 = (Dy.pr b s.off k).1 := by rw [zJs (by omega), zJs (by omega)]; rfl
  have e2 : Wd.num (Dy.cut (Dy.cut b s.off s.fsz) (k * 16) 16) 8 8 = (Dy.pr b s.off k).2 := by rw [zJs (by omega), zJs (by omega), <- Nat.add_assoc]; rfl
  rw [e1, e2])
 rw [vJ2] at KR
 have HKR := zJ2 KR
 have HDS := zJ2 hDS
 have HBV := zJ2 hbV
 clear KR hDS hbV hrd Hkf Hr Hs kf1 hcs hwr hmm hg hgm hkI
 refine (zJ1 HKR).mono ?_
 rintro e w3 ⟨⟨h0, -⟩ | ⟨l, A9, c9, hl, rfl, ho9⟩, hb3⟩
 ·cases h0
 have hl2 : Dy.prs b s.off (s.fsz / 16) = l := Option.some.inj hl
 obtain ⟨N, hN⟩ : ∃ N, s.fsz / 16 = N := ⟨_, rfl⟩
 rw [hN] at hl2
 subst hl2
 rw [Dy.prs_len] at ho9 ⊢
 have HO9 := zJ2 ho9
 have HB3 := zJ2 ((zJ1 HBV).trans (hb3.mono (zJ1 HBV).size))
 have HDS3 := zJ2 ((zJ1 HDS).belowSz hb3)
 have hV3 : V.heap.size <= w3.heap.size := hb3.size
 have hw3 : w.heap.size <= w3.heap.size := (zJ1 HB3).size
 have HR0 : Hid (OpR w V w3 w3 g ⟨A, n, c, b, ty, en, ph, some ⟨b1, o1, none⟩, ns, cs, segs, none, 0, 0, [], gm⟩ b s.off N 0) := zJ2 ⟨zJ1 HDS3, World.ownsRow_nil _ _ _ _, fun _ _ _ => rfl, zJ1 HB3, Nat.le_refl _, rfl, rfl, by cases Dy.ents b (N - 0) (s.off + 0 * 16) <;> simp⟩
 clear hl ho9 hb3 HDS HDS3 HBV HKR
 go_wp2_with fail
 go_loopg [58] N (fun gk iv wq => ∃ (i : Nat) (Al : Option Addr) (cl : Nat) (L : List (Nat × Nat)), gk = N - i /\ i <= N /\ iv = .int .i64 i /\ OpR w V w3 wq g ⟨A, n, c, b, ty, en, ph, some ⟨b1, o1, none⟩, ns, cs, segs, Al, i, cl, L, gm⟩ b s.off N i)
 case atStart => exact ⟨0, none, 0, [], by omega, Nat.zero_le _, rfl, zJ1 HR0⟩
 case round =>
 obtain ⟨i, Al, cl, L, hgk2, hi, rfl, hR⟩ := hrel
 have HR := zJ2 hR
 clear hR HR0
 by_cases hlt2 : i < N
 case neg =>
  have hr := zJ1 Hop2
  rw [hN, Dy.ents_end (zJ1 HR).en (by omega)] at hr
  have Hno := zJ2 hr
  have ige : ¬ (i : Int) < (N : Int) := by omega
  clear hr Hop2
  go_wp2_with fail
  go_ret2
  exact wJr (zJ1 Hno) (zJ1 HR).bel
 have ilt2 : (i : Int) < (N : Int) := by omega
 obtain ⟨b9, o9, hA9, hb9, y0, y1⟩ := ent_at (Rd.of_own (zJ1 HO9)) (Dy.prs_at b s.off N i hlt2)
 subst hA9
 have hb9V : V.heap.size <= b9 := ((zJ1 HO9).lt b9 rfl).1
 have q0 := (World.cell?_of_block (a := ⟨b9, o9 + i * 2, none⟩) ((zJ1 HR).keep b9 hb9V hb9)).trans y0
 have q1 := (World.cell?_of_block (a := ⟨b9, o9 + i * 2 + 1, none⟩) ((zJ1 HR).keep b9 hb9V hb9)).trans y1
 obtain ⟨hx1, hx2⟩ := Dy.pr_lt b s.off i
 have hen := (zJ1 HR).en
 have hpush := fun (W w6 : World) (c6 : Nat) (A6 : Option Addr) (h : OpR w V w3 W g ⟨A, n, c, b, ty, en, ph, some ⟨b1, o1, none⟩, ns, cs, segs, Al, i, cl, L, gm⟩ b s.off N i) (h0 : ¬ (Dy.pr b s.off i).1 = 0) => h.push (w6 := w6) (A6 := A6) (c6 := c6) hlt2 h0 hgV hV3 hw3
 have hstop := Dy.ents_stop hen hlt2
 obtain ⟨⟨x1, x2⟩, hx⟩ : ∃ x, Dy.pr b s.off i = x := ⟨_, rfl⟩
 rw [hx] at q0 q1 hx1 hx2 hstop
 dsimp only at q0 q1 hx1 hx2 hstop
 have HE9 : Hid (Blk (wr.alloc (.cells #[.int .u64 (x1 : Nat), .int .u64 (x2 : Nat)] 259)) wr.heap.size 259 [.int .u64 (x1 : Nat), .int .u64 (x2 : Nat)]) := zJ2 (Blk.new wr 259 [.int .u64 (x1 : Nat), .int .u64 (x2 : Nat)])
 have HR2 := zJ2 ((zJ1 HR).alloc (.cells #[.int .u64 (x1 : Nat), .int .u64 (x2 : Nat)] 259))
 have Hpush := zJ2 hpush
 have Hstop := zJ2 hstop
 have Hlt := zJ2 (fun q hq => ((zJ1 HR).own.lt q hq).2)
 clear y0 y1 hen hpush hstop HR HO9
 by_cases hz : x1 = 0
 case pos =>
  have hr := zJ1 Hop2
  rw [hN, (zJ1 Hstop) hz] at hr
  dsimp only at hr
  have hLe := (zJ1 HR2).L
  dsimp only at hLe
  rw [<- hLe] at hr
  have Hr9 := zJ2 hr
  have hents : ∀ e ∈ L, e.1 < 18446744073709551616 /\ e.2 < 18446744073709551616 := by
   intro e he
   rw [hLe] at he
   have := List.mem_of_mem_take he
   unfold Dy.prs at this
   obtain ⟨k, -, rfl⟩ := List.mem_map.1 this
   exact Dy.pr_lt _ _ _
  have hok : DsOk ⟨A, n, c, b, ty, en, ph, some ⟨b1, o1, none⟩, ns, cs, segs, Al, i, cl, L, gm⟩ := ⟨hn, hc, hns, zJ1 Hfit, hents⟩
  have hiN : i <= 4294967296 := by omega
  have KC := zJ2 (dcheck_any w.heap.size g ⟨A, n, c, b, ty, en, ph, some ⟨b1, o1, none⟩, ns, cs, segs, Al, i, cl, L, gm⟩ _ (zJ1 HR2).ds hok hiN)
  have Hok := zJ2 hok
  have HBel := zJ2 (zJ1 HR2).bel
  subst hz
  clear hr hLe hents hok Hop2 Hpush Hstop HR2
  go_wp2_with fail
  refine (zJ1 KC).mono ?_
  rintro e w7 ⟨rfl, hds, hb7⟩
  have Hds := zJ2 hds
  have HB7 := zJ2 ((zJ1 HBel).trans hb7)
  clear hds hb7 KC HBel
  dsimp only
  obtain ⟨my, hmy⟩ : ∃ m, Dy.may L = m := ⟨_, rfl⟩
  have hr := zJ1 Hr9
  have hd7 := zJ1 Hds
  dsimp only at hd7
  rw [hmy] at hr hd7 ⊢
  have Hr10 := zJ2 hr
  have Hd8 := zJ2 hd7
  clear hr hd7 Hr9 Hds hmy
  go_wp2_with fail
  go_ret2
  refine ⟨zJ1 HB7, ?_⟩
  by_cases hm0 : my = 0
  ·have hr := zJ1 Hr10
   rw [if_pos hm0] at hr
   subst hm0
   exact .inr ⟨g, Al, i, cl, L, gm, hr, rfl, (zJ1 Hd8) rfl, zJ1 Hok⟩
  ·have hr := zJ1 Hr10
   rw [if_neg hm0] at hr
   exact .inl ⟨some ⟨g, 0, none⟩, by rw [hr], by rw [hr]; rfl, fun h => by rw [hr] at h; exact absurd h hm0⟩
 have hz2 : ¬ (x1 : Int) = 0 := by omega
 have w5 := (zJ1 HR2).ds.blk.cell (i := 5) rfl
 have HR3 := zJ2 (zJ1 HR2).drew
 have HE3 := zJ2 ((zJ1 HE9).drew)
 have w7 := ((zJ1 HR3).alloc (.cells #[.int .u64 (x1 : Nat), .int .u64 (x2 : Nat)] 259)).ds.blk.cell (i := 5) rfl
 go_wp2_with fail
 have w6 := (zJ1 HR3).ds.blk.cell (i := 5) rfl
 have hxx : ¬ ((x1, x2) : Nat × Nat).1 = 0 := hz
 have hp := zJ1 Hpush
 rw [hx] at hp
 have HP := zJ2 hp
 have Hxx := zJ2 hxx
 have hgr : g < wr.heap.size := by have := (zJ1 HR3).sz; simp at this; have h1 := (zJ1 HR2).ds.blk.lt; simp at h1; omega
 have HSK' : Hid (∀ w' : World, Blk w' wr.heap.size 259 [.int .u64 (x1 : Nat), .int .u64 (x2 : Nat)] -> (w'.cell? ⟨wr.heap.size, 0, none⟩ = some (.int .u64 (x1 : Nat)) /\ w'.cell? ⟨wr.heap.size, 1, none⟩ = some (.int .u64 (x2 : Nat)))) := zJ2 (fun w' h => ⟨h.cell (i := 0) rfl, h.cell (i := 1) rfl⟩)
 clear hp hxx HE9 HR2 Hpush Hstop Hop2
 refine wp_region_held_drew (S := fun w' => w'.cell? ⟨wr.heap.size, 0, none⟩ = some (.int .u64 (x1 : Nat)) /\ w'.cell? ⟨wr.heap.size, 1, none⟩ = some (.int .u64 (x2 : Nat))) (by kernel_rfl) ((zJ1 HSK') _ (zJ1 HE3)) (fun HS0 => ?_)
 refine takeD (i := 0) (d := some 68) (v := ?_) rfl rfl (by kernel_rfl) (by kernel_rfl) (by kernel_rfl) (fun _ _ _ h => h) (Or.inl ⟨by rfl, ?y0⟩) HS0 ?_
 case y0 => (intro w' hSw; (try dsimp only at hSw); go_simp; (try with_reducible rfl))
 simp only [Act.put, List.setIfInBounds_toArray, List.set_cons_zero, List.set_cons_succ]
 refine takeD (i := 1) (d := some 69) (v := ?_) rfl rfl (by kernel_rfl) (by kernel_rfl) (by kernel_rfl) (fun _ _ _ h => h) (Or.inl ⟨by rfl, ?y1⟩) HS0 ?_
 case y1 => (intro w' hSw; (try dsimp only at hSw); go_simp; (try with_reducible rfl))
 simp only [Act.put, List.setIfInBounds_toArray, List.set_cons_zero, List.set_cons_succ]
 refine takeD (i := 2) (d := some 70) (v := ?_) rfl rfl (by kernel_rfl) (by kernel_rfl) (by kernel_rfl) (fun _ _ _ h => h) (Or.inl ⟨by rfl, ?y2⟩) HS0 ?_
 case y2 => (intro w' hSw; (try dsimp only at hSw); go_simp; (try with_reducible rfl))
 simp only [Act.put, List.setIfInBounds_toArray, List.set_cons_zero, List.set_cons_succ]
 refine takeD (i := 3) (d := some 71) (v := ?_) rfl rfl (by kernel_rfl) (by kernel_rfl) (by kernel_rfl) (fun _ _ _ h => h) (Or.inl ⟨by rfl, ?y3⟩) HS0 ?_
 case y3 => (intro w' hSw; (try dsimp only at hSw); go_simp; (try with_reducible rfl))
 simp only [Act.put, List.setIfInBounds_toArray, List.set_cons_zero, List.set_cons_succ]
 refine takeD (i := 5) (d := some 73) (v := ?_) rfl rfl (by kernel_rfl) (by kernel_rfl) (by kernel_rfl) (fun _ _ _ h => h) (Or.inl ⟨by rfl, ?y5⟩) HS0 ?_
 case y5 => (intro w' hSw; (try dsimp only at hSw); go_simp; (try with_reducible rfl))
 simp only [Act.put, List.setIfInBounds_toArray, List.set_cons_zero, List.set_cons_succ]
 refine wpAnyH_ready (rs := [4, 6]) (by kernel_rfl) (by simp) ?_
 refine AllReadyH.cons (i := 4) rfl (fun K hK => ?way4) (AllReadyH.cons (i := 6) rfl (fun K hK => ?way6) AllReadyH.nil)
 case way4 =>
  rw [if_pos (by rfl)]
  go_simp
  refine hK.out _ _ ((zJ1 HSK') _ (zJ1 HE3)) (fun hHeld => ?_)
  clear hK K HS0
  have HS0 := hHeld
  clear hHeld
  (try simp only [Act.put, List.setIfInBounds_toArray, List.set_cons_zero, List.set_cons_succ])
  refine wpAnyH_ready (rs := [6]) (by kernel_rfl) (by simp) ?_
  refine AllReadyH.cons (i := 6) rfl (fun K hK => ?_) AllReadyH.nil
  rw [if_pos (by rfl)]
  go_simp
  refine hK.out _ _ ((zJ1 HSK') _ ((zJ1 HE3).alloc _)) (fun hHeld => ?_)
  clear hK K HS0
  have HS0 := hHeld
  clear hHeld
  (try simp only [Act.put, List.setIfInBounds_toArray, List.set_cons_zero, List.set_cons_succ])
  refine wpAnyH_ready (rs := [7]) (by kernel_rfl) (by simp) ?_
  refine AllReadyH.cons (i := 7) rfl (fun K hK => ?_) AllReadyH.nil
  rw [if_pos (by rfl)]
  refine wJn enTy _ _ rfl w3.heap.size (.slice Al i cl) i (entC L) rfl (zJ1 HR3).own #[.int .u64 (x1 : Nat), .int .u64 (x2 : Nat)] _ rfl (by simp) rfl (by intro u hu; simp at hu; rcases hu with rfl | rfl <;> rfl) (by omega) (zJ1 HR3).sz ?_
  intro A6 c6 w8 ho6 hg6
  have Hg6 := zJ2 hg6
  have Ho6 := zJ2 ho6
  have HE6 : Hid (Blk w8 wr.heap.size 259 [.int .u64 (x1 : Nat), .int .u64 (x2 : Nat)]) := zJ2 ((hg6.block wr.heap.size (zJ1 HE3).lt (fun e => by have := (zJ1 Hlt) _ e.symm; omega)).trans (zJ1 HE3))
  have hR6 := (zJ1 HP) _ _ _ _ (zJ1 HR3) (zJ1 Hxx) ho6 hg6
  have HR6 := zJ2 hR6
  have v9 : ∃ u, w8.cell? ⟨g, 5, none⟩ = some u := ⟨_, (show Blk w8 g 255 _ from (hg6.block g (zJ1 HR3).ds.blk.lt (fun e => (zJ1 HR3).ds.notG _ e.symm rfl trivial)).trans (zJ1 HR3).ds.blk).cell (i := 5) rfl⟩
  have f9 : w8.frozen? ⟨g, 5, none⟩ = false := (show Blk w8 g 255 _ from (hg6.block g (zJ1 HR3).ds.blk.lt (fun e => (zJ1 HR3).ds.notG _ e.symm rfl trivial)).trans (zJ1 HR3).ds.blk).free 5
  obtain ⟨u9, v9⟩ := v9
  clear ho6 hg6 hR6
  refine hK.out _ _ ((zJ1 HSK') _ (zJ1 HE6)) (fun hHeld => ?_)
  clear hK K HS0
  have HS0 := hHeld
  clear hHeld
  (try simp only [Act.put, List.setIfInBounds_toArray, List.set_cons_zero, List.set_cons_succ])
  refine takeD (i := 8) (d := some 76) (v := ?_) rfl rfl (by kernel_rfl) (by kernel_rfl) (by kernel_rfl) (fun _ _ _ h => h) (Or.inl ⟨by rfl, ?y8⟩) HS0 ?_
  case y8 => (intro w' hSw; (try dsimp only at hSw); go_simp; (try with_reducible rfl))
  simp only [Act.put, List.setIfInBounds_toArray, List.set_cons_zero, List.set_cons_succ]
  refine takeD (i := 9) (d := some 77) (v := ?_) rfl rfl (by kernel_rfl) (by kernel_rfl) (by kernel_rfl) (fun _ _ _ h => h) (Or.inl ⟨by rfl, ?y9⟩) HS0 ?_
  case y9 => (intro w' hSw; (try dsimp only at hSw); go_simp; (try with_reducible rfl))
  simp only [Act.put, List.setIfInBounds_toArray, List.set_cons_zero, List.set_cons_succ]
  refine wpAnyH_ready (rs := [10]) (by kernel_rfl) (by simp) ?_
  refine AllReadyH.cons (i := 10) rfl (fun K hK => ?_) AllReadyH.nil
  rw [if_pos (by rfl)]
  go_simp
  refine hK.out _ _ ((zJ1 HSK') _ ((zJ1 HE6).other (p := ⟨g, 5, none⟩) (by dsimp only; omega) _)) (fun hHeld => ?_)
  clear hK K HS0
  have HS0 := hHeld
  clear hHeld
  (try simp only [Act.put, List.setIfInBounds_toArray, List.set_cons_zero, List.set_cons_succ])
  refine wpAnyH_done (by kernel_rfl) ?_ _
  clear v9 f9
  go_wp2_with fail
  go_roundg (N - (i + 1))
  case measure => omega
  case rel => exact ⟨i + 1, A6, c6, L ++ [(x1, x2)], rfl, by omega, by go_num, zJ1 HR6⟩
 case way6 =>
  rw [if_pos (by rfl)]
  go_simp
  refine hK.out _ _ ((zJ1 HSK') _ ((zJ1 HE3).alloc _)) (fun hHeld => ?_)
  clear hK K HS0
  have HS0 := hHeld
  clear hHeld
  (try simp only [Act.put, List.setIfInBounds_toArray, List.set_cons_zero, List.set_cons_succ])
  refine wpAnyH_ready (rs := [4]) (by kernel_rfl) (by simp) ?_
  refine AllReadyH.cons (i := 4) rfl (fun K hK => ?_) AllReadyH.nil
  rw [if_pos (by rfl)]
  go_simp
  refine hK.out _ _ ((zJ1 HSK') _ ((zJ1 HE3).alloc _)) (fun hHeld => ?_)
  clear hK K HS0
  have HS0 := hHeld
  clear hHeld
  (try simp only [Act.put, List.setIfInBounds_toArray, List.set_cons_zero, List.set_cons_succ])
  refine wpAnyH_ready (rs := [7]) (by kernel_rfl) (by simp) ?_
  refine AllReadyH.cons (i := 7) rfl (fun K hK => ?_) AllReadyH.nil
  rw [if_pos (by rfl)]
  refine wJn enTy _ _ rfl w3.heap.size (.slice Al i cl) i (entC L) rfl (zJ1 HR3).own #[.int .u64 (x1 : Nat), .int .u64 (x2 : Nat)] _ rfl (by simp) rfl (by intro u hu; simp at hu; rcases hu with rfl | rfl <;> rfl) (by omega) (zJ1 HR3).sz ?_
  intro A6 c6 w8 ho6 hg6
  have Hg6 := zJ2 hg6
  have Ho6 := zJ2 ho6
  have HE6 : Hid (Blk w8 wr.heap.size 259 [.int .u64 (x1 : Nat), .int .u64 (x2 : Nat)]) := zJ2 ((hg6.block wr.heap.size (zJ1 HE3).lt (fun e => by have := (zJ1 Hlt) _ e.symm; omega)).trans (zJ1 HE3))
  have hR6 := (zJ1 HP) _ _ _ _ (zJ1 HR3) (zJ1 Hxx) ho6 hg6
  have HR6 := zJ2 hR6
  have v9 : ∃ u, w8.cell? ⟨g, 5, none⟩ = some u := ⟨_, (show Blk w8 g 255 _ from (hg6.block g (zJ1 HR3).ds.blk.lt (fun e => (zJ1 HR3).ds.notG _ e.symm rfl trivial)).trans (zJ1 HR3).ds.blk).cell (i := 5) rfl⟩
  have f9 : w8.frozen? ⟨g, 5, none⟩ = false := (show Blk w8 g 255 _ from (hg6.block g (zJ1 HR3).ds.blk.lt (fun e => (zJ1 HR3).ds.notG _ e.symm rfl trivial)).trans (zJ1 HR3).ds.blk).free 5
  obtain ⟨u9, v9⟩ := v9
  clear ho6 hg6 hR6
  refine hK.out _ _ ((zJ1 HSK') _ (zJ1 HE6)) (fun hHeld => ?_)
  clear hK K HS0
  have HS0 := hHeld
  clear hHeld
  (try simp only [Act.put, List.setIfInBounds_toArray, List.set_cons_zero, List.set_cons_succ])
  refine takeD (i := 8) (d := some 76) (v := ?_) rfl rfl (by kernel_rfl) (by kernel_rfl) (by kernel_rfl) (fun _ _ _ h => h) (Or.inl ⟨by rfl, ?y8⟩) HS0 ?_
  case y8 => (intro w' hSw; (try dsimp only at hSw); go_simp; (try with_reducible rfl))
  simp only [Act.put, List.setIfInBounds_toArray, List.set_cons_zero, List.set_cons_succ]
  refine takeD (i := 9) (d := some 77) (v := ?_) rfl rfl (by kernel_rfl) (by kernel_rfl) (by kernel_rfl) (fun _ _ _ h => h) (Or.inl ⟨by rfl, ?y9⟩) HS0 ?_
  case y9 => (intro w' hSw; (try dsimp only at hSw); go_simp; (try with_reducible rfl))
  simp only [Act.put, List.setIfInBounds_toArray, List.set_cons_zero, List.set_cons_succ]
  refine wpAnyH_ready (rs := [10]) (by kernel_rfl) (by simp) ?_
  refine AllReadyH.cons (i := 10) rfl (fun K hK => ?_) AllReadyH.nil
  rw [if_pos (by rfl)]
  go_simp
  refine hK.out _ _ ((zJ1 HSK') _ ((zJ1 HE6).other (p := ⟨g, 5, none⟩) (by dsimp only; omega) _)) (fun hHeld => ?_)
  clear hK K HS0
  have HS0 := hHeld
  clear hHeld
  (try simp only [Act.put, List.setIfInBounds_toArray, List.set_cons_zero, List.set_cons_succ])
  refine wpAnyH_done (by kernel_rfl) ?_ _
  clear v9 f9
  go_wp2_with fail
  go_roundg (N - (i + 1))
  case measure => omega
  case rel => exact ⟨i + 1, A6, c6, L ++ [(x1, x2)], rfl, by omega, by go_num, zJ1 HR6⟩
end Go.Proofs.YtiiiblmhlhikkaaGreatDoor
namespace Go.Proofs.YtiiiblmhlhikkaaGreatDoor
namespace Dy
theorem symAt_cut {t b : List UInt8} {q m p : Nat} (h : p + 24 <= m) : symAt t (cut b q m) p = symAt t b (q + p) := by
 unfold symAt
 rw [zJs (p := q) (n := m) (q := p) (s := 4) (by omega), zJs (p := q) (n := m) (q := p + 4) (s := 1) (by omega), zJs (p := q) (n := m) (q := p + 8) (s := 8) (by omega), zJs (p := q) (n := m) (q := p + 16) (s := 8) (by omega), zJs (p := q) (n := m) (q := p + 6) (s := 2) (by omega)]
 simp only [Nat.add_assoc]
theorem relAt_cut {b : List UInt8} {q m p : Nat} (h : p + 24 <= m) : relAt (cut b q m) p = relAt b (q + p) := by
 unfold relAt
 rw [zJs (p := q) (n := m) (q := p) (s := 8) (by omega), zJs (p := q) (n := m) (q := p + 8) (s := 4) (by omega), zJs (p := q) (n := m) (q := p + 12) (s := 4) (by omega), zJs (p := q) (n := m) (q := p + 16) (s := 8) (by omega)]
 simp only [Nat.add_assoc]
theorem syms_rows {t b : List UInt8} {q : Nat} : ∀ n k, rowsOf (fun k => symAt t b (q + k * 24)) n k = symsFrom t b n (q + k * 24)
 | 0, k => rfl
 | n + 1, k => by
  rw [rowsOf, symsFrom, syms_rows n (k + 1), show q + (k + 1) * 24 = q + k * 24 + 24 from by omega]
  cases symAt t b (q + k * 24) <;> rfl
def relOf (m : Nat) (b : List UInt8) (p : Nat) : Option Rel := if m < Wd.num b (p + 12) 4 then none else some (relAt b p)
theorem rels_rows {m : Nat} {b : List UInt8} : ∀ n k, rowsOf (fun k => relOf m b (k * 24)) n k = relsFrom m b n (k * 24)
 | 0, k => rfl
 | n + 1, k => by
  rw [rowsOf, relsFrom, rels_rows n (k + 1), show (k + 1) * 24 = k * 24 + 24 from by omega]
  unfold relOf
  by_cases h : m < Wd.num b (k * 24 + 12) 4
  ·rw [if_pos h, if_pos h]
  ·rw [if_neg h, if_neg h]
theorem relOf_cut {m : Nat} {b : List UInt8} {k : Nat} : relOf m (cut b (k * 24) 24) 0 = relOf m b (k * 24) := by
 unfold relOf
 rw [zJs (p := k * 24) (n := 24) (q := 0 + 12) (s := 4) (by omega), relAt_cut (q := k * 24) (m := 24) (p := 0) (by omega), Nat.zero_add]
 rfl
end Dy
end Go.Proofs.YtiiiblmhlhikkaaGreatDoor
namespace Go.Proofs.YtiiiblmhlhikkaaGreatDoor
open Go.RowKit
structure OutM (V w : World) (g : Nat) (D : Dy.Dyn) (A : Option Addr) (n c : Nat) : Prop where
 bel : Below V.heap.size V w
 out : Blk w V.heap.size 54 [.slice A n c, .string D.soname, .string D.run, .slice none 0 0, .slice none 0 0]
 bd : Blk w (V.heap.size + 1) 188 [.pointer (some ⟨g, 0, none⟩)]
 bo : Blk w (V.heap.size + 1 + 1) 199 [.pointer (some ⟨V.heap.size, 0, none⟩)]
 row : w.ownsRow (V.heap.size + 3) 9 1 (.slice A n c) n (D.needed.map Value.string)
 n : D.needed.length = n
section
variable {V w w' : World} {g : Nat} {D : Dy.Dyn} {A : Option Addr} {n c : Nat}
theorem OutM.sz (h : OutM V w g D A n c) : V.heap.size + 3 <= w.heap.size := h.bo.lt
theorem OutM.belowSz (h : OutM V w g D A n c) (hb : Below w.heap.size w w') : OutM V w' g D A n c :=
 ⟨h.bel.trans (hb.mono h.bel.size), h.out.belowSz hb, h.bd.belowSz hb, h.bo.belowSz hb, own_below h.row hb, h.n⟩
theorem zJi {i k : Nat} {e : TypeId} {xs : List Value} {B size : Nat} (h : w.ownsRow B e size (.slice A n c) n xs) (hk : k < B) (u : Value) : (w.setCell ⟨k, i, none⟩ u).ownsRow B e size (.slice A n c) n xs := by
 obtain ⟨hl, hn | ⟨g', cap, cur, hv, hb, hg, h1, h2, h3, h4⟩⟩ := h
 ·exact ⟨hl, .inl hn⟩
 ·exact ⟨hl, .inr ⟨g', cap, cur, hv, hb, (heap_setCell_other _ _ _ _ (by dsimp only; omega)).trans hg, h1, h2, h3, h4⟩⟩
theorem OutM.setS (h : OutM V w g D A n c) (s : ByteArray) : OutM V (w.setCell ⟨V.heap.size, 1, none⟩ (.string s)) g { D with soname := s } A n c :=
 ⟨h.bel.setCell (p := ⟨V.heap.size, 1, none⟩) (Nat.le_refl _) _, h.out.set 1 _, h.bd.other (by dsimp only; omega) _, h.bo.other (by dsimp only; omega) _, zJi h.row (by omega) _, h.n⟩
theorem OutM.setR (h : OutM V w g D A n c) (s : ByteArray) : OutM V (w.setCell ⟨V.heap.size, 2, none⟩ (.string s)) g { D with run := s } A n c :=
 ⟨h.bel.setCell (p := ⟨V.heap.size, 2, none⟩) (Nat.le_refl _) _, h.out.set 2 _, h.bd.other (by dsimp only; omega) _, h.bo.other (by dsimp only; omega) _, zJi h.row (by omega) _, h.n⟩
theorem OutM.notO (h : OutM V w g D A n c) {k : Nat} (hk : k < V.heap.size + 3) : some k ≠ (Value.slice A n c).ownBlock := by
 intro e
 have := (h.row.lt k e.symm).1
 omega
theorem OutM.grown (h : OutM V w g D A n c) (hg : w.grownBy w' (Value.slice A n c).ownBlock) : Below V.heap.size V w' /\ Blk w' V.heap.size 54 [.slice A n c, .string D.soname, .string D.run, .slice none 0 0, .slice none 0 0] /\ Blk w' (V.heap.size + 1) 188 [.pointer (some ⟨g, 0, none⟩)] /\ Blk w' (V.heap.size + 1 + 1) 199 [.pointer (some ⟨V.heap.size, 0, none⟩)] := by
 have hs := h.sz
 exact ⟨h.bel.grown hg h.bel.size (fun k hk => by have := (h.row.lt k hk).1; omega), (hg.block _ (by omega) (h.notO (by omega))).trans h.out, (hg.block _ (by omega) (h.notO (by omega))).trans h.bd, (hg.block _ (by omega) (h.notO (by omega))).trans h.bo⟩
theorem OutM.push {A' : Option Addr} {c' : Nat} (h : OutM V w g D A n c) (s : ByteArray) (ho : w'.ownsRow (V.heap.size + 3) 9 1 (.slice A' (n + 1) c') (n + 1) (D.needed.map Value.string ++ [.string s])) (hg : w.grownBy w' (Value.slice A n c).ownBlock) :
  OutM V (w'.setCell ⟨V.heap.size, 0, none⟩ (.slice A' (n + 1) c')) g { D with needed := D.needed ++ [s] } A' (n + 1) c' := by
 obtain ⟨h1, h2, h3, h4⟩ := h.grown hg
 refine ⟨h1.setCell (p := ⟨V.heap.size, 0, none⟩) (Nat.le_refl _) _, h2.set 0 _, h3.other (by dsimp only; omega) _, h4.other (by dsimp only; omega) _, ?_, by simp [h.n]⟩
 have : (D.needed ++ [s]).map Value.string = D.needed.map Value.string ++ [.string s] := by simp
 dsimp only
 rw [this]
 exact zJi ho (by omega) _
end
theorem putS_any (V w : World) (g n c : Nat) (D : Dy.Dyn) (A : Option Addr) (s : ByteArray) (h : OutM V w g D A n c) :
  Calls Tryz.prog 144 #[.string s, .pointer (some ⟨V.heap.size + 1 + 1, 0, none⟩)] w fun e w' => e = .returned (.tuple #[]) /\ OutM V w' g { D with soname := s } A n c := by
 have x0 := h.bo.cell (i := 0) rfl
 have y0 := h.out.cell (i := 1) rfl
 have y1 := h.out.free 1
 have H := zJ2 (h.setS s)
 clear h
 go_enter Tryz.func144, Tryz.ntmps144
 go_wp2_with fail
 go_end0
 exact ⟨rfl, zJ1 H⟩
theorem putR_any (V w : World) (g n c : Nat) (D : Dy.Dyn) (A : Option Addr) (s : ByteArray) (h : OutM V w g D A n c) :
  Calls Tryz.prog 145 #[.string s, .pointer (some ⟨V.heap.size + 1 + 1, 0, none⟩)] w fun e w' => e = .returned (.tuple #[]) /\ OutM V w' g { D with run := s } A n c := by
 have x0 := h.bo.cell (i := 0) rfl
 have y0 := h.out.cell (i := 2) rfl
 have y1 := h.out.free 2
 have H := zJ2 (h.setR s)
 clear h
 go_enter Tryz.func145, Tryz.ntmps145
 go_wp2_with fail
 go_end0
 exact ⟨rfl, zJ1 H⟩
set_option maxRecDepth 100000 in
set_option maxHeartbeats 2000000 in
theorem putN_any (V w : World) (g n c : Nat) (D : Dy.Dyn) (A : Option Addr) (s : ByteArray) (h : OutM V w g D A n c) (hn : n <= 4294967296) :
  Calls Tryz.prog 143 #[.string s, .pointer (some ⟨V.heap.size + 1 + 1, 0, none⟩)] w fun e w' => e = .returned (.tuple #[]) /\ ∃ A' c', OutM V w' g { D with needed := D.needed ++ [s] } A' (n + 1) c' := by
 have H := zJ2 h
 have HC : Hid (∀ w' : World, Blk w' (V.heap.size + 1 + 1) 199 [.pointer (some ⟨V.heap.size, 0, none⟩)] -> w'.cell? ⟨V.heap.size + 1 + 1, 0, none⟩ = some (.pointer (some ⟨V.heap.size, 0, none⟩))) := zJ2 (fun w' h => h.cell (i := 0) rfl)
 have Hd := zJ2 (h.belowSz (zJ3 (Below.refl _ _)))
 have y0 := (h.belowSz (zJ3 (Below.refl _ _))).out.cell (i := 0) rfl
 have hsz := h.sz
 clear h
 go_enter Tryz.func143, Tryz.ntmps143
 go_wp2_with fail
 refine wp_region_noPanic ?_
 refine wp_region_held_drew (S := fun w' => w'.cell? ⟨V.heap.size + 1 + 1, 0, none⟩ = some (.pointer (some ⟨V.heap.size, 0, none⟩))) (by kernel_rfl) ((zJ1 HC) _ (zJ1 Hd).bo) (fun HS0 => ?_)
 refine takeD (i := 0) (d := some 3) (v := ?_) rfl rfl (by kernel_rfl) (by kernel_rfl) (by kernel_rfl) (fun _ _ _ h => h) (Or.inl ⟨by rfl, ?y0⟩) HS0 ?_
 case y0 => (intro w' hSw; (try dsimp only at hSw); go_simp; (try with_reducible rfl))
 simp only [Act.put, List.setIfInBounds_toArray, List.set_cons_zero, List.set_cons_succ]
 refine takeD (i := 1) (d := some 4) (v := ?_) rfl rfl (by kernel_rfl) (by kernel_rfl) (by kernel_rfl) (fun _ _ _ h => h) (Or.inl ⟨by rfl, ?y1⟩) HS0 ?_
 case y1 => (intro w' hSw; (try dsimp only at hSw); go_simp; (try with_reducible rfl))
 simp only [Act.put, List.setIfInBounds_toArray, List.set_cons_zero, List.set_cons_succ]
 refine takeD (i := 2) (d := some 5) (v := ?_) rfl rfl (by kernel_rfl) (by kernel_rfl) (by kernel_rfl) (fun _ _ _ h => h) (Or.inl ⟨by rfl, ?y2⟩) HS0 ?_
 case y2 => (intro w' hSw; (try dsimp only at hSw); go_simp; (try with_reducible rfl))
 simp only [Act.put, List.setIfInBounds_toArray, List.set_cons_zero, List.set_cons_succ]
 refine takeD (i := 3) (d := some 6) (v := ?_) rfl rfl (by kernel_rfl) (by kernel_rfl) (by kernel_rfl) (fun _ _ _ h => h) (Or.inl ⟨by rfl, ?y3⟩) HS0 ?_
 case y3 => (intro w' hSw; (try dsimp only at hSw); go_simp; (try with_reducible rfl))
 simp only [Act.put, List.setIfInBounds_toArray, List.set_cons_zero, List.set_cons_succ]
 refine takeD (i := 5) (d := some 8) (v := ?_) rfl rfl (by kernel_rfl) (by kernel_rfl) (by kernel_rfl) (fun _ _ _ h => h) (Or.inl ⟨by rfl, ?y5⟩) HS0 ?_
 case y5 => (intro w' hSw; (try dsimp only at hSw); go_simp; (try with_reducible rfl))
 simp only [Act.put, List.setIfInBounds_toArray, List.set_cons_zero, List.set_cons_succ]
 refine wpAnyH_ready (rs := [4, 6]) (by kernel_rfl) (by simp) ?_
 refine AllReadyH.cons (i := 4) rfl (fun K hK => ?way4) (AllReadyH.cons (i := 6) rfl (fun K hK => ?way6) AllReadyH.nil)
 case way4 =>
  rw [if_pos (by rfl)]
  go_simp
  refine hK.out _ _ ((zJ1 HC) _ (zJ1 Hd).bo) (fun hHeld => ?_)
  clear hK K HS0
  have HS0 := hHeld
  clear hHeld
  (try simp only [Act.put, List.setIfInBounds_toArray, List.set_cons_zero, List.set_cons_succ])
  refine wpAnyH_ready (rs := [6]) (by kernel_rfl) (by simp) ?_
  refine AllReadyH.cons (i := 6) rfl (fun K hK => ?_) AllReadyH.nil
  rw [if_pos (by rfl)]
  go_simp
  refine hK.out _ _ ((zJ1 HC) _ ((zJ1 Hd).bo.alloc _)) (fun hHeld => ?_)
  clear hK K HS0
  have HS0 := hHeld
  clear hHeld
  (try simp only [Act.put, List.setIfInBounds_toArray, List.set_cons_zero, List.set_cons_succ])
  refine wpAnyH_ready (rs := [7]) (by kernel_rfl) (by simp) ?_
  refine AllReadyH.cons (i := 7) rfl (fun K hK => ?_) AllReadyH.nil
  rw [if_pos (by rfl)]
  refine wJn strTy _ _ rfl (V.heap.size + 3) (.slice A n c) n (D.needed.map Value.string) rfl (zJ1 Hd).row #[.string s] _ rfl (by simp) rfl (by intro u hu; simp at hu; rcases hu with rfl; rfl) (by omega) (by simp; omega) ?_
  intro A6 c6 w8 ho6 hg6
  have HP := zJ2 ((zJ1 Hd).push s ho6 hg6)
  have HG := zJ2 ((zJ1 Hd).grown hg6)
  have z0 := (zJ1 HG).2.1.cell (i := 0) rfl
  have z1 := (zJ1 HG).2.1.free 0
  clear ho6 hg6
  refine hK.out _ _ ((zJ1 HC) _ (zJ1 HG).2.2.2) (fun hHeld => ?_)
  clear hK K HS0
  have HS0 := hHeld
  clear hHeld
  (try simp only [Act.put, List.setIfInBounds_toArray, List.set_cons_zero, List.set_cons_succ])
  refine takeD (i := 8) (d := some 11) (v := ?_) rfl rfl (by kernel_rfl) (by kernel_rfl) (by kernel_rfl) (fun _ _ _ h => h) (Or.inl ⟨by rfl, ?y8⟩) HS0 ?_
  case y8 => (intro w' hSw; (try dsimp only at hSw); go_simp; (try with_reducible rfl))
  simp only [Act.put, List.setIfInBounds_toArray, List.set_cons_zero, List.set_cons_succ]
  refine takeD (i := 9) (d := some 12) (v := ?_) rfl rfl (by kernel_rfl) (by kernel_rfl) (by kernel_rfl) (fun _ _ _ h => h) (Or.inl ⟨by rfl, ?y9⟩) HS0 ?_
  case y9 => (intro w' hSw; (try dsimp only at hSw); go_simp; (try with_reducible rfl))
  simp only [Act.put, List.setIfInBounds_toArray, List.set_cons_zero, List.set_cons_succ]
  refine wpAnyH_ready (rs := [10]) (by kernel_rfl) (by simp) ?_
  refine AllReadyH.cons (i := 10) rfl (fun K hK => ?_) AllReadyH.nil
  rw [if_pos (by rfl)]
  go_simp
  refine hK.out _ _ ((zJ1 HC) _ ((zJ1 HP).bo)) (fun hHeld => ?_)
  clear hK K HS0
  have HS0 := hHeld
  clear hHeld
  (try simp only [Act.put, List.setIfInBounds_toArray, List.set_cons_zero, List.set_cons_succ])
  refine wpAnyH_done (by kernel_rfl) ?_ _
  refine NoPanic.normal ?_
  go_wp2_with fail
  go_end0
  exact ⟨rfl, A6, c6, zJ1 HP⟩
 case way6 =>
  rw [if_pos (by rfl)]
  go_simp
  refine hK.out _ _ ((zJ1 HC) _ ((zJ1 Hd).bo.alloc _)) (fun hHeld => ?_)
  clear hK K HS0
  have HS0 := hHeld
  clear hHeld
  (try simp only [Act.put, List.setIfInBounds_toArray, List.set_cons_zero, List.set_cons_succ])
  have y5 := ((zJ1 H).out.alloc (.cells #[.string s] 9)).cell (i := 0) rfl
  refine wpAnyH_ready (rs := [4]) (by kernel_rfl) (by simp) ?_
  refine AllReadyH.cons (i := 4) rfl (fun K hK => ?_) AllReadyH.nil
  rw [if_pos (by rfl)]
  go_simp
  refine hK.out _ _ ((zJ1 HC) _ ((zJ1 Hd).bo.alloc _)) (fun hHeld => ?_)
  clear hK K HS0
  have HS0 := hHeld
  clear hHeld
  (try simp only [Act.put, List.setIfInBounds_toArray, List.set_cons_zero, List.set_cons_succ])
  refine wpAnyH_ready (rs := [7]) (by kernel_rfl) (by simp) ?_
  refine AllReadyH.cons (i := 7) rfl (fun K hK => ?_) AllReadyH.nil
  rw [if_pos (by rfl)]
  refine wJn strTy _ _ rfl (V.heap.size + 3) (.slice A n c) n (D.needed.map Value.string) rfl (zJ1 Hd).row #[.string s] _ rfl (by simp) rfl (by intro u hu; simp at hu; rcases hu with rfl; rfl) (by omega) (by simp; omega) ?_
  intro A6 c6 w8 ho6 hg6
  have HP := zJ2 ((zJ1 Hd).push s ho6 hg6)
  have HG := zJ2 ((zJ1 Hd).grown hg6)
  have z0 := (zJ1 HG).2.1.cell (i := 0) rfl
  have z1 := (zJ1 HG).2.1.free 0
  clear ho6 hg6
  refine hK.out _ _ ((zJ1 HC) _ (zJ1 HG).2.2.2) (fun hHeld => ?_)
  clear hK K HS0
  have HS0 := hHeld
  clear hHeld
  (try simp only [Act.put, List.setIfInBounds_toArray, List.set_cons_zero, List.set_cons_succ])
  refine takeD (i := 8) (d := some 11) (v := ?_) rfl rfl (by kernel_rfl) (by kernel_rfl) (by kernel_rfl) (fun _ _ _ h => h) (Or.inl ⟨by rfl, ?y8⟩) HS0 ?_
  case y8 => (intro w' hSw; (try dsimp only at hSw); go_simp; (try with_reducible rfl))
  simp only [Act.put, List.setIfInBounds_toArray, List.set_cons_zero, List.set_cons_succ]
  refine takeD (i := 9) (d := some 12) (v := ?_) rfl rfl (by kernel_rfl) (by kernel_rfl) (by kernel_rfl) (fun _ _ _ h => h) (Or.inl ⟨by rfl, ?y9⟩) HS0 ?_
  case y9 => (intro w' hSw; (try dsimp only at hSw); go_simp; (try with_reducible rfl))
  simp only [Act.put, List.setIfInBounds_toArray, List.set_cons_zero, List.set_cons_succ]
  refine wpAnyH_ready (rs := [10]) (by kernel_rfl) (by simp) ?_
  refine AllReadyH.cons (i := 10) rfl (fun K hK => ?_) AllReadyH.nil
  rw [if_pos (by rfl)]
  go_simp
  refine hK.out _ _ ((zJ1 HC) _ ((zJ1 HP).bo)) (fun hHeld => ?_)
  clear hK K HS0
  have HS0 := hHeld
  clear hHeld
  (try simp only [Act.put, List.setIfInBounds_toArray, List.set_cons_zero, List.set_cons_succ])
  refine wpAnyH_done (by kernel_rfl) ?_ _
  refine NoPanic.normal ?_
  go_wp2_with fail
  go_end0
  exact ⟨rfl, A6, c6, zJ1 HP⟩
set_option maxRecDepth 100000 in
theorem putP_any (V w : World) (g n c : Nat) (D : Dy.Dyn) (A : Option Addr) (s : ByteArray) (B : Nat) (d : Ds) (h : OutM V w g D A n c) (hd : DsM V B g d d.L) :
  Calls Tryz.prog 146 #[.string s, .pointer (some ⟨V.heap.size + 1, 0, none⟩), .pointer (some ⟨V.heap.size + 1 + 1, 0, none⟩)] w fun e w' => e = .returned (.tuple #[]) /\ OutM V w' g (if (Dy.val d.L 29).isSome = false then { D with run := s } else D) A n c := by
 have hd2 := hd.belowSz h.bel
 have l1 := (yJn hd2 (t := 29) rfl).1
 have x0 := h.bd.cell (i := 0) rfl
 have x1 := h.bo.cell (i := 0) rfl
 have x6 := hd2.cells.2.2.2.2.2.2
 have y0 := h.out.cell (i := 2) rfl
 have y1 := h.out.free 2
 have H := zJ2 (h.setR s)
 have H0 := zJ2 h
 obtain ⟨q, hq⟩ : ∃ q, (Dy.val d.L 29).isSome = q := ⟨_, rfl⟩
 obtain ⟨v, hv⟩ : ∃ q, (Dy.val d.L 29).getD 0 = q := ⟨_, rfl⟩
 obtain ⟨gm, hgm⟩ : ∃ q, d.gm = q := ⟨_, rfl⟩
 rw [hq, hv, hgm] at l1
 have l2 : (Instr.lookup 252 (.map (some gm)) (.int .u64 29) true).run Tryz.prog w = .ok (.tuple #[.int .u64 (v : Nat), .bool q]) w := l1
 rw [hgm] at x6
 rw [hq]
 clear hq hv hgm h hd hd2 l1
 cases q
 case true =>
  go_enter Tryz.func146, Tryz.ntmps146
  go_wp2_with fail
  go_end0
  exact ⟨rfl, by simpa using zJ1 H0⟩
 go_enter Tryz.func146, Tryz.ntmps146
 go_wp2_with fail
 go_end0
 exact ⟨rfl, by simpa using zJ1 H⟩
open Go.RowKit
namespace Dy
theorem texts_skip {t : List UInt8} {run : Bool} {x1 x2 : Nat} {r : List (Nat × Nat)} {D : Dyn} (h : ¬ (x1 = 1 \/ x1 = 14 \/ x1 = 15 \/ x1 = 29)) : texts t run ((x1, x2) :: r) D = texts t run r D := by
 rw [texts, if_neg h]
theorem texts_no {t : List UInt8} {run : Bool} {x1 x2 : Nat} {r : List (Nat × Nat)} {D : Dyn} (h : x1 = 1 \/ x1 = 14 \/ x1 = 15 \/ x1 = 29) (ht : text t x2 = none) : texts t run ((x1, x2) :: r) D = none := by
 rw [texts, if_pos h, ht]
theorem texts_yes {t : List UInt8} {run : Bool} {x1 x2 : Nat} {r : List (Nat × Nat)} {D : Dyn} {s : ByteArray} (h : x1 = 1 \/ x1 = 14 \/ x1 = 15 \/ x1 = 29) (ht : text t x2 = some s) : texts t run ((x1, x2) :: r) D = texts t run r (if x1 = 1 then { D with needed := D.needed ++ [s] } else if x1 = 14 then { D with soname := s } else if x1 = 29 \/ run = false then { D with run := s } else D) := by
 rw [texts, if_pos h, ht]
end Dy
def TextsE (o : Option Dy.Dyn) (V : World) (g : Nat) (e : Ending) (w' : World) : Prop :=
 ∃ q, e = .returned (.bool q) /\ ((q = false /\ o = none) \/ (q = true /\ ∃ D A n c, o = some D /\ OutM V w' g D A n c)) /\ Below V.heap.size V w'
set_option maxRecDepth 100000 in
set_option maxHeartbeats 4000000 in
theorem texts_any (V : World) (B g : Nat) (d : Ds) (At : Option Addr) (mt ct : Nat) (t : List UInt8) (hd : DsM V B g d d.L) (ho : DsOk d) (hkm : d.k <= 4294967296) (hT : Rd V B 1 At mt (bys t)) (hmt : mt <= 4294967296) (hmc : mt <= ct) :
  Calls Tryz.prog 92 #[.pointer (some ⟨g, 0, none⟩), .slice At mt ct, .pointer (some ⟨V.heap.size, 0, none⟩)] (V.alloc (.cells #[.slice none 0 0, .string ⟨#[]⟩, .string ⟨#[]⟩, .slice none 0 0, .slice none 0 0] 54)) (TextsE (Dy.texts t (Dy.val d.L 29).isSome d.L Dy.zero) V g) := by
 have hsz : B <= V.heap.size := hd.sz
 have KT := zJ2 (fun (p : Nat) (hp : p < 18446744073709551616) w' (hb : Below V.heap.size V w') => text_any At mt ct B t p w' (Nat.le_trans hsz hb.size) (hT.below (hb.mono hsz)) hmt hmc hp)
 have KP := zJ2 (fun (w : World) (n c : Nat) (D : Dy.Dyn) (A : Option Addr) (s : ByteArray) (h : OutM V w g D A n c) => putP_any V w g n c D A s B d h hd)
 have hlen := hd.len
 have hlt64 := fun (j : Nat) (x : Nat × Nat) (h : d.L[j]? = some x) => ho.ent x (List.mem_of_getElem? h)
 obtain ⟨kk, hkk⟩ : ∃ k, d.k = k := ⟨_, rfl⟩
 obtain ⟨Al, hAl⟩ : ∃ k, d.Al = k := ⟨_, rfl⟩
 obtain ⟨cl, hcl⟩ : ∃ k, d.cl = k := ⟨_, rfl⟩
 have hcell : ∀ wr, Below V.heap.size V wr -> wr.cell? ⟨g, 5, none⟩ = some (.slice Al kk cl) := by
  intro wr h
  have h5 := (hd.belowSz h).cells.2.2.2.2.2.1
  rw [hAl, hkk, hcl] at h5
  exact h5
 have hents : ∀ wr j e, Below V.heap.size V wr -> d.L[j]? = some e -> ∃ b off, Al = some ⟨b, off, none⟩ /\ wr.cell? ⟨b, off + j * 2, none⟩ = some (.int .u64 (e.1 : Nat)) /\ wr.cell? ⟨b, off + j * 2 + 1, none⟩ = some (.int .u64 (e.2 : Nat)) := by
  intro wr j e h he
  obtain ⟨b, off, h1, _, h2⟩ := ent_at (Rd.of_own (hd.belowSz h).list) he
  exact ⟨b, off, hAl ▸ h1, h2⟩
 rw [hkk] at hlen hkm
 obtain ⟨run, hrun⟩ : ∃ k, (Dy.val d.L 29).isSome = k := ⟨_, rfl⟩
 have kp := zJ1 KP
 rw [hrun] at kp ⊢
 have KP2 := zJ2 kp
 obtain ⟨L, hL⟩ : ∃ k, d.L = k := ⟨_, rfl⟩
 rw [hL] at hlen hlt64 hents ⊢
 have W0 : Hid (OutM V (((V.alloc (.cells #[.slice none 0 0, .string ⟨#[]⟩, .string ⟨#[]⟩, .slice none 0 0, .slice none 0 0] 54)).alloc (.cells #[.pointer (some ⟨g, 0, none⟩)] 188)).alloc (.cells #[.pointer (some ⟨V.heap.size, 0, none⟩)] 199)) g Dy.zero none 0 0) := zJ2 (by
  have e1 : (V.alloc (.cells #[.slice none 0 0, .string ⟨#[]⟩, .string ⟨#[]⟩, .slice none 0 0, .slice none 0 0] 54)).heap.size = V.heap.size + 1 := by simp
  have e2 : ((V.alloc (.cells #[.slice none 0 0, .string ⟨#[]⟩, .string ⟨#[]⟩, .slice none 0 0, .slice none 0 0] 54)).alloc (.cells #[.pointer (some ⟨g, 0, none⟩)] 188)).heap.size = V.heap.size + 1 + 1 := by simp
  have h1 := Blk.new V 54 [.slice none 0 0, .string ⟨#[]⟩, .string ⟨#[]⟩, .slice none 0 0, .slice none 0 0]
  have h2 := Blk.new (V.alloc (.cells #[.slice none 0 0, .string ⟨#[]⟩, .string ⟨#[]⟩, .slice none 0 0, .slice none 0 0] 54)) 188 [.pointer (some ⟨g, 0, none⟩)]
  have h3 := Blk.new ((V.alloc (.cells #[.slice none 0 0, .string ⟨#[]⟩, .string ⟨#[]⟩, .slice none 0 0, .slice none 0 0] 54)).alloc (.cells #[.pointer (some ⟨g, 0, none⟩)] 188)) 199 [.pointer (some ⟨V.heap.size, 0, none⟩)]
  rw [e1] at h2
  rw [e2] at h3
  exact ⟨(((Below.refl _ _).alloc (Nat.le_refl _) _).alloc (by simp) _).alloc (by simp; omega) _, (h1.alloc _).alloc _, h2.alloc _, h3, World.ownsRow_nil _ _ _ _, rfl⟩)
 have Hlen := zJ2 hlen
 have Hcell := zJ2 hcell
 have Hents := zJ2 hents
 have H64 := zJ2 hlt64
 have hgs : g < V.heap.size := hd.blk.lt
 clear hlen hcell hents hlt64 hd ho hT hkk hAl hcl KP kp hrun hL
 go_enter Tryz.func92, Tryz.ntmps92
 have x3 := (zJ1 W0).bd.cell (i := 0) rfl
 have x5 := (zJ1 Hcell) _ (zJ1 W0).bel
 go_wp2_with fail
 clear x3 x5
 go_loopg [17] kk (fun gk iv wr => ∃ (j : Nat) (D : Dy.Dyn) (A : Option Addr) (n c : Nat), gk = kk - j /\ j <= kk /\ n <= j /\ iv = .int .i64 j /\ OutM V wr g D A n c /\ Dy.texts t run L Dy.zero = Dy.texts t run (L.drop j) D)
 case atStart => exact ⟨0, Dy.zero, none, 0, 0, by omega, Nat.zero_le _, Nat.le_refl _, rfl, zJ1 W0, rfl⟩
 case round =>
 obtain ⟨j, D, A, n, c, hgk, hj, hnj, rfl, hO, hT⟩ := hrel
 have HO := zJ2 hO
 have HT := zJ2 hT
 clear hO hT W0
 by_cases hlt : j < kk
 case neg =>
  have ige : ¬ (j : Int) < (kk : Int) := by omega
  have Hend : Hid (Dy.texts t run L Dy.zero = some D) := zJ2 (by rw [zJ1 HT, List.drop_of_length_le (by rw [<- zJ1 Hlen]; omega)]; rfl)
  clear HT KT KP2 Hcell Hents H64
  go_wp2_with fail
  go_ret
  exact ⟨true, rfl, .inr ⟨rfl, D, A, n, c, zJ1 Hend, zJ1 HO⟩, (zJ1 HO).bel⟩
 have ilt : (j : Int) < (kk : Int) := by omega
 obtain ⟨⟨y1, x2⟩, hx⟩ : ∃ x, L[j]? = some x := ⟨_, List.getElem?_eq_getElem (by rw [<- zJ1 Hlen]; exact hlt)⟩
 have hx2 : x2 < 18446744073709551616 := ((zJ1 H64) j _ hx).2
 have hT := zJ1 HT
 rw [List.drop_eq_getElem_cons (by rw [<- zJ1 Hlen]; exact hlt), show L[j]'(by rw [<- zJ1 Hlen]; exact hlt) = (y1, x2) from (List.getElem?_eq_some_iff.1 hx).2] at hT
 obtain ⟨b9, o9, hA9, q0, q1⟩ := (zJ1 Hents) wr j _ (zJ1 HO).bel hx
 subst hA9
 dsimp only at q0 q1
 obtain ⟨xi, hxi⟩ : ∃ x : Int, (y1 : Int) = x := ⟨_, rfl⟩
 rw [hxi] at q0
 have Hxi := zJ2 hxi
 have HT2 := zJ2 hT
 have HO1 : Hid (OutM V (wr.alloc (.cells #[.int .u64 xi, .int .u64 (x2 : Nat)] 259)) g D A n c) := zJ2 ((zJ1 HO).belowSz ((Below.refl _ _).alloc (Nat.le_refl _) _))
 have HE1 : Hid (Blk (wr.alloc (.cells #[.int .u64 xi, .int .u64 (x2 : Nat)] 259)) wr.heap.size 259 [.int .u64 xi, .int .u64 (x2 : Nat)]) := zJ2 (Blk.new wr 259 [.int .u64 xi, .int .u64 (x2 : Nat)])
 clear hxi hT HT hx HO
 by_cases h1 : xi = 1
 ·subst h1
  have hy1 : y1 = 1 := by have := zJ1 Hxi; omega
  have HNo : Hid (Dy.text t x2 = none -> Dy.texts t run L Dy.zero = none) := zJ2 (fun h => by rw [zJ1 HT2, Dy.texts_no (.inl hy1) h])
  have HYes : Hid (∀ nm, Dy.text t x2 = some nm -> Dy.texts t run L Dy.zero = Dy.texts t run (L.drop (j + 1)) { D with needed := D.needed ++ [nm] }) := zJ2 (fun nm h => by rw [zJ1 HT2, Dy.texts_yes (.inl hy1) h, hy1]; simp)
  have K1 := zJ2 ((zJ1 KT) x2 hx2 _ (zJ1 HO1).bel)
  clear HT2 Hxi hy1 Hcell Hents H64
  go_wp2_with fail
  refine (zJ1 K1).mono ?_
  rintro e w5 ⟨nm, tb, rfl, htx, hb5⟩
  have HO5 := zJ2 ((zJ1 HO1).belowSz hb5)
  have Htx := zJ2 htx
  clear htx hb5 K1 HO1 HE1 q0 q1
  cases tb
  ·have Hr : Hid (Dy.texts t run L Dy.zero = none) := zJ2 (by
    rcases zJ1 Htx with ⟨h0, -⟩ | ⟨-, h0⟩
    ·cases h0
    ·exact (zJ1 HNo) h0)
   clear Htx HNo HYes KT KP2
   go_wp2_with fail
   go_ret
   exact ⟨false, rfl, .inl ⟨rfl, zJ1 Hr⟩, (zJ1 HO5).bel⟩
  have Hr : Hid (Dy.texts t run L Dy.zero = Dy.texts t run (L.drop (j + 1)) { D with needed := D.needed ++ [nm] }) := zJ2 (by
   rcases zJ1 Htx with ⟨-, h0⟩ | ⟨h0, -⟩
   ·exact (zJ1 HYes) nm h0
   ·cases h0)
  clear Htx HNo HYes
  have K2 := zJ2 (putN_any V w5 g n c D A nm (zJ1 HO5) (by omega))
  clear HO5
  go_wp2_with fail
  refine (zJ1 K2).mono ?_
  rintro e w6 ⟨rfl, A', c', hO6⟩
  have HO6 := zJ2 hO6
  clear hO6 K2
  go_wp2_with fail
  go_roundg (kk - (j + 1))
  case measure => omega
  case rel => exact ⟨j + 1, _, _, _, _, rfl, by omega, Nat.succ_le_succ hnj, by go_num, zJ1 HO6, zJ1 Hr⟩
 by_cases h14 : xi = 14
 ·subst h14
  have hy1 : y1 = 14 := by have := zJ1 Hxi; omega
  have HNo : Hid (Dy.text t x2 = none -> Dy.texts t run L Dy.zero = none) := zJ2 (fun h => by rw [zJ1 HT2, Dy.texts_no (.inr (.inl hy1)) h])
  have HYes : Hid (∀ nm, Dy.text t x2 = some nm -> Dy.texts t run L Dy.zero = Dy.texts t run (L.drop (j + 1)) { D with soname := nm }) := zJ2 (fun nm h => by rw [zJ1 HT2, Dy.texts_yes (.inr (.inl hy1)) h, hy1]; simp)
  have K1 := zJ2 ((zJ1 KT) x2 hx2 _ (zJ1 HO1).bel)
  clear HT2 Hxi hy1 Hcell Hents H64
  go_wp2_with fail
  refine (zJ1 K1).mono ?_
  rintro e w5 ⟨nm, tb, rfl, htx, hb5⟩
  have HO5 := zJ2 ((zJ1 HO1).belowSz hb5)
  have Htx := zJ2 htx
  clear htx hb5 K1 HO1 HE1 q0 q1
  cases tb
  ·have Hr : Hid (Dy.texts t run L Dy.zero = none) := zJ2 (by
    rcases zJ1 Htx with ⟨h0, -⟩ | ⟨-, h0⟩
    ·cases h0
    ·exact (zJ1 HNo) h0)
   clear Htx HNo HYes KT KP2
   go_wp2_with fail
   go_ret
   exact ⟨false, rfl, .inl ⟨rfl, zJ1 Hr⟩, (zJ1 HO5).bel⟩
  have Hr : Hid (Dy.texts t run L Dy.zero = Dy.texts t run (L.drop (j + 1)) { D with soname := nm }) := zJ2 (by
   rcases zJ1 Htx with ⟨-, h0⟩ | ⟨h0, -⟩
   ·exact (zJ1 HYes) nm h0
   ·cases h0)
  clear Htx HNo HYes
  have K2 := zJ2 (putS_any V w5 g n c D A nm (zJ1 HO5))
  clear HO5
  go_wp2_with fail
  refine (zJ1 K2).mono ?_
  rintro e w6 ⟨rfl, hO6⟩
  have HO6 := zJ2 hO6
  clear hO6 K2
  go_wp2_with fail
  go_roundg (kk - (j + 1))
  case measure => omega
  case rel => exact ⟨j + 1, _, _, _, _, rfl, by omega, by omega, by go_num, zJ1 HO6, zJ1 Hr⟩
 by_cases h29 : xi = 29
 ·subst h29
  have hy1 : y1 = 29 := by have := zJ1 Hxi; omega
  have HNo : Hid (Dy.text t x2 = none -> Dy.texts t run L Dy.zero = none) := zJ2 (fun h => by rw [zJ1 HT2, Dy.texts_no (.inr (.inr (.inr hy1))) h])
  have HYes : Hid (∀ nm, Dy.text t x2 = some nm -> Dy.texts t run L Dy.zero = Dy.texts t run (L.drop (j + 1)) { D with run := nm }) := zJ2 (fun nm h => by rw [zJ1 HT2, Dy.texts_yes (.inr (.inr (.inr hy1))) h, hy1]; simp)
  have K1 := zJ2 ((zJ1 KT) x2 hx2 _ (zJ1 HO1).bel)
  clear HT2 Hxi hy1 Hcell Hents H64
  go_wp2_with fail
  refine (zJ1 K1).mono ?_
  rintro e w5 ⟨nm, tb, rfl, htx, hb5⟩
  have HO5 := zJ2 ((zJ1 HO1).belowSz hb5)
  have Htx := zJ2 htx
  clear htx hb5 K1 HO1 HE1 q0 q1
  cases tb
  ·have Hr : Hid (Dy.texts t run L Dy.zero = none) := zJ2 (by
    rcases zJ1 Htx with ⟨h0, -⟩ | ⟨-, h0⟩
    ·cases h0
    ·exact (zJ1 HNo) h0)
   clear Htx HNo HYes KT KP2
   go_wp2_with fail
   go_ret
   exact ⟨false, rfl, .inl ⟨rfl, zJ1 Hr⟩, (zJ1 HO5).bel⟩
  have Hr : Hid (Dy.texts t run L Dy.zero = Dy.texts t run (L.drop (j + 1)) { D with run := nm }) := zJ2 (by
   rcases zJ1 Htx with ⟨-, h0⟩ | ⟨h0, -⟩
   ·exact (zJ1 HYes) nm h0
   ·cases h0)
  clear Htx HNo HYes
  have K2 := zJ2 (putR_any V w5 g n c D A nm (zJ1 HO5))
  clear HO5
  go_wp2_with fail
  refine (zJ1 K2).mono ?_
  rintro e w6 ⟨rfl, hO6⟩
  have HO6 := zJ2 hO6
  clear hO6 K2
  go_wp2_with fail
  go_roundg (kk - (j + 1))
  case measure => omega
  case rel => exact ⟨j + 1, _, _, _, _, rfl, by omega, by omega, by go_num, zJ1 HO6, zJ1 Hr⟩
 by_cases h15 : xi = 15
 ·subst h15
  have hy1 : y1 = 15 := by have := zJ1 Hxi; omega
  have HNo : Hid (Dy.text t x2 = none -> Dy.texts t run L Dy.zero = none) := zJ2 (fun h => by rw [zJ1 HT2, Dy.texts_no (.inr (.inr (.inl hy1))) h])
  have HYes : Hid (∀ nm, Dy.text t x2 = some nm -> Dy.texts t run L Dy.zero = Dy.texts t run (L.drop (j + 1)) (if run = false then { D with run := nm } else D)) := zJ2 (fun nm h => by rw [zJ1 HT2, Dy.texts_yes (.inr (.inr (.inl hy1))) h, hy1]; simp)
  have K1 := zJ2 ((zJ1 KT) x2 hx2 _ (zJ1 HO1).bel)
  clear HT2 Hxi hy1 Hcell Hents H64
  go_wp2_with fail
  refine (zJ1 K1).mono ?_
  rintro e w5 ⟨nm, tb, rfl, htx, hb5⟩
  have HO5 := zJ2 ((zJ1 HO1).belowSz hb5)
  have Htx := zJ2 htx
  clear htx hb5 K1 HO1 HE1 q0 q1
  cases tb
  ·have Hr : Hid (Dy.texts t run L Dy.zero = none) := zJ2 (by
    rcases zJ1 Htx with ⟨h0, -⟩ | ⟨-, h0⟩
    ·cases h0
    ·exact (zJ1 HNo) h0)
   clear Htx HNo HYes KT KP2
   go_wp2_with fail
   go_ret
   exact ⟨false, rfl, .inl ⟨rfl, zJ1 Hr⟩, (zJ1 HO5).bel⟩
  have Hr : Hid (Dy.texts t run L Dy.zero = Dy.texts t run (L.drop (j + 1)) (if run = false then { D with run := nm } else D)) := zJ2 (by
   rcases zJ1 Htx with ⟨-, h0⟩ | ⟨h0, -⟩
   ·exact (zJ1 HYes) nm h0
   ·cases h0)
  clear Htx HNo HYes
  have K2 := zJ2 ((zJ1 KP2) w5 n c D A nm (zJ1 HO5))
  clear HO5
  go_wp2_with fail
  refine (zJ1 K2).mono ?_
  rintro e w6 ⟨rfl, hO6⟩
  have HO6 := zJ2 hO6
  clear hO6 K2
  go_wp2_with fail
  go_roundg (kk - (j + 1))
  case measure => omega
  case rel => exact ⟨j + 1, _, _, _, _, rfl, by omega, by omega, by go_num, zJ1 HO6, zJ1 Hr⟩
 have HSk : Hid (Dy.texts t run L Dy.zero = Dy.texts t run (L.drop (j + 1)) D) := zJ2 (by rw [zJ1 HT2, Dy.texts_skip (by have := zJ1 Hxi; omega)])
 clear HT2 Hxi KT KP2 Hcell Hents H64
 go_wp2_with fail
 go_roundg (kk - (j + 1))
 case measure => omega
 case rel => exact ⟨j + 1, _, _, _, _, rfl, by omega, by omega, by go_num, zJ1 HO1, zJ1 HSk⟩
open Go.RowKit
theorem reInfo : (Tryz.prog.info? 144).map (·.size) = some 4 := by kernel_rfl
theorem reOne (a b c d : Int) : (#[.int .u64 a, .int .u32 b, .int .i64 c, .int .i64 d] : Array Value).all (·.oneCell') = true := by simp [Value.oneCell']
set_option maxRecDepth 100000 in
set_option maxHeartbeats 2000000 in
theorem relOf_any (A : Option Addr) (c B gt : Nat) (b : List UInt8) (As : Option Addr) (ns cs : Nat) (w : World) (hB : B <= w.heap.size) (h : Rd w B 1 A 24 (bys b)) (hgt : gt < w.heap.size) (hs : w.cell? ⟨gt, 3, none⟩ = some (.slice As ns cs)) (hns : ns <= 4294967296) :
  Calls Tryz.prog 98 #[.slice A 24 c, .pointer (some ⟨gt, 0, none⟩)] w (reRowE (Dy.relOf ns b 0) w) := by
 have Hb0 : Hid (Below w.heap.size w (w.alloc (.cells #[.int .u64 0, .int .u32 0, .int .i64 0, .int .i64 0] 144))) := zJ2 ((Below.refl _ _).alloc (Nat.le_refl _) _)
 have Hk0 : Hid (Blk (w.alloc (.cells #[.int .u64 0, .int .u32 0, .int .i64 0, .int .i64 0] 144)) w.heap.size 144 [.int .u64 0, .int .u32 0, .int .i64 0, .int .i64 0]) := zJ2 (Blk.new w 144 [.int .u64 0, .int .u32 0, .int .i64 0, .int .i64 0])
 have KN := zJ2 (fun (p s : Nat) (hs : s = 1 \/ s = 2 \/ s = 4 \/ s = 8) (hin : p + s <= 24) w' (hb : Below w.heap.size w w') => yJf A 24 c B b p s w' (Nat.le_trans hB hb.size) (h.below (hb.mono hB)) (by unfold maxLen; omega) hs hin)
 have Hsc := zJ2 (fun (w' : World) (hb : Below w.heap.size w w') => (World.cell?_of_block (a := ⟨gt, 3, none⟩) (hb.block gt hgt)).trans hs)
 have hx0 := Wd.num_lt b 0 8
 have hx8 := Wd.num_lt b 8 4
 have hx12 := Wd.num_lt b 12 4
 have hx16 := Wd.num_lt b 16 8
 have hrel : Dy.relOf ns b 0 = if ns < Wd.num b 12 4 then none else some ⟨Wd.num b 0 8, Wd.num b 8 4, Wd.num b 12 4, Wd.num b 16 8⟩ := by
  unfold Dy.relOf Dy.relAt
  simp only [Nat.zero_add]
 have k0 : ∀ W, Below w.heap.size w W -> Calls Tryz.prog 96 #[.slice A 24 c, .int .u64 0, .int .i64 8] W (fun e w' => e = .returned (.int .u64 (Wd.num b 0 8 : Nat)) /\ Below W.heap.size W w') := fun W h => (zJ1 KN) 0 8 (by omega) (by omega) W h
 have k8 : ∀ W, Below w.heap.size w W -> Calls Tryz.prog 96 #[.slice A 24 c, .int .u64 8, .int .i64 4] W (fun e w' => e = .returned (.int .u64 (Wd.num b 8 4 : Nat)) /\ Below W.heap.size W w') := fun W h => (zJ1 KN) 8 4 (by omega) (by omega) W h
 have k12 : ∀ W, Below w.heap.size w W -> Calls Tryz.prog 96 #[.slice A 24 c, .int .u64 12, .int .i64 4] W (fun e w' => e = .returned (.int .u64 (Wd.num b 12 4 : Nat)) /\ Below W.heap.size W w') := fun W h => (zJ1 KN) 12 4 (by omega) (by omega) W h
 have k16 : ∀ W, Below w.heap.size w W -> Calls Tryz.prog 96 #[.slice A 24 c, .int .u64 16, .int .i64 8] W (fun e w' => e = .returned (.int .u64 (Wd.num b 16 8 : Nat)) /\ Below W.heap.size W w') := fun W h => (zJ1 KN) 16 8 (by omega) (by omega) W h
 obtain ⟨n0, hn0⟩ : ∃ x, Wd.num b 0 8 = x := ⟨_, rfl⟩
 obtain ⟨n8, hn8⟩ : ∃ x, Wd.num b 8 4 = x := ⟨_, rfl⟩
 obtain ⟨n12, hn12⟩ : ∃ x, Wd.num b 12 4 = x := ⟨_, rfl⟩
 obtain ⟨n16, hn16⟩ : ∃ x, Wd.num b 16 8 = x := ⟨_, rfl⟩
 rw [hn0] at k0 hx0 hrel
 rw [hn8] at k8 hx8 hrel
 rw [hn12] at k12 hx12 hrel
 rw [hn16] at k16 hx16 hrel
 simp at hx0 hx8 hx12 hx16
 have K0 := zJ2 k0
 have K8 := zJ2 k8
 have K12 := zJ2 (k12 _ (zJ1 Hb0))
 have K16 := zJ2 k16
 obtain ⟨ad, had⟩ : ∃ x : Int, IntKind.i64.wrap (n16 : Int) = x := ⟨_, rfl⟩
 have wu : IntKind.u32.wrap (n8 : Int) = (n8 : Int) := by rw [IntKind.wrap_u32]; omega
 have wn : IntKind.u64.wrap (ns : Int) = (ns : Int) := by rw [IntKind.wrap_u64]; omega
 have wi : IntKind.i64.wrap (n12 : Int) = (n12 : Int) := by rw [IntKind.wrap_i64]; omega
 have HRes : Hid (∀ W, Below w.heap.size w W -> reRowE (Dy.relOf ns b 0) w (.returned (.tuple #[.agg #[.int .u64 (n0 : Nat), .int .u32 (n8 : Nat), .int .i64 (n12 : Nat), .int .i64 ad], .bool (decide (n12 <= ns))])) W) := zJ2 (by
  intro W hW
  refine ⟨hW, ?_⟩
  rw [hrel]
  by_cases h2 : ns < n12
  ·rw [if_pos h2, decide_eq_false (by omega)]
   exact ⟨_, _, _, _, rfl⟩
  ·rw [if_neg h2, decide_eq_true (by omega)]
   dsimp only
   unfold adI
   rw [had])
 clear KN h hs hn0 hn8 hn12 hn16 k0 k8 k12 k16 hrel
 go_enter Tryz.func98, Tryz.ntmps98
 go_wp2_with fail
 refine (zJ1 K12).mono ?_
 rintro e w1 ⟨rfl, hb1⟩
 have HB1 := zJ2 ((zJ1 Hb0).trans (hb1.mono (zJ1 Hb0).size))
 have HK1 := zJ2 ((zJ1 Hk0).belowSz hb1)
 clear hb1 K12 Hb0 Hk0
 go_wp2_with fail
 refine wp_region_held_drew (S := fun w' => w'.cell? ⟨gt, 3, none⟩ = some (.slice As ns cs)) (by kernel_rfl) ((zJ1 Hsc) _ (zJ3 (zJ1 HB1))) (fun HS0 => ?_)
 refine takeD (i := 0) (d := some 8) (v := ?_) rfl rfl (by kernel_rfl) (by kernel_rfl) (by kernel_rfl) (fun _ _ _ h => h) (Or.inl ⟨by rfl, ?y0⟩) HS0 ?_
 case y0 => (intro w' hSw; (try dsimp only at hSw); go_simp; (try with_reducible rfl))
 simp only [Act.put, List.setIfInBounds_toArray, List.set_cons_zero, List.set_cons_succ]
 refine takeD (i := 2) (d := some 10) (v := ?_) rfl rfl (by kernel_rfl) (by kernel_rfl) (by kernel_rfl) (fun _ _ _ h => h) (Or.inl ⟨by rfl, ?y2⟩) HS0 ?_
 case y2 => (intro w' hSw; (try dsimp only at hSw); go_simp; (try with_reducible rfl))
 simp only [Act.put, List.setIfInBounds_toArray, List.set_cons_zero, List.set_cons_succ]
 refine takeD (i := 5) (d := some 13) (v := ?_) rfl rfl (by kernel_rfl) (by kernel_rfl) (by kernel_rfl) (fun _ _ _ h => h) (Or.inl ⟨by rfl, ?y5⟩) HS0 ?_
 case y5 => (intro w' hSw; (try dsimp only at hSw); go_simp; (try with_reducible rfl))
 simp only [Act.put, List.setIfInBounds_toArray, List.set_cons_zero, List.set_cons_succ]
 refine takeD (i := 6) (d := some 14) (v := ?_) rfl rfl (by kernel_rfl) (by kernel_rfl) (by kernel_rfl) (fun _ _ _ h => h) (Or.inl ⟨by rfl, ?y6⟩) HS0 ?_
 case y6 => (intro w' hSw; (try dsimp only at hSw); go_simp; (try with_reducible rfl))
 simp only [Act.put, List.setIfInBounds_toArray, List.set_cons_zero, List.set_cons_succ]
 refine takeD (i := 7) (d := some 15) (v := ?_) rfl rfl (by kernel_rfl) (by kernel_rfl) (by kernel_rfl) (fun _ _ _ h => h) (Or.inl ⟨by rfl, ?y7⟩) HS0 ?_
 case y7 => (intro w' hSw; (try dsimp only at hSw); go_simp; (try with_reducible rfl))
 simp only [Act.put, List.setIfInBounds_toArray, List.set_cons_zero, List.set_cons_succ]
 refine takeD (i := 11) (d := some 19) (v := ?_) rfl rfl (by kernel_rfl) (by kernel_rfl) (by kernel_rfl) (fun _ _ _ h => h) (Or.inl ⟨by rfl, ?y11⟩) HS0 ?_
 case y11 => (intro w' hSw; (try dsimp only at hSw); go_simp; (try with_reducible rfl))
 simp only [Act.put, List.setIfInBounds_toArray, List.set_cons_zero, List.set_cons_succ]
 refine takeD (i := 12) (d := some 20) (v := ?_) rfl rfl (by kernel_rfl) (by kernel_rfl) (by kernel_rfl) (fun _ _ _ h => h) (Or.inl ⟨by rfl, ?y12⟩) HS0 ?_
 case y12 => (intro w' hSw; (try dsimp only at hSw); go_simp; (try with_reducible rfl))
 simp only [Act.put, List.setIfInBounds_toArray, List.set_cons_zero, List.set_cons_succ]
 refine takeD (i := 13) (d := some 21) (v := ?_) rfl rfl (by kernel_rfl) (by kernel_rfl) (by kernel_rfl) (fun _ _ _ h => h) (Or.inl ⟨by rfl, ?y13⟩) HS0 ?_
 case y13 => (intro w' hSw; (try dsimp only at hSw); go_simp; (try with_reducible rfl))
 simp only [Act.put, List.setIfInBounds_toArray, List.set_cons_zero, List.set_cons_succ]
 refine takeD (i := 14) (d := some 22) (v := ?_) rfl rfl (by kernel_rfl) (by kernel_rfl) (by kernel_rfl) (fun _ _ _ h => h) (Or.inl ⟨by rfl, ?y14⟩) HS0 ?_
 case y14 => (intro w' hSw; (try dsimp only at hSw); go_simp; (try with_reducible rfl))
 simp only [Act.put, List.setIfInBounds_toArray, List.set_cons_zero, List.set_cons_succ]
 refine takeD (i := 15) (d := some 23) (v := ?_) rfl rfl (by kernel_rfl) (by kernel_rfl) (by kernel_rfl) (fun _ _ _ h => h) (Or.inl ⟨by rfl, ?y15⟩) HS0 ?_
 case y15 => (intro w' hSw; (try dsimp only at hSw); go_simp; (try with_reducible rfl))
 simp only [Act.put, List.setIfInBounds_toArray, List.set_cons_zero, List.set_cons_succ]
 refine takeD (i := 16) (d := some 24) (v := ?_) rfl rfl (by kernel_rfl) (by kernel_rfl) (by kernel_rfl) (fun _ _ _ h => h) (Or.inl ⟨by rfl, ?y16⟩) HS0 ?_
 case y16 => (intro w' hSw; (try dsimp only at hSw); go_simp; (try with_reducible rfl))
 simp only [Act.put, List.setIfInBounds_toArray, List.set_cons_zero, List.set_cons_succ]
 refine wpAnyH_ready (rs := [1]) (by kernel_rfl) (by simp) ?_
 refine AllReadyH.cons (i := 1) rfl (fun K hK => ?_) AllReadyH.nil
 rw [if_pos (by rfl)]
 go_simp
 go_at_call 96
 with_reducible refine ((zJ1 K0) _ (zJ3 (zJ1 HB1))).mono ?_
 rintro e w2 ⟨rfl, hb2⟩
 have HB2 := zJ2 ((zJ3 (zJ1 HB1)).trans (hb2.mono (zJ3 (zJ1 HB1)).size))
 have HK2 := zJ2 ((zJ1 HK1).drew.belowSz hb2)
 clear hb2
 refine hK.out _ _ ((zJ1 Hsc) _ (zJ1 HB2)) (fun hHeld => ?_)
 clear hK K HS0
 have HS0 := hHeld
 clear hHeld
 (try simp only [Act.put, List.setIfInBounds_toArray, List.set_cons_zero, List.set_cons_succ])
 refine wpAnyH_ready (rs := [3]) (by kernel_rfl) (by simp) ?_
 refine AllReadyH.cons (i := 3) rfl (fun K hK => ?_) AllReadyH.nil
 rw [if_pos (by rfl)]
 go_simp
 go_at_call 96
 with_reducible refine ((zJ1 K8) _ (zJ1 HB2)).mono ?_
 rintro e w3 ⟨rfl, hb3⟩
 have HB3 := zJ2 ((zJ1 HB2).trans (hb3.mono (zJ1 HB2).size))
 have HK3 := zJ2 ((zJ1 HK2).belowSz hb3)
 clear hb3
 refine hK.out _ _ ((zJ1 Hsc) _ (zJ1 HB3)) (fun hHeld => ?_)
 clear hK K HS0
 have HS0 := hHeld
 clear hHeld
 (try simp only [Act.put, List.setIfInBounds_toArray, List.set_cons_zero, List.set_cons_succ])
 refine takeD (i := 4) (d := some 12) (v := ?_) rfl rfl (by kernel_rfl) (by kernel_rfl) (by kernel_rfl) (fun _ _ _ h => h) (Or.inl ⟨by rfl, ?y4⟩) HS0 ?_
 case y4 => (intro w' hSw; (try dsimp only at hSw); go_simp; (try with_reducible rfl))
 simp only [Act.put, List.setIfInBounds_toArray, List.set_cons_zero, List.set_cons_succ]
 refine wpAnyH_ready (rs := [8]) (by kernel_rfl) (by simp) ?_
 refine AllReadyH.cons (i := 8) rfl (fun K hK => ?_) AllReadyH.nil
 rw [if_pos (by rfl)]
 go_simp
 go_at_call 96
 with_reducible refine ((zJ1 K16) _ (zJ1 HB3)).mono ?_
 rintro e w4 ⟨rfl, hb4⟩
 have HB4 := zJ2 ((zJ1 HB3).trans (hb4.mono (zJ1 HB3).size))
 have HK4 := zJ2 ((zJ1 HK3).belowSz hb4)
 clear hb4
 refine hK.out _ _ ((zJ1 Hsc) _ (zJ1 HB4)) (fun hHeld => ?_)
 clear hK K HS0
 have HS0 := hHeld
 clear hHeld
 (try simp only [Act.put, List.setIfInBounds_toArray, List.set_cons_zero, List.set_cons_succ])
 refine takeD (i := 9) (d := some 17) (v := ?_) rfl rfl (by kernel_rfl) (by kernel_rfl) (by kernel_rfl) (fun _ _ _ h => h) (Or.inl ⟨by rfl, ?y9⟩) HS0 ?_
 case y9 => (intro w' hSw; (try dsimp only at hSw); go_simp; (try with_reducible rfl))
 simp only [Act.put, List.setIfInBounds_toArray, List.set_cons_zero, List.set_cons_succ]
 refine takeD (i := 10) (d := some 18) (v := ?_) rfl rfl (by kernel_rfl) (by kernel_rfl) (by kernel_rfl) (fun _ _ _ h => h) (Or.inl ⟨by rfl, ?y10⟩) HS0 ?_
 case y10 => (intro w' hSw; (try dsimp only at hSw); go_simp; (try with_reducible rfl))
 simp only [Act.put, List.setIfInBounds_toArray, List.set_cons_zero, List.set_cons_succ]
 refine wpAnyH_ready (rs := [17]) (by kernel_rfl) (by simp) ?_
 refine AllReadyH.cons (i := 17) rfl (fun K hK => ?_) AllReadyH.nil
 rw [if_pos (by rfl)]
 refine wp_store_row 144 (.tmp 3) (.tmp 18) rfl w.heap.size #[.int .u64 (n0 : Nat), .int .u32 (n8 : Nat), .int .i64 (n12 : Nat), .int .i64 ad] rfl rfl 144 _ (zJ1 HK4) reInfo rfl (reOne _ _ _ _) ?_
 refine hK.out _ _ ((zJ1 Hsc) _ (below_setRow (zJ1 HB4) (Nat.le_refl _) _)) (fun hHeld => ?_)
 clear hK K HS0
 have HS0 := hHeld
 clear hHeld
 (try simp only [Act.put, List.setIfInBounds_toArray, List.set_cons_zero, List.set_cons_succ])
 refine takeD (i := 18) (d := some 4) (v := ?_) rfl rfl (by kernel_rfl) (by kernel_rfl) (by kernel_rfl) (fun _ _ _ h => h) (Or.inl ⟨by rfl, ?y18⟩) HS0 ?_
 case y18 => (intro w' hSw; (try dsimp only at hSw); go_simp; (try with_reducible rfl))
 simp only [Act.put, List.setIfInBounds_toArray, List.set_cons_zero, List.set_cons_succ]
 refine wpAnyH_done (by kernel_rfl) ?_ _
 go_wp2_with fail
 refine bodyPost_ret (results_cell_tmp (P := Tryz.prog) rfl _ _ w.heap.size 144 #[.int .u64 (n0 : Nat), .int .u32 (n8 : Nat), .int .i64 (n12 : Nat), .int .i64 ad] (0, 0) _ rfl (setRow_heap _ _ _ _ _ _ (zJ1 HK4)) Tryz.underlying144 rfl reInfo) rfl ?_
 exact (zJ1 HRes) _ (below_setRow (zJ1 HB4) (Nat.le_refl _) _)
theorem wJd {α : Type} {f g : Nat -> Option α} : ∀ (n k : Nat), (∀ j, k <= j -> j < k + n -> f j = g j) -> rowsOf f n k = rowsOf g n k
 | 0, _, _ => rfl
 | n + 1, k, h => by
  rw [rowsOf, rowsOf, h k (Nat.le_refl _) (by omega), wJd n (k + 1) (fun j h1 h2 => h j (by omega) (by omega))]
theorem wJy (A : Option Addr) (n c B q gt m : Nat) (b : List UInt8) (At : Option Addr) (mt ct : Nat) (t : List UInt8) (w : World) (hB : B <= w.heap.size) (hnm : n = 24 * m) (h : Rd w B 1 A n (bys (Dy.cut b q n))) (hn : n <= 4294967296) (hc : n <= c)
  (hgt : gt < w.heap.size) (ht : w.cell? ⟨gt, 0, none⟩ = some (.slice At mt ct)) (hT : Rd w B 1 At mt (bys t)) (hmt : mt <= 4294967296) (hmc : mt <= ct) :
  Calls Tryz.prog 93 #[.slice A n c, .int .i64 24, .func (.func 94) #[] #[.pointer (some ⟨gt, 0, none⟩)]] w (syRowsE (Dy.symsFrom t b m q) w) := by
 have K := sy_rows A n c B (Dy.cut b q n) gt (fun k => if k < m then Dy.symAt t b (q + k * 24) else none) w hB h hn hc (by
  intro k A2 c2 w' hk hb hr hc2
  have K2 := symOf_any A2 c2 B gt (Dy.cut (Dy.cut b q n) (k * 24) 24) At mt ct t w' (Nat.le_trans hB hb.size) hr (Nat.lt_of_lt_of_le hgt hb.size) ((World.cell?_of_block (a := ⟨gt, 0, none⟩) (hb.block gt hgt)).trans ht) (hT.below (hb.mono hB)) hmt hmc
  rw [Dy.symAt_cut (q := k * 24) (m := 24) (p := 0) (by omega), Dy.symAt_cut (q := q) (m := n) (p := k * 24 + 0) (by omega), Nat.add_zero] at K2
  show Calls _ _ _ _ (syRowE (if k < m then Dy.symAt t b (q + k * 24) else none) w')
  rw [if_pos (by omega)]
  exact K2)
 rw [show n / 24 = m from by omega] at K
 have e1 : rowsOf (fun k => if k < m then Dy.symAt t b (q + k * 24) else none) m 0 = Dy.symsFrom t b m q := by
  have := Dy.syms_rows (t := t) (b := b) (q := q) m 0
  rw [Nat.zero_mul, Nat.add_zero] at this
  rw [<- this]
  exact wJd m 0 (fun k h1 h2 => if_pos (by omega))
 rw [e1] at K
 exact K
theorem vJ6 (A : Option Addr) (n c B gt : Nat) (b : List UInt8) (As : Option Addr) (ns cs : Nat) (w : World) (hB : B <= w.heap.size) (h : Rd w B 1 A n (bys b)) (hn : n <= 4294967296) (hc : n <= c)
  (hgt : gt < w.heap.size) (hs : w.cell? ⟨gt, 3, none⟩ = some (.slice As ns cs)) (hns : ns <= 4294967296) :
  Calls Tryz.prog 97 #[.slice A n c, .int .i64 24, .func (.func 98) #[] #[.pointer (some ⟨gt, 0, none⟩)]] w (reRowsE (Dy.relsFrom ns b (n / 24) 0) w) := by
 have K := re_rows A n c B b gt (fun k => Dy.relOf ns b (k * 24)) w hB h hn hc (by
  intro k A2 c2 w' hk hb hr hc2
  have K2 := relOf_any A2 c2 B gt (Dy.cut b (k * 24) 24) As ns cs w' (Nat.le_trans hB hb.size) hr (Nat.lt_of_lt_of_le hgt hb.size) ((World.cell?_of_block (a := ⟨gt, 3, none⟩) (hb.block gt hgt)).trans hs) hns
  rw [Dy.relOf_cut] at K2
  exact K2)
 rw [Dy.rels_rows, Nat.zero_mul] at K
 exact K
theorem wJa {o : Option (List Dy.Sym)} {w w' : World} {e : Ending} (h : syRowsE o w e w') : ∃ A n c q, e = .returned (.tuple #[.slice A n c, .bool q]) /\ ((q = false /\ o = none) \/ (q = true /\ ∃ l, o = some l /\ n = l.length /\ w'.ownsRow w.heap.size 142 5 (.slice A n c) n (symC l))) /\ Below w.heap.size w w' := by
 rcases h with ⟨⟨h1, rfl⟩ | ⟨l, A, c, h1, rfl, h2⟩, hb⟩
 ·exact ⟨none, 0, 0, false, rfl, .inl ⟨rfl, h1⟩, hb⟩
 ·exact ⟨A, _, c, true, rfl, .inr ⟨rfl, l, h1, rfl, h2⟩, hb⟩
theorem wJf {o : Option (List Dy.Rel)} {w w' : World} {e : Ending} (h : reRowsE o w e w') : ∃ A n c q, e = .returned (.tuple #[.slice A n c, .bool q]) /\ ((q = false /\ o = none) \/ (q = true /\ ∃ l, o = some l /\ n = l.length /\ w'.ownsRow w.heap.size 144 4 (.slice A n c) n (relC l))) /\ Below w.heap.size w w' := by
 rcases h with ⟨⟨h1, rfl⟩ | ⟨l, A, c, h1, rfl, h2⟩, hb⟩
 ·exact ⟨none, 0, 0, false, rfl, .inl ⟨rfl, h1⟩, hb⟩
 ·exact ⟨A, _, c, true, rfl, .inr ⟨rfl, l, h1, rfl, h2⟩, hb⟩
structure DynM (w : World) (B : Nat) (D : Dy.Dyn) (A1 : Option Addr) (c1 : Nat) (A2 : Option Addr) (c2 : Nat) (A3 : Option Addr) (c3 : Nat) : Prop where
 needed : w.ownsRow B 9 1 (.slice A1 D.needed.length c1) D.needed.length (D.needed.map Value.string)
 syms : w.ownsRow B 142 5 (.slice A2 D.syms.length c2) D.syms.length (symC D.syms)
 relas : w.ownsRow B 144 4 (.slice A3 D.relas.length c3) D.relas.length (relC D.relas)
theorem DynM.belowSz {w w' : World} {B : Nat} {D : Dy.Dyn} {A1 A2 A3 : Option Addr} {c1 c2 c3 : Nat} (h : DynM w B D A1 c1 A2 c2 A3 c3) (hb : Below w.heap.size w w') : DynM w' B D A1 c1 A2 c2 A3 c3 := ⟨own_below h.needed hb, own_below h.syms hb, own_below h.relas hb⟩
def ParseE (p : Dy.Dyn × Int) (w : World) (e : Ending) (w' : World) : Prop := Below w.heap.size w w' /\ ∃ A1 c1 A2 c2 A3 c3, e = .returned (.tuple #[.agg #[.slice A1 p.1.needed.length c1, .string p.1.soname, .string p.1.run, .slice A2 p.1.syms.length c2, .slice A3 p.1.relas.length c3], .int .i64 p.2]) /\ DynM w' w.heap.size p.1 A1 c1 A2 c2 A3 c3
theorem zJt {w w' : World} {p : Dy.Dyn × Int} {x : Int} (hp : p = (Dy.zero, x)) (hb : Below w.heap.size w w') : ParseE p w (.returned (.tuple #[.agg #[.slice none 0 0, .string ⟨#[]⟩, .string ⟨#[]⟩, .slice none 0 0, .slice none 0 0], .int .i64 x])) w' := by
 subst hp
 exact ⟨hb, none, 0, none, 0, none, 0, rfl, World.ownsRow_nil _ _ _ _, World.ownsRow_nil _ _ _ _, World.ownsRow_nil _ _ _ _⟩
namespace Dy
def pBody (b : List UInt8) (run : Bool) (L : List (Nat × Nat)) (T : Option (Nat × Nat)) (N : Int × Names) (R : Int × List UInt8) : Dyn × Int :=
  match T with
  | none => (zero, 25)
  | some t =>
   if N.1 ≠ 0 then (zero, N.1)
   else if R.1 ≠ 0 then (zero, R.1)
   else match texts (cut b t.1 t.2) run L zero with
    | none => (zero, 25)
    | some d =>
     match symsFrom (cut b t.1 t.2) b (N.2.chain - 1) (N.2.syms + 24) with
     | none => (zero, 25)
     | some ss =>
      match relsFrom ss.length R.2 (R.2.length / 24) 0 with
      | none => (zero, 25)
      | some rs => ({ d with syms := ss, relas := rs }, 0)
theorem parse_no {b : List UInt8} {segs : List El.Sg} {x : Int} (h : open_ b segs = (x, none)) : parse b segs = (zero, x) := by
 unfold parse
 rw [h]
theorem parse_some {b : List UInt8} {segs : List El.Sg} {L : List (Nat × Nat)} (h : open_ b segs = (0, some L)) : parse b segs = pBody b (val L 29).isSome L (table b.length (El.loads segs) L 5 10) (names b (El.loads segs) L) (relaB b (El.loads segs) L) := by
 unfold parse pBody
 rw [h]
 rfl
section
variable {b : List UInt8} {run : Bool} {L : List (Nat × Nat)} {T : Option (Nat × Nat)} {t : Nat × Nat} {N : Int × Names} {R : Int × List UInt8} {d : Dyn} {ss : List Sym} {rs : List Rel}
theorem pBody_1 : pBody b run L none N R = (zero, 25) := rfl
theorem pBody_2 (h : N.1 ≠ 0) : pBody b run L (some t) N R = (zero, N.1) := by unfold pBody; dsimp only; rw [if_pos h]
theorem pBody_3 (h : N.1 = 0) (h2 : R.1 ≠ 0) : pBody b run L (some t) N R = (zero, R.1) := by unfold pBody; dsimp only; rw [if_neg (by simpa using h), if_pos h2]
theorem pBody_4 (h : N.1 = 0) (h2 : R.1 = 0) (h3 : texts (cut b t.1 t.2) run L zero = none) : pBody b run L (some t) N R = (zero, 25) := by unfold pBody; dsimp only; rw [if_neg (by simpa using h), if_neg (by simpa using h2), h3]
theorem pBody_5 (h : N.1 = 0) (h2 : R.1 = 0) (h3 : texts (cut b t.1 t.2) run L zero = some d) (h4 : symsFrom (cut b t.1 t.2) b (N.2.chain - 1) (N.2.syms + 24) = none) : pBody b run L (some t) N R = (zero, 25) := by unfold pBody; dsimp only; rw [if_neg (by simpa using h), if_neg (by simpa using h2), h3]; dsimp only; rw [h4]
theorem pBody_6 (h : N.1 = 0) (h2 : R.1 = 0) (h3 : texts (cut b t.1 t.2) run L zero = some d) (h4 : symsFrom (cut b t.1 t.2) b (N.2.chain - 1) (N.2.syms + 24) = some ss) (h5 : relsFrom ss.length R.2 (R.2.length / 24) 0 = none) : pBody b run L (some t) N R = (zero, 25) := by unfold pBody; dsimp only; rw [if_neg (by simpa using h), if_neg (by simpa using h2), h3]; dsimp only; rw [h4]; dsimp only; rw [h5]
theorem pBody_7 (h : N.1 = 0) (h2 : R.1 = 0) (h3 : texts (cut b t.1 t.2) run L zero = some d) (h4 : symsFrom (cut b t.1 t.2) b (N.2.chain - 1) (N.2.syms + 24) = some ss) (h5 : relsFrom ss.length R.2 (R.2.length / 24) 0 = some rs) : pBody b run L (some t) N R = ({ d with syms := ss, relas := rs }, 0) := by unfold pBody; dsimp only; rw [if_neg (by simpa using h), if_neg (by simpa using h2), h3]; dsimp only; rw [h4]; dsimp only; rw [h5]
end
end Dy
theorem own_len {w : World} {base n c size : Nat} {A : Option Addr} {e : TypeId} {xs : List Value} (h : w.ownsRow base e size (.slice A n c) n xs) : n <= c := by
 rcases h.2 with ⟨_, hn⟩ | ⟨q, cap, cur, hv, _, _, h1, _⟩
 ·omega
 ·injection hv with _ _ hc
  omega
theorem xJp {w : World} {base n c size : Nat} {A : Option Addr} {e : TypeId} {xs : List Value} (h : w.ownsRow base e size (.slice A n c) n xs) {p : Addr} (hp : ∀ k, (Value.slice A n c).ownBlock = some k -> k ≠ p.block) (u : Value) : (w.setCell p u).ownsRow base e size (.slice A n c) n xs := by
 obtain ⟨hl, hn | ⟨g', cap, cur, hv, hb, hg, h1, h2, h3, h4⟩⟩ := h
 ·exact ⟨hl, .inl hn⟩
 ·exact ⟨hl, .inr ⟨g', cap, cur, hv, hb, (heap_setCell_other _ _ _ _ (hp g' (by rw [hv]; rfl))).trans hg, h1, h2, h3, h4⟩⟩
theorem yJ3 {w : World} {base n c size k : Nat} {A : Option Addr} {e : TypeId} {xs : List Value} (h : w.ownsRow base e size (.slice A n c) n xs) (hk : k < base) (cs : Array Value) : (w.setRow k cs).ownsRow base e size (.slice A n c) n xs := by
 obtain ⟨hl, hn | ⟨g', cap, cur, hv, hb, hg, h1, h2, h3, h4⟩⟩ := h
 ·exact ⟨hl, .inl hn⟩
 ·exact ⟨hl, .inr ⟨g', cap, cur, hv, hb, (setRow_other _ _ _ _ (by omega)).trans hg, h1, h2, h3, h4⟩⟩
namespace Dy
theorem uJz {b : List UInt8} : ∀ {k p : Nat} {l : List (Nat × Nat)}, ents b k p = some l -> l.length <= k
 | 0, _, _, h => by cases h
 | k + 1, p, l, h => by
  unfold ents at h
  split at h
  ·injection h with h
   subst h
   exact Nat.zero_le _
  ·cases hr : ents b k (p + 16) with
   | none => rw [hr] at h; cases h
   | some r =>
    rw [hr] at h
    injection h with h
    subst h
    have := uJz hr
    simpa using this
theorem open_len {b : List UInt8} {segs : List El.Sg} {L : List (Nat × Nat)} (h : open_ b segs = (0, some L)) : L.length <= b.length := by
 cases hf : segs.find? (fun s => s.kind == 2) with
 | none => rw [open_none hf] at h; injection h with _ h; cases h
 | some s =>
  rw [open_some hf] at h
  split at h
  ·injection h with _ h; cases h
  ·rename_i hs
   have hs2 : ¬ b.length < s.off + s.fsz := fun h => hs (.inr h)
   cases he : ents b (s.fsz / 16) s.off with
   | none => rw [he] at h; injection h with _ h; cases h
   | some L2 =>
    rw [he] at h
    have h2 := uJz he
    have : L2 = L := by
     dsimp only at h
     split at h
     ·injection h with _ h; injection h
     ·injection h with _ h; cases h
    subst this
    omega
theorem table_le {n : Nat} {l : List El.Sg} {L : List (Nat × Nat)} {a s : Nat} {t : Nat × Nat} (h : table n l L a s = some t) : t.2 <= n := by
 unfold table at h
 split at h
 ·injection h with h; subst h; exact Nat.zero_le _
 ·rename_i v hv
  cases hl : laid n l v ((val L s).getD 0) with
  | none => rw [hl] at h; cases h
  | some o =>
   rw [hl] at h
   injection h with h
   subst h
   have := (laid_in hl).1
   dsimp only
   omega
theorem relaB_len {b : List UInt8} {l : List El.Sg} {L : List (Nat × Nat)} : (relaB b l L).2.length <= 1536 := by
 unfold relaB
 split
 ·exact Nat.zero_le _
 ·split
  ·exact Nat.zero_le _
  ·rename_i h1 h2
   cases ha : table b.length l L 7 8 with
   | none => exact Nat.zero_le _
   | some x =>
    cases hb : table b.length l L 23 2 with
    | none => exact Nat.zero_le _
    | some y =>
     dsimp only
     have e1 := xJj (p := x.1) (k := x.2) ha
     have e2 := xJj (p := y.1) (k := y.2) hb
     rw [List.length_append]
     unfold cut
     rw [List.length_take, List.length_take]
     omega
theorem symsFrom_len {t b : List UInt8} : ∀ {n p : Nat} {l : List Sym}, symsFrom t b n p = some l -> l.length = n
 | 0, _, _, h => by unfold symsFrom at h; injection h with h; subst h; rfl
 | n + 1, p, l, h => by
  unfold symsFrom at h
  cases hs : symAt t b p with
  | none => rw [hs] at h; cases h
  | some s =>
   rw [hs] at h
   cases hr : symsFrom t b n (p + 24) with
   | none => rw [hr] at h; cases h
   | some r =>
    rw [hr] at h
    injection h with h
    subst h
    have := symsFrom_len hr
    simpa using this
end Dy
theorem parse_good {w w' : World} {p : Dy.Dyn × Int} {D : Dy.Dyn} {ss : List Dy.Sym} {rs : List Dy.Rel} {A7 A9 A11 : Option Addr} {n7 c7 n9 c9 n11 c11 : Nat} (hp : p = ({ D with syms := ss, relas := rs }, 0)) (hb : Below w.heap.size w w') (h7 : D.needed.length = n7) (h9 : n9 = ss.length) (h11 : n11 = rs.length)
  (o7 : w'.ownsRow w.heap.size 9 1 (.slice A7 n7 c7) n7 (D.needed.map Value.string)) (o9 : w'.ownsRow w.heap.size 142 5 (.slice A9 n9 c9) n9 (symC ss)) (o11 : w'.ownsRow w.heap.size 144 4 (.slice A11 n11 c11) n11 (relC rs)) :
  ParseE p w (.returned (.tuple #[.agg #[.slice A7 n7 c7, .string D.soname, .string D.run, .slice A9 n9 c9, .slice A11 n11 c11], .int .i64 0])) w' := by
 subst hp h7 h9 h11
 exact ⟨hb, A7, c7, A9, c9, A11, c11, rfl, o7, o9, o11⟩
theorem zJn : (Tryz.prog.info? 54).map (·.size) = some 5 := by kernel_rfl
theorem wJm (A1 A2 A3 : Option Addr) (n1 c1 n2 c2 n3 c3 : Nat) (s1 s2 : ByteArray) : (#[.slice A1 n1 c1, .string s1, .string s2, .slice A2 n2 c2, .slice A3 n3 c3] : Array Value).all (·.oneCell') = true := by simp [Value.oneCell']
end Go.Proofs.YtiiiblmhlhikkaaGreatDoor
