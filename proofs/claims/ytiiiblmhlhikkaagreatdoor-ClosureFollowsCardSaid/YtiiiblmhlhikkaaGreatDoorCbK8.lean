/- Texts of the claim LawCloManyCard (Dy18, CloM, CloB, CloS, MapLit, Calls1, Calls2, Env1, CopyT, Env2, Env3, Env4, Env5, Env6, Env7, Env8, Env9, Se1, Se2, Se3, Se4): what the functions that the statement reaches compute, and plain laws of it. Conditions: those that each theorem states. -/
import Derived.Test.YtiiiblmhlhikkaaGreatDoorCbK7
import Derived.Test.YtiiiblmhlhikkaaGreatDoorCbK1
import Derived.Test.YtiiiblmhlhikkaaGreatDoorCbK5
import Derived.Test.YtiiiblmhlhikkaaGreatDoorCbK6
import Derived.Deep.MidRow
import Derived.Test.YtiiiblmhlhikkaaGreatDoorCbK2
import Derived.Maps.Own
import Derived.Test.YtiiiblmhlhikkaaGreatDoorProg
import Derived.WalkSpells
import Derived.WalkLawsBesides
import Derived.Test.YtiiiblmhlhikkaaGreatDoorCbK3
import Derived.Deep.LoopGhost
import Derived.Deep.QuietTactic
import Derived.BigQuiet
import Derived.IntWalk
import Derived.Lib.SliceRun
import Derived.RangeFuncNested
import Derived.RangeFuncBound
import Derived.RangeFuncCalls
import Derived.RangeFuncLeaves
import Derived.Shelf.Abstract
import Derived.Shelf.RegionOpen
import Derived.OwnWalkIn
import Derived.TacticsInMore
import Derived.LoopNIn
import Derived.LoopIn
import Derived.RangeFuncOwn
import Derived.RangeFuncRecord
import Derived.Maps.AppendAt
import Derived.Test.YtiiiblmhlhikkaaGreatDoorCbK4
import Derived.Deep.RegionHeld3
set_option linter.unusedVariables false
set_option linter.unusedSimpArgs false
namespace Go.Proofs.YtiiiblmhlhikkaaGreatDoor
open Go.RowKit
set_option maxRecDepth 100000 in
set_option maxHeartbeats 8000000 in
theorem dparse_any (A : Option Addr) (n c B : Nat) (b : List UInt8) (ty en ph : Int) (As : Option Addr) (ns cs : Nat) (segs : List El.Sg) (w : World) (hB : B <= w.heap.size) (hb : Rd w B 1 A n (bys b)) (hs : Rd w B 6 As ns (segCells segs)) (hn : n <= 4294967296) (hns : ns <= 4294967296) (hc : n <= c) (hfit : ∀ s ∈ segs, SgFit s) :
  Calls Tryz.prog 51 #[.slice A n c, .agg #[.int .u16 ty, .int .u64 en, .int .u64 ph, .slice As ns cs]] w (ParseE (Dy.parse b segs) w) := by
 have hbl : b.length = n := by have := hb.1; simp [bys] at this; omega
 have e1 : (w.alloc (.cells #[.int .u16 ty, .int .u64 en, .int .u64 ph, .slice As ns cs] 49)).heap.size = w.heap.size + 1 := by simp
 have e2 : ((w.alloc (.cells #[.int .u16 ty, .int .u64 en, .int .u64 ph, .slice As ns cs] 49)).alloc (.cells #[.slice none 0 0, .string ⟨#[]⟩, .string ⟨#[]⟩, .slice none 0 0, .slice none 0 0] 54)).heap.size = w.heap.size + 2 := by simp
 have hB0 : Below w.heap.size w ((w.alloc (.cells #[.int .u16 ty, .int .u64 en, .int .u64 ph, .slice As ns cs] 49)).alloc (.cells #[.slice none 0 0, .string ⟨#[]⟩, .string ⟨#[]⟩, .slice none 0 0, .slice none 0 0] 54)) := ((Below.refl _ _).alloc (Nat.le_refl _) _).alloc (by rw [e1]; omega) _
 have hK0 := Blk.new (w.alloc (.cells #[.int .u16 ty, .int .u64 en, .int .u64 ph, .slice As ns cs] 49)) 54 [.slice none 0 0, .string ⟨#[]⟩, .string ⟨#[]⟩, .slice none 0 0, .slice none 0 0]
 rw [e1] at hK0
 have hH0 := (Blk.new w 49 [.int .u16 ty, .int .u64 en, .int .u64 ph, .slice As ns cs]).alloc (.cells #[.slice none 0 0, .string ⟨#[]⟩, .string ⟨#[]⟩, .slice none 0 0, .slice none 0 0] 54)
 have z0 := hH0.cell (i := 0) rfl
 have z1 := hH0.cell (i := 1) rfl
 have z2 := hH0.cell (i := 2) rfl
 have z3 := hH0.cell (i := 3) rfl
 have KO := zJ2 (dopen_any A n c w.heap.size b ty en ph As ns cs segs ((w.alloc (.cells #[.int .u16 ty, .int .u64 en, .int .u64 ph, .slice As ns cs] 49)).alloc (.cells #[.slice none 0 0, .string ⟨#[]⟩, .string ⟨#[]⟩, .slice none 0 0, .slice none 0 0] 54)) (by rw [e2]; omega) ((hb.more hB).below hB0) ((hs.more hB).below hB0) hn hns hc hfit)
 have HB0 := zJ2 hB0
 have HK0 := zJ2 hK0
 obtain ⟨Res, hRes⟩ : ∃ R, Dy.parse b segs = R := ⟨_, rfl⟩
 rw [hRes]
 have HRes := zJ2 hRes
 have Hbl := zJ2 hbl
 clear hb hs hfit hB0 hK0 hH0 e1 e2 hbl hRes
 go_enter Tryz.func51, Tryz.ntmps51
 go_wp2_with fail
 refine (zJ1 KO).mono ?_
 rintro e w1 ⟨hb1, ⟨q, ho, rfl, hq⟩ | ⟨g, Al, k, cl, L, gm, ho, rfl, hds, hok⟩⟩
 ·obtain ⟨⟨x, ox⟩, hx⟩ : ∃ y, Dy.open_ b segs = y := ⟨_, rfl⟩
  rw [hx] at ho hq ⊢
  dsimp only at ho hq ⊢
  subst ho
  have HP : Hid (Res = (Dy.zero, x)) := zJ2 (by rw [<- zJ1 HRes]; exact Dy.parse_no hx)
  have HB1 := zJ2 ((zJ1 HB0).trans (hb1.mono (zJ1 HB0).size))
  have HK1 := zJ2 ((zJ1 HK0).belowSz hb1)
  clear hx HRes hb1 HB0 HK0 KO z0 z1 z2 z3
  by_cases hx0 : x = 0
  ·have hq0 := hq hx0
   subst hq0
   subst hx0
   clear hq
   go_wp2_with ((with_reducible refine (@id (wpList _ _ _ (Oper.mk none (Op.store 54 (.tmp 4) (.tmp 25)) _ _ _ none :: _) _ _) ?_)); refine wpList_store_row rfl 54 (.tmp 4) (.tmp 25) rfl (w.heap.size + 1) #[.slice none 0 0, .string ⟨#[]⟩, .string ⟨#[]⟩, .slice none 0 0, .slice none 0 0] rfl rfl 54 _ (zJ1 HK1) zJn rfl (wJm _ _ _ _ _ _ _ _ _ _ _) ?_)
   refine bodyPost_ret (results_cell_tmp (P := Tryz.prog) rfl _ _ (w.heap.size + 1) 54 #[.slice none 0 0, .string ⟨#[]⟩, .string ⟨#[]⟩, .slice none 0 0, .slice none 0 0] (0, 0) _ rfl (setRow_heap _ _ _ _ _ _ (zJ1 HK1)) Tryz.underlying54 rfl zJn) rfl ?_
   exact zJt (zJ1 HP) (below_setRow (zJ1 HB1) (Nat.le_succ _) _)
  ·clear hq
   go_wp2_with ((with_reducible refine (@id (wpList _ _ _ (Oper.mk none (Op.store 54 (.tmp 4) (.tmp 25)) _ _ _ none :: _) _ _) ?_)); refine wpList_store_row rfl 54 (.tmp 4) (.tmp 25) rfl (w.heap.size + 1) #[.slice none 0 0, .string ⟨#[]⟩, .string ⟨#[]⟩, .slice none 0 0, .slice none 0 0] rfl rfl 54 _ (zJ1 HK1) zJn rfl (wJm _ _ _ _ _ _ _ _ _ _ _) ?_)
   refine bodyPost_ret (results_cell_tmp (P := Tryz.prog) rfl _ _ (w.heap.size + 1) 54 #[.slice none 0 0, .string ⟨#[]⟩, .string ⟨#[]⟩, .slice none 0 0, .slice none 0 0] (0, 0) _ rfl (setRow_heap _ _ _ _ _ _ (zJ1 HK1)) Tryz.underlying54 rfl zJn) rfl ?_
   exact zJt (zJ1 HP) (below_setRow (zJ1 HB1) (Nat.le_succ _) _)
 have HB1 := zJ2 ((zJ1 HB0).trans (hb1.mono (zJ1 HB0).size))
 have HK1 := zJ2 ((zJ1 HK0).belowSz hb1)
 have hRes := zJ1 HRes
 rw [Dy.parse_some ho, zJ1 Hbl] at hRes
 clear hb1 HB0 HK0 KO z0 z1 z2 z3 HRes
 obtain ⟨d, hd⟩ : ∃ d : Ds, (⟨A, n, c, b, ty, en, ph, As, ns, cs, segs, Al, k, cl, L, gm⟩ : Ds) = d := ⟨_, rfl⟩
 have dm : d.m = n := by rw [<- hd]
 have db : d.b = b := by rw [<- hd]
 have dsg : d.segs = segs := by rw [<- hd]
 have dL : d.L = L := by rw [<- hd]
 rw [hd] at hds hok
 obtain ⟨B1, hB1⟩ : ∃ x, ((w.alloc (.cells #[.int .u16 ty, .int .u64 en, .int .u64 ph, .slice As ns cs] 49)).alloc (.cells #[.slice none 0 0, .string ⟨#[]⟩, .string ⟨#[]⟩, .slice none 0 0, .slice none 0 0] 54)).heap.size = x := ⟨_, rfl⟩
 rw [hB1] at hds
 have hds2 : DsM w1 B1 g d d.L := by rw [dL]; exact hds
 have hB1w : w.heap.size <= B1 := by rw [<- hB1]; simp; omega
 have hbl2 : d.b.length = d.m := by rw [db, dm]; exact zJ1 Hbl
 have hdk : d.k <= 4294967296 := by
  have h1 := hds2.len
  have h2 := Dy.open_len ho
  rw [zJ1 Hbl] at h2
  rw [h1, dL]
  omega
 clear hd hds hB1
 have KT := wJx B1 g d 5 10 w1 hds2 hok rfl rfl
 have KNm := fun (w' : World) (h : DsM w' B1 g d d.L) => names_any B1 g d w' h hok hbl2
 have KRe := fun (w' : World) (h : DsM w' B1 g d d.L) => relas_any B1 g d w' h hok hbl2
 have KTx := fun (V : World) (At : Option Addr) (mt ct : Nat) (t : List UInt8) (h : DsM V B1 g d d.L) (hT : Rd V B1 1 At mt (bys t)) (hmt : mt <= 4294967296) (hmc : mt <= ct) => texts_any V B1 g d At mt ct t h hok hdk hT hmt hmc
 rw [dsg] at KT KNm KRe
 rw [db] at KT KNm KRe
 rw [dm] at KT
 rw [dL] at KT
 have hKN : ∀ (w' : World) (h : DsM w' B1 g d d.L), Calls Tryz.prog 90 #[.pointer (some ⟨g, 0, none⟩)] w' (NamesE (Dy.names b (El.loads segs) L) B1 b w') := fun w' h => dL ▸ KNm w' h
 have hKR : ∀ (w' : World) (h : DsM w' B1 g d d.L), Calls Tryz.prog 91 #[.pointer (some ⟨g, 0, none⟩)] w' (RelasE (Dy.relaB b (El.loads segs) L) w') := fun w' h => dL ▸ KRe w' h
 have hKX : ∀ (V : World) (At : Option Addr) (mt ct : Nat) (t : List UInt8) (h : DsM V B1 g d d.L) (hT : Rd V B1 1 At mt (bys t)) (hmt : mt <= 4294967296) (hmc : mt <= ct), Calls Tryz.prog 92 #[.pointer (some ⟨g, 0, none⟩), .slice At mt ct, .pointer (some ⟨V.heap.size, 0, none⟩)] (V.alloc (.cells #[.slice none 0 0, .string ⟨#[]⟩, .string ⟨#[]⟩, .slice none 0 0, .slice none 0 0] 54)) (TextsE (Dy.texts t (Dy.val L 29).isSome L Dy.zero) V g) := fun V At mt ct t h hT hmt hmc => by
  have := KTx V At mt ct t h hT hmt hmc
  rw [dL] at this
  exact this
 clear KNm KRe KTx
 obtain ⟨T, hT⟩ : ∃ x, Dy.table n (El.loads segs) L 5 10 = x := ⟨_, rfl⟩
 obtain ⟨⟨nx, nr⟩, hN⟩ : ∃ x, Dy.names b (El.loads segs) L = x := ⟨_, rfl⟩
 obtain ⟨⟨rx, rb⟩, hR⟩ : ∃ x, Dy.relaB b (El.loads segs) L = x := ⟨_, rfl⟩
 obtain ⟨run, hrun⟩ : ∃ x, (Dy.val L 29).isSome = x := ⟨_, rfl⟩
 have hTb : ∀ t, T = some t -> t.2 <= n := fun t h => by rw [<- hT] at h; exact Dy.table_le h
 have hRb : rb.length <= 1536 := by have := Dy.relaB_len (b := b) (l := El.loads segs) (L := L); rw [hR] at this; exact this
 rw [hT] at KT hRes
 rw [hN] at hKN hRes
 rw [hR] at hKR hRes
 rw [hrun] at hKX hRes
 have HKT := zJ2 KT
 have HKN := zJ2 hKN
 have HKR := zJ2 hKR
 have HKX := zJ2 hKX
 have HRes := zJ2 hRes
 have HDS1 := zJ2 hds2
 have HTb := zJ2 hTb
 have HB1w := zJ2 hB1w
 clear KT hKN hKR hKX hRes hds2 hT hN hR hrun dL dm db dsg hok hbl2 ho hTb hB1w hdk
 go_wp2_with fail
 refine (zJ1 HKT).mono ?_
 intro e w2 h2
 obtain ⟨A5, n5, c5, q5, rfl, hf5, hb2⟩ := xJe h2
 have HB2 : Hid (Below w.heap.size w (w2.alloc (.cells #[.slice A5 n5 c5] 64))) := zJ2 (((zJ1 HB1).trans (hb2.mono (zJ1 HB1).size)).alloc ((zJ1 HB1).trans (hb2.mono (zJ1 HB1).size)).size _)
 have HK2 : Hid (Blk (w2.alloc (.cells #[.slice A5 n5 c5] 64)) (w.heap.size + 1) 54 [.slice none 0 0, .string ⟨#[]⟩, .string ⟨#[]⟩, .slice none 0 0, .slice none 0 0]) := zJ2 (((zJ1 HK1).belowSz hb2).alloc _)
 have HT2 : Hid (Blk (w2.alloc (.cells #[.slice A5 n5 c5] 64)) w2.heap.size 64 [.slice A5 n5 c5]) := zJ2 (Blk.new w2 64 [.slice A5 n5 c5])
 have HDS2 : Hid (DsM (w2.alloc (.cells #[.slice A5 n5 c5] 64)) B1 g d d.L) := zJ2 (((zJ1 HDS1).belowSz hb2).belowSz ((Below.refl _ _).alloc (Nat.le_refl _) _))
 have Hf5 := zJ2 hf5
 have hB12 : B1 <= w2.heap.size := Nat.le_trans (zJ1 HDS1).sz hb2.size
 have h2w : w.heap.size + 1 < w2.heap.size := ((zJ1 HK1).belowSz hb2).lt
 clear HKT HB1 HK1 HDS1 h2 hf5 hb2
 cases q5
 ·have HP : Hid (Res = (Dy.zero, 25)) := zJ2 (by
   rcases zJ1 Hf5 with ⟨-, h0⟩ | ⟨h0, -⟩
   ·rw [<- zJ1 HRes, h0]; exact Dy.pBody_1
   ·cases h0)
  clear Hf5 HRes HKN HKR HKX HTb HT2 HDS2
  go_wp2_with ((with_reducible refine (@id (wpList _ _ _ (Oper.mk none (Op.store 54 (.tmp 4) (.tmp 34)) _ _ _ none :: _) _ _) ?_)); refine wpList_store_row rfl 54 (.tmp 4) (.tmp 34) rfl (w.heap.size + 1) #[.slice none 0 0, .string ⟨#[]⟩, .string ⟨#[]⟩, .slice none 0 0, .slice none 0 0] rfl rfl 54 _ (zJ1 HK2) zJn rfl (wJm _ _ _ _ _ _ _ _ _ _ _) ?_)
  refine bodyPost_ret (results_cell_tmp (P := Tryz.prog) rfl _ _ (w.heap.size + 1) 54 #[.slice none 0 0, .string ⟨#[]⟩, .string ⟨#[]⟩, .slice none 0 0, .slice none 0 0] (0, 0) _ rfl (setRow_heap _ _ _ _ _ _ (zJ1 HK2)) Tryz.underlying54 rfl zJn) rfl ?_
  exact zJt (zJ1 HP) (below_setRow (zJ1 HB2) (Nat.le_succ _) _)
 rcases zJ1 Hf5 with ⟨h0, -⟩ | ⟨-, pt, hT0, hrd5, hc5⟩
 ·cases h0
 have hn5 : n5 <= 4294967296 := Nat.le_trans ((zJ1 HTb) _ hT0) hn
 obtain ⟨tt, htt⟩ : ∃ x, Dy.cut b pt n5 = x := ⟨_, rfl⟩
 have hRes := zJ1 HRes
 rw [hT0] at hRes
 rw [htt] at hrd5
 have HRd5 : Hid (Rd (w2.alloc (.cells #[.slice A5 n5 c5] 64)) B1 1 A5 n5 (bys tt)) := zJ2 (hrd5.alloc hB12 _)
 have HRes2 := zJ2 hRes
 have Htt := zJ2 htt
 clear hRes hrd5 Hf5 HRes hT0 htt HTb
 go_wp2_with fail
 refine ((zJ1 HKN) _ (zJ1 HDS2)).mono ?_
 rintro e w4 ⟨Ah, nh, ch, A4, c4, rfl, hnm, hb4⟩
 dsimp only at hnm ⊢
 obtain ⟨bk, chn, hof, sof⟩ := nr
 dsimp only at hnm ⊢
 obtain ⟨sl, hsl⟩ : ∃ x, 24 * chn = x := ⟨_, rfl⟩
 have Hsl := zJ2 hsl
 have hb4' := (zJ1 HB2).trans (hb4.mono (zJ1 HB2).size)
 have Hnm := zJ2 hnm
 rw [hsl]
 have HB4 : Hid (Below w.heap.size w (w4.alloc (.cells #[.int .u64 (bk : Nat), .int .u64 (chn : Nat), .slice Ah nh ch, .slice A4 sl c4] 194))) := zJ2 (hb4'.alloc hb4'.size _)
 have HK4 : Hid (Blk (w4.alloc (.cells #[.int .u64 (bk : Nat), .int .u64 (chn : Nat), .slice Ah nh ch, .slice A4 sl c4] 194)) (w.heap.size + 1) 54 [.slice none 0 0, .string ⟨#[]⟩, .string ⟨#[]⟩, .slice none 0 0, .slice none 0 0]) := zJ2 (((zJ1 HK2).belowSz hb4).alloc _)
 have HT4 : Hid (Blk (w4.alloc (.cells #[.int .u64 (bk : Nat), .int .u64 (chn : Nat), .slice Ah nh ch, .slice A4 sl c4] 194)) w2.heap.size 64 [.slice A5 n5 c5]) := zJ2 (((zJ1 HT2).belowSz hb4).alloc _)
 have HN4 : Hid (Blk (w4.alloc (.cells #[.int .u64 (bk : Nat), .int .u64 (chn : Nat), .slice Ah nh ch, .slice A4 sl c4] 194)) w4.heap.size 194 [.int .u64 (bk : Nat), .int .u64 (chn : Nat), .slice Ah nh ch, .slice A4 sl c4]) := zJ2 (Blk.new w4 194 [.int .u64 (bk : Nat), .int .u64 (chn : Nat), .slice Ah nh ch, .slice A4 sl c4])
 have HDS4 : Hid (DsM (w4.alloc (.cells #[.int .u64 (bk : Nat), .int .u64 (chn : Nat), .slice Ah nh ch, .slice A4 sl c4] 194)) B1 g d d.L) := zJ2 (((zJ1 HDS2).belowSz hb4).belowSz ((Below.refl _ _).alloc (Nat.le_refl _) _))
 have hs4 := (zJ1 HDS2).sz
 have hs5 : B1 <= w4.heap.size := Nat.le_trans hs4 hb4.size
 have h24 : w2.heap.size < w4.heap.size := ((zJ1 HT2).belowSz hb4).lt
 have HRd6 : Hid (Rd (w4.alloc (.cells #[.int .u64 (bk : Nat), .int .u64 (chn : Nat), .slice Ah nh ch, .slice A4 sl c4] 194)) B1 1 A5 n5 (bys tt)) := zJ2 (((zJ1 HRd5).below (hb4.mono hs4)).alloc hs5 _)
 have HNs : Hid (Rd (w4.alloc (.cells #[.int .u64 (bk : Nat), .int .u64 (chn : Nat), .slice Ah nh ch, .slice A4 sl c4] 194)) B1 1 A4 sl (bys (Dy.cut b sof sl))) := zJ2 (by have := hnm.s; dsimp only at this; rw [hsl] at this; exact this.alloc hs5 _)
 have hNc : sl <= c4 := by have := hnm.sc; dsimp only at this; rw [hsl] at this; exact this
 have hch65 : chn <= 65 := hnm.fit.2
 clear hnm hb4' hb4 HB2 HK2 HT2 HDS2 hsl Hnm HRd5 HKN
 by_cases hx0 : nx = 0
 case neg =>
  have HP : Hid (Res = (Dy.zero, nx)) := zJ2 (by rw [<- zJ1 HRes2]; exact Dy.pBody_2 hx0)
  clear HRes2 HKR HKX
  go_wp2_with ((with_reducible refine (@id (wpList _ _ _ (Oper.mk none (Op.store 54 (.tmp 4) (.tmp 42)) _ _ _ none :: _) _ _) ?_)); refine wpList_store_row rfl 54 (.tmp 4) (.tmp 42) rfl (w.heap.size + 1) #[.slice none 0 0, .string ⟨#[]⟩, .string ⟨#[]⟩, .slice none 0 0, .slice none 0 0] rfl rfl 54 _ (zJ1 HK4) zJn rfl (wJm _ _ _ _ _ _ _ _ _ _ _) ?_)
  refine bodyPost_ret (results_cell_tmp (P := Tryz.prog) rfl _ _ (w.heap.size + 1) 54 #[.slice none 0 0, .string ⟨#[]⟩, .string ⟨#[]⟩, .slice none 0 0, .slice none 0 0] (0, 0) _ rfl (setRow_heap _ _ _ _ _ _ (zJ1 HK4)) Tryz.underlying54 rfl zJn) rfl ?_
  exact zJt (zJ1 HP) (below_setRow (zJ1 HB4) (Nat.le_succ _) _)
 subst hx0
 go_wp2_with fail
 refine ((zJ1 HKR) _ (zJ1 HDS4)).mono ?_
 rintro e w6 ⟨A6, c6, rfl, hrow6, hb6⟩
 dsimp only at hrow6 ⊢
 have e4 : (w4.alloc (.cells #[.int .u64 (bk : Nat), .int .u64 (chn : Nat), .slice Ah nh ch, .slice A4 sl c4] 194)).heap.size = w4.heap.size + 1 := by simp
 rw [e4] at hrow6
 obtain ⟨rl, hrl⟩ : ∃ x, rb.length = x := ⟨_, rfl⟩
 rw [hrl] at hrow6 hRb ⊢
 have HB6 := zJ2 ((zJ1 HB4).trans (hb6.mono (zJ1 HB4).size))
 have HK6 := zJ2 ((zJ1 HK4).belowSz hb6)
 have HT6 := zJ2 ((zJ1 HT4).belowSz hb6)
 have HN6 := zJ2 ((zJ1 HN4).belowSz hb6)
 have HDS6 := zJ2 ((zJ1 HDS4).belowSz hb6)
 have HRd7 := zJ2 ((zJ1 HRd6).below (hb6.mono (zJ1 HDS4).sz))
 have HNs6 := zJ2 ((zJ1 HNs).below (hb6.mono (zJ1 HDS4).sz))
 have h46 : w4.heap.size + 1 <= w6.heap.size := by have := hb6.size; rw [e4] at this; exact this
 have Hrow := zJ2 hrow6
 have Hlt6 : Hid (∀ k, (Value.slice A6 rl c6).ownBlock = some k -> k < w6.heap.size) := zJ2 (fun k hk => (hrow6.lt k hk).2)
 have Hrl := zJ2 hrl
 clear hrow6 hb6 HB4 HK4 HT4 HN4 HDS4 HRd6 HNs HKR hrl e4
 by_cases hr0 : rx = 0
 case neg =>
  have HP : Hid (Res = (Dy.zero, rx)) := zJ2 (by rw [<- zJ1 HRes2]; exact Dy.pBody_3 rfl hr0)
  clear HRes2 HKX
  go_wp2_with ((with_reducible refine (@id (wpList _ _ _ (Oper.mk none (Op.store 54 (.tmp 4) (.tmp 51)) _ _ _ none :: _) _ _) ?_)); refine wpList_store_row rfl 54 (.tmp 4) (.tmp 51) rfl (w.heap.size + 1) #[.slice none 0 0, .string ⟨#[]⟩, .string ⟨#[]⟩, .slice none 0 0, .slice none 0 0] rfl rfl 54 _ (zJ1 HK6) zJn rfl (wJm _ _ _ _ _ _ _ _ _ _ _) ?_)
  refine bodyPost_ret (results_cell_tmp (P := Tryz.prog) rfl _ _ (w.heap.size + 1) 54 #[.slice none 0 0, .string ⟨#[]⟩, .string ⟨#[]⟩, .slice none 0 0, .slice none 0 0] (0, 0) _ rfl (setRow_heap _ _ _ _ _ _ (zJ1 HK6)) Tryz.underlying54 rfl zJn) rfl ?_
  exact zJt (zJ1 HP) (below_setRow (zJ1 HB6) (Nat.le_succ _) _)
 subst hr0
 have KX := zJ2 ((zJ1 HKX) w6 A5 n5 c5 tt (zJ1 HDS6) (zJ1 HRd7) hn5 hc5)
 have x8 := ((zJ1 HT6).alloc (.cells #[.slice none 0 0, .string ⟨#[]⟩, .string ⟨#[]⟩, .slice none 0 0, .slice none 0 0] 54)).cell (i := 0) rfl
 clear HKX HDS6
 go_wp2_with fail
 refine (zJ1 KX).mono ?_
 rintro e w7 ⟨qx, rfl, hx7, hb7⟩
 have h67 := hb7.size
 have HB7 := zJ2 ((zJ1 HB6).trans (hb7.mono (zJ1 HB6).size))
 have HK7 := zJ2 ((zJ1 HK6).belowSz hb7)
 have HT7 := zJ2 ((zJ1 HT6).belowSz hb7)
 have HN7 := zJ2 ((zJ1 HN6).belowSz hb7)
 have HRd8 := zJ2 ((zJ1 HRd7).below (hb7.mono (by omega)))
 have HNs7 := zJ2 ((zJ1 HNs6).below (hb7.mono (by omega)))
 have Hrow7 := zJ2 (own_below (zJ1 Hrow) hb7)
 have Hx7 := zJ2 hx7
 clear hx7 hb7 HB6 HK6 HT6 HN6 HRd7 HNs6 Hrow KX x8
 cases qx
 ·have HP : Hid (Res = (Dy.zero, 25)) := zJ2 (by
   rcases zJ1 Hx7 with ⟨-, h0⟩ | ⟨h0, -⟩
   ·rw [<- zJ1 HRes2]; exact Dy.pBody_4 rfl rfl (by dsimp only; rw [zJ1 Htt]; exact h0)
   ·cases h0)
  clear Hx7 HRes2
  go_wp2_with ((with_reducible refine (@id (wpList _ _ _ (Oper.mk none (Op.store 54 (.tmp 4) (.tmp 58)) _ _ _ none :: _) _ _) ?_)); refine wpList_store_row rfl 54 (.tmp 4) (.tmp 58) rfl (w.heap.size + 1) #[.slice none 0 0, .string ⟨#[]⟩, .string ⟨#[]⟩, .slice none 0 0, .slice none 0 0] rfl rfl 54 _ (zJ1 HK7) zJn rfl (wJm _ _ _ _ _ _ _ _ _ _ _) ?_)
  refine bodyPost_ret (results_cell_tmp (P := Tryz.prog) rfl _ _ (w.heap.size + 1) 54 #[.slice none 0 0, .string ⟨#[]⟩, .string ⟨#[]⟩, .slice none 0 0, .slice none 0 0] (0, 0) _ rfl (setRow_heap _ _ _ _ _ _ (zJ1 HK7)) Tryz.underlying54 rfl zJn) rfl ?_
  exact zJt (zJ1 HP) (below_setRow (zJ1 HB7) (Nat.le_succ _) _)
 rcases zJ1 Hx7 with ⟨h0, -⟩ | ⟨-, D, A7, n7, c7, hD, hO7⟩
 ·cases h0
 have HD : Hid (Dy.texts (Dy.cut b pt n5) run L Dy.zero = some D) := zJ2 (by rw [zJ1 Htt]; exact hD)
 have HO7 := zJ2 hO7.out
 have HRw7 := zJ2 hO7.row
 have HDn := zJ2 hO7.n
 have u1 := (zJ1 HN7).cell (i := 1) rfl
 have hgo : w6.heap.size < w7.heap.size := hO7.out.lt
 clear hD hO7 Hx7
 by_cases hch : chn = 0
 case pos =>
  have hsl0 : sl = 0 := by rw [<- zJ1 Hsl, hch]
  have u3 := (zJ1 HN7).cell (i := 3) rfl
  have u8 := (zJ1 HT7).cell (i := 0) rfl
  have hc1 : ¬ (0 : Int) < (chn : Int) := by omega
  have KS := zJ2 (wJy A4 sl c4 B1 (sof + 24) w2.heap.size (chn - 1) b A5 n5 c5 tt w7 (by omega) (by omega) (by rw [hsl0, show bys (Dy.cut b (sof + 24) 0) = [] from by simp [Dy.cut, bys]]; exact Rd.none_ _ _ _ _) (by omega) hNc (by omega) u8 (zJ1 HRd8) hn5 hc5)
  have HW8 : Hid (Below w.heap.size w w7 /\ Blk w7 (w.heap.size + 1) 54 [.slice none 0 0, .string ⟨#[]⟩, .string ⟨#[]⟩, .slice none 0 0, .slice none 0 0] /\ Blk w7 w6.heap.size 54 [.slice A7 n7 c7, .string D.soname, .string D.run, .slice none 0 0, .slice none 0 0] /\ w7.ownsRow (w6.heap.size + 3) 9 1 (.slice A7 n7 c7) n7 (D.needed.map Value.string) /\ w7.ownsRow (w4.heap.size + 1) 5 1 (.slice A6 rl c6) rl (bys rb)) := zJ2 ⟨zJ1 HB7, zJ1 HK7, zJ1 HO7, zJ1 HRw7, zJ1 Hrow7⟩
  have Hs8 : Hid (w7.heap.size = w7.heap.size) := zJ2 rfl
  clear hsl0 HB7 HK7 HO7 HRw7 Hrow7 HN7 HT7 HRd8 HNs7 hch
  go_wp2_with fail
  refine (zJ1 KS).mono ?_
  intro e w9 h9
  obtain ⟨A9, n9, c9, q9, rfl, hf9, hb9⟩ := wJa h9
  have hs8 := zJ1 Hs8
  obtain ⟨gB, gK, gO, gR, gW⟩ := zJ1 HW8
  have HB9 := zJ2 (gB.trans (hb9.mono gB.size))
  have HK9 := zJ2 (gK.belowSz hb9)
  have HO9 := zJ2 (gO.belowSz hb9)
  have HRw9 := zJ2 (own_below gR hb9)
  have Hrow9 := zJ2 (own_below gW hb9)
  have h89 := hb9.size
  try rw [hs8] at h89
  have Hf9 := zJ2 hf9
  have v3 := (zJ1 HO9).cell (i := 3) rfl
  have f3 := (zJ1 HO9).free 3
  have HBx : Hid (Below w.heap.size w (w9.setCell ⟨w6.heap.size, 3, none⟩ (.slice A9 n9 c9))) := zJ2 ((zJ1 HB9).setCell (p := ⟨w6.heap.size, 3, none⟩) (by dsimp only; omega) _)
  have HKx : Hid (Blk (w9.setCell ⟨w6.heap.size, 3, none⟩ (.slice A9 n9 c9)) (w.heap.size + 1) 54 [.slice none 0 0, .string ⟨#[]⟩, .string ⟨#[]⟩, .slice none 0 0, .slice none 0 0]) := zJ2 ((zJ1 HK9).other (p := ⟨w6.heap.size, 3, none⟩) (by dsimp only; omega) _)
  clear hf9 h9 KS HW8 gB gK gO gR gW
  cases q9
  ·have HP : Hid (Res = (Dy.zero, 25)) := zJ2 (by
    rcases zJ1 Hf9 with ⟨-, h0⟩ | ⟨h0, -⟩
    ·rw [<- zJ1 HRes2]; exact Dy.pBody_5 rfl rfl (zJ1 HD) (by dsimp only; rw [zJ1 Htt]; exact h0)
    ·cases h0)
   clear Hf9 HRes2 HO9 HRw9 Hrow9 HD
   go_wp2_with ((with_reducible refine (@id (wpList _ _ _ (Oper.mk none (Op.store 54 (.tmp 4) (.tmp 76)) _ _ _ none :: _) _ _) ?_)); refine wpList_store_row rfl 54 (.tmp 4) (.tmp 76) rfl (w.heap.size + 1) #[.slice none 0 0, .string ⟨#[]⟩, .string ⟨#[]⟩, .slice none 0 0, .slice none 0 0] rfl rfl 54 _ (zJ1 HKx) zJn rfl (wJm _ _ _ _ _ _ _ _ _ _ _) ?_)
   refine bodyPost_ret (results_cell_tmp (P := Tryz.prog) rfl _ _ (w.heap.size + 1) 54 #[.slice none 0 0, .string ⟨#[]⟩, .string ⟨#[]⟩, .slice none 0 0, .slice none 0 0] (0, 0) _ rfl (setRow_heap _ _ _ _ _ _ (zJ1 HKx)) Tryz.underlying54 rfl zJn) rfl ?_
   exact zJt (zJ1 HP) (below_setRow (zJ1 HBx) (Nat.le_succ _) _)
  rcases zJ1 Hf9 with ⟨h0, -⟩ | ⟨-, ss, hss, hn9, ho9⟩
  ·cases h0
  have HSs : Hid (Dy.symsFrom (Dy.cut b pt n5) b (chn - 1) (sof + 24) = some ss) := zJ2 (by rw [zJ1 Htt]; exact hss)
  have hssl : ss.length <= 64 := by have := Dy.symsFrom_len hss; omega
  have Hn9 := zJ2 hn9
  have hn9b : n9 <= 4294967296 := by omega
  have HOx : Hid (Blk (w9.setCell ⟨w6.heap.size, 3, none⟩ (.slice A9 n9 c9)) w6.heap.size 54 [.slice A7 n7 c7, .string D.soname, .string D.run, .slice A9 n9 c9, .slice none 0 0]) := zJ2 ((zJ1 HO9).set 3 _)
  have HRwx := zJ2 (zJi (i := 3) (k := w6.heap.size) (zJ1 HRw9) (by omega) (.slice A9 n9 c9))
  have Hrowx := zJ2 (xJp (zJ1 Hrow9) (p := ⟨w6.heap.size, 3, none⟩) (fun k hk => by have := (zJ1 Hlt6) k hk; dsimp only; omega) (.slice A9 n9 c9))
  have Hssx := zJ2 (zJi (i := 3) (k := w6.heap.size) ho9 (by omega) (.slice A9 n9 c9))
  have hsx : (w9.setCell ⟨w6.heap.size, 3, none⟩ (.slice A9 n9 c9)).heap.size = w9.heap.size := by simp
  have w3c := (zJ1 HOx).cell (i := 3) rfl
  have KR := zJ2 (vJ6 A6 rl c6 _ w6.heap.size rb A9 n9 c9 _ (Nat.le_refl _) (Rd.of_own (zJ1 Hrowx)) (by omega) (own_len (zJ1 Hrowx)) (by rw [hsx]; omega) w3c hn9b)
  clear hss hn9 ho9 Hf9 HO9 HRw9 Hrow9 HB9 HK9 Hrowx w3c
  go_wp2_with fail
  refine (zJ1 KR).mono ?_
  intro e w11 h11
  obtain ⟨A11, n11, c11, q11, rfl, hf11, hb11⟩ := wJf h11
  have h911 := hb11.size
  rw [hsx] at h911
  have HB11 := zJ2 ((zJ1 HBx).trans (hb11.mono (zJ1 HBx).size))
  have HK11 := zJ2 ((zJ1 HKx).belowSz hb11)
  have HO11 := zJ2 ((zJ1 HOx).belowSz hb11)
  have HRw11 := zJ2 (own_below (zJ1 HRwx) hb11)
  have Hss11 := zJ2 (own_below (zJ1 Hssx) hb11)
  have Hf11 := zJ2 hf11
  have v4 := (zJ1 HO11).cell (i := 4) rfl
  have f4 := (zJ1 HO11).free 4
  have HBy : Hid (Below w.heap.size w (w11.setCell ⟨w6.heap.size, 4, none⟩ (.slice A11 n11 c11))) := zJ2 ((zJ1 HB11).setCell (p := ⟨w6.heap.size, 4, none⟩) (by dsimp only; omega) _)
  have HKy : Hid (Blk (w11.setCell ⟨w6.heap.size, 4, none⟩ (.slice A11 n11 c11)) (w.heap.size + 1) 54 [.slice none 0 0, .string ⟨#[]⟩, .string ⟨#[]⟩, .slice none 0 0, .slice none 0 0]) := zJ2 ((zJ1 HK11).other (p := ⟨w6.heap.size, 4, none⟩) (by dsimp only; omega) _)
  clear hf11 h11 KR HBx HKx HOx HRwx Hssx v3 f3
  cases q11
  ·have HP : Hid (Res = (Dy.zero, 25)) := zJ2 (by
    rcases zJ1 Hf11 with ⟨-, h0⟩ | ⟨h0, -⟩
    ·rw [<- zJ1 HRes2]; exact Dy.pBody_6 rfl rfl (zJ1 HD) (zJ1 HSs) (by dsimp only; rw [zJ1 Hrl, <- zJ1 Hn9]; exact h0)
    ·cases h0)
   clear Hf11 HRes2 HO11 HRw11 Hss11 HD HSs
   go_wp2_with ((with_reducible refine (@id (wpList _ _ _ (Oper.mk none (Op.store 54 (.tmp 4) (.tmp 86)) _ _ _ none :: _) _ _) ?_)); refine wpList_store_row rfl 54 (.tmp 4) (.tmp 86) rfl (w.heap.size + 1) #[.slice none 0 0, .string ⟨#[]⟩, .string ⟨#[]⟩, .slice none 0 0, .slice none 0 0] rfl rfl 54 _ (zJ1 HKy) zJn rfl (wJm _ _ _ _ _ _ _ _ _ _ _) ?_)
   refine bodyPost_ret (results_cell_tmp (P := Tryz.prog) rfl _ _ (w.heap.size + 1) 54 #[.slice none 0 0, .string ⟨#[]⟩, .string ⟨#[]⟩, .slice none 0 0, .slice none 0 0] (0, 0) _ rfl (setRow_heap _ _ _ _ _ _ (zJ1 HKy)) Tryz.underlying54 rfl zJn) rfl ?_
   exact zJt (zJ1 HP) (below_setRow (zJ1 HBy) (Nat.le_succ _) _)
  rcases zJ1 Hf11 with ⟨h0, -⟩ | ⟨-, rs, hrs, hn11, ho11⟩
  ·cases h0
  have HOy : Hid (Blk (w11.setCell ⟨w6.heap.size, 4, none⟩ (.slice A11 n11 c11)) w6.heap.size 54 [.slice A7 n7 c7, .string D.soname, .string D.run, .slice A9 n9 c9, .slice A11 n11 c11]) := zJ2 ((zJ1 HO11).set 4 _)
  have HRwy := zJ2 (zJi (i := 4) (k := w6.heap.size) (zJ1 HRw11) (by omega) (.slice A11 n11 c11))
  have Hssy := zJ2 (zJi (i := 4) (k := w6.heap.size) (zJ1 Hss11) (by omega) (.slice A11 n11 c11))
  have Hrsy := zJ2 (zJi (i := 4) (k := w6.heap.size) ho11 (by rw [hsx]; omega) (.slice A11 n11 c11))
  have HP : Hid (Res = ({ D with syms := ss, relas := rs }, 0)) := zJ2 (by rw [<- zJ1 HRes2]; exact Dy.pBody_7 rfl rfl (zJ1 HD) (zJ1 HSs) (by dsimp only; rw [zJ1 Hrl, <- zJ1 Hn9]; exact hrs))
  have Hn11 := zJ2 hn11
  clear hrs hn11 ho11 Hf11 HO11 HRw11 Hss11 HRes2 HD HSs HB11 HK11
  go_wp2_with (first
   | ((with_reducible refine (@id (wpList _ _ _ (Oper.mk _ (Op.load 54 (.tmp 12)) _ _ _ none :: _) _ _) ?_)); refine wpList_load_row rfl 54 (.tmp 12) rfl w6.heap.size rfl 54 #[.slice A7 n7 c7, .string D.soname, .string D.run, .slice A9 n9 c9, .slice A11 n11 c11] (0, 0) _ (zJ1 HOy) Tryz.underlying54 rfl zJn ?_)
   | ((with_reducible refine (@id (wpList _ _ _ (Oper.mk none (Op.store 54 (.tmp 4) (.tmp 87)) _ _ _ none :: _) _ _) ?_)); refine wpList_store_row rfl 54 (.tmp 4) (.tmp 87) rfl (w.heap.size + 1) #[.slice A7 n7 c7, .string D.soname, .string D.run, .slice A9 n9 c9, .slice A11 n11 c11] rfl rfl 54 _ (zJ1 HKy) zJn rfl (wJm _ _ _ _ _ _ _ _ _ _ _) ?_))
  refine bodyPost_ret (results_cell_tmp (P := Tryz.prog) rfl _ _ (w.heap.size + 1) 54 #[.slice A7 n7 c7, .string D.soname, .string D.run, .slice A9 n9 c9, .slice A11 n11 c11] (0, 0) _ rfl (setRow_heap _ _ _ _ _ _ (zJ1 HKy)) Tryz.underlying54 rfl zJn) rfl ?_
  refine parse_good (zJ1 HP) (below_setRow (zJ1 HBy) (Nat.le_succ _) _) (zJ1 HDn) (zJ1 Hn9) (zJ1 Hn11) (zJd (yJ3 (zJ1 HRwy) (by omega) _) (by omega)) (zJd (yJ3 (zJ1 Hssy) (by omega) _) (by omega)) (zJd (yJ3 (zJ1 Hrsy) (by rw [hsx]; omega) _) (by rw [hsx]; omega))
 have hc1 : (0 : Int) < (chn : Int) := by omega
 have hsl24 : 24 <= sl := by have := zJ1 Hsl; omega
 have kf : ∀ w' : World, (Instr.slice 64 (.slice A4 sl c4) (some (.int .i64 24)) none none).run Tryz.prog w' = .ok (.slice (fromA A4 c4 24) (sl - 24) (c4 - 24)) w' := fun w' => yJp (P := Tryz.prog) Tryz.underlying64 (e := 5) (by kernel_rfl) .i64 A4 sl c4 24 hsl24 w'
 have u3 := (zJ1 HN7).cell (i := 3) rfl
 have f3n := (zJ1 HN7).free 3
 have hrd9 := (zJ1 HNs7).from_ (k := 24) hsl24 hNc
 have hbc : (bys (Dy.cut b sof sl)).drop 24 = bys (Dy.cut b (sof + 24) (sl - 24)) := by
  unfold bys Dy.cut
  rw [<- List.map_drop, List.drop_take, List.drop_drop]
 rw [hbc] at hrd9
 obtain ⟨A8, hA8⟩ : ∃ x, fromA A4 c4 24 = x := ⟨_, rfl⟩
 rw [hA8] at kf hrd9
 obtain ⟨W8, hW8⟩ : ∃ x, w7.setCell ⟨w4.heap.size, 3, none⟩ (.slice A8 (sl - 24) (c4 - 24)) = x := ⟨_, rfl⟩
 have gN : Blk W8 w4.heap.size 194 [.int .u64 (bk : Nat), .int .u64 (chn : Nat), .slice Ah nh ch, .slice A8 (sl - 24) (c4 - 24)] := by rw [<- hW8]; exact (zJ1 HN7).set 3 _
 have gT : Blk W8 w2.heap.size 64 [.slice A5 n5 c5] := by rw [<- hW8]; exact (zJ1 HT7).other (p := ⟨w4.heap.size, 3, none⟩) (by dsimp only; omega) _
 have gB : Below w.heap.size w W8 := by rw [<- hW8]; exact (zJ1 HB7).setCell (p := ⟨w4.heap.size, 3, none⟩) (by dsimp only; omega) _
 have gK : Blk W8 (w.heap.size + 1) 54 [.slice none 0 0, .string ⟨#[]⟩, .string ⟨#[]⟩, .slice none 0 0, .slice none 0 0] := by rw [<- hW8]; exact (zJ1 HK7).other (p := ⟨w4.heap.size, 3, none⟩) (by dsimp only; omega) _
 have gO : Blk W8 w6.heap.size 54 [.slice A7 n7 c7, .string D.soname, .string D.run, .slice none 0 0, .slice none 0 0] := by rw [<- hW8]; exact (zJ1 HO7).other (p := ⟨w4.heap.size, 3, none⟩) (by dsimp only; omega) _
 have gR : W8.ownsRow (w6.heap.size + 3) 9 1 (.slice A7 n7 c7) n7 (D.needed.map Value.string) := by rw [<- hW8]; exact zJi (zJ1 HRw7) (by omega) _
 have gW : W8.ownsRow (w4.heap.size + 1) 5 1 (.slice A6 rl c6) rl (bys rb) := by rw [<- hW8]; exact zJi (zJ1 Hrow7) (by omega) _
 have gD : Rd W8 B1 1 A5 n5 (bys tt) := by rw [<- hW8]; exact (zJ1 HRd8).setCell (p := ⟨w4.heap.size, 3, none⟩) (by dsimp only; omega) _
 have gS : Rd W8 B1 1 A8 (sl - 24) (bys (Dy.cut b (sof + 24) (sl - 24))) := by rw [<- hW8]; exact hrd9.setCell (p := ⟨w4.heap.size, 3, none⟩) (by dsimp only; omega) _
 have hs8 : W8.heap.size = w7.heap.size := by rw [<- hW8]; simp
 have HW8 : Hid (Below w.heap.size w W8 /\ Blk W8 (w.heap.size + 1) 54 [.slice none 0 0, .string ⟨#[]⟩, .string ⟨#[]⟩, .slice none 0 0, .slice none 0 0] /\ Blk W8 w6.heap.size 54 [.slice A7 n7 c7, .string D.soname, .string D.run, .slice none 0 0, .slice none 0 0] /\ W8.ownsRow (w6.heap.size + 3) 9 1 (.slice A7 n7 c7) n7 (D.needed.map Value.string) /\ W8.ownsRow (w4.heap.size + 1) 5 1 (.slice A6 rl c6) rl (bys rb)) := zJ2 ⟨gB, gK, gO, gR, gW⟩
 have hc4 : sl - 24 <= c4 - 24 := by omega
 have KS := zJ2 (wJy A8 (sl - 24) (c4 - 24) B1 (sof + 24) w2.heap.size (chn - 1) b A5 n5 c5 tt W8 (by rw [hs8]; omega) (by have := zJ1 Hsl; omega) gS (by have := zJ1 Hsl; omega) hc4 (by rw [hs8]; omega) (gT.cell (i := 0) rfl) gD hn5 hc5)
 have u9 := (zJ1 HT7).cell (i := 0) rfl
 have y3 := gN.cell (i := 3) rfl
 have y8 := gT.cell (i := 0) rfl
 have cI : ((sl - 24 : Nat) : Int) = (sl : Int) - 24 := by omega
 obtain ⟨s2, hs2⟩ : ∃ x, sl - 24 = x := ⟨_, rfl⟩
 obtain ⟨c2, hc2⟩ : ∃ x, c4 - 24 = x := ⟨_, rfl⟩
 rw [hs2, hc2] at kf hW8 y3
 rw [hs2, hc2] at KS
 rw [<- hW8] at y3 y8
 have kS := zJ1 KS
 rw [<- hW8] at kS
 have hw8 := zJ1 HW8
 rw [<- hW8] at hw8 hs8
 clear HB7 HK7 HO7 HRw7 Hrow7 HN7 HT7 HRd8 HNs7 KS HW8 gN gT gB gK gO gR gW gD gS hrd9 hbc hA8 hW8 cI hs2 hc2
 have KS := zJ2 kS
 have HW8 := zJ2 hw8
 have Hs8 := zJ2 hs8
 clear kS hw8 hsl24 hNc hc4 hs8
 go_wp2_with fail
 refine (zJ1 KS).mono ?_
 intro e w9 h9
 obtain ⟨A9, n9, c9, q9, rfl, hf9, hb9⟩ := wJa h9
 have hs8 := zJ1 Hs8
 obtain ⟨gB, gK, gO, gR, gW⟩ := zJ1 HW8
 have HB9 := zJ2 (gB.trans (hb9.mono gB.size))
 have HK9 := zJ2 (gK.belowSz hb9)
 have HO9 := zJ2 (gO.belowSz hb9)
 have HRw9 := zJ2 (own_below gR hb9)
 have Hrow9 := zJ2 (own_below gW hb9)
 have h89 := hb9.size
 try rw [hs8] at h89
 have Hf9 := zJ2 hf9
 have v3 := (zJ1 HO9).cell (i := 3) rfl
 have f3 := (zJ1 HO9).free 3
 have HBx : Hid (Below w.heap.size w (w9.setCell ⟨w6.heap.size, 3, none⟩ (.slice A9 n9 c9))) := zJ2 ((zJ1 HB9).setCell (p := ⟨w6.heap.size, 3, none⟩) (by dsimp only; omega) _)
 have HKx : Hid (Blk (w9.setCell ⟨w6.heap.size, 3, none⟩ (.slice A9 n9 c9)) (w.heap.size + 1) 54 [.slice none 0 0, .string ⟨#[]⟩, .string ⟨#[]⟩, .slice none 0 0, .slice none 0 0]) := zJ2 ((zJ1 HK9).other (p := ⟨w6.heap.size, 3, none⟩) (by dsimp only; omega) _)
 clear hf9 h9 KS HW8 gB gK gO gR gW
 cases q9
 ·have HP : Hid (Res = (Dy.zero, 25)) := zJ2 (by
   rcases zJ1 Hf9 with ⟨-, h0⟩ | ⟨h0, -⟩
   ·rw [<- zJ1 HRes2]; exact Dy.pBody_5 rfl rfl (zJ1 HD) (by dsimp only; rw [zJ1 Htt]; exact h0)
   ·cases h0)
  clear Hf9 HRes2 HO9 HRw9 Hrow9 HD
  go_wp2_with ((with_reducible refine (@id (wpList _ _ _ (Oper.mk none (Op.store 54 (.tmp 4) (.tmp 76)) _ _ _ none :: _) _ _) ?_)); refine wpList_store_row rfl 54 (.tmp 4) (.tmp 76) rfl (w.heap.size + 1) #[.slice none 0 0, .string ⟨#[]⟩, .string ⟨#[]⟩, .slice none 0 0, .slice none 0 0] rfl rfl 54 _ (zJ1 HKx) zJn rfl (wJm _ _ _ _ _ _ _ _ _ _ _) ?_)
  refine bodyPost_ret (results_cell_tmp (P := Tryz.prog) rfl _ _ (w.heap.size + 1) 54 #[.slice none 0 0, .string ⟨#[]⟩, .string ⟨#[]⟩, .slice none 0 0, .slice none 0 0] (0, 0) _ rfl (setRow_heap _ _ _ _ _ _ (zJ1 HKx)) Tryz.underlying54 rfl zJn) rfl ?_
  exact zJt (zJ1 HP) (below_setRow (zJ1 HBx) (Nat.le_succ _) _)
 rcases zJ1 Hf9 with ⟨h0, -⟩ | ⟨-, ss, hss, hn9, ho9⟩
 ·cases h0
 have HSs : Hid (Dy.symsFrom (Dy.cut b pt n5) b (chn - 1) (sof + 24) = some ss) := zJ2 (by rw [zJ1 Htt]; exact hss)
 have hssl : ss.length <= 64 := by have := Dy.symsFrom_len hss; omega
 have Hn9 := zJ2 hn9
 have hn9b : n9 <= 4294967296 := by omega
 have HOx : Hid (Blk (w9.setCell ⟨w6.heap.size, 3, none⟩ (.slice A9 n9 c9)) w6.heap.size 54 [.slice A7 n7 c7, .string D.soname, .string D.run, .slice A9 n9 c9, .slice none 0 0]) := zJ2 ((zJ1 HO9).set 3 _)
 have HRwx := zJ2 (zJi (i := 3) (k := w6.heap.size) (zJ1 HRw9) (by omega) (.slice A9 n9 c9))
 have Hrowx := zJ2 (xJp (zJ1 Hrow9) (p := ⟨w6.heap.size, 3, none⟩) (fun k hk => by have := (zJ1 Hlt6) k hk; dsimp only; omega) (.slice A9 n9 c9))
 have Hssx := zJ2 (zJi (i := 3) (k := w6.heap.size) ho9 (by omega) (.slice A9 n9 c9))
 have hsx : (w9.setCell ⟨w6.heap.size, 3, none⟩ (.slice A9 n9 c9)).heap.size = w9.heap.size := by simp
 have w3c := (zJ1 HOx).cell (i := 3) rfl
 have KR := zJ2 (vJ6 A6 rl c6 _ w6.heap.size rb A9 n9 c9 _ (Nat.le_refl _) (Rd.of_own (zJ1 Hrowx)) (by omega) (own_len (zJ1 Hrowx)) (by rw [hsx]; omega) w3c hn9b)
 clear hss hn9 ho9 Hf9 HO9 HRw9 Hrow9 HB9 HK9 Hrowx w3c
 go_wp2_with fail
 refine (zJ1 KR).mono ?_
 intro e w11 h11
 obtain ⟨A11, n11, c11, q11, rfl, hf11, hb11⟩ := wJf h11
 have h911 := hb11.size
 rw [hsx] at h911
 have HB11 := zJ2 ((zJ1 HBx).trans (hb11.mono (zJ1 HBx).size))
 have HK11 := zJ2 ((zJ1 HKx).belowSz hb11)
 have HO11 := zJ2 ((zJ1 HOx).belowSz hb11)
 have HRw11 := zJ2 (own_below (zJ1 HRwx) hb11)
 have Hss11 := zJ2 (own_below (zJ1 Hssx) hb11)
 have Hf11 := zJ2 hf11
 have v4 := (zJ1 HO11).cell (i := 4) rfl
 have f4 := (zJ1 HO11).free 4
 have HBy : Hid (Below w.heap.size w (w11.setCell ⟨w6.heap.size, 4, none⟩ (.slice A11 n11 c11))) := zJ2 ((zJ1 HB11).setCell (p := ⟨w6.heap.size, 4, none⟩) (by dsimp only; omega) _)
 have HKy : Hid (Blk (w11.setCell ⟨w6.heap.size, 4, none⟩ (.slice A11 n11 c11)) (w.heap.size + 1) 54 [.slice none 0 0, .string ⟨#[]⟩, .string ⟨#[]⟩, .slice none 0 0, .slice none 0 0]) := zJ2 ((zJ1 HK11).other (p := ⟨w6.heap.size, 4, none⟩) (by dsimp only; omega) _)
 clear hf11 h11 KR HBx HKx HOx HRwx Hssx v3 f3
 cases q11
 ·have HP : Hid (Res = (Dy.zero, 25)) := zJ2 (by
   rcases zJ1 Hf11 with ⟨-, h0⟩ | ⟨h0, -⟩
   ·rw [<- zJ1 HRes2]; exact Dy.pBody_6 rfl rfl (zJ1 HD) (zJ1 HSs) (by dsimp only; rw [zJ1 Hrl, <- zJ1 Hn9]; exact h0)
   ·cases h0)
  clear Hf11 HRes2 HO11 HRw11 Hss11 HD HSs
  go_wp2_with ((with_reducible refine (@id (wpList _ _ _ (Oper.mk none (Op.store 54 (.tmp 4) (.tmp 86)) _ _ _ none :: _) _ _) ?_)); refine wpList_store_row rfl 54 (.tmp 4) (.tmp 86) rfl (w.heap.size + 1) #[.slice none 0 0, .string ⟨#[]⟩, .string ⟨#[]⟩, .slice none 0 0, .slice none 0 0] rfl rfl 54 _ (zJ1 HKy) zJn rfl (wJm _ _ _ _ _ _ _ _ _ _ _) ?_)
  refine bodyPost_ret (results_cell_tmp (P := Tryz.prog) rfl _ _ (w.heap.size + 1) 54 #[.slice none 0 0, .string ⟨#[]⟩, .string ⟨#[]⟩, .slice none 0 0, .slice none 0 0] (0, 0) _ rfl (setRow_heap _ _ _ _ _ _ (zJ1 HKy)) Tryz.underlying54 rfl zJn) rfl ?_
  exact zJt (zJ1 HP) (below_setRow (zJ1 HBy) (Nat.le_succ _) _)
 rcases zJ1 Hf11 with ⟨h0, -⟩ | ⟨-, rs, hrs, hn11, ho11⟩
 ·cases h0
 have HOy : Hid (Blk (w11.setCell ⟨w6.heap.size, 4, none⟩ (.slice A11 n11 c11)) w6.heap.size 54 [.slice A7 n7 c7, .string D.soname, .string D.run, .slice A9 n9 c9, .slice A11 n11 c11]) := zJ2 ((zJ1 HO11).set 4 _)
 have HRwy := zJ2 (zJi (i := 4) (k := w6.heap.size) (zJ1 HRw11) (by omega) (.slice A11 n11 c11))
 have Hssy := zJ2 (zJi (i := 4) (k := w6.heap.size) (zJ1 Hss11) (by omega) (.slice A11 n11 c11))
 have Hrsy := zJ2 (zJi (i := 4) (k := w6.heap.size) ho11 (by rw [hsx]; omega) (.slice A11 n11 c11))
 have HP : Hid (Res = ({ D with syms := ss, relas := rs }, 0)) := zJ2 (by rw [<- zJ1 HRes2]; exact Dy.pBody_7 rfl rfl (zJ1 HD) (zJ1 HSs) (by dsimp only; rw [zJ1 Hrl, <- zJ1 Hn9]; exact hrs))
 have Hn11 := zJ2 hn11
 clear hrs hn11 ho11 Hf11 HO11 HRw11 Hss11 HRes2 HD HSs HB11 HK11
 go_wp2_with (first
  | ((with_reducible refine (@id (wpList _ _ _ (Oper.mk _ (Op.load 54 (.tmp 12)) _ _ _ none :: _) _ _) ?_)); refine wpList_load_row rfl 54 (.tmp 12) rfl w6.heap.size rfl 54 #[.slice A7 n7 c7, .string D.soname, .string D.run, .slice A9 n9 c9, .slice A11 n11 c11] (0, 0) _ (zJ1 HOy) Tryz.underlying54 rfl zJn ?_)
  | ((with_reducible refine (@id (wpList _ _ _ (Oper.mk none (Op.store 54 (.tmp 4) (.tmp 87)) _ _ _ none :: _) _ _) ?_)); refine wpList_store_row rfl 54 (.tmp 4) (.tmp 87) rfl (w.heap.size + 1) #[.slice A7 n7 c7, .string D.soname, .string D.run, .slice A9 n9 c9, .slice A11 n11 c11] rfl rfl 54 _ (zJ1 HKy) zJn rfl (wJm _ _ _ _ _ _ _ _ _ _ _) ?_))
 refine bodyPost_ret (results_cell_tmp (P := Tryz.prog) rfl _ _ (w.heap.size + 1) 54 #[.slice A7 n7 c7, .string D.soname, .string D.run, .slice A9 n9 c9, .slice A11 n11 c11] (0, 0) _ rfl (setRow_heap _ _ _ _ _ _ (zJ1 HKy)) Tryz.underlying54 rfl zJn) rfl ?_
 refine parse_good (zJ1 HP) (below_setRow (zJ1 HBy) (Nat.le_succ _) _) (zJ1 HDn) (zJ1 Hn9) (zJ1 Hn11) (zJd (yJ3 (zJ1 HRwy) (by omega) _) (by omega)) (zJd (yJ3 (zJ1 Hssy) (by omega) _) (by omega)) (zJd (yJ3 (zJ1 Hrsy) (by rw [hsx]; omega) _) (by rw [hsx]; omega))
structure ObA where
 o : Clo.Ob
 As : Option Addr
 cs : Nat
 A1 : Option Addr
 c1 : Nat
 A2 : Option Addr
 c2 : Nat
 A3 : Option Addr
 c3 : Nat
def ObA.l (x : ObA) : List Value := [.int .i64 x.o.ino, .int .u64 0, .int .u16 (x.o.head.type : Nat), .int .u64 (x.o.head.entry : Nat), .int .u64 (x.o.head.phoff : Nat), .slice x.As x.o.head.segs.length x.cs, .slice x.A1 x.o.dyn.needed.length x.c1, .string x.o.dyn.soname, .string x.o.dyn.run, .slice x.A2 x.o.dyn.syms.length x.c2, .slice x.A3 x.o.dyn.relas.length x.c3]
def ObA.zero : ObA := ⟨Clo.zero, none, 0, none, 0, none, 0, none, 0⟩
structure ObM (w : World) (B : Nat) (x : ObA) : Prop where
 segs : w.ownsRow B 58 6 (.slice x.As x.o.head.segs.length x.cs) x.o.head.segs.length (segCells x.o.head.segs)
 dyn : DynM w B x.o.dyn x.A1 x.c1 x.A2 x.c2 x.A3 x.c3
theorem ObM.belowSz {w w' : World} {B : Nat} {x : ObA} (h : ObM w B x) (hb : Below w.heap.size w w') : ObM w' B x := ⟨own_below h.segs hb, h.dyn.belowSz hb⟩
theorem ObM.zero (w : World) (B : Nat) : ObM w B ObA.zero := ⟨World.ownsRow_nil _ _ _ _, ⟨World.ownsRow_nil _ _ _ _, World.ownsRow_nil _ _ _ _, World.ownsRow_nil _ _ _ _⟩⟩
theorem obOne (x : ObA) : x.l.toArray.all (·.oneCell') = true := by simp [ObA.l, Value.oneCell']
theorem xJa : (Tryz.prog.info? 56).map (·.size) = some 11 := by kernel_rfl
theorem hdInfo : (Tryz.prog.info? 49).map (·.size) = some 4 := by kernel_rfl
theorem hdOne4 (ty en ph : Int) (A : Option Addr) (n c : Nat) : (#[.int .u16 ty, .int .u64 en, .int .u64 ph, .slice A n c] : Array Value).all (·.oneCell') = true := by simp [Value.oneCell']
def ObjE (p : Clo.Ob × Int) (w : World) (e : Ending) (w' : World) : Prop :=
 Below w.heap.size w w' /\ ∃ x : ObA, x.o = p.1 /\ e = .returned (.tuple #[.agg x.l.toArray, .int .i64 p.2]) /\ ObM w' w.heap.size x
theorem uJr {p : Clo.Ob × Int} {er : Int} {w w' : World} (h : p = (Clo.zero, er)) (hb : Below w.heap.size w w') : ObjE p w (.returned (.tuple #[.agg ObA.zero.l.toArray, .int .i64 er])) w' := by
 subst h
 exact ⟨hb, ObA.zero, rfl, rfl, ObM.zero _ _⟩
theorem Clo.bytes_len (F : List Vf.Nd) (i : Int) : (Clo.bytes F i).length <= 65536 := by
 unfold Clo.bytes Vf.readOf
 split
 ·exact Nat.zero_le _
 split
 ·exact Nat.zero_le _
 split
 ·exact Nat.zero_le _
 ·exact Nat.le_trans (List.length_take_le _ _) (by decide)
theorem Blk.there {w : World} {g : Nat} {t : TypeId} {l : List Value} (h : Blk w g t l) (o n : Nat) (hn : o + n <= l.length) : w.there g o n := fun j hj => by
 obtain ⟨u, hu⟩ : ∃ u, l[o + j]? = some u := ⟨_, List.getElem?_eq_getElem (by omega)⟩
 exact ⟨by rw [h.cell hu]; rfl, h.free _⟩
theorem Blk.set4 {w : World} {g o : Nat} {t : TypeId} {l : List Value} {a b c d : Value} (h : Blk w g t l) : Blk (w.setCells g o [a, b, c, d]) g t ((((l.set o a).set (o + 1) b).set (o + 2) c).set (o + 3) d) := (((h.set o a).set (o + 1) b).set (o + 2) c).set (o + 3) d
theorem Blk.set5 {w : World} {g o : Nat} {t : TypeId} {l : List Value} {a b c d e : Value} (h : Blk w g t l) : Blk (w.setCells g o [a, b, c, d, e]) g t (((((l.set o a).set (o + 1) b).set (o + 2) c).set (o + 3) d).set (o + 4) e) := ((((h.set o a).set (o + 1) b).set (o + 2) c).set (o + 3) d).set (o + 4) e
theorem yJj {B b : Nat} {a : World} (hp : B <= b) : ∀ (vs : List Value) (o : Nat) (w : World), Below B a w -> Below B a (w.setCells b o vs)
 | [], _, _, h => h
 | v :: r, o, w, h => yJj hp r (o + 1) (w.setCell ⟨b, o, none⟩ v) (h.setCell (p := ⟨b, o, none⟩) hp v)
theorem zJo {base n c z b : Nat} {A : Option Addr} {e : TypeId} {xs : List Value} (hp : ∀ k, (Value.slice A n c).ownBlock = some k -> k ≠ b) : ∀ (vs : List Value) (o : Nat) (w : World), w.ownsRow base e z (.slice A n c) n xs -> (w.setCells b o vs).ownsRow base e z (.slice A n c) n xs
 | [], _, _, h => h
 | v :: r, o, w, h => zJo hp r (o + 1) (w.setCell ⟨b, o, none⟩ v) (xJp h (p := ⟨b, o, none⟩) hp v)
theorem El.parse_segs (b : List UInt8) : (∀ s ∈ (El.parse b).2.segs, SgFit s) /\ (El.parse b).2.segs.length <= b.length := by
 unfold El.parse
 split
 ·split
  ·rename_i h
   rw [El.formOk_eq] at h
   simp only [Bool.and_eq_true, decide_eq_true_eq] at h
   obtain ⟨⟨h1, h2⟩, h3⟩ := h
   refine ⟨El.readOk_fit h2, ?_⟩
   show (El.segsOf b _).length <= _
   unfold El.segsOf
   rw [List.length_map, List.length_range]
   omega
  ·exact ⟨fun s hs => absurd hs (List.not_mem_nil (a := s)), Nat.zero_le _⟩
 ·exact ⟨fun s hs => absurd hs (List.not_mem_nil (a := s)), Nat.zero_le _⟩
theorem Clo.object_eq {F : List Vf.Nd} {i : Int} {bs : List UInt8} {er : Int} (h : Vf.readOf F i 0 65536 = (bs, er)) : Clo.object F i = if er ≠ 0 then (Clo.zero, er) else if (El.parse bs).1 ≠ 0 then (Clo.zero, (El.parse bs).1) else if (Dy.parse bs (El.parse bs).2.segs).2 ≠ 0 then (Clo.zero, (Dy.parse bs (El.parse bs).2.segs).2) else (⟨i, (El.parse bs).2, (Dy.parse bs (El.parse bs).2.segs).1⟩, 0) := by
 unfold Clo.object Clo.bytes
 rw [h]
set_option maxRecDepth 100000 in
set_option maxHeartbeats 8000000 in
theorem object_any (F : List Vf.Nd) (L : List Pl) (lo f c : Nat) (A : Option Addr) (ino : Int) (w : World) (hF : Vf.Good F) (h : FsM w lo f A c F L) (hn : F.length <= 65) :
  Calls Tryz.prog 24 #[.pointer (some ⟨f, 0, none⟩), .int .i64 ino] w (ObjE (Clo.object F ino) w) := by
 have hb0 : Below w.heap.size w (w.alloc (.cells #[.int .i64 0, .int .u64 0, .int .u16 0, .int .u64 0, .int .u64 0, .slice none 0 0, .slice none 0 0, .string ⟨#[]⟩, .string ⟨#[]⟩, .slice none 0 0, .slice none 0 0] 56)) := (Below.refl _ _).alloc (Nat.le_refl _) _
 have hk0 : Blk (w.alloc (.cells #[.int .i64 0, .int .u64 0, .int .u16 0, .int .u64 0, .int .u64 0, .slice none 0 0, .slice none 0 0, .string ⟨#[]⟩, .string ⟨#[]⟩, .slice none 0 0, .slice none 0 0] 56)) w.heap.size 56 [.int .i64 0, .int .u64 0, .int .u16 0, .int .u64 0, .int .u64 0, .slice none 0 0, .slice none 0 0, .string ⟨#[]⟩, .string ⟨#[]⟩, .slice none 0 0, .slice none 0 0] := Blk.new w 56 [.int .i64 0, .int .u64 0, .int .u16 0, .int .u64 0, .int .u64 0, .slice none 0 0, .slice none 0 0, .string ⟨#[]⟩, .string ⟨#[]⟩, .slice none 0 0, .slice none 0 0]
 have e0 : (w.alloc (.cells #[.int .i64 0, .int .u64 0, .int .u16 0, .int .u64 0, .int .u64 0, .slice none 0 0, .slice none 0 0, .string ⟨#[]⟩, .string ⟨#[]⟩, .slice none 0 0, .slice none 0 0] 56)).heap.size = w.heap.size + 1 := by simp
 have KR0 := read_any F L lo f c A ino 0 65536 (w.alloc (.cells #[.int .i64 0, .int .u64 0, .int .u16 0, .int .u64 0, .int .u64 0, .slice none 0 0, .slice none 0 0, .string ⟨#[]⟩, .string ⟨#[]⟩, .slice none 0 0, .slice none 0 0] 56)) hF (h.belowSz hb0) hn
 have hbl := Clo.bytes_len F ino
 unfold Clo.bytes at hbl
 unfold ReadVE ptrV at KR0
 obtain ⟨⟨bs, er⟩, hrd⟩ : ∃ r, Vf.readOf F ino 0 65536 = r := ⟨_, rfl⟩
 rw [hrd] at KR0 hbl
 dsimp only at KR0 hbl
 have hob := Clo.object_eq hrd
 have Hob := zJ2 hob
 have KR := zJ2 KR0
 have HB0 := zJ2 hb0
 have HK0 := zJ2 hk0
 clear hb0 hk0 KR0 hrd hob h
 go_enter Tryz.func24, Tryz.ntmps24
 go_wp2_with fail
 refine (zJ1 KR).mono ?_
 rintro e w1 ⟨A', c', rfl, ho1, hb1⟩
 have hs1 : w.heap.size + 1 <= w1.heap.size := by have := hb1.size; rw [e0] at this; exact this
 have hbw1 := (zJ1 HB0).trans (hb1.mono (by rw [e0]; omega))
 have hk1 := (zJ1 HK0).belowSz hb1
 have hlt1 : ∀ k, (Value.slice A' bs.length c').ownBlock = some k -> w.heap.size + 1 <= k := fun k hk => by have := (ho1.lt k hk).1; rw [e0] at this; exact this
 have HK1 := zJ2 hk1
 have Hbw1 := zJ2 hbw1
 clear HB0 HK0 KR hb1 hbw1
 by_cases h1 : er = 0
 case neg =>
  have hr := zJ1 Hob
  rw [if_pos h1] at hr
  have q1 : (er != 0) = true := bne_iff_ne.2 h1
  have Hr := zJ2 hr
  clear Hob hk1 ho1 hlt1 hr h1
  go_wp2_with ((with_reducible refine (@id (wpList _ _ _ (Oper.mk none (Op.store 56 (.tmp 4) (.tmp 15)) _ _ _ none :: _) _ _) ?_)); refine wpList_store_row rfl 56 (.tmp 4) (.tmp 15) rfl w.heap.size #[.int .i64 0, .int .u64 0, .int .u16 0, .int .u64 0, .int .u64 0, .slice none 0 0, .slice none 0 0, .string ⟨#[]⟩, .string ⟨#[]⟩, .slice none 0 0, .slice none 0 0] rfl rfl 56 _ (zJ1 HK1) xJa rfl (obOne ObA.zero) ?_)
  refine bodyPost_ret (results_cell_tmp (P := Tryz.prog) rfl _ _ w.heap.size 56 #[.int .i64 0, .int .u64 0, .int .u16 0, .int .u64 0, .int .u64 0, .slice none 0 0, .slice none 0 0, .string ⟨#[]⟩, .string ⟨#[]⟩, .slice none 0 0, .slice none 0 0] (0, 0) _ rfl (setRow_heap _ _ _ _ _ _ (zJ1 HK1)) Tryz.underlying56 rfl xJa) rfl ?_
  exact uJr (zJ1 Hr) (below_setRow (zJ1 Hbw1) (Nat.le_refl _) _)
 case pos =>
 have hr := zJ1 Hob
 rw [if_neg (by rw [h1]; simp)] at hr
 have Hr := zJ2 hr
 clear hr Hob
 subst h1
 have z0 := hk1.cell (i := 0) rfl
 have f0 := hk1.free 0
 have hk2 : Blk (w1.setCell ⟨w.heap.size, 0, none⟩ (.int .i64 ino)) w.heap.size 56 [.int .i64 ino, .int .u64 0, .int .u16 0, .int .u64 0, .int .u64 0, .slice none 0 0, .slice none 0 0, .string ⟨#[]⟩, .string ⟨#[]⟩, .slice none 0 0, .slice none 0 0] := hk1.set 0 _
 have ho2 := xJp ho1 (p := ⟨w.heap.size, 0, none⟩) (fun k hk => by have := hlt1 k hk; dsimp only; omega) (.int .i64 ino)
 have hbw2 := (zJ1 Hbw1).setCell (p := ⟨w.heap.size, 0, none⟩) (Nat.le_refl _) (.int .i64 ino)
 have hs2 : (w1.setCell ⟨w.heap.size, 0, none⟩ (.int .i64 ino)).heap.size = w1.heap.size := by simp
 have hcap := own_len ho1
 have KP0 := parse_any A' bs.length c' bs (w1.setCell ⟨w.heap.size, 0, none⟩ (.int .i64 ino)) (Rd.of_own ho2) (by omega) hcap
 unfold ParseEnd at KP0
 obtain ⟨hsf, hsl⟩ := El.parse_segs bs
 have hr := zJ1 Hr
 obtain ⟨⟨pe, ⟨ty, en, ph, sg⟩⟩, hpe⟩ : ∃ r, El.parse bs = r := ⟨_, rfl⟩
 rw [hpe] at KP0 hsf hsl hr
 dsimp only at KP0 hsf hsl hr
 have KP := zJ2 KP0
 have HK2 := zJ2 hk2
 have HO2 := zJ2 ho2
 have Hbw2 := zJ2 hbw2
 have Hsf := zJ2 hsf
 have Hr2 := zJ2 hr
 clear KP0 hk2 ho2 hbw2 hsf hr Hr hpe hk1 ho1
 go_wp2_with fail
 refine (zJ1 KP).mono ?_
 rintro e w2 ⟨A2, c2, rfl, hoS, hb2⟩
 have hs3 : w1.heap.size <= w2.heap.size := by have := hb2.size; rw [hs2] at this; exact this
 have hltS : ∀ k, (Value.slice A2 sg.length c2).ownBlock = some k -> w.heap.size + 1 <= k := fun k hk => by have := (hoS.lt k hk).1; rw [hs2] at this; omega
 have hk3 := (zJ1 HK2).belowSz hb2
 have hk4 : Blk (w2.setCells w.heap.size 2 [.int .u16 (ty : Nat), .int .u64 (en : Nat), .int .u64 (ph : Nat), .slice A2 sg.length c2]) w.heap.size 56 [.int .i64 ino, .int .u64 0, .int .u16 (ty : Nat), .int .u64 (en : Nat), .int .u64 (ph : Nat), .slice A2 sg.length c2, .slice none 0 0, .string ⟨#[]⟩, .string ⟨#[]⟩, .slice none 0 0, .slice none 0 0] := hk3.set4
 have ho4 := zJo (b := w.heap.size) (fun k hk => by have := hlt1 k hk; omega) [.int .u16 (ty : Nat), .int .u64 (en : Nat), .int .u64 (ph : Nat), .slice A2 sg.length c2] 2 w2 (own_below (zJ1 HO2) hb2)
 have hoS4 := zJo (b := w.heap.size) (fun k hk => by have := hltS k hk; omega) [.int .u16 (ty : Nat), .int .u64 (en : Nat), .int .u64 (ph : Nat), .slice A2 sg.length c2] 2 w2 hoS
 have hbw4 := yJj (Nat.le_refl w.heap.size) [.int .u16 (ty : Nat), .int .u64 (en : Nat), .int .u64 (ph : Nat), .slice A2 sg.length c2] 2 w2 ((zJ1 Hbw2).trans (hb2.mono (by rw [hs2]; omega)))
 have Hth := zJ2 (hk3.there 2 4 (by show 6 <= 11; decide))
 have hs4 : (w2.setCells w.heap.size 2 [.int .u16 (ty : Nat), .int .u64 (en : Nat), .int .u64 (ph : Nat), .slice A2 sg.length c2]).heap.size = w2.heap.size := yJ7 _ _ _ _
 obtain ⟨W4, hW4⟩ : ∃ W, w2.setCells w.heap.size 2 [.int .u16 (ty : Nat), .int .u64 (en : Nat), .int .u64 (ph : Nat), .slice A2 sg.length c2] = W := ⟨_, rfl⟩
 rw [hW4] at hk4 ho4 hoS4 hbw4 hs4
 have HW4 := zJ2 hW4
 clear hW4
 have HK4 := zJ2 hk4
 have HO4 := zJ2 ho4
 have HOS4 := zJ2 hoS4
 have Hbw4 := zJ2 hbw4
 clear HK2 HO2 Hbw2 KP hoS hb2 hk3 ho4 hoS4 hbw4
 by_cases h2 : pe = 0
 case neg =>
  have hr := zJ1 Hr2
  rw [if_pos h2] at hr
  have q1 : (pe != 0) = true := bne_iff_ne.2 h2
  have Hr := zJ2 hr
  clear hk4 hr h2 Hr2
  go_wp2_with (first
   | ((with_reducible refine (@id (wpList _ _ _ (Oper.mk none (Op.store 49 (.tmp 24) (.tmp 22)) _ _ _ none :: _) _ _) ?_)); refine wpList_store_mid rfl 49 (.tmp 24) (.tmp 22) rfl w.heap.size 2 #[.int .u16 (ty : Nat), .int .u64 (en : Nat), .int .u64 (ph : Nat), .slice A2 sg.length c2] rfl rfl (zJ1 Hth) hdInfo (hdOne4 _ _ _ _ _ _) ?_; change wpList _ _ _ _ _ (w2.setCells w.heap.size 2 [.int .u16 (ty : Nat), .int .u64 (en : Nat), .int .u64 (ph : Nat), .slice A2 sg.length c2]); rw [zJ1 HW4])
   | ((with_reducible refine (@id (wpList _ _ _ (Oper.mk none (Op.store 56 (.tmp 4) (.tmp 27)) _ _ _ none :: _) _ _) ?_)); refine wpList_store_row rfl 56 (.tmp 4) (.tmp 27) rfl w.heap.size #[.int .i64 0, .int .u64 0, .int .u16 0, .int .u64 0, .int .u64 0, .slice none 0 0, .slice none 0 0, .string ⟨#[]⟩, .string ⟨#[]⟩, .slice none 0 0, .slice none 0 0] rfl rfl 56 _ (zJ1 HK4) xJa rfl (obOne ObA.zero) ?_))
  refine bodyPost_ret (results_cell_tmp (P := Tryz.prog) rfl _ _ w.heap.size 56 #[.int .i64 0, .int .u64 0, .int .u16 0, .int .u64 0, .int .u64 0, .slice none 0 0, .slice none 0 0, .string ⟨#[]⟩, .string ⟨#[]⟩, .slice none 0 0, .slice none 0 0] (0, 0) _ rfl (setRow_heap _ _ _ _ _ _ (zJ1 HK4)) Tryz.underlying56 rfl xJa) rfl ?_
  exact uJr (zJ1 Hr) (below_setRow (zJ1 Hbw4) (Nat.le_refl _) _)
 case pos =>
 have hr := zJ1 Hr2
 rw [if_neg (by rw [h2]; simp)] at hr
 clear Hr2
 subst h2
 have c2' := hk4.cell (i := 2) rfl
 have c3' := hk4.cell (i := 3) rfl
 have c4' := hk4.cell (i := 4) rfl
 have c5' := hk4.cell (i := 5) rfl
 have KD0 := dparse_any A' bs.length c' W4.heap.size bs (ty : Nat) (en : Nat) (ph : Nat) A2 sg.length c2 sg W4 (Nat.le_refl _) (Rd.of_own (zJ1 HO4)) (Rd.of_own (zJ1 HOS4)) (by omega) (by omega) hcap (zJ1 Hsf)
 unfold ParseE at KD0
 obtain ⟨⟨D, de⟩, hde⟩ : ∃ r, Dy.parse bs sg = r := ⟨_, rfl⟩
 rw [hde] at KD0 hr
 dsimp only at KD0 hr
 have KD := zJ2 KD0
 have Hr3 := zJ2 hr
 clear KD0 hr hde hk4 Hsf HO4
 go_wp2_with ((with_reducible refine (@id (wpList _ _ _ (Oper.mk none (Op.store 49 (.tmp 24) (.tmp 22)) _ _ _ none :: _) _ _) ?_)); refine wpList_store_mid rfl 49 (.tmp 24) (.tmp 22) rfl w.heap.size 2 #[.int .u16 (ty : Nat), .int .u64 (en : Nat), .int .u64 (ph : Nat), .slice A2 sg.length c2] rfl rfl (zJ1 Hth) hdInfo (hdOne4 _ _ _ _ _ _) ?_; change wpList _ _ _ _ _ (w2.setCells w.heap.size 2 [.int .u16 (ty : Nat), .int .u64 (en : Nat), .int .u64 (ph : Nat), .slice A2 sg.length c2]); rw [zJ1 HW4])
 refine (zJ1 KD).mono ?_
 rintro e w5 ⟨hb5, B1, k1, B2, k2, B3, k3, rfl, hdm⟩
 have hk5 := (zJ1 HK4).belowSz hb5
 have hk6 : Blk (w5.setCells w.heap.size 6 [.slice B1 D.needed.length k1, .string D.soname, .string D.run, .slice B2 D.syms.length k2, .slice B3 D.relas.length k3]) w.heap.size 56 [.int .i64 ino, .int .u64 0, .int .u16 (ty : Nat), .int .u64 (en : Nat), .int .u64 (ph : Nat), .slice A2 sg.length c2, .slice B1 D.needed.length k1, .string D.soname, .string D.run, .slice B2 D.syms.length k2, .slice B3 D.relas.length k3] := hk5.set5
 have hne : ∀ {A9 : Option Addr} {n9 c9 : Nat} {e9 : TypeId} {z9 : Nat} {xs : List Value}, w5.ownsRow W4.heap.size e9 z9 (.slice A9 n9 c9) n9 xs -> ∀ k, (Value.slice A9 n9 c9).ownBlock = some k -> k ≠ w.heap.size := fun ho k hk => by have := (ho.lt k hk).1; omega
 have hlo : w.heap.size <= W4.heap.size := (zJ1 Hbw4).size
 have hM6 : ObM (w5.setCells w.heap.size 6 [.slice B1 D.needed.length k1, .string D.soname, .string D.run, .slice B2 D.syms.length k2, .slice B3 D.relas.length k3]) w.heap.size ⟨⟨ino, ⟨ty, en, ph, sg⟩, D⟩, A2, c2, B1, k1, B2, k2, B3, k3⟩ := ⟨zJo (fun k hk => by have := hltS k hk; omega) _ _ _ (zJd (own_below (zJ1 HOS4) hb5) (by rw [hs2]; omega)), ⟨zJo (hne hdm.needed) _ _ _ (zJd hdm.needed hlo), zJo (hne hdm.syms) _ _ _ (zJd hdm.syms hlo), zJo (hne hdm.relas) _ _ _ (zJd hdm.relas hlo)⟩⟩
 have hbw6 := yJj (Nat.le_refl w.heap.size) [.slice B1 D.needed.length k1, .string D.soname, .string D.run, .slice B2 D.syms.length k2, .slice B3 D.relas.length k3] 6 w5 ((zJ1 Hbw4).trans (hb5.mono hlo))
 obtain ⟨W6, hW6⟩ : ∃ W, w5.setCells w.heap.size 6 [.slice B1 D.needed.length k1, .string D.soname, .string D.run, .slice B2 D.syms.length k2, .slice B3 D.relas.length k3] = W := ⟨_, rfl⟩
 rw [hW6] at hk6 hM6 hbw6
 have HW6 := zJ2 hW6
 clear hW6
 have Hth6 := zJ2 (hk5.there 6 5 (by show 11 <= 11; decide))
 have HK6 := zJ2 hk6
 have HM6 := zJ2 hM6
 have Hbw6 := zJ2 hbw6
 clear hk5 hk6 hM6 hbw6 hdm hb5 hne KD HK4 HOS4 Hbw4 c2' c3' c4' c5' hs1 hs2 hs3 hs4 hlt1 hltS hlo hcap hsl hbl z0 f0 e0
 by_cases h3 : de = 0
 case neg =>
  have hr := zJ1 Hr3
  rw [if_pos h3] at hr
  have q1 : (de != 0) = true := bne_iff_ne.2 h3
  have Hr := zJ2 hr
  clear hr h3 Hr3
  go_wp2_with (first
   | ((with_reducible refine (@id (wpList _ _ _ (Oper.mk none (Op.store 54 (.tmp 36) (.tmp 34)) _ _ _ none :: _) _ _) ?_)); refine wpList_store_mid rfl 54 (.tmp 36) (.tmp 34) rfl w.heap.size 6 #[.slice B1 D.needed.length k1, .string D.soname, .string D.run, .slice B2 D.syms.length k2, .slice B3 D.relas.length k3] rfl rfl (zJ1 Hth6) zJg (yJi _ _ _ _ _ _ _ _ _ _ _) ?_; change wpList _ _ _ _ _ (w5.setCells w.heap.size 6 [.slice B1 D.needed.length k1, .string D.soname, .string D.run, .slice B2 D.syms.length k2, .slice B3 D.relas.length k3]); rw [zJ1 HW6])
   | ((with_reducible refine (@id (wpList _ _ _ (Oper.mk none (Op.store 56 (.tmp 4) (.tmp 39)) _ _ _ none :: _) _ _) ?_)); refine wpList_store_row rfl 56 (.tmp 4) (.tmp 39) rfl w.heap.size #[.int .i64 0, .int .u64 0, .int .u16 0, .int .u64 0, .int .u64 0, .slice none 0 0, .slice none 0 0, .string ⟨#[]⟩, .string ⟨#[]⟩, .slice none 0 0, .slice none 0 0] rfl rfl 56 _ (zJ1 HK6) xJa rfl (obOne ObA.zero) ?_))
  refine bodyPost_ret (results_cell_tmp (P := Tryz.prog) rfl _ _ w.heap.size 56 #[.int .i64 0, .int .u64 0, .int .u16 0, .int .u64 0, .int .u64 0, .slice none 0 0, .slice none 0 0, .string ⟨#[]⟩, .string ⟨#[]⟩, .slice none 0 0, .slice none 0 0] (0, 0) _ rfl (setRow_heap _ _ _ _ _ _ (zJ1 HK6)) Tryz.underlying56 rfl xJa) rfl ?_
  exact uJr (zJ1 Hr) (below_setRow (zJ1 Hbw6) (Nat.le_refl _) _)
 case pos =>
 have hr := zJ1 Hr3
 rw [if_neg (by rw [h3]; simp)] at hr
 have Hr := zJ2 hr
 subst h3
 clear hr Hr3
 go_wp2_with (first
  | ((with_reducible refine (@id (wpList _ _ _ (Oper.mk none (Op.store 54 (.tmp 36) (.tmp 34)) _ _ _ none :: _) _ _) ?_)); refine wpList_store_mid rfl 54 (.tmp 36) (.tmp 34) rfl w.heap.size 6 #[.slice B1 D.needed.length k1, .string D.soname, .string D.run, .slice B2 D.syms.length k2, .slice B3 D.relas.length k3] rfl rfl (zJ1 Hth6) zJg (yJi _ _ _ _ _ _ _ _ _ _ _) ?_; change wpList _ _ _ _ _ (w5.setCells w.heap.size 6 [.slice B1 D.needed.length k1, .string D.soname, .string D.run, .slice B2 D.syms.length k2, .slice B3 D.relas.length k3]); rw [zJ1 HW6])
  | ((with_reducible refine (@id (wpList _ _ _ (Oper.mk _ (Op.load 56 (.tmp 4)) _ _ _ none :: _) _ _) ?_)); refine wpList_load_row rfl 56 (.tmp 4) rfl w.heap.size rfl 56 #[.int .i64 ino, .int .u64 0, .int .u16 (ty : Nat), .int .u64 (en : Nat), .int .u64 (ph : Nat), .slice A2 sg.length c2, .slice B1 D.needed.length k1, .string D.soname, .string D.run, .slice B2 D.syms.length k2, .slice B3 D.relas.length k3] (0, 0) _ (zJ1 HK6) Tryz.underlying56 rfl xJa ?_)
  | ((with_reducible refine (@id (wpList _ _ _ (Oper.mk none (Op.store 56 (.tmp 4) (.tmp 41)) _ _ _ none :: _) _ _) ?_)); refine wpList_store_row rfl 56 (.tmp 4) (.tmp 41) rfl w.heap.size #[.int .i64 ino, .int .u64 0, .int .u16 (ty : Nat), .int .u64 (en : Nat), .int .u64 (ph : Nat), .slice A2 sg.length c2, .slice B1 D.needed.length k1, .string D.soname, .string D.run, .slice B2 D.syms.length k2, .slice B3 D.relas.length k3] rfl rfl 56 _ (zJ1 HK6) xJa rfl (obOne ⟨⟨ino, ⟨ty, en, ph, sg⟩, D⟩, A2, c2, B1, k1, B2, k2, B3, k3⟩) ?_))
 refine bodyPost_ret (results_cell_tmp (P := Tryz.prog) rfl _ _ w.heap.size 56 #[.int .i64 ino, .int .u64 0, .int .u16 (ty : Nat), .int .u64 (en : Nat), .int .u64 (ph : Nat), .slice A2 sg.length c2, .slice B1 D.needed.length k1, .string D.soname, .string D.run, .slice B2 D.syms.length k2, .slice B3 D.relas.length k3] (0, 0) _ rfl (setRow_heap _ _ _ _ _ _ (zJ1 HK6)) Tryz.underlying56 rfl xJa) rfl ?_
 refine ⟨below_setRow (zJ1 Hbw6) (Nat.le_refl _) _, ⟨⟨ino, ⟨ty, en, ph, sg⟩, D⟩, A2, c2, B1, k1, B2, k2, B3, k3⟩, by rw [zJ1 Hr], by rw [zJ1 Hr]; rfl, ?_⟩
 rw [wJz (zJ1 HK6)]
 exact zJ1 HM6
end Go.Proofs.YtiiiblmhlhikkaaGreatDoor
namespace Go.Proofs.YtiiiblmhlhikkaaGreatDoor
namespace Dy
theorem text_sz {t : List UInt8} {p : Nat} {s : ByteArray} (h : text t p = some s) : s.size <= t.length := by
 unfold text at h
 split at h
 ·cases h
 split at h
 ·injection h with h
  subst h
  show ((t.drop p).takeWhile _).toArray.size <= _
  rw [List.size_toArray]
  have h1 := (List.takeWhile_sublist (l := t.drop p) (fun c : UInt8 => c != 0)).length_le
  rw [List.length_drop] at h1
  omega
 ·cases h
def Sz (k m : Nat) (d : Dyn) : Prop := (∀ s ∈ d.needed, s.size <= k) /\ d.run.size <= k /\ d.needed.length <= m
theorem uJh {t : List UInt8} {run : Bool} : ∀ (L : List (Nat × Nat)) (d0 d : Dyn) (m : Nat), texts t run L d0 = some d -> Sz t.length m d0 -> Sz t.length (m + L.length) d
 | [], d0, d, m, h, h0 => by
  unfold texts at h
  injection h with h
  subst h
  exact h0
 | e :: r, d0, d, m, h, h0 => by
  unfold texts at h
  have hl : m + (e :: r).length = (m + 1) + r.length := by simp; omega
  rw [hl]
  have up : Sz t.length (m + 1) d0 := ⟨h0.1, h0.2.1, by have := h0.2.2; omega⟩
  split at h
  ·cases ht : text t e.2 with
   | none => rw [ht] at h; cases h
   | some s =>
    rw [ht] at h
    dsimp only at h
    have hs := text_sz ht
    refine uJh r _ d (m + 1) h ?_
    split
    ·refine ⟨fun x hx => ?_, h0.2.1, by simp; have := h0.2.2; omega⟩
     rcases List.mem_append.1 hx with hx | hx
     ·exact h0.1 x hx
     ·rw [List.mem_singleton] at hx
      subst hx
      exact hs
    split
    ·exact up
    split
    ·exact ⟨up.1, hs, up.2.2⟩
    ·exact up
  ·exact uJh r _ d (m + 1) h up
theorem cut_le (b : List UInt8) (o s : Nat) : (cut b o s).length <= b.length := by
 unfold cut
 rw [List.length_take, List.length_drop]
 omega
theorem zero_sz (k m : Nat) : Sz k m zero := ⟨fun s hs => absurd hs (List.not_mem_nil (a := s)), Nat.zero_le _, Nat.zero_le _⟩
theorem open_zero {b : List UInt8} {segs : List El.Sg} {e : Int} {L : List (Nat × Nat)} (h : open_ b segs = (e, some L)) : e = 0 := by
 unfold open_ at h
 split at h
 ·cases h
 split at h
 ·cases h
 split at h
 ·cases h
 split at h
 ·injection h with h _; exact h.symm
 ·cases h
theorem parse_sz (b : List UInt8) (segs : List El.Sg) : Sz b.length b.length (parse b segs).1 := by
 cases ho : open_ b segs with
 | mk e o =>
  cases o with
  | none =>
   unfold parse
   rw [ho]
   exact zero_sz _ _
  | some L =>
   have he := open_zero ho
   subst he
   rw [parse_some ho]
   have hl := open_len ho
   unfold pBody
   split
   ·exact zero_sz _ _
   ·rename_i t ht
    split
    ·exact zero_sz _ _
    split
    ·exact zero_sz _ _
    split
    ·exact zero_sz _ _
    ·rename_i d hd
     have h1 := uJh L zero d 0 hd (zero_sz _ _)
     have h2 : Sz b.length b.length d := ⟨fun s hs => Nat.le_trans (h1.1 s hs) (cut_le _ _ _), Nat.le_trans h1.2.1 (cut_le _ _ _), by have := h1.2.2; omega⟩
     split
     ·exact zero_sz _ _
     split
     ·exact zero_sz _ _
     ·exact h2
end Dy
theorem Clo.object_sz (F : List Vf.Nd) (i : Int) : Dy.Sz 65536 65536 (Clo.object F i).1.dyn := by
 have hb := Nat.le_trans (Nat.le_refl _) (show (Clo.bytes F i).length <= 65536 by
  unfold Clo.bytes Vf.readOf
  split
  ·exact Nat.zero_le _
  split
  ·exact Nat.zero_le _
  split
  ·exact Nat.zero_le _
  ·exact Nat.le_trans (List.length_take_le _ _) (by decide))
 unfold Clo.object
 split
 ·exact Dy.zero_sz _ _
 split
 ·exact Dy.zero_sz _ _
 split
 ·exact Dy.zero_sz _ _
 ·have h := Dy.parse_sz (Clo.bytes F i) (El.parse (Clo.bytes F i)).2.segs
  exact ⟨fun s hs => Nat.le_trans (h.1 s hs) hb, Nat.le_trans h.2.1 hb, Nat.le_trans h.2.2 hb⟩
theorem Clo.object_ino {F : List Vf.Nd} {i : Int} (h : (Clo.object F i).2 = 0) : (Clo.object F i).1.ino = i := by
 unfold Clo.object at h ⊢
 split
 ·rename_i h1; rw [if_pos h1] at h; exact absurd h h1
 rename_i h1
 rw [if_neg h1] at h
 split
 ·rename_i h2; rw [if_pos h2] at h; exact absurd h h2
 rename_i h2
 rw [if_neg h2] at h
 split
 ·rename_i h3; rw [if_pos h3] at h; exact absurd h h3
 ·rfl
end Go.Proofs.YtiiiblmhlhikkaaGreatDoor
namespace Go.Proofs.YtiiiblmhlhikkaaGreatDoor
open Go.RowKit
def ObA.d (x : ObA) : List Value := [.slice x.A1 x.o.dyn.needed.length x.c1, .string x.o.dyn.soname, .string x.o.dyn.run, .slice x.A2 x.o.dyn.syms.length x.c2, .slice x.A3 x.o.dyn.relas.length x.c3]
def obC (T : List ObA) : List Value := T.flatMap ObA.l
def dyC (T : List ObA) : List Value := T.flatMap ObA.d
def kyC (T : List ObA) : List (Value × Value) := T.map fun x => (.int .i64 x.o.ino, .agg #[])
section
variable {w w' : World} {base n c z : Nat} {A : Option Addr} {e : TypeId} {xs : List Value}
theorem zJu (h : w.ownsRow base e z (.slice A n c) n xs) (hk : ∀ k, (Value.slice A n c).ownBlock = some k -> w'.heap[k]? = w.heap[k]?) : w'.ownsRow base e z (.slice A n c) n xs :=
 ⟨h.1, h.2.imp id (by rintro ⟨k, cap, cur, e1, e2, e3, r⟩; exact ⟨k, cap, cur, e1, e2, (hk k (by rw [e1]; rfl)).trans e3, r⟩)⟩
theorem wJ1 (h : w.ownsRow base e z (.slice A n c) n xs) {k : Nat} (hk : (Value.slice A n c).ownBlock = some k) : ∃ cur, w.heap[k]? = some (.cells cur e (0, 0)) := by
 rcases h.2 with ⟨e0, -⟩ | ⟨q, cap, cur, e1, e2, e3, -⟩
 ·rw [e0] at hk; cases hk
 ·rw [e1] at hk
  have : q = k := Option.some.inj hk
  subst this
  exact ⟨cur, e3⟩
theorem vJa (h : w.ownsRow base e z (.slice A n c) n xs) {g : Nat} {t : TypeId} {l : List Value} (hb : Blk w g t l) (hne : t ≠ e) : ∀ k, (Value.slice A n c).ownBlock = some k -> k ≠ g := by
 intro k hk e0
 obtain ⟨cur, h1⟩ := wJ1 h hk
 unfold Blk at hb
 rw [e0, hb] at h1
 simp at h1
 exact hne h1.2
theorem wJ2 (h : w.ownsRow base e z (.slice A n c) n xs) {g : Nat} {d : TypeDesc} {m : List (Value × Value)} (hb : MapB w g d m) : ∀ k, (Value.slice A n c).ownBlock = some k -> k ≠ g := by
 intro k hk e0
 obtain ⟨cur, h1⟩ := wJ1 h hk
 obtain ⟨⟨es, clk, h2, _⟩, _, _⟩ := hb
 rw [e0, h2] at h1
 simp at h1
theorem own_neO {base2 n2 c2 z2 : Nat} {A2 : Option Addr} {e2 : TypeId} {xs2 : List Value} (h : w.ownsRow base e z (.slice A n c) n xs) (h2 : w.ownsRow base2 e2 z2 (.slice A2 n2 c2) n2 xs2) (hne : e ≠ e2) : ∀ k, (Value.slice A n c).ownBlock = some k -> some k ≠ (Value.slice A2 n2 c2).ownBlock := by
 intro k hk e0
 obtain ⟨cur, h1⟩ := wJ1 h hk
 obtain ⟨cur2, h3⟩ := wJ1 h2 e0.symm
 rw [h1] at h3
 simp at h3
 exact hne h3.2
theorem own_neQ {base2 n2 c2 z2 : Nat} {A2 : Option Addr} {e2 : TypeId} {xs2 : List Value} (h : w.ownsRow base e z (.slice A n c) n xs) (h2 : QRow w base2 e2 z2 A2 n2 c2 xs2) (hne : e ≠ e2) : ∀ k, (Value.slice A n c).ownBlock = some k -> some k ≠ qblk A2 c2 := by
 intro k hk e0
 obtain ⟨cur, h1⟩ := wJ1 h hk
 exact h2.not h1 hne e0.symm
theorem ObM.keep {x : ObA} (h : ObM w base x) (hk : ∀ (e9 : TypeId) (z9 : Nat) (A9 : Option Addr) (n9 c9 : Nat) (xs9 : List Value), (e9 = 58 \/ e9 = 9 \/ e9 = 142 \/ e9 = 144) -> w.ownsRow base e9 z9 (.slice A9 n9 c9) n9 xs9 -> ∀ k, (Value.slice A9 n9 c9).ownBlock = some k -> w'.heap[k]? = w.heap[k]?) : ObM w' base x :=
 ⟨zJu h.segs (hk _ _ _ _ _ _ (.inl rfl) h.segs), ⟨zJu h.dyn.needed (hk _ _ _ _ _ _ (.inr (.inl rfl)) h.dyn.needed), zJu h.dyn.syms (hk _ _ _ _ _ _ (.inr (.inr (.inl rfl))) h.dyn.syms), zJu h.dyn.relas (hk _ _ _ _ _ _ (.inr (.inr (.inr rfl))) h.dyn.relas)⟩⟩
end
structure CloS (w wr : World) (gm gq : Nat) (T : List ObA) (Aa : Option Addr) (ca q : Nat) (Aq : Option Addr) (m cq : Nat) : Prop where
 bel : Below w.heap.size w wr
 all : wr.ownsRow w.heap.size 56 11 (.slice Aa T.length ca) T.length (obC T)
 obs : ∀ x ∈ T, ObM wr w.heap.size x
 map : MapB wr gm (.int .i64) (kyC T)
 que : Blk wr gq 96 [.slice Aq m cq]
 row : QRow wr w.heap.size 54 5 Aq m cq (dyC (T.drop q))
 mq : m + q = T.length
 gmB : w.heap.size <= gm
 gqB : w.heap.size <= gq
structure CloP (w wr : World) (gm gq : Nat) (T : List ObA) (Aa : Option Addr) (ca : Nat) (Aq : Option Addr) (m cq : Nat) (xs : List Value) : Prop where
 bel : Below w.heap.size w wr
 all : wr.ownsRow w.heap.size 56 11 (.slice Aa T.length ca) T.length (obC T)
 obs : ∀ x ∈ T, ObM wr w.heap.size x
 map : MapB wr gm (.int .i64) (kyC T)
 que : Blk wr gq 96 [.slice Aq m cq]
 row : QRow wr w.heap.size 54 5 Aq m cq xs
 gmB : w.heap.size <= gm
 gqB : w.heap.size <= gq
theorem CloS.toP {w wr : World} {gm gq : Nat} {T : List ObA} {Aa : Option Addr} {ca q : Nat} {Aq : Option Addr} {m cq : Nat} (h : CloS w wr gm gq T Aa ca q Aq m cq) : CloP w wr gm gq T Aa ca Aq m cq (dyC (T.drop q)) := ⟨h.bel, h.all, h.obs, h.map, h.que, h.row, h.gmB, h.gqB⟩
section
variable {w wr w' : World} {gm gq : Nat} {T : List ObA} {Aa : Option Addr} {ca q : Nat} {Aq : Option Addr} {m cq : Nat}
theorem CloS.keep (h : CloS w wr gm gq T Aa ca q Aq m cq) (hb : Below wr.heap.size wr w') : CloS w w' gm gq T Aa ca q Aq m cq :=
 ⟨h.bel.trans (hb.mono h.bel.size), own_below h.all hb, fun x hx => (h.obs x hx).belowSz hb, h.map.belowSz hb, h.que.belowSz hb, h.row.below hb, h.mq, h.gmB, h.gqB⟩
theorem CloP.grow {Aq2 : Option Addr} {m2 c2 q2 : Nat} {r : Option Nat} {xs : List Value} (h : CloP w wr gm gq T Aa ca Aq m cq xs) (hg : QGrow wr w' w.heap.size gq r) (hr : r = none \/ r = qblk Aq cq)
  (hq : Blk w' gq 96 [.slice Aq2 m2 c2]) (hrow : QRow w' w.heap.size 54 5 Aq2 m2 c2 (dyC (T.drop q2))) (hm : m2 + q2 = T.length) : CloS w w' gm gq T Aa ca q2 Aq2 m2 c2 := by
 have key : ∀ (e9 : TypeId) (z9 : Nat) (A9 : Option Addr) (n9 c9 : Nat) (xs9 : List Value), e9 ≠ 96 -> e9 ≠ 54 -> wr.ownsRow w.heap.size e9 z9 (.slice A9 n9 c9) n9 xs9 -> ∀ k, (Value.slice A9 n9 c9).ownBlock = some k -> w'.heap[k]? = wr.heap[k]? := by
  intro e9 z9 A9 n9 c9 xs9 h1 h2 ho k hk
  refine hg.block k (ho.lt k hk).2 (vJa ho h.que (Ne.symm h1) k hk) ?_
  rcases hr with rfl | rfl
  ·intro e; cases e
  ·exact own_neQ ho h.row h2 k hk
 refine ⟨h.bel.trans hg.bel, zJu h.all (key _ _ _ _ _ _ (by decide) (by decide) h.all), fun x hx => (h.obs x hx).keep (fun e9 z9 A9 n9 c9 xs9 he ho => key _ _ _ _ _ _ (by rcases he with rfl | rfl | rfl | rfl <;> decide) (by rcases he with rfl | rfl | rfl | rfl <;> decide) ho), h.map.keep (hg.block gm h.map.lt ?_ ?_), hq, hrow, hm, h.gmB, h.gqB⟩
 ·intro e
  obtain ⟨⟨es, clk, h2, _⟩, _, _⟩ := h.map
  have hb := h.que
  unfold Blk at hb
  rw [e, hb] at h2
  simp at h2
 ·rcases hr with rfl | rfl
  ·intro e; cases e
  ·intro e
   obtain ⟨⟨es, clk, h2, _⟩, _, _⟩ := h.map
   rcases h.row.2.2.2 with h0 | ⟨b, off, rfl, g1, g2, ⟨arr, fr, gt⟩, -⟩
   ·unfold qblk at e
    rw [if_pos h0] at e
    cases e
   ·have hc : 0 < cq := by
     rcases Nat.eq_zero_or_pos cq with h0 | h0
     ·unfold qblk at e
      rw [if_pos h0] at e
      cases e
     ·exact h0
    rw [yJw hc] at e
    have : gm = b := by injection e
    rw [this, gt] at h2
    simp at h2
theorem CloS.grow {Aq2 : Option Addr} {m2 c2 q2 : Nat} {r : Option Nat} (h : CloS w wr gm gq T Aa ca q Aq m cq) (hg : QGrow wr w' w.heap.size gq r) (hr : r = none \/ r = qblk Aq cq)
  (hq : Blk w' gq 96 [.slice Aq2 m2 c2]) (hrow : QRow w' w.heap.size 54 5 Aq2 m2 c2 (dyC (T.drop q2))) (hm : m2 + q2 = T.length) : CloS w w' gm gq T Aa ca q2 Aq2 m2 c2 := h.toP.grow hg hr hq hrow hm
theorem CloS.put {x : ObA} {w2 w3 : World} {A2 : Option Addr} {c2 : Nat} {W : World} (h : CloS w wr gm gq T Aa ca q Aq m cq) (hx : ObM wr w.heap.size x) (hm : MapB w2 gm (.int .i64) (kyC (T ++ [x]))) (hg : wr.grownBy w2 (some gm)) (hsz : w2.heap.size = wr.heap.size)
  (hW : Below w2.heap.size w2 W) (ho : w3.ownsRow w.heap.size 56 11 (.slice A2 (T.length + 1) c2) (T.length + 1) (obC T ++ x.l)) (hg3 : W.grownBy w3 (Value.slice Aa T.length ca).ownBlock) :
  CloP w w3 gm gq (T ++ [x]) A2 c2 Aq m cq (dyC (T.drop q)) := by
 have hgmne : ∀ (e9 : TypeId) (z9 : Nat) (A9 : Option Addr) (n9 c9 : Nat) (xs9 : List Value), wr.ownsRow w.heap.size e9 z9 (.slice A9 n9 c9) n9 xs9 -> ∀ k, (Value.slice A9 n9 c9).ownBlock = some k -> k ≠ gm := fun e9 z9 A9 n9 c9 xs9 ho => wJ2 ho h.map
 have all2 : w2.ownsRow w.heap.size 56 11 (.slice Aa T.length ca) T.length (obC T) := zJu h.all (fun k hk => hg.block k (h.all.lt k hk).2 (fun e => hgmne _ _ _ _ _ _ h.all k hk (by injection e)))
 have allW := own_below all2 hW
 have hgq : gq ≠ gm := by
  intro e
  obtain ⟨⟨es, clk, h2, _⟩, _, _⟩ := h.map
  have hb := h.que
  unfold Blk at hb
  rw [<- e, hb] at h2
  simp at h2
 have hqW : Blk W gq 96 [.slice Aq m cq] := Blk.belowSz (show Blk w2 gq _ _ from (hg.block gq h.que.lt (fun e => hgq (by injection e))).trans h.que) hW
 have keepM : ∀ {y : ObA}, ObM wr w.heap.size y -> ObM w3 w.heap.size y := fun hy => by
  have h2 : ObM w2 w.heap.size _ := hy.keep (w' := w2) (fun e9 z9 A9 n9 c9 xs9 he ho k hk => hg.block k (ho.lt k hk).2 (fun e => hgmne _ _ _ _ _ _ ho k hk (by injection e)))
  have h3 := h2.belowSz hW
  exact h3.keep (fun e9 z9 A9 n9 c9 xs9 he ho k hk => hg3.block k (ho.lt k hk).2 (own_neO ho allW (by rcases he with rfl | rfl | rfl | rfl <;> decide) k hk))
 have hsW := hW.size
 refine ⟨?_, ?_, ?_, ?_, ?_, ?_, h.gmB, h.gqB⟩
 ·refine ((h.bel.grown hg h.bel.size (fun k hk => by injection hk with hk; rw [<- hk]; exact h.gmB)).trans (hW.mono (by rw [hsz]; exact h.bel.size))).grown hg3 (by have := h.bel.size; omega) (fun k hk => (allW.lt k hk).1)
 ·rw [List.length_append]
  have e : obC (T ++ [x]) = obC T ++ x.l := by unfold obC; rw [List.flatMap_append]; simp
  rw [e]
  exact ho
 ·intro y hy
  rcases List.mem_append.1 hy with hy | hy
  ·exact keepM (h.obs y hy)
  ·rw [List.mem_singleton] at hy
   subst hy
   exact keepM hx
 ·have hmW := hm.belowSz hW
  refine hmW.keep (hg3.block gm hmW.lt (fun e => ?_))
  exact wJ2 allW hmW gm e.symm rfl
 ·exact (hg3.block gq hqW.lt (fun e => vJa allW hqW (by decide) gq e.symm rfl)).trans hqW
 ·have hne2 : qblk Aq cq ≠ some gm := by
   intro e
   obtain ⟨⟨es, clk, h2, _⟩, _, _⟩ := h.map
   rcases h.row.2.2.2 with h0 | ⟨b, off, rfl, g1, g2, ⟨arr, fr, gt⟩, -⟩
   ·unfold qblk at e
    rw [if_pos h0] at e
    cases e
   ·have hc : 0 < cq := by
     rcases Nat.eq_zero_or_pos cq with h0 | h0
     ·unfold qblk at e
      rw [if_pos h0] at e
      cases e
     ·exact h0
    rw [yJw hc] at e
    have : b = gm := by injection e
    rw [<- this, gt] at h2
    simp at h2
  have r2 := h.row.keep (w' := w2) (by rw [hsz]; exact Nat.le_refl _) (fun b hb hl => hg.block b hl (fun e => hne2 (by rw [hb, e])))
  have rW := r2.below hW
  exact rW.keep hg3.size (fun b hb hl => hg3.block b hl (fun e => by
   obtain ⟨cur, h1⟩ := wJ1 allW e.symm
   exact rW.not h1 (by decide) hb))
theorem CloP.growBlk {r : Option Nat} {k : Nat} {t : TypeId} {l xs : List Value} (h : CloP w wr gm gq T Aa ca Aq m cq xs) (hg : QGrow wr w' w.heap.size gq r) (hr : r = none \/ r = qblk Aq cq) (hb : Blk wr k t l) (h1 : t ≠ 96) (h2 : t ≠ 54 \/ qblk Aq cq ≠ some k) : Blk w' k t l := by
 refine (hg.block k hb.lt (fun e => ?_) (fun e => ?_)).trans hb
 ·have hq := h.que
  unfold Blk at hq hb
  rw [e, hq] at hb
  simp at hb
  exact h1 hb.2.symm
 ·rcases hr with rfl | rfl
  ·cases e
  ·rcases h2 with h2 | h2
   ·exact h.row.not hb h2 e.symm
   ·exact h2 e.symm
theorem CloS.growBlk {r : Option Nat} {k : Nat} {t : TypeId} {l : List Value} (h : CloS w wr gm gq T Aa ca q Aq m cq) (hg : QGrow wr w' w.heap.size gq r) (hr : r = none \/ r = qblk Aq cq) (hb : Blk wr k t l) (h1 : t ≠ 96) (h2 : t ≠ 54 \/ qblk Aq cq ≠ some k) : Blk w' k t l := h.toP.growBlk hg hr hb h1 h2
theorem CloS.putBlk {w2 w3 W : World} {k : Nat} {t : TypeId} {l : List Value} (h : CloS w wr gm gq T Aa ca q Aq m cq) (hg : wr.grownBy w2 (some gm)) (hW : Below w2.heap.size w2 W) (hg3 : W.grownBy w3 (Value.slice Aa T.length ca).ownBlock) (hb : Blk wr k t l) (h1 : t ≠ 56) : Blk w3 k t l := by
 have hkm : k ≠ gm := by
  intro e
  obtain ⟨⟨es, clk, h2, _⟩, _, _⟩ := h.map
  unfold Blk at hb
  rw [<- e, hb] at h2
  simp at h2
 have hb2 : Blk w2 k t l := (hg.block k hb.lt (fun e => hkm (by injection e))).trans hb
 have hbW := hb2.belowSz hW
 have all2 : w2.ownsRow w.heap.size 56 11 (.slice Aa T.length ca) T.length (obC T) := zJu h.all (fun k hk => hg.block k (h.all.lt k hk).2 (fun e => wJ2 h.all h.map k hk (by injection e)))
 exact (hg3.block k hbW.lt (fun e => vJa (own_below all2 hW) hbW h1 k e.symm rfl)).trans hbW
theorem CloS.setD {bd : Nat} {l : List Value} {cs : Array Value} (h : CloS w wr gm gq T Aa ca q Aq m cq) (hb : Blk wr bd 54 l) (hne : qblk Aq cq ≠ some bd) (hB : w.heap.size <= bd) : CloS w (wr.setRow bd cs) gm gq T Aa ca q Aq m cq := by
 have hk : ∀ k, k ≠ bd -> (wr.setRow bd cs).heap[k]? = wr.heap[k]? := fun k hk => setRow_other _ _ _ _ hk
 refine ⟨below_setRow h.bel hB _, zJu h.all (fun k e => hk k (vJa h.all hb (by decide) k e)), fun x hx => (h.obs x hx).keep (fun e9 z9 A9 n9 c9 xs9 he ho k e => hk k (vJa ho hb (by rcases he with rfl | rfl | rfl | rfl <;> decide) k e)), h.map.keep (hk gm ?_), (hk gq ?_).trans h.que, h.row.keep (by simp [World.setRow]) (fun b e _ => hk b (fun e2 => hne (e2 ▸ e))), h.mq, h.gmB, h.gqB⟩
 ·intro e
  obtain ⟨⟨es, clk, h2, _⟩, _, _⟩ := h.map
  unfold Blk at hb
  rw [e, hb] at h2
  simp at h2
 ·intro e
  have hq := h.que
  unfold Blk at hb hq
  rw [e, hb] at hq
  simp at hq
structure CloD (w wr : World) (gm gq : Nat) (T : List ObA) (Aa : Option Addr) (ca i : Nat) (Aq : Option Addr) (m cq : Nat) (crl : List Value) (bd : Nat) (x : ObA) : Prop where
 s : CloS w wr gm gq T Aa ca (i + 1) Aq m cq
 cr : Blk wr w.heap.size 26 crl
 d : Blk wr bd 54 x.d
 hq : qblk Aq cq ≠ some bd
 bdB : w.heap.size <= bd
 at_ : T[i]? = some x
 sz : ∀ y ∈ T, Dy.Sz 65536 65536 y.o.dyn
 le : T.length <= 8
theorem CloD.keep {crl : List Value} {bd i : Nat} {x : ObA} (h : CloD w wr gm gq T Aa ca i Aq m cq crl bd x) (hb : Below wr.heap.size wr w') : CloD w w' gm gq T Aa ca i Aq m cq crl bd x :=
 ⟨h.s.keep hb, h.cr.belowSz hb, h.d.belowSz hb, h.hq, h.bdB, h.at_, h.sz, h.le⟩
end
open Go.RowKit
def MapIs (w : World) (g : Nat) (k : IntKind) (m : List (Int × Value)) : Prop := ∃ es clk, w.heap[g]? = some (.map es clk) /\ es.toList.map (fun e => (e.key, e.val)) = m.map (fun p => (Value.int k p.1, p.2))
section
variable {P : Program} {t kt e : TypeId} {k kd : IntKind} {w : World} {g : Nat} {m : List (Int × Value)} {x : Int} {v : Value}
theorem MapIs.nil (w : World) : MapIs (w.alloc (.map #[] 0)) w.heap.size k [] := ⟨#[], 0, heap_alloc_new _ _, rfl⟩
theorem MapIs.keep {w' : World} (h : MapIs w g k m) (hk : w'.heap[g]? = w.heap[g]?) : MapIs w' g k m := by
 obtain ⟨es, clk, hg, hm⟩ := h
 exact ⟨es, clk, hk.trans hg, hm⟩
theorem MapIs.alloc (h : MapIs w g k m) (o : Obj) : MapIs (w.alloc o) g k m := by
 obtain ⟨es, clk, hg, hm⟩ := h
 exact ⟨es, clk, (Below.heap_alloc _ _ _ (Array.getElem?_eq_some_iff.1 hg).1).trans hg, hm⟩
theorem MapIs.lt (h : MapIs w g k m) : g < w.heap.size := by
 obtain ⟨es, clk, hg, hm⟩ := h
 exact (Array.getElem?_eq_some_iff.1 hg).1
end
open Go.RowKit
def fs : Nat -> List Int
 | 1 => [5, 6, 7]
 | 3 => [0]
 | 5 => [0, 1, 2, 3, 4]
 | 6 => [0, 1]
 | 7 => [0, 1, 2]
 | 8 => [0, 1]
 | 9 => [0, 8]
 | 10 => [5, 0]
 | 11 => [0]
 | 12 => [0, 1]
 | _ => []
theorem uJa (s : ByteArray) (a b : Nat) : s.extract a b = Ev.ba ((s.data.toList.drop a).take (b - a)) := by
 refine ByteArray.ext ?_
 rw [ByteArray.data_extract]
 apply Array.toList_inj.1
 rw [Array.toList_extract]
 simp [Ev.ba, List.extract]
theorem uJe (l : List UInt8) : (Ev.ba l).toList.isEmpty = l.isEmpty := by rw [Lib.toList_data, Ev.ba_data]
def np (p : ByteArray -> Bool) (x : ByteArray) : Bool := !p x
theorem np_keep {l : List ByteArray} {p : ByteArray -> Bool} {j : Nat} {x : ByteArray} (hx : l[j]? = some x) (hp : p x = false) : (l.take (j + 1)).filter (np p) = (l.take j).filter (np p) ++ [x] := by
 rw [List.take_add_one, hx, List.filter_append]
 simp [np, hp]
theorem np_drop {l : List ByteArray} {p : ByteArray -> Bool} {j : Nat} {x : ByteArray} (hx : l[j]? = some x) (hp : p x = true) : (l.take (j + 1)).filter (np p) = (l.take j).filter (np p) := by
 rw [List.take_add_one, hx, List.filter_append]
 simp [np, hp]
structure DelS (p : ByteArray -> Bool) (l : List ByteArray) (n j i : Nat) (Y : List ByteArray) : Prop where
 len : Y.length = n
 front : Y.take i = (l.take j).filter (np p)
 i_ : ((l.take j).filter (np p)).length = i
 rest : ∀ m, j <= m -> Y[m]? = l[m]?
theorem DelS.le {p : ByteArray -> Bool} {l Y : List ByteArray} {n j i : Nat} (h : DelS p l n j i Y) : i <= j := by
 have := h.i_
 have h2 := List.length_filter_le (np p) (l.take j)
 have h3 : (l.take j).length <= j := List.length_take_le _ _
 omega
theorem DelS.skip {p : ByteArray -> Bool} {l Y : List ByteArray} {n j i : Nat} {x : ByteArray} (h : DelS p l n j i Y) (hx : l[j]? = some x) (hp : p x = true) : DelS p l n (j + 1) i Y := by
 have e := np_drop hx hp
 exact ⟨h.len, by rw [e]; exact h.front, by rw [e]; exact h.i_, fun m hm => h.rest m (by omega)⟩
theorem DelS.keep {p : ByteArray -> Bool} {l Y : List ByteArray} {n j i : Nat} {x : ByteArray} (h : DelS p l n j i Y) (hx : l[j]? = some x) (hp : p x = false) (hj : j < n) : DelS p l n (j + 1) (i + 1) (Y.set i x) := by
 have e := np_keep hx hp
 have hle := h.le
 have hY : i < Y.length := by rw [h.len]; omega
 refine ⟨by rw [List.length_set]; exact h.len, ?_, by rw [e, List.length_append, h.i_]; rfl, fun m hm => ?_⟩
 ·rw [e, <- h.front, List.take_add_one, List.take_set_of_le (Nat.le_refl _), List.getElem?_set_self hY]
  rfl
 ·rw [List.getElem?_set_ne (by omega)]
  exact h.rest m (by omega)
end Go.Proofs.YtiiiblmhlhikkaaGreatDoor
namespace Go.Proofs.YtiiiblmhlhikkaaGreatDoor
open Go.RowKit Go.Shelf
attribute [local go_sem] Oper.semAt_some
theorem spl_no {v : List UInt8} (h : Lib.indexByte v 58 = -1) : Ev.spl [] v = [v] := by
 have hf : ∀ c ∈ v, c ≠ 58 := by
  intro c hc e
  subst e
  obtain ⟨k, hk⟩ := List.mem_iff_getElem?.1 hc
  exact Lib.indexByte_none h k hk
 have := Ev.spl_free [] v [] hf
 simp only [List.append_nil, List.nil_append] at this
 rw [this]
 rfl
theorem spl_at {v : List UInt8} {i : Nat} (h : Lib.indexByte v 58 = i) : Ev.spl [] v = v.take i :: Ev.spl [] (v.drop (i + 1)) := by
 obtain ⟨h1, h2⟩ := Lib.indexByte_some h
 have hlt := (List.getElem?_eq_some_iff.1 h1).1
 have e : v = v.take i ++ 58 :: v.drop (i + 1) := by
  have := (List.getElem?_eq_some_iff.1 h1).2
  rw [<- this, <- List.drop_eq_getElem_cons hlt, List.take_append_drop]
 have hf : ∀ c ∈ v.take i, c ≠ 58 := by
  intro c hc e
  subst e
  obtain ⟨k, hk⟩ := List.mem_iff_getElem?.1 hc
  have hkl : k < i := by have := (List.getElem?_eq_some_iff.1 hk).1; rw [List.length_take] at this; omega
  exact h2 k hkl (by rw [List.getElem?_take_of_lt hkl] at hk; exact hk)
 conv => lhs; rw [e]
 rw [Ev.spl_free [] _ _ hf, List.nil_append]
 conv => lhs; unfold Ev.spl
 rw [if_pos rfl]
def leftOf (B : Nat) (w : World) : Nat := match w.cell? ⟨B, 0, none⟩ with
 | some (.string s) => s.size
 | _ => 0
structure ItB (W : World) (B : Nat) (v : List UInt8) : Prop where
 s : Blk W B 9 [.string (Ev.ba v)]
 p : Blk W (B + 1) 9 [.string ⟨#[58]⟩]
 k : Blk W (B + 2) 3 [.int .i64 0]
theorem ItB.keep {W W' : World} {B : Nat} {v : List UInt8} (h : ItB W B v) (hk : ∀ j, B <= j -> j < B + 3 -> W'.heap[j]? = W.heap[j]?) : ItB W' B v :=
 ⟨(hk _ (by omega) (by omega)).trans h.s, (hk _ (by omega) (by omega)).trans h.p, (hk _ (by omega) (by omega)).trans h.k⟩
theorem ItB.left {W : World} {B : Nat} {v : List UInt8} (h : ItB W B v) : leftOf B W = v.length := by
 unfold leftOf
 rw [h.s.cell (i := 0) rfl]
 simp [Ev.ba, ByteArray.size]
set_option maxRecDepth 100000 in
set_option maxHeartbeats 2000000 in
theorem iter_any (F : Fence) (n : Nat) (h8 : F.fn 180) (hF5 : F.fn 67) (hIdx : ∀ (s : ByteArray) (w : World), CallsIn F (n - 1) Tryz.prog 67 #[.string s, .string ⟨#[58]⟩] w fun e w' => e = .returned (.int .i64 (Lib.indexByte s.data.toList 58)) /\ w = w')
  (hro : F.round = none) (hn : 1 <= n) (l B : Nat) (v : List UInt8) (hv : v.length <= maxLen) (J : Nat -> World -> Prop)
  (hJs : ∀ k A u, J k A -> J k (A.setCell ⟨B, 0, none⟩ u))
  (hY : ∀ k p W, J k W -> (Ev.spl [] v)[k]? = some p -> YieldAt F (n - 1) Tryz.prog l #[.string (Ev.ba p)] W fun e W' => e = .returned (.bool true) /\ J (k + 1) W' /\ ∀ j, B <= j -> j < B + 3 -> W'.heap[j]? = W.heap[j]?)
  (W : World) (hb : ItB W B v) (h0 : J 0 W) :
  CallsIn F n Tryz.prog 180 #[.func (.yield l) #[] #[], .pointer (some ⟨B + 1, 0, none⟩), .pointer (some ⟨B, 0, none⟩), .pointer (some ⟨B + 2, 0, none⟩)] W fun e W' => (∃ v, e = .returned v) /\ J (Ev.spl [] v).length W' := by
 refine callsIn_of_wp Tryz.func180 rfl h8 ?_ hro
 simp only [Tryz.ntmps180, List.size_toArray, List.length_cons, List.length_nil, Nat.reduceAdd, Nat.reduceSub, Array.replicate_succ, Array.replicate_zero, List.push_toArray, List.append_toArray, List.nil_append, List.cons_append]
 unfold maxLen at hv
 have cp := hb.p.cell (i := 0) rfl
 have Hb := zJ2 hb
 have HY := zJ2 hY
 have HJs := zJ2 hJs
 have H0 := zJ2 h0
 have HI := zJ2 hIdx
 clear hb hY hJs h0 hIdx
 gi_wp2
 gi_loopw [7] (fun _ wr => ∃ (k : Nat) (v' : List UInt8), ItB wr B v' /\ J k wr /\ (Ev.spl [] v).drop k = Ev.spl [] v' /\ v'.length <= v.length) (fun _ wr => leftOf B wr)
 case atStart => exact ⟨0, v, zJ1 Hb, zJ1 H0, rfl, Nat.le_refl _⟩
 case round =>
  obtain ⟨k, v', hb', hJ, hdr, hle⟩ := hrel
  have cs := hb'.s.cell (i := 0) rfl
  have cp := hb'.p.cell (i := 0) rfl
  have ck := hb'.k.cell (i := 0) rfl
  have fs := hb'.s.free 0
  have hl := hb'.left
  have Hb' := zJ2 hb'
  have HJ := zJ2 hJ
  have Hdr := zJ2 hdr
  have Hl := zJ2 hl
  have hge := Lib.indexByte_ge v' 58
  have K := zJ2 (fun w => (zJ1 HI) (Ev.ba v') w)
  have hdat : (Ev.ba v').data.toList = v' := Ev.ba_data v'
  have hsz : (Ev.ba v').size = v'.length := by simp [Ev.ba, ByteArray.size]
  by_cases hneg : Lib.indexByte v' 58 = -1
  ·have hsp := spl_no hneg
   rw [hsp] at hdr
   have hk : (Ev.spl [] v)[k]? = some v' := by
    have := congrArg (fun L : List (List UInt8) => L[0]?) hdr
    simpa [List.getElem?_drop] using this
   have hlen : (Ev.spl [] v).length = k + 1 := by
    have := congrArg List.length hdr
    rw [List.length_drop] at this
    have hlt := (List.getElem?_eq_some_iff.1 hk).1
    simp at this
    omega
   have hy := (zJ1 HY) k v' wr hJ hk
   have K2 : ∀ w, CallsIn F (n - 1) Tryz.prog 67 #[.string (Ev.ba v'), .string ⟨#[58]⟩] w fun e w' => e = .returned (.int .i64 (-1)) /\ w = w' := by
    intro w
    have := (zJ1 K) w
    rwa [hdat, hneg] at this
   replace K2 := zJ2 K2
   have Hlen := zJ2 hlen
   clear hdr hk hlen hJ hb' hl hle hsp hneg hge hdat hsz
   obtain ⟨fn, tmps, assign, body, hy, hR⟩ := hy
   gi_wp2_with (gi_at_call 67; refine ((zJ1 K2) _).mono ?_; rintro e w1 ⟨rfl, rfl⟩)
   refine hR.mono ?_
   rintro e W3 ⟨rfl, hJ3, -⟩
   gi_wp2
   refine bodyPost_end (results_none rfl _ _ _) rfl ?_
   exact ⟨⟨_, rfl⟩, by rw [zJ1 Hlen]; exact hJ3⟩
  ·obtain ⟨i, hi⟩ := Int.eq_ofNat_of_zero_le (show 0 <= Lib.indexByte v' 58 by omega)
   have hsp := spl_at hi
   have hil : i < v'.length := (List.getElem?_eq_some_iff.1 (Lib.indexByte_some hi).1).1
   rw [hsp] at hdr
   have hk : (Ev.spl [] v)[k]? = some (v'.take i) := by
    have := congrArg (fun L : List (List UInt8) => L[0]?) hdr
    simpa [List.getElem?_drop] using this
   have hdr2 : (Ev.spl [] v).drop (k + 1) = Ev.spl [] (v'.drop (i + 1)) := by
    have := congrArg (fun L : List (List UInt8) => L.drop 1) hdr
    simpa [List.drop_drop, Nat.add_comm] using this
   have hy := (zJ1 HY) k (v'.take i) wr hJ hk
   have ex1 : (Ev.ba v').extract 0 i = Ev.ba (v'.take i) := by rw [uJa, hdat]; simp
   have ex2 : (Ev.ba v').extract (i + 1) (Ev.ba v').size = Ev.ba (v'.drop (i + 1)) := by
    rw [uJa, hdat, hsz, List.take_of_length_le (by simp)]
   rw [<- ex1] at hy
   have K2 : ∀ w, CallsIn F (n - 1) Tryz.prog 67 #[.string (Ev.ba v'), .string ⟨#[58]⟩] w fun e w' => e = .returned (.int .i64 (i : Nat)) /\ w = w' := by
    intro w
    have := (zJ1 K) w
    rwa [hdat, hi] at this
   replace K2 := zJ2 K2
   have Hdr2 := zJ2 hdr2
   have Ex2 := zJ2 ex2
   have hszi : (i : Int) + 1 <= ((Ev.ba v').size : Int) := by rw [hsz]; omega
   have hszn : i + 1 <= (Ev.ba v').size := by rw [hsz]; omega
   have hsz2 : (Ev.ba v').size <= 9223372036854775807 := by rw [hsz]; omega
   have Hsz := zJ2 hsz
   clear hdr hk hdr2 hJ hb' hl hsp hneg hge hdat hsz hi ex1 ex2
   obtain ⟨fn, tmps, assign, body, hy, hR⟩ := hy
   gi_wp2_with (gi_at_call 67; refine ((zJ1 K2) _).mono ?_; rintro e w1 ⟨rfl, rfl⟩)
   refine hR.mono ?_
   rintro e W3 ⟨rfl, hJ3, hk3⟩
   have hb3 := (zJ1 Hb').keep hk3
   have cs3 := hb3.s.cell (i := 0) rfl
   have cp3 := hb3.p.cell (i := 0) rfl
   have fs3 := hb3.s.free 0
   have Hb3 := zJ2 hb3
   have HJ3 := zJ2 hJ3
   clear hb3 hJ3 hk3 cs cp ck fs
   gi_wp2
   go_roundw
   case rel =>
    refine ⟨k + 1, v'.drop (i + 1), ⟨?_, ?_, ?_⟩, (zJ1 HJs) _ _ _ (zJ1 HJ3), zJ1 Hdr2, by rw [List.length_drop]; omega⟩
    ·rw [zJ1 Ex2]
     exact (zJ1 Hb3).s.set 0 _
    ·exact (zJ1 Hb3).p.other (by simp) _
    ·exact (zJ1 Hb3).k.other (by simp) _
   case measure =>
    rw [zJ1 Ex2]
    have h1 : leftOf B (W3.setCell ⟨B, 0, none⟩ (.string (Ev.ba (v'.drop (i + 1))))) = (v'.drop (i + 1)).length := by
     unfold leftOf
     rw [((zJ1 Hb3).s.set 0 (.string (Ev.ba (v'.drop (i + 1))))).cell (i := 0) rfl]
     simp [Ev.ba, ByteArray.size]
    rw [h1, zJ1 Hl, List.length_drop]
    omega
attribute [local go_sem] Oper.semAt_some
def roundEnd (I : Nat -> World -> Prop) (B k : Nat) (W : World) : Exit -> Act -> World -> Prop
 | .normal, _, W' => KeepsOthers W W' /\ (∀ j, B <= j -> j < B + 3 -> W'.heap[j]? = W.heap[j]?) /\ I (k + 1) W'
 | _, _, _ => False
set_option maxHeartbeats 1000000 in
theorem range_split {F : Fence} {n : Nat} {Q : Exit -> Act -> World -> Prop} {a : Act} {w : World} {g : Operand} {p : Tmp} {assign body : Code} (hro : F.round = none) (hn : 2 <= n) (h8 : F.fn 180) (hF5 : F.fn 67)
  (hIdx : ∀ (s : ByteArray) (w : World), CallsIn F (n - 1 - 1) Tryz.prog 67 #[.string s, .string ⟨#[58]⟩] w fun e w' => e = .returned (.int .i64 (Lib.indexByte s.data.toList 58)) /\ w = w')
  (B : Nat) (hg : a.eval g = .func (.func 180) #[] #[.pointer (some ⟨B + 1, 0, none⟩), .pointer (some ⟨B, 0, none⟩), .pointer (some ⟨B + 2, 0, none⟩)]) (hB : B + 3 <= w.heap.size) (v : List UInt8) (hv : v.length <= maxLen) (hb : ItB w B v)
  (I : Nat -> World -> Prop) (hIs : ∀ k A u, I k A -> I k (A.setCell ⟨B, 0, none⟩ u)) (hIa : ∀ k A o, w.heap.size <= A.heap.size -> I k A -> I k (A.alloc o)) (hIp : ∀ k A l o o', w.heap.size <= l -> A.heap[l]? = some o -> o.isCells = false -> I k A -> I k (A.putObj l o')) (h0 : I 0 w)
  (a₁ : List UInt8 -> Act)
  (hassign : ∀ (l : Nat) (x : List UInt8) (W : World) (K : Act -> World -> Prop), K (a₁ x) W -> assign.wpIn (F.inRound l) (n - 1 - 1) Tryz.prog (Exit.then K (fun _ _ _ => False)) { tmps := a.tmps.setIfInBounds p (.string (Ev.ba x)), defers := [] } W)
  (hbody : ∀ (l k : Nat) (x : List UInt8) (W : World), I k W -> (Ev.spl [] v)[k]? = some x -> body.wpIn (F.inRound l) (n - 1 - 1) Tryz.prog (roundEnd I B k W) (a₁ x) W)
  (hdone : ∀ (D : Nat) (W : World), I (Ev.spl [] v).length W -> w.heap.size <= D -> W.heap[D]? = some (.deferred (some [])) -> Q .normal { a with defers := { target := .collected D, args := #[] } :: a.defers } W) :
  (Code.rangeFunc g #[p] assign body).wpIn F n Tryz.prog Q a w := by
 refine wpIn_rangeFunc ?_
 intro fn hfn
 rw [hro]
 obtain ⟨rc, hrc⟩ : ∃ rc : LoopState -> Loop, rc = fun st => { state := st, pending := none, fn, tmps := a.tmps, params := #[p], assign, body, defers := w.heap.size } := ⟨_, rfl⟩
 obtain ⟨W1, hW1⟩ : ∃ W1, (w.alloc (.deferred (some []))).alloc (.loop (rc .ready)) = W1 := ⟨_, rfl⟩
 have hL1 : W1.heap[w.heap.size + 1]? = some (.loop (rc .ready)) := by
  rw [<- hW1]; have := World.alloc_heap_new (w.alloc (.deferred (some []))) (.loop (rc .ready)); rwa [World.size_alloc] at this
 have hK1 : W1.heap[w.heap.size]? = some (.deferred (some [])) := by
  rw [<- hW1]; exact (Below.heap_alloc _ _ _ (by simp)).trans (World.alloc_heap_new w _)
 have hI1 : I 0 W1 := by rw [<- hW1]; exact hIa _ _ _ (by simp) (hIa _ _ _ (Nat.le_refl _) h0)
 have hb1 : ItB W1 B v := hb.keep (fun j _ hj => by rw [<- hW1]; exact (Below.heap_alloc _ _ _ (by simp; omega)).trans (Below.heap_alloc _ _ _ (by omega)))
 refine ⟨w.heap.size + 1, [{ target := .collected w.heap.size, args := #[] }], W1, { target := .fn (.func 180) #[.pointer (some ⟨B + 1, 0, none⟩), .pointer (some ⟨B, 0, none⟩), .pointer (some ⟨B + 2, 0, none⟩)], args := #[.func (.yield (w.heap.size + 1)) #[] #[]] }, W1, 180,
  #[.func (.yield (w.heap.size + 1)) #[] #[], .pointer (some ⟨B + 1, 0, none⟩), .pointer (some ⟨B, 0, none⟩), .pointer (some ⟨B + 2, 0, none⟩)], W1, ?_, ?_, ?_, ?_, fun _ => by omega, ?_⟩
 ·rw [<- hW1, hrc]; exact run_enterLoop_outer _ _ _ _ _
 ·simp only [resolve, hg]
  simp [go_sem]
 ·intro f' hf'; simp [Target.leads] at hf'; subst hf'; exact h8
 ·have eg : ∀ args w, (callFunc 180 args).run Tryz.prog w = .ok (.enter 180 args) w := fun args w => by kernel_rfl
  simp [invoke, go_sem, eg]
 ·refine (iter_any F (n - 1) h8 hF5 hIdx hro (by omega) (w.heap.size + 1) B v hv
   (fun k W => I k W /\ W.heap[w.heap.size + 1]? = some (.loop (rc .ready)) /\ W.heap[w.heap.size]? = some (.deferred (some [])))
   (fun k A u h => ⟨hIs k A u h.1, (heap_setCell_other _ _ _ _ (by show w.heap.size + 1 ≠ B; omega)).trans h.2.1, (heap_setCell_other _ _ _ _ (by show w.heap.size ≠ B; omega)).trans h.2.2⟩)
   ?_ W1 hb1 ⟨hI1, hL1, hK1⟩).mono ?_
  ·rintro k x W ⟨hi, hl, hk⟩ hx
   have hlt : w.heap.size + 1 < W.heap.size := (Array.getElem?_eq_some_iff.1 hl).1
   have hy := run_yield (P := Tryz.prog) (args := #[.string (Ev.ba x)]) hl (by rw [hrc]; rfl)
   rw [hrc] at hy
   refine ⟨fn, _, assign, body, hy, ?_⟩
   refine roundIn_of_wpIn hfn ?_
   have ez : ∀ t : Array Value, ((#[p] : Array Tmp).zip #[Value.string (Ev.ba x)]).foldl (fun tmps q => tmps.setIfInBounds q.1 q.2) t = t.setIfInBounds p (.string (Ev.ba x)) := fun t => by simp
   have ez2 := ez a.tmps
   simp only [] at ez2 ⊢
   rw [ez2]
   refine hassign _ x W _ ?_
   refine ⟨_, run_beginRound hl (by rw [hrc]), ?_⟩
   obtain ⟨W2, hW2⟩ : ∃ W2, W.putObj (w.heap.size + 1) (.loop { rc .ready with state := .busy }) = W2 := ⟨_, rfl⟩
   have hl2 : W2.heap[w.heap.size + 1]? = some (.loop { rc .ready with state := .busy }) := by rw [<- hW2]; exact World.putObj_heap_same hlt
   have hk2 : W2.heap[w.heap.size]? = some (.deferred (some [])) := by rw [<- hW2]; exact (World.putObj_heap_other (by omega)).trans hk
   have hb2 : ∀ j, B <= j -> j < B + 3 -> W2.heap[j]? = W.heap[j]? := fun j _ hj => by rw [<- hW2]; exact World.putObj_heap_other (by omega)
   have hi2 : I k W2 := by rw [<- hW2]; exact hIp _ _ _ _ _ (by omega) hl rfl hi
   rw [hW2]
   refine wpIn_mono (hbody _ k x W2 hi2 hx) ?_
   rintro e a3 W3 hp
   cases e with
   | normal =>
    obtain ⟨hk3, hb3, hi3⟩ := hp
    have hl3 := hk3.same _ _ hl2 rfl
    have hd3 := hk3.same _ _ hk2 rfl
    have hlt3 := (Array.getElem?_eq_some_iff.1 hl3).1
    have hr := run_endRound (P := Tryz.prog) none hl3
    refine ⟨_, _, hr, rfl, ⟨hIp _ _ _ _ _ (by omega) hl3 rfl hi3, ?_, (World.putObj_heap_other (by omega)).trans hd3⟩, fun j h1 h2 => ?_⟩
    ·rw [World.putObj_heap_same hlt3, hrc]
     rfl
    ·rw [World.putObj_heap_other (by omega), hb3 j h1 h2, hb2 j h1 h2]
   | ret => exact hp.elim
   | exit id => exact hp.elim
   | goto t => exact hp.elim
   | panic ch => exact hp.elim
   | outgrown => exact hp.elim
  ·rintro e W2 ⟨⟨v', rfl⟩, hi, hl, hk⟩
   exact ⟨none, _, by have := run_endLoop (P := Tryz.prog) hl (by rw [hrc]; simp); rw [hrc] at this; exact this, hdone _ _ (hIp _ _ _ _ _ (by omega) hl rfl hi) (Nat.le_refl _) ((World.putObj_heap_other (by omega)).trans hk)⟩
attribute [local go_sem] Oper.semAt_some
theorem splitSeq_any (s : ByteArray) (w : World) : Calls Tryz.prog 121 #[.string s, .string ⟨#[58]⟩] w fun e w' => e = .returned (.func (.func 180) #[] #[.pointer (some ⟨w.heap.size + 1, 0, none⟩), .pointer (some ⟨w.heap.size, 0, none⟩), .pointer (some ⟨w.heap.size + 2, 0, none⟩)]) /\
  w' = ((w.alloc (.cells #[.string s] 9)).alloc (.cells #[.string ⟨#[58]⟩] 9)).alloc (.cells #[.int .i64 0] 3) := by
 have K : ∀ w, Calls Tryz.prog 166 #[.string s, .string ⟨#[58]⟩, .int .i64 0] w fun e w' => e = .returned (.func (.func 180) #[] #[.pointer (some ⟨w.heap.size + 1, 0, none⟩), .pointer (some ⟨w.heap.size, 0, none⟩), .pointer (some ⟨w.heap.size + 2, 0, none⟩)]) /\
  w' = ((w.alloc (.cells #[.string s] 9)).alloc (.cells #[.string ⟨#[58]⟩] 9)).alloc (.cells #[.int .i64 0] 3) := by
  intro w
  go_enter Tryz.func166, Tryz.ntmps166
  go_wp2_with fail
  go_ret
  exact ⟨rfl, rfl⟩
 replace K := zJ2 K
 go_enter Tryz.func121, Tryz.ntmps121
 go_wp2_with fail
 refine ((zJ1 K) _).mono ?_
 rintro e w1 ⟨rfl, rfl⟩
 go_wp2_with fail
 go_ret
 exact ⟨rfl, rfl⟩
attribute [local go_sem] Oper.semAt_some
theorem strInfo9 : (Tryz.prog.info? 9).map (fun i => (i.zero, i.size, i.bytes)) = some (some (.string ⟨#[]⟩), 1, 16) := by kernel_rfl
def dots (v : List UInt8) (k : Nat) : List Value := ((Ev.spl [] v).take k).map fun x => Value.string (Ev.dot x)
def LsI (w : World) (v : List UInt8) (k : Nat) (W : World) : Prop :=
 ∃ u, Blk W w.heap.size 50 [u] /\ W.ownsRow (w.heap.size + 4) 9 1 u k (dots v k) /\ Below w.heap.size w W /\ w.heap.size + 4 <= W.heap.size
theorem vJb {W W' : World} {base : Nat} {e : TypeId} {u : Value} {k : Nat} {xs : List Value} (h : W.ownsRow base e 1 u k xs) (hk : ∀ g, u.ownBlock = some g -> W'.heap[g]? = W.heap[g]?) : W'.ownsRow base e 1 u k xs :=
 ⟨h.1, h.2.imp id fun ⟨g, cap, cur, e1, e2, e3, r⟩ => ⟨g, cap, cur, e1, e2, (hk g (by rw [e1]; rfl)).trans e3, r⟩⟩
theorem LsI.set {w W : World} {v : List UInt8} {k : Nat} (h : LsI w v k W) (u' : Value) : LsI w v k (W.setCell ⟨w.heap.size + 1, 0, none⟩ u') := by
 obtain ⟨u, h1, h2, h3, h4⟩ := h
 exact ⟨u, h1.other (by simp) _, vJb h2 (fun g hg => heap_setCell_other _ _ _ _ (by have := (h2.lt g hg).1; show g ≠ w.heap.size + 1; omega)), h3.setCell (by simp) _, by simpa using h4⟩
theorem LsI.alloc {w W : World} {v : List UInt8} {k : Nat} (h : LsI w v k W) (o : Obj) : LsI w v k (W.alloc o) := by
 obtain ⟨u, h1, h2, h3, h4⟩ := h
 exact ⟨u, h1.alloc o, h2.alloc o, h3.alloc h3.size o, by simp; omega⟩
theorem LsI.put {w W : World} {v : List UInt8} {k l : Nat} {o o' : Obj} (h : LsI w v k W) (hl : w.heap.size + 4 <= l) (ho : W.heap[l]? = some o) (hc : o.isCells = false) : LsI w v k (W.putObj l o') := by
 obtain ⟨u, h1, h2, h3, h4⟩ := h
 refine ⟨u, (World.putObj_heap_other (by omega)).trans h1, ownsRow_putObj h2 o' ho hc, ?_, by simpa using h4⟩
 exact h3.trans ⟨rfl, rfl, rfl, by simp, fun k hk => World.putObj_heap_other (by omega)⟩
def ListE (v : List UInt8) (w : World) (e : Ending) (w' : World) : Prop :=
 ∃ u, e = .returned u /\ w'.ownsRow w.heap.size 9 1 u (Ev.list v).length ((Ev.list v).map Value.string) /\ Below w.heap.size w w'
theorem dots_all (v : List UInt8) (hv : v ≠ []) : dots v (Ev.spl [] v).length = (Ev.list v).map Value.string := by
 unfold dots Ev.list
 rw [if_neg hv, List.take_length, List.map_map]
 rfl
theorem dots_next {v x : List UInt8} {k : Nat} (h : (Ev.spl [] v)[k]? = some x) : dots v (k + 1) = dots v k ++ [Value.string (Ev.dot x)] := by
 unfold dots
 rw [List.take_add_one, h, List.map_append]
 rfl
theorem spl_len (v acc : List UInt8) : (Ev.spl acc v).length <= v.length + 1 := by
 induction v generalizing acc with
 | nil => simp [Ev.spl]
 | cons c r ih =>
  unfold Ev.spl
  split
  ·have := ih []; simp; omega
  ·have := ih (acc ++ [c]); simp; omega
set_option maxRecDepth 100000 in
set_option maxHeartbeats 4000000 in
theorem list_in (s : ByteArray) (w : World) (hs : s.size <= 4294967296) (hne : s.data.toList ≠ []) :
  CallsIn Fence.wide 4 Tryz.prog 68 #[.string s] w (ListE s.data.toList w) := by
 have hem : s.toList.isEmpty = false := by
  rw [Lib.toList_data]
  cases h : s.data.toList with
  | nil => exact absurd h hne
  | cons a r => rfl
 have q2 : ¬ s.toList = [] := by rw [<- List.isEmpty_iff, hem]; simp
 have HIx : ∀ n (s : ByteArray) (w : World), CallsIn Fence.wide n Tryz.prog 67 #[.string s, .string ⟨#[58]⟩] w fun e w' => e = .returned (.int .i64 (Lib.indexByte s.data.toList 58)) /\ w = w' := fun n s w => callsIn_wide.2 (vJu (Tryz.strings_Index_one s 58 w))
 have K1 := zJ2 (fun w => splitSeq_any s w)
 have HI := zJ2 HIx
 have Hne := zJ2 hne
 clear HIx hne
 refine callsIn_of_wp_marks Tryz.func68 rfl trivial ?_ rfl
 simp only [Tryz.ntmps68, List.size_toArray, List.length_cons, List.length_nil, Nat.reduceAdd, Nat.reduceSub, Array.replicate_succ, Array.replicate_zero, List.push_toArray, List.append_toArray, List.nil_append, List.cons_append]
 gi_wp2
 refine ⟨trivial, ?_⟩
 refine (callsIn_wide.2 ((zJ1 K1) _)).mono ?_
 rintro e w1 ⟨rfl, rfl⟩
 obtain ⟨W0, hW0⟩ : ∃ W0, ((((w.alloc (.cells #[.slice none 0 0] 50)).alloc (.cells #[.string s] 9)).alloc (.cells #[.string ⟨#[58]⟩] 9)).alloc (.cells #[.int .i64 0] 3)) = W0 := ⟨_, rfl⟩
 have hsz0 : W0.heap.size = w.heap.size + 4 := by rw [<- hW0]; simp
 have hB0 : Below w.heap.size w W0 := by rw [<- hW0]; exact ((((Below.refl _ _).alloc (Nat.le_refl _) _).alloc (by simp) _).alloc (by simp; omega) _).alloc (by simp; omega) _
 have hb0 : Blk W0 w.heap.size 50 [.slice none 0 0] := by rw [<- hW0]; exact (((Blk.new w 50 [.slice none 0 0]).alloc _).alloc _).alloc _
 have e1 : (w.alloc (.cells #[.slice none 0 0] 50)).heap.size = w.heap.size + 1 := by simp
 have hit : ItB W0 (w.heap.size + 1) s.data.toList := by
  have hss : Ev.ba s.data.toList = s := Ev.ba_self s
  refine ⟨?_, ?_, ?_⟩
  ·rw [hss, <- hW0, <- e1]
   exact ((Blk.new _ 9 [.string s]).alloc _).alloc _
  ·rw [<- hW0]
   have := (Blk.new ((w.alloc (.cells #[.slice none 0 0] 50)).alloc (.cells #[.string s] 9)) 9 [.string ⟨#[58]⟩]).alloc (.cells #[.int .i64 0] 3)
   simp only [World.size_alloc] at this
   exact this
  ·rw [<- hW0]
   have := Blk.new (((w.alloc (.cells #[.slice none 0 0] 50)).alloc (.cells #[.string s] 9)).alloc (.cells #[.string ⟨#[58]⟩] 9)) 3 [.int .i64 0]
   simp only [World.size_alloc] at this
   exact this
 have hI0 : LsI w s.data.toList 0 W0 := ⟨.slice none 0 0, hb0, World.ownsRow_nil _ _ _ _, hB0, by omega⟩
 clear hb0
 rw [hW0]
 simp only [e1]
 gi_wp2
 refine range_split (n := 4) rfl (by omega) trivial trivial ((zJ1 HI) _) (w.heap.size + 1) rfl (by omega) s.data.toList (by unfold maxLen; simp; omega) hit
  (LsI w s.data.toList) (fun k A u h => h.set u) (fun k A o _ h => h.alloc o) (fun k A l o o' hl ho hc h => h.put (by omega) ho hc) hI0
  (fun x => { tmps := #[.string s, undef, .pointer (some ⟨w.heap.size, 0, none⟩), .string (Ev.ba x), .string s, .bool false, .string s, .func (.func 180) #[] #[.pointer (some ⟨w.heap.size + 1 + 1, 0, none⟩), .pointer (some ⟨w.heap.size + 1, 0, none⟩), .pointer (some ⟨w.heap.size + 1 + 2, 0, none⟩)], .string (Ev.ba x), undef, undef, undef, undef, undef, undef, undef], defers := [] }) ?assign ?body ?done
 case assign =>
  intro l x W K hK
  gi_wp2
  exact hK
 case body =>
  rintro l k x W ⟨u, hu, ho, hb, h4⟩ hx
  have hkl : k < (Ev.spl [] s.data.toList).length := (List.getElem?_eq_some_iff.1 hx).1
  have hsl := spl_len s.data.toList []
  have hsz : s.data.toList.length = s.size := by simp
  have hk32 : k <= 4294967297 := by omega
  have hnx := dots_next hx
  have cu := hu.cell (i := 0) rfl
  obtain ⟨i0, hi, hz0, hz1, hz2⟩ := info_parts strInfo9
  have hob := fun g (hg : u.ownBlock = some g) => (ho.lt g hg).1
  have Hu := zJ2 hu
  have Ho := zJ2 ho
  have Hb := zJ2 hb
  have Hnx := zJ2 hnx
  have Hob := zJ2 hob
  obtain ⟨d, hd⟩ : ∃ d, Ev.dot x = d := ⟨_, rfl⟩
  rw [hd] at hnx
  have Hd := zJ2 hd
  have fin : ∀ (v' : Value) (w1 : World) (tmp : Obj), w1.ownsRow (w.heap.size + 4) 9 1 v' (k + 1) (dots s.data.toList k ++ [Value.string d]) -> (W.alloc tmp).grownBy w1 u.ownBlock -> tmp.isCells = true -> (w1.cell? ⟨w.heap.size, 0, none⟩ = some u /\ w1.frozen? ⟨w.heap.size, 0, none⟩ = false) /\ KeepsOthers W (w1.setCell ⟨w.heap.size, 0, none⟩ v') /\ (∀ j, w.heap.size + 1 <= j -> j < w.heap.size + 1 + 3 -> (w1.setCell ⟨w.heap.size, 0, none⟩ v').heap[j]? = W.heap[j]?) /\ LsI w s.data.toList (k + 1) (w1.setCell ⟨w.heap.size, 0, none⟩ v') := by
   intro v' w1 tmp ho1 hg1 htc
   have hne : ∀ j, j < w.heap.size + 4 -> u.ownBlock ≠ some j := fun j hj e => by have := (zJ1 Hob) _ e; omega
   have hsame : ∀ j, j < w.heap.size + 4 -> w1.heap[j]? = W.heap[j]? := fun j hj => (hg1.block j (by simp; omega) (fun e => hne j hj e.symm)).trans (Below.heap_alloc _ _ _ (by omega))
   have hbx : Blk w1 w.heap.size 50 [u] := (hsame _ (by omega)).trans (zJ1 Hu)
   refine ⟨⟨hbx.cell (i := 0) rfl, hbx.free 0⟩, ?_, fun j h1 h2 => ?_, ⟨v', ?_, ?_, ?_, ?_⟩⟩
   ·refine ((KeepsOthers.alloc W tmp).trans (KeepsOthers.of_grownBy hg1 fun j o ej hj => ?_)).trans (KeepsOthers.setCell _ _ _)
    rcases ((zJ1 Ho).alloc tmp).2 with ⟨rfl, _⟩ | ⟨g, cap, cur, rfl, _, hgb, _⟩
    ·simp [Value.ownBlock] at ej
    ·obtain rfl : g = j := by simpa [Value.ownBlock] using ej
     rw [hgb] at hj; cases hj; rfl
   ·exact (heap_setCell_other _ _ _ _ (by show j ≠ w.heap.size; omega)).trans (hsame j (by omega))
   ·exact hbx.set 0 v'
   ·rw [dots_next hx, hd]
    exact vJb ho1 (fun g hg => heap_setCell_other _ _ _ _ (by have := (ho1.lt g hg).1; show g ≠ w.heap.size; omega))
   ·exact (((zJ1 Hb).alloc (zJ1 Hb).size tmp).grown hg1 (by simp; omega) (fun g hg => by have := (zJ1 Hob) g hg; omega)).setCell (by simp) _
   ·have := hg1.size
    simp at this ⊢
    omega
  have Hfin := zJ2 fin
  clear hu ho hb hnx hob fin hx hd
  by_cases hxe : x = []
  ·subst hxe
   have b1 : (Ev.ba []).toList.isEmpty = true := by rw [uJe]; rfl
   have b2 : (Ev.ba []).toList = [] := List.isEmpty_iff.1 b1
   obtain rfl : Ev.ba [46] = d := zJ1 Hd
   gi_wp2_with (gi_at_builtin; refine wpListIn_append_own _ rfl _ _ 50 rfl (w.heap.size + 4) 9 i0 (.string ⟨#[]⟩) 1 16 Tryz.underlying50 hi hz0 hz1 hz2 rfl (by decide) _ _ _ rfl ((zJ1 Ho).alloc _) ⟨W.heap.size, 0, none⟩ 1 1 [.string ⟨#[46]⟩] rfl rfl (cell_one_new _ _ _) (by simp [Value.oneCell']) (by unfold maxLen; omega) (by omega) (by simp; omega) ?_; intro v' w1 hown' hgrow _; obtain ⟨g', cap', rfl⟩ := ownsRow_succ hown'; obtain ⟨⟨hc1, hf1⟩, hko, hbs, hls⟩ := (zJ1 Hfin) _ _ _ hown' hgrow rfl; have Hko := zJ2 hko; have Hbs := zJ2 hbs; have Hls := zJ2 hls; clear hko hbs hls hown' hgrow)
   exact ⟨zJ1 Hko, zJ1 Hbs, zJ1 Hls⟩
  ·have b1 : (Ev.ba x).toList.isEmpty = false := by
    rw [uJe]
    cases x with
    | nil => exact absurd rfl hxe
    | cons a r => rfl
   have b2 : ¬ (Ev.ba x).toList = [] := by rw [<- List.isEmpty_iff, b1]; simp
   obtain rfl : Ev.ba x = d := by have := zJ1 Hd; unfold Ev.dot at this; rwa [if_neg hxe] at this
   gi_wp2_with (gi_at_builtin; refine wpListIn_append_own _ rfl _ _ 50 rfl (w.heap.size + 4) 9 i0 (.string ⟨#[]⟩) 1 16 Tryz.underlying50 hi hz0 hz1 hz2 rfl (by decide) _ _ _ rfl ((zJ1 Ho).alloc _) ⟨W.heap.size, 0, none⟩ 1 1 [.string (Ev.ba x)] rfl rfl (cell_one_new _ _ _) (by simp [Value.oneCell']) (by unfold maxLen; omega) (by omega) (by simp; omega) ?_; intro v' w1 hown' hgrow _; obtain ⟨g', cap', rfl⟩ := ownsRow_succ hown'; obtain ⟨⟨hc1, hf1⟩, hko, hbs, hls⟩ := (zJ1 Hfin) _ _ _ hown' hgrow rfl; have Hko := zJ2 hko; have Hbs := zJ2 hbs; have Hls := zJ2 hls; clear hko hbs hls hown' hgrow)
   exact ⟨zJ1 Hko, zJ1 Hbs, zJ1 Hls⟩
 case done =>
  rintro D W ⟨u, hu, ho, hb, h4⟩ hD hK
  rw [dots_all _ (zJ1 Hne)] at ho
  have hll : (Ev.list s.data.toList).length = (Ev.spl [] s.data.toList).length := by unfold Ev.list; rw [if_neg (zJ1 Hne), List.length_map]
  obtain ⟨A, c, rfl⟩ := yJd ho
  have cu := hu.cell (i := 0) rfl
  have fu := hu.free 0
  have hK' := (KeepsOthers.setCell W ⟨w.heap.size, 0, none⟩ (.slice A (Ev.spl [] s.data.toList).length c)).same D _ hK rfl
  have hset : Blk (W.setCell ⟨w.heap.size, 0, none⟩ (.slice A (Ev.spl [] s.data.toList).length c)) w.heap.size 50 [.slice A (Ev.spl [] s.data.toList).length c] := hu.set 0 _
  have hos : (W.setCell ⟨w.heap.size, 0, none⟩ (.slice A (Ev.spl [] s.data.toList).length c)).ownsRow (w.heap.size + 4) 9 1 (.slice A (Ev.spl [] s.data.toList).length c) (Ev.spl [] s.data.toList).length ((Ev.list s.data.toList).map Value.string) := vJb ho (fun g hg => heap_setCell_other _ _ _ _ (by have := (ho.lt g hg).1; show g ≠ w.heap.size; omega))
  have hbs : Below w.heap.size w (W.setCell ⟨w.heap.size, 0, none⟩ (.slice A (Ev.spl [] s.data.toList).length c)) := hb.setCell (by simp) _
  have Hs := zJ2 (And.intro hset (And.intro hos hbs))
  have HK' := zJ2 hK'
  have Hll := zJ2 hll
  clear hu ho hb hK hK' hset hos hbs hll
  gi_wp2
  refine ⟨by simp, .inl ⟨_, _, rfl, run_takeDeferred (zJ1 HK'), ?_⟩⟩
  obtain ⟨hset, hos, hbs⟩ := zJ1 Hs
  have hDl : D ≠ w.heap.size := by omega
  have hc5 : ((W.setCell ⟨w.heap.size, 0, none⟩ (.slice A (Ev.spl [] s.data.toList).length c)).putObj D (.deferred none)).cell? ⟨w.heap.size, 0, none⟩ = some (.slice A (Ev.spl [] s.data.toList).length c) := Blk.cell (i := 0) ((World.putObj_heap_other hDl.symm).trans hset) rfl
  refine ⟨.slice A (Ev.spl [] s.data.toList).length c, ?_, .slice A (Ev.spl [] s.data.toList).length c, rfl, ?_, ?_⟩
  ·simp [results, Tryz.f68, go_sem, hc5]
  ·rw [zJ1 Hll]
   exact zJd (ownsRow_putObj hos _ (zJ1 HK') rfl) (by omega)
  ·exact hbs.trans ⟨rfl, rfl, rfl, by simp, fun k hk => World.putObj_heap_other (by omega)⟩
end Go.Proofs.YtiiiblmhlhikkaaGreatDoor
namespace Go.Proofs.YtiiiblmhlhikkaaGreatDoor
open Go.RowKit
theorem list_any (s : ByteArray) (w : World) (hs : s.size <= 4294967296) : Calls Tryz.prog 68 #[.string s] w (ListE s.data.toList w) := by
 by_cases hne : s.data.toList = []
 ·have hem : s.toList.isEmpty = true := by rw [Lib.toList_data, hne]; rfl
  have q2 : s.toList = [] := List.isEmpty_iff.1 hem
  rw [hne]
  clear hne
  go_enter Tryz.func68, Tryz.ntmps68
  go_wp2_with fail
  exact bodyPost_ret (v := .slice none 0 0) (by simp [results, Tryz.f68, go_sem]) rfl ⟨.slice none 0 0, rfl, World.ownsRow_nil _ _ _ _, (Below.refl _ _).alloc (Nat.le_refl _) _⟩
 ·exact callsIn_wide.1 (list_in s w hs hne)
def TxE (l : List ByteArray) (w : World) (e : Ending) (w' : World) : Prop :=
 ∃ A' c', e = .returned (.slice A' l.length c') /\ w'.ownsRow w.heap.size 9 1 (.slice A' l.length c') l.length (l.map Value.string) /\ Below w.heap.size w w'
theorem listE_tx {v : List UInt8} {w : World} {e : Ending} {w' : World} (h : ListE v w e w') : TxE (Ev.list v) w e w' := by
 obtain ⟨u, rfl, h1, h2⟩ := h
 obtain ⟨A', c', rfl⟩ := yJd h1
 exact ⟨A', c', rfl, h1, h2⟩
theorem xJ8 (v : List UInt8) : (Ev.list v).length <= v.length + 1 := by
 unfold Ev.list
 split
 ·simp
 ·rw [List.length_map]; exact spl_len v []
theorem str_one (l : List ByteArray) : ∀ u ∈ l.map Value.string, u.oneCell' = true := by
 intro u hu
 obtain ⟨x, _, rfl⟩ := List.mem_map.1 hu
 simp [Value.oneCell']
set_option maxRecDepth 100000 in
set_option maxHeartbeats 4000000 in
theorem dirs_any (run lib : ByteArray) (sec : Bool) (w : World) (hr : run.size <= 4294967296) (hlb : lib.size <= 4294967296) : Calls Tryz.prog 39 #[.string run, .string lib, .bool sec] w (TxE (Se.dirs run lib sec) w) := by
 have K1 := zJ2 (fun e w' h => listE_tx (v := run.data.toList) (w := w) (e := e) (w' := w') h)
 have KL := zJ2 (list_any run w hr)
 have hlr := xJ8 run.data.toList
 have hll := xJ8 lib.data.toList
 have hrs : run.data.toList.length = run.size := by simp
 have hls : lib.data.toList.length = lib.size := by simp
 obtain ⟨L1, hL1⟩ : ∃ L, Ev.list run.data.toList = L := ⟨_, rfl⟩
 obtain ⟨L2, hL2⟩ : ∃ L, Ev.list lib.data.toList = L := ⟨_, rfl⟩
 have hd1 : Se.dirs run lib true = L1 ++ Se.libs := by rw [Se.dirs_true, hL1]
 have hd2 : Se.dirs run lib false = L1 ++ (L2 ++ Se.libs) := by rw [Se.dirs_false, hL1, hL2]
 have kl2 := fun w' => list_any lib w' hlb
 have ke2 := fun w1 e w' h => listE_tx (v := lib.data.toList) (w := w1) (e := e) (w' := w') h
 rw [hL1] at K1 hlr
 rw [hL2] at ke2 hll
 obtain ⟨n1, hn1⟩ : ∃ n, L1.length = n := ⟨_, rfl⟩
 obtain ⟨n2, hn2⟩ : ∃ n, L2.length = n := ⟨_, rfl⟩
 have KL2 : Hid (∀ w', Calls Tryz.prog 68 #[.string lib] w' fun e w2 => ∃ A' c', e = .returned (.slice A' n2 c') /\ w2.ownsRow w'.heap.size 9 1 (.slice A' n2 c') n2 (L2.map Value.string) /\ Below w'.heap.size w' w2) := zJ2 fun w' => (kl2 w').mono fun e w2 h => by
  have h2 := ke2 _ _ _ h
  unfold TxE at h2
  rw [hn2] at h2
  exact h2
 clear kl2 ke2
 have hb1 : n1 <= 4294967297 := by omega
 have hb2 : n2 <= 4294967297 := by omega
 have H1 := zJ2 hn1
 have H2 := zJ2 hn2
 have D1 := zJ2 hd1
 have D2 := zJ2 hd2
 clear hlr hll hrs hls hL1 hL2 hd1 hd2 hn1 hn2
 go_enter Tryz.func39, Tryz.ntmps39
 go_wp2_with fail
 refine (zJ1 KL).mono ?_
 intro e w1 h1
 obtain ⟨A1, c1, rfl, ho1, hbl1⟩ := (zJ1 K1) _ _ h1
 rw [zJ1 H1] at ho1 ⊢
 have hc1 := vJd ho1
 have Ho1 := zJ2 ho1
 have Hb1 := zJ2 hbl1
 clear h1 KL K1 ho1 hbl1
 have hlen1 : (L1 ++ Se.libs).length = n1 + 2 := by rw [List.length_append, zJ1 H1]; rfl
 have hlen2 : (L1 ++ (L2 ++ Se.libs)).length = n1 + n2 + 2 := by rw [List.length_append, List.length_append, zJ1 H1, zJ1 H2]; show n1 + (n2 + 2) = _; omega
 have Hlen1 := zJ2 hlen1
 have Hlen2 := zJ2 hlen2
 have hsz1 := (zJ1 Hb1).size
 clear hlen1 hlen2
 cases sec with
 | true =>
  go_wp2_with (at_builtin; refine wJ8 strTy rfl _ _ rfl A1 n1 _ (L1.map Value.string) rfl ((Rd.of_own (zJ1 Ho1)).alloc (by simp) _) _ _ 2 2 (Se.libs.map Value.string) rfl (Rd.rowF (cs := #[.string ⟨#[47, 108, 105, 98]⟩, .string ⟨#[47, 117, 115, 114, 47, 108, 105, 98]⟩]) (n := 2) rfl) (str_one _) (by omega) (by omega) ?_; intro A3 c3 w3 ho3 hb3; have Ho3 := zJ2 ho3; have Hb3 := zJ2 hb3; clear ho3 hb3)
  go_ret
  unfold TxE
  rw [zJ1 D1, zJ1 Hlen1, List.map_append]
  exact ⟨A3, c3, rfl, zJd (zJ1 Ho3) (by simp; omega), ((zJ1 Hb1).alloc hsz1 _).trans ((zJ1 Hb3).mono (by simp; omega))⟩
 | false =>
  go_wp2_with fail
  go_region_held3 (fun w' => Below w1.heap.size w1 w') (first | exact (zJ3 (Below.refl _ _)) | exact (zJ1 hbn2) | exact (zJ1 hbn)) (first
   | (go_at_call 68; rename Below _ _ _ => hH; refine ((zJ1 KL2) _).mono ?_; rintro e w5 ⟨A5, c5, rfl, ho5, hb5⟩; have Ho5 := zJ2 ho5; have hbn := zJ2 (hH.trans (hb5.mono hH.size)); clear ho5 hb5)
   | (refine wp_appG strTy _ _ rfl A1 n1 _ (L1.map Value.string) rfl (Rd.of_own (own_below (zJ1 Ho1) (zJ1 hbn))) (Nat.le_refl _) _ A5 n2 c5 (L2.map Value.string) rfl (Rd.of_own (zJ1 Ho5)) (str_one _) (by omega) ?_; intro A6 c6 w6 hc6 hr6 hb6; have Hr6 := zJ2 hr6; have hbn2 := zJ2 ((zJ1 hbn).trans (hb6.mono (zJ1 hbn).size)); clear hr6 hb6))
  have hsz6 := (zJ1 hbn2).size
  go_wp2_with (at_builtin; refine wJ8 strTy rfl _ _ rfl A6 (n1 + n2) _ (L1.map Value.string ++ L2.map Value.string) rfl ((zJ1 Hr6).alloc (by simp) _) _ _ 2 2 (Se.libs.map Value.string) rfl (Rd.rowF (cs := #[.string ⟨#[47, 108, 105, 98]⟩, .string ⟨#[47, 117, 115, 114, 47, 108, 105, 98]⟩]) (n := 2) rfl) (str_one _) (by omega) (by omega) ?_; intro A3 c3 w3 ho3 hb3; have Ho3 := zJ2 ho3; have Hb3 := zJ2 hb3; clear ho3 hb3)
  go_ret
  unfold TxE
  rw [zJ1 D2, zJ1 Hlen2, List.map_append, List.map_append, <- List.append_assoc]
  exact ⟨A3, c3, rfl, zJd (zJ1 Ho3) (by simp; omega), (((zJ1 Hb1).trans ((zJ1 hbn2).mono hsz1)).alloc (Nat.le_trans hsz1 hsz6) _).trans ((zJ1 Hb3).mono (by simp; omega))⟩
theorem ib_has (l : List UInt8) (c : UInt8) : decide (0 <= Lib.indexByte l c) = l.contains c := by
 have hge := Lib.indexByte_ge l c
 by_cases h : Lib.indexByte l c = -1
 ·rw [h]
  have : l.contains c = false := by
   rw [Bool.eq_false_iff]
   intro hc
   rw [List.contains_iff_mem] at hc
   obtain ⟨k, hk⟩ := List.mem_iff_getElem?.1 hc
   exact Lib.indexByte_none h k hk
  rw [this]
  rfl
 ·obtain ⟨o, ho⟩ := Int.eq_ofNat_of_zero_le (show 0 <= Lib.indexByte l c by omega)
  have hm := List.mem_of_getElem? (Lib.indexByte_some ho).1
  rw [List.contains_iff_mem.2 hm, ho]
  simp
theorem spl_sz (v acc p : List UInt8) (h : p ∈ Ev.spl acc v) : p.length <= acc.length + v.length := by
 induction v generalizing acc with
 | nil =>
  have : p = acc := by simpa [Ev.spl] using h
  subst this
  simp
 | cons c r ih =>
  unfold Ev.spl at h
  split at h
  ·rcases List.mem_cons.1 h with rfl | h
   ·simp only [List.length_cons]; omega
   ·have := ih [] h
    simp only [List.length_nil, List.length_cons] at *
    omega
  ·have := ih (acc ++ [c]) h
   simp only [List.length_append, List.length_cons, List.length_nil] at *
   omega
theorem vJi {v : List UInt8} {x : ByteArray} (h : x ∈ Ev.list v) : x.size <= v.length + 1 := by
 unfold Ev.list at h
 split at h
 ·cases h
 ·obtain ⟨p, hp, rfl⟩ := List.mem_map.1 h
  have h1 := spl_sz v [] p hp
  unfold Ev.dot
  split
  ·show 1 <= _; omega
  ·have : (Ev.ba p).size = p.length := by show p.toArray.size = p.length; simp
   simp only [List.length_nil] at h1
   omega
theorem dirs_sz {run lib : ByteArray} {sec : Bool} (hr : run.size <= 4294967296) (hlb : lib.size <= 4294967296) {x : ByteArray} (h : x ∈ Se.dirs run lib sec) : x.size <= 4294967297 := by
 have h1 : run.data.toList.length = run.size := by simp
 have h2 : lib.data.toList.length = lib.size := by simp
 have hlibs : ∀ x ∈ Se.libs, x.size <= 8 := by decide
 have key : x ∈ Ev.list run.data.toList \/ x ∈ Ev.list lib.data.toList \/ x ∈ Se.libs := by
  cases sec with
  | true => rw [Se.dirs_true] at h; rcases List.mem_append.1 h with h | h; exact .inl h; exact .inr (.inr h)
  | false => rw [Se.dirs_false] at h; rcases List.mem_append.1 h with h | h; exact .inl h; rcases List.mem_append.1 h with h | h; exact .inr (.inl h); exact .inr (.inr h)
 rcases key with h | h | h
 ·have := vJi h; omega
 ·have := vJi h; omega
 ·have := hlibs x h; omega
theorem dirs_len {run lib : ByteArray} {sec : Bool} (hr : run.size <= 4294967296) (hlb : lib.size <= 4294967296) : 2 <= (Se.dirs run lib sec).length /\ (Se.dirs run lib sec).length <= 8589934600 := by
 have h1 : run.data.toList.length = run.size := by simp
 have h2 : lib.data.toList.length = lib.size := by simp
 have h3 := xJ8 run.data.toList
 have h4 := xJ8 lib.data.toList
 have h5 : Se.libs.length = 2 := rfl
 cases sec with
 | true => rw [Se.dirs_true, List.length_append, h5]; omega
 | false => rw [Se.dirs_false, List.length_append, List.length_append, h5]; omega
def joinsAt (l : List ByteArray) (name : ByteArray) (k : Nat) : List ByteArray := (l.take k).map (fun d => Pth.joinB d name) ++ l.drop k
theorem joinsAt_zero (l : List ByteArray) (name : ByteArray) : joinsAt l name 0 = l := by simp [joinsAt]
theorem joinsAt_all {l : List ByteArray} {name : ByteArray} {k : Nat} (h : l.length <= k) : joinsAt l name k = l.map fun d => Pth.joinB d name := by
 unfold joinsAt
 rw [List.take_of_length_le h, List.drop_of_length_le h, List.append_nil]
theorem joinsAt_at {l : List ByteArray} {name x : ByteArray} {k : Nat} (h : l[k]? = some x) : (joinsAt l name k)[k]? = some x := by
 have hk := (List.getElem?_eq_some_iff.1 h).1
 unfold joinsAt
 rw [List.getElem?_append_right (by simp; omega), List.length_map, List.length_take, Nat.min_eq_left (by omega), Nat.sub_self, List.getElem?_drop, Nat.add_zero]
 exact h
theorem joinsAt_set {l : List ByteArray} {name x : ByteArray} {k : Nat} (h : l[k]? = some x) : (joinsAt l name k).set k (Pth.joinB x name) = joinsAt l name (k + 1) := by
 obtain ⟨hk, hx⟩ := List.getElem?_eq_some_iff.1 h
 unfold joinsAt
 rw [List.set_append, if_neg (by simp; omega), List.length_map, List.length_take, Nat.min_eq_left (by omega), Nat.sub_self, List.drop_eq_getElem_cons hk, List.set_cons_zero, List.take_add_one, h]
 simp
set_option maxRecDepth 100000 in
set_option maxHeartbeats 4000000 in
theorem paths_any (name run lib : ByteArray) (sec : Bool) (w : World) (hn : name.size <= 4294967296) (hr : run.size <= 4294967296) (hlb : lib.size <= 4294967296) :
  Calls Tryz.prog 17 #[.string name, .string run, .string lib, .bool sec] w (TxE (Se.paths name run lib sec) w) := by
 have KC := zJ2 (Tryz.strings_Contains_one name 47 w)
 have KD := zJ2 (dirs_any run lib sec w hr hlb)
 have hdl := dirs_len (sec := sec) hr hlb
 have hds : ∀ x ∈ Se.dirs run lib sec, x.size <= 4294967297 := fun x hx => dirs_sz hr hlb hx
 have hib := ib_has name.data.toList 47
 by_cases hc : name.data.toList.contains 47 = true
 ·have hp : Se.paths name run lib sec = [name] := by unfold Se.paths; rw [if_pos hc]
  rw [hc] at hib
  rw [hib] at KC
  rw [hp]
  have hb0 := (Below.refl w.heap.size w).alloc (Nat.le_refl _) (.cells #[.string name] 9)
  have ho0 : (w.alloc (.cells #[.string name] 9)).ownsRow w.heap.size 9 1 (.slice (some ⟨w.heap.size, 0, none⟩) 1 1) 1 [.string name] :=
   ⟨rfl, .inr ⟨w.heap.size, 1, #[.string name], rfl, Nat.le_refl _, heap_alloc_new _ _, Nat.le_refl _, by unfold maxLen; omega, rfl, rfl⟩⟩
  have Hb0 := zJ2 hb0
  have Ho0 := zJ2 ho0
  clear hdl hds hib hc hp hb0 ho0 KD
  go_enter Tryz.func17, Tryz.ntmps17
  go_wp2_with fail
  refine (zJ1 KC).mono ?_
  rintro e w1 ⟨rfl, rfl⟩
  go_wp2_with fail
  go_ret
  exact ⟨_, _, rfl, zJ1 Ho0, zJ1 Hb0⟩
 ·have hp : Se.paths name run lib sec = (Se.dirs run lib sec).map fun d => Pth.joinB d name := by unfold Se.paths; rw [if_neg hc]
  have hcf : name.data.toList.contains 47 = false := by simpa using hc
  rw [hcf] at hib
  rw [hib] at KC
  obtain ⟨L, hL⟩ : ∃ L, Se.dirs run lib sec = L := ⟨_, rfl⟩
  rw [hL] at hp hds hdl KD
  obtain ⟨n, hln⟩ : ∃ n, L.length = n := ⟨_, rfl⟩
  unfold TxE at KD
  rw [hln] at KD hdl
  have hpl : ((L.map fun d => Pth.joinB d name).length = n) := by rw [List.length_map, hln]
  rw [hp]
  unfold TxE
  rw [hpl]
  have Hds := zJ2 hds
  have Hln := zJ2 hln
  clear hp hds hib hc hL hln hpl hcf
  go_enter Tryz.func17, Tryz.ntmps17
  go_wp2_with fail
  refine (zJ1 KC).mono ?_
  rintro e w1 ⟨rfl, rfl⟩
  go_wp2_with fail
  refine (zJ1 KD).mono ?_
  rintro e w2 ⟨A2, c2, rfl, ho2, hb2⟩
  obtain ⟨g, rfl, hg, _⟩ := yJx ho2 (by omega)
  have Ho2 := zJ2 ho2
  have Hb2 := zJ2 hb2
  clear ho2 hb2 KD KC
  go_wp2_with fail
  go_loopg [22] n (fun gk iv wr => ∃ k : Nat, gk = n - k /\ k <= n /\ iv = .int .i64 k /\ wr.ownsRow w1.heap.size 9 1 (.slice (some ⟨g, 0, none⟩) n c2) n ((joinsAt L name k).map Value.string) /\ Below w1.heap.size w1 wr)
  case atStart => exact ⟨0, by omega, Nat.zero_le _, rfl, by rw [joinsAt_zero]; exact zJ1 Ho2, zJ1 Hb2⟩
  case round =>
  obtain ⟨k, hgk, hk, rfl, ho, hb⟩ := hrel
  have Hgk := zJ2 hgk
  have Ho := zJ2 ho
  have Hb := zJ2 hb
  clear hgk ho hb
  by_cases hlt : k < n
  ·obtain ⟨x, hx⟩ : ∃ x, L[k]? = some x := ⟨_, List.getElem?_eq_getElem (by rw [zJ1 Hln]; exact hlt)⟩
   have hxs := (zJ1 Hds) x (List.mem_of_getElem? hx)
   have hat := joinsAt_at (name := name) hx
   have hcell : wr.cell? ⟨g, k, none⟩ = some (.string x) := uJp (zJ1 Ho) (by rw [List.getElem?_map, hat]; rfl)
   have hfr : wr.frozen? ⟨g, k, none⟩ = false := uJo (zJ1 Ho) k
   have KJ := zJ2 (join_any x name (by omega) (by omega) wr)
   have ho3 : (wr.setCell ⟨g, k, none⟩ (.string (Pth.joinB x name))).ownsRow w1.heap.size 9 1 (.slice (some ⟨g, 0, none⟩) n c2) n ((joinsAt L name (k + 1)).map Value.string) := by
    have := own_set (i := k) (zJ1 Ho) (.string (Pth.joinB x name))
    rwa [<- List.map_set, joinsAt_set hx] at this
   have hb3 := (zJ1 Hb).setCell (p := ⟨g, k, none⟩) hg (.string (Pth.joinB x name))
   have Ho3 := zJ2 ho3
   have Hb3 := zJ2 hb3
   have ilt : (k : Int) < (n : Int) := by omega
   clear hx hat ho3 hb3
   go_wp2_with fail
   refine (zJ1 KJ).mono ?_
   rintro e w4 ⟨rfl, rfl⟩
   go_wp2_with fail
   go_roundg (n - (k + 1))
   case measure => have := zJ1 Hgk; omega
   case rel => exact ⟨k + 1, rfl, by omega, by go_num, zJ1 Ho3, zJ1 Hb3⟩
  ·have hall := joinsAt_all (l := L) (name := name) (k := k) (by have := zJ1 Hln; omega)
   have ho := zJ1 Ho
   rw [hall] at ho
   have Ho3 := zJ2 ho
   have ige : ¬ (k : Int) < (n : Int) := by omega
   clear ho hall
   go_wp2_with fail
   go_ret
   exact ⟨_, _, rfl, by rw [<- List.map_map]; exact zJ1 Ho3, zJ1 Hb⟩
structure FdS (w : World) (f : Nat) (cr : Vf.Cred) (A : Option Addr) (n k : Nat) (cwd v : Int) (W : World) : Prop where
 bel : Below w.heap.size w W
 f : Blk W w.heap.size 31 [.pointer (some ⟨f, 0, none⟩)]
 c : Blk W (w.heap.size + 1) 26 [.int .u32 (cr.uid : Nat), .int .u32 (cr.euid : Nat), .int .u32 (cr.suid : Nat), .int .u32 (cr.gid : Nat), .slice A n k]
 d : Blk W (w.heap.size + 2) 3 [.int .i64 cwd]
 i : Blk W (w.heap.size + 3) 3 [.int .i64 v]
section
variable {w W W' : World} {f : Nat} {cr : Vf.Cred} {A : Option Addr} {n k : Nat} {cwd v : Int}
theorem FdS.below (h : FdS w f cr A n k cwd v W) (hb : Below W.heap.size W W') : FdS w f cr A n k cwd v W' := ⟨h.bel.trans (hb.mono h.bel.size), h.f.belowSz hb, h.c.belowSz hb, h.d.belowSz hb, h.i.belowSz hb⟩
theorem FdS.cells (h : FdS w f cr A n k cwd v W) : W.cell? ⟨w.heap.size, 0, none⟩ = some (.pointer (some ⟨f, 0, none⟩)) /\ (W.cell? ⟨w.heap.size + 1, 0, none⟩ = some (.int .u32 (cr.uid : Nat)) /\ W.cell? ⟨w.heap.size + 1, 1, none⟩ = some (.int .u32 (cr.euid : Nat)) /\ W.cell? ⟨w.heap.size + 1, 2, none⟩ = some (.int .u32 (cr.suid : Nat)) /\ W.cell? ⟨w.heap.size + 1, 3, none⟩ = some (.int .u32 (cr.gid : Nat)) /\ W.cell? ⟨w.heap.size + 1, 4, none⟩ = some (.slice A n k)) /\ W.cell? ⟨w.heap.size + 2, 0, none⟩ = some (.int .i64 cwd) /\ W.cell? ⟨w.heap.size + 3, 0, none⟩ = some (.int .i64 v) /\ W.frozen? ⟨w.heap.size + 3, 0, none⟩ = false :=
 ⟨h.f.cell rfl, ⟨h.c.cell rfl, h.c.cell rfl, h.c.cell rfl, h.c.cell rfl, h.c.cell rfl⟩, h.d.cell rfl, h.i.cell rfl, h.i.free _⟩
theorem FdS.set (h : FdS w f cr A n k cwd v W) (v' : Int) : FdS w f cr A n k cwd v' (W.setCell ⟨w.heap.size + 3, 0, none⟩ (.int .i64 v')) :=
 ⟨h.bel.setCell (p := ⟨w.heap.size + 3, 0, none⟩) (by show w.heap.size <= w.heap.size + 3; omega) _, h.f.other (by show w.heap.size + 3 ≠ w.heap.size; omega) _, h.c.other (by show w.heap.size + 3 ≠ w.heap.size + 1; omega) _, h.d.other (by show w.heap.size + 3 ≠ w.heap.size + 2; omega) _, h.i.set 0 _⟩
theorem FdS.start (w : World) (f : Nat) (cr : Vf.Cred) (A : Option Addr) (n k : Nat) (cwd : Int) :
  FdS w f cr A n k cwd 0 ((((w.alloc (.cells #[.pointer (some ⟨f, 0, none⟩)] 31)).alloc (.cells #[.int .u32 (cr.uid : Nat), .int .u32 (cr.euid : Nat), .int .u32 (cr.suid : Nat), .int .u32 (cr.gid : Nat), .slice A n k] 26)).alloc (.cells #[.int .i64 cwd] 3)).alloc (.cells #[.int .i64 0] 3)) := by
 refine ⟨((((Below.refl _ _).alloc (Nat.le_refl _) _).alloc (by simp) _).alloc (by simp; omega) _).alloc (by simp; omega) _, ?_, ?_, ?_, ?_⟩
 ·exact (((Blk.new w 31 [.pointer (some ⟨f, 0, none⟩)]).alloc _).alloc _).alloc _
 ·have := ((Blk.new (w.alloc (.cells #[.pointer (some ⟨f, 0, none⟩)] 31)) 26 [.int .u32 (cr.uid : Nat), .int .u32 (cr.euid : Nat), .int .u32 (cr.suid : Nat), .int .u32 (cr.gid : Nat), .slice A n k]).alloc (.cells #[.int .i64 cwd] 3)).alloc (.cells #[.int .i64 0] 3)
  rw [World.size_alloc] at this
  exact this
 ·have := (Blk.new ((w.alloc (.cells #[.pointer (some ⟨f, 0, none⟩)] 31)).alloc (.cells #[.int .u32 (cr.uid : Nat), .int .u32 (cr.euid : Nat), .int .u32 (cr.suid : Nat), .int .u32 (cr.gid : Nat), .slice A n k] 26)) 3 [.int .i64 cwd]).alloc (.cells #[.int .i64 0] 3)
  rw [World.size_alloc, World.size_alloc] at this
  exact this
 ·have := Blk.new (((w.alloc (.cells #[.pointer (some ⟨f, 0, none⟩)] 31)).alloc (.cells #[.int .u32 (cr.uid : Nat), .int .u32 (cr.euid : Nat), .int .u32 (cr.suid : Nat), .int .u32 (cr.gid : Nat), .slice A n k] 26)).alloc (.cells #[.int .i64 cwd] 3)) 3 [.int .i64 0]
  rw [World.size_alloc, World.size_alloc, World.size_alloc] at this
  exact this
end
theorem meta_mode {F : List Vf.Nd} (h : Vf.Good F) (ino : Int) : (Vf.metaOf F ino).1.mode < 65536 := by
 unfold Vf.metaOf
 split
 ·decide
 ·show (Vf.nd F ino.toNat).m.mode < 65536
  unfold Vf.nd
  cases hx : F[ino.toNat]? with
  | none => decide
  | some x => exact h.mode _ x hx
set_option maxRecDepth 100000 in
set_option maxHeartbeats 4000000 in
theorem find1_any (F : List Vf.Nd) (L : List Pl) (lo f cf : Nat) (Af A : Option Addr) (n k : Nat) (cr : Vf.Cred) (cwd v : Int) (w : World) (hF : Vf.Good F) (hFS : FsM w lo f Af cf F L) (hn : F.length <= 65)
  (hg : Rd w w.heap.size 1 A n (cr.groups.map u32v)) (hng : n <= maxLen) (x : ByteArray) (hx : x.size <= 4294967296) (W : World) (S : FdS w f cr A n k cwd v W) :
  Calls Tryz.prog 34 #[.string x, .pointer (some ⟨w.heap.size, 0, none⟩), .pointer (some ⟨w.heap.size + 1, 0, none⟩), .pointer (some ⟨w.heap.size + 2, 0, none⟩), .pointer (some ⟨w.heap.size + 3, 0, none⟩)] W fun e w2 =>
   e = .returned (.bool (Se.good F cr cwd x)) /\ ∃ v', FdS w f cr A n k cwd v' w2 /\ (Se.good F cr cwd x = true -> v' = ((Vf.walk F cr cwd x true).1 : Nat)) := by
 have KW := walk_any F L lo f cf Af A n k cr cwd x true W hF (hFS.belowSz S.bel) hn ((hg.below S.bel).more S.bel.size) hng hx
 have KM : ∀ w', Below W.heap.size W w' -> ∀ ino : Int, Calls Tryz.prog 36 #[.pointer (some ⟨f, 0, none⟩), .int .i64 ino] w' fun e w5 => e = .returned (.tuple #[metaV (Vf.metaOf F ino).1, .int .i64 (Vf.metaOf F ino).2]) /\ Below w'.heap.size w' w5 :=
  fun w' hb ino => meta_any F L f cf _ Af ino w' ((hFS.belowSz S.bel).belowSz hb).toR (Nat.le_refl _) hn hF.kind
 have KY : ∀ w', Below w.heap.size w w' -> ∀ m : Vf.Meta, m.mode < 65536 -> Calls Tryz.prog 37 #[credV cr A n k, metaV m, .int .u8 4] w' fun e w5 => e = .returned (.bool (Vf.mayR cr m)) /\ Below w'.heap.size w' w5 :=
  fun w' hb m hm => may4_any cr m A n k w.heap.size w' (hg.below hb) hb.size hng hm
 have hmd := fun ino => meta_mode hF ino
 unfold ptrV credV at KW
 obtain ⟨gd, hgd⟩ : ∃ b, Se.good F cr cwd x = b := ⟨_, rfl⟩
 rw [hgd]
 unfold Se.good at hgd
 obtain ⟨⟨n1, e1⟩, hw1⟩ : ∃ r, Vf.walk F cr cwd x true = r := ⟨_, rfl⟩
 rw [hw1] at KW hgd ⊢
 have KM1 := fun w' hb => KM w' hb (n1 : Nat)
 have hmd1 := hmd (n1 : Nat)
 obtain ⟨⟨⟨mk, mm, mu, mg, ms⟩, me⟩, hm⟩ : ∃ r, Vf.metaOf F (n1 : Nat) = r := ⟨_, rfl⟩
 rw [hm] at KM1 hmd1
 dsimp only at KW hgd hmd1 KM1 ⊢
 rw [hm] at hgd
 dsimp only at hgd
 have KY1 := fun w' hb => KY w' hb ⟨mk, mm, mu, mg, ms⟩ hmd1
 unfold credV at KY1
 unfold metaV at KM1 KY1
 obtain ⟨yb, hyb⟩ : ∃ b, Vf.mayR cr ⟨mk, mm, mu, mg, ms⟩ = b := ⟨_, rfl⟩
 rw [hyb] at KY1 hgd
 dsimp only at KY1 KM1
 have HS := zJ2 S
 have HW := zJ2 KW
 have HM := zJ2 KM1
 have HY := zJ2 KY1
 have Hgd := zJ2 hgd
 obtain ⟨x0, ⟨c0, c1, c2, c3, c4⟩, d0, i0, i1⟩ := S.cells
 clear KW KM KY KM1 KY1 hmd hmd1 hgd hw1 hm hyb hFS hF hg S
 go_enter Tryz.func34, Tryz.ntmps34
 go_wp2_with fail
 refine (zJ1 HW).mono ?_
 rintro e w2 ⟨rfl, hb2⟩
 have HS2 := zJ2 ((zJ1 HS).below hb2)
 have Hb2 := zJ2 hb2
 clear x0 c0 c1 c2 c3 c4 d0 i0 i1 hb2 HS HW
 obtain ⟨x0, ⟨c0, c1, c2, c3, c4⟩, d0, i0, i1⟩ := (zJ1 HS2).cells
 by_cases he : e1 = 0
 case neg =>
  have b1 : (e1 != 0) = true := by simpa using he
  have hg0 : gd = false := by rw [<- zJ1 Hgd, decide_eq_false he]; rfl
  clear Hgd
  subst hg0
  clear he
  go_wp2_with fail
  go_ret
  exact ⟨rfl, _, zJ1 HS2, fun h => by cases h⟩
 subst he
 have b1 : ((0 : Int) != 0) = false := rfl
 go_wp2_with fail
 refine ((zJ1 HM) _ (zJ1 Hb2)).mono ?_
 rintro e w3 ⟨rfl, hb3⟩
 have hb3' := hb3.alloc hb3.size (.cells #[.int .u8 (mk : Nat), .int .u16 (mm : Nat), .int .u32 (mu : Nat), .int .u32 (mg : Nat), .int .i64 (ms : Nat)] 70)
 have hs3 := (zJ1 HS2).below hb3'
 have hm3 : Blk _ w3.heap.size 70 [.int .u8 (mk : Nat), .int .u16 (mm : Nat), .int .u32 (mu : Nat), .int .u32 (mg : Nat), .int .i64 (ms : Nat)] := Blk.new w3 70 [.int .u8 (mk : Nat), .int .u16 (mm : Nat), .int .u32 (mu : Nat), .int .u32 (mg : Nat), .int .i64 (ms : Nat)]
 have hne : w.heap.size + 3 ≠ w3.heap.size := by
  have h1 := (zJ1 HS2).i.lt
  have h2 := hb3.size
  omega
 have hs4 := hs3.set (n1 : Nat)
 have hm4 := hm3.other (p := ⟨w.heap.size + 3, 0, none⟩) hne (Value.int .i64 (n1 : Nat))
 have Hb3 := zJ2 ((zJ1 Hb2).trans (hb3'.mono (zJ1 Hb2).size))
 have HS3 := zJ2 hs3
 have HS4 := zJ2 hs4
 have HM4 := zJ2 hm4
 clear x0 c0 c1 c2 c3 c4 d0 i0 i1 hb3 hb3' hs3 hs4 hm3 hm4
 obtain ⟨x0, ⟨c0, c1, c2, c3, c4⟩, d0, i0, i1⟩ := (zJ1 HS3).cells
 by_cases hk : mk = 1
 case neg =>
  have b2 : (((mk : Nat) : Int) == 1) = false := by rw [beq_eq_false_iff_ne]; omega
  have hg0 : gd = false := by rw [<- zJ1 Hgd, decide_eq_false hk]; rfl
  clear Hgd
  subst hg0
  go_wp2_with fail
  go_ret
  exact ⟨rfl, _, zJ1 HS4, fun h => by cases h⟩
 have b2 : (((mk : Nat) : Int) == 1) = true := by rw [hk]; rfl
 have hg1 : gd = yb := by rw [<- zJ1 Hgd, decide_eq_true hk]; simp
 have KY1 := (zJ1 HY) _ (zJ1 HS4).bel
 have HY1 := zJ2 KY1
 have hm4' := zJ1 HM4
 obtain ⟨z0, z1, z2, z3, z4⟩ := And.intro (hm4'.cell (i := 0) rfl) (And.intro (hm4'.cell (i := 1) rfl) (And.intro (hm4'.cell (i := 2) rfl) (And.intro (hm4'.cell (i := 3) rfl) (hm4'.cell (i := 4) rfl))))
 obtain ⟨-, ⟨u0, u1, u2, u3, u4⟩, -, -, -⟩ := (zJ1 HS4).cells
 clear KY1 hm4' Hgd HY
 subst hg1
 clear hk
 go_wp2_with fail
 refine (zJ1 HY1).mono ?_
 rintro e w5 ⟨rfl, hb5⟩
 have HS5 := zJ2 ((zJ1 HS4).below hb5)
 clear hb5 HY1
 go_wp2_with fail
 go_ret
 exact ⟨rfl, _, zJ1 HS5, fun _ => rfl⟩
theorem vJ0 (w : World) (a : Addr) (z : Int) (h : w.cell? a = some (.int .i64 z)) : (loadVar 3 a).run Tryz.prog w = .ok (.int .i64 z) w := by
 have hu : Tryz.prog.underlying 3 = some (.int .i64) := Tryz.underlying3
 simp [loadVar, run_underlying hu, h]
theorem yJr {fn : Func} {p q r : Tmp} (h : fn.results = #[.cell p 3, .tmp q, .tmp r]) (tmps : Array Value) (w : World) (a : Addr) (z : Int)
  (hp : tmps.getD p undef = .pointer (some a)) (hc : w.cell? a = some (.int .i64 z)) :
  (results fn tmps).run Tryz.prog w = .ok (.tuple #[.int .i64 z, tmps.getD q undef, tmps.getD r undef]) w := by
 have hp' : tmps[p]?.getD undef = .pointer (some a) := by simpa using hp
 simp [results, h, hp', asAddr, vJ0 w a z hc]
def IdxS (n : Nat) (I : Nat -> World -> Prop) (T : Nat -> World -> Prop) (e : Ending) (w' : World) : Prop :=
 (e = .returned (.int .i64 (-1)) /\ I n w') \/ ∃ k : Nat, e = .returned (.int .i64 k) /\ k < n /\ T k w'
set_option maxHeartbeats 1000000 in
theorem idxs_any (fn : FuncId) (p1 p2 p3 p4 : Value) (hcf : ∀ (args : Array Value) (w : World), (callFunc fn args).run Tryz.prog w = .ok (.enter fn args) w)
  (A : Option Addr) (n c B : Nat) (l : List ByteArray) (w : World) (I T : Nat -> World -> Prop)
  (hfn : ∀ (k : Nat) (x : ByteArray) (w' : World), l[k]? = some x -> I k w' -> Calls Tryz.prog fn #[.string x, p1, p2, p3, p4] w' fun e w2 => (e = .returned (.bool true) /\ T k w2) \/ (e = .returned (.bool false) /\ I (k + 1) w2))
  (hrd : ∀ (k : Nat) (w' : World), I k w' -> Rd w' B 1 A n (l.map Value.string)) (h0 : I 0 w) (hn : n <= maxLen) :
  Calls Tryz.prog 33 #[.slice A n c, .func (.func fn) #[] #[p1, p2, p3, p4]] w (IdxS n I T) := by
 have hln : l.length = n := by have := (hrd 0 w h0).len1; simpa using this
 unfold maxLen at hn
 have Hrd := zJ2 hrd
 have Hln := zJ2 hln
 have Hfn := zJ2 hfn
 have H0 := zJ2 h0
 clear hln hfn hrd h0
 go_enter Tryz.func33, Tryz.ntmps33
 go_wp2_with fail
 go_loopg [8] n (fun gk i wr => ∃ k : Nat, gk = n - k /\ k <= n /\ i = .int .i64 k /\ I k wr)
 case atStart => exact ⟨0, by omega, Nat.zero_le _, rfl, zJ1 H0⟩
 case round =>
  obtain ⟨k, hgk, hk, rfl, hI⟩ := hrel
  have Hgk := zJ2 hgk
  have HI := zJ2 hI
  clear hgk hI
  by_cases hlt : k < n
  ·obtain ⟨x, hx⟩ : ∃ x, l[k]? = some x := ⟨_, List.getElem?_eq_getElem (by rw [zJ1 Hln]; exact hlt)⟩
   obtain ⟨b1, o1, rfl, _, c1⟩ := ((zJ1 Hrd) k wr (zJ1 HI)).at_ (k := k) (u := .string x) (by simp [hx])
   have Hc := zJ2 ((zJ1 Hfn) k x wr hx (zJ1 HI))
   have ilt : (k : Int) < (n : Int) := by omega
   clear hx
   go_wp2_with fail
   refine (zJ1 Hc).mono ?_
   rintro e w1 (⟨rfl, hT⟩ | ⟨rfl, hI1⟩)
   ·have HT := zJ2 hT
    clear hT
    go_wp2_with fail
    go_ret
    exact .inr ⟨k, rfl, hlt, zJ1 HT⟩
   ·have HI1 := zJ2 hI1
    clear hI1
    go_wp2_with fail
    go_roundg (n - (k + 1))
    case measure => have := zJ1 Hgk; omega
    case rel => exact ⟨k + 1, rfl, by omega, by go_num, zJ1 HI1⟩
  ·obtain rfl : k = n := by omega
   have ige : ¬ (k : Int) < (k : Int) := by omega
   clear hlt
   go_wp2_with fail
   go_ret
   exact .inl ⟨rfl, zJ1 HI⟩
theorem vJv (args : Array Value) (w : World) : (callFunc 34 args).run Tryz.prog w = .ok (.enter 34 args) w := by kernel_rfl
set_option maxRecDepth 100000 in
set_option maxHeartbeats 4000000 in
theorem find_any (F : List Vf.Nd) (L : List Pl) (lo f cf : Nat) (Af A Al : Option Addr) (n k nl cl : Nat) (cr : Vf.Cred) (cwd : Int) (l : List ByteArray) (w : World) (hF : Vf.Good F) (hFS : FsM w lo f Af cf F L) (hn : F.length <= 65)
  (hg : Rd w w.heap.size 1 A n (cr.groups.map u32v)) (hng : n <= maxLen) (hl : Rd w w.heap.size 1 Al nl (l.map Value.string)) (hs : ∀ x ∈ l, x.size <= 4294967296) (hnl : nl <= 4294967296) :
  Calls Tryz.prog 16 #[.pointer (some ⟨f, 0, none⟩), credV cr A n k, .int .i64 cwd, .slice Al nl cl] w fun e w' =>
   e = .returned (.tuple #[.int .i64 ((Se.find F cr cwd l).1 : Nat), .string (Se.find F cr cwd l).2.1, .int .i64 (Se.find F cr cwd l).2.2]) /\ Below w.heap.size w w' := by
 have S0 := zJ2 (FdS.start w f cr A n k cwd)
 have KI := zJ2 (idxs_any 34 (.pointer (some ⟨w.heap.size, 0, none⟩)) (.pointer (some ⟨w.heap.size + 1, 0, none⟩)) (.pointer (some ⟨w.heap.size + 2, 0, none⟩)) (.pointer (some ⟨w.heap.size + 3, 0, none⟩)) vJv Al nl cl w.heap.size l _
  (fun j W => (l.take j).any (Se.good F cr cwd) = false /\ ∃ v, FdS w f cr A n k cwd v W)
  (fun j W => ∃ x, l[j]? = some x /\ (l.take j).any (Se.good F cr cwd) = false /\ Se.good F cr cwd x = true /\ FdS w f cr A n k cwd ((Vf.walk F cr cwd x true).1 : Nat) W)
  (fun j x W hx hI => by
   obtain ⟨hno, v, hS⟩ := hI
   refine (find1_any F L lo f cf Af A n k cr cwd v w hF hFS hn hg hng x (hs x (List.mem_of_getElem? hx)) W hS).mono ?_
   rintro e w2 ⟨rfl, v', hS', hv'⟩
   cases hgd : Se.good F cr cwd x with
   | true =>
    have := hv' hgd
    subst this
    exact .inl ⟨rfl, x, hx, hno, hgd, hS'⟩
   | false =>
    refine .inr ⟨rfl, ?_, v', hS'⟩
    rw [List.take_add_one, hx, List.any_append, hno]
    simp [hgd])
  (fun j W hI => by obtain ⟨_, v, hS⟩ := hI; exact hl.below hS.bel)
  ⟨by simp, 0, zJ1 S0⟩ (by unfold maxLen; omega))
 have hlen : l.length = nl := by simpa using hl.len1
 have hnone : l.any (Se.good F cr cwd) = false -> Se.find F cr cwd l = (0, ⟨#[]⟩, 19) := Se.find_none
 have hfirst : ∀ (j : Nat) (x : ByteArray), l[j]? = some x -> (l.take j).any (Se.good F cr cwd) = false -> Se.good F cr cwd x = true -> Se.find F cr cwd l = ((Vf.walk F cr cwd x true).1, x, 0) := fun j x => Se.find_first
 obtain ⟨⟨r1, r2, r3⟩, hr⟩ : ∃ r, Se.find F cr cwd l = r := ⟨_, rfl⟩
 rw [hr] at hnone hfirst ⊢
 have Hnone := zJ2 hnone
 have Hfirst := zJ2 hfirst
 have Hl := zJ2 hl
 have Hlen := zJ2 hlen
 unfold credV
 clear hF hFS hg hl hs hlen hnone hfirst hr
 go_enter Tryz.func16, Tryz.ntmps16
 obtain ⟨x0, -, -, -, -⟩ := (zJ1 S0).cells
 go_wp2_with fail
 refine (zJ1 KI).mono ?_
 rintro e w1 (⟨rfl, hno, v, hS⟩ | ⟨j, rfl, hj, x, hx, hno, hgd, hS⟩)
 ·rw [List.take_of_length_le (by have := zJ1 Hlen; omega)] at hno
  have hr := (zJ1 Hnone) hno
  injection hr with e1 e2
  injection e2 with e2 e3
  subst e1 e2 e3
  have hs2 := hS.set 0
  obtain ⟨-, -, -, i0, i1⟩ := hS.cells
  have HS2 := zJ2 hs2
  have v0 := hs2.cells.2.2.2.1
  clear hS hs2 hno KI
  go_wp2_with fail
  (try simp only [Exit.inBlock, Exit.then])
  refine bodyPost_ret (yJr rfl _ _ ⟨w.heap.size + 3, 0, none⟩ 0 rfl v0) rfl ?_
  exact ⟨rfl, (zJ1 HS2).bel⟩
 ·have hr := (zJ1 Hfirst) j x hx hno hgd
  injection hr with e1 e2
  injection e2 with e2 e3
  subst e1 e2 e3
  obtain ⟨b1, o1, rfl, hb1, c1⟩ := ((zJ1 Hl).below hS.bel).at_ (k := j) (u := .string r2) (by simp [hx])
  have hs2 := hS.set ((Vf.walk F cr cwd r2 true).1 : Nat)
  obtain ⟨-, -, -, i0, i1⟩ := hS.cells
  have HS2 := zJ2 hs2
  have v0 := hs2.cells.2.2.2.1
  have ilt : (j : Int) < (nl : Int) := by omega
  have ige : ¬ (j : Int) < 0 := by omega
  clear hS hs2 hno KI hx hgd
  go_wp2_with fail
  go_region
  go_wp2_with fail
  (try simp only [Exit.inBlock, Exit.then])
  refine bodyPost_ret (yJr rfl _ _ ⟨w.heap.size + 3, 0, none⟩ ((Vf.walk F cr cwd r2 true).1 : Nat) rfl v0) rfl ?_
  exact ⟨rfl, zJ3 (zJ1 HS2).bel⟩
end Go.Proofs.YtiiiblmhlhikkaaGreatDoor
