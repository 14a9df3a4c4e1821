/- Texts of the claim LawMakerParsed (Dy18): what the functions that the statement reaches compute, and plain laws of it. Conditions: those that each theorem states. -/
import Derived.Test.YtnbecdahfgkffaaGreatMpK10
set_option linter.unusedVariables false
set_option linter.unusedSimpArgs false
namespace Go.Proofs.YtnbecdahfgkffaaGreat
open Go.RowKit
set_option maxRecDepth 100000 in
set_option maxHeartbeats 8000000 in
theorem uJm (A : Option Addr) (n c B : Nat) (b : List UInt8) (ty en ph : Int) (As : Option Addr) (ns cs : Nat) (segs : List El.Sg) (w : World) (hB : B <= w.heap.size) (hb : Rd w B 1 A n (bys b)) (hs : Rd w B 6 As ns (segCells segs)) (hn : n <= 4294967296) (hns : ns <= 4294967296) (hc : n <= c) (hfit : ∀ s ∈ segs, SgFit s) :
  Calls Tryz.prog 20 #[.slice A n c, .agg #[.int .u16 ty, .int .u64 en, .int .u64 ph, .slice As ns cs]] w (ParseE (Dy.parse b segs) w) := by
 have hbl : b.length = n := by have := hb.1; simp [bys] at this; omega
 have e1 : (w.alloc (.cells #[.int .u16 ty, .int .u64 en, .int .u64 ph, .slice As ns cs] 44)).heap.size = w.heap.size + 1 := by simp
 have e2 : ((w.alloc (.cells #[.int .u16 ty, .int .u64 en, .int .u64 ph, .slice As ns cs] 44)).alloc (.cells #[.slice none 0 0, .string ⟨#[]⟩, .string ⟨#[]⟩, .slice none 0 0, .slice none 0 0] 29)).heap.size = w.heap.size + 2 := by simp
 have hB0 : Below w.heap.size w ((w.alloc (.cells #[.int .u16 ty, .int .u64 en, .int .u64 ph, .slice As ns cs] 44)).alloc (.cells #[.slice none 0 0, .string ⟨#[]⟩, .string ⟨#[]⟩, .slice none 0 0, .slice none 0 0] 29)) := ((Below.refl _ _).alloc (Nat.le_refl _) _).alloc (by rw [e1]; omega) _
 have hK0 := Blk.new (w.alloc (.cells #[.int .u16 ty, .int .u64 en, .int .u64 ph, .slice As ns cs] 44)) 29 [.slice none 0 0, .string ⟨#[]⟩, .string ⟨#[]⟩, .slice none 0 0, .slice none 0 0]
 rw [e1] at hK0
 have hH0 := (Blk.new w 44 [.int .u16 ty, .int .u64 en, .int .u64 ph, .slice As ns cs]).alloc (.cells #[.slice none 0 0, .string ⟨#[]⟩, .string ⟨#[]⟩, .slice none 0 0, .slice none 0 0] 29)
 have z0 := hH0.cell (i := 0) rfl
 have z1 := hH0.cell (i := 1) rfl
 have z2 := hH0.cell (i := 2) rfl
 have z3 := hH0.cell (i := 3) rfl
 have KO := zJ2 (dopen_any A n c w.heap.size b ty en ph As ns cs segs ((w.alloc (.cells #[.int .u16 ty, .int .u64 en, .int .u64 ph, .slice As ns cs] 44)).alloc (.cells #[.slice none 0 0, .string ⟨#[]⟩, .string ⟨#[]⟩, .slice none 0 0, .slice none 0 0] 29)) (by rw [e2]; omega) ((hb.more hB).below hB0) ((hs.more hB).below hB0) hn hns hc hfit)
 have HB0 := zJ2 hB0
 have HK0 := zJ2 hK0
 obtain ⟨Res, hRes⟩ : ∃ R, Dy.parse b segs = R := ⟨_, rfl⟩
 rw [hRes]
 have HRes := zJ2 hRes
 have Hbl := zJ2 hbl
 clear hb hs hfit hB0 hK0 hH0 e1 e2 hbl hRes
 go_enter Tryz.func20, Tryz.ntmps20
 go_wp2_with fail
 refine (zJ1 KO).mono ?_
 rintro e w1 ⟨hb1, ⟨q, ho, rfl, hq⟩ | ⟨g, Al, k, cl, L, gm, ho, rfl, hds, hok⟩⟩
 ·obtain ⟨⟨x, ox⟩, hx⟩ : ∃ y, Dy.open_ b segs = y := ⟨_, rfl⟩
  rw [hx] at ho hq ⊢
  dsimp only at ho hq ⊢
  subst ho
  have HP : Hid (Res = (Dy.zero, x)) := zJ2 (by rw [<- zJ1 HRes]; exact Dy.parse_no hx)
  have HB1 := zJ2 ((zJ1 HB0).trans (hb1.mono (zJ1 HB0).size))
  have HK1 := zJ2 ((zJ1 HK0).belowSz hb1)
  clear hx HRes hb1 HB0 HK0 KO z0 z1 z2 z3
  by_cases hx0 : x = 0
  ·have hq0 := hq hx0
   subst hq0
   subst hx0
   clear hq
   go_wp2_with ((with_reducible refine (@id (wpList _ _ _ (Oper.mk none (Op.store 29 (.tmp 4) (.tmp 25)) _ _ _ none :: _) _ _) ?_)); refine wpList_store_row rfl 29 (.tmp 4) (.tmp 25) rfl (w.heap.size + 1) #[.slice none 0 0, .string ⟨#[]⟩, .string ⟨#[]⟩, .slice none 0 0, .slice none 0 0] rfl rfl 29 _ (zJ1 HK1) zJj rfl (wJk _ _ _ _ _ _ _ _ _ _ _) ?_)
   refine bodyPost_ret (results_cell_tmp (P := Tryz.prog) rfl _ _ (w.heap.size + 1) 29 #[.slice none 0 0, .string ⟨#[]⟩, .string ⟨#[]⟩, .slice none 0 0, .slice none 0 0] (0, 0) _ rfl (setRow_heap _ _ _ _ _ _ (zJ1 HK1)) Tryz.underlying29 rfl zJj) rfl ?_
   exact zJz (zJ1 HP) (below_setRow (zJ1 HB1) (Nat.le_succ _) _)
  ·clear hq
   go_wp2_with ((with_reducible refine (@id (wpList _ _ _ (Oper.mk none (Op.store 29 (.tmp 4) (.tmp 25)) _ _ _ none :: _) _ _) ?_)); refine wpList_store_row rfl 29 (.tmp 4) (.tmp 25) rfl (w.heap.size + 1) #[.slice none 0 0, .string ⟨#[]⟩, .string ⟨#[]⟩, .slice none 0 0, .slice none 0 0] rfl rfl 29 _ (zJ1 HK1) zJj rfl (wJk _ _ _ _ _ _ _ _ _ _ _) ?_)
   refine bodyPost_ret (results_cell_tmp (P := Tryz.prog) rfl _ _ (w.heap.size + 1) 29 #[.slice none 0 0, .string ⟨#[]⟩, .string ⟨#[]⟩, .slice none 0 0, .slice none 0 0] (0, 0) _ rfl (setRow_heap _ _ _ _ _ _ (zJ1 HK1)) Tryz.underlying29 rfl zJj) rfl ?_
   exact zJz (zJ1 HP) (below_setRow (zJ1 HB1) (Nat.le_succ _) _)
 have HB1 := zJ2 ((zJ1 HB0).trans (hb1.mono (zJ1 HB0).size))
 have HK1 := zJ2 ((zJ1 HK0).belowSz hb1)
 have hRes := zJ1 HRes
 rw [Dy.parse_some ho, zJ1 Hbl] at hRes
 clear hb1 HB0 HK0 KO z0 z1 z2 z3 HRes
 obtain ⟨d, hd⟩ : ∃ d : Ds, (⟨A, n, c, b, ty, en, ph, As, ns, cs, segs, Al, k, cl, L, gm⟩ : Ds) = d := ⟨_, rfl⟩
 have dm : d.m = n := by rw [<- hd]
 have db : d.b = b := by rw [<- hd]
 have dsg : d.segs = segs := by rw [<- hd]
 have dL : d.L = L := by rw [<- hd]
 rw [hd] at hds hok
 obtain ⟨B1, hB1⟩ : ∃ x, ((w.alloc (.cells #[.int .u16 ty, .int .u64 en, .int .u64 ph, .slice As ns cs] 44)).alloc (.cells #[.slice none 0 0, .string ⟨#[]⟩, .string ⟨#[]⟩, .slice none 0 0, .slice none 0 0] 29)).heap.size = x := ⟨_, rfl⟩
 rw [hB1] at hds
 have hds2 : DsM w1 B1 g d d.L := by rw [dL]; exact hds
 have hB1w : w.heap.size <= B1 := by rw [<- hB1]; simp; omega
 have hbl2 : d.b.length = d.m := by rw [db, dm]; exact zJ1 Hbl
 have hdk : d.k <= 4294967296 := by
  have h1 := hds2.len
  have h2 := Dy.open_len ho
  rw [zJ1 Hbl] at h2
  rw [h1, dL]
  omega
 clear hd hds hB1
 have KT := vJg B1 g d 5 10 w1 hds2 hok rfl rfl
 have KNm := fun (w' : World) (h : DsM w' B1 g d d.L) => names_any B1 g d w' h hok hbl2
 have KRe := fun (w' : World) (h : DsM w' B1 g d d.L) => relas_any B1 g d w' h hok hbl2
 have KTx := fun (V : World) (At : Option Addr) (mt ct : Nat) (t : List UInt8) (h : DsM V B1 g d d.L) (hT : Rd V B1 1 At mt (bys t)) (hmt : mt <= 4294967296) (hmc : mt <= ct) => texts_any V B1 g d At mt ct t h hok hdk hT hmt hmc
 rw [dsg] at KT KNm KRe
 rw [db] at KT KNm KRe
 rw [dm] at KT
 rw [dL] at KT
 have hKN : ∀ (w' : World) (h : DsM w' B1 g d d.L), Calls Tryz.prog 57 #[.pointer (some ⟨g, 0, none⟩)] w' (NamesE (Dy.names b (El.loads segs) L) B1 b w') := fun w' h => dL ▸ KNm w' h
 have hKR : ∀ (w' : World) (h : DsM w' B1 g d d.L), Calls Tryz.prog 58 #[.pointer (some ⟨g, 0, none⟩)] w' (RelasE (Dy.relaB b (El.loads segs) L) w') := fun w' h => dL ▸ KRe w' h
 have hKX : ∀ (V : World) (At : Option Addr) (mt ct : Nat) (t : List UInt8) (h : DsM V B1 g d d.L) (hT : Rd V B1 1 At mt (bys t)) (hmt : mt <= 4294967296) (hmc : mt <= ct), Calls Tryz.prog 59 #[.pointer (some ⟨g, 0, none⟩), .slice At mt ct, .pointer (some ⟨V.heap.size, 0, none⟩)] (V.alloc (.cells #[.slice none 0 0, .string ⟨#[]⟩, .string ⟨#[]⟩, .slice none 0 0, .slice none 0 0] 29)) (TextsE (Dy.texts t (Dy.val L 29).isSome L Dy.zero) V g) := fun V At mt ct t h hT hmt hmc => by
  have := KTx V At mt ct t h hT hmt hmc
  rw [dL] at this
  exact this
 clear KNm KRe KTx
 obtain ⟨T, hT⟩ : ∃ x, Dy.table n (El.loads segs) L 5 10 = x := ⟨_, rfl⟩
 obtain ⟨⟨nx, nr⟩, hN⟩ : ∃ x, Dy.names b (El.loads segs) L = x := ⟨_, rfl⟩
 obtain ⟨⟨rx, rb⟩, hR⟩ : ∃ x, Dy.relaB b (El.loads segs) L = x := ⟨_, rfl⟩
 obtain ⟨run, hrun⟩ : ∃ x, (Dy.val L 29).isSome = x := ⟨_, rfl⟩
 have hTb : ∀ t, T = some t -> t.2 <= n := fun t h => by rw [<- hT] at h; exact Dy.table_le h
 have hRb : rb.length <= 1536 := by have := Dy.relaB_len (b := b) (l := El.loads segs) (L := L); rw [hR] at this; exact this
 rw [hT] at KT hRes
 rw [hN] at hKN hRes
 rw [hR] at hKR hRes
 rw [hrun] at hKX hRes
 have HKT := zJ2 KT
 have HKN := zJ2 hKN
 have HKR := zJ2 hKR
 have HKX := zJ2 hKX
 have HRes := zJ2 hRes
 have HDS1 := zJ2 hds2
 have HTb := zJ2 hTb
 have HB1w := zJ2 hB1w
 clear KT hKN hKR hKX hRes hds2 hT hN hR hrun dL dm db dsg hok hbl2 ho hTb hB1w hdk
 go_wp2_with fail
 refine (zJ1 HKT).mono ?_
 intro e w2 h2
 obtain ⟨A5, n5, c5, q5, rfl, hf5, hb2⟩ := xJy h2
 have HB2 : Hid (Below w.heap.size w (w2.alloc (.cells #[.slice A5 n5 c5] 24))) := zJ2 (((zJ1 HB1).trans (hb2.mono (zJ1 HB1).size)).alloc ((zJ1 HB1).trans (hb2.mono (zJ1 HB1).size)).size _)
 have HK2 : Hid (Blk (w2.alloc (.cells #[.slice A5 n5 c5] 24)) (w.heap.size + 1) 29 [.slice none 0 0, .string ⟨#[]⟩, .string ⟨#[]⟩, .slice none 0 0, .slice none 0 0]) := zJ2 (((zJ1 HK1).belowSz hb2).alloc _)
 have HT2 : Hid (Blk (w2.alloc (.cells #[.slice A5 n5 c5] 24)) w2.heap.size 24 [.slice A5 n5 c5]) := zJ2 (Blk.new w2 24 [.slice A5 n5 c5])
 have HDS2 : Hid (DsM (w2.alloc (.cells #[.slice A5 n5 c5] 24)) B1 g d d.L) := zJ2 (((zJ1 HDS1).belowSz hb2).belowSz ((Below.refl _ _).alloc (Nat.le_refl _) _))
 have Hf5 := zJ2 hf5
 have hB12 : B1 <= w2.heap.size := Nat.le_trans (zJ1 HDS1).sz hb2.size
 have h2w : w.heap.size + 1 < w2.heap.size := ((zJ1 HK1).belowSz hb2).lt
 clear HKT HB1 HK1 HDS1 h2 hf5 hb2
 cases q5
 ·have HP : Hid (Res = (Dy.zero, 25)) := zJ2 (by
   rcases zJ1 Hf5 with ⟨-, h0⟩ | ⟨h0, -⟩
   ·rw [<- zJ1 HRes, h0]; exact Dy.pBody_1
   ·cases h0)
  clear Hf5 HRes HKN HKR HKX HTb HT2 HDS2
  go_wp2_with ((with_reducible refine (@id (wpList _ _ _ (Oper.mk none (Op.store 29 (.tmp 4) (.tmp 34)) _ _ _ none :: _) _ _) ?_)); refine wpList_store_row rfl 29 (.tmp 4) (.tmp 34) rfl (w.heap.size + 1) #[.slice none 0 0, .string ⟨#[]⟩, .string ⟨#[]⟩, .slice none 0 0, .slice none 0 0] rfl rfl 29 _ (zJ1 HK2) zJj rfl (wJk _ _ _ _ _ _ _ _ _ _ _) ?_)
  refine bodyPost_ret (results_cell_tmp (P := Tryz.prog) rfl _ _ (w.heap.size + 1) 29 #[.slice none 0 0, .string ⟨#[]⟩, .string ⟨#[]⟩, .slice none 0 0, .slice none 0 0] (0, 0) _ rfl (setRow_heap _ _ _ _ _ _ (zJ1 HK2)) Tryz.underlying29 rfl zJj) rfl ?_
  exact zJz (zJ1 HP) (below_setRow (zJ1 HB2) (Nat.le_succ _) _)
 rcases zJ1 Hf5 with ⟨h0, -⟩ | ⟨-, pt, hT0, hrd5, hc5⟩
 ·cases h0
 have hn5 : n5 <= 4294967296 := Nat.le_trans ((zJ1 HTb) _ hT0) hn
 obtain ⟨tt, htt⟩ : ∃ x, Dy.cut b pt n5 = x := ⟨_, rfl⟩
 have hRes := zJ1 HRes
 rw [hT0] at hRes
 rw [htt] at hrd5
 have HRd5 : Hid (Rd (w2.alloc (.cells #[.slice A5 n5 c5] 24)) B1 1 A5 n5 (bys tt)) := zJ2 (hrd5.alloc hB12 _)
 have HRes2 := zJ2 hRes
 have Htt := zJ2 htt
 clear hRes hrd5 Hf5 HRes hT0 htt HTb
 go_wp2_with fail
 refine ((zJ1 HKN) _ (zJ1 HDS2)).mono ?_
 rintro e w4 ⟨Ah, nh, ch, A4, c4, rfl, hnm, hb4⟩
 dsimp only at hnm ⊢
 obtain ⟨bk, chn, hof, sof⟩ := nr
 dsimp only at hnm ⊢
 obtain ⟨sl, hsl⟩ : ∃ x, 24 * chn = x := ⟨_, rfl⟩
 have Hsl := zJ2 hsl
 have hb4' := (zJ1 HB2).trans (hb4.mono (zJ1 HB2).size)
 have Hnm := zJ2 hnm
 rw [hsl]
 have HB4 : Hid (Below w.heap.size w (w4.alloc (.cells #[.int .u64 (bk : Nat), .int .u64 (chn : Nat), .slice Ah nh ch, .slice A4 sl c4] 112))) := zJ2 (hb4'.alloc hb4'.size _)
 have HK4 : Hid (Blk (w4.alloc (.cells #[.int .u64 (bk : Nat), .int .u64 (chn : Nat), .slice Ah nh ch, .slice A4 sl c4] 112)) (w.heap.size + 1) 29 [.slice none 0 0, .string ⟨#[]⟩, .string ⟨#[]⟩, .slice none 0 0, .slice none 0 0]) := zJ2 (((zJ1 HK2).belowSz hb4).alloc _)
 have HT4 : Hid (Blk (w4.alloc (.cells #[.int .u64 (bk : Nat), .int .u64 (chn : Nat), .slice Ah nh ch, .slice A4 sl c4] 112)) w2.heap.size 24 [.slice A5 n5 c5]) := zJ2 (((zJ1 HT2).belowSz hb4).alloc _)
 have HN4 : Hid (Blk (w4.alloc (.cells #[.int .u64 (bk : Nat), .int .u64 (chn : Nat), .slice Ah nh ch, .slice A4 sl c4] 112)) w4.heap.size 112 [.int .u64 (bk : Nat), .int .u64 (chn : Nat), .slice Ah nh ch, .slice A4 sl c4]) := zJ2 (Blk.new w4 112 [.int .u64 (bk : Nat), .int .u64 (chn : Nat), .slice Ah nh ch, .slice A4 sl c4])
 have HDS4 : Hid (DsM (w4.alloc (.cells #[.int .u64 (bk : Nat), .int .u64 (chn : Nat), .slice Ah nh ch, .slice A4 sl c4] 112)) B1 g d d.L) := zJ2 (((zJ1 HDS2).belowSz hb4).belowSz ((Below.refl _ _).alloc (Nat.le_refl _) _))
 have hs4 := (zJ1 HDS2).sz
 have hs5 : B1 <= w4.heap.size := Nat.le_trans hs4 hb4.size
 have h24 : w2.heap.size < w4.heap.size := ((zJ1 HT2).belowSz hb4).lt
 have HRd6 : Hid (Rd (w4.alloc (.cells #[.int .u64 (bk : Nat), .int .u64 (chn : Nat), .slice Ah nh ch, .slice A4 sl c4] 112)) B1 1 A5 n5 (bys tt)) := zJ2 (((zJ1 HRd5).below (hb4.mono hs4)).alloc hs5 _)
 have HNs : Hid (Rd (w4.alloc (.cells #[.int .u64 (bk : Nat), .int .u64 (chn : Nat), .slice Ah nh ch, .slice A4 sl c4] 112)) B1 1 A4 sl (bys (Dy.cut b sof sl))) := zJ2 (by have := hnm.s; dsimp only at this; rw [hsl] at this; exact this.alloc hs5 _)
 have hNc : sl <= c4 := by have := hnm.sc; dsimp only at this; rw [hsl] at this; exact this
 have hch65 : chn <= 65 := hnm.fit.2
 clear hnm hb4' hb4 HB2 HK2 HT2 HDS2 hsl Hnm HRd5 HKN
 by_cases hx0 : nx = 0
 case neg =>
  have HP : Hid (Res = (Dy.zero, nx)) := zJ2 (by rw [<- zJ1 HRes2]; exact Dy.pBody_2 hx0)
  clear HRes2 HKR HKX
  go_wp2_with ((with_reducible refine (@id (wpList _ _ _ (Oper.mk none (Op.store 29 (.tmp 4) (.tmp 42)) _ _ _ none :: _) _ _) ?_)); refine wpList_store_row rfl 29 (.tmp 4) (.tmp 42) rfl (w.heap.size + 1) #[.slice none 0 0, .string ⟨#[]⟩, .string ⟨#[]⟩, .slice none 0 0, .slice none 0 0] rfl rfl 29 _ (zJ1 HK4) zJj rfl (wJk _ _ _ _ _ _ _ _ _ _ _) ?_)
  refine bodyPost_ret (results_cell_tmp (P := Tryz.prog) rfl _ _ (w.heap.size + 1) 29 #[.slice none 0 0, .string ⟨#[]⟩, .string ⟨#[]⟩, .slice none 0 0, .slice none 0 0] (0, 0) _ rfl (setRow_heap _ _ _ _ _ _ (zJ1 HK4)) Tryz.underlying29 rfl zJj) rfl ?_
  exact zJz (zJ1 HP) (below_setRow (zJ1 HB4) (Nat.le_succ _) _)
 subst hx0
 go_wp2_with fail
 refine ((zJ1 HKR) _ (zJ1 HDS4)).mono ?_
 rintro e w6 ⟨A6, c6, rfl, hrow6, hb6⟩
 dsimp only at hrow6 ⊢
 have e4 : (w4.alloc (.cells #[.int .u64 (bk : Nat), .int .u64 (chn : Nat), .slice Ah nh ch, .slice A4 sl c4] 112)).heap.size = w4.heap.size + 1 := by simp
 rw [e4] at hrow6
 obtain ⟨rl, hrl⟩ : ∃ x, rb.length = x := ⟨_, rfl⟩
 rw [hrl] at hrow6 hRb ⊢
 have HB6 := zJ2 ((zJ1 HB4).trans (hb6.mono (zJ1 HB4).size))
 have HK6 := zJ2 ((zJ1 HK4).belowSz hb6)
 have HT6 := zJ2 ((zJ1 HT4).belowSz hb6)
 have HN6 := zJ2 ((zJ1 HN4).belowSz hb6)
 have HDS6 := zJ2 ((zJ1 HDS4).belowSz hb6)
 have HRd7 := zJ2 ((zJ1 HRd6).below (hb6.mono (zJ1 HDS4).sz))
 have HNs6 := zJ2 ((zJ1 HNs).below (hb6.mono (zJ1 HDS4).sz))
 have h46 : w4.heap.size + 1 <= w6.heap.size := by have := hb6.size; rw [e4] at this; exact this
 have Hrow := zJ2 hrow6
 have Hlt6 : Hid (∀ k, (Value.slice A6 rl c6).ownBlock = some k -> k < w6.heap.size) := zJ2 (fun k hk => (hrow6.lt k hk).2)
 have Hrl := zJ2 hrl
 clear hrow6 hb6 HB4 HK4 HT4 HN4 HDS4 HRd6 HNs HKR hrl e4
 by_cases hr0 : rx = 0
 case neg =>
  have HP : Hid (Res = (Dy.zero, rx)) := zJ2 (by rw [<- zJ1 HRes2]; exact Dy.pBody_3 rfl hr0)
  clear HRes2 HKX
  go_wp2_with ((with_reducible refine (@id (wpList _ _ _ (Oper.mk none (Op.store 29 (.tmp 4) (.tmp 51)) _ _ _ none :: _) _ _) ?_)); refine wpList_store_row rfl 29 (.tmp 4) (.tmp 51) rfl (w.heap.size + 1) #[.slice none 0 0, .string ⟨#[]⟩, .string ⟨#[]⟩, .slice none 0 0, .slice none 0 0] rfl rfl 29 _ (zJ1 HK6) zJj rfl (wJk _ _ _ _ _ _ _ _ _ _ _) ?_)
  refine bodyPost_ret (results_cell_tmp (P := Tryz.prog) rfl _ _ (w.heap.size + 1) 29 #[.slice none 0 0, .string ⟨#[]⟩, .string ⟨#[]⟩, .slice none 0 0, .slice none 0 0] (0, 0) _ rfl (setRow_heap _ _ _ _ _ _ (zJ1 HK6)) Tryz.underlying29 rfl zJj) rfl ?_
  exact zJz (zJ1 HP) (below_setRow (zJ1 HB6) (Nat.le_succ _) _)
 subst hr0
 have KX := zJ2 ((zJ1 HKX) w6 A5 n5 c5 tt (zJ1 HDS6) (zJ1 HRd7) hn5 hc5)
 have x8 := ((zJ1 HT6).alloc (.cells #[.slice none 0 0, .string ⟨#[]⟩, .string ⟨#[]⟩, .slice none 0 0, .slice none 0 0] 29)).cell (i := 0) rfl
 clear HKX HDS6
 go_wp2_with fail
 refine (zJ1 KX).mono ?_
 rintro e w7 ⟨qx, rfl, hx7, hb7⟩
 have h67 := hb7.size
 have HB7 := zJ2 ((zJ1 HB6).trans (hb7.mono (zJ1 HB6).size))
 have HK7 := zJ2 ((zJ1 HK6).belowSz hb7)
 have HT7 := zJ2 ((zJ1 HT6).belowSz hb7)
 have HN7 := zJ2 ((zJ1 HN6).belowSz hb7)
 have HRd8 := zJ2 ((zJ1 HRd7).below (hb7.mono (by omega)))
 have HNs7 := zJ2 ((zJ1 HNs6).below (hb7.mono (by omega)))
 have Hrow7 := zJ2 (own_below (zJ1 Hrow) hb7)
 have Hx7 := zJ2 hx7
 clear hx7 hb7 HB6 HK6 HT6 HN6 HRd7 HNs6 Hrow KX x8
 cases qx
 ·have HP : Hid (Res = (Dy.zero, 25)) := zJ2 (by
   rcases zJ1 Hx7 with ⟨-, h0⟩ | ⟨h0, -⟩
   ·rw [<- zJ1 HRes2]; exact Dy.pBody_4 rfl rfl (by dsimp only; rw [zJ1 Htt]; exact h0)
   ·cases h0)
  clear Hx7 HRes2
  go_wp2_with ((with_reducible refine (@id (wpList _ _ _ (Oper.mk none (Op.store 29 (.tmp 4) (.tmp 58)) _ _ _ none :: _) _ _) ?_)); refine wpList_store_row rfl 29 (.tmp 4) (.tmp 58) rfl (w.heap.size + 1) #[.slice none 0 0, .string ⟨#[]⟩, .string ⟨#[]⟩, .slice none 0 0, .slice none 0 0] rfl rfl 29 _ (zJ1 HK7) zJj rfl (wJk _ _ _ _ _ _ _ _ _ _ _) ?_)
  refine bodyPost_ret (results_cell_tmp (P := Tryz.prog) rfl _ _ (w.heap.size + 1) 29 #[.slice none 0 0, .string ⟨#[]⟩, .string ⟨#[]⟩, .slice none 0 0, .slice none 0 0] (0, 0) _ rfl (setRow_heap _ _ _ _ _ _ (zJ1 HK7)) Tryz.underlying29 rfl zJj) rfl ?_
  exact zJz (zJ1 HP) (below_setRow (zJ1 HB7) (Nat.le_succ _) _)
 rcases zJ1 Hx7 with ⟨h0, -⟩ | ⟨-, D, A7, n7, c7, hD, hO7⟩
 ·cases h0
 have HD : Hid (Dy.texts (Dy.cut b pt n5) run L Dy.zero = some D) := zJ2 (by rw [zJ1 Htt]; exact hD)
 have HO7 := zJ2 hO7.out
 have HRw7 := zJ2 hO7.row
 have HDn := zJ2 hO7.n
 have u1 := (zJ1 HN7).cell (i := 1) rfl
 have hgo : w6.heap.size < w7.heap.size := hO7.out.lt
 clear hD hO7 Hx7
 by_cases hch : chn = 0
 case pos =>
  have hsl0 : sl = 0 := by rw [<- zJ1 Hsl, hch]
  have u3 := (zJ1 HN7).cell (i := 3) rfl
  have u8 := (zJ1 HT7).cell (i := 0) rfl
  have hc1 : ¬ (0 : Int) < (chn : Int) := by omega
  have KS := zJ2 (vJh A4 sl c4 B1 (sof + 24) w2.heap.size (chn - 1) b A5 n5 c5 tt w7 (by omega) (by omega) (by rw [hsl0, show bys (Dy.cut b (sof + 24) 0) = [] from by simp [Dy.cut, bys]]; exact Rd.none_ _ _ _ _) (by omega) hNc (by omega) u8 (zJ1 HRd8) hn5 hc5)
  have HW8 : Hid (Below w.heap.size w w7 /\ Blk w7 (w.heap.size + 1) 29 [.slice none 0 0, .string ⟨#[]⟩, .string ⟨#[]⟩, .slice none 0 0, .slice none 0 0] /\ Blk w7 w6.heap.size 29 [.slice A7 n7 c7, .string D.soname, .string D.run, .slice none 0 0, .slice none 0 0] /\ w7.ownsRow (w6.heap.size + 3) 9 1 (.slice A7 n7 c7) n7 (D.needed.map Value.string) /\ w7.ownsRow (w4.heap.size + 1) 5 1 (.slice A6 rl c6) rl (bys rb)) := zJ2 ⟨zJ1 HB7, zJ1 HK7, zJ1 HO7, zJ1 HRw7, zJ1 Hrow7⟩
  have Hs8 : Hid (w7.heap.size = w7.heap.size) := zJ2 rfl
  clear hsl0 HB7 HK7 HO7 HRw7 Hrow7 HN7 HT7 HRd8 HNs7 hch
  go_wp2_with fail
  refine (zJ1 KS).mono ?_
  intro e w9 h9
  obtain ⟨A9, n9, c9, q9, rfl, hf9, hb9⟩ := wJy h9
  have hs8 := zJ1 Hs8
  obtain ⟨gB, gK, gO, gR, gW⟩ := zJ1 HW8
  have HB9 := zJ2 (gB.trans (hb9.mono gB.size))
  have HK9 := zJ2 (gK.belowSz hb9)
  have HO9 := zJ2 (gO.belowSz hb9)
  have HRw9 := zJ2 (own_below gR hb9)
  have Hrow9 := zJ2 (own_below gW hb9)
  have h89 := hb9.size
  try rw [hs8] at h89
  have Hf9 := zJ2 hf9
  have v3 := (zJ1 HO9).cell (i := 3) rfl
  have f3 := (zJ1 HO9).free 3
  have HBx : Hid (Below w.heap.size w (w9.setCell ⟨w6.heap.size, 3, none⟩ (.slice A9 n9 c9))) := zJ2 ((zJ1 HB9).setCell (p := ⟨w6.heap.size, 3, none⟩) (by dsimp only; omega) _)
  have HKx : Hid (Blk (w9.setCell ⟨w6.heap.size, 3, none⟩ (.slice A9 n9 c9)) (w.heap.size + 1) 29 [.slice none 0 0, .string ⟨#[]⟩, .string ⟨#[]⟩, .slice none 0 0, .slice none 0 0]) := zJ2 ((zJ1 HK9).other (p := ⟨w6.heap.size, 3, none⟩) (by dsimp only; omega) _)
  clear hf9 h9 KS HW8 gB gK gO gR gW
  cases q9
  ·have HP : Hid (Res = (Dy.zero, 25)) := zJ2 (by
    rcases zJ1 Hf9 with ⟨-, h0⟩ | ⟨h0, -⟩
    ·rw [<- zJ1 HRes2]; exact Dy.pBody_5 rfl rfl (zJ1 HD) (by dsimp only; rw [zJ1 Htt]; exact h0)
    ·cases h0)
   clear Hf9 HRes2 HO9 HRw9 Hrow9 HD
   go_wp2_with ((with_reducible refine (@id (wpList _ _ _ (Oper.mk none (Op.store 29 (.tmp 4) (.tmp 76)) _ _ _ none :: _) _ _) ?_)); refine wpList_store_row rfl 29 (.tmp 4) (.tmp 76) rfl (w.heap.size + 1) #[.slice none 0 0, .string ⟨#[]⟩, .string ⟨#[]⟩, .slice none 0 0, .slice none 0 0] rfl rfl 29 _ (zJ1 HKx) zJj rfl (wJk _ _ _ _ _ _ _ _ _ _ _) ?_)
   refine bodyPost_ret (results_cell_tmp (P := Tryz.prog) rfl _ _ (w.heap.size + 1) 29 #[.slice none 0 0, .string ⟨#[]⟩, .string ⟨#[]⟩, .slice none 0 0, .slice none 0 0] (0, 0) _ rfl (setRow_heap _ _ _ _ _ _ (zJ1 HKx)) Tryz.underlying29 rfl zJj) rfl ?_
   exact zJz (zJ1 HP) (below_setRow (zJ1 HBx) (Nat.le_succ _) _)
  rcases zJ1 Hf9 with ⟨h0, -⟩ | ⟨-, ss, hss, hn9, ho9⟩
  ·cases h0
  have HSs : Hid (Dy.symsFrom (Dy.cut b pt n5) b (chn - 1) (sof + 24) = some ss) := zJ2 (by rw [zJ1 Htt]; exact hss)
  have hssl : ss.length <= 64 := by have := Dy.symsFrom_len hss; omega
  have Hn9 := zJ2 hn9
  have hn9b : n9 <= 4294967296 := by omega
  have HOx : Hid (Blk (w9.setCell ⟨w6.heap.size, 3, none⟩ (.slice A9 n9 c9)) w6.heap.size 29 [.slice A7 n7 c7, .string D.soname, .string D.run, .slice A9 n9 c9, .slice none 0 0]) := zJ2 ((zJ1 HO9).set 3 _)
  have HRwx := zJ2 (zJo (i := 3) (k := w6.heap.size) (zJ1 HRw9) (by omega) (.slice A9 n9 c9))
  have Hrowx := zJ2 (own_setNQ (zJ1 Hrow9) (p := ⟨w6.heap.size, 3, none⟩) (fun k hk => by have := (zJ1 Hlt6) k hk; dsimp only; omega) (.slice A9 n9 c9))
  have Hssx := zJ2 (zJo (i := 3) (k := w6.heap.size) ho9 (by omega) (.slice A9 n9 c9))
  have hsx : (w9.setCell ⟨w6.heap.size, 3, none⟩ (.slice A9 n9 c9)).heap.size = w9.heap.size := by simp
  have w3c := (zJ1 HOx).cell (i := 3) rfl
  have KR := zJ2 (vJp A6 rl c6 _ w6.heap.size rb A9 n9 c9 _ (Nat.le_refl _) (Rd.of_own (zJ1 Hrowx)) (by omega) (own_len (zJ1 Hrowx)) (by rw [hsx]; omega) w3c hn9b)
  clear hss hn9 ho9 Hf9 HO9 HRw9 Hrow9 HB9 HK9 Hrowx w3c
  go_wp2_with fail
  refine (zJ1 KR).mono ?_
  intro e w11 h11
  obtain ⟨A11, n11, c11, q11, rfl, hf11, hb11⟩ := vJ1 h11
  have h911 := hb11.size
  rw [hsx] at h911
  have HB11 := zJ2 ((zJ1 HBx).trans (hb11.mono (zJ1 HBx).size))
  have HK11 := zJ2 ((zJ1 HKx).belowSz hb11)
  have HO11 := zJ2 ((zJ1 HOx).belowSz hb11)
  have HRw11 := zJ2 (own_below (zJ1 HRwx) hb11)
  have Hss11 := zJ2 (own_below (zJ1 Hssx) hb11)
  have Hf11 := zJ2 hf11
  have v4 := (zJ1 HO11).cell (i := 4) rfl
  have f4 := (zJ1 HO11).free 4
  have HBy : Hid (Below w.heap.size w (w11.setCell ⟨w6.heap.size, 4, none⟩ (.slice A11 n11 c11))) := zJ2 ((zJ1 HB11).setCell (p := ⟨w6.heap.size, 4, none⟩) (by dsimp only; omega) _)
  have HKy : Hid (Blk (w11.setCell ⟨w6.heap.size, 4, none⟩ (.slice A11 n11 c11)) (w.heap.size + 1) 29 [.slice none 0 0, .string ⟨#[]⟩, .string ⟨#[]⟩, .slice none 0 0, .slice none 0 0]) := zJ2 ((zJ1 HK11).other (p := ⟨w6.heap.size, 4, none⟩) (by dsimp only; omega) _)
  clear hf11 h11 KR HBx HKx HOx HRwx Hssx v3 f3
  cases q11
  ·have HP : Hid (Res = (Dy.zero, 25)) := zJ2 (by
    rcases zJ1 Hf11 with ⟨-, h0⟩ | ⟨h0, -⟩
    ·rw [<- zJ1 HRes2]; exact Dy.pBody_6 rfl rfl (zJ1 HD) (zJ1 HSs) (by dsimp only; rw [zJ1 Hrl, <- zJ1 Hn9]; exact h0)
    ·cases h0)
   clear Hf11 HRes2 HO11 HRw11 Hss11 HD HSs
   go_wp2_with ((with_reducible refine (@id (wpList _ _ _ (Oper.mk none (Op.store 29 (.tmp 4) (.tmp 86)) _ _ _ none :: _) _ _) ?_)); refine wpList_store_row rfl 29 (.tmp 4) (.tmp 86) rfl (w.heap.size + 1) #[.slice none 0 0, .string ⟨#[]⟩, .string ⟨#[]⟩, .slice none 0 0, .slice none 0 0] rfl rfl 29 _ (zJ1 HKy) zJj rfl (wJk _ _ _ _ _ _ _ _ _ _ _) ?_)
   refine bodyPost_ret (results_cell_tmp (P := Tryz.prog) rfl _ _ (w.heap.size + 1) 29 #[.slice none 0 0, .string ⟨#[]⟩, .string ⟨#[]⟩, .slice none 0 0, .slice none 0 0] (0, 0) _ rfl (setRow_heap _ _ _ _ _ _ (zJ1 HKy)) Tryz.underlying29 rfl zJj) rfl ?_
   exact zJz (zJ1 HP) (below_setRow (zJ1 HBy) (Nat.le_succ _) _)
  rcases zJ1 Hf11 with ⟨h0, -⟩ | ⟨-, rs, hrs, hn11, ho11⟩
  ·cases h0
  have HOy : Hid (Blk (w11.setCell ⟨w6.heap.size, 4, none⟩ (.slice A11 n11 c11)) w6.heap.size 29 [.slice A7 n7 c7, .string D.soname, .string D.run, .slice A9 n9 c9, .slice A11 n11 c11]) := zJ2 ((zJ1 HO11).set 4 _)
  have HRwy := zJ2 (zJo (i := 4) (k := w6.heap.size) (zJ1 HRw11) (by omega) (.slice A11 n11 c11))
  have Hssy := zJ2 (zJo (i := 4) (k := w6.heap.size) (zJ1 Hss11) (by omega) (.slice A11 n11 c11))
  have Hrsy := zJ2 (zJo (i := 4) (k := w6.heap.size) ho11 (by rw [hsx]; omega) (.slice A11 n11 c11))
  have HP : Hid (Res = ({ D with syms := ss, relas := rs }, 0)) := zJ2 (by rw [<- zJ1 HRes2]; exact Dy.pBody_7 rfl rfl (zJ1 HD) (zJ1 HSs) (by dsimp only; rw [zJ1 Hrl, <- zJ1 Hn9]; exact hrs))
  have Hn11 := zJ2 hn11
  clear hrs hn11 ho11 Hf11 HO11 HRw11 Hss11 HRes2 HD HSs HB11 HK11
  go_wp2_with (first
   | ((with_reducible refine (@id (wpList _ _ _ (Oper.mk _ (Op.load 29 (.tmp 12)) _ _ _ none :: _) _ _) ?_)); refine wpList_load_row rfl 29 (.tmp 12) rfl w6.heap.size rfl 29 #[.slice A7 n7 c7, .string D.soname, .string D.run, .slice A9 n9 c9, .slice A11 n11 c11] (0, 0) _ (zJ1 HOy) Tryz.underlying29 rfl zJj ?_)
   | ((with_reducible refine (@id (wpList _ _ _ (Oper.mk none (Op.store 29 (.tmp 4) (.tmp 87)) _ _ _ none :: _) _ _) ?_)); refine wpList_store_row rfl 29 (.tmp 4) (.tmp 87) rfl (w.heap.size + 1) #[.slice A7 n7 c7, .string D.soname, .string D.run, .slice A9 n9 c9, .slice A11 n11 c11] rfl rfl 29 _ (zJ1 HKy) zJj rfl (wJk _ _ _ _ _ _ _ _ _ _ _) ?_))
  refine bodyPost_ret (results_cell_tmp (P := Tryz.prog) rfl _ _ (w.heap.size + 1) 29 #[.slice A7 n7 c7, .string D.soname, .string D.run, .slice A9 n9 c9, .slice A11 n11 c11] (0, 0) _ rfl (setRow_heap _ _ _ _ _ _ (zJ1 HKy)) Tryz.underlying29 rfl zJj) rfl ?_
  refine parse_good (zJ1 HP) (below_setRow (zJ1 HBy) (Nat.le_succ _) _) (zJ1 HDn) (zJ1 Hn9) (zJ1 Hn11) (zJh (zJs (zJ1 HRwy) (by omega) _) (by omega)) (zJh (zJs (zJ1 Hssy) (by omega) _) (by omega)) (zJh (zJs (zJ1 Hrsy) (by rw [hsx]; omega) _) (by rw [hsx]; omega))
 have hc1 : (0 : Int) < (chn : Int) := by omega
 have hsl24 : 24 <= sl := by have := zJ1 Hsl; omega
 have kf : ∀ w' : World, (Instr.slice 24 (.slice A4 sl c4) (some (.int .i64 24)) none none).run Tryz.prog w' = .ok (.slice (fromA A4 c4 24) (sl - 24) (c4 - 24)) w' := fun w' => xJ1 (P := Tryz.prog) Tryz.underlying24 (e := 5) (by kernel_rfl) .i64 A4 sl c4 24 hsl24 w'
 have u3 := (zJ1 HN7).cell (i := 3) rfl
 have f3n := (zJ1 HN7).free 3
 have hrd9 := (zJ1 HNs7).from_ (k := 24) hsl24 hNc
 have hbc : (bys (Dy.cut b sof sl)).drop 24 = bys (Dy.cut b (sof + 24) (sl - 24)) := by
  unfold bys Dy.cut
  rw [<- List.map_drop, List.drop_take, List.drop_drop]
 rw [hbc] at hrd9
 obtain ⟨A8, hA8⟩ : ∃ x, fromA A4 c4 24 = x := ⟨_, rfl⟩
 rw [hA8] at kf hrd9
 obtain ⟨W8, hW8⟩ : ∃ x, w7.setCell ⟨w4.heap.size, 3, none⟩ (.slice A8 (sl - 24) (c4 - 24)) = x := ⟨_, rfl⟩
 have gN : Blk W8 w4.heap.size 112 [.int .u64 (bk : Nat), .int .u64 (chn : Nat), .slice Ah nh ch, .slice A8 (sl - 24) (c4 - 24)] := by rw [<- hW8]; exact (zJ1 HN7).set 3 _
 have gT : Blk W8 w2.heap.size 24 [.slice A5 n5 c5] := by rw [<- hW8]; exact (zJ1 HT7).other (p := ⟨w4.heap.size, 3, none⟩) (by dsimp only; omega) _
 have gB : Below w.heap.size w W8 := by rw [<- hW8]; exact (zJ1 HB7).setCell (p := ⟨w4.heap.size, 3, none⟩) (by dsimp only; omega) _
 have gK : Blk W8 (w.heap.size + 1) 29 [.slice none 0 0, .string ⟨#[]⟩, .string ⟨#[]⟩, .slice none 0 0, .slice none 0 0] := by rw [<- hW8]; exact (zJ1 HK7).other (p := ⟨w4.heap.size, 3, none⟩) (by dsimp only; omega) _
 have gO : Blk W8 w6.heap.size 29 [.slice A7 n7 c7, .string D.soname, .string D.run, .slice none 0 0, .slice none 0 0] := by rw [<- hW8]; exact (zJ1 HO7).other (p := ⟨w4.heap.size, 3, none⟩) (by dsimp only; omega) _
 have gR : W8.ownsRow (w6.heap.size + 3) 9 1 (.slice A7 n7 c7) n7 (D.needed.map Value.string) := by rw [<- hW8]; exact zJo (zJ1 HRw7) (by omega) _
 have gW : W8.ownsRow (w4.heap.size + 1) 5 1 (.slice A6 rl c6) rl (bys rb) := by rw [<- hW8]; exact zJo (zJ1 Hrow7) (by omega) _
 have gD : Rd W8 B1 1 A5 n5 (bys tt) := by rw [<- hW8]; exact (zJ1 HRd8).setCell (p := ⟨w4.heap.size, 3, none⟩) (by dsimp only; omega) _
 have gS : Rd W8 B1 1 A8 (sl - 24) (bys (Dy.cut b (sof + 24) (sl - 24))) := by rw [<- hW8]; exact hrd9.setCell (p := ⟨w4.heap.size, 3, none⟩) (by dsimp only; omega) _
 have hs8 : W8.heap.size = w7.heap.size := by rw [<- hW8]; simp
 have HW8 : Hid (Below w.heap.size w W8 /\ Blk W8 (w.heap.size + 1) 29 [.slice none 0 0, .string ⟨#[]⟩, .string ⟨#[]⟩, .slice none 0 0, .slice none 0 0] /\ Blk W8 w6.heap.size 29 [.slice A7 n7 c7, .string D.soname, .string D.run, .slice none 0 0, .slice none 0 0] /\ W8.ownsRow (w6.heap.size + 3) 9 1 (.slice A7 n7 c7) n7 (D.needed.map Value.string) /\ W8.ownsRow (w4.heap.size + 1) 5 1 (.slice A6 rl c6) rl (bys rb)) := zJ2 ⟨gB, gK, gO, gR, gW⟩
 have hc4 : sl - 24 <= c4 - 24 := by omega
 have KS := zJ2 (vJh A8 (sl - 24) (c4 - 24) B1 (sof + 24) w2.heap.size (chn - 1) b A5 n5 c5 tt W8 (by rw [hs8]; omega) (by have := zJ1 Hsl; omega) gS (by have := zJ1 Hsl; omega) hc4 (by rw [hs8]; omega) (gT.cell (i := 0) rfl) gD hn5 hc5)
 have u9 := (zJ1 HT7).cell (i := 0) rfl
 have y3 := gN.cell (i := 3) rfl
 have y8 := gT.cell (i := 0) rfl
 have cI : ((sl - 24 : Nat) : Int) = (sl : Int) - 24 := by omega
 obtain ⟨s2, hs2⟩ : ∃ x, sl - 24 = x := ⟨_, rfl⟩
 obtain ⟨c2, hc2⟩ : ∃ x, c4 - 24 = x := ⟨_, rfl⟩
 rw [hs2, hc2] at kf hW8 y3
 rw [hs2, hc2] at KS
 rw [<- hW8] at y3 y8
 have kS := zJ1 KS
 rw [<- hW8] at kS
 have hw8 := zJ1 HW8
 rw [<- hW8] at hw8 hs8
 clear HB7 HK7 HO7 HRw7 Hrow7 HN7 HT7 HRd8 HNs7 KS HW8 gN gT gB gK gO gR gW gD gS hrd9 hbc hA8 hW8 cI hs2 hc2
 have KS := zJ2 kS
 have HW8 := zJ2 hw8
 have Hs8 := zJ2 hs8
 clear kS hw8 hsl24 hNc hc4 hs8
 go_wp2_with fail
 refine (zJ1 KS).mono ?_
 intro e w9 h9
 obtain ⟨A9, n9, c9, q9, rfl, hf9, hb9⟩ := wJy h9
 have hs8 := zJ1 Hs8
 obtain ⟨gB, gK, gO, gR, gW⟩ := zJ1 HW8
 have HB9 := zJ2 (gB.trans (hb9.mono gB.size))
 have HK9 := zJ2 (gK.belowSz hb9)
 have HO9 := zJ2 (gO.belowSz hb9)
 have HRw9 := zJ2 (own_below gR hb9)
 have Hrow9 := zJ2 (own_below gW hb9)
 have h89 := hb9.size
 try rw [hs8] at h89
 have Hf9 := zJ2 hf9
 have v3 := (zJ1 HO9).cell (i := 3) rfl
 have f3 := (zJ1 HO9).free 3
 have HBx : Hid (Below w.heap.size w (w9.setCell ⟨w6.heap.size, 3, none⟩ (.slice A9 n9 c9))) := zJ2 ((zJ1 HB9).setCell (p := ⟨w6.heap.size, 3, none⟩) (by dsimp only; omega) _)
 have HKx : Hid (Blk (w9.setCell ⟨w6.heap.size, 3, none⟩ (.slice A9 n9 c9)) (w.heap.size + 1) 29 [.slice none 0 0, .string ⟨#[]⟩, .string ⟨#[]⟩, .slice none 0 0, .slice none 0 0]) := zJ2 ((zJ1 HK9).other (p := ⟨w6.heap.size, 3, none⟩) (by dsimp only; omega) _)
 clear hf9 h9 KS HW8 gB gK gO gR gW
 cases q9
 ·have HP : Hid (Res = (Dy.zero, 25)) := zJ2 (by
   rcases zJ1 Hf9 with ⟨-, h0⟩ | ⟨h0, -⟩
   ·rw [<- zJ1 HRes2]; exact Dy.pBody_5 rfl rfl (zJ1 HD) (by dsimp only; rw [zJ1 Htt]; exact h0)
   ·cases h0)
  clear Hf9 HRes2 HO9 HRw9 Hrow9 HD
  go_wp2_with ((with_reducible refine (@id (wpList _ _ _ (Oper.mk none (Op.store 29 (.tmp 4) (.tmp 76)) _ _ _ none :: _) _ _) ?_)); refine wpList_store_row rfl 29 (.tmp 4) (.tmp 76) rfl (w.heap.size + 1) #[.slice none 0 0, .string ⟨#[]⟩, .string ⟨#[]⟩, .slice none 0 0, .slice none 0 0] rfl rfl 29 _ (zJ1 HKx) zJj rfl (wJk _ _ _ _ _ _ _ _ _ _ _) ?_)
  refine bodyPost_ret (results_cell_tmp (P := Tryz.prog) rfl _ _ (w.heap.size + 1) 29 #[.slice none 0 0, .string ⟨#[]⟩, .string ⟨#[]⟩, .slice none 0 0, .slice none 0 0] (0, 0) _ rfl (setRow_heap _ _ _ _ _ _ (zJ1 HKx)) Tryz.underlying29 rfl zJj) rfl ?_
  exact zJz (zJ1 HP) (below_setRow (zJ1 HBx) (Nat.le_succ _) _)
 rcases zJ1 Hf9 with ⟨h0, -⟩ | ⟨-, ss, hss, hn9, ho9⟩
 ·cases h0
 have HSs : Hid (Dy.symsFrom (Dy.cut b pt n5) b (chn - 1) (sof + 24) = some ss) := zJ2 (by rw [zJ1 Htt]; exact hss)
 have hssl : ss.length <= 64 := by have := Dy.symsFrom_len hss; omega
 have Hn9 := zJ2 hn9
 have hn9b : n9 <= 4294967296 := by omega
 have HOx : Hid (Blk (w9.setCell ⟨w6.heap.size, 3, none⟩ (.slice A9 n9 c9)) w6.heap.size 29 [.slice A7 n7 c7, .string D.soname, .string D.run, .slice A9 n9 c9, .slice none 0 0]) := zJ2 ((zJ1 HO9).set 3 _)
 have HRwx := zJ2 (zJo (i := 3) (k := w6.heap.size) (zJ1 HRw9) (by omega) (.slice A9 n9 c9))
 have Hrowx := zJ2 (own_setNQ (zJ1 Hrow9) (p := ⟨w6.heap.size, 3, none⟩) (fun k hk => by have := (zJ1 Hlt6) k hk; dsimp only; omega) (.slice A9 n9 c9))
 have Hssx := zJ2 (zJo (i := 3) (k := w6.heap.size) ho9 (by omega) (.slice A9 n9 c9))
 have hsx : (w9.setCell ⟨w6.heap.size, 3, none⟩ (.slice A9 n9 c9)).heap.size = w9.heap.size := by simp
 have w3c := (zJ1 HOx).cell (i := 3) rfl
 have KR := zJ2 (vJp A6 rl c6 _ w6.heap.size rb A9 n9 c9 _ (Nat.le_refl _) (Rd.of_own (zJ1 Hrowx)) (by omega) (own_len (zJ1 Hrowx)) (by rw [hsx]; omega) w3c hn9b)
 clear hss hn9 ho9 Hf9 HO9 HRw9 Hrow9 HB9 HK9 Hrowx w3c
 go_wp2_with fail
 refine (zJ1 KR).mono ?_
 intro e w11 h11
 obtain ⟨A11, n11, c11, q11, rfl, hf11, hb11⟩ := vJ1 h11
 have h911 := hb11.size
 rw [hsx] at h911
 have HB11 := zJ2 ((zJ1 HBx).trans (hb11.mono (zJ1 HBx).size))
 have HK11 := zJ2 ((zJ1 HKx).belowSz hb11)
 have HO11 := zJ2 ((zJ1 HOx).belowSz hb11)
 have HRw11 := zJ2 (own_below (zJ1 HRwx) hb11)
 have Hss11 := zJ2 (own_below (zJ1 Hssx) hb11)
 have Hf11 := zJ2 hf11
 have v4 := (zJ1 HO11).cell (i := 4) rfl
 have f4 := (zJ1 HO11).free 4
 have HBy : Hid (Below w.heap.size w (w11.setCell ⟨w6.heap.size, 4, none⟩ (.slice A11 n11 c11))) := zJ2 ((zJ1 HB11).setCell (p := ⟨w6.heap.size, 4, none⟩) (by dsimp only; omega) _)
 have HKy : Hid (Blk (w11.setCell ⟨w6.heap.size, 4, none⟩ (.slice A11 n11 c11)) (w.heap.size + 1) 29 [.slice none 0 0, .string ⟨#[]⟩, .string ⟨#[]⟩, .slice none 0 0, .slice none 0 0]) := zJ2 ((zJ1 HK11).other (p := ⟨w6.heap.size, 4, none⟩) (by dsimp only; omega) _)
 clear hf11 h11 KR HBx HKx HOx HRwx Hssx v3 f3
 cases q11
 ·have HP : Hid (Res = (Dy.zero, 25)) := zJ2 (by
   rcases zJ1 Hf11 with ⟨-, h0⟩ | ⟨h0, -⟩
   ·rw [<- zJ1 HRes2]; exact Dy.pBody_6 rfl rfl (zJ1 HD) (zJ1 HSs) (by dsimp only; rw [zJ1 Hrl, <- zJ1 Hn9]; exact h0)
   ·cases h0)
  clear Hf11 HRes2 HO11 HRw11 Hss11 HD HSs
  go_wp2_with ((with_reducible refine (@id (wpList _ _ _ (Oper.mk none (Op.store 29 (.tmp 4) (.tmp 86)) _ _ _ none :: _) _ _) ?_)); refine wpList_store_row rfl 29 (.tmp 4) (.tmp 86) rfl (w.heap.size + 1) #[.slice none 0 0, .string ⟨#[]⟩, .string ⟨#[]⟩, .slice none 0 0, .slice none 0 0] rfl rfl 29 _ (zJ1 HKy) zJj rfl (wJk _ _ _ _ _ _ _ _ _ _ _) ?_)
  refine bodyPost_ret (results_cell_tmp (P := Tryz.prog) rfl _ _ (w.heap.size + 1) 29 #[.slice none 0 0, .string ⟨#[]⟩, .string ⟨#[]⟩, .slice none 0 0, .slice none 0 0] (0, 0) _ rfl (setRow_heap _ _ _ _ _ _ (zJ1 HKy)) Tryz.underlying29 rfl zJj) rfl ?_
  exact zJz (zJ1 HP) (below_setRow (zJ1 HBy) (Nat.le_succ _) _)
 rcases zJ1 Hf11 with ⟨h0, -⟩ | ⟨-, rs, hrs, hn11, ho11⟩
 ·cases h0
 have HOy : Hid (Blk (w11.setCell ⟨w6.heap.size, 4, none⟩ (.slice A11 n11 c11)) w6.heap.size 29 [.slice A7 n7 c7, .string D.soname, .string D.run, .slice A9 n9 c9, .slice A11 n11 c11]) := zJ2 ((zJ1 HO11).set 4 _)
 have HRwy := zJ2 (zJo (i := 4) (k := w6.heap.size) (zJ1 HRw11) (by omega) (.slice A11 n11 c11))
 have Hssy := zJ2 (zJo (i := 4) (k := w6.heap.size) (zJ1 Hss11) (by omega) (.slice A11 n11 c11))
 have Hrsy := zJ2 (zJo (i := 4) (k := w6.heap.size) ho11 (by rw [hsx]; omega) (.slice A11 n11 c11))
 have HP : Hid (Res = ({ D with syms := ss, relas := rs }, 0)) := zJ2 (by rw [<- zJ1 HRes2]; exact Dy.pBody_7 rfl rfl (zJ1 HD) (zJ1 HSs) (by dsimp only; rw [zJ1 Hrl, <- zJ1 Hn9]; exact hrs))
 have Hn11 := zJ2 hn11
 clear hrs hn11 ho11 Hf11 HO11 HRw11 Hss11 HRes2 HD HSs HB11 HK11
 go_wp2_with (first
  | ((with_reducible refine (@id (wpList _ _ _ (Oper.mk _ (Op.load 29 (.tmp 12)) _ _ _ none :: _) _ _) ?_)); refine wpList_load_row rfl 29 (.tmp 12) rfl w6.heap.size rfl 29 #[.slice A7 n7 c7, .string D.soname, .string D.run, .slice A9 n9 c9, .slice A11 n11 c11] (0, 0) _ (zJ1 HOy) Tryz.underlying29 rfl zJj ?_)
  | ((with_reducible refine (@id (wpList _ _ _ (Oper.mk none (Op.store 29 (.tmp 4) (.tmp 87)) _ _ _ none :: _) _ _) ?_)); refine wpList_store_row rfl 29 (.tmp 4) (.tmp 87) rfl (w.heap.size + 1) #[.slice A7 n7 c7, .string D.soname, .string D.run, .slice A9 n9 c9, .slice A11 n11 c11] rfl rfl 29 _ (zJ1 HKy) zJj rfl (wJk _ _ _ _ _ _ _ _ _ _ _) ?_))
 refine bodyPost_ret (results_cell_tmp (P := Tryz.prog) rfl _ _ (w.heap.size + 1) 29 #[.slice A7 n7 c7, .string D.soname, .string D.run, .slice A9 n9 c9, .slice A11 n11 c11] (0, 0) _ rfl (setRow_heap _ _ _ _ _ _ (zJ1 HKy)) Tryz.underlying29 rfl zJj) rfl ?_
 refine parse_good (zJ1 HP) (below_setRow (zJ1 HBy) (Nat.le_succ _) _) (zJ1 HDn) (zJ1 Hn9) (zJ1 Hn11) (zJh (zJs (zJ1 HRwy) (by omega) _) (by omega)) (zJh (zJs (zJ1 Hssy) (by omega) _) (by omega)) (zJh (zJs (zJ1 Hrsy) (by rw [hsx]; omega) _) (by rw [hsx]; omega))
end Go.Proofs.YtnbecdahfgkffaaGreat
