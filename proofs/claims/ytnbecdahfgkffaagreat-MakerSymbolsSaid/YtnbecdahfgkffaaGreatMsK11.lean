/- Texts of the claim LawMakerSymbols (Dy18): what the functions that the statement reaches compute, and plain laws of it. Conditions: those that each theorem states. -/
import Derived.Test.YtnbecdahfgkffaaGreatMsK10
set_option linter.unusedVariables false
set_option linter.unusedSimpArgs false
namespace Go.Proofs.YtnbecdahfgkffaaGreat
open Go.RowKit
set_option maxRecDepth 100000 in
set_option maxHeartbeats 8000000 in
theorem dparse_any (A : Option Addr) (n c B : Nat) (b : List UInt8) (ty en ph : Int) (As : Option Addr) (ns cs : Nat) (segs : List El.Sg) (w : World) (hB : B ≤ w.heap.size) (hb : Rd w B 1 A n (bys b)) (hs : Rd w B 6 As ns (segCells segs)) (hn : n ≤ 4294967296) (hns : ns ≤ 4294967296) (hc : n ≤ c) (hfit : ∀ s ∈ segs, SgFit s) :
    Calls Tryz.prog 20 #[.slice A n c, .agg #[.int .u16 ty, .int .u64 en, .int .u64 ph, .slice As ns cs]] w (ParseE (Dy.parse b segs) w) := by
  have hbl : b.length = n := by have := hb.1; simp [bys] at this; omega
  have e1 : (w.alloc (.cells #[.int .u16 ty, .int .u64 en, .int .u64 ph, .slice As ns cs] 44)).heap.size = w.heap.size + 1 := by simp
  have e2 : ((w.alloc (.cells #[.int .u16 ty, .int .u64 en, .int .u64 ph, .slice As ns cs] 44)).alloc (.cells #[.slice none 0 0, .string ⟨#[]⟩, .string ⟨#[]⟩, .slice none 0 0, .slice none 0 0] 29)).heap.size = w.heap.size + 2 := by simp
  have hB0 : Below w.heap.size w ((w.alloc (.cells #[.int .u16 ty, .int .u64 en, .int .u64 ph, .slice As ns cs] 44)).alloc (.cells #[.slice none 0 0, .string ⟨#[]⟩, .string ⟨#[]⟩, .slice none 0 0, .slice none 0 0] 29)) := ((Below.refl _ _).alloc (Nat.le_refl _) _).alloc (by rw [e1]; omega) _
  have hK0 := Blk.new (w.alloc (.cells #[.int .u16 ty, .int .u64 en, .int .u64 ph, .slice As ns cs] 44)) 29 [.slice none 0 0, .string ⟨#[]⟩, .string ⟨#[]⟩, .slice none 0 0, .slice none 0 0]
  rw [e1] at hK0
  have hH0 := (Blk.new w 44 [.int .u16 ty, .int .u64 en, .int .u64 ph, .slice As ns cs]).alloc (.cells #[.slice none 0 0, .string ⟨#[]⟩, .string ⟨#[]⟩, .slice none 0 0, .slice none 0 0] 29)
  have z0 := hH0.cell (i := 0) rfl
  have z1 := hH0.cell (i := 1) rfl
  have z2 := hH0.cell (i := 2) rfl
  have z3 := hH0.cell (i := 3) rfl
  have KO := hide (dopen_any A n c w.heap.size b ty en ph As ns cs segs ((w.alloc (.cells #[.int .u16 ty, .int .u64 en, .int .u64 ph, .slice As ns cs] 44)).alloc (.cells #[.slice none 0 0, .string ⟨#[]⟩, .string ⟨#[]⟩, .slice none 0 0, .slice none 0 0] 29)) (by rw [e2]; omega) ((hb.more hB).below hB0) ((hs.more hB).below hB0) hn hns hc hfit)
  have HB0 := hide hB0
  have HK0 := hide hK0
  obtain ⟨Res, hRes⟩ : ∃ R, Dy.parse b segs = R := ⟨_, rfl⟩
  rw [hRes]
  have HRes := hide hRes
  have Hbl := hide hbl
  clear hb hs hfit hB0 hK0 hH0 e1 e2 hbl hRes
  go_enter Tryz.func20, Tryz.ntmps20
  go_wp2_with fail
  refine (unhide KO).mono ?_
  rintro e w1 ⟨hb1, ⟨q, ho, rfl, hq⟩ | ⟨g, Al, k, cl, L, gm, ho, rfl, hds, hok⟩⟩
  · obtain ⟨⟨x, ox⟩, hx⟩ : ∃ y, Dy.open_ b segs = y := ⟨_, rfl⟩
    rw [hx] at ho hq ⊢
    dsimp only at ho hq ⊢
    subst ho
    have HP : Hid (Res = (Dy.zero, x)) := hide (by rw [← unhide HRes]; exact Dy.parse_no hx)
    have HB1 := hide ((unhide HB0).trans (hb1.mono (unhide HB0).size))
    have HK1 := hide ((unhide HK0).belowSz hb1)
    clear hx HRes hb1 HB0 HK0 KO z0 z1 z2 z3
    by_cases hx0 : x = 0
    · have hq0 := hq hx0
      subst hq0
      subst hx0
      clear hq
      go_wp2_with ((with_reducible refine (@id (wpList _ _ _ (Oper.mk none (Op.store 29 (.tmp 4) (.tmp 25)) _ _ _ none :: _) _ _) ?_)); refine wpList_store_row rfl 29 (.tmp 4) (.tmp 25) rfl (w.heap.size + 1) #[.slice none 0 0, .string ⟨#[]⟩, .string ⟨#[]⟩, .slice none 0 0, .slice none 0 0] rfl rfl 29 _ (unhide HK1) dyInfo rfl (dyOne _ _ _ _ _ _ _ _ _ _ _) ?_)
      refine bodyPost_ret (results_cell_tmp (P := Tryz.prog) rfl _ _ (w.heap.size + 1) 29 #[.slice none 0 0, .string ⟨#[]⟩, .string ⟨#[]⟩, .slice none 0 0, .slice none 0 0] (0, 0) _ rfl (setRow_heap _ _ _ _ _ _ (unhide HK1)) Tryz.underlying29 rfl dyInfo) rfl ?_
      exact parse_nil (unhide HP) (below_setRow (unhide HB1) (Nat.le_succ _) _)
    · clear hq
      go_wp2_with ((with_reducible refine (@id (wpList _ _ _ (Oper.mk none (Op.store 29 (.tmp 4) (.tmp 25)) _ _ _ none :: _) _ _) ?_)); refine wpList_store_row rfl 29 (.tmp 4) (.tmp 25) rfl (w.heap.size + 1) #[.slice none 0 0, .string ⟨#[]⟩, .string ⟨#[]⟩, .slice none 0 0, .slice none 0 0] rfl rfl 29 _ (unhide HK1) dyInfo rfl (dyOne _ _ _ _ _ _ _ _ _ _ _) ?_)
      refine bodyPost_ret (results_cell_tmp (P := Tryz.prog) rfl _ _ (w.heap.size + 1) 29 #[.slice none 0 0, .string ⟨#[]⟩, .string ⟨#[]⟩, .slice none 0 0, .slice none 0 0] (0, 0) _ rfl (setRow_heap _ _ _ _ _ _ (unhide HK1)) Tryz.underlying29 rfl dyInfo) rfl ?_
      exact parse_nil (unhide HP) (below_setRow (unhide HB1) (Nat.le_succ _) _)
  have HB1 := hide ((unhide HB0).trans (hb1.mono (unhide HB0).size))
  have HK1 := hide ((unhide HK0).belowSz hb1)
  have hRes := unhide HRes
  rw [Dy.parse_some ho, unhide Hbl] at hRes
  clear hb1 HB0 HK0 KO z0 z1 z2 z3 HRes
  obtain ⟨d, hd⟩ : ∃ d : Ds, (⟨A, n, c, b, ty, en, ph, As, ns, cs, segs, Al, k, cl, L, gm⟩ : Ds) = d := ⟨_, rfl⟩
  have dm : d.m = n := by rw [← hd]
  have db : d.b = b := by rw [← hd]
  have dsg : d.segs = segs := by rw [← hd]
  have dL : d.L = L := by rw [← hd]
  rw [hd] at hds hok
  obtain ⟨B1, hB1⟩ : ∃ x, ((w.alloc (.cells #[.int .u16 ty, .int .u64 en, .int .u64 ph, .slice As ns cs] 44)).alloc (.cells #[.slice none 0 0, .string ⟨#[]⟩, .string ⟨#[]⟩, .slice none 0 0, .slice none 0 0] 29)).heap.size = x := ⟨_, rfl⟩
  rw [hB1] at hds
  have hds2 : DsM w1 B1 g d d.L := by rw [dL]; exact hds
  have hB1w : w.heap.size ≤ B1 := by rw [← hB1]; simp; omega
  have hbl2 : d.b.length = d.m := by rw [db, dm]; exact unhide Hbl
  have hdk : d.k ≤ 4294967296 := by
    have h1 := hds2.len
    have h2 := Dy.open_len ho
    rw [unhide Hbl] at h2
    rw [h1, dL]
    omega
  clear hd hds hB1
  have KT := table_any B1 g d 5 10 w1 hds2 hok rfl rfl
  have KNm := fun (w' : World) (h : DsM w' B1 g d d.L) => names_any B1 g d w' h hok hbl2
  have KRe := fun (w' : World) (h : DsM w' B1 g d d.L) => relas_any B1 g d w' h hok hbl2
  have KTx := fun (V : World) (At : Option Addr) (mt ct : Nat) (t : List UInt8) (h : DsM V B1 g d d.L) (hT : Rd V B1 1 At mt (bys t)) (hmt : mt ≤ 4294967296) (hmc : mt ≤ ct) => texts_any V B1 g d At mt ct t h hok hdk hT hmt hmc
  rw [dsg] at KT KNm KRe
  rw [db] at KT KNm KRe
  rw [dm] at KT
  rw [dL] at KT
  have hKN : ∀ (w' : World) (h : DsM w' B1 g d d.L), Calls Tryz.prog 57 #[.pointer (some ⟨g, 0, none⟩)] w' (NamesE (Dy.names b (El.loads segs) L) B1 b w') := fun w' h => dL ▸ KNm w' h
  have hKR : ∀ (w' : World) (h : DsM w' B1 g d d.L), Calls Tryz.prog 58 #[.pointer (some ⟨g, 0, none⟩)] w' (RelasE (Dy.relaB b (El.loads segs) L) w') := fun w' h => dL ▸ KRe w' h
  have hKX : ∀ (V : World) (At : Option Addr) (mt ct : Nat) (t : List UInt8) (h : DsM V B1 g d d.L) (hT : Rd V B1 1 At mt (bys t)) (hmt : mt ≤ 4294967296) (hmc : mt ≤ ct), Calls Tryz.prog 59 #[.pointer (some ⟨g, 0, none⟩), .slice At mt ct, .pointer (some ⟨V.heap.size, 0, none⟩)] (V.alloc (.cells #[.slice none 0 0, .string ⟨#[]⟩, .string ⟨#[]⟩, .slice none 0 0, .slice none 0 0] 29)) (TextsE (Dy.texts t (Dy.val L 29).isSome L Dy.zero) V g) := fun V At mt ct t h hT hmt hmc => by
    have := KTx V At mt ct t h hT hmt hmc
    rw [dL] at this
    exact this
  clear KNm KRe KTx
  obtain ⟨T, hT⟩ : ∃ x, Dy.table n (El.loads segs) L 5 10 = x := ⟨_, rfl⟩
  obtain ⟨⟨nx, nr⟩, hN⟩ : ∃ x, Dy.names b (El.loads segs) L = x := ⟨_, rfl⟩
  obtain ⟨⟨rx, rb⟩, hR⟩ : ∃ x, Dy.relaB b (El.loads segs) L = x := ⟨_, rfl⟩
  obtain ⟨run, hrun⟩ : ∃ x, (Dy.val L 29).isSome = x := ⟨_, rfl⟩
  have hTb : ∀ t, T = some t → t.2 ≤ n := fun t h => by rw [← hT] at h; exact Dy.table_le h
  have hRb : rb.length ≤ 1536 := by have := Dy.relaB_len (b := b) (l := El.loads segs) (L := L); rw [hR] at this; exact this
  rw [hT] at KT hRes
  rw [hN] at hKN hRes
  rw [hR] at hKR hRes
  rw [hrun] at hKX hRes
  have HKT := hide KT
  have HKN := hide hKN
  have HKR := hide hKR
  have HKX := hide hKX
  have HRes := hide hRes
  have HDS1 := hide hds2
  have HTb := hide hTb
  have HB1w := hide hB1w
  clear KT hKN hKR hKX hRes hds2 hT hN hR hrun dL dm db dsg hok hbl2 ho hTb hB1w hdk
  go_wp2_with fail
  refine (unhide HKT).mono ?_
  intro e w2 h2
  obtain ⟨A5, n5, c5, q5, rfl, hf5, hb2⟩ := tableE_form h2
  have HB2 : Hid (Below w.heap.size w (w2.alloc (.cells #[.slice A5 n5 c5] 24))) := hide (((unhide HB1).trans (hb2.mono (unhide HB1).size)).alloc ((unhide HB1).trans (hb2.mono (unhide HB1).size)).size _)
  have HK2 : Hid (Blk (w2.alloc (.cells #[.slice A5 n5 c5] 24)) (w.heap.size + 1) 29 [.slice none 0 0, .string ⟨#[]⟩, .string ⟨#[]⟩, .slice none 0 0, .slice none 0 0]) := hide (((unhide HK1).belowSz hb2).alloc _)
  have HT2 : Hid (Blk (w2.alloc (.cells #[.slice A5 n5 c5] 24)) w2.heap.size 24 [.slice A5 n5 c5]) := hide (Blk.new w2 24 [.slice A5 n5 c5])
  have HDS2 : Hid (DsM (w2.alloc (.cells #[.slice A5 n5 c5] 24)) B1 g d d.L) := hide (((unhide HDS1).belowSz hb2).belowSz ((Below.refl _ _).alloc (Nat.le_refl _) _))
  have Hf5 := hide hf5
  have hB12 : B1 ≤ w2.heap.size := Nat.le_trans (unhide HDS1).sz hb2.size
  have h2w : w.heap.size + 1 < w2.heap.size := ((unhide HK1).belowSz hb2).lt
  clear HKT HB1 HK1 HDS1 h2 hf5 hb2
  cases q5
  · have HP : Hid (Res = (Dy.zero, 25)) := hide (by
      rcases unhide Hf5 with ⟨-, h0⟩ | ⟨h0, -⟩
      · rw [← unhide HRes, h0]; exact Dy.pBody_1
      · cases h0)
    clear Hf5 HRes HKN HKR HKX HTb HT2 HDS2
    go_wp2_with ((with_reducible refine (@id (wpList _ _ _ (Oper.mk none (Op.store 29 (.tmp 4) (.tmp 34)) _ _ _ none :: _) _ _) ?_)); refine wpList_store_row rfl 29 (.tmp 4) (.tmp 34) rfl (w.heap.size + 1) #[.slice none 0 0, .string ⟨#[]⟩, .string ⟨#[]⟩, .slice none 0 0, .slice none 0 0] rfl rfl 29 _ (unhide HK2) dyInfo rfl (dyOne _ _ _ _ _ _ _ _ _ _ _) ?_)
    refine bodyPost_ret (results_cell_tmp (P := Tryz.prog) rfl _ _ (w.heap.size + 1) 29 #[.slice none 0 0, .string ⟨#[]⟩, .string ⟨#[]⟩, .slice none 0 0, .slice none 0 0] (0, 0) _ rfl (setRow_heap _ _ _ _ _ _ (unhide HK2)) Tryz.underlying29 rfl dyInfo) rfl ?_
    exact parse_nil (unhide HP) (below_setRow (unhide HB2) (Nat.le_succ _) _)
  rcases unhide Hf5 with ⟨h0, -⟩ | ⟨-, pt, hT0, hrd5, hc5⟩
  · cases h0
  have hn5 : n5 ≤ 4294967296 := Nat.le_trans ((unhide HTb) _ hT0) hn
  obtain ⟨tt, htt⟩ : ∃ x, Dy.cut b pt n5 = x := ⟨_, rfl⟩
  have hRes := unhide HRes
  rw [hT0] at hRes
  rw [htt] at hrd5
  have HRd5 : Hid (Rd (w2.alloc (.cells #[.slice A5 n5 c5] 24)) B1 1 A5 n5 (bys tt)) := hide (hrd5.alloc hB12 _)
  have HRes2 := hide hRes
  have Htt := hide htt
  clear hRes hrd5 Hf5 HRes hT0 htt HTb
  go_wp2_with fail
  refine ((unhide HKN) _ (unhide HDS2)).mono ?_
  rintro e w4 ⟨Ah, nh, ch, A4, c4, rfl, hnm, hb4⟩
  dsimp only at hnm ⊢
  obtain ⟨bk, chn, hof, sof⟩ := nr
  dsimp only at hnm ⊢
  obtain ⟨sl, hsl⟩ : ∃ x, 24 * chn = x := ⟨_, rfl⟩
  have Hsl := hide hsl
  have hb4' := (unhide HB2).trans (hb4.mono (unhide HB2).size)
  have Hnm := hide hnm
  rw [hsl]
  have HB4 : Hid (Below w.heap.size w (w4.alloc (.cells #[.int .u64 (bk : Nat), .int .u64 (chn : Nat), .slice Ah nh ch, .slice A4 sl c4] 112))) := hide (hb4'.alloc hb4'.size _)
  have HK4 : Hid (Blk (w4.alloc (.cells #[.int .u64 (bk : Nat), .int .u64 (chn : Nat), .slice Ah nh ch, .slice A4 sl c4] 112)) (w.heap.size + 1) 29 [.slice none 0 0, .string ⟨#[]⟩, .string ⟨#[]⟩, .slice none 0 0, .slice none 0 0]) := hide (((unhide HK2).belowSz hb4).alloc _)
  have HT4 : Hid (Blk (w4.alloc (.cells #[.int .u64 (bk : Nat), .int .u64 (chn : Nat), .slice Ah nh ch, .slice A4 sl c4] 112)) w2.heap.size 24 [.slice A5 n5 c5]) := hide (((unhide HT2).belowSz hb4).alloc _)
  have HN4 : Hid (Blk (w4.alloc (.cells #[.int .u64 (bk : Nat), .int .u64 (chn : Nat), .slice Ah nh ch, .slice A4 sl c4] 112)) w4.heap.size 112 [.int .u64 (bk : Nat), .int .u64 (chn : Nat), .slice Ah nh ch, .slice A4 sl c4]) := hide (Blk.new w4 112 [.int .u64 (bk : Nat), .int .u64 (chn : Nat), .slice Ah nh ch, .slice A4 sl c4])
  have HDS4 : Hid (DsM (w4.alloc (.cells #[.int .u64 (bk : Nat), .int .u64 (chn : Nat), .slice Ah nh ch, .slice A4 sl c4] 112)) B1 g d d.L) := hide (((unhide HDS2).belowSz hb4).belowSz ((Below.refl _ _).alloc (Nat.le_refl _) _))
  have hs4 := (unhide HDS2).sz
  have hs5 : B1 ≤ w4.heap.size := Nat.le_trans hs4 hb4.size
  have h24 : w2.heap.size < w4.heap.size := ((unhide HT2).belowSz hb4).lt
  have HRd6 : Hid (Rd (w4.alloc (.cells #[.int .u64 (bk : Nat), .int .u64 (chn : Nat), .slice Ah nh ch, .slice A4 sl c4] 112)) B1 1 A5 n5 (bys tt)) := hide (((unhide HRd5).below (hb4.mono hs4)).alloc hs5 _)
  have HNs : Hid (Rd (w4.alloc (.cells #[.int .u64 (bk : Nat), .int .u64 (chn : Nat), .slice Ah nh ch, .slice A4 sl c4] 112)) B1 1 A4 sl (bys (Dy.cut b sof sl))) := hide (by have := hnm.s; dsimp only at this; rw [hsl] at this; exact this.alloc hs5 _)
  have hNc : sl ≤ c4 := by have := hnm.sc; dsimp only at this; rw [hsl] at this; exact this
  have hch65 : chn ≤ 65 := hnm.fit.2
  clear hnm hb4' hb4 HB2 HK2 HT2 HDS2 hsl Hnm HRd5 HKN
  by_cases hx0 : nx = 0
  case neg =>
    have HP : Hid (Res = (Dy.zero, nx)) := hide (by rw [← unhide HRes2]; exact Dy.pBody_2 hx0)
    clear HRes2 HKR HKX
    go_wp2_with ((with_reducible refine (@id (wpList _ _ _ (Oper.mk none (Op.store 29 (.tmp 4) (.tmp 42)) _ _ _ none :: _) _ _) ?_)); refine wpList_store_row rfl 29 (.tmp 4) (.tmp 42) rfl (w.heap.size + 1) #[.slice none 0 0, .string ⟨#[]⟩, .string ⟨#[]⟩, .slice none 0 0, .slice none 0 0] rfl rfl 29 _ (unhide HK4) dyInfo rfl (dyOne _ _ _ _ _ _ _ _ _ _ _) ?_)
    refine bodyPost_ret (results_cell_tmp (P := Tryz.prog) rfl _ _ (w.heap.size + 1) 29 #[.slice none 0 0, .string ⟨#[]⟩, .string ⟨#[]⟩, .slice none 0 0, .slice none 0 0] (0, 0) _ rfl (setRow_heap _ _ _ _ _ _ (unhide HK4)) Tryz.underlying29 rfl dyInfo) rfl ?_
    exact parse_nil (unhide HP) (below_setRow (unhide HB4) (Nat.le_succ _) _)
  subst hx0
  go_wp2_with fail
  refine ((unhide HKR) _ (unhide HDS4)).mono ?_
  rintro e w6 ⟨A6, c6, rfl, hrow6, hb6⟩
  dsimp only at hrow6 ⊢
  have e4 : (w4.alloc (.cells #[.int .u64 (bk : Nat), .int .u64 (chn : Nat), .slice Ah nh ch, .slice A4 sl c4] 112)).heap.size = w4.heap.size + 1 := by simp
  rw [e4] at hrow6
  obtain ⟨rl, hrl⟩ : ∃ x, rb.length = x := ⟨_, rfl⟩
  rw [hrl] at hrow6 hRb ⊢
  have HB6 := hide ((unhide HB4).trans (hb6.mono (unhide HB4).size))
  have HK6 := hide ((unhide HK4).belowSz hb6)
  have HT6 := hide ((unhide HT4).belowSz hb6)
  have HN6 := hide ((unhide HN4).belowSz hb6)
  have HDS6 := hide ((unhide HDS4).belowSz hb6)
  have HRd7 := hide ((unhide HRd6).below (hb6.mono (unhide HDS4).sz))
  have HNs6 := hide ((unhide HNs).below (hb6.mono (unhide HDS4).sz))
  have h46 : w4.heap.size + 1 ≤ w6.heap.size := by have := hb6.size; rw [e4] at this; exact this
  have Hrow := hide hrow6
  have Hlt6 : Hid (∀ k, (Value.slice A6 rl c6).ownBlock = some k → k < w6.heap.size) := hide (fun k hk => (hrow6.lt k hk).2)
  have Hrl := hide hrl
  clear hrow6 hb6 HB4 HK4 HT4 HN4 HDS4 HRd6 HNs HKR hrl e4
  by_cases hr0 : rx = 0
  case neg =>
    have HP : Hid (Res = (Dy.zero, rx)) := hide (by rw [← unhide HRes2]; exact Dy.pBody_3 rfl hr0)
    clear HRes2 HKX
    go_wp2_with ((with_reducible refine (@id (wpList _ _ _ (Oper.mk none (Op.store 29 (.tmp 4) (.tmp 51)) _ _ _ none :: _) _ _) ?_)); refine wpList_store_row rfl 29 (.tmp 4) (.tmp 51) rfl (w.heap.size + 1) #[.slice none 0 0, .string ⟨#[]⟩, .string ⟨#[]⟩, .slice none 0 0, .slice none 0 0] rfl rfl 29 _ (unhide HK6) dyInfo rfl (dyOne _ _ _ _ _ _ _ _ _ _ _) ?_)
    refine bodyPost_ret (results_cell_tmp (P := Tryz.prog) rfl _ _ (w.heap.size + 1) 29 #[.slice none 0 0, .string ⟨#[]⟩, .string ⟨#[]⟩, .slice none 0 0, .slice none 0 0] (0, 0) _ rfl (setRow_heap _ _ _ _ _ _ (unhide HK6)) Tryz.underlying29 rfl dyInfo) rfl ?_
    exact parse_nil (unhide HP) (below_setRow (unhide HB6) (Nat.le_succ _) _)
  subst hr0
  have KX := hide ((unhide HKX) w6 A5 n5 c5 tt (unhide HDS6) (unhide HRd7) hn5 hc5)
  have x8 := ((unhide HT6).alloc (.cells #[.slice none 0 0, .string ⟨#[]⟩, .string ⟨#[]⟩, .slice none 0 0, .slice none 0 0] 29)).cell (i := 0) rfl
  clear HKX HDS6
  go_wp2_with fail
  refine (unhide KX).mono ?_
  rintro e w7 ⟨qx, rfl, hx7, hb7⟩
  have h67 := hb7.size
  have HB7 := hide ((unhide HB6).trans (hb7.mono (unhide HB6).size))
  have HK7 := hide ((unhide HK6).belowSz hb7)
  have HT7 := hide ((unhide HT6).belowSz hb7)
  have HN7 := hide ((unhide HN6).belowSz hb7)
  have HRd8 := hide ((unhide HRd7).below (hb7.mono (by omega)))
  have HNs7 := hide ((unhide HNs6).below (hb7.mono (by omega)))
  have Hrow7 := hide (own_below (unhide Hrow) hb7)
  have Hx7 := hide hx7
  clear hx7 hb7 HB6 HK6 HT6 HN6 HRd7 HNs6 Hrow KX x8
  cases qx
  · have HP : Hid (Res = (Dy.zero, 25)) := hide (by
      rcases unhide Hx7 with ⟨-, h0⟩ | ⟨h0, -⟩
      · rw [← unhide HRes2]; exact Dy.pBody_4 rfl rfl (by dsimp only; rw [unhide Htt]; exact h0)
      · cases h0)
    clear Hx7 HRes2
    go_wp2_with ((with_reducible refine (@id (wpList _ _ _ (Oper.mk none (Op.store 29 (.tmp 4) (.tmp 58)) _ _ _ none :: _) _ _) ?_)); refine wpList_store_row rfl 29 (.tmp 4) (.tmp 58) rfl (w.heap.size + 1) #[.slice none 0 0, .string ⟨#[]⟩, .string ⟨#[]⟩, .slice none 0 0, .slice none 0 0] rfl rfl 29 _ (unhide HK7) dyInfo rfl (dyOne _ _ _ _ _ _ _ _ _ _ _) ?_)
    refine bodyPost_ret (results_cell_tmp (P := Tryz.prog) rfl _ _ (w.heap.size + 1) 29 #[.slice none 0 0, .string ⟨#[]⟩, .string ⟨#[]⟩, .slice none 0 0, .slice none 0 0] (0, 0) _ rfl (setRow_heap _ _ _ _ _ _ (unhide HK7)) Tryz.underlying29 rfl dyInfo) rfl ?_
    exact parse_nil (unhide HP) (below_setRow (unhide HB7) (Nat.le_succ _) _)
  rcases unhide Hx7 with ⟨h0, -⟩ | ⟨-, D, A7, n7, c7, hD, hO7⟩
  · cases h0
  have HD : Hid (Dy.texts (Dy.cut b pt n5) run L Dy.zero = some D) := hide (by rw [unhide Htt]; exact hD)
  have HO7 := hide hO7.out
  have HRw7 := hide hO7.row
  have HDn := hide hO7.n
  have u1 := (unhide HN7).cell (i := 1) rfl
  have hgo : w6.heap.size < w7.heap.size := hO7.out.lt
  clear hD hO7 Hx7
  by_cases hch : chn = 0
  case pos =>
    have hsl0 : sl = 0 := by rw [← unhide Hsl, hch]
    have u3 := (unhide HN7).cell (i := 3) rfl
    have u8 := (unhide HT7).cell (i := 0) rfl
    have hc1 : ¬ (0 : Int) < (chn : Int) := by omega
    have KS := hide (symRows_any A4 sl c4 B1 (sof + 24) w2.heap.size (chn - 1) b A5 n5 c5 tt w7 (by omega) (by omega) (by rw [hsl0, show bys (Dy.cut b (sof + 24) 0) = [] from by simp [Dy.cut, bys]]; exact Rd.none_ _ _ _ _) (by omega) hNc (by omega) u8 (unhide HRd8) hn5 hc5)
    have HW8 : Hid (Below w.heap.size w w7 ∧ Blk w7 (w.heap.size + 1) 29 [.slice none 0 0, .string ⟨#[]⟩, .string ⟨#[]⟩, .slice none 0 0, .slice none 0 0] ∧ Blk w7 w6.heap.size 29 [.slice A7 n7 c7, .string D.soname, .string D.run, .slice none 0 0, .slice none 0 0] ∧ w7.ownsRow (w6.heap.size + 3) 9 1 (.slice A7 n7 c7) n7 (D.needed.map Value.string) ∧ w7.ownsRow (w4.heap.size + 1) 5 1 (.slice A6 rl c6) rl (bys rb)) := hide ⟨unhide HB7, unhide HK7, unhide HO7, unhide HRw7, unhide Hrow7⟩
    have Hs8 : Hid (w7.heap.size = w7.heap.size) := hide rfl
    clear hsl0 HB7 HK7 HO7 HRw7 Hrow7 HN7 HT7 HRd8 HNs7 hch
    go_wp2_with fail
    refine (unhide KS).mono ?_
    intro e w9 h9
    obtain ⟨A9, n9, c9, q9, rfl, hf9, hb9⟩ := syRowsE_form h9
    have hs8 := unhide Hs8
    obtain ⟨gB, gK, gO, gR, gW⟩ := unhide HW8
    have HB9 := hide (gB.trans (hb9.mono gB.size))
    have HK9 := hide (gK.belowSz hb9)
    have HO9 := hide (gO.belowSz hb9)
    have HRw9 := hide (own_below gR hb9)
    have Hrow9 := hide (own_below gW hb9)
    have h89 := hb9.size
    try rw [hs8] at h89
    have Hf9 := hide hf9
    have v3 := (unhide HO9).cell (i := 3) rfl
    have f3 := (unhide HO9).free 3
    have HBx : Hid (Below w.heap.size w (w9.setCell ⟨w6.heap.size, 3, none⟩ (.slice A9 n9 c9))) := hide ((unhide HB9).setCell (p := ⟨w6.heap.size, 3, none⟩) (by dsimp only; omega) _)
    have HKx : Hid (Blk (w9.setCell ⟨w6.heap.size, 3, none⟩ (.slice A9 n9 c9)) (w.heap.size + 1) 29 [.slice none 0 0, .string ⟨#[]⟩, .string ⟨#[]⟩, .slice none 0 0, .slice none 0 0]) := hide ((unhide HK9).other (p := ⟨w6.heap.size, 3, none⟩) (by dsimp only; omega) _)
    clear hf9 h9 KS HW8 gB gK gO gR gW
    cases q9
    · have HP : Hid (Res = (Dy.zero, 25)) := hide (by
        rcases unhide Hf9 with ⟨-, h0⟩ | ⟨h0, -⟩
        · rw [← unhide HRes2]; exact Dy.pBody_5 rfl rfl (unhide HD) (by dsimp only; rw [unhide Htt]; exact h0)
        · cases h0)
      clear Hf9 HRes2 HO9 HRw9 Hrow9 HD
      go_wp2_with ((with_reducible refine (@id (wpList _ _ _ (Oper.mk none (Op.store 29 (.tmp 4) (.tmp 76)) _ _ _ none :: _) _ _) ?_)); refine wpList_store_row rfl 29 (.tmp 4) (.tmp 76) rfl (w.heap.size + 1) #[.slice none 0 0, .string ⟨#[]⟩, .string ⟨#[]⟩, .slice none 0 0, .slice none 0 0] rfl rfl 29 _ (unhide HKx) dyInfo rfl (dyOne _ _ _ _ _ _ _ _ _ _ _) ?_)
      refine bodyPost_ret (results_cell_tmp (P := Tryz.prog) rfl _ _ (w.heap.size + 1) 29 #[.slice none 0 0, .string ⟨#[]⟩, .string ⟨#[]⟩, .slice none 0 0, .slice none 0 0] (0, 0) _ rfl (setRow_heap _ _ _ _ _ _ (unhide HKx)) Tryz.underlying29 rfl dyInfo) rfl ?_
      exact parse_nil (unhide HP) (below_setRow (unhide HBx) (Nat.le_succ _) _)
    rcases unhide Hf9 with ⟨h0, -⟩ | ⟨-, ss, hss, hn9, ho9⟩
    · cases h0
    have HSs : Hid (Dy.symsFrom (Dy.cut b pt n5) b (chn - 1) (sof + 24) = some ss) := hide (by rw [unhide Htt]; exact hss)
    have hssl : ss.length ≤ 64 := by have := Dy.symsFrom_len hss; omega
    have Hn9 := hide hn9
    have hn9b : n9 ≤ 4294967296 := by omega
    have HOx : Hid (Blk (w9.setCell ⟨w6.heap.size, 3, none⟩ (.slice A9 n9 c9)) w6.heap.size 29 [.slice A7 n7 c7, .string D.soname, .string D.run, .slice A9 n9 c9, .slice none 0 0]) := hide ((unhide HO9).set 3 _)
    have HRwx := hide (own_setOB (i := 3) (k := w6.heap.size) (unhide HRw9) (by omega) (.slice A9 n9 c9))
    have Hrowx := hide (own_setNQ (unhide Hrow9) (p := ⟨w6.heap.size, 3, none⟩) (fun k hk => by have := (unhide Hlt6) k hk; dsimp only; omega) (.slice A9 n9 c9))
    have Hssx := hide (own_setOB (i := 3) (k := w6.heap.size) ho9 (by omega) (.slice A9 n9 c9))
    have hsx : (w9.setCell ⟨w6.heap.size, 3, none⟩ (.slice A9 n9 c9)).heap.size = w9.heap.size := by simp
    have w3c := (unhide HOx).cell (i := 3) rfl
    have KR := hide (relRows_any A6 rl c6 _ w6.heap.size rb A9 n9 c9 _ (Nat.le_refl _) (Rd.of_own (unhide Hrowx)) (by omega) (own_len (unhide Hrowx)) (by rw [hsx]; omega) w3c hn9b)
    clear hss hn9 ho9 Hf9 HO9 HRw9 Hrow9 HB9 HK9 Hrowx w3c
    go_wp2_with fail
    refine (unhide KR).mono ?_
    intro e w11 h11
    obtain ⟨A11, n11, c11, q11, rfl, hf11, hb11⟩ := reRowsE_form h11
    have h911 := hb11.size
    rw [hsx] at h911
    have HB11 := hide ((unhide HBx).trans (hb11.mono (unhide HBx).size))
    have HK11 := hide ((unhide HKx).belowSz hb11)
    have HO11 := hide ((unhide HOx).belowSz hb11)
    have HRw11 := hide (own_below (unhide HRwx) hb11)
    have Hss11 := hide (own_below (unhide Hssx) hb11)
    have Hf11 := hide hf11
    have v4 := (unhide HO11).cell (i := 4) rfl
    have f4 := (unhide HO11).free 4
    have HBy : Hid (Below w.heap.size w (w11.setCell ⟨w6.heap.size, 4, none⟩ (.slice A11 n11 c11))) := hide ((unhide HB11).setCell (p := ⟨w6.heap.size, 4, none⟩) (by dsimp only; omega) _)
    have HKy : Hid (Blk (w11.setCell ⟨w6.heap.size, 4, none⟩ (.slice A11 n11 c11)) (w.heap.size + 1) 29 [.slice none 0 0, .string ⟨#[]⟩, .string ⟨#[]⟩, .slice none 0 0, .slice none 0 0]) := hide ((unhide HK11).other (p := ⟨w6.heap.size, 4, none⟩) (by dsimp only; omega) _)
    clear hf11 h11 KR HBx HKx HOx HRwx Hssx v3 f3
    cases q11
    · have HP : Hid (Res = (Dy.zero, 25)) := hide (by
        rcases unhide Hf11 with ⟨-, h0⟩ | ⟨h0, -⟩
        · rw [← unhide HRes2]; exact Dy.pBody_6 rfl rfl (unhide HD) (unhide HSs) (by dsimp only; rw [unhide Hrl, ← unhide Hn9]; exact h0)
        · cases h0)
      clear Hf11 HRes2 HO11 HRw11 Hss11 HD HSs
      go_wp2_with ((with_reducible refine (@id (wpList _ _ _ (Oper.mk none (Op.store 29 (.tmp 4) (.tmp 86)) _ _ _ none :: _) _ _) ?_)); refine wpList_store_row rfl 29 (.tmp 4) (.tmp 86) rfl (w.heap.size + 1) #[.slice none 0 0, .string ⟨#[]⟩, .string ⟨#[]⟩, .slice none 0 0, .slice none 0 0] rfl rfl 29 _ (unhide HKy) dyInfo rfl (dyOne _ _ _ _ _ _ _ _ _ _ _) ?_)
      refine bodyPost_ret (results_cell_tmp (P := Tryz.prog) rfl _ _ (w.heap.size + 1) 29 #[.slice none 0 0, .string ⟨#[]⟩, .string ⟨#[]⟩, .slice none 0 0, .slice none 0 0] (0, 0) _ rfl (setRow_heap _ _ _ _ _ _ (unhide HKy)) Tryz.underlying29 rfl dyInfo) rfl ?_
      exact parse_nil (unhide HP) (below_setRow (unhide HBy) (Nat.le_succ _) _)
    rcases unhide Hf11 with ⟨h0, -⟩ | ⟨-, rs, hrs, hn11, ho11⟩
    · cases h0
    have HOy : Hid (Blk (w11.setCell ⟨w6.heap.size, 4, none⟩ (.slice A11 n11 c11)) w6.heap.size 29 [.slice A7 n7 c7, .string D.soname, .string D.run, .slice A9 n9 c9, .slice A11 n11 c11]) := hide ((unhide HO11).set 4 _)
    have HRwy := hide (own_setOB (i := 4) (k := w6.heap.size) (unhide HRw11) (by omega) (.slice A11 n11 c11))
    have Hssy := hide (own_setOB (i := 4) (k := w6.heap.size) (unhide Hss11) (by omega) (.slice A11 n11 c11))
    have Hrsy := hide (own_setOB (i := 4) (k := w6.heap.size) ho11 (by rw [hsx]; omega) (.slice A11 n11 c11))
    have HP : Hid (Res = ({ D with syms := ss, relas := rs }, 0)) := hide (by rw [← unhide HRes2]; exact Dy.pBody_7 rfl rfl (unhide HD) (unhide HSs) (by dsimp only; rw [unhide Hrl, ← unhide Hn9]; exact hrs))
    have Hn11 := hide hn11
    clear hrs hn11 ho11 Hf11 HO11 HRw11 Hss11 HRes2 HD HSs HB11 HK11
    go_wp2_with (first
      | ((with_reducible refine (@id (wpList _ _ _ (Oper.mk _ (Op.load 29 (.tmp 12)) _ _ _ none :: _) _ _) ?_)); refine wpList_load_row rfl 29 (.tmp 12) rfl w6.heap.size rfl 29 #[.slice A7 n7 c7, .string D.soname, .string D.run, .slice A9 n9 c9, .slice A11 n11 c11] (0, 0) _ (unhide HOy) Tryz.underlying29 rfl dyInfo ?_)
      | ((with_reducible refine (@id (wpList _ _ _ (Oper.mk none (Op.store 29 (.tmp 4) (.tmp 87)) _ _ _ none :: _) _ _) ?_)); refine wpList_store_row rfl 29 (.tmp 4) (.tmp 87) rfl (w.heap.size + 1) #[.slice A7 n7 c7, .string D.soname, .string D.run, .slice A9 n9 c9, .slice A11 n11 c11] rfl rfl 29 _ (unhide HKy) dyInfo rfl (dyOne _ _ _ _ _ _ _ _ _ _ _) ?_))
    refine bodyPost_ret (results_cell_tmp (P := Tryz.prog) rfl _ _ (w.heap.size + 1) 29 #[.slice A7 n7 c7, .string D.soname, .string D.run, .slice A9 n9 c9, .slice A11 n11 c11] (0, 0) _ rfl (setRow_heap _ _ _ _ _ _ (unhide HKy)) Tryz.underlying29 rfl dyInfo) rfl ?_
    refine parse_good (unhide HP) (below_setRow (unhide HBy) (Nat.le_succ _) _) (unhide HDn) (unhide Hn9) (unhide Hn11) (own_base (own_setRowB (unhide HRwy) (by omega) _) (by omega)) (own_base (own_setRowB (unhide Hssy) (by omega) _) (by omega)) (own_base (own_setRowB (unhide Hrsy) (by rw [hsx]; omega) _) (by rw [hsx]; omega))
  have hc1 : (0 : Int) < (chn : Int) := by omega
  have hsl24 : 24 ≤ sl := by have := unhide Hsl; omega
  have kf : ∀ w' : World, (Instr.slice 24 (.slice A4 sl c4) (some (.int .i64 24)) none none).run Tryz.prog w' = .ok (.slice (fromA A4 c4 24) (sl - 24) (c4 - 24)) w' := fun w' => run_fromK (P := Tryz.prog) Tryz.underlying24 (e := 5) (by kernel_rfl) .i64 A4 sl c4 24 hsl24 w'
  have u3 := (unhide HN7).cell (i := 3) rfl
  have f3n := (unhide HN7).free 3
  have hrd9 := (unhide HNs7).from_ (k := 24) hsl24 hNc
  have hbc : (bys (Dy.cut b sof sl)).drop 24 = bys (Dy.cut b (sof + 24) (sl - 24)) := by
    unfold bys Dy.cut
    rw [← List.map_drop, List.drop_take, List.drop_drop]
  rw [hbc] at hrd9
  obtain ⟨A8, hA8⟩ : ∃ x, fromA A4 c4 24 = x := ⟨_, rfl⟩
  rw [hA8] at kf hrd9
  obtain ⟨W8, hW8⟩ : ∃ x, w7.setCell ⟨w4.heap.size, 3, none⟩ (.slice A8 (sl - 24) (c4 - 24)) = x := ⟨_, rfl⟩
  have gN : Blk W8 w4.heap.size 112 [.int .u64 (bk : Nat), .int .u64 (chn : Nat), .slice Ah nh ch, .slice A8 (sl - 24) (c4 - 24)] := by rw [← hW8]; exact (unhide HN7).set 3 _
  have gT : Blk W8 w2.heap.size 24 [.slice A5 n5 c5] := by rw [← hW8]; exact (unhide HT7).other (p := ⟨w4.heap.size, 3, none⟩) (by dsimp only; omega) _
  have gB : Below w.heap.size w W8 := by rw [← hW8]; exact (unhide HB7).setCell (p := ⟨w4.heap.size, 3, none⟩) (by dsimp only; omega) _
  have gK : Blk W8 (w.heap.size + 1) 29 [.slice none 0 0, .string ⟨#[]⟩, .string ⟨#[]⟩, .slice none 0 0, .slice none 0 0] := by rw [← hW8]; exact (unhide HK7).other (p := ⟨w4.heap.size, 3, none⟩) (by dsimp only; omega) _
  have gO : Blk W8 w6.heap.size 29 [.slice A7 n7 c7, .string D.soname, .string D.run, .slice none 0 0, .slice none 0 0] := by rw [← hW8]; exact (unhide HO7).other (p := ⟨w4.heap.size, 3, none⟩) (by dsimp only; omega) _
  have gR : W8.ownsRow (w6.heap.size + 3) 9 1 (.slice A7 n7 c7) n7 (D.needed.map Value.string) := by rw [← hW8]; exact own_setOB (unhide HRw7) (by omega) _
  have gW : W8.ownsRow (w4.heap.size + 1) 5 1 (.slice A6 rl c6) rl (bys rb) := by rw [← hW8]; exact own_setOB (unhide Hrow7) (by omega) _
  have gD : Rd W8 B1 1 A5 n5 (bys tt) := by rw [← hW8]; exact (unhide HRd8).setCell (p := ⟨w4.heap.size, 3, none⟩) (by dsimp only; omega) _
  have gS : Rd W8 B1 1 A8 (sl - 24) (bys (Dy.cut b (sof + 24) (sl - 24))) := by rw [← hW8]; exact hrd9.setCell (p := ⟨w4.heap.size, 3, none⟩) (by dsimp only; omega) _
  have hs8 : W8.heap.size = w7.heap.size := by rw [← hW8]; simp
  have HW8 : Hid (Below w.heap.size w W8 ∧ Blk W8 (w.heap.size + 1) 29 [.slice none 0 0, .string ⟨#[]⟩, .string ⟨#[]⟩, .slice none 0 0, .slice none 0 0] ∧ Blk W8 w6.heap.size 29 [.slice A7 n7 c7, .string D.soname, .string D.run, .slice none 0 0, .slice none 0 0] ∧ W8.ownsRow (w6.heap.size + 3) 9 1 (.slice A7 n7 c7) n7 (D.needed.map Value.string) ∧ W8.ownsRow (w4.heap.size + 1) 5 1 (.slice A6 rl c6) rl (bys rb)) := hide ⟨gB, gK, gO, gR, gW⟩
  have hc4 : sl - 24 ≤ c4 - 24 := by omega
  have KS := hide (symRows_any A8 (sl - 24) (c4 - 24) B1 (sof + 24) w2.heap.size (chn - 1) b A5 n5 c5 tt W8 (by rw [hs8]; omega) (by have := unhide Hsl; omega) gS (by have := unhide Hsl; omega) hc4 (by rw [hs8]; omega) (gT.cell (i := 0) rfl) gD hn5 hc5)
  have u9 := (unhide HT7).cell (i := 0) rfl
  have y3 := gN.cell (i := 3) rfl
  have y8 := gT.cell (i := 0) rfl
  have cI : ((sl - 24 : Nat) : Int) = (sl : Int) - 24 := by omega
  obtain ⟨s2, hs2⟩ : ∃ x, sl - 24 = x := ⟨_, rfl⟩
  obtain ⟨c2, hc2⟩ : ∃ x, c4 - 24 = x := ⟨_, rfl⟩
  rw [hs2, hc2] at kf hW8 y3
  rw [hs2, hc2] at KS
  rw [← hW8] at y3 y8
  have kS := unhide KS
  rw [← hW8] at kS
  have hw8 := unhide HW8
  rw [← hW8] at hw8 hs8
  clear HB7 HK7 HO7 HRw7 Hrow7 HN7 HT7 HRd8 HNs7 KS HW8 gN gT gB gK gO gR gW gD gS hrd9 hbc hA8 hW8 cI hs2 hc2
  have KS := hide kS
  have HW8 := hide hw8
  have Hs8 := hide hs8
  clear kS hw8 hsl24 hNc hc4 hs8
  go_wp2_with fail
  refine (unhide KS).mono ?_
  intro e w9 h9
  obtain ⟨A9, n9, c9, q9, rfl, hf9, hb9⟩ := syRowsE_form h9
  have hs8 := unhide Hs8
  obtain ⟨gB, gK, gO, gR, gW⟩ := unhide HW8
  have HB9 := hide (gB.trans (hb9.mono gB.size))
  have HK9 := hide (gK.belowSz hb9)
  have HO9 := hide (gO.belowSz hb9)
  have HRw9 := hide (own_below gR hb9)
  have Hrow9 := hide (own_below gW hb9)
  have h89 := hb9.size
  try rw [hs8] at h89
  have Hf9 := hide hf9
  have v3 := (unhide HO9).cell (i := 3) rfl
  have f3 := (unhide HO9).free 3
  have HBx : Hid (Below w.heap.size w (w9.setCell ⟨w6.heap.size, 3, none⟩ (.slice A9 n9 c9))) := hide ((unhide HB9).setCell (p := ⟨w6.heap.size, 3, none⟩) (by dsimp only; omega) _)
  have HKx : Hid (Blk (w9.setCell ⟨w6.heap.size, 3, none⟩ (.slice A9 n9 c9)) (w.heap.size + 1) 29 [.slice none 0 0, .string ⟨#[]⟩, .string ⟨#[]⟩, .slice none 0 0, .slice none 0 0]) := hide ((unhide HK9).other (p := ⟨w6.heap.size, 3, none⟩) (by dsimp only; omega) _)
  clear hf9 h9 KS HW8 gB gK gO gR gW
  cases q9
  · have HP : Hid (Res = (Dy.zero, 25)) := hide (by
      rcases unhide Hf9 with ⟨-, h0⟩ | ⟨h0, -⟩
      · rw [← unhide HRes2]; exact Dy.pBody_5 rfl rfl (unhide HD) (by dsimp only; rw [unhide Htt]; exact h0)
      · cases h0)
    clear Hf9 HRes2 HO9 HRw9 Hrow9 HD
    go_wp2_with ((with_reducible refine (@id (wpList _ _ _ (Oper.mk none (Op.store 29 (.tmp 4) (.tmp 76)) _ _ _ none :: _) _ _) ?_)); refine wpList_store_row rfl 29 (.tmp 4) (.tmp 76) rfl (w.heap.size + 1) #[.slice none 0 0, .string ⟨#[]⟩, .string ⟨#[]⟩, .slice none 0 0, .slice none 0 0] rfl rfl 29 _ (unhide HKx) dyInfo rfl (dyOne _ _ _ _ _ _ _ _ _ _ _) ?_)
    refine bodyPost_ret (results_cell_tmp (P := Tryz.prog) rfl _ _ (w.heap.size + 1) 29 #[.slice none 0 0, .string ⟨#[]⟩, .string ⟨#[]⟩, .slice none 0 0, .slice none 0 0] (0, 0) _ rfl (setRow_heap _ _ _ _ _ _ (unhide HKx)) Tryz.underlying29 rfl dyInfo) rfl ?_
    exact parse_nil (unhide HP) (below_setRow (unhide HBx) (Nat.le_succ _) _)
  rcases unhide Hf9 with ⟨h0, -⟩ | ⟨-, ss, hss, hn9, ho9⟩
  · cases h0
  have HSs : Hid (Dy.symsFrom (Dy.cut b pt n5) b (chn - 1) (sof + 24) = some ss) := hide (by rw [unhide Htt]; exact hss)
  have hssl : ss.length ≤ 64 := by have := Dy.symsFrom_len hss; omega
  have Hn9 := hide hn9
  have hn9b : n9 ≤ 4294967296 := by omega
  have HOx : Hid (Blk (w9.setCell ⟨w6.heap.size, 3, none⟩ (.slice A9 n9 c9)) w6.heap.size 29 [.slice A7 n7 c7, .string D.soname, .string D.run, .slice A9 n9 c9, .slice none 0 0]) := hide ((unhide HO9).set 3 _)
  have HRwx := hide (own_setOB (i := 3) (k := w6.heap.size) (unhide HRw9) (by omega) (.slice A9 n9 c9))
  have Hrowx := hide (own_setNQ (unhide Hrow9) (p := ⟨w6.heap.size, 3, none⟩) (fun k hk => by have := (unhide Hlt6) k hk; dsimp only; omega) (.slice A9 n9 c9))
  have Hssx := hide (own_setOB (i := 3) (k := w6.heap.size) ho9 (by omega) (.slice A9 n9 c9))
  have hsx : (w9.setCell ⟨w6.heap.size, 3, none⟩ (.slice A9 n9 c9)).heap.size = w9.heap.size := by simp
  have w3c := (unhide HOx).cell (i := 3) rfl
  have KR := hide (relRows_any A6 rl c6 _ w6.heap.size rb A9 n9 c9 _ (Nat.le_refl _) (Rd.of_own (unhide Hrowx)) (by omega) (own_len (unhide Hrowx)) (by rw [hsx]; omega) w3c hn9b)
  clear hss hn9 ho9 Hf9 HO9 HRw9 Hrow9 HB9 HK9 Hrowx w3c
  go_wp2_with fail
  refine (unhide KR).mono ?_
  intro e w11 h11
  obtain ⟨A11, n11, c11, q11, rfl, hf11, hb11⟩ := reRowsE_form h11
  have h911 := hb11.size
  rw [hsx] at h911
  have HB11 := hide ((unhide HBx).trans (hb11.mono (unhide HBx).size))
  have HK11 := hide ((unhide HKx).belowSz hb11)
  have HO11 := hide ((unhide HOx).belowSz hb11)
  have HRw11 := hide (own_below (unhide HRwx) hb11)
  have Hss11 := hide (own_below (unhide Hssx) hb11)
  have Hf11 := hide hf11
  have v4 := (unhide HO11).cell (i := 4) rfl
  have f4 := (unhide HO11).free 4
  have HBy : Hid (Below w.heap.size w (w11.setCell ⟨w6.heap.size, 4, none⟩ (.slice A11 n11 c11))) := hide ((unhide HB11).setCell (p := ⟨w6.heap.size, 4, none⟩) (by dsimp only; omega) _)
  have HKy : Hid (Blk (w11.setCell ⟨w6.heap.size, 4, none⟩ (.slice A11 n11 c11)) (w.heap.size + 1) 29 [.slice none 0 0, .string ⟨#[]⟩, .string ⟨#[]⟩, .slice none 0 0, .slice none 0 0]) := hide ((unhide HK11).other (p := ⟨w6.heap.size, 4, none⟩) (by dsimp only; omega) _)
  clear hf11 h11 KR HBx HKx HOx HRwx Hssx v3 f3
  cases q11
  · have HP : Hid (Res = (Dy.zero, 25)) := hide (by
      rcases unhide Hf11 with ⟨-, h0⟩ | ⟨h0, -⟩
      · rw [← unhide HRes2]; exact Dy.pBody_6 rfl rfl (unhide HD) (unhide HSs) (by dsimp only; rw [unhide Hrl, ← unhide Hn9]; exact h0)
      · cases h0)
    clear Hf11 HRes2 HO11 HRw11 Hss11 HD HSs
    go_wp2_with ((with_reducible refine (@id (wpList _ _ _ (Oper.mk none (Op.store 29 (.tmp 4) (.tmp 86)) _ _ _ none :: _) _ _) ?_)); refine wpList_store_row rfl 29 (.tmp 4) (.tmp 86) rfl (w.heap.size + 1) #[.slice none 0 0, .string ⟨#[]⟩, .string ⟨#[]⟩, .slice none 0 0, .slice none 0 0] rfl rfl 29 _ (unhide HKy) dyInfo rfl (dyOne _ _ _ _ _ _ _ _ _ _ _) ?_)
    refine bodyPost_ret (results_cell_tmp (P := Tryz.prog) rfl _ _ (w.heap.size + 1) 29 #[.slice none 0 0, .string ⟨#[]⟩, .string ⟨#[]⟩, .slice none 0 0, .slice none 0 0] (0, 0) _ rfl (setRow_heap _ _ _ _ _ _ (unhide HKy)) Tryz.underlying29 rfl dyInfo) rfl ?_
    exact parse_nil (unhide HP) (below_setRow (unhide HBy) (Nat.le_succ _) _)
  rcases unhide Hf11 with ⟨h0, -⟩ | ⟨-, rs, hrs, hn11, ho11⟩
  · cases h0
  have HOy : Hid (Blk (w11.setCell ⟨w6.heap.size, 4, none⟩ (.slice A11 n11 c11)) w6.heap.size 29 [.slice A7 n7 c7, .string D.soname, .string D.run, .slice A9 n9 c9, .slice A11 n11 c11]) := hide ((unhide HO11).set 4 _)
  have HRwy := hide (own_setOB (i := 4) (k := w6.heap.size) (unhide HRw11) (by omega) (.slice A11 n11 c11))
  have Hssy := hide (own_setOB (i := 4) (k := w6.heap.size) (unhide Hss11) (by omega) (.slice A11 n11 c11))
  have Hrsy := hide (own_setOB (i := 4) (k := w6.heap.size) ho11 (by rw [hsx]; omega) (.slice A11 n11 c11))
  have HP : Hid (Res = ({ D with syms := ss, relas := rs }, 0)) := hide (by rw [← unhide HRes2]; exact Dy.pBody_7 rfl rfl (unhide HD) (unhide HSs) (by dsimp only; rw [unhide Hrl, ← unhide Hn9]; exact hrs))
  have Hn11 := hide hn11
  clear hrs hn11 ho11 Hf11 HO11 HRw11 Hss11 HRes2 HD HSs HB11 HK11
  go_wp2_with (first
    | ((with_reducible refine (@id (wpList _ _ _ (Oper.mk _ (Op.load 29 (.tmp 12)) _ _ _ none :: _) _ _) ?_)); refine wpList_load_row rfl 29 (.tmp 12) rfl w6.heap.size rfl 29 #[.slice A7 n7 c7, .string D.soname, .string D.run, .slice A9 n9 c9, .slice A11 n11 c11] (0, 0) _ (unhide HOy) Tryz.underlying29 rfl dyInfo ?_)
    | ((with_reducible refine (@id (wpList _ _ _ (Oper.mk none (Op.store 29 (.tmp 4) (.tmp 87)) _ _ _ none :: _) _ _) ?_)); refine wpList_store_row rfl 29 (.tmp 4) (.tmp 87) rfl (w.heap.size + 1) #[.slice A7 n7 c7, .string D.soname, .string D.run, .slice A9 n9 c9, .slice A11 n11 c11] rfl rfl 29 _ (unhide HKy) dyInfo rfl (dyOne _ _ _ _ _ _ _ _ _ _ _) ?_))
  refine bodyPost_ret (results_cell_tmp (P := Tryz.prog) rfl _ _ (w.heap.size + 1) 29 #[.slice A7 n7 c7, .string D.soname, .string D.run, .slice A9 n9 c9, .slice A11 n11 c11] (0, 0) _ rfl (setRow_heap _ _ _ _ _ _ (unhide HKy)) Tryz.underlying29 rfl dyInfo) rfl ?_
  refine parse_good (unhide HP) (below_setRow (unhide HBy) (Nat.le_succ _) _) (unhide HDn) (unhide Hn9) (unhide Hn11) (own_base (own_setRowB (unhide HRwy) (by omega) _) (by omega)) (own_base (own_setRowB (unhide Hssy) (by omega) _) (by omega)) (own_base (own_setRowB (unhide Hrsy) (by rw [hsx]; omega) _) (by rw [hsx]; omega))
end Go.Proofs.YtnbecdahfgkffaaGreat
