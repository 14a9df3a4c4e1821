/- All that the statement DynamicLooks needs of Dynamic under one roof. No conditions. Ahead of it: The reference's Parse. Conditions: as each says. The reference's Look and Right. Conditions: as each says. The walk of DynamicLooks. Conditions: as each says. What an argument that is a slice of bytes, of integers or of strings reads as: a list, cell by cell. No conditions. What an argument that is a head reads as: four fields, and a list of segments. No conditions. -/
import Derived.Test.YtdminnhfgdoibaaDyK5
import Derived.Test.YtdminnhfgdoibaaDyK3
import Derived.Test.YtdminnhfgdoibaaDyK4
import Derived.Test.YtdminnhfgdoibaaDyK1
import Derived.ChangeSlices
import Derived.SliceStrings
import Derived.OpenShut
import Derived.Deep.Slices
import Derived.Lib.SmallJoins
namespace Go.Proofs.Ytdminnhfgdoibaa
set_option linter.unusedVariables false
set_option linter.unusedSimpArgs false
open Go.RowKit
namespace Dy
theorem table_at {n : Nat} {l : List El.Sg} {L : List (Nat × Nat)} {a s : Nat} {t : Nat × Nat} (h : table n l L a s = some t) : t.1 + t.2 ≤ n ∧ (t.2 = (val L s).getD 0 ∨ t.2 = 0) := by
  unfold table at h
  split at h
  · injection h with h; subst h; exact ⟨Nat.zero_le _, .inr rfl⟩
  · rename_i v hv
    cases hl : laid n l v ((val L s).getD 0) with
    | none => rw [hl] at h; cases h
    | some o =>
      rw [hl] at h
      injection h with h
      subst h
      exact ⟨(laid_in hl).1, .inl rfl⟩
theorem table_not {n : Nat} {l : List El.Sg} {L : List (Nat × Nat)} {a s p k : Nat} (h : table n l L a s = some (p, k)) (hn : (val L a).isSome = false) : k = 0 := by
  unfold table at h
  split at h
  · injection h with h; injection h with _ h; exact h.symm
  · rename_i v hv
    rw [hv] at hn
    cases hn
theorem relaB_mod {b : List UInt8} {l : List El.Sg} {L : List (Nat × Nat)} : (relaB b l L).2.length % 24 = 0 := by
  unfold relaB
  split
  · rfl
  · split
    · rfl
    · rename_i h1 h2
      cases ha : table b.length l L 7 8 with
      | none => rfl
      | some x =>
        cases hb : table b.length l L 23 2 with
        | none => rfl
        | some y =>
          dsimp only
          have e1 := table_at ha
          have e2 := table_at hb
          rw [List.length_append]
          unfold cut
          rw [List.length_take, List.length_take, List.length_drop, List.length_drop]
          omega
theorem syms_on {t b : List UInt8} {N q m : Nat} {l : List Sym} {s : Sym} (h : symsFrom t b N q = (symsFrom t b (N - m) (q + 24 * m)).map (l ++ ·)) (hm : m < N) (hs : symAt t b (q + 24 * m) = some s) : symsFrom t b N q = (symsFrom t b (N - (m + 1)) (q + 24 * (m + 1))).map ((l ++ [s]) ++ ·) := by
  rw [h, show N - m = (N - (m + 1)) + 1 from by omega, symsFrom, hs, show q + 24 * m + 24 = q + 24 * (m + 1) from by omega]
  cases symsFrom t b (N - (m + 1)) (q + 24 * (m + 1)) <;> simp
theorem syms_stop {t b : List UInt8} {N q m : Nat} {l : List Sym} (h : symsFrom t b N q = (symsFrom t b (N - m) (q + 24 * m)).map (l ++ ·)) (hm : m < N) (hs : symAt t b (q + 24 * m) = none) : symsFrom t b N q = none := by
  rw [h, show N - m = (N - (m + 1)) + 1 from by omega, symsFrom, hs]
  rfl
theorem syms_end {t b : List UInt8} {N q m : Nat} {l : List Sym} (h : symsFrom t b N q = (symsFrom t b (N - m) (q + 24 * m)).map (l ++ ·)) (hm : N ≤ m) : symsFrom t b N q = some l := by
  rw [h, show N - m = 0 from by omega, symsFrom]
  simp
theorem rels_on {k : Nat} {b : List UInt8} {N m : Nat} {l : List Rel} (h : relsFrom k b N 0 = (relsFrom k b (N - m) (24 * m)).map (l ++ ·)) (hm : m < N) (hs : ¬ k < Wd.num b (24 * m + 12) 4) : relsFrom k b N 0 = (relsFrom k b (N - (m + 1)) (24 * (m + 1))).map ((l ++ [relAt b (24 * m)]) ++ ·) := by
  rw [h, show N - m = (N - (m + 1)) + 1 from by omega, relsFrom, if_neg hs, show 24 * m + 24 = 24 * (m + 1) from by omega]
  cases relsFrom k b (N - (m + 1)) (24 * (m + 1)) <;> simp
theorem rels_stop {k : Nat} {b : List UInt8} {N m : Nat} {l : List Rel} (h : relsFrom k b N 0 = (relsFrom k b (N - m) (24 * m)).map (l ++ ·)) (hm : m < N) (hs : k < Wd.num b (24 * m + 12) 4) : relsFrom k b N 0 = none := by
  rw [h, show N - m = (N - (m + 1)) + 1 from by omega, relsFrom, if_pos hs]
  rfl
theorem rels_end {k : Nat} {b : List UInt8} {N m : Nat} {l : List Rel} (h : relsFrom k b N 0 = (relsFrom k b (N - m) (24 * m)).map (l ++ ·)) (hm : N ≤ m) : relsFrom k b N 0 = some l := by
  rw [h, show N - m = 0 from by omega, relsFrom]
  simp
end Dy
theorem Blk.gr {w w' : World} {g q : Nat} {t : TypeId} {l : List Value} (h : Blk w q t l) (hg : w.grownBy w' (some g)) (hq : q ≠ g) : Blk w' q t l := (hg.block q h.lt (fun e => by injection e with e; exact hq e)).trans h
/-- One field of a block of Dynamic's, as its row grows; but for the block the world is as it was. -/
structure GrM (W0 w : World) (gd : Nat) (pre post : List Value) (e : TypeId) (size : Nat) (A : Option Addr) (n c : Nat) (xs : List Value) : Prop where
  gr : W0.grownBy w (some gd)
  blk : Blk w gd 41 (pre ++ [.slice A n c] ++ post)
  row : w.ownsRow W0.heap.size e size (.slice A n c) n xs
section
variable {W0 w w' : World} {gd : Nat} {pre post : List Value} {e : TypeId} {size : Nat} {A : Option Addr} {n c : Nat} {xs : List Value}
theorem GrM.belowSz (h : GrM W0 w gd pre post e size A n c xs) (hb : Below w.heap.size w w') : GrM W0 w' gd pre post e size A n c xs :=
  ⟨grown_trans h.gr (grownBy_of_below hb), h.blk.belowSz hb, own_below h.row hb⟩
theorem GrM.grown (h : GrM W0 w gd pre post e size A n c xs) (hg0 : gd < W0.heap.size) (hg : w.grownBy w' (Value.slice A n c).ownBlock) : W0.grownBy w' (some gd) ∧ Blk w' gd 41 (pre ++ [.slice A n c] ++ post) :=
  ⟨gr_new h.gr hg (fun k hk => (h.row.lt k hk).1), (hg.block _ h.blk.lt (fun e => by have := (h.row.lt _ e.symm).1; omega)).trans h.blk⟩
theorem GrM.push {A' : Option Addr} {c' i : Nat} {ys : List Value} (h : GrM W0 w gd pre post e size A n c xs) (hg0 : gd < W0.heap.size) (hi : pre.length = i) (ho : w'.ownsRow W0.heap.size e size (.slice A' (n + 1) c') (n + 1) ys) (hg : w.grownBy w' (Value.slice A n c).ownBlock) :
    GrM W0 (w'.setCell ⟨gd, i, none⟩ (.slice A' (n + 1) c')) gd pre post e size A' (n + 1) c' ys := by
  obtain ⟨h1, h2⟩ := h.grown hg0 hg
  refine ⟨grown_trans h1 (gr_set _), ?_, own_setOB ho hg0 _⟩
  subst hi
  have := h2.set pre.length (.slice A' (n + 1) c')
  rw [List.append_assoc, List.set_append_right _ _ (Nat.le_refl _), Nat.sub_self] at this
  rw [List.append_assoc]
  exact this
end
theorem own_gr {w w' : World} {base n c size gd : Nat} {A : Option Addr} {e : TypeId} {xs : List Value} (h : w.ownsRow base e size (.slice A n c) n xs) (hg : w.grownBy w' (some gd)) (hb : gd < base) : w'.ownsRow base e size (.slice A n c) n xs :=
  h.kept hg (by
    cases hv : (Value.slice A n c).ownBlock with
    | none => exact .inl rfl
    | some q => exact .inr (fun e => by injection e with e; have := (h.lt q hv).1; omega))
theorem symC_snoc (l : List Dy.Sym) (x : Dy.Sym) : symC (l ++ [x]) = symC l ++ symV x := by simp [symC]
theorem relC_snoc (l : List Dy.Rel) (x : Dy.Rel) : relC (l ++ [x]) = relC l ++ relV x := by simp [relC]
theorem num_lt4 (b : List UInt8) (p : Nat) : Wd.num b p 4 < 4294967296 := by have := Wd.num_lt b p 4; simpa using this
set_option maxRecDepth 100000 in
set_option maxHeartbeats 8000000 in
theorem rparse_any (A : Option Addr) (n c B : Nat) (b : List UInt8) (ty en ph : Int) (As : Option Addr) (ns cs : Nat) (segs : List El.Sg) (w : World) (hB : B ≤ w.heap.size) (hb : Rd w B 1 A n (bys b)) (hs : Rd w B 6 As ns (segCells segs)) (hn : n ≤ 4294967296) (hns : ns ≤ 4294967296) (hc : n ≤ c) (hfit : ∀ s ∈ segs, SgFit s) :
    Calls Try.prog 23 #[.slice A n c, .agg #[.int .u16 ty, .int .u64 en, .int .u64 ph, .slice As ns cs]] w (ParseE (Dy.parse b segs) w) := by
  have hbl : b.length = n := by have := hb.1; simp [bys] at this; omega
  have e1 : (w.alloc (.cells #[.int .u16 ty, .int .u64 en, .int .u64 ph, .slice As ns cs] 27)).heap.size = w.heap.size + 1 := by simp
  have e2 : ((w.alloc (.cells #[.int .u16 ty, .int .u64 en, .int .u64 ph, .slice As ns cs] 27)).alloc (.cells #[.slice none 0 0, .string ⟨#[]⟩, .string ⟨#[]⟩, .slice none 0 0, .slice none 0 0] 41)).heap.size = w.heap.size + 2 := by simp
  have hB0 : Below w.heap.size w ((w.alloc (.cells #[.int .u16 ty, .int .u64 en, .int .u64 ph, .slice As ns cs] 27)).alloc (.cells #[.slice none 0 0, .string ⟨#[]⟩, .string ⟨#[]⟩, .slice none 0 0, .slice none 0 0] 41)) := ((Below.refl _ _).alloc (Nat.le_refl _) _).alloc (by rw [e1]; omega) _
  have hK0 := Blk.new (w.alloc (.cells #[.int .u16 ty, .int .u64 en, .int .u64 ph, .slice As ns cs] 27)) 41 [.slice none 0 0, .string ⟨#[]⟩, .string ⟨#[]⟩, .slice none 0 0, .slice none 0 0]
  rw [e1] at hK0
  have hH0 := (Blk.new w 27 [.int .u16 ty, .int .u64 en, .int .u64 ph, .slice As ns cs]).alloc (.cells #[.slice none 0 0, .string ⟨#[]⟩, .string ⟨#[]⟩, .slice none 0 0, .slice none 0 0] 41)
  have z0 := hH0.cell (i := 0) rfl
  have z1 := hH0.cell (i := 1) rfl
  have z2 := hH0.cell (i := 2) rfl
  have z3 := hH0.cell (i := 3) rfl
  have KO := hide (rentries_any A n c B b ty en ph As ns cs segs ((w.alloc (.cells #[.int .u16 ty, .int .u64 en, .int .u64 ph, .slice As ns cs] 27)).alloc (.cells #[.slice none 0 0, .string ⟨#[]⟩, .string ⟨#[]⟩, .slice none 0 0, .slice none 0 0] 41)) (by rw [e2]; omega) (hb.below (hB0.mono hB)) (hs.below (hB0.mono hB)) hn hns hc hfit)
  have HB0 := hide hB0
  have HK0 := hide hK0
  obtain ⟨Res, hRes⟩ : ∃ R, Dy.parse b segs = R := ⟨_, rfl⟩
  rw [hRes]
  have HRes := hide hRes
  have Hbl := hide hbl
  clear hb hs hfit hB0 hK0 hH0 e1 hbl hRes
  go_enter Try.func23, Try.ntmps23
  go_wp2_with fail
  refine (unhide KO).mono ?_
  rintro e w1 ⟨hb1, q, is, x, rfl, hcase⟩
  have HB1 := hide ((unhide HB0).trans (hb1.mono (unhide HB0).size))
  have HK1 := hide ((unhide HK0).belowSz hb1)
  clear hb1 HB0 HK0 KO z0 z1 z2 z3
  rcases hcase with ⟨rfl, rfl, ho⟩ | ⟨rfl, hx0, ho⟩ | ⟨rfl, rfl, g, At, k, ct, Av, cv, L, rfl, hg, ho, hfl, hfo⟩
  · have HP : Hid (Res = (Dy.zero, 0)) := hide (by rw [← unhide HRes]; exact Dy.parse_no ho)
    clear ho HRes e2
    go_wp2_with ((with_reducible refine (@id (wpList _ _ _ (Oper.mk none (Op.store 41 (.tmp 4) (.tmp 32)) _ _ _ none :: _) _ _) ?_)); refine wpList_store_row rfl 41 (.tmp 4) (.tmp 32) rfl (w.heap.size + 1) #[.slice none 0 0, .string ⟨#[]⟩, .string ⟨#[]⟩, .slice none 0 0, .slice none 0 0] rfl rfl 41 _ (unhide HK1) dyInfo rfl (dyOne _ _ _ _ _ _ _ _ _ _ _) ?_)
    refine bodyPost_ret (results_cell_tmp (P := Try.prog) rfl _ _ (w.heap.size + 1) 41 #[.slice none 0 0, .string ⟨#[]⟩, .string ⟨#[]⟩, .slice none 0 0, .slice none 0 0] (0, 0) _ rfl (setRow_heap _ _ _ _ _ _ (unhide HK1)) Try.underlying41 rfl dyInfo) rfl ?_
    exact parse_nil (unhide HP) (below_setRow (unhide HB1) (Nat.le_succ _) _)
  · have HP : Hid (Res = (Dy.zero, x)) := hide (by rw [← unhide HRes]; exact Dy.parse_no ho)
    clear ho HRes e2
    go_wp2_with ((with_reducible refine (@id (wpList _ _ _ (Oper.mk none (Op.store 41 (.tmp 4) (.tmp 32)) _ _ _ none :: _) _ _) ?_)); refine wpList_store_row rfl 41 (.tmp 4) (.tmp 32) rfl (w.heap.size + 1) #[.slice none 0 0, .string ⟨#[]⟩, .string ⟨#[]⟩, .slice none 0 0, .slice none 0 0] rfl rfl 41 _ (unhide HK1) dyInfo rfl (dyOne _ _ _ _ _ _ _ _ _ _ _) ?_)
    refine bodyPost_ret (results_cell_tmp (P := Try.prog) rfl _ _ (w.heap.size + 1) 41 #[.slice none 0 0, .string ⟨#[]⟩, .string ⟨#[]⟩, .slice none 0 0, .slice none 0 0] (0, 0) _ rfl (setRow_heap _ _ _ _ _ _ (unhide HK1)) Try.underlying41 rfl dyInfo) rfl ?_
    exact parse_nil (unhide HP) (below_setRow (unhide HB1) (Nat.le_succ _) _)
  have hRes := unhide HRes
  rw [Dy.parse_some ho, unhide Hbl] at hRes
  have hgw : w.heap.size + 1 < g := by rw [e2] at hg; omega
  have KT := rtable_any B g _ 5 10 w1 hfl hfo
  have KNm := fun (w' : World) h => rnames_any B g _ w' h hfo (unhide Hbl)
  have KRe := fun (w' : World) h => rrelas_any B g _ w' h hfo (unhide Hbl)
  have KTx := fun (V W : World) (gd : Nat) (th : Bool) (At : Option Addr) (mt ct : Nat) (t : List UInt8) h hV hgd hout hT hmt hmc hth => rstrings_any V B g gd _ th At mt ct t W h hfo hV hgd hout hT hmt hmc hth
  obtain ⟨f, hf⟩ : ∃ f : Fl, (⟨A, n, c, b, ty, en, ph, As, ns, cs, segs, At, k, ct, Av, cv, L⟩ : Fl) = f := ⟨_, rfl⟩
  have HKX : Hid (∀ (V W : World) (gd : Nat) (th : Bool) (At : Option Addr) (mt ct : Nat) (t : List UInt8) (h : FlM V B g f) (hV : Below V.heap.size V W) (hgd : V.heap.size ≤ gd) (hout : Blk W gd 41 [.slice none 0 0, .string ⟨#[]⟩, .string ⟨#[]⟩, .slice none 0 0, .slice none 0 0]) (hT : Rd V B 1 At mt (bys t)) (hmt : mt ≤ 4294967296) (hmc : mt ≤ ct) (hth : th = false → mt = 0),
      Calls Try.prog 43 #[.pointer (some ⟨g, 0, none⟩), .agg #[.bool th, .slice At mt ct], .pointer (some ⟨gd, 0, none⟩)] W (RstrE (Dy.texts t (Dy.val L 29).isSome L Dy.zero) gd W)) := hide (by rw [← hf]; exact KTx)
  have HKN : Hid (∀ (w' : World) (h : FlM w' B g f), Calls Try.prog 25 #[.pointer (some ⟨g, 0, none⟩)] w' (NamesE (Dy.names b (El.loads segs) L) B b w')) := hide (by rw [← hf]; exact KNm)
  have HKR : Hid (∀ (w' : World) (h : FlM w' B g f), Calls Try.prog 42 #[.pointer (some ⟨g, 0, none⟩)] w' (RelasE (Dy.relaB b (El.loads segs) L) w')) := hide (by rw [← hf]; exact KRe)
  rw [hf] at hfl
  dsimp only at KT
  have HFL1 := hide hfl
  clear hf hfl hfo KNm KRe KTx ho HRes Hbl hg e2
  obtain ⟨T, hT⟩ : ∃ x, Dy.table n (El.loads segs) L 5 10 = x := ⟨_, rfl⟩
  obtain ⟨⟨nx, nr⟩, hN⟩ : ∃ x, Dy.names b (El.loads segs) L = x := ⟨_, rfl⟩
  obtain ⟨⟨rx, rb⟩, hR⟩ : ∃ x, Dy.relaB b (El.loads segs) L = x := ⟨_, rfl⟩
  obtain ⟨run, hrun⟩ : ∃ x, (Dy.val L 29).isSome = x := ⟨_, rfl⟩
  obtain ⟨th, hth⟩ : ∃ x, (Dy.val L 5).isSome = x := ⟨_, rfl⟩
  have HTb : Hid (∀ p k, T = some (p, k) → k ≤ n ∧ (th = false → k = 0)) := hide (fun p k h => by rw [← hT] at h; exact ⟨Dy.table_le h, fun h2 => Dy.table_not h (by rw [hth]; exact h2)⟩)
  have hRb : rb.length ≤ 1536 := by have := Dy.relaB_len (b := b) (l := El.loads segs) (L := L); rw [hR] at this; exact this
  have hRm : rb.length % 24 = 0 := by have := Dy.relaB_mod (b := b) (l := El.loads segs) (L := L); rw [hR] at this; exact this
  rw [hT] at KT hRes
  rw [hth] at KT
  rw [hN] at hRes
  rw [hR] at hRes
  rw [hrun] at hRes
  have hkn := unhide HKN
  have hkr := unhide HKR
  have hkx := unhide HKX
  rw [hN] at hkn
  rw [hR] at hkr
  rw [hrun] at hkx
  have HKN2 := hide hkn
  have HKR2 := hide hkr
  have HKX2 := hide hkx
  have HKT := hide KT
  have HRes := hide hRes
  clear KT hRes hT hN hR hrun hth HKN HKR HKX hkn hkr hkx
  go_wp2_with fail
  refine (unhide HKT).mono ?_
  rintro e w2 ⟨A5, n5, c5, q5, rfl, hf5, hb2⟩
  have HB2 : Hid (Below w.heap.size w (w2.alloc (.cells #[.bool th, .slice A5 n5 c5] 95))) := hide (((unhide HB1).trans (hb2.mono (unhide HB1).size)).alloc ((unhide HB1).trans (hb2.mono (unhide HB1).size)).size _)
  have HK2 : Hid (Blk (w2.alloc (.cells #[.bool th, .slice A5 n5 c5] 95)) (w.heap.size + 1) 41 [.slice none 0 0, .string ⟨#[]⟩, .string ⟨#[]⟩, .slice none 0 0, .slice none 0 0]) := hide (((unhide HK1).belowSz hb2).alloc _)
  have HT2 : Hid (Blk (w2.alloc (.cells #[.bool th, .slice A5 n5 c5] 95)) w2.heap.size 95 [.bool th, .slice A5 n5 c5]) := hide (Blk.new w2 95 [.bool th, .slice A5 n5 c5])
  have HFL2 : Hid (FlM (w2.alloc (.cells #[.bool th, .slice A5 n5 c5] 95)) B g f) := hide (((unhide HFL1).belowSz hb2).belowSz ((Below.refl _ _).alloc (Nat.le_refl _) _))
  have Hf5 := hide hf5
  have hB12 : B ≤ w2.heap.size := Nat.le_trans (unhide HFL1).sz hb2.size
  have h2w : w.heap.size + 1 < w2.heap.size := ((unhide HK1).belowSz hb2).lt
  clear HKT HB1 HK1 HFL1 hf5 hb2
  cases q5
  · have HP : Hid (Res = (Dy.zero, 25)) := hide (by
      rcases unhide Hf5 with ⟨-, h0⟩ | ⟨h0, -⟩
      · rw [← unhide HRes, h0]; exact Dy.pBody_1
      · cases h0)
    clear Hf5 HRes HKN2 HKR2 HKX2 HTb HT2 HFL2
    go_wp2_with ((with_reducible refine (@id (wpList _ _ _ (Oper.mk none (Op.store 41 (.tmp 4) (.tmp 41)) _ _ _ none :: _) _ _) ?_)); refine wpList_store_row rfl 41 (.tmp 4) (.tmp 41) rfl (w.heap.size + 1) #[.slice none 0 0, .string ⟨#[]⟩, .string ⟨#[]⟩, .slice none 0 0, .slice none 0 0] rfl rfl 41 _ (unhide HK2) dyInfo rfl (dyOne _ _ _ _ _ _ _ _ _ _ _) ?_)
    refine bodyPost_ret (results_cell_tmp (P := Try.prog) rfl _ _ (w.heap.size + 1) 41 #[.slice none 0 0, .string ⟨#[]⟩, .string ⟨#[]⟩, .slice none 0 0, .slice none 0 0] (0, 0) _ rfl (setRow_heap _ _ _ _ _ _ (unhide HK2)) Try.underlying41 rfl dyInfo) rfl ?_
    exact parse_nil (unhide HP) (below_setRow (unhide HB2) (Nat.le_succ _) _)
  rcases unhide Hf5 with ⟨h0, -⟩ | ⟨-, pt, hT0, hrd5, hc5⟩
  · cases h0
  have hn5 : n5 ≤ 4294967296 := Nat.le_trans ((unhide HTb) _ _ hT0).1 hn
  have Hth : Hid (th = false → n5 = 0) := hide ((unhide HTb) _ _ hT0).2
  obtain ⟨tt, htt⟩ : ∃ x, Dy.cut b pt n5 = x := ⟨_, rfl⟩
  have hRes := unhide HRes
  rw [hT0] at hRes
  rw [htt] at hrd5
  have HRd5 : Hid (Rd (w2.alloc (.cells #[.bool th, .slice A5 n5 c5] 95)) B 1 A5 n5 (bys tt)) := hide (hrd5.alloc hB12 _)
  have HRes2 := hide hRes
  have Htt := hide htt
  clear hRes hrd5 Hf5 HRes hT0 htt HTb
  go_wp2_with fail
  refine ((unhide HKN2) _ (unhide HFL2)).mono ?_
  rintro e w4 ⟨Ah, nh, ch, A4, c4, rfl, hnm, hb4⟩
  dsimp only at hnm ⊢
  obtain ⟨bk, chn, hof, sof⟩ := nr
  dsimp only at hnm ⊢
  obtain ⟨sl, hsl⟩ : ∃ x, 24 * chn = x := ⟨_, rfl⟩
  have Hsl := hide hsl
  have hb4' := (unhide HB2).trans (hb4.mono (unhide HB2).size)
  rw [hsl]
  have HB4 : Hid (Below w.heap.size w (w4.alloc (.cells #[.int .u64 (bk : Nat), .int .u64 (chn : Nat), .slice Ah nh ch, .slice A4 sl c4] 67))) := hide (hb4'.alloc hb4'.size _)
  have HK4 : Hid (Blk (w4.alloc (.cells #[.int .u64 (bk : Nat), .int .u64 (chn : Nat), .slice Ah nh ch, .slice A4 sl c4] 67)) (w.heap.size + 1) 41 [.slice none 0 0, .string ⟨#[]⟩, .string ⟨#[]⟩, .slice none 0 0, .slice none 0 0]) := hide (((unhide HK2).belowSz hb4).alloc _)
  have HT4 : Hid (Blk (w4.alloc (.cells #[.int .u64 (bk : Nat), .int .u64 (chn : Nat), .slice Ah nh ch, .slice A4 sl c4] 67)) w2.heap.size 95 [.bool th, .slice A5 n5 c5]) := hide (((unhide HT2).belowSz hb4).alloc _)
  have HN4 : Hid (Blk (w4.alloc (.cells #[.int .u64 (bk : Nat), .int .u64 (chn : Nat), .slice Ah nh ch, .slice A4 sl c4] 67)) w4.heap.size 67 [.int .u64 (bk : Nat), .int .u64 (chn : Nat), .slice Ah nh ch, .slice A4 sl c4]) := hide (Blk.new w4 67 [.int .u64 (bk : Nat), .int .u64 (chn : Nat), .slice Ah nh ch, .slice A4 sl c4])
  have HFL4 : Hid (FlM (w4.alloc (.cells #[.int .u64 (bk : Nat), .int .u64 (chn : Nat), .slice Ah nh ch, .slice A4 sl c4] 67)) B g f) := hide (((unhide HFL2).belowSz hb4).belowSz ((Below.refl _ _).alloc (Nat.le_refl _) _))
  have hs4 := (unhide HFL2).sz
  have hs5 : B ≤ w4.heap.size := Nat.le_trans hs4 hb4.size
  have h24 : w2.heap.size < w4.heap.size := ((unhide HT2).belowSz hb4).lt
  have HRd6 : Hid (Rd (w4.alloc (.cells #[.int .u64 (bk : Nat), .int .u64 (chn : Nat), .slice Ah nh ch, .slice A4 sl c4] 67)) B 1 A5 n5 (bys tt)) := hide (((unhide HRd5).below (hb4.mono hs4)).alloc hs5 _)
  have HNs : Hid (Rd (w4.alloc (.cells #[.int .u64 (bk : Nat), .int .u64 (chn : Nat), .slice Ah nh ch, .slice A4 sl c4] 67)) B 1 A4 sl (bys (Dy.cut b sof sl))) := hide (by have := hnm.s; dsimp only at this; rw [hsl] at this; exact this.alloc hs5 _)
  have hch65 : chn ≤ 65 := hnm.fit.2
  clear hnm hb4' hb4 HB2 HK2 HT2 HFL2 hsl HRd5 HKN2
  by_cases hx0 : nx = 0
  case neg =>
    have HP : Hid (Res = (Dy.zero, nx)) := hide (by rw [← unhide HRes2]; exact Dy.pBody_2 hx0)
    clear HRes2 HKR2 HKX2
    go_wp2_with ((with_reducible refine (@id (wpList _ _ _ (Oper.mk none (Op.store 41 (.tmp 4) (.tmp 49)) _ _ _ none :: _) _ _) ?_)); refine wpList_store_row rfl 41 (.tmp 4) (.tmp 49) rfl (w.heap.size + 1) #[.slice none 0 0, .string ⟨#[]⟩, .string ⟨#[]⟩, .slice none 0 0, .slice none 0 0] rfl rfl 41 _ (unhide HK4) dyInfo rfl (dyOne _ _ _ _ _ _ _ _ _ _ _) ?_)
    refine bodyPost_ret (results_cell_tmp (P := Try.prog) rfl _ _ (w.heap.size + 1) 41 #[.slice none 0 0, .string ⟨#[]⟩, .string ⟨#[]⟩, .slice none 0 0, .slice none 0 0] (0, 0) _ rfl (setRow_heap _ _ _ _ _ _ (unhide HK4)) Try.underlying41 rfl dyInfo) rfl ?_
    exact parse_nil (unhide HP) (below_setRow (unhide HB4) (Nat.le_succ _) _)
  subst hx0
  go_wp2_with fail
  refine ((unhide HKR2) _ (unhide HFL4)).mono ?_
  rintro e w6 ⟨A6, c6, rfl, hrow6, hb6⟩
  dsimp only at hrow6 ⊢
  have e4 : (w4.alloc (.cells #[.int .u64 (bk : Nat), .int .u64 (chn : Nat), .slice Ah nh ch, .slice A4 sl c4] 67)).heap.size = w4.heap.size + 1 := by simp
  rw [e4] at hrow6
  obtain ⟨rl, hrl⟩ : ∃ x, rb.length = x := ⟨_, rfl⟩
  rw [hrl] at hrow6 hRb hRm ⊢
  have HB6 := hide ((unhide HB4).trans (hb6.mono (unhide HB4).size))
  have HK6 := hide ((unhide HK4).belowSz hb6)
  have hT6 := (unhide HT4).belowSz hb6
  have hN6 := (unhide HN4).belowSz hb6
  have HFL6 := hide ((unhide HFL4).belowSz hb6)
  have hRd7 := (unhide HRd6).below (hb6.mono (unhide HFL4).sz)
  have hNs6 := (unhide HNs).below (hb6.mono (unhide HFL4).sz)
  have h46 : w4.heap.size + 1 ≤ w6.heap.size := by have := hb6.size; rw [e4] at this; exact this
  have hB6 : B ≤ w6.heap.size := (unhide HFL6).sz
  have Hrl := hide hrl
  have HAll : Hid (∀ W, Below w6.heap.size w6 W → Below w.heap.size w W ∧ Blk W (w.heap.size + 1) 41 [.slice none 0 0, .string ⟨#[]⟩, .string ⟨#[]⟩, .slice none 0 0, .slice none 0 0] ∧ (W.cell? ⟨w2.heap.size, 0, none⟩ = some (.bool th) ∧ W.cell? ⟨w2.heap.size, 1, none⟩ = some (.slice A5 n5 c5)) ∧ (W.cell? ⟨w4.heap.size, 1, none⟩ = some (.int .u64 (chn : Nat)) ∧ W.cell? ⟨w4.heap.size, 3, none⟩ = some (.slice A4 sl c4)) ∧ Rd W B 1 A5 n5 (bys tt) ∧ Rd W B 1 A4 sl (bys (Dy.cut b sof sl)) ∧ W.ownsRow (w4.heap.size + 1) 5 1 (.slice A6 rl c6) rl (bys rb) ∧ B ≤ W.heap.size) := hide (fun W hW =>
    ⟨(unhide HB6).trans (hW.mono (unhide HB6).size), (unhide HK6).belowSz hW, ⟨(hT6.belowSz hW).cell (i := 0) rfl, (hT6.belowSz hW).cell (i := 1) rfl⟩, ⟨(hN6.belowSz hW).cell (i := 1) rfl, (hN6.belowSz hW).cell (i := 3) rfl⟩, hRd7.below (hW.mono hB6), hNs6.below (hW.mono hB6), own_below hrow6 hW, Nat.le_trans hB6 hW.size⟩)
  have Hrd7 := hide hRd7
  clear hrow6 hb6 HB4 HK4 HT4 HN4 HFL4 HRd6 HNs HKR2 hrl e4 hT6 hN6 hRd7 hNs6
  by_cases hr0 : rx = 0
  case neg =>
    have HP : Hid (Res = (Dy.zero, rx)) := hide (by rw [← unhide HRes2]; exact Dy.pBody_3 rfl hr0)
    clear HRes2 HKX2
    go_wp2_with ((with_reducible refine (@id (wpList _ _ _ (Oper.mk none (Op.store 41 (.tmp 4) (.tmp 58)) _ _ _ none :: _) _ _) ?_)); refine wpList_store_row rfl 41 (.tmp 4) (.tmp 58) rfl (w.heap.size + 1) #[.slice none 0 0, .string ⟨#[]⟩, .string ⟨#[]⟩, .slice none 0 0, .slice none 0 0] rfl rfl 41 _ (unhide HK6) dyInfo rfl (dyOne _ _ _ _ _ _ _ _ _ _ _) ?_)
    refine bodyPost_ret (results_cell_tmp (P := Try.prog) rfl _ _ (w.heap.size + 1) 41 #[.slice none 0 0, .string ⟨#[]⟩, .string ⟨#[]⟩, .slice none 0 0, .slice none 0 0] (0, 0) _ rfl (setRow_heap _ _ _ _ _ _ (unhide HK6)) Try.underlying41 rfl dyInfo) rfl ?_
    exact parse_nil (unhide HP) (below_setRow (unhide HB6) (Nat.le_succ _) _)
  subst hr0
  have hW1 : Below w6.heap.size w6 (w6.alloc (.cells #[.slice none 0 0, .string ⟨#[]⟩, .string ⟨#[]⟩, .slice none 0 0, .slice none 0 0] 41)) := (Below.refl _ _).alloc (Nat.le_refl _) _
  have KX := hide ((unhide HKX2) w6 (w6.alloc (.cells #[.slice none 0 0, .string ⟨#[]⟩, .string ⟨#[]⟩, .slice none 0 0, .slice none 0 0] 41)) w6.heap.size th A5 n5 c5 tt (unhide HFL6) hW1 (Nat.le_refl _) (Blk.new w6 41 [.slice none 0 0, .string ⟨#[]⟩, .string ⟨#[]⟩, .slice none 0 0, .slice none 0 0]) (unhide Hrd7) hn5 hc5 (unhide Hth))
  obtain ⟨x8, x9⟩ := ((unhide HAll) _ hW1).2.2.1
  have HW1 := hide hW1
  obtain ⟨gd, hgd⟩ : ∃ x, w6.heap.size = x := ⟨_, rfl⟩
  have Hgd := hide hgd
  clear HKX2 HFL6 Hrd7 HB6 HK6 hW1 hgd
  go_wp2_with fail
  refine (unhide KX).mono ?_
  rintro e w7 ⟨qx, rfl, hgr7, hx7⟩
  have hBW7 : Below w6.heap.size w6 w7 := gr_below (unhide HW1) hgr7 (by simp) (unhide HW1).size
  have HBW7 := hide hBW7
  have HB7 := hide ((unhide HAll) _ hBW7).1
  have HK7 := hide ((unhide HAll) _ hBW7).2.1
  have Hx7 := hide hx7
  clear hgr7 hx7 KX x8 x9 hBW7 HW1
  cases qx
  · have HP : Hid (Res = (Dy.zero, 25)) := hide (by
      rcases unhide Hx7 with ⟨-, h0⟩ | ⟨h0, -⟩
      · rw [← unhide HRes2]; exact Dy.pBody_4 rfl rfl (by dsimp only; rw [unhide Htt]; exact h0)
      · cases h0)
    clear Hx7 HRes2 HAll HBW7
    go_wp2_with ((with_reducible refine (@id (wpList _ _ _ (Oper.mk none (Op.store 41 (.tmp 4) (.tmp 65)) _ _ _ none :: _) _ _) ?_)); refine wpList_store_row rfl 41 (.tmp 4) (.tmp 65) rfl (w.heap.size + 1) #[.slice none 0 0, .string ⟨#[]⟩, .string ⟨#[]⟩, .slice none 0 0, .slice none 0 0] rfl rfl 41 _ (unhide HK7) dyInfo rfl (dyOne _ _ _ _ _ _ _ _ _ _ _) ?_)
    refine bodyPost_ret (results_cell_tmp (P := Try.prog) rfl _ _ (w.heap.size + 1) 41 #[.slice none 0 0, .string ⟨#[]⟩, .string ⟨#[]⟩, .slice none 0 0, .slice none 0 0] (0, 0) _ rfl (setRow_heap _ _ _ _ _ _ (unhide HK7)) Try.underlying41 rfl dyInfo) rfl ?_
    exact parse_nil (unhide HP) (below_setRow (unhide HB7) (Nat.le_succ _) _)
  rcases unhide Hx7 with ⟨h0, -⟩ | ⟨-, D, A7, n7, c7, hD, hO7⟩
  · cases h0
  have HD : Hid (Dy.texts (Dy.cut b pt n5) run L Dy.zero = some D) := hide (by rw [unhide Htt]; exact hD)
  have HO7 := hide hO7.out
  have hRw := own_base (base' := w6.heap.size + 1) hO7.row (by simp)
  have HRw7 := hide hRw
  have HDn := hide hO7.n
  have hgd7 : w6.heap.size < w7.heap.size := hO7.out.lt
  have HG0 : Hid (GrM w7 w7 w6.heap.size [.slice A7 n7 c7, .string D.soname, .string D.run] [.slice none 0 0] 46 5 none 0 0 (symC [])) := hide ⟨World.grownBy.refl _ _, hO7.out, World.ownsRow_nil _ _ _ _⟩
  have HAl7 : Hid (∀ W, w7.grownBy W (some w6.heap.size) → Below w6.heap.size w6 W) := hide (fun W hW => gr_below (unhide HBW7) hW (Nat.le_refl _) (unhide HBW7).size)
  obtain ⟨-, -, -, ⟨u1, u3⟩, -⟩ := (unhide HAll) _ (unhide HBW7)
  clear hD hO7 Hx7 hRw HB7 HK7 HBW7
-- PIECE
  go_wp2_with fail
  go_loopg [14] chn (fun gk iv wr => ∃ (i m : Nat) (A9 : Option Addr) (c9 : Nat) (ss : List Dy.Sym), gk = chn + 1 - i ∧ i ≤ chn + 1 ∧ i = m + 1 ∧ iv = .int .u64 (i : Nat) ∧ GrM w7 wr w6.heap.size [.slice A7 n7 c7, .string D.soname, .string D.run] [.slice none 0 0] 46 5 A9 m c9 (symC ss) ∧ ss.length = m ∧ Dy.symsFrom tt b (chn - 1) (sof + 24) = (Dy.symsFrom tt b (chn - 1 - m) (sof + 24 + 24 * m)).map (ss ++ ·))
  case atStart => exact ⟨1, 0, none, 0, [], by omega, by omega, rfl, rfl, unhide HG0, rfl, by rw [Nat.sub_zero, Nat.mul_zero, Nat.add_zero]; cases Dy.symsFrom tt b (chn - 1) (sof + 24) <;> rfl⟩
  case round =>
  obtain ⟨i, m, A9, c9, ss, hgk, hi, him, rfl, hG, hsm, hsy⟩ := hrel
  have hbW := (unhide HAl7) _ hG.gr
  obtain ⟨-, -, ⟨t0, t1⟩, ⟨u1, u3⟩, -⟩ := (unhide HAll) _ hbW
  have HG := hide hG
  have Hsm := hide hsm
  have Hsy := hide hsy
  have HbW := hide hbW
  have Him := hide him
  have hml : m ≤ 66 := by omega
  have hi1 : 1 ≤ i := by omega
  clear hG hsm hsy hbW HG0 him
  by_cases hlt : i < chn
  case pos =>
    have ilt : (i : Int) < (chn : Int) := by omega
    have hsl24 : 24 * i + 24 ≤ sl := by have := unhide Hsl; omega
    have KS := rsym_any th A5 n5 c5 B tt A4 sl c4 (Dy.cut b sof sl) i wr ((unhide HAll) _ (unhide HbW)).2.2.2.2.2.2.2 ((unhide HAll) _ (unhide HbW)).2.2.2.2.1 hn5 hc5 (unhide Hth) ((unhide HAll) _ (unhide HbW)).2.2.2.2.2.1 (by have := unhide Hsl; omega) hsl24
    rw [Dy.symAt_cut (q := sof) (m := sl) (p := 24 * i) (by omega), show sof + 24 * i = sof + 24 + 24 * m from by have := unhide Him; omega] at KS
    obtain ⟨os, hos⟩ : ∃ x, Dy.symAt tt b (sof + 24 + 24 * m) = x := ⟨_, rfl⟩
    rw [hos] at KS
    have HKS := hide KS
    have Hos := hide hos
    clear KS hos hsl24
-- PIECE
    go_wp2_with fail
    refine (unhide HKS).mono ?_
-- PIECE
    rintro e w9 ⟨hb9, h9⟩
    have HG9 := hide ((unhide HG).belowSz hb9)
    have hbW9 := (unhide HAl7) _ (unhide HG9).gr
    clear HKS t0 t1
-- PIECE
    cases os with
    | none =>
      obtain ⟨y0, y1, y2, y3, y4, rfl⟩ := h9
      have HP : Hid (Res = (Dy.zero, 25)) := hide (by
        rw [← unhide HRes2]
        exact Dy.pBody_5 rfl rfl (unhide HD) (by dsimp only; rw [unhide Htt]; exact Dy.syms_stop (unhide Hsy) (by have := unhide Him; omega) (unhide Hos)))
      have hbA := hbW9.trans (((Below.refl w9.heap.size w9).alloc (Nat.le_refl _) (.cells #[.string y0, .int .u64 y1, .int .u64 y2, .int .u8 y3, .bool y4] 46)).mono hbW9.size)
      have HBa := hide ((unhide HAll) _ hbA).1
      have HKa := hide ((unhide HAll) _ hbA).2.1
      clear HRes2 HAll HG HG9 hbW9 hbA Hsy HRw7 HO7 hb9 HAl7
      go_wp2_with ((with_reducible refine (@id (wpList _ _ _ (Oper.mk none (Op.store 41 (.tmp 4) (.tmp 82)) _ _ _ none :: _) _ _) ?_)); refine wpList_store_row rfl 41 (.tmp 4) (.tmp 82) rfl (w.heap.size + 1) #[.slice none 0 0, .string ⟨#[]⟩, .string ⟨#[]⟩, .slice none 0 0, .slice none 0 0] rfl rfl 41 _ (unhide HKa) dyInfo rfl (dyOne _ _ _ _ _ _ _ _ _ _ _) ?_)
      refine bodyPost_ret (results_cell_tmp (P := Try.prog) rfl _ _ (w.heap.size + 1) 41 #[.slice none 0 0, .string ⟨#[]⟩, .string ⟨#[]⟩, .slice none 0 0, .slice none 0 0] (0, 0) _ rfl (setRow_heap _ _ _ _ _ _ (unhide HKa)) Try.underlying41 rfl dyInfo) rfl ?_
      exact parse_nil (unhide HP) (below_setRow (unhide HBa) (Nat.le_succ _) _)
-- PIECE
    | some s =>
      dsimp only at h9
      subst h9
      obtain ⟨nm, va, sz, bd, df⟩ := s
      dsimp only
      have HGa : Hid (GrM w7 (w9.alloc (.cells #[.string nm, .int .u64 (va : Nat), .int .u64 (sz : Nat), .int .u8 (bd : Nat), .bool df] 46)) w6.heap.size [.slice A7 n7 c7, .string D.soname, .string D.run] [.slice none 0 0] 46 5 A9 m c9 (symC ss)) := hide ((unhide HG9).belowSz ((Below.refl _ _).alloc (Nat.le_refl _) _))
      have HGb : Hid (GrM w7 ((w9.alloc (.cells #[.string nm, .int .u64 (va : Nat), .int .u64 (sz : Nat), .int .u8 (bd : Nat), .bool df] 46)).alloc (.cells #[.string nm, .int .u64 (va : Nat), .int .u64 (sz : Nat), .int .u8 (bd : Nat), .bool df] 46)) w6.heap.size [.slice A7 n7 c7, .string D.soname, .string D.run] [.slice none 0 0] 46 5 A9 m c9 (symC ss)) := hide ((unhide HGa).belowSz ((Below.refl _ _).alloc (Nat.le_refl _) _))
      have v3 := (unhide HGa).blk.cell (i := 3) rfl
      have Hsn : Hid (Dy.symsFrom tt b (chn - 1) (sof + 24) = (Dy.symsFrom tt b (chn - 1 - (m + 1)) (sof + 24 + 24 * (m + 1))).map ((ss ++ [⟨nm, va, sz, bd, df⟩]) ++ ·)) := hide (Dy.syms_on (unhide Hsy) (by have := unhide Him; omega) (unhide Hos))
      have hiw : IntKind.u64.wrap ((i : Int) + 1) = (i : Int) + 1 := by rw [IntKind.wrap_u64]; omega
      clear HG HG9 hbW9 Hsy Hos hb9 u1 u3
      go_wp2_with ((at_builtin; refine wpList_app1g syTy rfl _ _ rfl w7.heap.size (.slice A9 m c9) m (symC ss) rfl (unhide HGa).row #[.string nm, .int .u64 (va : Nat), .int .u64 (sz : Nat), .int .u8 (bd : Nat), .bool df] _ rfl (by simp) rfl (by intro u hu; simp at hu; rcases hu with rfl | rfl | rfl | rfl | rfl <;> rfl) (by omega) (unhide HGa).gr.size ?_; intro A3 c3 w11 ho3 hg3 hat3; have HP := hide ((unhide HGa).push (i := 3) hgd7 rfl ho3 hg3); have HGc := hide ((unhide HGa).grown hgd7 hg3); have v4 := (unhide HGc).2.cell (i := 3) rfl; have f4 := (unhide HGc).2.free 3; clear ho3 hg3 hat3))
      go_roundg (chn + 1 - (i + 1))
      case measure => omega
      case rel =>
        have hp := unhide HP
        have e1 := symC_snoc ss ⟨nm, va, sz, bd, df⟩
        unfold symV at e1
        dsimp only at e1
        refine ⟨i + 1, m + 1, A3, c3, ss ++ [⟨nm, va, sz, bd, df⟩], rfl, by omega, by have := unhide Him; omega, by go_num, ?_, by rw [List.length_append, unhide Hsm]; rfl, unhide Hsn⟩
        rw [e1]
        exact hp
  have ige : ¬ (i : Int) < (chn : Int) := by omega
  have HSs : Hid (Dy.symsFrom (Dy.cut b pt n5) b (chn - 1) (sof + 24) = some ss) := hide (by rw [unhide Htt]; exact Dy.syms_end (unhide Hsy) (by have := unhide Him; omega))
  have HR8 : Hid (wr.ownsRow (w6.heap.size + 1) 9 1 (.slice A7 n7 c7) n7 (D.needed.map Value.string)) := hide (own_gr (unhide HRw7) (unhide HG).gr (by omega))
  have HR9 := hide (unhide HG).row
  have hgd8 : w6.heap.size < wr.heap.size := (unhide HG).blk.lt
  have HG20 : Hid (GrM wr wr w6.heap.size [.slice A7 n7 c7, .string D.soname, .string D.run, .slice A9 m c9] [] 49 4 none 0 0 (relC [])) := hide ⟨World.grownBy.refl _ _, (unhide HG).blk, World.ownsRow_nil _ _ _ _⟩
  have HAl8 : Hid (∀ W, wr.grownBy W (some w6.heap.size) → Below w6.heap.size w6 W) := hide (fun W hW => gr_below (unhide HbW) hW (Nat.le_refl _) (unhide HbW).size)
  obtain ⟨N2, hN2⟩ : ∃ x, rl / 24 = x := ⟨_, rfl⟩
  have hrN : rl = 24 * N2 := by omega
  have hrw : IntKind.u64.wrap (rl : Int) = (rl : Int) := by rw [IntKind.wrap_u64]; omega
  have hmw : IntKind.u64.wrap (m : Int) = (m : Int) := by rw [IntKind.wrap_u64]; omega
  have HN2 := hide hN2
  have HrN := hide hrN
  have hN64 : N2 ≤ 64 := by omega
  obtain ⟨w8, hw8⟩ : ∃ x, x = wr := ⟨_, rfl⟩
  rw [← hw8] at HR8 HR9 HG20 HAl8 hgd8 u1 ⊢
  clear HG Hsy HbW u3 t0 t1 HRw7 HO7 HAl7 Him hw8 hN2 hrN hlt
-- PIECE
  go_wp2_with fail
  go_loopg [17] N2 (fun gk iv wr => ∃ (j p : Nat) (A11 : Option Addr) (c11 : Nat) (rs : List Dy.Rel), gk = N2 - j ∧ j ≤ N2 ∧ p = 24 * j ∧ iv = .int .u64 (p : Nat) ∧ GrM w8 wr w6.heap.size [.slice A7 n7 c7, .string D.soname, .string D.run, .slice A9 m c9] [] 49 4 A11 j c11 (relC rs) ∧ rs.length = j ∧ Dy.relsFrom m rb N2 0 = (Dy.relsFrom m rb (N2 - j) (24 * j)).map (rs ++ ·))
  case atStart => exact ⟨0, 0, none, 0, [], by omega, by omega, rfl, rfl, unhide HG20, rfl, by rw [Nat.sub_zero, Nat.mul_zero]; cases Dy.relsFrom m rb N2 0 <;> rfl⟩
  case round =>
  obtain ⟨j, p, A11, c11, rs, hgk2, hj, hp, rfl, hG, hrsl, hry⟩ := hrel
  have hbW := (unhide HAl8) _ hG.gr
  have v3 := hG.blk.cell (i := 3) rfl
  have HG := hide hG
  have Hrsl := hide hrsl
  have Hry := hide hry
  have HbW := hide hbW
  have Hp := hide hp
  have hpb : p ≤ 1536 := by omega
  clear hG hrsl hry hbW HG20 hp
  by_cases hlt2 : j < N2
  case neg =>
    have pge : ¬ (p : Int) < (rl : Int) := by have := unhide Hp; have := unhide HrN; omega
    have HP : Hid (Res = ({ D with syms := ss, relas := rs }, 0)) := hide (by
      rw [← unhide HRes2]
      refine Dy.pBody_7 rfl rfl (unhide HD) (unhide HSs) ?_
      dsimp only
      rw [unhide Hrl, unhide HN2, unhide Hsm]
      exact Dy.rels_end (unhide Hry) (by omega))
    have HB9 := hide ((unhide HAll) _ (unhide HbW)).1
    have HK9 := hide ((unhide HAll) _ (unhide HbW)).2.1
    have HR8b : Hid (wr.ownsRow (w6.heap.size + 1) 9 1 (.slice A7 n7 c7) n7 (D.needed.map Value.string)) := hide (own_gr (unhide HR8) (unhide HG).gr (by omega))
    have HR9b : Hid (wr.ownsRow w7.heap.size 46 5 (.slice A9 m c9) m (symC ss)) := hide (own_gr (unhide HR9) (unhide HG).gr hgd7)
    have hw61 : w.heap.size + 1 < w6.heap.size := by omega
    have h78 : w.heap.size + 1 < w8.heap.size := by omega
    have HO9 : Hid (Blk wr w6.heap.size 41 [.slice A7 n7 c7, .string D.soname, .string D.run, .slice A9 m c9, .slice A11 j c11]) := hide (unhide HG).blk
    clear HRes2 HAll HR8 HR9 HAl8 HD HSs Hry v3 hmw
    go_wp2_with (first
      | ((with_reducible refine (@id (wpList _ _ _ (Oper.mk _ (Op.load 41 (.tmp 13)) _ _ _ none :: _) _ _) ?_)); refine wpList_load_row rfl 41 (.tmp 13) rfl w6.heap.size rfl 41 #[.slice A7 n7 c7, .string D.soname, .string D.run, .slice A9 m c9, .slice A11 j c11] (0, 0) _ (unhide HO9) Try.underlying41 rfl dyInfo ?_)
      | ((with_reducible refine (@id (wpList _ _ _ (Oper.mk none (Op.store 41 (.tmp 4) (.tmp 128)) _ _ _ none :: _) _ _) ?_)); refine wpList_store_row rfl 41 (.tmp 4) (.tmp 128) rfl (w.heap.size + 1) #[.slice A7 n7 c7, .string D.soname, .string D.run, .slice A9 m c9, .slice A11 j c11] rfl rfl 41 _ (unhide HK9) dyInfo rfl (dyOne _ _ _ _ _ _ _ _ _ _ _) ?_))
    refine bodyPost_ret (results_cell_tmp (P := Try.prog) rfl _ _ (w.heap.size + 1) 41 #[.slice A7 n7 c7, .string D.soname, .string D.run, .slice A9 m c9, .slice A11 j c11] (0, 0) _ rfl (setRow_heap _ _ _ _ _ _ (unhide HK9)) Try.underlying41 rfl dyInfo) rfl ?_
    exact parse_good (unhide HP) (below_setRow (unhide HB9) (Nat.le_succ _) _) (unhide HDn) (unhide Hsm).symm (unhide Hrsl).symm (own_base (own_setRowB (unhide HR8b) (by omega) _) (by omega)) (own_base (own_setRowB (unhide HR9b) (by omega) _) (by omega)) (own_base (own_setRowB (unhide HG).row (by omega) _) (by omega))
  have plt : (p : Int) < (rl : Int) := by have := unhide Hp; have := unhide HrN; omega
  have hrow := ((unhide HAll) _ (unhide HbW)).2.2.2.2.2.2.1
  have hpr : p + 24 ≤ rl := by have := unhide Hp; have := unhide HrN; omega
  have KN := fun (q s : Nat) (hs : s = 1 ∨ s = 2 ∨ s = 4 ∨ s = 8) (hq : q + s ≤ rl) (W : World) (hW : W.ownsRow (w4.heap.size + 1) 5 1 (.slice A6 rl c6) rl (bys rb)) => rnumber_any A6 rl c6 W.heap.size rb q s W (Rd.of_own hW) (by omega) hs hq
  have Hrow := hide hrow
  have k12 := KN (p + 12) 4 (by omega) (by omega) wr hrow
  have k0 := KN p 8 (by omega) (by omega)
  have k8 := KN (p + 8) 4 (by omega) (by omega)
  have k16 := KN (p + 16) 8 (by omega) (by omega)
  have hl12 := num_lt4 rb (p + 12)
  have hl8 := num_lt4 rb (p + 8)
  obtain ⟨y12, hy12⟩ : ∃ x, Wd.num rb (p + 12) 4 = x := ⟨_, rfl⟩
  obtain ⟨y0, hy0⟩ : ∃ x, Wd.num rb p 8 = x := ⟨_, rfl⟩
  obtain ⟨y8, hy8⟩ : ∃ x, Wd.num rb (p + 8) 4 = x := ⟨_, rfl⟩
  obtain ⟨y16, hy16⟩ : ∃ x, Wd.num rb (p + 16) 8 = x := ⟨_, rfl⟩
  rw [hy12] at k12 hl12
  rw [hy0] at k0
  rw [hy8] at k8 hl8
  rw [hy16] at k16
  have ci12 : ((p + 12 : Nat) : Int) = (p : Int) + 12 := by omega
  have ci8 : ((p + 8 : Nat) : Int) = (p : Int) + 8 := by omega
  have ci16 : ((p + 16 : Nat) : Int) = (p : Int) + 16 := by omega
  rw [ci12] at k12
  rw [ci8] at k8
  rw [ci16] at k16
  have w12 : IntKind.u64.wrap ((p : Int) + 12) = (p : Int) + 12 := by rw [IntKind.wrap_u64]; omega
  have K12 : Hid (Calls Try.prog 45 #[.slice A6 rl c6, .int .u64 ((p : Int) + 12), .int .i64 4] wr (fun e w2 => e = .returned (.int .u64 (y12 : Nat)) ∧ wr = w2)) := hide k12
  have K0 : Hid (∀ W, W.ownsRow (w4.heap.size + 1) 5 1 (.slice A6 rl c6) rl (bys rb) → Calls Try.prog 45 #[.slice A6 rl c6, .int .u64 (p : Nat), .int .i64 8] W (fun e w2 => e = .returned (.int .u64 (y0 : Nat)) ∧ W = w2)) := hide k0
  have K8 : Hid (∀ W, W.ownsRow (w4.heap.size + 1) 5 1 (.slice A6 rl c6) rl (bys rb) → Calls Try.prog 45 #[.slice A6 rl c6, .int .u64 ((p : Int) + 8), .int .i64 4] W (fun e w2 => e = .returned (.int .u64 (y8 : Nat)) ∧ W = w2)) := hide k8
  have K16 : Hid (∀ W, W.ownsRow (w4.heap.size + 1) 5 1 (.slice A6 rl c6) rl (bys rb) → Calls Try.prog 45 #[.slice A6 rl c6, .int .u64 ((p : Int) + 16), .int .i64 8] W (fun e w2 => e = .returned (.int .u64 (y16 : Nat)) ∧ W = w2)) := hide k16
  have Hrel : Hid (Dy.relAt rb (24 * j) = ⟨y0, y8, y12, y16⟩) := hide (by have := unhide Hp; unfold Dy.relAt; rw [← this, hy0, hy8, hy12, hy16])
  have Hy12 : Hid (Wd.num rb (24 * j + 12) 4 = y12) := hide (by have := unhide Hp; rw [← this, hy12])
  clear hrow KN k12 k0 k8 k16 hy12 hy0 hy8 hy16 ci12 ci8 ci16
  by_cases hk : m < y12
  case pos =>
    have hkI : (m : Int) < (y12 : Int) := by omega
    have HP : Hid (Res = (Dy.zero, 25)) := hide (by
      rw [← unhide HRes2]
      refine Dy.pBody_6 rfl rfl (unhide HD) (unhide HSs) ?_
      dsimp only
      rw [unhide Hrl, unhide HN2, unhide Hsm]
      exact Dy.rels_stop (unhide Hry) hlt2 (by rw [unhide Hy12]; exact hk))
    have HB9 := hide ((unhide HAll) _ (unhide HbW)).1
    have HK9 := hide ((unhide HAll) _ (unhide HbW)).2.1
    clear HRes2 HAll HR8 HR9 HAl8 HD HSs Hry K0 K8 K16 HG
    go_wp2_with fail
    refine (unhide K12).mono ?_
    rintro e w10 ⟨rfl, rfl⟩
    go_wp2_with ((with_reducible refine (@id (wpList _ _ _ (Oper.mk none (Op.store 41 (.tmp 4) (.tmp 106)) _ _ _ none :: _) _ _) ?_)); refine wpList_store_row rfl 41 (.tmp 4) (.tmp 106) rfl (w.heap.size + 1) #[.slice none 0 0, .string ⟨#[]⟩, .string ⟨#[]⟩, .slice none 0 0, .slice none 0 0] rfl rfl 41 _ (unhide HK9) dyInfo rfl (dyOne _ _ _ _ _ _ _ _ _ _ _) ?_)
    refine bodyPost_ret (results_cell_tmp (P := Try.prog) rfl _ _ (w.heap.size + 1) 41 #[.slice none 0 0, .string ⟨#[]⟩, .string ⟨#[]⟩, .slice none 0 0, .slice none 0 0] (0, 0) _ rfl (setRow_heap _ _ _ _ _ _ (unhide HK9)) Try.underlying41 rfl dyInfo) rfl ?_
    exact parse_nil (unhide HP) (below_setRow (unhide HB9) (Nat.le_succ _) _)
  have hkI : ¬ (m : Int) < (y12 : Int) := by omega
  have Hrn : Hid (Dy.relsFrom m rb N2 0 = (Dy.relsFrom m rb (N2 - (j + 1)) (24 * (j + 1))).map ((rs ++ [⟨y0, y8, y12, y16⟩]) ++ ·)) := hide (by rw [← unhide Hrel]; exact Dy.rels_on (unhide Hry) hlt2 (by rw [unhide Hy12]; exact hk))
  go_wp2_with fail
  refine (unhide K12).mono ?_
  rintro e w10 ⟨rfl, rfl⟩
  clear K12 w12 Hry Hrel Hy12
  go_wp2_with fail
  have w8' : IntKind.u64.wrap ((p : Int) + 8) = (p : Int) + 8 := by rw [IntKind.wrap_u64]; omega
  have w16' : IntKind.u64.wrap ((p : Int) + 16) = (p : Int) + 16 := by rw [IntKind.wrap_u64]; omega
  have w24' : IntKind.u64.wrap ((p : Int) + 24) = (p : Int) + 24 := by rw [IntKind.wrap_u64]; omega
  have wy12 : IntKind.i64.wrap (y12 : Int) = (y12 : Int) := by rw [IntKind.wrap_i64]; omega
  have wy8 : IntKind.u32.wrap (y8 : Int) = (y8 : Int) := by rw [IntKind.wrap_u32]; omega
  obtain ⟨ad, had⟩ : ∃ x, adI y16 = x := ⟨_, rfl⟩
  have wy16 : IntKind.i64.wrap (y16 : Int) = ad := had
  have Had := hide had
  have HGd := hide ((unhide HG).belowSz (below_drew' (Below.refl _ _)))
  have Hrowd := hide (own_below (unhide Hrow) (below_drew' (Below.refl _ _)))
  have z4 := (unhide HG).blk.cell (i := 4) rfl
  clear had hkI plt
  refine wp_region_noPanic ?_
  refine wp_region_held_drew (S := fun _ => True) (by kernel_rfl) (trivial) (fun HS0 => ?_)
  refine takeD (i := 0) (d := some 107) (v := ?_) rfl rfl (by kernel_rfl) (by kernel_rfl) (by kernel_rfl) (fun _ _ _ h => h) (Or.inl ⟨by rfl, ?y0⟩) HS0 ?_
  case y0 => (intro w' hSw; (try dsimp only at hSw); go_simp; (try with_reducible rfl))
  simp only [Act.put, List.setIfInBounds_toArray, List.set_cons_zero, List.set_cons_succ]
  refine takeD (i := 2) (d := some 109) (v := ?_) rfl rfl (by kernel_rfl) (by kernel_rfl) (by kernel_rfl) (fun _ _ _ h => h) (Or.inl ⟨by rfl, ?y2⟩) HS0 ?_
  case y2 => (intro w' hSw; (try dsimp only at hSw); go_simp; (try with_reducible rfl))
  simp only [Act.put, List.setIfInBounds_toArray, List.set_cons_zero, List.set_cons_succ]
  refine takeD (i := 3) (d := some 110) (v := ?_) rfl rfl (by kernel_rfl) (by kernel_rfl) (by kernel_rfl) (fun _ _ _ h => h) (Or.inl ⟨by rfl, ?y3⟩) HS0 ?_
  case y3 => (intro w' hSw; (try dsimp only at hSw); go_simp; (try with_reducible rfl))
  simp only [Act.put, List.setIfInBounds_toArray, List.set_cons_zero, List.set_cons_succ]
  refine takeD (i := 5) (d := some 112) (v := ?_) rfl rfl (by kernel_rfl) (by kernel_rfl) (by kernel_rfl) (fun _ _ _ h => h) (Or.inl ⟨by rfl, ?y5⟩) HS0 ?_
  case y5 => (intro w' hSw; (try dsimp only at hSw); go_simp; (try with_reducible rfl))
  simp only [Act.put, List.setIfInBounds_toArray, List.set_cons_zero, List.set_cons_succ]
  refine takeD (i := 6) (d := some 113) (v := ?_) rfl rfl (by kernel_rfl) (by kernel_rfl) (by kernel_rfl) (fun _ _ _ h => h) (Or.inl ⟨by rfl, ?y6⟩) HS0 ?_
  case y6 => (intro w' hSw; (try dsimp only at hSw); go_simp; (try with_reducible rfl))
  simp only [Act.put, List.setIfInBounds_toArray, List.set_cons_zero, List.set_cons_succ]
  refine takeD (i := 7) (d := some 114) (v := ?_) rfl rfl (by kernel_rfl) (by kernel_rfl) (by kernel_rfl) (fun _ _ _ h => h) (Or.inl ⟨by rfl, ?y7⟩) HS0 ?_
  case y7 => (intro w' hSw; (try dsimp only at hSw); go_simp; (try with_reducible rfl))
  simp only [Act.put, List.setIfInBounds_toArray, List.set_cons_zero, List.set_cons_succ]
  refine takeD (i := 10) (d := some 117) (v := ?_) rfl rfl (by kernel_rfl) (by kernel_rfl) (by kernel_rfl) (fun _ _ _ h => h) (Or.inl ⟨by rfl, ?y10⟩) HS0 ?_
  case y10 => (intro w' hSw; (try dsimp only at hSw); go_simp; (try with_reducible rfl))
  simp only [Act.put, List.setIfInBounds_toArray, List.set_cons_zero, List.set_cons_succ]
  refine takeD (i := 11) (d := some 118) (v := ?_) rfl rfl (by kernel_rfl) (by kernel_rfl) (by kernel_rfl) (fun _ _ _ h => h) (Or.inl ⟨by rfl, ?y11⟩) HS0 ?_
  case y11 => (intro w' hSw; (try dsimp only at hSw); go_simp; (try with_reducible rfl))
  simp only [Act.put, List.setIfInBounds_toArray, List.set_cons_zero, List.set_cons_succ]
  refine takeD (i := 12) (d := some 119) (v := ?_) rfl rfl (by kernel_rfl) (by kernel_rfl) (by kernel_rfl) (fun _ _ _ h => h) (Or.inl ⟨by rfl, ?y12⟩) HS0 ?_
  case y12 => (intro w' hSw; (try dsimp only at hSw); go_simp; (try with_reducible rfl))
  simp only [Act.put, List.setIfInBounds_toArray, List.set_cons_zero, List.set_cons_succ]
  refine takeD (i := 13) (d := some 120) (v := ?_) rfl rfl (by kernel_rfl) (by kernel_rfl) (by kernel_rfl) (fun _ _ _ h => h) (Or.inl ⟨by rfl, ?y13⟩) HS0 ?_
  case y13 => (intro w' hSw; (try dsimp only at hSw); go_simp; (try with_reducible rfl))
  simp only [Act.put, List.setIfInBounds_toArray, List.set_cons_zero, List.set_cons_succ]
  refine takeD (i := 14) (d := some 121) (v := ?_) rfl rfl (by kernel_rfl) (by kernel_rfl) (by kernel_rfl) (fun _ _ _ h => h) (Or.inl ⟨by rfl, ?y14⟩) HS0 ?_
  case y14 => (intro w' hSw; (try dsimp only at hSw); go_simp; (try with_reducible rfl))
  simp only [Act.put, List.setIfInBounds_toArray, List.set_cons_zero, List.set_cons_succ]
  refine wpAnyH_ready (rs := [1, 4]) (by kernel_rfl) (by simp) ?_
  refine AllReadyH.cons (i := 1) rfl (fun K hK => ?way1) (AllReadyH.cons (i := 4) rfl (fun K hK => ?way4) AllReadyH.nil)
  case way1 =>
    rw [if_pos (by rfl)]
    go_simp
    refine hK.out _ _ trivial (fun hHeld => ?_)
    clear hK K HS0
    have HS0 := hHeld
    clear hHeld
    (try simp only [Act.put, List.setIfInBounds_toArray, List.set_cons_zero, List.set_cons_succ])
    refine wpAnyH_ready (rs := [4]) (by kernel_rfl) (by simp) ?_
    refine AllReadyH.cons (i := 4) rfl (fun K hK => ?_) AllReadyH.nil
    rw [if_pos (by rfl)]
    go_simp
    go_at_call 45
    with_reducible refine ((unhide K0) _ (unhide Hrowd)).mono ?_
    rintro e w9 ⟨rfl, rfl⟩
    refine hK.out _ _ trivial (fun hHeld => ?_)
    clear hK K HS0
    have HS0 := hHeld
    clear hHeld
    (try simp only [Act.put, List.setIfInBounds_toArray, List.set_cons_zero, List.set_cons_succ])
    refine wpAnyH_ready (rs := [8]) (by kernel_rfl) (by simp) ?_
    refine AllReadyH.cons (i := 8) rfl (fun K hK => ?_) AllReadyH.nil
    rw [if_pos (by rfl)]
    go_simp
    go_at_call 45
    with_reducible refine ((unhide K8) _ (unhide Hrowd)).mono ?_
    rintro e w9 ⟨rfl, rfl⟩
    refine hK.out _ _ trivial (fun hHeld => ?_)
    clear hK K HS0
    have HS0 := hHeld
    clear hHeld
    (try simp only [Act.put, List.setIfInBounds_toArray, List.set_cons_zero, List.set_cons_succ])
    refine takeD (i := 9) (d := some 116) (v := ?_) rfl rfl (by kernel_rfl) (by kernel_rfl) (by kernel_rfl) (fun _ _ _ h => h) (Or.inl ⟨by rfl, ?y9⟩) HS0 ?_
    case y9 => (intro w' hSw; (try dsimp only at hSw); go_simp; (try with_reducible rfl))
    simp only [Act.put, List.setIfInBounds_toArray, List.set_cons_zero, List.set_cons_succ]
    refine wpAnyH_ready (rs := [15]) (by kernel_rfl) (by simp) ?_
    refine AllReadyH.cons (i := 15) rfl (fun K hK => ?_) AllReadyH.nil
    rw [if_pos (by rfl)]
    go_simp
    go_at_call 45
    with_reducible refine ((unhide K16) _ (unhide Hrowd)).mono ?_
    rintro e w9 ⟨rfl, rfl⟩
    refine hK.out _ _ trivial (fun hHeld => ?_)
    clear hK K HS0
    have HS0 := hHeld
    clear hHeld
    (try simp only [Act.put, List.setIfInBounds_toArray, List.set_cons_zero, List.set_cons_succ])
    refine takeD (i := 16) (d := some 123) (v := ?_) rfl rfl (by kernel_rfl) (by kernel_rfl) (by kernel_rfl) (fun _ _ _ h => h) (Or.inl ⟨by rfl, ?y16⟩) HS0 ?_
    case y16 => (intro w' hSw; (try dsimp only at hSw); go_simp; (try with_reducible rfl))
    simp only [Act.put, List.setIfInBounds_toArray, List.set_cons_zero, List.set_cons_succ]
    refine takeD (i := 17) (d := some 124) (v := ?_) rfl rfl (by kernel_rfl) (by kernel_rfl) (by kernel_rfl) (fun _ _ _ h => h) (Or.inl ⟨by rfl, ?y17⟩) HS0 ?_
    case y17 => (intro w' hSw; (try dsimp only at hSw); go_simp; (try with_reducible rfl))
    simp only [Act.put, List.setIfInBounds_toArray, List.set_cons_zero, List.set_cons_succ]
    refine wpAnyH_ready (rs := [18]) (by kernel_rfl) (by simp) ?_
    refine AllReadyH.cons (i := 18) rfl (fun K hK => ?_) AllReadyH.nil
    rw [if_pos (by rfl)]
    go_simp
    refine hK.out _ _ trivial (fun hHeld => ?_)
    clear hK K HS0
    have HS0 := hHeld
    clear hHeld
    (try simp only [Act.put, List.setIfInBounds_toArray, List.set_cons_zero, List.set_cons_succ])
    refine wpAnyH_ready (rs := [19]) (by kernel_rfl) (by simp) ?_
    refine AllReadyH.cons (i := 19) rfl (fun K hK => ?_) AllReadyH.nil
    rw [if_pos (by rfl)]
    refine wp_app1g reTy _ _ rfl w8.heap.size (.slice A11 j c11) j (relC rs) rfl (unhide HGd).row #[.int .u64 (y0 : Nat), .int .u32 (y8 : Nat), .int .i64 (y12 : Nat), .int .i64 ad] _ rfl (by simp) rfl (by intro u hu; simp at hu; rcases hu with rfl | rfl | rfl | rfl <;> rfl) (by omega) (unhide HGd).gr.size ?_
    intro A12 c12 w12 ho12 hg12
    have HP12 := hide ((unhide HGd).push (i := 4) hgd8 rfl ho12 hg12)
    have HG12 := hide ((unhide HGd).grown hgd8 hg12)
    have z4 := (unhide HG12).2.cell (i := 4) rfl
    have g4 := (unhide HG12).2.free 4
    clear ho12 hg12
    refine hK.out _ _ trivial (fun hHeld => ?_)
    clear hK K HS0
    have HS0 := hHeld
    clear hHeld
    (try simp only [Act.put, List.setIfInBounds_toArray, List.set_cons_zero, List.set_cons_succ])
    refine takeD (i := 20) (d := some 127) (v := ?_) rfl rfl (by kernel_rfl) (by kernel_rfl) (by kernel_rfl) (fun _ _ _ h => h) (Or.inl ⟨by rfl, ?y20⟩) HS0 ?_
    case y20 => (intro w' hSw; (try dsimp only at hSw); go_simp; (try with_reducible rfl))
    simp only [Act.put, List.setIfInBounds_toArray, List.set_cons_zero, List.set_cons_succ]
    refine wpAnyH_ready (rs := [21]) (by kernel_rfl) (by simp) ?_
    refine AllReadyH.cons (i := 21) rfl (fun K hK => ?_) AllReadyH.nil
    rw [if_pos (by rfl)]
    go_simp
    refine hK.out _ _ trivial (fun hHeld => ?_)
    clear hK K HS0
    have HS0 := hHeld
    clear hHeld
    (try simp only [Act.put, List.setIfInBounds_toArray, List.set_cons_zero, List.set_cons_succ])
    refine wpAnyH_done (by kernel_rfl) ?_ _
    refine NoPanic.normal ?_
    clear HS0 z4 g4 HGd Hrowd w8' w16' wy12 wy8 wy16 K0 K8 K16
    go_wp2_with fail
    go_roundg (N2 - (j + 1))
    case measure => omega
    case rel =>
      have hp := unhide HP12
      have e1 := relC_snoc rs ⟨y0, y8, y12, y16⟩
      unfold relV at e1
      dsimp only at e1
      rw [unhide Had] at e1
      refine ⟨j + 1, p + 24, A12, c12, rs ++ [⟨y0, y8, y12, y16⟩], rfl, by omega, by have := unhide Hp; omega, by go_num, ?_, by rw [List.length_append, unhide Hrsl]; rfl, unhide Hrn⟩
      rw [e1]
      exact hp
  case way4 =>
    rw [if_pos (by rfl)]
    go_simp
    go_at_call 45
    with_reducible refine ((unhide K0) _ (unhide Hrowd)).mono ?_
    rintro e w9 ⟨rfl, rfl⟩
    refine hK.out _ _ trivial (fun hHeld => ?_)
    clear hK K HS0
    have HS0 := hHeld
    clear hHeld
    (try simp only [Act.put, List.setIfInBounds_toArray, List.set_cons_zero, List.set_cons_succ])
    refine wpAnyH_ready (rs := [1, 8]) (by kernel_rfl) (by simp) ?_
    refine AllReadyH.cons (i := 1) rfl (fun K hK => ?way1) (AllReadyH.cons (i := 8) rfl (fun K hK => ?way8) AllReadyH.nil)
    case way1 =>
      rw [if_pos (by rfl)]
      go_simp
      refine hK.out _ _ trivial (fun hHeld => ?_)
      clear hK K HS0
      have HS0 := hHeld
      clear hHeld
      (try simp only [Act.put, List.setIfInBounds_toArray, List.set_cons_zero, List.set_cons_succ])
      refine wpAnyH_ready (rs := [8]) (by kernel_rfl) (by simp) ?_
      refine AllReadyH.cons (i := 8) rfl (fun K hK => ?_) AllReadyH.nil
      rw [if_pos (by rfl)]
      go_simp
      go_at_call 45
      with_reducible refine ((unhide K8) _ (unhide Hrowd)).mono ?_
      rintro e w9 ⟨rfl, rfl⟩
      refine hK.out _ _ trivial (fun hHeld => ?_)
      clear hK K HS0
      have HS0 := hHeld
      clear hHeld
      (try simp only [Act.put, List.setIfInBounds_toArray, List.set_cons_zero, List.set_cons_succ])
      refine takeD (i := 9) (d := some 116) (v := ?_) rfl rfl (by kernel_rfl) (by kernel_rfl) (by kernel_rfl) (fun _ _ _ h => h) (Or.inl ⟨by rfl, ?y9⟩) HS0 ?_
      case y9 => (intro w' hSw; (try dsimp only at hSw); go_simp; (try with_reducible rfl))
      simp only [Act.put, List.setIfInBounds_toArray, List.set_cons_zero, List.set_cons_succ]
      refine wpAnyH_ready (rs := [15]) (by kernel_rfl) (by simp) ?_
      refine AllReadyH.cons (i := 15) rfl (fun K hK => ?_) AllReadyH.nil
      rw [if_pos (by rfl)]
      go_simp
      go_at_call 45
      with_reducible refine ((unhide K16) _ (unhide Hrowd)).mono ?_
      rintro e w9 ⟨rfl, rfl⟩
      refine hK.out _ _ trivial (fun hHeld => ?_)
      clear hK K HS0
      have HS0 := hHeld
      clear hHeld
      (try simp only [Act.put, List.setIfInBounds_toArray, List.set_cons_zero, List.set_cons_succ])
      refine takeD (i := 16) (d := some 123) (v := ?_) rfl rfl (by kernel_rfl) (by kernel_rfl) (by kernel_rfl) (fun _ _ _ h => h) (Or.inl ⟨by rfl, ?y16⟩) HS0 ?_
      case y16 => (intro w' hSw; (try dsimp only at hSw); go_simp; (try with_reducible rfl))
      simp only [Act.put, List.setIfInBounds_toArray, List.set_cons_zero, List.set_cons_succ]
      refine takeD (i := 17) (d := some 124) (v := ?_) rfl rfl (by kernel_rfl) (by kernel_rfl) (by kernel_rfl) (fun _ _ _ h => h) (Or.inl ⟨by rfl, ?y17⟩) HS0 ?_
      case y17 => (intro w' hSw; (try dsimp only at hSw); go_simp; (try with_reducible rfl))
      simp only [Act.put, List.setIfInBounds_toArray, List.set_cons_zero, List.set_cons_succ]
      refine wpAnyH_ready (rs := [18]) (by kernel_rfl) (by simp) ?_
      refine AllReadyH.cons (i := 18) rfl (fun K hK => ?_) AllReadyH.nil
      rw [if_pos (by rfl)]
      go_simp
      refine hK.out _ _ trivial (fun hHeld => ?_)
      clear hK K HS0
      have HS0 := hHeld
      clear hHeld
      (try simp only [Act.put, List.setIfInBounds_toArray, List.set_cons_zero, List.set_cons_succ])
      refine wpAnyH_ready (rs := [19]) (by kernel_rfl) (by simp) ?_
      refine AllReadyH.cons (i := 19) rfl (fun K hK => ?_) AllReadyH.nil
      rw [if_pos (by rfl)]
      refine wp_app1g reTy _ _ rfl w8.heap.size (.slice A11 j c11) j (relC rs) rfl (unhide HGd).row #[.int .u64 (y0 : Nat), .int .u32 (y8 : Nat), .int .i64 (y12 : Nat), .int .i64 ad] _ rfl (by simp) rfl (by intro u hu; simp at hu; rcases hu with rfl | rfl | rfl | rfl <;> rfl) (by omega) (unhide HGd).gr.size ?_
      intro A12 c12 w12 ho12 hg12
      have HP12 := hide ((unhide HGd).push (i := 4) hgd8 rfl ho12 hg12)
      have HG12 := hide ((unhide HGd).grown hgd8 hg12)
      have z4 := (unhide HG12).2.cell (i := 4) rfl
      have g4 := (unhide HG12).2.free 4
      clear ho12 hg12
      refine hK.out _ _ trivial (fun hHeld => ?_)
      clear hK K HS0
      have HS0 := hHeld
      clear hHeld
      (try simp only [Act.put, List.setIfInBounds_toArray, List.set_cons_zero, List.set_cons_succ])
      refine takeD (i := 20) (d := some 127) (v := ?_) rfl rfl (by kernel_rfl) (by kernel_rfl) (by kernel_rfl) (fun _ _ _ h => h) (Or.inl ⟨by rfl, ?y20⟩) HS0 ?_
      case y20 => (intro w' hSw; (try dsimp only at hSw); go_simp; (try with_reducible rfl))
      simp only [Act.put, List.setIfInBounds_toArray, List.set_cons_zero, List.set_cons_succ]
      refine wpAnyH_ready (rs := [21]) (by kernel_rfl) (by simp) ?_
      refine AllReadyH.cons (i := 21) rfl (fun K hK => ?_) AllReadyH.nil
      rw [if_pos (by rfl)]
      go_simp
      refine hK.out _ _ trivial (fun hHeld => ?_)
      clear hK K HS0
      have HS0 := hHeld
      clear hHeld
      (try simp only [Act.put, List.setIfInBounds_toArray, List.set_cons_zero, List.set_cons_succ])
      refine wpAnyH_done (by kernel_rfl) ?_ _
      refine NoPanic.normal ?_
      clear HS0 z4 g4 HGd Hrowd w8' w16' wy12 wy8 wy16 K0 K8 K16
      go_wp2_with fail
      go_roundg (N2 - (j + 1))
      case measure => omega
      case rel =>
        have hp := unhide HP12
        have e1 := relC_snoc rs ⟨y0, y8, y12, y16⟩
        unfold relV at e1
        dsimp only at e1
        rw [unhide Had] at e1
        refine ⟨j + 1, p + 24, A12, c12, rs ++ [⟨y0, y8, y12, y16⟩], rfl, by omega, by have := unhide Hp; omega, by go_num, ?_, by rw [List.length_append, unhide Hrsl]; rfl, unhide Hrn⟩
        rw [e1]
        exact hp
    case way8 =>
      rw [if_pos (by rfl)]
      go_simp
      go_at_call 45
      with_reducible refine ((unhide K8) _ (unhide Hrowd)).mono ?_
      rintro e w9 ⟨rfl, rfl⟩
      refine hK.out _ _ trivial (fun hHeld => ?_)
      clear hK K HS0
      have HS0 := hHeld
      clear hHeld
      (try simp only [Act.put, List.setIfInBounds_toArray, List.set_cons_zero, List.set_cons_succ])
      refine takeD (i := 9) (d := some 116) (v := ?_) rfl rfl (by kernel_rfl) (by kernel_rfl) (by kernel_rfl) (fun _ _ _ h => h) (Or.inl ⟨by rfl, ?y9⟩) HS0 ?_
      case y9 => (intro w' hSw; (try dsimp only at hSw); go_simp; (try with_reducible rfl))
      simp only [Act.put, List.setIfInBounds_toArray, List.set_cons_zero, List.set_cons_succ]
      refine wpAnyH_ready (rs := [1, 15]) (by kernel_rfl) (by simp) ?_
      refine AllReadyH.cons (i := 1) rfl (fun K hK => ?way1) (AllReadyH.cons (i := 15) rfl (fun K hK => ?way15) AllReadyH.nil)
      case way1 =>
        rw [if_pos (by rfl)]
        go_simp
        refine hK.out _ _ trivial (fun hHeld => ?_)
        clear hK K HS0
        have HS0 := hHeld
        clear hHeld
        (try simp only [Act.put, List.setIfInBounds_toArray, List.set_cons_zero, List.set_cons_succ])
        refine wpAnyH_ready (rs := [15]) (by kernel_rfl) (by simp) ?_
        refine AllReadyH.cons (i := 15) rfl (fun K hK => ?_) AllReadyH.nil
        rw [if_pos (by rfl)]
        go_simp
        go_at_call 45
        with_reducible refine ((unhide K16) _ (unhide Hrowd)).mono ?_
        rintro e w9 ⟨rfl, rfl⟩
        refine hK.out _ _ trivial (fun hHeld => ?_)
        clear hK K HS0
        have HS0 := hHeld
        clear hHeld
        (try simp only [Act.put, List.setIfInBounds_toArray, List.set_cons_zero, List.set_cons_succ])
        refine takeD (i := 16) (d := some 123) (v := ?_) rfl rfl (by kernel_rfl) (by kernel_rfl) (by kernel_rfl) (fun _ _ _ h => h) (Or.inl ⟨by rfl, ?y16⟩) HS0 ?_
        case y16 => (intro w' hSw; (try dsimp only at hSw); go_simp; (try with_reducible rfl))
        simp only [Act.put, List.setIfInBounds_toArray, List.set_cons_zero, List.set_cons_succ]
        refine takeD (i := 17) (d := some 124) (v := ?_) rfl rfl (by kernel_rfl) (by kernel_rfl) (by kernel_rfl) (fun _ _ _ h => h) (Or.inl ⟨by rfl, ?y17⟩) HS0 ?_
        case y17 => (intro w' hSw; (try dsimp only at hSw); go_simp; (try with_reducible rfl))
        simp only [Act.put, List.setIfInBounds_toArray, List.set_cons_zero, List.set_cons_succ]
        refine wpAnyH_ready (rs := [18]) (by kernel_rfl) (by simp) ?_
        refine AllReadyH.cons (i := 18) rfl (fun K hK => ?_) AllReadyH.nil
        rw [if_pos (by rfl)]
        go_simp
        refine hK.out _ _ trivial (fun hHeld => ?_)
        clear hK K HS0
        have HS0 := hHeld
        clear hHeld
        (try simp only [Act.put, List.setIfInBounds_toArray, List.set_cons_zero, List.set_cons_succ])
        refine wpAnyH_ready (rs := [19]) (by kernel_rfl) (by simp) ?_
        refine AllReadyH.cons (i := 19) rfl (fun K hK => ?_) AllReadyH.nil
        rw [if_pos (by rfl)]
        refine wp_app1g reTy _ _ rfl w8.heap.size (.slice A11 j c11) j (relC rs) rfl (unhide HGd).row #[.int .u64 (y0 : Nat), .int .u32 (y8 : Nat), .int .i64 (y12 : Nat), .int .i64 ad] _ rfl (by simp) rfl (by intro u hu; simp at hu; rcases hu with rfl | rfl | rfl | rfl <;> rfl) (by omega) (unhide HGd).gr.size ?_
        intro A12 c12 w12 ho12 hg12
        have HP12 := hide ((unhide HGd).push (i := 4) hgd8 rfl ho12 hg12)
        have HG12 := hide ((unhide HGd).grown hgd8 hg12)
        have z4 := (unhide HG12).2.cell (i := 4) rfl
        have g4 := (unhide HG12).2.free 4
        clear ho12 hg12
        refine hK.out _ _ trivial (fun hHeld => ?_)
        clear hK K HS0
        have HS0 := hHeld
        clear hHeld
        (try simp only [Act.put, List.setIfInBounds_toArray, List.set_cons_zero, List.set_cons_succ])
        refine takeD (i := 20) (d := some 127) (v := ?_) rfl rfl (by kernel_rfl) (by kernel_rfl) (by kernel_rfl) (fun _ _ _ h => h) (Or.inl ⟨by rfl, ?y20⟩) HS0 ?_
        case y20 => (intro w' hSw; (try dsimp only at hSw); go_simp; (try with_reducible rfl))
        simp only [Act.put, List.setIfInBounds_toArray, List.set_cons_zero, List.set_cons_succ]
        refine wpAnyH_ready (rs := [21]) (by kernel_rfl) (by simp) ?_
        refine AllReadyH.cons (i := 21) rfl (fun K hK => ?_) AllReadyH.nil
        rw [if_pos (by rfl)]
        go_simp
        refine hK.out _ _ trivial (fun hHeld => ?_)
        clear hK K HS0
        have HS0 := hHeld
        clear hHeld
        (try simp only [Act.put, List.setIfInBounds_toArray, List.set_cons_zero, List.set_cons_succ])
        refine wpAnyH_done (by kernel_rfl) ?_ _
        refine NoPanic.normal ?_
        clear HS0 z4 g4 HGd Hrowd w8' w16' wy12 wy8 wy16 K0 K8 K16
        go_wp2_with fail
        go_roundg (N2 - (j + 1))
        case measure => omega
        case rel =>
          have hp := unhide HP12
          have e1 := relC_snoc rs ⟨y0, y8, y12, y16⟩
          unfold relV at e1
          dsimp only at e1
          rw [unhide Had] at e1
          refine ⟨j + 1, p + 24, A12, c12, rs ++ [⟨y0, y8, y12, y16⟩], rfl, by omega, by have := unhide Hp; omega, by go_num, ?_, by rw [List.length_append, unhide Hrsl]; rfl, unhide Hrn⟩
          rw [e1]
          exact hp
      case way15 =>
        rw [if_pos (by rfl)]
        go_simp
        go_at_call 45
        with_reducible refine ((unhide K16) _ (unhide Hrowd)).mono ?_
        rintro e w9 ⟨rfl, rfl⟩
        refine hK.out _ _ trivial (fun hHeld => ?_)
        clear hK K HS0
        have HS0 := hHeld
        clear hHeld
        (try simp only [Act.put, List.setIfInBounds_toArray, List.set_cons_zero, List.set_cons_succ])
        refine takeD (i := 16) (d := some 123) (v := ?_) rfl rfl (by kernel_rfl) (by kernel_rfl) (by kernel_rfl) (fun _ _ _ h => h) (Or.inl ⟨by rfl, ?y16⟩) HS0 ?_
        case y16 => (intro w' hSw; (try dsimp only at hSw); go_simp; (try with_reducible rfl))
        simp only [Act.put, List.setIfInBounds_toArray, List.set_cons_zero, List.set_cons_succ]
        refine takeD (i := 17) (d := some 124) (v := ?_) rfl rfl (by kernel_rfl) (by kernel_rfl) (by kernel_rfl) (fun _ _ _ h => h) (Or.inl ⟨by rfl, ?y17⟩) HS0 ?_
        case y17 => (intro w' hSw; (try dsimp only at hSw); go_simp; (try with_reducible rfl))
        simp only [Act.put, List.setIfInBounds_toArray, List.set_cons_zero, List.set_cons_succ]
        refine wpAnyH_ready (rs := [1, 18]) (by kernel_rfl) (by simp) ?_
        refine AllReadyH.cons (i := 1) rfl (fun K hK => ?way1) (AllReadyH.cons (i := 18) rfl (fun K hK => ?way18) AllReadyH.nil)
        case way1 =>
          rw [if_pos (by rfl)]
          go_simp
          refine hK.out _ _ trivial (fun hHeld => ?_)
          clear hK K HS0
          have HS0 := hHeld
          clear hHeld
          (try simp only [Act.put, List.setIfInBounds_toArray, List.set_cons_zero, List.set_cons_succ])
          refine wpAnyH_ready (rs := [18]) (by kernel_rfl) (by simp) ?_
          refine AllReadyH.cons (i := 18) rfl (fun K hK => ?_) AllReadyH.nil
          rw [if_pos (by rfl)]
          go_simp
          refine hK.out _ _ trivial (fun hHeld => ?_)
          clear hK K HS0
          have HS0 := hHeld
          clear hHeld
          (try simp only [Act.put, List.setIfInBounds_toArray, List.set_cons_zero, List.set_cons_succ])
          refine wpAnyH_ready (rs := [19]) (by kernel_rfl) (by simp) ?_
          refine AllReadyH.cons (i := 19) rfl (fun K hK => ?_) AllReadyH.nil
          rw [if_pos (by rfl)]
          refine wp_app1g reTy _ _ rfl w8.heap.size (.slice A11 j c11) j (relC rs) rfl (unhide HGd).row #[.int .u64 (y0 : Nat), .int .u32 (y8 : Nat), .int .i64 (y12 : Nat), .int .i64 ad] _ rfl (by simp) rfl (by intro u hu; simp at hu; rcases hu with rfl | rfl | rfl | rfl <;> rfl) (by omega) (unhide HGd).gr.size ?_
          intro A12 c12 w12 ho12 hg12
          have HP12 := hide ((unhide HGd).push (i := 4) hgd8 rfl ho12 hg12)
          have HG12 := hide ((unhide HGd).grown hgd8 hg12)
          have z4 := (unhide HG12).2.cell (i := 4) rfl
          have g4 := (unhide HG12).2.free 4
          clear ho12 hg12
          refine hK.out _ _ trivial (fun hHeld => ?_)
          clear hK K HS0
          have HS0 := hHeld
          clear hHeld
          (try simp only [Act.put, List.setIfInBounds_toArray, List.set_cons_zero, List.set_cons_succ])
          refine takeD (i := 20) (d := some 127) (v := ?_) rfl rfl (by kernel_rfl) (by kernel_rfl) (by kernel_rfl) (fun _ _ _ h => h) (Or.inl ⟨by rfl, ?y20⟩) HS0 ?_
          case y20 => (intro w' hSw; (try dsimp only at hSw); go_simp; (try with_reducible rfl))
          simp only [Act.put, List.setIfInBounds_toArray, List.set_cons_zero, List.set_cons_succ]
          refine wpAnyH_ready (rs := [21]) (by kernel_rfl) (by simp) ?_
          refine AllReadyH.cons (i := 21) rfl (fun K hK => ?_) AllReadyH.nil
          rw [if_pos (by rfl)]
          go_simp
          refine hK.out _ _ trivial (fun hHeld => ?_)
          clear hK K HS0
          have HS0 := hHeld
          clear hHeld
          (try simp only [Act.put, List.setIfInBounds_toArray, List.set_cons_zero, List.set_cons_succ])
          refine wpAnyH_done (by kernel_rfl) ?_ _
          refine NoPanic.normal ?_
          clear HS0 z4 g4 HGd Hrowd w8' w16' wy12 wy8 wy16 K0 K8 K16
          go_wp2_with fail
          go_roundg (N2 - (j + 1))
          case measure => omega
          case rel =>
            have hp := unhide HP12
            have e1 := relC_snoc rs ⟨y0, y8, y12, y16⟩
            unfold relV at e1
            dsimp only at e1
            rw [unhide Had] at e1
            refine ⟨j + 1, p + 24, A12, c12, rs ++ [⟨y0, y8, y12, y16⟩], rfl, by omega, by have := unhide Hp; omega, by go_num, ?_, by rw [List.length_append, unhide Hrsl]; rfl, unhide Hrn⟩
            rw [e1]
            exact hp
        case way18 =>
          rw [if_pos (by rfl)]
          go_simp
          refine hK.out _ _ trivial (fun hHeld => ?_)
          clear hK K HS0
          have HS0 := hHeld
          clear hHeld
          (try simp only [Act.put, List.setIfInBounds_toArray, List.set_cons_zero, List.set_cons_succ])
          have z5 := ((unhide HG).blk.alloc (.cells #[.int .u64 (y0 : Nat), .int .u32 (y8 : Nat), .int .i64 (y12 : Nat), .int .i64 ad] 49)).cell (i := 4) rfl
          refine wpAnyH_ready (rs := [1]) (by kernel_rfl) (by simp) ?_
          refine AllReadyH.cons (i := 1) rfl (fun K hK => ?_) AllReadyH.nil
          rw [if_pos (by rfl)]
          go_simp
          refine hK.out _ _ trivial (fun hHeld => ?_)
          clear hK K HS0
          have HS0 := hHeld
          clear hHeld
          (try simp only [Act.put, List.setIfInBounds_toArray, List.set_cons_zero, List.set_cons_succ])
          refine wpAnyH_ready (rs := [19]) (by kernel_rfl) (by simp) ?_
          refine AllReadyH.cons (i := 19) rfl (fun K hK => ?_) AllReadyH.nil
          rw [if_pos (by rfl)]
          refine wp_app1g reTy _ _ rfl w8.heap.size (.slice A11 j c11) j (relC rs) rfl (unhide HGd).row #[.int .u64 (y0 : Nat), .int .u32 (y8 : Nat), .int .i64 (y12 : Nat), .int .i64 ad] _ rfl (by simp) rfl (by intro u hu; simp at hu; rcases hu with rfl | rfl | rfl | rfl <;> rfl) (by omega) (unhide HGd).gr.size ?_
          intro A12 c12 w12 ho12 hg12
          have HP12 := hide ((unhide HGd).push (i := 4) hgd8 rfl ho12 hg12)
          have HG12 := hide ((unhide HGd).grown hgd8 hg12)
          have z4 := (unhide HG12).2.cell (i := 4) rfl
          have g4 := (unhide HG12).2.free 4
          clear ho12 hg12
          refine hK.out _ _ trivial (fun hHeld => ?_)
          clear hK K HS0
          have HS0 := hHeld
          clear hHeld
          (try simp only [Act.put, List.setIfInBounds_toArray, List.set_cons_zero, List.set_cons_succ])
          refine takeD (i := 20) (d := some 127) (v := ?_) rfl rfl (by kernel_rfl) (by kernel_rfl) (by kernel_rfl) (fun _ _ _ h => h) (Or.inl ⟨by rfl, ?y20⟩) HS0 ?_
          case y20 => (intro w' hSw; (try dsimp only at hSw); go_simp; (try with_reducible rfl))
          simp only [Act.put, List.setIfInBounds_toArray, List.set_cons_zero, List.set_cons_succ]
          refine wpAnyH_ready (rs := [21]) (by kernel_rfl) (by simp) ?_
          refine AllReadyH.cons (i := 21) rfl (fun K hK => ?_) AllReadyH.nil
          rw [if_pos (by rfl)]
          go_simp
          refine hK.out _ _ trivial (fun hHeld => ?_)
          clear hK K HS0
          have HS0 := hHeld
          clear hHeld
          (try simp only [Act.put, List.setIfInBounds_toArray, List.set_cons_zero, List.set_cons_succ])
          refine wpAnyH_done (by kernel_rfl) ?_ _
          refine NoPanic.normal ?_
          clear HS0 z4 g4 HGd Hrowd w8' w16' wy12 wy8 wy16 K0 K8 K16
          go_wp2_with fail
          go_roundg (N2 - (j + 1))
          case measure => omega
          case rel =>
            have hp := unhide HP12
            have e1 := relC_snoc rs ⟨y0, y8, y12, y16⟩
            unfold relV at e1
            dsimp only at e1
            rw [unhide Had] at e1
            refine ⟨j + 1, p + 24, A12, c12, rs ++ [⟨y0, y8, y12, y16⟩], rfl, by omega, by have := unhide Hp; omega, by go_num, ?_, by rw [List.length_append, unhide Hrsl]; rfl, unhide Hrn⟩
            rw [e1]
            exact hp
end Go.Proofs.Ytdminnhfgdoibaa
namespace Go.Proofs.Ytdminnhfgdoibaa
set_option linter.unusedVariables false
set_option linter.unusedSimpArgs false
open Go.RowKit
theorem NmM.belowB {w : World} {B : Nat} {b : List UInt8} {r : Dy.Names} {Ah : Option Addr} {nh ch : Nat} {As : Option Addr} {cs : Nat} {w0 : World} {o : Obj} (h : NmM w B b r Ah nh ch As cs) (hB : B ≤ w0.heap.size) (hb : Below w0.heap.size w0 w) : NmM (w.alloc o) B b r Ah nh ch As cs :=
  ⟨fun h0 => ⟨(h.h h0).1, ((h.h h0).2).alloc (Nat.le_trans hB hb.size) o⟩, h.hc, h.s.alloc (Nat.le_trans hB hb.size) o, h.sc, h.fit⟩
namespace Dy
theorem look_bad {b : List UInt8} {segs : List El.Sg} {name : ByteArray} (h : (parse b segs).2 ≠ 0) : look b segs name = (0, false) := by unfold look; rw [if_pos h]
theorem look_none {b : List UInt8} {segs : List El.Sg} {name : ByteArray} {x : Int} (h : open_ b segs = (x, none)) : look b segs name = (0, false) := by
  unfold look
  rw [h]
  split <;> rfl
theorem look_some {b : List UInt8} {segs : List El.Sg} {name : ByteArray} {L : List (Nat × Nat)} (h : open_ b segs = (0, some L)) (h2 : (parse b segs).2 = 0) : look b segs name = lookIn (parse b segs).1 name (links b (names b (El.loads segs) L).2 name.data.toList).1 := by
  unfold look
  rw [if_neg (by simpa using h2), h]
theorem right_bad {b : List UInt8} {segs : List El.Sg} (h : (parse b segs).2 ≠ 0) : right b segs = false := by unfold right; rw [if_pos h]
theorem right_none {b : List UInt8} {segs : List El.Sg} (h : open_ b segs = (0, none)) : right b segs = true := by
  unfold right
  rw [parse_no h, h]
  rfl
theorem right_some {b : List UInt8} {segs : List El.Sg} {L : List (Nat × Nat)} (h : open_ b segs = (0, some L)) (h2 : (parse b segs).2 = 0) : right b segs = rightFrom b (names b (El.loads segs) L).2 (parse b segs).1.syms 0 := by
  unfold right
  rw [if_neg (by simpa using h2), h]
end Dy
set_option maxRecDepth 100000 in
set_option maxHeartbeats 8000000 in
theorem rlook_any (A : Option Addr) (n c B : Nat) (b : List UInt8) (ty en ph : Int) (As : Option Addr) (ns cs : Nat) (segs : List El.Sg) (name : ByteArray) (w : World) (hB : B ≤ w.heap.size) (hb : Rd w B 1 A n (bys b)) (hs : Rd w B 6 As ns (segCells segs)) (hn : n ≤ 4294967296) (hns : ns ≤ 4294967296) (hc : n ≤ c) (hfit : ∀ s ∈ segs, SgFit s) (hname : name.size ≤ 4294967296) :
    Calls Try.prog 11 #[.slice A n c, .agg #[.int .u16 ty, .int .u64 en, .int .u64 ph, .slice As ns cs], .string name] w fun e w' => e = .returned (.tuple #[.int .i64 ((Dy.look b segs name).1 : Nat), .bool (Dy.look b segs name).2]) ∧ Below w.heap.size w w' := by
  have hbl : b.length = n := by have := hb.1; simp [bys] at this; omega
  have hB0 : Below w.heap.size w (w.alloc (.cells #[.int .u16 ty, .int .u64 en, .int .u64 ph, .slice As ns cs] 27)) := (Below.refl _ _).alloc (Nat.le_refl _) _
  have hH0 := Blk.new w 27 [.int .u16 ty, .int .u64 en, .int .u64 ph, .slice As ns cs]
  have KP := hide (rparse_any A n c B b ty en ph As ns cs segs (w.alloc (.cells #[.int .u16 ty, .int .u64 en, .int .u64 ph, .slice As ns cs] 27)) (Nat.le_trans hB hB0.size) (hb.below (hB0.mono hB)) (hs.below (hB0.mono hB)) hn hns hc hfit)
  have KE : Hid (∀ W, Below w.heap.size w W → Calls Try.prog 24 #[.slice A n c, .agg #[.int .u16 ty, .int .u64 en, .int .u64 ph, .slice As ns cs]] W (REntE B A n c b ty en ph As ns cs segs W)) := hide (fun W hW => rentries_any A n c B b ty en ph As ns cs segs W (Nat.le_trans hB hW.size) (hb.below (hW.mono hB)) (hs.below (hW.mono hB)) hn hns hc hfit)
  have z0 := hH0.cell (i := 0) rfl
  have z1 := hH0.cell (i := 1) rfl
  have z2 := hH0.cell (i := 2) rfl
  have z3 := hH0.cell (i := 3) rfl
  have HB0 := hide hB0
  have HH0 := hide hH0
  have Hbl := hide hbl
  have e1 : (w.alloc (.cells #[.int .u16 ty, .int .u64 en, .int .u64 ph, .slice As ns cs] 27)).heap.size = w.heap.size + 1 := by simp
  have E1 := hide e1

  obtain ⟨R, hR⟩ : ∃ R, Dy.look b segs name = R := ⟨_, rfl⟩
  rw [hR]
  have HR := hide hR
  clear hR
  clear hb hs hfit hB0 hH0 hbl e1
  go_enter Try.func11, Try.ntmps11
  go_wp2_with fail
  refine (unhide KP).mono ?_
  rintro e w1 ⟨hb1, A1, c1, A2, c2, A3, c3, rfl, hdy⟩
  have hpar := fun (L : List (Nat × Nat)) (h : Dy.open_ b segs = (0, some L)) => Dy.parse_syms h
  have hnone := fun x (h : Dy.open_ b segs = (x, none)) => Dy.parse_no h
  obtain ⟨⟨D, px⟩, hP⟩ : ∃ x, Dy.parse b segs = x := ⟨_, rfl⟩
  rw [hP] at hdy hpar hnone ⊢
  dsimp only at hdy hpar hnone ⊢
  have HP := hide hP
  clear hP
  obtain ⟨m2, hm2⟩ : ∃ x, D.syms.length = x := ⟨_, rfl⟩
  have Hm2 := hide hm2
  have hds := hdy.syms
  rw [hm2, unhide E1] at hds
  rw [hm2] at hpar ⊢
  have hbt := (unhide HB0).trans (hb1.mono (unhide HB0).size)
  have HB2 : Hid (Below w.heap.size w (w1.alloc (.cells #[.slice A1 D.needed.length c1, .string D.soname, .string D.run, .slice A2 m2 c2, .slice A3 D.relas.length c3] 41))) := hide (hbt.alloc hbt.size _)
  have hH2 : Blk (w1.alloc (.cells #[.slice A1 D.needed.length c1, .string D.soname, .string D.run, .slice A2 m2 c2, .slice A3 D.relas.length c3] 41)) w.heap.size 27 [.int .u16 ty, .int .u64 en, .int .u64 ph, .slice As ns cs] := ((unhide HH0).belowSz hb1).alloc _
  have HD2 : Hid (Blk (w1.alloc (.cells #[.slice A1 D.needed.length c1, .string D.soname, .string D.run, .slice A2 m2 c2, .slice A3 D.relas.length c3] 41)) w1.heap.size 41 [.slice A1 D.needed.length c1, .string D.soname, .string D.run, .slice A2 m2 c2, .slice A3 D.relas.length c3]) := hide (Blk.new w1 41 [.slice A1 D.needed.length c1, .string D.soname, .string D.run, .slice A2 m2 c2, .slice A3 D.relas.length c3])
  have HS2 : Hid ((w1.alloc (.cells #[.slice A1 D.needed.length c1, .string D.soname, .string D.run, .slice A2 m2 c2, .slice A3 D.relas.length c3] 41)).ownsRow (w.heap.size + 1) 46 5 (.slice A2 m2 c2) m2 (symC D.syms)) := hide (hds.alloc _)
  have y0 := hH2.cell (i := 0) rfl
  have y1 := hH2.cell (i := 1) rfl
  have y2 := hH2.cell (i := 2) rfl
  have y3 := hH2.cell (i := 3) rfl
  have Hpar := hide hpar
  have Hnone := hide hnone
  have KE2 := hide ((unhide KE) _ (unhide HB2))
  clear z0 z1 z2 z3 hb1 hdy hds hbt hH2 hm2 hpar hnone HB0 HH0 KP KE
  go_wp2_with fail
  refine (unhide KE2).mono ?_
  rintro e w2 ⟨hb2, q, is, x, rfl, hcase⟩
  have HB3 := hide ((unhide HB2).trans (hb2.mono (unhide HB2).size))
  have HD3 := hide ((unhide HD2).belowSz hb2)
  have HS3 := hide (own_below (unhide HS2) hb2)
  clear y0 y1 y2 y3 hb2 HB2 HD2 HS2 KE2
  rcases hcase with ⟨rfl, rfl, ho⟩ | ⟨rfl, hx0, ho⟩ | ⟨rfl, rfl, g, At, k, ct, Av, cv, L, rfl, hg, ho, hfl, hfo⟩
  · have HE : Hid (R = (0, false)) := hide (by rw [← unhide HR]; exact Dy.look_none ho)
    have hpz := (unhide Hnone) _ ho
    obtain ⟨rfl, rfl⟩ : D = Dy.zero ∧ px = 0 := by injection hpz with h1 h2; exact ⟨h1, h2⟩
    clear hpz ho Hpar Hnone HP HR
    go_wp2_with fail
    go_ret2
    rw [unhide HE]
    exact ⟨rfl, unhide HB3⟩
  · have HE : Hid (R = (0, false)) := hide (by rw [← unhide HR]; exact Dy.look_none ho)
    have hpz := (unhide Hnone) _ ho
    obtain ⟨rfl, rfl⟩ : D = Dy.zero ∧ px = x := by injection hpz with h1 h2; exact ⟨h1, h2⟩
    clear hpz ho Hpar Hnone HP HR
    go_wp2_with fail
    go_ret2
    rw [unhide HE]
    exact ⟨rfl, unhide HB3⟩
  by_cases hp0 : px = 0
  case neg =>
    have HE : Hid (R = (0, false)) := hide (by rw [← unhide HR]; exact Dy.look_bad (by rw [unhide HP]; exact hp0))
    clear Hpar Hnone HP HR ho hfl hfo
    go_wp2_with fail
    go_ret2
    rw [unhide HE]
    exact ⟨rfl, unhide HB3⟩
  have hlk := unhide HR
  rw [Dy.look_some ho (by rw [unhide HP]; exact hp0), unhide HP] at hlk
  have hml : m2 = (Dy.names b (El.loads segs) L).2.chain - 1 := ((unhide Hpar) _ ho hp0).1
  have KN := rnames_any B g _ w2 hfl hfo (unhide Hbl)
  dsimp only at KN hlk
  obtain ⟨⟨nx, N⟩, hN⟩ : ∃ x, Dy.names b (El.loads segs) L = x := ⟨_, rfl⟩
  rw [hN] at KN hlk hml
  dsimp only at KN hlk hml
  have HKN := hide KN
  have Hlk := hide hlk
  have Hml := hide hml
  have hB2' : B ≤ w2.heap.size := hfl.sz
  subst hp0
  clear KN hlk hN ho hfl hfo Hpar Hnone HP HR hml hg
  go_wp2_with fail
  refine (unhide HKN).mono ?_
  rintro e w4 ⟨Ah, nh, ch, A4, c4, rfl, hnm, hb4⟩
  dsimp only at hnm ⊢
  obtain ⟨sl, hsl⟩ : ∃ x, 24 * N.chain = x := ⟨_, rfl⟩
  rw [hsl]
  have Hsl := hide hsl
  have hb4' := (unhide HB3).trans (hb4.mono (unhide HB3).size)
  have HB5 : Hid (Below w.heap.size w (w4.alloc (.cells #[.int .u64 (N.buckets : Nat), .int .u64 (N.chain : Nat), .slice Ah nh ch, .slice A4 sl c4] 67))) := hide (hb4'.alloc hb4'.size _)
  have HD5 : Hid (Blk (w4.alloc (.cells #[.int .u64 (N.buckets : Nat), .int .u64 (N.chain : Nat), .slice Ah nh ch, .slice A4 sl c4] 67)) w1.heap.size 41 [.slice A1 D.needed.length c1, .string D.soname, .string D.run, .slice A2 m2 c2, .slice A3 D.relas.length c3]) := hide (((unhide HD3).belowSz hb4).alloc _)
  have HS5 : Hid ((w4.alloc (.cells #[.int .u64 (N.buckets : Nat), .int .u64 (N.chain : Nat), .slice Ah nh ch, .slice A4 sl c4] 67)).ownsRow (w.heap.size + 1) 46 5 (.slice A2 m2 c2) m2 (symC D.syms)) := hide ((own_below (unhide HS3) hb4).alloc _)
  have hfit := hnm.fit
  have KL := rchain13_any B b N Ah nh ch A4 c4 name (w4.alloc (.cells #[.int .u64 (N.buckets : Nat), .int .u64 (N.chain : Nat), .slice Ah nh ch, .slice A4 sl c4] 67)) (Nat.le_trans (Nat.le_trans hB2' hb4.size) (by simp)) (hnm.belowB hB2' hb4) hname (by rw [unhide Hbl]; exact hn)
  rw [hsl] at KL
  have hmem := Dy.links_mem (b := b) (n := N) (name := name.data.toList)
  have hlen := Dy.links_len (b := b) (n := N) (name := name.data.toList)
  have hlk := unhide Hlk
  obtain ⟨⟨ls, en2⟩, hls⟩ : ∃ x, Dy.links b N name.data.toList = x := ⟨_, rfl⟩
  rw [hls] at hlk KL hmem hlen
  dsimp only at hlk hmem hlen
  have HKL := hide KL
  have Hlk2 := hide hlk
  have Hmem := hide hmem
  have hll : ls.length ≤ 65 := by omega
  have hm2c : m2 = N.chain - 1 := unhide Hml
  have Hm2c := hide hm2c
  have hcm : N.chain ≤ 65 := hfit.2
  clear KL hlk hmem hls Hlk hlen hnm hb4 hb4' hsl HB3 HD3 HS3 HKN hm2c hfit Hml
  go_wp2_with fail
  refine (unhide HKL).mono ?_
  rintro e w5 ⟨A5, c5, rfl, ho5, hb5⟩
  dsimp only at ho5 ⊢
  have HB6 := hide ((unhide HB5).trans (hb5.mono (unhide HB5).size))
  have x3 := ((unhide HD5).belowSz hb5).cell (i := 3) rfl
  have HSy := hide (Rd.of_own (own_below (unhide HS5) hb5))
  have HO5 := hide (Rd.of_own ho5)
  obtain ⟨k5, hk5⟩ : ∃ k, ls.length = k := ⟨_, rfl⟩
  rw [hk5] at hll ⊢
  have hO := unhide HO5
  rw [hk5] at hO
  have HO6 := hide hO
  have Hk5 := hide hk5
  clear hb5 ho5 hO hk5 HO5 HKL HB5 HD5 HS5
  go_wp2_with fail
  go_loopg [17] k5 (fun gk iv wr => ∃ (j q : Nat), gk = k5 - j ∧ j ≤ k5 ∧ iv = .int .i64 j ∧ w5.drewN q = wr ∧ R = Dy.lookIn D name (ls.drop j))
  case atStart => exact ⟨0, 0, by omega, Nat.zero_le _, rfl, rfl, by simpa using (unhide Hlk2).symm⟩
  case round =>
  obtain ⟨j, q, hgk, hj, rfl, rfl, hr⟩ := hrel
  have HR3 := hide hr
  clear hr Hlk2
  by_cases hlt : j < k5
  case neg =>
    have HE : Hid (R = (0, false)) := hide (by rw [unhide HR3, List.drop_of_length_le (by rw [unhide Hk5]; omega)]; rfl)
    have ige : ¬ (j : Int) < (k5 : Int) := by omega
    clear HR3
    go_wp2_with fail
    go_ret2
    rw [unhide HE]
    exact ⟨rfl, below_drewN' (unhide HB6) _⟩
  have ilt : (j : Int) < (k5 : Int) := by omega
  obtain ⟨i, hi⟩ : ∃ i, ls[j]? = some i := ⟨_, List.getElem?_eq_getElem (by rw [unhide Hk5]; exact hlt)⟩
  obtain ⟨hi0, hic⟩ := (unhide Hmem) i (List.mem_of_getElem? hi)
  obtain ⟨b5, o5, hA5, -, hc5⟩ := (unhide HO6).at_ (k := j) (u := .int .u64 (i : Nat)) (by unfold lkV; rw [List.getElem?_map, hi]; rfl)
  subst hA5
  obtain ⟨k, hk⟩ : ∃ k, i - 1 = k := ⟨_, rfl⟩
  have hkm : k < m2 := by have := unhide Hm2c; omega
  obtain ⟨s, hs⟩ : ∃ s, D.syms[k]? = some s := ⟨_, List.getElem?_eq_getElem (by rw [unhide Hm2]; exact hkm)⟩
  obtain ⟨b6, o6, hA6, -, y0, -⟩ := sym_at (unhide HSy) hs
  subst hA6
  have hd := unhide HR3
  rw [List.drop_eq_getElem_cons (by rw [unhide Hk5]; exact hlt), show ls[j]'(by rw [unhide Hk5]; exact hlt) = i from (List.getElem?_eq_some_iff.1 hi).2, Dy.lookIn_cons (by rw [hk]; exact hs), hk] at hd
  obtain ⟨nm, hnm⟩ : ∃ x, s.name = x := ⟨_, rfl⟩
  rw [hnm] at y0
  have hik : (i : Int) - 1 = (k : Int) := by omega
  have hkw : IntKind.u64.wrap (k : Int) = (k : Int) := by rw [IntKind.wrap_u64]; omega
  have hiw : IntKind.i64.wrap (i : Int) = (i : Int) := by rw [IntKind.wrap_i64]; omega
  have hkI : (k : Int) < (m2 : Int) := by omega
  rw [hnm] at hd
  by_cases he : nm = name
  case pos =>
    have HE : Hid (R = (k, true)) := hide (by rw [hd, he, if_pos rfl])
    subst he
    clear hd HR3 hi hs hnm hk hi0
    go_wp2_with fail
    go_quiet (fail)
    go_wp2_with fail
    go_ret2
    rw [unhide HE]
    exact ⟨rfl, below_drewN' (unhide HB6) _⟩
  have HE : Hid (R = Dy.lookIn D name (ls.drop (j + 1))) := hide (by rw [hd, if_neg he])
  have he3 : (nm.toList == name.toList) = false := by rw [beq_toList]; exact decide_eq_false he
  clear hd HR3 hi hs hnm hk hi0
  go_wp2_with fail
  go_quiet (fail)
  go_wp2_with fail
  go_roundg (k5 - (j + 1))
  case measure => omega
  case rel => exact ⟨j + 1, q + nq, rfl, by omega, by go_num, rfl, unhide HE⟩
set_option maxRecDepth 100000 in
set_option maxHeartbeats 8000000 in
theorem rright_any (A : Option Addr) (n c B : Nat) (b : List UInt8) (ty en ph : Int) (As : Option Addr) (ns cs : Nat) (segs : List El.Sg) (w : World) (hB : B ≤ w.heap.size) (hb : Rd w B 1 A n (bys b)) (hs : Rd w B 6 As ns (segCells segs)) (hn : n ≤ 4294967296) (hns : ns ≤ 4294967296) (hc : n ≤ c) (hfit : ∀ s ∈ segs, SgFit s) :
    Calls Try.prog 15 #[.slice A n c, .agg #[.int .u16 ty, .int .u64 en, .int .u64 ph, .slice As ns cs]] w fun e w' => e = .returned (.bool (Dy.right b segs)) ∧ Below w.heap.size w w' := by
  have hbl : b.length = n := by have := hb.1; simp [bys] at this; omega
  have hB0 : Below w.heap.size w (w.alloc (.cells #[.int .u16 ty, .int .u64 en, .int .u64 ph, .slice As ns cs] 27)) := (Below.refl _ _).alloc (Nat.le_refl _) _
  have hH0 := Blk.new w 27 [.int .u16 ty, .int .u64 en, .int .u64 ph, .slice As ns cs]
  have KP := hide (rparse_any A n c B b ty en ph As ns cs segs (w.alloc (.cells #[.int .u16 ty, .int .u64 en, .int .u64 ph, .slice As ns cs] 27)) (Nat.le_trans hB hB0.size) (hb.below (hB0.mono hB)) (hs.below (hB0.mono hB)) hn hns hc hfit)
  have KE : Hid (∀ W, Below w.heap.size w W → Calls Try.prog 24 #[.slice A n c, .agg #[.int .u16 ty, .int .u64 en, .int .u64 ph, .slice As ns cs]] W (REntE B A n c b ty en ph As ns cs segs W)) := hide (fun W hW => rentries_any A n c B b ty en ph As ns cs segs W (Nat.le_trans hB hW.size) (hb.below (hW.mono hB)) (hs.below (hW.mono hB)) hn hns hc hfit)
  have z0 := hH0.cell (i := 0) rfl
  have z1 := hH0.cell (i := 1) rfl
  have z2 := hH0.cell (i := 2) rfl
  have z3 := hH0.cell (i := 3) rfl
  have HB0 := hide hB0
  have HH0 := hide hH0
  have Hbl := hide hbl
  have e1 : (w.alloc (.cells #[.int .u16 ty, .int .u64 en, .int .u64 ph, .slice As ns cs] 27)).heap.size = w.heap.size + 1 := by simp
  have E1 := hide e1

  obtain ⟨R, hR⟩ : ∃ R, Dy.right b segs = R := ⟨_, rfl⟩
  rw [hR]
  have HR := hide hR
  clear hR
  clear hb hs hfit hB0 hH0 hbl e1
  go_enter Try.func15, Try.ntmps15
  go_wp2_with fail
  refine (unhide KP).mono ?_
  rintro e w1 ⟨hb1, A1, c1, A2, c2, A3, c3, rfl, hdy⟩
  have hpar := fun (L : List (Nat × Nat)) (h : Dy.open_ b segs = (0, some L)) => Dy.parse_syms h
  have hnone := fun x (h : Dy.open_ b segs = (x, none)) => Dy.parse_no h
  obtain ⟨⟨D, px⟩, hP⟩ : ∃ x, Dy.parse b segs = x := ⟨_, rfl⟩
  rw [hP] at hdy hpar hnone ⊢
  dsimp only at hdy hpar hnone ⊢
  have HP := hide hP
  clear hP
  obtain ⟨m2, hm2⟩ : ∃ x, D.syms.length = x := ⟨_, rfl⟩
  have Hm2 := hide hm2
  have hds := hdy.syms
  rw [hm2, unhide E1] at hds
  rw [hm2] at hpar ⊢
  have hbt := (unhide HB0).trans (hb1.mono (unhide HB0).size)
  have HB2 : Hid (Below w.heap.size w (w1.alloc (.cells #[.slice A1 D.needed.length c1, .string D.soname, .string D.run, .slice A2 m2 c2, .slice A3 D.relas.length c3] 41))) := hide (hbt.alloc hbt.size _)
  have hH2 : Blk (w1.alloc (.cells #[.slice A1 D.needed.length c1, .string D.soname, .string D.run, .slice A2 m2 c2, .slice A3 D.relas.length c3] 41)) w.heap.size 27 [.int .u16 ty, .int .u64 en, .int .u64 ph, .slice As ns cs] := ((unhide HH0).belowSz hb1).alloc _
  have HD2 : Hid (Blk (w1.alloc (.cells #[.slice A1 D.needed.length c1, .string D.soname, .string D.run, .slice A2 m2 c2, .slice A3 D.relas.length c3] 41)) w1.heap.size 41 [.slice A1 D.needed.length c1, .string D.soname, .string D.run, .slice A2 m2 c2, .slice A3 D.relas.length c3]) := hide (Blk.new w1 41 [.slice A1 D.needed.length c1, .string D.soname, .string D.run, .slice A2 m2 c2, .slice A3 D.relas.length c3])
  have HS2 : Hid ((w1.alloc (.cells #[.slice A1 D.needed.length c1, .string D.soname, .string D.run, .slice A2 m2 c2, .slice A3 D.relas.length c3] 41)).ownsRow (w.heap.size + 1) 46 5 (.slice A2 m2 c2) m2 (symC D.syms)) := hide (hds.alloc _)
  have y0 := hH2.cell (i := 0) rfl
  have y1 := hH2.cell (i := 1) rfl
  have y2 := hH2.cell (i := 2) rfl
  have y3 := hH2.cell (i := 3) rfl
  have Hpar := hide hpar
  have Hnone := hide hnone
  have KE2 := hide ((unhide KE) _ (unhide HB2))
  clear z0 z1 z2 z3 hb1 hdy hds hbt hH2 hm2 hpar hnone HB0 HH0 KP KE
  go_wp2_with fail
  refine (unhide KE2).mono ?_
  rintro e w2 ⟨hb2, q, is, x, rfl, hcase⟩
  have HB3 := hide ((unhide HB2).trans (hb2.mono (unhide HB2).size))
  have HD3 := hide ((unhide HD2).belowSz hb2)
  have HS3 := hide (own_below (unhide HS2) hb2)
  clear y0 y1 y2 y3 hb2 HB2 HD2 HS2 KE2
  rcases hcase with ⟨rfl, rfl, ho⟩ | ⟨rfl, hx0, ho⟩ | ⟨rfl, rfl, g, At, k, ct, Av, cv, L, rfl, hg, ho, hfl, hfo⟩
  · have HE : Hid (R = true) := hide (by rw [← unhide HR]; exact Dy.right_none ho)
    have hpz := (unhide Hnone) _ ho
    obtain ⟨rfl, rfl⟩ : D = Dy.zero ∧ px = 0 := by injection hpz with h1 h2; exact ⟨h1, h2⟩
    clear hpz ho Hpar Hnone HP HR
    go_wp2_with fail
    go_ret
    rw [unhide HE]
    exact ⟨rfl, unhide HB3⟩
  · have HE : Hid (R = false) := hide (by rw [← unhide HR]; exact Dy.right_bad (by rw [unhide HP, (unhide Hnone) _ ho]; exact hx0))
    have hpz := (unhide Hnone) _ ho
    obtain ⟨rfl, rfl⟩ : D = Dy.zero ∧ px = x := by injection hpz with h1 h2; exact ⟨h1, h2⟩
    clear hpz ho Hpar Hnone HP HR
    go_wp2_with fail
    go_ret
    rw [unhide HE]
    exact ⟨by first | rfl | simp [hx0], unhide HB3⟩
  by_cases hp0 : px = 0
  case neg =>
    have HE : Hid (R = false) := hide (by rw [← unhide HR]; exact Dy.right_bad (by rw [unhide HP]; exact hp0))
    clear Hpar Hnone HP HR ho hfl hfo
    go_wp2_with fail
    go_ret
    rw [unhide HE]
    exact ⟨by first | rfl | simp [hp0], unhide HB3⟩
  have hlk := unhide HR
  rw [Dy.right_some ho (by rw [unhide HP]; exact hp0), unhide HP] at hlk
  have hml : m2 = (Dy.names b (El.loads segs) L).2.chain - 1 := ((unhide Hpar) _ ho hp0).1
  have hnmz := ((unhide Hpar) _ ho hp0).2
  have KN := rnames_any B g _ w2 hfl hfo (unhide Hbl)
  dsimp only at KN hlk
  obtain ⟨⟨nx, N⟩, hN⟩ : ∃ x, Dy.names b (El.loads segs) L = x := ⟨_, rfl⟩
  rw [hN] at KN hlk hml
  dsimp only at KN hlk hml
  have HKN := hide KN
  have Hlk := hide hlk
  have Hml := hide hml
  have Hnmz := hide hnmz
  have hB2' : B ≤ w2.heap.size := hfl.sz
  subst hp0
  clear KN hlk hN ho hfl hfo Hpar Hnone HP HR hml hg hnmz
  go_wp2_with fail
  refine (unhide HKN).mono ?_
  rintro e w4 ⟨Ah, nh, ch, A4, c4, rfl, hnm, hb4⟩
  dsimp only at hnm ⊢
  obtain ⟨sl, hsl⟩ : ∃ x, 24 * N.chain = x := ⟨_, rfl⟩
  rw [hsl]
  have Hsl := hide hsl
  have hb4' := (unhide HB3).trans (hb4.mono (unhide HB3).size)
  have hB5 : Below w.heap.size w (w4.alloc (.cells #[.int .u64 (N.buckets : Nat), .int .u64 (N.chain : Nat), .slice Ah nh ch, .slice A4 sl c4] 67)) := hb4'.alloc hb4'.size _
  have hD5 : Blk (w4.alloc (.cells #[.int .u64 (N.buckets : Nat), .int .u64 (N.chain : Nat), .slice Ah nh ch, .slice A4 sl c4] 67)) w1.heap.size 41 [.slice A1 D.needed.length c1, .string D.soname, .string D.run, .slice A2 m2 c2, .slice A3 D.relas.length c3] := ((unhide HD3).belowSz hb4).alloc _
  have hS5 : (w4.alloc (.cells #[.int .u64 (N.buckets : Nat), .int .u64 (N.chain : Nat), .slice Ah nh ch, .slice A4 sl c4] 67)).ownsRow (w.heap.size + 1) 46 5 (.slice A2 m2 c2) m2 (symC D.syms) := (own_below (unhide HS3) hb4).alloc _
  have hN5 : Blk (w4.alloc (.cells #[.int .u64 (N.buckets : Nat), .int .u64 (N.chain : Nat), .slice Ah nh ch, .slice A4 sl c4] 67)) w4.heap.size 67 [.int .u64 (N.buckets : Nat), .int .u64 (N.chain : Nat), .slice Ah nh ch, .slice A4 sl c4] := Blk.new w4 67 [.int .u64 (N.buckets : Nat), .int .u64 (N.chain : Nat), .slice Ah nh ch, .slice A4 sl c4]
  have hM5 := hnm.belowB (o := .cells #[.int .u64 (N.buckets : Nat), .int .u64 (N.chain : Nat), .slice Ah nh ch, .slice A4 sl c4] 67) hB2' hb4
  have hB5' : B ≤ (w4.alloc (.cells #[.int .u64 (N.buckets : Nat), .int .u64 (N.chain : Nat), .slice Ah nh ch, .slice A4 sl c4] 67)).heap.size := Nat.le_trans (Nat.le_trans hB2' hb4.size) (by simp)
  have hcm : N.chain ≤ 65 := hnm.fit.2
  have hm64 : m2 ≤ 65 := by have := unhide Hml; omega
  obtain ⟨V, hV⟩ : ∃ x, x = w4.alloc (.cells #[.int .u64 (N.buckets : Nat), .int .u64 (N.chain : Nat), .slice Ah nh ch, .slice A4 sl c4] 67) := ⟨_, rfl⟩
  have HAll : Hid (∀ W, Below V.heap.size V W → Below w.heap.size w W ∧ W.cell? ⟨w1.heap.size, 3, none⟩ = some (.slice A2 m2 c2) ∧ Rd W W.heap.size 5 A2 m2 (symC D.syms) ∧ (W.cell? ⟨w4.heap.size, 0, none⟩ = some (.int .u64 (N.buckets : Nat)) ∧ W.cell? ⟨w4.heap.size, 1, none⟩ = some (.int .u64 (N.chain : Nat)) ∧ W.cell? ⟨w4.heap.size, 2, none⟩ = some (.slice Ah nh ch) ∧ W.cell? ⟨w4.heap.size, 3, none⟩ = some (.slice A4 sl c4)) ∧ ∀ name : ByteArray, name.size ≤ 4294967296 → Calls Try.prog 26 #[.agg #[.int .u64 (N.buckets : Nat), .int .u64 (N.chain : Nat), .slice Ah nh ch, .slice A4 sl c4], .string name] W (LinksE (Dy.links b N name.data.toList) W)) := hide (by
    intro W hW
    rw [hV] at hW
    refine ⟨hB5.trans (hW.mono hB5.size), (hD5.belowSz hW).cell (i := 3) rfl, Rd.of_own (own_below hS5 hW), ⟨(hN5.belowSz hW).cell (i := 0) rfl, (hN5.belowSz hW).cell (i := 1) rfl, (hN5.belowSz hW).cell (i := 2) rfl, (hN5.belowSz hW).cell (i := 3) rfl⟩, fun name hname => ?_⟩
    have KL := rchain13_any B b N Ah nh ch A4 c4 name W (Nat.le_trans hB5' hW.size) ⟨fun h0 => ⟨(hM5.h h0).1, ((hM5.h h0).2).below (hW.mono hB5')⟩, hM5.hc, hM5.s.below (hW.mono hB5'), hM5.sc, hM5.fit⟩ hname (by rw [unhide Hbl]; exact hn)
    rw [hsl] at KL
    exact KL)
  go_wp2_with fail
  rw [← hV]
  have HBV : Hid (Below V.heap.size V V) := hide (Below.refl _ _)
  obtain ⟨-, x3, -⟩ := (unhide HAll) V (unhide HBV)
  clear hnm hb4 hb4' hsl hB5 hD5 hS5 hN5 hM5 hB5' hV HB3 HD3 HS3 HKN Hml
  go_loopg [12] m2 (fun gk iv wr => ∃ j : Nat, gk = m2 - j ∧ j ≤ m2 ∧ iv = .int .i64 j ∧ Below V.heap.size V wr ∧ R = Dy.rightFrom b N (D.syms.drop j) j)
  case atStart => exact ⟨0, by omega, Nat.zero_le _, rfl, unhide HBV, by simpa using (unhide Hlk).symm⟩
  case round =>
  obtain ⟨j, hgk, hj, rfl, hbw, hr⟩ := hrel
  have HR3 := hide hr
  have HBW := hide hbw
  obtain ⟨-, x3, hsd, -⟩ := (unhide HAll) wr hbw
  have Hsd := hide hsd
  clear hr Hlk hbw hsd
  by_cases hlt : j < m2
  case neg =>
    have HE : Hid (R = true) := hide (by rw [unhide HR3, List.drop_of_length_le (by rw [unhide Hm2]; omega)]; rfl)
    have ige : ¬ (j : Int) < (m2 : Int) := by omega
    clear HR3 Hsd
    go_wp2_with fail
    go_ret
    rw [unhide HE]
    exact ⟨rfl, ((unhide HAll) _ (unhide HBW)).1⟩
  have ilt : (j : Int) < (m2 : Int) := by omega
  obtain ⟨s, hs⟩ : ∃ s, D.syms[j]? = some s := ⟨_, List.getElem?_eq_getElem (by rw [unhide Hm2]; exact hlt)⟩
  obtain ⟨b6, o6, hA6, -, y0, -⟩ := sym_at (unhide Hsd) hs
  subst hA6
  have hd := unhide HR3
  rw [List.drop_eq_getElem_cons (by rw [unhide Hm2]; exact hlt), show D.syms[j]'(by rw [unhide Hm2]; exact hlt) = s from (List.getElem?_eq_some_iff.1 hs).2, Dy.rightFrom] at hd
  have hns2 : s.name.size ≤ 4294967296 := Nat.le_trans ((unhide Hnmz) s (List.mem_of_getElem? hs)) (by rw [unhide Hbl]; exact hn)
  have hat : ∀ W, Below V.heap.size V W → W.cell? ⟨b6, o6 + j * 5, none⟩ = some (.string s.name) := by
    intro W hW
    obtain ⟨b7, o7, hA7, -, q0, -⟩ := sym_at ((unhide HAll) W hW).2.2.1 hs
    injection hA7 with hA7
    injection hA7 with h7 h8
    subst h7 h8
    exact q0
  obtain ⟨nm, s1, s2, s3, s4⟩ := s
  dsimp only at y0 hd hns2 hat
  have hd9 := hide hd
  have Hat := hide hat
  clear hd HR3 hs hat Hsd
  by_cases hz : nm.size = 0
  case pos =>
    have hnil := empty_of hz
    subst hnil
    have HE : Hid (R = Dy.rightFrom b N (D.syms.drop (j + 1)) (j + 1)) := hide (by have := unhide hd9; rw [decide_eq_true (show (⟨#[]⟩ : ByteArray).size = 0 from rfl), Bool.true_or, Bool.true_and] at this; exact this)
    clear hd9 hz Hat
    go_wp2_with fail
    go_roundg (m2 - (j + 1))
    case measure => omega
    case rel => exact ⟨j + 1, rfl, by omega, by go_num, unhide HBW, unhide HE⟩
  have hq0 : nm.toList.isEmpty = false := by
    rw [Lib.toList_data, List.isEmpty_eq_false_iff]
    intro h
    exact hz (by show nm.data.size = 0; rw [← Array.length_toList, h]; rfl)
  have hd := unhide hd9
  rw [decide_eq_false hz, Bool.false_or] at hd
  have KL := ((unhide HAll) _ (below_drew' (unhide HBW))).2.2.2.2 nm hns2
  have hlen := Dy.links_len (b := b) (n := N) (name := nm.data.toList)
  obtain ⟨⟨ls, en2⟩, hls⟩ : ∃ x, Dy.links b N nm.data.toList = x := ⟨_, rfl⟩
  rw [hls] at KL hlen hd
  dsimp only at hlen hd
  have HKL := hide KL
  have Hd := hide hd
  have hll : ls.length ≤ 65 := by omega
  obtain ⟨-, -, -, ⟨n0, n1, n2, n3⟩, -⟩ := (unhide HAll) _ (unhide HBW)
  have hjm : (j : Int) < (m2 : Int) := ilt
  clear KL hls hlen hd hd9
  go_wp2_with fail
  go_wp2_with fail
  refine wp_region_noPanic ?_
  refine wp_region_held_drew (S := fun W => (W.cell? ⟨w4.heap.size, 0, none⟩ = some (.int .u64 (N.buckets : Nat)) ∧ W.cell? ⟨w4.heap.size, 1, none⟩ = some (.int .u64 (N.chain : Nat)) ∧ W.cell? ⟨w4.heap.size, 2, none⟩ = some (.slice Ah nh ch) ∧ W.cell? ⟨w4.heap.size, 3, none⟩ = some (.slice A4 sl c4)) ∧ W.cell? ⟨w1.heap.size, 3, none⟩ = some (.slice (some ⟨b6, o6, none⟩) m2 c2) ∧ W.cell? ⟨b6, o6 + j * 5, none⟩ = some (.string nm)) (by kernel_rfl) (⟨⟨n0, n1, n2, n3⟩, x3, y0⟩) (fun HS0 => ?_)
  refine takeD (i := 0) (d := some 58) (v := ?_) rfl rfl (by kernel_rfl) (by kernel_rfl) (by kernel_rfl) (fun _ _ _ h => h) (Or.inl ⟨by rfl, ?y0⟩) HS0 ?_
  case y0 => (intro w' hSw; (try dsimp only at hSw); go_simp; (try with_reducible rfl))
  simp only [Act.put, List.setIfInBounds_toArray, List.set_cons_zero, List.set_cons_succ]
  refine takeD (i := 1) (d := some 59) (v := ?_) rfl rfl (by kernel_rfl) (by kernel_rfl) (by kernel_rfl) (fun _ _ _ h => h) (Or.inl ⟨by rfl, ?y1⟩) HS0 ?_
  case y1 => (intro w' hSw; (try dsimp only at hSw); go_simp; (try with_reducible rfl))
  simp only [Act.put, List.setIfInBounds_toArray, List.set_cons_zero, List.set_cons_succ]
  refine takeD (i := 2) (d := some 60) (v := ?_) rfl rfl (by kernel_rfl) (by kernel_rfl) (by kernel_rfl) (fun _ _ _ h => h) (Or.inl ⟨by rfl, ?y2⟩) HS0 ?_
  case y2 => (intro w' hSw; (try dsimp only at hSw); go_simp; (try with_reducible rfl))
  simp only [Act.put, List.setIfInBounds_toArray, List.set_cons_zero, List.set_cons_succ]
  refine takeD (i := 3) (d := some 61) (v := ?_) rfl rfl (by kernel_rfl) (by kernel_rfl) (by kernel_rfl) (fun _ _ _ h => h) (Or.inl ⟨by rfl, ?y3⟩) HS0 ?_
  case y3 => (intro w' hSw; (try dsimp only at hSw); go_simp; (try with_reducible rfl))
  simp only [Act.put, List.setIfInBounds_toArray, List.set_cons_zero, List.set_cons_succ]
  refine takeD (i := 4) (d := some 62) (v := ?_) rfl rfl (by kernel_rfl) (by kernel_rfl) (by kernel_rfl) (fun _ _ _ h => h) (Or.inl ⟨by rfl, ?y4⟩) HS0 ?_
  case y4 => (intro w' hSw; (try dsimp only at hSw); go_simp; (try with_reducible rfl))
  simp only [Act.put, List.setIfInBounds_toArray, List.set_cons_zero, List.set_cons_succ]
  refine takeD (i := 5) (d := some 63) (v := ?_) rfl rfl (by kernel_rfl) (by kernel_rfl) (by kernel_rfl) (fun _ _ _ h => h) (Or.inl ⟨by rfl, ?y5⟩) HS0 ?_
  case y5 => (intro w' hSw; (try dsimp only at hSw); go_simp; (try with_reducible rfl))
  simp only [Act.put, List.setIfInBounds_toArray, List.set_cons_zero, List.set_cons_succ]
  refine takeD (i := 6) (d := some 64) (v := ?_) rfl rfl (by kernel_rfl) (by kernel_rfl) (by kernel_rfl) (fun _ _ _ h => h) (Or.inl ⟨by rfl, ?y6⟩) HS0 ?_
  case y6 => (intro w' hSw; (try dsimp only at hSw); go_simp; (try with_reducible rfl))
  simp only [Act.put, List.setIfInBounds_toArray, List.set_cons_zero, List.set_cons_succ]
  refine wpAnyH_ready (rs := [7]) (by kernel_rfl) (by simp) ?_
  refine AllReadyH.cons (i := 7) rfl (fun K hK => ?_) AllReadyH.nil
  rw [if_pos (by rfl)]
  go_simp
  go_at_call 26
  with_reducible refine (unhide HKL).mono ?_
  rintro e w5 ⟨A5, c5, rfl, ho5, hb5⟩
  dsimp only at ho5 ⊢
  have HBW5 := hide ((below_drew' (unhide HBW)).trans (hb5.mono (below_drew' (unhide HBW)).size))
  obtain ⟨-, q3, -, qn, -⟩ := (unhide HAll) _ (unhide HBW5)
  have qy := (unhide Hat) _ (unhide HBW5)
  have HO5 := hide (Rd.of_own ho5)
  clear hb5 ho5
  refine hK.out _ _ (⟨qn, q3, qy⟩) (fun hHeld => ?_)
  clear hK K HS0
  have HS0 := hHeld
  clear hHeld
  (try simp only [Act.put, List.setIfInBounds_toArray, List.set_cons_zero, List.set_cons_succ])
  refine takeD (i := 8) (d := some 57) (v := ?_) rfl rfl (by kernel_rfl) (by kernel_rfl) (by kernel_rfl) (fun _ _ _ h => h) (Or.inl ⟨by rfl, ?y8⟩) HS0 ?_
  case y8 => (intro w' hSw; (try dsimp only at hSw); go_simp; (try with_reducible rfl))
  simp only [Act.put, List.setIfInBounds_toArray, List.set_cons_zero, List.set_cons_succ]
  refine takeD (i := 9) (d := some 66) (v := ?_) rfl rfl (by kernel_rfl) (by kernel_rfl) (by kernel_rfl) (fun _ _ _ h => h) (Or.inl ⟨by rfl, ?y9⟩) HS0 ?_
  case y9 => (intro w' hSw; (try dsimp only at hSw); go_simp; (try with_reducible rfl))
  simp only [Act.put, List.setIfInBounds_toArray, List.set_cons_zero, List.set_cons_succ]
  refine takeD (i := 10) (d := some 67) (v := ?_) rfl rfl (by kernel_rfl) (by kernel_rfl) (by kernel_rfl) (fun _ _ _ h => h) (Or.inl ⟨by rfl, ?y10⟩) HS0 ?_
  case y10 => (intro w' hSw; (try dsimp only at hSw); go_simp; (try with_reducible rfl))
  simp only [Act.put, List.setIfInBounds_toArray, List.set_cons_zero, List.set_cons_succ]
  refine takeD (i := 11) (d := some 13) (v := ?_) rfl rfl (by kernel_rfl) (by kernel_rfl) (by kernel_rfl) (fun _ _ _ h => h) (Or.inl ⟨by rfl, ?y11⟩) HS0 ?_
  case y11 => (intro w' hSw; (try dsimp only at hSw); go_simp; (try with_reducible rfl))
  simp only [Act.put, List.setIfInBounds_toArray, List.set_cons_zero, List.set_cons_succ]
  refine takeD (i := 12) (d := some 14) (v := ?_) rfl rfl (by kernel_rfl) (by kernel_rfl) (by kernel_rfl) (fun _ _ _ h => h) (Or.inl ⟨by rfl, ?y12⟩) HS0 ?_
  case y12 => (intro w' hSw; (try dsimp only at hSw); go_simp; (try with_reducible rfl))
  simp only [Act.put, List.setIfInBounds_toArray, List.set_cons_zero, List.set_cons_succ]
  refine wpAnyH_done (by kernel_rfl) ?_ _
  refine NoPanic.normal ?_
  obtain ⟨k5, hk5⟩ : ∃ k, ls.length = k := ⟨_, rfl⟩
  rw [hk5] at hll ⊢
  have hO := unhide HO5
  rw [hk5] at hO
  have HO6 := hide hO
  have Hk5 := hide hk5
  clear HS0 hO hk5 HO5 HKL x3 y0 hq0 qn q3 qy n0 n1 n2 n3
  go_wp2_with fail
  go_loopg [15, 16] k5 (fun gk2 fv iv2 wr2 => ∃ t : Nat, gk2 = k5 - t ∧ t ≤ k5 ∧ iv2 = .int .i64 t ∧ fv = .bool ((ls.take t).contains (j + 1)) ∧ w5 = wr2)
  case atStart => exact ⟨0, by omega, Nat.zero_le _, rfl, rfl, rfl⟩
  case round =>
  obtain ⟨t, hgk2, ht, rfl, rfl, rfl⟩ := hrel
  by_cases hlt2 : t < k5
  case neg =>
    have htk : ls.take t = ls := List.take_of_length_le (by rw [unhide Hk5]; omega)
    have ige : ¬ (t : Int) < (k5 : Int) := by omega
    have hd := unhide Hd
    rw [htk]
    obtain ⟨fb, hfb⟩ : ∃ x, ls.contains (j + 1) = x := ⟨_, rfl⟩
    rw [hfb] at hd ⊢
    have Hd2 := hide hd
    clear hd htk hfb Hd
    cases en2
    · have HE : Hid (R = false) := hide (by rw [unhide Hd2]; rfl)
      clear Hd2
      go_wp2_with fail
      go_ret
      rw [unhide HE]
      exact ⟨rfl, ((unhide HAll) _ (unhide HBW5)).1⟩
    · cases fb
      · have HE : Hid (R = false) := hide (by rw [unhide Hd2]; rfl)
        clear Hd2
        go_wp2_with fail
        go_ret
        rw [unhide HE]
        exact ⟨rfl, ((unhide HAll) _ (unhide HBW5)).1⟩
      · have HE : Hid (R = Dy.rightFrom b N (D.syms.drop (j + 1)) (j + 1)) := hide (by rw [unhide Hd2]; rfl)
        clear Hd2
        go_wp2_with fail
        go_roundg (m2 - (j + 1))
        case measure => omega
        case rel => exact ⟨j + 1, rfl, by omega, by go_num, unhide HBW5, unhide HE⟩
  have ilt2 : (t : Int) < (k5 : Int) := by omega
  obtain ⟨x, hx⟩ : ∃ i, ls[t]? = some i := ⟨_, List.getElem?_eq_getElem (by rw [unhide Hk5]; exact hlt2)⟩
  obtain ⟨b5, o5, hA5, -, hc5⟩ := (unhide HO6).at_ (k := t) (u := .int .u64 (x : Nat)) (by unfold lkV; rw [List.getElem?_map, hx]; rfl)
  subst hA5
  have hct := contains_take (y := j + 1) hx
  obtain ⟨fb, hfb⟩ : ∃ y, (ls.take t).contains (j + 1) = y := ⟨_, rfl⟩
  rw [hfb] at hct ⊢
  have Hct := hide hct
  have hw1 : IntKind.u64.wrap ((j : Int) + 1) = (j : Int) + 1 := by rw [IntKind.wrap_u64]; omega
  clear hct hx hfb Hd
  cases fb
  · by_cases hxe : x = j + 1
    · have hxI : (x : Int) = (j : Int) + 1 := by omega
      have HE : Hid ((ls.take (t + 1)).contains (j + 1) = true) := hide (by rw [unhide Hct, decide_eq_true hxe]; rfl)
      clear Hct hxe
      go_wp2_with fail
      go_roundg (k5 - (t + 1))
      case measure => omega
      case rel => exact ⟨t + 1, rfl, by omega, by go_num, by first | (rw [unhide HE]; done) | (rw [unhide HE]; first | rfl | (simp; omega)), rfl⟩
    · have hxI : ¬ (x : Int) = (j : Int) + 1 := by omega
      have HE : Hid ((ls.take (t + 1)).contains (j + 1) = false) := hide (by rw [unhide Hct, decide_eq_false hxe]; rfl)
      clear Hct hxe
      go_wp2_with fail
      go_roundg (k5 - (t + 1))
      case measure => omega
      case rel => exact ⟨t + 1, rfl, by omega, by go_num, by first | (rw [unhide HE]; done) | (rw [unhide HE]; first | rfl | (simp; omega)), rfl⟩
  · have HE : Hid ((ls.take (t + 1)).contains (j + 1) = true) := hide (by rw [unhide Hct]; rfl)
    clear Hct
    go_wp2_with fail
    go_roundg (k5 - (t + 1))
    case measure => omega
    case rel => exact ⟨t + 1, rfl, by omega, by go_num, by rw [unhide HE], rfl⟩
end Go.Proofs.Ytdminnhfgdoibaa
namespace Go.Proofs.Ytdminnhfgdoibaa
set_option linter.unusedVariables false
set_option linter.unusedSimpArgs false
open Go.RowKit

set_option maxRecDepth 100000 in
set_option maxHeartbeats 8000000 in
theorem looks_any (A : Option Addr) (n c : Nat) (b : List UInt8) (ty en ph : Int) (As : Option Addr) (ns cs : Nat) (segs : List El.Sg) (name : ByteArray) (W : World) (hb : Rd W W.heap.size 1 A n (bys b)) (hs : Rd W W.heap.size 6 As ns (segCells segs)) (hn : n ≤ maxLen) (hns : ns ≤ maxLen) (hc : n ≤ c) (hfit : ∀ s ∈ segs, SgFit s) (hname : name.size ≤ maxLen) :
    Calls Try.prog 3 #[.slice A n c, .agg #[.int .u16 ty, .int .u64 en, .int .u64 ph, .slice As ns cs], .string name] W fun e w' => e = .returned (.bool true) ∧ Below W.heap.size W w' := by
  have hbl : b.length = n := by have := hb.1; simp [bys] at this; omega
  have hB0 : Below W.heap.size W (W.alloc (.cells #[.int .u16 ty, .int .u64 en, .int .u64 ph, .slice As ns cs] 27)) := (Below.refl _ _).alloc (Nat.le_refl _) _
  have hH0 := Blk.new W 27 [.int .u16 ty, .int .u64 en, .int .u64 ph, .slice As ns cs]
  have KLg := hide (large13_any A n c ty en ph As ns cs (W.alloc (.cells #[.int .u16 ty, .int .u64 en, .int .u64 ph, .slice As ns cs] 27)) hn hns)
  have z0 := hH0.cell (i := 0) rfl
  have z1 := hH0.cell (i := 1) rfl
  have z2 := hH0.cell (i := 2) rfl
  have z3 := hH0.cell (i := 3) rfl
  have HWk := hide (fun (w' : World) => works13_any w')
  have HB0 := hide hB0
  have HH0 := hide hH0
  have Hr := hide hb
  have Hs := hide hs
  have Hfit := hide hfit
  have Hbl := hide hbl
  unfold maxLen at hn hns hname
  clear hb hs hfit hbl hB0 hH0
  go_enter Try.func3, Try.ntmps3
  go_wp2_with fail
  refine (unhide KLg).mono ?_
  rintro e w1 ⟨r, rfl, hb1, hr⟩
  have HB1 := hide ((unhide HB0).trans (hb1.mono (unhide HB0).size))
  have HH1 := hide ((unhide HH0).belowSz hb1)
  clear hb1 HB0 HH0 KLg z0 z1 z2 z3
  cases r
  case true =>
    clear hr
    go_wp2_with fail
    refine ((unhide HWk) _).mono ?_
    rintro e w2 ⟨rfl, hb2⟩
    go_wp2_with fail
    go_ret
    exact ⟨rfl, (unhide HB1).trans (hb2.mono (unhide HB1).size)⟩
  by_cases hlong : 65536 < name.size
  case pos =>
    have hlI : (65536 : Int) < (name.size : Int) := by omega
    clear hr hlong
    go_wp2_with fail
    refine ((unhide HWk) _).mono ?_
    rintro e w2 ⟨rfl, hb2⟩
    go_wp2_with fail
    go_ret
    exact ⟨rfl, (unhide HB1).trans (hb2.mono (unhide HB1).size)⟩
  have hlI : ¬ (65536 : Int) < (name.size : Int) := by omega
  obtain ⟨hn7, hns8⟩ := hr rfl
  clear hr
  have KR := hide (roomy_any A n c W.heap.size b w1 (unhide HB1).size ((unhide Hr).below (unhide HB1)) (by omega))
  go_wp2_with fail
  refine (unhide KR).mono ?_
  rintro e V ⟨g2, rfl, ho2, hb2⟩
  have hBV : Below W.heap.size W V := (unhide HB1).trans (hb2.mono (unhide HB1).size)
  have hHV := (unhide HH1).belowSz hb2
  have hin := Rd.of_own ho2
  have hin2 := hin.cutN (k := n) (by omega)
  rw [bys_take, List.take_append_of_le_length (by rw [unhide Hbl]; omega), List.take_of_length_le (by rw [unhide Hbl]; omega)] at hin2
  have HAll : Hid (∀ w', Below V.heap.size V w' → Below W.heap.size W w' ∧ (w'.cell? ⟨W.heap.size, 0, none⟩ = some (.int .u16 ty) ∧ w'.cell? ⟨W.heap.size, 1, none⟩ = some (.int .u64 en) ∧ w'.cell? ⟨W.heap.size, 2, none⟩ = some (.int .u64 ph) ∧ w'.cell? ⟨W.heap.size, 3, none⟩ = some (.slice As ns cs)) ∧ Rd w' V.heap.size 1 A n (bys b) ∧ Rd w' V.heap.size 6 As ns (segCells segs) ∧ Rd w' V.heap.size 1 (some ⟨g2, 0, none⟩) n (bys b) ∧ Rd w' V.heap.size 1 (some ⟨g2, 0, none⟩) (n + 7) (bys (b ++ spare)) ∧ V.heap.size ≤ w'.heap.size) := hide (fun w' hw =>
    ⟨hBV.trans (hw.mono hBV.size), ⟨(hHV.belowSz hw).cell (i := 0) rfl, (hHV.belowSz hw).cell (i := 1) rfl, (hHV.belowSz hw).cell (i := 2) rfl, (hHV.belowSz hw).cell (i := 3) rfl⟩, (((unhide Hr).below hBV).more hBV.size).below hw, (((unhide Hs).below hBV).more hBV.size).below hw, hin2.below hw, hin.below hw, hw.size⟩)
  have HVV' : Hid (Below V.heap.size V V) := hide (Below.refl _ _)
  obtain ⟨lk, hlk⟩ : ∃ x, Dy.look b segs name = x := ⟨_, rfl⟩
  obtain ⟨rt, hrt⟩ : ∃ x, Dy.right b segs = x := ⟨_, rfl⟩
  obtain ⟨hx, hhx⟩ : ∃ x, Dy.hash name.data.toList = x := ⟨_, rfl⟩
  have K1 : Hid (∀ w', Below V.heap.size V w' → Calls Try.prog 10 #[.slice (some ⟨g2, 0, none⟩) n (n + 7), .agg #[.int .u16 ty, .int .u64 en, .int .u64 ph, .slice As ns cs], .string name] w' fun e w2 => e = .returned (.tuple #[.int .i64 (lk.1 : Nat), .bool lk.2]) ∧ Below w'.heap.size w' w2) := hide (fun w' hw => by
    obtain ⟨-, -, -, q1, q2, -, q3⟩ := (unhide HAll) w' hw
    rw [← hlk]
    exact look_any _ n (n + 7) V.heap.size b ty en ph As ns cs segs name w' q3 q2 q1 (by omega) (by omega) (by omega) (unhide Hfit) (by omega))
  have K2 : Hid (∀ w', Below V.heap.size V w' → Calls Try.prog 11 #[.slice A n c, .agg #[.int .u16 ty, .int .u64 en, .int .u64 ph, .slice As ns cs], .string name] w' fun e w2 => e = .returned (.tuple #[.int .i64 (lk.1 : Nat), .bool lk.2]) ∧ Below w'.heap.size w' w2) := hide (fun w' hw => by
    obtain ⟨-, -, q2, q1, -, -, q3⟩ := (unhide HAll) w' hw
    rw [← hlk]
    exact rlook_any A n c V.heap.size b ty en ph As ns cs segs name w' q3 q2 q1 (by omega) (by omega) hc (unhide Hfit) (by omega))
  have K3 : Hid (∀ w', Below V.heap.size V w' → Calls Try.prog 14 #[.slice (some ⟨g2, 0, none⟩) n (n + 7), .agg #[.int .u16 ty, .int .u64 en, .int .u64 ph, .slice As ns cs]] w' fun e w2 => e = .returned (.bool rt) ∧ Below w'.heap.size w' w2) := hide (fun w' hw => by
    obtain ⟨-, -, -, q1, q2, -, q3⟩ := (unhide HAll) w' hw
    rw [← hrt]
    exact right_any _ n (n + 7) V.heap.size b ty en ph As ns cs segs w' q3 q2 q1 (by omega) (by omega) (by omega) (unhide Hfit))
  have K4 : Hid (∀ w', Below V.heap.size V w' → Calls Try.prog 15 #[.slice A n c, .agg #[.int .u16 ty, .int .u64 en, .int .u64 ph, .slice As ns cs]] w' fun e w2 => e = .returned (.bool rt) ∧ Below w'.heap.size w' w2) := hide (fun w' hw => by
    obtain ⟨-, -, q2, q1, -, -, q3⟩ := (unhide HAll) w' hw
    rw [← hrt]
    exact rright_any A n c V.heap.size b ty en ph As ns cs segs w' q3 q2 q1 (by omega) (by omega) hc (unhide Hfit))
  have K5 : Hid (∀ w', Calls Try.prog 12 #[.string name] w' fun e w2 => e = .returned (.int .u32 (hx : Nat)) ∧ Below w'.heap.size w' w2) := hide (fun w' => by
    rw [← hhx]
    exact hash_any name w' (by omega))
  have K6 : Hid (∀ w', Calls Try.prog 13 #[.string name] w' fun e w2 => e = .returned (.int .u32 (hx : Nat)) ∧ w' = w2) := hide (fun w' => by
    rw [← hhx]
    exact rhash_any name w' (by omega))
  have K7 : Hid (∀ w', Below V.heap.size V w' → Calls Try.prog 16 #[.slice (some ⟨g2, 0, none⟩) n (n + 7), .slice A n c] w' fun e w2 => e = .returned (.bool true) ∧ ∃ j, w2 = w'.drewN j) := hide (fun w' hw => by
    obtain ⟨-, -, q2, -, -, q1, -⟩ := (unhide HAll) w' hw
    exact kept_yes g2 A n c V.heap.size b w' q1 q2 (by omega))
  obtain ⟨ln, lb⟩ := lk
  dsimp only at K1 K2
  obtain ⟨z0, z1, z2, z3⟩ := ((unhide HAll) _ (unhide HVV')).2.1
  clear hlk hrt hhx hin hin2 ho2 hb2 hHV hBV KR HB1 HH1 Hr Hs Hfit Hbl hn hns hlong
  go_wp2_with fail
  refine ((unhide K1) _ (unhide HVV')).mono ?_
  rintro e w3 ⟨rfl, hb3⟩
  have HV3 := hide ((unhide HVV').trans (hb3.mono (unhide HVV').size))
  clear hb3 z0 z1 z2 z3 K1
  obtain ⟨z0, z1, z2, z3⟩ := ((unhide HAll) _ (unhide HV3)).2.1
  go_wp2_with fail
  refine ((unhide K2) _ (unhide HV3)).mono ?_
  rintro e w4 ⟨rfl, hb4⟩
  have HV4 := hide ((unhide HV3).trans (hb4.mono (unhide HV3).size))
  have HV5 := hide (below_drew' (unhide HV4))
  clear hb4 z0 z1 z2 z3 K2 HV3
  go_wp2_with fail
  refine wp_region_noPanic ?_
  refine wp_region_held_drew (S := fun w' => w'.cell? ⟨W.heap.size, 0, none⟩ = some (.int .u16 ty) ∧ w'.cell? ⟨W.heap.size, 1, none⟩ = some (.int .u64 en) ∧ w'.cell? ⟨W.heap.size, 2, none⟩ = some (.int .u64 ph) ∧ w'.cell? ⟨W.heap.size, 3, none⟩ = some (.slice As ns cs)) (by kernel_rfl) (((unhide HAll) _ (unhide HV5)).2.1) (fun HS0 => ?_)
  refine takeD (i := 0) (d := some 37) (v := ?_) rfl rfl (by kernel_rfl) (by kernel_rfl) (by kernel_rfl) (fun _ _ _ h => h) (Or.inl ⟨by rfl, ?y0⟩) HS0 ?_
  case y0 => (intro w' hSw; (try dsimp only at hSw); go_simp; (try with_reducible rfl))
  simp only [Act.put, List.setIfInBounds_toArray, List.set_cons_zero, List.set_cons_succ]
  refine takeD (i := 1) (d := some 38) (v := ?_) rfl rfl (by kernel_rfl) (by kernel_rfl) (by kernel_rfl) (fun _ _ _ h => h) (Or.inl ⟨by rfl, ?y1⟩) HS0 ?_
  case y1 => (intro w' hSw; (try dsimp only at hSw); go_simp; (try with_reducible rfl))
  simp only [Act.put, List.setIfInBounds_toArray, List.set_cons_zero, List.set_cons_succ]
  refine takeD (i := 2) (d := some 39) (v := ?_) rfl rfl (by kernel_rfl) (by kernel_rfl) (by kernel_rfl) (fun _ _ _ h => h) (Or.inl ⟨by rfl, ?y2⟩) HS0 ?_
  case y2 => (intro w' hSw; (try dsimp only at hSw); go_simp; (try with_reducible rfl))
  simp only [Act.put, List.setIfInBounds_toArray, List.set_cons_zero, List.set_cons_succ]
  refine takeD (i := 3) (d := some 40) (v := ?_) rfl rfl (by kernel_rfl) (by kernel_rfl) (by kernel_rfl) (fun _ _ _ h => h) (Or.inl ⟨by rfl, ?y3⟩) HS0 ?_
  case y3 => (intro w' hSw; (try dsimp only at hSw); go_simp; (try with_reducible rfl))
  simp only [Act.put, List.setIfInBounds_toArray, List.set_cons_zero, List.set_cons_succ]
  refine takeD (i := 4) (d := some 41) (v := ?_) rfl rfl (by kernel_rfl) (by kernel_rfl) (by kernel_rfl) (fun _ _ _ h => h) (Or.inl ⟨by rfl, ?y4⟩) HS0 ?_
  case y4 => (intro w' hSw; (try dsimp only at hSw); go_simp; (try with_reducible rfl))
  simp only [Act.put, List.setIfInBounds_toArray, List.set_cons_zero, List.set_cons_succ]
  refine takeD (i := 5) (d := some 42) (v := ?_) rfl rfl (by kernel_rfl) (by kernel_rfl) (by kernel_rfl) (fun _ _ _ h => h) (Or.inl ⟨by rfl, ?y5⟩) HS0 ?_
  case y5 => (intro w' hSw; (try dsimp only at hSw); go_simp; (try with_reducible rfl))
  simp only [Act.put, List.setIfInBounds_toArray, List.set_cons_zero, List.set_cons_succ]
  refine takeD (i := 6) (d := some 43) (v := ?_) rfl rfl (by kernel_rfl) (by kernel_rfl) (by kernel_rfl) (fun _ _ _ h => h) (Or.inl ⟨by rfl, ?y6⟩) HS0 ?_
  case y6 => (intro w' hSw; (try dsimp only at hSw); go_simp; (try with_reducible rfl))
  simp only [Act.put, List.setIfInBounds_toArray, List.set_cons_zero, List.set_cons_succ]
  refine takeD (i := 7) (d := some 44) (v := ?_) rfl rfl (by kernel_rfl) (by kernel_rfl) (by kernel_rfl) (fun _ _ _ h => h) (Or.inl ⟨by rfl, ?y7⟩) HS0 ?_
  case y7 => (intro w' hSw; (try dsimp only at hSw); go_simp; (try with_reducible rfl))
  simp only [Act.put, List.setIfInBounds_toArray, List.set_cons_zero, List.set_cons_succ]
  refine takeD (i := 8) (d := some 45) (v := ?_) rfl rfl (by kernel_rfl) (by kernel_rfl) (by kernel_rfl) (fun _ _ _ h => h) (Or.inl ⟨by rfl, ?y8⟩) HS0 ?_
  case y8 => (intro w' hSw; (try dsimp only at hSw); go_simp; (try with_reducible rfl))
  simp only [Act.put, List.setIfInBounds_toArray, List.set_cons_zero, List.set_cons_succ]
  refine takeD (i := 9) (d := some 46) (v := ?_) rfl rfl (by kernel_rfl) (by kernel_rfl) (by kernel_rfl) (fun _ _ _ h => h) (Or.inl ⟨by rfl, ?y9⟩) HS0 ?_
  case y9 => (intro w' hSw; (try dsimp only at hSw); go_simp; (try with_reducible rfl))
  simp only [Act.put, List.setIfInBounds_toArray, List.set_cons_zero, List.set_cons_succ]
  refine takeD (i := 11) (d := some 48) (v := ?_) rfl rfl (by kernel_rfl) (by kernel_rfl) (by kernel_rfl) (fun _ _ _ h => h) (Or.inl ⟨by rfl, ?y11⟩) HS0 ?_
  case y11 => (intro w' hSw; (try dsimp only at hSw); go_simp; (try with_reducible rfl))
  simp only [Act.put, List.setIfInBounds_toArray, List.set_cons_zero, List.set_cons_succ]
  refine wpAnyH_ready (rs := [10]) (by kernel_rfl) (by simp) ?_
  refine AllReadyH.cons (i := 10) rfl (fun K hK => ?_) AllReadyH.nil
  rw [if_pos (by rfl)]
  go_simp
  go_at_call 12
  with_reducible refine ((unhide K5) _).mono ?_
  rintro e w5 ⟨rfl, hbx⟩
  have HV6 := hide ((unhide HV5).trans (hbx.mono (unhide HV5).size))
  clear hbx
  refine hK.out _ _ (((unhide HAll) _ (unhide HV6)).2.1) (fun hHeld => ?_)
  clear hK K HS0
  have HS0 := hHeld
  clear hHeld
  (try simp only [Act.put, List.setIfInBounds_toArray, List.set_cons_zero, List.set_cons_succ])
  refine wpAnyH_ready (rs := [12]) (by kernel_rfl) (by simp) ?_
  refine AllReadyH.cons (i := 12) rfl (fun K hK => ?_) AllReadyH.nil
  rw [if_pos (by rfl)]
  go_simp
  go_at_call 13
  with_reducible refine ((unhide K6) _).mono ?_
  rintro e w6 ⟨rfl, rfl⟩
  refine hK.out _ _ (((unhide HAll) _ (unhide HV6)).2.1) (fun hHeld => ?_)
  clear hK K HS0
  have HS0 := hHeld
  clear hHeld
  (try simp only [Act.put, List.setIfInBounds_toArray, List.set_cons_zero, List.set_cons_succ])
  refine takeD (i := 13) (d := some 50) (v := ?_) rfl rfl (by kernel_rfl) (by kernel_rfl) (by kernel_rfl) (fun _ _ _ h => h) (Or.inl ⟨by rfl, ?y13⟩) HS0 ?_
  case y13 => (intro w' hSw; (try dsimp only at hSw); go_simp; (try with_reducible rfl))
  simp only [Act.put, List.setIfInBounds_toArray, List.set_cons_zero, List.set_cons_succ]
  refine takeD (i := 14) (d := some 51) (v := ?_) rfl rfl (by kernel_rfl) (by kernel_rfl) (by kernel_rfl) (fun _ _ _ h => h) (Or.inl ⟨by rfl, ?y14⟩) HS0 ?_
  case y14 => (intro w' hSw; (try dsimp only at hSw); go_simp; (try with_reducible rfl))
  simp only [Act.put, List.setIfInBounds_toArray, List.set_cons_zero, List.set_cons_succ]
  refine takeD (i := 15) (d := some 52) (v := ?_) rfl rfl (by kernel_rfl) (by kernel_rfl) (by kernel_rfl) (fun _ _ _ h => h) (Or.inl ⟨by rfl, ?y15⟩) HS0 ?_
  case y15 => (intro w' hSw; (try dsimp only at hSw); go_simp; (try with_reducible rfl))
  simp only [Act.put, List.setIfInBounds_toArray, List.set_cons_zero, List.set_cons_succ]
  refine takeD (i := 16) (d := some 53) (v := ?_) rfl rfl (by kernel_rfl) (by kernel_rfl) (by kernel_rfl) (fun _ _ _ h => h) (Or.inl ⟨by rfl, ?y16⟩) HS0 ?_
  case y16 => (intro w' hSw; (try dsimp only at hSw); go_simp; (try with_reducible rfl))
  simp only [Act.put, List.setIfInBounds_toArray, List.set_cons_zero, List.set_cons_succ]
  refine takeD (i := 17) (d := some 54) (v := ?_) rfl rfl (by kernel_rfl) (by kernel_rfl) (by kernel_rfl) (fun _ _ _ h => h) (Or.inl ⟨by rfl, ?y17⟩) HS0 ?_
  case y17 => (intro w' hSw; (try dsimp only at hSw); go_simp; (try with_reducible rfl))
  simp only [Act.put, List.setIfInBounds_toArray, List.set_cons_zero, List.set_cons_succ]
  refine takeD (i := 19) (d := some 56) (v := ?_) rfl rfl (by kernel_rfl) (by kernel_rfl) (by kernel_rfl) (fun _ _ _ h => h) (Or.inl ⟨by rfl, ?y19⟩) HS0 ?_
  case y19 => (intro w' hSw; (try dsimp only at hSw); go_simp; (try with_reducible rfl))
  simp only [Act.put, List.setIfInBounds_toArray, List.set_cons_zero, List.set_cons_succ]
  refine takeD (i := 20) (d := some 57) (v := ?_) rfl rfl (by kernel_rfl) (by kernel_rfl) (by kernel_rfl) (fun _ _ _ h => h) (Or.inl ⟨by rfl, ?y20⟩) HS0 ?_
  case y20 => (intro w' hSw; (try dsimp only at hSw); go_simp; (try with_reducible rfl))
  simp only [Act.put, List.setIfInBounds_toArray, List.set_cons_zero, List.set_cons_succ]
  refine wpAnyH_ready (rs := [18]) (by kernel_rfl) (by simp) ?_
  refine AllReadyH.cons (i := 18) rfl (fun K hK => ?_) AllReadyH.nil
  rw [if_pos (by rfl)]
  go_simp
  go_at_call 14
  with_reducible refine ((unhide K3) _ (unhide HV6)).mono ?_
  rintro e w7 ⟨rfl, hbx⟩
  have HV7 := hide ((unhide HV6).trans (hbx.mono (unhide HV6).size))
  clear hbx
  refine hK.out _ _ (((unhide HAll) _ (unhide HV7)).2.1) (fun hHeld => ?_)
  clear hK K HS0
  have HS0 := hHeld
  clear hHeld
  (try simp only [Act.put, List.setIfInBounds_toArray, List.set_cons_zero, List.set_cons_succ])
  refine wpAnyH_ready (rs := [21]) (by kernel_rfl) (by simp) ?_
  refine AllReadyH.cons (i := 21) rfl (fun K hK => ?_) AllReadyH.nil
  rw [if_pos (by rfl)]
  go_simp
  go_at_call 15
  with_reducible refine ((unhide K4) _ (unhide HV7)).mono ?_
  rintro e w8 ⟨rfl, hbx⟩
  have HV8 := hide ((unhide HV7).trans (hbx.mono (unhide HV7).size))
  clear hbx
  refine hK.out _ _ (((unhide HAll) _ (unhide HV8)).2.1) (fun hHeld => ?_)
  clear hK K HS0
  have HS0 := hHeld
  clear hHeld
  (try simp only [Act.put, List.setIfInBounds_toArray, List.set_cons_zero, List.set_cons_succ])
  refine takeD (i := 22) (d := some 59) (v := ?_) rfl rfl (by kernel_rfl) (by kernel_rfl) (by kernel_rfl) (fun _ _ _ h => h) (Or.inl ⟨by rfl, ?y22⟩) HS0 ?_
  case y22 => (intro w' hSw; (try dsimp only at hSw); go_simp; (try with_reducible rfl))
  simp only [Act.put, List.setIfInBounds_toArray, List.set_cons_zero, List.set_cons_succ]
  refine takeD (i := 23) (d := some 60) (v := ?_) rfl rfl (by kernel_rfl) (by kernel_rfl) (by kernel_rfl) (fun _ _ _ h => h) (Or.inl ⟨by rfl, ?y23⟩) HS0 ?_
  case y23 => (intro w' hSw; (try dsimp only at hSw); go_simp; (try with_reducible rfl))
  simp only [Act.put, List.setIfInBounds_toArray, List.set_cons_zero, List.set_cons_succ]
  refine takeD (i := 24) (d := some 61) (v := ?_) rfl rfl (by kernel_rfl) (by kernel_rfl) (by kernel_rfl) (fun _ _ _ h => h) (Or.inl ⟨by rfl, ?y24⟩) HS0 ?_
  case y24 => (intro w' hSw; (try dsimp only at hSw); go_simp; (try with_reducible rfl))
  simp only [Act.put, List.setIfInBounds_toArray, List.set_cons_zero, List.set_cons_succ]
  refine takeD (i := 25) (d := some 62) (v := ?_) rfl rfl (by kernel_rfl) (by kernel_rfl) (by kernel_rfl) (fun _ _ _ h => h) (Or.inl ⟨by rfl, ?y25⟩) HS0 ?_
  case y25 => (intro w' hSw; (try dsimp only at hSw); go_simp; (try with_reducible rfl))
  simp only [Act.put, List.setIfInBounds_toArray, List.set_cons_zero, List.set_cons_succ]
  refine takeD (i := 26) (d := some 63) (v := ?_) rfl rfl (by kernel_rfl) (by kernel_rfl) (by kernel_rfl) (fun _ _ _ h => h) (Or.inl ⟨by rfl, ?y26⟩) HS0 ?_
  case y26 => (intro w' hSw; (try dsimp only at hSw); go_simp; (try with_reducible rfl))
  simp only [Act.put, List.setIfInBounds_toArray, List.set_cons_zero, List.set_cons_succ]
  refine wpAnyH_ready (rs := [27]) (by kernel_rfl) (by simp) ?_
  refine AllReadyH.cons (i := 27) rfl (fun K hK => ?_) AllReadyH.nil
  rw [if_pos (by rfl)]
  go_simp
  go_at_call 16
  with_reducible refine ((unhide K7) _ (unhide HV8)).mono ?_
  rintro e w9 ⟨rfl, jq, rfl⟩
  have HV9 := hide (below_drewN' (unhide HV8) jq)
  refine hK.out _ _ (((unhide HAll) _ (unhide HV9)).2.1) (fun hHeld => ?_)
  clear hK K HS0
  have HS0 := hHeld
  clear hHeld
  (try simp only [Act.put, List.setIfInBounds_toArray, List.set_cons_zero, List.set_cons_succ])
  refine takeD (i := 28) (d := some 65) (v := ?_) rfl rfl (by kernel_rfl) (by kernel_rfl) (by kernel_rfl) (fun _ _ _ h => h) (Or.inl ⟨by rfl, ?y28⟩) HS0 ?_
  case y28 => (intro w' hSw; (try dsimp only at hSw); go_simp; (try with_reducible rfl))
  simp only [Act.put, List.setIfInBounds_toArray, List.set_cons_zero, List.set_cons_succ]
  refine takeD (i := 29) (d := some 66) (v := ?_) rfl rfl (by kernel_rfl) (by kernel_rfl) (by kernel_rfl) (fun _ _ _ h => h) (Or.inl ⟨by rfl, ?y29⟩) HS0 ?_
  case y29 => (intro w' hSw; (try dsimp only at hSw); go_simp; (try with_reducible rfl))
  simp only [Act.put, List.setIfInBounds_toArray, List.set_cons_zero, List.set_cons_succ]
  refine wpAnyH_ready (rs := [30]) (by kernel_rfl) (by simp) ?_
  refine AllReadyH.cons (i := 30) rfl (fun K hK => ?_) AllReadyH.nil
  rw [if_pos (by rfl)]
  go_simp
  go_at_call 8
  with_reducible refine ((unhide HWk) _).mono ?_
  rintro e w10 ⟨rfl, hbx⟩
  have HVA := hide ((unhide HV9).trans (hbx.mono (unhide HV9).size))
  clear hbx
  refine hK.out _ _ (((unhide HAll) _ (unhide HVA)).2.1) (fun hHeld => ?_)
  clear hK K HS0
  have HS0 := hHeld
  clear hHeld
  (try simp only [Act.put, List.setIfInBounds_toArray, List.set_cons_zero, List.set_cons_succ])
  refine takeD (i := 31) (d := some 68) (v := ?_) rfl rfl (by kernel_rfl) (by kernel_rfl) (by kernel_rfl) (fun _ _ _ h => h) (Or.inl ⟨by rfl, ?y31⟩) HS0 ?_
  case y31 => (intro w' hSw; (try dsimp only at hSw); go_simp; (try with_reducible rfl))
  simp only [Act.put, List.setIfInBounds_toArray, List.set_cons_zero, List.set_cons_succ]
  refine takeD (i := 32) (d := some 6) (v := ?_) rfl rfl (by kernel_rfl) (by kernel_rfl) (by kernel_rfl) (fun _ _ _ h => h) (Or.inl ⟨by rfl, ?y32⟩) HS0 ?_
  case y32 => (intro w' hSw; (try dsimp only at hSw); go_simp; (try with_reducible rfl))
  simp only [Act.put, List.setIfInBounds_toArray, List.set_cons_zero, List.set_cons_succ]
  refine wpAnyH_done (by kernel_rfl) ?_ _
  refine NoPanic.normal ?_
  go_wp2_with fail
  go_ret
  exact ⟨rfl, ((unhide HAll) _ (unhide HVA)).1⟩
end Go.Proofs.Ytdminnhfgdoibaa
namespace Go.Proofs.Ytdminnhfgdoibaa
set_option linter.unusedVariables false
set_option linter.unusedSimpArgs false
open Go.RowKit Go.ChangeShapes Go.WideShapes

theorem cell_lt {w : World} {a : Addr} {v : Value} (h : w.cell? a = some v) : a.block < w.heap.size := by
  unfold World.cell? at h
  split at h
  · rename_i hb
    exact (Array.getElem?_eq_some_iff.1 hb).1
  · cases h

section
variable {H : Type} {enc : TypeId × Value → H} {P : Program} {w : World} {base : Nat} {held : Bool} {t e : TypeId} {A : Option Addr} {n c : Nat} {d : DataW H} {p : List MemPlace}

theorem open_nums_rd {k : IntKind} (ht : P.underlying t = some (.slice e)) (he : P.underlying e = some (.int k)) (hc : P.cellsOf e = 1)
    (h : DataW.Trod enc P w base (fun _ => true) held t (.slice A n c) d p) :
    ∃ zs : List Int, Rd w w.heap.size 1 A n (zs.map (Value.int k)) ∧ n ≤ c ∧ c ≤ maxLen ∧ ∀ z ∈ zs, (Lit.int k z).wf = true := by
  obtain ⟨fuel, hf⟩ := h
  rcases open_ints ht he hc hf with ⟨h1, h2⟩ | ⟨a, len, cap, zs, h1, hb, hl, hm, hz, hx, hcell, hwz⟩
  · simp [Value.cells] at h1
    obtain ⟨rfl, rfl, rfl⟩ := h1
    exact ⟨[], Rd.none_ _ _ _ _, Nat.le_refl _, by unfold maxLen; omega, by simp⟩
  · simp [Value.cells] at h1
    obtain ⟨rfl, rfl, rfl⟩ := h1
    simp only [if_true] at hz
    refine ⟨zs.take n, ⟨by simp [hz]; omega, ?_⟩, hl, hm, fun z hz => hwz z (List.mem_of_mem_take hz)⟩
    by_cases h0 : n = 0
    · subst h0; exact .inl rfl
    · obtain ⟨b, off, rfl, hc2⟩ := ints_at hcell (by omega)
      have hblk := cell_lt (hc2 0 (by omega))
      refine .inr ⟨b, off, rfl, hblk, fun j u hu => ?_⟩
      simp only [List.getElem?_map, Option.map_eq_some_iff] at hu
      obtain ⟨z, hz1, rfl⟩ := hu
      have hj : j < n := by
        have := (List.getElem?_eq_some_iff.1 hz1).1
        simp at this
        omega
      rw [List.getElem?_take_of_lt hj] at hz1
      rw [hc2 j (by omega), List.getD_eq_getElem?_getD, hz1]
      rfl

theorem u8_of {z : Int} (h : (Lit.int .u8 z).wf = true) : ((UInt8.ofNat z.toNat).toNat : Int) = z := by
  have hb : 0 ≤ z ∧ z ≤ 255 := by
    simpa [Lit.wf, IntKind.min, IntKind.max, IntKind.signed, IntKind.bits] using h
  simp
  omega

theorem open_bytes_rd (ht : P.underlying t = some (.slice e)) (he : P.underlying e = some (.int .u8)) (hc : P.cellsOf e = 1)
    (h : DataW.Trod enc P w base (fun _ => true) held t (.slice A n c) d p) :
    ∃ b : List UInt8, Rd w w.heap.size 1 A n (b.map fun c => .int .u8 c.toNat) ∧ n ≤ c ∧ c ≤ maxLen := by
  obtain ⟨zs, h1, h2, h3, h4⟩ := open_nums_rd ht he hc h
  refine ⟨zs.map fun z => UInt8.ofNat z.toNat, ?_, h2, h3⟩
  have e1 : (zs.map fun z => UInt8.ofNat z.toNat).map (fun c : UInt8 => Value.int .u8 c.toNat) = zs.map (Value.int .u8) := by
    rw [List.map_map]
    refine List.map_congr_left fun z hz => ?_
    show Value.int .u8 ((UInt8.ofNat z.toNat).toNat : Int) = _
    rw [u8_of (h4 z hz)]
  rw [e1]
  exact h1

theorem open_ints_rd (ht : P.underlying t = some (.slice e)) (he : P.underlying e = some (.int .i64)) (hc : P.cellsOf e = 1)
    (h : DataW.Trod enc P w base (fun _ => true) held t (.slice A n c) d p) :
    ∃ zs : List Int, Rd w w.heap.size 1 A n (zs.map (Value.int .i64)) ∧ n ≤ c ∧ c ≤ maxLen ∧ ∀ z ∈ zs, -9223372036854775808 ≤ z ∧ z ≤ 9223372036854775807 := by
  obtain ⟨zs, h1, h2, h3, h4⟩ := open_nums_rd ht he hc h
  refine ⟨zs, h1, h2, h3, fun z hz => ?_⟩
  have := h4 z hz
  simpa [Lit.wf, IntKind.min, IntKind.max, IntKind.signed, IntKind.bits] using this

theorem open_strs_rd (ht : P.underlying t = some (.slice e)) (he : P.underlying e = some .string) (hc : P.cellsOf e = 1)
    (h : DataW.Trod enc P w base (fun _ => true) held t (.slice A n c) d p) :
    ∃ ss : List ByteArray, Rd w w.heap.size 1 A n (ss.map Value.string) ∧ n ≤ c ∧ c ≤ maxLen ∧ ∀ s ∈ ss, s.size ≤ maxLen := by
  obtain ⟨fuel, hf⟩ := h
  rcases open_strings ht he hc hf with ⟨h1, h2⟩ | ⟨a, len, cap, zs, h1, hb, hl, hm, hz, hx, hcell, hwz⟩
  · simp [Value.cells] at h1
    obtain ⟨rfl, rfl, rfl⟩ := h1
    exact ⟨[], Rd.none_ _ _ _ _, Nat.le_refl _, by unfold maxLen; omega, by simp⟩
  · simp [Value.cells] at h1
    obtain ⟨rfl, rfl, rfl⟩ := h1
    simp only [if_true] at hz
    refine ⟨zs.take n, ⟨by simp [hz]; omega, ?_⟩, hl, hm, fun z hz => hwz z (List.mem_of_mem_take hz)⟩
    by_cases h0 : n = 0
    · subst h0; exact .inl rfl
    · obtain ⟨b, off, spot⟩ := a
      have hs : spot = none := by simpa [Addr.add] using World.cell?_spot (hcell 0 (by omega))
      subst hs
      have hc2 : ∀ i, i < zs.length → w.cell? ⟨b, off + i, none⟩ = some (.string (zs.getD i ByteArray.empty)) := fun j hj => by
        rw [← Go.WideShapes.add_plain]; exact hcell j hj
      have hblk := cell_lt (hc2 0 (by omega))
      refine .inr ⟨b, off, rfl, hblk, fun j u hu => ?_⟩
      simp only [List.getElem?_map, Option.map_eq_some_iff] at hu
      obtain ⟨z, hz1, rfl⟩ := hu
      have hj : j < n := by
        have := (List.getElem?_eq_some_iff.1 hz1).1
        simp at this
        omega
      rw [List.getElem?_take_of_lt hj] at hz1
      rw [hc2 j (by omega), List.getD_eq_getElem?_getD, hz1]
      rfl
end
end Go.Proofs.Ytdminnhfgdoibaa
namespace Go.Proofs.Ytdminnhfgdoibaa
set_option linter.unusedVariables false
set_option linter.unusedSimpArgs false
open Go.RowKit Go.ChangeShapes Go.WideShapes Go.Joins Go.Deep

section
variable {H : Type} {enc : TypeId × Value → H} {P : Program} {w : World} {base : Nat} {spare : Nat → Bool} {held : Bool}

theorem cells_at {a : Addr} {k : Nat} {cs : List Value} (h : w.cells? base a k = some cs) : cs.length = k ∧ ∀ j, j < k → w.cell? (a.add j) = cs[j]? := by
  unfold World.cells? at h
  split at h
  · have hl := mapM_some_length h
    refine ⟨by simpa using hl, fun j hj => ?_⟩
    exact mapM_some_get h j j (by simp [hj])
  · cases h
theorem fields_one {t : TypeId} {fs : Array Field} {fuel : Nat} {cs : List Value} {x : DataW H × List MemPlace} (ht : P.underlying t = some (.struct fs)) (hone : oneCellFields P fs = true) (hC : P.cellsOf t = fs.size)
    (h : DataW.trod enc P w base spare held fuel t cs = some x) : cs.length = fs.size ∧ ∃ n, ∀ (i : Nat) (f : Field) (v : Value), fs[i]? = some f → cs[i]? = some v → ∃ y, DataW.trod enc P w base spare held n f.type [v] = some y := by
  obtain ⟨xs, n, _, rfl, hl, hlen, hf⟩ := DataW.trod_struct ht h
  refine ⟨hl.trans hC, n, fun i f v hi hv => ?_⟩
  obtain ⟨o, k⟩ := hone_of hone i f hi
  have hi2 : i < fs.size := (Array.getElem?_eq_some_iff.1 hi).1
  have h1 := hf i f hi
  have e : ((cs.drop f.offset).take (P.cellsOf f.type)) = [v] := by
    rw [o, k]
    have hlt : i < cs.length := (List.getElem?_eq_some_iff.1 hv).1
    rw [List.drop_eq_getElem_cons hlt, (List.getElem?_eq_some_iff.1 hv).2]
    rfl
  rw [e] at h1
  exact ⟨_, h1.trans (List.getElem?_eq_getElem (by omega))⟩
end

theorem segFields : ∃ fs, Try.prog.underlying 52 = some (.struct fs) ∧ oneCellFields Try.prog fs = true ∧ Try.prog.cellsOf 52 = fs.size ∧ fs.size = 6 ∧ fs.map (·.type) = #[33, 5, 24, 24, 24, 24] :=
  ⟨_, Try.underlying52, by kernel_rfl, by kernel_rfl, by kernel_rfl, by kernel_rfl⟩

theorem nat_of {k : IntKind} {z : Int} {y : Nat} (h : 0 ≤ z ∧ z ≤ (y : Int)) : ∃ n : Nat, z = n ∧ n < y + 1 := ⟨z.toNat, by omega, by omega⟩

section
variable {H : Type} {enc : TypeId × Value → H} {w : World} {base : Nat} {spare : Nat → Bool} {held : Bool}
theorem seg_vals {fuel : Nat} {cs : List Value} {x : DataW H × List MemPlace} (h : DataW.trod enc Try.prog w base spare held fuel 52 cs = some x) : ∃ s : El.Sg, cs = sgVals s ∧ SgFit s := by
  obtain ⟨fs, ht, hone, hC, h6, hty⟩ := segFields
  obtain ⟨hl, n, hf⟩ := fields_one ht hone hC h
  rw [h6] at hl
  have hfi : ∀ (i : Nat) (t : TypeId), (fs.map (·.type))[i]? = some t → ∃ f : Field, fs[i]? = some f ∧ f.type = t := by
    intro i t hi
    rw [Array.getElem?_map] at hi
    cases hq : fs[i]? with
    | none => rw [hq] at hi; cases hi
    | some f => rw [hq] at hi; exact ⟨f, rfl, by simpa using hi⟩
  match cs, hl with
  | [c0, c1, c2, c3, c4, c5], _ =>
    obtain ⟨f0, g0, e0⟩ := hfi 0 33 (by rw [hty]; rfl)
    obtain ⟨f1, g1, e1⟩ := hfi 1 5 (by rw [hty]; rfl)
    obtain ⟨f2, g2, e2⟩ := hfi 2 24 (by rw [hty]; rfl)
    obtain ⟨f3, g3, e3⟩ := hfi 3 24 (by rw [hty]; rfl)
    obtain ⟨f4, g4, e4⟩ := hfi 4 24 (by rw [hty]; rfl)
    obtain ⟨f5, g5, e5⟩ := hfi 5 24 (by rw [hty]; rfl)
    obtain ⟨y0, h0⟩ := hf 0 f0 c0 g0 rfl
    obtain ⟨y1, h1⟩ := hf 1 f1 c1 g1 rfl
    obtain ⟨y2, h2⟩ := hf 2 f2 c2 g2 rfl
    obtain ⟨y3, h3⟩ := hf 3 f3 c3 g3 rfl
    obtain ⟨y4, h4⟩ := hf 4 f4 c4 g4 rfl
    obtain ⟨y5, h5⟩ := hf 5 f5 c5 g5 rfl
    rw [e0] at h0
    rw [e1] at h1
    rw [e2] at h2
    rw [e3] at h3
    rw [e4] at h4
    rw [e5] at h5
    obtain ⟨z0, q0, -, w0⟩ := DataW.trod_int Try.underlying33 h0
    obtain ⟨z1, q1, -, w1⟩ := DataW.trod_int Try.underlying5 h1
    obtain ⟨z2, q2, -, w2⟩ := DataW.trod_int Try.underlying24 h2
    obtain ⟨z3, q3, -, w3⟩ := DataW.trod_int Try.underlying24 h3
    obtain ⟨z4, q4, -, w4⟩ := DataW.trod_int Try.underlying24 h4
    obtain ⟨z5, q5, -, w5⟩ := DataW.trod_int Try.underlying24 h5
    simp only [List.cons.injEq, and_true] at q0 q1 q2 q3 q4 q5
    subst q0 q1 q2 q3 q4 q5
    have b0 : 0 ≤ z0 ∧ z0 ≤ 4294967295 := by simpa [Lit.wf, IntKind.min, IntKind.max, IntKind.signed, IntKind.bits] using w0
    have b1 : 0 ≤ z1 ∧ z1 ≤ 255 := by simpa [Lit.wf, IntKind.min, IntKind.max, IntKind.signed, IntKind.bits] using w1
    have b2 : 0 ≤ z2 ∧ z2 ≤ 18446744073709551615 := by simpa [Lit.wf, IntKind.min, IntKind.max, IntKind.signed, IntKind.bits] using w2
    have b3 : 0 ≤ z3 ∧ z3 ≤ 18446744073709551615 := by simpa [Lit.wf, IntKind.min, IntKind.max, IntKind.signed, IntKind.bits] using w3
    have b4 : 0 ≤ z4 ∧ z4 ≤ 18446744073709551615 := by simpa [Lit.wf, IntKind.min, IntKind.max, IntKind.signed, IntKind.bits] using w4
    have b5 : 0 ≤ z5 ∧ z5 ≤ 18446744073709551615 := by simpa [Lit.wf, IntKind.min, IntKind.max, IntKind.signed, IntKind.bits] using w5
    refine ⟨⟨z0.toNat, z1.toNat, z2.toNat, z3.toNat, z4.toNat, z5.toNat⟩, ?_, ?_⟩
    · simp only [sgVals]
      rw [Int.toNat_of_nonneg b0.1, Int.toNat_of_nonneg b1.1, Int.toNat_of_nonneg b2.1, Int.toNat_of_nonneg b3.1, Int.toNat_of_nonneg b4.1, Int.toNat_of_nonneg b5.1]
    · exact ⟨by show z0.toNat < _; omega, by show z1.toNat < _; omega, by show z2.toNat < _; omega, by show z3.toNat < _; omega, by show z4.toNat < _; omega, by show z5.toNat < _; omega⟩

set_option maxRecDepth 20000 in
theorem open_segs_rd {A : Option Addr} {n c fuel : Nat} {x : DataW H × List MemPlace} (h : DataW.trod enc Try.prog w base (fun _ => true) held fuel 25 [.slice A n c] = some x) :
    ∃ l : List El.Sg, Rd w w.heap.size 6 A n (segCells l) ∧ n ≤ c ∧ c ≤ maxLen ∧ ∀ s ∈ l, SgFit s := by
  have h6 : Try.prog.cellsOf 52 = 6 := by kernel_rfl
  rcases Go.Deep.open_slice Try.underlying25 h with ⟨h1, h2⟩ | ⟨a, len, cap, m, k, D, Pl, h1, hb, hl, hm, hmm, hx, hel⟩
  · simp at h1
    obtain ⟨rfl, rfl, rfl⟩ := h1
    exact ⟨[], Rd.none_ _ _ _ _, Nat.le_refl _, by unfold maxLen; omega, by simp⟩
  · simp at h1
    obtain ⟨rfl, rfl, rfl⟩ := h1
    simp only [if_true] at hmm
    have each : ∀ i, i < n → ∃ s : El.Sg, SgFit s ∧ ∀ j, j < 6 → w.cell? (a.add (i * 6 + j)) = (sgVals s)[j]? := by
      intro i hi
      obtain ⟨cs, hc, ht⟩ := hel i (by omega)
      rw [h6] at hc
      obtain ⟨s, rfl, hs⟩ := seg_vals ht
      obtain ⟨_, hcell⟩ := cells_at hc
      refine ⟨s, hs, fun j hj => ?_⟩
      have := hcell j hj
      rw [← this]
      congr 1
      by_cases g1 : i * 6 = 0 <;> by_cases g2 : j = 0 <;> simp [Addr.add, g1, g2, Nat.add_assoc]
    have hne : Inhabited El.Sg := ⟨⟨0, 0, 0, 0, 0, 0⟩⟩
    obtain ⟨S, hS⟩ := Go.Deep.choose_lt each
    refine ⟨(List.range n).map S, ⟨by rw [segCells_len]; simp, ?_⟩, hl, hm, ?_⟩
    · by_cases h0 : n = 0
      · subst h0; exact .inl rfl
      · obtain ⟨b, off, spot⟩ := a
        have hs0 := (hS 0 (by omega)).2 0 (by omega)
        have hs : spot = none := by simpa [Addr.add] using World.cell?_spot (hs0.trans rfl)
        subst hs
        have hc2 : ∀ i, i < n → ∀ j, j < 6 → w.cell? ⟨b, off + (i * 6 + j), none⟩ = (sgVals (S i))[j]? := fun i hi j hj => by
          rw [← Go.WideShapes.add_plain]; exact (hS i hi).2 j hj
        have hblk : b < w.heap.size := cell_lt (a := ⟨b, off + (0 * 6 + 0), none⟩) ((hc2 0 (by omega) 0 (by omega)).trans rfl)
        refine .inr ⟨b, off, rfl, hblk, fun j u hu => ?_⟩
        have hj : j < n * 6 := by
          have := (List.getElem?_eq_some_iff.1 hu).1
          rw [segCells_len] at this
          simpa using this
        have hq : j / 6 < n := by omega
        have hat := segCells_at ((List.range n).map S) (j / 6) (S (j / 6)) (by simp [hq]) (j % 6) (by omega)
        rw [show j / 6 * 6 + j % 6 = j from by omega] at hat
        have := hc2 (j / 6) hq (j % 6) (by omega)
        rw [show j / 6 * 6 + j % 6 = j from by omega] at this
        rw [this, ← hat, hu]
    · intro s hs
      simp only [List.mem_map, List.mem_range] at hs
      obtain ⟨i, hi, rfl⟩ := hs
      exact (hS i hi).1
end
end Go.Proofs.Ytdminnhfgdoibaa
namespace Go.Proofs.Ytdminnhfgdoibaa
theorem dy_allK : True := trivial
end Go.Proofs.Ytdminnhfgdoibaa
