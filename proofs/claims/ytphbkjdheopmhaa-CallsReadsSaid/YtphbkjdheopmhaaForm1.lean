/- The walk of calls.Form. Conditions: as calls'. -/
import Derived.Test.YtphbkjdheopmhaaPut4
import Derived.Test.YtphbkjdheopmhaaConv
import Derived.Test.YtphbkjdheopmhaaClBack
namespace Go.Proofs.Ytphbkjdheopmhaa
set_option linter.unusedVariables false
set_option linter.unusedSimpArgs false
open Go.RowKit

theorem fld_len {q : Cl.C} (hs : Cl.Small q) (f : Nat) : (Cl.fld q f).length ≤ 10000 := by
  have htx : ∀ l : List ByteArray, (∀ x ∈ l, x.size ≤ 256) → (Cl.txts l).length ≤ 258 * l.length := by
    intro l
    induction l with
    | nil => intro _; simp [Cl.txts]
    | cons x r ih =>
      intro h
      have h1 := ih fun y hy => h y (.tail _ hy)
      have h2 := h x (.head _)
      simp only [Cl.txts, Cl.txt, List.length_append, Cl.lb_len, Cl.bl_len, List.length_cons]
      omega
  have ha := htx _ hs.a2
  have he := htx _ hs.e2
  have a1 := hs.a1
  have e1 := hs.e1
  have hp := hs.p
  have hb := hs.b
  unfold Cl.fld
  split
  · simp only [Cl.txt, List.length_append, Cl.lb_len, Cl.bl_len]; omega
  · simp only [Cl.lst, List.length_append, Cl.lb_len]; omega
  · simp only [Cl.lst, List.length_append, Cl.lb_len]; omega
  · simp only [Cl.txt, List.length_append, Cl.lb_len]; omega
  · rw [Cl.lb_len]; omega
theorem flds_len {q : Cl.C} (hs : Cl.Small q) (l : List Nat) : (Cl.flds q l).length ≤ 10000 * l.length := by
  induction l with
  | nil => simp [Cl.flds]
  | cons f r ih =>
    have := fld_len hs f
    simp only [Cl.flds, List.length_append, List.length_cons]
    omega
theorem fsN_len (k : Nat) : (Cl.fsN k).length ≤ 5 := by
  unfold Cl.fsN
  split <;> simp
theorem flds_snoc {q : Cl.C} {l : List Nat} {k f : Nat} (h : l[k]? = some f) : Cl.flds q (l.take (k + 1)) = Cl.flds q (l.take k) ++ Cl.fld q f := by
  rw [List.take_add_one, h, Cl.flds_app]
  simp [Cl.flds]
theorem txts_small {l : List ByteArray} (h1 : l.length ≤ 32) (h2 : ∀ x ∈ l, x.size ≤ 256) : (Cl.txts l).length ≤ 8256 := by
  have htx : ∀ l : List ByteArray, (∀ x ∈ l, x.size ≤ 256) → (Cl.txts l).length ≤ 258 * l.length := by
    intro l
    induction l with
    | nil => intro _; simp [Cl.txts]
    | cons x r ih =>
      intro h
      have h1 := ih fun y hy => h y (.tail _ hy)
      have h2 := h x (.head _)
      simp only [Cl.txts, Cl.txt, List.length_append, Cl.lb_len, Cl.bl_len, List.length_cons]
      omega
  have := htx l h2
  omega

theorem callForm_bad (q : Cl.C) (x y z : Sl) (B : Nat) (w : World) (hq : ClOk w B q x y z) (hB : B ≤ w.heap.size) (hf : ClFit q) (hc : Cl.check q ≠ 0) :
    Calls Try.prog 16 #[.agg (clCells q x y z)] w fun e w' => e = .returned (.tuple #[.slice none 0 0, .int .i64 (Cl.check q)]) ∧ Below w.heap.size w w' := by
  have K := hide (callCheck_any q x y z B (w.alloc (.cells (clCells q x y z) 26)) (hq.alloc hB _) (by simp; omega) hf)
  have hc2 : (Cl.check q != 0) = true := by simpa using hc
  clear hq hf hc
  generalize Cl.check q = r at *
  go_enter Try.func16, Try.ntmps16
  go_wp2_with fail
  refine (unhide K).mono ?_
  rintro e w1 ⟨rfl, hb1⟩
  have Hb1 := hide (below_new hb1)
  clear hb1 K
  go_wp2_with fail
  go_ret2
  exact ⟨rfl, unhide Hb1⟩

theorem own_one (w : World) (x : UInt8) : (w.alloc (.cells #[.int .u8 x.toNat] 5)).ownsRow w.heap.size 5 1 (.slice (some ⟨w.heap.size, 0, none⟩) 1 1) 1 (bys [x]) :=
  ⟨rfl, .inr ⟨w.heap.size, 1, _, rfl, Nat.le_refl _, heap_alloc_new _ _, Nat.le_refl _, by decide, rfl, rfl⟩⟩
theorem fs_at {k j f : Nat} (h : (Cl.fsN k)[j]? = some f) : ((fs k).map (Value.int .i64))[j]? = some (.int .i64 (f : Nat)) := by
  rw [fs_map]
  simp [h]
theorem fs_len (k : Nat) : (fs k).length = (Cl.fsN k).length := by rw [fs_map, List.length_map]

set_option maxRecDepth 100000 in
set_option maxHeartbeats 4000000 in
theorem callForm_good (q : Cl.C) (x y z : Sl) (B : Nat) (w : World) (hq : ClOk w B q x y z) (hB : B ≤ w.heap.size) (hf : ClFit q) (hc : Cl.check q = 0) :
    Calls Try.prog 16 #[.agg (clCells q x y z)] w fun e w' => ∃ A' c', e = .returned (.tuple #[.slice A' (Cl.form q).length c', .int .i64 0]) ∧ w'.ownsRow w.heap.size 5 1 (.slice A' (Cl.form q).length c') (Cl.form q).length (bys (Cl.form q)) ∧ Below w.heap.size w w' := by
  have K := callCheck_any q x y z B (w.alloc (.cells (clCells q x y z) 26)) (hq.alloc hB _) (by simp; omega) hf
  rw [hc] at K
  replace K := hide K
  have hs := Cl.check_small hc
  have hk1 := hs.k1
  have hk2 := hs.k2
  have hkb := Cl.kind_byte hs
  have Hkb := hide hkb
  have Hs := hide hs
  have Hq := hide hq
  have Hf := hide hf
  clear hq hf hc hs hkb
  go_enter Try.func16, Try.ntmps16
  go_wp2_with fail
  refine (unhide K).mono ?_
  rintro e w1 ⟨rfl, hb1⟩
  have hbx1 := newblk hb1
  have hb1' := below_new hb1
  have Hb1 := hide hb1'
  have hsz1 := lt_of_block hbx1
  obtain ⟨v0, v1, v2, v3, v4, v5, v6, v7, v8, v9⟩ := box10 hbx1
  have Hq1 := hide ((unhide Hq).below (hb1'.mono hB))
  have Hbx1 := hide hbx1
  clear hb1 hb1' hbx1 Hq K v1 v2 v3 v4 v5 v6 v7 v8 v9
  go_wp2_with fail
  have hown := own_one w1 (UInt8.ofNat q.kind)
  rw [unhide Hkb] at hown
  have hbW : Below w1.heap.size w1 (w1.alloc (.cells #[.int .u8 q.kind] 5)) := (Below.refl _ _).alloc (Nat.le_refl _) _
  have hszW : (w1.alloc (.cells #[.int .u8 q.kind] 5)).heap.size = w1.heap.size + 1 := by simp
  have v0W := (hbW.cell (p := ⟨w.heap.size, 0, none⟩) hsz1).trans v0
  generalize hgW : w1.alloc (.cells #[.int .u8 q.kind] 5) = W at *
  have hlW : w.heap.size < W.heap.size := by omega
  have HszW := hide hszW
  clear hgW v0 hszW
  have HbW := hide hbW
  have Hown := hide hown
  clear hown hbW
  go_region_held3 (fun w' => w'.cell? ⟨w.heap.size, 0, none⟩ = some (.int .u8 q.kind)) (first | exact v0W | exact hx0) (first | (go_at_call 30; refine (fields_any _).mono ?_; rintro e w2 ⟨rfl, hFM0⟩; have hFM : FM W W.heap.size 12 w2 := hFM0.of_drew ⟨_, rfl⟩; clear hFM0; have hx0 := (hFM.below.cell (p := ⟨w.heap.size, 0, none⟩) hlW).trans v0W; obtain ⟨bl, hbl1, hbl2, hbl3, hbl4⟩ := look_yes hFM hk1 hk2; have Hb2 := hide hFM.below; have HBL4 := hide hbl4; clear hbl2 hbl4 hFM))
  have hb2 := unhide Hb2
  have hszW := unhide HszW
  have hs2 := hb2.size
  have hg0 : Grew w2 w2 w1.heap.size (.slice (some ⟨w1.heap.size, 0, none⟩) 1 1) (.slice (some ⟨w1.heap.size, 0, none⟩) 1 1) 1 [UInt8.ofNat q.kind] := ⟨own_below (unhide Hown) hb2, World.grownBy.refl _ _, fun k hk => .inl hk⟩
  have Hg0 := hide hg0
  have hbx2 := (hb2.block _ (by omega)).trans (((unhide HbW).block _ hsz1).trans (unhide Hbx1))
  have Hbx2 := hide hbx2
  have Hq2 := hide (((unhide Hq1).below ((unhide HbW).mono (by omega))).below (hb2.mono (by omega)))
  have Hbw2 := hide (((unhide Hb1).trans ((unhide HbW).mono (by omega))).trans (hb2.mono (by omega)))
  clear hszW hbx2 hg0 hb2 hx0 hbl3 Hq1 Hb1 HbW Hown Hb2 Hbx1 v0W
  have hfl := fs_len q.kind
  have hfn := fsN_len q.kind
  rw [hfl]
  rw [hfl] at HBL4
  obtain ⟨n, hn⟩ : ∃ n, (Cl.fsN q.kind).length = n := ⟨_, rfl⟩
  rw [hn] at hfn HBL4 ⊢
  have Hn := hide hn
  clear hn hfl
  go_wp2_with fail
  go_loopg [5, 21] n (fun gk b i wr => ∃ (k : Nat) (Ak : Option Addr) (ck : Nat), gk = n - k ∧ k ≤ n ∧ i = .int .i64 k ∧ b = .slice Ak (1 + (Cl.flds q ((Cl.fsN q.kind).take k)).length) ck ∧ Grew w2 wr w1.heap.size (.slice (some ⟨w1.heap.size, 0, none⟩) 1 1) (.slice Ak (1 + (Cl.flds q ((Cl.fsN q.kind).take k)).length) ck) (1 + (Cl.flds q ((Cl.fsN q.kind).take k)).length) ([UInt8.ofNat q.kind] ++ Cl.flds q ((Cl.fsN q.kind).take k)))
  case atStart => exact ⟨0, some ⟨w1.heap.size, 0, none⟩, 1, by omega, by omega, rfl, by simp [Cl.flds], by simpa [Cl.flds] using unhide Hg0⟩
  case round =>
  clear Hg0
  obtain ⟨k, Ak, ck, hgk, hk, rfl, rfl, hg⟩ := hrel
  have hszW := unhide HszW
  have Hgk := hide hgk
  have Hg := hide hg
  have hbg : Below B w2 wr := hg.below (by omega) (fun j hj => by simp [Value.ownBlock] at hj; omega)
  have hbg2 : Below w1.heap.size w2 wr := hg.below (by omega) (fun j hj => by simp [Value.ownBlock] at hj; omega)
  have Hq3 := hide ((unhide Hq2).below hbg)
  have Hbw3 := hide ((unhide Hbw2).trans (hbg2.mono (by omega)))
  have hbx3 := hg.blk (g := w.heap.size) (by omega) (by simp [Value.ownBlock]; omega) (unhide Hbx2)
  obtain ⟨v0, v1, v2, v3, v4, v5, v6, v7, v8, v9⟩ := box10 hbx3
  have hszr := hg.kept.size
  have hfk := flds_len (unhide Hs) ((Cl.fsN q.kind).take k)
  have htk : ((Cl.fsN q.kind).take k).length ≤ k := by simp; omega
  have hsmall : (Cl.flds q ((Cl.fsN q.kind).take k)).length ≤ 50000 := by omega
  clear hgk hbg hbg2 hfk htk hbx3
  rcases Nat.lt_or_ge k n with hlt | hge
  case inr =>
    obtain rfl : k = n := by omega
    have e : (Cl.fsN q.kind).take k = Cl.fsN q.kind := List.take_of_length_le (by have := unhide Hn; omega)
    have ef : (Cl.form q).length = 1 + (Cl.flds q (Cl.fsN q.kind)).length := by simp [Cl.form]; omega
    have eg : Cl.form q = [UInt8.ofNat q.kind] ++ Cl.flds q (Cl.fsN q.kind) := rfl
    rw [e] at hg ⊢
    have Ho := hide (own_base hg.own (show w.heap.size ≤ w1.heap.size by omega))
    have Hef := hide ef
    have Heg := hide eg
    clear e hg Hg ef eg v0 v1 v2 v3 v4 v5 v6 v7 v8 v9 hsmall hszW
    go_wp2
    go_ret2
    rw [unhide Hef]
    refine ⟨Ak, ck, rfl, ?_, unhide Hbw3⟩
    rw [unhide Heg]
    exact unhide Ho
  obtain ⟨f, hfk⟩ : ∃ f, (Cl.fsN q.kind)[k]? = some f := ⟨_, List.getElem?_eq_getElem (by rw [unhide Hn]; exact hlt)⟩
  have hf9 : f < 9 := (Cl.fsN_ok q.kind).1 f (List.mem_of_getElem? hfk)
  have hc0 : wr.cell? ⟨bl, k, none⟩ = some (.int .i64 (f : Nat)) := by
    obtain ⟨b1, o1, he, hb1, hc1⟩ := (unhide HBL4).at_ (fs_at hfk)
    obtain ⟨rfl, rfl⟩ : bl = b1 ∧ 0 = o1 := by injection he with he; injection he with h1 h2 h3; exact ⟨h1, h2⟩
    rw [Nat.zero_add] at hc1
    exact (World.cell?_of_block (w := w2) (a := ⟨bl, k, none⟩) (hg.kept.block bl hb1 (by simp [Value.ownBlock]; omega))).trans hc1
  have hsn := flds_snoc (q := q) hfk
  have Hsn := hide hsn
  have Hfd := hide (fld_len (unhide Hs) f)
  clear hg hfk hsn
  have hown := (unhide Hg).own
  generalize hL : (Cl.flds q ((Cl.fsN q.kind).take k)).length = L at *
  have HL := hide hL
  clear hL
  have hk9 : (k : Int) < (n : Int) := by omega
  by_cases h5 : f < 5
  · have t5 : (((f : Nat) : Int) == 5) = false := beq_eq_false_iff_ne.2 (by omega)
    have t6 : (((f : Nat) : Int) == 6) = false := beq_eq_false_iff_ne.2 (by omega)
    have t7 : (((f : Nat) : Int) == 7) = false := beq_eq_false_iff_ne.2 (by omega)
    have t8 : (((f : Nat) : Int) == 8) = false := beq_eq_false_iff_ne.2 (by omega)
    have hc2 : wr.cell? ⟨w.heap.size, f + 1, none⟩ = some (.int .u64 (Cl.num q f)) := by
      obtain rfl | rfl | rfl | rfl | rfl : f = 0 ∨ f = 1 ∨ f = 2 ∨ f = 3 ∨ f = 4 := by omega
      · exact v1
      · exact v2
      · exact v3
      · exact v4
      · exact v5
    have hnm : Cl.num q f < 18446744073709551616 := by
      have hf := unhide Hf
      obtain rfl | rfl | rfl | rfl | rfl : f = 0 ∨ f = 1 ∨ f = 2 ∨ f = 3 ∨ f = 4 := by omega
      · exact hf.a
      · exact hf.b
      · exact hf.c
      · exact hf.d
      · exact hf.e
    have hfd : Cl.fld q f = Cl.lb (Cl.num q f) 8 := by
      obtain rfl | rfl | rfl | rfl | rfl : f = 0 ∨ f = 1 ∨ f = 2 ∨ f = 3 ∨ f = 4 := by omega
      all_goals rfl
    have K1 := hide (number_any w.heap.size f wr h5)
    have K2 := hide (put_any Ak (1 + L) ck w1.heap.size 8 (Cl.num q f) _ wr hown (by omega) (by omega) hnm (by omega))
    rw [hfd] at Hsn
    clear v0 v1 v2 v3 v4 v5 v6 v7 v8 v9 hfd hown hsmall hnm h5 hszW
    generalize Cl.num q f = x at *
    go_wp2_with (go_at_call 44; refine (unhide K1).mono ?_; rintro e w3 ⟨rfl, rfl⟩)
    refine (unhide K2).mono ?_
    rintro e w3 ⟨A3, c3, rfl, hg3⟩
    have Hg3 := hide ((unhide Hg).trans hg3)
    clear hg3 K1 K2 Hg hc0 hc2 t5 t6 t7 t8
    go_wp2_with fail
    go_roundg (n - (k + 1))
    case measure => have := unhide Hgk; omega
    case rel => exact ⟨k + 1, A3, c3, rfl, by omega, by go_num, by rw [unhide Hsn, List.length_append, unhide HL, ← Nat.add_assoc], by rw [unhide Hsn, List.length_append, unhide HL, ← Nat.add_assoc, ← List.append_assoc]; exact unhide Hg3⟩
  obtain rfl | rfl | rfl | rfl : f = 5 ∨ f = 6 ∨ f = 7 ∨ f = 8 := by omega
  · have K2 := hide (putText_any Ak (1 + L) ck w1.heap.size _ q.path wr hown (by omega) (by omega) (by have := (unhide Hs).p; omega))
    clear v0 v1 v2 v3 v4 v5 v7 v8 v9 hown hsmall h5 hszW
    go_wp2_with fail
    refine (unhide K2).mono ?_
    rintro e w3 ⟨A3, c3, rfl, hg3⟩
    have Hg3 := hide ((unhide Hg).trans hg3)
    clear hg3 K2 Hg hc0 v6
    go_wp2_with fail
    go_roundg (n - (k + 1))
    case measure => have := unhide Hgk; omega
    case rel => exact ⟨k + 1, A3, c3, rfl, by omega, by go_num, by rw [unhide Hsn, List.length_append, unhide HL, ← Nat.add_assoc]; rfl, by rw [unhide Hsn, List.length_append, unhide HL, ← Nat.add_assoc, ← List.append_assoc]; exact unhide Hg3⟩
  · have hs := unhide Hs
    have h1 := hs.a1
    have h2 := (unhide Hq3).n1
    have K2 := hide (putList_any Ak (1 + L) ck w1.heap.size _ x.A x.n x.c B q.argv wr hown (by omega) (by omega) (unhide Hq3).r1 (by omega) (by omega) (fun t ht => by have := hs.a2 t ht; omega) (by have := txts_small h1 hs.a2; omega))
    clear v0 v1 v2 v3 v4 v5 v6 v8 v9 hown hsmall h5 hszW hs h1 h2
    go_wp2_with fail
    refine (unhide K2).mono ?_
    rintro e w3 ⟨A3, c3, rfl, hg3⟩
    have Hg3 := hide ((unhide Hg).trans hg3)
    clear hg3 K2 Hg hc0 v7
    go_wp2_with fail
    go_roundg (n - (k + 1))
    case measure => have := unhide Hgk; omega
    case rel => exact ⟨k + 1, A3, c3, rfl, by omega, by go_num, by rw [unhide Hsn, List.length_append, unhide HL, ← Nat.add_assoc]; rfl, by rw [unhide Hsn, List.length_append, unhide HL, ← Nat.add_assoc, ← List.append_assoc]; exact unhide Hg3⟩
  · have hs := unhide Hs
    have h1 := hs.e1
    have h2 := (unhide Hq3).n2
    have K2 := hide (putList_any Ak (1 + L) ck w1.heap.size _ y.A y.n y.c B q.env wr hown (by omega) (by omega) (unhide Hq3).r2 (by omega) (by omega) (fun t ht => by have := hs.e2 t ht; omega) (by have := txts_small h1 hs.e2; omega))
    clear v0 v1 v2 v3 v4 v5 v6 v7 v9 hown hsmall h5 hszW hs h1 h2
    go_wp2_with fail
    refine (unhide K2).mono ?_
    rintro e w3 ⟨A3, c3, rfl, hg3⟩
    have Hg3 := hide ((unhide Hg).trans hg3)
    clear hg3 K2 Hg hc0 v8
    go_wp2_with fail
    go_roundg (n - (k + 1))
    case measure => have := unhide Hgk; omega
    case rel => exact ⟨k + 1, A3, c3, rfl, by omega, by go_num, by rw [unhide Hsn, List.length_append, unhide HL, ← Nat.add_assoc]; rfl, by rw [unhide Hsn, List.length_append, unhide HL, ← Nat.add_assoc, ← List.append_assoc]; exact unhide Hg3⟩
  · have hs := unhide Hs
    have h1 := hs.b
    have K2 := hide (putText_any Ak (1 + L) ck w1.heap.size _ (Cl.ba q.bytes) wr hown (by omega) (by omega) (by rw [Cl.ba_size]; omega))
    have hcv : (convert 24 9 (.slice z.A z.n z.c)).run Try.prog wr = .ok (.string (Cl.ba q.bytes)) wr := conv_any (unhide Hq3).r3 Try.underlying24 Try.underlying5 Try.underlying9
    clear v0 v1 v2 v3 v4 v5 v6 v7 v8 hown hsmall h5 hszW hs h1
    go_wp2_with fail
    refine (unhide K2).mono ?_
    rintro e w3 ⟨A3, c3, rfl, hg3⟩
    have Hg3 := hide ((unhide Hg).trans hg3)
    clear hg3 K2 Hg hc0 v9 hcv
    go_wp2_with fail
    go_roundg (n - (k + 1))
    case measure => have := unhide Hgk; omega
    case rel => exact ⟨k + 1, A3, c3, rfl, by omega, by go_num, by rw [unhide Hsn, List.length_append, unhide HL, ← Nat.add_assoc]; rfl, by rw [unhide Hsn, List.length_append, unhide HL, ← Nat.add_assoc, ← List.append_assoc]; exact unhide Hg3⟩
end Go.Proofs.Ytphbkjdheopmhaa
