/- The walk of hostelref25.Read where there is a kind; printed by gen_rread2.py. Conditions: there are fewer than 2^32 bytes. -/
import Derived.Test.YtphbkjdheopmhaaRRead1
import Derived.Lib.ConvBytes
namespace Go.Proofs.Ytphbkjdheopmhaa
set_option linter.unusedVariables false
set_option linter.unusedSimpArgs false
open Go.RowKit

/-- A list of cells in a block from base on. -/
def Fresh (w : World) (base : Nat) (A : Option Addr) (n : Nat) (xs : List Value) : Prop := xs.length = n ∧ (xs = [] ∨ ∃ b off cs t fr, A = some ⟨b, off, none⟩ ∧ base ≤ b ∧ w.heap[b]? = some (.cells cs t fr) ∧ ∀ j u, xs[j]? = some u → cs[off + j]? = some u)
section
variable {w w' : World} {base n : Nat} {A : Option Addr} {xs : List Value}
theorem Fresh.nil (w : World) (base : Nat) : Fresh w base none 0 [] := ⟨rfl, .inl rfl⟩
theorem Fresh.of_own {e : TypeId} {c : Nat} (h : w.ownsRow base e 1 (.slice A n c) n xs) : Fresh w base A n xs := by
  refine ⟨by simpa using h.1, ?_⟩
  have hl : xs.length = n := by simpa using h.1
  rcases h.2 with ⟨h0, h1⟩ | ⟨g, cap, cur, hv, hb, hg, hnc, hcm, hsz, htk⟩
  · exact .inl (List.eq_nil_of_length_eq_zero (by omega))
  · have hA : A = some ⟨g, 0, none⟩ := by injection hv
    refine .inr ⟨g, 0, cur, e, (0, 0), hA, hb, hg, fun j u hu => ?_⟩
    rw [Nat.zero_add]
    rw [← htk, List.getElem?_take] at hu
    split at hu
    · simpa using hu
    · cases hu
theorem Fresh.rd (h : Fresh w base A n xs) : Rd w w.heap.size 1 A n xs := by
  refine ⟨by simpa using h.1, h.2.imp id ?_⟩
  rintro ⟨b, off, cs, t, fr, e, hb, hg, hc⟩
  exact ⟨b, off, e, lt_of_block hg, fun j u hu => by rw [cell_of_row w b (off + j) cs t fr hg]; exact hc j u hu⟩
theorem Fresh.keep (h : Fresh w base A n xs) (hk : ∀ b, base ≤ b → b < w.heap.size → w'.heap[b]? = w.heap[b]?) : Fresh w' base A n xs := by
  refine ⟨h.1, h.2.imp id ?_⟩
  rintro ⟨b, off, cs, t, fr, e, hb, hg, hc⟩
  exact ⟨b, off, cs, t, fr, e, hb, (hk b hb (lt_of_block hg)).trans hg, hc⟩
theorem Fresh.base_ {base' : Nat} (h : Fresh w base A n xs) (hb : base' ≤ base) : Fresh w base' A n xs := by
  refine ⟨h.1, h.2.imp id ?_⟩
  rintro ⟨b, off, cs, t, fr, e, hb2, hg, hc⟩
  exact ⟨b, off, cs, t, fr, e, by omega, hg, hc⟩
end
structure ClFr (w : World) (base : Nat) (q : Cl.C) (x y z : Sl) : Prop where
  o1 : Fresh w base x.A x.n (q.argv.map Value.string)
  o2 : Fresh w base y.A y.n (q.env.map Value.string)
  o3 : Fresh w base z.A z.n (bys q.bytes)
section
variable {w w' : World} {base g : Nat} {q : Cl.C} {x y z : Sl}
theorem ClFr.ok (h : ClFr w base q x y z) : ClOk w w.heap.size q x y z := ⟨h.o1.rd, h.o2.rd, h.o3.rd⟩
theorem ClFr.keep (h : ClFr w base q x y z) (hk : ∀ b, base ≤ b → b < w.heap.size → w'.heap[b]? = w.heap[b]?) : ClFr w' base q x y z := ⟨h.o1.keep hk, h.o2.keep hk, h.o3.keep hk⟩
theorem ClFr.grown (h : ClFr w base q x y z) (hg : w.grownBy w' (some g)) (hlt : g < base) : ClFr w' base q x y z := h.keep fun b hb hb2 => hg.block b hb2 (by simp; omega)
theorem ClFr.set {p : Addr} (h : ClFr w base q x y z) (hp : p.block < base) (u : Value) : ClFr (w.setCell p u) base q x y z := h.keep fun b hb hb2 => heap_setCell_other _ _ _ _ (by omega)
theorem ClFr.below (h : ClFr w base q x y z) (hb : Below w.heap.size w w') : ClFr w' base q x y z := h.keep fun b _ hb2 => hb.block b hb2
theorem ClFr.zero (w : World) (base k : Nat) : ClFr w base (Cl.kindC k) slN slN slN := ⟨Fresh.nil _ _, Fresh.nil _ _, Fresh.nil _ _⟩
end
theorem below_bytes (w : World) (e : TypeId) (s : ByteArray) : Below w.heap.size w (Lib.bytesWorld w e s) := ⟨rfl, rfl, rfl, by rw [Lib.bytesWorld_size]; omega, fun k hk => Lib.bytesWorld_at_old w e s k hk⟩
theorem fresh_bytes (w : World) (e : TypeId) (l : List UInt8) : Fresh (Lib.bytesWorld w e (Cl.ba l)) w.heap.size (some ⟨w.heap.size, 0, none⟩) l.length (bys l) := by
  refine ⟨by simp [bys], .inr ⟨w.heap.size, 0, _, _, _, rfl, Nat.le_refl _, Lib.bytesWorld_at_new w e (Cl.ba l), fun j u hu => ?_⟩⟩
  have hj : j < l.length := by
    have := (List.getElem?_eq_some_iff.1 hu).1
    simpa [bys] using this
  unfold Lib.bytesCells
  rw [Nat.zero_add, Array.getElem?_append_left (by simp [Cl.ba]; exact hj)]
  simpa [Cl.ba, bys] using hu
theorem rfld_path (s : Cl.C × Cl.R) (f : Nat) (h : s.1.path.size ≤ 4294967296) (hb : s.2.b.length ≤ 4294967296) : (Cl.rfld s f).1.path.size ≤ 4294967296 := by
  have t1 := (rtxt_le s.2).1
  unfold Cl.rfld
  split
  · simp only [Cl.ba_size]; omega
  all_goals exact h
theorem rflds_path (l : List Nat) (s : Cl.C × Cl.R) (h : s.1.path.size ≤ 4294967296) (hb : s.2.b.length ≤ 4294967296) : (Cl.rflds l s).1.path.size ≤ 4294967296 := by
  induction l generalizing s with
  | nil => exact h
  | cons f r ih => exact ih _ (rfld_path s f h hb) (Nat.le_trans (rfld_len s f) hb)
/-- What the reference's Read answers. -/
def ReadEndR (q : Cl.C × Nat × Int) (w : World) (e : Ending) (w' : World) : Prop := ∃ x y z, e = .returned (.tuple #[.agg (clCells q.1 x y z), .int .i64 (q.2.1 : Nat), .int .i64 q.2.2]) ∧ ClFr w' w.heap.size q.1 x y z ∧ Below w.heap.size w w'
theorem readEnd_R {q : Cl.C × Nat × Int} {w : World} {e : Ending} {w' : World} (h : ReadEnd q w e w') : ReadEndR q w e w' := by
  obtain ⟨x, y, z, h1, h2, h3⟩ := h
  exact ⟨x, y, z, h1, ⟨Fresh.of_own h2.o1, Fresh.of_own h2.o2, Fresh.of_own h2.o3⟩, h3⟩
/-- While fields are read: the answer's block, the call's block, the reader's. -/
structure RSt2 (full : List UInt8) (w w3 wr : World) (gc gr B : Nat) (st : Cl.C × Cl.R) (x y z : Sl) : Prop where
  res : Blk wr w.heap.size 26 zeroL
  call : Blk wr gc 26 (clL st.1 x y z)
  rdr : RRd full wr gr B st.2
  own : ClFr wr w3.heap.size st.1 x y z
  below : Below w.heap.size w wr
  size : w3.heap.size ≤ wr.heap.size
  g1 : w.heap.size < gc
  g2 : gc < gr
  g3 : gr < w3.heap.size
  g4 : B ≤ w.heap.size
theorem RSt2.went {full : List UInt8} {w w3 wr w4 : World} {gc gr B : Nat} {st : Cl.C × Cl.R} {x y z : Sl} {r' : Cl.R} (h : RSt2 full w w3 wr gc gr B st x y z) (hg : wr.grownBy w4 (some gr)) (hr : RRd full w4 gr B r') : RSt2 full w w3 w4 gc gr B (st.1, r') x y z := by
  have a1 := h.g1; have a2 := h.g2; have a3 := h.g3; have a4 := h.size
  exact ⟨(hg.block _ (by omega) (by simp; omega)).trans h.res, (hg.block _ (by omega) (by simp; omega)).trans h.call, hr, h.own.grown hg a3, h.below.trans (grown_some_below hg (by omega) (by omega)), Nat.le_trans h.size hg.size, a1, a2, a3, h.g4⟩
theorem RSt2.store {full : List UInt8} {w w3 wr : World} {gc gr B : Nat} {st : Cl.C × Cl.R} {x y z : Sl} (h : RSt2 full w w3 wr gc gr B st x y z) (i : Nat) (u : Value) {q' : Cl.C} {x' y' z' : Sl} (he : (clL st.1 x y z).set i u = clL q' x' y' z') (ho : ClFr wr w3.heap.size q' x' y' z') :
    RSt2 full w w3 (wr.setCell ⟨gc, i, none⟩ u) gc gr B (q', st.2) x' y' z' := by
  have a1 := h.g1; have a2 := h.g2; have a3 := h.g3; have a4 := h.size; have a5 := h.g4
  refine ⟨h.res.other (by simp; omega) u, ?_, ?_, ho.set (by show gc < _; omega) u, h.below.setCell (by show _ ≤ gc; omega) _, by simpa using h.size, a1, a2, a3, h.g4⟩
  · have := h.call.set i u
    rwa [he] at this
  · obtain ⟨ab, ao, m, c, p, q1, q2, q3, q4, q5, q6⟩ := h.rdr
    exact ⟨ab, ao, m, c, p, q1.other (by simp; omega) u, q2.setCell (by show _ ≤ gc; omega) u, q3, q4, q5, q6⟩
theorem start3 (w : World) (a b c : Array Value) : Blk (((w.alloc (.cells a 26)).alloc (.cells b 26)).alloc (.cells c 83)) w.heap.size 26 a.toList ∧ Blk (((w.alloc (.cells a 26)).alloc (.cells b 26)).alloc (.cells c 83)) (w.heap.size + 1) 26 b.toList ∧ Blk (((w.alloc (.cells a 26)).alloc (.cells b 26)).alloc (.cells c 83)) (w.heap.size + 1 + 1) 83 c.toList ∧ Below w.heap.size w (((w.alloc (.cells a 26)).alloc (.cells b 26)).alloc (.cells c 83)) := by
  obtain ⟨h1, h2, h3⟩ := copy_start w a b
  have h4 := Blk.new ((w.alloc (.cells a 26)).alloc (.cells b 26)) 83 c.toList
  rw [Array.toArray_toList] at h4
  have e2 : ((w.alloc (.cells a 26)).alloc (.cells b 26)).heap.size = w.heap.size + 1 + 1 := by simp
  rw [e2] at h4
  exact ⟨h1.alloc _, h2.alloc _, h4, h3.alloc h3.size _⟩
theorem start2 (w : World) (a b : Array Value) : Blk ((w.alloc (.cells a 26)).alloc (.cells b 26)) w.heap.size 26 a.toList ∧ Blk ((w.alloc (.cells a 26)).alloc (.cells b 26)) (w.heap.size + 1) 26 b.toList ∧ Below w.heap.size w ((w.alloc (.cells a 26)).alloc (.cells b 26)) := copy_start w a b

set_option maxRecDepth 100000 in
set_option maxHeartbeats 8000000 in
theorem rRead_good (A : Option Addr) (m c B : Nat) (k : UInt8) (l : List UInt8) (w : World) (hb : Rd w B 1 A m (bys (k :: l))) (hB : B ≤ w.heap.size) (hm : m ≤ 4294967296) (hmc : m ≤ c) (hk1 : 1 ≤ k.toNat) (hk2 : k.toNat ≤ 12) :
    Calls Try.prog 22 #[.slice A m c] w (ReadEndR (Cl.read (k :: l)) w) := by
  obtain ⟨res, hres⟩ : ∃ res, Cl.read (k :: l) = res := ⟨_, rfl⟩
  rw [hres]
  rw [read_cons k l hk1 hk2] at hres
  have Hres := hide hres
  clear hres
  have hml : m = l.length + 1 := by simpa [bys] using hb.len1.symm
  obtain ⟨ab, ao, rfl, hlt, c0⟩ := hb.at_ (k := 0) (u := .int .u8 k.toNat) (by simp [bys])
  rw [Nat.add_zero] at c0
  have hc1 := (World.cell?_alloc_lt w (.cells zeroL.toArray 26) ⟨ab, ao, none⟩ (by show ab < _; omega)).trans c0
  obtain ⟨hbr, hbc, hbel⟩ := start2 w zeroL.toArray #[.int .u8 k.toNat, .int .u64 0, .int .u64 0, .int .u64 0, .int .u64 0, .int .u64 0, .string ⟨#[]⟩, .slice none 0 0, .slice none 0 0, .slice none 0 0]
  have HBR := hide hbr
  have HBC := hide hbc
  have Hbel := hide hbel
  have hmz : ((m : Int) == 0) = false := beq_eq_false_iff_ne.2 (by omega)
  have hk1' : ¬ (((k.toNat : Nat) : Int) < 1) := by omega
  have hk2' : ¬ ((12 : Int) < ((k.toNat : Nat) : Int)) := by omega
  have Hml := hide hml
  have hm1 : 1 ≤ m := by omega
  have Hrd := hide (hb.below (hbel.mono hB))
  have Hle := hide (rflds_len (Cl.fsN k.toNat) (Cl.kindC k.toNat, ⟨l, false⟩))
  have Hfit := hide (rflds_fit (Cl.fsN k.toNat) (Cl.kindC k.toNat, ⟨l, false⟩) (kindC_fit (by omega)) (by simp only; omega))
  have K0 := hide (fun w => rfields_any k.toNat w (by omega))
  clear hb hbr hbc hbel c0 hml
  go_enter Try.func22, Try.ntmps22
  go_wp2_with fail
  refine ((unhide K0) _).mono ?_
  rintro e w3 ⟨rfl, hb3⟩
  obtain ⟨c1, c2, c3, c4⟩ := start3 w zeroL.toArray #[.int .u8 k.toNat, .int .u64 0, .int .u64 0, .int .u64 0, .int .u64 0, .int .u64 0, .string ⟨#[]⟩, .slice none 0 0, .slice none 0 0, .slice none 0 0] #[.slice (some ⟨ab, ao, none⟩) m c, .int .i64 1, .bool false]
  have hb3w := c4.trans (hb3.mono c4.size)
  have hst0 : RSt2 (k :: l) w w3 w3 (w.heap.size + 1) (w.heap.size + 1 + 1) B (Cl.kindC k.toNat, ⟨l, false⟩) slN slN slN :=
    ⟨c1.belowSz hb3, c2.belowSz hb3, ⟨ab, ao, m, c, 1, c3.belowSz hb3, ((unhide Hrd).alloc (by simp; omega) _).below (hb3.mono (by simp; omega)), rfl, hm1, hmc, hm⟩, ClFr.zero _ _ _, hb3w, Nat.le_refl _, by omega, by omega, (c3.belowSz hb3).lt, hB⟩
  have Hst0 := hide hst0
  have hgr3 := hst0.g3
  clear c1 c2 c3 c4 hb3w hst0 hb3 HBR HBC Hbel Hrd K0 hc1
  have hfl := flT_size' hk2
  have hat := fun j f h hj => flT_at (k := k.toNat) (j := j) (f := f) hk2 h hj
  have hfn := fsN_len k.toNat
  rw [← hfl] at hfn
  generalize flT k.toNat = s at *
  have Hat := hide hat
  have Hn := hide hfl.symm
  clear hat hfl
  generalize hgc : w.heap.size + 1 = gc at *
  generalize hgr : gc + 1 = gr at *
  have hgc' : w.heap.size < gc := by omega
  have hgr' : gc < gr := by omega
  clear hgc hgr
  go_wp2_with fail
  go_loopg [8] s.size (fun gk i wr => ∃ (j : Nat) (x y z : Sl), gk = s.size - j ∧ j ≤ s.size ∧ i = .int .i64 j ∧ RSt2 (k :: l) w w3 wr gc gr B (Cl.rflds ((Cl.fsN k.toNat).take j) (Cl.kindC k.toNat, ⟨l, false⟩)) x y z)
  case atStart => exact ⟨0, slN, slN, slN, by omega, by omega, rfl, unhide Hst0⟩
  case round =>
  clear Hst0
  obtain ⟨j, x, y, z, hgk, hj, rfl, hst⟩ := hrel
  have Hgk := hide hgk
  have Hst := hide hst
  have a4 := hst.size
  clear hgk
  rcases Nat.lt_or_ge j s.size with hlt | hge
  case inr =>
    obtain rfl : j = s.size := by omega
    have e : (Cl.fsN k.toNat).take s.size = Cl.fsN k.toNat := List.take_of_length_le (by have := unhide Hn; omega)
    rw [e] at Hst
    clear e hst
    clear Hn Hat Hgk
    have hr0 := unhide Hres
    have Hfit' := hide (unhide Hfit)
    have Hpath := hide (rflds_path (Cl.fsN k.toNat) (Cl.kindC k.toNat, ⟨l, false⟩) (by show (Cl.ba []).size ≤ _; rw [Cl.ba_size]; simp) (by have := unhide Hml; simp only; omega))
    have Hle' := hide (unhide Hle)
    change Hid ((Cl.rall k.toNat l).2.b.length ≤ l.length) at Hle'
    change Hid ((Cl.rall k.toNat l).1.path.size ≤ 4294967296) at Hpath
    change Hid (RSt2 (k :: l) w w3 wr gc gr B (Cl.rall k.toNat l) x y z) at Hst
    change Hid (ClFit (Cl.rall k.toNat l).1 ∧ (Cl.rall k.toNat l).2.b.length ≤ 4294967296) at Hfit'
    clear Hres Hfit
    generalize Cl.rall k.toNat l = st at *
    obtain ⟨q, r⟩ := st
    simp only at hr0
    have hst := unhide Hst
    have hbw := hst.below
    have hci := callInfo
    cases hgn : r.gone
    case true =>
      rw [if_pos hgn] at hr0
      subst hr0
      have hc1 : wr.cell? ⟨gr, 2, none⟩ = some (.bool true) := by
        obtain ⟨ab, ao, m, c, p, q1, _⟩ := hst.rdr
        rw [← hgn]
        exact q1.cell (i := 2) rfl
      have HB5 := hide hst.res
      have HB6 := hide (blk_row (m := zeroL) hst.res)
      have Hbw := hide hbw
      clear hst hbw hgn Hst Hfit'
      go_wp2_with ((with_reducible refine (@id (wpList _ _ _ (Oper.mk none (Op.store 26 (.tmp 2) (.tmp 92)) _ _ _ none :: _) _ _) ?_)); refine wpList_store_row rfl 26 (.tmp 2) (.tmp 92) rfl w.heap.size zeroL.toArray rfl rfl 26 _ (unhide HB5) hci rfl zero_one ?_)
      refine bodyPost_ret (results_cell_tmp2 (P := Try.prog) rfl _ _ w.heap.size 26 zeroL.toArray (0, 0) _ rfl (unhide HB6) Try.underlying26 rfl callInfo) rfl ?_
      exact ⟨slN, slN, slN, rfl, (ClFr.zero _ _ 0), below_setRow (unhide Hbw) (Nat.le_refl _) _⟩
    rw [if_neg (by rw [hgn]; simp)] at hr0
    have hrl : r.b.length ≤ 4294967296 := (unhide Hfit').2
    have K3 := rcallCheck_any q x y z wr.heap.size wr hst.own.ok (Nat.le_refl _) (unhide Hfit').1 (unhide Hpath)
    obtain ⟨ev, hev⟩ : ∃ ev, Cl.check q = ev := ⟨_, rfl⟩
    rw [hev] at hr0 K3
    have HK3 := hide K3
    have hc1 : wr.cell? ⟨gr, 2, none⟩ = some (.bool false) := by
      obtain ⟨ab, ao, m, c, p, q1, _⟩ := hst.rdr
      rw [← hgn]
      exact q1.cell (i := 2) rfl
    obtain ⟨v0, v1, v2, v3, v4, v5, v6, v7, v8, v9⟩ := box10 hst.call
    clear K3 hev hgn
    have Hr0 := hide hr0
    have hltw := hst.call.lt
    have hltr := hst.rdr.lt
    clear hr0 hst hbw
    go_wp2_with fail
    refine (unhide HK3).mono ?_
    rintro e w5 ⟨rfl, hb5⟩
    have hst5 := (unhide Hst).went (r' := r) (grownBy_of_below hb5) ((unhide Hst).rdr.below hb5 hltr (by omega))
    have HB5 := hide hst5.res
    have HB6 := hide (blk_row (m := zeroL) hst5.res)
    have Hbw := hide hst5.below
    have Hst5 := hide hst5
    clear v0 v1 v2 v3 v4 v5 v6 v7 v8 v9 hc1 HK3 hb5 hst5 Hst
    by_cases hev : ev = 0
    case neg =>
      have hr0 := unhide Hr0
      rw [if_neg hev] at hr0
      subst hr0
      have he1 : (ev != 0) = true := by simpa using hev
      clear hev Hr0
      go_wp2_with ((with_reducible refine (@id (wpList _ _ _ (Oper.mk none (Op.store 26 (.tmp 2) (.tmp 97)) _ _ _ none :: _) _ _) ?_)); refine wpList_store_row rfl 26 (.tmp 2) (.tmp 97) rfl w.heap.size zeroL.toArray rfl rfl 26 _ (unhide HB5) hci rfl zero_one ?_)
      refine bodyPost_ret (results_cell_tmp2 (P := Try.prog) rfl _ _ w.heap.size 26 zeroL.toArray (0, 0) _ rfl (unhide HB6) Try.underlying26 rfl callInfo) rfl ?_
      exact ⟨slN, slN, slN, rfl, (ClFr.zero _ _ 0), below_setRow (unhide Hbw) (Nat.le_refl _) _⟩
    subst hev
    have hr0 := unhide Hr0
    rw [if_pos rfl] at hr0
    subst hr0
    clear Hr0 HB6
    have hst5 := unhide Hst5
    obtain ⟨rb, ro, rm, rc, rp, rblk, rrd, rbe, rpm, rmc, rm4⟩ := hst5.rdr
    have hg12 : w.heap.size < gc := hst5.g1
    have hg23 : gc < gr := hst5.g2
    have rcell := rblk.cell (i := 1) rfl
    have hrm : (k :: l).length = rm := by simpa [bys] using rrd.len1
    have hrl2 : r.b.length = rm - rp := by rw [rbe, List.length_drop, hrm]
    have hS1 : ∀ w', (w' = w5.drew ∨ w' = w5.drew.setRow w.heap.size (clCells q x y z)) → w'.heap[gc]? = some (.cells (clCells q x y z) 26 (0, 0)) := by
      rintro w' (rfl | rfl)
      · exact hst5.call
      · exact (setRow_other _ _ _ _ (by omega)).trans hst5.call
    have hS2 : ∀ w', (w' = w5.drew ∨ w' = w5.drew.setRow w.heap.size (clCells q x y z)) → w'.cell? ⟨gr, 1, none⟩ = some (.int .i64 (rp : Nat)) := by
      rintro w' (rfl | rfl)
      · exact rcell
      · exact (cell_setRow_other _ _ _ _ (by simp; omega)).trans rcell
    have HS1 := hide hS1
    have HS2 := hide hS2
    have HB7 := hide (show w5.drew.heap[w.heap.size]? = some (.cells zeroL.toArray 26 (0, 0)) from hst5.res)
    have Hrl2 := hide hrl2
    have Hrm := hide hrm
    have hrpm := rpm
    clear hst5 rblk rrd rcell hS1 hS2 hrl2 hrm rbe
    go_wp2_with fail
    refine wp_region_held_drew (S := fun w' => w' = w5.drew ∨ w' = w5.drew.setRow w.heap.size (clCells q x y z)) (by kernel_rfl) (.inl rfl) (fun hHeld => ?_)
    clear hHeld
    refine takeD (i := 0) (d := some 99) (v := .agg (clCells q x y z)) rfl rfl (by kernel_rfl) (by kernel_rfl) (by kernel_rfl) (fun _ _ _ h => h) (yieldsS_load (by rfl) 26 (.tmp 5) rfl gc rfl 26 _ (0, 0) _ (unhide HS1) Try.underlying26 rfl callInfo) (.inl rfl) ?_
    simp only [Act.put, List.setIfInBounds_toArray, List.set_cons_zero, List.set_cons_succ]
    refine takeD (i := 1) (d := some 100) (v := .pointer (some ⟨gr, 0, none⟩)) rfl rfl (by kernel_rfl) (by kernel_rfl) (by kernel_rfl) (fun _ _ _ h => h) (yields_move (by rfl) (.tmp 6) rfl _ rfl) (.inl rfl) ?_
    simp only [Act.put, List.setIfInBounds_toArray, List.set_cons_zero, List.set_cons_succ]
    refine takeD (i := 2) (d := some 101) (v := .pointer (some ⟨gr, 0, none⟩)) rfl rfl (by kernel_rfl) (by kernel_rfl) (by kernel_rfl) (fun _ _ _ h => h) (yields_nil (by rfl) (.tmp 100) rfl ⟨gr, 0, none⟩ rfl) (.inl rfl) ?_
    simp only [Act.put, List.setIfInBounds_toArray, List.set_cons_zero, List.set_cons_succ]
    refine takeD (i := 3) (d := some 102) (v := .pointer (some ⟨gr, 1, none⟩)) rfl rfl (by kernel_rfl) (by kernel_rfl) (by kernel_rfl) (fun _ _ _ h => h) (yieldsR_field1 (by rfl) (.tmp 101) rfl gr rfl) (.inl rfl) ?_
    simp only [Act.put, List.setIfInBounds_toArray, List.set_cons_zero, List.set_cons_succ]
    refine takeD (i := 4) (d := some 103) (v := .int .i64 (rp : Nat)) rfl rfl (by kernel_rfl) (by kernel_rfl) (by kernel_rfl) (fun _ _ _ h => h) (yieldsS_int (by rfl) (.tmp 102) rfl gr 1 rfl _ (unhide HS2)) (.inl rfl) ?_
    simp only [Act.put, List.setIfInBounds_toArray, List.set_cons_zero, List.set_cons_succ]
    refine storeS (i := 5) rfl rfl (by kernel_rfl) (by rfl) 26 (.tmp 2) (.tmp 99) rfl w.heap.size (clCells q x y z) zeroL.toArray rfl rfl 26 (unhide HB7) callInfo rfl (cl_one q x y z) (.inr rfl) ?_
    refine takeD (i := 6) (d := some 3) (v := .int .i64 (rp : Nat)) rfl rfl (by kernel_rfl) (by kernel_rfl) (by kernel_rfl) (fun _ _ _ h => h) (yields_assign (by rfl) (.tmp 103) rfl _ rfl) (.inr rfl) ?_
    simp only [Act.put, List.setIfInBounds_toArray, List.set_cons_zero, List.set_cons_succ]
    refine takeD (i := 7) (d := some 4) (v := .int .i64 0) rfl rfl (by kernel_rfl) (by kernel_rfl) (by kernel_rfl) (fun _ _ _ h => h) (yields_assign (by rfl) (.const (.int .i64 0)) rfl _ rfl) (.inr rfl) ?_
    simp only [Act.put, List.setIfInBounds_toArray, List.set_cons_zero, List.set_cons_succ]
    refine wpAnyH_done (by kernel_rfl) ?_ _
    have HB8 := hide (blk_row (m := clL q x y z) (unhide HB7))
    have Hend := hide (((unhide Hst5).own.below (below_drew' (Below.refl _ _))).keep (w' := w5.drew.setRow w.heap.size (clCells q x y z)) (fun b hb hb2 => setRow_other _ _ _ _ (by omega)))
    have Hbe := hide (below_setRow (below_drew' (unhide Hst5).below) (Nat.le_refl _) (clCells q x y z))
    go_wp2_with fail
    refine bodyPost_ret (results_cell_tmp2 (P := Try.prog) rfl _ _ w.heap.size 26 (clCells q x y z) (0, 0) _ rfl (unhide HB8) Try.underlying26 rfl callInfo) rfl ?_
    have hnum : ((rp : Nat) : Int) = ((l.length + 1 - r.b.length : Nat) : Int) := by
      have h2 : r.b.length ≤ l.length := unhide Hle'
      have hrm := unhide Hrm
      have hrl2 := unhide Hrl2
      simp only [List.length_cons] at hrm
      omega
    have he := unhide Hend
    have hw3 : w.heap.size ≤ w3.heap.size := by omega
    refine ⟨x, y, z, ?_, ⟨he.o1.base_ hw3, he.o2.base_ hw3, he.o3.base_ hw3⟩, unhide Hbe⟩
    show Ending.returned (.tuple #[_, .int .i64 ((rp : Nat) : Int), _]) = _
    rw [hnum]
    rfl
  obtain ⟨f, hfk⟩ : ∃ f, (Cl.fsN k.toNat)[j]? = some f := ⟨_, List.getElem?_eq_getElem (by rw [unhide Hn]; exact hlt)⟩
  have hf9 : f < 9 := (Cl.fsN_ok k.toNat).1 f (List.mem_of_getElem? hfk)
  have hch : s[j] = letter f := (unhide Hat) j f hfk hlt
  have hsn := rflds_snoc hfk (Cl.kindC k.toNat, ⟨l, false⟩)
  have Hsn := hide hsn
  generalize Cl.rflds ((Cl.fsN k.toNat).take j) (Cl.kindC k.toNat, ⟨l, false⟩) = st at *
  clear hfk hsn
  obtain rfl | rfl | rfl | rfl | rfl | rfl | rfl | rfl | rfl : f = 0 ∨ f = 1 ∨ f = 2 ∨ f = 3 ∨ f = 4 ∨ f = 5 ∨ f = 6 ∨ f = 7 ∨ f = 8 := by omega
  · have t65 : (((s[j].toNat : Nat) : Int) == 65) = true := by rw [hch]; rfl
    have K2 := hide (rnum_any (k :: l) gr B 8 st.2 wr hst.rdr (by omega) (by omega))
    clear hst hch
    go_wp2_with fail
    refine (unhide K2).mono ?_
    rintro e w4 ⟨rfl, hr4, hg4⟩
    have hst4 := (unhide Hst).went hg4 hr4
    have hc4 := hst4.call.cell (i := 1) rfl
    have hf4 := hst4.call.free 1
    have hlt4 := hst4.call.lt
    have hst5 := hst4.store 1 (.int .u64 (Cl.rnum st.2 8).1) (q' := (Cl.rfld st 0).1) (x' := x) (y' := y) (z' := z) rfl ⟨hst4.own.o1, hst4.own.o2, hst4.own.o3⟩
    have Hst5 := hide hst5
    clear hr4 hg4 hst4 hst5 K2 Hst
    go_wp2_with fail
    clear hc4 hf4
    go_roundg (s.size - (j + 1))
    case measure => have := unhide Hgk; omega
    case rel => exact ⟨j + 1, x, y, z, rfl, by omega, by go_num, by rw [unhide Hsn]; exact unhide Hst5⟩
  · have t65 : (((s[j].toNat : Nat) : Int) == 65) = false := by rw [hch]; rfl
    have t66 : (((s[j].toNat : Nat) : Int) == 66) = true := by rw [hch]; rfl
    have K2 := hide (rnum_any (k :: l) gr B 8 st.2 wr hst.rdr (by omega) (by omega))
    clear hst hch
    go_wp2_with fail
    refine (unhide K2).mono ?_
    rintro e w4 ⟨rfl, hr4, hg4⟩
    have hst4 := (unhide Hst).went hg4 hr4
    have hc4 := hst4.call.cell (i := 2) rfl
    have hf4 := hst4.call.free 2
    have hlt4 := hst4.call.lt
    have hst5 := hst4.store 2 (.int .u64 (Cl.rnum st.2 8).1) (q' := (Cl.rfld st 1).1) (x' := x) (y' := y) (z' := z) rfl ⟨hst4.own.o1, hst4.own.o2, hst4.own.o3⟩
    have Hst5 := hide hst5
    clear hr4 hg4 hst4 hst5 K2 Hst
    go_wp2_with fail
    clear hc4 hf4
    go_roundg (s.size - (j + 1))
    case measure => have := unhide Hgk; omega
    case rel => exact ⟨j + 1, x, y, z, rfl, by omega, by go_num, by rw [unhide Hsn]; exact unhide Hst5⟩
  · have t65 : (((s[j].toNat : Nat) : Int) == 65) = false := by rw [hch]; rfl
    have t66 : (((s[j].toNat : Nat) : Int) == 66) = false := by rw [hch]; rfl
    have t67 : (((s[j].toNat : Nat) : Int) == 67) = true := by rw [hch]; rfl
    have K2 := hide (rnum_any (k :: l) gr B 8 st.2 wr hst.rdr (by omega) (by omega))
    clear hst hch
    go_wp2_with fail
    refine (unhide K2).mono ?_
    rintro e w4 ⟨rfl, hr4, hg4⟩
    have hst4 := (unhide Hst).went hg4 hr4
    have hc4 := hst4.call.cell (i := 3) rfl
    have hf4 := hst4.call.free 3
    have hlt4 := hst4.call.lt
    have hst5 := hst4.store 3 (.int .u64 (Cl.rnum st.2 8).1) (q' := (Cl.rfld st 2).1) (x' := x) (y' := y) (z' := z) rfl ⟨hst4.own.o1, hst4.own.o2, hst4.own.o3⟩
    have Hst5 := hide hst5
    clear hr4 hg4 hst4 hst5 K2 Hst
    go_wp2_with fail
    clear hc4 hf4
    go_roundg (s.size - (j + 1))
    case measure => have := unhide Hgk; omega
    case rel => exact ⟨j + 1, x, y, z, rfl, by omega, by go_num, by rw [unhide Hsn]; exact unhide Hst5⟩
  · have t65 : (((s[j].toNat : Nat) : Int) == 65) = false := by rw [hch]; rfl
    have t66 : (((s[j].toNat : Nat) : Int) == 66) = false := by rw [hch]; rfl
    have t67 : (((s[j].toNat : Nat) : Int) == 67) = false := by rw [hch]; rfl
    have t68 : (((s[j].toNat : Nat) : Int) == 68) = true := by rw [hch]; rfl
    have K2 := hide (rnum_any (k :: l) gr B 8 st.2 wr hst.rdr (by omega) (by omega))
    clear hst hch
    go_wp2_with fail
    refine (unhide K2).mono ?_
    rintro e w4 ⟨rfl, hr4, hg4⟩
    have hst4 := (unhide Hst).went hg4 hr4
    have hc4 := hst4.call.cell (i := 4) rfl
    have hf4 := hst4.call.free 4
    have hlt4 := hst4.call.lt
    have hst5 := hst4.store 4 (.int .u64 (Cl.rnum st.2 8).1) (q' := (Cl.rfld st 3).1) (x' := x) (y' := y) (z' := z) rfl ⟨hst4.own.o1, hst4.own.o2, hst4.own.o3⟩
    have Hst5 := hide hst5
    clear hr4 hg4 hst4 hst5 K2 Hst
    go_wp2_with fail
    clear hc4 hf4
    go_roundg (s.size - (j + 1))
    case measure => have := unhide Hgk; omega
    case rel => exact ⟨j + 1, x, y, z, rfl, by omega, by go_num, by rw [unhide Hsn]; exact unhide Hst5⟩
  · have t65 : (((s[j].toNat : Nat) : Int) == 65) = false := by rw [hch]; rfl
    have t66 : (((s[j].toNat : Nat) : Int) == 66) = false := by rw [hch]; rfl
    have t67 : (((s[j].toNat : Nat) : Int) == 67) = false := by rw [hch]; rfl
    have t68 : (((s[j].toNat : Nat) : Int) == 68) = false := by rw [hch]; rfl
    have t69 : (((s[j].toNat : Nat) : Int) == 69) = true := by rw [hch]; rfl
    have K2 := hide (rnum_any (k :: l) gr B 8 st.2 wr hst.rdr (by omega) (by omega))
    clear hst hch
    go_wp2_with fail
    refine (unhide K2).mono ?_
    rintro e w4 ⟨rfl, hr4, hg4⟩
    have hst4 := (unhide Hst).went hg4 hr4
    have hc4 := hst4.call.cell (i := 5) rfl
    have hf4 := hst4.call.free 5
    have hlt4 := hst4.call.lt
    have hst5 := hst4.store 5 (.int .u64 (Cl.rnum st.2 8).1) (q' := (Cl.rfld st 4).1) (x' := x) (y' := y) (z' := z) rfl ⟨hst4.own.o1, hst4.own.o2, hst4.own.o3⟩
    have Hst5 := hide hst5
    clear hr4 hg4 hst4 hst5 K2 Hst
    go_wp2_with fail
    clear hc4 hf4
    go_roundg (s.size - (j + 1))
    case measure => have := unhide Hgk; omega
    case rel => exact ⟨j + 1, x, y, z, rfl, by omega, by go_num, by rw [unhide Hsn]; exact unhide Hst5⟩
  · have t65 : (((s[j].toNat : Nat) : Int) == 65) = false := by rw [hch]; rfl
    have t66 : (((s[j].toNat : Nat) : Int) == 66) = false := by rw [hch]; rfl
    have t67 : (((s[j].toNat : Nat) : Int) == 67) = false := by rw [hch]; rfl
    have t68 : (((s[j].toNat : Nat) : Int) == 68) = false := by rw [hch]; rfl
    have t69 : (((s[j].toNat : Nat) : Int) == 69) = false := by rw [hch]; rfl
    have t80 : (((s[j].toNat : Nat) : Int) == 80) = true := by rw [hch]; rfl
    have K2 := hide (rtext_rd (k :: l) gr B st.2 wr hst.rdr (by omega))
    clear hst hch
    go_wp2_with fail
    refine (unhide K2).mono ?_
    rintro e w4 ⟨rfl, hr4, hg4⟩
    have hst4 := (unhide Hst).went hg4 hr4
    have hc4 := hst4.call.cell (i := 6) rfl
    have hf4 := hst4.call.free 6
    have hlt4 := hst4.call.lt
    have hst5 := hst4.store 6 (.string (Cl.ba (Cl.rtxt st.2).1)) (q' := (Cl.rfld st 5).1) (x' := x) (y' := y) (z' := z) rfl ⟨hst4.own.o1, hst4.own.o2, hst4.own.o3⟩
    have Hst5 := hide hst5
    clear hr4 hg4 hst4 hst5 K2 Hst
    go_wp2_with fail
    clear hc4 hf4
    go_roundg (s.size - (j + 1))
    case measure => have := unhide Hgk; omega
    case rel => exact ⟨j + 1, x, y, z, rfl, by omega, by go_num, by rw [unhide Hsn]; exact unhide Hst5⟩
  · have t65 : (((s[j].toNat : Nat) : Int) == 65) = false := by rw [hch]; rfl
    have t66 : (((s[j].toNat : Nat) : Int) == 66) = false := by rw [hch]; rfl
    have t67 : (((s[j].toNat : Nat) : Int) == 67) = false := by rw [hch]; rfl
    have t68 : (((s[j].toNat : Nat) : Int) == 68) = false := by rw [hch]; rfl
    have t69 : (((s[j].toNat : Nat) : Int) == 69) = false := by rw [hch]; rfl
    have t80 : (((s[j].toNat : Nat) : Int) == 80) = false := by rw [hch]; rfl
    have t86 : (((s[j].toNat : Nat) : Int) == 86) = true := by rw [hch]; rfl
    have K2 := hide (rlist_rd (k :: l) gr B st.2 wr hst.rdr (by omega))
    clear hst hch
    go_wp2_with fail
    refine (unhide K2).mono ?_
    rintro e w4 ⟨A4, c4, rfl, ho4, hr4, hg4⟩
    have hst4 := (unhide Hst).went hg4 hr4
    have hc4 := hst4.call.cell (i := 7) rfl
    have hf4 := hst4.call.free 7
    have hlt4 := hst4.call.lt
    have hst5 := hst4.store 7 (.slice A4 (Cl.rlst st.2).1.length c4) (q' := (Cl.rfld st 6).1) (x' := ⟨A4, (Cl.rlst st.2).1.length, c4⟩) (y' := y) (z' := z) rfl ⟨(Fresh.of_own ho4).base_ a4, hst4.own.o2, hst4.own.o3⟩
    have Hst5 := hide hst5
    clear ho4 hr4 hg4 hst4 hst5 K2 Hst
    go_wp2_with fail
    clear hc4 hf4
    go_roundg (s.size - (j + 1))
    case measure => have := unhide Hgk; omega
    case rel => exact ⟨j + 1, _, y, z, rfl, by omega, by go_num, by rw [unhide Hsn]; exact unhide Hst5⟩
  · have t65 : (((s[j].toNat : Nat) : Int) == 65) = false := by rw [hch]; rfl
    have t66 : (((s[j].toNat : Nat) : Int) == 66) = false := by rw [hch]; rfl
    have t67 : (((s[j].toNat : Nat) : Int) == 67) = false := by rw [hch]; rfl
    have t68 : (((s[j].toNat : Nat) : Int) == 68) = false := by rw [hch]; rfl
    have t69 : (((s[j].toNat : Nat) : Int) == 69) = false := by rw [hch]; rfl
    have t80 : (((s[j].toNat : Nat) : Int) == 80) = false := by rw [hch]; rfl
    have t86 : (((s[j].toNat : Nat) : Int) == 86) = false := by rw [hch]; rfl
    have t87 : (((s[j].toNat : Nat) : Int) == 87) = true := by rw [hch]; rfl
    have K2 := hide (rlist_rd (k :: l) gr B st.2 wr hst.rdr (by omega))
    clear hst hch
    go_wp2_with fail
    refine (unhide K2).mono ?_
    rintro e w4 ⟨A4, c4, rfl, ho4, hr4, hg4⟩
    have hst4 := (unhide Hst).went hg4 hr4
    have hc4 := hst4.call.cell (i := 8) rfl
    have hf4 := hst4.call.free 8
    have hlt4 := hst4.call.lt
    have hst5 := hst4.store 8 (.slice A4 (Cl.rlst st.2).1.length c4) (q' := (Cl.rfld st 7).1) (x' := x) (y' := ⟨A4, (Cl.rlst st.2).1.length, c4⟩) (z' := z) rfl ⟨hst4.own.o1, (Fresh.of_own ho4).base_ a4, hst4.own.o3⟩
    have Hst5 := hide hst5
    clear ho4 hr4 hg4 hst4 hst5 K2 Hst
    go_wp2_with fail
    clear hc4 hf4
    go_roundg (s.size - (j + 1))
    case measure => have := unhide Hgk; omega
    case rel => exact ⟨j + 1, x, _, z, rfl, by omega, by go_num, by rw [unhide Hsn]; exact unhide Hst5⟩
  · have t65 : (((s[j].toNat : Nat) : Int) == 65) = false := by rw [hch]; rfl
    have t66 : (((s[j].toNat : Nat) : Int) == 66) = false := by rw [hch]; rfl
    have t67 : (((s[j].toNat : Nat) : Int) == 67) = false := by rw [hch]; rfl
    have t68 : (((s[j].toNat : Nat) : Int) == 68) = false := by rw [hch]; rfl
    have t69 : (((s[j].toNat : Nat) : Int) == 69) = false := by rw [hch]; rfl
    have t80 : (((s[j].toNat : Nat) : Int) == 80) = false := by rw [hch]; rfl
    have t86 : (((s[j].toNat : Nat) : Int) == 86) = false := by rw [hch]; rfl
    have t87 : (((s[j].toNat : Nat) : Int) == 87) = false := by rw [hch]; rfl
    have t88 : (((s[j].toNat : Nat) : Int) == 88) = true := by rw [hch]; rfl
    have K2 := hide (rtext_rd (k :: l) gr B st.2 wr hst.rdr (by omega))
    have hlen := (rtxt_le st.2).1
    have hlen2 := hst.rdr.len
    clear hst hch
    go_wp2_with fail
    refine (unhide K2).mono ?_
    rintro e w4 ⟨rfl, hr4, hg4⟩
    have hst4 := (unhide Hst).went hg4 hr4
    have hcv := Lib.run_convert_string_bytes (P := Try.prog) w4 9 24 5 (Cl.ba (Cl.rtxt st.2).1) strTyp Try.underlying24 Try.underlying5
    have hsz : (Cl.ba (Cl.rtxt st.2).1).size = (Cl.rtxt st.2).1.length := Cl.ba_size _
    rw [hsz] at hcv
    have hbb := below_bytes w4 5 (Cl.ba (Cl.rtxt st.2).1)
    have hfr := fresh_bytes w4 5 (Cl.rtxt st.2).1
    have ha5 := hst4.size
    have hb5 := hst4.rdr.lt
    have hst6 := hst4.went (grownBy_of_below hbb) (hst4.rdr.below hbb hb5 (by omega))
    obtain ⟨cp, hcp⟩ : ∃ cp, grownCap w4 (Cl.rtxt st.2).1.length 0 5 = cp := ⟨_, rfl⟩
    rw [hcp] at hcv
    clear hcp hsz
    generalize Lib.bytesWorld w4 5 (Cl.ba (Cl.rtxt st.2).1) = w5 at *
    have hc4 := hst6.call.cell (i := 9) rfl
    have hf4 := hst6.call.free 9
    have hlt4 := hst6.call.lt
    have hst5 := hst6.store 9 (.slice (some ⟨w4.heap.size, 0, none⟩) (Cl.rtxt st.2).1.length cp) (q' := (Cl.rfld st 8).1) (x' := x) (y' := y) (z' := ⟨some ⟨w4.heap.size, 0, none⟩, (Cl.rtxt st.2).1.length, cp⟩) rfl ⟨hst6.own.o1, hst6.own.o2, hfr.base_ ha5⟩
    have Hst5 := hide hst5
    clear hst4 hr4 hg4 K2 Hst hbb hfr hst6 hst5
    go_wp2_with fail
    clear hc4 hf4 hcv
    go_roundg (s.size - (j + 1))
    case measure => have := unhide Hgk; omega
    case rel => exact ⟨j + 1, x, y, _, rfl, by omega, by go_num, by rw [unhide Hsn]; exact unhide Hst5⟩

theorem callRead_any (A : Option Addr) (m c B : Nat) (b : List UInt8) (w : World) (hb : Rd w B 1 A m (bys b)) (hB : B ≤ w.heap.size) (hm : m ≤ 4294967296) (hmc : m ≤ c) :
    Calls Try.prog 21 #[.slice A m c] w (ReadEnd (Cl.read b) w) := by
  cases b with
  | nil =>
    have h0 : m = 0 := by simpa [bys] using hb.len1.symm
    subst h0
    exact callRead_nil A c w
  | cons k l =>
    by_cases hk : k.toNat = 0 ∨ 12 < k.toNat
    · have e : Cl.read (k :: l) = (Cl.zeroC, 0, 23) := if_pos hk
      rw [e]
      exact callRead_kind A m c B k l w hb hB hm hk
    · exact callRead_good A m c B k l w hb hB hm hmc (by omega) (by omega)
theorem rRead_any (A : Option Addr) (m c B : Nat) (b : List UInt8) (w : World) (hb : Rd w B 1 A m (bys b)) (hB : B ≤ w.heap.size) (hm : m ≤ 4294967296) (hmc : m ≤ c) :
    Calls Try.prog 22 #[.slice A m c] w (ReadEndR (Cl.read b) w) := by
  cases b with
  | nil =>
    have h0 : m = 0 := by simpa [bys] using hb.len1.symm
    subst h0
    exact (rRead_nil A c w).mono fun _ _ h => readEnd_R h
  | cons k l =>
    by_cases hk : k.toNat = 0 ∨ 12 < k.toNat
    · have e : Cl.read (k :: l) = (Cl.zeroC, 0, 23) := if_pos hk
      rw [e]
      exact (rRead_kind A m c B k l w hb hB hm hk).mono fun _ _ h => readEnd_R h
    · exact rRead_good A m c B k l w hb hB hm hmc (by omega) (by omega)
end Go.Proofs.Ytphbkjdheopmhaa
