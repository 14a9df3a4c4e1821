/- The walk of calls.Read where there is a kind. Conditions: there are fewer than 2^32 bytes. -/
import Derived.Test.YtphbkjdheopmhaaRead1
import Derived.Test.YtphbkjdheopmhaaForm1
import Derived.Test.YtphbkjdheopmhaaHeld
namespace Go.Proofs.Ytphbkjdheopmhaa
set_option linter.unusedVariables false
set_option linter.unusedSimpArgs false
open Go.RowKit

/-- While fields are read: the call's block, the reader's, the list of fields. -/
structure RSt (w w3 wr : World) (gr bl B : Nat) (st : Cl.C × Cl.R) (x y z : Sl) : Prop where
  call : Blk wr w.heap.size 26 (clL st.1 x y z)
  rdr : Rdr wr gr B st.2
  own : ClOwn wr w3.heap.size st.1 x y z
  flds : wr.heap[bl]? = w3.heap[bl]?
  below : Below w.heap.size w wr
  size : w3.heap.size ≤ wr.heap.size
  g1 : w.heap.size < bl
  g2 : bl < gr
  g3 : gr < w3.heap.size
  g4 : B ≤ w.heap.size
theorem RSt.went {w w3 wr w4 : World} {gr bl B : Nat} {st : Cl.C × Cl.R} {x y z : Sl} {r' : Cl.R} (h : RSt w w3 wr gr bl B st x y z) (hg : wr.grownBy w4 (some gr)) (hr : Rdr w4 gr B r') : RSt w w3 w4 gr bl B (st.1, r') x y z := by
  have a1 := h.g1; have a2 := h.g2; have a3 := h.g3; have a4 := h.size
  exact ⟨(hg.block _ (by omega) (by simp; omega)).trans h.call, hr, h.own.grown hg a3, (hg.block bl (by omega) (by simp; omega)).trans h.flds, h.below.trans (grown_some_below hg (by omega) (by omega)), Nat.le_trans h.size hg.size, a1, a2, a3, h.g4⟩
theorem RSt.store {w w3 wr : World} {gr bl B : Nat} {st : Cl.C × Cl.R} {x y z : Sl} (h : RSt w w3 wr gr bl B st x y z) (i : Nat) (u : Value) {q' : Cl.C} {x' y' z' : Sl} (he : (clL st.1 x y z).set i u = clL q' x' y' z') (ho : ClOwn wr w3.heap.size q' x' y' z') :
    RSt w w3 (wr.setCell ⟨w.heap.size, i, none⟩ u) gr bl B (q', st.2) x' y' z' := by
  have a1 := h.g1; have a2 := h.g2; have a3 := h.g3; have a4 := h.size
  refine ⟨?_, ?_, ho.set (by show w.heap.size < _; omega) u, (heap_setCell_other _ _ _ _ (by simp; omega)).trans h.flds, h.below.setCell (Nat.le_refl _) _, by simpa using h.size, a1, a2, a3, h.g4⟩
  · have := h.call.set i u
    rwa [he] at this
  · obtain ⟨ab, ao, m, c, q1, q2, q3, q4⟩ := h.rdr
    exact ⟨ab, ao, m, c, q1.other (by simp; omega) u, q2.setCell h.g4 u, q3, q4⟩

theorem rtxt_le (r : Cl.R) : (Cl.rtxt r).1.length ≤ r.b.length ∧ (Cl.rtxt r).2.b.length ≤ r.b.length := by
  have h1 := take_len r 2
  have h2 := take_len (Cl.rnum r 2).2 (Cl.rnum r 2).1
  have e : (Cl.rnum r 2).2 = (Cl.take r 2).2 := rfl
  rw [e] at h2
  exact ⟨Nat.le_trans h2.1 h1.2, Nat.le_trans h2.2 h1.2⟩
theorem rtxts_le (n : Nat) (r : Cl.R) : (Cl.rtxts n r).1.length ≤ n ∧ (∀ x ∈ (Cl.rtxts n r).1, x.size ≤ r.b.length) ∧ (Cl.rtxts n r).2.b.length ≤ r.b.length := by
  induction n generalizing r with
  | zero => exact ⟨Nat.le_refl _, fun x hx => absurd hx List.not_mem_nil, Nat.le_refl _⟩
  | succ n ih =>
    cases hg : r.gone
    · rw [rtxts_step hg]
      obtain ⟨h1, h2, h3⟩ := ih (Cl.rtxt r).2
      obtain ⟨h4, h5⟩ := rtxt_le r
      refine ⟨by simp; omega, fun x hx => ?_, Nat.le_trans h3 h5⟩
      rcases List.mem_cons.1 hx with rfl | hx
      · rw [Cl.ba_size]; exact h4
      · exact Nat.le_trans (h2 x hx) h5
    · rw [rtxts_end (.inr hg)]
      exact ⟨Nat.zero_le _, fun x hx => absurd hx List.not_mem_nil, Nat.le_refl _⟩
theorem rlst_le (r : Cl.R) : (Cl.rlst r).1.length ≤ 255 ∧ (∀ x ∈ (Cl.rlst r).1, x.size ≤ r.b.length) ∧ (Cl.rlst r).2.b.length ≤ r.b.length := by
  obtain ⟨h1, h2, h3⟩ := rtxts_le (Cl.rnum r 1).1 (Cl.rnum r 1).2
  have h4 := rnum1_lt r
  have h5 : (Cl.rnum r 1).2.b.length ≤ r.b.length := (take_len r 1).2
  have h1' : (Cl.rlst r).1.length ≤ (Cl.rnum r 1).1 := h1
  exact ⟨by omega, fun x hx => Nat.le_trans (h2 x hx) h5, Nat.le_trans h3 h5⟩
theorem rfld_fit (s : Cl.C × Cl.R) (f : Nat) (h : ClFit s.1) (hb : s.2.b.length ≤ 4294967296) : ClFit (Cl.rfld s f).1 ∧ (Cl.rfld s f).2.b.length ≤ 4294967296 := by
  obtain ⟨k, a, b, c, d, e, p, l1, l2, l3, s1, s2⟩ := h
  have t1 := rtxt_le s.2
  have t2 := rlst_le s.2
  have t3 : (Cl.rnum s.2 8).2.b.length ≤ s.2.b.length := (take_len s.2 8).2
  have t4 := Cl.rnum_lt s.2
  have hM : 4294967296 ≤ maxLen := by decide
  unfold Cl.rfld
  split
  · exact ⟨⟨k, a, b, c, d, e, by simp only [Cl.ba_size]; omega, l1, l2, l3, s1, s2⟩, by simp only; omega⟩
  · exact ⟨⟨k, a, b, c, d, e, p, by simp only; omega, l2, l3, fun x hx => by have := t2.2.1 x hx; omega, s2⟩, by simp only; omega⟩
  · exact ⟨⟨k, a, b, c, d, e, p, l1, by simp only; omega, l3, s1, fun x hx => by have := t2.2.1 x hx; omega⟩, by simp only; omega⟩
  · exact ⟨⟨k, a, b, c, d, e, p, l1, l2, by simp only; omega, s1, s2⟩, by simp only; omega⟩
  · exact ⟨⟨k, t4, b, c, d, e, p, l1, l2, l3, s1, s2⟩, by simp only; omega⟩
  · exact ⟨⟨k, a, t4, c, d, e, p, l1, l2, l3, s1, s2⟩, by simp only; omega⟩
  · exact ⟨⟨k, a, b, t4, d, e, p, l1, l2, l3, s1, s2⟩, by simp only; omega⟩
  · exact ⟨⟨k, a, b, c, t4, e, p, l1, l2, l3, s1, s2⟩, by simp only; omega⟩
  · exact ⟨⟨k, a, b, c, d, t4, p, l1, l2, l3, s1, s2⟩, by simp only; omega⟩
theorem rflds_fit (l : List Nat) (s : Cl.C × Cl.R) (h : ClFit s.1) (hb : s.2.b.length ≤ 4294967296) : ClFit (Cl.rflds l s).1 ∧ (Cl.rflds l s).2.b.length ≤ 4294967296 := by
  induction l generalizing s with
  | nil => exact ⟨h, hb⟩
  | cons f r ih => exact ih _ (rfld_fit s f h hb).1 (rfld_fit s f h hb).2
theorem rfld_len (s : Cl.C × Cl.R) (f : Nat) : (Cl.rfld s f).2.b.length ≤ s.2.b.length := by
  have t1 := (rtxt_le s.2).2
  have t2 := (rlst_le s.2).2.2
  have t3 : (Cl.rnum s.2 8).2.b.length ≤ s.2.b.length := (take_len s.2 8).2
  unfold Cl.rfld
  split <;> assumption
theorem rflds_len (l : List Nat) (s : Cl.C × Cl.R) : (Cl.rflds l s).2.b.length ≤ s.2.b.length := by
  induction l generalizing s with
  | nil => exact Nat.le_refl _
  | cons f r ih => exact Nat.le_trans (ih _) (rfld_len s f)
theorem kindC_fit {k : Nat} (hk : k < 256) : ClFit (Cl.kindC k) :=
  ⟨hk, by simp [Cl.kindC], by simp [Cl.kindC], by simp [Cl.kindC], by simp [Cl.kindC], by simp [Cl.kindC], by show (Cl.ba []).size ≤ _; rw [Cl.ba_size]; simp, by simp [Cl.kindC], by simp [Cl.kindC], by simp [Cl.kindC], by simp [Cl.kindC], by simp [Cl.kindC]⟩
theorem rflds_snoc {l : List Nat} {k f : Nat} (h : l[k]? = some f) (s : Cl.C × Cl.R) : Cl.rflds (l.take (k + 1)) s = Cl.rfld (Cl.rflds (l.take k) s) f := by
  rw [List.take_add_one, h, Cl.rflds_app]
  rfl
theorem read_cons (k : UInt8) (r : List UInt8) (h1 : 1 ≤ k.toNat) (h2 : k.toNat ≤ 12) : Cl.read (k :: r) = if (Cl.rall k.toNat r).2.gone = true then (Cl.zeroC, 0, 24)
      else if Cl.check (Cl.rall k.toNat r).1 = 0 then ((Cl.rall k.toNat r).1, r.length + 1 - (Cl.rall k.toNat r).2.b.length, 0)
      else (Cl.zeroC, 0, Cl.check (Cl.rall k.toNat r).1) := by
  show (if k.toNat = 0 ∨ 12 < k.toNat then _ else _) = _
  rw [if_neg (by omega)]

/-- What the map of fields holds of a kind. -/
theorem look_yes2 {w0 w : World} {g k : Nat} (h : FM w0 g 12 w) (h1 : 1 ≤ k) (h2 : k ≤ 12) : ∃ b, w0.heap.size ≤ b ∧ b < w.heap.size ∧
    (Instr.lookup 55 (.map (some g)) (.int .u8 k) true).run Try.prog w = .ok (.tuple #[.slice (some ⟨b, 0, none⟩) (fs k).length (fs k).length, .bool true]) w ∧
    (Instr.lookup 55 (.map (some g)) (.int .u8 k) false).run Try.prog w = .ok (.slice (some ⟨b, 0, none⟩) (fs k).length (fs k).length) w ∧
    Rd w w.heap.size 1 (some ⟨b, 0, none⟩) (fs k).length ((fs k).map (Value.int .i64)) := by
  obtain ⟨bs, hm, hb, _, _⟩ := h
  have hf := fmap_find bs 12 k h1 h2
  have r1 := run_mapLook (P := Try.prog) (z := .slice none 0 0) Try.underlying55 Try.underlying5 (x := ((k : Nat) : Int)) (by simp [Go.MapKept.IsKey]) (zero_fields w) hm
  have r2 := run_mapLook1 (P := Try.prog) (z := .slice none 0 0) Try.underlying55 Try.underlying5 (x := ((k : Nat) : Int)) (by simp [Go.MapKept.IsKey]) (zero_fields w) hm
  rw [hf] at r1 r2
  obtain ⟨q1, q2, q3⟩ := hb (k - 1) (by omega)
  rw [show k - 1 + 1 = k from by omega] at q1
  refine ⟨bs (k - 1), q3, lt_of_block q1, r1, r2, ⟨by simp, ?_⟩⟩
  refine .inr ⟨bs (k - 1), 0, rfl, lt_of_block q1, fun j u hu => ?_⟩
  rw [cell_of_row _ _ _ _ _ _ q1, Nat.zero_add]
  simpa [fcells] using hu
theorem rdr_first {w : World} {B ab ao m c : Nat} {k : UInt8} {l : List UInt8} (h : Rd w B 1 (some ⟨ab, ao, none⟩) m (bys (k :: l))) (hB : B ≤ w.heap.size) (hc : c = 1) (hmc : m ≤ c) (hm : m ≤ 4294967296) :
    Rdr (w.alloc (.cells #[.slice (some ⟨ab, ao, none⟩) (m - 1) 0, .bool false] 77)) w.heap.size B ⟨l, false⟩ := by
  have hml : m = l.length + 1 := by simpa [bys] using h.len1.symm
  have hl : l = [] := List.eq_nil_of_length_eq_zero (by omega)
  subst hl
  exact ⟨ab, ao, m - 1, 0, Blk.new w _ [.slice (some ⟨ab, ao, none⟩) (m - 1) 0, .bool false], by rw [show m - 1 = 0 from by simp at hml; omega]; exact ⟨rfl, .inl rfl⟩, by simp at hml; omega, by omega⟩
theorem rdr_next {w : World} {B ab ao m c : Nat} {k : UInt8} {l : List UInt8} (h : Rd w B 1 (some ⟨ab, ao, none⟩) m (bys (k :: l))) (hB : B ≤ w.heap.size) (hc : ¬ c = 1) (hmc : m ≤ c) (hm : m ≤ 4294967296) :
    Rdr (w.alloc (.cells #[.slice (some ⟨ab, ao + 1, none⟩) (m - 1) (c - 1), .bool false] 77)) w.heap.size B ⟨l, false⟩ := by
  have hml : m = l.length + 1 := by simpa [bys] using h.len1.symm
  have h1 := h.from (k := 1) (by omega)
  exact ⟨ab, ao + 1, m - 1, c - 1, Blk.new w _ [.slice (some ⟨ab, ao + 1, none⟩) (m - 1) (c - 1), .bool false], h1.alloc hB _, by omega, by omega⟩

set_option maxRecDepth 100000 in
set_option maxHeartbeats 8000000 in
theorem callRead_good (A : Option Addr) (m c B : Nat) (k : UInt8) (l : List UInt8) (w : World) (hb : Rd w B 1 A m (bys (k :: l))) (hB : B ≤ w.heap.size) (hm : m ≤ 4294967296) (hmc : m ≤ c) (hk1 : 1 ≤ k.toNat) (hk2 : k.toNat ≤ 12) :
    Calls Try.prog 21 #[.slice A m c] w (ReadEnd (Cl.read (k :: l)) w) := by
  obtain ⟨res, hres⟩ : ∃ res, Cl.read (k :: l) = res := ⟨_, rfl⟩
  rw [hres]
  rw [read_cons k l hk1 hk2] at hres
  have Hres := hide hres
  clear hres
  have hml : m = l.length + 1 := by simpa [bys] using hb.len1.symm
  obtain ⟨ab, ao, rfl, hlt, c0⟩ := hb.at_ (k := 0) (u := .int .u8 k.toNat) (by simp [bys])
  rw [Nat.add_zero] at c0
  have hb0 := Blk.new w 26 zeroL
  have hb1 := Blk.new w 26 [.int .u8 k.toNat, .int .u64 0, .int .u64 0, .int .u64 0, .int .u64 0, .int .u64 0, .string ⟨#[]⟩, .slice none 0 0, .slice none 0 0, .slice none 0 0]
  have hc1 := (World.cell?_alloc_lt w (.cells zeroL.toArray 26) ⟨ab, ao, none⟩ (by show ab < _; omega)).trans c0
  have hz0 := hb0.cell (i := 0) rfl
  have hf0 := hb0.free 0
  have hbel : Below w.heap.size w (w.alloc (.cells #[.int .u8 k.toNat, .int .u64 0, .int .u64 0, .int .u64 0, .int .u64 0, .int .u64 0, .string ⟨#[]⟩, .slice none 0 0, .slice none 0 0, .slice none 0 0] 26)) := (Below.refl _ _).alloc (Nat.le_refl _) _
  have HB1 := hide hb1
  have Hbel := hide hbel
  have hmz : ((m : Int) == 0) = false := beq_eq_false_iff_ne.2 (by omega)
  have Hml := hide hml
  have hm1 : 1 ≤ m := by omega
  have Hrd := hide hb
  have Hle := hide (rflds_len (Cl.fsN k.toNat) (Cl.kindC k.toNat, ⟨l, false⟩))
  have Hfit := hide (rflds_fit (Cl.fsN k.toNat) (Cl.kindC k.toNat, ⟨l, false⟩) (kindC_fit (by omega)) (by simp only; omega))
  clear hb0 hb1 hb hbel c0 hml
  go_enter Try.func21, Try.ntmps21
  go_wp2_with fail
  generalize hgW : w.alloc (.cells #[.int .u8 k.toNat, .int .u64 0, .int .u64 0, .int .u64 0, .int .u64 0, .int .u64 0, .string ⟨#[]⟩, .slice none 0 0, .slice none 0 0, .slice none 0 0] 26) = W at *
  have hlW : w.heap.size < W.heap.size := (unhide HB1).lt
  clear hgW hz0 hf0 hc1 hmz
  have v0 := (unhide HB1).cell (i := 0) rfl
  go_region_held3 (fun w' => w'.cell? ⟨w.heap.size, 0, none⟩ = some (.int .u8 k.toNat)) (first | exact v0 | exact hx0) (first | (go_at_call 30; refine (fields_any _).mono ?_; rintro e w1 ⟨rfl, hFM0⟩; have hFM : FM W W.heap.size 12 w1 := hFM0.of_drew ⟨_, rfl⟩; clear hFM0; have hx0 := (hFM.below.cell (p := ⟨w.heap.size, 0, none⟩) hlW).trans v0; obtain ⟨bl, hbl1, hblt, hbl2, hbl3, hbl4⟩ := look_yes2 hFM hk1 hk2; have HFb := hide hFM.below; have HBL4 := hide hbl4; clear hbl3 hbl4 hFM))
  have hfb := unhide HFb
  have HB2 := hide ((unhide HB1).below hfb hlW)
  have Hbel2 := hide ((unhide Hbel).trans (hfb.mono (by omega)))
  have hs1 := hfb.size
  have hrd1 := ((unhide Hrd).below ((unhide Hbel).mono hB)).below (hfb.mono (by omega))
  have Hrd1 := hide hrd1
  clear HB1 Hbel hbl2 hx0 v0 hfb HFb hrd1 Hrd
  have hfl := fs_len k.toNat
  rw [hfl]
  rw [hfl] at HBL4
  obtain ⟨n, hn⟩ : ∃ n, (Cl.fsN k.toNat).length = n := ⟨_, rfl⟩
  have hn5 := fsN_len k.toNat
  rw [hn] at HBL4 hn5 ⊢
  have Hn := hide hn
  clear hn hfl
  go_wp2_with fail
  all_goals
    have hs1' := hs1
  all_goals first
    | (have hR := rdr_first (unhide Hrd1) (by omega) (by assumption) hmc hm; generalize hg3 : w1.alloc (.cells #[.slice (some ⟨ab, ao, none⟩) (m - 1) 0, .bool false] 77) = W3 at *; have hb3 : Below w1.heap.size w1 W3 := (by rw [← hg3]; exact (Below.refl _ _).alloc (Nat.le_refl _) _); have hs3 : W3.heap.size = w1.heap.size + 1 := (by rw [← hg3]; simp); clear hg3)
    | (have hR := rdr_next (unhide Hrd1) (by omega) (by assumption) hmc hm; generalize hg3 : w1.alloc (.cells #[.slice (some ⟨ab, ao + 1, none⟩) (m - 1) (c - 1), .bool false] 77) = W3 at *; have hb3 : Below w1.heap.size w1 W3 := (by rw [← hg3]; exact (Below.refl _ _).alloc (Nat.le_refl _) _); have hs3 : W3.heap.size = w1.heap.size + 1 := (by rw [← hg3]; simp); clear hg3)
  all_goals
    have hl3 : w1.heap.size < W3.heap.size := by omega
    have hst0 : RSt w W3 W3 w1.heap.size bl B (Cl.kindC k.toNat, ⟨l, false⟩) slN slN slN := ⟨(unhide HB2).below hb3 (by omega), hR, ClOwn.zero _ _ _, rfl, (unhide Hbel2).trans (hb3.mono (by omega)), Nat.le_refl _, by omega, hblt, hl3, hB⟩
    have Hst0 := hide hst0
    have HBL5 := hide ((unhide HBL4).below hb3)
    clear hs1' hb3 hs3 hR hst0 HBL4 HB2 Hbel2 Hrd1
    try clear hcx
    go_loopg [35] n (fun gk i wr => ∃ (j : Nat) (x y z : Sl), gk = n - j ∧ j ≤ n ∧ i = .int .i64 j ∧ RSt w W3 wr w1.heap.size bl B (Cl.rflds ((Cl.fsN k.toNat).take j) (Cl.kindC k.toNat, ⟨l, false⟩)) x y z)
    case atStart => exact ⟨0, slN, slN, slN, by omega, by omega, rfl, unhide Hst0⟩
    case round =>
    clear Hst0
    obtain ⟨j, x, y, z, hgk, hj, rfl, hst⟩ := hrel
    have Hgk := hide hgk
    have Hst := hide hst
    have a1 := hst.g1
    have a2 := hst.g2
    have a4 := hst.size
    clear hgk
    rcases Nat.lt_or_ge j n with hlt | hge
    case inr =>
      obtain rfl : j = n := by omega
      have e : (Cl.fsN k.toNat).take j = Cl.fsN k.toNat := List.take_of_length_le (by have := unhide Hn; omega)
      rw [e] at Hst
      clear e hst
      clear Hn HBL5 Hgk
      have hr0 := unhide Hres
      have Hfit' := hide (unhide Hfit)
      change Hid (RSt w W3 wr w1.heap.size bl B (Cl.rall k.toNat l) x y z) at Hst
      have Hle' := hide (unhide Hle)
      change Hid ((Cl.rall k.toNat l).2.b.length ≤ l.length) at Hle'
      change Hid (ClFit (Cl.rall k.toNat l).1 ∧ (Cl.rall k.toNat l).2.b.length ≤ 4294967296) at Hfit'
      clear Hres Hfit
      generalize Cl.rall k.toNat l = st at *
      obtain ⟨q, r⟩ := st
      simp only at hr0
      have hst := unhide Hst
      have hbw := hst.below
      have hci := callInfo
      cases hgn : r.gone
      case true =>
        rw [if_pos hgn] at hr0
        subst hr0
        have hc1 : wr.cell? ⟨w1.heap.size, 1, none⟩ = some (.bool true) := by
          obtain ⟨ab, ao, m, c, q1, _⟩ := hst.rdr
          rw [← hgn]
          exact q1.cell (i := 1) rfl
        have HB5 := hide hst.call
        have HB6 := hide (blk_row (m := zeroL) hst.call)
        have Hbw := hide hbw
        clear hst hbw hgn Hst Hfit'
        go_wp2_with ((with_reducible refine (@id (wpList _ _ _ (Oper.mk none (Op.store 26 (.tmp 2) (.tmp 71)) _ _ _ none :: _) _ _) ?_)); refine wpList_store_row rfl 26 (.tmp 2) (.tmp 71) rfl w.heap.size zeroL.toArray rfl rfl 26 _ (unhide HB5) hci rfl zero_one ?_)
        refine bodyPost_ret (results_cell_tmp2 (P := Try.prog) rfl _ _ w.heap.size 26 zeroL.toArray (0, 0) _ rfl (unhide HB6) Try.underlying26 rfl callInfo) rfl ?_
        exact ⟨slN, slN, slN, rfl, (ClOwn.zero _ _ 0), below_setRow (unhide Hbw) (Nat.le_refl _) _⟩
      rw [if_neg (by rw [hgn]; simp)] at hr0
      have hrl : r.b.length ≤ 4294967296 := (unhide Hfit').2
      have K3 := callCheck_any q x y z wr.heap.size wr hst.own.ok (Nat.le_refl _) (unhide Hfit').1
      obtain ⟨ev, hev⟩ : ∃ ev, Cl.check q = ev := ⟨_, rfl⟩
      rw [hev] at hr0 K3
      have HK3 := hide K3
      have hc1 : wr.cell? ⟨w1.heap.size, 1, none⟩ = some (.bool false) := by
        obtain ⟨ab, ao, m, c, q1, _⟩ := hst.rdr
        rw [← hgn]
        exact q1.cell (i := 1) rfl
      obtain ⟨v0, v1, v2, v3, v4, v5, v6, v7, v8, v9⟩ := box10 hst.call
      clear K3 hev hgn
      have Hr0 := hide hr0
      have hltw := hst.call.lt
      clear hr0 hst hbw
      go_wp2_with fail
      refine (unhide HK3).mono ?_
      rintro e w5 ⟨rfl, hb5⟩
      have hst5 := (unhide Hst).went (r' := r) (grownBy_of_below hb5) ((unhide Hst).rdr.below hb5 (by omega) (by omega))
      have HB5 := hide hst5.call
      have HB6 := hide (blk_row (m := zeroL) hst5.call)
      have Hbw := hide hst5.below
      have Hst5 := hide hst5
      clear v0 v1 v2 v3 v4 v5 v6 v7 v8 v9 hc1 HK3 hb5 hst5 Hst
      by_cases hev : ev = 0
      case neg =>
        have hr0 := unhide Hr0
        rw [if_neg hev] at hr0
        subst hr0
        have he1 : (ev != 0) = true := by simpa using hev
        clear hev Hr0
        go_wp2_with ((with_reducible refine (@id (wpList _ _ _ (Oper.mk none (Op.store 26 (.tmp 2) (.tmp 76)) _ _ _ none :: _) _ _) ?_)); refine wpList_store_row rfl 26 (.tmp 2) (.tmp 76) rfl w.heap.size zeroL.toArray rfl rfl 26 _ (unhide HB5) hci rfl zero_one ?_)
        refine bodyPost_ret (results_cell_tmp2 (P := Try.prog) rfl _ _ w.heap.size 26 zeroL.toArray (0, 0) _ rfl (unhide HB6) Try.underlying26 rfl callInfo) rfl ?_
        exact ⟨slN, slN, slN, rfl, (ClOwn.zero _ _ 0), below_setRow (unhide Hbw) (Nat.le_refl _) _⟩
      subst hev
      have hr0 := unhide Hr0
      rw [if_pos rfl] at hr0
      subst hr0
      clear Hr0 HB6 HB5
      have hst5 := unhide Hst5
      obtain ⟨v0, v1, v2, v3, v4, v5, v6, v7, v8, v9⟩ := box10 hst5.call
      obtain ⟨rb, ro, rm, rc, rblk, rrd, rmc, rm4⟩ := hst5.rdr
      have rcell := rblk.cell (i := 0) rfl
      have hrm : r.b.length = rm := by simpa [bys] using rrd.len1
      clear hst5 rblk rrd
      go_wp2_with fail
      have HB7 := hide (show w5.drew.heap[w.heap.size]? = some (.cells (clCells q x y z) 26 (0, 0)) from (unhide Hst5).call)
      have rcell2 : w5.drew.cell? ⟨w1.heap.size, 0, none⟩ = some (.slice (some ⟨rb, ro, none⟩) rm rc) := rcell
      have hsub : IntKind.i64.wrap ((m : Int) - (rm : Int)) = ((m : Int) - (rm : Int)) := IntWalk.i64_in _ (by omega)
      clear rcell v0 v1 v2 v3 v4 v5 v6 v7 v8 v9
      refine wp_region_held_drew (S := fun w' => w' = w5.drew) (by kernel_rfl) rfl (fun hHeld => ?_)
      clear hHeld
      refine takeD (i := 0) (d := some 78) (v := .agg (clCells q x y z)) rfl rfl (by kernel_rfl) (by kernel_rfl) (by kernel_rfl) (fun _ _ _ h => h) (yields_load (by rfl) 26 (.tmp 2) rfl w.heap.size rfl 26 _ (0, 0) _ (unhide HB7) Try.underlying26 rfl callInfo) rfl ?_
      simp only [Act.put, List.setIfInBounds_toArray, List.set_cons_zero, List.set_cons_succ]
      refine takeD (i := 1) (d := some 79) (v := .slice (some ⟨ab, ao, none⟩) m _) rfl rfl (by kernel_rfl) (by kernel_rfl) (by kernel_rfl) (fun _ _ _ h => h) (yields_move (by rfl) (.tmp 0) rfl _ rfl) rfl ?_
      simp only [Act.put, List.setIfInBounds_toArray, List.set_cons_zero, List.set_cons_succ]
      refine takeD (i := 2) (d := some 80) (v := .int .i64 (m : Nat)) rfl rfl (by kernel_rfl) (by kernel_rfl) (by kernel_rfl) (fun _ _ _ h => h) (yields_len (by rfl) (.tmp 79) rfl _ m _ rfl) rfl ?_
      simp only [Act.put, List.setIfInBounds_toArray, List.set_cons_zero, List.set_cons_succ]
      refine takeD (i := 3) (d := some 81) (v := .pointer (some ⟨w1.heap.size, 0, none⟩)) rfl rfl (by kernel_rfl) (by kernel_rfl) (by kernel_rfl) (fun _ _ _ h => h) (yields_move (by rfl) (.tmp 7) rfl _ rfl) rfl ?_
      simp only [Act.put, List.setIfInBounds_toArray, List.set_cons_zero, List.set_cons_succ]
      refine takeD (i := 4) (d := some 82) (v := .pointer (some ⟨w1.heap.size, 0, none⟩)) rfl rfl (by kernel_rfl) (by kernel_rfl) (by kernel_rfl) (fun _ _ _ h => h) (yields_nil (by rfl) (.tmp 81) rfl ⟨w1.heap.size, 0, none⟩ rfl) rfl ?_
      simp only [Act.put, List.setIfInBounds_toArray, List.set_cons_zero, List.set_cons_succ]
      refine takeD (i := 5) (d := some 83) (v := .pointer (some ⟨w1.heap.size, 0, none⟩)) rfl rfl (by kernel_rfl) (by kernel_rfl) (by kernel_rfl) (fun _ _ _ h => h) (yields_field0 (by rfl) (.tmp 82) rfl w1.heap.size rfl) rfl ?_
      simp only [Act.put, List.setIfInBounds_toArray, List.set_cons_zero, List.set_cons_succ]
      refine takeD (i := 6) (d := some 84) (v := .slice (some ⟨rb, ro, none⟩) rm rc) rfl rfl (by kernel_rfl) (by kernel_rfl) (by kernel_rfl) (fun _ _ _ h => h) (yields_slice (by rfl) (.tmp 83) rfl w1.heap.size 0 rfl _ rm rc rcell2) rfl ?_
      simp only [Act.put, List.setIfInBounds_toArray, List.set_cons_zero, List.set_cons_succ]
      refine takeD (i := 7) (d := some 85) (v := .int .i64 (rm : Nat)) rfl rfl (by kernel_rfl) (by kernel_rfl) (by kernel_rfl) (fun _ _ _ h => h) (yields_len (by rfl) (.tmp 84) rfl _ rm rc rfl) rfl ?_
      simp only [Act.put, List.setIfInBounds_toArray, List.set_cons_zero, List.set_cons_succ]
      refine takeD (i := 8) (d := some 86) (v := .int .i64 ((m : Int) - (rm : Int))) rfl rfl (by kernel_rfl) (by kernel_rfl) (by kernel_rfl) (fun _ _ _ h => h) (yields_sub (by rfl) (.tmp 80) (.tmp 85) rfl (m : Int) (rm : Int) rfl rfl hsub) rfl ?_
      simp only [Act.put, List.setIfInBounds_toArray, List.set_cons_zero, List.set_cons_succ]
      refine storeD (i := 9) rfl rfl (by kernel_rfl) (by rfl) 26 (.tmp 2) (.tmp 78) rfl w.heap.size (clCells q x y z) rfl rfl 26 (unhide HB7) callInfo (cl_one q x y z) ?_
      refine takeD (i := 10) (d := some 3) (v := .int .i64 ((m : Int) - (rm : Int))) rfl rfl (by kernel_rfl) (by kernel_rfl) (by kernel_rfl) (fun _ _ _ h => h) (yields_assign (by rfl) (.tmp 86) rfl _ rfl) rfl ?_
      simp only [Act.put, List.setIfInBounds_toArray, List.set_cons_zero, List.set_cons_succ]
      refine takeD (i := 11) (d := some 4) (v := .int .i64 0) rfl rfl (by kernel_rfl) (by kernel_rfl) (by kernel_rfl) (fun _ _ _ h => h) (yields_assign (by rfl) (.const (.int .i64 0)) rfl _ rfl) rfl ?_
      simp only [Act.put, List.setIfInBounds_toArray, List.set_cons_zero, List.set_cons_succ]
      refine wpAnyH_done (by kernel_rfl) ?_ _
      go_wp2_with fail
      refine bodyPost_ret (results_cell_tmp2 (P := Try.prog) rfl _ _ w.heap.size 26 (clCells q x y z) (0, 0) _ rfl (unhide HB7) Try.underlying26 rfl callInfo) rfl ?_
      have hnum : ((m : Int) - (rm : Int)) = ((l.length + 1 - r.b.length : Nat) : Int) := by
        have h1 := unhide Hml
        have h2 : r.b.length ≤ l.length := unhide Hle'
        omega
      refine ⟨x, y, z, ?_, ((unhide Hst5).own.below (below_drew' (Below.refl _ _))).base (by omega), below_drew' (unhide Hst5).below⟩
      show Ending.returned (.tuple #[_, .int .i64 ((m : Int) - (rm : Int)), _]) = _
      rw [hnum]
      rfl
    obtain ⟨f, hfk⟩ : ∃ f, (Cl.fsN k.toNat)[j]? = some f := ⟨_, List.getElem?_eq_getElem (by rw [unhide Hn]; exact hlt)⟩
    have hf9 : f < 9 := (Cl.fsN_ok k.toNat).1 f (List.mem_of_getElem? hfk)
    have hc0 : wr.cell? ⟨bl, j, none⟩ = some (.int .i64 (f : Nat)) := by
      obtain ⟨b1, o1, he, hb1, hc1⟩ := (unhide HBL5).at_ (fs_at hfk)
      obtain ⟨rfl, rfl⟩ : bl = b1 ∧ 0 = o1 := by injection he with he; injection he with h1 h2 h3; exact ⟨h1, h2⟩
      rw [Nat.zero_add] at hc1
      exact (World.cell?_of_block (w := W3) (a := ⟨bl, j, none⟩) hst.flds).trans hc1
    have hsn := rflds_snoc hfk (Cl.kindC k.toNat, ⟨l, false⟩)
    have Hsn := hide hsn
    generalize Cl.rflds ((Cl.fsN k.toNat).take j) (Cl.kindC k.toNat, ⟨l, false⟩) = st at *
    have hj9 : (j : Int) < (n : Int) := by omega
    clear hfk hsn
    by_cases h5 : f < 5
    · have t5 : (((f : Nat) : Int) == 5) = false := beq_eq_false_iff_ne.2 (by omega)
      have t6 : (((f : Nat) : Int) == 6) = false := beq_eq_false_iff_ne.2 (by omega)
      have t7 : (((f : Nat) : Int) == 7) = false := beq_eq_false_iff_ne.2 (by omega)
      have t8 : (((f : Nat) : Int) == 8) = false := beq_eq_false_iff_ne.2 (by omega)
      have K1 := hide (number_any w.heap.size f wr h5)
      have K2 := hide (number_yes w1.heap.size B 8 st.2 wr hst.rdr (by omega) (by omega))
      have hset : (clL st.1 x y z).set (f + 1) (.int .u64 (Cl.rnum st.2 8).1) = clL (Cl.rfld st f).1 x y z := by
        obtain rfl | rfl | rfl | rfl | rfl : f = 0 ∨ f = 1 ∨ f = 2 ∨ f = 3 ∨ f = 4 := by omega
        all_goals rfl
      have hrd2 : (Cl.rfld st f).2 = (Cl.rnum st.2 8).2 := by
        obtain rfl | rfl | rfl | rfl | rfl : f = 0 ∨ f = 1 ∨ f = 2 ∨ f = 3 ∨ f = 4 := by omega
        all_goals rfl
      have how : ∀ wx, ClOwn wx W3.heap.size st.1 x y z → ClOwn wx W3.heap.size (Cl.rfld st f).1 x y z := by
        intro wx
        obtain rfl | rfl | rfl | rfl | rfl : f = 0 ∨ f = 1 ∨ f = 2 ∨ f = 3 ∨ f = 4 := by omega
        all_goals exact fun h => ⟨h.o1, h.o2, h.o3⟩
      have hcel : ∃ v, (clL st.1 x y z)[f + 1]? = some (.int .u64 v) := by
        obtain rfl | rfl | rfl | rfl | rfl : f = 0 ∨ f = 1 ∨ f = 2 ∨ f = 3 ∨ f = 4 := by omega
        all_goals exact ⟨_, rfl⟩
      obtain ⟨v0, hv0⟩ := hcel
      have Hset := hide hset
      have Hrd2 := hide hrd2
      have How := hide how
      have Hv0 := hide hv0
      clear hset hrd2 how hv0 hst h5
      go_wp2_with (go_at_call 44; refine (unhide K1).mono ?_; rintro e w4 ⟨rfl, rfl⟩)
      refine (unhide K2).mono ?_
      rintro e w4 ⟨rfl, hr4, hg4⟩
      have hst4 := (unhide Hst).went hg4 hr4
      have hc4 := hst4.call.cell (i := f + 1) (unhide Hv0)
      have hf4 := hst4.call.free (f + 1)
      have hlt4 := hst4.call.lt
      have hst5 := hst4.store (f + 1) _ (unhide Hset) ((unhide How) _ hst4.own)
      rw [← unhide Hrd2] at hst5
      have Hst5 := hide hst5
      clear hr4 hg4 hst4 hst5 K1 K2 hc0 t5 t6 t7 t8 Hset Hrd2 How Hv0 Hst
      go_wp2_with fail
      clear hc4 hf4
      go_roundg (n - (j + 1))
      case measure => have := unhide Hgk; omega
      case rel => exact ⟨j + 1, x, y, z, rfl, by omega, by go_num, by rw [unhide Hsn]; exact unhide Hst5⟩
    obtain rfl | rfl | rfl | rfl : f = 5 ∨ f = 6 ∨ f = 7 ∨ f = 8 := by omega
    · have K2 := hide (bytes_any w1.heap.size B st.2 wr hst.rdr (by omega))
      clear hst h5
      go_wp2_with fail
      refine (unhide K2).mono ?_
      rintro e w4 ⟨A4, c4, rfl, ho4, hr4, hg4⟩
      have hcv : (convert 24 9 (.slice A4 (Cl.rtxt st.2).1.length c4)).run Try.prog w4 = .ok (.string (Cl.ba (Cl.rtxt st.2).1)) w4 := conv_any (Rd.of_own ho4) Try.underlying24 Try.underlying5 Try.underlying9
      have hst4 := (unhide Hst).went hg4 hr4
      have hc4 := hst4.call.cell (i := 6) rfl
      have hf4 := hst4.call.free 6
      have hlt4 := hst4.call.lt
      have hst5 := hst4.store 6 (.string (Cl.ba (Cl.rtxt st.2).1)) (q' := (Cl.rfld st 5).1) (x' := x) (y' := y) (z' := z) rfl ⟨hst4.own.o1, hst4.own.o2, hst4.own.o3⟩
      have Hst5 := hide hst5
      clear ho4 hr4 hg4 hst4 hst5 K2 hc0 Hst
      go_wp2_with fail
      clear hc4 hf4 hcv
      go_roundg (n - (j + 1))
      case measure => have := unhide Hgk; omega
      case rel => exact ⟨j + 1, x, y, z, rfl, by omega, by go_num, by rw [unhide Hsn]; exact unhide Hst5⟩
    · have K2 := hide (list_any w1.heap.size B st.2 wr hst.rdr (by omega))
      clear hst h5
      go_wp2_with fail
      refine (unhide K2).mono ?_
      rintro e w4 ⟨A4, c4, rfl, ho4, hr4, hg4⟩
      have hst4 := (unhide Hst).went hg4 hr4
      have hc4 := hst4.call.cell (i := 7) rfl
      have hf4 := hst4.call.free 7
      have hlt4 := hst4.call.lt
      have hst5 := hst4.store 7 (.slice A4 (Cl.rlst st.2).1.length c4) (q' := (Cl.rfld st 6).1) (x' := ⟨A4, (Cl.rlst st.2).1.length, c4⟩) (y' := y) (z' := z) rfl ⟨own_base ho4 a4, hst4.own.o2, hst4.own.o3⟩
      have Hst5 := hide hst5
      clear ho4 hr4 hg4 hst4 hst5 K2 hc0 Hst
      go_wp2_with fail
      clear hc4 hf4
      go_roundg (n - (j + 1))
      case measure => have := unhide Hgk; omega
      case rel => exact ⟨j + 1, _, y, z, rfl, by omega, by go_num, by rw [unhide Hsn]; exact unhide Hst5⟩
    · have K2 := hide (list_any w1.heap.size B st.2 wr hst.rdr (by omega))
      clear hst h5
      go_wp2_with fail
      refine (unhide K2).mono ?_
      rintro e w4 ⟨A4, c4, rfl, ho4, hr4, hg4⟩
      have hst4 := (unhide Hst).went hg4 hr4
      have hc4 := hst4.call.cell (i := 8) rfl
      have hf4 := hst4.call.free 8
      have hlt4 := hst4.call.lt
      have hst5 := hst4.store 8 (.slice A4 (Cl.rlst st.2).1.length c4) (q' := (Cl.rfld st 7).1) (x' := x) (y' := ⟨A4, (Cl.rlst st.2).1.length, c4⟩) (z' := z) rfl ⟨hst4.own.o1, own_base ho4 a4, hst4.own.o3⟩
      have Hst5 := hide hst5
      clear ho4 hr4 hg4 hst4 hst5 K2 hc0 Hst
      go_wp2_with fail
      clear hc4 hf4
      go_roundg (n - (j + 1))
      case measure => have := unhide Hgk; omega
      case rel => exact ⟨j + 1, x, _, z, rfl, by omega, by go_num, by rw [unhide Hsn]; exact unhide Hst5⟩
    · have K2 := hide (bytes_any w1.heap.size B st.2 wr hst.rdr (by omega))
      clear hst h5
      go_wp2_with fail
      refine (unhide K2).mono ?_
      rintro e w4 ⟨A4, c4, rfl, ho4, hr4, hg4⟩
      have hst4 := (unhide Hst).went hg4 hr4
      have hc4 := hst4.call.cell (i := 9) rfl
      have hf4 := hst4.call.free 9
      have hlt4 := hst4.call.lt
      have hst5 := hst4.store 9 (.slice A4 (Cl.rtxt st.2).1.length c4) (q' := (Cl.rfld st 8).1) (x' := x) (y' := y) (z' := ⟨A4, (Cl.rtxt st.2).1.length, c4⟩) rfl ⟨hst4.own.o1, hst4.own.o2, own_base ho4 a4⟩
      have Hst5 := hide hst5
      clear ho4 hr4 hg4 hst4 hst5 K2 hc0 Hst
      go_wp2_with fail
      clear hc4 hf4
      go_roundg (n - (j + 1))
      case measure => have := unhide Hgk; omega
      case rel => exact ⟨j + 1, x, y, _, rfl, by omega, by go_num, by rw [unhide Hsn]; exact unhide Hst5⟩
end Go.Proofs.Ytphbkjdheopmhaa
