/- The statement CallsScript: whatever the input, the law returns true, and what was there reads as it did. No conditions. Ahead of it: The walk of calls.Read where there is a kind. Conditions: there are fewer than 2^32 bytes. The walk of hostelref25.Form; printed by gen_form2.py. Conditions: as calls'. Laws for a region that draws and stores a row elsewhere than where it reads. No conditions. The walk of hostelref25.Read where there is no call. Conditions: there are fewer than 2^32 bytes. The walk of hostelref25.Read where there is a kind; printed by gen_rread2.py. Conditions: there are fewer than 2^32 bytes. What is needed to walk Steps: the row of steps, and laws for the region that appends one. No conditions. The walks of calls.Steps and hostelref25.Steps; printed by gen_steps.py. Conditions: there are fewer than 2^32 bytes. The walks of the law's own helpers: large, Large, works. Conditions: as calls'. What an argument that is a call reads as: ten fields, three of them lists. No conditions. The walk of CallsChecks. Conditions: as the argument's. Append of one byte onto a row of the call's own: in place, or all that was there stays. No conditions. The walk of hostelref00.goneOn: 40 marks behind a row, the slice itself read as before. Conditions: there are fewer than 2^32 bytes. What is needed to walk CallsScript: steps as an argument, the three rows that it grows, and the plain law. No conditions. What Form answers, error or not. Conditions: as Form's. The walk of the law's eq where both lists are the same. Conditions: as the argument's. The walk of CallsScript. Conditions: as the argument's. -/
import Derived.Test.YtphbkjdheopmhaaKs2
import Derived.Lib.ConvBytes
import Derived.Test.YtphbkjdheopmhaaKs1
import Derived.Deep.Slices
import Derived.Lib.SmallJoins
import Derived.Maps.AppendAt
import Derived.Deep.LoopGhost
import Derived.Test.YtphbkjdheopmhaaRows
import Derived.ProofKit
import Derived.OpenShut
import Derived.ShutString
import Derived.ChangeOld
import Derived.Below
import Derived.SliceStrings
namespace Go.Proofs.Ytphbkjdheopmhaa
set_option linter.unusedVariables false
set_option linter.unusedSimpArgs false
open Go.RowKit

/-- While fields are read: the call's block, the reader's, the list of fields. -/
structure RSt (w w3 wr : World) (gr bl B : Nat) (st : Cl.C × Cl.R) (x y z : Sl) : Prop where
  call : Blk wr w.heap.size 26 (clL st.1 x y z)
  rdr : Rdr wr gr B st.2
  own : ClOwn wr w3.heap.size st.1 x y z
  flds : wr.heap[bl]? = w3.heap[bl]?
  below : Below w.heap.size w wr
  size : w3.heap.size ≤ wr.heap.size
  g1 : w.heap.size < bl
  g2 : bl < gr
  g3 : gr < w3.heap.size
  g4 : B ≤ w.heap.size
theorem RSt.went {w w3 wr w4 : World} {gr bl B : Nat} {st : Cl.C × Cl.R} {x y z : Sl} {r' : Cl.R} (h : RSt w w3 wr gr bl B st x y z) (hg : wr.grownBy w4 (some gr)) (hr : Rdr w4 gr B r') : RSt w w3 w4 gr bl B (st.1, r') x y z := by
  have a1 := h.g1; have a2 := h.g2; have a3 := h.g3; have a4 := h.size
  exact ⟨(hg.block _ (by omega) (by simp; omega)).trans h.call, hr, h.own.grown hg a3, (hg.block bl (by omega) (by simp; omega)).trans h.flds, h.below.trans (grown_some_below hg (by omega) (by omega)), Nat.le_trans h.size hg.size, a1, a2, a3, h.g4⟩
theorem RSt.store {w w3 wr : World} {gr bl B : Nat} {st : Cl.C × Cl.R} {x y z : Sl} (h : RSt w w3 wr gr bl B st x y z) (i : Nat) (u : Value) {q' : Cl.C} {x' y' z' : Sl} (he : (clL st.1 x y z).set i u = clL q' x' y' z') (ho : ClOwn wr w3.heap.size q' x' y' z') :
    RSt w w3 (wr.setCell ⟨w.heap.size, i, none⟩ u) gr bl B (q', st.2) x' y' z' := by
  have a1 := h.g1; have a2 := h.g2; have a3 := h.g3; have a4 := h.size
  refine ⟨?_, ?_, ho.set (by show w.heap.size < _; omega) u, (heap_setCell_other _ _ _ _ (by simp; omega)).trans h.flds, h.below.setCell (Nat.le_refl _) _, by simpa using h.size, a1, a2, a3, h.g4⟩
  · have := h.call.set i u
    rwa [he] at this
  · obtain ⟨ab, ao, m, c, q1, q2, q3, q4⟩ := h.rdr
    exact ⟨ab, ao, m, c, q1.other (by simp; omega) u, q2.setCell h.g4 u, q3, q4⟩

theorem rtxt_le (r : Cl.R) : (Cl.rtxt r).1.length ≤ r.b.length ∧ (Cl.rtxt r).2.b.length ≤ r.b.length := by
  have h1 := take_len r 2
  have h2 := take_len (Cl.rnum r 2).2 (Cl.rnum r 2).1
  have e : (Cl.rnum r 2).2 = (Cl.take r 2).2 := rfl
  rw [e] at h2
  exact ⟨Nat.le_trans h2.1 h1.2, Nat.le_trans h2.2 h1.2⟩
theorem rtxts_le (n : Nat) (r : Cl.R) : (Cl.rtxts n r).1.length ≤ n ∧ (∀ x ∈ (Cl.rtxts n r).1, x.size ≤ r.b.length) ∧ (Cl.rtxts n r).2.b.length ≤ r.b.length := by
  induction n generalizing r with
  | zero => exact ⟨Nat.le_refl _, fun x hx => absurd hx List.not_mem_nil, Nat.le_refl _⟩
  | succ n ih =>
    cases hg : r.gone
    · rw [rtxts_step hg]
      obtain ⟨h1, h2, h3⟩ := ih (Cl.rtxt r).2
      obtain ⟨h4, h5⟩ := rtxt_le r
      refine ⟨by simp; omega, fun x hx => ?_, Nat.le_trans h3 h5⟩
      rcases List.mem_cons.1 hx with rfl | hx
      · rw [Cl.ba_size]; exact h4
      · exact Nat.le_trans (h2 x hx) h5
    · rw [rtxts_end (.inr hg)]
      exact ⟨Nat.zero_le _, fun x hx => absurd hx List.not_mem_nil, Nat.le_refl _⟩
theorem rlst_le (r : Cl.R) : (Cl.rlst r).1.length ≤ 255 ∧ (∀ x ∈ (Cl.rlst r).1, x.size ≤ r.b.length) ∧ (Cl.rlst r).2.b.length ≤ r.b.length := by
  obtain ⟨h1, h2, h3⟩ := rtxts_le (Cl.rnum r 1).1 (Cl.rnum r 1).2
  have h4 := rnum1_lt r
  have h5 : (Cl.rnum r 1).2.b.length ≤ r.b.length := (take_len r 1).2
  have h1' : (Cl.rlst r).1.length ≤ (Cl.rnum r 1).1 := h1
  exact ⟨by omega, fun x hx => Nat.le_trans (h2 x hx) h5, Nat.le_trans h3 h5⟩
theorem rfld_fit (s : Cl.C × Cl.R) (f : Nat) (h : ClFit s.1) (hb : s.2.b.length ≤ 4294967296) : ClFit (Cl.rfld s f).1 ∧ (Cl.rfld s f).2.b.length ≤ 4294967296 := by
  obtain ⟨k, a, b, c, d, e, p, l1, l2, l3, s1, s2⟩ := h
  have t1 := rtxt_le s.2
  have t2 := rlst_le s.2
  have t3 : (Cl.rnum s.2 8).2.b.length ≤ s.2.b.length := (take_len s.2 8).2
  have t4 := Cl.rnum_lt s.2
  have hM : 4294967296 ≤ maxLen := by decide
  unfold Cl.rfld
  split
  · exact ⟨⟨k, a, b, c, d, e, by simp only [Cl.ba_size]; omega, l1, l2, l3, s1, s2⟩, by simp only; omega⟩
  · exact ⟨⟨k, a, b, c, d, e, p, by simp only; omega, l2, l3, fun x hx => by have := t2.2.1 x hx; omega, s2⟩, by simp only; omega⟩
  · exact ⟨⟨k, a, b, c, d, e, p, l1, by simp only; omega, l3, s1, fun x hx => by have := t2.2.1 x hx; omega⟩, by simp only; omega⟩
  · exact ⟨⟨k, a, b, c, d, e, p, l1, l2, by simp only; omega, s1, s2⟩, by simp only; omega⟩
  · exact ⟨⟨k, t4, b, c, d, e, p, l1, l2, l3, s1, s2⟩, by simp only; omega⟩
  · exact ⟨⟨k, a, t4, c, d, e, p, l1, l2, l3, s1, s2⟩, by simp only; omega⟩
  · exact ⟨⟨k, a, b, t4, d, e, p, l1, l2, l3, s1, s2⟩, by simp only; omega⟩
  · exact ⟨⟨k, a, b, c, t4, e, p, l1, l2, l3, s1, s2⟩, by simp only; omega⟩
  · exact ⟨⟨k, a, b, c, d, t4, p, l1, l2, l3, s1, s2⟩, by simp only; omega⟩
theorem rflds_fit (l : List Nat) (s : Cl.C × Cl.R) (h : ClFit s.1) (hb : s.2.b.length ≤ 4294967296) : ClFit (Cl.rflds l s).1 ∧ (Cl.rflds l s).2.b.length ≤ 4294967296 := by
  induction l generalizing s with
  | nil => exact ⟨h, hb⟩
  | cons f r ih => exact ih _ (rfld_fit s f h hb).1 (rfld_fit s f h hb).2
theorem rfld_len (s : Cl.C × Cl.R) (f : Nat) : (Cl.rfld s f).2.b.length ≤ s.2.b.length := by
  have t1 := (rtxt_le s.2).2
  have t2 := (rlst_le s.2).2.2
  have t3 : (Cl.rnum s.2 8).2.b.length ≤ s.2.b.length := (take_len s.2 8).2
  unfold Cl.rfld
  split <;> assumption
theorem rflds_len (l : List Nat) (s : Cl.C × Cl.R) : (Cl.rflds l s).2.b.length ≤ s.2.b.length := by
  induction l generalizing s with
  | nil => exact Nat.le_refl _
  | cons f r ih => exact Nat.le_trans (ih _) (rfld_len s f)
theorem kindC_fit {k : Nat} (hk : k < 256) : ClFit (Cl.kindC k) :=
  ⟨hk, by simp [Cl.kindC], by simp [Cl.kindC], by simp [Cl.kindC], by simp [Cl.kindC], by simp [Cl.kindC], by show (Cl.ba []).size ≤ _; rw [Cl.ba_size]; simp, by simp [Cl.kindC], by simp [Cl.kindC], by simp [Cl.kindC], by simp [Cl.kindC], by simp [Cl.kindC]⟩
theorem rflds_snoc {l : List Nat} {k f : Nat} (h : l[k]? = some f) (s : Cl.C × Cl.R) : Cl.rflds (l.take (k + 1)) s = Cl.rfld (Cl.rflds (l.take k) s) f := by
  rw [List.take_add_one, h, Cl.rflds_app]
  rfl
theorem read_cons (k : UInt8) (r : List UInt8) (h1 : 1 ≤ k.toNat) (h2 : k.toNat ≤ 12) : Cl.read (k :: r) = if (Cl.rall k.toNat r).2.gone = true then (Cl.zeroC, 0, 24)
      else if Cl.check (Cl.rall k.toNat r).1 = 0 then ((Cl.rall k.toNat r).1, r.length + 1 - (Cl.rall k.toNat r).2.b.length, 0)
      else (Cl.zeroC, 0, Cl.check (Cl.rall k.toNat r).1) := by
  show (if k.toNat = 0 ∨ 12 < k.toNat then _ else _) = _
  rw [if_neg (by omega)]

/-- What the map of fields holds of a kind. -/
theorem look_yes2 {w0 w : World} {g k : Nat} (h : FM w0 g 12 w) (h1 : 1 ≤ k) (h2 : k ≤ 12) : ∃ b, w0.heap.size ≤ b ∧ b < w.heap.size ∧
    (Instr.lookup 55 (.map (some g)) (.int .u8 k) true).run Try.prog w = .ok (.tuple #[.slice (some ⟨b, 0, none⟩) (fs k).length (fs k).length, .bool true]) w ∧
    (Instr.lookup 55 (.map (some g)) (.int .u8 k) false).run Try.prog w = .ok (.slice (some ⟨b, 0, none⟩) (fs k).length (fs k).length) w ∧
    Rd w w.heap.size 1 (some ⟨b, 0, none⟩) (fs k).length ((fs k).map (Value.int .i64)) := by
  obtain ⟨bs, hm, hb, _, _⟩ := h
  have hf := fmap_find bs 12 k h1 h2
  have r1 := run_mapLook (P := Try.prog) (z := .slice none 0 0) Try.underlying55 Try.underlying5 (x := ((k : Nat) : Int)) (by simp [Go.MapKept.IsKey]) (zero_fields w) hm
  have r2 := run_mapLook1 (P := Try.prog) (z := .slice none 0 0) Try.underlying55 Try.underlying5 (x := ((k : Nat) : Int)) (by simp [Go.MapKept.IsKey]) (zero_fields w) hm
  rw [hf] at r1 r2
  obtain ⟨q1, q2, q3⟩ := hb (k - 1) (by omega)
  rw [show k - 1 + 1 = k from by omega] at q1
  refine ⟨bs (k - 1), q3, lt_of_block q1, r1, r2, ⟨by simp, ?_⟩⟩
  refine .inr ⟨bs (k - 1), 0, rfl, lt_of_block q1, fun j u hu => ?_⟩
  rw [cell_of_row _ _ _ _ _ _ q1, Nat.zero_add]
  simpa [fcells] using hu
theorem rdr_first {w : World} {B ab ao m c : Nat} {k : UInt8} {l : List UInt8} (h : Rd w B 1 (some ⟨ab, ao, none⟩) m (bys (k :: l))) (hB : B ≤ w.heap.size) (hc : c = 1) (hmc : m ≤ c) (hm : m ≤ 4294967296) :
    Rdr (w.alloc (.cells #[.slice (some ⟨ab, ao, none⟩) (m - 1) 0, .bool false] 77)) w.heap.size B ⟨l, false⟩ := by
  have hml : m = l.length + 1 := by simpa [bys] using h.len1.symm
  have hl : l = [] := List.eq_nil_of_length_eq_zero (by omega)
  subst hl
  exact ⟨ab, ao, m - 1, 0, Blk.new w _ [.slice (some ⟨ab, ao, none⟩) (m - 1) 0, .bool false], by rw [show m - 1 = 0 from by simp at hml; omega]; exact ⟨rfl, .inl rfl⟩, by simp at hml; omega, by omega⟩
theorem rdr_next {w : World} {B ab ao m c : Nat} {k : UInt8} {l : List UInt8} (h : Rd w B 1 (some ⟨ab, ao, none⟩) m (bys (k :: l))) (hB : B ≤ w.heap.size) (hc : ¬ c = 1) (hmc : m ≤ c) (hm : m ≤ 4294967296) :
    Rdr (w.alloc (.cells #[.slice (some ⟨ab, ao + 1, none⟩) (m - 1) (c - 1), .bool false] 77)) w.heap.size B ⟨l, false⟩ := by
  have hml : m = l.length + 1 := by simpa [bys] using h.len1.symm
  have h1 := h.from (k := 1) (by omega)
  exact ⟨ab, ao + 1, m - 1, c - 1, Blk.new w _ [.slice (some ⟨ab, ao + 1, none⟩) (m - 1) (c - 1), .bool false], h1.alloc hB _, by omega, by omega⟩

set_option maxRecDepth 100000 in
set_option maxHeartbeats 8000000 in
theorem callRead_good (A : Option Addr) (m c B : Nat) (k : UInt8) (l : List UInt8) (w : World) (hb : Rd w B 1 A m (bys (k :: l))) (hB : B ≤ w.heap.size) (hm : m ≤ 4294967296) (hmc : m ≤ c) (hk1 : 1 ≤ k.toNat) (hk2 : k.toNat ≤ 12) :
    Calls Try.prog 21 #[.slice A m c] w (ReadEnd (Cl.read (k :: l)) w) := by
  obtain ⟨res, hres⟩ : ∃ res, Cl.read (k :: l) = res := ⟨_, rfl⟩
  rw [hres]
  rw [read_cons k l hk1 hk2] at hres
  have Hres := hide hres
  clear hres
  have hml : m = l.length + 1 := by simpa [bys] using hb.len1.symm
  obtain ⟨ab, ao, rfl, hlt, c0⟩ := hb.at_ (k := 0) (u := .int .u8 k.toNat) (by simp [bys])
  rw [Nat.add_zero] at c0
  have hb0 := Blk.new w 26 zeroL
  have hb1 := Blk.new w 26 [.int .u8 k.toNat, .int .u64 0, .int .u64 0, .int .u64 0, .int .u64 0, .int .u64 0, .string ⟨#[]⟩, .slice none 0 0, .slice none 0 0, .slice none 0 0]
  have hc1 := (World.cell?_alloc_lt w (.cells zeroL.toArray 26) ⟨ab, ao, none⟩ (by show ab < _; omega)).trans c0
  have hz0 := hb0.cell (i := 0) rfl
  have hf0 := hb0.free 0
  have hbel : Below w.heap.size w (w.alloc (.cells #[.int .u8 k.toNat, .int .u64 0, .int .u64 0, .int .u64 0, .int .u64 0, .int .u64 0, .string ⟨#[]⟩, .slice none 0 0, .slice none 0 0, .slice none 0 0] 26)) := (Below.refl _ _).alloc (Nat.le_refl _) _
  have HB1 := hide hb1
  have Hbel := hide hbel
  have hmz : ((m : Int) == 0) = false := beq_eq_false_iff_ne.2 (by omega)
  have Hml := hide hml
  have hm1 : 1 ≤ m := by omega
  have Hrd := hide hb
  have Hle := hide (rflds_len (Cl.fsN k.toNat) (Cl.kindC k.toNat, ⟨l, false⟩))
  have Hfit := hide (rflds_fit (Cl.fsN k.toNat) (Cl.kindC k.toNat, ⟨l, false⟩) (kindC_fit (by omega)) (by simp only; omega))
  clear hb0 hb1 hb hbel c0 hml
  go_enter Try.func21, Try.ntmps21
  go_wp2_with fail
  generalize hgW : w.alloc (.cells #[.int .u8 k.toNat, .int .u64 0, .int .u64 0, .int .u64 0, .int .u64 0, .int .u64 0, .string ⟨#[]⟩, .slice none 0 0, .slice none 0 0, .slice none 0 0] 26) = W at *
  have hlW : w.heap.size < W.heap.size := (unhide HB1).lt
  clear hgW hz0 hf0 hc1 hmz
  have v0 := (unhide HB1).cell (i := 0) rfl
  go_region_held3 (fun w' => w'.cell? ⟨w.heap.size, 0, none⟩ = some (.int .u8 k.toNat)) (first | exact v0 | exact hx0) (first | (go_at_call 30; refine (fields_any _).mono ?_; rintro e w1 ⟨rfl, hFM0⟩; have hFM : FM W W.heap.size 12 w1 := hFM0.of_drew ⟨_, rfl⟩; clear hFM0; have hx0 := (hFM.below.cell (p := ⟨w.heap.size, 0, none⟩) hlW).trans v0; obtain ⟨bl, hbl1, hblt, hbl2, hbl3, hbl4⟩ := look_yes2 hFM hk1 hk2; have HFb := hide hFM.below; have HBL4 := hide hbl4; clear hbl3 hbl4 hFM))
  have hfb := unhide HFb
  have HB2 := hide ((unhide HB1).below hfb hlW)
  have Hbel2 := hide ((unhide Hbel).trans (hfb.mono (by omega)))
  have hs1 := hfb.size
  have hrd1 := ((unhide Hrd).below ((unhide Hbel).mono hB)).below (hfb.mono (by omega))
  have Hrd1 := hide hrd1
  clear HB1 Hbel hbl2 hx0 v0 hfb HFb hrd1 Hrd
  have hfl := fs_len k.toNat
  rw [hfl]
  rw [hfl] at HBL4
  obtain ⟨n, hn⟩ : ∃ n, (Cl.fsN k.toNat).length = n := ⟨_, rfl⟩
  have hn5 := fsN_len k.toNat
  rw [hn] at HBL4 hn5 ⊢
  have Hn := hide hn
  clear hn hfl
  go_wp2_with fail
  all_goals
    have hs1' := hs1
  all_goals first
    | (have hR := rdr_first (unhide Hrd1) (by omega) (by assumption) hmc hm; generalize hg3 : w1.alloc (.cells #[.slice (some ⟨ab, ao, none⟩) (m - 1) 0, .bool false] 77) = W3 at *; have hb3 : Below w1.heap.size w1 W3 := (by rw [← hg3]; exact (Below.refl _ _).alloc (Nat.le_refl _) _); have hs3 : W3.heap.size = w1.heap.size + 1 := (by rw [← hg3]; simp); clear hg3)
    | (have hR := rdr_next (unhide Hrd1) (by omega) (by assumption) hmc hm; generalize hg3 : w1.alloc (.cells #[.slice (some ⟨ab, ao + 1, none⟩) (m - 1) (c - 1), .bool false] 77) = W3 at *; have hb3 : Below w1.heap.size w1 W3 := (by rw [← hg3]; exact (Below.refl _ _).alloc (Nat.le_refl _) _); have hs3 : W3.heap.size = w1.heap.size + 1 := (by rw [← hg3]; simp); clear hg3)
  all_goals
    have hl3 : w1.heap.size < W3.heap.size := by omega
    have hst0 : RSt w W3 W3 w1.heap.size bl B (Cl.kindC k.toNat, ⟨l, false⟩) slN slN slN := ⟨(unhide HB2).below hb3 (by omega), hR, ClOwn.zero _ _ _, rfl, (unhide Hbel2).trans (hb3.mono (by omega)), Nat.le_refl _, by omega, hblt, hl3, hB⟩
    have Hst0 := hide hst0
    have HBL5 := hide ((unhide HBL4).below hb3)
    clear hs1' hb3 hs3 hR hst0 HBL4 HB2 Hbel2 Hrd1
    try clear hcx
    go_loopg [35] n (fun gk i wr => ∃ (j : Nat) (x y z : Sl), gk = n - j ∧ j ≤ n ∧ i = .int .i64 j ∧ RSt w W3 wr w1.heap.size bl B (Cl.rflds ((Cl.fsN k.toNat).take j) (Cl.kindC k.toNat, ⟨l, false⟩)) x y z)
    case atStart => exact ⟨0, slN, slN, slN, by omega, by omega, rfl, unhide Hst0⟩
    case round =>
    clear Hst0
    obtain ⟨j, x, y, z, hgk, hj, rfl, hst⟩ := hrel
    have Hgk := hide hgk
    have Hst := hide hst
    have a1 := hst.g1
    have a2 := hst.g2
    have a4 := hst.size
    clear hgk
    rcases Nat.lt_or_ge j n with hlt | hge
    case inr =>
      obtain rfl : j = n := by omega
      have e : (Cl.fsN k.toNat).take j = Cl.fsN k.toNat := List.take_of_length_le (by have := unhide Hn; omega)
      rw [e] at Hst
      clear e hst
      clear Hn HBL5 Hgk
      have hr0 := unhide Hres
      have Hfit' := hide (unhide Hfit)
      change Hid (RSt w W3 wr w1.heap.size bl B (Cl.rall k.toNat l) x y z) at Hst
      have Hle' := hide (unhide Hle)
      change Hid ((Cl.rall k.toNat l).2.b.length ≤ l.length) at Hle'
      change Hid (ClFit (Cl.rall k.toNat l).1 ∧ (Cl.rall k.toNat l).2.b.length ≤ 4294967296) at Hfit'
      clear Hres Hfit
      generalize Cl.rall k.toNat l = st at *
      obtain ⟨q, r⟩ := st
      simp only at hr0
      have hst := unhide Hst
      have hbw := hst.below
      have hci := callInfo
      cases hgn : r.gone
      case true =>
        rw [if_pos hgn] at hr0
        subst hr0
        have hc1 : wr.cell? ⟨w1.heap.size, 1, none⟩ = some (.bool true) := by
          obtain ⟨ab, ao, m, c, q1, _⟩ := hst.rdr
          rw [← hgn]
          exact q1.cell (i := 1) rfl
        have HB5 := hide hst.call
        have HB6 := hide (blk_row (m := zeroL) hst.call)
        have Hbw := hide hbw
        clear hst hbw hgn Hst Hfit'
        go_wp2_with ((with_reducible refine (@id (wpList _ _ _ (Oper.mk none (Op.store 26 (.tmp 2) (.tmp 71)) _ _ _ none :: _) _ _) ?_)); refine wpList_store_row rfl 26 (.tmp 2) (.tmp 71) rfl w.heap.size zeroL.toArray rfl rfl 26 _ (unhide HB5) hci rfl zero_one ?_)
        refine bodyPost_ret (results_cell_tmp2 (P := Try.prog) rfl _ _ w.heap.size 26 zeroL.toArray (0, 0) _ rfl (unhide HB6) Try.underlying26 rfl callInfo) rfl ?_
        exact ⟨slN, slN, slN, rfl, (ClOwn.zero _ _ 0), below_setRow (unhide Hbw) (Nat.le_refl _) _⟩
      rw [if_neg (by rw [hgn]; simp)] at hr0
      have hrl : r.b.length ≤ 4294967296 := (unhide Hfit').2
      have K3 := callCheck_any q x y z wr.heap.size wr hst.own.ok (Nat.le_refl _) (unhide Hfit').1
      obtain ⟨ev, hev⟩ : ∃ ev, Cl.check q = ev := ⟨_, rfl⟩
      rw [hev] at hr0 K3
      have HK3 := hide K3
      have hc1 : wr.cell? ⟨w1.heap.size, 1, none⟩ = some (.bool false) := by
        obtain ⟨ab, ao, m, c, q1, _⟩ := hst.rdr
        rw [← hgn]
        exact q1.cell (i := 1) rfl
      obtain ⟨v0, v1, v2, v3, v4, v5, v6, v7, v8, v9⟩ := box10 hst.call
      clear K3 hev hgn
      have Hr0 := hide hr0
      have hltw := hst.call.lt
      clear hr0 hst hbw
      go_wp2_with fail
      refine (unhide HK3).mono ?_
      rintro e w5 ⟨rfl, hb5⟩
      have hst5 := (unhide Hst).went (r' := r) (grownBy_of_below hb5) ((unhide Hst).rdr.below hb5 (by omega) (by omega))
      have HB5 := hide hst5.call
      have HB6 := hide (blk_row (m := zeroL) hst5.call)
      have Hbw := hide hst5.below
      have Hst5 := hide hst5
      clear v0 v1 v2 v3 v4 v5 v6 v7 v8 v9 hc1 HK3 hb5 hst5 Hst
      by_cases hev : ev = 0
      case neg =>
        have hr0 := unhide Hr0
        rw [if_neg hev] at hr0
        subst hr0
        have he1 : (ev != 0) = true := by simpa using hev
        clear hev Hr0
        go_wp2_with ((with_reducible refine (@id (wpList _ _ _ (Oper.mk none (Op.store 26 (.tmp 2) (.tmp 76)) _ _ _ none :: _) _ _) ?_)); refine wpList_store_row rfl 26 (.tmp 2) (.tmp 76) rfl w.heap.size zeroL.toArray rfl rfl 26 _ (unhide HB5) hci rfl zero_one ?_)
        refine bodyPost_ret (results_cell_tmp2 (P := Try.prog) rfl _ _ w.heap.size 26 zeroL.toArray (0, 0) _ rfl (unhide HB6) Try.underlying26 rfl callInfo) rfl ?_
        exact ⟨slN, slN, slN, rfl, (ClOwn.zero _ _ 0), below_setRow (unhide Hbw) (Nat.le_refl _) _⟩
      subst hev
      have hr0 := unhide Hr0
      rw [if_pos rfl] at hr0
      subst hr0
      clear Hr0 HB6 HB5
      have hst5 := unhide Hst5
      obtain ⟨v0, v1, v2, v3, v4, v5, v6, v7, v8, v9⟩ := box10 hst5.call
      obtain ⟨rb, ro, rm, rc, rblk, rrd, rmc, rm4⟩ := hst5.rdr
      have rcell := rblk.cell (i := 0) rfl
      have hrm : r.b.length = rm := by simpa [bys] using rrd.len1
      clear hst5 rblk rrd
      go_wp2_with fail
      have HB7 := hide (show w5.drew.heap[w.heap.size]? = some (.cells (clCells q x y z) 26 (0, 0)) from (unhide Hst5).call)
      have rcell2 : w5.drew.cell? ⟨w1.heap.size, 0, none⟩ = some (.slice (some ⟨rb, ro, none⟩) rm rc) := rcell
      have hsub : IntKind.i64.wrap ((m : Int) - (rm : Int)) = ((m : Int) - (rm : Int)) := IntWalk.i64_in _ (by omega)
      clear rcell v0 v1 v2 v3 v4 v5 v6 v7 v8 v9
      refine wp_region_held_drew (S := fun w' => w' = w5.drew) (by kernel_rfl) rfl (fun hHeld => ?_)
      clear hHeld
      refine takeD (i := 0) (d := some 78) (v := .agg (clCells q x y z)) rfl rfl (by kernel_rfl) (by kernel_rfl) (by kernel_rfl) (fun _ _ _ h => h) (yields_load (by rfl) 26 (.tmp 2) rfl w.heap.size rfl 26 _ (0, 0) _ (unhide HB7) Try.underlying26 rfl callInfo) rfl ?_
      simp only [Act.put, List.setIfInBounds_toArray, List.set_cons_zero, List.set_cons_succ]
      refine takeD (i := 1) (d := some 79) (v := .slice (some ⟨ab, ao, none⟩) m _) rfl rfl (by kernel_rfl) (by kernel_rfl) (by kernel_rfl) (fun _ _ _ h => h) (yields_move (by rfl) (.tmp 0) rfl _ rfl) rfl ?_
      simp only [Act.put, List.setIfInBounds_toArray, List.set_cons_zero, List.set_cons_succ]
      refine takeD (i := 2) (d := some 80) (v := .int .i64 (m : Nat)) rfl rfl (by kernel_rfl) (by kernel_rfl) (by kernel_rfl) (fun _ _ _ h => h) (yields_len (by rfl) (.tmp 79) rfl _ m _ rfl) rfl ?_
      simp only [Act.put, List.setIfInBounds_toArray, List.set_cons_zero, List.set_cons_succ]
      refine takeD (i := 3) (d := some 81) (v := .pointer (some ⟨w1.heap.size, 0, none⟩)) rfl rfl (by kernel_rfl) (by kernel_rfl) (by kernel_rfl) (fun _ _ _ h => h) (yields_move (by rfl) (.tmp 7) rfl _ rfl) rfl ?_
      simp only [Act.put, List.setIfInBounds_toArray, List.set_cons_zero, List.set_cons_succ]
      refine takeD (i := 4) (d := some 82) (v := .pointer (some ⟨w1.heap.size, 0, none⟩)) rfl rfl (by kernel_rfl) (by kernel_rfl) (by kernel_rfl) (fun _ _ _ h => h) (yields_nil (by rfl) (.tmp 81) rfl ⟨w1.heap.size, 0, none⟩ rfl) rfl ?_
      simp only [Act.put, List.setIfInBounds_toArray, List.set_cons_zero, List.set_cons_succ]
      refine takeD (i := 5) (d := some 83) (v := .pointer (some ⟨w1.heap.size, 0, none⟩)) rfl rfl (by kernel_rfl) (by kernel_rfl) (by kernel_rfl) (fun _ _ _ h => h) (yields_field0 (by rfl) (.tmp 82) rfl w1.heap.size rfl) rfl ?_
      simp only [Act.put, List.setIfInBounds_toArray, List.set_cons_zero, List.set_cons_succ]
      refine takeD (i := 6) (d := some 84) (v := .slice (some ⟨rb, ro, none⟩) rm rc) rfl rfl (by kernel_rfl) (by kernel_rfl) (by kernel_rfl) (fun _ _ _ h => h) (yields_slice (by rfl) (.tmp 83) rfl w1.heap.size 0 rfl _ rm rc rcell2) rfl ?_
      simp only [Act.put, List.setIfInBounds_toArray, List.set_cons_zero, List.set_cons_succ]
      refine takeD (i := 7) (d := some 85) (v := .int .i64 (rm : Nat)) rfl rfl (by kernel_rfl) (by kernel_rfl) (by kernel_rfl) (fun _ _ _ h => h) (yields_len (by rfl) (.tmp 84) rfl _ rm rc rfl) rfl ?_
      simp only [Act.put, List.setIfInBounds_toArray, List.set_cons_zero, List.set_cons_succ]
      refine takeD (i := 8) (d := some 86) (v := .int .i64 ((m : Int) - (rm : Int))) rfl rfl (by kernel_rfl) (by kernel_rfl) (by kernel_rfl) (fun _ _ _ h => h) (yields_sub (by rfl) (.tmp 80) (.tmp 85) rfl (m : Int) (rm : Int) rfl rfl hsub) rfl ?_
      simp only [Act.put, List.setIfInBounds_toArray, List.set_cons_zero, List.set_cons_succ]
      refine storeD (i := 9) rfl rfl (by kernel_rfl) (by rfl) 26 (.tmp 2) (.tmp 78) rfl w.heap.size (clCells q x y z) rfl rfl 26 (unhide HB7) callInfo (cl_one q x y z) ?_
      refine takeD (i := 10) (d := some 3) (v := .int .i64 ((m : Int) - (rm : Int))) rfl rfl (by kernel_rfl) (by kernel_rfl) (by kernel_rfl) (fun _ _ _ h => h) (yields_assign (by rfl) (.tmp 86) rfl _ rfl) rfl ?_
      simp only [Act.put, List.setIfInBounds_toArray, List.set_cons_zero, List.set_cons_succ]
      refine takeD (i := 11) (d := some 4) (v := .int .i64 0) rfl rfl (by kernel_rfl) (by kernel_rfl) (by kernel_rfl) (fun _ _ _ h => h) (yields_assign (by rfl) (.const (.int .i64 0)) rfl _ rfl) rfl ?_
      simp only [Act.put, List.setIfInBounds_toArray, List.set_cons_zero, List.set_cons_succ]
      refine wpAnyH_done (by kernel_rfl) ?_ _
      go_wp2_with fail
      refine bodyPost_ret (results_cell_tmp2 (P := Try.prog) rfl _ _ w.heap.size 26 (clCells q x y z) (0, 0) _ rfl (unhide HB7) Try.underlying26 rfl callInfo) rfl ?_
      have hnum : ((m : Int) - (rm : Int)) = ((l.length + 1 - r.b.length : Nat) : Int) := by
        have h1 := unhide Hml
        have h2 : r.b.length ≤ l.length := unhide Hle'
        omega
      refine ⟨x, y, z, ?_, ((unhide Hst5).own.below (below_drew' (Below.refl _ _))).base (by omega), below_drew' (unhide Hst5).below⟩
      show Ending.returned (.tuple #[_, .int .i64 ((m : Int) - (rm : Int)), _]) = _
      rw [hnum]
      rfl
    obtain ⟨f, hfk⟩ : ∃ f, (Cl.fsN k.toNat)[j]? = some f := ⟨_, List.getElem?_eq_getElem (by rw [unhide Hn]; exact hlt)⟩
    have hf9 : f < 9 := (Cl.fsN_ok k.toNat).1 f (List.mem_of_getElem? hfk)
    have hc0 : wr.cell? ⟨bl, j, none⟩ = some (.int .i64 (f : Nat)) := by
      obtain ⟨b1, o1, he, hb1, hc1⟩ := (unhide HBL5).at_ (fs_at hfk)
      obtain ⟨rfl, rfl⟩ : bl = b1 ∧ 0 = o1 := by injection he with he; injection he with h1 h2 h3; exact ⟨h1, h2⟩
      rw [Nat.zero_add] at hc1
      exact (World.cell?_of_block (w := W3) (a := ⟨bl, j, none⟩) hst.flds).trans hc1
    have hsn := rflds_snoc hfk (Cl.kindC k.toNat, ⟨l, false⟩)
    have Hsn := hide hsn
    generalize Cl.rflds ((Cl.fsN k.toNat).take j) (Cl.kindC k.toNat, ⟨l, false⟩) = st at *
    have hj9 : (j : Int) < (n : Int) := by omega
    clear hfk hsn
    by_cases h5 : f < 5
    · have t5 : (((f : Nat) : Int) == 5) = false := beq_eq_false_iff_ne.2 (by omega)
      have t6 : (((f : Nat) : Int) == 6) = false := beq_eq_false_iff_ne.2 (by omega)
      have t7 : (((f : Nat) : Int) == 7) = false := beq_eq_false_iff_ne.2 (by omega)
      have t8 : (((f : Nat) : Int) == 8) = false := beq_eq_false_iff_ne.2 (by omega)
      have K1 := hide (number_any w.heap.size f wr h5)
      have K2 := hide (number_yes w1.heap.size B 8 st.2 wr hst.rdr (by omega) (by omega))
      have hset : (clL st.1 x y z).set (f + 1) (.int .u64 (Cl.rnum st.2 8).1) = clL (Cl.rfld st f).1 x y z := by
        obtain rfl | rfl | rfl | rfl | rfl : f = 0 ∨ f = 1 ∨ f = 2 ∨ f = 3 ∨ f = 4 := by omega
        all_goals rfl
      have hrd2 : (Cl.rfld st f).2 = (Cl.rnum st.2 8).2 := by
        obtain rfl | rfl | rfl | rfl | rfl : f = 0 ∨ f = 1 ∨ f = 2 ∨ f = 3 ∨ f = 4 := by omega
        all_goals rfl
      have how : ∀ wx, ClOwn wx W3.heap.size st.1 x y z → ClOwn wx W3.heap.size (Cl.rfld st f).1 x y z := by
        intro wx
        obtain rfl | rfl | rfl | rfl | rfl : f = 0 ∨ f = 1 ∨ f = 2 ∨ f = 3 ∨ f = 4 := by omega
        all_goals exact fun h => ⟨h.o1, h.o2, h.o3⟩
      have hcel : ∃ v, (clL st.1 x y z)[f + 1]? = some (.int .u64 v) := by
        obtain rfl | rfl | rfl | rfl | rfl : f = 0 ∨ f = 1 ∨ f = 2 ∨ f = 3 ∨ f = 4 := by omega
        all_goals exact ⟨_, rfl⟩
      obtain ⟨v0, hv0⟩ := hcel
      have Hset := hide hset
      have Hrd2 := hide hrd2
      have How := hide how
      have Hv0 := hide hv0
      clear hset hrd2 how hv0 hst h5
      go_wp2_with (go_at_call 44; refine (unhide K1).mono ?_; rintro e w4 ⟨rfl, rfl⟩)
      refine (unhide K2).mono ?_
      rintro e w4 ⟨rfl, hr4, hg4⟩
      have hst4 := (unhide Hst).went hg4 hr4
      have hc4 := hst4.call.cell (i := f + 1) (unhide Hv0)
      have hf4 := hst4.call.free (f + 1)
      have hlt4 := hst4.call.lt
      have hst5 := hst4.store (f + 1) _ (unhide Hset) ((unhide How) _ hst4.own)
      rw [← unhide Hrd2] at hst5
      have Hst5 := hide hst5
      clear hr4 hg4 hst4 hst5 K1 K2 hc0 t5 t6 t7 t8 Hset Hrd2 How Hv0 Hst
      go_wp2_with fail
      clear hc4 hf4
      go_roundg (n - (j + 1))
      case measure => have := unhide Hgk; omega
      case rel => exact ⟨j + 1, x, y, z, rfl, by omega, by go_num, by rw [unhide Hsn]; exact unhide Hst5⟩
    obtain rfl | rfl | rfl | rfl : f = 5 ∨ f = 6 ∨ f = 7 ∨ f = 8 := by omega
    · have K2 := hide (bytes_any w1.heap.size B st.2 wr hst.rdr (by omega))
      clear hst h5
      go_wp2_with fail
      refine (unhide K2).mono ?_
      rintro e w4 ⟨A4, c4, rfl, ho4, hr4, hg4⟩
      have hcv : (convert 24 9 (.slice A4 (Cl.rtxt st.2).1.length c4)).run Try.prog w4 = .ok (.string (Cl.ba (Cl.rtxt st.2).1)) w4 := conv_any (Rd.of_own ho4) Try.underlying24 Try.underlying5 Try.underlying9
      have hst4 := (unhide Hst).went hg4 hr4
      have hc4 := hst4.call.cell (i := 6) rfl
      have hf4 := hst4.call.free 6
      have hlt4 := hst4.call.lt
      have hst5 := hst4.store 6 (.string (Cl.ba (Cl.rtxt st.2).1)) (q' := (Cl.rfld st 5).1) (x' := x) (y' := y) (z' := z) rfl ⟨hst4.own.o1, hst4.own.o2, hst4.own.o3⟩
      have Hst5 := hide hst5
      clear ho4 hr4 hg4 hst4 hst5 K2 hc0 Hst
      go_wp2_with fail
      clear hc4 hf4 hcv
      go_roundg (n - (j + 1))
      case measure => have := unhide Hgk; omega
      case rel => exact ⟨j + 1, x, y, z, rfl, by omega, by go_num, by rw [unhide Hsn]; exact unhide Hst5⟩
    · have K2 := hide (list_any w1.heap.size B st.2 wr hst.rdr (by omega))
      clear hst h5
      go_wp2_with fail
      refine (unhide K2).mono ?_
      rintro e w4 ⟨A4, c4, rfl, ho4, hr4, hg4⟩
      have hst4 := (unhide Hst).went hg4 hr4
      have hc4 := hst4.call.cell (i := 7) rfl
      have hf4 := hst4.call.free 7
      have hlt4 := hst4.call.lt
      have hst5 := hst4.store 7 (.slice A4 (Cl.rlst st.2).1.length c4) (q' := (Cl.rfld st 6).1) (x' := ⟨A4, (Cl.rlst st.2).1.length, c4⟩) (y' := y) (z' := z) rfl ⟨own_base ho4 a4, hst4.own.o2, hst4.own.o3⟩
      have Hst5 := hide hst5
      clear ho4 hr4 hg4 hst4 hst5 K2 hc0 Hst
      go_wp2_with fail
      clear hc4 hf4
      go_roundg (n - (j + 1))
      case measure => have := unhide Hgk; omega
      case rel => exact ⟨j + 1, _, y, z, rfl, by omega, by go_num, by rw [unhide Hsn]; exact unhide Hst5⟩
    · have K2 := hide (list_any w1.heap.size B st.2 wr hst.rdr (by omega))
      clear hst h5
      go_wp2_with fail
      refine (unhide K2).mono ?_
      rintro e w4 ⟨A4, c4, rfl, ho4, hr4, hg4⟩
      have hst4 := (unhide Hst).went hg4 hr4
      have hc4 := hst4.call.cell (i := 8) rfl
      have hf4 := hst4.call.free 8
      have hlt4 := hst4.call.lt
      have hst5 := hst4.store 8 (.slice A4 (Cl.rlst st.2).1.length c4) (q' := (Cl.rfld st 7).1) (x' := x) (y' := ⟨A4, (Cl.rlst st.2).1.length, c4⟩) (z' := z) rfl ⟨hst4.own.o1, own_base ho4 a4, hst4.own.o3⟩
      have Hst5 := hide hst5
      clear ho4 hr4 hg4 hst4 hst5 K2 hc0 Hst
      go_wp2_with fail
      clear hc4 hf4
      go_roundg (n - (j + 1))
      case measure => have := unhide Hgk; omega
      case rel => exact ⟨j + 1, x, _, z, rfl, by omega, by go_num, by rw [unhide Hsn]; exact unhide Hst5⟩
    · have K2 := hide (bytes_any w1.heap.size B st.2 wr hst.rdr (by omega))
      clear hst h5
      go_wp2_with fail
      refine (unhide K2).mono ?_
      rintro e w4 ⟨A4, c4, rfl, ho4, hr4, hg4⟩
      have hst4 := (unhide Hst).went hg4 hr4
      have hc4 := hst4.call.cell (i := 9) rfl
      have hf4 := hst4.call.free 9
      have hlt4 := hst4.call.lt
      have hst5 := hst4.store 9 (.slice A4 (Cl.rtxt st.2).1.length c4) (q' := (Cl.rfld st 8).1) (x' := x) (y' := y) (z' := ⟨A4, (Cl.rtxt st.2).1.length, c4⟩) rfl ⟨hst4.own.o1, hst4.own.o2, own_base ho4 a4⟩
      have Hst5 := hide hst5
      clear ho4 hr4 hg4 hst4 hst5 K2 hc0 Hst
      go_wp2_with fail
      clear hc4 hf4
      go_roundg (n - (j + 1))
      case measure => have := unhide Hgk; omega
      case rel => exact ⟨j + 1, x, y, _, rfl, by omega, by go_num, by rw [unhide Hsn]; exact unhide Hst5⟩
end Go.Proofs.Ytphbkjdheopmhaa
namespace Go.Proofs.Ytphbkjdheopmhaa
set_option linter.unusedVariables false
set_option linter.unusedSimpArgs false
open Go.RowKit

/-- The letter of a field. -/
def letter : Nat → UInt8
  | 0 => 65
  | 1 => 66
  | 2 => 67
  | 3 => 68
  | 4 => 69
  | 5 => 80
  | 6 => 86
  | 7 => 87
  | _ => 88
theorem flL_fsN {k : Nat} (hk : k ≤ 12) : flL k = (Cl.fsN k).map letter := by
  obtain h | h | h | h | h | h | h | h | h | h | h | h | h : k = 0 ∨ k = 1 ∨ k = 2 ∨ k = 3 ∨ k = 4 ∨ k = 5 ∨ k = 6 ∨ k = 7 ∨ k = 8 ∨ k = 9 ∨ k = 10 ∨ k = 11 ∨ k = 12 := by omega
  all_goals
    subst h
    rfl
theorem flT_size' {k : Nat} (hk : k ≤ 12) : (flT k).size = (Cl.fsN k).length := by
  show (flL k).toArray.size = _
  rw [flL_fsN hk]
  simp
theorem flT_at {k j f : Nat} (hk : k ≤ 12) (h : (Cl.fsN k)[j]? = some f) (hj : j < (flT k).size) : (flT k)[j] = letter f := by
  have h1 : (flL k)[j]? = some (letter f) := by rw [flL_fsN hk]; simp [h]
  have h2 : (flL k)[j]'(hj) = letter f := (List.getElem?_eq_some_iff.1 h1).2
  rw [← h2]
  rfl

theorem rForm_bad (q : Cl.C) (x y z : Sl) (B : Nat) (w : World) (hq : ClOk w B q x y z) (hB : B ≤ w.heap.size) (hf : ClFit q) (hp : q.path.size ≤ 4294967296) (hc : Cl.check q ≠ 0) :
    Calls Try.prog 17 #[.agg (clCells q x y z)] w fun e w' => e = .returned (.tuple #[.slice none 0 0, .int .i64 (Cl.check q)]) ∧ Below w.heap.size w w' := by
  have K := hide (rcallCheck_any q x y z B (w.alloc (.cells (clCells q x y z) 26)) (hq.alloc hB _) (by simp; omega) hf hp)
  have hc2 : (Cl.check q != 0) = true := by simpa using hc
  clear hq hf hc
  generalize Cl.check q = r at *
  go_enter Try.func17, Try.ntmps17
  go_wp2_with fail
  refine (unhide K).mono ?_
  rintro e w1 ⟨rfl, hb1⟩
  have Hb1 := hide (below_new hb1)
  clear hb1 K
  go_wp2_with fail
  go_ret2
  exact ⟨rfl, unhide Hb1⟩

set_option maxRecDepth 100000 in
set_option maxHeartbeats 8000000 in
theorem rForm_good (q : Cl.C) (x y z : Sl) (B : Nat) (w : World) (hq : ClOk w B q x y z) (hB : B ≤ w.heap.size) (hf : ClFit q) (hc : Cl.check q = 0) :
    Calls Try.prog 17 #[.agg (clCells q x y z)] w fun e w' => ∃ A' c', e = .returned (.tuple #[.slice A' (Cl.form q).length c', .int .i64 0]) ∧ w'.ownsRow w.heap.size 5 1 (.slice A' (Cl.form q).length c') (Cl.form q).length (bys (Cl.form q)) ∧ Below w.heap.size w w' := by
  have K := rcallCheck_any q x y z B (w.alloc (.cells (clCells q x y z) 26)) (hq.alloc hB _) (by simp; omega) hf (by have := (Cl.check_small hc).p; omega)
  rw [hc] at K
  replace K := hide K
  have hs := Cl.check_small hc
  have hk1 := hs.k1
  have hk2 := hs.k2
  have hkb := Cl.kind_byte hs
  have Hkb := hide hkb
  have Hs := hide hs
  have Hq := hide hq
  have Hf := hide hf
  have K0 := hide (fun w => rfields_any q.kind w (by omega))
  clear hq hf hc hs hkb
  go_enter Try.func17, Try.ntmps17
  go_wp2_with fail
  refine (unhide K).mono ?_
  rintro e w1 ⟨rfl, hb1⟩
  have hbx1 := newblk hb1
  have hb1' := below_new hb1
  have Hb1 := hide hb1'
  have hsz1 := lt_of_block hbx1
  obtain ⟨v0, v1, v2, v3, v4, v5, v6, v7, v8, v9⟩ := box10 hbx1
  have Hq1 := hide ((unhide Hq).below (hb1'.mono hB))
  have Hbx1 := hide hbx1
  have hv0 : (w1.alloc (.cells #[.int .u8 q.kind] 5)).cell? ⟨w.heap.size, 0, none⟩ = some (.int .u8 q.kind) := (World.cell?_alloc_lt _ _ _ hsz1).trans v0
  clear hb1 hb1' hbx1 Hq K v1 v2 v3 v4 v5 v6 v7 v8 v9
  go_wp2_with fail
  refine ((unhide K0) _).mono ?_
  rintro e w2 ⟨rfl, hb2⟩
  have hown := own_one w1 (UInt8.ofNat q.kind)
  rw [unhide Hkb] at hown
  have hbW : Below w1.heap.size w1 (w1.alloc (.cells #[.int .u8 q.kind] 5)) := (Below.refl _ _).alloc (Nat.le_refl _) _
  have hszW : (w1.alloc (.cells #[.int .u8 q.kind] 5)).heap.size = w1.heap.size + 1 := by simp
  generalize hgW : w1.alloc (.cells #[.int .u8 q.kind] 5) = W at *
  clear hgW v0 hv0 K0
  have hs2 := hb2.size
  have hlow : w1.heap.size < w2.heap.size := by omega
  have hg0 : Grew w2 w2 w1.heap.size (.slice (some ⟨w1.heap.size, 0, none⟩) 1 1) (.slice (some ⟨w1.heap.size, 0, none⟩) 1 1) 1 [UInt8.ofNat q.kind] := ⟨own_below hown hb2, World.grownBy.refl _ _, fun k hk => .inl hk⟩
  have Hg0 := hide hg0
  have Hbx2 := hide ((hb2.block _ (by omega)).trans ((hbW.block _ hsz1).trans (unhide Hbx1)))
  have Hq2 := hide (((unhide Hq1).below (hbW.mono (by omega))).below (hb2.mono (by omega)))
  have Hbw2 := hide (((unhide Hb1).trans (hbW.mono (by omega))).trans (hb2.mono (by omega)))
  clear hg0 hb2 Hq1 Hb1 hbW hown Hbx1 hszW hs2
  have hfl := flT_size' hk2
  have hfn := fsN_len q.kind
  have hat := fun j f h hj => flT_at (k := q.kind) (j := j) (f := f) hk2 h hj
  generalize flT q.kind = s at *
  have Hat := hide hat
  have Hn := hide hfl.symm
  rw [← hfl] at hfn
  clear hat hfl
  go_wp2_with fail
  go_loopg [5, 7] s.size (fun gk b i wr => ∃ (k : Nat) (Ak : Option Addr) (ck : Nat), gk = s.size - k ∧ k ≤ s.size ∧ i = .int .i64 k ∧ b = .slice Ak (1 + (Cl.flds q ((Cl.fsN q.kind).take k)).length) ck ∧ Grew w2 wr w1.heap.size (.slice (some ⟨w1.heap.size, 0, none⟩) 1 1) (.slice Ak (1 + (Cl.flds q ((Cl.fsN q.kind).take k)).length) ck) (1 + (Cl.flds q ((Cl.fsN q.kind).take k)).length) ([UInt8.ofNat q.kind] ++ Cl.flds q ((Cl.fsN q.kind).take k)))
  case atStart => exact ⟨0, some ⟨w1.heap.size, 0, none⟩, 1, by omega, by omega, rfl, by simp [Cl.flds], by simpa [Cl.flds] using unhide Hg0⟩
  case round =>
  clear Hg0
  obtain ⟨k, Ak, ck, hgk, hk, rfl, rfl, hg⟩ := hrel
  have Hgk := hide hgk
  have Hg := hide hg
  have hbg : Below B w2 wr := hg.below (by omega) (fun j hj => by simp [Value.ownBlock] at hj; omega)
  have hbg2 : Below w1.heap.size w2 wr := hg.below (by omega) (fun j hj => by simp [Value.ownBlock] at hj; omega)
  have Hq3 := hide ((unhide Hq2).below hbg)
  have Hbw3 := hide ((unhide Hbw2).trans (hbg2.mono (by omega)))
  have hbx3 := hg.blk (g := w.heap.size) (by omega) (by simp [Value.ownBlock]; omega) (unhide Hbx2)
  obtain ⟨v0, v1, v2, v3, v4, v5, v6, v7, v8, v9⟩ := box10 hbx3
  have hszr := hg.kept.size
  have hfk := flds_len (unhide Hs) ((Cl.fsN q.kind).take k)
  have htk : ((Cl.fsN q.kind).take k).length ≤ k := by simp; omega
  have hsmall : (Cl.flds q ((Cl.fsN q.kind).take k)).length ≤ 50000 := by omega
  clear hgk hbg hbg2 hfk htk hbx3
  rcases Nat.lt_or_ge k s.size with hlt | hge
  case inr =>
    obtain rfl : k = s.size := by omega
    have e : (Cl.fsN q.kind).take s.size = Cl.fsN q.kind := List.take_of_length_le (by have := unhide Hn; omega)
    have ef : (Cl.form q).length = 1 + (Cl.flds q (Cl.fsN q.kind)).length := by simp [Cl.form]; omega
    have eg : Cl.form q = [UInt8.ofNat q.kind] ++ Cl.flds q (Cl.fsN q.kind) := rfl
    rw [e] at hg ⊢
    have Ho := hide (own_base hg.own (show w.heap.size ≤ w1.heap.size by omega))
    have Hef := hide ef
    have Heg := hide eg
    clear e hg Hg ef eg v0 v1 v2 v3 v4 v5 v6 v7 v8 v9 hsmall
    go_wp2
    go_ret2
    rw [unhide Hef]
    refine ⟨Ak, ck, rfl, ?_, unhide Hbw3⟩
    rw [unhide Heg]
    exact unhide Ho
  obtain ⟨f, hfk⟩ : ∃ f, (Cl.fsN q.kind)[k]? = some f := ⟨_, List.getElem?_eq_getElem (by rw [unhide Hn]; exact hlt)⟩
  have hf9 : f < 9 := (Cl.fsN_ok q.kind).1 f (List.mem_of_getElem? hfk)
  have hch : s[k] = letter f := (unhide Hat) k f hfk hlt
  have hsn := flds_snoc (q := q) hfk
  have Hsn := hide hsn
  clear hg hfk hsn
  have hown := (unhide Hg).own
  generalize hL : (Cl.flds q ((Cl.fsN q.kind).take k)).length = L at *
  have HL := hide hL
  clear hL
  obtain rfl | rfl | rfl | rfl | rfl | rfl | rfl | rfl | rfl : f = 0 ∨ f = 1 ∨ f = 2 ∨ f = 3 ∨ f = 4 ∨ f = 5 ∨ f = 6 ∨ f = 7 ∨ f = 8 := by omega
  · have t65 : (((s[k].toNat : Nat) : Int) == 65) = true := by rw [hch]; rfl
    have hnm : q.a < 18446744073709551616 := (unhide Hf).a
    have K1 := hide (rnumber_any 8 q.a wr (by omega) hnm)
    have Hown := hide hown
    clear v0 v2 v3 v4 v5 v6 v7 v8 v9 hown hnm hch
    go_wp2_with fail
    refine (unhide K1).mono ?_
    rintro e w3 ⟨A2, c2, rfl, ho2, hb2⟩
    have Hr2 := hide (Rd.of_own ho2)
    have Hb2 := hide hb2
    have Ho2 := hide (own_below (unhide Hown) hb2)
    have hsz3 : w1.heap.size ≤ w3.heap.size := by have := hb2.size; omega
    clear ho2 hb2 K1 Hown v1
    go_wp2_with (at_builtin; refine wpList_app byteTy rfl _ _ rfl w1.heap.size _ (1 + L) (bys ([UInt8.ofNat q.kind] ++ Cl.flds q ((Cl.fsN q.kind).take k))) rfl (unhide Ho2) w3.heap.size A2 8 c2 (bys (Cl.lb q.a 8)) rfl (unhide Hr2) (bys_one _) (by omega) hsz3 ?_; intro A3 c3 w4 ho3 hg3 hat3; rw [← bys_app] at ho3; have Hg3 := hide ((unhide Hg).trans (Grew.after (unhide Hb2) ⟨ho3, hg3, hat3⟩)); clear ho3 hg3 hat3)
    clear Hg Hr2 Hb2 Ho2
    go_roundg (s.size - (k + 1))
    case measure => have := unhide Hgk; omega
    case rel => exact ⟨k + 1, A3, c3, rfl, by omega, by go_num, by rw [unhide Hsn, List.length_append, unhide HL, ← Nat.add_assoc]; rfl, by rw [unhide Hsn, List.length_append, unhide HL, ← Nat.add_assoc, ← List.append_assoc]; exact unhide Hg3⟩
  · have t65 : (((s[k].toNat : Nat) : Int) == 65) = false := by rw [hch]; rfl
    have t66 : (((s[k].toNat : Nat) : Int) == 66) = true := by rw [hch]; rfl
    have hnm : q.b < 18446744073709551616 := (unhide Hf).b
    have K1 := hide (rnumber_any 8 q.b wr (by omega) hnm)
    have Hown := hide hown
    clear v0 v1 v3 v4 v5 v6 v7 v8 v9 hown hnm hch
    go_wp2_with fail
    refine (unhide K1).mono ?_
    rintro e w3 ⟨A2, c2, rfl, ho2, hb2⟩
    have Hr2 := hide (Rd.of_own ho2)
    have Hb2 := hide hb2
    have Ho2 := hide (own_below (unhide Hown) hb2)
    have hsz3 : w1.heap.size ≤ w3.heap.size := by have := hb2.size; omega
    clear ho2 hb2 K1 Hown v2
    go_wp2_with (at_builtin; refine wpList_app byteTy rfl _ _ rfl w1.heap.size _ (1 + L) (bys ([UInt8.ofNat q.kind] ++ Cl.flds q ((Cl.fsN q.kind).take k))) rfl (unhide Ho2) w3.heap.size A2 8 c2 (bys (Cl.lb q.b 8)) rfl (unhide Hr2) (bys_one _) (by omega) hsz3 ?_; intro A3 c3 w4 ho3 hg3 hat3; rw [← bys_app] at ho3; have Hg3 := hide ((unhide Hg).trans (Grew.after (unhide Hb2) ⟨ho3, hg3, hat3⟩)); clear ho3 hg3 hat3)
    clear Hg Hr2 Hb2 Ho2
    go_roundg (s.size - (k + 1))
    case measure => have := unhide Hgk; omega
    case rel => exact ⟨k + 1, A3, c3, rfl, by omega, by go_num, by rw [unhide Hsn, List.length_append, unhide HL, ← Nat.add_assoc]; rfl, by rw [unhide Hsn, List.length_append, unhide HL, ← Nat.add_assoc, ← List.append_assoc]; exact unhide Hg3⟩
  · have t65 : (((s[k].toNat : Nat) : Int) == 65) = false := by rw [hch]; rfl
    have t66 : (((s[k].toNat : Nat) : Int) == 66) = false := by rw [hch]; rfl
    have t67 : (((s[k].toNat : Nat) : Int) == 67) = true := by rw [hch]; rfl
    have hnm : q.c < 18446744073709551616 := (unhide Hf).c
    have K1 := hide (rnumber_any 8 q.c wr (by omega) hnm)
    have Hown := hide hown
    clear v0 v1 v2 v4 v5 v6 v7 v8 v9 hown hnm hch
    go_wp2_with fail
    refine (unhide K1).mono ?_
    rintro e w3 ⟨A2, c2, rfl, ho2, hb2⟩
    have Hr2 := hide (Rd.of_own ho2)
    have Hb2 := hide hb2
    have Ho2 := hide (own_below (unhide Hown) hb2)
    have hsz3 : w1.heap.size ≤ w3.heap.size := by have := hb2.size; omega
    clear ho2 hb2 K1 Hown v3
    go_wp2_with (at_builtin; refine wpList_app byteTy rfl _ _ rfl w1.heap.size _ (1 + L) (bys ([UInt8.ofNat q.kind] ++ Cl.flds q ((Cl.fsN q.kind).take k))) rfl (unhide Ho2) w3.heap.size A2 8 c2 (bys (Cl.lb q.c 8)) rfl (unhide Hr2) (bys_one _) (by omega) hsz3 ?_; intro A3 c3 w4 ho3 hg3 hat3; rw [← bys_app] at ho3; have Hg3 := hide ((unhide Hg).trans (Grew.after (unhide Hb2) ⟨ho3, hg3, hat3⟩)); clear ho3 hg3 hat3)
    clear Hg Hr2 Hb2 Ho2
    go_roundg (s.size - (k + 1))
    case measure => have := unhide Hgk; omega
    case rel => exact ⟨k + 1, A3, c3, rfl, by omega, by go_num, by rw [unhide Hsn, List.length_append, unhide HL, ← Nat.add_assoc]; rfl, by rw [unhide Hsn, List.length_append, unhide HL, ← Nat.add_assoc, ← List.append_assoc]; exact unhide Hg3⟩
  · have t65 : (((s[k].toNat : Nat) : Int) == 65) = false := by rw [hch]; rfl
    have t66 : (((s[k].toNat : Nat) : Int) == 66) = false := by rw [hch]; rfl
    have t67 : (((s[k].toNat : Nat) : Int) == 67) = false := by rw [hch]; rfl
    have t68 : (((s[k].toNat : Nat) : Int) == 68) = true := by rw [hch]; rfl
    have hnm : q.d < 18446744073709551616 := (unhide Hf).d
    have K1 := hide (rnumber_any 8 q.d wr (by omega) hnm)
    have Hown := hide hown
    clear v0 v1 v2 v3 v5 v6 v7 v8 v9 hown hnm hch
    go_wp2_with fail
    refine (unhide K1).mono ?_
    rintro e w3 ⟨A2, c2, rfl, ho2, hb2⟩
    have Hr2 := hide (Rd.of_own ho2)
    have Hb2 := hide hb2
    have Ho2 := hide (own_below (unhide Hown) hb2)
    have hsz3 : w1.heap.size ≤ w3.heap.size := by have := hb2.size; omega
    clear ho2 hb2 K1 Hown v4
    go_wp2_with (at_builtin; refine wpList_app byteTy rfl _ _ rfl w1.heap.size _ (1 + L) (bys ([UInt8.ofNat q.kind] ++ Cl.flds q ((Cl.fsN q.kind).take k))) rfl (unhide Ho2) w3.heap.size A2 8 c2 (bys (Cl.lb q.d 8)) rfl (unhide Hr2) (bys_one _) (by omega) hsz3 ?_; intro A3 c3 w4 ho3 hg3 hat3; rw [← bys_app] at ho3; have Hg3 := hide ((unhide Hg).trans (Grew.after (unhide Hb2) ⟨ho3, hg3, hat3⟩)); clear ho3 hg3 hat3)
    clear Hg Hr2 Hb2 Ho2
    go_roundg (s.size - (k + 1))
    case measure => have := unhide Hgk; omega
    case rel => exact ⟨k + 1, A3, c3, rfl, by omega, by go_num, by rw [unhide Hsn, List.length_append, unhide HL, ← Nat.add_assoc]; rfl, by rw [unhide Hsn, List.length_append, unhide HL, ← Nat.add_assoc, ← List.append_assoc]; exact unhide Hg3⟩
  · have t65 : (((s[k].toNat : Nat) : Int) == 65) = false := by rw [hch]; rfl
    have t66 : (((s[k].toNat : Nat) : Int) == 66) = false := by rw [hch]; rfl
    have t67 : (((s[k].toNat : Nat) : Int) == 67) = false := by rw [hch]; rfl
    have t68 : (((s[k].toNat : Nat) : Int) == 68) = false := by rw [hch]; rfl
    have t69 : (((s[k].toNat : Nat) : Int) == 69) = true := by rw [hch]; rfl
    have hnm : q.e < 18446744073709551616 := (unhide Hf).e
    have K1 := hide (rnumber_any 8 q.e wr (by omega) hnm)
    have Hown := hide hown
    clear v0 v1 v2 v3 v4 v6 v7 v8 v9 hown hnm hch
    go_wp2_with fail
    refine (unhide K1).mono ?_
    rintro e w3 ⟨A2, c2, rfl, ho2, hb2⟩
    have Hr2 := hide (Rd.of_own ho2)
    have Hb2 := hide hb2
    have Ho2 := hide (own_below (unhide Hown) hb2)
    have hsz3 : w1.heap.size ≤ w3.heap.size := by have := hb2.size; omega
    clear ho2 hb2 K1 Hown v5
    go_wp2_with (at_builtin; refine wpList_app byteTy rfl _ _ rfl w1.heap.size _ (1 + L) (bys ([UInt8.ofNat q.kind] ++ Cl.flds q ((Cl.fsN q.kind).take k))) rfl (unhide Ho2) w3.heap.size A2 8 c2 (bys (Cl.lb q.e 8)) rfl (unhide Hr2) (bys_one _) (by omega) hsz3 ?_; intro A3 c3 w4 ho3 hg3 hat3; rw [← bys_app] at ho3; have Hg3 := hide ((unhide Hg).trans (Grew.after (unhide Hb2) ⟨ho3, hg3, hat3⟩)); clear ho3 hg3 hat3)
    clear Hg Hr2 Hb2 Ho2
    go_roundg (s.size - (k + 1))
    case measure => have := unhide Hgk; omega
    case rel => exact ⟨k + 1, A3, c3, rfl, by omega, by go_num, by rw [unhide Hsn, List.length_append, unhide HL, ← Nat.add_assoc]; rfl, by rw [unhide Hsn, List.length_append, unhide HL, ← Nat.add_assoc, ← List.append_assoc]; exact unhide Hg3⟩
  · have t65 : (((s[k].toNat : Nat) : Int) == 65) = false := by rw [hch]; rfl
    have t66 : (((s[k].toNat : Nat) : Int) == 66) = false := by rw [hch]; rfl
    have t67 : (((s[k].toNat : Nat) : Int) == 67) = false := by rw [hch]; rfl
    have t68 : (((s[k].toNat : Nat) : Int) == 68) = false := by rw [hch]; rfl
    have t69 : (((s[k].toNat : Nat) : Int) == 69) = false := by rw [hch]; rfl
    have t80 : (((s[k].toNat : Nat) : Int) == 80) = true := by rw [hch]; rfl
    have K2 := hide (rtext_any Ak (1 + L) ck w1.heap.size _ q.path wr hown (by omega) (by omega) (by have := (unhide Hs).p; omega))
    clear v0 v1 v2 v3 v4 v5 v7 v8 v9 hown hsmall hch
    go_wp2_with fail
    refine (unhide K2).mono ?_
    rintro e w3 ⟨A3, c3, rfl, hg3⟩
    have Hg3 := hide ((unhide Hg).trans hg3)
    clear hg3 K2 Hg v6
    go_wp2_with fail
    go_roundg (s.size - (k + 1))
    case measure => have := unhide Hgk; omega
    case rel => exact ⟨k + 1, A3, c3, rfl, by omega, by go_num, by rw [unhide Hsn, List.length_append, unhide HL, ← Nat.add_assoc]; rfl, by rw [unhide Hsn, List.length_append, unhide HL, ← Nat.add_assoc, ← List.append_assoc]; exact unhide Hg3⟩
  · have t65 : (((s[k].toNat : Nat) : Int) == 65) = false := by rw [hch]; rfl
    have t66 : (((s[k].toNat : Nat) : Int) == 66) = false := by rw [hch]; rfl
    have t67 : (((s[k].toNat : Nat) : Int) == 67) = false := by rw [hch]; rfl
    have t68 : (((s[k].toNat : Nat) : Int) == 68) = false := by rw [hch]; rfl
    have t69 : (((s[k].toNat : Nat) : Int) == 69) = false := by rw [hch]; rfl
    have t80 : (((s[k].toNat : Nat) : Int) == 80) = false := by rw [hch]; rfl
    have t86 : (((s[k].toNat : Nat) : Int) == 86) = true := by rw [hch]; rfl
    have hs := unhide Hs
    have h1 := hs.a1
    have h2 := (unhide Hq3).n1
    have K2 := hide (rlist_any Ak (1 + L) ck w1.heap.size _ x.A x.n x.c B q.argv wr hown (by omega) (by omega) (unhide Hq3).r1 (by omega) (by omega) (fun t ht => by have := hs.a2 t ht; omega) (by have := txts_small h1 hs.a2; omega))
    clear hs h1 h2
    clear v0 v1 v2 v3 v4 v5 v6 v8 v9 hown hsmall hch
    go_wp2_with fail
    refine (unhide K2).mono ?_
    rintro e w3 ⟨A3, c3, rfl, hg3⟩
    have Hg3 := hide ((unhide Hg).trans hg3)
    clear hg3 K2 Hg v7
    go_wp2_with fail
    go_roundg (s.size - (k + 1))
    case measure => have := unhide Hgk; omega
    case rel => exact ⟨k + 1, A3, c3, rfl, by omega, by go_num, by rw [unhide Hsn, List.length_append, unhide HL, ← Nat.add_assoc]; rfl, by rw [unhide Hsn, List.length_append, unhide HL, ← Nat.add_assoc, ← List.append_assoc]; exact unhide Hg3⟩
  · have t65 : (((s[k].toNat : Nat) : Int) == 65) = false := by rw [hch]; rfl
    have t66 : (((s[k].toNat : Nat) : Int) == 66) = false := by rw [hch]; rfl
    have t67 : (((s[k].toNat : Nat) : Int) == 67) = false := by rw [hch]; rfl
    have t68 : (((s[k].toNat : Nat) : Int) == 68) = false := by rw [hch]; rfl
    have t69 : (((s[k].toNat : Nat) : Int) == 69) = false := by rw [hch]; rfl
    have t80 : (((s[k].toNat : Nat) : Int) == 80) = false := by rw [hch]; rfl
    have t86 : (((s[k].toNat : Nat) : Int) == 86) = false := by rw [hch]; rfl
    have t87 : (((s[k].toNat : Nat) : Int) == 87) = true := by rw [hch]; rfl
    have hs := unhide Hs
    have h1 := hs.e1
    have h2 := (unhide Hq3).n2
    have K2 := hide (rlist_any Ak (1 + L) ck w1.heap.size _ y.A y.n y.c B q.env wr hown (by omega) (by omega) (unhide Hq3).r2 (by omega) (by omega) (fun t ht => by have := hs.e2 t ht; omega) (by have := txts_small h1 hs.e2; omega))
    clear hs h1 h2
    clear v0 v1 v2 v3 v4 v5 v6 v7 v9 hown hsmall hch
    go_wp2_with fail
    refine (unhide K2).mono ?_
    rintro e w3 ⟨A3, c3, rfl, hg3⟩
    have Hg3 := hide ((unhide Hg).trans hg3)
    clear hg3 K2 Hg v8
    go_wp2_with fail
    go_roundg (s.size - (k + 1))
    case measure => have := unhide Hgk; omega
    case rel => exact ⟨k + 1, A3, c3, rfl, by omega, by go_num, by rw [unhide Hsn, List.length_append, unhide HL, ← Nat.add_assoc]; rfl, by rw [unhide Hsn, List.length_append, unhide HL, ← Nat.add_assoc, ← List.append_assoc]; exact unhide Hg3⟩
  · have t65 : (((s[k].toNat : Nat) : Int) == 65) = false := by rw [hch]; rfl
    have t66 : (((s[k].toNat : Nat) : Int) == 66) = false := by rw [hch]; rfl
    have t67 : (((s[k].toNat : Nat) : Int) == 67) = false := by rw [hch]; rfl
    have t68 : (((s[k].toNat : Nat) : Int) == 68) = false := by rw [hch]; rfl
    have t69 : (((s[k].toNat : Nat) : Int) == 69) = false := by rw [hch]; rfl
    have t80 : (((s[k].toNat : Nat) : Int) == 80) = false := by rw [hch]; rfl
    have t86 : (((s[k].toNat : Nat) : Int) == 86) = false := by rw [hch]; rfl
    have t87 : (((s[k].toNat : Nat) : Int) == 87) = false := by rw [hch]; rfl
    have t88 : (((s[k].toNat : Nat) : Int) == 88) = true := by rw [hch]; rfl
    have hs := unhide Hs
    have h1 := hs.b
    have K2 := hide (rtext_any Ak (1 + L) ck w1.heap.size _ (Cl.ba q.bytes) wr hown (by omega) (by omega) (by rw [Cl.ba_size]; omega))
    have hcv : (convert 24 9 (.slice z.A z.n z.c)).run Try.prog wr = .ok (.string (Cl.ba q.bytes)) wr := conv_any (unhide Hq3).r3 Try.underlying24 Try.underlying5 Try.underlying9
    clear hs h1
    clear v0 v1 v2 v3 v4 v5 v6 v7 v8 hown hsmall hch
    go_wp2_with fail
    refine (unhide K2).mono ?_
    rintro e w3 ⟨A3, c3, rfl, hg3⟩
    have Hg3 := hide ((unhide Hg).trans hg3)
    clear hg3 K2 Hg v9 hcv
    go_wp2_with fail
    go_roundg (s.size - (k + 1))
    case measure => have := unhide Hgk; omega
    case rel => exact ⟨k + 1, A3, c3, rfl, by omega, by go_num, by rw [unhide Hsn, List.length_append, unhide HL, ← Nat.add_assoc]; rfl, by rw [unhide Hsn, List.length_append, unhide HL, ← Nat.add_assoc, ← List.append_assoc]; exact unhide Hg3⟩
end Go.Proofs.Ytphbkjdheopmhaa
namespace Go.Proofs.Ytphbkjdheopmhaa
set_option linter.unusedVariables false
set_option linter.unusedSimpArgs false
open Go.RowKit
section
variable {P : Program} {ops : Array Oper} {W : World} {o : Oper} {a : Act} {S : World → Prop}
theorem yieldsS_load (hw : Region.wanted o (yielded ops a.tmps) = true) (ty : TypeId) (x : Operand) (ho : o.op = .load ty x)
    (g : Nat) (hx : a.eval x = .pointer (some ⟨g, 0, none⟩)) (t : TypeId) (cs : Array Value) (fr : Nat × Nat) (d : TypeDesc) (hg : ∀ w', S w' → w'.heap[g]? = some (.cells cs t fr))
    (hu : P.underlying ty = some d) (hd : (match d with | .struct _ | .array _ _ => true | _ => false) = true) (hi : (P.info? ty).map (·.size) = some cs.size) :
    YieldsIf P ops S o (.agg cs) a := by
  refine .inl ⟨hw, fun w' hw' => ?_⟩
  unfold execOp
  simp only [ho, hx, Instr.loadAt, Instr.sureAddr, Sem.run_bind, Sem.run_pure, Result.andThen_ok, run_loadVar_row _ g t ty cs fr d (hg w' hw') hu hd hi]
/-- A store, where nothing else may come up. -/
theorem storeS {md : Region.Mode} {Q : Exit → Act → World → Prop} {i : Nat} {oi : Oper} {fuel : Nat} {listed : Array Bool} (hi : ops[i]? = some oi) (hd : oi.dst = none)
    (hr : Region.ready md ops listed = [i]) (hw : Region.wanted oi (yielded ops a.tmps) = true) (ty : TypeId) (x y : Operand) (ho : oi.op = .store ty x y)
    (g : Nat) (cs old : Array Value) (hx : a.eval x = .pointer (some ⟨g, 0, none⟩)) (hy : a.eval y = .agg cs)
    (t : TypeId) (hg : W.heap[g]? = some (.cells old t (0, 0))) (hsz : (P.info? ty).map (·.size) = some cs.size) (hold : old.size = cs.size) (h1 : cs.all (·.oneCell') = true) (hS : S (W.setRow g cs))
    (h : wpAnyH P md ops Q S fuel (listed.setIfInBounds i true) a (W.setRow g cs)) : wpAnyH P md ops Q S (fuel + 1) listed a W := by
  refine wpAnyH_ready (rs := [i]) hr (by simp) ?_
  refine AllReadyH.cons hi (fun K hK => ?_) AllReadyH.nil
  rw [if_pos hw]
  refine wp_store_row ty x y ho g cs hx hy t old hg hsz hold h1 ?_
  rw [hd]
  exact hK.out _ _ hS (fun _ => h)
end
section
variable {ops : Array Oper} {o : Oper} {a : Act} {S : World → Prop}
theorem yieldsR_field1 (hw : Region.wanted o (yielded ops a.tmps) = true) (x : Operand) (ho : o.op = .fieldAddr 83 x 1) (g : Nat) (hx : a.eval x = .pointer (some ⟨g, 0, none⟩)) : YieldsIf Try.prog ops S o (.pointer (some ⟨g, 1, none⟩)) a := by
  refine .inl ⟨hw, fun w' hw' => ?_⟩
  unfold execOp
  simp only [ho, hx]
  go_simp
theorem yieldsS_int (hw : Region.wanted o (yielded ops a.tmps) = true) (x : Operand) (ho : o.op = .load 3 x) (g i : Nat) (hx : a.eval x = .pointer (some ⟨g, i, none⟩)) (n : Int) (hc : ∀ w', S w' → w'.cell? ⟨g, i, none⟩ = some (.int .i64 n)) : YieldsIf Try.prog ops S o (.int .i64 n) a := by
  refine .inl ⟨hw, fun w' hw' => ?_⟩
  have hc' := hc w' hw'
  unfold execOp
  simp only [ho, hx]
  go_simp
end
end Go.Proofs.Ytphbkjdheopmhaa
namespace Go.Proofs.Ytphbkjdheopmhaa
set_option linter.unusedVariables false
set_option linter.unusedSimpArgs false
open Go.RowKit

set_option maxRecDepth 100000 in
set_option maxHeartbeats 1000000 in
theorem rRead_nil (A : Option Addr) (c : Nat) (w : World) :
    Calls Try.prog 22 #[.slice A 0 c] w (ReadEnd (Cl.zeroC, 0, 24) w) := by
  have hb0 := Blk.new w 26 zeroL
  have HB := hide hb0
  have hci := callInfo
  clear hb0
  go_enter Try.func22, Try.ntmps22
  go_wp2
  refine bodyPost_ret (results_cell_tmp2 (P := Try.prog) rfl _ _ w.heap.size 26 zeroL.toArray (0, 0) _ rfl (unhide HB) Try.underlying26 rfl callInfo) rfl ?_
  exact ⟨slN, slN, slN, rfl, (ClOwn.zero _ _ 0), (Below.refl _ _).alloc (Nat.le_refl _) _⟩

set_option maxRecDepth 100000 in
set_option maxHeartbeats 4000000 in
theorem rRead_kind (A : Option Addr) (m c B : Nat) (k : UInt8) (l : List UInt8) (w : World) (hb : Rd w B 1 A m (bys (k :: l))) (hB : B ≤ w.heap.size) (hm : m ≤ 4294967296) (hk : k.toNat = 0 ∨ 12 < k.toNat) :
    Calls Try.prog 22 #[.slice A m c] w (ReadEnd (Cl.zeroC, 0, 23) w) := by
  have hml : m = l.length + 1 := by simpa [bys] using hb.len1.symm
  obtain ⟨ab, ao, rfl, hlt, c0⟩ := hb.at_ (k := 0) (u := .int .u8 k.toNat) (by simp [bys])
  rw [Nat.add_zero] at c0
  have hb0 := Blk.new w 26 zeroL
  have hc1 := (World.cell?_alloc_lt w (.cells zeroL.toArray 26) ⟨ab, ao, none⟩ (by show ab < _; omega)).trans c0
  have HB0 := hide hb0
  have hmz : ((m : Int) == 0) = false := beq_eq_false_iff_ne.2 (by omega)
  have Hml := hide hml
  have hm1 : 1 ≤ m := by omega
  have hci := callInfo
  clear hb0 hb c0 hml
  go_enter Try.func22, Try.ntmps22
  rcases hk with hk | hk
  all_goals
    go_wp2_with fail
    refine bodyPost_ret (results_cell_tmp2 (P := Try.prog) rfl _ _ w.heap.size 26 zeroL.toArray (0, 0) _ rfl ((unhide HB0).alloc _) Try.underlying26 rfl callInfo) rfl ?_
    exact ⟨slN, slN, slN, rfl, (ClOwn.zero _ _ 0), ((Below.refl _ _).alloc (Nat.le_refl _) _).alloc (by simp) _⟩
end Go.Proofs.Ytphbkjdheopmhaa
namespace Go.Proofs.Ytphbkjdheopmhaa
set_option linter.unusedVariables false
set_option linter.unusedSimpArgs false
open Go.RowKit

/-- A list of cells in a block from base on. -/
def Fresh (w : World) (base : Nat) (A : Option Addr) (n : Nat) (xs : List Value) : Prop := xs.length = n ∧ (xs = [] ∨ ∃ b off cs t fr, A = some ⟨b, off, none⟩ ∧ base ≤ b ∧ w.heap[b]? = some (.cells cs t fr) ∧ ∀ j u, xs[j]? = some u → cs[off + j]? = some u)
section
variable {w w' : World} {base n : Nat} {A : Option Addr} {xs : List Value}
theorem Fresh.nil (w : World) (base : Nat) : Fresh w base none 0 [] := ⟨rfl, .inl rfl⟩
theorem Fresh.of_own {e : TypeId} {c : Nat} (h : w.ownsRow base e 1 (.slice A n c) n xs) : Fresh w base A n xs := by
  refine ⟨by simpa using h.1, ?_⟩
  have hl : xs.length = n := by simpa using h.1
  rcases h.2 with ⟨h0, h1⟩ | ⟨g, cap, cur, hv, hb, hg, hnc, hcm, hsz, htk⟩
  · exact .inl (List.eq_nil_of_length_eq_zero (by omega))
  · have hA : A = some ⟨g, 0, none⟩ := by injection hv
    refine .inr ⟨g, 0, cur, e, (0, 0), hA, hb, hg, fun j u hu => ?_⟩
    rw [Nat.zero_add]
    rw [← htk, List.getElem?_take] at hu
    split at hu
    · simpa using hu
    · cases hu
theorem Fresh.rd (h : Fresh w base A n xs) : Rd w w.heap.size 1 A n xs := by
  refine ⟨by simpa using h.1, h.2.imp id ?_⟩
  rintro ⟨b, off, cs, t, fr, e, hb, hg, hc⟩
  exact ⟨b, off, e, lt_of_block hg, fun j u hu => by rw [cell_of_row w b (off + j) cs t fr hg]; exact hc j u hu⟩
theorem Fresh.keep (h : Fresh w base A n xs) (hk : ∀ b, base ≤ b → b < w.heap.size → w'.heap[b]? = w.heap[b]?) : Fresh w' base A n xs := by
  refine ⟨h.1, h.2.imp id ?_⟩
  rintro ⟨b, off, cs, t, fr, e, hb, hg, hc⟩
  exact ⟨b, off, cs, t, fr, e, hb, (hk b hb (lt_of_block hg)).trans hg, hc⟩
theorem Fresh.base_ {base' : Nat} (h : Fresh w base A n xs) (hb : base' ≤ base) : Fresh w base' A n xs := by
  refine ⟨h.1, h.2.imp id ?_⟩
  rintro ⟨b, off, cs, t, fr, e, hb2, hg, hc⟩
  exact ⟨b, off, cs, t, fr, e, by omega, hg, hc⟩
end
structure ClFr (w : World) (base : Nat) (q : Cl.C) (x y z : Sl) : Prop where
  o1 : Fresh w base x.A x.n (q.argv.map Value.string)
  o2 : Fresh w base y.A y.n (q.env.map Value.string)
  o3 : Fresh w base z.A z.n (bys q.bytes)
section
variable {w w' : World} {base g : Nat} {q : Cl.C} {x y z : Sl}
theorem ClFr.ok (h : ClFr w base q x y z) : ClOk w w.heap.size q x y z := ⟨h.o1.rd, h.o2.rd, h.o3.rd⟩
theorem ClFr.keep (h : ClFr w base q x y z) (hk : ∀ b, base ≤ b → b < w.heap.size → w'.heap[b]? = w.heap[b]?) : ClFr w' base q x y z := ⟨h.o1.keep hk, h.o2.keep hk, h.o3.keep hk⟩
theorem ClFr.grown (h : ClFr w base q x y z) (hg : w.grownBy w' (some g)) (hlt : g < base) : ClFr w' base q x y z := h.keep fun b hb hb2 => hg.block b hb2 (by simp; omega)
theorem ClFr.set {p : Addr} (h : ClFr w base q x y z) (hp : p.block < base) (u : Value) : ClFr (w.setCell p u) base q x y z := h.keep fun b hb hb2 => heap_setCell_other _ _ _ _ (by omega)
theorem ClFr.below (h : ClFr w base q x y z) (hb : Below w.heap.size w w') : ClFr w' base q x y z := h.keep fun b _ hb2 => hb.block b hb2
theorem ClFr.zero (w : World) (base k : Nat) : ClFr w base (Cl.kindC k) slN slN slN := ⟨Fresh.nil _ _, Fresh.nil _ _, Fresh.nil _ _⟩
end
theorem below_bytes (w : World) (e : TypeId) (s : ByteArray) : Below w.heap.size w (Lib.bytesWorld w e s) := ⟨rfl, rfl, rfl, by rw [Lib.bytesWorld_size]; omega, fun k hk => Lib.bytesWorld_at_old w e s k hk⟩
theorem fresh_bytes (w : World) (e : TypeId) (l : List UInt8) : Fresh (Lib.bytesWorld w e (Cl.ba l)) w.heap.size (some ⟨w.heap.size, 0, none⟩) l.length (bys l) := by
  refine ⟨by simp [bys], .inr ⟨w.heap.size, 0, _, _, _, rfl, Nat.le_refl _, Lib.bytesWorld_at_new w e (Cl.ba l), fun j u hu => ?_⟩⟩
  have hj : j < l.length := by
    have := (List.getElem?_eq_some_iff.1 hu).1
    simpa [bys] using this
  unfold Lib.bytesCells
  rw [Nat.zero_add, Array.getElem?_append_left (by simp [Cl.ba]; exact hj)]
  simpa [Cl.ba, bys] using hu
theorem rfld_path (s : Cl.C × Cl.R) (f : Nat) (h : s.1.path.size ≤ 4294967296) (hb : s.2.b.length ≤ 4294967296) : (Cl.rfld s f).1.path.size ≤ 4294967296 := by
  have t1 := (rtxt_le s.2).1
  unfold Cl.rfld
  split
  · simp only [Cl.ba_size]; omega
  all_goals exact h
theorem rflds_path (l : List Nat) (s : Cl.C × Cl.R) (h : s.1.path.size ≤ 4294967296) (hb : s.2.b.length ≤ 4294967296) : (Cl.rflds l s).1.path.size ≤ 4294967296 := by
  induction l generalizing s with
  | nil => exact h
  | cons f r ih => exact ih _ (rfld_path s f h hb) (Nat.le_trans (rfld_len s f) hb)
/-- What the reference's Read answers. -/
def ReadEndR (q : Cl.C × Nat × Int) (w : World) (e : Ending) (w' : World) : Prop := ∃ x y z, e = .returned (.tuple #[.agg (clCells q.1 x y z), .int .i64 (q.2.1 : Nat), .int .i64 q.2.2]) ∧ ClFr w' w.heap.size q.1 x y z ∧ Below w.heap.size w w'
theorem readEnd_R {q : Cl.C × Nat × Int} {w : World} {e : Ending} {w' : World} (h : ReadEnd q w e w') : ReadEndR q w e w' := by
  obtain ⟨x, y, z, h1, h2, h3⟩ := h
  exact ⟨x, y, z, h1, ⟨Fresh.of_own h2.o1, Fresh.of_own h2.o2, Fresh.of_own h2.o3⟩, h3⟩
/-- While fields are read: the answer's block, the call's block, the reader's. -/
structure RSt2 (full : List UInt8) (w w3 wr : World) (gc gr B : Nat) (st : Cl.C × Cl.R) (x y z : Sl) : Prop where
  res : Blk wr w.heap.size 26 zeroL
  call : Blk wr gc 26 (clL st.1 x y z)
  rdr : RRd full wr gr B st.2
  own : ClFr wr w3.heap.size st.1 x y z
  below : Below w.heap.size w wr
  size : w3.heap.size ≤ wr.heap.size
  g1 : w.heap.size < gc
  g2 : gc < gr
  g3 : gr < w3.heap.size
  g4 : B ≤ w.heap.size
theorem RSt2.went {full : List UInt8} {w w3 wr w4 : World} {gc gr B : Nat} {st : Cl.C × Cl.R} {x y z : Sl} {r' : Cl.R} (h : RSt2 full w w3 wr gc gr B st x y z) (hg : wr.grownBy w4 (some gr)) (hr : RRd full w4 gr B r') : RSt2 full w w3 w4 gc gr B (st.1, r') x y z := by
  have a1 := h.g1; have a2 := h.g2; have a3 := h.g3; have a4 := h.size
  exact ⟨(hg.block _ (by omega) (by simp; omega)).trans h.res, (hg.block _ (by omega) (by simp; omega)).trans h.call, hr, h.own.grown hg a3, h.below.trans (grown_some_below hg (by omega) (by omega)), Nat.le_trans h.size hg.size, a1, a2, a3, h.g4⟩
theorem RSt2.store {full : List UInt8} {w w3 wr : World} {gc gr B : Nat} {st : Cl.C × Cl.R} {x y z : Sl} (h : RSt2 full w w3 wr gc gr B st x y z) (i : Nat) (u : Value) {q' : Cl.C} {x' y' z' : Sl} (he : (clL st.1 x y z).set i u = clL q' x' y' z') (ho : ClFr wr w3.heap.size q' x' y' z') :
    RSt2 full w w3 (wr.setCell ⟨gc, i, none⟩ u) gc gr B (q', st.2) x' y' z' := by
  have a1 := h.g1; have a2 := h.g2; have a3 := h.g3; have a4 := h.size; have a5 := h.g4
  refine ⟨h.res.other (by simp; omega) u, ?_, ?_, ho.set (by show gc < _; omega) u, h.below.setCell (by show _ ≤ gc; omega) _, by simpa using h.size, a1, a2, a3, h.g4⟩
  · have := h.call.set i u
    rwa [he] at this
  · obtain ⟨ab, ao, m, c, p, q1, q2, q3, q4, q5, q6⟩ := h.rdr
    exact ⟨ab, ao, m, c, p, q1.other (by simp; omega) u, q2.setCell (by show _ ≤ gc; omega) u, q3, q4, q5, q6⟩
theorem start3 (w : World) (a b c : Array Value) : Blk (((w.alloc (.cells a 26)).alloc (.cells b 26)).alloc (.cells c 83)) w.heap.size 26 a.toList ∧ Blk (((w.alloc (.cells a 26)).alloc (.cells b 26)).alloc (.cells c 83)) (w.heap.size + 1) 26 b.toList ∧ Blk (((w.alloc (.cells a 26)).alloc (.cells b 26)).alloc (.cells c 83)) (w.heap.size + 1 + 1) 83 c.toList ∧ Below w.heap.size w (((w.alloc (.cells a 26)).alloc (.cells b 26)).alloc (.cells c 83)) := by
  obtain ⟨h1, h2, h3⟩ := copy_start w a b
  have h4 := Blk.new ((w.alloc (.cells a 26)).alloc (.cells b 26)) 83 c.toList
  rw [Array.toArray_toList] at h4
  have e2 : ((w.alloc (.cells a 26)).alloc (.cells b 26)).heap.size = w.heap.size + 1 + 1 := by simp
  rw [e2] at h4
  exact ⟨h1.alloc _, h2.alloc _, h4, h3.alloc h3.size _⟩
theorem start2 (w : World) (a b : Array Value) : Blk ((w.alloc (.cells a 26)).alloc (.cells b 26)) w.heap.size 26 a.toList ∧ Blk ((w.alloc (.cells a 26)).alloc (.cells b 26)) (w.heap.size + 1) 26 b.toList ∧ Below w.heap.size w ((w.alloc (.cells a 26)).alloc (.cells b 26)) := copy_start w a b

set_option maxRecDepth 100000 in
set_option maxHeartbeats 8000000 in
theorem rRead_good (A : Option Addr) (m c B : Nat) (k : UInt8) (l : List UInt8) (w : World) (hb : Rd w B 1 A m (bys (k :: l))) (hB : B ≤ w.heap.size) (hm : m ≤ 4294967296) (hmc : m ≤ c) (hk1 : 1 ≤ k.toNat) (hk2 : k.toNat ≤ 12) :
    Calls Try.prog 22 #[.slice A m c] w (ReadEndR (Cl.read (k :: l)) w) := by
  obtain ⟨res, hres⟩ : ∃ res, Cl.read (k :: l) = res := ⟨_, rfl⟩
  rw [hres]
  rw [read_cons k l hk1 hk2] at hres
  have Hres := hide hres
  clear hres
  have hml : m = l.length + 1 := by simpa [bys] using hb.len1.symm
  obtain ⟨ab, ao, rfl, hlt, c0⟩ := hb.at_ (k := 0) (u := .int .u8 k.toNat) (by simp [bys])
  rw [Nat.add_zero] at c0
  have hc1 := (World.cell?_alloc_lt w (.cells zeroL.toArray 26) ⟨ab, ao, none⟩ (by show ab < _; omega)).trans c0
  obtain ⟨hbr, hbc, hbel⟩ := start2 w zeroL.toArray #[.int .u8 k.toNat, .int .u64 0, .int .u64 0, .int .u64 0, .int .u64 0, .int .u64 0, .string ⟨#[]⟩, .slice none 0 0, .slice none 0 0, .slice none 0 0]
  have HBR := hide hbr
  have HBC := hide hbc
  have Hbel := hide hbel
  have hmz : ((m : Int) == 0) = false := beq_eq_false_iff_ne.2 (by omega)
  have hk1' : ¬ (((k.toNat : Nat) : Int) < 1) := by omega
  have hk2' : ¬ ((12 : Int) < ((k.toNat : Nat) : Int)) := by omega
  have Hml := hide hml
  have hm1 : 1 ≤ m := by omega
  have Hrd := hide (hb.below (hbel.mono hB))
  have Hle := hide (rflds_len (Cl.fsN k.toNat) (Cl.kindC k.toNat, ⟨l, false⟩))
  have Hfit := hide (rflds_fit (Cl.fsN k.toNat) (Cl.kindC k.toNat, ⟨l, false⟩) (kindC_fit (by omega)) (by simp only; omega))
  have K0 := hide (fun w => rfields_any k.toNat w (by omega))
  clear hb hbr hbc hbel c0 hml
  go_enter Try.func22, Try.ntmps22
  go_wp2_with fail
  refine ((unhide K0) _).mono ?_
  rintro e w3 ⟨rfl, hb3⟩
  obtain ⟨c1, c2, c3, c4⟩ := start3 w zeroL.toArray #[.int .u8 k.toNat, .int .u64 0, .int .u64 0, .int .u64 0, .int .u64 0, .int .u64 0, .string ⟨#[]⟩, .slice none 0 0, .slice none 0 0, .slice none 0 0] #[.slice (some ⟨ab, ao, none⟩) m c, .int .i64 1, .bool false]
  have hb3w := c4.trans (hb3.mono c4.size)
  have hst0 : RSt2 (k :: l) w w3 w3 (w.heap.size + 1) (w.heap.size + 1 + 1) B (Cl.kindC k.toNat, ⟨l, false⟩) slN slN slN :=
    ⟨c1.belowSz hb3, c2.belowSz hb3, ⟨ab, ao, m, c, 1, c3.belowSz hb3, ((unhide Hrd).alloc (by simp; omega) _).below (hb3.mono (by simp; omega)), rfl, hm1, hmc, hm⟩, ClFr.zero _ _ _, hb3w, Nat.le_refl _, by omega, by omega, (c3.belowSz hb3).lt, hB⟩
  have Hst0 := hide hst0
  have hgr3 := hst0.g3
  clear c1 c2 c3 c4 hb3w hst0 hb3 HBR HBC Hbel Hrd K0 hc1
  have hfl := flT_size' hk2
  have hat := fun j f h hj => flT_at (k := k.toNat) (j := j) (f := f) hk2 h hj
  have hfn := fsN_len k.toNat
  rw [← hfl] at hfn
  generalize flT k.toNat = s at *
  have Hat := hide hat
  have Hn := hide hfl.symm
  clear hat hfl
  generalize hgc : w.heap.size + 1 = gc at *
  generalize hgr : gc + 1 = gr at *
  have hgc' : w.heap.size < gc := by omega
  have hgr' : gc < gr := by omega
  clear hgc hgr
  go_wp2_with fail
  go_loopg [8] s.size (fun gk i wr => ∃ (j : Nat) (x y z : Sl), gk = s.size - j ∧ j ≤ s.size ∧ i = .int .i64 j ∧ RSt2 (k :: l) w w3 wr gc gr B (Cl.rflds ((Cl.fsN k.toNat).take j) (Cl.kindC k.toNat, ⟨l, false⟩)) x y z)
  case atStart => exact ⟨0, slN, slN, slN, by omega, by omega, rfl, unhide Hst0⟩
  case round =>
  clear Hst0
  obtain ⟨j, x, y, z, hgk, hj, rfl, hst⟩ := hrel
  have Hgk := hide hgk
  have Hst := hide hst
  have a4 := hst.size
  clear hgk
  rcases Nat.lt_or_ge j s.size with hlt | hge
  case inr =>
    obtain rfl : j = s.size := by omega
    have e : (Cl.fsN k.toNat).take s.size = Cl.fsN k.toNat := List.take_of_length_le (by have := unhide Hn; omega)
    rw [e] at Hst
    clear e hst
    clear Hn Hat Hgk
    have hr0 := unhide Hres
    have Hfit' := hide (unhide Hfit)
    have Hpath := hide (rflds_path (Cl.fsN k.toNat) (Cl.kindC k.toNat, ⟨l, false⟩) (by show (Cl.ba []).size ≤ _; rw [Cl.ba_size]; simp) (by have := unhide Hml; simp only; omega))
    have Hle' := hide (unhide Hle)
    change Hid ((Cl.rall k.toNat l).2.b.length ≤ l.length) at Hle'
    change Hid ((Cl.rall k.toNat l).1.path.size ≤ 4294967296) at Hpath
    change Hid (RSt2 (k :: l) w w3 wr gc gr B (Cl.rall k.toNat l) x y z) at Hst
    change Hid (ClFit (Cl.rall k.toNat l).1 ∧ (Cl.rall k.toNat l).2.b.length ≤ 4294967296) at Hfit'
    clear Hres Hfit
    generalize Cl.rall k.toNat l = st at *
    obtain ⟨q, r⟩ := st
    simp only at hr0
    have hst := unhide Hst
    have hbw := hst.below
    have hci := callInfo
    cases hgn : r.gone
    case true =>
      rw [if_pos hgn] at hr0
      subst hr0
      have hc1 : wr.cell? ⟨gr, 2, none⟩ = some (.bool true) := by
        obtain ⟨ab, ao, m, c, p, q1, _⟩ := hst.rdr
        rw [← hgn]
        exact q1.cell (i := 2) rfl
      have HB5 := hide hst.res
      have HB6 := hide (blk_row (m := zeroL) hst.res)
      have Hbw := hide hbw
      clear hst hbw hgn Hst Hfit'
      go_wp2_with ((with_reducible refine (@id (wpList _ _ _ (Oper.mk none (Op.store 26 (.tmp 2) (.tmp 92)) _ _ _ none :: _) _ _) ?_)); refine wpList_store_row rfl 26 (.tmp 2) (.tmp 92) rfl w.heap.size zeroL.toArray rfl rfl 26 _ (unhide HB5) hci rfl zero_one ?_)
      refine bodyPost_ret (results_cell_tmp2 (P := Try.prog) rfl _ _ w.heap.size 26 zeroL.toArray (0, 0) _ rfl (unhide HB6) Try.underlying26 rfl callInfo) rfl ?_
      exact ⟨slN, slN, slN, rfl, (ClFr.zero _ _ 0), below_setRow (unhide Hbw) (Nat.le_refl _) _⟩
    rw [if_neg (by rw [hgn]; simp)] at hr0
    have hrl : r.b.length ≤ 4294967296 := (unhide Hfit').2
    have K3 := rcallCheck_any q x y z wr.heap.size wr hst.own.ok (Nat.le_refl _) (unhide Hfit').1 (unhide Hpath)
    obtain ⟨ev, hev⟩ : ∃ ev, Cl.check q = ev := ⟨_, rfl⟩
    rw [hev] at hr0 K3
    have HK3 := hide K3
    have hc1 : wr.cell? ⟨gr, 2, none⟩ = some (.bool false) := by
      obtain ⟨ab, ao, m, c, p, q1, _⟩ := hst.rdr
      rw [← hgn]
      exact q1.cell (i := 2) rfl
    obtain ⟨v0, v1, v2, v3, v4, v5, v6, v7, v8, v9⟩ := box10 hst.call
    clear K3 hev hgn
    have Hr0 := hide hr0
    have hltw := hst.call.lt
    have hltr := hst.rdr.lt
    clear hr0 hst hbw
    go_wp2_with fail
    refine (unhide HK3).mono ?_
    rintro e w5 ⟨rfl, hb5⟩
    have hst5 := (unhide Hst).went (r' := r) (grownBy_of_below hb5) ((unhide Hst).rdr.below hb5 hltr (by omega))
    have HB5 := hide hst5.res
    have HB6 := hide (blk_row (m := zeroL) hst5.res)
    have Hbw := hide hst5.below
    have Hst5 := hide hst5
    clear v0 v1 v2 v3 v4 v5 v6 v7 v8 v9 hc1 HK3 hb5 hst5 Hst
    by_cases hev : ev = 0
    case neg =>
      have hr0 := unhide Hr0
      rw [if_neg hev] at hr0
      subst hr0
      have he1 : (ev != 0) = true := by simpa using hev
      clear hev Hr0
      go_wp2_with ((with_reducible refine (@id (wpList _ _ _ (Oper.mk none (Op.store 26 (.tmp 2) (.tmp 97)) _ _ _ none :: _) _ _) ?_)); refine wpList_store_row rfl 26 (.tmp 2) (.tmp 97) rfl w.heap.size zeroL.toArray rfl rfl 26 _ (unhide HB5) hci rfl zero_one ?_)
      refine bodyPost_ret (results_cell_tmp2 (P := Try.prog) rfl _ _ w.heap.size 26 zeroL.toArray (0, 0) _ rfl (unhide HB6) Try.underlying26 rfl callInfo) rfl ?_
      exact ⟨slN, slN, slN, rfl, (ClFr.zero _ _ 0), below_setRow (unhide Hbw) (Nat.le_refl _) _⟩
    subst hev
    have hr0 := unhide Hr0
    rw [if_pos rfl] at hr0
    subst hr0
    clear Hr0 HB6
    have hst5 := unhide Hst5
    obtain ⟨rb, ro, rm, rc, rp, rblk, rrd, rbe, rpm, rmc, rm4⟩ := hst5.rdr
    have hg12 : w.heap.size < gc := hst5.g1
    have hg23 : gc < gr := hst5.g2
    have rcell := rblk.cell (i := 1) rfl
    have hrm : (k :: l).length = rm := by simpa [bys] using rrd.len1
    have hrl2 : r.b.length = rm - rp := by rw [rbe, List.length_drop, hrm]
    have hS1 : ∀ w', (w' = w5.drew ∨ w' = w5.drew.setRow w.heap.size (clCells q x y z)) → w'.heap[gc]? = some (.cells (clCells q x y z) 26 (0, 0)) := by
      rintro w' (rfl | rfl)
      · exact hst5.call
      · exact (setRow_other _ _ _ _ (by omega)).trans hst5.call
    have hS2 : ∀ w', (w' = w5.drew ∨ w' = w5.drew.setRow w.heap.size (clCells q x y z)) → w'.cell? ⟨gr, 1, none⟩ = some (.int .i64 (rp : Nat)) := by
      rintro w' (rfl | rfl)
      · exact rcell
      · exact (cell_setRow_other _ _ _ _ (by simp; omega)).trans rcell
    have HS1 := hide hS1
    have HS2 := hide hS2
    have HB7 := hide (show w5.drew.heap[w.heap.size]? = some (.cells zeroL.toArray 26 (0, 0)) from hst5.res)
    have Hrl2 := hide hrl2
    have Hrm := hide hrm
    have hrpm := rpm
    clear hst5 rblk rrd rcell hS1 hS2 hrl2 hrm rbe
    go_wp2_with fail
    refine wp_region_held_drew (S := fun w' => w' = w5.drew ∨ w' = w5.drew.setRow w.heap.size (clCells q x y z)) (by kernel_rfl) (.inl rfl) (fun hHeld => ?_)
    clear hHeld
    refine takeD (i := 0) (d := some 99) (v := .agg (clCells q x y z)) rfl rfl (by kernel_rfl) (by kernel_rfl) (by kernel_rfl) (fun _ _ _ h => h) (yieldsS_load (by rfl) 26 (.tmp 5) rfl gc rfl 26 _ (0, 0) _ (unhide HS1) Try.underlying26 rfl callInfo) (.inl rfl) ?_
    simp only [Act.put, List.setIfInBounds_toArray, List.set_cons_zero, List.set_cons_succ]
    refine takeD (i := 1) (d := some 100) (v := .pointer (some ⟨gr, 0, none⟩)) rfl rfl (by kernel_rfl) (by kernel_rfl) (by kernel_rfl) (fun _ _ _ h => h) (yields_move (by rfl) (.tmp 6) rfl _ rfl) (.inl rfl) ?_
    simp only [Act.put, List.setIfInBounds_toArray, List.set_cons_zero, List.set_cons_succ]
    refine takeD (i := 2) (d := some 101) (v := .pointer (some ⟨gr, 0, none⟩)) rfl rfl (by kernel_rfl) (by kernel_rfl) (by kernel_rfl) (fun _ _ _ h => h) (yields_nil (by rfl) (.tmp 100) rfl ⟨gr, 0, none⟩ rfl) (.inl rfl) ?_
    simp only [Act.put, List.setIfInBounds_toArray, List.set_cons_zero, List.set_cons_succ]
    refine takeD (i := 3) (d := some 102) (v := .pointer (some ⟨gr, 1, none⟩)) rfl rfl (by kernel_rfl) (by kernel_rfl) (by kernel_rfl) (fun _ _ _ h => h) (yieldsR_field1 (by rfl) (.tmp 101) rfl gr rfl) (.inl rfl) ?_
    simp only [Act.put, List.setIfInBounds_toArray, List.set_cons_zero, List.set_cons_succ]
    refine takeD (i := 4) (d := some 103) (v := .int .i64 (rp : Nat)) rfl rfl (by kernel_rfl) (by kernel_rfl) (by kernel_rfl) (fun _ _ _ h => h) (yieldsS_int (by rfl) (.tmp 102) rfl gr 1 rfl _ (unhide HS2)) (.inl rfl) ?_
    simp only [Act.put, List.setIfInBounds_toArray, List.set_cons_zero, List.set_cons_succ]
    refine storeS (i := 5) rfl rfl (by kernel_rfl) (by rfl) 26 (.tmp 2) (.tmp 99) rfl w.heap.size (clCells q x y z) zeroL.toArray rfl rfl 26 (unhide HB7) callInfo rfl (cl_one q x y z) (.inr rfl) ?_
    refine takeD (i := 6) (d := some 3) (v := .int .i64 (rp : Nat)) rfl rfl (by kernel_rfl) (by kernel_rfl) (by kernel_rfl) (fun _ _ _ h => h) (yields_assign (by rfl) (.tmp 103) rfl _ rfl) (.inr rfl) ?_
    simp only [Act.put, List.setIfInBounds_toArray, List.set_cons_zero, List.set_cons_succ]
    refine takeD (i := 7) (d := some 4) (v := .int .i64 0) rfl rfl (by kernel_rfl) (by kernel_rfl) (by kernel_rfl) (fun _ _ _ h => h) (yields_assign (by rfl) (.const (.int .i64 0)) rfl _ rfl) (.inr rfl) ?_
    simp only [Act.put, List.setIfInBounds_toArray, List.set_cons_zero, List.set_cons_succ]
    refine wpAnyH_done (by kernel_rfl) ?_ _
    have HB8 := hide (blk_row (m := clL q x y z) (unhide HB7))
    have Hend := hide (((unhide Hst5).own.below (below_drew' (Below.refl _ _))).keep (w' := w5.drew.setRow w.heap.size (clCells q x y z)) (fun b hb hb2 => setRow_other _ _ _ _ (by omega)))
    have Hbe := hide (below_setRow (below_drew' (unhide Hst5).below) (Nat.le_refl _) (clCells q x y z))
    go_wp2_with fail
    refine bodyPost_ret (results_cell_tmp2 (P := Try.prog) rfl _ _ w.heap.size 26 (clCells q x y z) (0, 0) _ rfl (unhide HB8) Try.underlying26 rfl callInfo) rfl ?_
    have hnum : ((rp : Nat) : Int) = ((l.length + 1 - r.b.length : Nat) : Int) := by
      have h2 : r.b.length ≤ l.length := unhide Hle'
      have hrm := unhide Hrm
      have hrl2 := unhide Hrl2
      simp only [List.length_cons] at hrm
      omega
    have he := unhide Hend
    have hw3 : w.heap.size ≤ w3.heap.size := by omega
    refine ⟨x, y, z, ?_, ⟨he.o1.base_ hw3, he.o2.base_ hw3, he.o3.base_ hw3⟩, unhide Hbe⟩
    show Ending.returned (.tuple #[_, .int .i64 ((rp : Nat) : Int), _]) = _
    rw [hnum]
    rfl
  obtain ⟨f, hfk⟩ : ∃ f, (Cl.fsN k.toNat)[j]? = some f := ⟨_, List.getElem?_eq_getElem (by rw [unhide Hn]; exact hlt)⟩
  have hf9 : f < 9 := (Cl.fsN_ok k.toNat).1 f (List.mem_of_getElem? hfk)
  have hch : s[j] = letter f := (unhide Hat) j f hfk hlt
  have hsn := rflds_snoc hfk (Cl.kindC k.toNat, ⟨l, false⟩)
  have Hsn := hide hsn
  generalize Cl.rflds ((Cl.fsN k.toNat).take j) (Cl.kindC k.toNat, ⟨l, false⟩) = st at *
  clear hfk hsn
  obtain rfl | rfl | rfl | rfl | rfl | rfl | rfl | rfl | rfl : f = 0 ∨ f = 1 ∨ f = 2 ∨ f = 3 ∨ f = 4 ∨ f = 5 ∨ f = 6 ∨ f = 7 ∨ f = 8 := by omega
  · have t65 : (((s[j].toNat : Nat) : Int) == 65) = true := by rw [hch]; rfl
    have K2 := hide (rnum_any (k :: l) gr B 8 st.2 wr hst.rdr (by omega) (by omega))
    clear hst hch
    go_wp2_with fail
    refine (unhide K2).mono ?_
    rintro e w4 ⟨rfl, hr4, hg4⟩
    have hst4 := (unhide Hst).went hg4 hr4
    have hc4 := hst4.call.cell (i := 1) rfl
    have hf4 := hst4.call.free 1
    have hlt4 := hst4.call.lt
    have hst5 := hst4.store 1 (.int .u64 (Cl.rnum st.2 8).1) (q' := (Cl.rfld st 0).1) (x' := x) (y' := y) (z' := z) rfl ⟨hst4.own.o1, hst4.own.o2, hst4.own.o3⟩
    have Hst5 := hide hst5
    clear hr4 hg4 hst4 hst5 K2 Hst
    go_wp2_with fail
    clear hc4 hf4
    go_roundg (s.size - (j + 1))
    case measure => have := unhide Hgk; omega
    case rel => exact ⟨j + 1, x, y, z, rfl, by omega, by go_num, by rw [unhide Hsn]; exact unhide Hst5⟩
  · have t65 : (((s[j].toNat : Nat) : Int) == 65) = false := by rw [hch]; rfl
    have t66 : (((s[j].toNat : Nat) : Int) == 66) = true := by rw [hch]; rfl
    have K2 := hide (rnum_any (k :: l) gr B 8 st.2 wr hst.rdr (by omega) (by omega))
    clear hst hch
    go_wp2_with fail
    refine (unhide K2).mono ?_
    rintro e w4 ⟨rfl, hr4, hg4⟩
    have hst4 := (unhide Hst).went hg4 hr4
    have hc4 := hst4.call.cell (i := 2) rfl
    have hf4 := hst4.call.free 2
    have hlt4 := hst4.call.lt
    have hst5 := hst4.store 2 (.int .u64 (Cl.rnum st.2 8).1) (q' := (Cl.rfld st 1).1) (x' := x) (y' := y) (z' := z) rfl ⟨hst4.own.o1, hst4.own.o2, hst4.own.o3⟩
    have Hst5 := hide hst5
    clear hr4 hg4 hst4 hst5 K2 Hst
    go_wp2_with fail
    clear hc4 hf4
    go_roundg (s.size - (j + 1))
    case measure => have := unhide Hgk; omega
    case rel => exact ⟨j + 1, x, y, z, rfl, by omega, by go_num, by rw [unhide Hsn]; exact unhide Hst5⟩
  · have t65 : (((s[j].toNat : Nat) : Int) == 65) = false := by rw [hch]; rfl
    have t66 : (((s[j].toNat : Nat) : Int) == 66) = false := by rw [hch]; rfl
    have t67 : (((s[j].toNat : Nat) : Int) == 67) = true := by rw [hch]; rfl
    have K2 := hide (rnum_any (k :: l) gr B 8 st.2 wr hst.rdr (by omega) (by omega))
    clear hst hch
    go_wp2_with fail
    refine (unhide K2).mono ?_
    rintro e w4 ⟨rfl, hr4, hg4⟩
    have hst4 := (unhide Hst).went hg4 hr4
    have hc4 := hst4.call.cell (i := 3) rfl
    have hf4 := hst4.call.free 3
    have hlt4 := hst4.call.lt
    have hst5 := hst4.store 3 (.int .u64 (Cl.rnum st.2 8).1) (q' := (Cl.rfld st 2).1) (x' := x) (y' := y) (z' := z) rfl ⟨hst4.own.o1, hst4.own.o2, hst4.own.o3⟩
    have Hst5 := hide hst5
    clear hr4 hg4 hst4 hst5 K2 Hst
    go_wp2_with fail
    clear hc4 hf4
    go_roundg (s.size - (j + 1))
    case measure => have := unhide Hgk; omega
    case rel => exact ⟨j + 1, x, y, z, rfl, by omega, by go_num, by rw [unhide Hsn]; exact unhide Hst5⟩
  · have t65 : (((s[j].toNat : Nat) : Int) == 65) = false := by rw [hch]; rfl
    have t66 : (((s[j].toNat : Nat) : Int) == 66) = false := by rw [hch]; rfl
    have t67 : (((s[j].toNat : Nat) : Int) == 67) = false := by rw [hch]; rfl
    have t68 : (((s[j].toNat : Nat) : Int) == 68) = true := by rw [hch]; rfl
    have K2 := hide (rnum_any (k :: l) gr B 8 st.2 wr hst.rdr (by omega) (by omega))
    clear hst hch
    go_wp2_with fail
    refine (unhide K2).mono ?_
    rintro e w4 ⟨rfl, hr4, hg4⟩
    have hst4 := (unhide Hst).went hg4 hr4
    have hc4 := hst4.call.cell (i := 4) rfl
    have hf4 := hst4.call.free 4
    have hlt4 := hst4.call.lt
    have hst5 := hst4.store 4 (.int .u64 (Cl.rnum st.2 8).1) (q' := (Cl.rfld st 3).1) (x' := x) (y' := y) (z' := z) rfl ⟨hst4.own.o1, hst4.own.o2, hst4.own.o3⟩
    have Hst5 := hide hst5
    clear hr4 hg4 hst4 hst5 K2 Hst
    go_wp2_with fail
    clear hc4 hf4
    go_roundg (s.size - (j + 1))
    case measure => have := unhide Hgk; omega
    case rel => exact ⟨j + 1, x, y, z, rfl, by omega, by go_num, by rw [unhide Hsn]; exact unhide Hst5⟩
  · have t65 : (((s[j].toNat : Nat) : Int) == 65) = false := by rw [hch]; rfl
    have t66 : (((s[j].toNat : Nat) : Int) == 66) = false := by rw [hch]; rfl
    have t67 : (((s[j].toNat : Nat) : Int) == 67) = false := by rw [hch]; rfl
    have t68 : (((s[j].toNat : Nat) : Int) == 68) = false := by rw [hch]; rfl
    have t69 : (((s[j].toNat : Nat) : Int) == 69) = true := by rw [hch]; rfl
    have K2 := hide (rnum_any (k :: l) gr B 8 st.2 wr hst.rdr (by omega) (by omega))
    clear hst hch
    go_wp2_with fail
    refine (unhide K2).mono ?_
    rintro e w4 ⟨rfl, hr4, hg4⟩
    have hst4 := (unhide Hst).went hg4 hr4
    have hc4 := hst4.call.cell (i := 5) rfl
    have hf4 := hst4.call.free 5
    have hlt4 := hst4.call.lt
    have hst5 := hst4.store 5 (.int .u64 (Cl.rnum st.2 8).1) (q' := (Cl.rfld st 4).1) (x' := x) (y' := y) (z' := z) rfl ⟨hst4.own.o1, hst4.own.o2, hst4.own.o3⟩
    have Hst5 := hide hst5
    clear hr4 hg4 hst4 hst5 K2 Hst
    go_wp2_with fail
    clear hc4 hf4
    go_roundg (s.size - (j + 1))
    case measure => have := unhide Hgk; omega
    case rel => exact ⟨j + 1, x, y, z, rfl, by omega, by go_num, by rw [unhide Hsn]; exact unhide Hst5⟩
  · have t65 : (((s[j].toNat : Nat) : Int) == 65) = false := by rw [hch]; rfl
    have t66 : (((s[j].toNat : Nat) : Int) == 66) = false := by rw [hch]; rfl
    have t67 : (((s[j].toNat : Nat) : Int) == 67) = false := by rw [hch]; rfl
    have t68 : (((s[j].toNat : Nat) : Int) == 68) = false := by rw [hch]; rfl
    have t69 : (((s[j].toNat : Nat) : Int) == 69) = false := by rw [hch]; rfl
    have t80 : (((s[j].toNat : Nat) : Int) == 80) = true := by rw [hch]; rfl
    have K2 := hide (rtext_rd (k :: l) gr B st.2 wr hst.rdr (by omega))
    clear hst hch
    go_wp2_with fail
    refine (unhide K2).mono ?_
    rintro e w4 ⟨rfl, hr4, hg4⟩
    have hst4 := (unhide Hst).went hg4 hr4
    have hc4 := hst4.call.cell (i := 6) rfl
    have hf4 := hst4.call.free 6
    have hlt4 := hst4.call.lt
    have hst5 := hst4.store 6 (.string (Cl.ba (Cl.rtxt st.2).1)) (q' := (Cl.rfld st 5).1) (x' := x) (y' := y) (z' := z) rfl ⟨hst4.own.o1, hst4.own.o2, hst4.own.o3⟩
    have Hst5 := hide hst5
    clear hr4 hg4 hst4 hst5 K2 Hst
    go_wp2_with fail
    clear hc4 hf4
    go_roundg (s.size - (j + 1))
    case measure => have := unhide Hgk; omega
    case rel => exact ⟨j + 1, x, y, z, rfl, by omega, by go_num, by rw [unhide Hsn]; exact unhide Hst5⟩
  · have t65 : (((s[j].toNat : Nat) : Int) == 65) = false := by rw [hch]; rfl
    have t66 : (((s[j].toNat : Nat) : Int) == 66) = false := by rw [hch]; rfl
    have t67 : (((s[j].toNat : Nat) : Int) == 67) = false := by rw [hch]; rfl
    have t68 : (((s[j].toNat : Nat) : Int) == 68) = false := by rw [hch]; rfl
    have t69 : (((s[j].toNat : Nat) : Int) == 69) = false := by rw [hch]; rfl
    have t80 : (((s[j].toNat : Nat) : Int) == 80) = false := by rw [hch]; rfl
    have t86 : (((s[j].toNat : Nat) : Int) == 86) = true := by rw [hch]; rfl
    have K2 := hide (rlist_rd (k :: l) gr B st.2 wr hst.rdr (by omega))
    clear hst hch
    go_wp2_with fail
    refine (unhide K2).mono ?_
    rintro e w4 ⟨A4, c4, rfl, ho4, hr4, hg4⟩
    have hst4 := (unhide Hst).went hg4 hr4
    have hc4 := hst4.call.cell (i := 7) rfl
    have hf4 := hst4.call.free 7
    have hlt4 := hst4.call.lt
    have hst5 := hst4.store 7 (.slice A4 (Cl.rlst st.2).1.length c4) (q' := (Cl.rfld st 6).1) (x' := ⟨A4, (Cl.rlst st.2).1.length, c4⟩) (y' := y) (z' := z) rfl ⟨(Fresh.of_own ho4).base_ a4, hst4.own.o2, hst4.own.o3⟩
    have Hst5 := hide hst5
    clear ho4 hr4 hg4 hst4 hst5 K2 Hst
    go_wp2_with fail
    clear hc4 hf4
    go_roundg (s.size - (j + 1))
    case measure => have := unhide Hgk; omega
    case rel => exact ⟨j + 1, _, y, z, rfl, by omega, by go_num, by rw [unhide Hsn]; exact unhide Hst5⟩
  · have t65 : (((s[j].toNat : Nat) : Int) == 65) = false := by rw [hch]; rfl
    have t66 : (((s[j].toNat : Nat) : Int) == 66) = false := by rw [hch]; rfl
    have t67 : (((s[j].toNat : Nat) : Int) == 67) = false := by rw [hch]; rfl
    have t68 : (((s[j].toNat : Nat) : Int) == 68) = false := by rw [hch]; rfl
    have t69 : (((s[j].toNat : Nat) : Int) == 69) = false := by rw [hch]; rfl
    have t80 : (((s[j].toNat : Nat) : Int) == 80) = false := by rw [hch]; rfl
    have t86 : (((s[j].toNat : Nat) : Int) == 86) = false := by rw [hch]; rfl
    have t87 : (((s[j].toNat : Nat) : Int) == 87) = true := by rw [hch]; rfl
    have K2 := hide (rlist_rd (k :: l) gr B st.2 wr hst.rdr (by omega))
    clear hst hch
    go_wp2_with fail
    refine (unhide K2).mono ?_
    rintro e w4 ⟨A4, c4, rfl, ho4, hr4, hg4⟩
    have hst4 := (unhide Hst).went hg4 hr4
    have hc4 := hst4.call.cell (i := 8) rfl
    have hf4 := hst4.call.free 8
    have hlt4 := hst4.call.lt
    have hst5 := hst4.store 8 (.slice A4 (Cl.rlst st.2).1.length c4) (q' := (Cl.rfld st 7).1) (x' := x) (y' := ⟨A4, (Cl.rlst st.2).1.length, c4⟩) (z' := z) rfl ⟨hst4.own.o1, (Fresh.of_own ho4).base_ a4, hst4.own.o3⟩
    have Hst5 := hide hst5
    clear ho4 hr4 hg4 hst4 hst5 K2 Hst
    go_wp2_with fail
    clear hc4 hf4
    go_roundg (s.size - (j + 1))
    case measure => have := unhide Hgk; omega
    case rel => exact ⟨j + 1, x, _, z, rfl, by omega, by go_num, by rw [unhide Hsn]; exact unhide Hst5⟩
  · have t65 : (((s[j].toNat : Nat) : Int) == 65) = false := by rw [hch]; rfl
    have t66 : (((s[j].toNat : Nat) : Int) == 66) = false := by rw [hch]; rfl
    have t67 : (((s[j].toNat : Nat) : Int) == 67) = false := by rw [hch]; rfl
    have t68 : (((s[j].toNat : Nat) : Int) == 68) = false := by rw [hch]; rfl
    have t69 : (((s[j].toNat : Nat) : Int) == 69) = false := by rw [hch]; rfl
    have t80 : (((s[j].toNat : Nat) : Int) == 80) = false := by rw [hch]; rfl
    have t86 : (((s[j].toNat : Nat) : Int) == 86) = false := by rw [hch]; rfl
    have t87 : (((s[j].toNat : Nat) : Int) == 87) = false := by rw [hch]; rfl
    have t88 : (((s[j].toNat : Nat) : Int) == 88) = true := by rw [hch]; rfl
    have K2 := hide (rtext_rd (k :: l) gr B st.2 wr hst.rdr (by omega))
    have hlen := (rtxt_le st.2).1
    have hlen2 := hst.rdr.len
    clear hst hch
    go_wp2_with fail
    refine (unhide K2).mono ?_
    rintro e w4 ⟨rfl, hr4, hg4⟩
    have hst4 := (unhide Hst).went hg4 hr4
    have hcv := Lib.run_convert_string_bytes (P := Try.prog) w4 9 24 5 (Cl.ba (Cl.rtxt st.2).1) strTyp Try.underlying24 Try.underlying5
    have hsz : (Cl.ba (Cl.rtxt st.2).1).size = (Cl.rtxt st.2).1.length := Cl.ba_size _
    rw [hsz] at hcv
    have hbb := below_bytes w4 5 (Cl.ba (Cl.rtxt st.2).1)
    have hfr := fresh_bytes w4 5 (Cl.rtxt st.2).1
    have ha5 := hst4.size
    have hb5 := hst4.rdr.lt
    have hst6 := hst4.went (grownBy_of_below hbb) (hst4.rdr.below hbb hb5 (by omega))
    obtain ⟨cp, hcp⟩ : ∃ cp, grownCap w4 (Cl.rtxt st.2).1.length 0 5 = cp := ⟨_, rfl⟩
    rw [hcp] at hcv
    clear hcp hsz
    generalize Lib.bytesWorld w4 5 (Cl.ba (Cl.rtxt st.2).1) = w5 at *
    have hc4 := hst6.call.cell (i := 9) rfl
    have hf4 := hst6.call.free 9
    have hlt4 := hst6.call.lt
    have hst5 := hst6.store 9 (.slice (some ⟨w4.heap.size, 0, none⟩) (Cl.rtxt st.2).1.length cp) (q' := (Cl.rfld st 8).1) (x' := x) (y' := y) (z' := ⟨some ⟨w4.heap.size, 0, none⟩, (Cl.rtxt st.2).1.length, cp⟩) rfl ⟨hst6.own.o1, hst6.own.o2, hfr.base_ ha5⟩
    have Hst5 := hide hst5
    clear hst4 hr4 hg4 K2 Hst hbb hfr hst6 hst5
    go_wp2_with fail
    clear hc4 hf4 hcv
    go_roundg (s.size - (j + 1))
    case measure => have := unhide Hgk; omega
    case rel => exact ⟨j + 1, x, y, _, rfl, by omega, by go_num, by rw [unhide Hsn]; exact unhide Hst5⟩

theorem callRead_any (A : Option Addr) (m c B : Nat) (b : List UInt8) (w : World) (hb : Rd w B 1 A m (bys b)) (hB : B ≤ w.heap.size) (hm : m ≤ 4294967296) (hmc : m ≤ c) :
    Calls Try.prog 21 #[.slice A m c] w (ReadEnd (Cl.read b) w) := by
  cases b with
  | nil =>
    have h0 : m = 0 := by simpa [bys] using hb.len1.symm
    subst h0
    exact callRead_nil A c w
  | cons k l =>
    by_cases hk : k.toNat = 0 ∨ 12 < k.toNat
    · have e : Cl.read (k :: l) = (Cl.zeroC, 0, 23) := if_pos hk
      rw [e]
      exact callRead_kind A m c B k l w hb hB hm hk
    · exact callRead_good A m c B k l w hb hB hm hmc (by omega) (by omega)
theorem rRead_any (A : Option Addr) (m c B : Nat) (b : List UInt8) (w : World) (hb : Rd w B 1 A m (bys b)) (hB : B ≤ w.heap.size) (hm : m ≤ 4294967296) (hmc : m ≤ c) :
    Calls Try.prog 22 #[.slice A m c] w (ReadEndR (Cl.read b) w) := by
  cases b with
  | nil =>
    have h0 : m = 0 := by simpa [bys] using hb.len1.symm
    subst h0
    exact (rRead_nil A c w).mono fun _ _ h => readEnd_R h
  | cons k l =>
    by_cases hk : k.toNat = 0 ∨ 12 < k.toNat
    · have e : Cl.read (k :: l) = (Cl.zeroC, 0, 23) := if_pos hk
      rw [e]
      exact (rRead_kind A m c B k l w hb hB hm hk).mono fun _ _ h => readEnd_R h
    · exact rRead_good A m c B k l w hb hB hm hmc (by omega) (by omega)
end Go.Proofs.Ytphbkjdheopmhaa
namespace Go.Proofs.Ytphbkjdheopmhaa
set_option linter.unusedVariables false
set_option linter.unusedSimpArgs false
open Go.RowKit

/-- A step, with its lists. -/
structure SEl where
  p : Nat
  q : Cl.C
  x : Sl
  y : Sl
  z : Sl
def sPair (s : SEl) : Nat × Cl.C := (s.p, s.q)
abbrev sCells (s : SEl) : List Value := .int .i64 (s.p : Nat) :: clL s.q s.x s.y s.z
def rowOf : List SEl → List Value
  | [] => []
  | s :: r => sCells s ++ rowOf r
theorem rowOf_app (a b : List SEl) : rowOf (a ++ b) = rowOf a ++ rowOf b := by
  induction a with
  | nil => rfl
  | cons s r ih => show sCells s ++ rowOf (r ++ b) = (sCells s ++ rowOf r) ++ rowOf b; rw [ih, List.append_assoc]
theorem rowOf_len (l : List SEl) : (rowOf l).length = l.length * 11 := by
  induction l with
  | nil => rfl
  | cons s r ih => simp [rowOf, ih]; omega
theorem stepTy : SlTy Try.prog 42 49 11 144 := slTy_mk (z := .agg #[.int .i64 0, .int .u8 0, .int .u64 0, .int .u64 0, .int .u64 0, .int .u64 0, .int .u64 0, .string ⟨#[]⟩, .slice none 0 0, .slice none 0 0, .slice none 0 0]) Try.underlying42 (by kernel_rfl) rfl (by omega) (by omega)

/-- A list of cells in a block that is not 'row'. -/
def Fr (w : World) (row : Option Nat) (A : Option Addr) (n : Nat) (xs : List Value) : Prop := xs.length = n ∧ (xs = [] ∨ ∃ b off cs t fr, A = some ⟨b, off, none⟩ ∧ some b ≠ row ∧ w.heap[b]? = some (.cells cs t fr) ∧ ∀ j u, xs[j]? = some u → cs[off + j]? = some u)
section
variable {w w' : World} {row row' : Option Nat} {base n : Nat} {A : Option Addr} {xs : List Value}
theorem Fresh.fr (h : Fresh w base A n xs) (hr : ∀ k, row = some k → k < base) : Fr w row A n xs := by
  refine ⟨h.1, h.2.imp id ?_⟩
  rintro ⟨b, off, cs, t, fr, e, hb, hg, hc⟩
  exact ⟨b, off, cs, t, fr, e, fun e2 => by have := hr b e2.symm; omega, hg, hc⟩
theorem Fr.rd (h : Fr w row A n xs) : Rd w w.heap.size 1 A n xs := by
  refine ⟨by simpa using h.1, h.2.imp id ?_⟩
  rintro ⟨b, off, cs, t, fr, e, hb, hg, hc⟩
  exact ⟨b, off, e, lt_of_block hg, fun j u hu => by rw [cell_of_row w b (off + j) cs t fr hg]; exact hc j u hu⟩
theorem Fr.below (h : Fr w row A n xs) (hb : Below w.heap.size w w') : Fr w' row A n xs := by
  refine ⟨h.1, h.2.imp id ?_⟩
  rintro ⟨b, off, cs, t, fr, e, hne, hg, hc⟩
  exact ⟨b, off, cs, t, fr, e, hne, (hb.block b (lt_of_block hg)).trans hg, hc⟩
theorem Fr.grown (h : Fr w row A n xs) (hg : w.grownBy w' row) (hr : ∀ k, row' = some k → row = some k ∨ w.heap.size ≤ k) : Fr w' row' A n xs := by
  refine ⟨h.1, h.2.imp id ?_⟩
  rintro ⟨b, off, cs, t, fr, e, hne, hgb, hc⟩
  refine ⟨b, off, cs, t, fr, e, fun e2 => ?_, (hg.block b (lt_of_block hgb) hne).trans hgb, hc⟩
  rcases hr b e2.symm with h1 | h1
  · exact hne h1.symm
  · have := lt_of_block hgb; omega
end
structure ClF (w : World) (row : Option Nat) (q : Cl.C) (x y z : Sl) : Prop where
  o1 : Fr w row x.A x.n (q.argv.map Value.string)
  o2 : Fr w row y.A y.n (q.env.map Value.string)
  o3 : Fr w row z.A z.n (bys q.bytes)
section
variable {w w' : World} {row row' : Option Nat} {base : Nat} {q : Cl.C} {x y z : Sl}
theorem ClF.ok (h : ClF w row q x y z) : ClOk w w.heap.size q x y z := ⟨h.o1.rd, h.o2.rd, h.o3.rd⟩
theorem ClF.below (h : ClF w row q x y z) (hb : Below w.heap.size w w') : ClF w' row q x y z := ⟨h.o1.below hb, h.o2.below hb, h.o3.below hb⟩
theorem ClF.grown (h : ClF w row q x y z) (hg : w.grownBy w' row) (hr : ∀ k, row' = some k → row = some k ∨ w.heap.size ≤ k) : ClF w' row' q x y z := ⟨h.o1.grown hg hr, h.o2.grown hg hr, h.o3.grown hg hr⟩
theorem ClFr.f (h : ClFr w base q x y z) (hr : ∀ k, row = some k → k < base) : ClF w row q x y z := ⟨h.o1.fr hr, h.o2.fr hr, h.o3.fr hr⟩
end
/-- A row of steps. -/
structure SRow (w : World) (base : Nat) (A : Option Addr) (c : Nat) (L : List SEl) : Prop where
  own : w.ownsRow base 49 11 (.slice A L.length c) L.length (rowOf L)
  all : ∀ s ∈ L, ClF w (Value.slice A L.length c).ownBlock s.q s.x s.y s.z
theorem SRow.nil (w : World) (base : Nat) : SRow w base none 0 [] := ⟨World.ownsRow_nil _ _ _ _, fun s hs => absurd hs List.not_mem_nil⟩
theorem SRow.below {w w' : World} {base : Nat} {A : Option Addr} {c : Nat} {L : List SEl} (h : SRow w base A c L) (hb : Below w.heap.size w w') : SRow w' base A c L := ⟨own_below h.own hb, fun s hs => (h.all s hs).below hb⟩
/-- What Steps answers. -/
def StepsEnd (r : List (Nat × Cl.C) × Int × Nat) (w : World) (e : Ending) (w' : World) : Prop := ∃ L A c, e = .returned (.tuple #[.slice A L.length c, .int .i64 r.2.1, .int .i64 (r.2.2 : Nat)]) ∧ L.map sPair = r.1 ∧ SRow w' w.heap.size A c L ∧ Below w.heap.size w w'

section
variable {ops : Array Oper} {o : Oper} {a : Act} {S : World → Prop}
theorem yields_idx (hw : Region.wanted o (yielded ops a.tmps) = true) (x i : Operand) (ho : o.op = .indexAddr 24 x i) (b f n c k : Nat) (hx : a.eval x = .slice (some ⟨b, f, none⟩) n c) (hi : a.eval i = .int .i64 (k : Nat)) (hk : (k : Int) < (n : Int)) (hk2 : k < n) : YieldsIf Try.prog ops S o (.pointer (some ⟨b, f + k, none⟩)) a := by
  refine .inl ⟨hw, fun w' hw' => ?_⟩
  unfold execOp
  simp only [ho, hx, hi]
  go_simp
theorem yieldsS_u8 (hw : Region.wanted o (yielded ops a.tmps) = true) (x : Operand) (ho : o.op = .load 5 x) (g i : Nat) (hx : a.eval x = .pointer (some ⟨g, i, none⟩)) (n : Int) (hc : ∀ w', S w' → w'.cell? ⟨g, i, none⟩ = some (.int .u8 n)) : YieldsIf Try.prog ops S o (.int .u8 n) a := by
  refine .inl ⟨hw, fun w' hw' => ?_⟩
  have hc' := hc w' hw'
  unfold execOp
  simp only [ho, hx]
  go_simp
theorem yields_conv (hw : Region.wanted o (yielded ops a.tmps) = true) (x : Operand) (ho : o.op = .convert 5 3 x) (n : Nat) (hx : a.eval x = .int .u8 (n : Nat)) (hn : n < 256) : YieldsIf Try.prog ops S o (.int .i64 (n : Nat)) a := by
  refine .inl ⟨hw, fun w' hw' => ?_⟩
  unfold execOp
  simp only [ho, hx]
  go_simp
  exact IntWalk.i64_in _ (by omega)
theorem yields_step (hw : Region.wanted o (yielded ops a.tmps) = true) (x y : Operand) (ho : o.op = .build 49 #[(0, x), (1, y)]) (p : Int) (q : Cl.C) (xs ys zs : Sl) (hx : a.eval x = .int .i64 p) (hy : a.eval y = .agg (clCells q xs ys zs)) : YieldsIf Try.prog ops S o (.agg (.int .i64 p :: clL q xs ys zs).toArray) a := by
  refine .inl ⟨hw, fun w' hw' => ?_⟩
  unfold execOp
  simp only [ho]
  simp [hx, hy]
  go_simp
end
theorem stepD {P : Program} {md : Region.Mode} {ops : Array Oper} {Q : Exit → Act → World → Prop} {S : World → Prop} {i : Nat} {oi : Oper} {d : Option Tmp} {fuel : Nat} {listed : Array Bool} {a : Act} {w : World} (hi : ops[i]? = some oi) (hd : oi.dst = d)
    (hr : Region.ready md ops listed = [i]) (hw : Region.wanted oi (yielded ops a.tmps) = true)
    (h : ∀ K : Act → World → Prop, (∀ v w', S w' → wpAnyH P md ops Q S fuel (listed.setIfInBounds i true) (a.put d v) w' → K (a.put oi.dst v) w') → oi.wp P a w K Q) : wpAnyH P md ops Q S (fuel + 1) listed a w := by
  refine wpAnyH_ready (rs := [i]) hr (by simp) ?_
  refine AllReadyH.cons hi (fun K hK => ?_) AllReadyH.nil
  rw [if_pos hw]
  subst hd
  exact h K (fun v w' hS hh => hK.out _ _ hS (fun _ => hh))
theorem run_sliceStep (w : World) (p : Int) (q : Cl.C) (xs ys zs : Sl) : (Instr.buildSlice 42 1 #[(0, .agg (.int .i64 p :: clL q xs ys zs).toArray)]).run Try.prog w = .ok (.slice (some ⟨w.heap.size, 0, none⟩) 1 1) (w.alloc (.cells (.int .i64 p :: clL q xs ys zs).toArray 49)) := by
  go_simp
theorem wp_sliceStep {o : Oper} {a : Act} {w : World} {K : Act → World → Prop} {Q : Exit → Act → World → Prop} (x : Operand) (ho : o.op = .buildSlice 42 1 #[(0, x)]) (p : Int) (q : Cl.C) (xs ys zs : Sl) (hx : a.eval x = .agg (.int .i64 p :: clL q xs ys zs).toArray)
    (h : K (a.put o.dst (.slice (some ⟨w.heap.size, 0, none⟩) 1 1)) (w.alloc (.cells (.int .i64 p :: clL q xs ys zs).toArray 49))) : o.wp Try.prog a w K Q := by
  unfold Oper.wp execOp
  have hr := run_sliceStep w p q xs ys zs
  simp only [ho, Sem.run_bind, Sem.run_pure, Result.andThen_ok, List.map_toArray, List.map_cons, List.map_nil, hx, hr]
  exact h
end Go.Proofs.Ytphbkjdheopmhaa
namespace Go.Proofs.Ytphbkjdheopmhaa
set_option linter.unusedVariables false
set_option linter.unusedSimpArgs false
open Go.RowKit

theorem rd_none {w : World} {B n : Nat} {A A' : Option Addr} {xs : List Value} (h : Rd w B 1 A n xs) (h0 : n = 0) : Rd w B 1 A' n xs := ⟨h.1, .inl (List.eq_nil_of_length_eq_zero (by have := h.len1; omega))⟩

set_option maxRecDepth 100000 in
set_option maxHeartbeats 8000000 in
theorem steps_any (A : Option Addr) (m c B : Nat) (b : List UInt8) (w : World) (hb : Rd w B 1 A m (bys b)) (hB : B ≤ w.heap.size) (hm : m ≤ 4294967296) (hmc : m ≤ c) :
    Calls Try.prog 24 #[.slice A m c] w (StepsEnd (Cl.steps b) w) := by
  have hbl : b.length = m := by simpa [bys] using hb.len1
  obtain ⟨res, hres⟩ : ∃ res, Cl.steps b = res := ⟨_, rfl⟩
  rw [hres]
  unfold Cl.steps at hres
  have Hres := hide hres
  have Hbl := hide hbl
  have Hb := hide hb
  clear hres hbl hb
  go_enter Try.func24, Try.ntmps24
  go_wp2_with fail
  go_loopg [2, 4] m (fun gk lv av wr => ∃ (t : Nat) (L : List SEl) (Ak : Option Addr) (ck : Nat), gk = m - t ∧ t ≤ m ∧ L.length ≤ t ∧ av = .int .i64 t ∧ lv = .slice Ak L.length ck ∧ SRow wr w.heap.size Ak ck L ∧ Below w.heap.size w wr ∧ Cl.stepsF b.length (b.drop t) t (L.map sPair) = res)
  case atStart => exact ⟨0, [], none, 0, by omega, by omega, Nat.le_refl _, rfl, rfl, SRow.nil _ _, Below.refl _ _, by simpa using unhide Hres⟩
  case round =>
  clear Hres
  obtain ⟨t, L, Ak, ck, hgk, ht, hLt, rfl, rfl, hrow, hbr, hst⟩ := hrel
  have Hgk := hide hgk
  have Hrow := hide hrow
  have Hbr := hide hbr
  have Hst := hide hst
  have hsz := hbr.size
  clear hgk hrow hbr hst
  rcases Nat.lt_or_ge t m with hlt | hge
  case inr =>
    obtain rfl : t = m := by omega
    have hr := unhide Hst
    rw [List.drop_eq_nil_of_le (by rw [unhide Hbl]; exact Nat.le_refl _), Cl.stepsF_nil] at hr
    subst hr
    go_wp2_with fail
    go_ret3
    exact ⟨L, Ak, ck, rfl, rfl, unhide Hrow, unhide Hbr⟩
  obtain ⟨p, hp⟩ : ∃ p, b[t]? = some p := ⟨_, List.getElem?_eq_getElem (by rw [unhide Hbl]; exact hlt)⟩
  obtain ⟨ab, ao, rfl, hab, hcp⟩ := ((unhide Hb).below ((unhide Hbr).mono hB)).at_ (k := t) (u := .int .u8 p.toNat) (bys_at hp)
  have hdr : b.drop t = p :: b.drop (t + 1) := by
    rw [List.drop_eq_getElem_cons (by rw [unhide Hbl]; exact hlt), (List.getElem?_eq_some_iff.1 hp).2]
  have hr := unhide Hst
  rw [hdr, Cl.stepsF_cons _ _ _ _ _ (by rw [List.length_drop, unhide Hbl]; omega)] at hr
  have hrd := ((unhide Hb).below ((unhide Hbr).mono hB)).from (k := t + 1) (by omega)
  have hrl := Cl.read_len (b.drop (t + 1))
  rw [List.length_drop, unhide Hbl] at hrl
  have K := hide (fun (o' c' : Nat) (h : Rd wr B 1 (some ⟨ab, o', none⟩) (m - (t + 1)) (bys (b.drop (t + 1)))) (hc : m - (t + 1) ≤ c') => callRead_any (some ⟨ab, o', none⟩) (m - (t + 1)) c' B (b.drop (t + 1)) wr h (by omega) (by omega) hc)
  have hdd : ∀ j, (b.drop (t + 1)).drop j = b.drop (t + 1 + j) := fun j => by rw [List.drop_drop]
  simp only [hdd] at hr
  generalize Cl.read (b.drop (t + 1)) = rd at *
  obtain ⟨q, n, ev⟩ := rd
  simp only at hr hrl
  have Hr := hide hr
  have Hrd := hide hrd
  have hp8 := p.toNat_lt
  clear hr hrd hdr hp hdd Hst
  go_wp2_with fail
  all_goals
    first
      | with_reducible refine ((unhide K) (ao + (t + 1)) (c - (t + 1)) (unhide Hrd) (by omega)).mono ?_
      | with_reducible refine ((unhide K) ao 0 (rd_none (unhide Hrd) (by omega)) (by omega)).mono ?_
    intro e w4 hend
    obtain ⟨x, y, z, rfl, hfr, hb4⟩ := readEnd_R hend
    have hrow4 := (unhide Hrow).below hb4
    have hb4' := (unhide Hbr).trans (hb4.mono hsz)
    have hsz4 := hb4.size
    have hcb : (w4.alloc (.cells (clCells q x y z) 26)).heap[w4.heap.size]? = some (.cells (clCells q x y z) 26 (0, 0)) := heap_alloc_new _ _
    have hbw : Below w4.heap.size w4 (w4.alloc (.cells (clCells q x y z) 26)) := (Below.refl _ _).alloc (Nat.le_refl _) _
    have Hrow5 := hide (hrow4.below hbw)
    have Hb5 := hide (hb4'.trans (hbw.mono (by omega)))
    have hfrow : ∀ k, (Value.slice Ak L.length ck).ownBlock = some k → k < wr.heap.size := fun k hk => ((unhide Hrow).own.lt k hk).2
    have Hcf := hide ((hfr.f hfrow).below hbw)
    have Hcb := hide hcb
    have hcp4 := (hbw.cell (p := ⟨ab, ao + t, none⟩) (by show ab < _; omega)).trans ((hb4.cell (p := ⟨ab, ao + t, none⟩) (by show ab < _; omega)).trans hcp)
    have Hcp := hide hcp4
    have hsz5 : wr.heap.size ≤ (w4.alloc (.cells (clCells q x y z) 26)).heap.size := by simp; omega
    have Hfrow := hide hfrow
    clear hcp hcp4 hcb hfr hb4 hrow4 hb4' hbw K hfrow Hrow Hrd
    by_cases hev : ev = 0
    case neg =>
      have hr := unhide Hr
      rw [if_neg hev] at hr
      subst hr
      have he1 : (ev != 0) = true := by simpa using hev
      have Hend := hide (unhide Hb5)
      clear hev Hr Hcp Hcb Hcf Hrow5 Hb5
      go_wp2_with fail
      go_ret3
      exact ⟨[], none, 0, rfl, rfl, SRow.nil _ _, unhide Hend⟩
    subst hev
    have hr := unhide Hr
    rw [if_pos rfl] at hr
    replace Hr := hide hr
    clear hr
    go_wp2_with fail
    generalize hgW : w4.alloc (.cells (clCells q x y z) 26) = W at *
    have hltW : w4.heap.size < W.heap.size := lt_of_block (unhide Hcb)
    clear hgW
    have HS0 := hide (show W.drew.cell? ⟨ab, ao + t, none⟩ = some (.int .u8 (p.toNat : Nat)) ∧ W.drew.heap[w4.heap.size]? = some (.cells (clCells q x y z) 26 (0, 0)) from ⟨unhide Hcp, unhide Hcb⟩)
    refine wp_region_held_drew (S := fun w' => w'.cell? ⟨ab, ao + t, none⟩ = some (.int .u8 (p.toNat : Nat)) ∧ w'.heap[w4.heap.size]? = some (.cells (clCells q x y z) 26 (0, 0))) (by kernel_rfl) (unhide HS0) (fun hHeld => ?_)
    clear hHeld
    refine takeD (i := 0) (d := some 25) (v := .slice Ak L.length ck) rfl rfl (by kernel_rfl) (by kernel_rfl) (by kernel_rfl) (fun _ _ _ h => h) (yields_move (by rfl) (.tmp 2) rfl _ rfl) (unhide HS0) ?_
    simp only [Act.put, List.setIfInBounds_toArray, List.set_cons_zero, List.set_cons_succ]
    refine takeD (i := 1) (d := some 26) (v := .slice (some ⟨ab, ao, none⟩) m _) rfl rfl (by kernel_rfl) (by kernel_rfl) (by kernel_rfl) (fun _ _ _ h => h) (yields_move (by rfl) (.tmp 0) rfl _ rfl) (unhide HS0) ?_
    simp only [Act.put, List.setIfInBounds_toArray, List.set_cons_zero, List.set_cons_succ]
    refine takeD (i := 2) (d := some 27) (v := .int .i64 (t : Nat)) rfl rfl (by kernel_rfl) (by kernel_rfl) (by kernel_rfl) (fun _ _ _ h => h) (yields_move (by rfl) (.tmp 4) rfl _ rfl) (unhide HS0) ?_
    simp only [Act.put, List.setIfInBounds_toArray, List.set_cons_zero, List.set_cons_succ]
    refine takeD (i := 3) (d := some 28) (v := .pointer (some ⟨ab, ao + t, none⟩)) rfl rfl (by kernel_rfl) (by kernel_rfl) (by kernel_rfl) (fun _ _ _ h => h) (yields_idx (by rfl) (.tmp 26) (.tmp 27) rfl ab ao m _ t rfl rfl (by omega) hlt) (unhide HS0) ?_
    simp only [Act.put, List.setIfInBounds_toArray, List.set_cons_zero, List.set_cons_succ]
    refine takeD (i := 4) (d := some 29) (v := .int .u8 (p.toNat : Nat)) rfl rfl (by kernel_rfl) (by kernel_rfl) (by kernel_rfl) (fun _ _ _ h => h) (yieldsS_u8 (by rfl) (.tmp 28) rfl ab (ao + t) rfl _ (fun w' h => h.1)) (unhide HS0) ?_
    simp only [Act.put, List.setIfInBounds_toArray, List.set_cons_zero, List.set_cons_succ]
    refine takeD (i := 5) (d := some 30) (v := .int .i64 (p.toNat : Nat)) rfl rfl (by kernel_rfl) (by kernel_rfl) (by kernel_rfl) (fun _ _ _ h => h) (yields_conv (by rfl) (.tmp 29) rfl p.toNat rfl hp8) (unhide HS0) ?_
    simp only [Act.put, List.setIfInBounds_toArray, List.set_cons_zero, List.set_cons_succ]
    refine takeD (i := 6) (d := some 31) (v := .agg (clCells q x y z)) rfl rfl (by kernel_rfl) (by kernel_rfl) (by kernel_rfl) (fun _ _ _ h => h) (yieldsS_load (by rfl) 26 (.tmp 5) rfl w4.heap.size rfl 26 _ (0, 0) _ (fun w' h => h.2) Try.underlying26 rfl callInfo) (unhide HS0) ?_
    simp only [Act.put, List.setIfInBounds_toArray, List.set_cons_zero, List.set_cons_succ]
    refine takeD (i := 7) (d := some 32) (v := .agg (.int .i64 (p.toNat : Nat) :: clL q x y z).toArray) rfl rfl (by kernel_rfl) (by kernel_rfl) (by kernel_rfl) (fun _ _ _ h => h) (yields_step (by rfl) (.tmp 30) (.tmp 31) rfl (p.toNat : Nat) q x y z rfl rfl) (unhide HS0) ?_
    simp only [Act.put, List.setIfInBounds_toArray, List.set_cons_zero, List.set_cons_succ]
    refine stepD (i := 8) (d := some 33) rfl rfl (by kernel_rfl) (by rfl) (fun K hK => ?_)
    refine wp_sliceStep (.tmp 32) rfl (p.toNat : Nat) q x y z rfl (hK _ _ ?_ ?_)
    · exact ⟨(World.cell?_alloc_lt _ _ _ (by show ab < W.heap.size; omega)).trans (unhide HS0).1, (Below.heap_alloc _ _ _ hltW).trans (unhide HS0).2⟩
    clear hK K
    simp only [Act.put, List.setIfInBounds_toArray, List.set_cons_zero, List.set_cons_succ]
    have Hrow6 := hide ((unhide Hrow5).below (below_drew' (Below.refl _ _)))
    refine stepD (i := 9) (d := some 34) rfl rfl (by kernel_rfl) (by rfl) (fun K hK => ?_)
    refine wp_app stepTy (.tmp 25) (.tmp 33) rfl w.heap.size (.slice Ak L.length ck) L.length (rowOf L) rfl ((unhide Hrow6).own.alloc _) (W.heap.size + 1) (some ⟨W.heap.size, 0, none⟩) 1 1 (.int .i64 (p.toNat : Nat) :: clL q x y z) rfl (Rd.row (w := W.drew) rfl) (by simp [Value.oneCell']) (by omega) (by simp; omega) ?_
    intro v5 w5 ho5 hg5 hat5
    obtain ⟨A5, c5, rfl⟩ := own_form ho5
    have hbl : Below W.heap.size W (W.drew.alloc (.cells (.int .i64 (p.toNat : Nat) :: clL q x y z).toArray 49)) := (below_drew' (Below.refl _ _)).alloc (Nat.le_refl _) _
    have hgw := grown_trans (grownBy_of_below (row := (Value.slice Ak L.length ck).ownBlock) hbl) hg5
    have hnb : ∀ k, (Value.slice Ak L.length ck).ownBlock = some k → k < wr.heap.size := unhide Hfrow
    have hwb : ∀ k, (Value.slice Ak L.length ck).ownBlock = some k → w.heap.size ≤ k := fun k hk => ((unhide Hrow6).own.lt k hk).1
    have hbW : Below w.heap.size W w5 := (Below.refl _ _).grown hgw (by omega) hwb
    have hat : ∀ k, (Value.slice A5 (L.length + 1) c5).ownBlock = some k → (Value.slice Ak L.length ck).ownBlock = some k ∨ W.heap.size ≤ k := fun k hk => (hat5 k hk).imp id fun h => by simp at h; omega
    have Hbe := hide ((unhide Hb5).trans hbW)
    have hcl : rowOf L ++ (Value.int .i64 (p.toNat : Nat) :: clL q x y z) = rowOf (L ++ [⟨p.toNat, q, x, y, z⟩]) := by rw [rowOf_app]; simp [rowOf]
    rw [hcl] at ho5
    have Hrow7 := hide (show SRow w5 w.heap.size A5 c5 (L ++ [⟨p.toNat, q, x, y, z⟩]) from ⟨by rw [List.length_append]; exact ho5, fun s hs => by
      rw [List.length_append]
      rcases List.mem_append.1 hs with h1 | h1
      · exact ((unhide Hrow5).all s h1).grown hgw hat
      · obtain rfl := List.mem_singleton.1 h1
        exact (unhide Hcf).grown hgw hat⟩)
    have hS5 : w5.cell? ⟨ab, ao + t, none⟩ = some (.int .u8 (p.toNat : Nat)) ∧ w5.heap[w4.heap.size]? = some (.cells (clCells q x y z) 26 (0, 0)) := by
      refine ⟨(hbW.cell (p := ⟨ab, ao + t, none⟩) (by show ab < _; omega)).trans (unhide Hcp), (hgw.block _ hltW (fun e => ?_)).trans (unhide Hcb)⟩
      have := hnb _ e.symm
      omega
    have HS5 := hide hS5
    refine hK _ _ hS5 ?_
    clear hK K hS5 ho5 hg5 hat5 hgw hnb hwb hbW hat hcl hbl
    simp only [Act.put, List.setIfInBounds_toArray, List.set_cons_zero, List.set_cons_succ]
    refine takeD (i := 10) (d := some 2) (v := .slice A5 (L.length + 1) c5) rfl rfl (by kernel_rfl) (by kernel_rfl) (by kernel_rfl) (fun _ _ _ h => h) (yields_assign (by rfl) (.tmp 34) rfl _ rfl) (unhide HS5) ?_
    simp only [Act.put, List.setIfInBounds_toArray, List.set_cons_zero, List.set_cons_succ]
    refine wpAnyH_done (by kernel_rfl) ?_ _
    clear HS0 HS5 Hrow6 Hrow5 Hb5 Hcf Hcb Hcp Hfrow
    have hti : ((t : Int) + (1 + (n : Int))) = ((t + 1 + n : Nat) : Int) := by omega
    go_wp2_with fail
    try (have hceq : c = t + 1 := by assumption
         rw [← hceq])
    go_roundg (m - (t + 1 + n))
    case measure => have := unhide Hgk; omega
    case rel => exact ⟨t + 1 + n, L ++ [⟨p.toNat, q, x, y, z⟩], A5, c5, rfl, by omega, by simp; omega, by go_num, by simp, unhide Hrow7, unhide Hbe, by rw [List.map_append]; exact unhide Hr⟩

set_option maxRecDepth 100000 in
set_option maxHeartbeats 8000000 in
theorem rsteps_any (A : Option Addr) (m c B : Nat) (b : List UInt8) (w : World) (hb : Rd w B 1 A m (bys b)) (hB : B ≤ w.heap.size) (hm : m ≤ 4294967296) (hmc : m ≤ c) :
    Calls Try.prog 25 #[.slice A m c] w (StepsEnd (Cl.steps b) w) := by
  have hbl : b.length = m := by simpa [bys] using hb.len1
  obtain ⟨res, hres⟩ : ∃ res, Cl.steps b = res := ⟨_, rfl⟩
  rw [hres]
  unfold Cl.steps at hres
  have Hres := hide hres
  have Hbl := hide hbl
  have Hb := hide hb
  clear hres hbl hb
  go_enter Try.func25, Try.ntmps25
  go_wp2_with fail
  go_loopg [5, 6] m (fun gk lv av wr => ∃ (t : Nat) (L : List SEl) (Ak : Option Addr) (ck : Nat), gk = m - t ∧ t ≤ m ∧ L.length ≤ t ∧ av = .int .i64 t ∧ lv = .slice Ak L.length ck ∧ SRow wr w.heap.size Ak ck L ∧ Below w.heap.size w wr ∧ Cl.stepsF b.length (b.drop t) t (L.map sPair) = res)
  case atStart => exact ⟨0, [], none, 0, by omega, by omega, Nat.le_refl _, rfl, rfl, SRow.nil _ _, Below.refl _ _, by simpa using unhide Hres⟩
  case round =>
  clear Hres
  obtain ⟨t, L, Ak, ck, hgk, ht, hLt, rfl, rfl, hrow, hbr, hst⟩ := hrel
  have Hgk := hide hgk
  have Hrow := hide hrow
  have Hbr := hide hbr
  have Hst := hide hst
  have hsz := hbr.size
  clear hgk hrow hbr hst
  rcases Nat.lt_or_ge t m with hlt | hge
  case inr =>
    obtain rfl : t = m := by omega
    have hr := unhide Hst
    rw [List.drop_eq_nil_of_le (by rw [unhide Hbl]; exact Nat.le_refl _), Cl.stepsF_nil] at hr
    subst hr
    go_wp2_with fail
    go_ret3
    exact ⟨L, Ak, ck, rfl, rfl, unhide Hrow, unhide Hbr⟩
  obtain ⟨p, hp⟩ : ∃ p, b[t]? = some p := ⟨_, List.getElem?_eq_getElem (by rw [unhide Hbl]; exact hlt)⟩
  obtain ⟨ab, ao, rfl, hab, hcp⟩ := ((unhide Hb).below ((unhide Hbr).mono hB)).at_ (k := t) (u := .int .u8 p.toNat) (bys_at hp)
  have hdr : b.drop t = p :: b.drop (t + 1) := by
    rw [List.drop_eq_getElem_cons (by rw [unhide Hbl]; exact hlt), (List.getElem?_eq_some_iff.1 hp).2]
  have hr := unhide Hst
  rw [hdr, Cl.stepsF_cons _ _ _ _ _ (by rw [List.length_drop, unhide Hbl]; omega)] at hr
  have hrd := ((unhide Hb).below ((unhide Hbr).mono hB)).from (k := t + 1) (by omega)
  have hrl := Cl.read_len (b.drop (t + 1))
  rw [List.length_drop, unhide Hbl] at hrl
  have K := hide (fun (o' c' : Nat) (h : Rd wr B 1 (some ⟨ab, o', none⟩) (m - (t + 1)) (bys (b.drop (t + 1)))) (hc : m - (t + 1) ≤ c') => rRead_any (some ⟨ab, o', none⟩) (m - (t + 1)) c' B (b.drop (t + 1)) wr h (by omega) (by omega) hc)
  have hdd : ∀ j, (b.drop (t + 1)).drop j = b.drop (t + 1 + j) := fun j => by rw [List.drop_drop]
  simp only [hdd] at hr
  generalize Cl.read (b.drop (t + 1)) = rd at *
  obtain ⟨q, n, ev⟩ := rd
  simp only at hr hrl
  have Hr := hide hr
  have Hrd := hide hrd
  have hp8 := p.toNat_lt
  clear hr hrd hdr hp hdd Hst
  go_wp2_with fail
  all_goals
    first
      | with_reducible refine ((unhide K) (ao + (t + 1)) (c - (t + 1)) (unhide Hrd) (by omega)).mono ?_
      | with_reducible refine ((unhide K) ao 0 (rd_none (unhide Hrd) (by omega)) (by omega)).mono ?_
    intro e w4 hend
    obtain ⟨x, y, z, rfl, hfr, hb4⟩ := id hend
    have hrow4 := (unhide Hrow).below hb4
    have hb4' := (unhide Hbr).trans (hb4.mono hsz)
    have hsz4 := hb4.size
    have hcb : (w4.alloc (.cells (clCells q x y z) 26)).heap[w4.heap.size]? = some (.cells (clCells q x y z) 26 (0, 0)) := heap_alloc_new _ _
    have hbw : Below w4.heap.size w4 (w4.alloc (.cells (clCells q x y z) 26)) := (Below.refl _ _).alloc (Nat.le_refl _) _
    have Hrow5 := hide (hrow4.below hbw)
    have Hb5 := hide (hb4'.trans (hbw.mono (by omega)))
    have hfrow : ∀ k, (Value.slice Ak L.length ck).ownBlock = some k → k < wr.heap.size := fun k hk => ((unhide Hrow).own.lt k hk).2
    have Hcf := hide ((hfr.f hfrow).below hbw)
    have Hcb := hide hcb
    have hcp4 := (hbw.cell (p := ⟨ab, ao + t, none⟩) (by show ab < _; omega)).trans ((hb4.cell (p := ⟨ab, ao + t, none⟩) (by show ab < _; omega)).trans hcp)
    have Hcp := hide hcp4
    have hsz5 : wr.heap.size ≤ (w4.alloc (.cells (clCells q x y z) 26)).heap.size := by simp; omega
    have Hfrow := hide hfrow
    clear hcp hcp4 hcb hfr hb4 hrow4 hb4' hbw K hfrow Hrow Hrd
    by_cases hev : ev = 0
    case neg =>
      have hr := unhide Hr
      rw [if_neg hev] at hr
      subst hr
      have he1 : (ev != 0) = true := by simpa using hev
      have Hend := hide (unhide Hb5)
      clear hev Hr Hcp Hcb Hcf Hrow5 Hb5
      go_wp2_with fail
      go_ret3
      exact ⟨[], none, 0, rfl, rfl, SRow.nil _ _, unhide Hend⟩
    subst hev
    have hr := unhide Hr
    rw [if_pos rfl] at hr
    replace Hr := hide hr
    clear hr
    go_wp2_with fail
    generalize hgW : w4.alloc (.cells (clCells q x y z) 26) = W at *
    have hltW : w4.heap.size < W.heap.size := lt_of_block (unhide Hcb)
    clear hgW
    have HS0 := hide (show W.drew.cell? ⟨ab, ao + t, none⟩ = some (.int .u8 (p.toNat : Nat)) ∧ W.drew.heap[w4.heap.size]? = some (.cells (clCells q x y z) 26 (0, 0)) from ⟨unhide Hcp, unhide Hcb⟩)
    refine wp_region_held_drew (S := fun w' => w'.cell? ⟨ab, ao + t, none⟩ = some (.int .u8 (p.toNat : Nat)) ∧ w'.heap[w4.heap.size]? = some (.cells (clCells q x y z) 26 (0, 0))) (by kernel_rfl) (unhide HS0) (fun hHeld => ?_)
    clear hHeld
    refine takeD (i := 0) (d := some 27) (v := .slice Ak L.length ck) rfl rfl (by kernel_rfl) (by kernel_rfl) (by kernel_rfl) (fun _ _ _ h => h) (yields_move (by rfl) (.tmp 5) rfl _ rfl) (unhide HS0) ?_
    simp only [Act.put, List.setIfInBounds_toArray, List.set_cons_zero, List.set_cons_succ]
    refine takeD (i := 1) (d := some 28) (v := .slice (some ⟨ab, ao, none⟩) m _) rfl rfl (by kernel_rfl) (by kernel_rfl) (by kernel_rfl) (fun _ _ _ h => h) (yields_move (by rfl) (.tmp 0) rfl _ rfl) (unhide HS0) ?_
    simp only [Act.put, List.setIfInBounds_toArray, List.set_cons_zero, List.set_cons_succ]
    refine takeD (i := 2) (d := some 29) (v := .int .i64 (t : Nat)) rfl rfl (by kernel_rfl) (by kernel_rfl) (by kernel_rfl) (fun _ _ _ h => h) (yields_move (by rfl) (.tmp 6) rfl _ rfl) (unhide HS0) ?_
    simp only [Act.put, List.setIfInBounds_toArray, List.set_cons_zero, List.set_cons_succ]
    refine takeD (i := 3) (d := some 30) (v := .pointer (some ⟨ab, ao + t, none⟩)) rfl rfl (by kernel_rfl) (by kernel_rfl) (by kernel_rfl) (fun _ _ _ h => h) (yields_idx (by rfl) (.tmp 28) (.tmp 29) rfl ab ao m _ t rfl rfl (by omega) hlt) (unhide HS0) ?_
    simp only [Act.put, List.setIfInBounds_toArray, List.set_cons_zero, List.set_cons_succ]
    refine takeD (i := 4) (d := some 31) (v := .int .u8 (p.toNat : Nat)) rfl rfl (by kernel_rfl) (by kernel_rfl) (by kernel_rfl) (fun _ _ _ h => h) (yieldsS_u8 (by rfl) (.tmp 30) rfl ab (ao + t) rfl _ (fun w' h => h.1)) (unhide HS0) ?_
    simp only [Act.put, List.setIfInBounds_toArray, List.set_cons_zero, List.set_cons_succ]
    refine takeD (i := 5) (d := some 32) (v := .int .i64 (p.toNat : Nat)) rfl rfl (by kernel_rfl) (by kernel_rfl) (by kernel_rfl) (fun _ _ _ h => h) (yields_conv (by rfl) (.tmp 31) rfl p.toNat rfl hp8) (unhide HS0) ?_
    simp only [Act.put, List.setIfInBounds_toArray, List.set_cons_zero, List.set_cons_succ]
    refine takeD (i := 6) (d := some 33) (v := .agg (clCells q x y z)) rfl rfl (by kernel_rfl) (by kernel_rfl) (by kernel_rfl) (fun _ _ _ h => h) (yieldsS_load (by rfl) 26 (.tmp 7) rfl w4.heap.size rfl 26 _ (0, 0) _ (fun w' h => h.2) Try.underlying26 rfl callInfo) (unhide HS0) ?_
    simp only [Act.put, List.setIfInBounds_toArray, List.set_cons_zero, List.set_cons_succ]
    refine takeD (i := 7) (d := some 34) (v := .agg (.int .i64 (p.toNat : Nat) :: clL q x y z).toArray) rfl rfl (by kernel_rfl) (by kernel_rfl) (by kernel_rfl) (fun _ _ _ h => h) (yields_step (by rfl) (.tmp 32) (.tmp 33) rfl (p.toNat : Nat) q x y z rfl rfl) (unhide HS0) ?_
    simp only [Act.put, List.setIfInBounds_toArray, List.set_cons_zero, List.set_cons_succ]
    refine stepD (i := 8) (d := some 35) rfl rfl (by kernel_rfl) (by rfl) (fun K hK => ?_)
    refine wp_sliceStep (.tmp 34) rfl (p.toNat : Nat) q x y z rfl (hK _ _ ?_ ?_)
    · exact ⟨(World.cell?_alloc_lt _ _ _ (by show ab < W.heap.size; omega)).trans (unhide HS0).1, (Below.heap_alloc _ _ _ hltW).trans (unhide HS0).2⟩
    clear hK K
    simp only [Act.put, List.setIfInBounds_toArray, List.set_cons_zero, List.set_cons_succ]
    have Hrow6 := hide ((unhide Hrow5).below (below_drew' (Below.refl _ _)))
    refine stepD (i := 9) (d := some 36) rfl rfl (by kernel_rfl) (by rfl) (fun K hK => ?_)
    refine wp_app stepTy (.tmp 27) (.tmp 35) rfl w.heap.size (.slice Ak L.length ck) L.length (rowOf L) rfl ((unhide Hrow6).own.alloc _) (W.heap.size + 1) (some ⟨W.heap.size, 0, none⟩) 1 1 (.int .i64 (p.toNat : Nat) :: clL q x y z) rfl (Rd.row (w := W.drew) rfl) (by simp [Value.oneCell']) (by omega) (by simp; omega) ?_
    intro v5 w5 ho5 hg5 hat5
    obtain ⟨A5, c5, rfl⟩ := own_form ho5
    have hbl : Below W.heap.size W (W.drew.alloc (.cells (.int .i64 (p.toNat : Nat) :: clL q x y z).toArray 49)) := (below_drew' (Below.refl _ _)).alloc (Nat.le_refl _) _
    have hgw := grown_trans (grownBy_of_below (row := (Value.slice Ak L.length ck).ownBlock) hbl) hg5
    have hnb : ∀ k, (Value.slice Ak L.length ck).ownBlock = some k → k < wr.heap.size := unhide Hfrow
    have hwb : ∀ k, (Value.slice Ak L.length ck).ownBlock = some k → w.heap.size ≤ k := fun k hk => ((unhide Hrow6).own.lt k hk).1
    have hbW : Below w.heap.size W w5 := (Below.refl _ _).grown hgw (by omega) hwb
    have hat : ∀ k, (Value.slice A5 (L.length + 1) c5).ownBlock = some k → (Value.slice Ak L.length ck).ownBlock = some k ∨ W.heap.size ≤ k := fun k hk => (hat5 k hk).imp id fun h => by simp at h; omega
    have Hbe := hide ((unhide Hb5).trans hbW)
    have hcl : rowOf L ++ (Value.int .i64 (p.toNat : Nat) :: clL q x y z) = rowOf (L ++ [⟨p.toNat, q, x, y, z⟩]) := by rw [rowOf_app]; simp [rowOf]
    rw [hcl] at ho5
    have Hrow7 := hide (show SRow w5 w.heap.size A5 c5 (L ++ [⟨p.toNat, q, x, y, z⟩]) from ⟨by rw [List.length_append]; exact ho5, fun s hs => by
      rw [List.length_append]
      rcases List.mem_append.1 hs with h1 | h1
      · exact ((unhide Hrow5).all s h1).grown hgw hat
      · obtain rfl := List.mem_singleton.1 h1
        exact (unhide Hcf).grown hgw hat⟩)
    have hS5 : w5.cell? ⟨ab, ao + t, none⟩ = some (.int .u8 (p.toNat : Nat)) ∧ w5.heap[w4.heap.size]? = some (.cells (clCells q x y z) 26 (0, 0)) := by
      refine ⟨(hbW.cell (p := ⟨ab, ao + t, none⟩) (by show ab < _; omega)).trans (unhide Hcp), (hgw.block _ hltW (fun e => ?_)).trans (unhide Hcb)⟩
      have := hnb _ e.symm
      omega
    have HS5 := hide hS5
    refine hK _ _ hS5 ?_
    clear hK K hS5 ho5 hg5 hat5 hgw hnb hwb hbW hat hcl hbl
    simp only [Act.put, List.setIfInBounds_toArray, List.set_cons_zero, List.set_cons_succ]
    refine takeD (i := 10) (d := some 5) (v := .slice A5 (L.length + 1) c5) rfl rfl (by kernel_rfl) (by kernel_rfl) (by kernel_rfl) (fun _ _ _ h => h) (yields_assign (by rfl) (.tmp 36) rfl _ rfl) (unhide HS5) ?_
    simp only [Act.put, List.setIfInBounds_toArray, List.set_cons_zero, List.set_cons_succ]
    refine wpAnyH_done (by kernel_rfl) ?_ _
    clear HS0 HS5 Hrow6 Hrow5 Hb5 Hcf Hcb Hcp Hfrow
    have hti : ((t : Int) + (1 + (n : Int))) = ((t + 1 + n : Nat) : Int) := by omega
    go_wp2_with fail
    try (have hceq : c = t + 1 := by assumption
         rw [← hceq])
    go_roundg (m - (t + 1 + n))
    case measure => have := unhide Hgk; omega
    case rel => exact ⟨t + 1 + n, L ++ [⟨p.toNat, q, x, y, z⟩], A5, c5, rfl, by omega, by simp; omega, by go_num, by simp, unhide Hrow7, unhide Hbe, by rw [List.map_append]; exact unhide Hr⟩
end Go.Proofs.Ytphbkjdheopmhaa
namespace Go.Proofs.Ytphbkjdheopmhaa
set_option linter.unusedVariables false
set_option linter.unusedSimpArgs false
open Go.RowKit

def sumM : List ByteArray → Nat
  | [] => 0
  | s :: r => min s.size 262144 + sumM r
theorem sumM_app (a b : List ByteArray) : sumM (a ++ b) = sumM a + sumM b := by
  induction a with
  | nil => simp [sumM]
  | cons s r ih => simp only [List.cons_append, sumM, ih]; omega
theorem sumM_mem {l : List ByteArray} {x : ByteArray} (h : x ∈ l) : min x.size 262144 ≤ sumM l := by
  induction l with
  | nil => cases h
  | cons s r ih =>
    simp only [sumM]
    rcases List.mem_cons.1 h with rfl | h
    · omega
    · have := ih h; omega
theorem sumM_snoc {l : List ByteArray} {k : Nat} {x : ByteArray} (h : l[k]? = some x) : sumM (l.take (k + 1)) = sumM (l.take k) + min x.size 262144 := by
  rw [List.take_add_one, h, sumM_app]
  simp [sumM]

set_option maxRecDepth 100000 in
set_option maxHeartbeats 1000000 in
theorem large_any (A : Option Addr) (n c B : Nat) (l : List ByteArray) (w : World) (hl : Rd w B 1 A n (l.map Value.string)) (hs : ∀ x ∈ l, x.size ≤ maxLen) (hn : n ≤ maxLen) :
    Calls Try.prog 27 #[.slice A n c] w fun e w' => ∃ r, e = .returned (.bool r) ∧ w = w' ∧ (r = false → n ≤ 131072 ∧ ∀ x ∈ l, x.size ≤ 131072) := by
  have hln : l.length = n := by simpa using hl.len1
  unfold maxLen at hn
  have Hl := hide hl
  have Hln := hide hln
  have Hs := hide hs
  clear hl hln hs
  go_enter Try.func27, Try.ntmps27
  go_wp2_with fail
  go_loopg [3, 4] n (fun gk nv i wr => ∃ k m : Nat, gk = n - k ∧ k ≤ n ∧ i = .int .i64 k ∧ nv = .int .i64 m ∧ m = n + sumM (l.take k) ∧ (k = 0 ∨ m ≤ 393216) ∧ w = wr)
  case atStart => exact ⟨0, n, by omega, by omega, rfl, rfl, by simp [sumM], .inl rfl, rfl⟩
  case round =>
  obtain ⟨k, m, hgk, hk, rfl, rfl, hmn, hm0, rfl⟩ := hrel
  have Hgk := hide hgk
  have Hmn := hide hmn
  clear hgk hmn
  have hmb : m ≤ 9223372036854775807 := by
    rcases hm0 with rfl | h
    · have := unhide Hmn; simp [sumM] at this; omega
    · omega
  by_cases hlt : k < n
  case neg =>
    obtain rfl : k = n := by omega
    have htk : l.take k = l := List.take_of_length_le (by have := unhide Hln; omega)
    have hnn := unhide Hmn
    rw [htk] at hnn
    have Hnn := hide hnn
    clear htk hnn hm0
    go_wp2_with fail
    go_ret
    refine ⟨_, rfl, rfl, fun hr => ?_⟩
    have hm : m ≤ 131072 := by
      have h : (m : Int) ≤ 131072 := by simpa using hr
      omega
    have h1 := unhide Hnn
    refine ⟨by omega, fun x hx => ?_⟩
    have h2 := sumM_mem hx
    omega
  by_cases hbig : m ≤ 131072
  case neg =>
    have hb : ((m : Int) ≤ 131072) = False := by simp; omega
    clear hm0
    go_wp2_with fail
    go_ret
    exact ⟨_, rfl, rfl, fun hr => by simp at hr; omega⟩
  obtain ⟨x, hx⟩ : ∃ x, l[k]? = some x := ⟨_, List.getElem?_eq_getElem (by rw [unhide Hln]; exact hlt)⟩
  obtain ⟨b1, o1, rfl, _, c1⟩ := (unhide Hl).at_ (k := k) (u := .string x) (by simp [hx])
  have hxs := (unhide Hs) x (List.mem_of_getElem? hx)
  unfold maxLen at hxs
  have Hsn := hide (sumM_snoc hx)
  clear hx hm0
  by_cases hmin : x.size ≤ 262144
  · have hmin' : (x.size : Int) ≤ 262144 := by omega
    go_wp2_with fail
    go_roundg (n - (k + 1))
    case measure => have := unhide Hgk; omega
    case rel => exact ⟨k + 1, m + x.size, rfl, by omega, by go_num, by go_num, by rw [unhide Hsn, Nat.min_eq_left hmin]; have := unhide Hmn; omega, .inr (by omega), rfl⟩
  · have hmin' : (262144 : Int) < (x.size : Int) := by omega
    go_wp2_with fail
    go_roundg (n - (k + 1))
    case measure => have := unhide Hgk; omega
    case rel => exact ⟨k + 1, m + 262144, rfl, by omega, by go_num, by go_num, by rw [unhide Hsn, Nat.min_eq_right (by omega)]; have := unhide Hmn; omega, .inr (by omega), rfl⟩
/-- What is not large. -/
structure NotLarge (q : Cl.C) : Prop where
  a1 : q.argv.length ≤ 131072
  a2 : ∀ x ∈ q.argv, x.size ≤ 131072
  e1 : q.env.length ≤ 131072
  e2 : ∀ x ∈ q.env, x.size ≤ 131072
  p : q.path.size ≤ 131072
  b : q.bytes.length ≤ 131072

set_option maxRecDepth 100000 in
set_option maxHeartbeats 1000000 in
theorem Large_any (q : Cl.C) (x y z : Sl) (B : Nat) (w : World) (hq : ClOk w B q x y z) (hB : B ≤ w.heap.size) (hf : ClFit q) :
    Calls Try.prog 10 #[.agg (clCells q x y z)] w fun e w' => ∃ r, e = .returned (.bool r) ∧ Below w.heap.size w w' ∧ (r = false → NotLarge q) := by
  have hbox : (w.alloc (.cells (clCells q x y z) 26)).heap[w.heap.size]? = some (.cells (clCells q x y z) 26 (0, 0)) := heap_alloc_new _ _
  obtain ⟨v0, v1, v2, v3, v4, v5, v6, v7, v8, v9⟩ := box10 hbox
  have hqW := hq.alloc hB (.cells (clCells q x y z) 26)
  have hl1 := hf.l1; have hl2 := hf.l2; have hl3 := hf.l3; have hp := hf.p
  rw [hq.n1] at hl1; rw [hq.n2] at hl2; rw [hq.n3] at hl3
  have hn1 := hq.n1; have hn2 := hq.n2; have hn3 := hq.n3
  have K1 := hide (large_any x.A x.n x.c B q.argv _ hqW.r1 hf.s1 hl1)
  have K2 := hide (large_any y.A y.n y.c B q.env _ hqW.r2 hf.s2 hl2)
  have hbW : Below w.heap.size w (w.alloc (.cells (clCells q x y z) 26)) := (Below.refl _ _).alloc (Nat.le_refl _) _
  have Hb := hide hbW
  have Hn := hide (And.intro hn1 (And.intro hn2 hn3))
  clear hbox hqW hq hf hbW hn1 hn2 hn3 v0 v1 v2 v3 v4 v5
  unfold maxLen at hl3 hp
  go_enter Try.func10, Try.ntmps10
  go_wp2_with fail
  refine (unhide K1).mono ?_
  rintro e w1 ⟨r1, rfl, rfl, h1⟩
  have H1 := hide h1
  clear h1 K1
  cases r1
  case true =>
    clear K2
    go_wp2_with fail
    go_ret
    exact ⟨true, rfl, unhide Hb, fun h => by cases h⟩
  go_wp2_with fail
  refine (unhide K2).mono ?_
  rintro e w1 ⟨r2, rfl, rfl, h2⟩
  have H2 := hide h2
  clear h2 K2
  cases r2
  case true =>
    go_wp2_with fail
    go_ret
    exact ⟨true, rfl, unhide Hb, fun h => by cases h⟩
  by_cases hpp : q.path.size ≤ 131072
  case neg =>
    have h3 : (131072 : Int) < (q.path.size : Int) := by omega
    go_wp2_with fail
    go_ret
    exact ⟨_, rfl, unhide Hb, fun h => by first | (simp at h; done) | (simp at h; omega)⟩
  by_cases hbb : z.n ≤ 131072
  case neg =>
    have h3 : ¬ (131072 : Int) < (q.path.size : Int) := by omega
    have h4 : (131072 : Int) < (z.n : Int) := by omega
    go_wp2_with fail
    go_ret
    exact ⟨_, rfl, unhide Hb, fun h => by first | (simp at h; done) | (simp at h; omega)⟩
  have h3 : ¬ (131072 : Int) < (q.path.size : Int) := by omega
  have h4 : ¬ (131072 : Int) < (z.n : Int) := by omega
  go_wp2_with fail
  go_ret
  refine ⟨_, rfl, unhide Hb, fun _ => ?_⟩
  obtain ⟨n1, n2, n3⟩ := unhide Hn
  have g1 := unhide H1 (by first | trivial | rfl)
  have g2 := unhide H2 (by first | trivial | rfl)
  exact ⟨by have := g1.1; omega, g1.2, by have := g2.1; omega, g2.2, hpp, by omega⟩

theorem own_cap {w : World} {base : Nat} {e : TypeId} {size n c : Nat} {A : Option Addr} {xs : List Value} (h : w.ownsRow base e size (.slice A n c) n xs) : n ≤ c := by
  rcases h.2 with ⟨h0, h1⟩ | ⟨g, cap, cur, hv, hb, hg, hnc, _⟩
  · omega
  · injection hv with _ _ h3
    omega
/-- The anchor's call, its bytes, its two steps. -/
def qA : Cl.C := ⟨10, 1, 0, 0, 0, 0, ⟨#[97]⟩, [], [], []⟩
theorem qA_check : Cl.check qA = 0 := by kernel_rfl
theorem qA_form : Cl.form qA = [10, 1, 0, 97, 1, 0, 0, 0, 0, 0, 0, 0] := by kernel_rfl
theorem qA_steps : Cl.steps ([7] ++ [10, 1, 0, 97, 1, 0, 0, 0, 0, 0, 0, 0] ++ [1, 2]) = ([(7, qA), (1, Cl.kindC 2)], 0, 0) := by kernel_rfl
theorem qA_fit : ClFit qA := ⟨by decide, by decide, by decide, by decide, by decide, by decide, by decide, by decide, by decide, by decide, by simp [qA], by simp [qA]⟩
theorem qA_ok (w : World) (B : Nat) : ClOk w B qA slN slN slN := ⟨Rd.none_ _ _ _ _, Rd.none_ _ _ _ _, Rd.none_ _ _ _ _⟩
theorem two_steps {L : List SEl} {a b : Nat × Cl.C} (h : L.map sPair = [a, b]) : ∃ s0 s1, L = [s0, s1] ∧ sPair s0 = a ∧ sPair s1 = b := by
  rcases L with _ | ⟨s0, _ | ⟨s1, _ | ⟨s2, r⟩⟩⟩
  · simp at h
  · simp at h
  · simp at h; exact ⟨s0, s1, rfl, h.1, h.2⟩
  · simp at h
theorem two_cells {w : World} {base : Nat} {A : Option Addr} {c : Nat} {L : List SEl} (h : L.map sPair = [(7, qA), (1, Cl.kindC 2)]) (hrow : SRow w base A c L) : L.length = 2 ∧ ∃ g off, A = some ⟨g, off, none⟩ ∧ g < w.heap.size ∧
    w.cell? ⟨g, off + 0, none⟩ = some (.int .i64 7) ∧ w.cell? ⟨g, off + 7, none⟩ = some (.string ⟨#[97]⟩) ∧ w.cell? ⟨g, off + 12, none⟩ = some (.int .u8 2) := by
  obtain ⟨s0, s1, rfl, hs0, hs1⟩ := two_steps h
  have hrd := Rd.of_own hrow.own
  obtain ⟨g, off, hA, hgb, hcell⟩ := hrd.open_ (by simp [rowOf])
  have e0 : s0.p = 7 := congrArg Prod.fst hs0
  have e0q : s0.q = qA := congrArg Prod.snd hs0
  have e1q : s1.q = Cl.kindC 2 := congrArg Prod.snd hs1
  exact ⟨rfl, g, off, hA, hgb, hcell 0 (.int .i64 7) (by simp [rowOf, e0]), hcell 7 (.string ⟨#[97]⟩) (by simp [rowOf, e0q, qA]), hcell 12 (.int .u8 2) (by simp [rowOf, e1q, Cl.kindC])⟩

set_option maxRecDepth 100000 in
set_option maxHeartbeats 2000000 in
theorem works_any (w : World) : Calls Try.prog 11 #[] w fun e w' => e = .returned (.bool true) ∧ Below w.heap.size w w' := by
  have K1 := callForm_good qA slN slN slN 0 w (qA_ok w 0) (Nat.zero_le _) qA_fit qA_check
  rw [qA_form] at K1
  replace K1 := hide K1
  go_enter Try.func11, Try.ntmps11
  go_wp2_with fail
  refine (unhide K1).mono ?_
  rintro e w1 ⟨A1, c1, rfl, ho1, hb1⟩
  have hsz1 := hb1.size
  have h7 := own_one w1 7
  have hr1 := (Rd.of_own ho1).alloc (Nat.le_refl _) (.cells #[.int .u8 7] 5)
  have hbW := (hb1.alloc hsz1 (.cells #[.int .u8 7] 5))
  have H7 := hide h7
  have Hr1 := hide hr1
  have HbW := hide hbW
  clear h7 hr1 hbW ho1 hb1 K1
  go_wp2_with (first
    | (at_builtin; refine wpList_app byteTy rfl _ _ rfl w1.heap.size (.slice (some ⟨w1.heap.size, 0, none⟩) 1 1) 1 (bys [7]) rfl (unhide H7) w1.heap.size A1 12 c1 (bys [10, 1, 0, 97, 1, 0, 0, 0, 0, 0, 0, 0]) rfl (unhide Hr1) (bys_one _) (by omega) (by simp) ?_; intro A2 c2 w2 ho2 hg2 hat2; have Ho2 := hide ho2; have Hb2 := hide ((unhide HbW).grown hg2 (by simp; omega) (fun k hk => (by simp [Value.ownBlock] at hk; omega))); have hsz2 := hg2.size; clear ho2 hg2 hat2)
    | (at_builtin; refine wpList_app byteTy rfl _ _ rfl w1.heap.size (.slice A2 13 c2) 13 (bys [7] ++ bys [10, 1, 0, 97, 1, 0, 0, 0, 0, 0, 0, 0]) rfl ((unhide Ho2).alloc _) (w2.heap.size + 1) (some ⟨w2.heap.size, 0, none⟩) 2 2 [.int .u8 1, .int .u8 2] rfl (rd_lit2 w2 (.int .u8 1) (.int .u8 2) 5) (by simp [Value.oneCell']) (by omega) (by simp at hsz2 ⊢; omega) ?_; intro A3 c3 w3 ho3 hg3 hat3; have Ho3 := hide ho3; have Hb3 := hide (((unhide Hb2).alloc (unhide Hb2).size (.cells #[.int .u8 1, .int .u8 2] 5)).grown hg3 (by have := (unhide Hb2).size; simp; omega) (fun k hk => Nat.le_trans hsz1 ((unhide Ho2).lt k hk).1)); clear ho3 hg3 hat3))
  have K3 := steps_any A3 15 c3 w3.heap.size ([7] ++ [10, 1, 0, 97, 1, 0, 0, 0, 0, 0, 0, 0] ++ [1, 2]) w3 (Rd.of_own (unhide Ho3)) (Nat.le_refl _) (by omega) (own_cap (unhide Ho3))
  rw [qA_steps] at K3
  refine K3.mono ?_
  rintro e w4 ⟨L, A4, c4, rfl, hL, hrow, hb4⟩
  obtain ⟨hl2, g, off, hA, hgb, y0, y7, y12⟩ := two_cells hL hrow
  rw [Nat.add_zero] at y0
  have y7b : w4.cell? ⟨g, off + 1 + 6, none⟩ = some (.string ⟨#[97]⟩) := y7
  have y12b : w4.cell? ⟨g, off + 11 + 1, none⟩ = some (.int .u8 2) := y12
  have hq97 : ((⟨#[97]⟩ : ByteArray).toList == (⟨#[97]⟩ : ByteArray).toList) = true := beq_self_eq_true _
  rw [hl2]
  have Hbe := hide ((unhide Hb3).trans (hb4.mono (unhide Hb3).size))
  subst hA
  clear hL hrow hl2 hb4 K3 Hb3 Ho3 Hb2 Ho2 H7 Hr1 HbW
  go_wp2_with fail
  go_ret
  exact ⟨rfl, unhide Hbe⟩
end Go.Proofs.Ytphbkjdheopmhaa
namespace Go.Proofs.Ytphbkjdheopmhaa
set_option linter.unusedVariables false
set_option linter.unusedSimpArgs false
open Go.RowKit Go.ChangeShapes Go.WideShapes Go.Joins Go.Deep

section
variable {H : Type} {enc : TypeId × Value → H} {P : Program} {w : World} {base : Nat} {spare : Nat → Bool} {held : Bool}
theorem fields_one {t : TypeId} {fs : Array Field} {fuel : Nat} {cs : List Value} {x : DataW H × List MemPlace} (ht : P.underlying t = some (.struct fs)) (hone : oneCellFields P fs = true) (hC : P.cellsOf t = fs.size)
    (h : DataW.trod enc P w base spare held fuel t cs = some x) : cs.length = fs.size ∧ ∃ n, ∀ (i : Nat) (f : Field) (v : Value), fs[i]? = some f → cs[i]? = some v → ∃ y, DataW.trod enc P w base spare held n f.type [v] = some y := by
  obtain ⟨xs, n, _, rfl, hl, hlen, hf⟩ := DataW.trod_struct ht h
  refine ⟨hl.trans hC, n, fun i f v hi hv => ?_⟩
  obtain ⟨o, k⟩ := hone_of hone i f hi
  have hi2 : i < fs.size := (Array.getElem?_eq_some_iff.1 hi).1
  have h1 := hf i f hi
  have e : ((cs.drop f.offset).take (P.cellsOf f.type)) = [v] := by
    rw [o, k]
    have hlt : i < cs.length := (List.getElem?_eq_some_iff.1 hv).1
    rw [List.drop_eq_getElem_cons hlt, (List.getElem?_eq_some_iff.1 hv).2]
    rfl
  rw [e] at h1
  exact ⟨_, h1.trans (List.getElem?_eq_getElem (by omega))⟩
end

theorem callFields : ∃ fs, Try.prog.underlying 26 = some (.struct fs) ∧ oneCellFields Try.prog fs = true ∧ Try.prog.cellsOf 26 = fs.size ∧ fs.size = 10 ∧ fs.map (·.type) = #[5, 22, 22, 22, 22, 22, 9, 23, 23, 24] :=
  ⟨_, Try.underlying26, by kernel_rfl, by kernel_rfl, by kernel_rfl, by kernel_rfl⟩
theorem list10 {α : Type} {cs : List α} (h : cs.length = 10) : ∃ c0 c1 c2 c3 c4 c5 c6 c7 c8 c9, cs = [c0, c1, c2, c3, c4, c5, c6, c7, c8, c9] := by
  match cs, h with
  | [c0, c1, c2, c3, c4, c5, c6, c7, c8, c9], _ => exact ⟨c0, c1, c2, c3, c4, c5, c6, c7, c8, c9, rfl⟩

section
variable {H : Type} {enc : TypeId × Value → H} {w : World} {base : Nat} {held : Bool}
theorem slice_is {t e : TypeId} {fuel : Nat} {v : Value} {y : DataW H × List MemPlace} (ht : Try.prog.underlying t = some (.slice e)) (hf : DataW.trod enc Try.prog w base (fun _ => true) held fuel t [v] = some y) : ∃ A n c, v = .slice A n c := by
  obtain ⟨a, l, c, h⟩ := slice_form ht hf
  simp only [List.cons.injEq, and_true] at h
  exact ⟨a, l, c, h⟩
theorem u64_is {fuel : Nat} {v : Value} {y : DataW H × List MemPlace} (hf : DataW.trod enc Try.prog w base (fun _ => true) held fuel 22 [v] = some y) : ∃ n : Nat, v = .int .u64 n ∧ n < 18446744073709551616 := by
  obtain ⟨z, q, -, hw⟩ := DataW.trod_int Try.underlying22 hf
  simp only [List.cons.injEq, and_true] at q
  have b : 0 ≤ z ∧ z ≤ 18446744073709551615 := by simpa [Lit.wf, IntKind.min, IntKind.max, IntKind.signed, IntKind.bits] using hw
  obtain ⟨n, rfl⟩ := Int.eq_ofNat_of_zero_le b.1
  exact ⟨n, q, by omega⟩
theorem u8_is {fuel : Nat} {v : Value} {y : DataW H × List MemPlace} (hf : DataW.trod enc Try.prog w base (fun _ => true) held fuel 5 [v] = some y) : ∃ n : Nat, v = .int .u8 n ∧ n < 256 := by
  obtain ⟨z, q, -, hw⟩ := DataW.trod_int Try.underlying5 hf
  simp only [List.cons.injEq, and_true] at q
  have b : 0 ≤ z ∧ z ≤ 255 := by simpa [Lit.wf, IntKind.min, IntKind.max, IntKind.signed, IntKind.bits] using hw
  obtain ⟨n, rfl⟩ := Int.eq_ofNat_of_zero_le b.1
  exact ⟨n, q, by omega⟩
theorem call_vals {fuel : Nat} {cs : List Value} {x : DataW H × List MemPlace} (h : DataW.trod enc Try.prog w base (fun _ => true) held fuel 26 cs = some x) :
    ∃ (q : Cl.C) (xs ys zs : Sl), cs = (clCells q xs ys zs).toList ∧ ClFit q ∧ ClOk w w.heap.size q xs ys zs ∧ xs.n ≤ xs.c ∧ ys.n ≤ ys.c ∧ zs.n ≤ zs.c := by
  obtain ⟨fs, ht, hone, hC, h10, hty⟩ := callFields
  obtain ⟨hl, n, hf⟩ := fields_one ht hone hC h
  rw [h10] at hl
  have hfi : ∀ (i : Nat) (t : TypeId), (fs.map (·.type))[i]? = some t → ∃ f : Field, fs[i]? = some f ∧ f.type = t := by
    intro i t hi
    rw [Array.getElem?_map] at hi
    cases hq : fs[i]? with
    | none => rw [hq] at hi; cases hi
    | some f => rw [hq] at hi; exact ⟨f, rfl, by simpa using hi⟩
  have hft : ∀ (i : Nat) (t : TypeId) (v : Value), (fs.map (·.type))[i]? = some t → cs[i]? = some v → ∃ y, DataW.trod enc Try.prog w base (fun _ => true) held n t [v] = some y := by
    intro i t v hi hv
    obtain ⟨f, g, e⟩ := hfi i t hi
    obtain ⟨y, hy⟩ := hf i f v g hv
    rw [e] at hy
    exact ⟨y, hy⟩
  rw [hty] at hft
  obtain ⟨c0, c1, c2, c3, c4, c5, c6, c7, c8, c9, rfl⟩ := list10 hl
  obtain ⟨y0, h0⟩ := hft 0 5 c0 rfl rfl
  obtain ⟨y1, h1⟩ := hft 1 22 c1 rfl rfl
  obtain ⟨y2, h2⟩ := hft 2 22 c2 rfl rfl
  obtain ⟨y3, h3⟩ := hft 3 22 c3 rfl rfl
  obtain ⟨y4, h4⟩ := hft 4 22 c4 rfl rfl
  obtain ⟨y5, h5⟩ := hft 5 22 c5 rfl rfl
  obtain ⟨y6, h6⟩ := hft 6 9 c6 rfl rfl
  obtain ⟨y7, h7⟩ := hft 7 23 c7 rfl rfl
  obtain ⟨y8, h8⟩ := hft 8 23 c8 rfl rfl
  obtain ⟨y9, h9⟩ := hft 9 24 c9 rfl rfl
  obtain ⟨kd, rfl, bk⟩ := u8_is h0
  obtain ⟨a, rfl, ba⟩ := u64_is h1
  obtain ⟨b, rfl, bb⟩ := u64_is h2
  obtain ⟨c, rfl, bc⟩ := u64_is h3
  obtain ⟨d, rfl, bd⟩ := u64_is h4
  obtain ⟨e, rfl, be⟩ := u64_is h5
  obtain ⟨s, q6, -, bs⟩ := DataW.trod_string Try.underlying9 h6
  simp only [List.cons.injEq, and_true] at q6
  subst q6
  obtain ⟨A7, n7, k7, rfl⟩ := slice_is Try.underlying23 h7
  obtain ⟨A8, n8, k8, rfl⟩ := slice_is Try.underlying23 h8
  obtain ⟨A9, n9, k9, rfl⟩ := slice_is Try.underlying24 h9
  obtain ⟨l7, r7, hc7, hm7, hs7⟩ := open_strs_rd (d := y7.1) (p := y7.2) Try.underlying23 Try.underlying9 (by kernel_rfl) ⟨n, h7⟩
  obtain ⟨l8, r8, hc8, hm8, hs8⟩ := open_strs_rd (d := y8.1) (p := y8.2) Try.underlying23 Try.underlying9 (by kernel_rfl) ⟨n, h8⟩
  obtain ⟨l9, r9, hc9, hm9⟩ := open_bytes_rd (d := y9.1) (p := y9.2) Try.underlying24 Try.underlying5 (by kernel_rfl) ⟨n, h9⟩
  have e7 : l7.length = n7 := by simpa using r7.len1
  have e8 : l8.length = n8 := by simpa using r8.len1
  have e9 : l9.length = n9 := by simpa using r9.len1
  exact ⟨⟨kd, a, b, c, d, e, s, l7, l8, l9⟩, ⟨A7, n7, k7⟩, ⟨A8, n8, k8⟩, ⟨A9, n9, k9⟩, rfl, ⟨bk, ba, bb, bc, bd, be, bs, by show l7.length ≤ _; omega, by show l8.length ≤ _; omega, by show l9.length ≤ _; omega, hs7, hs8⟩, ⟨r7, r8, r9⟩, hc7, hc8, hc9⟩
set_option maxRecDepth 100000 in
/-- A call as an argument. -/
theorem open_call_rd {r : Reach} {b0 : Nat} {v : Value} {d : DataW H} {p : List MemPlace} (hv : Value.okWide Try.prog w r b0 26 v) (h : DataW.Trod enc Try.prog w base (fun _ => true) held 26 v d p) :
    ∃ (q : Cl.C) (xs ys zs : Sl), v = .agg (clCells q xs ys zs) ∧ ClFit q ∧ ClOk w w.heap.size q xs ys zs ∧ xs.n ≤ xs.c ∧ ys.n ≤ ys.c ∧ zs.n ≤ zs.c := by
  obtain ⟨cs, rfl, hsz⟩ := okWide_struct Try.underlying26 hv
  obtain ⟨fuel, hf⟩ := h
  obtain ⟨q, xs, ys, zs, e, h1, h2, h3⟩ := call_vals hf
  refine ⟨q, xs, ys, zs, ?_, h1, h2, h3⟩
  have e2 : cs.toList = (clCells q xs ys zs).toList := e
  rw [← Array.toArray_toList (xs := cs), e2]
end
end Go.Proofs.Ytphbkjdheopmhaa
namespace Go.Proofs.Ytphbkjdheopmhaa
set_option linter.unusedVariables false
set_option linter.unusedSimpArgs false
open Go.RowKit

set_option maxRecDepth 100000 in
set_option maxHeartbeats 4000000 in
theorem callsChecks_walk (q : Cl.C) (x y z : Sl) (w : World) (hq : ClOk w w.heap.size q x y z) (hf : ClFit q) :
    Calls Try.prog 3 #[.agg (clCells q x y z)] w fun e w' => e = .returned (.bool true) ∧ Below w.heap.size w w' := by
  have hbox : (w.alloc (.cells (clCells q x y z) 26)).heap[w.heap.size]? = some (.cells (clCells q x y z) 26 (0, 0)) := heap_alloc_new _ _
  have hb0 : Below w.heap.size w (w.alloc (.cells (clCells q x y z) 26)) := (Below.refl _ _).alloc (Nat.le_refl _) _
  obtain ⟨v0, v1, v2, v3, v4, v5, v6, v7, v8, v9⟩ := box10 hbox
  have hqW := hq.alloc (Nat.le_refl _) (.cells (clCells q x y z) 26)
  have KW := hide works_any
  have KL := hide (Large_any q x y z w.heap.size _ hqW (by simp) hf)
  have HqW := hide hqW
  have Hbox := hide hbox
  have Hb0 := hide hb0
  have Hf := hide hf
  have Hn := hide (And.intro hq.n1 (And.intro hq.n2 hq.n3))
  clear hqW hbox hb0 hf hq
  go_enter Try.func3, Try.ntmps3
  go_wp2_with fail
  refine (unhide KL).mono ?_
  rintro e w1 ⟨r, rfl, hb1, hr⟩
  have hlt0 := lt_of_block (unhide Hbox)
  have hbx1 := (hb1.block _ hlt0).trans (unhide Hbox)
  have hb1' := (unhide Hb0).trans (hb1.mono (by omega))
  have Hq1 := hide ((unhide HqW).below (hb1.mono (by omega)))
  have Hbx1 := hide hbx1
  have Hb1 := hide hb1'
  have Hr := hide hr
  clear v0 v1 v2 v3 v4 v5 v6 v7 v8 v9 hb1 hb1' hr KL Hb0 HqW Hbox
  obtain ⟨v0, v1, v2, v3, v4, v5, v6, v7, v8, v9⟩ := box10 hbx1
  clear hbx1
  cases r
  case true =>
    go_wp2_with (go_at_call 11; refine ((unhide KW) _).mono ?_; rintro e w6 ⟨rfl, hb6⟩)
    go_ret
    exact ⟨rfl, (unhide Hb1).trans (hb6.mono (unhide Hb1).size)⟩
  have hnl := (unhide Hr) rfl
  have hpath : q.path.size ≤ 4294967296 := by have := hnl.p; omega
  have hsz1 := (unhide Hb1).size
  have hlt1 := lt_of_block (unhide Hbx1)
  obtain ⟨n1, n2, n3⟩ := unhide Hn
  have KC := hide (copy_any q x y z w.heap.size w1 (unhide Hq1) hsz1 (by have := hnl.a1; omega) (by have := hnl.e1; omega) (by have := hnl.b; omega))
  clear n1 n2 n3 hnl Hr
  go_wp2_with fail
  refine (unhide KC).mono ?_
  rintro e w2 ⟨x', y', z', rfl, hq2, hb2⟩
  have hbw : Below w2.heap.size w2 (w2.alloc (.cells (clCells q x' y' z') 26)) := (Below.refl _ _).alloc (Nat.le_refl _) _
  have hg3 : (w2.alloc (.cells (clCells q x' y' z') 26)).heap[w2.heap.size]? = some (.cells (clCells q x' y' z') 26 (0, 0)) := heap_alloc_new _ _
  have hs2 := hb2.size
  have hg1 := (hbw.block _ (by omega)).trans ((hb2.block _ hlt1).trans (unhide Hbx1))
  have Hq3 := hide (((unhide Hq1).below (hb2.mono hsz1)).below (hbw.mono (by omega)))
  have Hq4 := hide ((hq2.below hbw).more hbw.size)
  have Hb3 := hide (((unhide Hb1).trans (hb2.mono hsz1)).trans (hbw.mono (by omega)))
  have Hg1 := hide hg1
  have Hg3 := hide hg3
  clear v0 v1 v2 v3 v4 v5 v6 v7 v8 v9 hbw hg3 hg1 hq2 hb2 KC Hq1 Hbx1 Hb1
  go_wp2_with fail
  generalize hW : w2.alloc (.cells (clCells q x' y' z') 26) = W at *
  have hszW : w.heap.size ≤ W.heap.size := (unhide Hb3).size
  have hlg1 := lt_of_block (unhide Hg1)
  have hlg3 := lt_of_block (unhide Hg3)
  clear hW
  generalize w2.heap.size = g3 at *
  obtain ⟨ev, hev⟩ : ∃ ev, Cl.check q = ev := ⟨_, rfl⟩
  have K1 : ∀ w', Below W.heap.size W w' → Calls Try.prog 13 #[.agg (clCells q x' y' z')] w' fun e w'' => e = .returned (.int .i64 ev) ∧ Below w'.heap.size w' w'' := by
    intro w' hb
    rw [← hev]
    exact callCheck_any q x' y' z' W.heap.size w' ((unhide Hq4).below hb) hb.size (unhide Hf)
  have K2 : ∀ w', Below W.heap.size W w' → Calls Try.prog 14 #[.agg (clCells q x y z)] w' fun e w'' => e = .returned (.int .i64 ev) ∧ Below w'.heap.size w' w'' := by
    intro w' hb
    rw [← hev]
    exact rcallCheck_any q x y z w.heap.size w' ((unhide Hq3).below (hb.mono hszW)) (Nat.le_trans hszW hb.size) (unhide Hf) hpath
  have K3 : ∀ w', Below W.heap.size W w' → Calls Try.prog 15 #[.agg (clCells q x' y' z'), .agg (clCells q x y z)] w' fun e w'' => e = .returned (.bool true) ∧ Below w'.heap.size w' w'' := by
    intro w' hb
    have h := same_any q q x' y' z' x y z W.heap.size w' ((unhide Hq4).below hb) (((unhide Hq3).below (hb.mono hszW)).more hszW) hb.size (unhide Hf) (unhide Hf)
    have hs : sameB q q = true := by simp [sameB]
    rwa [hs] at h
  have HS : ∀ w', Below W.heap.size W w' → (Below W.heap.size W w' ∧ w'.cell? ⟨w.heap.size, 0, none⟩ = some (.int .u8 q.kind) ∧ w'.cell? ⟨w.heap.size, 1, none⟩ = some (.int .u64 q.a) ∧ w'.cell? ⟨w.heap.size, 2, none⟩ = some (.int .u64 q.b) ∧ w'.cell? ⟨w.heap.size, 3, none⟩ = some (.int .u64 q.c) ∧ w'.cell? ⟨w.heap.size, 4, none⟩ = some (.int .u64 q.d) ∧ w'.cell? ⟨w.heap.size, 5, none⟩ = some (.int .u64 q.e) ∧ w'.cell? ⟨w.heap.size, 6, none⟩ = some (.string q.path) ∧ w'.cell? ⟨w.heap.size, 7, none⟩ = some (.slice x.A x.n x.c) ∧ w'.cell? ⟨w.heap.size, 8, none⟩ = some (.slice y.A y.n y.c) ∧ w'.cell? ⟨w.heap.size, 9, none⟩ = some (.slice z.A z.n z.c) ∧ w'.cell? ⟨g3, 0, none⟩ = some (.int .u8 q.kind) ∧ w'.cell? ⟨g3, 1, none⟩ = some (.int .u64 q.a) ∧ w'.cell? ⟨g3, 2, none⟩ = some (.int .u64 q.b) ∧ w'.cell? ⟨g3, 3, none⟩ = some (.int .u64 q.c) ∧ w'.cell? ⟨g3, 4, none⟩ = some (.int .u64 q.d) ∧ w'.cell? ⟨g3, 5, none⟩ = some (.int .u64 q.e) ∧ w'.cell? ⟨g3, 6, none⟩ = some (.string q.path) ∧ w'.cell? ⟨g3, 7, none⟩ = some (.slice x'.A x'.n x'.c) ∧ w'.cell? ⟨g3, 8, none⟩ = some (.slice y'.A y'.n y'.c) ∧ w'.cell? ⟨g3, 9, none⟩ = some (.slice z'.A z'.n z'.c)) := by
    intro w' hb
    obtain ⟨a0, a1, a2, a3, a4, a5, a6, a7, a8, a9⟩ := box10 ((hb.block _ hlg1).trans (unhide Hg1))
    obtain ⟨b0, b1, b2, b3, b4, b5, b6, b7, b8, b9⟩ := box10 ((hb.block _ hlg3).trans (unhide Hg3))
    exact ⟨hb, a0, a1, a2, a3, a4, a5, a6, a7, a8, a9, b0, b1, b2, b3, b4, b5, b6, b7, b8, b9⟩
  replace K1 := hide K1
  replace K2 := hide K2
  replace K3 := hide K3
  replace HS := hide HS
  clear hev hpath Hf Hn Hq3 Hq4 hsz1
  go_region_held3 (fun w' => Below W.heap.size W w' ∧ w'.cell? ⟨w.heap.size, 0, none⟩ = some (.int .u8 q.kind) ∧ w'.cell? ⟨w.heap.size, 1, none⟩ = some (.int .u64 q.a) ∧ w'.cell? ⟨w.heap.size, 2, none⟩ = some (.int .u64 q.b) ∧ w'.cell? ⟨w.heap.size, 3, none⟩ = some (.int .u64 q.c) ∧ w'.cell? ⟨w.heap.size, 4, none⟩ = some (.int .u64 q.d) ∧ w'.cell? ⟨w.heap.size, 5, none⟩ = some (.int .u64 q.e) ∧ w'.cell? ⟨w.heap.size, 6, none⟩ = some (.string q.path) ∧ w'.cell? ⟨w.heap.size, 7, none⟩ = some (.slice x.A x.n x.c) ∧ w'.cell? ⟨w.heap.size, 8, none⟩ = some (.slice y.A y.n y.c) ∧ w'.cell? ⟨w.heap.size, 9, none⟩ = some (.slice z.A z.n z.c) ∧ w'.cell? ⟨g3, 0, none⟩ = some (.int .u8 q.kind) ∧ w'.cell? ⟨g3, 1, none⟩ = some (.int .u64 q.a) ∧ w'.cell? ⟨g3, 2, none⟩ = some (.int .u64 q.b) ∧ w'.cell? ⟨g3, 3, none⟩ = some (.int .u64 q.c) ∧ w'.cell? ⟨g3, 4, none⟩ = some (.int .u64 q.d) ∧ w'.cell? ⟨g3, 5, none⟩ = some (.int .u64 q.e) ∧ w'.cell? ⟨g3, 6, none⟩ = some (.string q.path) ∧ w'.cell? ⟨g3, 7, none⟩ = some (.slice x'.A x'.n x'.c) ∧ w'.cell? ⟨g3, 8, none⟩ = some (.slice y'.A y'.n y'.c) ∧ w'.cell? ⟨g3, 9, none⟩ = some (.slice z'.A z'.n z'.c)) (first | exact (unhide HS) _ (below_drew' (Below.refl _ _)) | exact (unhide HS) _ (unhide hbn)) (first
    | (go_at_call 13; rename Below _ _ _ ∧ _ => hH; refine ((unhide K1) _ hH.1).mono ?_; rintro e w4 ⟨rfl, hb4⟩; have hbn := hide (hH.1.trans (hb4.mono hH.1.size)))
    | (go_at_call 14; rename Below _ _ _ ∧ _ => hH; refine ((unhide K2) _ hH.1).mono ?_; rintro e w4 ⟨rfl, hb4⟩; have hbn := hide (hH.1.trans (hb4.mono hH.1.size)))
    | (go_at_call 15; rename Below _ _ _ ∧ _ => hH; refine ((unhide K3) _ hH.1).mono ?_; rintro e w4 ⟨rfl, hb4⟩; have hbn := hide (hH.1.trans (hb4.mono hH.1.size)))
    | (go_at_call 11; rename Below _ _ _ ∧ _ => hH; refine ((unhide KW) _).mono ?_; rintro e w4 ⟨rfl, hb4⟩; have hbn := hide (hH.1.trans (hb4.mono hH.1.size))))
  all_goals
    have Hbe := hide ((unhide Hb3).trans ((unhide hbn).mono hszW))
    go_wp2_with fail
    go_ret
    exact ⟨rfl, unhide Hbe⟩
end Go.Proofs.Ytphbkjdheopmhaa
namespace Go.Proofs.Ytphbkjdheopmhaa
set_option linter.unusedVariables false
set_option linter.unusedSimpArgs false
open Go.RowKit

theorem app_in_or_kept {P : Program} {w w' : World} {base : Nat} {t ty e : TypeId} {i : TypeInfo} {z : Value} (ht : P.underlying t = some (.slice e)) (hi : P.info? e = some i) (hz : i.zero = some z)
    (hs : i.size = 1) (hby : i.bytes = 1) {v v' : Value} {n : Nat} {xs : List Value} (hown : w.ownsRow base e 1 v n xs) {a : Addr} {c : Nat} {u : Value} (hu : w.cell? a = some u) (h1 : u.oneCell' = true) (hb : n + 1 ≤ 140737488355328)
    (hr : (Builtin.append_ #[t, t] ty #[v, .slice (some a) 1 c]).run P w = .ok v' w') : (∃ A c0, v = .slice A n c0 ∧ v' = .slice A (n + 1) c0) ∨ (Below w.heap.size w w' ∧ ∀ k, v'.ownBlock = some k → w.heap.size ≤ k) := by
  have hnews : ∀ j x, ([u] : List Value)[j]? = some x → w.cell? (a.add j) = some x := by
    intro j x hj
    cases j with
    | zero => simp at hj; subst hj; simpa [Addr.add] using hu
    | succ j => simp at hj
  rcases hown.2 with ⟨rfl, rfl⟩ | ⟨g, cap, cur, rfl, h1', h2, h3, h4, h5, h6⟩
  · rw [run_append_nil (P := P) w t ty e i z ht hi hz a 1 c [u] (by simp [hs]) hnews (by omega) (by omega) (by rw [hby]; omega)] at hr
    injection hr with e1 e2
    subst e1 e2
    exact .inr ⟨(below_drew' (Below.refl _ _)).alloc (Nat.le_refl _) _, fun k hk => by simp [Value.ownBlock] at hk; omega⟩
  · by_cases hroom : n + 1 ≤ cap
    · rw [run_append_room (P := P) w t ty e i ht hi g n cap cur h2 a 1 c [u] (by simp [hs]) hnews (by simpa using h1) hroom (by rw [hs]; simp; omega)] at hr
      injection hr with e1 e2
      subst e1
      exact .inl ⟨_, _, rfl, rfl⟩
    · have hc : ∀ j x, xs[j]? = some x → w.cell? ((⟨g, 0, none⟩ : Addr).add j) = some x := hown.cells (g := g) rfl
      rw [run_append_grow (P := P) w t ty e i z ht hi hz ⟨g, 0, none⟩ n cap xs (by rw [hs]; exact hown.1) hc a 1 c [u] (by simp [hs]) hnews (by omega) (by omega) (by rw [hby]; exact growslice_fits (by omega) (by omega))] at hr
      injection hr with e1 e2
      subst e1 e2
      exact .inr ⟨(below_drew' (Below.refl _ _)).alloc (Nat.le_refl _) _, fun k hk => by simp [Value.ownBlock] at hk; omega⟩
end Go.Proofs.Ytphbkjdheopmhaa
namespace Go.Proofs.Ytphbkjdheopmhaa
set_option linter.unusedVariables false
set_option linter.unusedSimpArgs false
open Go.RowKit

/-- append(b, c) for one byte, which has just been laid in a block of its own. -/
theorem wpList_appK {W : World} {ops : Array Oper} {rest : List Oper} {o : Oper} {a : Act} {Q : Exit → Act → World → Prop} (hgd : o.guard = none) (s x : Operand)
    (ho : o.op = .call { callee := .builtin .append, args := #[s, x], argTypes := #[24, 24] })
    (base : Nat) (v : Value) (n : Nat) (xs : List UInt8) (hs : a.eval s = v) (hown : W.ownsRow base 5 1 v n (bys xs)) (ch : UInt8) (g : Nat) (hx : a.eval x = .slice (some ⟨g, 0, none⟩) 1 1) (hg : g = W.heap.size) (hb : n + 1 ≤ 140737488355328) (hbase : base ≤ W.heap.size)
    (h : ∀ A' c' w', Grew W w' base v (.slice A' (n + 1) c') (n + 1) (xs ++ [ch]) → ((∃ A c0, v = .slice A n c0 ∧ (Value.slice A' (n + 1) c') = .slice A (n + 1) c0) ∨ (Below W.heap.size W w' ∧ ∀ k, (Value.slice A' (n + 1) c').ownBlock = some k → W.heap.size ≤ k)) → wpList Try.prog ops Q rest (a.put o.dst (.slice A' (n + 1) c')) w') : wpList Try.prog ops Q (o :: rest) a (W.alloc (.cells #[.int .u8 ch.toNat] 5)) := by
  subst hg
  obtain ⟨i, hi, hz0, hz1, hz2⟩ := info_parts byteInfo
  refine wpList_plain hgd fun K hK => ?_
  have hr : Rd (W.alloc (.cells #[.int .u8 ch.toNat] 5)) (W.heap.size + 1) 1 (some ⟨W.heap.size, 0, none⟩) 1 (bys [ch]) := Rd.row (w := W) rfl
  obtain ⟨v', w', hrun, h2, h3, h4⟩ := run_app byteTy (W.alloc (.cells #[.int .u8 ch.toNat] 5)) base o.type v n (bys xs) (hown.alloc _) _ _ 1 1 (bys [ch]) hr (bys_one _) (by omega) (by simp; omega)
  have hcell : (W.alloc (.cells #[.int .u8 ch.toNat] 5)).cell? ⟨W.heap.size, 0, none⟩ = some (.int .u8 ch.toNat) := (Blk.new W 5 [.int .u8 ch.toNat]).cell (i := 0) rfl
  have h5 := app_in_or_kept Try.underlying24 hi hz0 hz1 hz2 (hown.alloc _) hcell rfl hb hrun
  have hbl : Below W.heap.size W (W.alloc (.cells #[.int .u8 ch.toNat] 5)) := (Below.refl _ _).alloc (Nat.le_refl _) _
  obtain ⟨A', c', rfl⟩ := own_form h2
  rw [← bys_app] at h2
  unfold Oper.wp execOp
  simp only [ho, resolve, invoke, builtin, Sem.run_bind, Sem.run_pure, Result.andThen_ok, List.map_toArray, List.map_cons, List.map_nil, hs, hx, hrun]
  exact hK _ _ (h A' c' w' (Grew.after hbl ⟨h2, h3, h4⟩) (h5.imp id fun h6 => ⟨hbl.trans (h6.1.mono (by simp)), fun k hk => by have := h6.2 k hk; simp at this; omega⟩))

theorem own_grown {w w' : World} {base : Nat} {e : TypeId} {size n : Nat} {v : Value} {xs : List Value} {row : Option Nat} (h : w.ownsRow base e size v n xs) (hg : w.grownBy w' row) (hne : ∀ g, v.ownBlock = some g → row ≠ some g) : w'.ownsRow base e size v n xs := by
  refine ⟨h.1, h.2.imp id ?_⟩
  rintro ⟨g, cap, cur, rfl, e2, e3, r⟩
  exact ⟨g, cap, cur, rfl, e2, (hg.block g (lt_of_block e3) (fun e => hne g rfl e.symm)).trans e3, r⟩
theorem own_prefix {w : World} {base : Nat} {e : TypeId} {n m c : Nat} {A : Option Addr} {xs ys : List Value} (h : w.ownsRow base e 1 (.slice A (n + m) c) (n + m) (xs ++ ys)) (hl : xs.length = n) : w.ownsRow base e 1 (.slice A n c) n xs := by
  refine ⟨by omega, ?_⟩
  rcases h.2 with ⟨h1, h2⟩ | ⟨g, cap, cur, h1, h2, h3, h4, h5, h6, h7⟩
  · injection h1 with e1 e2 e3
    have hn : n = 0 := by omega
    subst e1 e3 hn
    exact .inl ⟨rfl, rfl⟩
  · injection h1 with e1 e2 e3
    subst e1 e3
    refine .inr ⟨g, c, cur, rfl, h2, h3, by omega, h5, h6, ?_⟩
    have h8 := congrArg (List.take (n * 1)) h7
    rw [List.take_take, Nat.min_eq_left (by omega)] at h8
    rw [h8, List.take_append_of_le_length (by omega), List.take_of_length_le (by omega)]

/-- k marks behind a row; the row itself is still there. -/
structure Gone (w wr : World) (base : Nat) (A : Option Addr) (n c : Nat) (xs : List UInt8) (mark : UInt8) (k : Nat) (A' : Option Addr) (c' : Nat) : Prop where
  grew : Grew w wr base (.slice A n c) (.slice A' (n + k) c') (n + k) (xs ++ List.replicate k mark)
  old : (A' = A ∧ c' = c) ∨ (wr.ownsRow base 5 1 (.slice A n c) n (bys xs) ∧ ∀ g, (Value.slice A n c).ownBlock = some g → (Value.slice A' (n + k) c').ownBlock ≠ some g)
section
variable {w wr w' : World} {base n c k c' c'' : Nat} {A A' A'' : Option Addr} {xs : List UInt8} {mark : UInt8}
theorem Gone.start (h : w.ownsRow base 5 1 (.slice A n c) n (bys xs)) : Gone w w base A n c xs mark 0 A c :=
  ⟨⟨by simpa using h, World.grownBy.refl w _, fun k hk => .inl hk⟩, .inl ⟨rfl, rfl⟩⟩
theorem Gone.keeps (h : Gone w wr base A n c xs mark k A' c') : wr.ownsRow base 5 1 (.slice A n c) n (bys xs) := by
  rcases h.old with ⟨rfl, rfl⟩ | ⟨h1, _⟩
  · have h1 := h.grew.own
    have hl := h1.1
    rw [bys_app] at h1
    exact own_prefix h1 (by simp [bys] at hl ⊢; omega)
  · exact h1
theorem Gone.step (h : Gone w wr base A n c xs mark k A' c') (hg : Grew wr w' base (.slice A' (n + k) c') (.slice A'' (n + k + 1) c'') (n + k + 1) (xs ++ List.replicate k mark ++ [mark]))
    (ho : (∃ A0 c0, Value.slice A' (n + k) c' = .slice A0 (n + k) c0 ∧ Value.slice A'' (n + k + 1) c'' = .slice A0 (n + k + 1) c0) ∨ (Below wr.heap.size wr w' ∧ ∀ k', (Value.slice A'' (n + k + 1) c'').ownBlock = some k' → wr.heap.size ≤ k')) : Gone w w' base A n c xs mark (k + 1) A'' c'' := by
  have e : xs ++ List.replicate k mark ++ [mark] = xs ++ List.replicate (k + 1) mark := by rw [List.replicate_succ', List.append_assoc]
  rw [e] at hg
  refine ⟨h.grew.trans hg, ?_⟩
  have hk := h.keeps
  have hlt : ∀ g, (Value.slice A n c).ownBlock = some g → g < wr.heap.size := fun g hg => (hk.lt g hg).2
  rcases ho with ⟨A0, c0, e1, e2⟩ | ⟨hb, hn⟩
  · injection e1 with e1 _ e3
    injection e2 with e4 _ e6
    subst e1 e3 e4 e6
    rcases h.old with h1 | ⟨h1, h2⟩
    · exact .inl h1
    · refine .inr ⟨own_grown h1 hg.kept (fun g hg => h2 g hg), fun g hg => ?_⟩
      have := h2 g hg
      cases A'' with
      | none => simp [Value.ownBlock]
      | some a => simpa [Value.ownBlock] using this
  · exact .inr ⟨own_below hk hb, fun g hg e => by have := hlt g hg; have := hn g e; omega⟩
end

set_option maxRecDepth 100000 in
set_option maxHeartbeats 2000000 in
theorem goneOn_any (A : Option Addr) (n c base : Nat) (xs : List UInt8) (mark : UInt8) (w : World) (hown : w.ownsRow base 5 1 (.slice A n c) n (bys xs)) (hn : n ≤ 4294967296) (hbase : base ≤ w.heap.size) :
    Calls Try.prog 49 #[.slice A n c, .int .u8 mark.toNat] w fun e w' => ∃ A' c', e = .returned (.slice A' (n + 40) c') ∧ Gone w w' base A n c xs mark 40 A' c' := by
  have H0 := hide (Gone.start (mark := mark) hown)
  clear hown
  go_enter Try.func49, Try.ntmps49
  go_wp2_with fail
  go_loopg [0, 5] 40 (fun gk bv lv wr => ∃ (k : Nat) (A' : Option Addr) (c' : Nat), gk = 40 - k ∧ k ≤ 40 ∧ lv = .int .i64 (40 - (k : Int)) ∧ bv = .slice A' (n + k) c' ∧ Gone w wr base A n c xs mark k A' c')
  case atStart => exact ⟨0, A, c, by omega, by omega, rfl, rfl, unhide H0⟩
  case round =>
  obtain ⟨k, A', c', hgk, hk, rfl, rfl, hG⟩ := hrel
  have Hgk := hide hgk
  have HG := hide hG
  have hsz := hG.grew.kept.size
  clear hgk hG H0
  rcases Nat.lt_or_ge k 40 with hlt | hge
  case inr =>
    obtain rfl : k = 40 := by omega
    go_wp2_with fail
    go_ret
    exact ⟨A', c', rfl, unhide HG⟩
  have hpos : (0 : Int) < 40 - (k : Int) := by omega
  go_wp2_with (at_builtin; refine wpList_appK rfl _ _ rfl base (.slice A' (n + k) c') (n + k) (xs ++ List.replicate k mark) rfl (unhide HG).grew.own mark wr.heap.size rfl rfl (by omega) (by omega) ?_; intro A2 c2 w2 hg2 ho2; have HG2 := hide ((unhide HG).step hg2 ho2); clear hg2 ho2)
  go_roundg (40 - (k + 1))
  case measure => have := unhide Hgk; omega
  case rel => exact ⟨k + 1, A2, c2, rfl, by omega, by go_num, rfl, unhide HG2⟩
end Go.Proofs.Ytphbkjdheopmhaa
namespace Go.Proofs.Ytphbkjdheopmhaa
set_option linter.unusedVariables false
set_option linter.unusedSimpArgs false
open Go.RowKit Go.ChangeShapes Go.WideShapes Go.Joins Go.Deep

/-- A step of the argument's. -/
structure AEl where
  p : Int
  q : Cl.C
  x : Sl
  y : Sl
  z : Sl
abbrev aCells (s : AEl) : List Value := .int .i64 s.p :: clL s.q s.x s.y s.z
def rowA : List AEl → List Value
  | [] => []
  | s :: r => aCells s ++ rowA r
theorem rowA_len (l : List AEl) : (rowA l).length = l.length * 11 := by
  induction l with
  | nil => rfl
  | cons s r ih => simp [rowA, ih]; omega
theorem rowA_at (l : List AEl) (k : Nat) (s : AEl) (h : l[k]? = some s) (j : Nat) (hj : j < 11) : (rowA l)[k * 11 + j]? = (aCells s)[j]? := by
  induction l generalizing k with
  | nil => simp at h
  | cons a r ih =>
    cases k with
    | zero =>
      simp at h
      subst h
      show (aCells a ++ rowA r)[0 * 11 + j]? = _
      rw [List.getElem?_append_left (by simp; omega)]
      simp
    | succ k =>
      have h2 : r[k]? = some s := by simpa using h
      show (aCells a ++ rowA r)[(k + 1) * 11 + j]? = _
      rw [List.getElem?_append_right (by simp; omega), ← ih k h2]
      congr 1
      simp
      omega
/-- What holds of a step of the argument's. -/
structure AOk (w : World) (B : Nat) (s : AEl) : Prop where
  ok : ClOk w B s.q s.x s.y s.z
  fit : ClFit s.q
  lo : -9223372036854775808 ≤ s.p
  hi : s.p ≤ 9223372036854775807

section
variable {H : Type} {enc : TypeId × Value → H} {w : World} {base : Nat} {held : Bool}
theorem cells_at {P : Program} {w : World} {base : Nat} {a : Addr} {k : Nat} {cs : List Value} (h : w.cells? base a k = some cs) : cs.length = k ∧ ∀ j, j < k → w.cell? (a.add j) = cs[j]? := by
  unfold World.cells? at h
  split at h
  · have hl := mapM_some_length h
    refine ⟨by simpa using hl, fun j hj => ?_⟩
    exact mapM_some_get h j j (by simp [hj])
  · cases h
theorem stepFields : ∃ fs, Try.prog.underlying 49 = some (.struct fs) ∧ Try.prog.cellsOf 49 = 11 ∧ fs.map (fun f => (f.type, f.offset)) = #[(3, 0), (26, 1)] :=
  ⟨_, Try.underlying49, by kernel_rfl, by kernel_rfl⟩
theorem step_vals {fuel : Nat} {cs : List Value} {x : DataW H × List MemPlace} (h : DataW.trod enc Try.prog w base (fun _ => true) held fuel 49 cs = some x) : ∃ s : AEl, cs = aCells s ∧ AOk w w.heap.size s := by
  obtain ⟨fs, ht, hC, hfs⟩ := stepFields
  obtain ⟨xs, n, _, rfl, hl, hlen, hf⟩ := DataW.trod_struct ht h
  rw [hC] at hl
  have hget : ∀ (i : Nat) (t : TypeId) (o : Nat), (fs.map (fun f => (f.type, f.offset)))[i]? = some (t, o) → ∃ f : Field, fs[i]? = some f ∧ f.type = t ∧ f.offset = o := by
    intro i t o hi
    rw [Array.getElem?_map] at hi
    cases hq : fs[i]? with
    | none => rw [hq] at hi; cases hi
    | some f => rw [hq] at hi; simp at hi; exact ⟨f, rfl, hi.1, hi.2⟩
  rw [hfs] at hget
  obtain ⟨f0, g0, t0, o0⟩ := hget 0 3 0 rfl
  obtain ⟨f1, g1, t1, o1⟩ := hget 1 26 1 rfl
  have h0 := hf 0 f0 g0
  have h1 := hf 1 f1 g1
  have c0 : Try.prog.cellsOf 3 = 1 := by kernel_rfl
  have c1 : Try.prog.cellsOf 26 = 10 := by kernel_rfl
  rw [t0, o0, c0] at h0
  rw [t1, o1, c1] at h1
  have hsz : fs.size = 2 := by have := congrArg Array.size hfs; simpa using this
  cases cs with
  | nil => simp at hl
  | cons v r =>
    have hr : r.length = 10 := by simpa using hl
    simp only [List.drop_zero, List.take_succ_cons, List.take_zero] at h0
    simp only [List.drop_succ_cons, List.drop_zero] at h1
    rw [List.take_of_length_le (by omega)] at h1
    obtain ⟨z, q0, -, wz⟩ := DataW.trod_int Try.underlying3 (h0.trans (List.getElem?_eq_getElem (by omega)))
    simp only [List.cons.injEq, and_true] at q0
    subst q0
    obtain ⟨q, xs, ys, zs, rfl, hfit, hok, -⟩ := call_vals (h1.trans (List.getElem?_eq_getElem (by omega)))
    have b : -9223372036854775808 ≤ z ∧ z ≤ 9223372036854775807 := by simpa [Lit.wf, IntKind.min, IntKind.max, IntKind.signed, IntKind.bits] using wz
    exact ⟨⟨z, q, xs, ys, zs⟩, rfl, hok, hfit, b.1, b.2⟩
set_option maxRecDepth 100000 in
theorem open_steps_rd {A : Option Addr} {n c fuel : Nat} {x : DataW H × List MemPlace} (h : DataW.trod enc Try.prog w base (fun _ => true) held fuel 42 [.slice A n c] = some x) :
    ∃ l : List AEl, Rd w w.heap.size 11 A n (rowA l) ∧ l.length = n ∧ n ≤ c ∧ c ≤ maxLen ∧ ∀ s ∈ l, AOk w w.heap.size s := by
  have h11 : Try.prog.cellsOf 49 = 11 := by kernel_rfl
  rcases Go.Deep.open_slice Try.underlying42 h with ⟨h1, h2⟩ | ⟨a, len, cap, m, k, D, Pl, h1, hb, hl, hm, hmm, hx, hel⟩
  · simp at h1
    obtain ⟨rfl, rfl, rfl⟩ := h1
    exact ⟨[], Rd.none_ _ _ _ _, rfl, Nat.le_refl _, by unfold maxLen; omega, by simp⟩
  · simp at h1
    obtain ⟨rfl, rfl, rfl⟩ := h1
    simp only [if_true] at hmm
    have each : ∀ i, i < n → ∃ s : AEl, AOk w w.heap.size s ∧ ∀ j, j < 11 → w.cell? (a.add (i * 11 + j)) = (aCells s)[j]? := by
      intro i hi
      obtain ⟨cs, hc, ht⟩ := hel i (by omega)
      rw [h11] at hc
      obtain ⟨s, rfl, hs⟩ := step_vals ht
      obtain ⟨_, hcell⟩ := cells_at (P := Try.prog) hc
      refine ⟨s, hs, fun j hj => ?_⟩
      have := hcell j hj
      rw [← this]
      congr 1
      by_cases g1 : i * 11 = 0 <;> by_cases g2 : j = 0 <;> simp [Addr.add, g1, g2, Nat.add_assoc]
    have hne : Inhabited AEl := ⟨⟨0, Cl.kindC 0, ⟨none, 0, 0⟩, ⟨none, 0, 0⟩, ⟨none, 0, 0⟩⟩⟩
    obtain ⟨S, hS⟩ := Go.Deep.choose_lt each
    refine ⟨(List.range n).map S, ⟨by rw [rowA_len]; simp, ?_⟩, by simp, hl, hm, ?_⟩
    · by_cases h0 : n = 0
      · subst h0; exact .inl rfl
      · obtain ⟨b, off, spot⟩ := a
        have hs0 := (hS 0 (by omega)).2 0 (by omega)
        have hs : spot = none := by simpa [Addr.add] using World.cell?_spot (hs0.trans rfl)
        subst hs
        have hc2 : ∀ i, i < n → ∀ j, j < 11 → w.cell? ⟨b, off + (i * 11 + j), none⟩ = (aCells (S i))[j]? := fun i hi j hj => by
          rw [← Go.WideShapes.add_plain]; exact (hS i hi).2 j hj
        have hblk : b < w.heap.size := cell_lt (a := ⟨b, off + (0 * 11 + 0), none⟩) ((hc2 0 (by omega) 0 (by omega)).trans rfl)
        refine .inr ⟨b, off, rfl, hblk, fun j u hu => ?_⟩
        have hj : j < n * 11 := by
          have := (List.getElem?_eq_some_iff.1 hu).1
          rw [rowA_len] at this
          simpa using this
        have hq : j / 11 < n := by omega
        have hat := rowA_at ((List.range n).map S) (j / 11) (S (j / 11)) (by simp [hq]) (j % 11) (by omega)
        rw [show j / 11 * 11 + j % 11 = j from by omega] at hat
        have := hc2 (j / 11) hq (j % 11) (by omega)
        rw [show j / 11 * 11 + j % 11 = j from by omega] at this
        rw [this, ← hat, hu]
    · intro s hs
      simp only [List.mem_map, List.mem_range] at hs
      obtain ⟨i, hi, rfl⟩ := hs
      exact (hS i hi).1
end
theorem rowA_cells {w : World} {B : Nat} {A : Option Addr} {n : Nat} {L : List AEl} {k : Nat} {s : AEl} (h : Rd w B 11 A n (rowA L)) (hk : L[k]? = some s) : ∃ g o, A = some ⟨g, o, none⟩ ∧ g < B ∧ ∀ j u, (aCells s)[j]? = some u → w.cell? ⟨g, o + k * 11 + j, none⟩ = some u := by
  have hne : rowA L ≠ [] := by
    intro e
    have h1 := rowA_len L
    rw [e] at h1
    have h2 := (List.getElem?_eq_some_iff.1 hk).1
    simp at h1
    omega
  obtain ⟨g, o, hA, hg, hc⟩ := h.open_ hne
  refine ⟨g, o, hA, hg, fun j u hj => ?_⟩
  have hj11 : j < 11 := by have := (List.getElem?_eq_some_iff.1 hj).1; simpa using this
  rw [Nat.add_assoc]
  exact hc _ _ ((rowA_at L k s hk j hj11).trans hj)

/-- Three rows of the call's own, each in a block of its own. -/
structure Tri (w wr : World) (vb : Value) (m : Nat) (bs : List Value) (vi : Value) (k : Nat) (os : List Value) (vw : Value) (j : Nat) (ws : List Value) : Prop where
  bel : Below w.heap.size w wr
  b : wr.ownsRow w.heap.size 5 1 vb m bs
  i : wr.ownsRow w.heap.size 3 1 vi k os
  w_ : wr.ownsRow w.heap.size 49 11 vw j ws
  bi : ∀ g, vb.ownBlock = some g → vi.ownBlock ≠ some g
  bw : ∀ g, vb.ownBlock = some g → vw.ownBlock ≠ some g
  iw : ∀ g, vi.ownBlock = some g → vw.ownBlock ≠ some g
section
variable {w wr w' : World} {vb vi vw v : Value} {m k j n : Nat} {bs os ws xs : List Value}
theorem Tri.start (w : World) : Tri w w (.slice none 0 0) 0 [] (.slice none 0 0) 0 [] (.slice none 0 0) 0 [] :=
  ⟨Below.refl _ _, World.ownsRow_nil _ _ _ _, World.ownsRow_nil _ _ _ _, World.ownsRow_nil _ _ _ _, (fun g h => by cases h), (fun g h => by cases h), (fun g h => by cases h)⟩
theorem Tri.below (h : Tri w wr vb m bs vi k os vw j ws) (hb : Below wr.heap.size wr w') : Tri w w' vb m bs vi k os vw j ws :=
  ⟨h.bel.trans (hb.mono h.bel.size), own_below h.b hb, own_below h.i hb, own_below h.w_ hb, h.bi, h.bw, h.iw⟩
theorem apart_new {wr : World} {e : TypeId} {base size n : Nat} {u v v' : Value} {xs : List Value} (hu : wr.ownsRow base e size u n xs) (hne : ∀ g, u.ownBlock = some g → v.ownBlock ≠ some g) (hat : ∀ g, v'.ownBlock = some g → v.ownBlock = some g ∨ wr.heap.size ≤ g) : ∀ g, u.ownBlock = some g → v'.ownBlock ≠ some g := by
  intro g hg e
  rcases hat g e with h | h
  · exact hne g hg h
  · have := (hu.lt g hg).2; omega
theorem Tri.put_i {vi' : Value} {k' : Nat} {os' : List Value} (h : Tri w wr vb m bs vi k os vw j ws) (hg : wr.grownBy w' vi.ownBlock) (ho : w'.ownsRow w.heap.size 3 1 vi' k' os') (hat : ∀ g, vi'.ownBlock = some g → vi.ownBlock = some g ∨ wr.heap.size ≤ g) : Tri w w' vb m bs vi' k' os' vw j ws :=
  have hw : ∀ g, vw.ownBlock = some g → vi.ownBlock ≠ some g := fun g h1 h2 => h.iw g h2 h1
  ⟨h.bel.grown hg h.bel.size (fun g hg => (h.i.lt g hg).1), own_grown h.b hg h.bi, ho, own_grown h.w_ hg hw, apart_new h.b h.bi hat, h.bw, fun g h1 h2 => apart_new h.w_ hw hat g h2 h1⟩
theorem Tri.put_b {vb' : Value} {m' : Nat} {bs' : List Value} (h : Tri w wr vb m bs vi k os vw j ws) (hg : wr.grownBy w' vb.ownBlock) (ho : w'.ownsRow w.heap.size 5 1 vb' m' bs') (hat : ∀ g, vb'.ownBlock = some g → vb.ownBlock = some g ∨ wr.heap.size ≤ g) : Tri w w' vb' m' bs' vi k os vw j ws :=
  have hw : ∀ g, vw.ownBlock = some g → vb.ownBlock ≠ some g := fun g h1 h2 => h.bw g h2 h1
  have hi : ∀ g, vi.ownBlock = some g → vb.ownBlock ≠ some g := fun g h1 h2 => h.bi g h2 h1
  ⟨h.bel.grown hg h.bel.size (fun g hg => (h.b.lt g hg).1), ho, own_grown h.i hg hi, own_grown h.w_ hg hw, fun g h1 h2 => apart_new h.i hi hat g h2 h1, fun g h1 h2 => apart_new h.w_ hw hat g h2 h1, h.iw⟩
theorem Tri.put_w {vw' : Value} {j' : Nat} {ws' : List Value} (h : Tri w wr vb m bs vi k os vw j ws) (hg : wr.grownBy w' vw.ownBlock) (ho : w'.ownsRow w.heap.size 49 11 vw' j' ws') (hat : ∀ g, vw'.ownBlock = some g → vw.ownBlock = some g ∨ wr.heap.size ≤ g) : Tri w w' vb m bs vi k os vw' j' ws' :=
  ⟨h.bel.grown hg h.bel.size (fun g hg => (h.w_.lt g hg).1), own_grown h.b hg h.bw, own_grown h.i hg h.iw, ho, h.bi, apart_new h.b h.bw hat, apart_new h.i h.iw hat⟩
end

/-- The bytes of steps; where each begins. -/
def scr (L : List SEl) : List UInt8 := Cl.script (L.map sPair)
theorem scr_snoc (L : List SEl) (s : SEl) : scr (L ++ [s]) = scr L ++ (UInt8.ofNat s.p :: Cl.form s.q) := by
  unfold scr
  rw [List.map_append, Cl.script_app]
  simp [Cl.script, sPair]
def offA (L : List SEl) (j : Nat) : Nat := (scr (L.take j)).length
def offs (L : List SEl) : List Value := (List.range L.length).map fun j => .int .i64 (offA L j : Nat)
theorem offs_len (L : List SEl) : (offs L).length = L.length := by simp [offs]
theorem offs_at {L : List SEl} {j : Nat} (h : j < L.length) : (offs L)[j]? = some (.int .i64 (offA L j : Nat)) := by simp [offs, h]
theorem offs_snoc (L : List SEl) (s : SEl) : offs (L ++ [s]) = offs L ++ [.int .i64 ((scr L).length : Nat)] := by
  unfold offs
  rw [List.length_append, List.length_singleton, List.range_succ, List.map_append]
  congr 1
  · refine List.map_congr_left fun j hj => ?_
    have := List.mem_range.1 hj
    unfold offA
    rw [List.take_append_of_le_length (by omega)]
  · simp [offA]
theorem scr_split {L : List SEl} {j : Nat} {s : SEl} (h : L[j]? = some s) : scr L = scr (L.take j) ++ (UInt8.ofNat s.p :: Cl.form s.q) ++ scr (L.drop (j + 1)) := by
  have hlt := (List.getElem?_eq_some_iff.1 h).1
  have e : L = L.take j ++ [s] ++ L.drop (j + 1) := by
    rw [List.append_assoc]
    conv => lhs; rw [← List.take_append_drop j L, List.drop_eq_getElem_cons hlt, (List.getElem?_eq_some_iff.1 h).2]
    rfl
  conv => lhs; rw [e]
  unfold scr
  rw [List.map_append, List.map_append, Cl.script_app, Cl.script_app]
  simp [Cl.script, sPair]
theorem offA_succ {L : List SEl} {j : Nat} {s : SEl} (h : L[j]? = some s) : offA L (j + 1) = offA L j + 1 + (Cl.form s.q).length := by
  unfold offA
  rw [List.take_add_one, h]
  show (scr (L.take j ++ [s])).length = _
  rw [scr_snoc]
  simp
  omega
theorem offA_zero (L : List SEl) : offA L 0 = 0 := by simp [offA, scr, Cl.script]
theorem offA_all (L : List SEl) : offA L L.length = (scr L).length := by simp [offA]
theorem offA_le (L : List SEl) (j : Nat) : offA L j ≤ (scr L).length := by
  have e : scr L = scr (L.take j) ++ scr (L.drop j) := by
    unfold scr
    rw [← Cl.script_app, ← List.map_append, List.take_append_drop]
  unfold offA
  conv => rhs; rw [e]
  simp
def GoodS (L : List SEl) : Prop := ∀ s ∈ L, Cl.Good (sPair s)
theorem GoodS.map {L : List SEl} (h : GoodS L) : ∀ s ∈ L.map sPair, Cl.Good s := by
  intro s hs
  obtain ⟨x, hx, rfl⟩ := List.mem_map.1 hs
  exact h x hx
theorem GoodS.take {L : List SEl} (h : GoodS L) (k : Nat) : GoodS (L.take k) := fun s hs => h s (List.mem_of_mem_take hs)
theorem steps_all {L : List SEl} (h : GoodS L) : Cl.steps (scr L) = (L.map sPair, 0, 0) := Cl.steps_script _ h.map
/-- Cut where a step begins. -/
theorem steps_at {L : List SEl} (h : GoodS L) {k : Nat} (hk : k < L.length) : Cl.steps ((scr L).take (offA L k)) = ((L.take k).map sPair, 0, 0) := by
  have e : scr L = scr (L.take k) ++ scr (L.drop k) := by
    unfold scr
    rw [← Cl.script_app, ← List.map_append, List.take_append_drop]
  have e2 : (scr L).take (offA L k) = scr (L.take k) := by
    rw [e]
    unfold offA
    rw [List.take_append_of_le_length (Nat.le_refl _), List.take_length]
  rw [e2]
  exact Cl.steps_script _ (h.take k).map
/-- Cut within a step. -/
theorem steps_in {L : List SEl} (h : GoodS L) {k cut : Nat} {s : SEl} (hs : L[k]? = some s) (h1 : offA L k < cut) (h2 : cut < offA L (k + 1)) : Cl.steps ((scr L).take cut) = ([], 24, offA L k) := by
  have h3 := offA_succ hs
  have e2 : (scr L).take cut = scr (L.take k) ++ UInt8.ofNat s.p :: (Cl.form s.q).take (cut - offA L k - 1) := by
    rw [scr_split hs, List.append_assoc]
    have hl : (scr (L.take k)).length = offA L k := rfl
    rw [List.take_append, hl, List.take_of_length_le (by omega)]
    congr 1
    rw [List.cons_append, show cut - offA L k = (cut - offA L k - 1) + 1 from by omega, List.take_succ_cons]
    rw [List.take_append_of_le_length (by omega)]
    rfl
  rw [e2]
  have := Cl.steps_cut ((L.take k).map sPair) (h.take k).map (sPair s) (h s (List.mem_of_getElem? hs)) (cut - offA L k - 1) (by show _ < (Cl.form s.q).length; omega)
  exact this
theorem rowOf_take (L : List SEl) (k : Nat) (hk : k ≤ L.length) : (rowOf L).take (k * 11) = rowOf (L.take k) := by
  conv => lhs; rw [← List.take_append_drop k L, rowOf_app]
  have hl : (rowOf (L.take k)).length = k * 11 := by rw [rowOf_len, List.length_take, Nat.min_eq_left hk]
  rw [List.take_append_of_le_length (by omega), List.take_of_length_le (by omega)]
theorem Rd.cutRow {w : World} {B k c : Nat} {A : Option Addr} {L : List SEl} (h : Rd w B 11 A L.length (rowOf L)) (hk : k ≤ L.length) : Rd w B 11 A (L.take k).length (rowOf (L.take k)) := by
  have hl := h.1
  refine ⟨rowOf_len _, ?_⟩
  rcases h.2 with h0 | ⟨b, off, e, hb, hc⟩
  · refine .inl ?_
    rw [← rowOf_take L k hk, h0]
    simp
  · refine .inr ⟨b, off, e, hb, fun j u hu => hc j u ?_⟩
    rw [← rowOf_take L k hk] at hu
    by_cases hj : j < k * 11
    · rwa [List.getElem?_take_of_lt hj] at hu
    · rw [List.getElem?_take_eq_none (by omega)] at hu
      cases hu
end Go.Proofs.Ytphbkjdheopmhaa
namespace Go.Proofs.Ytphbkjdheopmhaa
set_option linter.unusedVariables false
set_option linter.unusedSimpArgs false
open Go.RowKit

/-- The bytes that Form answers. -/
def Cl.formE (q : Cl.C) : List UInt8 := if Cl.check q = 0 then Cl.form q else []
theorem form_own (q : Cl.C) (x y z : Sl) (B : Nat) (w : World) (hq : ClOk w B q x y z) (hB : B ≤ w.heap.size) (hf : ClFit q) :
    Calls Try.prog 16 #[.agg (clCells q x y z)] w fun e w' => ∃ A' c', e = .returned (.tuple #[.slice A' (Cl.formE q).length c', .int .i64 (Cl.check q)]) ∧ w'.ownsRow w.heap.size 5 1 (.slice A' (Cl.formE q).length c') (Cl.formE q).length (bys (Cl.formE q)) ∧ Below w.heap.size w w' := by
  unfold Cl.formE
  by_cases hc : Cl.check q = 0
  · rw [if_pos hc, hc]
    exact callForm_good q x y z B w hq hB hf hc
  · rw [if_neg hc]
    exact (callForm_bad q x y z B w hq hB hf hc).mono fun e w' ⟨h1, h2⟩ => ⟨none, 0, h1, World.ownsRow_nil _ _ _ _, h2⟩
theorem rform_own (q : Cl.C) (x y z : Sl) (B : Nat) (w : World) (hq : ClOk w B q x y z) (hB : B ≤ w.heap.size) (hf : ClFit q) (hp : q.path.size ≤ 4294967296) :
    Calls Try.prog 17 #[.agg (clCells q x y z)] w fun e w' => ∃ A' c', e = .returned (.tuple #[.slice A' (Cl.formE q).length c', .int .i64 (Cl.check q)]) ∧ w'.ownsRow w.heap.size 5 1 (.slice A' (Cl.formE q).length c') (Cl.formE q).length (bys (Cl.formE q)) ∧ Below w.heap.size w w' := by
  unfold Cl.formE
  by_cases hc : Cl.check q = 0
  · rw [if_pos hc, hc]
    exact rForm_good q x y z B w hq hB hf hc
  · rw [if_neg hc]
    exact (rForm_bad q x y z B w hq hB hf hp hc).mono fun e w' ⟨h1, h2⟩ => ⟨none, 0, h1, World.ownsRow_nil _ _ _ _, h2⟩
theorem formE_len (q : Cl.C) : (Cl.formE q).length ≤ 100000 := by
  unfold Cl.formE
  split
  · rename_i hc
    have hs := Cl.check_small hc
    have h1 := flds_len hs (Cl.fsN q.kind)
    have h2 : (Cl.fsN q.kind).length ≤ 9 := by unfold Cl.fsN; split <;> decide
    simp only [Cl.form, List.length_cons]
    omega
  · simp
end Go.Proofs.Ytphbkjdheopmhaa
namespace Go.Proofs.Ytphbkjdheopmhaa
set_option linter.unusedVariables false
set_option linter.unusedSimpArgs false
open Go.RowKit

theorem sameB_self (q : Cl.C) : sameB q q = true := by simp [sameB]
/-- The cells of one step of a row. -/
theorem row_cells {w : World} {B : Nat} {A : Option Addr} {n : Nat} {L : List SEl} {k : Nat} {s : SEl} (h : Rd w B 11 A n (rowOf L)) (hk : L[k]? = some s) : ∃ g o, A = some ⟨g, o, none⟩ ∧ g < B ∧ ∀ j u, (sCells s)[j]? = some u → w.cell? ⟨g, o + k * 11 + j, none⟩ = some u := by
  have hne : rowOf L ≠ [] := by
    intro e
    have h1 := rowOf_len L
    rw [e] at h1
    have h2 := (List.getElem?_eq_some_iff.1 hk).1
    simp at h1
    omega
  obtain ⟨g, o, hA, hg, hc⟩ := h.open_ hne
  refine ⟨g, o, hA, hg, fun j u hj => ?_⟩
  rw [Nat.add_assoc]
  refine hc _ _ ?_
  have e : L = L.take k ++ s :: L.drop (k + 1) := by
    have hlt := (List.getElem?_eq_some_iff.1 hk).1
    rw [← (List.getElem?_eq_some_iff.1 hk).2, ← List.drop_eq_getElem_cons hlt, List.take_append_drop]
  have hlt := (List.getElem?_eq_some_iff.1 hk).1
  have hl : (rowOf (L.take k)).length = k * 11 := by rw [rowOf_len, List.length_take]; congr 1; omega
  have hj11 : j < (sCells s).length := (List.getElem?_eq_some_iff.1 hj).1
  conv => lhs; rw [e]
  rw [rowOf_app, List.getElem?_append_right (by omega), hl, Nat.add_sub_cancel_left]
  show (sCells s ++ rowOf (L.drop (k + 1)))[j]? = some u
  rw [List.getElem?_append_left hj11]
  exact hj
def SKeep (g1 o1 g2 o2 k p' : Nat) (q' : Cl.C) (x y z x' y' z' : Sl) (w' : World) : Prop := w'.cell? ⟨g1, o1 + k * 11, none⟩ = some (.int .i64 (p' : Nat)) ∧ w'.cell? ⟨g1, o1 + k * 11 + 1, none⟩ = some (.int .u8 q'.kind) ∧ w'.cell? ⟨g1, o1 + k * 11 + 2, none⟩ = some (.int .u64 q'.a) ∧ w'.cell? ⟨g1, o1 + k * 11 + 3, none⟩ = some (.int .u64 q'.b) ∧ w'.cell? ⟨g1, o1 + k * 11 + 4, none⟩ = some (.int .u64 q'.c) ∧ w'.cell? ⟨g1, o1 + k * 11 + 5, none⟩ = some (.int .u64 q'.d) ∧ w'.cell? ⟨g1, o1 + k * 11 + 6, none⟩ = some (.int .u64 q'.e) ∧ w'.cell? ⟨g1, o1 + k * 11 + 7, none⟩ = some (.string q'.path) ∧ w'.cell? ⟨g1, o1 + k * 11 + 8, none⟩ = some (.slice x.A x.n x.c) ∧ w'.cell? ⟨g1, o1 + k * 11 + 9, none⟩ = some (.slice y.A y.n y.c) ∧ w'.cell? ⟨g1, o1 + k * 11 + 10, none⟩ = some (.slice z.A z.n z.c) ∧ w'.cell? ⟨g2, o2 + k * 11, none⟩ = some (.int .i64 (p' : Nat)) ∧ w'.cell? ⟨g2, o2 + k * 11 + 1, none⟩ = some (.int .u8 q'.kind) ∧ w'.cell? ⟨g2, o2 + k * 11 + 2, none⟩ = some (.int .u64 q'.a) ∧ w'.cell? ⟨g2, o2 + k * 11 + 3, none⟩ = some (.int .u64 q'.b) ∧ w'.cell? ⟨g2, o2 + k * 11 + 4, none⟩ = some (.int .u64 q'.c) ∧ w'.cell? ⟨g2, o2 + k * 11 + 5, none⟩ = some (.int .u64 q'.d) ∧ w'.cell? ⟨g2, o2 + k * 11 + 6, none⟩ = some (.int .u64 q'.e) ∧ w'.cell? ⟨g2, o2 + k * 11 + 7, none⟩ = some (.string q'.path) ∧ w'.cell? ⟨g2, o2 + k * 11 + 8, none⟩ = some (.slice x'.A x'.n x'.c) ∧ w'.cell? ⟨g2, o2 + k * 11 + 9, none⟩ = some (.slice y'.A y'.n y'.c) ∧ w'.cell? ⟨g2, o2 + k * 11 + 10, none⟩ = some (.slice z'.A z'.n z'.c)
theorem SKeep.below {g1 o1 g2 o2 k p' B : Nat} {q' : Cl.C} {x y z x' y' z' : Sl} {w w2 : World} (h : SKeep g1 o1 g2 o2 k p' q' x y z x' y' z' w) (hb : Below B w w2) (h1 : g1 < B) (h2 : g2 < B) : SKeep g1 o1 g2 o2 k p' q' x y z x' y' z' w2 := by
  obtain ⟨a0, a1, a2, a3, a4, a5, a6, a7, a8, a9, a10, b0, b1, b2, b3, b4, b5, b6, b7, b8, b9, b10⟩ := h
  exact ⟨(hb.cell (p := ⟨g1, _, none⟩) h1).trans a0, (hb.cell (p := ⟨g1, _, none⟩) h1).trans a1, (hb.cell (p := ⟨g1, _, none⟩) h1).trans a2, (hb.cell (p := ⟨g1, _, none⟩) h1).trans a3, (hb.cell (p := ⟨g1, _, none⟩) h1).trans a4, (hb.cell (p := ⟨g1, _, none⟩) h1).trans a5, (hb.cell (p := ⟨g1, _, none⟩) h1).trans a6, (hb.cell (p := ⟨g1, _, none⟩) h1).trans a7, (hb.cell (p := ⟨g1, _, none⟩) h1).trans a8, (hb.cell (p := ⟨g1, _, none⟩) h1).trans a9, (hb.cell (p := ⟨g1, _, none⟩) h1).trans a10, (hb.cell (p := ⟨g2, _, none⟩) h2).trans b0, (hb.cell (p := ⟨g2, _, none⟩) h2).trans b1, (hb.cell (p := ⟨g2, _, none⟩) h2).trans b2, (hb.cell (p := ⟨g2, _, none⟩) h2).trans b3, (hb.cell (p := ⟨g2, _, none⟩) h2).trans b4, (hb.cell (p := ⟨g2, _, none⟩) h2).trans b5, (hb.cell (p := ⟨g2, _, none⟩) h2).trans b6, (hb.cell (p := ⟨g2, _, none⟩) h2).trans b7, (hb.cell (p := ⟨g2, _, none⟩) h2).trans b8, (hb.cell (p := ⟨g2, _, none⟩) h2).trans b9, (hb.cell (p := ⟨g2, _, none⟩) h2).trans b10⟩
set_option maxRecDepth 100000 in
set_option maxHeartbeats 4000000 in
theorem eq_yes (A A' : Option Addr) (c c' B : Nat) (L L' : List SEl) (w : World) (hB : B ≤ w.heap.size) (ha : Rd w B 11 A L.length (rowOf L)) (hb : Rd w B 11 A' L'.length (rowOf L')) (hp : L.map sPair = L'.map sPair) (hn : L.length ≤ 4294967296)
    (h1 : ∀ s ∈ L, ClOk w B s.q s.x s.y s.z ∧ ClFit s.q ∧ s.p < 256) (h2 : ∀ s ∈ L', ClOk w B s.q s.x s.y s.z) :
    Calls Try.prog 26 #[.slice A L.length c, .slice A' L'.length c'] w fun e w' => e = .returned (.bool true) ∧ Below w.heap.size w w' := by
  have hlen : L'.length = L.length := by have := congrArg List.length hp; simpa using this.symm
  rw [hlen] at hb ⊢
  obtain ⟨n, hnn⟩ : ∃ n, L.length = n := ⟨_, rfl⟩
  rw [hnn] at ha hb hn ⊢
  have Ha := hide ha
  have Hb := hide hb
  have Hp := hide hp
  have H1 := hide h1
  have H2 := hide h2
  have Hn := hide (And.intro hnn (hlen.trans hnn))
  clear ha hb hp h1 h2 hlen hnn
  go_enter Try.func26, Try.ntmps26
  go_wp2_with fail
  go_loopg [5] n (fun gk i wr => ∃ k : Nat, gk = n - k ∧ k ≤ n ∧ i = .int .i64 k ∧ Below w.heap.size w wr)
  case atStart => exact ⟨0, by omega, by omega, rfl, Below.refl _ _⟩
  case round =>
  obtain ⟨k, hgk, hk, rfl, hbr⟩ := hrel
  have Hgk := hide hgk
  have Hbr := hide hbr
  have hsz := hbr.size
  clear hgk hbr
  rcases Nat.lt_or_ge k n with hlt | hge
  case inr =>
    obtain rfl : k = n := by omega
    go_wp2_with fail
    go_ret
    exact ⟨rfl, unhide Hbr⟩
  obtain ⟨s, hs⟩ : ∃ s, L[k]? = some s := ⟨_, List.getElem?_eq_getElem (by rw [(unhide Hn).1]; exact hlt)⟩
  obtain ⟨s', hs'⟩ : ∃ s', L'[k]? = some s' := ⟨_, List.getElem?_eq_getElem (by rw [(unhide Hn).2]; exact hlt)⟩
  have hpp : sPair s = sPair s' := by
    have e1 : (L.map sPair)[k]? = some (sPair s) := by simp [hs]
    have e2 : (L'.map sPair)[k]? = some (sPair s') := by simp [hs']
    rw [unhide Hp, e2] at e1
    injection e1 with e1
    exact e1.symm
  have epid : s'.p = s.p := (congrArg Prod.fst hpp).symm
  have eq' : s'.q = s.q := (congrArg Prod.snd hpp).symm
  obtain ⟨g1, o1, rfl, hg1, hc1⟩ := row_cells ((unhide Ha).below ((unhide Hbr).mono hB)) hs
  obtain ⟨g2, o2, rfl, hg2, hc2⟩ := row_cells ((unhide Hb).below ((unhide Hbr).mono hB)) hs'
  have hm1 := (unhide H1) s (List.mem_of_getElem? hs)
  have hm2 := (unhide H2) s' (List.mem_of_getElem? hs')
  rw [eq'] at hm2
  obtain ⟨p', q', x', y', z'⟩ := s'
  obtain ⟨p, q, x, y, z⟩ := s
  simp only at epid eq' hm1 hm2
  subst epid eq'
  have a0 := hc1 0 _ rfl; have a1 := hc1 1 _ rfl; have a2 := hc1 2 _ rfl; have a3 := hc1 3 _ rfl; have a4 := hc1 4 _ rfl; have a5 := hc1 5 _ rfl; have a6 := hc1 6 _ rfl; have a7 := hc1 7 _ rfl; have a8 := hc1 8 _ rfl; have a9 := hc1 9 _ rfl; have a10 := hc1 10 _ rfl
  have b0 := hc2 0 _ rfl; have b1 := hc2 1 _ rfl; have b2 := hc2 2 _ rfl; have b3 := hc2 3 _ rfl; have b4 := hc2 4 _ rfl; have b5 := hc2 5 _ rfl; have b6 := hc2 6 _ rfl; have b7 := hc2 7 _ rfl; have b8 := hc2 8 _ rfl; have b9 := hc2 9 _ rfl; have b10 := hc2 10 _ rfl
  have K := fun j => same_any q' q' x y z x' y' z' B (wr.drewN j) ((hm1.1.below ((unhide Hbr).mono hB)).drewN j) ((hm2.below ((unhide Hbr).mono hB)).drewN j) (by show B ≤ wr.heap.size; omega) hm1.2.1 hm1.2.1
  rw [sameB_self] at K
  replace K := hide K
  have hp8 := hm1.2.2
  have hpe : (((p' : Nat) : Int) != ((p' : Nat) : Int)) = false := by simp
  clear hc1 hc2 hm1 hm2 hs hs' hpp Ha Hb Hp
  rw [Nat.add_zero] at a0 b0
  have hkn : (k : Int) < (n : Int) := by omega
  have hg1' : g1 < wr.heap.size := by omega
  have hg2' : g2 < wr.heap.size := by omega
  have hS : SKeep g1 o1 g2 o2 k p' q' x y z x' y' z' wr := ⟨a0, a1, a2, a3, a4, a5, a6, a7, a8, a9, a10, b0, b1, b2, b3, b4, b5, b6, b7, b8, b9, b10⟩
  have HS := hide hS
  have hck : (1 : Nat) = 1 := rfl
  clear hS
  go_wp2_with fail
  go_region_held3 (fun w' => w'.cell? ⟨g1, o1 + k * 11, none⟩ = some (.int .i64 (p' : Nat)) ∧ w'.cell? ⟨g1, o1 + k * 11 + 1, none⟩ = some (.int .u8 q'.kind) ∧ w'.cell? ⟨g1, o1 + k * 11 + 2, none⟩ = some (.int .u64 q'.a) ∧ w'.cell? ⟨g1, o1 + k * 11 + 3, none⟩ = some (.int .u64 q'.b) ∧ w'.cell? ⟨g1, o1 + k * 11 + 4, none⟩ = some (.int .u64 q'.c) ∧ w'.cell? ⟨g1, o1 + k * 11 + 5, none⟩ = some (.int .u64 q'.d) ∧ w'.cell? ⟨g1, o1 + k * 11 + 6, none⟩ = some (.int .u64 q'.e) ∧ w'.cell? ⟨g1, o1 + k * 11 + 7, none⟩ = some (.string q'.path) ∧ w'.cell? ⟨g1, o1 + k * 11 + 8, none⟩ = some (.slice x.A x.n x.c) ∧ w'.cell? ⟨g1, o1 + k * 11 + 9, none⟩ = some (.slice y.A y.n y.c) ∧ w'.cell? ⟨g1, o1 + k * 11 + 10, none⟩ = some (.slice z.A z.n z.c) ∧ w'.cell? ⟨g2, o2 + k * 11, none⟩ = some (.int .i64 (p' : Nat)) ∧ w'.cell? ⟨g2, o2 + k * 11 + 1, none⟩ = some (.int .u8 q'.kind) ∧ w'.cell? ⟨g2, o2 + k * 11 + 2, none⟩ = some (.int .u64 q'.a) ∧ w'.cell? ⟨g2, o2 + k * 11 + 3, none⟩ = some (.int .u64 q'.b) ∧ w'.cell? ⟨g2, o2 + k * 11 + 4, none⟩ = some (.int .u64 q'.c) ∧ w'.cell? ⟨g2, o2 + k * 11 + 5, none⟩ = some (.int .u64 q'.d) ∧ w'.cell? ⟨g2, o2 + k * 11 + 6, none⟩ = some (.int .u64 q'.e) ∧ w'.cell? ⟨g2, o2 + k * 11 + 7, none⟩ = some (.string q'.path) ∧ w'.cell? ⟨g2, o2 + k * 11 + 8, none⟩ = some (.slice x'.A x'.n x'.c) ∧ w'.cell? ⟨g2, o2 + k * 11 + 9, none⟩ = some (.slice y'.A y'.n y'.c) ∧ w'.cell? ⟨g2, o2 + k * 11 + 10, none⟩ = some (.slice z'.A z'.n z'.c)) (first | exact ⟨a0, a1, a2, a3, a4, a5, a6, a7, a8, a9, a10, b0, b1, b2, b3, b4, b5, b6, b7, b8, b9, b10⟩ | exact ⟨d0, d1, d2, d3, d4, d5, d6, d7, d8, d9, d10, d11, d12, d13, d14, d15, d16, d17, d18, d19, d20, d21⟩) (first | (go_at_call 15; refine ((unhide K) 1).mono ?_; rintro e w2 ⟨rfl, hb2⟩; have hS2 := (unhide HS).below (below_undrew hb2) hg1' hg2'; obtain ⟨d0, d1, d2, d3, d4, d5, d6, d7, d8, d9, d10, d11, d12, d13, d14, d15, d16, d17, d18, d19, d20, d21⟩ := hS2; have Hb2 := hide (below_undrew hb2)))
  have Hb3 := hide ((unhide Hbr).trans ((unhide Hb2).mono (show w.heap.size ≤ wr.heap.size by omega)))
  clear d0 d1 d2 d3 d4 d5 d6 d7 d8 d9 d10 d11 d12 d13 d14 d15 d16 d17 d18 d19 d20 d21 a0 b0 a1 b1 a2 b2 a3 b3 a4 b4 a5 b5 a6 b6 a7 b7 a8 b8 a9 b9 a10 b10 Hb2 HS K
  go_wp2_with fail
  go_roundg (n - (k + 1))
  case measure => have := unhide Hgk; omega
  case rel => exact ⟨k + 1, rfl, by omega, by go_num, unhide Hb3⟩

theorem srow_ok {w : World} {base : Nat} {A : Option Addr} {c : Nat} {L : List SEl} (h : SRow w base A c L) : ∀ s ∈ L, ClOk w w.heap.size s.q s.x s.y s.z := fun s hs => (h.all s hs).ok
end Go.Proofs.Ytphbkjdheopmhaa
namespace Go.Proofs.Ytphbkjdheopmhaa
set_option linter.unusedVariables false
set_option linter.unusedSimpArgs false
open Go.RowKit

theorem intTy : SlTy Try.prog 47 3 1 8 := slTy_mk (z := .int .i64 0) Try.underlying47 (by kernel_rfl) rfl (by omega) (by omega)
/-- What holds of the steps that were taken. -/
structure LOk (w : World) (s : SEl) : Prop where
  ok : ClOk w w.heap.size s.q s.x s.y s.z
  fit : ClFit s.q
  p : s.p < 256
  ck : Cl.check s.q = 0
theorem LOk.good {w : World} {s : SEl} (h : LOk w s) : Cl.Good (sPair s) := ⟨h.p, h.ck, ⟨h.fit.a, h.fit.b, h.fit.c, h.fit.d, h.fit.e⟩⟩
/-- Where the loop stands. -/
structure ScS (w wr : World) (k : Nat) (L : List SEl) (Ab : Option Addr) (cb : Nat) (Ai : Option Addr) (ci : Nat) (Aw : Option Addr) (cw : Nat) : Prop where
  tri : Tri w wr (.slice Ab (scr L).length cb) (scr L).length (bys (scr L)) (.slice Ai L.length ci) L.length (offs L) (.slice Aw L.length cw) L.length (rowOf L)
  all : ∀ s ∈ L, LOk w s
  len : L.length ≤ k
  few : (scr L).length ≤ 65537
theorem ScS.good {w wr : World} {k : Nat} {L : List SEl} {Ab Ai Aw : Option Addr} {cb ci cw : Nat} (h : ScS w wr k L Ab cb Ai ci Aw cw) : GoodS L := fun s hs => (h.all s hs).good
theorem ScS.below {w wr w' : World} {k k' : Nat} {L : List SEl} {Ab Ai Aw : Option Addr} {cb ci cw : Nat} (h : ScS w wr k L Ab cb Ai ci Aw cw) (hb : Below wr.heap.size wr w') (hk : k ≤ k') : ScS w w' k' L Ab cb Ai ci Aw cw := ⟨h.tri.below hb, h.all, Nat.le_trans h.len hk, h.few⟩
theorem ScS.next {w wr w6 : World} {k m : Nat} {L : List SEl} {Ab Ai Aw A5 A3 A6 : Option Addr} {cb ci cw c5 c3 c6 : Nat} {F : List UInt8} (h : ScS w wr k L Ab cb Ai ci Aw cw) (s : SEl) (hs : LOk w s) (hm : (scr L).length = m) (hF : Cl.form s.q = F) (hfew : m + F.length ≤ 65536)
    (ht : Tri w w6 (.slice A5 (m + 1 + F.length) c5) (m + 1 + F.length) (bys (scr L) ++ [.int .u8 (s.p : Nat)] ++ bys F) (.slice A3 (L.length + 1) c3) (L.length + 1) (offs L ++ [.int .i64 (m : Nat)]) (.slice A6 (L.length + 1) c6) (L.length + 1) (rowOf L ++ sCells s)) :
    ScS w w6 (k + 1) (L ++ [s]) A5 c5 A3 c3 A6 c6 ∧ (scr (L ++ [s])).length = m + 1 + F.length := by
  subst hm hF
  have e1 : (scr (L ++ [s])).length = (scr L).length + 1 + (Cl.form s.q).length := by rw [scr_snoc]; simp; omega
  have e2 : bys (scr (L ++ [s])) = bys (scr L) ++ [.int .u8 (s.p : Nat)] ++ bys (Cl.form s.q) := by
    have hp := hs.p
    have hpb : ((UInt8.ofNat s.p).toNat : Nat) = s.p := by simp; omega
    rw [scr_snoc, bys_app]
    simp only [bys, List.map_cons, List.append_assoc, List.cons_append, List.nil_append]
    rw [hpb]
  have e3 : rowOf (L ++ [s]) = rowOf L ++ sCells s := by rw [rowOf_app]; simp [rowOf]
  refine ⟨⟨?_, fun x hx => ?_, by simp; exact h.len, by rw [e1]; omega⟩, e1⟩
  · rw [e1, e2, offs_snoc, e3, List.length_append, List.length_singleton]
    exact ht
  · rcases List.mem_append.1 hx with h1 | h1
    · exact h.all x h1
    · obtain rfl := List.mem_singleton.1 h1
      exact hs

set_option maxRecDepth 100000 in
set_option maxHeartbeats 8000000 in
theorem callsScript_walk (A : Option Addr) (n c : Nat) (LA : List AEl) (cut : Int) (w : World) (hl : Rd w w.heap.size 11 A n (rowA LA)) (hn : LA.length = n) (hok : ∀ s ∈ LA, AOk w w.heap.size s) (hc1 : -9223372036854775808 ≤ cut) (hc2 : cut ≤ 9223372036854775807) (hm : n ≤ maxLen) :
    Calls Try.prog 9 #[.slice A n c, .int .i64 cut] w fun e w' => e = .returned (.bool true) ∧ Below w.heap.size w w' := by
  have KW := hide works_any
  unfold maxLen at hm
  by_cases hbig : 100 < n
  · have hbig' : (100 : Int) < (n : Int) := by omega
    clear hl hn hok
    go_enter Try.func9, Try.ntmps9
    go_wp2_with (go_at_call 11; refine ((unhide KW) _).mono ?_; rintro e w6 ⟨rfl, hb6⟩)
    go_ret
    exact ⟨rfl, hb6⟩
  have hbig' : ¬ (100 : Int) < (n : Int) := by omega
  have Hl := hide hl
  have Hn := hide hn
  have Hok := hide hok
  clear hl hn hok
  go_enter Try.func9, Try.ntmps9
  go_wp2_with fail
  go_loopg [5, 6, 7, 8] n (fun gk bv iv wv av wr => ∃ (k : Nat) (L : List SEl) (Ab : Option Addr) (cb : Nat) (Ai : Option Addr) (ci : Nat) (Aw : Option Addr) (cw : Nat), gk = n - k ∧ k ≤ n ∧ av = .int .i64 k ∧ bv = .slice Ab (scr L).length cb ∧ iv = .slice Ai L.length ci ∧ wv = .slice Aw L.length cw ∧ ScS w wr k L Ab cb Ai ci Aw cw)
  case atStart => exact ⟨0, [], none, 0, none, 0, none, 0, by omega, by omega, rfl, rfl, rfl, rfl, ⟨Tri.start w, fun s hs => absurd hs List.not_mem_nil, Nat.le_refl _, by simp [scr, Cl.script]⟩⟩
  case round =>
  obtain ⟨k, L, Ab, cb, Ai, ci, Aw, cw, hgk, hk, rfl, rfl, rfl, rfl, hS⟩ := hrel
  have Hgk := hide hgk
  have HS := hide hS
  have hszw := hS.tri.bel.size
  have hLk := hS.len
  have hbm := hS.few
  clear hgk hS
  generalize hm' : (scr L).length = m at *
  have Hm := hide hm'
  clear hm'
  rcases Nat.lt_or_ge k n with hlt | hge
  case inl =>
    obtain ⟨s, hs⟩ : ∃ s, LA[k]? = some s := ⟨_, List.getElem?_eq_getElem (by rw [unhide Hn]; exact hlt)⟩
    obtain ⟨ab, ao, rfl, hab, hcw⟩ := rowA_cells (unhide Hl) hs
    have hsk := (unhide Hok) s (List.mem_of_getElem? hs)
    obtain ⟨p, q, x, y, z⟩ := s
    obtain ⟨hqo, hqf, hp1, hp2⟩ := hsk
    simp only at hqo hqf hp1 hp2
    have hc0 := fun j u h => ((unhide HS).tri.bel.cell (p := ⟨ab, ao + k * 11 + j, none⟩) hab).trans (hcw j u h)
    have a0 := hc0 0 _ rfl; have a1 := hc0 1 _ rfl; have a2 := hc0 2 _ rfl; have a3 := hc0 3 _ rfl; have a4 := hc0 4 _ rfl; have a5 := hc0 5 _ rfl; have a6 := hc0 6 _ rfl; have a7 := hc0 7 _ rfl; have a8 := hc0 8 _ rfl; have a9 := hc0 9 _ rfl; have a10 := hc0 10 _ rfl
    rw [Nat.add_zero] at a0
    have KL := hide (Large_any q x y z w.heap.size wr (hqo.below (unhide HS).tri.bel) hszw hqf)
    have Hcw := hide hcw
    have Hqo := hide hqo
    have Hqf := hide hqf
    clear hcw hc0 hs hqo hqf
    go_wp2_with fail
    refine (unhide KL).mono ?_
    rintro e w1 ⟨r, rfl, hb1, hr⟩
    have HS1 := hide ((unhide HS).below hb1 (Nat.le_succ k))
    have b0 := (hb1.cell (p := ⟨ab, ao + k * 11, none⟩) (by show ab < _; omega)).trans a0
    have hs1 := hb1.size
    have Hr := hide hr
    clear hb1 hr KL a0 a1 a2 a3 a4 a5 a6 a7 a8 a9 a10
    cases r
    case true =>
      go_wp2_with fail
      go_roundg (n - (k + 1))
      case measure => have := unhide Hgk; omega
      case rel => exact ⟨k + 1, L, Ab, cb, Ai, ci, Aw, cw, rfl, by omega, by go_num, by rw [unhide Hm], rfl, rfl, unhide HS1⟩
    by_cases hp0 : p < 0
    · clear b0
      have b0 := ((unhide HS1).tri.bel.cell (p := ⟨ab, ao + k * 11 + 0, none⟩) hab).trans ((unhide Hcw) 0 _ rfl)
      rw [Nat.add_zero] at b0
      go_wp2_with fail
      go_roundg (n - (k + 1))
      case measure => have := unhide Hgk; omega
      case rel => exact ⟨k + 1, L, Ab, cb, Ai, ci, Aw, cw, rfl, by omega, by go_num, by rw [unhide Hm], rfl, rfl, unhide HS1⟩
    by_cases hp255 : 255 < p
    · go_wp2_with fail
      go_roundg (n - (k + 1))
      case measure => have := unhide Hgk; omega
      case rel => exact ⟨k + 1, L, Ab, cb, Ai, ci, Aw, cw, rfl, by omega, by go_num, by rw [unhide Hm], rfl, rfl, unhide HS1⟩
    obtain ⟨pn, rfl⟩ : ∃ pn : Nat, p = pn := ⟨p.toNat, by omega⟩
    have K2 := form_own q x y z w.heap.size w1 ((unhide Hqo).below (unhide HS1).tri.bel) (by omega) (unhide Hqf)
    obtain ⟨ev, hev⟩ : ∃ ev, Cl.check q = ev := ⟨_, rfl⟩
    obtain ⟨F, hF⟩ : ∃ F, Cl.formE q = F := ⟨_, rfl⟩
    rw [hev, hF] at K2
    replace K2 := hide K2
    have hFl := formE_len q
    rw [hF] at hFl
    have Hev := hide hev
    have HF := hide hF
    clear hev hF b0
    have hc1' := fun j u h => ((unhide HS1).tri.bel.cell (p := ⟨ab, ao + k * 11 + j, none⟩) hab).trans ((unhide Hcw) j u h)
    have a0 := hc1' 0 _ rfl; have a1 := hc1' 1 _ rfl; have a2 := hc1' 2 _ rfl; have a3 := hc1' 3 _ rfl; have a4 := hc1' 4 _ rfl; have a5 := hc1' 5 _ rfl; have a6 := hc1' 6 _ rfl; have a7 := hc1' 7 _ rfl; have a8 := hc1' 8 _ rfl; have a9 := hc1' 9 _ rfl; have a10 := hc1' 10 _ rfl
    rw [Nat.add_zero] at a0
    clear hc1'
    go_wp2_with fail
    refine (unhide K2).mono ?_
    rintro e w2 ⟨A2, c2, rfl, ho2, hb2⟩
    have HS2 := hide ((unhide HS1).below hb2 (Nat.le_refl _))
    have hs2 := hb2.size
    have Ho2 := hide ho2
    clear ho2 hb2 K2 a0 a1 a2 a3 a4 a5 a6 a7 a8 a9 a10
    by_cases hev0 : ev = 0
    case neg =>
      have he1 : (ev != 0) = true := by simpa using hev0
      clear hev0
      go_wp2_with fail
      go_roundg (n - (k + 1))
      case measure => have := unhide Hgk; omega
      case rel => exact ⟨k + 1, L, Ab, cb, Ai, ci, Aw, cw, rfl, by omega, by go_num, by rw [unhide Hm], rfl, rfl, unhide HS2⟩
    subst hev0
    by_cases hbg : 65536 < m + F.length
    · have hbg' : (65536 : Int) < (m : Int) + (F.length : Int) := by omega
      go_wp2_with fail
      go_roundg (n - (k + 1))
      case measure => have := unhide Hgk; omega
      case rel => exact ⟨k + 1, L, Ab, cb, Ai, ci, Aw, cw, rfl, by omega, by go_num, by rw [unhide Hm], rfl, rfl, unhide HS2⟩
    have hbg' : ¬ (65536 : Int) < (m : Int) + (F.length : Int) := by omega
    have hT2 := (unhide HS2).tri
    rw [unhide Hm] at hT2
    have HT2 := hide hT2
    have hi1 : ∀ g, (Value.slice Ai L.length ci).ownBlock = some g → g < w1.heap.size := by
      have h := (unhide HS1).tri.i.lt
      exact fun g hg => (h g hg).2
    have hb1 : ∀ g, (Value.slice Ab m cb).ownBlock = some g → g < w1.heap.size := by
      have h := (unhide HS1).tri.b.lt
      rw [unhide Hm] at h
      exact fun g hg => (h g hg).2
    have Hi1 := hide hi1
    have Hb1 := hide hb1
    clear hT2 hi1 hb1 hbg
    have hszw2 : w.heap.size ≤ w2.heap.size := by omega
    have hpb : ((UInt8.ofNat pn).toNat : Nat) = pn := by simp; omega
    have Hpb := hide hpb
    clear hpb
    have b0 := ((unhide HS2).tri.bel.cell (p := ⟨ab, ao + k * 11 + 0, none⟩) hab).trans ((unhide Hcw) 0 _ rfl)
    rw [Nat.add_zero] at b0
    go_wp2_with (first
      | (at_builtin; (with_reducible refine (@id (wpList _ _ _ _ _ (World.alloc w2 _)) ?_)); refine wpList_app1g intTy rfl _ _ rfl w.heap.size (.slice Ai L.length ci) L.length (offs L) rfl (unhide HT2).i _ w2.heap.size rfl rfl rfl (by simp [Value.oneCell']) (by omega) hszw2 ?_; intro A3 c3 w3 ho3 hg3 hat3; have HT3 := hide ((unhide HT2).put_i hg3 ho3 hat3); have Hx3 := hide (own_grown (unhide Ho2) hg3 (fun g hg e => by have h1 := ((unhide Ho2).lt g hg).1; have h2 := (unhide Hi1) g e; omega)); have hszw3 : w.heap.size ≤ w3.heap.size := (unhide HT3).bel.size; have b1 := ((unhide HT3).bel.cell (p := ⟨ab, ao + k * 11 + 0, none⟩) hab).trans ((unhide Hcw) 0 _ rfl); rw [Nat.add_zero] at b1; clear ho3 hg3 hat3 b0)
      | (at_builtin; (with_reducible refine (@id (wpList _ _ _ _ _ (World.alloc w3 _)) ?_)); refine wpList_app1g byteTy rfl _ _ rfl w.heap.size (.slice Ab m cb) m (bys (scr L)) rfl (unhide HT3).b _ w3.heap.size rfl rfl rfl (by simp [Value.oneCell']) (by omega) hszw3 ?_; intro A4 c4 w4 ho4 hg4 hat4; have HT4 := hide ((unhide HT3).put_b hg4 ho4 hat4); have Hx4 := hide (own_grown (unhide Hx3) hg4 (fun g hg e => by have h1 := ((unhide Hx3).lt g hg).1; have h2 := (unhide Hb1) g e; omega)); have hszw4 : w.heap.size ≤ w4.heap.size := (unhide HT4).bel.size; clear ho4 hg4 hat4 b1)
      | (at_builtin; (with_reducible refine (@id (wpList _ _ _ _ _ w4) ?_)); refine wpList_app byteTy rfl _ _ rfl w.heap.size (.slice A4 (m + 1) c4) (m + 1) _ rfl (unhide HT4).b w4.heap.size A2 F.length c2 (bys F) rfl (Rd.of_own (unhide Hx4)) (bys_one _) (by omega) hszw4 ?_; intro A5 c5 w5 ho5 hg5 hat5; have HT5 := hide ((unhide HT4).put_b hg5 ho5 hat5); have hszw5 : w.heap.size ≤ w5.heap.size := (unhide HT5).bel.size; have hc5 := fun j u h => ((unhide HT5).bel.cell (p := ⟨ab, ao + k * 11 + j, none⟩) hab).trans ((unhide Hcw) j u h); have a0 := hc5 0 _ rfl; have a1 := hc5 1 _ rfl; have a2 := hc5 2 _ rfl; have a3 := hc5 3 _ rfl; have a4 := hc5 4 _ rfl; have a5 := hc5 5 _ rfl; have a6 := hc5 6 _ rfl; have a7 := hc5 7 _ rfl; have a8 := hc5 8 _ rfl; have a9 := hc5 9 _ rfl; have a10 := hc5 10 _ rfl; rw [Nat.add_zero] at a0; clear hc5 ho5 hg5 hat5)
      | (at_builtin; (with_reducible refine (@id (wpList _ _ _ _ _ (World.alloc w5 _)) ?_)); refine wpList_app1g stepTy rfl _ _ rfl w.heap.size (.slice Aw L.length cw) L.length (rowOf L) rfl (unhide HT5).w_ _ w5.heap.size rfl rfl rfl (by simp [Value.oneCell']) (by omega) hszw5 ?_; intro A6 c6 w6 ho6 hg6 hat6; have HT6 := hide ((unhide HT5).put_w hg6 ho6 hat6); clear ho6 hg6 hat6 a0 a1 a2 a3 a4 a5 a6 a7 a8 a9 a10))
    have hck0 := unhide Hev
    have hFq : Cl.form q = F := by
      have h := unhide HF
      unfold Cl.formE at h
      rwa [if_pos hck0] at h
    obtain ⟨hS6, hlen6⟩ := (unhide HS).next ⟨pn, q, x, y, z⟩ ⟨unhide Hqo, unhide Hqf, by show pn < 256; omega, hck0⟩ (unhide Hm) hFq (by omega) (unhide HT6)
    have HS6 := hide hS6
    have Hlen6 := hide hlen6
    clear hck0 hFq hS6 hlen6
    go_roundg (n - (k + 1))
    case measure => have := unhide Hgk; omega
    case rel => exact ⟨k + 1, L ++ [⟨pn, q, x, y, z⟩], A5, c5, A3, c3, A6, c6, rfl, by omega, by go_num, by rw [unhide Hlen6], by simp, by simp, unhide HS6⟩
  have d1 : decide (k < n) = false := by simp; omega
  have hmb := hbm
  have hgood := (unhide HS).good
  have htri := (unhide HS).tri
  rw [unhide Hm] at htri
  have hmc : m ≤ cb := own_cap htri.b
  have K1 := steps_any Ab m cb wr.heap.size (scr L) wr (Rd.of_own htri.b) (Nat.le_refl _) (by omega) hmc
  rw [steps_all hgood] at K1
  replace K1 := hide K1
  have Hgood := hide hgood
  have Htri := hide htri
  have hL100 : L.length ≤ 100 := by omega
  clear hgood htri hge hk hmb Hgk
  go_wp2_with fail
  refine (unhide K1).mono ?_
  rintro e w1 ⟨L1, A1, c1, rfl, hL1, hrow1, hb1⟩
  have htri1 := (unhide Htri).below hb1
  have hlen1 : L1.length = L.length := by have := congrArg List.length hL1; simpa using this
  have hallL : ∀ s ∈ L, LOk w s := (unhide HS).all
  have hfit1 : ∀ s ∈ L1, ClOk w1 w1.heap.size s.q s.x s.y s.z ∧ ClFit s.q ∧ s.p < 256 := by
    intro s hs
    have h1 : sPair s ∈ L1.map sPair := List.mem_map.2 ⟨s, hs, rfl⟩
    rw [hL1] at h1
    obtain ⟨s2, h2, h3⟩ := List.mem_map.1 h1
    have e1 : s2.p = s.p := congrArg Prod.fst h3
    have e2 : s2.q = s.q := congrArg Prod.snd h3
    refine ⟨srow_ok hrow1 s hs, ?_, ?_⟩
    · rw [← e2]; exact (hallL s2 h2).fit
    · rw [← e1]; exact (hallL s2 h2).p
  have K2 := eq_yes A1 Aw c1 cw w1.heap.size L1 L w1 (Nat.le_refl _) (Rd.of_own hrow1.own) (Rd.of_own htri1.w_) hL1 (by omega) hfit1 (fun s hs => ((hallL s hs).ok.below htri1.bel).more htri1.bel.size)
  replace K2 := hide K2
  have Htri1 := hide htri1
  have HallL := hide hallL
  clear hL1 hrow1 hb1 htri1 hfit1 hallL K1 hlen1
  go_wp2_with fail
  refine (unhide K2).mono ?_
  rintro e w2 ⟨rfl, hb2⟩
  have htri2 := (unhide Htri1).below hb2
  have Htri2 := hide htri2
  clear hb2 K2 htri2
  by_cases hcut : cut < 0
  · go_wp2_with (go_at_call 11; refine ((unhide KW) _).mono ?_; rintro e w6 ⟨rfl, hb6⟩)
    go_ret
    exact ⟨rfl, (unhide Htri2).bel.trans (hb6.mono (unhide Htri2).bel.size)⟩
  obtain ⟨cn, rfl⟩ : ∃ cn : Nat, cut = cn := ⟨cut.toNat, by omega⟩
  by_cases hcut2 : m ≤ cn
  · have hcut3 : (m : Int) ≤ (cn : Int) := by omega
    go_wp2_with (go_at_call 11; refine ((unhide KW) _).mono ?_; rintro e w6 ⟨rfl, hb6⟩)
    go_ret
    exact ⟨rfl, (unhide Htri2).bel.trans (hb6.mono (unhide Htri2).bel.size)⟩
  have hcut3 : ¬ (m : Int) ≤ (cn : Int) := by omega
  have hrd := (Rd.of_own (unhide Htri2).b).cutN (k := cn) (by omega)
  rw [bys_take] at hrd
  have K3 := steps_any Ab cn cb w2.heap.size ((scr L).take cn) w2 hrd (Nat.le_refl _) (by omega) (by omega)
  obtain ⟨st, hst⟩ : ∃ st, Cl.steps ((scr L).take cn) = st := ⟨_, rfl⟩
  rw [hst] at K3
  obtain ⟨l2, e2, n2⟩ := st
  replace K3 := hide K3
  have Hst := hide hst
  clear hrd hst hcut
  go_wp2_with fail
  refine (unhide K3).mono ?_
  rintro e w3 ⟨L2, A2, c2, rfl, hL2, hrow2, hb3⟩
  have htri3 := (unhide Htri2).below hb3
  have Htri3 := hide htri3
  have HL2 := hide hL2
  have Hrow2 := hide hrow2
  simp only
  clear hL2 hrow2 hb3 htri3 K3
  go_wp2_with fail
  go_loopg [14] L.length (fun gk tv wr => ∃ t : Nat, gk = L.length - t ∧ t ≤ L.length ∧ tv = .int .i64 t ∧ (∀ u, u < t → offA L u < cn) ∧ w3 = wr)
  case atStart => exact ⟨0, by omega, by omega, rfl, fun u hu => by omega, rfl⟩
  case round =>
  obtain ⟨t, hgt, ht, rfl, hlow, rfl⟩ := hrel
  have Hgt := hide hgt
  have Hlow := hide hlow
  clear hgt hlow
  have hmL : m = offA L L.length := by rw [offA_all]; exact (unhide Hm).symm
  have HmL := hide hmL
  clear hmL
  rcases Nat.lt_or_ge t L.length with htl | htg
  case inl =>
    obtain ⟨g, hA, hg1, hg2⟩ := own_some (unhide Htri3).i (by omega)
    have hio := (unhide Htri3).i
    rw [hA] at hio
    have z1 := own_cell hio (offs_at htl)
    have hoff : offA L t ≤ 65537 := by
      have h1 := offA_le L t
      rw [unhide Hm] at h1
      omega
    generalize hot : offA L t = ot at *
    have Hot := hide hot
    have HA := hide hA
    rw [hA]
    clear hot hio hA
    by_cases hlt2 : ot < cn
    · have hlt3 : (ot : Int) < (cn : Int) := by omega
      go_wp2_with fail
      rw [← unhide HA]
      go_roundg (L.length - (t + 1))
      case measure => have := unhide Hgt; omega
      case rel => exact ⟨t + 1, rfl, by omega, by go_num, fun u hu => by
        rcases Nat.lt_or_ge u t with h | h
        · exact (unhide Hlow) u h
        · obtain rfl : u = t := by omega
          rw [unhide Hot]; exact hlt2, rfl⟩
    have hlt3 : ¬ (ot : Int) < (cn : Int) := by omega
    by_cases heq : ot = cn
    · subst heq
      have h1 := steps_at (unhide Hgood) htl
      rw [unhide Hot, unhide Hst] at h1
      injection h1 with h1 h2
      injection h2 with h2 h3
      subst h1 h2 h3
      have hlt : (L.take t).length = t := by rw [List.length_take]; omega
      have hl2 : L2.length = t := by have := congrArg List.length (unhide HL2); simp at this; omega
      have hg3 := (unhide Htri3).bel.size
      have hfit2 : ∀ s ∈ L2, ClOk w3 w3.heap.size s.q s.x s.y s.z ∧ ClFit s.q ∧ s.p < 256 := by
        intro s hs
        have h1 : sPair s ∈ L2.map sPair := List.mem_map.2 ⟨s, hs, rfl⟩
        rw [unhide HL2] at h1
        obtain ⟨s2, h2, h3⟩ := List.mem_map.1 h1
        have e1 : s2.p = s.p := congrArg Prod.fst h3
        have e2 : s2.q = s.q := congrArg Prod.snd h3
        have h4 := (unhide HallL) s2 (List.mem_of_mem_take h2)
        refine ⟨srow_ok (unhide Hrow2) s hs, ?_, ?_⟩
        · rw [← e2]; exact h4.fit
        · rw [← e1]; exact h4.p
      have K4 := eq_yes A2 Aw c2 cw w3.heap.size L2 (L.take t) w3 (Nat.le_refl _) (Rd.of_own (unhide Hrow2).own) ((Rd.of_own (unhide Htri3).w_).cutRow (c := cw) (by omega)) (unhide HL2) (by omega) hfit2 (fun s hs => (((unhide HallL) s (List.mem_of_mem_take hs)).ok.below (unhide Htri3).bel).more hg3)
      rw [hlt] at K4
      replace K4 := hide K4
      have hcw : L.length ≤ cw := own_cap (unhide Htri3).w_
      have hself : ((ot : Int) == (ot : Int)) = true := beq_self_eq_true _
      clear hlt hl2 hfit2 hlt3 hlt2
      go_wp2_with fail
      refine (unhide K4).mono ?_
      rintro e w4 ⟨rfl, hb4⟩
      have Hb4 := hide ((unhide Htri3).bel.trans (hb4.mono hg3))
      clear hb4 K4
      go_wp2_with fail
      refine ((unhide KW) _).mono ?_
      rintro e w5 ⟨rfl, hb5⟩
      have Hb5 := hide ((unhide Hb4).trans (hb5.mono (unhide Hb4).size))
      clear hb5
      go_wp2_with fail
      go_ret
      exact ⟨rfl, unhide Hb5⟩
    · have ht0 : t ≠ 0 := by
        rintro rfl
        have h := unhide Hot
        rw [offA_zero] at h
        omega
      obtain ⟨t', rfl⟩ : ∃ t', t = t' + 1 := ⟨t - 1, by omega⟩
      obtain ⟨s', hs'⟩ : ∃ s', L[t']? = some s' := ⟨_, List.getElem?_eq_getElem (by omega)⟩
      have h1 := steps_in (unhide Hgood) hs' ((unhide Hlow) t' (by omega)) (by rw [unhide Hot]; omega)
      rw [unhide Hst] at h1
      injection h1 with h1 h2
      injection h2 with h2 h3
      subst h1 h2 h3
      have hl2 : L2 = [] := by have := unhide HL2; simpa using this
      subst hl2
      have hio := (unhide Htri3).i
      rw [unhide HA] at hio
      have z2 := own_cell hio (offs_at (j := t') (by omega))
      generalize offA L t' = o' at *
      have hself : ((o' : Int) == (o' : Int)) = true := beq_self_eq_true _
      have heq2 : ((ot : Int) == (cn : Int)) = false := by simp; omega
      have e1 : ((t' + 1 : Nat) : Int) - 1 = (t' : Int) := by omega
      clear hio heq hlt2 hs'
      go_wp2_with fail
      refine ((unhide KW) _).mono ?_
      rintro e w5 ⟨rfl, hb5⟩
      have Hb5 := hide ((unhide Htri3).bel.trans (hb5.mono (unhide Htri3).bel.size))
      clear hb5
      go_wp2_with fail
      go_ret
      exact ⟨rfl, unhide Hb5⟩
  obtain rfl : t = L.length := by omega
  have hL0 : L.length ≠ 0 := by
    intro h
    have h2 := unhide HmL
    rw [h, offA_zero] at h2
    omega
  obtain ⟨t', ht'⟩ : ∃ t', L.length = t' + 1 := ⟨L.length - 1, by omega⟩
  obtain ⟨s', hs'⟩ : ∃ s', L[t']? = some s' := ⟨_, List.getElem?_eq_getElem (by omega)⟩
  have h1 := steps_in (unhide Hgood) hs' ((unhide Hlow) t' (by omega)) (by rw [← ht', ← unhide HmL]; omega)
  rw [unhide Hst] at h1
  injection h1 with h1 h2
  injection h2 with h2 h3
  subst h1 h2 h3
  have hl2 : L2 = [] := by have := unhide HL2; simpa using this
  subst hl2
  obtain ⟨g, hA, hg1, hg2⟩ := own_some (unhide Htri3).i (by omega)
  have hio := (unhide Htri3).i
  rw [hA] at hio
  have z2 := own_cell hio (offs_at (j := t') (by omega))
  generalize offA L t' = o' at *
  have hself : ((o' : Int) == (o' : Int)) = true := beq_self_eq_true _
  have e1 : ((t' + 1 : Nat) : Int) - 1 = (t' : Int) := by omega
  rw [hA]
  generalize L.length = n' at *
  subst ht'
  clear hio hs' hA hL0 ht htg
  go_wp2_with fail
  refine ((unhide KW) _).mono ?_
  rintro e w5 ⟨rfl, hb5⟩
  have Hb5 := hide ((unhide Htri3).bel.trans (hb5.mono (unhide Htri3).bel.size))
  clear hb5
  go_wp2_with fail
  go_ret
  exact ⟨rfl, unhide Hb5⟩
end Go.Proofs.Ytphbkjdheopmhaa
namespace Go.Proofs.Ytphbkjdheopmhaa.callsScript
open Go.ChangeShapes Go.WideShapes Go.ChangeAt Go.RowKit
open Go.ChangeMaps (open_string shut_string)
set_option linter.unusedVariables false

theorem own : ownKnob Try.prog.godebug = none := by kernel_rfl
theorem laidOut : laidOutB Try.prog = true := by kernel_rfl
theorem wfi {z : Int} (h : (Lit.int .i64 z).wf = true) : -9223372036854775808 ≤ z ∧ z ≤ 9223372036854775807 := by simpa [Lit.wf, IntKind.min, IntKind.max, IntKind.signed, IntKind.bits] using h

set_option maxRecDepth 100000 in
theorem lifted (os : Os) (started : os.Started) (H : Type) (enc : TypeId × Value → H) :
    ReturnsInHanded {} Try.checked os 9 .any (Rows.callsScriptSpec.pre6 enc Try.prog Try.f9 Rows.callsScriptRow.domain false) (Rows.callsScriptSpec.post enc Try.prog Try.f9 false true false false) := by
  refine returnsInHanded_of_change (C := Try.checked) own started (by kernel_rfl) Try.func9
    (ChangeSpec.witness6 (enc := enc) (C := Try.checked) false ⟨#[], #[.slice none 0 0, .int .i64 0], []⟩ 8 (by kernel_rfl) (by kernel_rfl) (by kernel_rfl) (by kernel_rfl)) ?_
  intro W base args ds gs before hval0 hW hcnd _
  have hval : ∀ (j : Nat) t v, Try.f9.params[j]? = some t → args[j]? = some v → Value.okWide Try.prog W .any base t v := hval0
  have hW' := hW
  obtain ⟨p, q, hA0, hV, rfl, hfz, hnd⟩ := hW
  have hA : DataW.TrodAll enc Try.prog W 0 (fun _ => true) true Try.f9.params.toList args.toList ds p := hA0
  rw [Try.params9] at hA hval
  obtain ⟨v0, vs0, d0, ds0, p0, q0, hargs, rfl, rfl, h0, r0⟩ := trodAll_cons hA
  obtain ⟨v1, vs1, d1, ds1, p1, q1, rfl, rfl, rfl, h1, r1⟩ := trodAll_cons r0
  obtain ⟨rfl, rfl, rfl⟩ := trodAll_nil r1
  obtain rfl : args = #[v0, v1] := by cases args; simp_all
  obtain ⟨rfl, rfl⟩ := trodVars_none hV
  obtain ⟨A0, n0, c0, rfl⟩ := okWide_slice Try.underlying42 (hval 0 42 v0 rfl rfl)
  have k0 := h0
  have lt0 : ∀ x ∈ p0, x.block < W.heap.size := by obtain ⟨m, hm⟩ := k0; exact DataW.trod_lt m _ _ _ hm
  obtain ⟨fu0, hf0⟩ := h0
  obtain ⟨x0, w0, wl0, wc0, wm0, wo0⟩ := open_steps_rd hf0
  obtain ⟨a1, rfl, rfl, rfl, w1⟩ := open_int Try.underlying3 (hval 1 3 v1 rfl rfl) h1
  clear hA0 hval0
  refine (callsScript_walk A0 n0 c0 x0 a1 W w0 wl0 wo0 (wfi w1).1 (wfi w1).2 (Nat.le_trans wc0 wm0)).mono fun e W' ⟨he, bel⟩ => ?_
  subst he
  exact ⟨_, rfl, _, _, _, [], _, [], hW', trodAll_mk1 (shut_bool Try.underlying4 _), (trodAll_cons_mk (Below.trod laidOut (by kernel_rfl) (of_decide_eq_true (by kernel_rfl)) k0 bel lt0) (trodAll_cons_mk (shut_int Try.underlying3 w1) trodAll_mk0)), rfl, bel.frame _, fun h => by cases h⟩

theorem over : Rows.callsScriptRow.holds Try.pinned (OpenSpec.ofChange Rows.callsScriptSpec) :=
  OpenClaim.holds_of_wide 9 Try.f9 rfl rfl rfl rfl rfl rfl rfl ⟨rfl, rfl, rfl, rfl, rfl⟩ rfl rfl rfl rfl rfl (by kernel_rfl) Try.func9 (by kernel_rfl)
    (of_decide_eq_true (by kernel_rfl)) (by unfold Func.isWrapper; first | (rw [if_pos (by decide +kernel)]; kernel_rfl) | (rw [if_neg (by decide +kernel)]; exact ⟨rfl, rfl⟩))
    (fun os started H enc _ => lifted os started H enc)

theorem proved : Rows.CallsScriptSaid := over
#print axioms proved
end Go.Proofs.Ytphbkjdheopmhaa.callsScript
