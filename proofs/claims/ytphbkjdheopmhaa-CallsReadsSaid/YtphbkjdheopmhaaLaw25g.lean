/- The walk of CallsOne. Conditions: as the argument's. The walk of CallsReads. Conditions: as the argument's. -/
import Derived.Test.YtphbkjdheopmhaaLaw25a
namespace Go.Proofs.Ytphbkjdheopmhaa
set_option linter.unusedVariables false
set_option linter.unusedSimpArgs false
open Go.RowKit

theorem read_fit (b : List UInt8) (h : b.length ≤ 4294967296) : ClFit (Cl.read b).1 ∧ (Cl.read b).1.path.size ≤ 4294967296 := by
  have hz : ∀ k, k < 256 → ClFit (Cl.kindC k) ∧ (Cl.kindC k).path.size ≤ 4294967296 := fun k hk => ⟨kindC_fit hk, by show (Cl.ba []).size ≤ _; rw [Cl.ba_size]; simp⟩
  cases b with
  | nil => exact hz 0 (by omega)
  | cons k r =>
    have hk := k.toNat_lt
    simp only [List.length_cons] at h
    unfold Cl.read
    simp only
    split
    · exact hz 0 (by omega)
    · split
      · exact hz 0 (by omega)
      · split
        · exact ⟨(rflds_fit _ _ (hz _ (by omega)).1 (by simp only; omega)).1, rflds_path _ _ (hz _ (by omega)).2 (by simp only; omega)⟩
        · exact hz 0 (by omega)

set_option maxRecDepth 100000 in
set_option maxHeartbeats 4000000 in
theorem callsOne_walk (A : Option Addr) (m c : Nat) (b : List UInt8) (w : World) (hb : Rd w w.heap.size 1 A m (bys b)) (hmc : m ≤ c) (hm : m ≤ maxLen) :
    Calls Try.prog 8 #[.slice A m c] w fun e w' => e = .returned (.bool true) ∧ Below w.heap.size w w' := by
  have hbl : b.length = m := by simpa [bys] using hb.len1
  have KW := hide works_any
  unfold maxLen at hm
  by_cases hbig : 131072 < m
  · have hbig' : (131072 : Int) < (m : Int) := by omega
    clear hb hbl
    go_enter Try.func8, Try.ntmps8
    go_wp2_with (go_at_call 11; refine ((unhide KW) _).mono ?_; rintro e w6 ⟨rfl, hb6⟩)
    go_ret
    exact ⟨rfl, hb6⟩
  have hbig' : ¬ (131072 : Int) < (m : Int) := by omega
  have K1 := hide (callRead_any A m c w.heap.size b w hb (Nat.le_refl _) (by omega) hmc)
  have Hb := hide hb
  have hfit := read_fit b (by omega)
  have hnum := Cl.read_nums b
  by_cases hev : (Cl.read b).2.2 = 0
  case neg =>
    obtain ⟨h1, h2⟩ := Cl.read_bad hev
    generalize Cl.read b = rd at *
    obtain ⟨q, n, ev⟩ := rd
    simp only at h1 h2 hev
    subst h1 h2
    have he1 : (ev != 0) = true := by simpa using hev
    clear hev hb hbl hfit hnum Hb
    go_enter Try.func8, Try.ntmps8
    go_wp2_with fail
    refine (unhide K1).mono ?_
    rintro e w1 ⟨x, y, z, rfl, ho1, hb1⟩
    simp only at ho1 ⊢
    have hbw : Below w1.heap.size w1 (w1.alloc (.cells (clCells Cl.zeroC x y z) 26)) := (Below.refl _ _).alloc (Nat.le_refl _) _
    have hbb := hb1.trans (hbw.mono hb1.size)
    have hcb : (w1.alloc (.cells (clCells Cl.zeroC x y z) 26)).heap[w1.heap.size]? = some (.cells (clCells Cl.zeroC x y z) 26 (0, 0)) := heap_alloc_new _ _
    obtain ⟨v0, v1, v2, v3, v4, v5, v6, v7, v8, v9⟩ := box10 hcb
    have hfz : ClFit Cl.zeroC := kindC_fit (by omega)
    have K2 := same_any Cl.zeroC Cl.zeroC x y z slN slN slN _ _ (ho1.below hbw).ok ⟨Rd.none_ _ _ _ _, Rd.none_ _ _ _ _, Rd.none_ _ _ _ _⟩ (Nat.le_refl _) hfz hfz
    have hs : sameB Cl.zeroC Cl.zeroC = true := by simp [sameB]
    rw [hs] at K2
    replace K2 := hide K2
    have Hbb := hide hbb
    clear hbw hbb hcb hs ho1 hb1 K1
    go_wp2_with fail
    refine (unhide K2).mono ?_
    rintro e w2 ⟨rfl, hb2⟩
    have Hb2 := hide ((unhide Hbb).trans (hb2.mono (unhide Hbb).size))
    clear hb2 K2 v0 v1 v2 v3 v4 v5 v6 v7 v8 v9
    go_wp2_with fail
    refine ((unhide KW) _).mono ?_
    rintro e w3 ⟨rfl, hb3⟩
    have Hb3 := hide ((unhide Hb2).trans (hb3.mono (unhide Hb2).size))
    clear hb3
    go_wp2_with fail
    go_ret
    exact ⟨rfl, unhide Hb3⟩
  obtain ⟨h1, h2, h3⟩ := Cl.form_read hev
  have hrl := Cl.read_len b
  rw [hbl] at hrl
  generalize Cl.read b = rd at *
  obtain ⟨q, n, ev⟩ := rd
  simp only at h1 h2 h3 hev hrl hfit
  subst hev
  have hpos := Cl.form_len_pos q
  rw [← h3] at hpos
  have hn1 : ¬ ((n : Nat) : Int) < 1 := by omega
  have hn2 : ¬ ((m : Nat) : Int) < ((n : Nat) : Int) := by omega
  have htk : b.take n = Cl.form q := by rw [h2, h3]; simp
  have H3 := hide h3
  have Htk := hide htk
  have Hfit := hide hfit
  have H1 := hide h1
  clear h1 h2 h3 hb hbl hfit hnum htk
  go_enter Try.func8, Try.ntmps8
  go_wp2_with fail
  refine (unhide K1).mono ?_
  rintro e w1 ⟨x, y, z, rfl, ho1, hb1⟩
  simp only at ho1 ⊢
  have hbw : Below w1.heap.size w1 (w1.alloc (.cells (clCells q x y z) 26)) := (Below.refl _ _).alloc (Nat.le_refl _) _
  have hbb := hb1.trans (hbw.mono hb1.size)
  have hcb : (w1.alloc (.cells (clCells q x y z) 26)).heap[w1.heap.size]? = some (.cells (clCells q x y z) 26 (0, 0)) := heap_alloc_new _ _
  obtain ⟨v0, v1, v2, v3, v4, v5, v6, v7, v8, v9⟩ := box10 hcb
  have K2 := callForm_good q x y z _ _ (ho1.below hbw).ok (Nat.le_refl _) (unhide Hfit).1 (unhide H1)
  rw [← unhide H3] at K2
  replace K2 := hide K2
  have Hbb := hide hbb
  clear hbw hbb hcb ho1 hb1 K1
  go_wp2_with fail
  refine (unhide K2).mono ?_
  rintro e w2 ⟨A2, c2, rfl, ho2, hb2⟩
  have hb2' := (unhide Hbb).trans (hb2.mono (unhide Hbb).size)
  have hcut := ((unhide Hb).belowSz hb2').cutN (k := n) (by omega)
  rw [bys_take, unhide Htk] at hcut
  have K3 := eqBytes_any A2 A n n c2 c w2.heap.size (Cl.form q) (Cl.form q) w2 (Rd.of_own ho2) hcut (by unfold maxLen; omega) (by unfold maxLen; omega)
  rw [decide_eq_true rfl] at K3
  replace K3 := hide K3
  have Hb2 := hide hb2'
  have hnc : n ≤ c := by omega
  clear hb2 hb2' ho2 hcut K2 v0 v1 v2 v3 v4 v5 v6 v7 v8 v9
  go_wp2_with fail
  refine (unhide K3).mono ?_
  rintro e w3 ⟨rfl, j, rfl⟩
  have Hb3 := hide (below_drewN' (unhide Hb2) j)
  clear K3
  go_wp2_with fail
  refine ((unhide KW) _).mono ?_
  rintro e w4 ⟨rfl, hb4⟩
  have Hb4 := hide ((unhide Hb3).trans (hb4.mono (unhide Hb3).size))
  clear hb4
  go_wp2_with fail
  go_ret
  exact ⟨rfl, unhide Hb4⟩
end Go.Proofs.Ytphbkjdheopmhaa
namespace Go.Proofs.Ytphbkjdheopmhaa
set_option linter.unusedVariables false
set_option linter.unusedSimpArgs false
open Go.RowKit

section
variable {ops : Array Oper} {o : Oper} {a : Act} {S : World → Prop}
theorem yields_field9 (hw : Region.wanted o (yielded ops a.tmps) = true) (x : Operand) (ho : o.op = .fieldAddr 26 x 9) (g : Nat) (hx : a.eval x = .pointer (some ⟨g, 0, none⟩)) : YieldsIf Try.prog ops S o (.pointer (some ⟨g, 9, none⟩)) a := by
  refine .inl ⟨hw, fun w' hw' => ?_⟩
  unfold execOp
  simp only [ho, hx]
  go_simp
theorem yieldsS_slice (hw : Region.wanted o (yielded ops a.tmps) = true) (x : Operand) (ho : o.op = .load 24 x) (g i : Nat) (hx : a.eval x = .pointer (some ⟨g, i, none⟩)) (A : Option Addr) (n c : Nat) (hc : ∀ w', S w' → w'.cell? ⟨g, i, none⟩ = some (.slice A n c)) : YieldsIf Try.prog ops S o (.slice A n c) a := by
  refine .inl ⟨hw, fun w' hw' => ?_⟩
  have hc' := hc w' hw'
  unfold execOp
  simp only [ho, hx]
  go_simp
theorem yields_inc (hw : Region.wanted o (yielded ops a.tmps) = true) (x : Operand) (ho : o.op = .binOp .add 5 x (.const (.int .u8 1)) 5) (n : Int) (hx : a.eval x = .int .u8 n) : YieldsIf Try.prog ops S o (.int .u8 (IntKind.u8.wrap (n + 1))) a := by
  refine .inl ⟨hw, fun w' hw' => ?_⟩
  have hy : a.eval (.const (.int .u8 1)) = .int .u8 1 := rfl
  unfold execOp
  simp only [ho, hx, hy]
  go_simp
end
theorem wp_store_u8 {o : Oper} {a : Act} {w : World} {K : Act → World → Prop} {Q : Exit → Act → World → Prop} (x y : Operand) (ho : o.op = .store 5 x y) (g i : Nat) (hx : a.eval x = .pointer (some ⟨g, i, none⟩)) (n : Int) (hy : a.eval y = .int .u8 n) (u : Value) (hc : w.cell? ⟨g, i, none⟩ = some u) (hf : w.frozen? ⟨g, i, none⟩ = false)
    (h : K (a.put o.dst undef) (w.setCell ⟨g, i, none⟩ (.int .u8 n))) : o.wp Try.prog a w K Q := by
  unfold Oper.wp execOp
  simp only [ho, hx, hy]
  go_simp
  exact h
theorem wp_load_u8 {o : Oper} {a : Act} {w : World} {K : Act → World → Prop} {Q : Exit → Act → World → Prop} (x : Operand) (ho : o.op = .load 5 x) (g i : Nat) (hx : a.eval x = .pointer (some ⟨g, i, none⟩)) (n : Int) (hc : w.cell? ⟨g, i, none⟩ = some (.int .u8 n))
    (h : K (a.put o.dst (.int .u8 n)) w) : o.wp Try.prog a w K Q := by
  unfold Oper.wp execOp
  simp only [ho, hx]
  go_simp
  exact h
theorem rfld_bytes (s : Cl.C × Cl.R) (f : Nat) (h : s.1.bytes.length ≤ 4294967296) (hb : s.2.b.length ≤ 4294967296) : (Cl.rfld s f).1.bytes.length ≤ 4294967296 := by
  have t1 := (rtxt_le s.2).1
  unfold Cl.rfld
  split
  case h_4 => simp only; omega
  all_goals exact h
theorem rflds_bytes (l : List Nat) (s : Cl.C × Cl.R) (h : s.1.bytes.length ≤ 4294967296) (hb : s.2.b.length ≤ 4294967296) : (Cl.rflds l s).1.bytes.length ≤ 4294967296 := by
  induction l generalizing s with
  | nil => exact h
  | cons f r ih => exact ih _ (rfld_bytes s f h hb) (Nat.le_trans (rfld_len s f) hb)
theorem read_bytes (b : List UInt8) (h : b.length ≤ 4294967296) : (Cl.read b).1.bytes.length ≤ 4294967296 := by
  have hz : ∀ k, (Cl.kindC k).bytes.length ≤ 4294967296 := fun k => by simp [Cl.kindC]
  cases b with
  | nil => exact hz 0
  | cons k r =>
    simp only [List.length_cons] at h
    unfold Cl.read
    simp only
    split
    · exact hz 0
    · split
      · exact hz 0
      · split
        · exact rflds_bytes _ _ (hz _) (by simp only; omega)
        · exact hz 0
theorem own_blk {w : World} {base g n c : Nat} {e : TypeId} {xs : List Value} (h : w.ownsRow base e 1 (.slice (some ⟨g, 0, none⟩) n c) n xs) : ∃ cur, w.heap[g]? = some (.cells cur e (0, 0)) := by
  obtain ⟨hl, hn | ⟨g', cap, cur, hv, hb, hg, h1, h2, h3, h4⟩⟩ := h
  · exact absurd hn.1 (by simp)
  · obtain ⟨rfl, rfl⟩ : g = g' ∧ c = cap := by simpa using hv
    exact ⟨cur, hg⟩
/-- A store into a row of one kind leaves a row of another kind. -/
theorem own_kind {w : World} {base base2 g n c i n2 size2 : Nat} {e e2 : TypeId} {xs ys : List Value} {v : Value} (h : w.ownsRow base e 1 (.slice (some ⟨g, 0, none⟩) n c) n xs) (h2 : w.ownsRow base2 e2 size2 v n2 ys) (hne : e ≠ e2) (u : Value) : (w.setCell ⟨g, i, none⟩ u).ownsRow base2 e2 size2 v n2 ys := by
  obtain ⟨cur, hg⟩ := own_blk h
  refine ⟨h2.1, h2.2.imp id ?_⟩
  rintro ⟨g', cap, cur', e1, hb, hg', r⟩
  refine ⟨g', cap, cur', e1, hb, (heap_setCell_other _ _ _ _ ?_).trans hg', r⟩
  intro e3
  subst e3
  rw [hg] at hg'
  injection hg' with hg'
  injection hg' with _ h3 _
  exact hne h3
theorem blk_kind {w : World} {base g n c i g4 : Nat} {e t : TypeId} {xs l : List Value} (h : w.ownsRow base e 1 (.slice (some ⟨g, 0, none⟩) n c) n xs) (h2 : Blk w g4 t l) (hne : e ≠ t) (u : Value) : Blk (w.setCell ⟨g, i, none⟩ u) g4 t l := by
  obtain ⟨cur, hg⟩ := own_blk h
  refine h2.other (fun e3 => ?_) u
  simp only at e3
  subst e3
  unfold Blk at h2
  rw [hg] at h2
  injection h2 with h2
  injection h2 with _ h3 _
  exact hne h3
theorem own_ne_blk {w : World} {base n g4 size : Nat} {e t : TypeId} {xs l : List Value} {v : Value} (h : w.ownsRow base e size v n xs) (h2 : Blk w g4 t l) (hne : e ≠ t) : v.ownBlock ≠ some g4 := by
  intro e1
  rcases h.2 with ⟨rfl, _⟩ | ⟨g', cap, cur, rfl, hb, hg, _⟩
  · cases e1
  · injection e1 with e1
    simp at e1
    subst e1
    unfold Blk at h2
    rw [hg] at h2
    injection h2 with h2
    injection h2 with _ h3 _
    exact hne h3
theorem own_setBlk {w : World} {base n g4 size i : Nat} {e t : TypeId} {xs l : List Value} {v : Value} (h : w.ownsRow base e size v n xs) (h2 : Blk w g4 t l) (hne : e ≠ t) (u : Value) : (w.setCell ⟨g4, i, none⟩ u).ownsRow base e size v n xs := by
  refine ⟨h.1, h.2.imp id ?_⟩
  rintro ⟨g', cap, cur', e1, hb, hg', r⟩
  refine ⟨g', cap, cur', e1, hb, (heap_setCell_other _ _ _ _ ?_).trans hg', r⟩
  intro e3
  simp only at e3
  subst e3
  unfold Blk at h2
  rw [hg'] at h2
  injection h2 with h2
  injection h2 with _ h3 _
  exact hne h3
theorem sameB_self' (q : Cl.C) : sameB q q = true := by simp [sameB]
set_option maxRecDepth 100000 in
set_option maxHeartbeats 8000000 in
theorem callsReads_walk (A : Option Addr) (m c : Nat) (b : List UInt8) (w : World) (hb : Rd w w.heap.size 1 A m (bys b)) (hmc : m ≤ c) (hm : m ≤ maxLen) :
    Calls Try.prog 5 #[.slice A m c] w fun e w' => e = .returned (.bool true) ∧ Below w.heap.size w w' := by
  have hbl : b.length = m := by simpa [bys] using hb.len1
  have KW := hide works_any
  unfold maxLen at hm
  by_cases hbig : 131072 < m
  · have hbig' : (131072 : Int) < (m : Int) := by omega
    clear hb hbl
    go_enter Try.func5, Try.ntmps5
    go_wp2_with (go_at_call 11; refine ((unhide KW) _).mono ?_; rintro e w6 ⟨rfl, hb6⟩)
    go_ret
    exact ⟨rfl, hb6⟩
  have hbig' : ¬ (131072 : Int) < (m : Int) := by omega
  have hfit := read_fit b (by omega)
  have hbyt := read_bytes b (by omega)
  generalize hrd : Cl.read b = rd at *
  obtain ⟨q, n, ev⟩ := rd
  simp only at hfit hbyt
  have Hbyt := hide hbyt
  clear hbyt
  have K1 := hide (roomy_any A m c w.heap.size b w (Nat.le_refl _) hb (by omega))
  have Hb := hide hb
  have Hfit := hide hfit
  have Hrd := hide hrd
  clear hb hbl hfit hrd
  go_enter Try.func5, Try.ntmps5
  go_wp2_with fail
  refine (unhide K1).mono ?_
  rintro e w1 ⟨g, rfl, ho1, hb1⟩
  have hr1 := Rd.of_own ho1
  have hcut := hr1.cutN (k := m) (by omega)
  rw [bys_take] at hcut
  have hbl : b.length = m := by simpa [bys] using (unhide Hb).len1
  rw [List.take_append_of_le_length (by omega), List.take_of_length_le (by omega)] at hcut
  have K2 := callRead_any (some ⟨g, 0, none⟩) m (m + 7) w1.heap.size b w1 hcut (Nat.le_refl _) (by omega) (by omega)
  rw [unhide Hrd] at K2
  replace K2 := hide K2
  have Hr1 := hide hr1
  have Hb1 := hide hb1
  have Hw1 := hide hb1.size
  clear hr1 hcut hbl ho1 hb1 K1
  go_wp2_with fail
  refine (unhide K2).mono ?_
  rintro e w2 ⟨x, y, z, rfl, hown, hb2⟩
  simp only at hown ⊢
  have hb2' := (unhide Hb1).trans (hb2.mono (unhide Hb1).size)
  have hs2 := hb2.size
  have Hw2 := hide hs2
  have hbw : Below w2.heap.size w2 (w2.alloc (.cells (clCells q x y z) 26)) := (Below.refl _ _).alloc (Nat.le_refl _) _
  have hg4 : Blk (w2.alloc (.cells (clCells q x y z) 26)) w2.heap.size 26 (clL q x y z) := Blk.new w2 _ (clL q x y z)
  have hown3 := hown.below hbw
  have hb3 := hb2'.trans (hbw.mono hb2'.size)
  have hb13 := hb2.trans (hbw.mono hs2)
  have K3 := rRead_any A m c w.heap.size b _ ((unhide Hb).below hb3) hb3.size (by omega) hmc
  rw [unhide Hrd] at K3
  replace K3 := hide K3
  have Hown3 := hide hown3
  have Hg4 := hide hg4
  have Hb3 := hide hb3
  have Hb13 := hide hb13
  clear hown hb2 hb2' hbw hg4 hown3 hb3 hb13 K2 Hb1
  go_wp2_with fail
  refine (unhide K3).mono ?_
  rintro e w5 ⟨x', y', z', rfl, hfr, hb5⟩
  simp only at hfr ⊢
  have hbw : Below w5.heap.size w5 (w5.alloc (.cells (clCells q x' y' z') 26)) := (Below.refl _ _).alloc (Nat.le_refl _) _
  have hg7 : Blk (w5.alloc (.cells (clCells q x' y' z') 26)) w5.heap.size 26 (clL q x' y' z') := Blk.new w5 _ (clL q x' y' z')
  have hb56 := hb5.trans (hbw.mono hb5.size)
  have hg4 := (unhide Hg4).belowSz hb56
  have hown6 := (unhide Hown3).below hb56
  have hb6 := (unhide Hb3).trans (hb56.mono (unhide Hb3).size)
  have hb16 := (unhide Hb13).trans (hb56.mono (unhide Hb13).size)
  have K6 := same_any q q x y z x' y' z' _ _ hown6.ok (hfr.below hbw).ok (Nat.le_refl _) (unhide Hfit).1 (unhide Hfit).1
  rw [sameB_self'] at K6
  replace K6 := hide K6
  obtain ⟨u0, u1, u2, u3, u4, u5, u6, u7, u8, u9⟩ := box10 hg4
  obtain ⟨v0, v1, v2, v3, v4, v5, v6, v7, v8, v9⟩ := box10 hg7
  have hnn : (((n : Nat) : Int) != ((n : Nat) : Int)) = false := by simp
  have hee : (ev != ev) = false := by simp
  have Hown6 := hide hown6
  have Hg4' := hide hg4
  have Hb6 := hide hb6
  have Hb16 := hide hb16
  clear hfr hb5 hbw hg7 hb56 hg4 hown6 hb6 hb16 K3 Hown3 Hg4 Hb3 Hb13
  go_wp2_with fail
  refine (unhide K6).mono ?_
  rintro e w8 ⟨rfl, hb8⟩
  have hg4 := (unhide Hg4').belowSz hb8
  have hown8 := (unhide Hown6).below hb8
  have hb08 := (unhide Hb6).trans (hb8.mono (unhide Hb6).size)
  have hb18 := (unhide Hb16).trans (hb8.mono (unhide Hb16).size)
  have Hown8 := hide hown8
  have Hg8 := hide hg4
  have Hb08 := hide hb08
  have Hb18 := hide hb18
  clear u0 u1 u2 u3 u4 u5 u6 u7 u8 u9 v0 v1 v2 v3 v4 v5 v6 v7 v8 v9 hb8 hg4 hown8 hb08 hb18 K6 hnn hee Hown6 Hg4' Hb6 Hb16
  have hx8 := own_base (unhide Hown8).o1 (Nat.le_refl w1.heap.size)
  have hz8 := own_base (unhide Hown8).o3 (Nat.le_refl w1.heap.size)
  have hxl : q.argv.length ≤ maxLen := (unhide Hfit).1.l1
  have hxn : x.n ≤ 9223372036854775807 := by
    have h1 : q.argv.length = x.n := by simpa using hx8.1
    unfold maxLen at hxl
    omega
  have hzn : z.n ≤ 4294967296 := by
    have h1 : q.bytes.length = z.n := by simpa [bys] using hz8.1
    have h2 := unhide Hbyt
    omega
  have Hx8 := hide hx8
  have Hz8 := hide hz8
  clear hx8 hz8 hxl
  go_wp2_with fail
  go_loopg [10] x.n (fun gk i wr => ∃ (k : Nat) (xs : List Value), gk = x.n - k ∧ k ≤ x.n ∧ i = .int .i64 k ∧ wr.ownsRow w1.heap.size 9 1 (.slice x.A x.n x.c) x.n xs ∧ wr.ownsRow w1.heap.size 5 1 (.slice z.A z.n z.c) z.n (bys q.bytes) ∧ Blk wr w2.heap.size 26 (clL q x y z) ∧ Below w1.heap.size w1 wr ∧ Below w.heap.size w wr)
  case atStart => exact ⟨0, _, by omega, by omega, rfl, unhide Hx8, unhide Hz8, unhide Hg8, unhide Hb18, unhide Hb08⟩
  case round =>
  clear Hx8 Hz8 Hg8 Hb18 Hb08 Hown8
  obtain ⟨k, xs, hgk, hk, rfl, hx, hz, hg4, hb1r, hb0r⟩ := hrel
  have Hgk := hide hgk
  have Hx := hide hx
  have Hz := hide hz
  have Hg4r := hide hg4
  have Hb1r := hide hb1r
  have Hb0r := hide hb0r
  have w1le : w.heap.size ≤ w1.heap.size := unhide Hw1
  have c7 := hg4.cell (i := 7) rfl
  have c9 := hg4.cell (i := 9) rfl
  have f9 := hg4.free 9
  have hlt4 := hg4.lt
  clear hgk hx hz hg4 hb1r hb0r
  rcases Nat.lt_or_ge k x.n with hlt | hge
  case inl =>
    obtain ⟨gx, hgx, _, _⟩ := own_some (unhide Hx) (by omega)
    obtain ⟨xA, xn, xc⟩ := x
    simp only at hgx
    subst hgx
    have hxl : xs.length = xn := by simpa using (unhide Hx).1
    obtain ⟨u, hu⟩ : ∃ u, xs[k]? = some u := ⟨_, List.getElem?_eq_getElem (by rw [hxl]; exact hlt)⟩
    have hc := own_cell (unhide Hx) hu
    have hfz := own_free (unhide Hx) k
    obtain ⟨hb, hglt, _⟩ := own_at (unhide Hx)
    have Hx2 := hide (own_set (i := k) (unhide Hx) (.string ⟨#[33]⟩))
    have Hz2 := hide (own_kind (i := k) (unhide Hx) (unhide Hz) (by decide) (.string ⟨#[33]⟩))
    have Hg2 := hide (blk_kind (i := k) (unhide Hx) (unhide Hg4r) (by decide) (.string ⟨#[33]⟩))
    have Hb12 := hide ((unhide Hb1r).setCell (p := ⟨gx, k, none⟩) hb (.string ⟨#[33]⟩))
    have Hb02 := hide ((unhide Hb0r).setCell (p := ⟨gx, k, none⟩) (show w.heap.size ≤ gx by omega) (.string ⟨#[33]⟩))
    clear c9 f9 hu hxl Hx Hz Hg4r Hb1r Hb0r
    go_wp2_with fail
    go_roundg (xn - (k + 1))
    case measure => have := unhide Hgk; omega
    case rel => exact ⟨k + 1, _, rfl, by omega, by go_num, unhide Hx2, unhide Hz2, unhide Hg2, unhide Hb12, unhide Hb02⟩
  have hkx : k = x.n := by omega
  have hg4sz : w1.heap.size ≤ w2.heap.size := unhide Hw2
  go_wp2_with (at_builtin; refine wpList_app1g byteTy rfl _ _ rfl w1.heap.size (.slice z.A z.n z.c) z.n (bys q.bytes) rfl (unhide Hz) #[.int .u8 9] _ rfl (by simp) rfl (by simp [Value.oneCell']) (by omega) (by have := (unhide Hb1r).size; simpa using this) ?_; intro A9 c9' w9 ho9 hg9 hat9; have hblk9 := (hg9.block w2.heap.size (by omega) (fun e => own_ne_blk (unhide Hz) (unhide Hg4r) (by decide) e.symm)).trans (unhide Hg4r); have Ho9 := hide ho9; have hb19 := (unhide Hb1r).grown hg9 (unhide Hb1r).size (fun j hj => ((unhide Hz).lt j hj).1); have hb09 := (unhide Hb0r).grown hg9 (unhide Hb0r).size (fun j hj => Nat.le_trans w1le ((unhide Hz).lt j hj).1); have Hb19 := hide hb19; have Hb09 := hide hb09; have hB9 : Blk w9 w2.heap.size 26 (clL q x y z) := hblk9; have HB9 := hide hB9; have y9 := hB9.cell (i := 9) rfl; have fy9 := hB9.free 9; clear ho9 hg9 hat9 hblk9 hb19 hb09 hB9)
  have hz9 := own_setBlk (i := 9) (unhide Ho9) (unhide HB9) (by decide) (.slice A9 (z.n + 1) c9')
  have e9 : bys q.bytes ++ (#[Value.int .u8 9] : Array Value).toList = bys (q.bytes ++ [9]) := by rw [bys_app]; rfl
  rw [e9] at hz9
  have hB10 : Blk (w9.setCell ⟨w2.heap.size, 9, none⟩ (.slice A9 (z.n + 1) c9')) w2.heap.size 26 (clL q x y ⟨A9, z.n + 1, c9'⟩) := (unhide HB9).set 9 _
  have Hz10 := hide hz9
  have HB10 := hide hB10
  have Hb110 := hide ((unhide Hb19).setCell (p := ⟨w2.heap.size, 9, none⟩) hg4sz (.slice A9 (z.n + 1) c9'))
  have Hb010 := hide ((unhide Hb09).setCell (p := ⟨w2.heap.size, 9, none⟩) (show w.heap.size ≤ w2.heap.size by omega) (.slice A9 (z.n + 1) c9'))
  clear hz9 e9 hB10 y9 fy9 HB9 Ho9 Hb19 Hb09 c7 c9 f9
  generalize w9.setCell ⟨w2.heap.size, 9, none⟩ (.slice A9 (z.n + 1) c9') = w10 at *
  obtain ⟨nz, hnz⟩ : ∃ nz, z.n + 1 = nz := ⟨_, rfl⟩
  have hnzp : 0 < nz := by omega
  have hnzb : nz ≤ 4294967297 := by omega
  rw [hnz] at Hz10 HB10
  clear hnz
  go_loopg [11] nz (fun gk i wr => ∃ (k : Nat) (l2 : List UInt8), gk = nz - k ∧ k ≤ nz ∧ i = .int .i64 k ∧ wr.ownsRow w1.heap.size 5 1 (.slice A9 nz c9') nz (bys l2) ∧ Blk wr w2.heap.size 26 (clL q x y ⟨A9, nz, c9'⟩) ∧ Below w1.heap.size w1 wr ∧ Below w.heap.size w wr)
  case atStart => exact ⟨0, _, by omega, by omega, rfl, unhide Hz10, unhide HB10, unhide Hb110, unhide Hb010⟩
  case round =>
  clear Hz10 HB10 Hb110 Hb010
  obtain ⟨k, l2, hgk, hk, rfl, hz, hB, hb1r, hb0r⟩ := hrel
  have Hgk := hide hgk
  have Hz := hide hz
  have HB := hide hB
  have Hb1r := hide hb1r
  have Hb0r := hide hb0r
  have c9 := hB.cell (i := 9) rfl
  clear hgk hz hB hb1r hb0r
  rcases Nat.lt_or_ge k nz with hlt | hge
  case inl =>
    obtain ⟨g9, rfl, _, _⟩ := own_some (unhide Hz) hnzp
    have hl2 : l2.length = nz := by simpa [bys] using (unhide Hz).1
    obtain ⟨ch, hch⟩ : ∃ ch, l2[k]? = some ch := ⟨_, List.getElem?_eq_getElem (by rw [hl2]; exact hlt)⟩
    have hc := own_cell (unhide Hz) (bys_at hch)
    have hfz := own_free (unhide Hz) k
    obtain ⟨hb, hglt, _⟩ := own_at (unhide Hz)
    have hv : IntKind.u8.wrap ((ch.toNat : Int) + 1) = ((UInt8.ofNat ((ch.toNat + 1) % 256)).toNat : Int) := by
      rw [IntKind.wrap_u8]
      simp
    have hz2 := fun (W : World) (hW : W.ownsRow w1.heap.size 5 1 (.slice (some ⟨g9, 0, none⟩) nz c9') nz (bys l2)) => own_set (i := k) hW (.int .u8 (UInt8.ofNat ((ch.toNat + 1) % 256)).toNat)
    simp only [bys_set] at hz2
    have Hz2 := hide hz2
    have hk9 : (k : Int) < (nz : Int) := by omega
    have HS0 := hide (show wr.drew.cell? ⟨w2.heap.size, 9, none⟩ = some (.slice (some ⟨g9, 0, none⟩) nz c9') from c9)
    have hc0 : wr.drew.cell? ⟨g9, 0 + k, none⟩ = some (.int .u8 (ch.toNat : Nat)) := by rw [Nat.zero_add]; exact hc
    have hf0 : wr.drew.frozen? ⟨g9, 0 + k, none⟩ = false := by rw [Nat.zero_add]; exact hfz
    clear hch hl2 hz2
    go_wp2_with fail
    refine wp_region_held_drew (S := fun w' => w'.cell? ⟨w2.heap.size, 9, none⟩ = some (.slice (some ⟨g9, 0, none⟩) nz c9')) (by kernel_rfl) (unhide HS0) (fun hHeld => ?_)
    clear hHeld
    refine takeD (i := 0) (d := some 67) (v := .pointer (some ⟨w2.heap.size, 9, none⟩)) rfl rfl (by kernel_rfl) (by kernel_rfl) (by kernel_rfl) (fun _ _ _ h => h) (yields_field9 (by rfl) (.tmp 4) rfl w2.heap.size rfl) (unhide HS0) ?_
    simp only [Act.put, List.setIfInBounds_toArray, List.set_cons_zero, List.set_cons_succ]
    refine takeD (i := 1) (d := some 68) (v := .slice (some ⟨g9, 0, none⟩) nz c9') rfl rfl (by kernel_rfl) (by kernel_rfl) (by kernel_rfl) (fun _ _ _ h => h) (yieldsS_slice (by rfl) (.tmp 67) rfl w2.heap.size 9 rfl _ nz c9' (fun w' h => h)) (unhide HS0) ?_
    simp only [Act.put, List.setIfInBounds_toArray, List.set_cons_zero, List.set_cons_succ]
    refine takeD (i := 2) (d := some 69) (v := .int .i64 (k : Nat)) rfl rfl (by kernel_rfl) (by kernel_rfl) (by kernel_rfl) (fun _ _ _ h => h) (yields_move (by rfl) (.tmp 11) rfl _ rfl) (unhide HS0) ?_
    simp only [Act.put, List.setIfInBounds_toArray, List.set_cons_zero, List.set_cons_succ]
    refine takeD (i := 3) (d := some 70) (v := .pointer (some ⟨w2.heap.size, 9, none⟩)) rfl rfl (by kernel_rfl) (by kernel_rfl) (by kernel_rfl) (fun _ _ _ h => h) (yields_field9 (by rfl) (.tmp 4) rfl w2.heap.size rfl) (unhide HS0) ?_
    simp only [Act.put, List.setIfInBounds_toArray, List.set_cons_zero, List.set_cons_succ]
    refine takeD (i := 4) (d := some 71) (v := .slice (some ⟨g9, 0, none⟩) nz c9') rfl rfl (by kernel_rfl) (by kernel_rfl) (by kernel_rfl) (fun _ _ _ h => h) (yieldsS_slice (by rfl) (.tmp 70) rfl w2.heap.size 9 rfl _ nz c9' (fun w' h => h)) (unhide HS0) ?_
    simp only [Act.put, List.setIfInBounds_toArray, List.set_cons_zero, List.set_cons_succ]
    refine takeD (i := 5) (d := some 72) (v := .int .i64 (k : Nat)) rfl rfl (by kernel_rfl) (by kernel_rfl) (by kernel_rfl) (fun _ _ _ h => h) (yields_move (by rfl) (.tmp 11) rfl _ rfl) (unhide HS0) ?_
    simp only [Act.put, List.setIfInBounds_toArray, List.set_cons_zero, List.set_cons_succ]
    refine takeD (i := 6) (d := some 73) (v := .pointer (some ⟨g9, 0 + k, none⟩)) rfl rfl (by kernel_rfl) (by kernel_rfl) (by kernel_rfl) (fun _ _ _ h => h) (yields_idx (by rfl) (.tmp 71) (.tmp 72) rfl g9 0 nz c9' k rfl rfl hk9 hlt) (unhide HS0) ?_
    simp only [Act.put, List.setIfInBounds_toArray, List.set_cons_zero, List.set_cons_succ]
    refine stepD (i := 7) (d := some 74) rfl rfl (by kernel_rfl) (by rfl) (fun K hK => ?_)
    refine wp_load_u8 (.tmp 73) rfl g9 (0 + k) rfl _ hc0 (hK _ _ (unhide HS0) ?_)
    clear hK K
    simp only [Act.put, List.setIfInBounds_toArray, List.set_cons_zero, List.set_cons_succ]
    refine takeD (i := 8) (d := some 75) (v := .int .u8 (IntKind.u8.wrap ((ch.toNat : Int) + 1))) rfl rfl (by kernel_rfl) (by kernel_rfl) (by kernel_rfl) (fun _ _ _ h => h) (yields_inc (by rfl) (.tmp 74) rfl _ rfl) (unhide HS0) ?_
    simp only [Act.put, List.setIfInBounds_toArray, List.set_cons_zero, List.set_cons_succ]
    refine takeD (i := 9) (d := some 76) (v := .pointer (some ⟨g9, 0 + k, none⟩)) rfl rfl (by kernel_rfl) (by kernel_rfl) (by kernel_rfl) (fun _ _ _ h => h) (yields_idx (by rfl) (.tmp 68) (.tmp 69) rfl g9 0 nz c9' k rfl rfl hk9 hlt) (unhide HS0) ?_
    simp only [Act.put, List.setIfInBounds_toArray, List.set_cons_zero, List.set_cons_succ]
    refine stepD (i := 10) (d := none) rfl rfl (by kernel_rfl) (by rfl) (fun K hK => ?_)
    refine wp_store_u8 (.tmp 76) (.tmp 75) rfl g9 (0 + k) rfl _ rfl _ hc0 hf0 (hK _ _ ?_ ?_)
    · exact (World.cell?_setCell_other wr.drew _ _ _ (fun e => by have h1 := own_ne_blk (unhide Hz) (unhide HB) (by decide); simp [Value.ownBlock] at h1; injection e with e; exact h1 (by omega))).trans (unhide HS0)
    clear hK K
    refine wpAnyH_done (by kernel_rfl) ?_ _
    rw [Nat.zero_add, hv]
    have Hz3 := hide ((unhide Hz2) wr.drew (unhide Hz))
    have HB3 := hide (blk_kind (i := k) (w := wr.drew) (unhide Hz) (unhide HB) (by decide) (.int .u8 ((UInt8.ofNat ((ch.toNat + 1) % 256)).toNat : Nat)))
    have Hb13 := hide ((below_drew' (unhide Hb1r)).setCell (p := ⟨g9, k, none⟩) hb (.int .u8 ((UInt8.ofNat ((ch.toNat + 1) % 256)).toNat : Nat)))
    have Hb03 := hide ((below_drew' (unhide Hb0r)).setCell (p := ⟨g9, k, none⟩) (show w.heap.size ≤ g9 by omega) (.int .u8 ((UInt8.ofNat ((ch.toNat + 1) % 256)).toNat : Nat)))
    clear HS0 hc0 hf0 hc hfz c9 Hz2 Hz HB Hb1r Hb0r hv
    generalize wr.drew.setCell ⟨g9, k, none⟩ (.int .u8 ((UInt8.ofNat ((ch.toNat + 1) % 256)).toNat : Nat)) = w12 at *
    go_wp2_with fail
    go_roundg (nz - (k + 1))
    case measure => have := unhide Hgk; omega
    case rel => exact ⟨k + 1, _, rfl, by omega, by go_num, unhide Hz3, unhide HB3, unhide Hb13, unhide Hb03⟩
  have hknz : k = nz := by omega
  have K9 := hide (kept_yes g A m c wr.heap.size b wr (((unhide Hr1).below (unhide Hb1r)).more (unhide Hb1r).size) ((unhide Hb).belowSz (unhide Hb0r)) (by omega))
  clear Hz HB Hb1r Hr1
  go_wp2_with fail
  refine (unhide K9).mono ?_
  rintro e w13 ⟨rfl, j, rfl⟩
  have Hb13 := hide (below_drewN' (unhide Hb0r) j)
  clear K9 c9
  go_wp2_with fail
  refine ((unhide KW) _).mono ?_
  rintro e w14 ⟨rfl, hb14⟩
  have Hb14 := hide ((unhide Hb13).trans (hb14.mono (unhide Hb13).size))
  clear hb14
  go_wp2_with fail
  go_ret
  exact ⟨rfl, unhide Hb14⟩
end Go.Proofs.Ytphbkjdheopmhaa
