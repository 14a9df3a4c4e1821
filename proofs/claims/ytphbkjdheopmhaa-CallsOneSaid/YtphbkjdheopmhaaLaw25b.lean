/- The walk of CallsOne. Conditions: as the argument's. -/
import Derived.Test.YtphbkjdheopmhaaLaw25a
namespace Go.Proofs.Ytphbkjdheopmhaa
set_option linter.unusedVariables false
set_option linter.unusedSimpArgs false
open Go.RowKit

theorem read_fit (b : List UInt8) (h : b.length ≤ 4294967296) : ClFit (Cl.read b).1 ∧ (Cl.read b).1.path.size ≤ 4294967296 := by
  have hz : ∀ k, k < 256 → ClFit (Cl.kindC k) ∧ (Cl.kindC k).path.size ≤ 4294967296 := fun k hk => ⟨kindC_fit hk, by show (Cl.ba []).size ≤ _; rw [Cl.ba_size]; simp⟩
  cases b with
  | nil => exact hz 0 (by omega)
  | cons k r =>
    have hk := k.toNat_lt
    simp only [List.length_cons] at h
    unfold Cl.read
    simp only
    split
    · exact hz 0 (by omega)
    · split
      · exact hz 0 (by omega)
      · split
        · exact ⟨(rflds_fit _ _ (hz _ (by omega)).1 (by simp only; omega)).1, rflds_path _ _ (hz _ (by omega)).2 (by simp only; omega)⟩
        · exact hz 0 (by omega)

set_option maxRecDepth 100000 in
set_option maxHeartbeats 4000000 in
theorem callsOne_walk (A : Option Addr) (m c : Nat) (b : List UInt8) (w : World) (hb : Rd w w.heap.size 1 A m (bys b)) (hmc : m ≤ c) (hm : m ≤ maxLen) :
    Calls Try.prog 8 #[.slice A m c] w fun e w' => e = .returned (.bool true) ∧ Below w.heap.size w w' := by
  have hbl : b.length = m := by simpa [bys] using hb.len1
  have KW := hide works_any
  unfold maxLen at hm
  by_cases hbig : 131072 < m
  · have hbig' : (131072 : Int) < (m : Int) := by omega
    clear hb hbl
    go_enter Try.func8, Try.ntmps8
    go_wp2_with (go_at_call 11; refine ((unhide KW) _).mono ?_; rintro e w6 ⟨rfl, hb6⟩)
    go_ret
    exact ⟨rfl, hb6⟩
  have hbig' : ¬ (131072 : Int) < (m : Int) := by omega
  have K1 := hide (callRead_any A m c w.heap.size b w hb (Nat.le_refl _) (by omega) hmc)
  have Hb := hide hb
  have hfit := read_fit b (by omega)
  have hnum := Cl.read_nums b
  by_cases hev : (Cl.read b).2.2 = 0
  case neg =>
    obtain ⟨h1, h2⟩ := Cl.read_bad hev
    generalize Cl.read b = rd at *
    obtain ⟨q, n, ev⟩ := rd
    simp only at h1 h2 hev
    subst h1 h2
    have he1 : (ev != 0) = true := by simpa using hev
    clear hev hb hbl hfit hnum Hb
    go_enter Try.func8, Try.ntmps8
    go_wp2_with fail
    refine (unhide K1).mono ?_
    rintro e w1 ⟨x, y, z, rfl, ho1, hb1⟩
    simp only at ho1 ⊢
    have hbw : Below w1.heap.size w1 (w1.alloc (.cells (clCells Cl.zeroC x y z) 26)) := (Below.refl _ _).alloc (Nat.le_refl _) _
    have hbb := hb1.trans (hbw.mono hb1.size)
    have hcb : (w1.alloc (.cells (clCells Cl.zeroC x y z) 26)).heap[w1.heap.size]? = some (.cells (clCells Cl.zeroC x y z) 26 (0, 0)) := heap_alloc_new _ _
    obtain ⟨v0, v1, v2, v3, v4, v5, v6, v7, v8, v9⟩ := box10 hcb
    have hfz : ClFit Cl.zeroC := kindC_fit (by omega)
    have K2 := same_any Cl.zeroC Cl.zeroC x y z slN slN slN _ _ (ho1.below hbw).ok ⟨Rd.none_ _ _ _ _, Rd.none_ _ _ _ _, Rd.none_ _ _ _ _⟩ (Nat.le_refl _) hfz hfz
    have hs : sameB Cl.zeroC Cl.zeroC = true := by simp [sameB]
    rw [hs] at K2
    replace K2 := hide K2
    have Hbb := hide hbb
    clear hbw hbb hcb hs ho1 hb1 K1
    go_wp2_with fail
    refine (unhide K2).mono ?_
    rintro e w2 ⟨rfl, hb2⟩
    have Hb2 := hide ((unhide Hbb).trans (hb2.mono (unhide Hbb).size))
    clear hb2 K2 v0 v1 v2 v3 v4 v5 v6 v7 v8 v9
    go_wp2_with fail
    refine ((unhide KW) _).mono ?_
    rintro e w3 ⟨rfl, hb3⟩
    have Hb3 := hide ((unhide Hb2).trans (hb3.mono (unhide Hb2).size))
    clear hb3
    go_wp2_with fail
    go_ret
    exact ⟨rfl, unhide Hb3⟩
  obtain ⟨h1, h2, h3⟩ := Cl.form_read hev
  have hrl := Cl.read_len b
  rw [hbl] at hrl
  generalize Cl.read b = rd at *
  obtain ⟨q, n, ev⟩ := rd
  simp only at h1 h2 h3 hev hrl hfit
  subst hev
  have hpos := Cl.form_len_pos q
  rw [← h3] at hpos
  have hn1 : ¬ ((n : Nat) : Int) < 1 := by omega
  have hn2 : ¬ ((m : Nat) : Int) < ((n : Nat) : Int) := by omega
  have htk : b.take n = Cl.form q := by rw [h2, h3]; simp
  have H3 := hide h3
  have Htk := hide htk
  have Hfit := hide hfit
  have H1 := hide h1
  clear h1 h2 h3 hb hbl hfit hnum htk
  go_enter Try.func8, Try.ntmps8
  go_wp2_with fail
  refine (unhide K1).mono ?_
  rintro e w1 ⟨x, y, z, rfl, ho1, hb1⟩
  simp only at ho1 ⊢
  have hbw : Below w1.heap.size w1 (w1.alloc (.cells (clCells q x y z) 26)) := (Below.refl _ _).alloc (Nat.le_refl _) _
  have hbb := hb1.trans (hbw.mono hb1.size)
  have hcb : (w1.alloc (.cells (clCells q x y z) 26)).heap[w1.heap.size]? = some (.cells (clCells q x y z) 26 (0, 0)) := heap_alloc_new _ _
  obtain ⟨v0, v1, v2, v3, v4, v5, v6, v7, v8, v9⟩ := box10 hcb
  have K2 := callForm_good q x y z _ _ (ho1.below hbw).ok (Nat.le_refl _) (unhide Hfit).1 (unhide H1)
  rw [← unhide H3] at K2
  replace K2 := hide K2
  have Hbb := hide hbb
  clear hbw hbb hcb ho1 hb1 K1
  go_wp2_with fail
  refine (unhide K2).mono ?_
  rintro e w2 ⟨A2, c2, rfl, ho2, hb2⟩
  have hb2' := (unhide Hbb).trans (hb2.mono (unhide Hbb).size)
  have hcut := ((unhide Hb).belowSz hb2').cutN (k := n) (by omega)
  rw [bys_take, unhide Htk] at hcut
  have K3 := eqBytes_any A2 A n n c2 c w2.heap.size (Cl.form q) (Cl.form q) w2 (Rd.of_own ho2) hcut (by unfold maxLen; omega) (by unfold maxLen; omega)
  rw [decide_eq_true rfl] at K3
  replace K3 := hide K3
  have Hb2 := hide hb2'
  have hnc : n ≤ c := by omega
  clear hb2 hb2' ho2 hcut K2 v0 v1 v2 v3 v4 v5 v6 v7 v8 v9
  go_wp2_with fail
  refine (unhide K3).mono ?_
  rintro e w3 ⟨rfl, j, rfl⟩
  have Hb3 := hide (below_drewN' (unhide Hb2) j)
  clear K3
  go_wp2_with fail
  refine ((unhide KW) _).mono ?_
  rintro e w4 ⟨rfl, hb4⟩
  have Hb4 := hide ((unhide Hb3).trans (hb4.mono (unhide Hb3).size))
  clear hb4
  go_wp2_with fail
  go_ret
  exact ⟨rfl, unhide Hb4⟩
end Go.Proofs.Ytphbkjdheopmhaa
