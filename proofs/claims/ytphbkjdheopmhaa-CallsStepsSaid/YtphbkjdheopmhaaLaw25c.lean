/- The walk of CallsOne. Conditions: as the argument's. The walk of the law's eq, and of CallsSteps. Conditions: as the argument's. -/
import Derived.Test.YtphbkjdheopmhaaLaw25a
namespace Go.Proofs.Ytphbkjdheopmhaa
set_option linter.unusedVariables false
set_option linter.unusedSimpArgs false
open Go.RowKit

theorem read_fit (b : List UInt8) (h : b.length ≤ 4294967296) : ClFit (Cl.read b).1 ∧ (Cl.read b).1.path.size ≤ 4294967296 := by
  have hz : ∀ k, k < 256 → ClFit (Cl.kindC k) ∧ (Cl.kindC k).path.size ≤ 4294967296 := fun k hk => ⟨kindC_fit hk, by show (Cl.ba []).size ≤ _; rw [Cl.ba_size]; simp⟩
  cases b with
  | nil => exact hz 0 (by omega)
  | cons k r =>
    have hk := k.toNat_lt
    simp only [List.length_cons] at h
    unfold Cl.read
    simp only
    split
    · exact hz 0 (by omega)
    · split
      · exact hz 0 (by omega)
      · split
        · exact ⟨(rflds_fit _ _ (hz _ (by omega)).1 (by simp only; omega)).1, rflds_path _ _ (hz _ (by omega)).2 (by simp only; omega)⟩
        · exact hz 0 (by omega)

set_option maxRecDepth 100000 in
set_option maxHeartbeats 4000000 in
theorem callsOne_walk (A : Option Addr) (m c : Nat) (b : List UInt8) (w : World) (hb : Rd w w.heap.size 1 A m (bys b)) (hmc : m ≤ c) (hm : m ≤ maxLen) :
    Calls Try.prog 8 #[.slice A m c] w fun e w' => e = .returned (.bool true) ∧ Below w.heap.size w w' := by
  have hbl : b.length = m := by simpa [bys] using hb.len1
  have KW := hide works_any
  unfold maxLen at hm
  by_cases hbig : 131072 < m
  · have hbig' : (131072 : Int) < (m : Int) := by omega
    clear hb hbl
    go_enter Try.func8, Try.ntmps8
    go_wp2_with (go_at_call 11; refine ((unhide KW) _).mono ?_; rintro e w6 ⟨rfl, hb6⟩)
    go_ret
    exact ⟨rfl, hb6⟩
  have hbig' : ¬ (131072 : Int) < (m : Int) := by omega
  have K1 := hide (callRead_any A m c w.heap.size b w hb (Nat.le_refl _) (by omega) hmc)
  have Hb := hide hb
  have hfit := read_fit b (by omega)
  have hnum := Cl.read_nums b
  by_cases hev : (Cl.read b).2.2 = 0
  case neg =>
    obtain ⟨h1, h2⟩ := Cl.read_bad hev
    generalize Cl.read b = rd at *
    obtain ⟨q, n, ev⟩ := rd
    simp only at h1 h2 hev
    subst h1 h2
    have he1 : (ev != 0) = true := by simpa using hev
    clear hev hb hbl hfit hnum Hb
    go_enter Try.func8, Try.ntmps8
    go_wp2_with fail
    refine (unhide K1).mono ?_
    rintro e w1 ⟨x, y, z, rfl, ho1, hb1⟩
    simp only at ho1 ⊢
    have hbw : Below w1.heap.size w1 (w1.alloc (.cells (clCells Cl.zeroC x y z) 26)) := (Below.refl _ _).alloc (Nat.le_refl _) _
    have hbb := hb1.trans (hbw.mono hb1.size)
    have hcb : (w1.alloc (.cells (clCells Cl.zeroC x y z) 26)).heap[w1.heap.size]? = some (.cells (clCells Cl.zeroC x y z) 26 (0, 0)) := heap_alloc_new _ _
    obtain ⟨v0, v1, v2, v3, v4, v5, v6, v7, v8, v9⟩ := box10 hcb
    have hfz : ClFit Cl.zeroC := kindC_fit (by omega)
    have K2 := same_any Cl.zeroC Cl.zeroC x y z slN slN slN _ _ (ho1.below hbw).ok ⟨Rd.none_ _ _ _ _, Rd.none_ _ _ _ _, Rd.none_ _ _ _ _⟩ (Nat.le_refl _) hfz hfz
    have hs : sameB Cl.zeroC Cl.zeroC = true := by simp [sameB]
    rw [hs] at K2
    replace K2 := hide K2
    have Hbb := hide hbb
    clear hbw hbb hcb hs ho1 hb1 K1
    go_wp2_with fail
    refine (unhide K2).mono ?_
    rintro e w2 ⟨rfl, hb2⟩
    have Hb2 := hide ((unhide Hbb).trans (hb2.mono (unhide Hbb).size))
    clear hb2 K2 v0 v1 v2 v3 v4 v5 v6 v7 v8 v9
    go_wp2_with fail
    refine ((unhide KW) _).mono ?_
    rintro e w3 ⟨rfl, hb3⟩
    have Hb3 := hide ((unhide Hb2).trans (hb3.mono (unhide Hb2).size))
    clear hb3
    go_wp2_with fail
    go_ret
    exact ⟨rfl, unhide Hb3⟩
  obtain ⟨h1, h2, h3⟩ := Cl.form_read hev
  have hrl := Cl.read_len b
  rw [hbl] at hrl
  generalize Cl.read b = rd at *
  obtain ⟨q, n, ev⟩ := rd
  simp only at h1 h2 h3 hev hrl hfit
  subst hev
  have hpos := Cl.form_len_pos q
  rw [← h3] at hpos
  have hn1 : ¬ ((n : Nat) : Int) < 1 := by omega
  have hn2 : ¬ ((m : Nat) : Int) < ((n : Nat) : Int) := by omega
  have htk : b.take n = Cl.form q := by rw [h2, h3]; simp
  have H3 := hide h3
  have Htk := hide htk
  have Hfit := hide hfit
  have H1 := hide h1
  clear h1 h2 h3 hb hbl hfit hnum htk
  go_enter Try.func8, Try.ntmps8
  go_wp2_with fail
  refine (unhide K1).mono ?_
  rintro e w1 ⟨x, y, z, rfl, ho1, hb1⟩
  simp only at ho1 ⊢
  have hbw : Below w1.heap.size w1 (w1.alloc (.cells (clCells q x y z) 26)) := (Below.refl _ _).alloc (Nat.le_refl _) _
  have hbb := hb1.trans (hbw.mono hb1.size)
  have hcb : (w1.alloc (.cells (clCells q x y z) 26)).heap[w1.heap.size]? = some (.cells (clCells q x y z) 26 (0, 0)) := heap_alloc_new _ _
  obtain ⟨v0, v1, v2, v3, v4, v5, v6, v7, v8, v9⟩ := box10 hcb
  have K2 := callForm_good q x y z _ _ (ho1.below hbw).ok (Nat.le_refl _) (unhide Hfit).1 (unhide H1)
  rw [← unhide H3] at K2
  replace K2 := hide K2
  have Hbb := hide hbb
  clear hbw hbb hcb ho1 hb1 K1
  go_wp2_with fail
  refine (unhide K2).mono ?_
  rintro e w2 ⟨A2, c2, rfl, ho2, hb2⟩
  have hb2' := (unhide Hbb).trans (hb2.mono (unhide Hbb).size)
  have hcut := ((unhide Hb).belowSz hb2').cutN (k := n) (by omega)
  rw [bys_take, unhide Htk] at hcut
  have K3 := eqBytes_any A2 A n n c2 c w2.heap.size (Cl.form q) (Cl.form q) w2 (Rd.of_own ho2) hcut (by unfold maxLen; omega) (by unfold maxLen; omega)
  rw [decide_eq_true rfl] at K3
  replace K3 := hide K3
  have Hb2 := hide hb2'
  have hnc : n ≤ c := by omega
  clear hb2 hb2' ho2 hcut K2 v0 v1 v2 v3 v4 v5 v6 v7 v8 v9
  go_wp2_with fail
  refine (unhide K3).mono ?_
  rintro e w3 ⟨rfl, j, rfl⟩
  have Hb3 := hide (below_drewN' (unhide Hb2) j)
  clear K3
  go_wp2_with fail
  refine ((unhide KW) _).mono ?_
  rintro e w4 ⟨rfl, hb4⟩
  have Hb4 := hide ((unhide Hb3).trans (hb4.mono (unhide Hb3).size))
  clear hb4
  go_wp2_with fail
  go_ret
  exact ⟨rfl, unhide Hb4⟩
end Go.Proofs.Ytphbkjdheopmhaa
namespace Go.Proofs.Ytphbkjdheopmhaa
set_option linter.unusedVariables false
set_option linter.unusedSimpArgs false
open Go.RowKit

theorem sameB_self (q : Cl.C) : sameB q q = true := by simp [sameB]
/-- The cells of one step of a row. -/
theorem row_cells {w : World} {B : Nat} {A : Option Addr} {n : Nat} {L : List SEl} {k : Nat} {s : SEl} (h : Rd w B 11 A n (rowOf L)) (hk : L[k]? = some s) : ∃ g o, A = some ⟨g, o, none⟩ ∧ g < B ∧ ∀ j u, (sCells s)[j]? = some u → w.cell? ⟨g, o + k * 11 + j, none⟩ = some u := by
  have hne : rowOf L ≠ [] := by
    intro e
    have h1 := rowOf_len L
    rw [e] at h1
    have h2 := (List.getElem?_eq_some_iff.1 hk).1
    simp at h1
    omega
  obtain ⟨g, o, hA, hg, hc⟩ := h.open_ hne
  refine ⟨g, o, hA, hg, fun j u hj => ?_⟩
  rw [Nat.add_assoc]
  refine hc _ _ ?_
  have e : L = L.take k ++ s :: L.drop (k + 1) := by
    have hlt := (List.getElem?_eq_some_iff.1 hk).1
    rw [← (List.getElem?_eq_some_iff.1 hk).2, ← List.drop_eq_getElem_cons hlt, List.take_append_drop]
  have hlt := (List.getElem?_eq_some_iff.1 hk).1
  have hl : (rowOf (L.take k)).length = k * 11 := by rw [rowOf_len, List.length_take]; congr 1; omega
  have hj11 : j < (sCells s).length := (List.getElem?_eq_some_iff.1 hj).1
  conv => lhs; rw [e]
  rw [rowOf_app, List.getElem?_append_right (by omega), hl, Nat.add_sub_cancel_left]
  show (sCells s ++ rowOf (L.drop (k + 1)))[j]? = some u
  rw [List.getElem?_append_left hj11]
  exact hj
def SKeep (g1 o1 g2 o2 k p' : Nat) (q' : Cl.C) (x y z x' y' z' : Sl) (w' : World) : Prop := w'.cell? ⟨g1, o1 + k * 11, none⟩ = some (.int .i64 (p' : Nat)) ∧ w'.cell? ⟨g1, o1 + k * 11 + 1, none⟩ = some (.int .u8 q'.kind) ∧ w'.cell? ⟨g1, o1 + k * 11 + 2, none⟩ = some (.int .u64 q'.a) ∧ w'.cell? ⟨g1, o1 + k * 11 + 3, none⟩ = some (.int .u64 q'.b) ∧ w'.cell? ⟨g1, o1 + k * 11 + 4, none⟩ = some (.int .u64 q'.c) ∧ w'.cell? ⟨g1, o1 + k * 11 + 5, none⟩ = some (.int .u64 q'.d) ∧ w'.cell? ⟨g1, o1 + k * 11 + 6, none⟩ = some (.int .u64 q'.e) ∧ w'.cell? ⟨g1, o1 + k * 11 + 7, none⟩ = some (.string q'.path) ∧ w'.cell? ⟨g1, o1 + k * 11 + 8, none⟩ = some (.slice x.A x.n x.c) ∧ w'.cell? ⟨g1, o1 + k * 11 + 9, none⟩ = some (.slice y.A y.n y.c) ∧ w'.cell? ⟨g1, o1 + k * 11 + 10, none⟩ = some (.slice z.A z.n z.c) ∧ w'.cell? ⟨g2, o2 + k * 11, none⟩ = some (.int .i64 (p' : Nat)) ∧ w'.cell? ⟨g2, o2 + k * 11 + 1, none⟩ = some (.int .u8 q'.kind) ∧ w'.cell? ⟨g2, o2 + k * 11 + 2, none⟩ = some (.int .u64 q'.a) ∧ w'.cell? ⟨g2, o2 + k * 11 + 3, none⟩ = some (.int .u64 q'.b) ∧ w'.cell? ⟨g2, o2 + k * 11 + 4, none⟩ = some (.int .u64 q'.c) ∧ w'.cell? ⟨g2, o2 + k * 11 + 5, none⟩ = some (.int .u64 q'.d) ∧ w'.cell? ⟨g2, o2 + k * 11 + 6, none⟩ = some (.int .u64 q'.e) ∧ w'.cell? ⟨g2, o2 + k * 11 + 7, none⟩ = some (.string q'.path) ∧ w'.cell? ⟨g2, o2 + k * 11 + 8, none⟩ = some (.slice x'.A x'.n x'.c) ∧ w'.cell? ⟨g2, o2 + k * 11 + 9, none⟩ = some (.slice y'.A y'.n y'.c) ∧ w'.cell? ⟨g2, o2 + k * 11 + 10, none⟩ = some (.slice z'.A z'.n z'.c)
theorem SKeep.below {g1 o1 g2 o2 k p' B : Nat} {q' : Cl.C} {x y z x' y' z' : Sl} {w w2 : World} (h : SKeep g1 o1 g2 o2 k p' q' x y z x' y' z' w) (hb : Below B w w2) (h1 : g1 < B) (h2 : g2 < B) : SKeep g1 o1 g2 o2 k p' q' x y z x' y' z' w2 := by
  obtain ⟨a0, a1, a2, a3, a4, a5, a6, a7, a8, a9, a10, b0, b1, b2, b3, b4, b5, b6, b7, b8, b9, b10⟩ := h
  exact ⟨(hb.cell (p := ⟨g1, _, none⟩) h1).trans a0, (hb.cell (p := ⟨g1, _, none⟩) h1).trans a1, (hb.cell (p := ⟨g1, _, none⟩) h1).trans a2, (hb.cell (p := ⟨g1, _, none⟩) h1).trans a3, (hb.cell (p := ⟨g1, _, none⟩) h1).trans a4, (hb.cell (p := ⟨g1, _, none⟩) h1).trans a5, (hb.cell (p := ⟨g1, _, none⟩) h1).trans a6, (hb.cell (p := ⟨g1, _, none⟩) h1).trans a7, (hb.cell (p := ⟨g1, _, none⟩) h1).trans a8, (hb.cell (p := ⟨g1, _, none⟩) h1).trans a9, (hb.cell (p := ⟨g1, _, none⟩) h1).trans a10, (hb.cell (p := ⟨g2, _, none⟩) h2).trans b0, (hb.cell (p := ⟨g2, _, none⟩) h2).trans b1, (hb.cell (p := ⟨g2, _, none⟩) h2).trans b2, (hb.cell (p := ⟨g2, _, none⟩) h2).trans b3, (hb.cell (p := ⟨g2, _, none⟩) h2).trans b4, (hb.cell (p := ⟨g2, _, none⟩) h2).trans b5, (hb.cell (p := ⟨g2, _, none⟩) h2).trans b6, (hb.cell (p := ⟨g2, _, none⟩) h2).trans b7, (hb.cell (p := ⟨g2, _, none⟩) h2).trans b8, (hb.cell (p := ⟨g2, _, none⟩) h2).trans b9, (hb.cell (p := ⟨g2, _, none⟩) h2).trans b10⟩
set_option maxRecDepth 100000 in
set_option maxHeartbeats 4000000 in
theorem eq_yes (A A' : Option Addr) (c c' B : Nat) (L L' : List SEl) (w : World) (hB : B ≤ w.heap.size) (ha : Rd w B 11 A L.length (rowOf L)) (hb : Rd w B 11 A' L'.length (rowOf L')) (hp : L.map sPair = L'.map sPair) (hn : L.length ≤ 4294967296)
    (h1 : ∀ s ∈ L, ClOk w B s.q s.x s.y s.z ∧ ClFit s.q ∧ s.p < 256) (h2 : ∀ s ∈ L', ClOk w B s.q s.x s.y s.z) :
    Calls Try.prog 26 #[.slice A L.length c, .slice A' L'.length c'] w fun e w' => e = .returned (.bool true) ∧ Below w.heap.size w w' := by
  have hlen : L'.length = L.length := by have := congrArg List.length hp; simpa using this.symm
  rw [hlen] at hb ⊢
  obtain ⟨n, hnn⟩ : ∃ n, L.length = n := ⟨_, rfl⟩
  rw [hnn] at ha hb hn ⊢
  have Ha := hide ha
  have Hb := hide hb
  have Hp := hide hp
  have H1 := hide h1
  have H2 := hide h2
  have Hn := hide (And.intro hnn (hlen.trans hnn))
  clear ha hb hp h1 h2 hlen hnn
  go_enter Try.func26, Try.ntmps26
  go_wp2_with fail
  go_loopg [5] n (fun gk i wr => ∃ k : Nat, gk = n - k ∧ k ≤ n ∧ i = .int .i64 k ∧ Below w.heap.size w wr)
  case atStart => exact ⟨0, by omega, by omega, rfl, Below.refl _ _⟩
  case round =>
  obtain ⟨k, hgk, hk, rfl, hbr⟩ := hrel
  have Hgk := hide hgk
  have Hbr := hide hbr
  have hsz := hbr.size
  clear hgk hbr
  rcases Nat.lt_or_ge k n with hlt | hge
  case inr =>
    obtain rfl : k = n := by omega
    go_wp2_with fail
    go_ret
    exact ⟨rfl, unhide Hbr⟩
  obtain ⟨s, hs⟩ : ∃ s, L[k]? = some s := ⟨_, List.getElem?_eq_getElem (by rw [(unhide Hn).1]; exact hlt)⟩
  obtain ⟨s', hs'⟩ : ∃ s', L'[k]? = some s' := ⟨_, List.getElem?_eq_getElem (by rw [(unhide Hn).2]; exact hlt)⟩
  have hpp : sPair s = sPair s' := by
    have e1 : (L.map sPair)[k]? = some (sPair s) := by simp [hs]
    have e2 : (L'.map sPair)[k]? = some (sPair s') := by simp [hs']
    rw [unhide Hp, e2] at e1
    injection e1 with e1
    exact e1.symm
  have epid : s'.p = s.p := (congrArg Prod.fst hpp).symm
  have eq' : s'.q = s.q := (congrArg Prod.snd hpp).symm
  obtain ⟨g1, o1, rfl, hg1, hc1⟩ := row_cells ((unhide Ha).below ((unhide Hbr).mono hB)) hs
  obtain ⟨g2, o2, rfl, hg2, hc2⟩ := row_cells ((unhide Hb).below ((unhide Hbr).mono hB)) hs'
  have hm1 := (unhide H1) s (List.mem_of_getElem? hs)
  have hm2 := (unhide H2) s' (List.mem_of_getElem? hs')
  rw [eq'] at hm2
  obtain ⟨p', q', x', y', z'⟩ := s'
  obtain ⟨p, q, x, y, z⟩ := s
  simp only at epid eq' hm1 hm2
  subst epid eq'
  have a0 := hc1 0 _ rfl; have a1 := hc1 1 _ rfl; have a2 := hc1 2 _ rfl; have a3 := hc1 3 _ rfl; have a4 := hc1 4 _ rfl; have a5 := hc1 5 _ rfl; have a6 := hc1 6 _ rfl; have a7 := hc1 7 _ rfl; have a8 := hc1 8 _ rfl; have a9 := hc1 9 _ rfl; have a10 := hc1 10 _ rfl
  have b0 := hc2 0 _ rfl; have b1 := hc2 1 _ rfl; have b2 := hc2 2 _ rfl; have b3 := hc2 3 _ rfl; have b4 := hc2 4 _ rfl; have b5 := hc2 5 _ rfl; have b6 := hc2 6 _ rfl; have b7 := hc2 7 _ rfl; have b8 := hc2 8 _ rfl; have b9 := hc2 9 _ rfl; have b10 := hc2 10 _ rfl
  have K := fun j => same_any q' q' x y z x' y' z' B (wr.drewN j) ((hm1.1.below ((unhide Hbr).mono hB)).drewN j) ((hm2.below ((unhide Hbr).mono hB)).drewN j) (by show B ≤ wr.heap.size; omega) hm1.2.1 hm1.2.1
  rw [sameB_self] at K
  replace K := hide K
  have hp8 := hm1.2.2
  have hpe : (((p' : Nat) : Int) != ((p' : Nat) : Int)) = false := by simp
  clear hc1 hc2 hm1 hm2 hs hs' hpp Ha Hb Hp
  rw [Nat.add_zero] at a0 b0
  have hkn : (k : Int) < (n : Int) := by omega
  have hg1' : g1 < wr.heap.size := by omega
  have hg2' : g2 < wr.heap.size := by omega
  have hS : SKeep g1 o1 g2 o2 k p' q' x y z x' y' z' wr := ⟨a0, a1, a2, a3, a4, a5, a6, a7, a8, a9, a10, b0, b1, b2, b3, b4, b5, b6, b7, b8, b9, b10⟩
  have HS := hide hS
  have hck : (1 : Nat) = 1 := rfl
  clear hS
  go_wp2_with fail
  go_region_held3 (fun w' => w'.cell? ⟨g1, o1 + k * 11, none⟩ = some (.int .i64 (p' : Nat)) ∧ w'.cell? ⟨g1, o1 + k * 11 + 1, none⟩ = some (.int .u8 q'.kind) ∧ w'.cell? ⟨g1, o1 + k * 11 + 2, none⟩ = some (.int .u64 q'.a) ∧ w'.cell? ⟨g1, o1 + k * 11 + 3, none⟩ = some (.int .u64 q'.b) ∧ w'.cell? ⟨g1, o1 + k * 11 + 4, none⟩ = some (.int .u64 q'.c) ∧ w'.cell? ⟨g1, o1 + k * 11 + 5, none⟩ = some (.int .u64 q'.d) ∧ w'.cell? ⟨g1, o1 + k * 11 + 6, none⟩ = some (.int .u64 q'.e) ∧ w'.cell? ⟨g1, o1 + k * 11 + 7, none⟩ = some (.string q'.path) ∧ w'.cell? ⟨g1, o1 + k * 11 + 8, none⟩ = some (.slice x.A x.n x.c) ∧ w'.cell? ⟨g1, o1 + k * 11 + 9, none⟩ = some (.slice y.A y.n y.c) ∧ w'.cell? ⟨g1, o1 + k * 11 + 10, none⟩ = some (.slice z.A z.n z.c) ∧ w'.cell? ⟨g2, o2 + k * 11, none⟩ = some (.int .i64 (p' : Nat)) ∧ w'.cell? ⟨g2, o2 + k * 11 + 1, none⟩ = some (.int .u8 q'.kind) ∧ w'.cell? ⟨g2, o2 + k * 11 + 2, none⟩ = some (.int .u64 q'.a) ∧ w'.cell? ⟨g2, o2 + k * 11 + 3, none⟩ = some (.int .u64 q'.b) ∧ w'.cell? ⟨g2, o2 + k * 11 + 4, none⟩ = some (.int .u64 q'.c) ∧ w'.cell? ⟨g2, o2 + k * 11 + 5, none⟩ = some (.int .u64 q'.d) ∧ w'.cell? ⟨g2, o2 + k * 11 + 6, none⟩ = some (.int .u64 q'.e) ∧ w'.cell? ⟨g2, o2 + k * 11 + 7, none⟩ = some (.string q'.path) ∧ w'.cell? ⟨g2, o2 + k * 11 + 8, none⟩ = some (.slice x'.A x'.n x'.c) ∧ w'.cell? ⟨g2, o2 + k * 11 + 9, none⟩ = some (.slice y'.A y'.n y'.c) ∧ w'.cell? ⟨g2, o2 + k * 11 + 10, none⟩ = some (.slice z'.A z'.n z'.c)) (first | exact ⟨a0, a1, a2, a3, a4, a5, a6, a7, a8, a9, a10, b0, b1, b2, b3, b4, b5, b6, b7, b8, b9, b10⟩ | exact ⟨d0, d1, d2, d3, d4, d5, d6, d7, d8, d9, d10, d11, d12, d13, d14, d15, d16, d17, d18, d19, d20, d21⟩) (first | (go_at_call 15; refine ((unhide K) 1).mono ?_; rintro e w2 ⟨rfl, hb2⟩; have hS2 := (unhide HS).below (below_undrew hb2) hg1' hg2'; obtain ⟨d0, d1, d2, d3, d4, d5, d6, d7, d8, d9, d10, d11, d12, d13, d14, d15, d16, d17, d18, d19, d20, d21⟩ := hS2; have Hb2 := hide (below_undrew hb2)))
  have Hb3 := hide ((unhide Hbr).trans ((unhide Hb2).mono (show w.heap.size ≤ wr.heap.size by omega)))
  clear d0 d1 d2 d3 d4 d5 d6 d7 d8 d9 d10 d11 d12 d13 d14 d15 d16 d17 d18 d19 d20 d21 a0 b0 a1 b1 a2 b2 a3 b3 a4 b4 a5 b5 a6 b6 a7 b7 a8 b8 a9 b9 a10 b10 Hb2 HS K
  go_wp2_with fail
  go_roundg (n - (k + 1))
  case measure => have := unhide Hgk; omega
  case rel => exact ⟨k + 1, rfl, by omega, by go_num, unhide Hb3⟩

theorem stepsF_fit {P : Nat × Cl.C → Prop} (n : Nat) (r : List UInt8) (at_ : Nat) (l : List (Nat × Cl.C)) (hl : ∀ s ∈ l, P s) (hP : ∀ (p : UInt8) (b : List UInt8), b.length ≤ r.length → P (p.toNat, (Cl.read b).1)) : ∀ s ∈ (Cl.stepsF n r at_ l).1, P s := by
  induction n generalizing r at_ l with
  | zero => exact hl
  | succ n ih =>
    cases r with
    | nil => exact hl
    | cons p r =>
      simp only [Cl.stepsF]
      split
      · refine ih _ _ _ (fun s hs => ?_) (fun p' b hb => hP p' b (Nat.le_trans hb (by rw [List.length_drop, List.length_cons]; omega)))
        rcases List.mem_append.1 hs with h | h
        · exact hl s h
        · obtain rfl := List.mem_singleton.1 h
          exact hP p r (by simp)
      · exact fun s hs => absurd hs List.not_mem_nil
theorem stepsF_len (n : Nat) (r : List UInt8) (at_ : Nat) (l : List (Nat × Cl.C)) : (Cl.stepsF n r at_ l).1.length ≤ l.length + r.length := by
  induction n generalizing r at_ l with
  | zero => simp [Cl.stepsF]
  | succ n ih =>
    cases r with
    | nil => simp [Cl.stepsF]
    | cons p r =>
      simp only [Cl.stepsF]
      split
      · refine Nat.le_trans (ih _ _ _) ?_
        simp
        omega
      · simp
theorem steps_len (b : List UInt8) : (Cl.steps b).1.length ≤ b.length := by
  exact Nat.le_trans (stepsF_len b.length b 0 []) (by simp)
theorem steps_fit (b : List UInt8) (h : b.length ≤ 4294967296) : ∀ s ∈ (Cl.steps b).1, ClFit s.2 ∧ s.1 < 256 :=
  stepsF_fit (P := fun s => ClFit s.2 ∧ s.1 < 256) _ _ _ _ (fun s hs => absurd hs List.not_mem_nil) (fun p b' hb => ⟨(read_fit b' (by omega)).1, p.toNat_lt⟩)
theorem srow_ok {w : World} {base : Nat} {A : Option Addr} {c : Nat} {L : List SEl} (h : SRow w base A c L) : ∀ s ∈ L, ClOk w w.heap.size s.q s.x s.y s.z := fun s hs => (h.all s hs).ok

set_option maxRecDepth 100000 in
set_option maxHeartbeats 4000000 in
theorem callsSteps_walk (A : Option Addr) (m c : Nat) (b : List UInt8) (w : World) (hb : Rd w w.heap.size 1 A m (bys b)) (hmc : m ≤ c) (hm : m ≤ maxLen) :
    Calls Try.prog 6 #[.slice A m c] w fun e w' => e = .returned (.bool true) ∧ Below w.heap.size w w' := by
  have hbl : b.length = m := by simpa [bys] using hb.len1
  have KW := hide works_any
  unfold maxLen at hm
  by_cases hbig : 65536 < m
  · have hbig' : (65536 : Int) < (m : Int) := by omega
    clear hb hbl
    go_enter Try.func6, Try.ntmps6
    go_wp2_with (go_at_call 11; refine ((unhide KW) _).mono ?_; rintro e w6 ⟨rfl, hb6⟩)
    go_ret
    exact ⟨rfl, hb6⟩
  have hbig' : ¬ (65536 : Int) < (m : Int) := by omega
  have hfit := steps_fit b (by omega)
  generalize hst : Cl.steps b = st at *
  obtain ⟨l, ev, n⟩ := st
  have K1 := hide (roomy_any A m c w.heap.size b w (Nat.le_refl _) hb (by omega))
  have Hb := hide hb
  have Hfit := hide hfit
  have Hst := hide hst
  clear hb hbl hfit hst
  go_enter Try.func6, Try.ntmps6
  go_wp2_with fail
  refine (unhide K1).mono ?_
  rintro e w1 ⟨g, rfl, ho1, hb1⟩
  have hr1 := Rd.of_own ho1
  have hcut := hr1.cutN (k := m) (by omega)
  rw [bys_take] at hcut
  have hbl : b.length = m := by simpa [bys] using (unhide Hb).len1
  rw [List.take_append_of_le_length (by omega), List.take_of_length_le (by omega)] at hcut
  have K2 := steps_any (some ⟨g, 0, none⟩) m (m + 7) w1.heap.size b w1 hcut (Nat.le_refl _) (by omega) (by omega)
  rw [unhide Hst] at K2
  replace K2 := hide K2
  have Hr1 := hide hr1
  have Hb1 := hide hb1
  clear hr1 hcut hbl ho1 hb1 K1
  go_wp2_with fail
  refine (unhide K2).mono ?_
  rintro e w2 ⟨L, A2, c2, rfl, hL, hrow, hb2⟩
  have hb2' := (unhide Hb1).trans (hb2.mono (unhide Hb1).size)
  have K3 := rsteps_any A m c w.heap.size b w2 ((unhide Hb).below hb2') hb2'.size (by omega) hmc
  rw [unhide Hst] at K3
  replace K3 := hide K3
  have Hr2 := hide ((unhide Hr1).belowSz hb2)
  have HL := hide hL
  have Hrow := hide hrow
  have Hb2 := hide hb2'
  simp only
  clear hL hrow hb2 hb2' K2 Hr1 Hb1
  go_wp2_with fail
  refine (unhide K3).mono ?_
  rintro e w3 ⟨L', A3, c3, rfl, hL', hrow', hb3⟩
  have hb3' := (unhide Hb2).trans (hb3.mono (unhide Hb2).size)
  have hrow2 := (unhide Hrow).below hb3
  have hLL : L.map sPair = L'.map sPair := (unhide HL).trans hL'.symm
  have hlen : L.length = l.length := by have := congrArg List.length (unhide HL); simpa using this
  have hl65 : L.length ≤ 4294967296 := by
    have h1 := steps_len b
    rw [unhide Hst] at h1
    have h2 : b.length = m := by simpa [bys] using (unhide Hb).len1
    simp only at h1
    omega
  have K4 := hide (eq_yes A2 A3 c2 c3 w3.heap.size L L' w3 (Nat.le_refl _) (Rd.of_own hrow2.own) (Rd.of_own hrow'.own) hLL hl65 (fun s hs => ⟨srow_ok hrow2 s hs, (unhide Hfit (sPair s) (by have h1 : sPair s ∈ L.map sPair := List.mem_map.2 ⟨s, hs, rfl⟩; rw [unhide HL] at h1; exact h1)).1, (unhide Hfit (sPair s) (by have h1 : sPair s ∈ L.map sPair := List.mem_map.2 ⟨s, hs, rfl⟩; rw [unhide HL] at h1; exact h1)).2⟩) (fun s hs => srow_ok hrow' s hs))
  have Hr3 := hide ((unhide Hr2).belowSz hb3)
  have Hb3 := hide hb3'
  have he1 : (ev == ev) = true := beq_self_eq_true _
  simp only
  clear hL' hrow' hrow2 hb3 hb3' hLL hlen hl65 K3 Hr2 Hb2 Hrow HL
  go_wp2_with fail
  refine (unhide K4).mono ?_
  rintro e w4 ⟨rfl, hb4⟩
  have hb4' := (unhide Hb3).trans (hb4.mono (unhide Hb3).size)
  have K5 := hide (kept_yes g A m c w4.heap.size b w4 ((unhide Hr3).belowSz hb4) ((unhide Hb).belowSz hb4') (by omega))
  have Hb4 := hide hb4'
  clear hb4 hb4' K4
  go_wp2_with fail
  refine (unhide K5).mono ?_
  rintro e w5 ⟨rfl, j, rfl⟩
  have Hb5 := hide (below_drewN' (unhide Hb4) j)
  clear K5
  go_wp2_with fail
  refine ((unhide KW) _).mono ?_
  rintro e w6 ⟨rfl, hb6⟩
  have Hb6 := hide ((unhide Hb5).trans (hb6.mono (unhide Hb5).size))
  clear hb6
  go_wp2_with fail
  go_ret
  exact ⟨rfl, unhide Hb6⟩
end Go.Proofs.Ytphbkjdheopmhaa
