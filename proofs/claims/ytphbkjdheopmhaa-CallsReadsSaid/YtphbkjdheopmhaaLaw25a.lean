/- The walks of the law's own helpers: large, Large, works. Conditions: as calls'. -/
import Derived.Test.YtphbkjdheopmhaaSteps2
namespace Go.Proofs.Ytphbkjdheopmhaa
set_option linter.unusedVariables false
set_option linter.unusedSimpArgs false
open Go.RowKit

def sumM : List ByteArray → Nat
  | [] => 0
  | s :: r => min s.size 262144 + sumM r
theorem sumM_app (a b : List ByteArray) : sumM (a ++ b) = sumM a + sumM b := by
  induction a with
  | nil => simp [sumM]
  | cons s r ih => simp only [List.cons_append, sumM, ih]; omega
theorem sumM_mem {l : List ByteArray} {x : ByteArray} (h : x ∈ l) : min x.size 262144 ≤ sumM l := by
  induction l with
  | nil => cases h
  | cons s r ih =>
    simp only [sumM]
    rcases List.mem_cons.1 h with rfl | h
    · omega
    · have := ih h; omega
theorem sumM_snoc {l : List ByteArray} {k : Nat} {x : ByteArray} (h : l[k]? = some x) : sumM (l.take (k + 1)) = sumM (l.take k) + min x.size 262144 := by
  rw [List.take_add_one, h, sumM_app]
  simp [sumM]

set_option maxRecDepth 100000 in
set_option maxHeartbeats 1000000 in
theorem large_any (A : Option Addr) (n c B : Nat) (l : List ByteArray) (w : World) (hl : Rd w B 1 A n (l.map Value.string)) (hs : ∀ x ∈ l, x.size ≤ maxLen) (hn : n ≤ maxLen) :
    Calls Try.prog 27 #[.slice A n c] w fun e w' => ∃ r, e = .returned (.bool r) ∧ w = w' ∧ (r = false → n ≤ 131072 ∧ ∀ x ∈ l, x.size ≤ 131072) := by
  have hln : l.length = n := by simpa using hl.len1
  unfold maxLen at hn
  have Hl := hide hl
  have Hln := hide hln
  have Hs := hide hs
  clear hl hln hs
  go_enter Try.func27, Try.ntmps27
  go_wp2_with fail
  go_loopg [3, 4] n (fun gk nv i wr => ∃ k m : Nat, gk = n - k ∧ k ≤ n ∧ i = .int .i64 k ∧ nv = .int .i64 m ∧ m = n + sumM (l.take k) ∧ (k = 0 ∨ m ≤ 393216) ∧ w = wr)
  case atStart => exact ⟨0, n, by omega, by omega, rfl, rfl, by simp [sumM], .inl rfl, rfl⟩
  case round =>
  obtain ⟨k, m, hgk, hk, rfl, rfl, hmn, hm0, rfl⟩ := hrel
  have Hgk := hide hgk
  have Hmn := hide hmn
  clear hgk hmn
  have hmb : m ≤ 9223372036854775807 := by
    rcases hm0 with rfl | h
    · have := unhide Hmn; simp [sumM] at this; omega
    · omega
  by_cases hlt : k < n
  case neg =>
    obtain rfl : k = n := by omega
    have htk : l.take k = l := List.take_of_length_le (by have := unhide Hln; omega)
    have hnn := unhide Hmn
    rw [htk] at hnn
    have Hnn := hide hnn
    clear htk hnn hm0
    go_wp2_with fail
    go_ret
    refine ⟨_, rfl, rfl, fun hr => ?_⟩
    have hm : m ≤ 131072 := by
      have h : (m : Int) ≤ 131072 := by simpa using hr
      omega
    have h1 := unhide Hnn
    refine ⟨by omega, fun x hx => ?_⟩
    have h2 := sumM_mem hx
    omega
  by_cases hbig : m ≤ 131072
  case neg =>
    have hb : ((m : Int) ≤ 131072) = False := by simp; omega
    clear hm0
    go_wp2_with fail
    go_ret
    exact ⟨_, rfl, rfl, fun hr => by simp at hr; omega⟩
  obtain ⟨x, hx⟩ : ∃ x, l[k]? = some x := ⟨_, List.getElem?_eq_getElem (by rw [unhide Hln]; exact hlt)⟩
  obtain ⟨b1, o1, rfl, _, c1⟩ := (unhide Hl).at_ (k := k) (u := .string x) (by simp [hx])
  have hxs := (unhide Hs) x (List.mem_of_getElem? hx)
  unfold maxLen at hxs
  have Hsn := hide (sumM_snoc hx)
  clear hx hm0
  by_cases hmin : x.size ≤ 262144
  · have hmin' : (x.size : Int) ≤ 262144 := by omega
    go_wp2_with fail
    go_roundg (n - (k + 1))
    case measure => have := unhide Hgk; omega
    case rel => exact ⟨k + 1, m + x.size, rfl, by omega, by go_num, by go_num, by rw [unhide Hsn, Nat.min_eq_left hmin]; have := unhide Hmn; omega, .inr (by omega), rfl⟩
  · have hmin' : (262144 : Int) < (x.size : Int) := by omega
    go_wp2_with fail
    go_roundg (n - (k + 1))
    case measure => have := unhide Hgk; omega
    case rel => exact ⟨k + 1, m + 262144, rfl, by omega, by go_num, by go_num, by rw [unhide Hsn, Nat.min_eq_right (by omega)]; have := unhide Hmn; omega, .inr (by omega), rfl⟩
/-- What is not large. -/
structure NotLarge (q : Cl.C) : Prop where
  a1 : q.argv.length ≤ 131072
  a2 : ∀ x ∈ q.argv, x.size ≤ 131072
  e1 : q.env.length ≤ 131072
  e2 : ∀ x ∈ q.env, x.size ≤ 131072
  p : q.path.size ≤ 131072
  b : q.bytes.length ≤ 131072

set_option maxRecDepth 100000 in
set_option maxHeartbeats 1000000 in
theorem Large_any (q : Cl.C) (x y z : Sl) (B : Nat) (w : World) (hq : ClOk w B q x y z) (hB : B ≤ w.heap.size) (hf : ClFit q) :
    Calls Try.prog 10 #[.agg (clCells q x y z)] w fun e w' => ∃ r, e = .returned (.bool r) ∧ Below w.heap.size w w' ∧ (r = false → NotLarge q) := by
  have hbox : (w.alloc (.cells (clCells q x y z) 26)).heap[w.heap.size]? = some (.cells (clCells q x y z) 26 (0, 0)) := heap_alloc_new _ _
  obtain ⟨v0, v1, v2, v3, v4, v5, v6, v7, v8, v9⟩ := box10 hbox
  have hqW := hq.alloc hB (.cells (clCells q x y z) 26)
  have hl1 := hf.l1; have hl2 := hf.l2; have hl3 := hf.l3; have hp := hf.p
  rw [hq.n1] at hl1; rw [hq.n2] at hl2; rw [hq.n3] at hl3
  have hn1 := hq.n1; have hn2 := hq.n2; have hn3 := hq.n3
  have K1 := hide (large_any x.A x.n x.c B q.argv _ hqW.r1 hf.s1 hl1)
  have K2 := hide (large_any y.A y.n y.c B q.env _ hqW.r2 hf.s2 hl2)
  have hbW : Below w.heap.size w (w.alloc (.cells (clCells q x y z) 26)) := (Below.refl _ _).alloc (Nat.le_refl _) _
  have Hb := hide hbW
  have Hn := hide (And.intro hn1 (And.intro hn2 hn3))
  clear hbox hqW hq hf hbW hn1 hn2 hn3 v0 v1 v2 v3 v4 v5
  unfold maxLen at hl3 hp
  go_enter Try.func10, Try.ntmps10
  go_wp2_with fail
  refine (unhide K1).mono ?_
  rintro e w1 ⟨r1, rfl, rfl, h1⟩
  have H1 := hide h1
  clear h1 K1
  cases r1
  case true =>
    clear K2
    go_wp2_with fail
    go_ret
    exact ⟨true, rfl, unhide Hb, fun h => by cases h⟩
  go_wp2_with fail
  refine (unhide K2).mono ?_
  rintro e w1 ⟨r2, rfl, rfl, h2⟩
  have H2 := hide h2
  clear h2 K2
  cases r2
  case true =>
    go_wp2_with fail
    go_ret
    exact ⟨true, rfl, unhide Hb, fun h => by cases h⟩
  by_cases hpp : q.path.size ≤ 131072
  case neg =>
    have h3 : (131072 : Int) < (q.path.size : Int) := by omega
    go_wp2_with fail
    go_ret
    exact ⟨_, rfl, unhide Hb, fun h => by first | (simp at h; done) | (simp at h; omega)⟩
  by_cases hbb : z.n ≤ 131072
  case neg =>
    have h3 : ¬ (131072 : Int) < (q.path.size : Int) := by omega
    have h4 : (131072 : Int) < (z.n : Int) := by omega
    go_wp2_with fail
    go_ret
    exact ⟨_, rfl, unhide Hb, fun h => by first | (simp at h; done) | (simp at h; omega)⟩
  have h3 : ¬ (131072 : Int) < (q.path.size : Int) := by omega
  have h4 : ¬ (131072 : Int) < (z.n : Int) := by omega
  go_wp2_with fail
  go_ret
  refine ⟨_, rfl, unhide Hb, fun _ => ?_⟩
  obtain ⟨n1, n2, n3⟩ := unhide Hn
  have g1 := unhide H1 (by first | trivial | rfl)
  have g2 := unhide H2 (by first | trivial | rfl)
  exact ⟨by have := g1.1; omega, g1.2, by have := g2.1; omega, g2.2, hpp, by omega⟩

theorem own_cap {w : World} {base : Nat} {e : TypeId} {size n c : Nat} {A : Option Addr} {xs : List Value} (h : w.ownsRow base e size (.slice A n c) n xs) : n ≤ c := by
  rcases h.2 with ⟨h0, h1⟩ | ⟨g, cap, cur, hv, hb, hg, hnc, _⟩
  · omega
  · injection hv with _ _ h3
    omega
/-- The anchor's call, its bytes, its two steps. -/
def qA : Cl.C := ⟨10, 1, 0, 0, 0, 0, ⟨#[97]⟩, [], [], []⟩
theorem qA_check : Cl.check qA = 0 := by kernel_rfl
theorem qA_form : Cl.form qA = [10, 1, 0, 97, 1, 0, 0, 0, 0, 0, 0, 0] := by kernel_rfl
theorem qA_steps : Cl.steps ([7] ++ [10, 1, 0, 97, 1, 0, 0, 0, 0, 0, 0, 0] ++ [1, 2]) = ([(7, qA), (1, Cl.kindC 2)], 0, 0) := by kernel_rfl
theorem qA_fit : ClFit qA := ⟨by decide, by decide, by decide, by decide, by decide, by decide, by decide, by decide, by decide, by decide, by simp [qA], by simp [qA]⟩
theorem qA_ok (w : World) (B : Nat) : ClOk w B qA slN slN slN := ⟨Rd.none_ _ _ _ _, Rd.none_ _ _ _ _, Rd.none_ _ _ _ _⟩
theorem two_steps {L : List SEl} {a b : Nat × Cl.C} (h : L.map sPair = [a, b]) : ∃ s0 s1, L = [s0, s1] ∧ sPair s0 = a ∧ sPair s1 = b := by
  rcases L with _ | ⟨s0, _ | ⟨s1, _ | ⟨s2, r⟩⟩⟩
  · simp at h
  · simp at h
  · simp at h; exact ⟨s0, s1, rfl, h.1, h.2⟩
  · simp at h
theorem two_cells {w : World} {base : Nat} {A : Option Addr} {c : Nat} {L : List SEl} (h : L.map sPair = [(7, qA), (1, Cl.kindC 2)]) (hrow : SRow w base A c L) : L.length = 2 ∧ ∃ g off, A = some ⟨g, off, none⟩ ∧ g < w.heap.size ∧
    w.cell? ⟨g, off + 0, none⟩ = some (.int .i64 7) ∧ w.cell? ⟨g, off + 7, none⟩ = some (.string ⟨#[97]⟩) ∧ w.cell? ⟨g, off + 12, none⟩ = some (.int .u8 2) := by
  obtain ⟨s0, s1, rfl, hs0, hs1⟩ := two_steps h
  have hrd := Rd.of_own hrow.own
  obtain ⟨g, off, hA, hgb, hcell⟩ := hrd.open_ (by simp [rowOf])
  have e0 : s0.p = 7 := congrArg Prod.fst hs0
  have e0q : s0.q = qA := congrArg Prod.snd hs0
  have e1q : s1.q = Cl.kindC 2 := congrArg Prod.snd hs1
  exact ⟨rfl, g, off, hA, hgb, hcell 0 (.int .i64 7) (by simp [rowOf, e0]), hcell 7 (.string ⟨#[97]⟩) (by simp [rowOf, e0q, qA]), hcell 12 (.int .u8 2) (by simp [rowOf, e1q, Cl.kindC])⟩

set_option maxRecDepth 100000 in
set_option maxHeartbeats 2000000 in
theorem works_any (w : World) : Calls Try.prog 11 #[] w fun e w' => e = .returned (.bool true) ∧ Below w.heap.size w w' := by
  have K1 := callForm_good qA slN slN slN 0 w (qA_ok w 0) (Nat.zero_le _) qA_fit qA_check
  rw [qA_form] at K1
  replace K1 := hide K1
  go_enter Try.func11, Try.ntmps11
  go_wp2_with fail
  refine (unhide K1).mono ?_
  rintro e w1 ⟨A1, c1, rfl, ho1, hb1⟩
  have hsz1 := hb1.size
  have h7 := own_one w1 7
  have hr1 := (Rd.of_own ho1).alloc (Nat.le_refl _) (.cells #[.int .u8 7] 5)
  have hbW := (hb1.alloc hsz1 (.cells #[.int .u8 7] 5))
  have H7 := hide h7
  have Hr1 := hide hr1
  have HbW := hide hbW
  clear h7 hr1 hbW ho1 hb1 K1
  go_wp2_with (first
    | (at_builtin; refine wpList_app byteTy rfl _ _ rfl w1.heap.size (.slice (some ⟨w1.heap.size, 0, none⟩) 1 1) 1 (bys [7]) rfl (unhide H7) w1.heap.size A1 12 c1 (bys [10, 1, 0, 97, 1, 0, 0, 0, 0, 0, 0, 0]) rfl (unhide Hr1) (bys_one _) (by omega) (by simp) ?_; intro A2 c2 w2 ho2 hg2 hat2; have Ho2 := hide ho2; have Hb2 := hide ((unhide HbW).grown hg2 (by simp; omega) (fun k hk => (by simp [Value.ownBlock] at hk; omega))); have hsz2 := hg2.size; clear ho2 hg2 hat2)
    | (at_builtin; refine wpList_app byteTy rfl _ _ rfl w1.heap.size (.slice A2 13 c2) 13 (bys [7] ++ bys [10, 1, 0, 97, 1, 0, 0, 0, 0, 0, 0, 0]) rfl ((unhide Ho2).alloc _) (w2.heap.size + 1) (some ⟨w2.heap.size, 0, none⟩) 2 2 [.int .u8 1, .int .u8 2] rfl (rd_lit2 w2 (.int .u8 1) (.int .u8 2) 5) (by simp [Value.oneCell']) (by omega) (by simp at hsz2 ⊢; omega) ?_; intro A3 c3 w3 ho3 hg3 hat3; have Ho3 := hide ho3; have Hb3 := hide (((unhide Hb2).alloc (unhide Hb2).size (.cells #[.int .u8 1, .int .u8 2] 5)).grown hg3 (by have := (unhide Hb2).size; simp; omega) (fun k hk => Nat.le_trans hsz1 ((unhide Ho2).lt k hk).1)); clear ho3 hg3 hat3))
  have K3 := steps_any A3 15 c3 w3.heap.size ([7] ++ [10, 1, 0, 97, 1, 0, 0, 0, 0, 0, 0, 0] ++ [1, 2]) w3 (Rd.of_own (unhide Ho3)) (Nat.le_refl _) (by omega) (own_cap (unhide Ho3))
  rw [qA_steps] at K3
  refine K3.mono ?_
  rintro e w4 ⟨L, A4, c4, rfl, hL, hrow, hb4⟩
  obtain ⟨hl2, g, off, hA, hgb, y0, y7, y12⟩ := two_cells hL hrow
  rw [Nat.add_zero] at y0
  have y7b : w4.cell? ⟨g, off + 1 + 6, none⟩ = some (.string ⟨#[97]⟩) := y7
  have y12b : w4.cell? ⟨g, off + 11 + 1, none⟩ = some (.int .u8 2) := y12
  have hq97 : ((⟨#[97]⟩ : ByteArray).toList == (⟨#[97]⟩ : ByteArray).toList) = true := beq_self_eq_true _
  rw [hl2]
  have Hbe := hide ((unhide Hb3).trans (hb4.mono (unhide Hb3).size))
  subst hA
  clear hL hrow hl2 hb4 K3 Hb3 Ho3 Hb2 Ho2 H7 Hr1 HbW
  go_wp2_with fail
  go_ret
  exact ⟨rfl, unhide Hbe⟩
end Go.Proofs.Ytphbkjdheopmhaa
