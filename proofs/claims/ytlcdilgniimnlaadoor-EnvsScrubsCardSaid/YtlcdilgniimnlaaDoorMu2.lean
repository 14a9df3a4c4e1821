/- The statement EnvsScrubs: whatever the input, the law returns true, and what was there reads as it did. No conditions. Ahead of it: The walks of the law's own helpers: large, roomy, kept, own. Conditions: as the lists'. The anchor of the law, and the walk of EnvsChecks. Conditions: as the argument's. The walk of EnvsSets. Conditions: as the argument's. The walk of EnvsScrubs. Conditions: as the argument's. -/
import Derived.Test.YtlcdilgniimnlaaDoorMu1
import Derived.Test.YtlcdilgniimnlaaDoorRows
import Derived.Test.YtlcdilgniimnlaaDoorCards
import Derived.Test.YtlcdilgniimnlaaDoorTie
import Derived.Lay
import Derived.LaidMore
import Derived.SevenTiedAt
import Derived.ProofKit
import Derived.OpenShut
import Derived.ShutString
import Derived.ChangeOld
import Derived.Below
import Derived.SliceStrings
namespace Go.Proofs.YtlcdilgniimnlaaDoor
set_option linter.unusedVariables false
set_option linter.unusedSimpArgs false
open Go.RowKit

def sumE : List ByteArray → Nat
  | [] => 0
  | s :: r => min s.size 262144 + sumE r
theorem sumE_app (a b : List ByteArray) : sumE (a ++ b) = sumE a + sumE b := by
  induction a with
  | nil => simp [sumE]
  | cons s r ih => simp only [List.cons_append, sumE, ih]; omega
theorem sumE_mem {l : List ByteArray} {x : ByteArray} (h : x ∈ l) : min x.size 262144 ≤ sumE l := by
  induction l with
  | nil => cases h
  | cons s r ih =>
    simp only [sumE]
    rcases List.mem_cons.1 h with rfl | h
    · omega
    · have := ih h; omega
theorem sumE_snoc {l : List ByteArray} {k : Nat} {x : ByteArray} (h : l[k]? = some x) : sumE (l.take (k + 1)) = sumE (l.take k) + min x.size 262144 := by
  rw [List.take_add_one, h, sumE_app]
  simp [sumE]

set_option maxRecDepth 100000 in
set_option maxHeartbeats 1000000 in
theorem elarge_any (A : Option Addr) (n c B : Nat) (l : List ByteArray) (w : World) (hl : Rd w B 1 A n (l.map Value.string)) (hs : ∀ x ∈ l, x.size ≤ maxLen) (hn : n ≤ maxLen) :
    Calls Tryd.prog 8 #[.slice A n c] w fun e w' => ∃ r, e = .returned (.bool r) ∧ w = w' ∧ (r = false → n ≤ 131072 ∧ ∀ x ∈ l, x.size ≤ 131072) := by
  have hln : l.length = n := by simpa using hl.len1
  unfold maxLen at hn
  have Hl := hide hl
  have Hln := hide hln
  have Hs := hide hs
  clear hl hln hs
  go_enter Tryd.func8, Tryd.ntmps8
  go_wp2_with fail
  go_loopg [3, 4] n (fun gk nv i wr => ∃ k m : Nat, gk = n - k ∧ k ≤ n ∧ i = .int .i64 k ∧ nv = .int .i64 m ∧ m = n + sumE (l.take k) ∧ (k = 0 ∨ m ≤ 393216) ∧ w = wr)
  case atStart => exact ⟨0, n, by omega, by omega, rfl, rfl, by simp [sumE], .inl rfl, rfl⟩
  case round =>
  obtain ⟨k, m, hgk, hk, rfl, rfl, hmn, hm0, rfl⟩ := hrel
  have Hgk := hide hgk
  have Hmn := hide hmn
  clear hgk hmn
  have hmb : m ≤ 9223372036854775807 := by
    rcases hm0 with rfl | h
    · have := unhide Hmn; simp [sumE] at this; omega
    · omega
  by_cases hlt : k < n
  case neg =>
    obtain rfl : k = n := by omega
    have htk : l.take k = l := List.take_of_length_le (by have := unhide Hln; omega)
    have hnn := unhide Hmn
    rw [htk] at hnn
    have Hnn := hide hnn
    clear htk hnn hm0
    go_wp2_with fail
    go_ret
    refine ⟨_, rfl, rfl, fun hr => ?_⟩
    have hm : m ≤ 131072 := by
      have h : (m : Int) ≤ 131072 := by simpa using hr
      omega
    have h1 := unhide Hnn
    refine ⟨by omega, fun x hx => ?_⟩
    have h2 := sumE_mem hx
    omega
  by_cases hbig : m ≤ 131072
  case neg =>
    have hb : ((m : Int) ≤ 131072) = False := by simp; omega
    clear hm0
    go_wp2_with fail
    go_ret
    exact ⟨_, rfl, rfl, fun hr => by simp at hr; omega⟩
  obtain ⟨x, hx⟩ : ∃ x, l[k]? = some x := ⟨_, List.getElem?_eq_getElem (by rw [unhide Hln]; exact hlt)⟩
  obtain ⟨b1, o1, rfl, _, c1⟩ := (unhide Hl).at_ (k := k) (u := .string x) (by simp [hx])
  have hxs := (unhide Hs) x (List.mem_of_getElem? hx)
  unfold maxLen at hxs
  have Hsn := hide (sumE_snoc hx)
  clear hx hm0
  by_cases hmin : x.size ≤ 262144
  · have hmin' : (x.size : Int) ≤ 262144 := by omega
    go_wp2_with fail
    go_roundg (n - (k + 1))
    case measure => have := unhide Hgk; omega
    case rel => exact ⟨k + 1, m + x.size, rfl, by omega, by go_num, by go_num, by rw [unhide Hsn, Nat.min_eq_left hmin]; have := unhide Hmn; omega, .inr (by omega), rfl⟩
  · have hmin' : (262144 : Int) < (x.size : Int) := by omega
    go_wp2_with fail
    go_roundg (n - (k + 1))
    case measure => have := unhide Hgk; omega
    case rel => exact ⟨k + 1, m + 262144, rfl, by omega, by go_num, by go_num, by rw [unhide Hsn, Nat.min_eq_right (by omega)]; have := unhide Hmn; omega, .inr (by omega), rfl⟩

def xy : List ByteArray := [⟨#[120]⟩, ⟨#[121]⟩]
set_option maxRecDepth 100000 in
set_option maxHeartbeats 1000000 in
theorem eroomy_any (A : Option Addr) (n c B : Nat) (l : List ByteArray) (w : World) (hl : Rd w B 1 A n (l.map Value.string)) (hB : B ≤ w.heap.size) (hn : n ≤ 1000000000) :
    Calls Tryd.prog 10 #[.slice A n c] w fun e w' => ∃ g c', e = .returned (.slice (some ⟨g, 0, none⟩) n c') ∧ w'.ownsRow w.heap.size 9 1 (.slice (some ⟨g, 0, none⟩) (n + 2) c') (n + 2) ((l ++ xy).map Value.string) ∧ Below w.heap.size w w' := by
  have K := hide (copyTexts_any A n c B l w hB hl (by omega))
  clear hl
  go_enter Tryd.func10, Tryd.ntmps10
  go_wp2_with fail
  refine (unhide K).mono ?_
  rintro e w1 ⟨A1, c1, rfl, ho1, hb1⟩
  have Ho1 := hide ho1
  have Hb1 := hide hb1
  have hs1 := hb1.size
  clear ho1 hb1 K
  go_wp2_with (at_builtin; (refine wpList_app strTy rfl _ _ rfl w.heap.size (.slice A1 n c1) n _ rfl ((unhide Ho1).alloc _) (w1.heap.size + 1) (some ⟨w1.heap.size, 0, none⟩) 2 2 (xy.map Value.string) rfl (Rd.rowF (cs := #[.string ⟨#[120]⟩, .string ⟨#[121]⟩]) rfl) (strs_oneE _) (by omega) (by rw [World.size_alloc]; omega) ?_; intro A3 c3 w3 ho3 hg3 hat3; have hb3 := ((unhide Hb1).alloc hs1 (.cells #[.string ⟨#[120]⟩, .string ⟨#[121]⟩] 9)).grown hg3 (by rw [World.size_alloc]; omega) (fun k' hk' => ((unhide Ho1).lt k' hk').1); rw [← List.map_append] at ho3; have hcap3 := own_cap ho3; have hnc3 : n ≤ c3 := (by omega); obtain ⟨g, rfl, _, _⟩ := own_some ho3 (by omega); have Ho3 := hide ho3; have Hb3 := hide hb3; clear ho3 hg3 hat3 hb3))
  go_ret
  exact ⟨g, c3, rfl, unhide Ho3, unhide Hb3⟩

set_option maxRecDepth 100000 in
set_option maxHeartbeats 1000000 in
theorem ekept_yes (g c' : Nat) (A : Option Addr) (n c B B' : Nat) (l : List ByteArray) (w : World) (hi : Rd w B 1 (some ⟨g, 0, none⟩) (n + 2) ((l ++ xy).map Value.string)) (hb : Rd w B' 1 A n (l.map Value.string)) (hc : n + 2 ≤ c') (hn : n ≤ 1000000000) :
    Calls Tryd.prog 17 #[.slice (some ⟨g, 0, none⟩) n c', .slice A n c] w fun e w' => e = .returned (.bool true) ∧ ∃ j, w' = w.drewN j := by
  have hln : l.length = n := by simpa using hb.len1
  have hfront : Rd w B 1 (some ⟨g, 0, none⟩) n (l.map Value.string) := by
    have h := hi.cutN (k := n) (by omega)
    rwa [← List.map_take, List.take_left' hln] at h
  have K := eqTexts_any (some ⟨g, 0, none⟩) A n n c' c (max B B') l l w (hfront.more (by omega)) (hb.more (by omega)) (by unfold maxLen; omega) (by unfold maxLen; omega)
  rw [decide_eq_true rfl] at K
  obtain ⟨b1, o1, e1, _, c1⟩ := hi.at_ (k := n) (u := .string ⟨#[120]⟩) (by rw [List.getElem?_map, List.getElem?_append_right (by omega), hln, Nat.sub_self]; rfl)
  obtain ⟨b2, o2, e2, _, c2⟩ := hi.at_ (k := n + 1) (u := .string ⟨#[121]⟩) (by rw [List.getElem?_map, List.getElem?_append_right (by omega), hln, Nat.add_sub_cancel_left]; rfl)
  injection e1 with e1
  injection e1 with e1a e1b
  injection e2 with e2
  injection e2 with e2a e2b
  subst e1a e1b e2a e2b
  rw [Nat.zero_add] at c1 c2
  have K' := hide K
  have hq1 : ((⟨#[120]⟩ : ByteArray).toList == (⟨#[120]⟩ : ByteArray).toList) = true := beq_self_eq_true _
  have hq2 : ((⟨#[121]⟩ : ByteArray).toList == (⟨#[121]⟩ : ByteArray).toList) = true := beq_self_eq_true _
  clear hi hb hln hfront K
  go_enter Tryd.func17, Tryd.ntmps17
  go_wp2_with fail
  refine (unhide K').mono ?_
  rintro e w1 ⟨rfl, j, rfl⟩
  have d1 : (w.drewN j).cell? ⟨g, n, none⟩ = some (.string ⟨#[120]⟩) := c1
  have d2 : (w.drewN j).cell? ⟨g, n + 1, none⟩ = some (.string ⟨#[121]⟩) := c2
  go_wp2_with fail
  go_ret
  exact ⟨rfl, j, rfl⟩

set_option maxRecDepth 100000 in
set_option maxHeartbeats 1000000 in
theorem eown_any (A3 : Option Addr) (m c3 base : Nat) (L : List Value) (g c' : Nat) (A : Option Addr) (n c B : Nat) (l : List ByteArray) (w : World) (ho : w.ownsRow base 9 1 (.slice A3 m c3) m L) (hbase : base ≤ w.heap.size)
    (hi : Rd w B 1 (some ⟨g, 0, none⟩) (n + 2) ((l ++ xy).map Value.string)) (hb : Rd w B 1 A n (l.map Value.string)) (hB : B ≤ base) (hc : n + 2 ≤ c') (hn : n ≤ 1000000000) (hm : m ≤ 1000000001) :
    Calls Tryd.prog 25 #[.slice A3 m c3, .slice (some ⟨g, 0, none⟩) n c', .slice A n c] w fun e w' => e = .returned (.bool true) ∧ w.grownBy w' (Value.slice A3 m c3).ownBlock := by
  have Ho := hide ho
  have Hi := hide hi
  have Hb := hide hb
  clear ho hi hb
  go_enter Tryd.func25, Tryd.ntmps25
  go_wp2_with (at_builtin; refine wpList_app1 strTy rfl _ _ rfl base (.slice A3 m c3) m _ rfl (unhide Ho) _ rfl rfl (by simp [Value.oneCell']) (by omega) hbase ?_; intro A4 c4 w4 ho4 hg4 hat4; have Ho4 := hide ho4; have Hg4 := hide hg4; have Hat4 := hide hat4; clear ho4 hg4 hat4)
  obtain ⟨g4, rfl, hb4, hl4⟩ := own_some (unhide Ho4) (by omega)
  have hbel0 : Below base w w4 := (Below.refl base w).grown (unhide Hg4) hbase (fun k hk => ((unhide Ho).lt k hk).1)
  have Hbel0 := hide hbel0
  clear hbel0
  go_loopg [7] (m + 1) (fun gk iv wr => ∃ (k : Nat) (ys : List Value), gk = m + 1 - k ∧ k ≤ m + 1 ∧ iv = .int .i64 k ∧ wr.ownsRow base 9 1 (.slice (some ⟨g4, 0, none⟩) (m + 1) c4) (m + 1) ys ∧ w4.grownBy wr (some g4))
  case atStart => exact ⟨0, _, by omega, by omega, rfl, unhide Ho4, ⟨rfl, rfl, rfl, Nat.le_refl _, fun _ _ _ => rfl⟩⟩
  case round =>
  obtain ⟨k, ys, hgk, hk, rfl, ho5, hg5⟩ := hrel
  have Hgk := hide hgk
  have Ho5 := hide ho5
  have Hg5 := hide hg5
  have hyl : ys.length = m + 1 := by have := ho5.1; omega
  have Hyl := hide hyl
  clear hgk ho5 hg5 hyl
  by_cases hlt : k < m + 1
  · obtain ⟨y, hy⟩ : ∃ y, ys[k]? = some y := ⟨_, List.getElem?_eq_getElem (by rw [unhide Hyl]; exact hlt)⟩
    have ci := own_cell (unhide Ho5) hy
    have fi := own_free (unhide Ho5) k
    have hset := own_set (i := k) (unhide Ho5) (.string ⟨#[33]⟩)
    have Hset := hide hset
    clear hset hy
    go_wp2_with fail
    go_roundg (m + 1 - (k + 1))
    case measure => have := unhide Hgk; omega
    case rel => exact ⟨k + 1, _, rfl, by omega, by go_num, unhide Hset, grown_trans (unhide Hg5) ⟨rfl, rfl, rfl, by simp, fun k _ hk => heap_setCell_other _ _ _ _ (fun e => hk (by rw [e]))⟩⟩
  · have hbel : Below base w wr := (unhide Hbel0).grown (unhide Hg5) (Nat.le_trans hbase (unhide Hbel0).size) (fun k' hk' => by injection hk' with hk'; omega)
    have K := hide (ekept_yes g c' A n c B B l wr ((unhide Hi).below (hbel.mono hB)) ((unhide Hb).below (hbel.mono hB)) hc hn)
    have hfin : ∀ j, w.grownBy (wr.drewN j) (Value.slice A3 m c3).ownBlock := by
      intro j
      refine ⟨(unhide Hg5).os.trans (unhide Hg4).os, (unhide Hg5).tape.trans (unhide Hg4).tape, (unhide Hg5).output.trans (unhide Hg4).output, Nat.le_trans (unhide Hg4).size (unhide Hg5).size, fun i hi hr => ?_⟩
      refine ((unhide Hg5).block i (Nat.lt_of_lt_of_le hi (unhide Hg4).size) (fun e => ?_)).trans ((unhide Hg4).block i hi hr)
      rcases (unhide Hat4) g4 rfl with h1 | h1
      · exact hr (by rw [h1]; exact e)
      · injection e with e
        omega
    have Hfin := hide hfin
    clear hbel hfin
    go_wp2_with fail
    refine (unhide K).mono ?_
    rintro e w6 ⟨rfl, j, rfl⟩
    go_wp2_with fail
    go_ret
    exact ⟨rfl, (unhide Hfin) j⟩
end Go.Proofs.YtlcdilgniimnlaaDoor
namespace Go.Proofs.YtlcdilgniimnlaaDoor
set_option linter.unusedVariables false
set_option linter.unusedSimpArgs false
open Go.RowKit

def eB1 : ByteArray := ⟨#[66, 61, 49]⟩
def eA2 : ByteArray := ⟨#[65, 61, 50]⟩
theorem anc_bad : Ev.badSet ⟨#[65]⟩ ⟨#[50]⟩ = false := by decide +kernel
theorem anc_set : Ev.set [⟨#[66, 61, 49]⟩] ⟨#[65]⟩ ⟨#[50]⟩ = [⟨#[66, 61, 49]⟩, ⟨#[65, 61, 50]⟩] := by decide +kernel
theorem anc_get : Ev.get [⟨#[66, 61, 49]⟩, ⟨#[65, 61, 50]⟩] ⟨#[65]⟩ = (⟨#[50]⟩, true) := by decide +kernel
theorem anc_scrub : Ev.scrub [⟨#[84, 77, 80, 68, 73, 82, 61, 120]⟩, ⟨#[65, 61, 49]⟩] = [⟨#[65, 61, 49]⟩] := by decide +kernel
theorem anc_list : (Ev.list (⟨#[58]⟩ : ByteArray).data.toList).length = 2 := by decide +kernel
theorem anc_check : Cl.envCk [⟨#[0]⟩] = 1 := by decide +kernel

set_option maxRecDepth 100000 in
set_option maxHeartbeats 4000000 in
theorem eworks_any (w : World) : Calls Tryd.prog 9 #[] w fun e w' => e = .returned (.bool true) ∧ Below w.heap.size w w' := by
  have r1 : Rd (w.alloc (.cells #[.string ⟨#[66, 61, 49]⟩] 9)) (w.heap.size + 1) 1 (some ⟨w.heap.size, 0, none⟩) 1 ([(⟨#[66, 61, 49]⟩ : ByteArray)].map Value.string) := Rd.row rfl
  have hb1 : Below w.heap.size w (w.alloc (.cells #[.string ⟨#[66, 61, 49]⟩] 9)) := (Below.refl _ _).alloc (Nat.le_refl _) _
  have K1 := set_any (some ⟨w.heap.size, 0, none⟩) 1 1 (w.heap.size + 1) [⟨#[66, 61, 49]⟩] ⟨#[65]⟩ ⟨#[50]⟩ _ r1 (by simp) (by intro x hx; rw [List.mem_singleton] at hx; subst hx; decide) (by omega) (Nat.le_refl _) (by decide) (by decide)
  unfold SetE at K1
  rw [anc_bad, anc_set] at K1
  replace K1 := hide K1
  have Hb1 := hide hb1
  clear r1 hb1
  go_enter Tryd.func9, Tryd.ntmps9
  go_wp2_with fail
  refine (unhide K1).mono ?_
  rintro e w2 (⟨h, _⟩ | ⟨_, A2, c2, k2, rfl, hk2, ho2, hb2⟩)
  · cases h
  obtain rfl : k2 = 2 := hk2
  have hbB := (unhide Hb1).trans (hb2.mono (unhide Hb1).size)
  have K2 := get_any A2 2 c2 w2.heap.size _ ⟨#[65]⟩ w2 (Rd.of_own ho2) (Nat.le_refl _) (by intro x hx; simp at hx; rcases hx with rfl | rfl <;> decide) (by omega)
  rw [anc_get] at K2
  replace K2 := hide K2
  have Hb2 := hide hbB
  clear ho2 hb2 hbB K1 Hb1
  go_wp2_with fail
  refine (unhide K2).mono ?_
  rintro e w3 ⟨rfl, hb3⟩
  have hb3' := (unhide Hb2).trans (hb3.mono (unhide Hb2).size)
  have r3 : Rd (w3.alloc (.cells #[.string ⟨#[84, 77, 80, 68, 73, 82, 61, 120]⟩, .string ⟨#[65, 61, 49]⟩] 9)) (w3.heap.size + 1) 1 (some ⟨w3.heap.size, 0, none⟩) 2 ([(⟨#[84, 77, 80, 68, 73, 82, 61, 120]⟩ : ByteArray), ⟨#[65, 61, 49]⟩].map Value.string) := Rd.rowF (cs := #[.string ⟨#[84, 77, 80, 68, 73, 82, 61, 120]⟩, .string ⟨#[65, 61, 49]⟩]) rfl
  have K3 := scrub_any (some ⟨w3.heap.size, 0, none⟩) 2 2 (w3.heap.size + 1) _ _ r3 (by simp) (by intro x hx; simp at hx; rcases hx with rfl | rfl <;> decide) (by omega)
  rw [anc_scrub] at K3
  unfold EnvE at K3
  replace K3 := hide K3
  have Hb3 := hide (hb3'.alloc hb3'.size (.cells #[.string ⟨#[84, 77, 80, 68, 73, 82, 61, 120]⟩, .string ⟨#[65, 61, 49]⟩] 9))
  have hq50 : ((⟨#[50]⟩ : ByteArray).toList == (⟨#[50]⟩ : ByteArray).toList) = true := beq_self_eq_true _
  clear hb3 hb3' r3 K2 Hb2
  go_wp2_with fail
  refine (unhide K3).mono ?_
  rintro e w4 ⟨A4, c4, rfl, ho4, hb4⟩
  have hb4' := (unhide Hb3).trans (hb4.mono (unhide Hb3).size)
  have K4 := hide (list_any ⟨#[58]⟩ w4 (by decide))
  have Hb4 := hide hb4'
  clear ho4 hb4 hb4' K3 Hb3
  go_wp2_with fail
  refine (unhide K4).mono ?_
  rintro e w5 ⟨u, rfl, ho5, hb5⟩
  rw [anc_list] at ho5
  obtain ⟨A5, c5, rfl⟩ := own_form ho5
  have hb5' := (unhide Hb4).trans (hb5.mono (unhide Hb4).size)
  have r5 : Rd (w5.alloc (.cells #[.string ⟨#[0]⟩] 9)) (w5.heap.size + 1) 1 (some ⟨w5.heap.size, 0, none⟩) 1 ([(⟨#[0]⟩ : ByteArray)].map Value.string) := Rd.row rfl
  have K5 := envCheck_any (some ⟨w5.heap.size, 0, none⟩) 1 1 (w5.heap.size + 1) _ _ r5 (by intro x hx; rw [List.mem_singleton] at hx; subst hx; decide) (by decide)
  rw [anc_check] at K5
  replace K5 := hide K5
  have Hb5 := hide (hb5'.alloc hb5'.size (.cells #[.string ⟨#[0]⟩] 9))
  clear ho5 hb5 hb5' K4 Hb4 r5
  go_wp2_with fail
  refine (unhide K5).mono ?_
  rintro e w6 ⟨rfl, rfl⟩
  go_wp2_with fail
  go_ret
  exact ⟨rfl, unhide Hb5⟩

set_option maxRecDepth 100000 in
set_option maxHeartbeats 4000000 in
theorem envsChecks_walk (A : Option Addr) (n c : Nat) (l : List ByteArray) (name : ByteArray) (w : World) (hl : Rd w w.heap.size 1 A n (l.map Value.string)) (hs : ∀ x ∈ l, x.size ≤ maxLen) (hnc : n ≤ c) (hn : n ≤ maxLen) (hns : name.size ≤ maxLen) :
    Calls Tryd.prog 3 #[.slice A n c, .string name] w fun e w' => e = .returned (.bool true) ∧ Below w.heap.size w w' := by
  have KW := hide eworks_any
  have KL := hide (elarge_any A n c w.heap.size l w hl hs hn)
  have Hl := hide hl
  have Hs := hide hs
  unfold maxLen at hn hns
  clear hl hs
  go_enter Tryd.func3, Tryd.ntmps3
  go_wp2_with fail
  refine (unhide KL).mono ?_
  rintro e w1 ⟨r, rfl, rfl, hr⟩
  clear KL
  by_cases hout : r = true ∨ 131072 < name.size
  · clear hr
    have : (r = true) ∨ (r = false ∧ (131072 : Int) < (name.size : Int)) := by
      cases r
      · rcases hout with h | h
        · cases h
        · exact .inr ⟨rfl, by omega⟩
      · exact .inl rfl
    clear hout
    rcases this with rfl | ⟨rfl, hbig⟩
    all_goals
      go_wp2_with fail
      refine ((unhide KW) _).mono ?_
      rintro e w2 ⟨rfl, hb2⟩
      have Hb2 := hide hb2
      clear hb2
      go_wp2_with fail
      go_ret
      exact ⟨rfl, unhide Hb2⟩
  obtain rfl : r = false := by cases r; rfl; exact absurd (.inl rfl) hout
  obtain ⟨hn1, hs1⟩ := hr rfl
  have hns1 : ¬ (131072 : Int) < (name.size : Int) := by omega
  have hns2 : name.size ≤ 131072 := by omega
  have Hs1 : Hid (∀ x ∈ l, x.size ≤ maxLen) := hide (fun x hx => by have := hs1 x hx; unfold maxLen; omega)
  clear hout hr hs1 Hs
  have KR := hide (eroomy_any A n c w.heap.size l w (unhide Hl) (Nat.le_refl _) (by omega))
  go_wp2_with fail
  refine (unhide KR).mono ?_
  rintro e w2 ⟨g, c2, rfl, ho2, hb2⟩
  have hcap := own_cap ho2
  have hln : l.length = n := by simpa using (unhide Hl).len1
  have Hin := hide (Rd.of_own ho2)
  have hf := (Rd.of_own ho2).cutN (k := n) (by omega)
  rw [← List.map_take, List.take_left' hln] at hf
  have Hf := hide hf
  have Hb2 := hide hb2
  have Hl2 := hide ((unhide Hl).below hb2)
  have hw2 := hb2.size
  have K1 := hide (fun w => split_any name w (by unfold maxLen; omega))
  have K2 := hide (fun w => rsplit_any name w (by unfold maxLen; omega))
  clear ho2 hb2 KR hf hln
  go_wp2_with fail
  refine ((unhide K1) _).mono ?_
  rintro e w3 ⟨rfl, q1, rfl⟩
  go_wp2_with fail
  refine ((unhide K2) _).mono ?_
  rintro e w4 ⟨rfl, q2, rfl⟩
  have hb4 : Below w.heap.size w (w2.drewN (q1 + q2)) := below_drewN' (unhide Hb2) _
  have hf4 : Rd (w2.drewN (q1 + q2)) w2.heap.size 1 (some ⟨g, 0, none⟩) n (l.map Value.string) := (unhide Hf).drewN _
  have hin4 : Rd (w2.drewN (q1 + q2)) w2.heap.size 1 (some ⟨g, 0, none⟩) (n + 2) ((l ++ xy).map Value.string) := (unhide Hin).drewN _
  have hl4 : Rd (w2.drewN (q1 + q2)) w.heap.size 1 A n (l.map Value.string) := (unhide Hl2).drewN _
  have hz4 : (w2.drewN (q1 + q2)).heap.size = w2.heap.size := rfl
  have Hb4 := hide hb4
  have Hf4 := hide hf4
  have Hin4 := hide hin4
  have Hl4 := hide hl4
  have Hz4 := hide hz4
  clear hb4 hf4 hin4 hl4 hz4 K1 K2 Hb2 Hf Hin Hl2 Hl
  simp only [World.drewN_drewN]
  generalize w2.drewN (q1 + q2) = W at *
  obtain ⟨nm, hnm⟩ : ∃ nm, Ev.nm name = nm := ⟨_, rfl⟩
  obtain ⟨vl, hvl⟩ : ∃ vl, Ev.vl name = vl := ⟨_, rfl⟩
  obtain ⟨b, hbb⟩ : ∃ b, Ev.is name = b := ⟨_, rfl⟩
  simp only [hnm, hvl, hbb]
  clear hnm hvl hbb
  have K3 := get_any (some ⟨g, 0, none⟩) n c2 W.heap.size l name W ((unhide Hf4).more (by have := unhide Hz4; omega)) (Nat.le_refl _) (unhide Hs1) (by omega)
  obtain ⟨⟨gv, gb⟩, hg⟩ : ∃ r, Ev.get l name = r := ⟨_, rfl⟩
  rw [hg] at K3
  have Hg := hide hg
  replace K3 := hide K3
  clear hg
  go_wp2_with fail
  refine (unhide K3).mono ?_
  rintro e w5 ⟨rfl, hb5⟩
  have hb5' := (unhide Hb4).trans (hb5.mono (unhide Hb4).size)
  have hl5 := (unhide Hl4).below (hb5.mono (unhide Hb4).size)
  have K4 := rget_any A n c w.heap.size l name w5 hl5 (unhide Hs1) (by omega)
  rw [unhide Hg] at K4
  replace K4 := hide K4
  have Hb5 := hide hb5'
  have Hl5 := hide hl5
  have Hin5 := hide ((unhide Hin4).below (hb5.mono (by have := unhide Hz4; omega)))
  have Hf5 := hide ((unhide Hf4).below (hb5.mono (by have := unhide Hz4; omega)))
  clear hb5 hb5' hl5 K3 Hb4 Hl4 Hin4 Hf4
  go_wp2_with fail
  refine (unhide K4).mono ?_
  rintro e w6 ⟨rfl, q3, rfl⟩
  obtain ⟨ck, hck⟩ : ∃ ck, Cl.envCk l = ck := ⟨_, rfl⟩
  have K5 := envCheck_any (some ⟨g, 0, none⟩) n c2 w2.heap.size l (w5.drewN q3) ((unhide Hf5).drewN q3) (unhide Hs1) (by unfold maxLen; omega)
  have K6 := renvCheck_any A n c w.heap.size l (w5.drewN q3) ((unhide Hl5).drewN q3) (unhide Hs1) (by unfold maxLen; omega)
  rw [hck] at K5 K6
  replace K5 := hide K5
  replace K6 := hide K6
  have K7 := hide (ekept_yes g c2 A n c w2.heap.size w.heap.size l (w5.drewN q3) ((unhide Hin5).drewN q3) ((unhide Hl5).drewN q3) hcap (by omega))
  have Hb6 := hide (below_drewN' (unhide Hb5) q3)
  have e1 : (ck == ck) = true := beq_self_eq_true _
  have e2 : (nm.toList == nm.toList) = true := beq_self_eq_true _
  have e3 : (vl.toList == vl.toList) = true := beq_self_eq_true _
  have e4 : (gv.toList == gv.toList) = true := beq_self_eq_true _
  have e5 : (b == b) = true := beq_self_eq_true _
  have e6 : (gb == gb) = true := beq_self_eq_true _
  clear hck K4 Hb5 Hl5 Hin5 Hf5 Hg
  generalize w5.drewN q3 = W6 at *
  go_wp2_with fail
  refine (unhide K5).mono ?_
  rintro e w7 ⟨rfl, rfl⟩
  go_wp2_with fail
  refine (unhide K6).mono ?_
  rintro e w7 ⟨rfl, rfl⟩
  go_wp2_with fail
  refine (unhide K7).mono ?_
  rintro e w7 ⟨rfl, q4, rfl⟩
  go_wp2_with fail
  refine ((unhide KW) _).mono ?_
  rintro e w8 ⟨rfl, hb8⟩
  have Hb8 := hide ((below_drewN' (unhide Hb6) q4).trans (hb8.mono (unhide Hb6).size))
  clear hb8
  go_wp2_with fail
  go_ret
  exact ⟨rfl, unhide Hb8⟩
end Go.Proofs.YtlcdilgniimnlaaDoor
namespace Go.Proofs.YtlcdilgniimnlaaDoor
set_option linter.unusedVariables false
set_option linter.unusedSimpArgs false
open Go.RowKit

def Ev.setR (l : List ByteArray) (name value : ByteArray) : List ByteArray × Int := if Ev.badSet name value then ([], 1) else (Ev.set l name value, 0)
def SetU (R : List ByteArray × Int) (w : World) (e : Ending) (w' : World) : Prop :=
  ∃ A' c' k, e = .returned (.tuple #[.slice A' k c', .int .i64 R.2]) ∧ k = R.1.length ∧ w'.ownsRow w.heap.size 9 1 (.slice A' k c') k (R.1.map Value.string) ∧ Below w.heap.size w w'
theorem setU {l : List ByteArray} {name value : ByteArray} {w w' : World} {e : Ending} (h : SetE l name value w e w') : SetU (Ev.setR l name value) w e w' := by
  rcases h with ⟨h1, rfl, rfl⟩ | ⟨h1, A', c', k, rfl, h2, h3, h4⟩
  · unfold Ev.setR
    rw [h1]
    exact ⟨none, 0, 0, rfl, rfl, World.ownsRow_nil _ _ _ _, Below.refl _ _⟩
  · unfold Ev.setR
    rw [h1]
    exact ⟨A', c', k, rfl, h2, h3, h4⟩
theorem set_len (l : List ByteArray) (name value : ByteArray) : (Ev.set l name value).length ≤ l.length + 1 := by
  unfold Ev.set
  have h1 : (Ev.unset (l.drop (Ev.at_ l name)) name).length ≤ (l.drop (Ev.at_ l name)).length := List.length_filter_le _ _
  rw [List.length_append, List.length_take, List.length_cons]
  rw [List.length_drop] at h1
  omega
theorem setR_len (l : List ByteArray) (name value : ByteArray) : (Ev.setR l name value).1.length ≤ l.length + 1 := by
  unfold Ev.setR
  split
  · simp
  · exact set_len l name value
theorem unset_len (l : List ByteArray) (name : ByteArray) : (Ev.unset l name).length ≤ l.length := List.length_filter_le _ _
theorem scrub_len (l : List ByteArray) : (Ev.scrub l).length ≤ l.length := List.length_filter_le _ _
/-- Where the law stands behind the roomy copy. -/
structure ES (w w2 : World) (g n : Nat) (A : Option Addr) (l : List ByteArray) (W : World) : Prop where
  i : Rd W w2.heap.size 1 (some ⟨g, 0, none⟩) (n + 2) ((l ++ xy).map Value.string)
  l : Rd W w.heap.size 1 A n (l.map Value.string)
  b : Below w2.heap.size w2 W
theorem ES.next {w w2 W W' : World} {g n : Nat} {A : Option Addr} {l : List ByteArray} (h : ES w w2 g n A l W) (hw : w.heap.size ≤ w2.heap.size) (hb : Below w2.heap.size W W') : ES w w2 g n A l W' := ⟨h.i.below hb, h.l.below (hb.mono hw), h.b.trans hb⟩
theorem ES.below {w w2 W W' : World} {g n : Nat} {A : Option Addr} {l : List ByteArray} (h : ES w w2 g n A l W) (hw : w.heap.size ≤ w2.heap.size) (hb : Below W.heap.size W W') : ES w w2 g n A l W' := h.next hw (hb.mono h.b.size)
theorem ES.drewN {w w2 W : World} {g n : Nat} {A : Option Addr} {l : List ByteArray} (h : ES w w2 g n A l W) (j : Nat) : ES w w2 g n A l (W.drewN j) := ⟨h.i.drewN j, h.l.drewN j, below_drewN' h.b j⟩
theorem ES.inn {w w2 W : World} {g n : Nat} {A : Option Addr} {l : List ByteArray} (h : ES w w2 g n A l W) : Rd W w2.heap.size 1 (some ⟨g, 0, none⟩) n (l.map Value.string) := by
  have hln : l.length = n := by simpa using h.l.len1
  have hf := h.i.cutN (k := n) (by omega)
  rwa [← List.map_take, List.take_left' hln] at hf
theorem own_other {w w' : World} {base n m c d : Nat} {A B : Option Addr} {xs : List Value} (h : w.ownsRow base 9 1 (.slice A n c) n xs) (hg : w.grownBy w' (Value.slice B m d).ownBlock) (hne : ∀ k, (Value.slice A n c).ownBlock = some k → (Value.slice B m d).ownBlock ≠ some k) : w'.ownsRow base 9 1 (.slice A n c) n xs :=
  own_keepB h (fun k hk => hg.block k (h.lt k hk).2 (fun e => hne k hk e.symm))

set_option maxRecDepth 100000 in
set_option maxHeartbeats 8000000 in
theorem envsSets_walk (A : Option Addr) (n c : Nat) (l : List ByteArray) (name value : ByteArray) (w : World) (hl : Rd w w.heap.size 1 A n (l.map Value.string)) (hs : ∀ x ∈ l, x.size ≤ maxLen) (hnc : n ≤ c) (hn : n ≤ maxLen) (hns : name.size ≤ maxLen) (hvs : value.size ≤ maxLen) :
    Calls Tryd.prog 4 #[.slice A n c, .string name, .string value] w fun e w' => e = .returned (.bool true) ∧ Below w.heap.size w w' := by
  have KW := hide eworks_any
  have KL := hide (elarge_any A n c w.heap.size l w hl hs hn)
  have Hl := hide hl
  unfold maxLen at hn hns hvs
  clear hl hs
  go_enter Tryd.func4, Tryd.ntmps4
  go_wp2_with fail
  refine (unhide KL).mono ?_
  rintro e w1 ⟨r, rfl, rfl, hr⟩
  clear KL
  by_cases hout : r = true ∨ 131072 < name.size ∨ 131072 < value.size
  · clear hr
    have : (r = true) ∨ (r = false ∧ (131072 : Int) < (name.size : Int)) ∨ (r = false ∧ ¬ (131072 : Int) < (name.size : Int) ∧ (131072 : Int) < (value.size : Int)) := by
      cases r
      · by_cases h2 : 131072 < name.size
        · exact .inr (.inl ⟨rfl, by omega⟩)
        · rcases hout with h | h | h
          · cases h
          · exact absurd h h2
          · exact .inr (.inr ⟨rfl, by omega, by omega⟩)
      · exact .inl rfl
    clear hout
    rcases this with rfl | ⟨rfl, hbig⟩ | ⟨rfl, hsm, hbig⟩
    all_goals
      go_wp2_with fail
      refine ((unhide KW) _).mono ?_
      rintro e w2 ⟨rfl, hb2⟩
      have Hb2 := hide hb2
      clear hb2
      go_wp2_with fail
      go_ret
      exact ⟨rfl, unhide Hb2⟩
  obtain rfl : r = false := by cases r; rfl; exact absurd (.inl rfl) hout
  obtain ⟨hn1, hs1⟩ := hr rfl
  have hns2 : name.size ≤ 131072 := by omega
  have hvs2 : value.size ≤ 131072 := by omega
  have hns1 : ¬ (131072 : Int) < (name.size : Int) := by omega
  have hvs1 : ¬ (131072 : Int) < (value.size : Int) := by omega
  have Hs1 : Hid (∀ x ∈ l, x.size ≤ maxLen) := hide (fun x hx => by have := hs1 x hx; unfold maxLen; omega)
  clear hout hr hs1
  have hln : l.length = n := by simpa using (unhide Hl).len1
  have hRl := setR_len l name value
  have hUl := unset_len l name
  have hCl := scrub_len l
  rw [hln] at hRl hUl hCl
  obtain ⟨R, hR⟩ : ∃ R, Ev.setR l name value = R := ⟨_, rfl⟩
  obtain ⟨U, hU⟩ : ∃ U, Ev.unset l name = U := ⟨_, rfl⟩
  obtain ⟨C, hC⟩ : ∃ C, Ev.scrub l = C := ⟨_, rfl⟩
  rw [hR] at hRl
  rw [hU] at hUl
  rw [hC] at hCl
  obtain ⟨RL, ev⟩ := R
  simp only at hRl
  obtain ⟨kr, hkr⟩ : ∃ kr, RL.length = kr := ⟨_, rfl⟩
  obtain ⟨ku, hku⟩ : ∃ ku, U.length = ku := ⟨_, rfl⟩
  obtain ⟨kc, hkc⟩ : ∃ kc, C.length = kc := ⟨_, rfl⟩
  rw [hkr] at hRl
  rw [hku] at hUl
  rw [hkc] at hCl
  have HE := hide (And.intro hR (And.intro hU (And.intro hC (And.intro hkr (And.intro hku hkc)))))
  clear hR hU hC hkr hku hkc hln
  have KR := hide (eroomy_any A n c w.heap.size l w (unhide Hl) (Nat.le_refl _) (by omega))
  go_wp2_with fail
  refine (unhide KR).mono ?_
  rintro e w2 ⟨g, c2, rfl, ho2, hb2⟩
  have hcap := own_cap ho2
  have hw2 := hb2.size
  have S2 : Hid (ES w w2 g n A l w2) := hide ⟨Rd.of_own ho2, (unhide Hl).below hb2, Below.refl _ _⟩
  have Hb2 := hide hb2
  have Hw2 := hide hw2
  clear ho2 hb2 KR Hl
  have K1 : Calls Tryd.prog 18 #[.slice (some ⟨g, 0, none⟩) n c2, .string name, .string value] w2 fun e w' => ∃ A' c', e = .returned (.tuple #[.slice A' kr c', .int .i64 ev]) ∧ w'.ownsRow w2.heap.size 9 1 (.slice A' kr c') kr (RL.map Value.string) ∧ Below w2.heap.size w2 w' := by
    refine (set_any (some ⟨g, 0, none⟩) n c2 w2.heap.size l name value w2 (unhide S2).inn (Nat.le_refl _) (unhide Hs1) (by omega) (by omega) (by omega) (by omega)).mono fun e w' h => ?_
    obtain ⟨A', c', k, h1, h2, h3, h4⟩ := setU h
    rw [(unhide HE).1] at h1 h2 h3
    obtain rfl : k = kr := h2.trans (unhide HE).2.2.2.1
    exact ⟨A', c', h1, h3, h4⟩
  replace K1 := hide K1
  go_wp2_with fail
  refine (unhide K1).mono ?_
  rintro e w3 ⟨Aa, ca, rfl, hoa, hb3⟩
  have S3 := hide ((unhide S2).below hw2 hb3)
  have Oa := hide hoa
  have la : Hid (∀ k, (Value.slice Aa kr ca).ownBlock = some k → k < w3.heap.size) := hide (fun k hk => (hoa.lt k hk).2)
  have hsz3 := hb3.size
  clear hoa hb3 K1 S2
  have K2 : Calls Tryd.prog 19 #[.slice A n c, .string name, .string value] w3 fun e w' => ∃ A' c', e = .returned (.tuple #[.slice A' kr c', .int .i64 ev]) ∧ w'.ownsRow w3.heap.size 9 1 (.slice A' kr c') kr (RL.map Value.string) ∧ Below w3.heap.size w3 w' := by
    refine (rset_any A n c w.heap.size l name value w3 (unhide S3).l (by omega) (unhide Hs1) (by omega) (by omega) (by omega)).mono fun e w' h => ?_
    obtain ⟨A', c', k, h1, h2, h3, h4⟩ := setU h
    rw [(unhide HE).1] at h1 h2 h3
    obtain rfl : k = kr := h2.trans (unhide HE).2.2.2.1
    exact ⟨A', c', h1, h3, h4⟩
  replace K2 := hide K2
  go_wp2_with fail
  refine (unhide K2).mono ?_
  rintro e w4 ⟨Ab, cb, rfl, hob, hb4⟩
  have S4 := hide ((unhide S3).below hw2 hb4)
  have Ob := hide hob
  have Oa4 := hide (own_below (unhide Oa) hb4)
  have hsz4 := hb4.size
  clear hob hb4 K2 S3 Oa
  have K3 : Calls Tryd.prog 20 #[.slice (some ⟨g, 0, none⟩) n c2, .string name] w4 fun e w' => ∃ A' c', e = .returned (.slice A' ku c') ∧ w'.ownsRow w4.heap.size 9 1 (.slice A' ku c') ku (U.map Value.string) ∧ Below w4.heap.size w4 w' := by
    have h := unset_any (some ⟨g, 0, none⟩) n c2 w2.heap.size l name w4 (unhide S4).inn (unhide Hs1) (by omega)
    rw [(unhide HE).2.1] at h
    unfold EnvE at h
    rw [(unhide HE).2.2.2.2.1] at h
    exact h
  replace K3 := hide K3
  go_wp2_with fail
  refine (unhide K3).mono ?_
  rintro e w5 ⟨Ax, cx, rfl, hox, hb5⟩
  have S5 := hide ((unhide S4).below hw2 hb5)
  have Ox := hide hox
  have Ob5 := hide (own_below (unhide Ob) hb5)
  have Oa5 := hide (own_below (unhide Oa4) hb5)
  have lx : Hid (∀ k, (Value.slice Ax ku cx).ownBlock = some k → w4.heap.size ≤ k ∧ k < w5.heap.size) := hide (fun k hk => hox.lt k hk)
  have hsz5 := hb5.size
  clear hox hb5 K3 S4 Ob Oa4
  have K4 : Calls Tryd.prog 21 #[.slice (some ⟨g, 0, none⟩) n c2] w5 fun e w' => ∃ A' c', e = .returned (.slice A' kc c') ∧ w'.ownsRow w5.heap.size 9 1 (.slice A' kc c') kc (C.map Value.string) ∧ Below w5.heap.size w5 w' := by
    have h := scrub_any (some ⟨g, 0, none⟩) n c2 w2.heap.size l w5 (unhide S5).inn (by omega) (unhide Hs1) (by omega)
    rw [(unhide HE).2.2.1] at h
    unfold EnvE at h
    rw [(unhide HE).2.2.2.2.2] at h
    exact h
  replace K4 := hide K4
  go_wp2_with fail
  refine (unhide K4).mono ?_
  rintro e w6 ⟨Ay, cy, rfl, hoy, hb6⟩
  have S6 := hide ((unhide S5).below hw2 hb6)
  have Oy := hide hoy
  have Ox6 := hide (own_below (unhide Ox) hb6)
  have Ob6 := hide (own_below (unhide Ob5) hb6)
  have Oa6 := hide (own_below (unhide Oa5) hb6)
  have ly : Hid (∀ k, (Value.slice Ay kc cy).ownBlock = some k → w5.heap.size ≤ k) := hide (fun k hk => (hoy.lt k hk).1)
  have hsz6 := hb6.size
  have hee : (ev != ev) = false := by simp
  clear hoy hb6 K4 S5 Ox Ob5 Oa5
  have KE := eqTexts_any Aa Ab kr kr ca cb w6.heap.size RL RL w6 (Rd.of_own (unhide Oa6)) (Rd.of_own (unhide Ob6)) (by unfold maxLen; omega) (by unfold maxLen; omega)
  rw [decide_eq_true rfl] at KE
  replace KE := hide KE
  go_wp2_with fail
  refine (unhide KE).mono ?_
  rintro e w7 ⟨rfl, j, rfl⟩
  have S7 := hide ((unhide S6).drewN j)
  have Oy7 := hide (own_drewN (unhide Oy) j)
  have Ox7 := hide (own_drewN (unhide Ox6) j)
  have Oa7 := hide (own_drewN (unhide Oa6) j)
  have hsz7 : w6.heap.size ≤ (w6.drewN j).heap.size := Nat.le_refl _
  clear KE S6 Oy Ox6 Ob6 Oa6
  generalize w6.drewN j = w7 at *
  have K5 : Calls Tryd.prog 23 #[.slice A n c, .string name] w7 fun e w' => ∃ A' c', e = .returned (.slice A' ku c') ∧ w'.ownsRow w7.heap.size 9 1 (.slice A' ku c') ku (U.map Value.string) ∧ Below w7.heap.size w7 w' := by
    have h := runset_any A n c w.heap.size l name w7 (unhide S7).l (by omega) (unhide Hs1) (by omega)
    rw [(unhide HE).2.1] at h
    unfold EnvE at h
    rw [(unhide HE).2.2.2.2.1] at h
    exact h
  replace K5 := hide K5
  go_wp2_with fail
  refine (unhide K5).mono ?_
  rintro e w8 ⟨A8, c8, rfl, ho8, hb8⟩
  have KE := eqTexts_any Ax A8 ku ku cx c8 w8.heap.size U U w8 ((Rd.of_own (unhide Ox7)).belowSz hb8) (Rd.of_own ho8) (by unfold maxLen; omega) (by unfold maxLen; omega)
  rw [decide_eq_true rfl] at KE
  replace KE := hide KE
  have S8 := hide ((unhide S7).below hw2 hb8)
  have Oy8 := hide (own_below (unhide Oy7) hb8)
  have Ox8 := hide (own_below (unhide Ox7) hb8)
  have Oa8 := hide (own_below (unhide Oa7) hb8)
  have hsz8 := hb8.size
  clear ho8 hb8 K5 S7 Oy7 Ox7 Oa7
  go_wp2_with fail
  refine (unhide KE).mono ?_
  rintro e w9 ⟨rfl, j, rfl⟩
  have S9 := hide ((unhide S8).drewN j)
  have Oy9 := hide (own_drewN (unhide Oy8) j)
  have Ox9 := hide (own_drewN (unhide Ox8) j)
  have Oa9 := hide (own_drewN (unhide Oa8) j)
  have hsz9 : w8.heap.size ≤ (w8.drewN j).heap.size := Nat.le_refl _
  clear KE S8 Oy8 Ox8 Oa8
  generalize w8.drewN j = w9 at *
  have K6 : Calls Tryd.prog 24 #[.slice A n c] w9 fun e w' => ∃ A' c', e = .returned (.slice A' kc c') ∧ w'.ownsRow w9.heap.size 9 1 (.slice A' kc c') kc (C.map Value.string) ∧ Below w9.heap.size w9 w' := by
    have h := rscrub_any A n c w.heap.size l w9 (unhide S9).l (by omega) (unhide Hs1) (by omega)
    rw [(unhide HE).2.2.1] at h
    unfold EnvE at h
    rw [(unhide HE).2.2.2.2.2] at h
    exact h
  replace K6 := hide K6
  go_wp2_with fail
  refine (unhide K6).mono ?_
  rintro e w10 ⟨A10, c10, rfl, ho10, hb10⟩
  have KE := eqTexts_any Ay A10 kc kc cy c10 w10.heap.size C C w10 ((Rd.of_own (unhide Oy9)).belowSz hb10) (Rd.of_own ho10) (by unfold maxLen; omega) (by unfold maxLen; omega)
  rw [decide_eq_true rfl] at KE
  replace KE := hide KE
  have S10 := hide ((unhide S9).below hw2 hb10)
  have Oy10 := hide (own_below (unhide Oy9) hb10)
  have Ox10 := hide (own_below (unhide Ox9) hb10)
  have Oa10 := hide (own_below (unhide Oa9) hb10)
  have hsz10 := hb10.size
  clear ho10 hb10 K6 S9 Oy9 Ox9 Oa9
  go_wp2_with fail
  refine (unhide KE).mono ?_
  rintro e w11 ⟨rfl, j, rfl⟩
  have S11 := hide ((unhide S10).drewN j)
  have Oy11 := hide (own_drewN (unhide Oy10) j)
  have Ox11 := hide (own_drewN (unhide Ox10) j)
  have Oa11 := hide (own_drewN (unhide Oa10) j)
  have hsz11 : w10.heap.size ≤ (w10.drewN j).heap.size := Nat.le_refl _
  clear KE S10 Oy10 Ox10 Oa10
  generalize w10.drewN j = w11 at *
  have KK := hide (ekept_yes g c2 A n c w2.heap.size w.heap.size l w11 (unhide S11).i (unhide S11).l hcap (by omega))
  go_wp2_with fail
  refine (unhide KK).mono ?_
  rintro e w12 ⟨rfl, j, rfl⟩
  have S12 := hide ((unhide S11).drewN j)
  have Oy12 := hide (own_drewN (unhide Oy11) j)
  have Ox12 := hide (own_drewN (unhide Ox11) j)
  have Oa12 := hide (own_drewN (unhide Oa11) j)
  have hsz12 : w11.heap.size ≤ (w11.drewN j).heap.size := Nat.le_refl _
  clear KK S11 Oy11 Ox11 Oa11
  generalize w11.drewN j = w12 at *
  have hw12 : w2.heap.size ≤ w12.heap.size := by omega
  have KO := hide (eown_any Aa kr ca w2.heap.size _ g c2 A n c w2.heap.size l w12 (unhide Oa12) hw12 (unhide S12).i ((unhide S12).l.more hw2) (Nat.le_refl _) hcap (by omega) (by omega))
  go_wp2_with fail
  refine (unhide KO).mono ?_
  rintro e w13 ⟨rfl, hg13⟩
  have S13 := hide ((unhide S12).next hw2 ((Below.refl _ _).grown hg13 hw12 (fun k hk => ((unhide Oa12).lt k hk).1)))
  have Oy13 := hide (own_other (unhide Oy12) hg13 (fun k hk e => by have h1 := (unhide ly) k hk; have h2 := (unhide la) k e; omega))
  have Ox13 := hide (own_other (unhide Ox12) hg13 (fun k hk e => by have h1 := (unhide lx) k hk; have h2 := (unhide la) k e; omega))
  have hsz13 := hg13.size
  clear hg13 KO S12 Oy12 Ox12 Oa12
  have KO := hide (eown_any Ax ku cx w2.heap.size _ g c2 A n c w2.heap.size l w13 (own_base (unhide Ox13) (by omega)) (by omega) (unhide S13).i ((unhide S13).l.more hw2) (Nat.le_refl _) hcap (by omega) (by omega))
  go_wp2_with fail
  refine (unhide KO).mono ?_
  rintro e w14 ⟨rfl, hg14⟩
  have S14 := hide ((unhide S13).next hw2 ((Below.refl _ _).grown hg14 (by omega) (fun k hk => by have := ((unhide lx) k hk).1; omega)))
  have Oy14 := hide (own_other (unhide Oy13) hg14 (fun k hk e => by have h1 := (unhide ly) k hk; have h2 := (unhide lx) k e; omega))
  have hsz14 := hg14.size
  clear hg14 KO S13 Oy13 Ox13
  have KO := hide (eown_any Ay kc cy w2.heap.size _ g c2 A n c w2.heap.size l w14 (own_base (unhide Oy14) (by omega)) (by omega) (unhide S14).i ((unhide S14).l.more hw2) (Nat.le_refl _) hcap (by omega) (by omega))
  go_wp2_with fail
  refine (unhide KO).mono ?_
  rintro e w15 ⟨rfl, hg15⟩
  have S15 := hide ((unhide S14).next hw2 ((Below.refl _ _).grown hg15 (by omega) (fun k hk => by have := (unhide ly) k hk; omega)))
  have hb15 := (unhide Hb2).trans ((unhide S15).b.mono hw2)
  have Hb15 := hide hb15
  clear hg15 KO S14 Oy14 hb15
  go_wp2_with fail
  refine ((unhide KW) _).mono ?_
  rintro e w16 ⟨rfl, hb16⟩
  have Hb16 := hide ((unhide Hb15).trans (hb16.mono (unhide Hb15).size))
  clear hb16
  go_wp2_with fail
  go_ret
  exact ⟨rfl, unhide Hb16⟩
end Go.Proofs.YtlcdilgniimnlaaDoor
namespace Go.Proofs.YtlcdilgniimnlaaDoor
set_option linter.unusedVariables false
set_option linter.unusedSimpArgs false
open Go.RowKit

/-- Where the law stands behind the list's answer and the table of names. -/
structure SB (w : World) (A Ao : Option Addr) (n kc co g : Nat) (l C : List ByteArray) (W : World) : Prop where
  b : Below w.heap.size w W
  l : Rd W w.heap.size 1 A n (l.map Value.string)
  o : Rd W W.heap.size 1 Ao kc (C.map Value.string)
  u : Rd W W.heap.size 1 (some ⟨g, 0, none⟩) 9 (Ev.unsafeL.map Value.string)
theorem SB.drewN {w W : World} {A Ao : Option Addr} {n kc co g : Nat} {l C : List ByteArray} (h : SB w A Ao n kc co g l C W) (j : Nat) : SB w A Ao n kc co g l C (W.drewN j) := ⟨below_drewN' h.b j, h.l.drewN j, h.o.drewN j, h.u.drewN j⟩

set_option maxRecDepth 100000 in
set_option maxHeartbeats 4000000 in
theorem envsScrubs_walk (A : Option Addr) (n c : Nat) (l : List ByteArray) (w : World) (hl : Rd w w.heap.size 1 A n (l.map Value.string)) (hs : ∀ x ∈ l, x.size ≤ maxLen) (hnc : n ≤ c) (hn : n ≤ maxLen) :
    Calls Tryd.prog 6 #[.slice A n c] w fun e w' => e = .returned (.bool true) ∧ Below w.heap.size w w' := by
  have KW := hide eworks_any
  have KL := hide (elarge_any A n c w.heap.size l w hl hs hn)
  have hln : l.length = n := by simpa using hl.len1
  have Hl := hide hl
  have Hs := hide hs
  have Hln := hide hln
  unfold maxLen at hn
  clear hl hs hln
  go_enter Tryd.func6, Tryd.ntmps6
  go_wp2_with fail
  refine (unhide KL).mono ?_
  rintro e w1 ⟨r, rfl, rfl, hr⟩
  clear KL
  cases r
  case true =>
    clear hr
    go_wp2_with fail
    refine ((unhide KW) _).mono ?_
    rintro e w2 ⟨rfl, hb2⟩
    have Hb2 := hide hb2
    clear hb2
    go_wp2_with fail
    go_ret
    exact ⟨rfl, unhide Hb2⟩
  obtain ⟨hn1, hs1⟩ := hr rfl
  have Hs1 := hide hs1
  clear hr hs1
  obtain ⟨C, hC⟩ : ∃ C, Ev.scrub l = C := ⟨_, rfl⟩
  obtain ⟨kc, hkc⟩ : ∃ kc, C.length = kc := ⟨_, rfl⟩
  have hcl : kc ≤ n := by rw [← hkc, ← hC, ← unhide Hln]; exact scrub_len l
  have hCs : ∀ x ∈ C, x.size ≤ maxLen := by rw [← hC]; exact fun x hx => (unhide Hs) x (List.mem_filter.1 hx).1
  have KS := scrub_any A n c w.heap.size l w (unhide Hl) (Nat.le_refl _) (unhide Hs) (by omega)
  rw [hC] at KS
  unfold EnvE at KS
  rw [hkc] at KS
  replace KS := hide KS
  have HC := hide hC
  have Hkc := hide hkc
  have HCs := hide hCs
  clear hC hkc hCs
  go_wp2_with fail
  refine (unhide KS).mono ?_
  rintro e w2 ⟨Ao, co, rfl, ho2, hb2⟩
  have Ho2 := hide ho2
  have Hb2 := hide hb2
  have KU := hide (runsafe_any w2)
  clear ho2 hb2 KS
  go_wp2_with fail
  refine (unhide KU).mono ?_
  rintro e w3 ⟨g, rfl, ho3, hb3⟩
  have S3 : Hid (SB w A Ao n kc co g l C w3) := hide ⟨(unhide Hb2).trans (hb3.mono (unhide Hb2).size), (unhide Hl).below ((unhide Hb2).trans (hb3.mono (unhide Hb2).size)), (Rd.of_own (unhide Ho2)).belowSz hb3, Rd.of_own ho3⟩
  clear ho3 hb3 KU Ho2 Hb2 Hl
  go_wp2_with fail
  go_loopg [5, 6] n (fun gk kv i wr => ∃ k m j : Nat, gk = n - k ∧ k ≤ n ∧ i = .int .i64 k ∧ kv = .int .i64 m ∧ m = (Ev.scrub (l.take k)).length ∧ m ≤ n ∧ wr = w3.drewN j)
  case atStart => exact ⟨0, 0, 0, by omega, by omega, rfl, rfl, rfl, by omega, rfl⟩
  case round =>
  obtain ⟨k, m, jd, hgk, hk, rfl, rfl, hm, hmn, rfl⟩ := hrel
  have S4 := hide ((unhide S3).drewN jd)
  have Hgk := hide hgk
  have Hm := hide hm
  clear hgk hm
  by_cases hlt : k < n
  case neg =>
    obtain rfl : k = n := by omega
    have hm := unhide Hm
    rw [List.take_of_length_le (by have := unhide Hln; omega), unhide HC, unhide Hkc] at hm
    subst hm
    have hee : ((m : Int) == (m : Int)) = true := by simp
    have KS := scrub_any Ao m co (w3.drewN jd).heap.size C (w3.drewN jd) (unhide S4).o (Nat.le_refl _) (unhide HCs) (by omega)
    have hss : Ev.scrub C = C := by rw [← unhide HC]; exact Ev.scrub_scrub l
    rw [hss] at KS
    unfold EnvE at KS
    rw [unhide Hkc] at KS
    replace KS := hide KS
    clear hss
    go_wp2_with fail
    refine (unhide KS).mono ?_
    rintro e w5 ⟨A5, c5, rfl, ho5, hb5⟩
    have KE := eqTexts_any A5 Ao m m c5 co w5.heap.size C C w5 (Rd.of_own ho5) ((unhide S4).o.belowSz hb5) (by unfold maxLen; omega) (by unfold maxLen; omega)
    rw [decide_eq_true rfl] at KE
    replace KE := hide KE
    have Hb5 := hide ((unhide S4).b.trans (hb5.mono (unhide S4).b.size))
    clear ho5 hb5 KS
    go_wp2_with fail
    refine (unhide KE).mono ?_
    rintro e w6 ⟨rfl, j6, rfl⟩
    go_wp2_with fail
    refine ((unhide KW) _).mono ?_
    rintro e w7 ⟨rfl, hb7⟩
    have Hb7 := hide ((below_drewN' (unhide Hb5) j6).trans (hb7.mono (unhide Hb5).size))
    clear hb7
    go_wp2_with fail
    go_ret
    exact ⟨rfl, unhide Hb7⟩
  obtain ⟨x, hx⟩ : ∃ x, l[k]? = some x := ⟨_, List.getElem?_eq_getElem (by rw [unhide Hln]; exact hlt)⟩
  obtain ⟨b1, o1, rfl, _, c1⟩ := (unhide S4).l.at_ (k := k) (u := .string x) (by simp [hx])
  have hxs := (unhide Hs1) x (List.mem_of_getElem? hx)
  have Hx := hide hx
  have KX := split_any x (w3.drewN jd) (by unfold maxLen; omega)
  unfold SplitEnd at KX
  obtain ⟨bi, hbi⟩ : ∃ b, Ev.is x = b := ⟨_, rfl⟩
  rw [hbi] at KX
  have Hbi := hide hbi
  clear hbi
  replace KX := hide KX
  clear hx
  go_wp2_with fail
  refine (unhide KX).mono ?_
  rintro e w5 ⟨rfl, j5, rfl⟩
  clear KX
  go_wp2_with fail
  go_loopg [10, 11] 9 (fun gk uv i wr => ∃ q j : Nat, gk = 9 - q ∧ q ≤ 9 ∧ i = .int .i64 q ∧ uv = .bool ((Ev.unsafeL.take q).any fun u => Ev.named u x) ∧ wr = w3.drewN j)
  case atStart => exact ⟨0, jd + j5, by omega, by omega, rfl, rfl, rfl⟩
  case round =>
  obtain ⟨q, jq, hgq, hq, rfl, rfl, rfl⟩ := hrel
  have S5 := hide ((unhide S3).drewN jq)
  have Hgq := hide hgq
  clear hgq
  by_cases hq9 : q < 9
  case pos =>
    obtain ⟨u, hu⟩ : ∃ u, Ev.unsafeL[q]? = some u := ⟨_, List.getElem?_eq_getElem hq9⟩
    obtain ⟨b3, o3, hA, _, c3⟩ := (unhide S5).u.at_ (k := q) (u := .string u) (by simp [hu])
    injection hA with hA
    injection hA with hA1 hA2
    subst hA1 hA2
    rw [Nat.zero_add] at c3
    have hst : (Ev.unsafeL.take (q + 1)).any (fun u => Ev.named u x) = ((Ev.unsafeL.take q).any (fun u => Ev.named u x) || Ev.named u x) := by
      rw [List.take_add_one, hu, List.any_append]
      simp
    obtain ⟨fl, hfl⟩ : ∃ fl, (Ev.unsafeL.take q).any (fun u => Ev.named u x) = fl := ⟨_, rfl⟩
    rw [hfl] at hst
    rw [hfl]
    have Hst := hide hst
    have hbq := beq_toList (Ev.nm x) u
    clear hst hfl hu
    cases fl
    case true =>
      go_wp2_with fail
      go_roundg (9 - (q + 1))
      case measure => have := unhide Hgq; omega
      case rel => exact ⟨q + 1, jq, rfl, by omega, by go_num, by rw [unhide Hst]; rfl, rfl⟩
    case false =>
      cases bi
      case false =>
        have Hv := hide (show Ev.named u x = false by unfold Ev.named; rw [unhide Hbi]; rfl)
        go_wp2_with fail
        go_roundg (9 - (q + 1))
        case measure => have := unhide Hgq; omega
        case rel => exact ⟨q + 1, jq, rfl, by omega, by go_num, by rw [unhide Hst, unhide Hv]; rfl, rfl⟩
      case true =>
        by_cases heq : Ev.nm x = u
        · have Hv := hide (show Ev.named u x = true by unfold Ev.named; rw [unhide Hbi, decide_eq_true heq]; rfl)
          rw [decide_eq_true heq] at hbq
          clear heq
          go_wp2_with fail
          go_roundg (9 - (q + 1))
          case measure => have := unhide Hgq; omega
          case rel => exact ⟨q + 1, jq, rfl, by omega, by go_num, by rw [unhide Hst, unhide Hv]; rfl, rfl⟩
        · have Hv := hide (show Ev.named u x = false by unfold Ev.named; rw [unhide Hbi, decide_eq_false heq]; rfl)
          rw [decide_eq_false heq] at hbq
          clear heq
          go_wp2_with fail
          go_roundg (9 - (q + 1))
          case measure => have := unhide Hgq; omega
          case rel => exact ⟨q + 1, jq, rfl, by omega, by go_num, by rw [unhide Hst, unhide Hv]; rfl, rfl⟩
  obtain rfl : q = 9 := by omega
  have hall : Ev.unsafeL.take 9 = Ev.unsafeL := rfl
  have hbad : (Ev.unsafeL.take 9).any (fun u => Ev.named u x) = Ev.bad x := by rw [hall]; rfl
  have hsc := Ev.scrub_step (unhide Hx)
  rw [hbad]
  cases hb : Ev.bad x
  case true =>
    rw [hb, if_pos rfl] at hsc
    have hm2 : m = (Ev.scrub (l.take (k + 1))).length := by rw [hsc]; exact unhide Hm
    have Hm2 := hide hm2
    clear hsc hm2 hbad hall
    go_wp2_with fail
    go_roundg (n - (k + 1))
    case measure => have := unhide Hgk; omega
    case rel => exact ⟨k + 1, m, jq, rfl, by omega, by go_num, rfl, unhide Hm2, hmn, rfl⟩
  case false =>
    rw [hb, if_neg (by simp)] at hsc
    have hm2 : m + 1 = (Ev.scrub (l.take (k + 1))).length := by rw [hsc, List.length_append]; have := unhide Hm; simp; omega
    have hat := Ev.scrub_at (unhide Hx) hb
    rw [unhide HC, ← unhide Hm] at hat
    have hmk : m < kc := by rw [← unhide Hkc]; exact (List.getElem?_eq_some_iff.1 hat).1
    obtain ⟨b3, o3, rfl, _, c3⟩ := (unhide S3).o.at_ (k := m) (u := .string x) (by simp [hat])
    obtain ⟨b4, o4, hA, _, c4⟩ := (unhide S3).l.at_ (k := k) (u := .string x) (by simp [unhide Hx])
    injection hA with hA
    injection hA with hA1 hA2
    subst hA1 hA2
    have Hm2 := hide hm2
    have g1 : decide (kc ≤ m) = false := by simp; omega
    have g2 : ¬ (kc : Int) ≤ (m : Int) := by omega
    have i2 : (m : Int) < (kc : Int) := by omega
    have i1 : (k : Int) < (n : Int) := by omega
    have d1 : decide (k < n) = true := by simpa using hlt
    have d2 : decide (m < kc) = true := by simpa using hmk
    have f2 : (x.toList != x.toList) = false := by simp
    have f1 : (x.toList == x.toList) = true := beq_self_eq_true _
    clear hsc hm2 hbad hall hat
    go_wp2_with fail
    go_quiet (fail)
    go_wp2_with fail
    go_roundg (n - (k + 1))
    case measure => have := unhide Hgk; omega
    case rel => exact ⟨k + 1, m + 1, jq + nq, rfl, by omega, by go_num, by go_num, unhide Hm2, by omega, rfl⟩
end Go.Proofs.YtlcdilgniimnlaaDoor
namespace Go.Proofs.YtlcdilgniimnlaaDoor.envsScrubs
open Go.ChangeShapes Go.WideShapes Go.ChangeAt Go.RowKit
open Go.ChangeMaps (open_string shut_string)
set_option linter.unusedVariables false

theorem own : ownKnob Tryd.prog.godebug = none := by kernel_rfl
theorem laidOut : laidOutB Tryd.prog = true := by kernel_rfl
theorem wfi {z : Int} (h : (Lit.int .i64 z).wf = true) : -9223372036854775808 ≤ z ∧ z ≤ 9223372036854775807 := by simpa [Lit.wf, IntKind.min, IntKind.max, IntKind.signed, IntKind.bits] using h

def laid3 : List (String × DataW Unit) := [("unicode/utf8.acceptRanges", Rows.laid_unicode_utf8_acceptRanges), ("unicode/utf8.first", Rows.laid_unicode_utf8_first)]

set_option maxRecDepth 100000 in
theorem lifted (os : Os) (started : os.Started) (H : Type) (enc : TypeId × Value → H) :
    ReturnsInHanded {} Tryd.checked os 6 .any (fun w args => (Rows.envsScrubsSpec.pre enc Tryd.prog Tryd.f6 [] false w args ∧ laidMetH Tryd.prog laid3 w) ∧ sizedMet enc Tryd.prog Tryd.f6 (OpenSpec.ofChange Rows.envsScrubsSpec) false w args)
      (Rows.envsScrubsSpec.post enc Tryd.prog Tryd.f6 false true false false) := by
  refine returnsInHanded_of_change_and (C := Tryd.checked) (X := fun w _ => laidMetH Tryd.prog laid3 w) (fun _ _ _ hh h => h.of_heap hh) own started (by kernel_rfl) Tryd.func6
    (ChangeSpec.witness_shaped (enc := enc) (C := Tryd.checked) (os := os) (X := fun w _ => laidMetH Tryd.prog laid3 w) false (World.laidAll Tryd.prog os laid3) #[.slice none 0 0] 8 (World.laidAll_os _ _ _)
      (World.shaped_of_ZipB (by kernel_rfl) (by kernel_rfl)) (by kernel_rfl) (by kernel_rfl) (by kernel_rfl)
      (by rw [MakeChecks.laidMetH_plain _ _ _ (by kernel_rfl)]; exact laidMet_laidAll _ (by kernel_rfl) (by kernel_rfl))) ?_
  intro W base args ds gs before hval0 hW _ _ _ _
  have hval : ∀ (j : Nat) t v, Tryd.f6.params[j]? = some t → args[j]? = some v → Value.okWide Tryd.prog W .any base t v := hval0
  have hW' := hW
  obtain ⟨p, q, hA0, hV, rfl, hfz, hnd⟩ := hW
  have hA : DataW.TrodAll enc Tryd.prog W 0 (fun _ => true) true Tryd.f6.params.toList args.toList ds p := hA0
  rw [Tryd.params6] at hA hval
  obtain ⟨v0, vs0, d0, ds0, p0, q0, hargs, rfl, rfl, h0, r0⟩ := trodAll_cons hA
  obtain ⟨rfl, rfl, rfl⟩ := trodAll_nil r0
  obtain rfl : args = #[v0] := by cases args; simp_all
  obtain ⟨rfl, rfl⟩ := trodVars_none hV
  obtain ⟨A0, n0, c0, rfl⟩ := okWide_slice Tryd.underlying22 (hval 0 22 v0 rfl rfl)
  have k0 := h0
  have lt0 : ∀ x ∈ p0, x.block < W.heap.size := by obtain ⟨m, hm⟩ := k0; exact DataW.trod_lt m _ _ _ hm
  obtain ⟨x0, w0, wc0, wm0, we0⟩ := open_strs_rd Tryd.underlying22 Tryd.underlying9 (by kernel_rfl) h0
  clear hA0 hval0
  refine (envsScrubs_walk A0 n0 c0 x0 W w0 we0 wc0 (Nat.le_trans wc0 wm0)).mono fun e W' ⟨he, bel⟩ => ?_
  subst he
  exact ⟨_, rfl, _, _, _, [], _, [], hW', trodAll_mk1 (shut_bool Tryd.underlying4 _), (trodAll_cons_mk (Below.trod laidOut (by kernel_rfl) (of_decide_eq_true (by kernel_rfl)) k0 bel lt0) trodAll_mk0), rfl, bel.frame _, fun h => by cases h⟩

theorem over : Rows.envsScrubsRow.holds Tryd.pinned (OpenSpec.ofChange Rows.envsScrubsSpec) :=
  OpenClaim.holds_of_wide 6 Tryd.f6 rfl rfl rfl rfl rfl rfl rfl ⟨rfl, rfl, rfl, rfl, rfl⟩ rfl rfl rfl rfl rfl (by kernel_rfl) Tryd.func6 (by kernel_rfl)
    (of_decide_eq_true (by kernel_rfl)) (by unfold Func.isWrapper; first | (rw [if_pos (by decide +kernel)]; kernel_rfl) | (rw [if_neg (by decide +kernel)]; exact ⟨rfl, rfl⟩))
    (fun os started H enc _ => lifted os started H enc)

theorem proved : Rows.EnvsScrubsCardSaid :=
  Claim7.holds_tied_plain_at .later [] [.data, .pinned] true Rows.envsScrubsCard.stood.harness false over (fun _ h => by cases h) (by kernel_rfl) (fun _ h => by cases h) envsScrubs_row_tie rfl ⟨rfl, rfl⟩ (by kernel_rfl) rfl
    (fun f fn hf hfn => by
      obtain rfl : f = 6 := Option.some.inj ((show Tryd.prog.funcNamed "hostel/hostellaw03.EnvsScrubs" = some 6 by kernel_rfl).symm.trans hf) |>.symm
      obtain rfl : fn = Tryd.f6 := (Option.some.inj (Tryd.func6.symm.trans hfn)).symm
      exact ⟨by kernel_rfl, fun j t ht => by
        rw [Tryd.params6] at ht
        have hm : t ∈ ([22] : List TypeId) := by simpa using Array.mem_of_getElem? ht
        have hall : (([22] : List TypeId).all fun u => !Tryd.prog.wantsStandIn u) = true := by kernel_rfl
        exact (show Tryd.prog.wantsStandIn t = false by simpa using List.all_eq_true.1 hall t hm)⟩)
    (by kernel_rfl)
#print axioms proved
end Go.Proofs.YtlcdilgniimnlaaDoor.envsScrubs
