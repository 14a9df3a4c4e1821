/- The statement EnvsPieces: whatever the input, the law returns true, and what was there reads as it did. No conditions. Ahead of it: The walks of the law's own helpers: large, roomy, kept, own. Conditions: as the lists'. The anchor of the law, and the walk of EnvsChecks. Conditions: as the argument's. The walk of EnvsPieces. Conditions: as the argument's. -/
import Derived.Test.YtlcdilgniimnlaaDoorMp1
import Derived.Test.YtlcdilgniimnlaaDoorRows
import Derived.Test.YtlcdilgniimnlaaDoorCards
import Derived.Test.YtlcdilgniimnlaaDoorTie
import Derived.Lay
import Derived.LaidMore
import Derived.SevenTiedAt
import Derived.ProofKit
import Derived.OpenShut
import Derived.ShutString
import Derived.ChangeOld
import Derived.Below
import Derived.SliceStrings
namespace Go.Proofs.YtlcdilgniimnlaaDoor
set_option linter.unusedVariables false
set_option linter.unusedSimpArgs false
open Go.RowKit

def sumE : List ByteArray → Nat
  | [] => 0
  | s :: r => min s.size 262144 + sumE r
theorem sumE_app (a b : List ByteArray) : sumE (a ++ b) = sumE a + sumE b := by
  induction a with
  | nil => simp [sumE]
  | cons s r ih => simp only [List.cons_append, sumE, ih]; omega
theorem sumE_mem {l : List ByteArray} {x : ByteArray} (h : x ∈ l) : min x.size 262144 ≤ sumE l := by
  induction l with
  | nil => cases h
  | cons s r ih =>
    simp only [sumE]
    rcases List.mem_cons.1 h with rfl | h
    · omega
    · have := ih h; omega
theorem sumE_snoc {l : List ByteArray} {k : Nat} {x : ByteArray} (h : l[k]? = some x) : sumE (l.take (k + 1)) = sumE (l.take k) + min x.size 262144 := by
  rw [List.take_add_one, h, sumE_app]
  simp [sumE]

set_option maxRecDepth 100000 in
set_option maxHeartbeats 1000000 in
theorem elarge_any (A : Option Addr) (n c B : Nat) (l : List ByteArray) (w : World) (hl : Rd w B 1 A n (l.map Value.string)) (hs : ∀ x ∈ l, x.size ≤ maxLen) (hn : n ≤ maxLen) :
    Calls Tryd.prog 8 #[.slice A n c] w fun e w' => ∃ r, e = .returned (.bool r) ∧ w = w' ∧ (r = false → n ≤ 131072 ∧ ∀ x ∈ l, x.size ≤ 131072) := by
  have hln : l.length = n := by simpa using hl.len1
  unfold maxLen at hn
  have Hl := hide hl
  have Hln := hide hln
  have Hs := hide hs
  clear hl hln hs
  go_enter Tryd.func8, Tryd.ntmps8
  go_wp2_with fail
  go_loopg [3, 4] n (fun gk nv i wr => ∃ k m : Nat, gk = n - k ∧ k ≤ n ∧ i = .int .i64 k ∧ nv = .int .i64 m ∧ m = n + sumE (l.take k) ∧ (k = 0 ∨ m ≤ 393216) ∧ w = wr)
  case atStart => exact ⟨0, n, by omega, by omega, rfl, rfl, by simp [sumE], .inl rfl, rfl⟩
  case round =>
  obtain ⟨k, m, hgk, hk, rfl, rfl, hmn, hm0, rfl⟩ := hrel
  have Hgk := hide hgk
  have Hmn := hide hmn
  clear hgk hmn
  have hmb : m ≤ 9223372036854775807 := by
    rcases hm0 with rfl | h
    · have := unhide Hmn; simp [sumE] at this; omega
    · omega
  by_cases hlt : k < n
  case neg =>
    obtain rfl : k = n := by omega
    have htk : l.take k = l := List.take_of_length_le (by have := unhide Hln; omega)
    have hnn := unhide Hmn
    rw [htk] at hnn
    have Hnn := hide hnn
    clear htk hnn hm0
    go_wp2_with fail
    go_ret
    refine ⟨_, rfl, rfl, fun hr => ?_⟩
    have hm : m ≤ 131072 := by
      have h : (m : Int) ≤ 131072 := by simpa using hr
      omega
    have h1 := unhide Hnn
    refine ⟨by omega, fun x hx => ?_⟩
    have h2 := sumE_mem hx
    omega
  by_cases hbig : m ≤ 131072
  case neg =>
    have hb : ((m : Int) ≤ 131072) = False := by simp; omega
    clear hm0
    go_wp2_with fail
    go_ret
    exact ⟨_, rfl, rfl, fun hr => by simp at hr; omega⟩
  obtain ⟨x, hx⟩ : ∃ x, l[k]? = some x := ⟨_, List.getElem?_eq_getElem (by rw [unhide Hln]; exact hlt)⟩
  obtain ⟨b1, o1, rfl, _, c1⟩ := (unhide Hl).at_ (k := k) (u := .string x) (by simp [hx])
  have hxs := (unhide Hs) x (List.mem_of_getElem? hx)
  unfold maxLen at hxs
  have Hsn := hide (sumE_snoc hx)
  clear hx hm0
  by_cases hmin : x.size ≤ 262144
  · have hmin' : (x.size : Int) ≤ 262144 := by omega
    go_wp2_with fail
    go_roundg (n - (k + 1))
    case measure => have := unhide Hgk; omega
    case rel => exact ⟨k + 1, m + x.size, rfl, by omega, by go_num, by go_num, by rw [unhide Hsn, Nat.min_eq_left hmin]; have := unhide Hmn; omega, .inr (by omega), rfl⟩
  · have hmin' : (262144 : Int) < (x.size : Int) := by omega
    go_wp2_with fail
    go_roundg (n - (k + 1))
    case measure => have := unhide Hgk; omega
    case rel => exact ⟨k + 1, m + 262144, rfl, by omega, by go_num, by go_num, by rw [unhide Hsn, Nat.min_eq_right (by omega)]; have := unhide Hmn; omega, .inr (by omega), rfl⟩

def xy : List ByteArray := [⟨#[120]⟩, ⟨#[121]⟩]
set_option maxRecDepth 100000 in
set_option maxHeartbeats 1000000 in
theorem eroomy_any (A : Option Addr) (n c B : Nat) (l : List ByteArray) (w : World) (hl : Rd w B 1 A n (l.map Value.string)) (hB : B ≤ w.heap.size) (hn : n ≤ 1000000000) :
    Calls Tryd.prog 10 #[.slice A n c] w fun e w' => ∃ g c', e = .returned (.slice (some ⟨g, 0, none⟩) n c') ∧ w'.ownsRow w.heap.size 9 1 (.slice (some ⟨g, 0, none⟩) (n + 2) c') (n + 2) ((l ++ xy).map Value.string) ∧ Below w.heap.size w w' := by
  have K := hide (copyTexts_any A n c B l w hB hl (by omega))
  clear hl
  go_enter Tryd.func10, Tryd.ntmps10
  go_wp2_with fail
  refine (unhide K).mono ?_
  rintro e w1 ⟨A1, c1, rfl, ho1, hb1⟩
  have Ho1 := hide ho1
  have Hb1 := hide hb1
  have hs1 := hb1.size
  clear ho1 hb1 K
  go_wp2_with (at_builtin; (refine wpList_app strTy rfl _ _ rfl w.heap.size (.slice A1 n c1) n _ rfl ((unhide Ho1).alloc _) (w1.heap.size + 1) (some ⟨w1.heap.size, 0, none⟩) 2 2 (xy.map Value.string) rfl (Rd.rowF (cs := #[.string ⟨#[120]⟩, .string ⟨#[121]⟩]) rfl) (strs_oneE _) (by omega) (by rw [World.size_alloc]; omega) ?_; intro A3 c3 w3 ho3 hg3 hat3; have hb3 := ((unhide Hb1).alloc hs1 (.cells #[.string ⟨#[120]⟩, .string ⟨#[121]⟩] 9)).grown hg3 (by rw [World.size_alloc]; omega) (fun k' hk' => ((unhide Ho1).lt k' hk').1); rw [← List.map_append] at ho3; have hcap3 := own_cap ho3; have hnc3 : n ≤ c3 := (by omega); obtain ⟨g, rfl, _, _⟩ := own_some ho3 (by omega); have Ho3 := hide ho3; have Hb3 := hide hb3; clear ho3 hg3 hat3 hb3))
  go_ret
  exact ⟨g, c3, rfl, unhide Ho3, unhide Hb3⟩

set_option maxRecDepth 100000 in
set_option maxHeartbeats 1000000 in
theorem ekept_yes (g c' : Nat) (A : Option Addr) (n c B B' : Nat) (l : List ByteArray) (w : World) (hi : Rd w B 1 (some ⟨g, 0, none⟩) (n + 2) ((l ++ xy).map Value.string)) (hb : Rd w B' 1 A n (l.map Value.string)) (hc : n + 2 ≤ c') (hn : n ≤ 1000000000) :
    Calls Tryd.prog 17 #[.slice (some ⟨g, 0, none⟩) n c', .slice A n c] w fun e w' => e = .returned (.bool true) ∧ ∃ j, w' = w.drewN j := by
  have hln : l.length = n := by simpa using hb.len1
  have hfront : Rd w B 1 (some ⟨g, 0, none⟩) n (l.map Value.string) := by
    have h := hi.cutN (k := n) (by omega)
    rwa [← List.map_take, List.take_left' hln] at h
  have K := eqTexts_any (some ⟨g, 0, none⟩) A n n c' c (max B B') l l w (hfront.more (by omega)) (hb.more (by omega)) (by unfold maxLen; omega) (by unfold maxLen; omega)
  rw [decide_eq_true rfl] at K
  obtain ⟨b1, o1, e1, _, c1⟩ := hi.at_ (k := n) (u := .string ⟨#[120]⟩) (by rw [List.getElem?_map, List.getElem?_append_right (by omega), hln, Nat.sub_self]; rfl)
  obtain ⟨b2, o2, e2, _, c2⟩ := hi.at_ (k := n + 1) (u := .string ⟨#[121]⟩) (by rw [List.getElem?_map, List.getElem?_append_right (by omega), hln, Nat.add_sub_cancel_left]; rfl)
  injection e1 with e1
  injection e1 with e1a e1b
  injection e2 with e2
  injection e2 with e2a e2b
  subst e1a e1b e2a e2b
  rw [Nat.zero_add] at c1 c2
  have K' := hide K
  have hq1 : ((⟨#[120]⟩ : ByteArray).toList == (⟨#[120]⟩ : ByteArray).toList) = true := beq_self_eq_true _
  have hq2 : ((⟨#[121]⟩ : ByteArray).toList == (⟨#[121]⟩ : ByteArray).toList) = true := beq_self_eq_true _
  clear hi hb hln hfront K
  go_enter Tryd.func17, Tryd.ntmps17
  go_wp2_with fail
  refine (unhide K').mono ?_
  rintro e w1 ⟨rfl, j, rfl⟩
  have d1 : (w.drewN j).cell? ⟨g, n, none⟩ = some (.string ⟨#[120]⟩) := c1
  have d2 : (w.drewN j).cell? ⟨g, n + 1, none⟩ = some (.string ⟨#[121]⟩) := c2
  go_wp2_with fail
  go_ret
  exact ⟨rfl, j, rfl⟩

set_option maxRecDepth 100000 in
set_option maxHeartbeats 1000000 in
theorem eown_any (A3 : Option Addr) (m c3 base : Nat) (L : List Value) (g c' : Nat) (A : Option Addr) (n c B : Nat) (l : List ByteArray) (w : World) (ho : w.ownsRow base 9 1 (.slice A3 m c3) m L) (hbase : base ≤ w.heap.size)
    (hi : Rd w B 1 (some ⟨g, 0, none⟩) (n + 2) ((l ++ xy).map Value.string)) (hb : Rd w B 1 A n (l.map Value.string)) (hB : B ≤ base) (hc : n + 2 ≤ c') (hn : n ≤ 1000000000) (hm : m ≤ 1000000001) :
    Calls Tryd.prog 25 #[.slice A3 m c3, .slice (some ⟨g, 0, none⟩) n c', .slice A n c] w fun e w' => e = .returned (.bool true) ∧ w.grownBy w' (Value.slice A3 m c3).ownBlock := by
  have Ho := hide ho
  have Hi := hide hi
  have Hb := hide hb
  clear ho hi hb
  go_enter Tryd.func25, Tryd.ntmps25
  go_wp2_with (at_builtin; refine wpList_app1 strTy rfl _ _ rfl base (.slice A3 m c3) m _ rfl (unhide Ho) _ rfl rfl (by simp [Value.oneCell']) (by omega) hbase ?_; intro A4 c4 w4 ho4 hg4 hat4; have Ho4 := hide ho4; have Hg4 := hide hg4; have Hat4 := hide hat4; clear ho4 hg4 hat4)
  obtain ⟨g4, rfl, hb4, hl4⟩ := own_some (unhide Ho4) (by omega)
  have hbel0 : Below base w w4 := (Below.refl base w).grown (unhide Hg4) hbase (fun k hk => ((unhide Ho).lt k hk).1)
  have Hbel0 := hide hbel0
  clear hbel0
  go_loopg [7] (m + 1) (fun gk iv wr => ∃ (k : Nat) (ys : List Value), gk = m + 1 - k ∧ k ≤ m + 1 ∧ iv = .int .i64 k ∧ wr.ownsRow base 9 1 (.slice (some ⟨g4, 0, none⟩) (m + 1) c4) (m + 1) ys ∧ w4.grownBy wr (some g4))
  case atStart => exact ⟨0, _, by omega, by omega, rfl, unhide Ho4, ⟨rfl, rfl, rfl, Nat.le_refl _, fun _ _ _ => rfl⟩⟩
  case round =>
  obtain ⟨k, ys, hgk, hk, rfl, ho5, hg5⟩ := hrel
  have Hgk := hide hgk
  have Ho5 := hide ho5
  have Hg5 := hide hg5
  have hyl : ys.length = m + 1 := by have := ho5.1; omega
  have Hyl := hide hyl
  clear hgk ho5 hg5 hyl
  by_cases hlt : k < m + 1
  · obtain ⟨y, hy⟩ : ∃ y, ys[k]? = some y := ⟨_, List.getElem?_eq_getElem (by rw [unhide Hyl]; exact hlt)⟩
    have ci := own_cell (unhide Ho5) hy
    have fi := own_free (unhide Ho5) k
    have hset := own_set (i := k) (unhide Ho5) (.string ⟨#[33]⟩)
    have Hset := hide hset
    clear hset hy
    go_wp2_with fail
    go_roundg (m + 1 - (k + 1))
    case measure => have := unhide Hgk; omega
    case rel => exact ⟨k + 1, _, rfl, by omega, by go_num, unhide Hset, grown_trans (unhide Hg5) ⟨rfl, rfl, rfl, by simp, fun k _ hk => heap_setCell_other _ _ _ _ (fun e => hk (by rw [e]))⟩⟩
  · have hbel : Below base w wr := (unhide Hbel0).grown (unhide Hg5) (Nat.le_trans hbase (unhide Hbel0).size) (fun k' hk' => by injection hk' with hk'; omega)
    have K := hide (ekept_yes g c' A n c B B l wr ((unhide Hi).below (hbel.mono hB)) ((unhide Hb).below (hbel.mono hB)) hc hn)
    have hfin : ∀ j, w.grownBy (wr.drewN j) (Value.slice A3 m c3).ownBlock := by
      intro j
      refine ⟨(unhide Hg5).os.trans (unhide Hg4).os, (unhide Hg5).tape.trans (unhide Hg4).tape, (unhide Hg5).output.trans (unhide Hg4).output, Nat.le_trans (unhide Hg4).size (unhide Hg5).size, fun i hi hr => ?_⟩
      refine ((unhide Hg5).block i (Nat.lt_of_lt_of_le hi (unhide Hg4).size) (fun e => ?_)).trans ((unhide Hg4).block i hi hr)
      rcases (unhide Hat4) g4 rfl with h1 | h1
      · exact hr (by rw [h1]; exact e)
      · injection e with e
        omega
    have Hfin := hide hfin
    clear hbel hfin
    go_wp2_with fail
    refine (unhide K).mono ?_
    rintro e w6 ⟨rfl, j, rfl⟩
    go_wp2_with fail
    go_ret
    exact ⟨rfl, (unhide Hfin) j⟩
end Go.Proofs.YtlcdilgniimnlaaDoor
namespace Go.Proofs.YtlcdilgniimnlaaDoor
set_option linter.unusedVariables false
set_option linter.unusedSimpArgs false
open Go.RowKit

def eB1 : ByteArray := ⟨#[66, 61, 49]⟩
def eA2 : ByteArray := ⟨#[65, 61, 50]⟩
theorem anc_bad : Ev.badSet ⟨#[65]⟩ ⟨#[50]⟩ = false := by decide +kernel
theorem anc_set : Ev.set [⟨#[66, 61, 49]⟩] ⟨#[65]⟩ ⟨#[50]⟩ = [⟨#[66, 61, 49]⟩, ⟨#[65, 61, 50]⟩] := by decide +kernel
theorem anc_get : Ev.get [⟨#[66, 61, 49]⟩, ⟨#[65, 61, 50]⟩] ⟨#[65]⟩ = (⟨#[50]⟩, true) := by decide +kernel
theorem anc_scrub : Ev.scrub [⟨#[84, 77, 80, 68, 73, 82, 61, 120]⟩, ⟨#[65, 61, 49]⟩] = [⟨#[65, 61, 49]⟩] := by decide +kernel
theorem anc_list : (Ev.list (⟨#[58]⟩ : ByteArray).data.toList).length = 2 := by decide +kernel
theorem anc_check : Cl.envCk [⟨#[0]⟩] = 1 := by decide +kernel

set_option maxRecDepth 100000 in
set_option maxHeartbeats 4000000 in
theorem eworks_any (w : World) : Calls Tryd.prog 9 #[] w fun e w' => e = .returned (.bool true) ∧ Below w.heap.size w w' := by
  have r1 : Rd (w.alloc (.cells #[.string ⟨#[66, 61, 49]⟩] 9)) (w.heap.size + 1) 1 (some ⟨w.heap.size, 0, none⟩) 1 ([(⟨#[66, 61, 49]⟩ : ByteArray)].map Value.string) := Rd.row rfl
  have hb1 : Below w.heap.size w (w.alloc (.cells #[.string ⟨#[66, 61, 49]⟩] 9)) := (Below.refl _ _).alloc (Nat.le_refl _) _
  have K1 := set_any (some ⟨w.heap.size, 0, none⟩) 1 1 (w.heap.size + 1) [⟨#[66, 61, 49]⟩] ⟨#[65]⟩ ⟨#[50]⟩ _ r1 (by simp) (by intro x hx; rw [List.mem_singleton] at hx; subst hx; decide) (by omega) (Nat.le_refl _) (by decide) (by decide)
  unfold SetE at K1
  rw [anc_bad, anc_set] at K1
  replace K1 := hide K1
  have Hb1 := hide hb1
  clear r1 hb1
  go_enter Tryd.func9, Tryd.ntmps9
  go_wp2_with fail
  refine (unhide K1).mono ?_
  rintro e w2 (⟨h, _⟩ | ⟨_, A2, c2, k2, rfl, hk2, ho2, hb2⟩)
  · cases h
  obtain rfl : k2 = 2 := hk2
  have hbB := (unhide Hb1).trans (hb2.mono (unhide Hb1).size)
  have K2 := get_any A2 2 c2 w2.heap.size _ ⟨#[65]⟩ w2 (Rd.of_own ho2) (Nat.le_refl _) (by intro x hx; simp at hx; rcases hx with rfl | rfl <;> decide) (by omega)
  rw [anc_get] at K2
  replace K2 := hide K2
  have Hb2 := hide hbB
  clear ho2 hb2 hbB K1 Hb1
  go_wp2_with fail
  refine (unhide K2).mono ?_
  rintro e w3 ⟨rfl, hb3⟩
  have hb3' := (unhide Hb2).trans (hb3.mono (unhide Hb2).size)
  have r3 : Rd (w3.alloc (.cells #[.string ⟨#[84, 77, 80, 68, 73, 82, 61, 120]⟩, .string ⟨#[65, 61, 49]⟩] 9)) (w3.heap.size + 1) 1 (some ⟨w3.heap.size, 0, none⟩) 2 ([(⟨#[84, 77, 80, 68, 73, 82, 61, 120]⟩ : ByteArray), ⟨#[65, 61, 49]⟩].map Value.string) := Rd.rowF (cs := #[.string ⟨#[84, 77, 80, 68, 73, 82, 61, 120]⟩, .string ⟨#[65, 61, 49]⟩]) rfl
  have K3 := scrub_any (some ⟨w3.heap.size, 0, none⟩) 2 2 (w3.heap.size + 1) _ _ r3 (by simp) (by intro x hx; simp at hx; rcases hx with rfl | rfl <;> decide) (by omega)
  rw [anc_scrub] at K3
  unfold EnvE at K3
  replace K3 := hide K3
  have Hb3 := hide (hb3'.alloc hb3'.size (.cells #[.string ⟨#[84, 77, 80, 68, 73, 82, 61, 120]⟩, .string ⟨#[65, 61, 49]⟩] 9))
  have hq50 : ((⟨#[50]⟩ : ByteArray).toList == (⟨#[50]⟩ : ByteArray).toList) = true := beq_self_eq_true _
  clear hb3 hb3' r3 K2 Hb2
  go_wp2_with fail
  refine (unhide K3).mono ?_
  rintro e w4 ⟨A4, c4, rfl, ho4, hb4⟩
  have hb4' := (unhide Hb3).trans (hb4.mono (unhide Hb3).size)
  have K4 := hide (list_any ⟨#[58]⟩ w4 (by decide))
  have Hb4 := hide hb4'
  clear ho4 hb4 hb4' K3 Hb3
  go_wp2_with fail
  refine (unhide K4).mono ?_
  rintro e w5 ⟨u, rfl, ho5, hb5⟩
  rw [anc_list] at ho5
  obtain ⟨A5, c5, rfl⟩ := own_form ho5
  have hb5' := (unhide Hb4).trans (hb5.mono (unhide Hb4).size)
  have r5 : Rd (w5.alloc (.cells #[.string ⟨#[0]⟩] 9)) (w5.heap.size + 1) 1 (some ⟨w5.heap.size, 0, none⟩) 1 ([(⟨#[0]⟩ : ByteArray)].map Value.string) := Rd.row rfl
  have K5 := envCheck_any (some ⟨w5.heap.size, 0, none⟩) 1 1 (w5.heap.size + 1) _ _ r5 (by intro x hx; rw [List.mem_singleton] at hx; subst hx; decide) (by decide)
  rw [anc_check] at K5
  replace K5 := hide K5
  have Hb5 := hide (hb5'.alloc hb5'.size (.cells #[.string ⟨#[0]⟩] 9))
  clear ho5 hb5 hb5' K4 Hb4 r5
  go_wp2_with fail
  refine (unhide K5).mono ?_
  rintro e w6 ⟨rfl, rfl⟩
  go_wp2_with fail
  go_ret
  exact ⟨rfl, unhide Hb5⟩

set_option maxRecDepth 100000 in
set_option maxHeartbeats 4000000 in
theorem envsChecks_walk (A : Option Addr) (n c : Nat) (l : List ByteArray) (name : ByteArray) (w : World) (hl : Rd w w.heap.size 1 A n (l.map Value.string)) (hs : ∀ x ∈ l, x.size ≤ maxLen) (hnc : n ≤ c) (hn : n ≤ maxLen) (hns : name.size ≤ maxLen) :
    Calls Tryd.prog 3 #[.slice A n c, .string name] w fun e w' => e = .returned (.bool true) ∧ Below w.heap.size w w' := by
  have KW := hide eworks_any
  have KL := hide (elarge_any A n c w.heap.size l w hl hs hn)
  have Hl := hide hl
  have Hs := hide hs
  unfold maxLen at hn hns
  clear hl hs
  go_enter Tryd.func3, Tryd.ntmps3
  go_wp2_with fail
  refine (unhide KL).mono ?_
  rintro e w1 ⟨r, rfl, rfl, hr⟩
  clear KL
  by_cases hout : r = true ∨ 131072 < name.size
  · clear hr
    have : (r = true) ∨ (r = false ∧ (131072 : Int) < (name.size : Int)) := by
      cases r
      · rcases hout with h | h
        · cases h
        · exact .inr ⟨rfl, by omega⟩
      · exact .inl rfl
    clear hout
    rcases this with rfl | ⟨rfl, hbig⟩
    all_goals
      go_wp2_with fail
      refine ((unhide KW) _).mono ?_
      rintro e w2 ⟨rfl, hb2⟩
      have Hb2 := hide hb2
      clear hb2
      go_wp2_with fail
      go_ret
      exact ⟨rfl, unhide Hb2⟩
  obtain rfl : r = false := by cases r; rfl; exact absurd (.inl rfl) hout
  obtain ⟨hn1, hs1⟩ := hr rfl
  have hns1 : ¬ (131072 : Int) < (name.size : Int) := by omega
  have hns2 : name.size ≤ 131072 := by omega
  have Hs1 : Hid (∀ x ∈ l, x.size ≤ maxLen) := hide (fun x hx => by have := hs1 x hx; unfold maxLen; omega)
  clear hout hr hs1 Hs
  have KR := hide (eroomy_any A n c w.heap.size l w (unhide Hl) (Nat.le_refl _) (by omega))
  go_wp2_with fail
  refine (unhide KR).mono ?_
  rintro e w2 ⟨g, c2, rfl, ho2, hb2⟩
  have hcap := own_cap ho2
  have hln : l.length = n := by simpa using (unhide Hl).len1
  have Hin := hide (Rd.of_own ho2)
  have hf := (Rd.of_own ho2).cutN (k := n) (by omega)
  rw [← List.map_take, List.take_left' hln] at hf
  have Hf := hide hf
  have Hb2 := hide hb2
  have Hl2 := hide ((unhide Hl).below hb2)
  have hw2 := hb2.size
  have K1 := hide (fun w => split_any name w (by unfold maxLen; omega))
  have K2 := hide (fun w => rsplit_any name w (by unfold maxLen; omega))
  clear ho2 hb2 KR hf hln
  go_wp2_with fail
  refine ((unhide K1) _).mono ?_
  rintro e w3 ⟨rfl, q1, rfl⟩
  go_wp2_with fail
  refine ((unhide K2) _).mono ?_
  rintro e w4 ⟨rfl, q2, rfl⟩
  have hb4 : Below w.heap.size w (w2.drewN (q1 + q2)) := below_drewN' (unhide Hb2) _
  have hf4 : Rd (w2.drewN (q1 + q2)) w2.heap.size 1 (some ⟨g, 0, none⟩) n (l.map Value.string) := (unhide Hf).drewN _
  have hin4 : Rd (w2.drewN (q1 + q2)) w2.heap.size 1 (some ⟨g, 0, none⟩) (n + 2) ((l ++ xy).map Value.string) := (unhide Hin).drewN _
  have hl4 : Rd (w2.drewN (q1 + q2)) w.heap.size 1 A n (l.map Value.string) := (unhide Hl2).drewN _
  have hz4 : (w2.drewN (q1 + q2)).heap.size = w2.heap.size := rfl
  have Hb4 := hide hb4
  have Hf4 := hide hf4
  have Hin4 := hide hin4
  have Hl4 := hide hl4
  have Hz4 := hide hz4
  clear hb4 hf4 hin4 hl4 hz4 K1 K2 Hb2 Hf Hin Hl2 Hl
  simp only [World.drewN_drewN]
  generalize w2.drewN (q1 + q2) = W at *
  obtain ⟨nm, hnm⟩ : ∃ nm, Ev.nm name = nm := ⟨_, rfl⟩
  obtain ⟨vl, hvl⟩ : ∃ vl, Ev.vl name = vl := ⟨_, rfl⟩
  obtain ⟨b, hbb⟩ : ∃ b, Ev.is name = b := ⟨_, rfl⟩
  simp only [hnm, hvl, hbb]
  clear hnm hvl hbb
  have K3 := get_any (some ⟨g, 0, none⟩) n c2 W.heap.size l name W ((unhide Hf4).more (by have := unhide Hz4; omega)) (Nat.le_refl _) (unhide Hs1) (by omega)
  obtain ⟨⟨gv, gb⟩, hg⟩ : ∃ r, Ev.get l name = r := ⟨_, rfl⟩
  rw [hg] at K3
  have Hg := hide hg
  replace K3 := hide K3
  clear hg
  go_wp2_with fail
  refine (unhide K3).mono ?_
  rintro e w5 ⟨rfl, hb5⟩
  have hb5' := (unhide Hb4).trans (hb5.mono (unhide Hb4).size)
  have hl5 := (unhide Hl4).below (hb5.mono (unhide Hb4).size)
  have K4 := rget_any A n c w.heap.size l name w5 hl5 (unhide Hs1) (by omega)
  rw [unhide Hg] at K4
  replace K4 := hide K4
  have Hb5 := hide hb5'
  have Hl5 := hide hl5
  have Hin5 := hide ((unhide Hin4).below (hb5.mono (by have := unhide Hz4; omega)))
  have Hf5 := hide ((unhide Hf4).below (hb5.mono (by have := unhide Hz4; omega)))
  clear hb5 hb5' hl5 K3 Hb4 Hl4 Hin4 Hf4
  go_wp2_with fail
  refine (unhide K4).mono ?_
  rintro e w6 ⟨rfl, q3, rfl⟩
  obtain ⟨ck, hck⟩ : ∃ ck, Cl.envCk l = ck := ⟨_, rfl⟩
  have K5 := envCheck_any (some ⟨g, 0, none⟩) n c2 w2.heap.size l (w5.drewN q3) ((unhide Hf5).drewN q3) (unhide Hs1) (by unfold maxLen; omega)
  have K6 := renvCheck_any A n c w.heap.size l (w5.drewN q3) ((unhide Hl5).drewN q3) (unhide Hs1) (by unfold maxLen; omega)
  rw [hck] at K5 K6
  replace K5 := hide K5
  replace K6 := hide K6
  have K7 := hide (ekept_yes g c2 A n c w2.heap.size w.heap.size l (w5.drewN q3) ((unhide Hin5).drewN q3) ((unhide Hl5).drewN q3) hcap (by omega))
  have Hb6 := hide (below_drewN' (unhide Hb5) q3)
  have e1 : (ck == ck) = true := beq_self_eq_true _
  have e2 : (nm.toList == nm.toList) = true := beq_self_eq_true _
  have e3 : (vl.toList == vl.toList) = true := beq_self_eq_true _
  have e4 : (gv.toList == gv.toList) = true := beq_self_eq_true _
  have e5 : (b == b) = true := beq_self_eq_true _
  have e6 : (gb == gb) = true := beq_self_eq_true _
  clear hck K4 Hb5 Hl5 Hin5 Hf5 Hg
  generalize w5.drewN q3 = W6 at *
  go_wp2_with fail
  refine (unhide K5).mono ?_
  rintro e w7 ⟨rfl, rfl⟩
  go_wp2_with fail
  refine (unhide K6).mono ?_
  rintro e w7 ⟨rfl, rfl⟩
  go_wp2_with fail
  refine (unhide K7).mono ?_
  rintro e w7 ⟨rfl, q4, rfl⟩
  go_wp2_with fail
  refine ((unhide KW) _).mono ?_
  rintro e w8 ⟨rfl, hb8⟩
  have Hb8 := hide ((below_drewN' (unhide Hb6) q4).trans (hb8.mono (unhide Hb6).size))
  clear hb8
  go_wp2_with fail
  go_ret
  exact ⟨rfl, unhide Hb8⟩
end Go.Proofs.YtlcdilgniimnlaaDoor
namespace Go.Proofs.YtlcdilgniimnlaaDoor
set_option linter.unusedVariables false
set_option linter.unusedSimpArgs false
open Go.RowKit

set_option maxRecDepth 100000 in
set_option maxHeartbeats 1000000 in
theorem elargeS_any (A : Option Addr) (n c B : Nat) (l : List ByteArray) (w : World) (hl : Rd w B 1 A n (l.map Value.string)) (hs : ∀ x ∈ l, x.size ≤ maxLen) (hn : n ≤ maxLen) :
    Calls Tryd.prog 8 #[.slice A n c] w fun e w' => ∃ r, e = .returned (.bool r) ∧ w = w' ∧ (r = false → n + sumE l ≤ 131072) := by
  have hln : l.length = n := by simpa using hl.len1
  unfold maxLen at hn
  have Hl := hide hl
  have Hln := hide hln
  have Hs := hide hs
  clear hl hln hs
  go_enter Tryd.func8, Tryd.ntmps8
  go_wp2_with fail
  go_loopg [3, 4] n (fun gk nv i wr => ∃ k m : Nat, gk = n - k ∧ k ≤ n ∧ i = .int .i64 k ∧ nv = .int .i64 m ∧ m = n + sumE (l.take k) ∧ (k = 0 ∨ m ≤ 393216) ∧ w = wr)
  case atStart => exact ⟨0, n, by omega, by omega, rfl, rfl, by simp [sumE], .inl rfl, rfl⟩
  case round =>
  obtain ⟨k, m, hgk, hk, rfl, rfl, hmn, hm0, rfl⟩ := hrel
  have Hgk := hide hgk
  have Hmn := hide hmn
  clear hgk hmn
  have hmb : m ≤ 9223372036854775807 := by
    rcases hm0 with rfl | h
    · have := unhide Hmn; simp [sumE] at this; omega
    · omega
  by_cases hlt : k < n
  case neg =>
    obtain rfl : k = n := by omega
    have htk : l.take k = l := List.take_of_length_le (by have := unhide Hln; omega)
    have hnn := unhide Hmn
    rw [htk] at hnn
    have Hnn := hide hnn
    clear htk hnn hm0
    go_wp2_with fail
    go_ret
    refine ⟨_, rfl, rfl, fun hr => ?_⟩
    have hm : m ≤ 131072 := by
      have h : (m : Int) ≤ 131072 := by simpa using hr
      omega
    have h1 := unhide Hnn
    omega
  by_cases hbig : m ≤ 131072
  case neg =>
    have hb : ((m : Int) ≤ 131072) = False := by simp; omega
    clear hm0
    go_wp2_with fail
    go_ret
    exact ⟨_, rfl, rfl, fun hr => by simp at hr; omega⟩
  obtain ⟨x, hx⟩ : ∃ x, l[k]? = some x := ⟨_, List.getElem?_eq_getElem (by rw [unhide Hln]; exact hlt)⟩
  obtain ⟨b1, o1, rfl, _, c1⟩ := (unhide Hl).at_ (k := k) (u := .string x) (by simp [hx])
  have hxs := (unhide Hs) x (List.mem_of_getElem? hx)
  unfold maxLen at hxs
  have Hsn := hide (sumE_snoc hx)
  clear hx hm0
  by_cases hmin : x.size ≤ 262144
  · have hmin' : (x.size : Int) ≤ 262144 := by omega
    go_wp2_with fail
    go_roundg (n - (k + 1))
    case measure => have := unhide Hgk; omega
    case rel => exact ⟨k + 1, m + x.size, rfl, by omega, by go_num, by go_num, by rw [unhide Hsn, Nat.min_eq_left hmin]; have := unhide Hmn; omega, .inr (by omega), rfl⟩
  · have hmin' : (262144 : Int) < (x.size : Int) := by omega
    go_wp2_with fail
    go_roundg (n - (k + 1))
    case measure => have := unhide Hgk; omega
    case rel => exact ⟨k + 1, m + 262144, rfl, by omega, by go_num, by go_num, by rw [unhide Hsn, Nat.min_eq_right (by omega)]; have := unhide Hmn; omega, .inr (by omega), rfl⟩

/-- Texts, a colon behind each. -/
def flat : List ByteArray → List UInt8
  | [] => []
  | x :: r => x.data.toList ++ 58 :: flat r
theorem flat_snoc (l : List ByteArray) (x : ByteArray) : flat (l ++ [x]) = flat l ++ (x.data.toList ++ [58]) := by
  induction l with
  | nil => simp [flat]
  | cons y r ih => simp [flat, ih]
theorem flat_take {l : List ByteArray} {k : Nat} {x : ByteArray} (h : l[k]? = some x) : flat (l.take (k + 1)) = flat (l.take k) ++ (x.data.toList ++ [58]) := by
  rw [List.take_add_one, h]
  exact flat_snoc _ _
theorem join_flat {l : List ByteArray} {k : Nat} {x : ByteArray} (h : l[k]? = some x) (hk : k + 1 = l.length) : Ev.join l = flat (l.take k) ++ x.data.toList := by
  induction l generalizing k with
  | nil => simp at h
  | cons y r ih =>
    cases k with
    | zero =>
      have : r = [] := List.eq_nil_of_length_eq_zero (by simp only [List.length_cons] at hk; omega)
      subst this
      simp at h
      subst h
      simp [Ev.join, flat]
    | succ k =>
      cases r with
      | nil => simp at hk
      | cons z r =>
        have h' : (z :: r)[k]? = some x := by simpa using h
        have := ih h' (by simp at hk ⊢; omega)
        simp only [Ev.join, List.take_succ_cons, flat, List.append_assoc, List.cons_append]
        rw [this]
theorem flat_len (l : List ByteArray) (h : ∀ x ∈ l, x.size ≤ 262144) : (flat l).length ≤ sumE l + l.length := by
  induction l with
  | nil => simp [flat]
  | cons x r ih =>
    have h1 := h x (.head _)
    have h2 := ih (fun y hy => h y (.tail _ hy))
    have hsz : x.data.toList.length = x.size := by simp
    simp only [flat, sumE, List.length_append, List.length_cons]
    rw [hsz]
    omega
theorem sumE_take (l : List ByteArray) (k : Nat) : sumE (l.take k) ≤ sumE l := by
  conv => rhs; rw [← List.take_append_drop k l, sumE_app]
  omega
/-- What has been put together. -/
def PcS (l : List ByteArray) (k : Nat) (s : ByteArray) : Prop := (k < l.length → s.data.toList = flat (l.take k)) ∧ (k = l.length → s.data.toList = Ev.join l)
def PcF (l : List ByteArray) (k : Nat) : Prop := ∀ x ∈ l.take k, (∀ c ∈ x.data.toList, c ≠ 58) ∧ x.data.toList ≠ []

set_option maxRecDepth 100000 in
set_option maxHeartbeats 4000000 in
theorem envsPieces_walk (A : Option Addr) (n c : Nat) (l : List ByteArray) (w : World) (hl : Rd w w.heap.size 1 A n (l.map Value.string)) (hs : ∀ x ∈ l, x.size ≤ maxLen) (hnc : n ≤ c) (hn : n ≤ maxLen) :
    Calls Tryd.prog 7 #[.slice A n c] w fun e w' => e = .returned (.bool true) ∧ Below w.heap.size w w' := by
  have KW := hide eworks_any
  have KL := hide (elargeS_any A n c w.heap.size l w hl hs hn)
  have hln : l.length = n := by simpa using hl.len1
  have Hl := hide hl
  have Hln := hide hln
  unfold maxLen at hn
  clear hl hs hln
  go_enter Tryd.func7, Tryd.ntmps7
  go_wp2_with fail
  refine (unhide KL).mono ?_
  rintro e w1 ⟨r, rfl, rfl, hr⟩
  clear KL
  cases r
  case true =>
    clear hr
    go_wp2_with fail
    refine ((unhide KW) _).mono ?_
    rintro e w2 ⟨rfl, hb2⟩
    have Hb2 := hide hb2
    clear hb2
    go_wp2_with fail
    go_ret
    exact ⟨rfl, unhide Hb2⟩
  have hsum := hr rfl
  have hx1 : ∀ x ∈ l, x.size ≤ 131072 := fun x hx => by have := sumE_mem hx; omega
  have Hx1 := hide hx1
  have hn1 : n ≤ 131072 := by omega
  have Hsum := hide hsum
  clear hr hx1 hsum
  have hstart : PcS l 0 ⟨#[]⟩ := ⟨fun _ => rfl, fun h => by
    have : l = [] := List.eq_nil_of_length_eq_zero h.symm
    subst this
    rfl⟩
  have Hstart := hide hstart
  clear hstart
  go_wp2_with fail
  go_loopg [3, 4] n (fun gk sv i wr => ∃ (k : Nat) (s : ByteArray), gk = n - k ∧ k ≤ n ∧ i = .int .i64 k ∧ sv = .string s ∧ PcS l k s ∧ PcF l k ∧ s.size ≤ 262144 ∧ w = wr)
  case atStart => exact ⟨0, _, by omega, by omega, rfl, rfl, unhide Hstart, by intro x hx; simp at hx, by decide, rfl⟩
  case round =>
  obtain ⟨k, s, hgk, hk, rfl, rfl, hps, hpf, hss, rfl⟩ := hrel
  have Hgk := hide hgk
  have Hps := hide hps
  have Hpf := hide hpf
  clear hgk hps hpf
  by_cases hlt : k < n
  case neg =>
    obtain rfl : k = n := by omega
    have hsj : s.data.toList = Ev.join l := (unhide Hps).2 (unhide Hln).symm
    have hall : l.take k = l := List.take_of_length_le (by have := unhide Hln; omega)
    have hpf := unhide Hpf
    unfold PcF at hpf
    rw [hall] at hpf
    have hlist := Ev.list_join l hpf
    rw [← hsj] at hlist
    have K := list_any s w (by omega)
    unfold ListE at K
    rw [hlist, unhide Hln] at K
    replace K := hide K
    clear hsj hall hpf hlist
    go_wp2_with fail
    refine (unhide K).mono ?_
    rintro e w2 ⟨u, rfl, ho, hb⟩
    obtain ⟨A2, c2, rfl⟩ := own_form ho
    have KE := eqTexts_any A2 A k k c2 c w2.heap.size l l w2 (Rd.of_own ho) ((unhide Hl).belowSz hb) (by unfold maxLen; omega) (by unfold maxLen; omega)
    rw [decide_eq_true rfl] at KE
    replace KE := hide KE
    have Hb := hide hb
    clear ho hb K
    go_wp2_with fail
    refine (unhide KE).mono ?_
    rintro e w3 ⟨rfl, j, rfl⟩
    go_wp2_with fail
    refine ((unhide KW) _).mono ?_
    rintro e w4 ⟨rfl, hb4⟩
    have Hb4 := hide ((below_drewN' (unhide Hb) j).trans (hb4.mono (unhide Hb).size))
    clear hb4
    go_wp2_with fail
    go_ret
    exact ⟨rfl, unhide Hb4⟩
  obtain ⟨x, hx⟩ : ∃ x, l[k]? = some x := ⟨_, List.getElem?_eq_getElem (by rw [unhide Hln]; exact hlt)⟩
  obtain ⟨b1, o1, rfl, _, c1⟩ := (unhide Hl).at_ (k := k) (u := .string x) (by simp [hx])
  have hxs := (unhide Hx1) x (List.mem_of_getElem? hx)
  have Hx := hide hx
  clear hx
  go_wp2_with fail
  go_loopg [5] x.size (fun gk i wr => ∃ j : Nat, gk = x.size - j ∧ j ≤ x.size ∧ i = .int .i64 j ∧ (x.data.toList.take j).contains 58 = false ∧ w = wr)
  case atStart => exact ⟨0, by omega, by omega, rfl, by simp, rfl⟩
  case round =>
  obtain ⟨j, hgj, hj, rfl, hz, rfl⟩ := hrel
  have Hz := hide hz
  have Hgj := hide hgj
  clear hz hgj
  by_cases hjl : j < x.size
  · by_cases hc : x[j] = 58
    · have b2 : (((x[j].toNat : Nat) : Int) == 58) = true := by rw [byte_58]; simpa using hc
      clear hc
      go_wp2_with fail
      refine ((unhide KW) _).mono ?_
      rintro e w2 ⟨rfl, hb2⟩
      have Hb2 := hide hb2
      clear hb2
      go_wp2_with fail
      go_ret
      exact ⟨rfl, unhide Hb2⟩
    · have b2 : (((x[j].toNat : Nat) : Int) == 58) = false := by rw [byte_58]; simpa using hc
      have hz : (x.data.toList.take (j + 1)).contains 58 = false := by
        rw [List.take_succ_eq_append_getElem (by simpa using hjl), List.contains_append, unhide Hz]
        simp only [Bool.false_or]
        exact by simpa using fun h => hc h.symm
      have Hz2 := hide hz
      clear hz hc
      go_wp2_with fail
      go_roundg (x.size - (j + 1))
      case measure => have := unhide Hgj; omega
      case rel => exact ⟨j + 1, rfl, by omega, by go_num, unhide Hz2, rfl⟩
  · have hz : x.data.toList.contains 58 = false := by
      have := unhide Hz
      rwa [List.take_of_length_le (by simp; omega)] at this
    have hfree : ∀ c ∈ x.data.toList, c ≠ 58 := by
      intro c hc e
      subst e
      rw [← List.contains_iff_mem, hz] at hc
      cases hc
    have Hfree := hide hfree
    clear hz hfree
    have hem := isEmpty_toList x
    by_cases hx0 : x.size = 0
    · rw [decide_eq_true hx0] at hem
      have q2 : x.toList = [] := List.isEmpty_iff.1 hem
      clear hx0
      go_wp2_with fail
      refine ((unhide KW) _).mono ?_
      rintro e w2 ⟨rfl, hb2⟩
      have Hb2 := hide hb2
      clear hb2
      go_wp2_with fail
      go_ret
      exact ⟨rfl, unhide Hb2⟩
    · rw [decide_eq_false hx0] at hem
      have q2 : ¬ x.toList = [] := by rw [← List.isEmpty_iff, hem]; simp
      have hxne : x.data.toList ≠ [] := fun h => hx0 (by have := congrArg List.length h; simpa using this)
      have hpf2 : PcF l (k + 1) := by
        intro y hy
        rw [List.take_add_one, unhide Hx] at hy
        rcases List.mem_append.1 hy with hy | hy
        · exact (unhide Hpf) y hy
        · have : y = x := by simpa using hy
          subst this
          exact ⟨unhide Hfree, hxne⟩
      have Hpf2 := hide hpf2
      have hkl : k < l.length := by rw [unhide Hln]; exact hlt
      have hsk := (unhide Hps).1 hkl
      have hfl := flat_len (l.take (k + 1)) (fun y hy => by have := (unhide Hx1) y (List.mem_of_mem_take hy); omega)
      have hst := sumE_take l (k + 1)
      have htl : (l.take (k + 1)).length ≤ l.length := by rw [List.length_take]; omega
      have hft := flat_take (unhide Hx)
      have hlen1 := congrArg List.length hft
      rw [List.length_append, List.length_append, ← hsk] at hlen1
      have hssz : s.data.toList.length = s.size := by simp
      have hxsz : x.data.toList.length = x.size := by simp
      have hsz2 : s.size + x.size + 1 ≤ 262144 := by
        have h1 := unhide Hsum
        have h2 := unhide Hln
        simp only [List.length_singleton] at hlen1
        omega
      have Hsk := hide hsk
      have Hft := hide hft
      clear hpf2 hxne hx0 hsk hfl hst htl hft hlen1 hssz hxsz
      by_cases hlast : k + 1 < n
      · have hl1 : (k : Int) < (n : Int) - 1 := by omega
        have hnew : PcS l (k + 1) (s ++ x ++ (⟨#[58]⟩ : ByteArray)) := by
          refine ⟨fun _ => ?_, fun h => by have := unhide Hln; omega⟩
          rw [unhide Hft, ← unhide Hsk]
          simp
        have hsz3 : (s ++ x ++ (⟨#[58]⟩ : ByteArray)).size ≤ 262144 := by
          rw [ByteArray.size_append, ByteArray.size_append]
          have : (⟨#[58]⟩ : ByteArray).size = 1 := rfl
          omega
        have Hnew := hide (And.intro hnew hsz3)
        clear hnew hsz3
        go_wp2_with fail
        go_roundg (n - (k + 1))
        case measure => have := unhide Hgk; omega
        case rel => exact ⟨k + 1, _, rfl, by omega, by go_num, rfl, (unhide Hnew).1, unhide Hpf2, (unhide Hnew).2, rfl⟩
      · have hl1 : ¬ (k : Int) < (n : Int) - 1 := by omega
        have hnew : PcS l (k + 1) (s ++ x) := by
          refine ⟨fun h => by have := unhide Hln; omega, fun h => ?_⟩
          rw [join_flat (unhide Hx) h, ← unhide Hsk]
          simp
        have hsz3 : (s ++ x).size ≤ 262144 := by
          rw [ByteArray.size_append]
          omega
        have Hnew := hide (And.intro hnew hsz3)
        clear hnew hsz3
        go_wp2_with fail
        go_roundg (n - (k + 1))
        case measure => have := unhide Hgk; omega
        case rel => exact ⟨k + 1, _, rfl, by omega, by go_num, rfl, (unhide Hnew).1, unhide Hpf2, (unhide Hnew).2, rfl⟩
end Go.Proofs.YtlcdilgniimnlaaDoor
namespace Go.Proofs.YtlcdilgniimnlaaDoor.envsPieces
open Go.ChangeShapes Go.WideShapes Go.ChangeAt Go.RowKit
open Go.ChangeMaps (open_string shut_string)
set_option linter.unusedVariables false

theorem own : ownKnob Tryd.prog.godebug = none := by kernel_rfl
theorem laidOut : laidOutB Tryd.prog = true := by kernel_rfl
theorem wfi {z : Int} (h : (Lit.int .i64 z).wf = true) : -9223372036854775808 ≤ z ∧ z ≤ 9223372036854775807 := by simpa [Lit.wf, IntKind.min, IntKind.max, IntKind.signed, IntKind.bits] using h

def laid3 : List (String × DataW Unit) := [("unicode/utf8.acceptRanges", Rows.laid_unicode_utf8_acceptRanges), ("unicode/utf8.first", Rows.laid_unicode_utf8_first)]

set_option maxRecDepth 100000 in
theorem lifted (os : Os) (started : os.Started) (H : Type) (enc : TypeId × Value → H) :
    ReturnsInHanded {} Tryd.checked os 7 .any (fun w args => (Rows.envsPiecesSpec.pre enc Tryd.prog Tryd.f7 [] false w args ∧ laidMetH Tryd.prog laid3 w) ∧ sizedMet enc Tryd.prog Tryd.f7 (OpenSpec.ofChange Rows.envsPiecesSpec) false w args)
      (Rows.envsPiecesSpec.post enc Tryd.prog Tryd.f7 false true false false) := by
  refine returnsInHanded_of_change_and (C := Tryd.checked) (X := fun w _ => laidMetH Tryd.prog laid3 w) (fun _ _ _ hh h => h.of_heap hh) own started (by kernel_rfl) Tryd.func7
    (ChangeSpec.witness_shaped (enc := enc) (C := Tryd.checked) (os := os) (X := fun w _ => laidMetH Tryd.prog laid3 w) false (World.laidAll Tryd.prog os laid3) #[.slice none 0 0] 8 (World.laidAll_os _ _ _)
      (World.shaped_of_ZipB (by kernel_rfl) (by kernel_rfl)) (by kernel_rfl) (by kernel_rfl) (by kernel_rfl)
      (by rw [MakeChecks.laidMetH_plain _ _ _ (by kernel_rfl)]; exact laidMet_laidAll _ (by kernel_rfl) (by kernel_rfl))) ?_
  intro W base args ds gs before hval0 hW _ _ _ _
  have hval : ∀ (j : Nat) t v, Tryd.f7.params[j]? = some t → args[j]? = some v → Value.okWide Tryd.prog W .any base t v := hval0
  have hW' := hW
  obtain ⟨p, q, hA0, hV, rfl, hfz, hnd⟩ := hW
  have hA : DataW.TrodAll enc Tryd.prog W 0 (fun _ => true) true Tryd.f7.params.toList args.toList ds p := hA0
  rw [Tryd.params7] at hA hval
  obtain ⟨v0, vs0, d0, ds0, p0, q0, hargs, rfl, rfl, h0, r0⟩ := trodAll_cons hA
  obtain ⟨rfl, rfl, rfl⟩ := trodAll_nil r0
  obtain rfl : args = #[v0] := by cases args; simp_all
  obtain ⟨rfl, rfl⟩ := trodVars_none hV
  obtain ⟨A0, n0, c0, rfl⟩ := okWide_slice Tryd.underlying22 (hval 0 22 v0 rfl rfl)
  have k0 := h0
  have lt0 : ∀ x ∈ p0, x.block < W.heap.size := by obtain ⟨m, hm⟩ := k0; exact DataW.trod_lt m _ _ _ hm
  obtain ⟨x0, w0, wc0, wm0, we0⟩ := open_strs_rd Tryd.underlying22 Tryd.underlying9 (by kernel_rfl) h0
  clear hA0 hval0
  refine (envsPieces_walk A0 n0 c0 x0 W w0 we0 wc0 (Nat.le_trans wc0 wm0)).mono fun e W' ⟨he, bel⟩ => ?_
  subst he
  exact ⟨_, rfl, _, _, _, [], _, [], hW', trodAll_mk1 (shut_bool Tryd.underlying4 _), (trodAll_cons_mk (Below.trod laidOut (by kernel_rfl) (of_decide_eq_true (by kernel_rfl)) k0 bel lt0) trodAll_mk0), rfl, bel.frame _, fun h => by cases h⟩

theorem over : Rows.envsPiecesRow.holds Tryd.pinned (OpenSpec.ofChange Rows.envsPiecesSpec) :=
  OpenClaim.holds_of_wide 7 Tryd.f7 rfl rfl rfl rfl rfl rfl rfl ⟨rfl, rfl, rfl, rfl, rfl⟩ rfl rfl rfl rfl rfl (by kernel_rfl) Tryd.func7 (by kernel_rfl)
    (of_decide_eq_true (by kernel_rfl)) (by unfold Func.isWrapper; first | (rw [if_pos (by decide +kernel)]; kernel_rfl) | (rw [if_neg (by decide +kernel)]; exact ⟨rfl, rfl⟩))
    (fun os started H enc _ => lifted os started H enc)

theorem proved : Rows.EnvsPiecesCardSaid :=
  Claim7.holds_tied_plain_at .later [] [.data, .pinned] true Rows.envsPiecesCard.stood.harness false over (fun _ h => by cases h) (by kernel_rfl) (fun _ h => by cases h) envsPieces_row_tie rfl ⟨rfl, rfl⟩ (by kernel_rfl) rfl
    (fun f fn hf hfn => by
      obtain rfl : f = 7 := Option.some.inj ((show Tryd.prog.funcNamed "hostel/hostellaw03.EnvsPieces" = some 7 by kernel_rfl).symm.trans hf) |>.symm
      obtain rfl : fn = Tryd.f7 := (Option.some.inj (Tryd.func7.symm.trans hfn)).symm
      exact ⟨by kernel_rfl, fun j t ht => by
        rw [Tryd.params7] at ht
        have hm : t ∈ ([22] : List TypeId) := by simpa using Array.mem_of_getElem? ht
        have hall : (([22] : List TypeId).all fun u => !Tryd.prog.wantsStandIn u) = true := by kernel_rfl
        exact (show Tryd.prog.wantsStandIn t = false by simpa using List.all_eq_true.1 hall t hm)⟩)
    (by kernel_rfl)
#print axioms proved
end Go.Proofs.YtlcdilgniimnlaaDoor.envsPieces
