/- The statement EnvsBack: whatever the input, the law returns true, and what was there reads as it did. No conditions. Ahead of it: The walks of the law's own helpers: large, roomy, kept, own. Conditions: as the lists'. The anchor of the law, and the walk of EnvsChecks. Conditions: as the argument's. The walk of EnvsSets. Conditions: as the argument's. What an argument that is a struct, or a slice of structs, reads as, where each field is one cell. No conditions. Free of any chapter. The walk of EnvsBack. Conditions: as the argument's. The struct of two names as an argument. Conditions: as flds_vals. -/
import Derived.Test.YtlcdilgniimnlaaDoorMb1
import Derived.Deep.Slices
import Derived.Lib.SmallJoins
import Derived.Deep.RegionHeld3
import Derived.ProofKit
import Derived.OpenShut
import Derived.Test.YtlcdilgniimnlaaDoorRows
import Derived.Test.YtlcdilgniimnlaaDoorCards
import Derived.Test.YtlcdilgniimnlaaDoorTie
import Derived.Lay
import Derived.LaidMore
import Derived.SevenTiedAt
import Derived.ShutString
import Derived.ChangeOld
import Derived.Below
import Derived.SliceStrings
namespace Go.Proofs.YtlcdilgniimnlaaDoor
set_option linter.unusedVariables false
set_option linter.unusedSimpArgs false
open Go.RowKit

def sumE : List ByteArray → Nat
  | [] => 0
  | s :: r => min s.size 262144 + sumE r
theorem sumE_app (a b : List ByteArray) : sumE (a ++ b) = sumE a + sumE b := by
  induction a with
  | nil => simp [sumE]
  | cons s r ih => simp only [List.cons_append, sumE, ih]; omega
theorem sumE_mem {l : List ByteArray} {x : ByteArray} (h : x ∈ l) : min x.size 262144 ≤ sumE l := by
  induction l with
  | nil => cases h
  | cons s r ih =>
    simp only [sumE]
    rcases List.mem_cons.1 h with rfl | h
    · omega
    · have := ih h; omega
theorem sumE_snoc {l : List ByteArray} {k : Nat} {x : ByteArray} (h : l[k]? = some x) : sumE (l.take (k + 1)) = sumE (l.take k) + min x.size 262144 := by
  rw [List.take_add_one, h, sumE_app]
  simp [sumE]

set_option maxRecDepth 100000 in
set_option maxHeartbeats 1000000 in
theorem elarge_any (A : Option Addr) (n c B : Nat) (l : List ByteArray) (w : World) (hl : Rd w B 1 A n (l.map Value.string)) (hs : ∀ x ∈ l, x.size ≤ maxLen) (hn : n ≤ maxLen) :
    Calls Tryd.prog 8 #[.slice A n c] w fun e w' => ∃ r, e = .returned (.bool r) ∧ w = w' ∧ (r = false → n ≤ 131072 ∧ ∀ x ∈ l, x.size ≤ 131072) := by
  have hln : l.length = n := by simpa using hl.len1
  unfold maxLen at hn
  have Hl := hide hl
  have Hln := hide hln
  have Hs := hide hs
  clear hl hln hs
  go_enter Tryd.func8, Tryd.ntmps8
  go_wp2_with fail
  go_loopg [3, 4] n (fun gk nv i wr => ∃ k m : Nat, gk = n - k ∧ k ≤ n ∧ i = .int .i64 k ∧ nv = .int .i64 m ∧ m = n + sumE (l.take k) ∧ (k = 0 ∨ m ≤ 393216) ∧ w = wr)
  case atStart => exact ⟨0, n, by omega, by omega, rfl, rfl, by simp [sumE], .inl rfl, rfl⟩
  case round =>
  obtain ⟨k, m, hgk, hk, rfl, rfl, hmn, hm0, rfl⟩ := hrel
  have Hgk := hide hgk
  have Hmn := hide hmn
  clear hgk hmn
  have hmb : m ≤ 9223372036854775807 := by
    rcases hm0 with rfl | h
    · have := unhide Hmn; simp [sumE] at this; omega
    · omega
  by_cases hlt : k < n
  case neg =>
    obtain rfl : k = n := by omega
    have htk : l.take k = l := List.take_of_length_le (by have := unhide Hln; omega)
    have hnn := unhide Hmn
    rw [htk] at hnn
    have Hnn := hide hnn
    clear htk hnn hm0
    go_wp2_with fail
    go_ret
    refine ⟨_, rfl, rfl, fun hr => ?_⟩
    have hm : m ≤ 131072 := by
      have h : (m : Int) ≤ 131072 := by simpa using hr
      omega
    have h1 := unhide Hnn
    refine ⟨by omega, fun x hx => ?_⟩
    have h2 := sumE_mem hx
    omega
  by_cases hbig : m ≤ 131072
  case neg =>
    have hb : ((m : Int) ≤ 131072) = False := by simp; omega
    clear hm0
    go_wp2_with fail
    go_ret
    exact ⟨_, rfl, rfl, fun hr => by simp at hr; omega⟩
  obtain ⟨x, hx⟩ : ∃ x, l[k]? = some x := ⟨_, List.getElem?_eq_getElem (by rw [unhide Hln]; exact hlt)⟩
  obtain ⟨b1, o1, rfl, _, c1⟩ := (unhide Hl).at_ (k := k) (u := .string x) (by simp [hx])
  have hxs := (unhide Hs) x (List.mem_of_getElem? hx)
  unfold maxLen at hxs
  have Hsn := hide (sumE_snoc hx)
  clear hx hm0
  by_cases hmin : x.size ≤ 262144
  · have hmin' : (x.size : Int) ≤ 262144 := by omega
    go_wp2_with fail
    go_roundg (n - (k + 1))
    case measure => have := unhide Hgk; omega
    case rel => exact ⟨k + 1, m + x.size, rfl, by omega, by go_num, by go_num, by rw [unhide Hsn, Nat.min_eq_left hmin]; have := unhide Hmn; omega, .inr (by omega), rfl⟩
  · have hmin' : (262144 : Int) < (x.size : Int) := by omega
    go_wp2_with fail
    go_roundg (n - (k + 1))
    case measure => have := unhide Hgk; omega
    case rel => exact ⟨k + 1, m + 262144, rfl, by omega, by go_num, by go_num, by rw [unhide Hsn, Nat.min_eq_right (by omega)]; have := unhide Hmn; omega, .inr (by omega), rfl⟩

def xy : List ByteArray := [⟨#[120]⟩, ⟨#[121]⟩]
set_option maxRecDepth 100000 in
set_option maxHeartbeats 1000000 in
theorem eroomy_any (A : Option Addr) (n c B : Nat) (l : List ByteArray) (w : World) (hl : Rd w B 1 A n (l.map Value.string)) (hB : B ≤ w.heap.size) (hn : n ≤ 1000000000) :
    Calls Tryd.prog 10 #[.slice A n c] w fun e w' => ∃ g c', e = .returned (.slice (some ⟨g, 0, none⟩) n c') ∧ w'.ownsRow w.heap.size 9 1 (.slice (some ⟨g, 0, none⟩) (n + 2) c') (n + 2) ((l ++ xy).map Value.string) ∧ Below w.heap.size w w' := by
  have K := hide (copyTexts_any A n c B l w hB hl (by omega))
  clear hl
  go_enter Tryd.func10, Tryd.ntmps10
  go_wp2_with fail
  refine (unhide K).mono ?_
  rintro e w1 ⟨A1, c1, rfl, ho1, hb1⟩
  have Ho1 := hide ho1
  have Hb1 := hide hb1
  have hs1 := hb1.size
  clear ho1 hb1 K
  go_wp2_with (at_builtin; (refine wpList_app strTy rfl _ _ rfl w.heap.size (.slice A1 n c1) n _ rfl ((unhide Ho1).alloc _) (w1.heap.size + 1) (some ⟨w1.heap.size, 0, none⟩) 2 2 (xy.map Value.string) rfl (Rd.rowF (cs := #[.string ⟨#[120]⟩, .string ⟨#[121]⟩]) rfl) (strs_oneE _) (by omega) (by rw [World.size_alloc]; omega) ?_; intro A3 c3 w3 ho3 hg3 hat3; have hb3 := ((unhide Hb1).alloc hs1 (.cells #[.string ⟨#[120]⟩, .string ⟨#[121]⟩] 9)).grown hg3 (by rw [World.size_alloc]; omega) (fun k' hk' => ((unhide Ho1).lt k' hk').1); rw [← List.map_append] at ho3; have hcap3 := own_cap ho3; have hnc3 : n ≤ c3 := (by omega); obtain ⟨g, rfl, _, _⟩ := own_some ho3 (by omega); have Ho3 := hide ho3; have Hb3 := hide hb3; clear ho3 hg3 hat3 hb3))
  go_ret
  exact ⟨g, c3, rfl, unhide Ho3, unhide Hb3⟩

set_option maxRecDepth 100000 in
set_option maxHeartbeats 1000000 in
theorem ekept_yes (g c' : Nat) (A : Option Addr) (n c B B' : Nat) (l : List ByteArray) (w : World) (hi : Rd w B 1 (some ⟨g, 0, none⟩) (n + 2) ((l ++ xy).map Value.string)) (hb : Rd w B' 1 A n (l.map Value.string)) (hc : n + 2 ≤ c') (hn : n ≤ 1000000000) :
    Calls Tryd.prog 17 #[.slice (some ⟨g, 0, none⟩) n c', .slice A n c] w fun e w' => e = .returned (.bool true) ∧ ∃ j, w' = w.drewN j := by
  have hln : l.length = n := by simpa using hb.len1
  have hfront : Rd w B 1 (some ⟨g, 0, none⟩) n (l.map Value.string) := by
    have h := hi.cutN (k := n) (by omega)
    rwa [← List.map_take, List.take_left' hln] at h
  have K := eqTexts_any (some ⟨g, 0, none⟩) A n n c' c (max B B') l l w (hfront.more (by omega)) (hb.more (by omega)) (by unfold maxLen; omega) (by unfold maxLen; omega)
  rw [decide_eq_true rfl] at K
  obtain ⟨b1, o1, e1, _, c1⟩ := hi.at_ (k := n) (u := .string ⟨#[120]⟩) (by rw [List.getElem?_map, List.getElem?_append_right (by omega), hln, Nat.sub_self]; rfl)
  obtain ⟨b2, o2, e2, _, c2⟩ := hi.at_ (k := n + 1) (u := .string ⟨#[121]⟩) (by rw [List.getElem?_map, List.getElem?_append_right (by omega), hln, Nat.add_sub_cancel_left]; rfl)
  injection e1 with e1
  injection e1 with e1a e1b
  injection e2 with e2
  injection e2 with e2a e2b
  subst e1a e1b e2a e2b
  rw [Nat.zero_add] at c1 c2
  have K' := hide K
  have hq1 : ((⟨#[120]⟩ : ByteArray).toList == (⟨#[120]⟩ : ByteArray).toList) = true := beq_self_eq_true _
  have hq2 : ((⟨#[121]⟩ : ByteArray).toList == (⟨#[121]⟩ : ByteArray).toList) = true := beq_self_eq_true _
  clear hi hb hln hfront K
  go_enter Tryd.func17, Tryd.ntmps17
  go_wp2_with fail
  refine (unhide K').mono ?_
  rintro e w1 ⟨rfl, j, rfl⟩
  have d1 : (w.drewN j).cell? ⟨g, n, none⟩ = some (.string ⟨#[120]⟩) := c1
  have d2 : (w.drewN j).cell? ⟨g, n + 1, none⟩ = some (.string ⟨#[121]⟩) := c2
  go_wp2_with fail
  go_ret
  exact ⟨rfl, j, rfl⟩

set_option maxRecDepth 100000 in
set_option maxHeartbeats 1000000 in
theorem eown_any (A3 : Option Addr) (m c3 base : Nat) (L : List Value) (g c' : Nat) (A : Option Addr) (n c B : Nat) (l : List ByteArray) (w : World) (ho : w.ownsRow base 9 1 (.slice A3 m c3) m L) (hbase : base ≤ w.heap.size)
    (hi : Rd w B 1 (some ⟨g, 0, none⟩) (n + 2) ((l ++ xy).map Value.string)) (hb : Rd w B 1 A n (l.map Value.string)) (hB : B ≤ base) (hc : n + 2 ≤ c') (hn : n ≤ 1000000000) (hm : m ≤ 1000000001) :
    Calls Tryd.prog 25 #[.slice A3 m c3, .slice (some ⟨g, 0, none⟩) n c', .slice A n c] w fun e w' => e = .returned (.bool true) ∧ w.grownBy w' (Value.slice A3 m c3).ownBlock := by
  have Ho := hide ho
  have Hi := hide hi
  have Hb := hide hb
  clear ho hi hb
  go_enter Tryd.func25, Tryd.ntmps25
  go_wp2_with (at_builtin; refine wpList_app1 strTy rfl _ _ rfl base (.slice A3 m c3) m _ rfl (unhide Ho) _ rfl rfl (by simp [Value.oneCell']) (by omega) hbase ?_; intro A4 c4 w4 ho4 hg4 hat4; have Ho4 := hide ho4; have Hg4 := hide hg4; have Hat4 := hide hat4; clear ho4 hg4 hat4)
  obtain ⟨g4, rfl, hb4, hl4⟩ := own_some (unhide Ho4) (by omega)
  have hbel0 : Below base w w4 := (Below.refl base w).grown (unhide Hg4) hbase (fun k hk => ((unhide Ho).lt k hk).1)
  have Hbel0 := hide hbel0
  clear hbel0
  go_loopg [7] (m + 1) (fun gk iv wr => ∃ (k : Nat) (ys : List Value), gk = m + 1 - k ∧ k ≤ m + 1 ∧ iv = .int .i64 k ∧ wr.ownsRow base 9 1 (.slice (some ⟨g4, 0, none⟩) (m + 1) c4) (m + 1) ys ∧ w4.grownBy wr (some g4))
  case atStart => exact ⟨0, _, by omega, by omega, rfl, unhide Ho4, ⟨rfl, rfl, rfl, Nat.le_refl _, fun _ _ _ => rfl⟩⟩
  case round =>
  obtain ⟨k, ys, hgk, hk, rfl, ho5, hg5⟩ := hrel
  have Hgk := hide hgk
  have Ho5 := hide ho5
  have Hg5 := hide hg5
  have hyl : ys.length = m + 1 := by have := ho5.1; omega
  have Hyl := hide hyl
  clear hgk ho5 hg5 hyl
  by_cases hlt : k < m + 1
  · obtain ⟨y, hy⟩ : ∃ y, ys[k]? = some y := ⟨_, List.getElem?_eq_getElem (by rw [unhide Hyl]; exact hlt)⟩
    have ci := own_cell (unhide Ho5) hy
    have fi := own_free (unhide Ho5) k
    have hset := own_set (i := k) (unhide Ho5) (.string ⟨#[33]⟩)
    have Hset := hide hset
    clear hset hy
    go_wp2_with fail
    go_roundg (m + 1 - (k + 1))
    case measure => have := unhide Hgk; omega
    case rel => exact ⟨k + 1, _, rfl, by omega, by go_num, unhide Hset, grown_trans (unhide Hg5) ⟨rfl, rfl, rfl, by simp, fun k _ hk => heap_setCell_other _ _ _ _ (fun e => hk (by rw [e]))⟩⟩
  · have hbel : Below base w wr := (unhide Hbel0).grown (unhide Hg5) (Nat.le_trans hbase (unhide Hbel0).size) (fun k' hk' => by injection hk' with hk'; omega)
    have K := hide (ekept_yes g c' A n c B B l wr ((unhide Hi).below (hbel.mono hB)) ((unhide Hb).below (hbel.mono hB)) hc hn)
    have hfin : ∀ j, w.grownBy (wr.drewN j) (Value.slice A3 m c3).ownBlock := by
      intro j
      refine ⟨(unhide Hg5).os.trans (unhide Hg4).os, (unhide Hg5).tape.trans (unhide Hg4).tape, (unhide Hg5).output.trans (unhide Hg4).output, Nat.le_trans (unhide Hg4).size (unhide Hg5).size, fun i hi hr => ?_⟩
      refine ((unhide Hg5).block i (Nat.lt_of_lt_of_le hi (unhide Hg4).size) (fun e => ?_)).trans ((unhide Hg4).block i hi hr)
      rcases (unhide Hat4) g4 rfl with h1 | h1
      · exact hr (by rw [h1]; exact e)
      · injection e with e
        omega
    have Hfin := hide hfin
    clear hbel hfin
    go_wp2_with fail
    refine (unhide K).mono ?_
    rintro e w6 ⟨rfl, j, rfl⟩
    go_wp2_with fail
    go_ret
    exact ⟨rfl, (unhide Hfin) j⟩
end Go.Proofs.YtlcdilgniimnlaaDoor
namespace Go.Proofs.YtlcdilgniimnlaaDoor
set_option linter.unusedVariables false
set_option linter.unusedSimpArgs false
open Go.RowKit

def eB1 : ByteArray := ⟨#[66, 61, 49]⟩
def eA2 : ByteArray := ⟨#[65, 61, 50]⟩
theorem anc_bad : Ev.badSet ⟨#[65]⟩ ⟨#[50]⟩ = false := by decide +kernel
theorem anc_set : Ev.set [⟨#[66, 61, 49]⟩] ⟨#[65]⟩ ⟨#[50]⟩ = [⟨#[66, 61, 49]⟩, ⟨#[65, 61, 50]⟩] := by decide +kernel
theorem anc_get : Ev.get [⟨#[66, 61, 49]⟩, ⟨#[65, 61, 50]⟩] ⟨#[65]⟩ = (⟨#[50]⟩, true) := by decide +kernel
theorem anc_scrub : Ev.scrub [⟨#[84, 77, 80, 68, 73, 82, 61, 120]⟩, ⟨#[65, 61, 49]⟩] = [⟨#[65, 61, 49]⟩] := by decide +kernel
theorem anc_list : (Ev.list (⟨#[58]⟩ : ByteArray).data.toList).length = 2 := by decide +kernel
theorem anc_check : Cl.envCk [⟨#[0]⟩] = 1 := by decide +kernel

set_option maxRecDepth 100000 in
set_option maxHeartbeats 4000000 in
theorem eworks_any (w : World) : Calls Tryd.prog 9 #[] w fun e w' => e = .returned (.bool true) ∧ Below w.heap.size w w' := by
  have r1 : Rd (w.alloc (.cells #[.string ⟨#[66, 61, 49]⟩] 9)) (w.heap.size + 1) 1 (some ⟨w.heap.size, 0, none⟩) 1 ([(⟨#[66, 61, 49]⟩ : ByteArray)].map Value.string) := Rd.row rfl
  have hb1 : Below w.heap.size w (w.alloc (.cells #[.string ⟨#[66, 61, 49]⟩] 9)) := (Below.refl _ _).alloc (Nat.le_refl _) _
  have K1 := set_any (some ⟨w.heap.size, 0, none⟩) 1 1 (w.heap.size + 1) [⟨#[66, 61, 49]⟩] ⟨#[65]⟩ ⟨#[50]⟩ _ r1 (by simp) (by intro x hx; rw [List.mem_singleton] at hx; subst hx; decide) (by omega) (Nat.le_refl _) (by decide) (by decide)
  unfold SetE at K1
  rw [anc_bad, anc_set] at K1
  replace K1 := hide K1
  have Hb1 := hide hb1
  clear r1 hb1
  go_enter Tryd.func9, Tryd.ntmps9
  go_wp2_with fail
  refine (unhide K1).mono ?_
  rintro e w2 (⟨h, _⟩ | ⟨_, A2, c2, k2, rfl, hk2, ho2, hb2⟩)
  · cases h
  obtain rfl : k2 = 2 := hk2
  have hbB := (unhide Hb1).trans (hb2.mono (unhide Hb1).size)
  have K2 := get_any A2 2 c2 w2.heap.size _ ⟨#[65]⟩ w2 (Rd.of_own ho2) (Nat.le_refl _) (by intro x hx; simp at hx; rcases hx with rfl | rfl <;> decide) (by omega)
  rw [anc_get] at K2
  replace K2 := hide K2
  have Hb2 := hide hbB
  clear ho2 hb2 hbB K1 Hb1
  go_wp2_with fail
  refine (unhide K2).mono ?_
  rintro e w3 ⟨rfl, hb3⟩
  have hb3' := (unhide Hb2).trans (hb3.mono (unhide Hb2).size)
  have r3 : Rd (w3.alloc (.cells #[.string ⟨#[84, 77, 80, 68, 73, 82, 61, 120]⟩, .string ⟨#[65, 61, 49]⟩] 9)) (w3.heap.size + 1) 1 (some ⟨w3.heap.size, 0, none⟩) 2 ([(⟨#[84, 77, 80, 68, 73, 82, 61, 120]⟩ : ByteArray), ⟨#[65, 61, 49]⟩].map Value.string) := Rd.rowF (cs := #[.string ⟨#[84, 77, 80, 68, 73, 82, 61, 120]⟩, .string ⟨#[65, 61, 49]⟩]) rfl
  have K3 := scrub_any (some ⟨w3.heap.size, 0, none⟩) 2 2 (w3.heap.size + 1) _ _ r3 (by simp) (by intro x hx; simp at hx; rcases hx with rfl | rfl <;> decide) (by omega)
  rw [anc_scrub] at K3
  unfold EnvE at K3
  replace K3 := hide K3
  have Hb3 := hide (hb3'.alloc hb3'.size (.cells #[.string ⟨#[84, 77, 80, 68, 73, 82, 61, 120]⟩, .string ⟨#[65, 61, 49]⟩] 9))
  have hq50 : ((⟨#[50]⟩ : ByteArray).toList == (⟨#[50]⟩ : ByteArray).toList) = true := beq_self_eq_true _
  clear hb3 hb3' r3 K2 Hb2
  go_wp2_with fail
  refine (unhide K3).mono ?_
  rintro e w4 ⟨A4, c4, rfl, ho4, hb4⟩
  have hb4' := (unhide Hb3).trans (hb4.mono (unhide Hb3).size)
  have K4 := hide (list_any ⟨#[58]⟩ w4 (by decide))
  have Hb4 := hide hb4'
  clear ho4 hb4 hb4' K3 Hb3
  go_wp2_with fail
  refine (unhide K4).mono ?_
  rintro e w5 ⟨u, rfl, ho5, hb5⟩
  rw [anc_list] at ho5
  obtain ⟨A5, c5, rfl⟩ := own_form ho5
  have hb5' := (unhide Hb4).trans (hb5.mono (unhide Hb4).size)
  have r5 : Rd (w5.alloc (.cells #[.string ⟨#[0]⟩] 9)) (w5.heap.size + 1) 1 (some ⟨w5.heap.size, 0, none⟩) 1 ([(⟨#[0]⟩ : ByteArray)].map Value.string) := Rd.row rfl
  have K5 := envCheck_any (some ⟨w5.heap.size, 0, none⟩) 1 1 (w5.heap.size + 1) _ _ r5 (by intro x hx; rw [List.mem_singleton] at hx; subst hx; decide) (by decide)
  rw [anc_check] at K5
  replace K5 := hide K5
  have Hb5 := hide (hb5'.alloc hb5'.size (.cells #[.string ⟨#[0]⟩] 9))
  clear ho5 hb5 hb5' K4 Hb4 r5
  go_wp2_with fail
  refine (unhide K5).mono ?_
  rintro e w6 ⟨rfl, rfl⟩
  go_wp2_with fail
  go_ret
  exact ⟨rfl, unhide Hb5⟩

set_option maxRecDepth 100000 in
set_option maxHeartbeats 4000000 in
theorem envsChecks_walk (A : Option Addr) (n c : Nat) (l : List ByteArray) (name : ByteArray) (w : World) (hl : Rd w w.heap.size 1 A n (l.map Value.string)) (hs : ∀ x ∈ l, x.size ≤ maxLen) (hnc : n ≤ c) (hn : n ≤ maxLen) (hns : name.size ≤ maxLen) :
    Calls Tryd.prog 3 #[.slice A n c, .string name] w fun e w' => e = .returned (.bool true) ∧ Below w.heap.size w w' := by
  have KW := hide eworks_any
  have KL := hide (elarge_any A n c w.heap.size l w hl hs hn)
  have Hl := hide hl
  have Hs := hide hs
  unfold maxLen at hn hns
  clear hl hs
  go_enter Tryd.func3, Tryd.ntmps3
  go_wp2_with fail
  refine (unhide KL).mono ?_
  rintro e w1 ⟨r, rfl, rfl, hr⟩
  clear KL
  by_cases hout : r = true ∨ 131072 < name.size
  · clear hr
    have : (r = true) ∨ (r = false ∧ (131072 : Int) < (name.size : Int)) := by
      cases r
      · rcases hout with h | h
        · cases h
        · exact .inr ⟨rfl, by omega⟩
      · exact .inl rfl
    clear hout
    rcases this with rfl | ⟨rfl, hbig⟩
    all_goals
      go_wp2_with fail
      refine ((unhide KW) _).mono ?_
      rintro e w2 ⟨rfl, hb2⟩
      have Hb2 := hide hb2
      clear hb2
      go_wp2_with fail
      go_ret
      exact ⟨rfl, unhide Hb2⟩
  obtain rfl : r = false := by cases r; rfl; exact absurd (.inl rfl) hout
  obtain ⟨hn1, hs1⟩ := hr rfl
  have hns1 : ¬ (131072 : Int) < (name.size : Int) := by omega
  have hns2 : name.size ≤ 131072 := by omega
  have Hs1 : Hid (∀ x ∈ l, x.size ≤ maxLen) := hide (fun x hx => by have := hs1 x hx; unfold maxLen; omega)
  clear hout hr hs1 Hs
  have KR := hide (eroomy_any A n c w.heap.size l w (unhide Hl) (Nat.le_refl _) (by omega))
  go_wp2_with fail
  refine (unhide KR).mono ?_
  rintro e w2 ⟨g, c2, rfl, ho2, hb2⟩
  have hcap := own_cap ho2
  have hln : l.length = n := by simpa using (unhide Hl).len1
  have Hin := hide (Rd.of_own ho2)
  have hf := (Rd.of_own ho2).cutN (k := n) (by omega)
  rw [← List.map_take, List.take_left' hln] at hf
  have Hf := hide hf
  have Hb2 := hide hb2
  have Hl2 := hide ((unhide Hl).below hb2)
  have hw2 := hb2.size
  have K1 := hide (fun w => split_any name w (by unfold maxLen; omega))
  have K2 := hide (fun w => rsplit_any name w (by unfold maxLen; omega))
  clear ho2 hb2 KR hf hln
  go_wp2_with fail
  refine ((unhide K1) _).mono ?_
  rintro e w3 ⟨rfl, q1, rfl⟩
  go_wp2_with fail
  refine ((unhide K2) _).mono ?_
  rintro e w4 ⟨rfl, q2, rfl⟩
  have hb4 : Below w.heap.size w (w2.drewN (q1 + q2)) := below_drewN' (unhide Hb2) _
  have hf4 : Rd (w2.drewN (q1 + q2)) w2.heap.size 1 (some ⟨g, 0, none⟩) n (l.map Value.string) := (unhide Hf).drewN _
  have hin4 : Rd (w2.drewN (q1 + q2)) w2.heap.size 1 (some ⟨g, 0, none⟩) (n + 2) ((l ++ xy).map Value.string) := (unhide Hin).drewN _
  have hl4 : Rd (w2.drewN (q1 + q2)) w.heap.size 1 A n (l.map Value.string) := (unhide Hl2).drewN _
  have hz4 : (w2.drewN (q1 + q2)).heap.size = w2.heap.size := rfl
  have Hb4 := hide hb4
  have Hf4 := hide hf4
  have Hin4 := hide hin4
  have Hl4 := hide hl4
  have Hz4 := hide hz4
  clear hb4 hf4 hin4 hl4 hz4 K1 K2 Hb2 Hf Hin Hl2 Hl
  simp only [World.drewN_drewN]
  generalize w2.drewN (q1 + q2) = W at *
  obtain ⟨nm, hnm⟩ : ∃ nm, Ev.nm name = nm := ⟨_, rfl⟩
  obtain ⟨vl, hvl⟩ : ∃ vl, Ev.vl name = vl := ⟨_, rfl⟩
  obtain ⟨b, hbb⟩ : ∃ b, Ev.is name = b := ⟨_, rfl⟩
  simp only [hnm, hvl, hbb]
  clear hnm hvl hbb
  have K3 := get_any (some ⟨g, 0, none⟩) n c2 W.heap.size l name W ((unhide Hf4).more (by have := unhide Hz4; omega)) (Nat.le_refl _) (unhide Hs1) (by omega)
  obtain ⟨⟨gv, gb⟩, hg⟩ : ∃ r, Ev.get l name = r := ⟨_, rfl⟩
  rw [hg] at K3
  have Hg := hide hg
  replace K3 := hide K3
  clear hg
  go_wp2_with fail
  refine (unhide K3).mono ?_
  rintro e w5 ⟨rfl, hb5⟩
  have hb5' := (unhide Hb4).trans (hb5.mono (unhide Hb4).size)
  have hl5 := (unhide Hl4).below (hb5.mono (unhide Hb4).size)
  have K4 := rget_any A n c w.heap.size l name w5 hl5 (unhide Hs1) (by omega)
  rw [unhide Hg] at K4
  replace K4 := hide K4
  have Hb5 := hide hb5'
  have Hl5 := hide hl5
  have Hin5 := hide ((unhide Hin4).below (hb5.mono (by have := unhide Hz4; omega)))
  have Hf5 := hide ((unhide Hf4).below (hb5.mono (by have := unhide Hz4; omega)))
  clear hb5 hb5' hl5 K3 Hb4 Hl4 Hin4 Hf4
  go_wp2_with fail
  refine (unhide K4).mono ?_
  rintro e w6 ⟨rfl, q3, rfl⟩
  obtain ⟨ck, hck⟩ : ∃ ck, Cl.envCk l = ck := ⟨_, rfl⟩
  have K5 := envCheck_any (some ⟨g, 0, none⟩) n c2 w2.heap.size l (w5.drewN q3) ((unhide Hf5).drewN q3) (unhide Hs1) (by unfold maxLen; omega)
  have K6 := renvCheck_any A n c w.heap.size l (w5.drewN q3) ((unhide Hl5).drewN q3) (unhide Hs1) (by unfold maxLen; omega)
  rw [hck] at K5 K6
  replace K5 := hide K5
  replace K6 := hide K6
  have K7 := hide (ekept_yes g c2 A n c w2.heap.size w.heap.size l (w5.drewN q3) ((unhide Hin5).drewN q3) ((unhide Hl5).drewN q3) hcap (by omega))
  have Hb6 := hide (below_drewN' (unhide Hb5) q3)
  have e1 : (ck == ck) = true := beq_self_eq_true _
  have e2 : (nm.toList == nm.toList) = true := beq_self_eq_true _
  have e3 : (vl.toList == vl.toList) = true := beq_self_eq_true _
  have e4 : (gv.toList == gv.toList) = true := beq_self_eq_true _
  have e5 : (b == b) = true := beq_self_eq_true _
  have e6 : (gb == gb) = true := beq_self_eq_true _
  clear hck K4 Hb5 Hl5 Hin5 Hf5 Hg
  generalize w5.drewN q3 = W6 at *
  go_wp2_with fail
  refine (unhide K5).mono ?_
  rintro e w7 ⟨rfl, rfl⟩
  go_wp2_with fail
  refine (unhide K6).mono ?_
  rintro e w7 ⟨rfl, rfl⟩
  go_wp2_with fail
  refine (unhide K7).mono ?_
  rintro e w7 ⟨rfl, q4, rfl⟩
  go_wp2_with fail
  refine ((unhide KW) _).mono ?_
  rintro e w8 ⟨rfl, hb8⟩
  have Hb8 := hide ((below_drewN' (unhide Hb6) q4).trans (hb8.mono (unhide Hb6).size))
  clear hb8
  go_wp2_with fail
  go_ret
  exact ⟨rfl, unhide Hb8⟩
end Go.Proofs.YtlcdilgniimnlaaDoor
namespace Go.Proofs.YtlcdilgniimnlaaDoor
set_option linter.unusedVariables false
set_option linter.unusedSimpArgs false
open Go.RowKit

def Ev.setR (l : List ByteArray) (name value : ByteArray) : List ByteArray × Int := if Ev.badSet name value then ([], 1) else (Ev.set l name value, 0)
def SetU (R : List ByteArray × Int) (w : World) (e : Ending) (w' : World) : Prop :=
  ∃ A' c' k, e = .returned (.tuple #[.slice A' k c', .int .i64 R.2]) ∧ k = R.1.length ∧ w'.ownsRow w.heap.size 9 1 (.slice A' k c') k (R.1.map Value.string) ∧ Below w.heap.size w w'
theorem setU {l : List ByteArray} {name value : ByteArray} {w w' : World} {e : Ending} (h : SetE l name value w e w') : SetU (Ev.setR l name value) w e w' := by
  rcases h with ⟨h1, rfl, rfl⟩ | ⟨h1, A', c', k, rfl, h2, h3, h4⟩
  · unfold Ev.setR
    rw [h1]
    exact ⟨none, 0, 0, rfl, rfl, World.ownsRow_nil _ _ _ _, Below.refl _ _⟩
  · unfold Ev.setR
    rw [h1]
    exact ⟨A', c', k, rfl, h2, h3, h4⟩
theorem set_len (l : List ByteArray) (name value : ByteArray) : (Ev.set l name value).length ≤ l.length + 1 := by
  unfold Ev.set
  have h1 : (Ev.unset (l.drop (Ev.at_ l name)) name).length ≤ (l.drop (Ev.at_ l name)).length := List.length_filter_le _ _
  rw [List.length_append, List.length_take, List.length_cons]
  rw [List.length_drop] at h1
  omega
theorem setR_len (l : List ByteArray) (name value : ByteArray) : (Ev.setR l name value).1.length ≤ l.length + 1 := by
  unfold Ev.setR
  split
  · simp
  · exact set_len l name value
theorem unset_len (l : List ByteArray) (name : ByteArray) : (Ev.unset l name).length ≤ l.length := List.length_filter_le _ _
theorem scrub_len (l : List ByteArray) : (Ev.scrub l).length ≤ l.length := List.length_filter_le _ _
/-- Where the law stands behind the roomy copy. -/
structure ES (w w2 : World) (g n : Nat) (A : Option Addr) (l : List ByteArray) (W : World) : Prop where
  i : Rd W w2.heap.size 1 (some ⟨g, 0, none⟩) (n + 2) ((l ++ xy).map Value.string)
  l : Rd W w.heap.size 1 A n (l.map Value.string)
  b : Below w2.heap.size w2 W
theorem ES.next {w w2 W W' : World} {g n : Nat} {A : Option Addr} {l : List ByteArray} (h : ES w w2 g n A l W) (hw : w.heap.size ≤ w2.heap.size) (hb : Below w2.heap.size W W') : ES w w2 g n A l W' := ⟨h.i.below hb, h.l.below (hb.mono hw), h.b.trans hb⟩
theorem ES.below {w w2 W W' : World} {g n : Nat} {A : Option Addr} {l : List ByteArray} (h : ES w w2 g n A l W) (hw : w.heap.size ≤ w2.heap.size) (hb : Below W.heap.size W W') : ES w w2 g n A l W' := h.next hw (hb.mono h.b.size)
theorem ES.drewN {w w2 W : World} {g n : Nat} {A : Option Addr} {l : List ByteArray} (h : ES w w2 g n A l W) (j : Nat) : ES w w2 g n A l (W.drewN j) := ⟨h.i.drewN j, h.l.drewN j, below_drewN' h.b j⟩
theorem ES.inn {w w2 W : World} {g n : Nat} {A : Option Addr} {l : List ByteArray} (h : ES w w2 g n A l W) : Rd W w2.heap.size 1 (some ⟨g, 0, none⟩) n (l.map Value.string) := by
  have hln : l.length = n := by simpa using h.l.len1
  have hf := h.i.cutN (k := n) (by omega)
  rwa [← List.map_take, List.take_left' hln] at hf
theorem own_other {w w' : World} {base n m c d : Nat} {A B : Option Addr} {xs : List Value} (h : w.ownsRow base 9 1 (.slice A n c) n xs) (hg : w.grownBy w' (Value.slice B m d).ownBlock) (hne : ∀ k, (Value.slice A n c).ownBlock = some k → (Value.slice B m d).ownBlock ≠ some k) : w'.ownsRow base 9 1 (.slice A n c) n xs :=
  own_keepB h (fun k hk => hg.block k (h.lt k hk).2 (fun e => hne k hk e.symm))

set_option maxRecDepth 100000 in
set_option maxHeartbeats 8000000 in
theorem envsSets_walk (A : Option Addr) (n c : Nat) (l : List ByteArray) (name value : ByteArray) (w : World) (hl : Rd w w.heap.size 1 A n (l.map Value.string)) (hs : ∀ x ∈ l, x.size ≤ maxLen) (hnc : n ≤ c) (hn : n ≤ maxLen) (hns : name.size ≤ maxLen) (hvs : value.size ≤ maxLen) :
    Calls Tryd.prog 4 #[.slice A n c, .string name, .string value] w fun e w' => e = .returned (.bool true) ∧ Below w.heap.size w w' := by
  have KW := hide eworks_any
  have KL := hide (elarge_any A n c w.heap.size l w hl hs hn)
  have Hl := hide hl
  unfold maxLen at hn hns hvs
  clear hl hs
  go_enter Tryd.func4, Tryd.ntmps4
  go_wp2_with fail
  refine (unhide KL).mono ?_
  rintro e w1 ⟨r, rfl, rfl, hr⟩
  clear KL
  by_cases hout : r = true ∨ 131072 < name.size ∨ 131072 < value.size
  · clear hr
    have : (r = true) ∨ (r = false ∧ (131072 : Int) < (name.size : Int)) ∨ (r = false ∧ ¬ (131072 : Int) < (name.size : Int) ∧ (131072 : Int) < (value.size : Int)) := by
      cases r
      · by_cases h2 : 131072 < name.size
        · exact .inr (.inl ⟨rfl, by omega⟩)
        · rcases hout with h | h | h
          · cases h
          · exact absurd h h2
          · exact .inr (.inr ⟨rfl, by omega, by omega⟩)
      · exact .inl rfl
    clear hout
    rcases this with rfl | ⟨rfl, hbig⟩ | ⟨rfl, hsm, hbig⟩
    all_goals
      go_wp2_with fail
      refine ((unhide KW) _).mono ?_
      rintro e w2 ⟨rfl, hb2⟩
      have Hb2 := hide hb2
      clear hb2
      go_wp2_with fail
      go_ret
      exact ⟨rfl, unhide Hb2⟩
  obtain rfl : r = false := by cases r; rfl; exact absurd (.inl rfl) hout
  obtain ⟨hn1, hs1⟩ := hr rfl
  have hns2 : name.size ≤ 131072 := by omega
  have hvs2 : value.size ≤ 131072 := by omega
  have hns1 : ¬ (131072 : Int) < (name.size : Int) := by omega
  have hvs1 : ¬ (131072 : Int) < (value.size : Int) := by omega
  have Hs1 : Hid (∀ x ∈ l, x.size ≤ maxLen) := hide (fun x hx => by have := hs1 x hx; unfold maxLen; omega)
  clear hout hr hs1
  have hln : l.length = n := by simpa using (unhide Hl).len1
  have hRl := setR_len l name value
  have hUl := unset_len l name
  have hCl := scrub_len l
  rw [hln] at hRl hUl hCl
  obtain ⟨R, hR⟩ : ∃ R, Ev.setR l name value = R := ⟨_, rfl⟩
  obtain ⟨U, hU⟩ : ∃ U, Ev.unset l name = U := ⟨_, rfl⟩
  obtain ⟨C, hC⟩ : ∃ C, Ev.scrub l = C := ⟨_, rfl⟩
  rw [hR] at hRl
  rw [hU] at hUl
  rw [hC] at hCl
  obtain ⟨RL, ev⟩ := R
  simp only at hRl
  obtain ⟨kr, hkr⟩ : ∃ kr, RL.length = kr := ⟨_, rfl⟩
  obtain ⟨ku, hku⟩ : ∃ ku, U.length = ku := ⟨_, rfl⟩
  obtain ⟨kc, hkc⟩ : ∃ kc, C.length = kc := ⟨_, rfl⟩
  rw [hkr] at hRl
  rw [hku] at hUl
  rw [hkc] at hCl
  have HE := hide (And.intro hR (And.intro hU (And.intro hC (And.intro hkr (And.intro hku hkc)))))
  clear hR hU hC hkr hku hkc hln
  have KR := hide (eroomy_any A n c w.heap.size l w (unhide Hl) (Nat.le_refl _) (by omega))
  go_wp2_with fail
  refine (unhide KR).mono ?_
  rintro e w2 ⟨g, c2, rfl, ho2, hb2⟩
  have hcap := own_cap ho2
  have hw2 := hb2.size
  have S2 : Hid (ES w w2 g n A l w2) := hide ⟨Rd.of_own ho2, (unhide Hl).below hb2, Below.refl _ _⟩
  have Hb2 := hide hb2
  have Hw2 := hide hw2
  clear ho2 hb2 KR Hl
  have K1 : Calls Tryd.prog 18 #[.slice (some ⟨g, 0, none⟩) n c2, .string name, .string value] w2 fun e w' => ∃ A' c', e = .returned (.tuple #[.slice A' kr c', .int .i64 ev]) ∧ w'.ownsRow w2.heap.size 9 1 (.slice A' kr c') kr (RL.map Value.string) ∧ Below w2.heap.size w2 w' := by
    refine (set_any (some ⟨g, 0, none⟩) n c2 w2.heap.size l name value w2 (unhide S2).inn (Nat.le_refl _) (unhide Hs1) (by omega) (by omega) (by omega) (by omega)).mono fun e w' h => ?_
    obtain ⟨A', c', k, h1, h2, h3, h4⟩ := setU h
    rw [(unhide HE).1] at h1 h2 h3
    obtain rfl : k = kr := h2.trans (unhide HE).2.2.2.1
    exact ⟨A', c', h1, h3, h4⟩
  replace K1 := hide K1
  go_wp2_with fail
  refine (unhide K1).mono ?_
  rintro e w3 ⟨Aa, ca, rfl, hoa, hb3⟩
  have S3 := hide ((unhide S2).below hw2 hb3)
  have Oa := hide hoa
  have la : Hid (∀ k, (Value.slice Aa kr ca).ownBlock = some k → k < w3.heap.size) := hide (fun k hk => (hoa.lt k hk).2)
  have hsz3 := hb3.size
  clear hoa hb3 K1 S2
  have K2 : Calls Tryd.prog 19 #[.slice A n c, .string name, .string value] w3 fun e w' => ∃ A' c', e = .returned (.tuple #[.slice A' kr c', .int .i64 ev]) ∧ w'.ownsRow w3.heap.size 9 1 (.slice A' kr c') kr (RL.map Value.string) ∧ Below w3.heap.size w3 w' := by
    refine (rset_any A n c w.heap.size l name value w3 (unhide S3).l (by omega) (unhide Hs1) (by omega) (by omega) (by omega)).mono fun e w' h => ?_
    obtain ⟨A', c', k, h1, h2, h3, h4⟩ := setU h
    rw [(unhide HE).1] at h1 h2 h3
    obtain rfl : k = kr := h2.trans (unhide HE).2.2.2.1
    exact ⟨A', c', h1, h3, h4⟩
  replace K2 := hide K2
  go_wp2_with fail
  refine (unhide K2).mono ?_
  rintro e w4 ⟨Ab, cb, rfl, hob, hb4⟩
  have S4 := hide ((unhide S3).below hw2 hb4)
  have Ob := hide hob
  have Oa4 := hide (own_below (unhide Oa) hb4)
  have hsz4 := hb4.size
  clear hob hb4 K2 S3 Oa
  have K3 : Calls Tryd.prog 20 #[.slice (some ⟨g, 0, none⟩) n c2, .string name] w4 fun e w' => ∃ A' c', e = .returned (.slice A' ku c') ∧ w'.ownsRow w4.heap.size 9 1 (.slice A' ku c') ku (U.map Value.string) ∧ Below w4.heap.size w4 w' := by
    have h := unset_any (some ⟨g, 0, none⟩) n c2 w2.heap.size l name w4 (unhide S4).inn (unhide Hs1) (by omega)
    rw [(unhide HE).2.1] at h
    unfold EnvE at h
    rw [(unhide HE).2.2.2.2.1] at h
    exact h
  replace K3 := hide K3
  go_wp2_with fail
  refine (unhide K3).mono ?_
  rintro e w5 ⟨Ax, cx, rfl, hox, hb5⟩
  have S5 := hide ((unhide S4).below hw2 hb5)
  have Ox := hide hox
  have Ob5 := hide (own_below (unhide Ob) hb5)
  have Oa5 := hide (own_below (unhide Oa4) hb5)
  have lx : Hid (∀ k, (Value.slice Ax ku cx).ownBlock = some k → w4.heap.size ≤ k ∧ k < w5.heap.size) := hide (fun k hk => hox.lt k hk)
  have hsz5 := hb5.size
  clear hox hb5 K3 S4 Ob Oa4
  have K4 : Calls Tryd.prog 21 #[.slice (some ⟨g, 0, none⟩) n c2] w5 fun e w' => ∃ A' c', e = .returned (.slice A' kc c') ∧ w'.ownsRow w5.heap.size 9 1 (.slice A' kc c') kc (C.map Value.string) ∧ Below w5.heap.size w5 w' := by
    have h := scrub_any (some ⟨g, 0, none⟩) n c2 w2.heap.size l w5 (unhide S5).inn (by omega) (unhide Hs1) (by omega)
    rw [(unhide HE).2.2.1] at h
    unfold EnvE at h
    rw [(unhide HE).2.2.2.2.2] at h
    exact h
  replace K4 := hide K4
  go_wp2_with fail
  refine (unhide K4).mono ?_
  rintro e w6 ⟨Ay, cy, rfl, hoy, hb6⟩
  have S6 := hide ((unhide S5).below hw2 hb6)
  have Oy := hide hoy
  have Ox6 := hide (own_below (unhide Ox) hb6)
  have Ob6 := hide (own_below (unhide Ob5) hb6)
  have Oa6 := hide (own_below (unhide Oa5) hb6)
  have ly : Hid (∀ k, (Value.slice Ay kc cy).ownBlock = some k → w5.heap.size ≤ k) := hide (fun k hk => (hoy.lt k hk).1)
  have hsz6 := hb6.size
  have hee : (ev != ev) = false := by simp
  clear hoy hb6 K4 S5 Ox Ob5 Oa5
  have KE := eqTexts_any Aa Ab kr kr ca cb w6.heap.size RL RL w6 (Rd.of_own (unhide Oa6)) (Rd.of_own (unhide Ob6)) (by unfold maxLen; omega) (by unfold maxLen; omega)
  rw [decide_eq_true rfl] at KE
  replace KE := hide KE
  go_wp2_with fail
  refine (unhide KE).mono ?_
  rintro e w7 ⟨rfl, j, rfl⟩
  have S7 := hide ((unhide S6).drewN j)
  have Oy7 := hide (own_drewN (unhide Oy) j)
  have Ox7 := hide (own_drewN (unhide Ox6) j)
  have Oa7 := hide (own_drewN (unhide Oa6) j)
  have hsz7 : w6.heap.size ≤ (w6.drewN j).heap.size := Nat.le_refl _
  clear KE S6 Oy Ox6 Ob6 Oa6
  generalize w6.drewN j = w7 at *
  have K5 : Calls Tryd.prog 23 #[.slice A n c, .string name] w7 fun e w' => ∃ A' c', e = .returned (.slice A' ku c') ∧ w'.ownsRow w7.heap.size 9 1 (.slice A' ku c') ku (U.map Value.string) ∧ Below w7.heap.size w7 w' := by
    have h := runset_any A n c w.heap.size l name w7 (unhide S7).l (by omega) (unhide Hs1) (by omega)
    rw [(unhide HE).2.1] at h
    unfold EnvE at h
    rw [(unhide HE).2.2.2.2.1] at h
    exact h
  replace K5 := hide K5
  go_wp2_with fail
  refine (unhide K5).mono ?_
  rintro e w8 ⟨A8, c8, rfl, ho8, hb8⟩
  have KE := eqTexts_any Ax A8 ku ku cx c8 w8.heap.size U U w8 ((Rd.of_own (unhide Ox7)).belowSz hb8) (Rd.of_own ho8) (by unfold maxLen; omega) (by unfold maxLen; omega)
  rw [decide_eq_true rfl] at KE
  replace KE := hide KE
  have S8 := hide ((unhide S7).below hw2 hb8)
  have Oy8 := hide (own_below (unhide Oy7) hb8)
  have Ox8 := hide (own_below (unhide Ox7) hb8)
  have Oa8 := hide (own_below (unhide Oa7) hb8)
  have hsz8 := hb8.size
  clear ho8 hb8 K5 S7 Oy7 Ox7 Oa7
  go_wp2_with fail
  refine (unhide KE).mono ?_
  rintro e w9 ⟨rfl, j, rfl⟩
  have S9 := hide ((unhide S8).drewN j)
  have Oy9 := hide (own_drewN (unhide Oy8) j)
  have Ox9 := hide (own_drewN (unhide Ox8) j)
  have Oa9 := hide (own_drewN (unhide Oa8) j)
  have hsz9 : w8.heap.size ≤ (w8.drewN j).heap.size := Nat.le_refl _
  clear KE S8 Oy8 Ox8 Oa8
  generalize w8.drewN j = w9 at *
  have K6 : Calls Tryd.prog 24 #[.slice A n c] w9 fun e w' => ∃ A' c', e = .returned (.slice A' kc c') ∧ w'.ownsRow w9.heap.size 9 1 (.slice A' kc c') kc (C.map Value.string) ∧ Below w9.heap.size w9 w' := by
    have h := rscrub_any A n c w.heap.size l w9 (unhide S9).l (by omega) (unhide Hs1) (by omega)
    rw [(unhide HE).2.2.1] at h
    unfold EnvE at h
    rw [(unhide HE).2.2.2.2.2] at h
    exact h
  replace K6 := hide K6
  go_wp2_with fail
  refine (unhide K6).mono ?_
  rintro e w10 ⟨A10, c10, rfl, ho10, hb10⟩
  have KE := eqTexts_any Ay A10 kc kc cy c10 w10.heap.size C C w10 ((Rd.of_own (unhide Oy9)).belowSz hb10) (Rd.of_own ho10) (by unfold maxLen; omega) (by unfold maxLen; omega)
  rw [decide_eq_true rfl] at KE
  replace KE := hide KE
  have S10 := hide ((unhide S9).below hw2 hb10)
  have Oy10 := hide (own_below (unhide Oy9) hb10)
  have Ox10 := hide (own_below (unhide Ox9) hb10)
  have Oa10 := hide (own_below (unhide Oa9) hb10)
  have hsz10 := hb10.size
  clear ho10 hb10 K6 S9 Oy9 Ox9 Oa9
  go_wp2_with fail
  refine (unhide KE).mono ?_
  rintro e w11 ⟨rfl, j, rfl⟩
  have S11 := hide ((unhide S10).drewN j)
  have Oy11 := hide (own_drewN (unhide Oy10) j)
  have Ox11 := hide (own_drewN (unhide Ox10) j)
  have Oa11 := hide (own_drewN (unhide Oa10) j)
  have hsz11 : w10.heap.size ≤ (w10.drewN j).heap.size := Nat.le_refl _
  clear KE S10 Oy10 Ox10 Oa10
  generalize w10.drewN j = w11 at *
  have KK := hide (ekept_yes g c2 A n c w2.heap.size w.heap.size l w11 (unhide S11).i (unhide S11).l hcap (by omega))
  go_wp2_with fail
  refine (unhide KK).mono ?_
  rintro e w12 ⟨rfl, j, rfl⟩
  have S12 := hide ((unhide S11).drewN j)
  have Oy12 := hide (own_drewN (unhide Oy11) j)
  have Ox12 := hide (own_drewN (unhide Ox11) j)
  have Oa12 := hide (own_drewN (unhide Oa11) j)
  have hsz12 : w11.heap.size ≤ (w11.drewN j).heap.size := Nat.le_refl _
  clear KK S11 Oy11 Ox11 Oa11
  generalize w11.drewN j = w12 at *
  have hw12 : w2.heap.size ≤ w12.heap.size := by omega
  have KO := hide (eown_any Aa kr ca w2.heap.size _ g c2 A n c w2.heap.size l w12 (unhide Oa12) hw12 (unhide S12).i ((unhide S12).l.more hw2) (Nat.le_refl _) hcap (by omega) (by omega))
  go_wp2_with fail
  refine (unhide KO).mono ?_
  rintro e w13 ⟨rfl, hg13⟩
  have S13 := hide ((unhide S12).next hw2 ((Below.refl _ _).grown hg13 hw12 (fun k hk => ((unhide Oa12).lt k hk).1)))
  have Oy13 := hide (own_other (unhide Oy12) hg13 (fun k hk e => by have h1 := (unhide ly) k hk; have h2 := (unhide la) k e; omega))
  have Ox13 := hide (own_other (unhide Ox12) hg13 (fun k hk e => by have h1 := (unhide lx) k hk; have h2 := (unhide la) k e; omega))
  have hsz13 := hg13.size
  clear hg13 KO S12 Oy12 Ox12 Oa12
  have KO := hide (eown_any Ax ku cx w2.heap.size _ g c2 A n c w2.heap.size l w13 (own_base (unhide Ox13) (by omega)) (by omega) (unhide S13).i ((unhide S13).l.more hw2) (Nat.le_refl _) hcap (by omega) (by omega))
  go_wp2_with fail
  refine (unhide KO).mono ?_
  rintro e w14 ⟨rfl, hg14⟩
  have S14 := hide ((unhide S13).next hw2 ((Below.refl _ _).grown hg14 (by omega) (fun k hk => by have := ((unhide lx) k hk).1; omega)))
  have Oy14 := hide (own_other (unhide Oy13) hg14 (fun k hk e => by have h1 := (unhide ly) k hk; have h2 := (unhide lx) k e; omega))
  have hsz14 := hg14.size
  clear hg14 KO S13 Oy13 Ox13
  have KO := hide (eown_any Ay kc cy w2.heap.size _ g c2 A n c w2.heap.size l w14 (own_base (unhide Oy14) (by omega)) (by omega) (unhide S14).i ((unhide S14).l.more hw2) (Nat.le_refl _) hcap (by omega) (by omega))
  go_wp2_with fail
  refine (unhide KO).mono ?_
  rintro e w15 ⟨rfl, hg15⟩
  have S15 := hide ((unhide S14).next hw2 ((Below.refl _ _).grown hg15 (by omega) (fun k hk => by have := (unhide ly) k hk; omega)))
  have hb15 := (unhide Hb2).trans ((unhide S15).b.mono hw2)
  have Hb15 := hide hb15
  clear hg15 KO S14 Oy14 hb15
  go_wp2_with fail
  refine ((unhide KW) _).mono ?_
  rintro e w16 ⟨rfl, hb16⟩
  have Hb16 := hide ((unhide Hb15).trans (hb16.mono (unhide Hb15).size))
  clear hb16
  go_wp2_with fail
  go_ret
  exact ⟨rfl, unhide Hb16⟩
end Go.Proofs.YtlcdilgniimnlaaDoor
namespace Go.Proofs.YtlcdilgniimnlaaDoor
set_option linter.unusedVariables false
set_option linter.unusedSimpArgs false
open Go.RowKit Go.ChangeShapes Go.WideShapes Go.Joins Go.Deep

section
variable {H : Type} {enc : TypeId × Value → H} {P : Program} {w : World} {base : Nat} {held : Bool}
theorem flds_one {spare : Nat → Bool} {t : TypeId} {fs : Array Field} {fuel : Nat} {cs : List Value} {x : DataW H × List MemPlace} (ht : P.underlying t = some (.struct fs)) (hone : oneCellFields P fs = true) (hC : P.cellsOf t = fs.size)
    (h : DataW.trod enc P w base spare held fuel t cs = some x) : cs.length = fs.size ∧ ∃ n, ∀ (i : Nat) (f : Field) (v : Value), fs[i]? = some f → cs[i]? = some v → ∃ y, DataW.trod enc P w base spare held n f.type [v] = some y := by
  obtain ⟨xs, n, _, rfl, hl, hlen, hf⟩ := DataW.trod_struct ht h
  refine ⟨hl.trans hC, n, fun i f v hi hv => ?_⟩
  obtain ⟨o, k⟩ := hone_of hone i f hi
  have hi2 : i < fs.size := (Array.getElem?_eq_some_iff.1 hi).1
  have h1 := hf i f hi
  have e : ((cs.drop f.offset).take (P.cellsOf f.type)) = [v] := by
    rw [o, k]
    have hlt : i < cs.length := (List.getElem?_eq_some_iff.1 hv).1
    rw [List.drop_eq_getElem_cons hlt, (List.getElem?_eq_some_iff.1 hv).2]
    rfl
  rw [e] at h1
  exact ⟨_, h1.trans (List.getElem?_eq_getElem (by omega))⟩
/-- The fields of a struct, each one cell, by their types. -/
theorem flds_vals {t : TypeId} (tys : Array TypeId) {fuel : Nat} {cs : List Value} {x : DataW H × List MemPlace}
    (hS : ∃ fs, P.underlying t = some (.struct fs) ∧ oneCellFields P fs = true ∧ P.cellsOf t = fs.size ∧ fs.map (·.type) = tys)
    (h : DataW.trod enc P w base (fun _ => true) held fuel t cs = some x) : cs.length = tys.size ∧ ∃ n, ∀ (i : Nat) (t : TypeId) (v : Value), tys[i]? = some t → cs[i]? = some v → ∃ y, DataW.trod enc P w base (fun _ => true) held n t [v] = some y := by
  obtain ⟨fs, ht, hone, hC, hty⟩ := hS
  obtain ⟨hl, n, hf⟩ := flds_one ht hone hC h
  refine ⟨by rw [← hty]; simpa using hl, n, fun i t v hi hv => ?_⟩
  rw [← hty, Array.getElem?_map] at hi
  cases hq : fs[i]? with
  | none => rw [hq] at hi; cases hi
  | some f =>
    rw [hq] at hi
    obtain ⟨y, hy⟩ := hf i f v hq hv
    have e : f.type = t := by simpa using hi
    rw [e] at hy
    exact ⟨y, hy⟩
theorem fcells_at {a : Addr} {k : Nat} {cs : List Value} (h : w.cells? base a k = some cs) : cs.length = k ∧ ∀ j, j < k → w.cell? (a.add j) = cs[j]? := by
  unfold World.cells? at h
  split at h
  · have hl := mapM_some_length h
    refine ⟨by simpa using hl, fun j hj => ?_⟩
    exact mapM_some_get h j j (by simp [hj])
  · cases h
theorem fslice_is {t e : TypeId} {fuel : Nat} {v : Value} {y : DataW H × List MemPlace} (ht : P.underlying t = some (.slice e)) (hf : DataW.trod enc P w base (fun _ => true) held fuel t [v] = some y) : ∃ A n c, v = .slice A n c := by
  obtain ⟨a, l, c, h⟩ := slice_form ht hf
  simp only [List.cons.injEq, and_true] at h
  exact ⟨a, l, c, h⟩
theorem fu64_is {t : TypeId} {fuel : Nat} {v : Value} {y : DataW H × List MemPlace} (ht : P.underlying t = some (.int .u64)) (hf : DataW.trod enc P w base (fun _ => true) held fuel t [v] = some y) : ∃ n : Nat, v = .int .u64 n ∧ n < 18446744073709551616 := by
  obtain ⟨z, q, -, hw⟩ := DataW.trod_int ht hf
  simp only [List.cons.injEq, and_true] at q
  have b : 0 ≤ z ∧ z ≤ 18446744073709551615 := by simpa [Lit.wf, IntKind.min, IntKind.max, IntKind.signed, IntKind.bits] using hw
  obtain ⟨n, rfl⟩ := Int.eq_ofNat_of_zero_le b.1
  exact ⟨n, q, by omega⟩
theorem fu32_is {t : TypeId} {fuel : Nat} {v : Value} {y : DataW H × List MemPlace} (ht : P.underlying t = some (.int .u32)) (hf : DataW.trod enc P w base (fun _ => true) held fuel t [v] = some y) : ∃ n : Nat, v = .int .u32 n ∧ n < 4294967296 := by
  obtain ⟨z, q, -, hw⟩ := DataW.trod_int ht hf
  simp only [List.cons.injEq, and_true] at q
  have b : 0 ≤ z ∧ z ≤ 4294967295 := by simpa [Lit.wf, IntKind.min, IntKind.max, IntKind.signed, IntKind.bits] using hw
  obtain ⟨n, rfl⟩ := Int.eq_ofNat_of_zero_le b.1
  exact ⟨n, q, by omega⟩
theorem fu16_is {t : TypeId} {fuel : Nat} {v : Value} {y : DataW H × List MemPlace} (ht : P.underlying t = some (.int .u16)) (hf : DataW.trod enc P w base (fun _ => true) held fuel t [v] = some y) : ∃ n : Nat, v = .int .u16 n ∧ n < 65536 := by
  obtain ⟨z, q, -, hw⟩ := DataW.trod_int ht hf
  simp only [List.cons.injEq, and_true] at q
  have b : 0 ≤ z ∧ z ≤ 65535 := by simpa [Lit.wf, IntKind.min, IntKind.max, IntKind.signed, IntKind.bits] using hw
  obtain ⟨n, rfl⟩ := Int.eq_ofNat_of_zero_le b.1
  exact ⟨n, q, by omega⟩
theorem fu8_is {t : TypeId} {fuel : Nat} {v : Value} {y : DataW H × List MemPlace} (ht : P.underlying t = some (.int .u8)) (hf : DataW.trod enc P w base (fun _ => true) held fuel t [v] = some y) : ∃ n : Nat, v = .int .u8 n ∧ n < 256 := by
  obtain ⟨z, q, -, hw⟩ := DataW.trod_int ht hf
  simp only [List.cons.injEq, and_true] at q
  have b : 0 ≤ z ∧ z ≤ 255 := by simpa [Lit.wf, IntKind.min, IntKind.max, IntKind.signed, IntKind.bits] using hw
  obtain ⟨n, rfl⟩ := Int.eq_ofNat_of_zero_le b.1
  exact ⟨n, q, by omega⟩
theorem fint_is {t : TypeId} {fuel : Nat} {v : Value} {y : DataW H × List MemPlace} (ht : P.underlying t = some (.int .i64)) (hf : DataW.trod enc P w base (fun _ => true) held fuel t [v] = some y) : ∃ n : Int, v = .int .i64 n ∧ -9223372036854775808 ≤ n ∧ n ≤ 9223372036854775807 := by
  obtain ⟨z, q, -, hw⟩ := DataW.trod_int ht hf
  simp only [List.cons.injEq, and_true] at q
  have b : -9223372036854775808 ≤ z ∧ z ≤ 9223372036854775807 := by simpa [Lit.wf, IntKind.min, IntKind.max, IntKind.signed, IntKind.bits] using hw
  exact ⟨z, q, b⟩
theorem fstr_is {t : TypeId} {fuel : Nat} {v : Value} {y : DataW H × List MemPlace} (ht : P.underlying t = some .string) (hf : DataW.trod enc P w base (fun _ => true) held fuel t [v] = some y) : ∃ s : ByteArray, v = .string s ∧ s.size ≤ maxLen := by
  obtain ⟨s, q, -, bs⟩ := DataW.trod_string ht hf
  simp only [List.cons.injEq, and_true] at q
  exact ⟨s, q, bs⟩
theorem fbool_is {t : TypeId} {fuel : Nat} {v : Value} {y : DataW H × List MemPlace} (ht : P.underlying t = some .bool) (hf : DataW.trod enc P w base (fun _ => true) held fuel t [v] = some y) : ∃ b : Bool, v = .bool b := by
  obtain ⟨s, q, -⟩ := DataW.trod_bool ht hf
  simp only [List.cons.injEq, and_true] at q
  exact ⟨s, q⟩

/-- The cells of a row of structs. -/
def rowCs {α : Type} (vals : α → List Value) (l : List α) : List Value := l.flatMap vals
theorem rowCs_len {α : Type} {vals : α → List Value} {size : Nat} (hv : ∀ s, (vals s).length = size) (l : List α) : (rowCs vals l).length = l.length * size := by
  induction l with
  | nil => simp [rowCs]
  | cons s r ih => 
    have : (rowCs vals (s :: r)).length = size + (rowCs vals r).length := by simp [rowCs, hv]
    rw [this, ih, List.length_cons, Nat.add_mul]
    omega
theorem rowCs_app {α : Type} (vals : α → List Value) (a b : List α) : rowCs vals (a ++ b) = rowCs vals a ++ rowCs vals b := by simp [rowCs]
theorem rowCs_at {α : Type} {vals : α → List Value} {size : Nat} (hv : ∀ s, (vals s).length = size) (l : List α) (k : Nat) (s : α) (hk : l[k]? = some s) (j : Nat) (hj : j < size) : (rowCs vals l)[k * size + j]? = (vals s)[j]? := by
  have hlt := (List.getElem?_eq_some_iff.1 hk).1
  have e : l = l.take k ++ s :: l.drop (k + 1) := by
    rw [← (List.getElem?_eq_some_iff.1 hk).2, ← List.drop_eq_getElem_cons hlt, List.take_append_drop]
  have hl : (rowCs vals (l.take k)).length = k * size := by rw [rowCs_len hv, List.length_take]; congr 1; omega
  conv => lhs; rw [e]
  rw [rowCs_app, List.getElem?_append_right (by omega), hl, Nat.add_sub_cancel_left]
  show (vals s ++ rowCs vals (l.drop (k + 1)))[j]? = _
  rw [List.getElem?_append_left (by rw [hv]; exact hj)]
/-- A slice of structs as an argument. -/
theorem open_structs_rd {α : Type} [Inhabited α] {A : Option Addr} {n c fuel size : Nat} {t e : TypeId} {x : DataW H × List MemPlace} (ht : P.underlying t = some (.slice e)) (h6 : P.cellsOf e = size) (hpos : 0 < size) (vals : α → List Value) (ok : α → Prop) (hv : ∀ s, (vals s).length = size)
    (hone : ∀ fuel cs x, DataW.trod enc P w base (fun _ => true) held fuel e cs = some x → ∃ s, cs = vals s ∧ ok s)
    (h : DataW.trod enc P w base (fun _ => true) held fuel t [.slice A n c] = some x) :
    ∃ l : List α, Rd w w.heap.size size A n (rowCs vals l) ∧ l.length = n ∧ n ≤ c ∧ c ≤ maxLen ∧ ∀ s ∈ l, ok s := by
  rcases Go.Deep.open_slice ht h with ⟨h1, h2⟩ | ⟨a, len, cap, m, k, D, Pl, h1, hb, hl, hm, hmm, hx, hel⟩
  · simp at h1
    obtain ⟨rfl, rfl, rfl⟩ := h1
    exact ⟨[], Rd.none_ _ _ _ _, rfl, Nat.le_refl _, by unfold maxLen; omega, by simp⟩
  · simp at h1
    obtain ⟨rfl, rfl, rfl⟩ := h1
    simp only [if_true] at hmm
    have each : ∀ i, i < n → ∃ s : α, ok s ∧ ∀ j, j < size → w.cell? (a.add (i * size + j)) = (vals s)[j]? := by
      intro i hi
      obtain ⟨cs, hc, ht⟩ := hel i (by omega)
      rw [h6] at hc
      obtain ⟨s, rfl, hs⟩ := hone _ _ _ ht
      obtain ⟨_, hcell⟩ := fcells_at hc
      refine ⟨s, hs, fun j hj => ?_⟩
      have := hcell j hj
      rw [← this]
      congr 1
      by_cases g1 : i * size = 0 <;> by_cases g2 : j = 0 <;> simp [Addr.add, g1, g2, Nat.add_assoc]
    obtain ⟨S, hS⟩ := Go.Deep.choose_lt each
    refine ⟨(List.range n).map S, ⟨by rw [rowCs_len hv]; simp, ?_⟩, by simp, hl, hm, ?_⟩
    · by_cases h0 : n = 0
      · subst h0; exact .inl rfl
      · obtain ⟨b, off, spot⟩ := a
        have hs0 := (hS 0 (by omega)).2 0 hpos
        have hlt0 : 0 < (vals (S 0)).length := by rw [hv]; exact hpos
        have hs : spot = none := by simpa [Addr.add] using World.cell?_spot (hs0.trans (List.getElem?_eq_getElem hlt0))
        subst hs
        have hc2 : ∀ i, i < n → ∀ j, j < size → w.cell? ⟨b, off + (i * size + j), none⟩ = (vals (S i))[j]? := fun i hi j hj => by
          rw [← Go.WideShapes.add_plain]; exact (hS i hi).2 j hj
        have hblk : b < w.heap.size := cell_lt (a := ⟨b, off + (0 * size + 0), none⟩) ((hc2 0 (by omega) 0 hpos).trans (List.getElem?_eq_getElem hlt0))
        refine .inr ⟨b, off, rfl, hblk, fun j u hu => ?_⟩
        have hj : j < n * size := by
          have := (List.getElem?_eq_some_iff.1 hu).1
          rw [rowCs_len hv] at this
          simpa using this
        have hq : j / size < n := (Nat.div_lt_iff_lt_mul hpos).2 hj
        have hr : j % size < size := Nat.mod_lt _ hpos
        have hjj : j / size * size + j % size = j := by rw [Nat.mul_comm]; exact Nat.div_add_mod j size
        have hat := rowCs_at hv ((List.range n).map S) (j / size) (S (j / size)) (by simp [hq]) (j % size) hr
        rw [hjj] at hat
        have := hc2 (j / size) hq (j % size) hr
        rw [hjj] at this
        rw [this, ← hat, hu]
    · intro s hs
      simp only [List.mem_map, List.mem_range] at hs
      obtain ⟨i, hi, rfl⟩ := hs
      exact (hS i hi).1
end
end Go.Proofs.YtlcdilgniimnlaaDoor
namespace Go.Proofs.YtlcdilgniimnlaaDoor
set_option linter.unusedVariables false
set_option linter.unusedSimpArgs false
open Go.RowKit

theorem below_undrewE {w w' : World} {n : Nat} (h : Below (w.drewN n).heap.size (w.drewN n) w') : Below w.heap.size w w' := ⟨h.os, h.tape, h.output, h.size, h.block⟩
theorem set_memE {l : List ByteArray} {name value x : ByteArray} (h : x ∈ Ev.set l name value) : x ∈ l ∨ x = Ev.pair name value := by
  unfold Ev.set at h
  rcases List.mem_append.1 h with h | h
  · exact .inl (List.mem_of_mem_take h)
  · rcases List.mem_cons.1 h with h | h
    · exact .inr h
    · exact .inl (List.mem_of_mem_drop (List.mem_filter.1 h).1)
theorem pair_size (name value : ByteArray) : (Ev.pair name value).size = name.size + 1 + value.size := by
  rw [← pair_bytes, ByteArray.size_append, ByteArray.size_append]
  rfl
/-- Where the law stands: its own copy of the names is block w.heap.size. -/
structure BK (w : World) (nm ot : ByteArray) (A : Option Addr) (n : Nat) (l : List ByteArray) (W : World) : Prop where
  b : Below w.heap.size w W
  k : Blk W w.heap.size 40 [.string nm, .string ot]
  l : Rd W w.heap.size 1 A n (l.map Value.string)
theorem BK.below {w W W' : World} {nm ot : ByteArray} {A : Option Addr} {n : Nat} {l : List ByteArray} (h : BK w nm ot A n l W) (hb : Below W.heap.size W W') : BK w nm ot A n l W' :=
  ⟨h.b.trans (hb.mono h.b.size), h.k.belowSz hb, h.l.below (hb.mono h.b.size)⟩
theorem BK.drewN {w W : World} {nm ot : ByteArray} {A : Option Addr} {n : Nat} {l : List ByteArray} (h : BK w nm ot A n l W) (j : Nat) : BK w nm ot A n l (W.drewN j) := ⟨below_drewN' h.b j, h.k, h.l⟩
theorem BK.cells {w W : World} {nm ot : ByteArray} {A : Option Addr} {n : Nat} {l : List ByteArray} (h : BK w nm ot A n l W) : W.cell? ⟨w.heap.size, 0, none⟩ = some (.string nm) ∧ W.cell? ⟨w.heap.size, 1, none⟩ = some (.string ot) := ⟨h.k.cell rfl, h.k.cell rfl⟩

set_option maxRecDepth 100000 in
set_option maxHeartbeats 8000000 in
theorem envsBack_walk (A : Option Addr) (n c : Nat) (l : List ByteArray) (nm ot : ByteArray) (value : ByteArray) (w : World) (hl : Rd w w.heap.size 1 A n (l.map Value.string)) (hs : ∀ x ∈ l, x.size ≤ maxLen) (hnc : n ≤ c) (hn : n ≤ maxLen) (hnm : nm.size ≤ maxLen) (hot : ot.size ≤ maxLen) (hvs : value.size ≤ maxLen) :
    Calls Tryd.prog 5 #[.slice A n c, .agg #[.string nm, .string ot], .string value] w fun e w' => e = .returned (.bool true) ∧ Below w.heap.size w w' := by
  have KW := hide eworks_any
  have hb0 : Below w.heap.size w (w.alloc (.cells #[.string nm, .string ot] 40)) := (Below.refl _ _).alloc (Nat.le_refl _) _
  have S0 : Hid (BK w nm ot A n l (w.alloc (.cells #[.string nm, .string ot] 40))) := hide ⟨hb0, Blk.new w _ [.string nm, .string ot], hl.below hb0⟩
  have KL := hide (elarge_any A n c w.heap.size l (w.alloc (.cells #[.string nm, .string ot] 40)) (unhide S0).l hs hn)
  have hln : l.length = n := by simpa using hl.len1
  have Hln := hide hln
  unfold maxLen at hn hnm hot hvs
  clear hl hs hb0 hln
  go_enter Tryd.func5, Tryd.ntmps5
  obtain ⟨v0, v1⟩ := (unhide S0).cells
  go_wp2_with fail
  refine (unhide KL).mono ?_
  rintro e w1 ⟨r, rfl, rfl, hr⟩
  clear KL
  by_cases hout : r = true ∨ 1024 < nm.size ∨ 1024 < ot.size ∨ 1024 < value.size
  · clear hr
    have : (r = true) ∨ (r = false ∧ (1024 : Int) < (nm.size : Int)) ∨ (r = false ∧ ¬ (1024 : Int) < (nm.size : Int) ∧ (1024 : Int) < (ot.size : Int)) ∨ (r = false ∧ ¬ (1024 : Int) < (nm.size : Int) ∧ ¬ (1024 : Int) < (ot.size : Int) ∧ (1024 : Int) < (value.size : Int)) := by
      cases r
      · by_cases h2 : 1024 < nm.size
        · exact .inr (.inl ⟨rfl, by omega⟩)
        · by_cases h3 : 1024 < ot.size
          · exact .inr (.inr (.inl ⟨rfl, by omega, by omega⟩))
          · rcases hout with h | h | h | h
            · cases h
            · exact absurd h h2
            · exact absurd h h3
            · exact .inr (.inr (.inr ⟨rfl, by omega, by omega, by omega⟩))
      · exact .inl rfl
    clear hout
    rcases this with rfl | ⟨rfl, hbig⟩ | ⟨rfl, hsm, hbig⟩ | ⟨rfl, hsm, hsm2, hbig⟩
    all_goals
      go_wp2_with fail
      refine ((unhide KW) _).mono ?_
      rintro e w2 ⟨rfl, hb2⟩
      have Hb2 := hide ((unhide S0).b.trans (hb2.mono (unhide S0).b.size))
      clear hb2
      go_wp2_with fail
      go_ret
      exact ⟨rfl, unhide Hb2⟩
  obtain rfl : r = false := by cases r; rfl; exact absurd (.inl rfl) hout
  obtain ⟨hn1, hs1⟩ := hr rfl
  have t1 : ¬ (1024 : Int) < (nm.size : Int) := by omega
  have t2 : ¬ (1024 : Int) < (ot.size : Int) := by omega
  have t3 : ¬ (1024 : Int) < (value.size : Int) := by omega
  have m1 : nm.size ≤ 1024 := by omega
  have m2 : ot.size ≤ 1024 := by omega
  have m3 : value.size ≤ 1024 := by omega
  have Hs1 : Hid (∀ x ∈ l, x.size ≤ 131072) := hide hs1
  have hsM : ∀ x ∈ l, x.size ≤ maxLen := fun x hx => by have := hs1 x hx; unfold maxLen; omega
  have HsM := hide hsM
  clear hout hr hs1
  have K1 := set_any A n c w.heap.size l nm value _ (unhide S0).l (unhide S0).b.size hsM (by omega) hnc (by omega) (by omega)
  clear hsM
  cases hbad : Ev.badSet nm value
  case true =>
    unfold SetE at K1
    rw [hbad] at K1
    replace K1 := hide K1
    clear hbad
    go_wp2_with fail
    refine (unhide K1).mono ?_
    rintro e w2 (⟨_, rfl, rfl⟩ | ⟨h, _⟩)
    case inr => cases h
    go_wp2_with fail
    refine ((unhide KW) _).mono ?_
    rintro e w2 ⟨rfl, hb2⟩
    have Hb2 := hide ((unhide S0).b.trans (hb2.mono (unhide S0).b.size))
    clear hb2
    go_wp2_with fail
    go_ret
    exact ⟨rfl, unhide Hb2⟩
  have hgs := Ev.get_set (l := l) hbad
  have hss := Ev.set_set (l := l) hbad
  have hgo : ot ≠ nm → Ev.get (Ev.set l nm value) ot = Ev.get l ot := fun h => Ev.get_other hbad h
  have hll := set_len l nm value
  rw [unhide Hln] at hll
  have hsL : ∀ x ∈ Ev.set l nm value, x.size ≤ maxLen := by
    intro x hx
    unfold maxLen
    rcases set_memE hx with h | h
    · have := (unhide Hs1) x h; omega
    · rw [h, pair_size]; omega
  have hgu := Ev.get_unset (Ev.set l nm value) nm
  have hul := unset_len (Ev.set l nm value) nm
  obtain ⟨L2, hL2⟩ : ∃ L2, Ev.set l nm value = L2 := ⟨_, rfl⟩
  rw [hL2] at hgs hss hgo hll hsL hgu hul
  obtain ⟨k2, hk2⟩ : ∃ k2, L2.length = k2 := ⟨_, rfl⟩
  rw [hk2] at hll hul
  obtain ⟨U2, hU2⟩ : ∃ U2, Ev.unset L2 nm = U2 := ⟨_, rfl⟩
  obtain ⟨ku, hku⟩ : ∃ ku, U2.length = ku := ⟨_, rfl⟩
  rw [hU2] at hgu hul
  rw [hku] at hul
  have hsU : ∀ x ∈ U2, x.size ≤ maxLen := by rw [← hU2]; exact fun x hx => hsL x (List.mem_filter.1 hx).1
  have conv : ∀ {W : World} {e : Ending} {w' : World} {L : List ByteArray}, Ev.set L nm value = L2 → SetE L nm value W e w' → ∃ A' c', e = .returned (.tuple #[.slice A' k2 c', .int .i64 0]) ∧ w'.ownsRow W.heap.size 9 1 (.slice A' k2 c') k2 (L2.map Value.string) ∧ Below W.heap.size W w' := by
    rintro W e w' L hL (⟨h, _⟩ | ⟨_, A', c', k, rfl, h2, h3, h4⟩)
    · rw [hbad] at h; cases h
    · rw [hL] at h2 h3
      obtain rfl : k = k2 := h2.trans hk2
      exact ⟨A', c', rfl, h3, h4⟩
  have K1' := hide (K1.mono (fun e w' h => conv hL2 h))
  have HE := hide (And.intro hgs (And.intro hss (And.intro hgo (And.intro hgu (And.intro hU2 (And.intro hk2 hku))))))
  have HsL := hide hsL
  have HsU := hide hsU
  have Conv : Hid (∀ {W : World} {e : Ending} {w' : World}, SetE L2 nm value W e w' → ∃ A' c', e = .returned (.tuple #[.slice A' k2 c', .int .i64 0]) ∧ w'.ownsRow W.heap.size 9 1 (.slice A' k2 c') k2 (L2.map Value.string) ∧ Below W.heap.size W w') := hide (fun h => conv hss h)
  clear hgs hss hgo hgu hU2 hk2 hku hsL hsU conv K1 hL2 hbad
  go_wp2_with fail
  refine (unhide K1').mono ?_
  rintro e w2 ⟨Aa, ca, rfl, hoa, hb2⟩
  have hca := own_cap hoa
  have S2 := hide ((unhide S0).below hb2)
  have Oa := hide hoa
  clear hoa hb2 K1' S0 v0 v1
  have K2 := get_any Aa k2 ca w2.heap.size L2 nm w2 (Rd.of_own (unhide Oa)) (Nat.le_refl _) (unhide HsL) (by omega)
  rw [(unhide HE).1] at K2
  replace K2 := hide K2
  obtain ⟨v0, v1⟩ := (unhide S2).cells
  go_wp2_with fail
  refine (unhide K2).mono ?_
  rintro e w3 ⟨rfl, hb3⟩
  have S3 := hide ((unhide S2).below hb3)
  have Oa3 := hide (own_below (unhide Oa) hb3)
  clear hb3 K2 S2 Oa v0 v1
  have K3 := hide ((set_any Aa k2 ca w3.heap.size L2 nm value w3 (Rd.of_own (unhide Oa3)) (Nat.le_refl _) (unhide HsL) (by omega) hca (by omega) (by omega)).mono (fun e w' h => (unhide Conv) h))
  obtain ⟨v0, v1⟩ := (unhide S3).cells
  go_wp2_with fail
  refine (unhide K3).mono ?_
  rintro e w4 ⟨Ab, cb, rfl, hob, hb4⟩
  have S4 := hide ((unhide S3).below hb4)
  have Oa4 := hide (own_below (unhide Oa3) hb4)
  have KE := eqTexts_any Aa Ab k2 k2 ca cb w4.heap.size L2 L2 w4 (Rd.of_own (unhide Oa4)) (Rd.of_own hob) (by unfold maxLen; omega) (by unfold maxLen; omega)
  rw [decide_eq_true rfl] at KE
  replace KE := hide KE
  have e1 : (value.toList == value.toList) = true := beq_self_eq_true _
  have e2 : (value.toList != value.toList) = false := by simp
  clear hob hb4 K3 S3 Oa3 v0 v1
  go_wp2_with fail
  refine (unhide KE).mono ?_
  rintro e w5 ⟨rfl, j, rfl⟩
  have S5 := hide ((unhide S4).drewN j)
  have Oa5 := hide (own_drewN (unhide Oa4) j)
  clear KE S4 Oa4 e1 e2
  generalize w4.drewN j = w5 at *
  obtain ⟨v0, v1⟩ := (unhide S5).cells
  by_cases hne : ot = nm
  · subst hne
    have e1 : (ot.toList == ot.toList) = true := beq_self_eq_true _
    have e2 : (ot.toList != ot.toList) = false := by simp
    go_wp2_with fail
    have hc0 := v0
    have hW0 := (unhide S5).k.lt
    have KU : ∀ j, Calls Tryd.prog 20 #[.slice Aa k2 ca, .string ot] (w5.drewN j) fun e w' => ∃ A' c', e = .returned (.slice A' ku c') ∧ w'.ownsRow w5.heap.size 9 1 (.slice A' ku c') ku (U2.map Value.string) ∧ Below w5.heap.size w5 w' := by
      intro j
      have h := unset_any Aa k2 ca w5.heap.size L2 ot (w5.drewN j) ((Rd.of_own (unhide Oa5)).drewN j) (unhide HsL) (by omega)
      rw [(unhide HE).2.2.2.2.1] at h
      unfold EnvE at h
      rw [(unhide HE).2.2.2.2.2.2] at h
      exact h.mono (fun e w' ⟨A', c', h1, h2, h3⟩ => ⟨A', c', h1, h2, below_undrewE h3⟩)
    have HKU := hide KU
    have hku32 : ku ≤ 4294967296 := by omega
    have HGU := hide (unhide HE).2.2.2.1
    clear KU v1
    go_region_held3 (fun w' => w'.cell? ⟨w.heap.size, 0, none⟩ = some (.string ot)) (first | exact v0 | exact y0 | exact z0) (first
      | (go_at_call 20; refine ((unhide HKU) _).mono ?_; rintro e w8 ⟨A5, c5, rfl, ho5, hb5⟩; have y0 := (hb5.cell (p := ⟨w.heap.size, 0, none⟩) hW0).trans hc0; have KG := get_any A5 ku c5 w8.heap.size U2 ot w8 (Rd.of_own ho5) (Nat.le_refl _) (unhide HsU) hku32; rw [unhide HGU] at KG; have HS8 := hide ((unhide S5).below hb5); have HKG := hide KG; clear ho5 hb5 KG)
      | (go_at_call 13; with_reducible (refine (unhide HKG).mono ?_); rintro e w9 ⟨rfl, hb9⟩; have z0 := (hb9.cell (p := ⟨w.heap.size, 0, none⟩) (unhide HS8).k.lt).trans y0; have HS9 := hide ((unhide HS8).below hb9); clear hb9))
    clear v0 hc0 y0 z0
    go_wp2_with fail
    refine ((unhide KW) _).mono ?_
    rintro e w10 ⟨rfl, hb10⟩
    have Hb10 := hide ((unhide HS9).b.trans (hb10.mono (unhide HS9).b.size))
    clear hb10
    go_wp2_with fail
    go_ret
    exact ⟨rfl, unhide Hb10⟩
  · have hgo := (unhide HE).2.2.1 hne
    have hq : (ot.toList == nm.toList) = false := by rw [beq_toList]; simpa using hne
    have hq2 : (nm.toList == ot.toList) = false := by rw [beq_toList]; simpa using fun e : nm = ot => hne e.symm
    have hq3 : (ot.toList != nm.toList) = true := by rw [bne, hq]; rfl
    have hq4 : (nm.toList != ot.toList) = true := by rw [bne, hq2]; rfl
    obtain ⟨⟨gv, gb⟩, hg⟩ : ∃ r, Ev.get l ot = r := ⟨_, rfl⟩
    rw [hg] at hgo
    have K4 := get_any A n c w.heap.size l ot w5 (unhide S5).l (unhide S5).b.size (unhide HsM) (by omega)
    rw [hg] at K4
    replace K4 := hide K4
    have Hgo := hide hgo
    clear hgo hg
    go_wp2_with fail
    refine (unhide K4).mono ?_
    rintro e w6 ⟨rfl, hb6⟩
    have S6 := hide ((unhide S5).below hb6)
    have Oa6 := hide (own_below (unhide Oa5) hb6)
    clear hb6 K4 S5 Oa5 v0 v1
    have K5 := get_any Aa k2 ca w6.heap.size L2 ot w6 (Rd.of_own (unhide Oa6)) (Nat.le_refl _) (unhide HsL) (by omega)
    rw [unhide Hgo] at K5
    replace K5 := hide K5
    obtain ⟨v0, v1⟩ := (unhide S6).cells
    go_wp2_with fail
    refine (unhide K5).mono ?_
    rintro e w7 ⟨rfl, hb7⟩
    have S7 := hide ((unhide S6).below hb7)
    have Oa7 := hide (own_below (unhide Oa6) hb7)
    clear hb7 K5 S6 Oa6 v0 v1
    obtain ⟨v0, v1⟩ := (unhide S7).cells
    have f1 : (gv.toList == gv.toList) = true := beq_self_eq_true _
    have f2 : (gv.toList != gv.toList) = false := by simp
    have f3 : (gb != gb) = false := by simp
    go_wp2_with fail
    have hc0 := v0
    have hW0 := (unhide S7).k.lt
    have KU : ∀ j, Calls Tryd.prog 20 #[.slice Aa k2 ca, .string nm] (w7.drewN j) fun e w' => ∃ A' c', e = .returned (.slice A' ku c') ∧ w'.ownsRow w7.heap.size 9 1 (.slice A' ku c') ku (U2.map Value.string) ∧ Below w7.heap.size w7 w' := by
      intro j
      have h := unset_any Aa k2 ca w7.heap.size L2 nm (w7.drewN j) ((Rd.of_own (unhide Oa7)).drewN j) (unhide HsL) (by omega)
      rw [(unhide HE).2.2.2.2.1] at h
      unfold EnvE at h
      rw [(unhide HE).2.2.2.2.2.2] at h
      exact h.mono (fun e w' ⟨A', c', h1, h2, h3⟩ => ⟨A', c', h1, h2, below_undrewE h3⟩)
    have HKU := hide KU
    have hku32 : ku ≤ 4294967296 := by omega
    have HGU := hide (unhide HE).2.2.2.1
    clear KU v1
    go_region_held3 (fun w' => w'.cell? ⟨w.heap.size, 0, none⟩ = some (.string nm)) (first | exact v0 | exact y0 | exact z0) (first
      | (go_at_call 20; refine ((unhide HKU) _).mono ?_; rintro e w8 ⟨A5, c5, rfl, ho5, hb5⟩; have y0 := (hb5.cell (p := ⟨w.heap.size, 0, none⟩) hW0).trans hc0; have KG := get_any A5 ku c5 w8.heap.size U2 nm w8 (Rd.of_own ho5) (Nat.le_refl _) (unhide HsU) hku32; rw [unhide HGU] at KG; have HS8 := hide ((unhide S7).below hb5); have HKG := hide KG; clear ho5 hb5 KG)
      | (go_at_call 13; with_reducible (refine (unhide HKG).mono ?_); rintro e w9 ⟨rfl, hb9⟩; have z0 := (hb9.cell (p := ⟨w.heap.size, 0, none⟩) (unhide HS8).k.lt).trans y0; have HS9 := hide ((unhide HS8).below hb9); clear hb9))
    clear v0 hc0 y0 z0
    go_wp2_with fail
    refine ((unhide KW) _).mono ?_
    rintro e w10 ⟨rfl, hb10⟩
    have Hb10 := hide ((unhide HS9).b.trans (hb10.mono (unhide HS9).b.size))
    clear hb10
    go_wp2_with fail
    go_ret
    exact ⟨rfl, unhide Hb10⟩
end Go.Proofs.YtlcdilgniimnlaaDoor
namespace Go.Proofs.YtlcdilgniimnlaaDoor
set_option linter.unusedVariables false
open Go.RowKit Go.ChangeShapes Go.WideShapes Go.Joins Go.Deep

theorem twoFields : ∃ fs, Tryd.prog.underlying 40 = some (.struct fs) ∧ oneCellFields Tryd.prog fs = true ∧ Tryd.prog.cellsOf 40 = fs.size ∧ fs.map (·.type) = #[9, 9] :=
  ⟨_, Tryd.underlying40, by kernel_rfl, by kernel_rfl, by kernel_rfl⟩
section
variable {H : Type} {enc : TypeId × Value → H} {w : World} {base : Nat} {held : Bool}
theorem open_two_rd {r : Reach} {b0 : Nat} {v : Value} {d : DataW H} {p : List MemPlace} (hv : Value.okWide Tryd.prog w r b0 40 v) (h : DataW.Trod enc Tryd.prog w base (fun _ => true) held 40 v d p) :
    ∃ a b : ByteArray, v = .agg #[.string a, .string b] ∧ a.size ≤ maxLen ∧ b.size ≤ maxLen := by
  obtain ⟨cs, rfl, hsz⟩ := okWide_struct Tryd.underlying40 hv
  obtain ⟨fuel, hf⟩ := h
  obtain ⟨hl, n, hf⟩ := flds_vals _ twoFields hf
  have e2 : ∃ c0 c1, cs = #[c0, c1] := by
    obtain ⟨l⟩ := cs
    match l, hl with
    | [c0, c1], _ => exact ⟨c0, c1, rfl⟩
  obtain ⟨c0, c1, rfl⟩ := e2
  obtain ⟨y0, h0⟩ := hf 0 9 c0 rfl rfl
  obtain ⟨y1, h1⟩ := hf 1 9 c1 rfl rfl
  obtain ⟨s, rfl, bs⟩ := fstr_is Tryd.underlying9 h0
  obtain ⟨s', rfl, bs'⟩ := fstr_is Tryd.underlying9 h1
  exact ⟨s, s', rfl, bs, bs'⟩
end
end Go.Proofs.YtlcdilgniimnlaaDoor
namespace Go.Proofs.YtlcdilgniimnlaaDoor.envsBack
open Go.ChangeShapes Go.WideShapes Go.ChangeAt Go.RowKit
open Go.ChangeMaps (open_string shut_string)
set_option linter.unusedVariables false

theorem own : ownKnob Tryd.prog.godebug = none := by kernel_rfl
theorem laidOut : laidOutB Tryd.prog = true := by kernel_rfl
theorem wfi {z : Int} (h : (Lit.int .i64 z).wf = true) : -9223372036854775808 ≤ z ∧ z ≤ 9223372036854775807 := by simpa [Lit.wf, IntKind.min, IntKind.max, IntKind.signed, IntKind.bits] using h

def laid3 : List (String × DataW Unit) := [("unicode/utf8.acceptRanges", Rows.laid_unicode_utf8_acceptRanges), ("unicode/utf8.first", Rows.laid_unicode_utf8_first)]

set_option maxRecDepth 100000 in
theorem lifted (os : Os) (started : os.Started) (H : Type) (enc : TypeId × Value → H) :
    ReturnsInHanded {} Tryd.checked os 5 .any (fun w args => (Rows.envsBackSpec.pre enc Tryd.prog Tryd.f5 [] false w args ∧ laidMetH Tryd.prog laid3 w) ∧ sizedMet enc Tryd.prog Tryd.f5 (OpenSpec.ofChange Rows.envsBackSpec) false w args)
      (Rows.envsBackSpec.post enc Tryd.prog Tryd.f5 false true false false) := by
  refine returnsInHanded_of_change_and (C := Tryd.checked) (X := fun w _ => laidMetH Tryd.prog laid3 w) (fun _ _ _ hh h => h.of_heap hh) own started (by kernel_rfl) Tryd.func5
    (ChangeSpec.witness_shaped (enc := enc) (C := Tryd.checked) (os := os) (X := fun w _ => laidMetH Tryd.prog laid3 w) false (World.laidAll Tryd.prog os laid3) #[.slice none 0 0, .agg #[.string ByteArray.empty, .string ByteArray.empty], .string ByteArray.empty] 8 (World.laidAll_os _ _ _)
      (World.shaped_of_ZipB (by kernel_rfl) (by kernel_rfl)) (by kernel_rfl) (by kernel_rfl) (by kernel_rfl)
      (by rw [MakeChecks.laidMetH_plain _ _ _ (by kernel_rfl)]; exact laidMet_laidAll _ (by kernel_rfl) (by kernel_rfl))) ?_
  intro W base args ds gs before hval0 hW _ _ _ _
  have hval : ∀ (j : Nat) t v, Tryd.f5.params[j]? = some t → args[j]? = some v → Value.okWide Tryd.prog W .any base t v := hval0
  have hW' := hW
  obtain ⟨p, q, hA0, hV, rfl, hfz, hnd⟩ := hW
  have hA : DataW.TrodAll enc Tryd.prog W 0 (fun _ => true) true Tryd.f5.params.toList args.toList ds p := hA0
  rw [Tryd.params5] at hA hval
  obtain ⟨v0, vs0, d0, ds0, p0, q0, hargs, rfl, rfl, h0, r0⟩ := trodAll_cons hA
  obtain ⟨v1, vs1, d1, ds1, p1, q1, rfl, rfl, rfl, h1, r1⟩ := trodAll_cons r0
  obtain ⟨v2, vs2, d2, ds2, p2, q2, rfl, rfl, rfl, h2, r2⟩ := trodAll_cons r1
  obtain ⟨rfl, rfl, rfl⟩ := trodAll_nil r2
  obtain rfl : args = #[v0, v1, v2] := by cases args; simp_all
  obtain ⟨rfl, rfl⟩ := trodVars_none hV
  obtain ⟨A0, n0, c0, rfl⟩ := okWide_slice Tryd.underlying22 (hval 0 22 v0 rfl rfl)
  have k0 := h0
  have lt0 : ∀ x ∈ p0, x.block < W.heap.size := by obtain ⟨m, hm⟩ := k0; exact DataW.trod_lt m _ _ _ hm
  obtain ⟨x0, w0, wc0, wm0, we0⟩ := open_strs_rd Tryd.underlying22 Tryd.underlying9 (by kernel_rfl) h0
  have k1 := h1
  have lt1 : ∀ x ∈ p1, x.block < W.heap.size := by obtain ⟨m, hm⟩ := k1; exact DataW.trod_lt m _ _ _ hm
  obtain ⟨a1, b1, rfl, wa1, wb1⟩ := open_two_rd (hval 1 40 v1 rfl rfl) h1
  obtain ⟨a2, rfl, rfl, rfl, w2⟩ := open_string Tryd.underlying9 (hval 2 9 v2 rfl rfl) h2
  clear hA0 hval0
  refine (envsBack_walk A0 n0 c0 x0 a1 b1 a2 W w0 we0 wc0 (Nat.le_trans wc0 wm0) wa1 wb1 w2).mono fun e W' ⟨he, bel⟩ => ?_
  subst he
  exact ⟨_, rfl, _, _, _, [], _, [], hW', trodAll_mk1 (shut_bool Tryd.underlying4 _), (trodAll_cons_mk (Below.trod laidOut (by kernel_rfl) (of_decide_eq_true (by kernel_rfl)) k0 bel lt0) (trodAll_cons_mk (Below.trod laidOut (by kernel_rfl) (of_decide_eq_true (by kernel_rfl)) k1 bel lt1) (trodAll_cons_mk (shut_string Tryd.underlying9 w2) trodAll_mk0))), rfl, bel.frame _, fun h => by cases h⟩

theorem over : Rows.envsBackRow.holds Tryd.pinned (OpenSpec.ofChange Rows.envsBackSpec) :=
  OpenClaim.holds_of_wide 5 Tryd.f5 rfl rfl rfl rfl rfl rfl rfl ⟨rfl, rfl, rfl, rfl, rfl⟩ rfl rfl rfl rfl rfl (by kernel_rfl) Tryd.func5 (by kernel_rfl)
    (of_decide_eq_true (by kernel_rfl)) (by unfold Func.isWrapper; first | (rw [if_pos (by decide +kernel)]; kernel_rfl) | (rw [if_neg (by decide +kernel)]; exact ⟨rfl, rfl⟩))
    (fun os started H enc _ => lifted os started H enc)

theorem proved : Rows.EnvsBackCardSaid :=
  Claim7.holds_tied_plain_at .later [] [.data, .pinned] true Rows.envsBackCard.stood.harness false over (fun _ h => by cases h) (by kernel_rfl) (fun _ h => by cases h) envsBack_row_tie rfl ⟨rfl, rfl⟩ (by kernel_rfl) rfl
    (fun f fn hf hfn => by
      obtain rfl : f = 5 := Option.some.inj ((show Tryd.prog.funcNamed "hostel/hostellaw03.EnvsBack" = some 5 by kernel_rfl).symm.trans hf) |>.symm
      obtain rfl : fn = Tryd.f5 := (Option.some.inj (Tryd.func5.symm.trans hfn)).symm
      exact ⟨by kernel_rfl, fun j t ht => by
        rw [Tryd.params5] at ht
        have hm : t ∈ ([22, 40, 9] : List TypeId) := by simpa using Array.mem_of_getElem? ht
        have hall : (([22, 40, 9] : List TypeId).all fun u => !Tryd.prog.wantsStandIn u) = true := by kernel_rfl
        exact (show Tryd.prog.wantsStandIn t = false by simpa using List.all_eq_true.1 hall t hm)⟩)
    (by kernel_rfl)
#print axioms proved
end Go.Proofs.YtlcdilgniimnlaaDoor.envsBack
