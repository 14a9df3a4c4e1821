/- The walk of ElfTells: it returns true and changes nothing that was there. Conditions: the numbers fit their kinds; the slices are no longer than their capacities. Printed by wip/gen_elf16.py. -/
import Derived.Test.YtkonolmakpeocaaElf11
import Derived.Test.YtkonolmakpeocaaElf15b
import Derived.Test.YtkonolmakpeocaaElf15c
import Derived.Deep.RegionHeld3
namespace Go.Proofs.Ytkonolmakpeocaa
set_option linter.unusedVariables false
set_option linter.unusedSimpArgs false
open Go.RowKit

theorem own_setS {w : World} {base g n c i size : Nat} {e : TypeId} {xs : List Value} (h : w.ownsRow base e size (.slice (some ⟨g, 0, none⟩) n c) n xs) (u : Value) :
    (w.setCell ⟨g, i, none⟩ u).ownsRow base e size (.slice (some ⟨g, 0, none⟩) n c) n (xs.set i u) := by
  obtain ⟨hl, hn | ⟨g', cap, cur, hv, hb, hg, h1, h2, h3, h4⟩⟩ := h
  · exact absurd hn.1 (by simp)
  · obtain ⟨rfl, rfl⟩ : g = g' ∧ c = cap := by simpa using hv
    refine ⟨by simpa using hl, .inr ⟨g, c, cur.setIfInBounds i u, rfl, hb, heap_setCell_same _ _ _ _ _ _ hg, h1, h2, by simpa using h3, ?_⟩⟩
    rw [Array.toList_setIfInBounds, List.take_set, h4]
theorem own_atS {w : World} {base g n c size : Nat} {e : TypeId} {xs : List Value} (h : w.ownsRow base e size (.slice (some ⟨g, 0, none⟩) n c) n xs) : base ≤ g ∧ g < w.heap.size ∧ n ≤ c := by
  obtain ⟨hl, hn | ⟨g', cap, cur, hv, hb, hg, h1, h2, h3, h4⟩⟩ := h
  · exact absurd hn.1 (by simp)
  · obtain ⟨rfl, rfl⟩ : g = g' ∧ c = cap := by simpa using hv
    exact ⟨hb, lt_of_block hg, h1⟩
theorem own_freeS {w : World} {base g n c size : Nat} {e : TypeId} {xs : List Value} (h : w.ownsRow base e size (.slice (some ⟨g, 0, none⟩) n c) n xs) (i : Nat) : w.frozen? ⟨g, i, none⟩ = false := by
  obtain ⟨hl, hn | ⟨g', cap, cur, hv, hb, hg, h1, h2, h3, h4⟩⟩ := h
  · exact absurd hn.1 (by simp)
  · obtain ⟨rfl, rfl⟩ : g = g' ∧ c = cap := by simpa using hv
    exact frozen_of_row _ _ _ _ _ hg
theorem own_cellS {w : World} {base g n c size : Nat} {e : TypeId} {xs : List Value} (h : w.ownsRow base e size (.slice (some ⟨g, 0, none⟩) n c) n xs) {i : Nat} (hi : i < n * size) : ∃ u, w.cell? ⟨g, i, none⟩ = some u := by
  have hx : xs.length = n * size := h.1
  have hr := Rd.of_own h
  obtain ⟨b, off, ha, _, hc⟩ := hr.open_ (by intro e; rw [e] at hx; simp at hx; omega)
  obtain ⟨rfl, rfl⟩ : g = b ∧ 0 = off := by simpa using ha
  refine ⟨xs[i]'(by omega), ?_⟩
  have := hc i _ (List.getElem?_eq_getElem (by omega))
  simpa using this

theorem boxes_keep {B g0 g1 : Nat} {w w' : World} {a0 a1 a2 a3 b0 b1 b2 b3 : Value} (hb : Below B w w') (h0 : g0 < B) (h1 : g1 < B)
    (x0 : w.cell? ⟨g0, 0, none⟩ = some a0) (x1 : w.cell? ⟨g0, 1, none⟩ = some a1) (x2 : w.cell? ⟨g0, 2, none⟩ = some a2) (x3 : w.cell? ⟨g0, 3, none⟩ = some a3)
    (y0 : w.cell? ⟨g1, 0, none⟩ = some b0) (y1 : w.cell? ⟨g1, 1, none⟩ = some b1) (y2 : w.cell? ⟨g1, 2, none⟩ = some b2) (y3 : w.cell? ⟨g1, 3, none⟩ = some b3) :
    w'.cell? ⟨g0, 0, none⟩ = some a0 ∧ w'.cell? ⟨g0, 1, none⟩ = some a1 ∧ w'.cell? ⟨g0, 2, none⟩ = some a2 ∧ w'.cell? ⟨g0, 3, none⟩ = some a3 ∧ w'.cell? ⟨g1, 0, none⟩ = some b0 ∧ w'.cell? ⟨g1, 1, none⟩ = some b1 ∧ w'.cell? ⟨g1, 2, none⟩ = some b2 ∧ w'.cell? ⟨g1, 3, none⟩ = some b3 :=
  ⟨(hb.cell (p := ⟨g0, 0, none⟩) h0).trans x0, (hb.cell (p := ⟨g0, 1, none⟩) h0).trans x1, (hb.cell (p := ⟨g0, 2, none⟩) h0).trans x2, (hb.cell (p := ⟨g0, 3, none⟩) h0).trans x3,
    (hb.cell (p := ⟨g1, 0, none⟩) h1).trans y0, (hb.cell (p := ⟨g1, 1, none⟩) h1).trans y1, (hb.cell (p := ⟨g1, 2, none⟩) h1).trans y2, (hb.cell (p := ⟨g1, 3, none⟩) h1).trans y3⟩

set_option maxHeartbeats 4000000 in
set_option maxRecDepth 100000 in
theorem tells_out (Ab A : Option Addr) (m cb n c : Nat) (ty en ph : Int) (w : World) (hm : m ≤ maxLen) (hn : n ≤ maxLen) (h : 262144 < m ∨ 4096 < n) :
    Calls Try.prog 6 #[.agg #[.int .u16 ty, .int .u64 en, .int .u64 ph, .slice A n c], .slice Ab m cb] w fun e w' => e = .returned (.bool true) ∧ Below w.heap.size w w' := by
  unfold maxLen at hm hn
  have W := hide works_any
  have hc : 262144 < m ∨ (¬ 262144 < m ∧ 4096 < n) := by omega
  rcases hc with h1 | ⟨h1, h2⟩
  all_goals
    clear h
    go_enter Try.func6, Try.ntmps6
    go_wp2_with (go_at_call 7; refine ((unhide W) _).mono ?_; rintro e w6 ⟨rfl, hb6⟩)
    go_ret
    exact ⟨rfl, below_new hb6⟩

set_option maxHeartbeats 16000000 in
set_option maxRecDepth 100000 in
theorem tells_in (Ab A : Option Addr) (m cb n c : Nat) (h : El.Hd) (b : List UInt8) (w : World) (hb : Rd w w.heap.size 1 Ab m (bys b)) (hl : Rd w w.heap.size 6 A n (segCells h.segs)) (hm : m ≤ 262144) (hmc : m ≤ cb) (hn : n ≤ 4096) (hf : ∀ x ∈ h.segs, SgFit x) (hen : h.entry < 18446744073709551616) (hph : h.phoff < 18446744073709551616) :
    Calls Try.prog 6 #[.agg #[.int .u16 h.type, .int .u64 h.entry, .int .u64 h.phoff, .slice A n c], .slice Ab m cb] w fun e w' => e = .returned (.bool true) ∧ Below w.heap.size w w' := by
  have hn4 : n ≤ 4294967296 := by omega
  have W := hide works_any
  have Kcopy := hide copyHead_any
  have Kroomy := hide roomy_any
  have Kloads := hide loads_any
  have Kspan := hide span_any
  have Krspan := hide rspan_any
  have Kint := hide interp_any
  have Krint := hide rinterp_any
  have Krloads := hide rloads_any
  have Keq := hide eqSegs_yes
  have Kph := hide phdr_any
  have Krph := hide rphdr_any
  have Ksame := hide same_yes
  have Kkept := hide kept_yes
  have hlln := loads_len h.segs
  have hln : h.segs.length = n := by have := hl.1; rw [segCells_len] at this; omega
  have hL16 : (El.loads h.segs).length ≤ 4096 := by omega
  have Hb := hide hb
  have Hl := hide hl
  have Hf := hide hf
  clear hb hl hf hlln hln
  go_enter Try.func6, Try.ntmps6
  go_wp2_with fail
  refine ((unhide Kcopy) A n c w.heap.size h.segs _ _ _ _ (by simp) ((unhide Hl).alloc (Nat.le_refl _) _) hn4).mono ?_
  rintro e w1 ⟨Ag, cg, rfl, ho1, hb1⟩
  have hx1 := newblk hb1
  have hw1 := below_new hb1
  have hs1 := hw1.size
  have hH0 := lt_of_block hx1
  have hrg := Rd.of_own ho1
  have Hx1 := hide hx1
  have Hw1 := hide hw1
  have Hrg := hide hrg
  clear hb1 hx1 hw1 ho1 hrg
  go_wp2_with fail
  refine ((unhide Kroomy) Ab m cb w.heap.size b _ (by simp; omega) ((unhide Hb).below ((unhide Hw1).alloc hs1 _)) (by omega)).mono ?_
  rintro e V ⟨gi, rfl, ho2, hb2⟩
  have hy := newblk hb2
  have hw2 := below_new hb2
  have hs2 := hw2.size
  have hx := (hw2.block _ hH0).trans (unhide Hx1)
  have hH1 := lt_of_block hy
  have hV0 := (unhide Hw1).trans (hw2.mono hs1)
  have hsV0 := hV0.size
  replace hH0 := lt_of_block hx
  have HrB := hide ((unhide Hb).below hV0)
  have HrH := hide ((unhide Hl).below hV0)
  have HrG := hide ((unhide Hrg).below hw2)
  have HrI := hide (Rd.of_own ho2)
  obtain ⟨x0, x1, x2, x3⟩ := box_facts hx
  obtain ⟨y0, y1, y2, y3⟩ := box_facts hy
  have HX := hide hx
  have HY := hide hy
  have HW0 := hide hV0
  have HVV := hide (Below.refl V.heap.size V)
  have hsVV : V.heap.size ≤ V.heap.size := Nat.le_refl _
  clear hb2 hy hw2 hx hV0 ho2 Hw1 Hrg Hx1
  go_wp2_with fail
  refine ((unhide Kloads) Ag n cg w1.heap.size h.segs _ _ _ _ (by omega) (unhide HrG) hn4).mono ?_
  rintro e w3 ⟨AL, cL, rfl, ho3, hb3⟩
  have HoL := hide ho3
  have HrL := hide (Rd.of_own ho3)
  have hs3 := hb3.size
  clear ho3
  have hVw3 := (unhide HVV).trans (hb3.mono hsVV)
  have hsVw3 := hVw3.size
  have HVw3 := hide hVw3
  clear x0 x1 x2 x3 y0 y1 y2 y3
  obtain ⟨x0, x1, x2, x3⟩ := box_facts ((hVw3.block _ hH0).trans (unhide HX))
  obtain ⟨y0, y1, y2, y3⟩ := box_facts ((hVw3.block _ hH1).trans (unhide HY))
  clear hVw3 hb3 HVV
  go_wp2_with fail
  refine ((unhide Kspan) Ag n cg w1.heap.size h _ (by omega) ((unhide HrG).below ((unhide HVw3).mono (by omega))) hn4 (unhide Hf)).mono ?_
  rintro e w4 ⟨rfl, hb4⟩
  replace HoL := hide (own_below (unhide HoL) hb4)
  replace HrL := hide ((unhide HrL).belowSz hb4)
  have hVw4 := (unhide HVw3).trans (hb4.mono hsVw3)
  have hsVw4 := hVw4.size
  have HVw4 := hide hVw4
  clear x0 x1 x2 x3 y0 y1 y2 y3
  obtain ⟨x0, x1, x2, x3⟩ := box_facts ((hVw4.block _ hH0).trans (unhide HX))
  obtain ⟨y0, y1, y2, y3⟩ := box_facts ((hVw4.block _ hH1).trans (unhide HY))
  clear hVw4 hb4 HVw3
  go_wp2_with fail
  refine ((unhide Krspan) A n c w.heap.size h _ (by omega) ((unhide HrH).below ((unhide HVw4).mono (by omega))) hn4 (unhide Hf)).mono ?_
  rintro e w5 ⟨rfl, hb5⟩
  replace HoL := hide (own_below (unhide HoL) hb5)
  replace HrL := hide ((unhide HrL).belowSz hb5)
  have hVw5 := (unhide HVw4).trans (hb5.mono hsVw4)
  have hsVw5 := hVw5.size
  have HVw5 := hide hVw5
  clear x0 x1 x2 x3 y0 y1 y2 y3
  obtain ⟨x0, x1, x2, x3⟩ := box_facts ((hVw5.block _ hH0).trans (unhide HX))
  obtain ⟨y0, y1, y2, y3⟩ := box_facts ((hVw5.block _ hH1).trans (unhide HY))
  clear hVw5 hb5 HVw4
  go_wp2_with fail
  have hri := ((unhide HrI).cutN (k := m) (by omega)).below (unhide HVw5)
  rw [bys_take, List.take_append_of_le_length (by have := (unhide HrB).len1; rw [bys_len] at this; omega), List.take_of_length_le (by have := (unhide HrB).len1; rw [bys_len] at this; omega)] at hri
  have Hri := hide hri
  clear hri
  refine ((unhide Kint) (some ⟨gi, 0, none⟩) m (m + 7) b Ag n cg V.heap.size h.segs _ _ _ _ (by omega) (unhide Hri) (((unhide HrG).below ((unhide HVw5).mono (by omega))).more (by omega)) (by omega) (by omega) hn4 (unhide Hf)).mono ?_
  rintro e w6 hend
  unfold InterpEnd at hend
  obtain ⟨rfl, hb6⟩ := hend
  replace HoL := hide (own_below (unhide HoL) hb6)
  replace HrL := hide ((unhide HrL).belowSz hb6)
  clear Hri
  have hVw6 := (unhide HVw5).trans (hb6.mono hsVw5)
  have hsVw6 := hVw6.size
  have HVw6 := hide hVw6
  clear x0 x1 x2 x3 y0 y1 y2 y3
  obtain ⟨x0, x1, x2, x3⟩ := box_facts ((hVw6.block _ hH0).trans (unhide HX))
  obtain ⟨y0, y1, y2, y3⟩ := box_facts ((hVw6.block _ hH1).trans (unhide HY))
  clear hVw6 hb6 HVw5
  go_wp2_with fail
  refine ((unhide Krint) Ab m cb b A n c w.heap.size h.segs _ _ _ _ (by omega) ((unhide HrB).below ((unhide HVw6).mono (by omega))) ((unhide HrH).below ((unhide HVw6).mono (by omega))) (by omega) (by omega) hn4 (unhide Hf)).mono ?_
  rintro e w7 hend
  unfold InterpEnd at hend
  obtain ⟨rfl, hb7⟩ := hend
  replace HoL := hide (own_below (unhide HoL) hb7)
  replace HrL := hide ((unhide HrL).belowSz hb7)
  have hVw7 := (unhide HVw6).trans (hb7.mono hsVw6)
  have hsVw7 := hVw7.size
  have HVw7 := hide hVw7
  clear x0 x1 x2 x3 y0 y1 y2 y3
  obtain ⟨x0, x1, x2, x3⟩ := box_facts ((hVw7.block _ hH0).trans (unhide HX))
  obtain ⟨y0, y1, y2, y3⟩ := box_facts ((hVw7.block _ hH1).trans (unhide HY))
  clear hVw7 hb7 HVw6
  generalize spanL (El.loads h.segs) = sp at *
  generalize El.interpOf b h.segs = ip at *
  obtain ⟨sp1, sp2⟩ := sp
  obtain ⟨ip1, ip2, ip3⟩ := ip
  have z1 : (((sp1 : Nat) : Int) != ((sp1 : Nat) : Int)) = false := by simp
  have hH0w : w.heap.size < w7.heap.size := by omega
  have hH1w : w1.heap.size < w7.heap.size := by omega
  obtain ⟨vx0, vx1, vx2, vx3⟩ := box_facts (unhide HX)
  obtain ⟨vy0, vy1, vy2, vy3⟩ := box_facts (unhide HY)
  have HV7 := hide (below_drew' (unhide HVw7))
  have hs7 : V.heap.size ≤ w7.drew.heap.size := hsVw7
  have hrl7 : Rd w7.drew w7.drew.heap.size 6 AL (El.loads h.segs).length (segCells (El.loads h.segs)) := (unhide HrL).drew
  have HrL7 := hide hrl7
  have hol7 : w7.drew.ownsRow V.heap.size 37 6 (.slice AL (El.loads h.segs).length cL) (El.loads h.segs).length (segCells (El.loads h.segs)) := unhide HoL
  have HoL7 := hide hol7
  clear hrl7 hol7
  have hL32 : (El.loads h.segs).length ≤ 4294967296 := by omega
  go_wp2_with fail
  go_region_held3 (fun w' => w'.cell? ⟨w.heap.size, 0, none⟩ = some (.int .u16 h.type) ∧ w'.cell? ⟨w.heap.size, 1, none⟩ = some (.int .u64 h.entry) ∧ w'.cell? ⟨w.heap.size, 2, none⟩ = some (.int .u64 h.phoff) ∧ w'.cell? ⟨w.heap.size, 3, none⟩ = some (.slice A n c) ∧ w'.cell? ⟨w1.heap.size, 0, none⟩ = some (.int .u16 h.type) ∧ w'.cell? ⟨w1.heap.size, 1, none⟩ = some (.int .u64 h.entry) ∧ w'.cell? ⟨w1.heap.size, 2, none⟩ = some (.int .u64 h.phoff) ∧ w'.cell? ⟨w1.heap.size, 3, none⟩ = some (.slice Ag n cg)) (first | exact boxes_keep (unhide HV11) hH0 hH1 vx0 vx1 vx2 vx3 vy0 vy1 vy2 vy3 | exact boxes_keep (unhide HV10) hH0 hH1 vx0 vx1 vx2 vx3 vy0 vy1 vy2 vy3 | exact boxes_keep (unhide HV9) hH0 hH1 vx0 vx1 vx2 vx3 vy0 vy1 vy2 vy3 | exact boxes_keep (unhide HV8) hH0 hH1 vx0 vx1 vx2 vx3 vy0 vy1 vy2 vy3 | exact boxes_keep (unhide HV7) hH0 hH1 vx0 vx1 vx2 vx3 vy0 vy1 vy2 vy3) (first
    | (go_at_call 20; go_loud (refine ((unhide Krloads) A n c w.heap.size h.segs _ _ _ _ (Nat.le_trans (Nat.le_of_lt hH0) hs7) ((unhide HrH).below ((unhide HV7).mono (Nat.le_of_lt hH0))) hn4).mono ?_; rintro e w8 ⟨A8, c8, rfl, ho8, hb8⟩; have HV8 := hide ((unhide HV7).trans (hb8.mono hs7)); have HrL8 := hide ((unhide HrL7).belowSz hb8); have HoL8 := hide (own_below (unhide HoL7) hb8); have Hr8 := hide (Rd.of_own ho8); have hs8 := (unhide HV8).size; clear hb8 ho8))
    | (go_at_call 19; refine ((unhide Keq) AL A8 _ cL c8 w8.heap.size (El.loads h.segs) _ (Nat.le_refl _) (unhide HrL8) (unhide Hr8) hL32).mono ?_; rintro e w9 ⟨rfl, hb9⟩; have HV9 := hide ((unhide HV8).trans (hb9.mono hs8)); have HoL9 := hide (own_below (unhide HoL8) hb9); have hs9 := (unhide HV9).size; clear hb9)
    | (go_at_call 21; refine ((unhide Kph) Ag n cg w1.heap.size h _ (Nat.le_trans (Nat.le_of_lt hH1) hs9) ((unhide HrG).below ((unhide HV9).mono (Nat.le_of_lt hH1))) hn4 (unhide Hf) hph).mono ?_; rintro e w10 ⟨rfl, hb10⟩; have HV10 := hide ((unhide HV9).trans (hb10.mono hs9)); have HoL10 := hide (own_below (unhide HoL9) hb10); have hs10 := (unhide HV10).size; clear hb10)
    | (go_at_call 22; refine ((unhide Krph) A n c w.heap.size h _ (Nat.le_trans (Nat.le_of_lt hH0) hs10) ((unhide HrH).below ((unhide HV10).mono (Nat.le_of_lt hH0))) hn4 (unhide Hf) hph).mono ?_; rintro e w11 ⟨rfl, hb11⟩; have HV11 := hide ((unhide HV10).trans (hb11.mono hs10)); have HoL11 := hide (own_below (unhide HoL10) hb11); have hs11 := (unhide HV11).size; clear hb11))
  clear x0 x1 x2 x3 y0 y1 y2 y3 z1 vx0 vx1 vx2 vx3 vy0 vy1 vy2 vy3
  go_wp2_with fail
  go_loopg [18] (El.loads h.segs).length (fun gk i wr => ∃ (k : Nat) (xs : List Value), gk = (El.loads h.segs).length - k ∧ k ≤ (El.loads h.segs).length ∧ i = .int .i64 k ∧ wr.ownsRow V.heap.size 37 6 (.slice AL (El.loads h.segs).length cL) (El.loads h.segs).length xs ∧ Below V.heap.size V wr)
  case atStart => exact ⟨0, _, by omega, Nat.zero_le _, rfl, unhide HoL11, unhide HV11⟩
  case round =>
  obtain ⟨k, xs, hgk, hk, rfl, hown, hVr⟩ := hrel
  have hsr := hVr.size
  have Hgk := hide hgk
  have Hown := hide hown
  have HVr := hide hVr
  clear hgk hown hVr
  rcases Nat.lt_or_ge k (El.loads h.segs).length with hlt | hge
  case inl =>
    obtain ⟨g, rfl, hg1, hg2⟩ := own_some (unhide Hown) (by omega)
    obtain ⟨u0, e0⟩ := own_cellS (unhide Hown) (i := k * 6) (by omega)
    obtain ⟨u1, e1⟩ := own_cellS (unhide Hown) (i := k * 6 + 1) (by omega)
    obtain ⟨u2, e2⟩ := own_cellS (unhide Hown) (i := k * 6 + 2) (by omega)
    obtain ⟨u3, e3⟩ := own_cellS (unhide Hown) (i := k * 6 + 3) (by omega)
    obtain ⟨u4, e4⟩ := own_cellS (unhide Hown) (i := k * 6 + 4) (by omega)
    obtain ⟨u5, e5⟩ := own_cellS (unhide Hown) (i := k * 6 + 5) (by omega)
    have f0 := own_freeS (unhide Hown) (k * 6)
    have f1 := own_freeS (unhide Hown) (k * 6 + 1)
    have f2 := own_freeS (unhide Hown) (k * 6 + 2)
    have f3 := own_freeS (unhide Hown) (k * 6 + 3)
    have f4 := own_freeS (unhide Hown) (k * 6 + 4)
    have f5 := own_freeS (unhide Hown) (k * 6 + 5)
    go_wp2
    go_roundg ((El.loads h.segs).length - (k + 1))
    case measure => have := unhide Hgk; omega
    case rel => exact ⟨k + 1, _, rfl, by omega, by go_num, own_setS (own_setS (own_setS (own_setS (own_setS (own_setS (unhide Hown) _) _) _) _) _) _, (((((((unhide HVr).setCell hg1 _).setCell hg1 _).setCell hg1 _).setCell hg1 _).setCell hg1 _).setCell hg1 _)⟩
  obtain ⟨x0, x1, x2, x3⟩ := box_facts (((unhide HVr).block _ hH0).trans (unhide HX))
  obtain ⟨y0, y1, y2, y3⟩ := box_facts (((unhide HVr).block _ hH1).trans (unhide HY))
  go_wp2_with fail
  refine ((unhide Ksame) Ag A n cg c V.heap.size h.segs h.type h.entry h.phoff _ (by omega) (((unhide HrG).below ((unhide HVr).mono (Nat.le_of_lt hH1))).more (Nat.le_of_lt hH1)) (((unhide HrH).below ((unhide HVr).mono (Nat.le_of_lt hH0))).more (Nat.le_of_lt hH0)) hn4).mono ?_
  rintro e w12 ⟨rfl, hb12⟩
  have HV12 := hide ((unhide HVr).trans (hb12.mono hsr))
  have hs12 := (unhide HV12).size
  clear hb12 x0 x1 x2 x3 y0 y1 y2 y3
  go_wp2_with fail
  refine ((unhide Kkept) gi Ab m cb V.heap.size b _ ((unhide HrI).below (unhide HV12)) (((unhide HrB).below ((unhide HV12).mono (by omega))).more (by omega)) (by omega)).mono ?_
  rintro e w13 ⟨rfl, j, rfl⟩
  go_wp2_with fail
  refine ((unhide W) _).mono ?_
  rintro e w14 ⟨rfl, hb14⟩
  go_wp2_with fail
  go_ret
  exact ⟨rfl, ((unhide HW0).trans ((below_drewN' (unhide HV12) j).mono hsV0)).trans (hb14.mono (by show w.heap.size ≤ w12.heap.size; omega))⟩

/-- ElfTells, of any head and any bytes. -/
theorem elfTells_walk (Ab A : Option Addr) (m cb n c : Nat) (h : El.Hd) (b : List UInt8) (w : World) (hb : Rd w w.heap.size 1 Ab m (bys b)) (hl : Rd w w.heap.size 6 A n (segCells h.segs)) (hm : m ≤ maxLen) (hmc : m ≤ cb) (hn : n ≤ maxLen) (hf : ∀ x ∈ h.segs, SgFit x) (hen : h.entry < 18446744073709551616) (hph : h.phoff < 18446744073709551616) :
    Calls Try.prog 6 #[.agg #[.int .u16 h.type, .int .u64 h.entry, .int .u64 h.phoff, .slice A n c], .slice Ab m cb] w fun e w' => e = .returned (.bool true) ∧ Below w.heap.size w w' := by
  by_cases ho : 262144 < m ∨ 4096 < n
  · exact tells_out Ab A m cb n c _ _ _ w hm hn ho
  · exact tells_in Ab A m cb n c h b w hb hl (by omega) hmc (by omega) hf hen hph

end Go.Proofs.Ytkonolmakpeocaa
