/- The walk of elf.whole: all segments together, or giving up. Conditions: the numbers fit their kinds; there are fewer than 2^32 headers. Printed by wip/gen_elf5.py. -/
import Derived.Test.YtkonolmakpeocaaElf4
import Derived.Maps.OwnOps
import Derived.Maps.OwnSet
namespace Go.Proofs.Ytkonolmakpeocaa
set_option linter.unusedVariables false
set_option linter.unusedSimpArgs false
open Go.RowKit Go.Maps

/-- The map counts the kinds of these headers. -/
def CM (D : DataW Unit) (l : List El.Sg) : Prop := IsMap D ∧ ∀ q : Nat, D.atKey (.int .u32 q) (.lit (.int .i64 0)) = .lit (.int .i64 (El.countK l q))
theorem CM.nil : CM (.map []) [] := ⟨isMap_empty, fun q => rfl⟩
theorem CM.step {D : DataW Unit} {l : List El.Sg} (h : CM D l) (s : El.Sg) : CM (D.put (.int .u32 s.kind) (.lit (.int .i64 ((El.countK l s.kind : Nat) + 1)))) (l ++ [s]) := by
  refine ⟨h.1.put _ _, fun q => ?_⟩
  by_cases e : q = s.kind
  · subst e
    rw [atKey_put_same h.1 (by simp [WideAt.IsKeyLit])]
    simp [El.countK]
  · rw [atKey_put_other (by simp only [ne_eq, Lit.int.injEq, true_and]; omega), h.2 q]
    have e2 : (s.kind == q) = false := by simp; exact fun h => e h.symm
    simp [El.countK, List.filter_append, List.filter_cons, e2]
theorem CM.read {D : DataW Unit} {l : List El.Sg} (h : CM D l) {q : Nat} {c : Int} (hat : D.atKey (.int .u32 q) (.lit (.int .i64 0)) = .lit (.int .i64 c)) : c = (El.countK l q : Nat) := by
  rw [h.2 q] at hat
  injection hat with h1
  injection h1 with _ h2
  exact h2.symm
theorem count_le (l : List El.Sg) (q : Nat) : El.countK l q ≤ l.length := List.length_filter_le _ _

theorem law_u32 : Keyed Try.prog 35 := int_keyed Try.underlying35
theorem zero_int (w : World) : (zeroValue 3).run Try.prog w = .ok (.int .i64 0) w := by kernel_rfl
theorem wf_u32 {n : Nat} (h : n < 4294967296) : (Lit.int .u32 (n : Int)).wf = true := WalkArith.wf_u32 (by omega)
theorem wf_i64 {n : Int} (h0 : 0 ≤ n) (h : n ≤ 4294967297) : (Lit.int .i64 n).wf = true := WalkArith.wf_i64 (by omega)
theorem and_one_u8 (n : Nat) (h : n < 256) : bits .and .u8 (n : Int) 1 = ((n % 2 : Nat) : Int) := by
  have e : (1 : Int) = ((1 : Nat) : Int) := rfl
  rw [e, u8_and_nat n 1 h (by omega), nat_mask1]

theorem whole_facts {w wr w1 : World} {A : Option Addr} {n c : Nat} {ty en ph : Int} {S : Obj} (hg : (wr.alloc S).grownBy w1 (some (w.heap.size + 1)))
    (hb : wr.heap[w.heap.size]? = some (.cells #[.int .u16 ty, .int .u64 en, .int .u64 ph, .slice A n c] 28)) (hsz : w.heap.size + 1 < wr.heap.size) :
    w1.heap[w.heap.size]? = some (.cells #[.int .u16 ty, .int .u64 en, .int .u64 ph, .slice A n c] 28) ∧ w1.heap[wr.heap.size]? = some S ∧ w.heap.size < w1.heap.size ∧ wr.heap.size < w1.heap.size ∧ w.heap.size + 1 < w1.heap.size := by
  have hs := hg.size
  simp only [World.size_alloc] at hs
  refine ⟨?_, ?_, by omega, by omega, by omega⟩
  · exact (hg.block w.heap.size (by simp; omega) (by simp)).trans ((Below.heap_alloc _ _ _ (by omega)).trans hb)
  · exact (hg.block wr.heap.size (by simp) (by simp; omega)).trans (heap_alloc_new _ _)
theorem box_facts {w : World} {g : Nat} {a b c d : Value} {t : TypeId} (h : w.heap[g]? = some (.cells #[a, b, c, d] t)) : w.cell? ⟨g, 0, none⟩ = some a ∧ w.cell? ⟨g, 1, none⟩ = some b ∧ w.cell? ⟨g, 2, none⟩ = some c ∧ w.cell? ⟨g, 3, none⟩ = some d :=
  ⟨cell_of_row _ _ 0 _ _ _ h, cell_of_row _ _ 1 _ _ _ h, cell_of_row _ _ 2 _ _ _ h, cell_of_row _ _ 3 _ _ _ h⟩
theorem sbox_facts {w : World} {g : Nat} {a b c d e f : Value} {t : TypeId} (h : w.heap[g]? = some (.cells #[a, b, c, d, e, f] t)) : w.cell? ⟨g, 0, none⟩ = some a ∧ w.cell? ⟨g, 1, none⟩ = some b ∧ w.cell? ⟨g, 2, none⟩ = some c ∧ w.cell? ⟨g, 3, none⟩ = some d ∧ w.cell? ⟨g, 4, none⟩ = some e ∧ w.cell? ⟨g, 5, none⟩ = some f :=
  ⟨cell_of_row _ _ 0 _ _ _ h, cell_of_row _ _ 1 _ _ _ h, cell_of_row _ _ 2 _ _ _ h, cell_of_row _ _ 3 _ _ _ h, cell_of_row _ _ 4 _ _ _ h, cell_of_row _ _ 5 _ _ _ h⟩
theorem whole_below {w wr w1 : World} {S : Obj} (hb : Below w.heap.size w wr) (hg : (wr.alloc S).grownBy w1 (some (w.heap.size + 1))) : Below w.heap.size w w1 :=
  (hb.alloc hb.size _).grown hg (by have := hb.size; simp; omega) (fun k hk => by injection hk with hk; omega)
theorem own_map_below {P : Program} {k : TypeId} {R : Value → Option (DataW Unit × List MemPlace)} {b n : Nat} {D : DataW Unit} {w w' : World} (h : w.ownsMap P k R b n D) (hb : Below w.heap.size w w') : w'.ownsMap P k R b n D :=
  h.kept (row := none) ⟨hb.os, hb.tape, hb.output, hb.size, fun i hi _ => hb.block i hi⟩ (by simp)
/-- One of two ends, as a Bool decides; plain, so that the walk does not part on it. -/
def Or3 (c : Bool) (a b : Ending) : Ending := if c then a else b
theorem cnt_pos {c : Int} {n : Nat} (e : c = (n : Nat)) : decide (0 < n) = decide ((0 : Int) < c) := by rw [e, decide_eq_decide]; omega
theorem cnt_lt {c : Int} {n : Nat} (e : c = (n : Nat)) : decide (n < 2) = decide (c < 2) := by rw [e, decide_eq_decide]; omega
theorem map_made2 (w : World) (o : Obj) : ((w.alloc o).alloc (.map #[] 0)).ownsMap Try.prog 35 (plainElem (H := Unit) Try.prog 3) (w.heap.size + 1) 0 (.map []) := by
  have := World.ownsMap_made (w.alloc o) Try.prog 35 (plainElem (H := Unit) Try.prog 3)
  simpa using this
theorem whole_no {h : El.Hd} {s : El.Sg} (hs : s ∈ h.segs) (hn : El.segWhole h s = false) : El.wholeOk h = false := by
  unfold El.wholeOk
  rw [show h.segs.all (El.segWhole h) = false from by
    rw [Bool.eq_false_iff]
    intro ha
    have := List.all_eq_true.1 ha s hs
    rw [hn] at this
    cases this]
  rfl

set_option maxRecDepth 100000 in
set_option maxHeartbeats 8000000 in
theorem whole_any (A : Option Addr) (n c B : Nat) (h : El.Hd) (w : World) (hB : B ≤ w.heap.size) (hl : Rd w B 6 A n (segCells h.segs)) (hn : n ≤ 4294967296) (hf : ∀ x ∈ h.segs, SgFit x) (hty : h.type < 65536) (hen : h.entry < 18446744073709551616) :
    Calls Try.prog 32 #[.agg #[.int .u16 h.type, .int .u64 h.entry, .int .u64 h.phoff, .slice A n c]] w fun e w' =>
      e = Or3 (El.wholeOk h) (.returned (.tuple #[])) (wrongs 25) ∧ Below w.heap.size w w' := by
  have hln : h.segs.length = n := by have := hl.1; rw [segCells_len] at this; omega
  have hmm := @run_makeMap Try.prog
  have hfil := fun (s : El.Sg) (hs : SgFit s) (w' : World) (hb : Below w.heap.size w w') => filled_any A n c B h s w' (Nat.le_trans hB hb.size) (hl.below (hb.mono hB)) hn hf hs
  have Hl := hide hl
  have Hf := hide hf
  have Hfil := hide hfil
  have Hln := hide hln
  clear hl hf hfil hln
  have e0 : El.enters h = ((h.type == 3 && h.entry == 0) || h.segs.any (El.entersBy h)) := rfl
  have E0 := hide e0
  clear e0
  generalize hee : (h.type == 3 && h.entry == 0) = ee at *
  have Hee := hide hee
  have t1 : (((h.type : Nat) : Int) == 3) = (h.type == 3) := by rw [Bool.eq_iff_iff, beq_iff_eq, beq_iff_eq]; omega
  have t2 : (((h.entry : Nat) : Int) == 0) = (h.entry == 0) := by rw [Bool.eq_iff_iff, beq_iff_eq, beq_iff_eq]; omega
  have cases3 : ((((h.type : Nat) : Int) == 3) = true ∧ (((h.entry : Nat) : Int) == 0) = ee) ∨ ((((h.type : Nat) : Int) == 3) = false ∧ ee = false) := by
    rw [t1, t2, ← hee]
    cases h.type == 3
    · exact .inr ⟨rfl, rfl⟩
    · exact .inl ⟨rfl, by simp⟩
  clear t1 t2 hee
  rcases cases3 with ⟨t1, t2⟩ | ⟨t1, rfl⟩
  · go_enter Try.func32, Try.ntmps32
    go_wp2
    go_loopw [3, 18] (fun e3 i wr => ∃ (k : Nat) (D : DataW Unit), k ≤ n ∧ i = .int .i64 k ∧ e3 = .bool (ee || (h.segs.take k).any (El.entersBy h)) ∧ (h.segs.take k).all (El.segWhole h) = true ∧ CM D (h.segs.take k) ∧ wr.ownsMap Try.prog 35 (plainElem Try.prog 3) (w.heap.size + 1) k D ∧ Below w.heap.size w wr ∧ wr.heap[w.heap.size]? = some (.cells #[.int .u16 h.type, .int .u64 h.entry, .int .u64 h.phoff, .slice A n c] 28) ∧ w.heap.size + 1 < wr.heap.size) (fun _ i _ => n - (intOf i).toNat)
    case atStart => exact ⟨0, .map [], Nat.zero_le _, rfl, by simp, rfl, CM.nil, map_made2 _ _, ((Below.refl _ _).alloc (Nat.le_refl _) _).alloc (by simp) _, (Below.heap_alloc _ _ _ (by simp)).trans (heap_alloc_new _ _), by simp⟩
    case round =>
    obtain ⟨k, D, hk, rfl, rfl, hall, hcm, hown, hb, hbox, hsz⟩ := hrel
    have Hall := hide hall
    have Hcm := hide hcm
    have Hb := hide hb
    have Hbox := hide hbox
    clear hall hcm hbox
    rcases Nat.lt_or_ge k n with hlt | hge
    case inr =>
      obtain rfl : k = n := by omega
      have htk : h.segs.take k = h.segs := List.take_of_length_le (by rw [unhide Hln]; exact Nat.le_refl _)
      rw [htk]
      have hall := unhide Hall
      rw [htk] at hall
      have hcm := unhide Hcm
      rw [htk] at hcm
      have hent : El.enters h = (ee || h.segs.any (El.entersBy h)) := unhide E0
      rw [← hent]
      obtain ⟨c1, r1, a1, _⟩ := hown.lookup_int law_u32 Try.underlying75 Try.underlying3 (zero_int _) (key := .int .u32 1) (kl := .int .u32 ((1 : Nat) : Int)) (keyOf_int_mk Try.underlying35 (by decide))
      have e1 := hcm.read a1
      obtain ⟨c2, r2, a2, _⟩ := hown.lookup_int law_u32 Try.underlying75 Try.underlying3 (zero_int _) (key := .int .u32 2) (kl := .int .u32 ((2 : Nat) : Int)) (keyOf_int_mk Try.underlying35 (by decide))
      have e2 := hcm.read a2
      obtain ⟨c3, r3, a3, _⟩ := hown.lookup_int law_u32 Try.underlying75 Try.underlying3 (zero_int _) (key := .int .u32 3) (kl := .int .u32 ((3 : Nat) : Int)) (keyOf_int_mk Try.underlying35 (by decide))
      have e3 := hcm.read a3
      obtain ⟨c6, r6, a6, _⟩ := hown.lookup_int law_u32 Try.underlying75 Try.underlying3 (zero_int _) (key := .int .u32 6) (kl := .int .u32 ((6 : Nat) : Int)) (keyOf_int_mk Try.underlying35 (by decide))
      have e6 := hcm.read a6
      have hwo : El.wholeOk h = (decide (0 < c1) && decide (c2 < 2) && decide (c3 < 2) && decide (c6 < 2) && El.enters h) := by
        unfold El.wholeOk
        rw [hall, Bool.true_and, cnt_pos e1, cnt_lt e2, cnt_lt e3, cnt_lt e6]
      have Hwo := hide hwo
      clear hwo hent hall hcm a1 a2 a3 a6 e1 e2 e3 e6 hown hge htk
      generalize El.enters h = eb at *
      by_cases d1 : 0 < c1
      case neg =>
        have d1' : decide (0 < c1) = false := by simp; omega
        go_wp2_with (first
          | (go_at_call_of 28 (Value.bool true); refine (must_yes _ _).mono ?_; rintro e w3 ⟨rfl, rfl⟩)
          | (go_at_call_of 28 (Value.bool false); refine (must_no _ _).mono ?_; rintro e w3 ⟨rfl, rfl⟩))
        all_goals exact ⟨rfl, by first | rfl | (rw [unhide Hwo]; simp [Or3, *]), hb⟩
      by_cases d2 : c2 < 2
      case neg =>
        have d2' : decide (c2 < 2) = false := by simp; omega
        go_wp2_with (first
          | (go_at_call_of 28 (Value.bool true); refine (must_yes _ _).mono ?_; rintro e w3 ⟨rfl, rfl⟩)
          | (go_at_call_of 28 (Value.bool false); refine (must_no _ _).mono ?_; rintro e w3 ⟨rfl, rfl⟩))
        all_goals exact ⟨rfl, by first | rfl | (rw [unhide Hwo]; simp [Or3, *]), hb⟩
      by_cases d3 : c3 < 2
      case neg =>
        have d3' : decide (c3 < 2) = false := by simp; omega
        go_wp2_with (first
          | (go_at_call_of 28 (Value.bool true); refine (must_yes _ _).mono ?_; rintro e w3 ⟨rfl, rfl⟩)
          | (go_at_call_of 28 (Value.bool false); refine (must_no _ _).mono ?_; rintro e w3 ⟨rfl, rfl⟩))
        all_goals exact ⟨rfl, by first | rfl | (rw [unhide Hwo]; simp [Or3, *]), hb⟩
      by_cases d6 : c6 < 2
      case neg =>
        have d6' : decide (c6 < 2) = false := by simp; omega
        go_wp2_with (first
          | (go_at_call_of 28 (Value.bool true); refine (must_yes _ _).mono ?_; rintro e w3 ⟨rfl, rfl⟩)
          | (go_at_call_of 28 (Value.bool false); refine (must_no _ _).mono ?_; rintro e w3 ⟨rfl, rfl⟩))
        all_goals exact ⟨rfl, by first | rfl | (rw [unhide Hwo]; simp [Or3, *]), hb⟩
      cases eb
      case false =>
        go_wp2_with (first
          | (go_at_call_of 28 (Value.bool true); refine (must_yes _ _).mono ?_; rintro e w3 ⟨rfl, rfl⟩)
          | (go_at_call_of 28 (Value.bool false); refine (must_no _ _).mono ?_; rintro e w3 ⟨rfl, rfl⟩))
        all_goals exact ⟨rfl, by first | rfl | (rw [unhide Hwo]; simp [Or3, *]), hb⟩
      case true =>
        go_wp2_with (first
          | (go_at_call_of 28 (Value.bool true); refine (must_yes _ _).mono ?_; rintro e w3 ⟨rfl, rfl⟩)
          | (go_at_call_of 28 (Value.bool false); refine (must_no _ _).mono ?_; rintro e w3 ⟨rfl, rfl⟩))
        go_end0
        exact ⟨by first | rfl | (rw [unhide Hwo]; simp [Or3, *]), hb⟩
    obtain ⟨s, hs⟩ : ∃ s, h.segs[k]? = some s := ⟨_, List.getElem?_eq_getElem (by rw [unhide Hln]; exact hlt)⟩
    obtain ⟨b1', o1, rfl, hbb, c0, c1, c2', c3, c4, c5⟩ := seg_at ((unhide Hl).below (hb.mono hB)) hs
    have hfit := (unhide Hf) _ (List.mem_of_getElem? hs)
    have hcl := count_le (h.segs.take k) s.kind
    have hcl2 : (h.segs.take k).length ≤ k := List.length_take_le _ _
    have hcm2 := CM.step (unhide Hcm) s
    have Hcm2 : Hid (CM (D.put (.int .u32 (s.kind : Nat)) (.lit (.int .i64 ((El.countK (h.segs.take k) s.kind : Nat) + 1)))) (h.segs.take (k + 1))) := by rw [List.take_add_one, hs]; exact hide hcm2
    obtain ⟨sk, sfl, so, sa, sf, sm⟩ := s
    have Hfit := hide hfit
    obtain ⟨i1, i2, i3, i4, i5, i6⟩ := hfit
    simp only at i1 i2 i3 i4 i5 i6 c0 c1 c2' c3 c4 c5 hcl
    have hsz1 : w.heap.size + 1 < wr.heap.size := hsz
    have hkey : keyOf Try.prog 35 (.int .u32 ((sk : Nat) : Int)) = some (.int .u32 ((sk : Nat) : Int)) := keyOf_int_mk Try.underlying35 (wf_u32 i1)
    have hwf : (Lit.int .i64 (((El.countK (h.segs.take k) sk : Nat) : Int) + 1)).wf = true := wf_i64 (by omega) (by omega)
    have Hkey := hide hkey
    have Hwf := hide hwf
    have Hs := hide hs
    clear hkey hwf hs hcm2 hb
    by_cases hk1 : sk = 1
    · rcases Bool.eq_false_or_eq_true (ee || (h.segs.take k).any (El.entersBy h)) with heb | heb
      · have heb2 := heb
        have b1 : (((sk : Nat) : Int) == 1) = true := by simp; omega
        have hsw : El.segWhole h ⟨sk, sfl, so, sa, sf, sm⟩ = true := by simp [El.segWhole, hk1]
        have hall2 : (h.segs.take (k + 1)).all (El.segWhole h) = true := by rw [List.take_add_one, unhide Hs, List.all_append, unhide Hall]; simp [hsw]
        have Hall2 := hide hall2
        have hany2 : (ee || (h.segs.take (k + 1)).any (El.entersBy h)) = true := by rw [List.take_add_one, List.any_append, ← Bool.or_assoc, heb]; rfl
        have Hany2 := hide hany2
        clear hall2 hany2 hsw heb2 hk1
        rw [heb]
        clear heb
        go_wp2_with (first
          | (at_lookup; refine wpList_lookup_own_int _ rfl _ _ 75 rfl 35 3 .i64 law_u32 Try.underlying75 Try.underlying3 (zero_int _) (w.heap.size + 1) k _ rfl (hown.alloc _) _ _ rfl (unhide Hkey) ?_; intro c hat hwc; obtain rfl := (unhide Hcm).read hat; clear hat hwc)
          | (at_mapUpdate; refine wpList_mapUpdate_own _ rfl _ _ _ 75 rfl 35 3 law_u32 Try.underlying75 _ (w.heap.size + 1) k _ rfl (hown.alloc _) (by unfold maxLen; omega) _ _ _ rfl rfl (unhide Hkey) _ [] (plainElem_int Try.underlying3 (unhide Hwf)) ?_; intro w1 hown1 hgrow1; have g1 := whole_facts hgrow1 (unhide Hbox) hsz1; obtain ⟨g1a, g1b, g1c⟩ := g1; obtain ⟨q0, q1, q2, q3⟩ := box_facts g1a; obtain ⟨p0, p1, p2, p3, p4, p5⟩ := sbox_facts g1b; have G1a := hide g1a; have Hown1 := hide hown1; have Hbl := hide (whole_below (unhide Hb) hgrow1); clear g1a g1b hown1 hgrow1 hown)
          | (go_at_call_of 28 (Value.bool true); refine (must_yes _ _).mono ?_; rintro e w3 ⟨rfl, rfl⟩)
          | (go_at_call_of 28 (Value.bool false); refine (must_no _ _).mono ?_; rintro e w3 ⟨rfl, rfl⟩))
        go_roundw
        case rel =>
          refine ⟨k + 1, _, by omega, by go_num, by rw [unhide Hany2], unhide Hall2, (unhide Hcm2), unhide Hown1, unhide Hbl, unhide G1a, by omega⟩
        case measure => simp [intOf]; omega
      · have Heb := hide heb
        rw [heb]
        clear heb
        by_cases hfl : sfl % 2 = 1
        · have hfb : bits .and .u8 ((sfl : Nat) : Int) 1 = 1 := by rw [and_one_u8 _ i2, hfl]; rfl
          by_cases hlt2 : El.w64 h.entry sa < sm
          · have hw := w64_eq h.entry sa hen i4
            have b1 : (((sk : Nat) : Int) == 1) = true := by simp; omega
            have hlt3 : (IntKind.u64.wrap (((h.entry : Nat) : Int) - ((sa : Nat) : Int))) < ((sm : Nat) : Int) := by rw [hw]; omega
            have hsw : El.segWhole h ⟨sk, sfl, so, sa, sf, sm⟩ = true := by simp [El.segWhole, hk1]
            have hent : El.entersBy h ⟨sk, sfl, so, sa, sf, sm⟩ = true := by simp [El.entersBy, El.isLoad, hk1, hfl, hlt2]
            have hall2 : (h.segs.take (k + 1)).all (El.segWhole h) = true := by rw [List.take_add_one, unhide Hs, List.all_append, unhide Hall]; simp [hsw]
            have Hall2 := hide hall2
            clear hall2
            have hany2 : (h.segs.take (k + 1)).any (El.entersBy h) = ((h.segs.take k).any (El.entersBy h) || El.entersBy h ⟨sk, sfl, so, sa, sf, sm⟩) := by rw [List.take_add_one, unhide Hs, List.any_append]; simp
            rw [hent] at hany2
            have Hany2 := hide hany2
            clear hany2 hent hsw
            clear hk1 hfl hlt2 hw
            go_wp2_with (first
              | (at_lookup; refine wpList_lookup_own_int _ rfl _ _ 75 rfl 35 3 .i64 law_u32 Try.underlying75 Try.underlying3 (zero_int _) (w.heap.size + 1) k _ rfl (hown.alloc _) _ _ rfl (unhide Hkey) ?_; intro c hat hwc; obtain rfl := (unhide Hcm).read hat; clear hat hwc)
              | (at_mapUpdate; refine wpList_mapUpdate_own _ rfl _ _ _ 75 rfl 35 3 law_u32 Try.underlying75 _ (w.heap.size + 1) k _ rfl (hown.alloc _) (by unfold maxLen; omega) _ _ _ rfl rfl (unhide Hkey) _ [] (plainElem_int Try.underlying3 (unhide Hwf)) ?_; intro w1 hown1 hgrow1; have g1 := whole_facts hgrow1 (unhide Hbox) hsz1; obtain ⟨g1a, g1b, g1c⟩ := g1; obtain ⟨q0, q1, q2, q3⟩ := box_facts g1a; obtain ⟨p0, p1, p2, p3, p4, p5⟩ := sbox_facts g1b; have G1a := hide g1a; have Hown1 := hide hown1; have Hbl := hide (whole_below (unhide Hb) hgrow1); clear g1a g1b hown1 hgrow1 hown)
              | (go_at_call_of 28 (Value.bool true); refine (must_yes _ _).mono ?_; rintro e w3 ⟨rfl, rfl⟩)
              | (go_at_call_of 28 (Value.bool false); refine (must_no _ _).mono ?_; rintro e w3 ⟨rfl, rfl⟩))
            go_roundw
            case rel =>
              refine ⟨k + 1, _, by omega, by go_num, by rw [unhide Hany2]; simp, unhide Hall2, (unhide Hcm2), unhide Hown1, unhide Hbl, unhide G1a, by omega⟩
            case measure => simp [intOf]; omega
          · have hw := w64_eq h.entry sa hen i4
            have b1 : (((sk : Nat) : Int) == 1) = true := by simp; omega
            have hlt3 : decide ((IntKind.u64.wrap (((h.entry : Nat) : Int) - ((sa : Nat) : Int))) < ((sm : Nat) : Int)) = false := by rw [hw]; simp; omega
            have hsw : El.segWhole h ⟨sk, sfl, so, sa, sf, sm⟩ = true := by simp [El.segWhole, hk1]
            have hent : El.entersBy h ⟨sk, sfl, so, sa, sf, sm⟩ = false := by simp [El.entersBy, El.isLoad, hk1, hfl, hlt2]
            have hall2 : (h.segs.take (k + 1)).all (El.segWhole h) = true := by rw [List.take_add_one, unhide Hs, List.all_append, unhide Hall]; simp [hsw]
            have Hall2 := hide hall2
            clear hall2
            have hany2 : (h.segs.take (k + 1)).any (El.entersBy h) = ((h.segs.take k).any (El.entersBy h) || El.entersBy h ⟨sk, sfl, so, sa, sf, sm⟩) := by rw [List.take_add_one, unhide Hs, List.any_append]; simp
            rw [hent] at hany2
            have Hany2 := hide hany2
            clear hany2 hent hsw
            clear hk1 hfl hlt2 hw
            go_wp2_with (first
              | (at_lookup; refine wpList_lookup_own_int _ rfl _ _ 75 rfl 35 3 .i64 law_u32 Try.underlying75 Try.underlying3 (zero_int _) (w.heap.size + 1) k _ rfl (hown.alloc _) _ _ rfl (unhide Hkey) ?_; intro c hat hwc; obtain rfl := (unhide Hcm).read hat; clear hat hwc)
              | (at_mapUpdate; refine wpList_mapUpdate_own _ rfl _ _ _ 75 rfl 35 3 law_u32 Try.underlying75 _ (w.heap.size + 1) k _ rfl (hown.alloc _) (by unfold maxLen; omega) _ _ _ rfl rfl (unhide Hkey) _ [] (plainElem_int Try.underlying3 (unhide Hwf)) ?_; intro w1 hown1 hgrow1; have g1 := whole_facts hgrow1 (unhide Hbox) hsz1; obtain ⟨g1a, g1b, g1c⟩ := g1; obtain ⟨q0, q1, q2, q3⟩ := box_facts g1a; obtain ⟨p0, p1, p2, p3, p4, p5⟩ := sbox_facts g1b; have G1a := hide g1a; have Hown1 := hide hown1; have Hbl := hide (whole_below (unhide Hb) hgrow1); clear g1a g1b hown1 hgrow1 hown)
              | (go_at_call_of 28 (Value.bool true); refine (must_yes _ _).mono ?_; rintro e w3 ⟨rfl, rfl⟩)
              | (go_at_call_of 28 (Value.bool false); refine (must_no _ _).mono ?_; rintro e w3 ⟨rfl, rfl⟩))
            go_roundw
            case rel =>
              refine ⟨k + 1, _, by omega, by go_num, by rw [unhide Hany2, Bool.or_false, unhide Heb], unhide Hall2, (unhide Hcm2), unhide Hown1, unhide Hbl, unhide G1a, by omega⟩
            case measure => simp [intOf]; omega
        · have hfl0 : sfl % 2 = 0 := by omega
          have hfb : bits .and .u8 ((sfl : Nat) : Int) 1 = 0 := by rw [and_one_u8 _ i2, hfl0]; rfl
          have b1 : (((sk : Nat) : Int) == 1) = true := by simp; omega
          have hsw : El.segWhole h ⟨sk, sfl, so, sa, sf, sm⟩ = true := by simp [El.segWhole, hk1]
          have hent : El.entersBy h ⟨sk, sfl, so, sa, sf, sm⟩ = false := by simp [El.entersBy, El.isLoad, hk1, hfl0]
          have hall2 : (h.segs.take (k + 1)).all (El.segWhole h) = true := by rw [List.take_add_one, unhide Hs, List.all_append, unhide Hall]; simp [hsw]
          have Hall2 := hide hall2
          clear hall2
          have hany2 : (h.segs.take (k + 1)).any (El.entersBy h) = ((h.segs.take k).any (El.entersBy h) || El.entersBy h ⟨sk, sfl, so, sa, sf, sm⟩) := by rw [List.take_add_one, unhide Hs, List.any_append]; simp
          rw [hent] at hany2
          have Hany2 := hide hany2
          clear hany2 hent hsw
          clear hk1 hfl hfl0
          go_wp2_with (first
            | (at_lookup; refine wpList_lookup_own_int _ rfl _ _ 75 rfl 35 3 .i64 law_u32 Try.underlying75 Try.underlying3 (zero_int _) (w.heap.size + 1) k _ rfl (hown.alloc _) _ _ rfl (unhide Hkey) ?_; intro c hat hwc; obtain rfl := (unhide Hcm).read hat; clear hat hwc)
            | (at_mapUpdate; refine wpList_mapUpdate_own _ rfl _ _ _ 75 rfl 35 3 law_u32 Try.underlying75 _ (w.heap.size + 1) k _ rfl (hown.alloc _) (by unfold maxLen; omega) _ _ _ rfl rfl (unhide Hkey) _ [] (plainElem_int Try.underlying3 (unhide Hwf)) ?_; intro w1 hown1 hgrow1; have g1 := whole_facts hgrow1 (unhide Hbox) hsz1; obtain ⟨g1a, g1b, g1c⟩ := g1; obtain ⟨q0, q1, q2, q3⟩ := box_facts g1a; obtain ⟨p0, p1, p2, p3, p4, p5⟩ := sbox_facts g1b; have G1a := hide g1a; have Hown1 := hide hown1; have Hbl := hide (whole_below (unhide Hb) hgrow1); clear g1a g1b hown1 hgrow1 hown)
            | (go_at_call_of 28 (Value.bool true); refine (must_yes _ _).mono ?_; rintro e w3 ⟨rfl, rfl⟩)
            | (go_at_call_of 28 (Value.bool false); refine (must_no _ _).mono ?_; rintro e w3 ⟨rfl, rfl⟩))
          go_roundw
          case rel =>
            refine ⟨k + 1, _, by omega, by go_num, by rw [unhide Hany2, Bool.or_false, unhide Heb], unhide Hall2, (unhide Hcm2), unhide Hown1, unhide Hbl, unhide G1a, by omega⟩
          case measure => simp [intOf]; omega
    · have Hk1 := hide hk1
      generalize heb : (ee || (h.segs.take k).any (El.entersBy h)) = eb at *
      have Heb := hide heb
      clear heb
      by_cases hk2 : sk = 2
      · by_cases hfd : El.filled h ⟨sk, sfl, so, sa, sf, sm⟩ = true
        · have Hfd := hide hfd
          have b1 : (((sk : Nat) : Int) == 1) = false := by simp; omega
          have b2 : (((sk : Nat) : Int) == 2) = true := by simp; omega
          have hsw : El.segWhole h ⟨sk, sfl, so, sa, sf, sm⟩ = true := by subst hk2; simp [El.segWhole, hfd]
          have hent : El.entersBy h ⟨sk, sfl, so, sa, sf, sm⟩ = false := by simp [El.entersBy, El.isLoad, hk1]
          have hall2 : (h.segs.take (k + 1)).all (El.segWhole h) = true := by rw [List.take_add_one, unhide Hs, List.all_append, unhide Hall]; simp [hsw]
          have Hall2 := hide hall2
          clear hall2
          have hany2 : (h.segs.take (k + 1)).any (El.entersBy h) = ((h.segs.take k).any (El.entersBy h) || El.entersBy h ⟨sk, sfl, so, sa, sf, sm⟩) := by rw [List.take_add_one, unhide Hs, List.any_append]; simp
          rw [hent] at hany2
          have Hany2 := hide hany2
          clear hany2 hent hsw
          clear hk1 hk2 hfd
          go_wp2_with (first
            | (at_lookup; refine wpList_lookup_own_int _ rfl _ _ 75 rfl 35 3 .i64 law_u32 Try.underlying75 Try.underlying3 (zero_int _) (w.heap.size + 1) k _ rfl (hown.alloc _) _ _ rfl (unhide Hkey) ?_; intro c hat hwc; obtain rfl := (unhide Hcm).read hat; clear hat hwc)
            | (at_mapUpdate; refine wpList_mapUpdate_own _ rfl _ _ _ 75 rfl 35 3 law_u32 Try.underlying75 _ (w.heap.size + 1) k _ rfl (hown.alloc _) (by unfold maxLen; omega) _ _ _ rfl rfl (unhide Hkey) _ [] (plainElem_int Try.underlying3 (unhide Hwf)) ?_; intro w1 hown1 hgrow1; have g1 := whole_facts hgrow1 (unhide Hbox) hsz1; obtain ⟨g1a, g1b, g1c⟩ := g1; obtain ⟨q0, q1, q2, q3⟩ := box_facts g1a; obtain ⟨p0, p1, p2, p3, p4, p5⟩ := sbox_facts g1b; have G1a := hide g1a; have Hown1 := hide hown1; have Hbl := hide (whole_below (unhide Hb) hgrow1); clear g1a g1b hown1 hgrow1 hown)
            | (go_at_call_of 28 (Value.bool true); refine (must_yes _ _).mono ?_; rintro e w3 ⟨rfl, rfl⟩)
            | (go_at_call_of 28 (Value.bool false); refine (must_no _ _).mono ?_; rintro e w3 ⟨rfl, rfl⟩)
            | (go_at_call 47; refine ((unhide Hfil) ⟨sk, sfl, so, sa, sf, sm⟩ (unhide Hfit) _ (unhide Hbl)).mono ?_; rintro e w2 ⟨rfl, hb2⟩; rw [unhide Hfd]; have Hb2 := hide hb2; have hq := (hb2.block _ g1c.1).trans (unhide G1a); have HQ := hide hq; have hz2 := hb2.size; clear hb2 hq))
          go_roundw
          case rel =>
            refine ⟨k + 1, _, by omega, by go_num, by rw [unhide Hany2, Bool.or_false, unhide Heb], unhide Hall2, (unhide Hcm2), own_map_below (unhide Hown1) (unhide Hb2), (unhide Hbl).trans ((unhide Hb2).mono (unhide Hbl).size), unhide HQ, by omega⟩
          case measure => simp [intOf]; omega
        · rw [Bool.not_eq_true] at hfd
          have Hfd := hide hfd
          have b1 : (((sk : Nat) : Int) == 1) = false := by simp; omega
          have b2 : (((sk : Nat) : Int) == 2) = true := by simp; omega
          have hbad : El.wholeOk h = false := whole_no (List.mem_of_getElem? (unhide Hs)) (by subst hk2; simp [El.segWhole, hfd])
          have Hbad := hide hbad
          clear hbad
          clear hk1 hk2 hfd
          go_wp2_with (first
            | (at_lookup; refine wpList_lookup_own_int _ rfl _ _ 75 rfl 35 3 .i64 law_u32 Try.underlying75 Try.underlying3 (zero_int _) (w.heap.size + 1) k _ rfl (hown.alloc _) _ _ rfl (unhide Hkey) ?_; intro c hat hwc; obtain rfl := (unhide Hcm).read hat; clear hat hwc)
            | (at_mapUpdate; refine wpList_mapUpdate_own _ rfl _ _ _ 75 rfl 35 3 law_u32 Try.underlying75 _ (w.heap.size + 1) k _ rfl (hown.alloc _) (by unfold maxLen; omega) _ _ _ rfl rfl (unhide Hkey) _ [] (plainElem_int Try.underlying3 (unhide Hwf)) ?_; intro w1 hown1 hgrow1; have g1 := whole_facts hgrow1 (unhide Hbox) hsz1; obtain ⟨g1a, g1b, g1c⟩ := g1; obtain ⟨q0, q1, q2, q3⟩ := box_facts g1a; obtain ⟨p0, p1, p2, p3, p4, p5⟩ := sbox_facts g1b; have G1a := hide g1a; have Hown1 := hide hown1; have Hbl := hide (whole_below (unhide Hb) hgrow1); clear g1a g1b hown1 hgrow1 hown)
            | (go_at_call_of 28 (Value.bool true); refine (must_yes _ _).mono ?_; rintro e w3 ⟨rfl, rfl⟩)
            | (go_at_call_of 28 (Value.bool false); refine (must_no _ _).mono ?_; rintro e w3 ⟨rfl, rfl⟩)
            | (go_at_call 47; refine ((unhide Hfil) ⟨sk, sfl, so, sa, sf, sm⟩ (unhide Hfit) _ (unhide Hbl)).mono ?_; rintro e w2 ⟨rfl, hb2⟩; rw [unhide Hfd]; have Hb2 := hide hb2; have hq := (hb2.block _ g1c.1).trans (unhide G1a); have HQ := hide hq; have hz2 := hb2.size; clear hb2 hq))
          exact ⟨rfl, by rw [unhide Hbad]; rfl, (unhide Hbl).trans ((unhide Hb2).mono (unhide Hbl).size)⟩
      by_cases hk6 : sk = 6
      · by_cases hfd : El.filled h ⟨sk, sfl, so, sa, sf, sm⟩ = true
        · have Hfd := hide hfd
          have b1 : (((sk : Nat) : Int) == 1) = false := by simp; omega
          have b2 : (((sk : Nat) : Int) == 2) = false := by simp; omega
          have b6 : (((sk : Nat) : Int) == 6) = true := by simp; omega
          have hsw : El.segWhole h ⟨sk, sfl, so, sa, sf, sm⟩ = true := by subst hk6; simp [El.segWhole, hfd]
          have hent : El.entersBy h ⟨sk, sfl, so, sa, sf, sm⟩ = false := by simp [El.entersBy, El.isLoad, hk1]
          have hall2 : (h.segs.take (k + 1)).all (El.segWhole h) = true := by rw [List.take_add_one, unhide Hs, List.all_append, unhide Hall]; simp [hsw]
          have Hall2 := hide hall2
          clear hall2
          have hany2 : (h.segs.take (k + 1)).any (El.entersBy h) = ((h.segs.take k).any (El.entersBy h) || El.entersBy h ⟨sk, sfl, so, sa, sf, sm⟩) := by rw [List.take_add_one, unhide Hs, List.any_append]; simp
          rw [hent] at hany2
          have Hany2 := hide hany2
          clear hany2 hent hsw
          clear hk1 hk6 hfd hk2
          go_wp2_with (first
            | (at_lookup; refine wpList_lookup_own_int _ rfl _ _ 75 rfl 35 3 .i64 law_u32 Try.underlying75 Try.underlying3 (zero_int _) (w.heap.size + 1) k _ rfl (hown.alloc _) _ _ rfl (unhide Hkey) ?_; intro c hat hwc; obtain rfl := (unhide Hcm).read hat; clear hat hwc)
            | (at_mapUpdate; refine wpList_mapUpdate_own _ rfl _ _ _ 75 rfl 35 3 law_u32 Try.underlying75 _ (w.heap.size + 1) k _ rfl (hown.alloc _) (by unfold maxLen; omega) _ _ _ rfl rfl (unhide Hkey) _ [] (plainElem_int Try.underlying3 (unhide Hwf)) ?_; intro w1 hown1 hgrow1; have g1 := whole_facts hgrow1 (unhide Hbox) hsz1; obtain ⟨g1a, g1b, g1c⟩ := g1; obtain ⟨q0, q1, q2, q3⟩ := box_facts g1a; obtain ⟨p0, p1, p2, p3, p4, p5⟩ := sbox_facts g1b; have G1a := hide g1a; have Hown1 := hide hown1; have Hbl := hide (whole_below (unhide Hb) hgrow1); clear g1a g1b hown1 hgrow1 hown)
            | (go_at_call_of 28 (Value.bool true); refine (must_yes _ _).mono ?_; rintro e w3 ⟨rfl, rfl⟩)
            | (go_at_call_of 28 (Value.bool false); refine (must_no _ _).mono ?_; rintro e w3 ⟨rfl, rfl⟩)
            | (go_at_call 47; refine ((unhide Hfil) ⟨sk, sfl, so, sa, sf, sm⟩ (unhide Hfit) _ (unhide Hbl)).mono ?_; rintro e w2 ⟨rfl, hb2⟩; rw [unhide Hfd]; have Hb2 := hide hb2; have hq := (hb2.block _ g1c.1).trans (unhide G1a); have HQ := hide hq; have hz2 := hb2.size; clear hb2 hq))
          go_roundw
          case rel =>
            refine ⟨k + 1, _, by omega, by go_num, by rw [unhide Hany2, Bool.or_false, unhide Heb], unhide Hall2, (unhide Hcm2), own_map_below (unhide Hown1) (unhide Hb2), (unhide Hbl).trans ((unhide Hb2).mono (unhide Hbl).size), unhide HQ, by omega⟩
          case measure => simp [intOf]; omega
        · rw [Bool.not_eq_true] at hfd
          have Hfd := hide hfd
          have b1 : (((sk : Nat) : Int) == 1) = false := by simp; omega
          have b2 : (((sk : Nat) : Int) == 2) = false := by simp; omega
          have b6 : (((sk : Nat) : Int) == 6) = true := by simp; omega
          have hbad : El.wholeOk h = false := whole_no (List.mem_of_getElem? (unhide Hs)) (by subst hk6; simp [El.segWhole, hfd])
          have Hbad := hide hbad
          clear hbad
          clear hk1 hk6 hfd hk2
          go_wp2_with (first
            | (at_lookup; refine wpList_lookup_own_int _ rfl _ _ 75 rfl 35 3 .i64 law_u32 Try.underlying75 Try.underlying3 (zero_int _) (w.heap.size + 1) k _ rfl (hown.alloc _) _ _ rfl (unhide Hkey) ?_; intro c hat hwc; obtain rfl := (unhide Hcm).read hat; clear hat hwc)
            | (at_mapUpdate; refine wpList_mapUpdate_own _ rfl _ _ _ 75 rfl 35 3 law_u32 Try.underlying75 _ (w.heap.size + 1) k _ rfl (hown.alloc _) (by unfold maxLen; omega) _ _ _ rfl rfl (unhide Hkey) _ [] (plainElem_int Try.underlying3 (unhide Hwf)) ?_; intro w1 hown1 hgrow1; have g1 := whole_facts hgrow1 (unhide Hbox) hsz1; obtain ⟨g1a, g1b, g1c⟩ := g1; obtain ⟨q0, q1, q2, q3⟩ := box_facts g1a; obtain ⟨p0, p1, p2, p3, p4, p5⟩ := sbox_facts g1b; have G1a := hide g1a; have Hown1 := hide hown1; have Hbl := hide (whole_below (unhide Hb) hgrow1); clear g1a g1b hown1 hgrow1 hown)
            | (go_at_call_of 28 (Value.bool true); refine (must_yes _ _).mono ?_; rintro e w3 ⟨rfl, rfl⟩)
            | (go_at_call_of 28 (Value.bool false); refine (must_no _ _).mono ?_; rintro e w3 ⟨rfl, rfl⟩)
            | (go_at_call 47; refine ((unhide Hfil) ⟨sk, sfl, so, sa, sf, sm⟩ (unhide Hfit) _ (unhide Hbl)).mono ?_; rintro e w2 ⟨rfl, hb2⟩; rw [unhide Hfd]; have Hb2 := hide hb2; have hq := (hb2.block _ g1c.1).trans (unhide G1a); have HQ := hide hq; have hz2 := hb2.size; clear hb2 hq))
          exact ⟨rfl, by rw [unhide Hbad]; rfl, (unhide Hbl).trans ((unhide Hb2).mono (unhide Hbl).size)⟩
      by_cases hk3 : sk = 3
      · by_cases hf1 : 0 < sf
        · by_cases hf2 : sf ≤ 201
          · have f1 : decide (0 < sf) = true := by simp; omega
            have f2 : decide (((sf : Nat) : Int) ≤ 201) = true := by simp; omega
            clear i3 i4 i6
            have b1 : (((sk : Nat) : Int) == 1) = false := by simp; omega
            have b2 : (((sk : Nat) : Int) == 2) = false := by simp; omega
            have b6 : (((sk : Nat) : Int) == 6) = false := by simp; omega
            have b3 : (((sk : Nat) : Int) == 3) = true := by simp; omega
            have hsw : El.segWhole h ⟨sk, sfl, so, sa, sf, sm⟩ = true := by simp [El.segWhole, hk3, hf1, hf2]
            have hent : El.entersBy h ⟨sk, sfl, so, sa, sf, sm⟩ = false := by simp [El.entersBy, El.isLoad, hk1]
            have hall2 : (h.segs.take (k + 1)).all (El.segWhole h) = true := by rw [List.take_add_one, unhide Hs, List.all_append, unhide Hall]; simp [hsw]
            have Hall2 := hide hall2
            clear hall2
            have hany2 : (h.segs.take (k + 1)).any (El.entersBy h) = ((h.segs.take k).any (El.entersBy h) || El.entersBy h ⟨sk, sfl, so, sa, sf, sm⟩) := by rw [List.take_add_one, unhide Hs, List.any_append]; simp
            rw [hent] at hany2
            have Hany2 := hide hany2
            clear hany2 hent hsw
            clear hk1 hk2 hk6 hk3 hf1 hf2
            go_wp2_with (first
              | (at_lookup; refine wpList_lookup_own_int _ rfl _ _ 75 rfl 35 3 .i64 law_u32 Try.underlying75 Try.underlying3 (zero_int _) (w.heap.size + 1) k _ rfl (hown.alloc _) _ _ rfl (unhide Hkey) ?_; intro c hat hwc; obtain rfl := (unhide Hcm).read hat; clear hat hwc)
              | (at_mapUpdate; refine wpList_mapUpdate_own _ rfl _ _ _ 75 rfl 35 3 law_u32 Try.underlying75 _ (w.heap.size + 1) k _ rfl (hown.alloc _) (by unfold maxLen; omega) _ _ _ rfl rfl (unhide Hkey) _ [] (plainElem_int Try.underlying3 (unhide Hwf)) ?_; intro w1 hown1 hgrow1; have g1 := whole_facts hgrow1 (unhide Hbox) hsz1; obtain ⟨g1a, g1b, g1c⟩ := g1; obtain ⟨q0, q1, q2, q3⟩ := box_facts g1a; obtain ⟨p0, p1, p2, p3, p4, p5⟩ := sbox_facts g1b; have G1a := hide g1a; have Hown1 := hide hown1; have Hbl := hide (whole_below (unhide Hb) hgrow1); clear g1a g1b hown1 hgrow1 hown)
              | (go_at_call_of 28 (Value.bool true); refine (must_yes _ _).mono ?_; rintro e w3 ⟨rfl, rfl⟩)
              | (go_at_call_of 28 (Value.bool false); refine (must_no _ _).mono ?_; rintro e w3 ⟨rfl, rfl⟩))
            go_roundw
            case rel =>
              refine ⟨k + 1, _, by omega, by go_num, by rw [unhide Hany2, Bool.or_false, unhide Heb], unhide Hall2, (unhide Hcm2), unhide Hown1, unhide Hbl, unhide G1a, by omega⟩
            case measure => simp [intOf]; omega
          · have f1 : decide (0 < sf) = true := by simp; omega
            clear i3 i4 i6
            have f2 : decide (((sf : Nat) : Int) ≤ 201) = false := by simp; omega
            have b1 : (((sk : Nat) : Int) == 1) = false := by simp; omega
            have b2 : (((sk : Nat) : Int) == 2) = false := by simp; omega
            have b6 : (((sk : Nat) : Int) == 6) = false := by simp; omega
            have b3 : (((sk : Nat) : Int) == 3) = true := by simp; omega
            have hbad : El.wholeOk h = false := whole_no (List.mem_of_getElem? (unhide Hs)) (by simp [El.segWhole, hk3, hf2])
            have Hbad := hide hbad
            clear hbad
            clear hk1 hk2 hk6 hk3 hf1 hf2
            go_wp2_with (first
              | (at_lookup; refine wpList_lookup_own_int _ rfl _ _ 75 rfl 35 3 .i64 law_u32 Try.underlying75 Try.underlying3 (zero_int _) (w.heap.size + 1) k _ rfl (hown.alloc _) _ _ rfl (unhide Hkey) ?_; intro c hat hwc; obtain rfl := (unhide Hcm).read hat; clear hat hwc)
              | (at_mapUpdate; refine wpList_mapUpdate_own _ rfl _ _ _ 75 rfl 35 3 law_u32 Try.underlying75 _ (w.heap.size + 1) k _ rfl (hown.alloc _) (by unfold maxLen; omega) _ _ _ rfl rfl (unhide Hkey) _ [] (plainElem_int Try.underlying3 (unhide Hwf)) ?_; intro w1 hown1 hgrow1; have g1 := whole_facts hgrow1 (unhide Hbox) hsz1; obtain ⟨g1a, g1b, g1c⟩ := g1; obtain ⟨q0, q1, q2, q3⟩ := box_facts g1a; obtain ⟨p0, p1, p2, p3, p4, p5⟩ := sbox_facts g1b; have G1a := hide g1a; have Hown1 := hide hown1; have Hbl := hide (whole_below (unhide Hb) hgrow1); clear g1a g1b hown1 hgrow1 hown)
              | (go_at_call_of 28 (Value.bool true); refine (must_yes _ _).mono ?_; rintro e w3 ⟨rfl, rfl⟩)
              | (go_at_call_of 28 (Value.bool false); refine (must_no _ _).mono ?_; rintro e w3 ⟨rfl, rfl⟩))
            exact ⟨rfl, by rw [unhide Hbad]; rfl, unhide Hbl⟩
        · have f1 : ¬ (0 : Int) < ((sf : Nat) : Int) := by omega
          have f1' : decide (0 < sf) = false := by simp; omega
          have b1 : (((sk : Nat) : Int) == 1) = false := by simp; omega
          have b2 : (((sk : Nat) : Int) == 2) = false := by simp; omega
          have b6 : (((sk : Nat) : Int) == 6) = false := by simp; omega
          have b3 : (((sk : Nat) : Int) == 3) = true := by simp; omega
          have hbad : El.wholeOk h = false := whole_no (List.mem_of_getElem? (unhide Hs)) (by simp [El.segWhole, hk3, hf1])
          have Hbad := hide hbad
          clear hbad
          clear hk1 hk2 hk6 hk3 hf1
          go_wp2_with (first
            | (at_lookup; refine wpList_lookup_own_int _ rfl _ _ 75 rfl 35 3 .i64 law_u32 Try.underlying75 Try.underlying3 (zero_int _) (w.heap.size + 1) k _ rfl (hown.alloc _) _ _ rfl (unhide Hkey) ?_; intro c hat hwc; obtain rfl := (unhide Hcm).read hat; clear hat hwc)
            | (at_mapUpdate; refine wpList_mapUpdate_own _ rfl _ _ _ 75 rfl 35 3 law_u32 Try.underlying75 _ (w.heap.size + 1) k _ rfl (hown.alloc _) (by unfold maxLen; omega) _ _ _ rfl rfl (unhide Hkey) _ [] (plainElem_int Try.underlying3 (unhide Hwf)) ?_; intro w1 hown1 hgrow1; have g1 := whole_facts hgrow1 (unhide Hbox) hsz1; obtain ⟨g1a, g1b, g1c⟩ := g1; obtain ⟨q0, q1, q2, q3⟩ := box_facts g1a; obtain ⟨p0, p1, p2, p3, p4, p5⟩ := sbox_facts g1b; have G1a := hide g1a; have Hown1 := hide hown1; have Hbl := hide (whole_below (unhide Hb) hgrow1); clear g1a g1b hown1 hgrow1 hown)
            | (go_at_call_of 28 (Value.bool true); refine (must_yes _ _).mono ?_; rintro e w3 ⟨rfl, rfl⟩)
            | (go_at_call_of 28 (Value.bool false); refine (must_no _ _).mono ?_; rintro e w3 ⟨rfl, rfl⟩))
          exact ⟨rfl, by rw [unhide Hbad]; rfl, unhide Hbl⟩
      have b1 : (((sk : Nat) : Int) == 1) = false := by simp; omega
      have b2 : (((sk : Nat) : Int) == 2) = false := by simp; omega
      have b6 : (((sk : Nat) : Int) == 6) = false := by simp; omega
      have b3 : (((sk : Nat) : Int) == 3) = false := by simp; omega
      have hsw : El.segWhole h ⟨sk, sfl, so, sa, sf, sm⟩ = true := by simp [El.segWhole, hk2, hk6, hk3]
      have hent : El.entersBy h ⟨sk, sfl, so, sa, sf, sm⟩ = false := by simp [El.entersBy, El.isLoad, hk1]
      have hall2 : (h.segs.take (k + 1)).all (El.segWhole h) = true := by rw [List.take_add_one, unhide Hs, List.all_append, unhide Hall]; simp [hsw]
      have Hall2 := hide hall2
      clear hall2
      have hany2 : (h.segs.take (k + 1)).any (El.entersBy h) = ((h.segs.take k).any (El.entersBy h) || El.entersBy h ⟨sk, sfl, so, sa, sf, sm⟩) := by rw [List.take_add_one, unhide Hs, List.any_append]; simp
      rw [hent] at hany2
      have Hany2 := hide hany2
      clear hany2 hent hsw
      clear hk1 hk2 hk6 hk3
      go_wp2_with (first
        | (at_lookup; refine wpList_lookup_own_int _ rfl _ _ 75 rfl 35 3 .i64 law_u32 Try.underlying75 Try.underlying3 (zero_int _) (w.heap.size + 1) k _ rfl (hown.alloc _) _ _ rfl (unhide Hkey) ?_; intro c hat hwc; obtain rfl := (unhide Hcm).read hat; clear hat hwc)
        | (at_mapUpdate; refine wpList_mapUpdate_own _ rfl _ _ _ 75 rfl 35 3 law_u32 Try.underlying75 _ (w.heap.size + 1) k _ rfl (hown.alloc _) (by unfold maxLen; omega) _ _ _ rfl rfl (unhide Hkey) _ [] (plainElem_int Try.underlying3 (unhide Hwf)) ?_; intro w1 hown1 hgrow1; have g1 := whole_facts hgrow1 (unhide Hbox) hsz1; obtain ⟨g1a, g1b, g1c⟩ := g1; obtain ⟨q0, q1, q2, q3⟩ := box_facts g1a; obtain ⟨p0, p1, p2, p3, p4, p5⟩ := sbox_facts g1b; have G1a := hide g1a; have Hown1 := hide hown1; have Hbl := hide (whole_below (unhide Hb) hgrow1); clear g1a g1b hown1 hgrow1 hown)
        | (go_at_call_of 28 (Value.bool true); refine (must_yes _ _).mono ?_; rintro e w3 ⟨rfl, rfl⟩)
        | (go_at_call_of 28 (Value.bool false); refine (must_no _ _).mono ?_; rintro e w3 ⟨rfl, rfl⟩))
      go_roundw
      case rel =>
        refine ⟨k + 1, _, by omega, by go_num, by rw [unhide Hany2, Bool.or_false, unhide Heb], unhide Hall2, (unhide Hcm2), unhide Hown1, unhide Hbl, unhide G1a, by omega⟩
      case measure => simp [intOf]; omega
  · go_enter Try.func32, Try.ntmps32
    go_wp2
    go_loopw [3, 18] (fun e3 i wr => ∃ (k : Nat) (D : DataW Unit), k ≤ n ∧ i = .int .i64 k ∧ e3 = .bool (false || (h.segs.take k).any (El.entersBy h)) ∧ (h.segs.take k).all (El.segWhole h) = true ∧ CM D (h.segs.take k) ∧ wr.ownsMap Try.prog 35 (plainElem Try.prog 3) (w.heap.size + 1) k D ∧ Below w.heap.size w wr ∧ wr.heap[w.heap.size]? = some (.cells #[.int .u16 h.type, .int .u64 h.entry, .int .u64 h.phoff, .slice A n c] 28) ∧ w.heap.size + 1 < wr.heap.size) (fun _ i _ => n - (intOf i).toNat)
    case atStart => exact ⟨0, .map [], Nat.zero_le _, rfl, by simp, rfl, CM.nil, map_made2 _ _, ((Below.refl _ _).alloc (Nat.le_refl _) _).alloc (by simp) _, (Below.heap_alloc _ _ _ (by simp)).trans (heap_alloc_new _ _), by simp⟩
    case round =>
    obtain ⟨k, D, hk, rfl, rfl, hall, hcm, hown, hb, hbox, hsz⟩ := hrel
    have Hall := hide hall
    have Hcm := hide hcm
    have Hb := hide hb
    have Hbox := hide hbox
    clear hall hcm hbox
    rcases Nat.lt_or_ge k n with hlt | hge
    case inr =>
      obtain rfl : k = n := by omega
      have htk : h.segs.take k = h.segs := List.take_of_length_le (by rw [unhide Hln]; exact Nat.le_refl _)
      rw [htk]
      have hall := unhide Hall
      rw [htk] at hall
      have hcm := unhide Hcm
      rw [htk] at hcm
      have hent : El.enters h = (false || h.segs.any (El.entersBy h)) := unhide E0
      rw [← hent]
      obtain ⟨c1, r1, a1, _⟩ := hown.lookup_int law_u32 Try.underlying75 Try.underlying3 (zero_int _) (key := .int .u32 1) (kl := .int .u32 ((1 : Nat) : Int)) (keyOf_int_mk Try.underlying35 (by decide))
      have e1 := hcm.read a1
      obtain ⟨c2, r2, a2, _⟩ := hown.lookup_int law_u32 Try.underlying75 Try.underlying3 (zero_int _) (key := .int .u32 2) (kl := .int .u32 ((2 : Nat) : Int)) (keyOf_int_mk Try.underlying35 (by decide))
      have e2 := hcm.read a2
      obtain ⟨c3, r3, a3, _⟩ := hown.lookup_int law_u32 Try.underlying75 Try.underlying3 (zero_int _) (key := .int .u32 3) (kl := .int .u32 ((3 : Nat) : Int)) (keyOf_int_mk Try.underlying35 (by decide))
      have e3 := hcm.read a3
      obtain ⟨c6, r6, a6, _⟩ := hown.lookup_int law_u32 Try.underlying75 Try.underlying3 (zero_int _) (key := .int .u32 6) (kl := .int .u32 ((6 : Nat) : Int)) (keyOf_int_mk Try.underlying35 (by decide))
      have e6 := hcm.read a6
      have hwo : El.wholeOk h = (decide (0 < c1) && decide (c2 < 2) && decide (c3 < 2) && decide (c6 < 2) && El.enters h) := by
        unfold El.wholeOk
        rw [hall, Bool.true_and, cnt_pos e1, cnt_lt e2, cnt_lt e3, cnt_lt e6]
      have Hwo := hide hwo
      clear hwo hent hall hcm a1 a2 a3 a6 e1 e2 e3 e6 hown hge htk
      generalize El.enters h = eb at *
      by_cases d1 : 0 < c1
      case neg =>
        have d1' : decide (0 < c1) = false := by simp; omega
        go_wp2_with (first
          | (go_at_call_of 28 (Value.bool true); refine (must_yes _ _).mono ?_; rintro e w3 ⟨rfl, rfl⟩)
          | (go_at_call_of 28 (Value.bool false); refine (must_no _ _).mono ?_; rintro e w3 ⟨rfl, rfl⟩))
        all_goals exact ⟨rfl, by first | rfl | (rw [unhide Hwo]; simp [Or3, *]), hb⟩
      by_cases d2 : c2 < 2
      case neg =>
        have d2' : decide (c2 < 2) = false := by simp; omega
        go_wp2_with (first
          | (go_at_call_of 28 (Value.bool true); refine (must_yes _ _).mono ?_; rintro e w3 ⟨rfl, rfl⟩)
          | (go_at_call_of 28 (Value.bool false); refine (must_no _ _).mono ?_; rintro e w3 ⟨rfl, rfl⟩))
        all_goals exact ⟨rfl, by first | rfl | (rw [unhide Hwo]; simp [Or3, *]), hb⟩
      by_cases d3 : c3 < 2
      case neg =>
        have d3' : decide (c3 < 2) = false := by simp; omega
        go_wp2_with (first
          | (go_at_call_of 28 (Value.bool true); refine (must_yes _ _).mono ?_; rintro e w3 ⟨rfl, rfl⟩)
          | (go_at_call_of 28 (Value.bool false); refine (must_no _ _).mono ?_; rintro e w3 ⟨rfl, rfl⟩))
        all_goals exact ⟨rfl, by first | rfl | (rw [unhide Hwo]; simp [Or3, *]), hb⟩
      by_cases d6 : c6 < 2
      case neg =>
        have d6' : decide (c6 < 2) = false := by simp; omega
        go_wp2_with (first
          | (go_at_call_of 28 (Value.bool true); refine (must_yes _ _).mono ?_; rintro e w3 ⟨rfl, rfl⟩)
          | (go_at_call_of 28 (Value.bool false); refine (must_no _ _).mono ?_; rintro e w3 ⟨rfl, rfl⟩))
        all_goals exact ⟨rfl, by first | rfl | (rw [unhide Hwo]; simp [Or3, *]), hb⟩
      cases eb
      case false =>
        go_wp2_with (first
          | (go_at_call_of 28 (Value.bool true); refine (must_yes _ _).mono ?_; rintro e w3 ⟨rfl, rfl⟩)
          | (go_at_call_of 28 (Value.bool false); refine (must_no _ _).mono ?_; rintro e w3 ⟨rfl, rfl⟩))
        all_goals exact ⟨rfl, by first | rfl | (rw [unhide Hwo]; simp [Or3, *]), hb⟩
      case true =>
        go_wp2_with (first
          | (go_at_call_of 28 (Value.bool true); refine (must_yes _ _).mono ?_; rintro e w3 ⟨rfl, rfl⟩)
          | (go_at_call_of 28 (Value.bool false); refine (must_no _ _).mono ?_; rintro e w3 ⟨rfl, rfl⟩))
        go_end0
        exact ⟨by first | rfl | (rw [unhide Hwo]; simp [Or3, *]), hb⟩
    obtain ⟨s, hs⟩ : ∃ s, h.segs[k]? = some s := ⟨_, List.getElem?_eq_getElem (by rw [unhide Hln]; exact hlt)⟩
    obtain ⟨b1', o1, rfl, hbb, c0, c1, c2', c3, c4, c5⟩ := seg_at ((unhide Hl).below (hb.mono hB)) hs
    have hfit := (unhide Hf) _ (List.mem_of_getElem? hs)
    have hcl := count_le (h.segs.take k) s.kind
    have hcl2 : (h.segs.take k).length ≤ k := List.length_take_le _ _
    have hcm2 := CM.step (unhide Hcm) s
    have Hcm2 : Hid (CM (D.put (.int .u32 (s.kind : Nat)) (.lit (.int .i64 ((El.countK (h.segs.take k) s.kind : Nat) + 1)))) (h.segs.take (k + 1))) := by rw [List.take_add_one, hs]; exact hide hcm2
    obtain ⟨sk, sfl, so, sa, sf, sm⟩ := s
    have Hfit := hide hfit
    obtain ⟨i1, i2, i3, i4, i5, i6⟩ := hfit
    simp only at i1 i2 i3 i4 i5 i6 c0 c1 c2' c3 c4 c5 hcl
    have hsz1 : w.heap.size + 1 < wr.heap.size := hsz
    have hkey : keyOf Try.prog 35 (.int .u32 ((sk : Nat) : Int)) = some (.int .u32 ((sk : Nat) : Int)) := keyOf_int_mk Try.underlying35 (wf_u32 i1)
    have hwf : (Lit.int .i64 (((El.countK (h.segs.take k) sk : Nat) : Int) + 1)).wf = true := wf_i64 (by omega) (by omega)
    have Hkey := hide hkey
    have Hwf := hide hwf
    have Hs := hide hs
    clear hkey hwf hs hcm2 hb
    by_cases hk1 : sk = 1
    · rcases Bool.eq_false_or_eq_true (false || (h.segs.take k).any (El.entersBy h)) with heb | heb
      · have heb2 := heb
        have b1 : (((sk : Nat) : Int) == 1) = true := by simp; omega
        have hsw : El.segWhole h ⟨sk, sfl, so, sa, sf, sm⟩ = true := by simp [El.segWhole, hk1]
        have hall2 : (h.segs.take (k + 1)).all (El.segWhole h) = true := by rw [List.take_add_one, unhide Hs, List.all_append, unhide Hall]; simp [hsw]
        have Hall2 := hide hall2
        have hany2 : (false || (h.segs.take (k + 1)).any (El.entersBy h)) = true := by rw [List.take_add_one, List.any_append, ← Bool.or_assoc, heb]; rfl
        have Hany2 := hide hany2
        clear hall2 hany2 hsw heb2 hk1
        rw [heb]
        clear heb
        go_wp2_with (first
          | (at_lookup; refine wpList_lookup_own_int _ rfl _ _ 75 rfl 35 3 .i64 law_u32 Try.underlying75 Try.underlying3 (zero_int _) (w.heap.size + 1) k _ rfl (hown.alloc _) _ _ rfl (unhide Hkey) ?_; intro c hat hwc; obtain rfl := (unhide Hcm).read hat; clear hat hwc)
          | (at_mapUpdate; refine wpList_mapUpdate_own _ rfl _ _ _ 75 rfl 35 3 law_u32 Try.underlying75 _ (w.heap.size + 1) k _ rfl (hown.alloc _) (by unfold maxLen; omega) _ _ _ rfl rfl (unhide Hkey) _ [] (plainElem_int Try.underlying3 (unhide Hwf)) ?_; intro w1 hown1 hgrow1; have g1 := whole_facts hgrow1 (unhide Hbox) hsz1; obtain ⟨g1a, g1b, g1c⟩ := g1; obtain ⟨q0, q1, q2, q3⟩ := box_facts g1a; obtain ⟨p0, p1, p2, p3, p4, p5⟩ := sbox_facts g1b; have G1a := hide g1a; have Hown1 := hide hown1; have Hbl := hide (whole_below (unhide Hb) hgrow1); clear g1a g1b hown1 hgrow1 hown)
          | (go_at_call_of 28 (Value.bool true); refine (must_yes _ _).mono ?_; rintro e w3 ⟨rfl, rfl⟩)
          | (go_at_call_of 28 (Value.bool false); refine (must_no _ _).mono ?_; rintro e w3 ⟨rfl, rfl⟩))
        go_roundw
        case rel =>
          refine ⟨k + 1, _, by omega, by go_num, by rw [unhide Hany2], unhide Hall2, (unhide Hcm2), unhide Hown1, unhide Hbl, unhide G1a, by omega⟩
        case measure => simp [intOf]; omega
      · have Heb := hide heb
        rw [heb]
        clear heb
        by_cases hfl : sfl % 2 = 1
        · have hfb : bits .and .u8 ((sfl : Nat) : Int) 1 = 1 := by rw [and_one_u8 _ i2, hfl]; rfl
          by_cases hlt2 : El.w64 h.entry sa < sm
          · have hw := w64_eq h.entry sa hen i4
            have b1 : (((sk : Nat) : Int) == 1) = true := by simp; omega
            have hlt3 : (IntKind.u64.wrap (((h.entry : Nat) : Int) - ((sa : Nat) : Int))) < ((sm : Nat) : Int) := by rw [hw]; omega
            have hsw : El.segWhole h ⟨sk, sfl, so, sa, sf, sm⟩ = true := by simp [El.segWhole, hk1]
            have hent : El.entersBy h ⟨sk, sfl, so, sa, sf, sm⟩ = true := by simp [El.entersBy, El.isLoad, hk1, hfl, hlt2]
            have hall2 : (h.segs.take (k + 1)).all (El.segWhole h) = true := by rw [List.take_add_one, unhide Hs, List.all_append, unhide Hall]; simp [hsw]
            have Hall2 := hide hall2
            clear hall2
            have hany2 : (h.segs.take (k + 1)).any (El.entersBy h) = ((h.segs.take k).any (El.entersBy h) || El.entersBy h ⟨sk, sfl, so, sa, sf, sm⟩) := by rw [List.take_add_one, unhide Hs, List.any_append]; simp
            rw [hent] at hany2
            have Hany2 := hide hany2
            clear hany2 hent hsw
            clear hk1 hfl hlt2 hw
            go_wp2_with (first
              | (at_lookup; refine wpList_lookup_own_int _ rfl _ _ 75 rfl 35 3 .i64 law_u32 Try.underlying75 Try.underlying3 (zero_int _) (w.heap.size + 1) k _ rfl (hown.alloc _) _ _ rfl (unhide Hkey) ?_; intro c hat hwc; obtain rfl := (unhide Hcm).read hat; clear hat hwc)
              | (at_mapUpdate; refine wpList_mapUpdate_own _ rfl _ _ _ 75 rfl 35 3 law_u32 Try.underlying75 _ (w.heap.size + 1) k _ rfl (hown.alloc _) (by unfold maxLen; omega) _ _ _ rfl rfl (unhide Hkey) _ [] (plainElem_int Try.underlying3 (unhide Hwf)) ?_; intro w1 hown1 hgrow1; have g1 := whole_facts hgrow1 (unhide Hbox) hsz1; obtain ⟨g1a, g1b, g1c⟩ := g1; obtain ⟨q0, q1, q2, q3⟩ := box_facts g1a; obtain ⟨p0, p1, p2, p3, p4, p5⟩ := sbox_facts g1b; have G1a := hide g1a; have Hown1 := hide hown1; have Hbl := hide (whole_below (unhide Hb) hgrow1); clear g1a g1b hown1 hgrow1 hown)
              | (go_at_call_of 28 (Value.bool true); refine (must_yes _ _).mono ?_; rintro e w3 ⟨rfl, rfl⟩)
              | (go_at_call_of 28 (Value.bool false); refine (must_no _ _).mono ?_; rintro e w3 ⟨rfl, rfl⟩))
            go_roundw
            case rel =>
              refine ⟨k + 1, _, by omega, by go_num, by rw [unhide Hany2]; simp, unhide Hall2, (unhide Hcm2), unhide Hown1, unhide Hbl, unhide G1a, by omega⟩
            case measure => simp [intOf]; omega
          · have hw := w64_eq h.entry sa hen i4
            have b1 : (((sk : Nat) : Int) == 1) = true := by simp; omega
            have hlt3 : decide ((IntKind.u64.wrap (((h.entry : Nat) : Int) - ((sa : Nat) : Int))) < ((sm : Nat) : Int)) = false := by rw [hw]; simp; omega
            have hsw : El.segWhole h ⟨sk, sfl, so, sa, sf, sm⟩ = true := by simp [El.segWhole, hk1]
            have hent : El.entersBy h ⟨sk, sfl, so, sa, sf, sm⟩ = false := by simp [El.entersBy, El.isLoad, hk1, hfl, hlt2]
            have hall2 : (h.segs.take (k + 1)).all (El.segWhole h) = true := by rw [List.take_add_one, unhide Hs, List.all_append, unhide Hall]; simp [hsw]
            have Hall2 := hide hall2
            clear hall2
            have hany2 : (h.segs.take (k + 1)).any (El.entersBy h) = ((h.segs.take k).any (El.entersBy h) || El.entersBy h ⟨sk, sfl, so, sa, sf, sm⟩) := by rw [List.take_add_one, unhide Hs, List.any_append]; simp
            rw [hent] at hany2
            have Hany2 := hide hany2
            clear hany2 hent hsw
            clear hk1 hfl hlt2 hw
            go_wp2_with (first
              | (at_lookup; refine wpList_lookup_own_int _ rfl _ _ 75 rfl 35 3 .i64 law_u32 Try.underlying75 Try.underlying3 (zero_int _) (w.heap.size + 1) k _ rfl (hown.alloc _) _ _ rfl (unhide Hkey) ?_; intro c hat hwc; obtain rfl := (unhide Hcm).read hat; clear hat hwc)
              | (at_mapUpdate; refine wpList_mapUpdate_own _ rfl _ _ _ 75 rfl 35 3 law_u32 Try.underlying75 _ (w.heap.size + 1) k _ rfl (hown.alloc _) (by unfold maxLen; omega) _ _ _ rfl rfl (unhide Hkey) _ [] (plainElem_int Try.underlying3 (unhide Hwf)) ?_; intro w1 hown1 hgrow1; have g1 := whole_facts hgrow1 (unhide Hbox) hsz1; obtain ⟨g1a, g1b, g1c⟩ := g1; obtain ⟨q0, q1, q2, q3⟩ := box_facts g1a; obtain ⟨p0, p1, p2, p3, p4, p5⟩ := sbox_facts g1b; have G1a := hide g1a; have Hown1 := hide hown1; have Hbl := hide (whole_below (unhide Hb) hgrow1); clear g1a g1b hown1 hgrow1 hown)
              | (go_at_call_of 28 (Value.bool true); refine (must_yes _ _).mono ?_; rintro e w3 ⟨rfl, rfl⟩)
              | (go_at_call_of 28 (Value.bool false); refine (must_no _ _).mono ?_; rintro e w3 ⟨rfl, rfl⟩))
            go_roundw
            case rel =>
              refine ⟨k + 1, _, by omega, by go_num, by rw [unhide Hany2, Bool.or_false, unhide Heb], unhide Hall2, (unhide Hcm2), unhide Hown1, unhide Hbl, unhide G1a, by omega⟩
            case measure => simp [intOf]; omega
        · have hfl0 : sfl % 2 = 0 := by omega
          have hfb : bits .and .u8 ((sfl : Nat) : Int) 1 = 0 := by rw [and_one_u8 _ i2, hfl0]; rfl
          have b1 : (((sk : Nat) : Int) == 1) = true := by simp; omega
          have hsw : El.segWhole h ⟨sk, sfl, so, sa, sf, sm⟩ = true := by simp [El.segWhole, hk1]
          have hent : El.entersBy h ⟨sk, sfl, so, sa, sf, sm⟩ = false := by simp [El.entersBy, El.isLoad, hk1, hfl0]
          have hall2 : (h.segs.take (k + 1)).all (El.segWhole h) = true := by rw [List.take_add_one, unhide Hs, List.all_append, unhide Hall]; simp [hsw]
          have Hall2 := hide hall2
          clear hall2
          have hany2 : (h.segs.take (k + 1)).any (El.entersBy h) = ((h.segs.take k).any (El.entersBy h) || El.entersBy h ⟨sk, sfl, so, sa, sf, sm⟩) := by rw [List.take_add_one, unhide Hs, List.any_append]; simp
          rw [hent] at hany2
          have Hany2 := hide hany2
          clear hany2 hent hsw
          clear hk1 hfl hfl0
          go_wp2_with (first
            | (at_lookup; refine wpList_lookup_own_int _ rfl _ _ 75 rfl 35 3 .i64 law_u32 Try.underlying75 Try.underlying3 (zero_int _) (w.heap.size + 1) k _ rfl (hown.alloc _) _ _ rfl (unhide Hkey) ?_; intro c hat hwc; obtain rfl := (unhide Hcm).read hat; clear hat hwc)
            | (at_mapUpdate; refine wpList_mapUpdate_own _ rfl _ _ _ 75 rfl 35 3 law_u32 Try.underlying75 _ (w.heap.size + 1) k _ rfl (hown.alloc _) (by unfold maxLen; omega) _ _ _ rfl rfl (unhide Hkey) _ [] (plainElem_int Try.underlying3 (unhide Hwf)) ?_; intro w1 hown1 hgrow1; have g1 := whole_facts hgrow1 (unhide Hbox) hsz1; obtain ⟨g1a, g1b, g1c⟩ := g1; obtain ⟨q0, q1, q2, q3⟩ := box_facts g1a; obtain ⟨p0, p1, p2, p3, p4, p5⟩ := sbox_facts g1b; have G1a := hide g1a; have Hown1 := hide hown1; have Hbl := hide (whole_below (unhide Hb) hgrow1); clear g1a g1b hown1 hgrow1 hown)
            | (go_at_call_of 28 (Value.bool true); refine (must_yes _ _).mono ?_; rintro e w3 ⟨rfl, rfl⟩)
            | (go_at_call_of 28 (Value.bool false); refine (must_no _ _).mono ?_; rintro e w3 ⟨rfl, rfl⟩))
          go_roundw
          case rel =>
            refine ⟨k + 1, _, by omega, by go_num, by rw [unhide Hany2, Bool.or_false, unhide Heb], unhide Hall2, (unhide Hcm2), unhide Hown1, unhide Hbl, unhide G1a, by omega⟩
          case measure => simp [intOf]; omega
    · have Hk1 := hide hk1
      generalize heb : (false || (h.segs.take k).any (El.entersBy h)) = eb at *
      have Heb := hide heb
      clear heb
      by_cases hk2 : sk = 2
      · by_cases hfd : El.filled h ⟨sk, sfl, so, sa, sf, sm⟩ = true
        · have Hfd := hide hfd
          have b1 : (((sk : Nat) : Int) == 1) = false := by simp; omega
          have b2 : (((sk : Nat) : Int) == 2) = true := by simp; omega
          have hsw : El.segWhole h ⟨sk, sfl, so, sa, sf, sm⟩ = true := by subst hk2; simp [El.segWhole, hfd]
          have hent : El.entersBy h ⟨sk, sfl, so, sa, sf, sm⟩ = false := by simp [El.entersBy, El.isLoad, hk1]
          have hall2 : (h.segs.take (k + 1)).all (El.segWhole h) = true := by rw [List.take_add_one, unhide Hs, List.all_append, unhide Hall]; simp [hsw]
          have Hall2 := hide hall2
          clear hall2
          have hany2 : (h.segs.take (k + 1)).any (El.entersBy h) = ((h.segs.take k).any (El.entersBy h) || El.entersBy h ⟨sk, sfl, so, sa, sf, sm⟩) := by rw [List.take_add_one, unhide Hs, List.any_append]; simp
          rw [hent] at hany2
          have Hany2 := hide hany2
          clear hany2 hent hsw
          clear hk1 hk2 hfd
          go_wp2_with (first
            | (at_lookup; refine wpList_lookup_own_int _ rfl _ _ 75 rfl 35 3 .i64 law_u32 Try.underlying75 Try.underlying3 (zero_int _) (w.heap.size + 1) k _ rfl (hown.alloc _) _ _ rfl (unhide Hkey) ?_; intro c hat hwc; obtain rfl := (unhide Hcm).read hat; clear hat hwc)
            | (at_mapUpdate; refine wpList_mapUpdate_own _ rfl _ _ _ 75 rfl 35 3 law_u32 Try.underlying75 _ (w.heap.size + 1) k _ rfl (hown.alloc _) (by unfold maxLen; omega) _ _ _ rfl rfl (unhide Hkey) _ [] (plainElem_int Try.underlying3 (unhide Hwf)) ?_; intro w1 hown1 hgrow1; have g1 := whole_facts hgrow1 (unhide Hbox) hsz1; obtain ⟨g1a, g1b, g1c⟩ := g1; obtain ⟨q0, q1, q2, q3⟩ := box_facts g1a; obtain ⟨p0, p1, p2, p3, p4, p5⟩ := sbox_facts g1b; have G1a := hide g1a; have Hown1 := hide hown1; have Hbl := hide (whole_below (unhide Hb) hgrow1); clear g1a g1b hown1 hgrow1 hown)
            | (go_at_call_of 28 (Value.bool true); refine (must_yes _ _).mono ?_; rintro e w3 ⟨rfl, rfl⟩)
            | (go_at_call_of 28 (Value.bool false); refine (must_no _ _).mono ?_; rintro e w3 ⟨rfl, rfl⟩)
            | (go_at_call 47; refine ((unhide Hfil) ⟨sk, sfl, so, sa, sf, sm⟩ (unhide Hfit) _ (unhide Hbl)).mono ?_; rintro e w2 ⟨rfl, hb2⟩; rw [unhide Hfd]; have Hb2 := hide hb2; have hq := (hb2.block _ g1c.1).trans (unhide G1a); have HQ := hide hq; have hz2 := hb2.size; clear hb2 hq))
          go_roundw
          case rel =>
            refine ⟨k + 1, _, by omega, by go_num, by rw [unhide Hany2, Bool.or_false, unhide Heb], unhide Hall2, (unhide Hcm2), own_map_below (unhide Hown1) (unhide Hb2), (unhide Hbl).trans ((unhide Hb2).mono (unhide Hbl).size), unhide HQ, by omega⟩
          case measure => simp [intOf]; omega
        · rw [Bool.not_eq_true] at hfd
          have Hfd := hide hfd
          have b1 : (((sk : Nat) : Int) == 1) = false := by simp; omega
          have b2 : (((sk : Nat) : Int) == 2) = true := by simp; omega
          have hbad : El.wholeOk h = false := whole_no (List.mem_of_getElem? (unhide Hs)) (by subst hk2; simp [El.segWhole, hfd])
          have Hbad := hide hbad
          clear hbad
          clear hk1 hk2 hfd
          go_wp2_with (first
            | (at_lookup; refine wpList_lookup_own_int _ rfl _ _ 75 rfl 35 3 .i64 law_u32 Try.underlying75 Try.underlying3 (zero_int _) (w.heap.size + 1) k _ rfl (hown.alloc _) _ _ rfl (unhide Hkey) ?_; intro c hat hwc; obtain rfl := (unhide Hcm).read hat; clear hat hwc)
            | (at_mapUpdate; refine wpList_mapUpdate_own _ rfl _ _ _ 75 rfl 35 3 law_u32 Try.underlying75 _ (w.heap.size + 1) k _ rfl (hown.alloc _) (by unfold maxLen; omega) _ _ _ rfl rfl (unhide Hkey) _ [] (plainElem_int Try.underlying3 (unhide Hwf)) ?_; intro w1 hown1 hgrow1; have g1 := whole_facts hgrow1 (unhide Hbox) hsz1; obtain ⟨g1a, g1b, g1c⟩ := g1; obtain ⟨q0, q1, q2, q3⟩ := box_facts g1a; obtain ⟨p0, p1, p2, p3, p4, p5⟩ := sbox_facts g1b; have G1a := hide g1a; have Hown1 := hide hown1; have Hbl := hide (whole_below (unhide Hb) hgrow1); clear g1a g1b hown1 hgrow1 hown)
            | (go_at_call_of 28 (Value.bool true); refine (must_yes _ _).mono ?_; rintro e w3 ⟨rfl, rfl⟩)
            | (go_at_call_of 28 (Value.bool false); refine (must_no _ _).mono ?_; rintro e w3 ⟨rfl, rfl⟩)
            | (go_at_call 47; refine ((unhide Hfil) ⟨sk, sfl, so, sa, sf, sm⟩ (unhide Hfit) _ (unhide Hbl)).mono ?_; rintro e w2 ⟨rfl, hb2⟩; rw [unhide Hfd]; have Hb2 := hide hb2; have hq := (hb2.block _ g1c.1).trans (unhide G1a); have HQ := hide hq; have hz2 := hb2.size; clear hb2 hq))
          exact ⟨rfl, by rw [unhide Hbad]; rfl, (unhide Hbl).trans ((unhide Hb2).mono (unhide Hbl).size)⟩
      by_cases hk6 : sk = 6
      · by_cases hfd : El.filled h ⟨sk, sfl, so, sa, sf, sm⟩ = true
        · have Hfd := hide hfd
          have b1 : (((sk : Nat) : Int) == 1) = false := by simp; omega
          have b2 : (((sk : Nat) : Int) == 2) = false := by simp; omega
          have b6 : (((sk : Nat) : Int) == 6) = true := by simp; omega
          have hsw : El.segWhole h ⟨sk, sfl, so, sa, sf, sm⟩ = true := by subst hk6; simp [El.segWhole, hfd]
          have hent : El.entersBy h ⟨sk, sfl, so, sa, sf, sm⟩ = false := by simp [El.entersBy, El.isLoad, hk1]
          have hall2 : (h.segs.take (k + 1)).all (El.segWhole h) = true := by rw [List.take_add_one, unhide Hs, List.all_append, unhide Hall]; simp [hsw]
          have Hall2 := hide hall2
          clear hall2
          have hany2 : (h.segs.take (k + 1)).any (El.entersBy h) = ((h.segs.take k).any (El.entersBy h) || El.entersBy h ⟨sk, sfl, so, sa, sf, sm⟩) := by rw [List.take_add_one, unhide Hs, List.any_append]; simp
          rw [hent] at hany2
          have Hany2 := hide hany2
          clear hany2 hent hsw
          clear hk1 hk6 hfd hk2
          go_wp2_with (first
            | (at_lookup; refine wpList_lookup_own_int _ rfl _ _ 75 rfl 35 3 .i64 law_u32 Try.underlying75 Try.underlying3 (zero_int _) (w.heap.size + 1) k _ rfl (hown.alloc _) _ _ rfl (unhide Hkey) ?_; intro c hat hwc; obtain rfl := (unhide Hcm).read hat; clear hat hwc)
            | (at_mapUpdate; refine wpList_mapUpdate_own _ rfl _ _ _ 75 rfl 35 3 law_u32 Try.underlying75 _ (w.heap.size + 1) k _ rfl (hown.alloc _) (by unfold maxLen; omega) _ _ _ rfl rfl (unhide Hkey) _ [] (plainElem_int Try.underlying3 (unhide Hwf)) ?_; intro w1 hown1 hgrow1; have g1 := whole_facts hgrow1 (unhide Hbox) hsz1; obtain ⟨g1a, g1b, g1c⟩ := g1; obtain ⟨q0, q1, q2, q3⟩ := box_facts g1a; obtain ⟨p0, p1, p2, p3, p4, p5⟩ := sbox_facts g1b; have G1a := hide g1a; have Hown1 := hide hown1; have Hbl := hide (whole_below (unhide Hb) hgrow1); clear g1a g1b hown1 hgrow1 hown)
            | (go_at_call_of 28 (Value.bool true); refine (must_yes _ _).mono ?_; rintro e w3 ⟨rfl, rfl⟩)
            | (go_at_call_of 28 (Value.bool false); refine (must_no _ _).mono ?_; rintro e w3 ⟨rfl, rfl⟩)
            | (go_at_call 47; refine ((unhide Hfil) ⟨sk, sfl, so, sa, sf, sm⟩ (unhide Hfit) _ (unhide Hbl)).mono ?_; rintro e w2 ⟨rfl, hb2⟩; rw [unhide Hfd]; have Hb2 := hide hb2; have hq := (hb2.block _ g1c.1).trans (unhide G1a); have HQ := hide hq; have hz2 := hb2.size; clear hb2 hq))
          go_roundw
          case rel =>
            refine ⟨k + 1, _, by omega, by go_num, by rw [unhide Hany2, Bool.or_false, unhide Heb], unhide Hall2, (unhide Hcm2), own_map_below (unhide Hown1) (unhide Hb2), (unhide Hbl).trans ((unhide Hb2).mono (unhide Hbl).size), unhide HQ, by omega⟩
          case measure => simp [intOf]; omega
        · rw [Bool.not_eq_true] at hfd
          have Hfd := hide hfd
          have b1 : (((sk : Nat) : Int) == 1) = false := by simp; omega
          have b2 : (((sk : Nat) : Int) == 2) = false := by simp; omega
          have b6 : (((sk : Nat) : Int) == 6) = true := by simp; omega
          have hbad : El.wholeOk h = false := whole_no (List.mem_of_getElem? (unhide Hs)) (by subst hk6; simp [El.segWhole, hfd])
          have Hbad := hide hbad
          clear hbad
          clear hk1 hk6 hfd hk2
          go_wp2_with (first
            | (at_lookup; refine wpList_lookup_own_int _ rfl _ _ 75 rfl 35 3 .i64 law_u32 Try.underlying75 Try.underlying3 (zero_int _) (w.heap.size + 1) k _ rfl (hown.alloc _) _ _ rfl (unhide Hkey) ?_; intro c hat hwc; obtain rfl := (unhide Hcm).read hat; clear hat hwc)
            | (at_mapUpdate; refine wpList_mapUpdate_own _ rfl _ _ _ 75 rfl 35 3 law_u32 Try.underlying75 _ (w.heap.size + 1) k _ rfl (hown.alloc _) (by unfold maxLen; omega) _ _ _ rfl rfl (unhide Hkey) _ [] (plainElem_int Try.underlying3 (unhide Hwf)) ?_; intro w1 hown1 hgrow1; have g1 := whole_facts hgrow1 (unhide Hbox) hsz1; obtain ⟨g1a, g1b, g1c⟩ := g1; obtain ⟨q0, q1, q2, q3⟩ := box_facts g1a; obtain ⟨p0, p1, p2, p3, p4, p5⟩ := sbox_facts g1b; have G1a := hide g1a; have Hown1 := hide hown1; have Hbl := hide (whole_below (unhide Hb) hgrow1); clear g1a g1b hown1 hgrow1 hown)
            | (go_at_call_of 28 (Value.bool true); refine (must_yes _ _).mono ?_; rintro e w3 ⟨rfl, rfl⟩)
            | (go_at_call_of 28 (Value.bool false); refine (must_no _ _).mono ?_; rintro e w3 ⟨rfl, rfl⟩)
            | (go_at_call 47; refine ((unhide Hfil) ⟨sk, sfl, so, sa, sf, sm⟩ (unhide Hfit) _ (unhide Hbl)).mono ?_; rintro e w2 ⟨rfl, hb2⟩; rw [unhide Hfd]; have Hb2 := hide hb2; have hq := (hb2.block _ g1c.1).trans (unhide G1a); have HQ := hide hq; have hz2 := hb2.size; clear hb2 hq))
          exact ⟨rfl, by rw [unhide Hbad]; rfl, (unhide Hbl).trans ((unhide Hb2).mono (unhide Hbl).size)⟩
      by_cases hk3 : sk = 3
      · by_cases hf1 : 0 < sf
        · by_cases hf2 : sf ≤ 201
          · have f1 : decide (0 < sf) = true := by simp; omega
            have f2 : decide (((sf : Nat) : Int) ≤ 201) = true := by simp; omega
            clear i3 i4 i6
            have b1 : (((sk : Nat) : Int) == 1) = false := by simp; omega
            have b2 : (((sk : Nat) : Int) == 2) = false := by simp; omega
            have b6 : (((sk : Nat) : Int) == 6) = false := by simp; omega
            have b3 : (((sk : Nat) : Int) == 3) = true := by simp; omega
            have hsw : El.segWhole h ⟨sk, sfl, so, sa, sf, sm⟩ = true := by simp [El.segWhole, hk3, hf1, hf2]
            have hent : El.entersBy h ⟨sk, sfl, so, sa, sf, sm⟩ = false := by simp [El.entersBy, El.isLoad, hk1]
            have hall2 : (h.segs.take (k + 1)).all (El.segWhole h) = true := by rw [List.take_add_one, unhide Hs, List.all_append, unhide Hall]; simp [hsw]
            have Hall2 := hide hall2
            clear hall2
            have hany2 : (h.segs.take (k + 1)).any (El.entersBy h) = ((h.segs.take k).any (El.entersBy h) || El.entersBy h ⟨sk, sfl, so, sa, sf, sm⟩) := by rw [List.take_add_one, unhide Hs, List.any_append]; simp
            rw [hent] at hany2
            have Hany2 := hide hany2
            clear hany2 hent hsw
            clear hk1 hk2 hk6 hk3 hf1 hf2
            go_wp2_with (first
              | (at_lookup; refine wpList_lookup_own_int _ rfl _ _ 75 rfl 35 3 .i64 law_u32 Try.underlying75 Try.underlying3 (zero_int _) (w.heap.size + 1) k _ rfl (hown.alloc _) _ _ rfl (unhide Hkey) ?_; intro c hat hwc; obtain rfl := (unhide Hcm).read hat; clear hat hwc)
              | (at_mapUpdate; refine wpList_mapUpdate_own _ rfl _ _ _ 75 rfl 35 3 law_u32 Try.underlying75 _ (w.heap.size + 1) k _ rfl (hown.alloc _) (by unfold maxLen; omega) _ _ _ rfl rfl (unhide Hkey) _ [] (plainElem_int Try.underlying3 (unhide Hwf)) ?_; intro w1 hown1 hgrow1; have g1 := whole_facts hgrow1 (unhide Hbox) hsz1; obtain ⟨g1a, g1b, g1c⟩ := g1; obtain ⟨q0, q1, q2, q3⟩ := box_facts g1a; obtain ⟨p0, p1, p2, p3, p4, p5⟩ := sbox_facts g1b; have G1a := hide g1a; have Hown1 := hide hown1; have Hbl := hide (whole_below (unhide Hb) hgrow1); clear g1a g1b hown1 hgrow1 hown)
              | (go_at_call_of 28 (Value.bool true); refine (must_yes _ _).mono ?_; rintro e w3 ⟨rfl, rfl⟩)
              | (go_at_call_of 28 (Value.bool false); refine (must_no _ _).mono ?_; rintro e w3 ⟨rfl, rfl⟩))
            go_roundw
            case rel =>
              refine ⟨k + 1, _, by omega, by go_num, by rw [unhide Hany2, Bool.or_false, unhide Heb], unhide Hall2, (unhide Hcm2), unhide Hown1, unhide Hbl, unhide G1a, by omega⟩
            case measure => simp [intOf]; omega
          · have f1 : decide (0 < sf) = true := by simp; omega
            clear i3 i4 i6
            have f2 : decide (((sf : Nat) : Int) ≤ 201) = false := by simp; omega
            have b1 : (((sk : Nat) : Int) == 1) = false := by simp; omega
            have b2 : (((sk : Nat) : Int) == 2) = false := by simp; omega
            have b6 : (((sk : Nat) : Int) == 6) = false := by simp; omega
            have b3 : (((sk : Nat) : Int) == 3) = true := by simp; omega
            have hbad : El.wholeOk h = false := whole_no (List.mem_of_getElem? (unhide Hs)) (by simp [El.segWhole, hk3, hf2])
            have Hbad := hide hbad
            clear hbad
            clear hk1 hk2 hk6 hk3 hf1 hf2
            go_wp2_with (first
              | (at_lookup; refine wpList_lookup_own_int _ rfl _ _ 75 rfl 35 3 .i64 law_u32 Try.underlying75 Try.underlying3 (zero_int _) (w.heap.size + 1) k _ rfl (hown.alloc _) _ _ rfl (unhide Hkey) ?_; intro c hat hwc; obtain rfl := (unhide Hcm).read hat; clear hat hwc)
              | (at_mapUpdate; refine wpList_mapUpdate_own _ rfl _ _ _ 75 rfl 35 3 law_u32 Try.underlying75 _ (w.heap.size + 1) k _ rfl (hown.alloc _) (by unfold maxLen; omega) _ _ _ rfl rfl (unhide Hkey) _ [] (plainElem_int Try.underlying3 (unhide Hwf)) ?_; intro w1 hown1 hgrow1; have g1 := whole_facts hgrow1 (unhide Hbox) hsz1; obtain ⟨g1a, g1b, g1c⟩ := g1; obtain ⟨q0, q1, q2, q3⟩ := box_facts g1a; obtain ⟨p0, p1, p2, p3, p4, p5⟩ := sbox_facts g1b; have G1a := hide g1a; have Hown1 := hide hown1; have Hbl := hide (whole_below (unhide Hb) hgrow1); clear g1a g1b hown1 hgrow1 hown)
              | (go_at_call_of 28 (Value.bool true); refine (must_yes _ _).mono ?_; rintro e w3 ⟨rfl, rfl⟩)
              | (go_at_call_of 28 (Value.bool false); refine (must_no _ _).mono ?_; rintro e w3 ⟨rfl, rfl⟩))
            exact ⟨rfl, by rw [unhide Hbad]; rfl, unhide Hbl⟩
        · have f1 : ¬ (0 : Int) < ((sf : Nat) : Int) := by omega
          have f1' : decide (0 < sf) = false := by simp; omega
          have b1 : (((sk : Nat) : Int) == 1) = false := by simp; omega
          have b2 : (((sk : Nat) : Int) == 2) = false := by simp; omega
          have b6 : (((sk : Nat) : Int) == 6) = false := by simp; omega
          have b3 : (((sk : Nat) : Int) == 3) = true := by simp; omega
          have hbad : El.wholeOk h = false := whole_no (List.mem_of_getElem? (unhide Hs)) (by simp [El.segWhole, hk3, hf1])
          have Hbad := hide hbad
          clear hbad
          clear hk1 hk2 hk6 hk3 hf1
          go_wp2_with (first
            | (at_lookup; refine wpList_lookup_own_int _ rfl _ _ 75 rfl 35 3 .i64 law_u32 Try.underlying75 Try.underlying3 (zero_int _) (w.heap.size + 1) k _ rfl (hown.alloc _) _ _ rfl (unhide Hkey) ?_; intro c hat hwc; obtain rfl := (unhide Hcm).read hat; clear hat hwc)
            | (at_mapUpdate; refine wpList_mapUpdate_own _ rfl _ _ _ 75 rfl 35 3 law_u32 Try.underlying75 _ (w.heap.size + 1) k _ rfl (hown.alloc _) (by unfold maxLen; omega) _ _ _ rfl rfl (unhide Hkey) _ [] (plainElem_int Try.underlying3 (unhide Hwf)) ?_; intro w1 hown1 hgrow1; have g1 := whole_facts hgrow1 (unhide Hbox) hsz1; obtain ⟨g1a, g1b, g1c⟩ := g1; obtain ⟨q0, q1, q2, q3⟩ := box_facts g1a; obtain ⟨p0, p1, p2, p3, p4, p5⟩ := sbox_facts g1b; have G1a := hide g1a; have Hown1 := hide hown1; have Hbl := hide (whole_below (unhide Hb) hgrow1); clear g1a g1b hown1 hgrow1 hown)
            | (go_at_call_of 28 (Value.bool true); refine (must_yes _ _).mono ?_; rintro e w3 ⟨rfl, rfl⟩)
            | (go_at_call_of 28 (Value.bool false); refine (must_no _ _).mono ?_; rintro e w3 ⟨rfl, rfl⟩))
          exact ⟨rfl, by rw [unhide Hbad]; rfl, unhide Hbl⟩
      have b1 : (((sk : Nat) : Int) == 1) = false := by simp; omega
      have b2 : (((sk : Nat) : Int) == 2) = false := by simp; omega
      have b6 : (((sk : Nat) : Int) == 6) = false := by simp; omega
      have b3 : (((sk : Nat) : Int) == 3) = false := by simp; omega
      have hsw : El.segWhole h ⟨sk, sfl, so, sa, sf, sm⟩ = true := by simp [El.segWhole, hk2, hk6, hk3]
      have hent : El.entersBy h ⟨sk, sfl, so, sa, sf, sm⟩ = false := by simp [El.entersBy, El.isLoad, hk1]
      have hall2 : (h.segs.take (k + 1)).all (El.segWhole h) = true := by rw [List.take_add_one, unhide Hs, List.all_append, unhide Hall]; simp [hsw]
      have Hall2 := hide hall2
      clear hall2
      have hany2 : (h.segs.take (k + 1)).any (El.entersBy h) = ((h.segs.take k).any (El.entersBy h) || El.entersBy h ⟨sk, sfl, so, sa, sf, sm⟩) := by rw [List.take_add_one, unhide Hs, List.any_append]; simp
      rw [hent] at hany2
      have Hany2 := hide hany2
      clear hany2 hent hsw
      clear hk1 hk2 hk6 hk3
      go_wp2_with (first
        | (at_lookup; refine wpList_lookup_own_int _ rfl _ _ 75 rfl 35 3 .i64 law_u32 Try.underlying75 Try.underlying3 (zero_int _) (w.heap.size + 1) k _ rfl (hown.alloc _) _ _ rfl (unhide Hkey) ?_; intro c hat hwc; obtain rfl := (unhide Hcm).read hat; clear hat hwc)
        | (at_mapUpdate; refine wpList_mapUpdate_own _ rfl _ _ _ 75 rfl 35 3 law_u32 Try.underlying75 _ (w.heap.size + 1) k _ rfl (hown.alloc _) (by unfold maxLen; omega) _ _ _ rfl rfl (unhide Hkey) _ [] (plainElem_int Try.underlying3 (unhide Hwf)) ?_; intro w1 hown1 hgrow1; have g1 := whole_facts hgrow1 (unhide Hbox) hsz1; obtain ⟨g1a, g1b, g1c⟩ := g1; obtain ⟨q0, q1, q2, q3⟩ := box_facts g1a; obtain ⟨p0, p1, p2, p3, p4, p5⟩ := sbox_facts g1b; have G1a := hide g1a; have Hown1 := hide hown1; have Hbl := hide (whole_below (unhide Hb) hgrow1); clear g1a g1b hown1 hgrow1 hown)
        | (go_at_call_of 28 (Value.bool true); refine (must_yes _ _).mono ?_; rintro e w3 ⟨rfl, rfl⟩)
        | (go_at_call_of 28 (Value.bool false); refine (must_no _ _).mono ?_; rintro e w3 ⟨rfl, rfl⟩))
      go_roundw
      case rel =>
        refine ⟨k + 1, _, by omega, by go_num, by rw [unhide Hany2, Bool.or_false, unhide Heb], unhide Hall2, (unhide Hcm2), unhide Hown1, unhide Hbl, unhide G1a, by omega⟩
      case measure => simp [intOf]; omega

end Go.Proofs.Ytkonolmakpeocaa
