/- The walks of elf.filled and elf.Span over any head. Conditions: the numbers fit their kinds; there are fewer than 2^32 headers. -/
import Derived.Test.YtkonolmakpeocaaElf3
namespace Go.Proofs.Ytkonolmakpeocaa
set_option linter.unusedVariables false
set_option linter.unusedSimpArgs false
open Go.RowKit

theorem w64_eq (a b : Nat) (ha : a < 18446744073709551616) (hb : b < 18446744073709551616) : IntKind.u64.wrap ((a : Int) - (b : Int)) = ((El.w64 a b : Nat) : Int) := by
  rw [IntKind.wrap_u64]
  unfold El.w64
  omega
theorem w64_lt (a b : Nat) : El.w64 a b < 18446744073709551616 := Nat.mod_lt _ (by omega)
theorem loads_mem {l : List El.Sg} (h : ∀ s ∈ l, SgFit s) : ∀ s ∈ El.loads l, SgFit s := fun s hs => h s (List.mem_filter.1 hs).1
theorem loads_len (l : List El.Sg) : (El.loads l).length ≤ l.length := List.length_filter_le _ _
theorem find_none_snoc {α : Type} {p : α → Bool} {l : List α} {k : Nat} {x : α} (h : (l.take k).find? p = none) (hx : l[k]? = some x) (hp : p x = false) : (l.take (k + 1)).find? p = none := by
  rw [List.take_add_one, hx, List.find?_append, h]
  simp [hp]
theorem find_hit {α : Type} {p : α → Bool} {l : List α} {k : Nat} {x : α} (h : (l.take k).find? p = none) (hx : l[k]? = some x) (hp : p x = true) : l.find? p = some x := by
  have hk : k < l.length := (List.getElem?_eq_some_iff.1 hx).1
  have e : l = l.take k ++ x :: l.drop (k + 1) := by
    have e2 := List.drop_eq_getElem_cons hk
    have e3 : l[k] = x := (List.getElem?_eq_some_iff.1 hx).2
    rw [e3] at e2
    rw [← e2, List.take_append_drop]
  rw [e, List.find?_append, h]
  simp [hp]

set_option maxHeartbeats 2000000 in
theorem filled_any (A : Option Addr) (n c B : Nat) (h : El.Hd) (s : El.Sg) (w : World) (hB : B ≤ w.heap.size) (hl : Rd w B 6 A n (segCells h.segs)) (hn : n ≤ 4294967296) (hf : ∀ x ∈ h.segs, SgFit x) (hs : SgFit s) :
    Calls Try.prog 47 #[.agg #[.int .u16 h.type, .int .u64 h.entry, .int .u64 h.phoff, .slice A n c], .agg #[.int .u32 s.kind, .int .u8 s.flags, .int .u64 s.off, .int .u64 s.addr, .int .u64 s.fsz, .int .u64 s.msz]] w fun e w' =>
      e = .returned (.bool (El.filled h s)) ∧ Below w.heap.size w w' := by
  have hln : h.segs.length = n := by have := hl.1; rw [segCells_len] at this; omega
  have hll := loads_len h.segs
  have hlf := loads_mem hf
  have hfd : El.filled h s = match (El.loads h.segs).find? (El.holds s) with
    | some l => El.w64 s.off l.off == s.addr - l.addr
    | none => false := rfl
  have hload := fun (w' : World) (hb : Below w.heap.size w w') => loads_any A n c B h.segs h.type h.entry h.phoff w' (Nat.le_trans hB hb.size) (hl.below (hb.mono hB)) hn
  generalize El.loads h.segs = L at *
  generalize h.segs = SS at *
  obtain ⟨sk, sfl, so, sa, sf, sm⟩ := s
  obtain ⟨i1, i2, i3, i4, i5, i6⟩ := hs
  simp only at *
  have Hload := hide hload
  have Hlf := hide hlf
  have Hfd := hide hfd
  clear hl hload hlf hfd hf
  go_enter Try.func47, Try.ntmps47
  go_wp2_with (go_at_call 9; refine ((unhide Hload) _ (((Below.refl _ _).alloc (Nat.le_refl _) _).alloc (by simp) _)).mono ?_; rintro e w1 ⟨A2, c2, rfl, hown, hb1⟩)
  have hb0 : Below w.heap.size w w1 := (((Below.refl _ _).alloc (Nat.le_refl _) _).alloc (by simp) _).trans (hb1.mono (by simp only [World.size_alloc]; omega))
  have hrd := Rd.of_own hown
  have Hrd := hide hrd
  have hnb := (hb1.block (w.heap.size + 1) (by simp only [World.size_alloc]; omega)).trans (heap_alloc2_new _ _ _)
  have hnbl := lt_of_block hnb
  have Hnb := hide hnb
  clear hrd hown hnb hb1
  have hb0s := hb0.size
  go_loopw [10] (fun i wr => ∃ k : Nat, k ≤ L.length ∧ i = .int .i64 k ∧ (L.take k).find? (El.holds ⟨sk, sfl, so, sa, sf, sm⟩) = none ∧ Below w1.heap.size w1 wr) (fun i _ => L.length - (intOf i).toNat)
  case atStart => exact ⟨0, Nat.zero_le _, rfl, rfl, Below.refl _ _⟩
  case round =>
    obtain ⟨k, hk, rfl, hno, hb⟩ := hrel
    have Hno := hide hno
    clear hno
    by_cases hlt : k < L.length
    · obtain ⟨l, hlk⟩ : ∃ l, L[k]? = some l := ⟨_, List.getElem?_eq_getElem hlt⟩
      obtain ⟨b1, o1, rfl, hbb, c0, c1, c2', c3, c4, c5⟩ := seg_at ((unhide Hrd).below hb) hlk
      obtain ⟨lk, lfl, lo, la, lf, lm⟩ := l
      obtain ⟨j1, j2, j3, j4, j5, j6⟩ := (unhide Hlf) _ (List.mem_of_getElem? hlk)
      simp only at j1 j2 j3 j4 j5 j6 c0 c1 c2' c3 c4 c5
      have hn2 := (hb.block _ hnbl).trans (unhide Hnb)
      have s2 := cell_of_row _ _ 2 _ _ _ hn2
      have s3 := cell_of_row _ _ 3 _ _ _ hn2
      have s4 := cell_of_row _ _ 4 _ _ _ hn2
      simp only [List.getElem?_toArray, List.getElem?_cons_zero, List.getElem?_cons_succ] at s2 s3 s4
      have hsr : w.heap.size + 1 < wr.heap.size := Nat.lt_of_lt_of_le hnbl hb.size
      have hbr : b1 < wr.heap.size := Nat.lt_of_lt_of_le hbb hb.size
      have hsz := hb.size
      have Hlk := hide hlk
      have Hb := hide hb
      clear hn2 hlk hb
      by_cases h1 : la ≤ sa
      · have i1 : ((la : Nat) : Int) ≤ ((sa : Nat) : Int) := by omega
        by_cases h2 : sa - la + sf ≤ lf
        · have i2 : decide (((sa : Nat) : Int) - ((la : Nat) : Int) + ((sf : Nat) : Int) ≤ ((lf : Nat) : Int)) = true := by simp; omega
          have hhit : El.filled h ⟨sk, sfl, so, sa, sf, sm⟩ = (El.w64 so lo == sa - la) := by
            rw [unhide Hfd, find_hit (unhide Hno) (unhide Hlk) (by simp [El.holds, h1, h2])]
          have Hhit := hide hhit
          clear hhit h2
          go_wp2_with (go_at_call 29; refine (inside_any _ _ _ _ (by omega) (by omega) (by omega) (by omega) (by omega)).mono ?_; rintro e w1 ⟨rfl, rfl⟩)
          go_ret
          refine ⟨?_, hb0.trans (((unhide Hb).alloc hsz _).mono hb0s)⟩
          rw [unhide Hhit]
          refine ret_bool ?_
          rw [w64_eq _ _ i3 j3, Bool.eq_iff_iff, beq_iff_eq, beq_iff_eq]
          omega
        · have i2 : decide (((sa : Nat) : Int) - ((la : Nat) : Int) + ((sf : Nat) : Int) ≤ ((lf : Nat) : Int)) = false := by simp; omega
          have hno2 := find_none_snoc (unhide Hno) (unhide Hlk) (by simp [El.holds, h2])
          have Hno2 := hide hno2
          clear hno2 h2
          go_wp2_with (go_at_call 29; refine (inside_any _ _ _ _ (by omega) (by omega) (by omega) (by omega) (by omega)).mono ?_; rintro e w1 ⟨rfl, rfl⟩)
          go_roundw
          case rel => exact ⟨k + 1, by omega, by go_num, unhide Hno2, (unhide Hb).alloc hsz _⟩
          case measure => simp [intOf]; omega
      · have i1 : decide (la ≤ sa) = false := by simp; omega
        have i1' : ¬ ((la : Nat) : Int) ≤ ((sa : Nat) : Int) := by omega
        have hno2 := find_none_snoc (unhide Hno) (unhide Hlk) (by simp [El.holds, h1])
        have Hno2 := hide hno2
        clear hno2 h1
        go_wp2
        go_roundw
        case rel => exact ⟨k + 1, by omega, by go_num, unhide Hno2, (unhide Hb).alloc hsz _⟩
        case measure => simp [intOf]; omega
    · have hno2 : L.find? (El.holds ⟨sk, sfl, so, sa, sf, sm⟩) = none := by
        have := unhide Hno
        rwa [List.take_of_length_le (by omega)] at this
      have hfin : El.filled h ⟨sk, sfl, so, sa, sf, sm⟩ = false := by rw [unhide Hfd, hno2]
      have Hfin := hide hfin
      clear hfin hno2
      go_wp2
      go_ret
      exact ⟨by rw [unhide Hfin]; rfl, hb0.trans (hb.mono hb0s)⟩

/-- Where what is loaded begins and ends. -/
def spanL (L : List El.Sg) : Nat × Nat :=
  match L.head?, L.getLast? with
  | some f, some l => if l.addr + l.msz + 4095 ≤ 18446744073709551615 then (f.addr - f.addr % 4096, El.up (l.addr + l.msz)) else (0, 0)
  | _, _ => (0, 0)

set_option maxHeartbeats 2000000 in
theorem span_any (A : Option Addr) (n c B : Nat) (h : El.Hd) (w : World) (hB : B ≤ w.heap.size) (hl : Rd w B 6 A n (segCells h.segs)) (hn : n ≤ 4294967296) (hf : ∀ x ∈ h.segs, SgFit x) :
    Calls Try.prog 10 #[.agg #[.int .u16 h.type, .int .u64 h.entry, .int .u64 h.phoff, .slice A n c]] w fun e w' =>
      e = .returned (.tuple #[.int .u64 (spanL (El.loads h.segs)).1, .int .u64 (spanL (El.loads h.segs)).2]) ∧ Below w.heap.size w w' := by
  have hln : h.segs.length = n := by have := hl.1; rw [segCells_len] at this; omega
  have hll := loads_len h.segs
  have hlf := loads_mem hf
  have hload := fun (w' : World) (hb : Below w.heap.size w w') => loads_any A n c B h.segs h.type h.entry h.phoff w' (Nat.le_trans hB hb.size) (hl.below (hb.mono hB)) hn
  generalize El.loads h.segs = L at *
  generalize h.segs = SS at *
  have Hload := hide hload
  have Hlf := hide hlf
  clear hl hload hlf hf
  by_cases h0 : L = []
  · subst h0
    go_enter Try.func10, Try.ntmps10
    go_wp2_with (go_at_call 9; refine ((unhide Hload) _ ((Below.refl _ _).alloc (Nat.le_refl _) _)).mono ?_; rintro e w1 ⟨A2, c2, rfl, hown, hb1⟩)
    go_ret2
    exact ⟨rfl, below_new hb1⟩
  · obtain ⟨f, hf0⟩ : ∃ f, L[0]? = some f := ⟨_, List.getElem?_eq_getElem (List.length_pos_iff.2 h0)⟩
    obtain ⟨l, hl0⟩ : ∃ l, L[L.length - 1]? = some l := ⟨_, List.getElem?_eq_getElem (by have := List.length_pos_iff.2 h0; omega)⟩
    have hpos := List.length_pos_iff.2 h0
    have hsp : spanL L = if l.addr + l.msz + 4095 ≤ 18446744073709551615 then (f.addr - f.addr % 4096, El.up (l.addr + l.msz)) else (0, 0) := by
      unfold spanL
      rw [List.head?_eq_getElem?, hf0, List.getLast?_eq_getElem?, hl0]
    rw [hsp]
    have hnz : (((L.length : Nat) : Int) == 0) = false := by simp; exact h0
    have hi1 : (0 : Int) ≤ ((L.length : Nat) : Int) - 1 := by omega
    have hi2 : ((L.length : Nat) : Int) - 1 < ((L.length : Nat) : Int) := by omega
    have hi3 : (0 : Int) < ((L.length : Nat) : Int) := by omega
    have ff := (unhide Hlf) _ (List.mem_of_getElem? hf0)
    have lf := (unhide Hlf) _ (List.mem_of_getElem? hl0)
    obtain ⟨fk, ffl, fo, fa, ff', fm⟩ := f
    obtain ⟨lk, lfl, lo, la, lf', lm⟩ := l
    obtain ⟨i1, i2, i3, i4, i5, i6⟩ := ff
    obtain ⟨j1, j2, j3, j4, j5, j6⟩ := lf
    simp only at *
    have Hf0 := hide hf0
    have Hl0 := hide hl0
    clear hsp h0 hf0 hl0
    by_cases h1 : la + lm ≤ 18446744073709551615
    · by_cases h2 : la + lm + 4095 ≤ 18446744073709551615
      · rw [if_pos h2]
        go_enter Try.func10, Try.ntmps10
        go_wp2_with (first
          | (go_at_call 9; refine ((unhide Hload) _ ((Below.refl _ _).alloc (Nat.le_refl _) _)).mono ?_; rintro e w1 ⟨A2, c2, rfl, hown, hb1⟩; obtain ⟨b1, o1, rfl, hbb, c0, c1, c2', c3, c4, c5⟩ := seg_at (Rd.of_own hown) (unhide Hf0); obtain ⟨b2, o2, he, hbb2, d0, d1, d2', d3, d4, d5⟩ := seg_at (Rd.of_own hown) (unhide Hl0); obtain ⟨rfl, rfl⟩ : b1 = b2 ∧ o1 = o2 := (by injection he with he; injection he with h1 h2 h3; exact ⟨h1, h2⟩); simp only [Nat.zero_mul, Nat.add_zero] at c3; have Hb1 := hide hb1; clear hb1 hown c0 c1 c2' c4 c5 he)
          | (go_at_call 33; refine (add_yes _ _ _ (by omega) (by omega) (by omega)).mono ?_; rintro e w2 ⟨rfl, rfl⟩)
          | (go_at_call 31; refine (up_yes _ _ (by omega) (by omega)).mono ?_; rintro e w2 ⟨rfl, rfl⟩)
          | (go_at_call 34; refine (down_any _ _ (by omega) (by omega)).mono ?_; rintro e w2 ⟨rfl, rfl⟩))
        go_ret2
        refine ⟨?_, ((below_new (unhide Hb1)).alloc (below_new (unhide Hb1)).size _)⟩
        have e1 : ((fa - fa % 4096 : Nat) : Int) = (fa : Int) - (fa : Int) % 4096 := by omega
        have e2 : ((El.up (la + lm) : Nat) : Int) = ((la : Int) + (lm : Int) + 4095) - ((la : Int) + (lm : Int) + 4095) % 4096 := by unfold El.up; omega
        simp only [e1, e2]
        rfl
      · rw [if_neg h2]
        go_enter Try.func10, Try.ntmps10
        go_wp2_with (first
          | (go_at_call 9; refine ((unhide Hload) _ ((Below.refl _ _).alloc (Nat.le_refl _) _)).mono ?_; rintro e w1 ⟨A2, c2, rfl, hown, hb1⟩; obtain ⟨b1, o1, rfl, hbb, c0, c1, c2', c3, c4, c5⟩ := seg_at (Rd.of_own hown) (unhide Hf0); obtain ⟨b2, o2, he, hbb2, d0, d1, d2', d3, d4, d5⟩ := seg_at (Rd.of_own hown) (unhide Hl0); obtain ⟨rfl, rfl⟩ : b1 = b2 ∧ o1 = o2 := (by injection he with he; injection he with h1 h2 h3; exact ⟨h1, h2⟩); simp only [Nat.zero_mul, Nat.add_zero] at c3; have Hb1 := hide hb1; clear hb1 hown c0 c1 c2' c4 c5 he)
          | (go_at_call 33; refine (add_yes _ _ _ (by omega) (by omega) (by omega)).mono ?_; rintro e w2 ⟨rfl, rfl⟩)
          | (go_at_call 31; refine (up_no _ _ (by omega) (by omega)).mono ?_; rintro e w2 ⟨rfl, rfl⟩))
        go_ret2
        exact ⟨rfl, ((below_new (unhide Hb1)).alloc (below_new (unhide Hb1)).size _)⟩
    · rw [if_neg (by omega)]
      go_enter Try.func10, Try.ntmps10
      go_wp2_with (first
        | (go_at_call 9; refine ((unhide Hload) _ ((Below.refl _ _).alloc (Nat.le_refl _) _)).mono ?_; rintro e w1 ⟨A2, c2, rfl, hown, hb1⟩; obtain ⟨b1, o1, rfl, hbb, c0, c1, c2', c3, c4, c5⟩ := seg_at (Rd.of_own hown) (unhide Hf0); obtain ⟨b2, o2, he, hbb2, d0, d1, d2', d3, d4, d5⟩ := seg_at (Rd.of_own hown) (unhide Hl0); obtain ⟨rfl, rfl⟩ : b1 = b2 ∧ o1 = o2 := (by injection he with he; injection he with h1 h2 h3; exact ⟨h1, h2⟩); simp only [Nat.zero_mul, Nat.add_zero] at c3; have Hb1 := hide hb1; clear hb1 hown c0 c1 c2' c4 c5 he)
        | (go_at_call 33; refine (add_no _ _ _ (by omega) (by omega) (by omega) (by omega)).mono ?_; rintro e w2 ⟨rfl, rfl⟩)
        | (go_at_call 31; refine (up_yes _ _ (by omega) (by omega)).mono ?_; rintro e w2 ⟨rfl, rfl⟩))
      go_ret2
      exact ⟨rfl, ((below_new (unhide Hb1)).alloc (below_new (unhide Hb1)).size _)⟩

end Go.Proofs.Ytkonolmakpeocaa
