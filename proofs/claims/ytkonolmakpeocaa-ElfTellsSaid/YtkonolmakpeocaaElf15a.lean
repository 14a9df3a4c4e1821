/- The walks of the references Inside, Add, Down, Up of hostelref01 and of Loads and Span of hostelref12. Conditions: the numbers fit their kinds; there are fewer than 2^32 headers. -/
import Derived.Test.YtkonolmakpeocaaElf10
import Derived.Test.YtkonolmakpeocaaElf10b
import Derived.Test.YtkonolmakpeocaaElf8
import Derived.Deep.LoopGhost
namespace Go.Proofs.Ytkonolmakpeocaa
set_option linter.unusedVariables false
set_option linter.unusedSimpArgs false
open Go.RowKit

theorem unflipw {P : Program} {f : FuncId} {args : Array Value} {w : World} {r : Ending} (h : Calls P f args w fun e w' => e = r ∧ w = w') : Calls P f args w fun e w' => e = r ∧ w' = w :=
  h.mono fun _ _ ⟨a, b⟩ => ⟨a, b.symm⟩

theorem rinside_any (a b c : Int) (w : World) (h0 : 0 ≤ a) (h1 : a ≤ 18446744073709551615) (h2 : 0 ≤ b) (h3 : b ≤ 18446744073709551615) (h4 : 0 ≤ c) (h5 : c ≤ 18446744073709551615) :
    Calls Try.prog 41 #[.int .u64 a, .int .u64 b, .int .u64 c] w fun e w' => e = .returned (.bool (decide (a + b ≤ c))) ∧ w = w' := by
  by_cases h : b ≤ c
  · have hr : decide (a + b ≤ c) = decide (a ≤ c - b) := by rw [decide_eq_decide]; omega
    rw [hr]
    have Hr := hide hr
    clear hr
    go_enter Try.func41, Try.ntmps41
    go_wp2
    go_ret
    exact ⟨rfl, rfl⟩
  · have hr : decide (a + b ≤ c) = false := decide_eq_false (by omega)
    rw [hr]
    clear hr
    go_enter Try.func41, Try.ntmps41
    go_wp2
    go_ret
    exact ⟨rfl, rfl⟩
theorem radd_yes (a b : Int) (w : World) (h0 : 0 ≤ a) (h2 : 0 ≤ b) (h : a + b ≤ 18446744073709551615) :
    Calls Try.prog 35 #[.int .u64 a, .int .u64 b] w fun e w' => e = .returned (.tuple #[.int .u64 (a + b), .bool true]) ∧ w = w' := by
  go_enter Try.func35, Try.ntmps35
  go_wp2
  go_ret2
  exact ⟨rfl, rfl⟩
theorem radd_no (a b : Int) (w : World) (h0 : 0 ≤ a) (h1 : a ≤ 18446744073709551615) (h2 : 0 ≤ b) (h3 : b ≤ 18446744073709551615) (h : 18446744073709551615 < a + b) :
    Calls Try.prog 35 #[.int .u64 a, .int .u64 b] w fun e w' => e = .returned (.tuple #[.int .u64 0, .bool false]) ∧ w = w' := by
  obtain ⟨c, hc, hc2⟩ : ∃ c, IntKind.u64.wrap (a + b) = c ∧ c < a := ⟨_, rfl, by rw [IntKind.wrap_u64]; omega⟩
  go_enter Try.func35, Try.ntmps35
  go_wp2
  go_ret2
  exact ⟨rfl, rfl⟩
theorem rdown_any (a : Int) (w : World) (h0 : 0 ≤ a) (h1 : a ≤ 18446744073709551615) :
    Calls Try.prog 37 #[.int .u64 a] w fun e w' => e = .returned (.int .u64 (a - a % 4096)) ∧ w = w' := by
  go_enter Try.func37, Try.ntmps37
  go_wp2
  go_ret
  exact ⟨rfl, rfl⟩
theorem rup_yes (a : Nat) (w : World) (h : a + 4095 ≤ 18446744073709551615) :
    Calls Try.prog 36 #[.int .u64 a] w fun e w' => e = .returned (.tuple #[.int .u64 (El.up a), .bool true]) ∧ w = w' := by
  by_cases h0 : a % 4096 = 0
  · have q : (((a : Nat) : Int) % 4096 == 0) = true := beq_iff_eq.2 (by omega)
    have e : El.up a = a := by unfold El.up; omega
    rw [e]
    clear h0 e
    go_enter Try.func36, Try.ntmps36
    go_wp2
    go_ret2
    exact ⟨rfl, rfl⟩
  · have q : (((a : Nat) : Int) % 4096 == 0) = false := beq_eq_false_iff_ne.2 (by omega)
    have e : ((El.up a : Nat) : Int) = (a : Int) - (a : Int) % 4096 + 4096 := by unfold El.up; omega
    rw [e]
    clear e
    go_enter Try.func36, Try.ntmps36
    go_wp2_with (first
      | (go_at_call 37; refine (rdown_any _ _ (by omega) (by omega)).mono ?_; rintro e w' ⟨rfl, rfl⟩)
      | (go_at_call 35; refine (radd_yes _ _ _ (by omega) (by omega) (by omega)).mono ?_; rintro e w' ⟨rfl, rfl⟩))
    go_ret2
    exact ⟨rfl, rfl⟩
theorem rup_no (a : Nat) (w : World) (h1 : a ≤ 18446744073709551615) (h : 18446744073709551615 < a + 4095) :
    Calls Try.prog 36 #[.int .u64 a] w fun e w' => e = .returned (.tuple #[.int .u64 0, .bool false]) ∧ w = w' := by
  have q : (((a : Nat) : Int) % 4096 == 0) = false := beq_eq_false_iff_ne.2 (by omega)
  go_enter Try.func36, Try.ntmps36
  go_wp2_with (first
    | (go_at_call 37; refine (rdown_any _ _ (by omega) (by omega)).mono ?_; rintro e w' ⟨rfl, rfl⟩)
    | (go_at_call 35; refine (radd_no _ _ _ (by omega) (by omega) (by omega) (by omega) (by omega)).mono ?_; rintro e w' ⟨rfl, rfl⟩))
  go_ret2
  exact ⟨rfl, rfl⟩

set_option maxHeartbeats 2000000 in
theorem rloads_any (A : Option Addr) (n c B : Nat) (l : List El.Sg) (ty en ph : Int) (w : World) (hB : B ≤ w.heap.size) (hl : Rd w B 6 A n (segCells l)) (hn : n ≤ 4294967296) :
    Calls Try.prog 20 #[.agg #[.int .u16 ty, .int .u64 en, .int .u64 ph, .slice A n c]] w fun e w' => ∃ A' c', e = .returned (.slice A' (El.loads l).length c') ∧
      w'.ownsRow (w.heap.size + 1) 37 6 (.slice A' (El.loads l).length c') (El.loads l).length (segCells (El.loads l)) ∧ Below w.heap.size w w' := by
  have hln : l.length = n := by have := hl.1; rw [segCells_len] at this; omega
  have Hl := hide hl
  have Hln := hide hln
  clear hl hln
  go_enter Try.func20, Try.ntmps20
  go_wp2
  go_loopg [3, 4] n (fun gk out i wr => ∃ (k : Nat) (A' : Option Addr) (c' : Nat) (o : List El.Sg), gk = n - k ∧ k ≤ n ∧ i = .int .i64 k ∧ out = .slice A' o.length c' ∧ o = El.loads (l.take k) ∧ o.length ≤ k ∧
    wr.ownsRow (w.heap.size + 1) 37 6 (.slice A' o.length c') o.length (segCells o) ∧ Below w.heap.size w wr ∧ wr.heap[w.heap.size]? = some (.cells #[.int .u16 ty, .int .u64 en, .int .u64 ph, .slice A n c] 28 (0, 0)))
  case atStart => exact ⟨0, none, 0, [], by omega, Nat.zero_le _, rfl, rfl, rfl, Nat.le_refl _, World.ownsRow_nil _ _ _ _, (Below.refl _ _).alloc (Nat.le_refl _) _, heap_alloc_new _ _⟩
  case round =>
    obtain ⟨k, A', c', o, hgk, hk, rfl, rfl, ho, hok, hown, hb, hx⟩ := hrel
    have Ho := hide ho
    have Hgk := hide hgk
    have hsz := hb.size
    have hsx := lt_of_block hx
    obtain ⟨x0, x1, x2, x3⟩ := box_facts hx
    have Hx := hide hx
    have Hb := hide hb
    have Hown := hide hown
    clear ho hgk hx x0 x1 x2 hb hown
    by_cases hlt : k < n
    · obtain ⟨s, hs⟩ : ∃ s, l[k]? = some s := ⟨_, List.getElem?_eq_getElem (by rw [unhide Hln]; exact hlt)⟩
      obtain ⟨b1, o1, rfl, hbb, c0, c1, c2, c3, c4, c5⟩ := seg_at ((unhide Hl).below ((unhide Hb).mono hB)) hs
      by_cases hc : s.kind = 1
      · have hbq : (((s.kind : Nat) : Int) == 1) = true := by rw [hc]; rfl
        have ho2 : o ++ [s] = El.loads (l.take (k + 1)) := by
          rw [List.take_add_one, hs, unhide Ho]
          simp [El.loads, El.isLoad, hc]
        have Ho2 := hide ho2
        clear ho2 hs hc
        go_wp2_with (at_builtin; go_loud (refine wpList_app1g segTy rfl _ _ rfl (w.heap.size + 1) (.slice A' o.length c') o.length (segCells o) rfl (unhide Hown) #[.int .u32 s.kind, .int .u8 s.flags, .int .u64 s.off, .int .u64 s.addr, .int .u64 s.fsz, .int .u64 s.msz] _ rfl (by simp) rfl (sgVals_one s) (by omega) (by omega) ?_; intro A2 c2 w1 hown' hgrow hat; have Hgrow := hide hgrow; have Hown' := hide hown'; clear hgrow hat hown'))
        have hx1 := ((unhide Hgrow).block w.heap.size (by omega) (by intro e; have := ((unhide Hown).lt _ e.symm).1; omega)).trans (unhide Hx)
        have hb1 := (unhide Hb).grown (unhide Hgrow) hsz (fun k hk => by have := ((unhide Hown).lt k hk).1; omega)
        have Hb1 := hide hb1
        have Hx1 := hide hx1
        clear hb1 hx1
        go_roundg (n - (k + 1))
        case measure => have := unhide Hgk; omega
        case rel =>
          refine ⟨k + 1, A2, c2, o ++ [s], rfl, by omega, by go_num, by simp, unhide Ho2, by simp; omega, ?_, unhide Hb1, unhide Hx1⟩
          rw [segCells_snoc]
          simpa using unhide Hown'
      · have hbq : (((s.kind : Nat) : Int) == 1) = false := beq_eq_false_iff_ne.2 (by omega)
        have ho2 : o = El.loads (l.take (k + 1)) := by
          rw [List.take_add_one, hs, unhide Ho]
          simp [El.loads, El.isLoad, hc]
        have Ho2 := hide ho2
        clear ho2 hs hc
        go_wp2
        go_roundg (n - (k + 1))
        case measure => have := unhide Hgk; omega
        case rel => exact ⟨k + 1, A', c', o, rfl, by omega, by go_num, rfl, unhide Ho2, by omega, unhide Hown, unhide Hb, unhide Hx⟩
    · have ho2 : o = El.loads l := by
        have := unhide Ho
        rwa [List.take_of_length_le (by have := unhide Hln; omega)] at this
      have Ho2 := hide ho2
      clear ho2
      go_wp2
      go_ret
      rw [← unhide Ho2]
      exact ⟨A', c', rfl, unhide Hown, unhide Hb⟩

set_option maxHeartbeats 2000000 in
theorem rspan_any (A : Option Addr) (n c B : Nat) (h : El.Hd) (w : World) (hB : B ≤ w.heap.size) (hl : Rd w B 6 A n (segCells h.segs)) (hn : n ≤ 4294967296) (hf : ∀ x ∈ h.segs, SgFit x) :
    Calls Try.prog 16 #[.agg #[.int .u16 h.type, .int .u64 h.entry, .int .u64 h.phoff, .slice A n c]] w fun e w' =>
      e = .returned (.tuple #[.int .u64 (spanL (El.loads h.segs)).1, .int .u64 (spanL (El.loads h.segs)).2]) ∧ Below w.heap.size w w' := by
  have hln : h.segs.length = n := by have := hl.1; rw [segCells_len] at this; omega
  have hll := loads_len h.segs
  have hlf := loads_mem hf
  have hload := fun (w' : World) (hb : Below w.heap.size w w') => rloads_any A n c B h.segs h.type h.entry h.phoff w' (Nat.le_trans hB hb.size) (hl.below (hb.mono hB)) hn
  generalize El.loads h.segs = L at *
  generalize h.segs = SS at *
  have Hload := hide hload
  have Hlf := hide hlf
  clear hl hload hlf hf
  obtain ⟨⟨sl, sh⟩, hsv⟩ : ∃ p, spanL L = p := ⟨_, rfl⟩
  rw [hsv]
  simp only
  by_cases h0 : L = []
  · subst h0
    obtain ⟨rfl, rfl⟩ : 0 = sl ∧ 0 = sh := by injection hsv with e1 e2; exact ⟨e1, e2⟩
    clear hsv
    go_enter Try.func16, Try.ntmps16
    go_wp2_with (go_at_call 20; refine ((unhide Hload) _ ((Below.refl _ _).alloc (Nat.le_refl _) _)).mono ?_; rintro e w1 ⟨A2, c2, rfl, hown, hb1⟩)
    go_ret2
    exact ⟨rfl, below_new hb1⟩
  · obtain ⟨f, hf0⟩ : ∃ f, L[0]? = some f := ⟨_, List.getElem?_eq_getElem (List.length_pos_iff.2 h0)⟩
    obtain ⟨l, hl0⟩ : ∃ l, L[L.length - 1]? = some l := ⟨_, List.getElem?_eq_getElem (by have := List.length_pos_iff.2 h0; omega)⟩
    have hpos := List.length_pos_iff.2 h0
    have hsp : spanL L = if l.addr + l.msz + 4095 ≤ 18446744073709551615 then (f.addr - f.addr % 4096, El.up (l.addr + l.msz)) else (0, 0) := by
      unfold spanL
      rw [List.head?_eq_getElem?, hf0, List.getLast?_eq_getElem?, hl0]
    rw [hsv] at hsp
    clear hsv
    have hnz : (((L.length : Nat) : Int) == 0) = false := beq_eq_false_iff_ne.2 (by omega)
    have hi1 : (0 : Int) ≤ ((L.length : Nat) : Int) - 1 := by omega
    have hi2 : ((L.length : Nat) : Int) - 1 < ((L.length : Nat) : Int) := by omega
    have hi3 : (0 : Int) < ((L.length : Nat) : Int) := by omega
    have hi4 : IntKind.i64.wrap (((L.length : Nat) : Int) - 1) = ((L.length : Nat) : Int) - 1 := IntWalk.i64_in _ (by omega)
    have hi5 : (((L.length : Nat) : Int) - 1).toNat = L.length - 1 := by omega
    have ff := (unhide Hlf) _ (List.mem_of_getElem? hf0)
    have lf := (unhide Hlf) _ (List.mem_of_getElem? hl0)
    obtain ⟨fk, ffl, fo, fa, ff', fm⟩ := f
    obtain ⟨lk, lfl, lo, la, lf', lm⟩ := l
    obtain ⟨i1, i2, i3, i4, i5, i6⟩ := ff
    obtain ⟨j1, j2, j3, j4, j5, j6⟩ := lf
    simp only at *
    have Hsp := hide hsp
    have Hf0 := hide hf0
    have Hl0 := hide hl0
    clear hsp h0 hf0 hl0
    go_enter Try.func16, Try.ntmps16
    go_wp2_with fail
    refine ((unhide Hload) _ ((Below.refl _ _).alloc (Nat.le_refl _) _)).mono ?_
    rintro e w1 ⟨A2, c2, rfl, hown, hb1⟩
    have hsz := hb1.size
    have hb01 := below_new hb1
    obtain ⟨b1, o1, rfl, hbb, c0, c1, c2', c3, c4, c5⟩ := seg_at (Rd.of_own hown) (unhide Hf0)
    obtain ⟨b2, o2, he, hbb2, d0, d1, d2', d3, d4, d5⟩ := seg_at (Rd.of_own hown) (unhide Hl0)
    obtain ⟨rfl, rfl⟩ : b1 = b2 ∧ o1 = o2 := by injection he with he; injection he with h1 h2 h3; exact ⟨h1, h2⟩
    simp only [Nat.zero_mul, Nat.add_zero] at c3
    have Hb1 := hide hb01
    clear hb1 hb01 hown c0 c1 c2' c4 c5 d0 d1 d2' d4 he
    by_cases h1 : la + lm ≤ 18446744073709551615
    · have radd := fun (w' : World) => radd_yes la lm w' (by omega) (by omega) (by omega)
      have Radd := hide radd
      clear radd
      go_wp2_with fail
      go_quiet ((go_at_call 35; exact Calls.quiet_of_same (unflipw ((unhide Radd) _))))
      have hb1q := below_drewN' (unhide Hb1) nq
      have c3q : (w1.drewN nq).cell? _ = _ := c3
      clear Hb1 c3 d3 d5
      generalize w1.drewN nq = W at *
      have Hb1 := hide hb1q
      clear hb1q
      by_cases h2 : la + lm + 4095 ≤ 18446744073709551615
      · have rup := fun (w' : World) => rup_yes (la + lm) w' h2
        have e2 : (((la + lm : Nat) : Nat) : Int) = (la : Int) + (lm : Int) := by omega
        rw [e2] at rup
        have Rup := hide rup
        clear rup e2
        go_wp2_with (first
          | (go_at_call 36; refine ((unhide Rup) _).mono ?_; rintro e w2 ⟨rfl, rfl⟩)
          | (go_at_call 37; refine (rdown_any _ _ (by omega) (by omega)).mono ?_; rintro e w2 ⟨rfl, rfl⟩))
        go_ret2
        have hsp := unhide Hsp
        rw [if_pos h2] at hsp
        injection hsp with e1 e2
        have e3 : ((sl : Nat) : Int) = (fa : Int) - (fa : Int) % 4096 := by omega
        rw [e3, e2]
        exact ⟨rfl, unhide Hb1⟩
      · have rup := fun (w' : World) => rup_no (la + lm) w' (by omega) (by omega)
        have e2 : (((la + lm : Nat) : Nat) : Int) = (la : Int) + (lm : Int) := by omega
        rw [e2] at rup
        have Rup := hide rup
        clear rup e2
        go_wp2_with (go_at_call 36; refine ((unhide Rup) _).mono ?_; rintro e w2 ⟨rfl, rfl⟩)
        go_ret2
        have hsp := unhide Hsp
        rw [if_neg h2] at hsp
        injection hsp with e1 e2
        rw [e1, e2]
        exact ⟨rfl, unhide Hb1⟩
    · have radd := fun (w' : World) => radd_no la lm w' (by omega) (by omega) (by omega) (by omega) (by omega)
      have Radd := hide radd
      clear radd
      have rup := fun (w' : World) => rup_yes 0 w' (by omega)
      have e2 : ((El.up 0 : Nat) : Int) = 0 := by rfl
      rw [e2] at rup
      have Rup := hide rup
      clear rup e2
      go_wp2_with fail
      go_quiet ((go_at_call 35; exact Calls.quiet_of_same (unflipw ((unhide Radd) _))))
      have hb1q := below_drewN' (unhide Hb1) nq
      clear Hb1 c3 d3 d5
      generalize w1.drewN nq = W at *
      have Hb1 := hide hb1q
      clear hb1q
      go_wp2_with (go_at_call 36; refine ((unhide Rup) _).mono ?_; rintro e w2 ⟨rfl, rfl⟩)
      go_ret2
      have hsp := unhide Hsp
      rw [if_neg (by omega)] at hsp
      injection hsp with e1 e2
      rw [e1, e2]
      exact ⟨rfl, unhide Hb1⟩

end Go.Proofs.Ytkonolmakpeocaa
