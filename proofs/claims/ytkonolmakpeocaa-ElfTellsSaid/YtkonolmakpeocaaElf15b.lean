/- The walks of the references Copy and Phdr of hostelref12 and of eqSegs. Conditions: the numbers fit their kinds; there are fewer than 2^32 headers. -/
import Derived.Test.YtkonolmakpeocaaElf15a
namespace Go.Proofs.Ytkonolmakpeocaa
set_option linter.unusedVariables false
set_option linter.unusedSimpArgs false
open Go.RowKit

theorem segCells_one (l : List El.Sg) : ∀ u ∈ segCells l, u.oneCell' = true := by
  intro u hu
  obtain ⟨s, _, hs⟩ := List.mem_flatMap.1 hu
  exact sgVals_one s u hs
theorem headInfo2 : (Try.prog.info? 28).map (·.size) = some 4 := by kernel_rfl
theorem headOne2 (a b c : Int) (A : Option Addr) (n k : Nat) : (#[.int .u16 a, .int .u64 b, .int .u64 c, .slice A n k] : Array Value).all (·.oneCell') = true := by simp [Value.oneCell']

set_option maxHeartbeats 2000000 in
theorem copyHead_any (A : Option Addr) (n c B : Nat) (l : List El.Sg) (ty en ph : Int) (w : World) (hB : B ≤ w.heap.size) (hl : Rd w B 6 A n (segCells l)) (hn : n ≤ 4294967296) :
    Calls Try.prog 14 #[.agg #[.int .u16 ty, .int .u64 en, .int .u64 ph, .slice A n c]] w fun e w' => ∃ A' c', e = .returned (.agg #[.int .u16 ty, .int .u64 en, .int .u64 ph, .slice A' n c']) ∧
      w'.ownsRow (w.heap.size + 2) 37 6 (.slice A' n c') n (segCells l) ∧ Below w.heap.size w w' := by
  have Hl := hide hl
  clear hl
  go_enter Try.func14, Try.ntmps14
  go_wp2_with (first
    | (at_builtin; refine wpList_app segTy rfl _ _ rfl (w.heap.size + 2) (.slice none 0 0) 0 [] rfl (World.ownsRow_nil _ _ _ _) B A n c (segCells l) rfl (((unhide Hl).alloc hB _).alloc (by simp; omega) _) (segCells_one l) (by omega) (by simp) ?_; intro A2 c2 w1 hown' hgrow hat; have Hgrow := hide hgrow; have Hown' := hide hown'; clear hgrow hat hown'; have hx := ((unhide Hgrow).block w.heap.size (by simp; omega) (by simp [Value.ownBlock])).trans ((Below.heap_alloc _ _ _ (by simp)).trans (heap_alloc_new _ _)); have hy := ((unhide Hgrow).block (w.heap.size + 1) (by simp) (by simp [Value.ownBlock])).trans (heap_alloc2_new _ _ _); obtain ⟨x0, x1, x2, x3⟩ := box_facts hx; have fx := frozen_of_row _ _ 3 _ _ hx; have Hx := hide hx; have Hy := hide hy; clear hx hy)
    | ((with_reducible refine (@id (wpList _ _ _ (Oper.mk none (Op.store 28 (.tmp 2) (.tmp 10)) _ _ _ none :: _) _ _) ?_)); refine wpList_store_row rfl 28 (.tmp 2) (.tmp 10) rfl (w.heap.size + 1) #[.int .u16 ty, .int .u64 en, .int .u64 ph, .slice A2 n c2] rfl rfl 28 _ ((Below.heap_setCell _ _ _ _ (by simp)).trans (unhide Hy)) headInfo2 rfl (headOne2 _ _ _ _ _ _) ?_))
  refine bodyPost_ret (results_cell_row (P := Try.prog) rfl _ _ (w.heap.size + 1) 28 #[.int .u16 ty, .int .u64 en, .int .u64 ph, .slice A2 n c2] (0, 0) _ rfl (setRow_heap _ _ _ _ _ _ ((Below.heap_setCell _ _ _ _ (by simp)).trans (unhide Hy))) Try.underlying28 rfl headInfo2) rfl ?_
  have hb0 : Below w.heap.size w w1 := (((Below.refl _ _).alloc (Nat.le_refl _) _).alloc (by simp) _).grown (unhide Hgrow) (by simp; omega) (fun k hk => by simp [Value.ownBlock] at hk)
  refine ⟨A2, c2, rfl, ?_, below_setRow (hb0.setCell (by simp) _) (by omega) _⟩
  have ho := unhide Hown'
  simp only [Nat.zero_add, List.nil_append] at ho
  exact own_same ho (fun g hg _ => (setRow_other _ _ g _ (by omega)).trans (Below.heap_setCell _ _ _ _ (by simp; omega)))

/-- The same segments, in two places. -/
theorem eqSegs_yes (A A' : Option Addr) (n c c' B : Nat) (l : List El.Sg) (w : World) (hB : B ≤ w.heap.size) (ha : Rd w B 6 A n (segCells l)) (hb : Rd w B 6 A' n (segCells l)) (hn : n ≤ 4294967296) :
    Calls Try.prog 19 #[.slice A n c, .slice A' n c'] w fun e w' => e = .returned (.bool true) ∧ Below w.heap.size w w' := by
  have hs := fun (w' : World) (hw : w' = w) => same_yes A A' n c c' B l 0 0 0 w' (by rw [hw]; exact hB) (by rw [hw]; exact ha) (by rw [hw]; exact hb) hn
  have Hs := hide hs
  clear hs ha hb
  go_enter Try.func19, Try.ntmps19
  go_wp2_with (go_at_call 13; refine ((unhide Hs) _ rfl).mono ?_; rintro e w1 ⟨rfl, hb1⟩)
  go_ret
  exact ⟨rfl, hb1⟩

/-- The predicate of the headers' load. -/
def phIn (ph n : Nat) (l : El.Sg) : Bool := decide (l.off ≤ ph) && decide (ph - l.off + n * 56 ≤ l.fsz)

set_option maxHeartbeats 4000000 in
theorem rphdr_any (A : Option Addr) (n c B : Nat) (h : El.Hd) (w : World) (hB : B ≤ w.heap.size) (hl : Rd w B 6 A n (segCells h.segs)) (hn : n ≤ 4294967296) (hf : ∀ x ∈ h.segs, SgFit x) (hph : h.phoff < 18446744073709551616) :
    Calls Try.prog 22 #[.agg #[.int .u16 h.type, .int .u64 h.entry, .int .u64 h.phoff, .slice A n c]] w fun e w' => e = .returned (.int .u64 (El.phdrOf h)) ∧ Below w.heap.size w w' := by
  have hln : h.segs.length = n := by have := hl.1; rw [segCells_len] at this; omega
  have hll := loads_len h.segs
  have hlf := loads_mem hf
  have hload := fun (w' : World) (hb : Below w.heap.size w w') => rloads_any A n c B h.segs h.type h.entry h.phoff w' (Nat.le_trans hB hb.size) (hl.below (hb.mono hB)) hn
  obtain ⟨r, hr⟩ : ∃ r, El.phdrOf h = r := ⟨_, rfl⟩
  rw [hr]
  have hr1 : ∀ s, El.firstK h.segs 6 = some s → r = s.addr := by intro s hs; rw [← hr]; unfold El.phdrOf; rw [hs]
  have hr2 : El.firstK h.segs 6 = none → ∀ l, (El.loads h.segs).find? (phIn h.phoff n) = some l → r = if l.addr + (h.phoff - l.off) < 18446744073709551616 then l.addr + (h.phoff - l.off) else 0 := by
    intro hs l hfl
    unfold phIn at hfl
    rw [← hr]
    unfold El.phdrOf
    rw [hs, hln, hfl]
  have hr3 : El.firstK h.segs 6 = none → (El.loads h.segs).find? (phIn h.phoff n) = none → r = 0 := by
    intro hs hfl
    unfold phIn at hfl
    rw [← hr]
    unfold El.phdrOf
    rw [hs, hln, hfl]
  have Hr1 := hide hr1
  have Hr2 := hide hr2
  have Hr3 := hide hr3
  clear hr1 hr2 hr3 hr
  unfold El.firstK at Hr1 Hr2 Hr3
  have hL32 : (El.loads h.segs).length ≤ 4294967296 := by omega
  generalize El.loads h.segs = L at *
  generalize h.segs = SS at *
  generalize h.phoff = ph at *
  generalize h.type = ty at *
  generalize h.entry = en at *
  have Hload := hide hload
  have Hlf := hide hlf
  have Hl := hide hl
  have Hln := hide hln
  clear hload hlf hl hf hln
  go_enter Try.func22, Try.ntmps22
  go_wp2
  go_loopg [3] n (fun gk i wr => ∃ k : Nat, gk = n - k ∧ k ≤ n ∧ i = .int .i64 k ∧ (SS.take k).find? (fun s => s.kind == 6) = none ∧ wr = w.alloc (.cells #[.int .u16 ty, .int .u64 en, .int .u64 ph, .slice A n c] 28))
  case atStart => exact ⟨0, by omega, Nat.zero_le _, rfl, rfl, rfl⟩
  case round =>
  obtain ⟨k, hgk, hk, rfl, hno, rfl⟩ := hrel
  have Hgk := hide hgk
  have Hno := hide hno
  clear hgk hno
  rcases Nat.lt_or_ge k n with hlt | hge
  case inl =>
    obtain ⟨s, hs⟩ : ∃ s, SS[k]? = some s := ⟨_, List.getElem?_eq_getElem (by rw [unhide Hln]; exact hlt)⟩
    obtain ⟨b1, o1, rfl, hbb, c0, c1, c2, c3, c4, c5⟩ := seg_at ((unhide Hl).alloc hB (.cells #[.int .u16 ty, .int .u64 en, .int .u64 ph, .slice A n c] 28)) hs
    obtain ⟨sk, sfl, so, sa, sf, sm⟩ := s
    simp only at c0 c1 c2 c3 c4 c5
    by_cases he : sk = 6
    · have he' : (((sk : Nat) : Int) == 6) = true := beq_iff_eq.2 (by omega)
      have hh := (unhide Hr1) _ (find_hit (unhide Hno) hs (by simp [he]))
      have Hh := hide hh
      clear hh hs he
      go_wp2
      go_ret
      exact ⟨ret_int (by rw [unhide Hh]), (Below.refl _ _).alloc (Nat.le_refl _) _⟩
    · have he' : (((sk : Nat) : Int) == 6) = false := beq_eq_false_iff_ne.2 (by omega)
      have hno2 := find_none_snoc (unhide Hno) hs (by simp [he])
      have Hno2 := hide hno2
      clear hno2 hs he
      go_wp2
      go_roundg (n - (k + 1))
      case measure => have := unhide Hgk; omega
      case rel => exact ⟨k + 1, rfl, by omega, by go_num, unhide Hno2, rfl⟩
  obtain rfl : k = n := by omega
  have hfst : SS.find? (fun s => s.kind == 6) = none := by
    have := unhide Hno
    rwa [List.take_of_length_le (by have := unhide Hln; omega)] at this
  have hr2 := (unhide Hr2) hfst
  have hr3 := (unhide Hr3) hfst
  have Hr2' := hide hr2
  have Hr3' := hide hr3
  clear hr2 hr3 hfst Hr1 Hr2 Hr3 Hno Hgk
  go_wp2_with fail
  refine ((unhide Hload) _ ((Below.refl _ _).alloc (Nat.le_refl _) _)).mono ?_
  rintro e w2 ⟨A2, c2, rfl, hown, hb3⟩
  have hb4 := below_new hb3
  have hx4 := newblk hb3
  have hrd := Rd.of_own hown
  have hb4s := hb4.size
  have Hrd := hide hrd
  have Hb4 := hide hb4
  have Hx4 := hide hx4
  clear hown hb3 hrd hx4 hb4
  go_wp2_with fail
  go_loopg [5] L.length (fun gk i wr => ∃ j : Nat, gk = L.length - j ∧ j ≤ L.length ∧ i = .int .i64 j ∧ (L.take j).find? (phIn ph k) = none ∧ Below w2.heap.size w2 wr)
  case atStart => exact ⟨0, by omega, Nat.zero_le _, rfl, rfl, Below.refl _ _⟩
  case round =>
  obtain ⟨j, hgk, hj, rfl, hno, hb⟩ := hrel
  have hsz2 := hb.size
  have hx5 := (hb.block _ (lt_of_block (unhide Hx4))).trans (unhide Hx4)
  have hsz5 := lt_of_block hx5
  obtain ⟨x0, x1, x2, x3⟩ := box_facts hx5
  have Hgk := hide hgk
  have Hno := hide hno
  have Hb := hide hb
  clear hgk hno hx5 x0 x1 hb
  rcases Nat.lt_or_ge j L.length with hlt | hge2
  case inr =>
    obtain rfl : j = L.length := by omega
    have hno2 : L.find? (phIn ph k) = none := by
      have := unhide Hno
      rwa [List.take_of_length_le (by omega)] at this
    have hr := (unhide Hr3') hno2
    have Hr := hide hr
    clear hr hno2
    go_wp2
    go_ret
    exact ⟨ret_int (by rw [unhide Hr]; rfl), (unhide Hb4).trans ((unhide Hb).mono hb4s)⟩
  obtain ⟨l, hlk⟩ : ∃ l, L[j]? = some l := ⟨_, List.getElem?_eq_getElem hlt⟩
  obtain ⟨b1, o1, rfl, hbb, c0, c1, c2', c3, c4, c5⟩ := seg_at ((unhide Hrd).below (unhide Hb)) hlk
  obtain ⟨lk, lfl, lo, la, lf, lm⟩ := l
  obtain ⟨j1, j2, j3, j4, j5, j6⟩ := (unhide Hlf) _ (List.mem_of_getElem? hlk)
  simp only at j1 j2 j3 j4 j5 j6 c0 c1 c2' c3 c4 c5
  have Hlk := hide hlk
  have z0 : (0 : Int) ≤ (j : Int) := by omega
  have z1 : (j : Int) < ((L.length : Nat) : Int) := by omega
  clear hlk c0 c1 c5
  by_cases h1 : lo ≤ ph
  · have i1 : decide (lo ≤ ph) = true := by simpa using h1
    have i1' : ((lo : Nat) : Int) ≤ ((ph : Nat) : Int) := by omega
    have hw1 : IntKind.u64.wrap (((ph : Nat) : Int) - ((lo : Nat) : Int)) = ((ph : Nat) : Int) - ((lo : Nat) : Int) := IntWalk.u64_in _ (by omega)
    have hw2 : IntKind.u64.wrap (((k : Nat) : Int) * 56) = ((k : Nat) : Int) * 56 := IntWalk.u64_in _ (by omega)
    have hw3 : IntKind.u64.wrap ((k : Nat) : Int) = ((k : Nat) : Int) := IntWalk.u64_in _ (by omega)
    have hins := fun (w' : World) => rinside_any (((ph : Nat) : Int) - ((lo : Nat) : Int)) (((k : Nat) : Int) * 56) ((lf : Nat) : Int) w' (by omega) (by omega) (by omega) (by omega) (by omega) (by omega)
    by_cases h2 : ph - lo + k * 56 ≤ lf
    · rw [show decide (((ph : Nat) : Int) - ((lo : Nat) : Int) + ((k : Nat) : Int) * 56 ≤ ((lf : Nat) : Int)) = true from by simp; omega] at hins
      have hhit := (unhide Hr2') _ (find_hit (unhide Hno) (unhide Hlk) (by simp [phIn, h1, h2]))
      have Hhit := hide hhit
      have Hins := hide hins
      clear hhit h2 hins
      go_wp2_with fail
      go_quiet ((go_at_call 41; exact Calls.quiet_of_same (unflipw ((unhide Hins) _))))
      have hbq := below_drewN' (unhide Hb) nq
      have x2q : (wr.drewN nq).cell? _ = _ := x2
      have c2q : (wr.drewN nq).cell? _ = _ := c2'
      have c3q : (wr.drewN nq).cell? _ = _ := c3
      clear Hb x2 x3 c2' c3 c4
      generalize wr.drewN nq = W at *
      have Hb := hide hbq
      clear hbq
      by_cases h3 : la + (ph - lo) < 18446744073709551616
      · have radd := fun (w' : World) => radd_yes la (((ph : Nat) : Int) - ((lo : Nat) : Int)) w' (by omega) (by omega) (by omega)
        have Radd := hide radd
        clear radd
        go_wp2_with fail
        go_quiet ((go_at_call 35; exact Calls.quiet_of_same (unflipw ((unhide Radd) _))))
        go_wp2_with fail
        go_ret
        refine ⟨ret_int ?_, (unhide Hb4).trans ((below_drewN' (unhide Hb) _).mono hb4s)⟩
        have hr := unhide Hhit
        rw [if_pos h3] at hr
        omega
      · have radd := fun (w' : World) => radd_no la (((ph : Nat) : Int) - ((lo : Nat) : Int)) w' (by omega) (by omega) (by omega) (by omega) (by omega)
        have Radd := hide radd
        clear radd
        go_wp2_with fail
        go_quiet ((go_at_call 35; exact Calls.quiet_of_same (unflipw ((unhide Radd) _))))
        go_wp2_with fail
        go_ret
        refine ⟨ret_int ?_, (unhide Hb4).trans ((below_drewN' (unhide Hb) _).mono hb4s)⟩
        have hr := unhide Hhit
        rw [if_neg h3] at hr
        omega
    · rw [show decide (((ph : Nat) : Int) - ((lo : Nat) : Int) + ((k : Nat) : Int) * 56 ≤ ((lf : Nat) : Int)) = false from by simp; omega] at hins
      have hno2 := find_none_snoc (unhide Hno) (unhide Hlk) (by simp [phIn, h2])
      have Hno2 := hide hno2
      have Hins := hide hins
      clear hno2 h2 hins
      go_wp2_with fail
      go_quiet ((go_at_call 41; exact Calls.quiet_of_same (unflipw ((unhide Hins) _))))
      go_wp2_with fail
      go_roundg (L.length - (j + 1))
      case measure => have := unhide Hgk; omega
      case rel => exact ⟨j + 1, rfl, by omega, by go_num, unhide Hno2, below_drewN' (unhide Hb) _⟩
  · have i1 : decide (lo ≤ ph) = false := by simpa using h1
    have hno2 := find_none_snoc (unhide Hno) (unhide Hlk) (by simp [phIn, h1])
    have Hno2 := hide hno2
    clear hno2 h1
    go_wp2_with fail
    go_quiet (fail)
    go_wp2_with fail
    go_roundg (L.length - (j + 1))
    case measure => have := unhide Hgk; omega
    case rel => exact ⟨j + 1, rfl, by omega, by go_num, unhide Hno2, below_drewN' (unhide Hb) _⟩

end Go.Proofs.Ytkonolmakpeocaa
