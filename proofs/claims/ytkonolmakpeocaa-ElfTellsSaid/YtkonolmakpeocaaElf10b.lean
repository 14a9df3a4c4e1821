/- The walks of first and of Phdr. Conditions: the numbers fit their kinds; there are fewer than 2^32 headers. -/
import Derived.Test.YtkonolmakpeocaaElf5
import Derived.Test.YtkonolmakpeocaaMore
import Derived.Test.YtkonolmakpeocaaElf2z
namespace Go.Proofs.Ytkonolmakpeocaa
set_option linter.unusedVariables false
set_option linter.unusedSimpArgs false
open Go.RowKit

def El.firstK (l : List El.Sg) (q : Nat) : Option El.Sg := l.find? fun s => s.kind == q
def El.zeroSg : El.Sg := ⟨0, 0, 0, 0, 0, 0⟩
/-- What first answers. -/
def FirstEnd (l : List El.Sg) (q : Nat) (w : World) (e : Ending) (w' : World) : Prop :=
  e = .returned (.tuple #[segVal ((El.firstK l q).getD El.zeroSg), .bool (El.firstK l q).isSome]) ∧ Below w.heap.size w w'
theorem first_yes {l : List El.Sg} {q : Nat} {w w' : World} {k fl o a f z : Nat} (h : El.firstK l q = some ⟨k, fl, o, a, f, z⟩) (hb : Below w.heap.size w w') :
    FirstEnd l q w (.returned (.tuple #[.agg #[.int .u32 k, .int .u8 fl, .int .u64 o, .int .u64 a, .int .u64 f, .int .u64 z], .bool true])) w' := by
  unfold FirstEnd
  rw [h]
  exact ⟨rfl, hb⟩
theorem first_no {l : List El.Sg} {q : Nat} {w w' : World} (h : El.firstK l q = none) (hb : Below w.heap.size w w') :
    FirstEnd l q w (.returned (.tuple #[.agg #[.int .u32 0, .int .u8 0, .int .u64 0, .int .u64 0, .int .u64 0, .int .u64 0], .bool false])) w' := by
  unfold FirstEnd
  rw [h]
  exact ⟨rfl, hb⟩

set_option maxHeartbeats 2000000 in
theorem first_any (A : Option Addr) (n c B : Nat) (l : List El.Sg) (ty en ph : Int) (q : Nat) (w : World) (hB : B ≤ w.heap.size) (hl : Rd w B 6 A n (segCells l)) (hn : n ≤ 4294967296) :
    Calls Try.prog 38 #[.agg #[.int .u16 ty, .int .u64 en, .int .u64 ph, .slice A n c], .int .u32 q] w (FirstEnd l q w) := by
  have hln : l.length = n := by have := hl.1; rw [segCells_len] at this; omega
  have Hl := hide hl
  have Hln := hide hln
  clear hl hln
  go_enter Try.func38, Try.ntmps38
  go_wp2
  go_loopw [11] (fun i wr => ∃ k : Nat, k ≤ n ∧ i = .int .i64 k ∧ (l.take k).find? (fun s => s.kind == q) = none ∧ Below w.heap.size w wr ∧ wr.heap[w.heap.size + 1]? = some (.cells #[.int .u32 0, .int .u8 0, .int .u64 0, .int .u64 0, .int .u64 0, .int .u64 0] 37 (0, 0))) (fun i _ => n - (intOf i).toNat)
  case atStart => exact ⟨0, Nat.zero_le _, rfl, rfl, ((Below.refl _ _).alloc (Nat.le_refl _) _).alloc (by simp) _, heap_alloc2_new _ _ _⟩
  case round =>
    obtain ⟨k, hk, rfl, hno, hbl, hx⟩ := hrel
    have hsz := hbl.size
    have hsz1 := lt_of_block hx
    have Hno := hide hno
    have Hbl := hide hbl
    have Hx := hide hx
    clear hno hbl hx
    by_cases hlt : k < n
    · obtain ⟨s, hs⟩ : ∃ s, l[k]? = some s := ⟨_, List.getElem?_eq_getElem (by rw [unhide Hln]; exact hlt)⟩
      obtain ⟨b1, o1, rfl, hbb, c0, c1, c2, c3, c4, c5⟩ := seg_at ((unhide Hl).below ((unhide Hbl).mono hB)) hs
      obtain ⟨sk, sfl, so, sa, sf, sm⟩ := s
      simp only at c0 c1 c2 c3 c4 c5
      by_cases he : sk = q
      · have hh : El.firstK l q = some ⟨sk, sfl, so, sa, sf, sm⟩ := find_hit (unhide Hno) hs (by simp [he])
        have he' : (((sk : Nat) : Int) == ((q : Nat) : Int)) = true := by simp; omega
        have Hh := hide hh
        clear hh hs he
        go_wp2_with ((with_reducible refine (@id (wpList _ _ _ (Oper.mk none (Op.store 37 (.tmp 4) (.tmp 19)) _ _ _ none :: _) _ _) ?_)); refine wpList_store_row rfl 37 (.tmp 4) (.tmp 19) rfl (w.heap.size + 1) #[.int .u32 sk, .int .u8 sfl, .int .u64 so, .int .u64 sa, .int .u64 sf, .int .u64 sm] rfl rfl 37 _ ((Below.heap_alloc _ _ _ hsz1).trans (unhide Hx)) segInfo rfl (segOne _ _ _ _ _ _) ?_)
        refine bodyPost_ret (results_cell_tmp (P := Try.prog) rfl _ _ (w.heap.size + 1) 37 #[.int .u32 sk, .int .u8 sfl, .int .u64 so, .int .u64 sa, .int .u64 sf, .int .u64 sm] (0, 0) _ rfl (setRow_heap _ _ _ _ _ _ ((Below.heap_alloc _ _ _ hsz1).trans (unhide Hx))) Try.underlying37 rfl segInfo) rfl ?_
        exact first_yes (unhide Hh) (below_setRow ((unhide Hbl).alloc hsz _) (by omega) _)
      · have he' : (((sk : Nat) : Int) == ((q : Nat) : Int)) = false := by simp; omega
        have hno2 := find_none_snoc (unhide Hno) hs (by simp [he])
        have Hno2 := hide hno2
        clear hno2 hs he
        go_wp2
        go_roundw
        case rel => exact ⟨k + 1, by omega, by go_num, unhide Hno2, (unhide Hbl).alloc hsz _, (Below.heap_alloc _ _ _ hsz1).trans (unhide Hx)⟩
        case measure => simp [intOf]; omega
    · have hno2 : El.firstK l q = none := by
        have := unhide Hno
        rwa [List.take_of_length_le (by have := unhide Hln; omega)] at this
      have Hno2 := hide hno2
      clear hno2
      go_wp2_with ((with_reducible refine (@id (wpList _ _ _ (Oper.mk none (Op.store 37 (.tmp 4) (.tmp 21)) _ _ _ none :: _) _ _) ?_)); refine wpList_store_row rfl 37 (.tmp 4) (.tmp 21) rfl (w.heap.size + 1) #[.int .u32 0, .int .u8 0, .int .u64 0, .int .u64 0, .int .u64 0, .int .u64 0] rfl rfl 37 _ (unhide Hx) segInfo rfl (segOne _ _ _ _ _ _) ?_)
      refine bodyPost_ret (results_cell_tmp (P := Try.prog) rfl _ _ (w.heap.size + 1) 37 #[.int .u32 0, .int .u8 0, .int .u64 0, .int .u64 0, .int .u64 0, .int .u64 0] (0, 0) _ rfl (setRow_heap _ _ _ _ _ _ (unhide Hx)) Try.underlying37 rfl segInfo) rfl ?_
      exact first_no (unhide Hno2) (below_setRow (unhide Hbl) (by omega) _)

/-- The address of the headers. -/
def El.phdrOf (h : El.Hd) : Nat :=
  match El.firstK h.segs 6 with
  | some s => s.addr
  | none => match (El.loads h.segs).find? (fun l => decide (l.off ≤ h.phoff) && decide (h.phoff - l.off + h.segs.length * 56 ≤ l.fsz)) with
    | some l => if l.addr + (h.phoff - l.off) < 18446744073709551616 then l.addr + (h.phoff - l.off) else 0
    | none => 0

set_option maxHeartbeats 4000000 in
theorem phdr_any (A : Option Addr) (n c B : Nat) (h : El.Hd) (w : World) (hB : B ≤ w.heap.size) (hl : Rd w B 6 A n (segCells h.segs)) (hn : n ≤ 4294967296) (hf : ∀ x ∈ h.segs, SgFit x) (hph : h.phoff < 18446744073709551616) :
    Calls Try.prog 21 #[.agg #[.int .u16 h.type, .int .u64 h.entry, .int .u64 h.phoff, .slice A n c]] w fun e w' => e = .returned (.int .u64 (El.phdrOf h)) ∧ Below w.heap.size w w' := by
  have hln : h.segs.length = n := by have := hl.1; rw [segCells_len] at this; omega
  have hll := loads_len h.segs
  have hlf := loads_mem hf
  have hfst := fun (w' : World) (hb : Below w.heap.size w w') => first_any A n c B h.segs h.type h.entry h.phoff 6 w' (Nat.le_trans hB hb.size) (hl.below (hb.mono hB)) hn
  have hload := fun (w' : World) (hb : Below w.heap.size w w') => loads_any A n c B h.segs h.type h.entry h.phoff w' (Nat.le_trans hB hb.size) (hl.below (hb.mono hB)) hn
  obtain ⟨r, hr⟩ : ∃ r, El.phdrOf h = r := ⟨_, rfl⟩
  rw [hr]
  cases hfk : El.firstK h.segs 6 with
  | some s =>
    have hrs : r = s.addr := by rw [← hr]; unfold El.phdrOf; rw [hfk]
    unfold FirstEnd at hfst
    rw [hfk] at hfst
    simp only [Option.getD_some, Option.isSome_some, segVal] at hfst
    have Hfst := hide hfst
    have Hrs := hide hrs
    clear hfst hrs hr hfk hload hlf hll hl hf
    go_enter Try.func21, Try.ntmps21
    go_wp2_with (go_at_call 38; refine ((unhide Hfst) _ ((Below.refl _ _).alloc (Nat.le_refl _) _)).mono ?_; rintro e w1 ⟨rfl, hb1⟩; have hb2 := below_new hb1; have hsz := hb2.size; have Hb2 := hide hb2; clear hb1 hb2)
    go_ret
    exact ⟨ret_int (by rw [unhide Hrs]), (unhide Hb2).alloc hsz _⟩
  | none =>
    have hrs : r = match (El.loads h.segs).find? (fun l => decide (l.off ≤ h.phoff) && decide (h.phoff - l.off + h.segs.length * 56 ≤ l.fsz)) with
      | some l => if l.addr + (h.phoff - l.off) < 18446744073709551616 then l.addr + (h.phoff - l.off) else 0
      | none => 0 := by rw [← hr]; unfold El.phdrOf; rw [hfk]
    unfold FirstEnd at hfst
    rw [hfk] at hfst
    simp only [Option.getD_none, Option.isSome_none, segVal, El.zeroSg] at hfst
    rw [hln] at hrs
    generalize El.loads h.segs = L at *
    generalize h.segs = SS at *
    generalize h.phoff = ph at *
    generalize h.type = ty at *
    generalize h.entry = en at *
    have Hfst := hide hfst
    have Hrs := hide hrs
    have Hload := hide hload
    have Hlf := hide hlf
    clear hfst hrs hr hfk hload hlf hl hf
    go_enter Try.func21, Try.ntmps21
    go_wp2_with (first
      | (go_at_call 38; refine ((unhide Hfst) _ ((Below.refl _ _).alloc (Nat.le_refl _) _)).mono ?_; rintro e w1 ⟨rfl, hb1⟩; have hx := newblk hb1; have hb2 := below_new hb1; have hsz := hb2.size; have hsz1 := lt_of_block hx; obtain ⟨x0, x1, x2, x3⟩ := box_facts hx; have Hx := hide hx; have Hb2 := hide hb2; clear hb1 hb2 hx)
      | (go_at_call 9; refine ((unhide Hload) _ ((unhide Hb2).alloc hsz _)).mono ?_; rintro e w2 ⟨A2, c2, rfl, hown, hb3⟩; have hb4 := (unhide Hb2).trans ((below_new hb3).mono hsz); have hx4 := ((below_new hb3).block _ hsz1).trans (unhide Hx); have hrd := Rd.of_own hown; have Hrd := hide hrd; have Hb4 := hide hb4; have Hx4 := hide hx4; clear hown hb3 hrd hx4 hb4 x0 x1 x2 x3))
    have hb4s := (unhide Hb4).size
    go_loopw [20] (fun i wr => ∃ k : Nat, k ≤ L.length ∧ i = .int .i64 k ∧ (L.take k).find? (fun l => decide (l.off ≤ ph) && decide (ph - l.off + n * 56 ≤ l.fsz)) = none ∧ Below w2.heap.size w2 wr) (fun i _ => L.length - (intOf i).toNat)
    case atStart => exact ⟨0, Nat.zero_le _, rfl, rfl, Below.refl _ _⟩
    case round =>
      obtain ⟨k, hk, rfl, hno, hb⟩ := hrel
      have Hno := hide hno
      have hsz2 := hb.size
      have hx5 := (hb.block _ (lt_of_block (unhide Hx4))).trans (unhide Hx4)
      have hsz5 := lt_of_block hx5
      obtain ⟨x0, x1, x2, x3⟩ := box_facts hx5
      clear hno hx5
      by_cases hlt : k < L.length
      · obtain ⟨l, hlk⟩ : ∃ l, L[k]? = some l := ⟨_, List.getElem?_eq_getElem hlt⟩
        obtain ⟨b1, o1, rfl, hbb, c0, c1, c2', c3, c4, c5⟩ := seg_at ((unhide Hrd).below hb) hlk
        have hbr : b1 < wr.heap.size := Nat.lt_of_lt_of_le hbb hsz2
        obtain ⟨lk, lfl, lo, la, lf, lm⟩ := l
        obtain ⟨j1, j2, j3, j4, j5, j6⟩ := (unhide Hlf) _ (List.mem_of_getElem? hlk)
        simp only at j1 j2 j3 j4 j5 j6 c0 c1 c2' c3 c4 c5
        have Hlk := hide hlk
        have Hb := hide hb
        clear hlk hb
        by_cases h1 : lo ≤ ph
        · have i1 : ((lo : Nat) : Int) ≤ ((ph : Nat) : Int) := by omega
          by_cases h2 : ph - lo + n * 56 ≤ lf
          · have i2 : decide (((ph : Nat) : Int) - ((lo : Nat) : Int) + ((n : Nat) : Int) * 56 ≤ ((lf : Nat) : Int)) = true := by simp; omega
            have hhit := find_hit (unhide Hno) (unhide Hlk) (by simp [h1, h2])
            have Hhit := hide hhit
            clear hhit h2
            by_cases h3 : la + (ph - lo) < 18446744073709551616
            · go_wp2_with (first
                | (go_at_call 29; refine (inside_any _ _ _ _ (by omega) (by omega) (by omega) (by omega) (by omega)).mono ?_; rintro e w3 ⟨rfl, rfl⟩)
                | (go_at_call 33; refine (add_yes _ _ _ (by omega) (by omega) (by omega)).mono ?_; rintro e w3 ⟨rfl, rfl⟩))
              go_ret
              refine ⟨ret_int ?_, (unhide Hb4).trans (((unhide Hb).alloc hsz2 _).mono hb4s)⟩
              rw [unhide Hrs, unhide Hhit]
              simp only
              rw [if_pos h3]
              omega
            · go_wp2_with (first
                | (go_at_call 29; refine (inside_any _ _ _ _ (by omega) (by omega) (by omega) (by omega) (by omega)).mono ?_; rintro e w3 ⟨rfl, rfl⟩)
                | (go_at_call 33; refine (add_no _ _ _ (by omega) (by omega) (by omega) (by omega)).mono ?_; rintro e w3 ⟨rfl, rfl⟩))
              go_ret
              refine ⟨ret_int ?_, (unhide Hb4).trans (((unhide Hb).alloc hsz2 _).mono hb4s)⟩
              rw [unhide Hrs, unhide Hhit]
              simp only
              rw [if_neg h3]
              rfl
          · have i2 : decide (((ph : Nat) : Int) - ((lo : Nat) : Int) + ((n : Nat) : Int) * 56 ≤ ((lf : Nat) : Int)) = false := by simp; omega
            have hno2 := find_none_snoc (unhide Hno) (unhide Hlk) (by simp [h2])
            have Hno2 := hide hno2
            clear hno2 h2
            go_wp2_with (go_at_call 29; refine (inside_any _ _ _ _ (by omega) (by omega) (by omega) (by omega) (by omega)).mono ?_; rintro e w3 ⟨rfl, rfl⟩)
            go_roundw
            case rel => exact ⟨k + 1, by omega, by go_num, unhide Hno2, (unhide Hb).alloc hsz2 _⟩
            case measure => simp [intOf]; omega
        · have i1 : decide (lo ≤ ph) = false := by simp; omega
          have i1' : ¬ ((lo : Nat) : Int) ≤ ((ph : Nat) : Int) := by omega
          have hno2 := find_none_snoc (unhide Hno) (unhide Hlk) (by simp [h1])
          have Hno2 := hide hno2
          clear hno2 h1
          go_wp2
          go_roundw
          case rel => exact ⟨k + 1, by omega, by go_num, unhide Hno2, (unhide Hb).alloc hsz2 _⟩
          case measure => simp [intOf]; omega
      · have hno2 : L.find? (fun l => decide (l.off ≤ ph) && decide (ph - l.off + n * 56 ≤ l.fsz)) = none := by
          have := unhide Hno
          rwa [List.take_of_length_le (by omega)] at this
        have Hno2 := hide hno2
        have Hb := hide hb
        clear hno2 hb
        go_wp2
        go_ret
        refine ⟨ret_int ?_, (unhide Hb4).trans ((unhide Hb).mono hb4s)⟩
        rw [unhide Hrs, unhide Hno2]
        rfl

end Go.Proofs.Ytkonolmakpeocaa
