/- The walk of ElfHolds: it returns true and changes nothing that was there. Condition: the slice is no longer than its capacity. -/
import Derived.Test.YtkonolmakpeocaaElf11
import Derived.Deep.LoopGhost
namespace Go.Proofs.Ytkonolmakpeocaa
set_option linter.unusedVariables false
set_option linter.unusedSimpArgs false
open Go.RowKit

/-- The last page of what has been looked at. -/
def lastOf (L : List El.Sg) (k : Nat) : Nat := if k = 0 then 0 else match L[k - 1]? with
  | some s => (s.addr + s.msz - 1) / 4096
  | none => 0
theorem lastOf_succ {L : List El.Sg} {k : Nat} {s : El.Sg} (h : L[k]? = some s) : lastOf L (k + 1) = (s.addr + s.msz - 1) / 4096 := by
  unfold lastOf
  rw [if_neg (by omega), Nat.add_sub_cancel, h]
theorem lastOf_lt {n ty en low high : Nat} {L : List El.Sg} (H : El.Holds n ty en L low high) {k : Nat} {s : El.Sg} (hk : 0 < k) (h : L[k]? = some s) : lastOf L k < s.addr / 4096 := by
  obtain ⟨j, rfl⟩ : ∃ j, k = j + 1 := ⟨k - 1, by omega⟩
  have hj : j < L.length := by have := (List.getElem?_eq_some_iff.1 h).1; omega
  obtain ⟨p, hp⟩ : ∃ p, L[j]? = some p := ⟨_, List.getElem?_eq_getElem hj⟩
  have h1 := H.rise j p s hp h
  have h2 := (H.each p (List.mem_of_getElem? hp)).msz
  rw [lastOf_succ hp]
  unfold El.up at h1
  omega
theorem lastOf_le {n ty en low high : Nat} {L : List El.Sg} (H : El.Holds n ty en L low high) (k : Nat) : lastOf L k ≤ 34359738368 := by
  unfold lastOf
  split
  · omega
  · split
    · rename_i s hs
      have h1 := (H.each s (List.mem_of_getElem? hs)).fin
      have h2 := El.endOf_le ty
      omega
    · omega
theorem lastOf_fin {n ty en low high : Nat} {L : List El.Sg} (H : El.Holds n ty en L low high) : lastOf L L.length * 4096 < high := by
  obtain ⟨s, hs⟩ : ∃ s, L[L.length - 1]? = some s := ⟨_, List.getElem?_eq_getElem (by have := H.pos; omega)⟩
  unfold lastOf
  rw [if_neg (by have := H.pos; omega), hs]
  exact H.lst s hs
theorem any_snoc {α : Type} {p : α → Bool} {L : List α} {k : Nat} {s : α} (h : L[k]? = some s) : (L.take (k + 1)).any p = ((L.take k).any p || p s) := by
  rw [List.take_add_one, h]
  simp

set_option maxHeartbeats 8000000 in
set_option maxRecDepth 100000 in
theorem holds_good (A : Option Addr) (m c : Nat) (b : List UInt8) (w : World) (hb : Rd w w.heap.size 1 A m (u8s b)) (hm : m ≤ 262144) (hmc : m ≤ c) (hh : El.hdrOk b = true) (hf : El.formOk b = true) (hp : El.parse b = (0, El.headOf b)) :
    Calls Try.prog 3 #[.slice A m c] w fun e w' => e = .returned (.bool true) ∧ Below w.heap.size w w' := by
  have hbl : b.length = m := by simpa using hb.len1
  have H := El.holds_of hh hf
  have hfit := El.loads_fit hf
  have hlf := loads_mem hfit
  have hpar := parse_good A m c w.heap.size b (Wd.num b 16 2) (Wd.num b 24 8) (Wd.num b 32 8) (El.segsOf b (Wd.num b 56 2)) w (Nat.le_refl _) hb (by omega) hmc hp
  have hlen : (El.segsOf b (Wd.num b 56 2)).length ≤ 8 := by rw [El.segsOf_len]; exact (El.hdr_many hh).2
  have hloads := fun (A' : Option Addr) (c' B : Nat) (w' : World) (hB : B ≤ w'.heap.size) (hr : Rd w' B 6 A' (El.segsOf b (Wd.num b 56 2)).length (segCells (El.segsOf b (Wd.num b 56 2)))) =>
    loads_any A' (El.segsOf b (Wd.num b 56 2)).length c' B (El.segsOf b (Wd.num b 56 2)) (Wd.num b 16 2) (Wd.num b 24 8) (Wd.num b 32 8) w' hB hr (by omega)
  have hspan := fun (A' : Option Addr) (c' B : Nat) (w' : World) (hB : B ≤ w'.heap.size) (hr : Rd w' B 6 A' (El.segsOf b (Wd.num b 56 2)).length (segCells (El.segsOf b (Wd.num b 56 2)))) =>
    span_any A' (El.segsOf b (Wd.num b 56 2)).length c' B ⟨Wd.num b 16 2, Wd.num b 24 8, Wd.num b 32 8, El.segsOf b (Wd.num b 56 2)⟩ w' hB hr (by omega) hfit
  have l0 : Wd.num b 16 2 < 65536 := Wd.num_lt _ _ _
  have l1 : Wd.num b 24 8 < 18446744073709551616 := Wd.num_lt _ _ _
  have hll := loads_len (El.segsOf b (Wd.num b 56 2))
  have hL8 : (El.loads (El.segsOf b (Wd.num b 56 2))).length ≤ 8 := by omega
  simp only at hspan
  rw [hbl] at H
  clear hb hp hfit hf hh hbl
  generalize El.segsOf b (Wd.num b 56 2) = SS at *
  generalize Wd.num b 16 2 = ty at *
  generalize Wd.num b 24 8 = en at *
  generalize Wd.num b 32 8 = ph at *
  generalize El.loads SS = L at *
  generalize spanL L = sp at *
  obtain ⟨low, high⟩ := sp
  simp only at H hspan
  generalize SS.length = ns at *
  obtain ⟨f, hf0⟩ : ∃ f, L[0]? = some f := ⟨_, List.getElem?_eq_getElem H.pos⟩
  have hpos := H.pos
  have hlow := H.low2 f hf0
  have g1 : low % 4096 = 0 := H.low1
  have g2 : high % 4096 = 0 := H.high1
  have g3 : high ≤ 140737488355328 := H.high2
  have g4 : ty = 3 → high ≤ 4294967296 := H.high3
  have gfin := lastOf_fin H
  have gle := lastOf_le H
  have glt := fun (k : Nat) (s : El.Sg) (hk : 0 < k) (h : L[k]? = some s) => lastOf_lt H hk h
  have geach := fun (k : Nat) (s : El.Sg) (h : L[k]? = some s) => H.each s (List.mem_of_getElem? h)
  have gent := H.ent
  have hff := hlf f (List.mem_of_getElem? hf0)
  obtain ⟨fk, ffl, fo, fa, ff', fm⟩ := f
  simp only at hlow
  have q1 : (((L.length : Nat) : Int) == 0) = false := beq_eq_false_iff_ne.2 (by omega)
  have q2 : (((low : Nat) : Int) % 4096 != 0) = false := by simp; omega
  have q3 : (((high : Nat) : Int) % 4096 != 0) = false := by simp; omega
  have q4 : decide (fa < low) = false := by simp; omega
  have q5 : decide ((140737488355328 : Int) < ((high : Nat) : Int)) = false := by simp; omega
  obtain ⟨ee, hee⟩ : ∃ ee, (ty == 3 && en == 0) = ee := ⟨_, rfl⟩
  rw [hee] at gent
  have t1 : (((ty : Nat) : Int) == 3) = (ty == 3) := by rw [Bool.eq_iff_iff, beq_iff_eq, beq_iff_eq]; omega
  have t2 : (((en : Nat) : Int) == 0) = (en == 0) := by rw [Bool.eq_iff_iff, beq_iff_eq, beq_iff_eq]; omega
  have cases3 : ∃ z, (z || L.any (El.entersL en)) = true ∧ (((((ty : Nat) : Int) == 3) = true ∧ (((en : Nat) : Int) == 0) = z ∧ decide ((4294967296 : Int) < ((high : Nat) : Int)) = false) ∨ ((((ty : Nat) : Int) == 3) = false ∧ Hid (z = false))) := by
    refine ⟨ee, gent, ?_⟩
    rw [t1, t2, ← hee]
    cases hty : ty == 3
    · exact .inr ⟨rfl, hide rfl⟩
    · exact .inl ⟨rfl, by simp, by have := g4 (by simpa using hty); simp; omega⟩
  obtain ⟨z, gent, cases3⟩ := cases3
  have Hpar := hide hpar
  have Hloads := hide hloads
  have Hspan := hide hspan
  have Hlf := hide hlf
  have Hf0 := hide hf0
  have Gfin := hide gfin
  have Gle := hide gle
  have Glt := hide glt
  have Geach := hide geach
  have Gent := hide gent
  clear hpar hloads hspan hlf hf0 gfin gle glt geach gent H t1 t2 hee g1 g2 g4 hll hff
  rcases cases3 with ⟨t1, t2, t3⟩ | ⟨t1, t2⟩
  all_goals
    go_enter Try.func3, Try.ntmps3
    go_wp2_with fail
    refine (unhide Hpar).mono ?_
    rintro e w1 ⟨A1, c1, rfl, hr1, hb1⟩
    have hs1 := hb1.size
    have Hr1 := hide hr1
    have Hb1 := hide hb1
    clear hr1 hb1
    go_wp2_with fail
    refine ((unhide Hloads) A1 _ w1.heap.size _ (by simp) ((unhide Hr1).alloc (Nat.le_refl _) _)).mono ?_
    rintro e w2 ⟨A2, c2, rfl, ho2, hb2⟩
    have hx2 := newblk hb2
    have hr2 := (unhide Hr1).below (below_new hb2)
    have hb02 := (unhide Hb1).trans ((below_new hb2).mono hs1)
    have hs2 := lt_of_block hx2
    have hs02 := hb02.size
    have hL2 := Rd.of_own ho2
    obtain ⟨x0, x1, x2, x3⟩ := box_facts hx2
    have Hx2 := hide hx2
    have Hr2 := hide hr2
    have Hb2 := hide hb02
    have HL2 := hide hL2
    clear hb2 hx2 hr2 hb02 Hr1 Hb1 ho2 hL2
    go_wp2_with fail
    refine ((unhide Hspan) A1 _ w1.heap.size _ (by omega) (unhide Hr2)).mono ?_
    rintro e w3 ⟨rfl, hb3⟩
    have hx3 := (hb3.block _ hs2).trans (unhide Hx2)
    have hL3 := (unhide HL2).below hb3
    have hb03 := (unhide Hb2).trans (hb3.mono hs02)
    have hs3 := lt_of_block hx3
    have hs03 := hb03.size
    clear x0 x1 x2 x3
    obtain ⟨x0, x1, x2, x3⟩ := box_facts hx3
    obtain ⟨b1, o1, rfl, hbb, c0, c1', c2', c3, c4, c5⟩ := seg_at hL3 (unhide Hf0)
    simp only [Nat.zero_mul, Nat.add_zero] at c3
    have hs23 := hb3.size
    have HL3 := hide (hL3.more hs23)
    have Hx3 := hide hx3
    have Hb3 := hide hb03
    clear hb3 hx3 hb03 Hr2 Hb2 HL2 hL3 c0 c1' c2' c4 c5 Hx2
    go_wp2_with fail
    clear hlow g3 q1 q2 q3 q4 q5 c3 x0 x1 x2 x3
    try clear t1
    try clear t3
    go_loopg [8, 9, 10] L.length (fun gk en' la i wr => ∃ k la' : Nat, gk = L.length - k ∧ k ≤ L.length ∧ i = .int .i64 k ∧ la = .int .u64 la' ∧ la' = lastOf L k ∧ en' = .bool (z || (L.take k).any (El.entersL en)) ∧ Below w3.heap.size w3 wr)
    case atStart => exact ⟨0, 0, by omega, Nat.zero_le _, rfl, rfl, rfl, by first | (simp; done) | simp [unhide t2], Below.refl _ _⟩
    case round =>
      obtain ⟨k, la', hgk, hk, rfl, rfl, hla, rfl, hbw⟩ := hrel
      have Hgk := hide hgk
      clear hgk
      have hLa := hla
      have gl := (unhide Gle) k
      rw [← hLa] at gl
      have hsw := hbw.size
      rcases Nat.lt_or_ge k L.length with hlt | hge
      case inr =>
        obtain rfl : k = L.length := by omega
        rw [List.take_length, unhide Gent]
        have gf := unhide Gfin
        rw [← hLa] at gf
        have hbf := (unhide Hb3).trans (hbw.mono hs03)
        have hsf := hbf.size
        have Hbf := hide hbf
        clear hbw hbf hLa hla
        go_wp2_with (go_at_call 7; refine (works_any _).mono ?_; rintro e w6 ⟨rfl, hb6⟩)
        go_ret
        exact ⟨rfl, (unhide Hbf).trans (hb6.mono hsf)⟩
      obtain ⟨s, hs⟩ : ∃ s, L[k]? = some s := ⟨_, List.getElem?_eq_getElem hlt⟩
      have ga := any_snoc (p := El.entersL en) hs
      have gs := lastOf_succ hs
      have ge := (unhide Geach) k s hs
      have gt := fun (h : 0 < k) => (unhide Glt) k s h hs
      rw [← hLa] at gt
      have sf := (unhide Hlf) s (List.mem_of_getElem? hs)
      obtain ⟨d1, d0, hde, hdd, e0, e1, e2, e3, e4, e5⟩ := seg_at ((unhide HL3).below hbw) hs
      obtain ⟨rfl, rfl⟩ : b1 = d1 ∧ o1 = d0 := by injection hde with hde; injection hde with h1 h2 h3; exact ⟨h1, h2⟩
      obtain ⟨sk, sfl, so, sa, sf', sm⟩ := s
      obtain ⟨v1, v2, v3, v4, v5, v6⟩ := ge
      obtain ⟨i1, i2, i3, i4, i5, i6⟩ := sf
      simp only at v1 v2 v3 v4 v5 v6 i1 i2 i3 i4 i5 i6 e0 e1 e2 e3 e4 e5 gs gt
      have hend := Nat.le_trans v5 (El.endOf_le ty)
      have u1 : (((sm : Nat) : Int) == 0) = false := by simp; omega
      have u2 : (((sa : Nat) : Int) % 4096 != ((so : Nat) : Int) % 4096) = false := by simp; omega
      have hbd : b1 < wr.heap.size := by omega
      obtain ⟨y0, y1, y2, y3⟩ := box_facts ((hbw.block _ hs3).trans (unhide Hx3))
      have hsr : w1.heap.size < wr.heap.size := by omega
      clear y0 y2 y3
      have Ga := hide ga
      have Gs := hide gs
      have HLa := hide hLa
      have Hbw := hide hbw
      clear ga gs hla hLa hbw hs hde v5
      generalize (L.take k).any (El.entersL en) = old at *
      have hk0 : k < 1 ∨ la' < sa / 4096 := by
        rcases Nat.eq_zero_or_pos k with h | h
        · exact .inl (by omega)
        · exact .inr (gt h)
      have hfb : (bits .and .u8 ((sfl : Nat) : Int) 1 != 0) = decide (sfl % 2 = 1) := by
        rw [and_one_u8 _ i2, Bool.eq_iff_iff, bne_iff_ne, decide_eq_true_eq]
        omega
      clear gt
      generalize hcur : (z || old) = cur at *
      have Hcur := hide hcur
      clear hcur
      have hfin : ∀ r : Bool, r = (cur || El.entersL en ⟨sk, sfl, so, sa, sf', sm⟩) → (Value.bool r) = .bool (z || (L.take (k + 1)).any (El.entersL en)) := by
        intro r hr
        rw [unhide Ga, ← Bool.or_assoc, unhide Hcur, hr]
      have Hfin := hide hfin
      clear hfin
      cases cur
      case true =>
        go_wp2
        all_goals
          go_roundg (L.length - (k + 1))
          case measure => have := unhide Hgk; omega
          case rel => exact ⟨k + 1, (sa + sm - 1) / 4096, rfl, by omega, by go_num, by go_num, (unhide Gs).symm, (unhide Hfin) true rfl, (unhide Hbw).alloc hsw _⟩
      case false =>
        go_wp2
        all_goals
          go_roundg (L.length - (k + 1))
          case measure => have := unhide Hgk; omega
          case rel =>
            refine ⟨k + 1, (sa + sm - 1) / 4096, rfl, by omega, by go_num, by go_num, (unhide Gs).symm, (unhide Hfin) _ ?_, (unhide Hbw).alloc hsw _⟩
            first | (simp [El.entersL]; omega) | (simp [El.entersL]; intros; omega) | (simp only [El.entersL, Bool.false_or]; rw [Bool.eq_iff_iff]; simp; omega)

set_option maxHeartbeats 4000000 in
set_option maxRecDepth 100000 in
/-- ElfHolds, of any bytes. -/
theorem elfHolds_walk (A : Option Addr) (m c : Nat) (b : List UInt8) (w : World) (hb : Rd w w.heap.size 1 A m (u8s b)) (hmc : m ≤ c) (hm : m ≤ maxLen) :
    Calls Try.prog 3 #[.slice A m c] w fun e w' => e = .returned (.bool true) ∧ Below w.heap.size w w' := by
  unfold maxLen at hm
  have W := hide works_any
  by_cases hz : 262144 < m
  · go_enter Try.func3, Try.ntmps3
    go_wp2_with (go_at_call 7; refine ((unhide W) _).mono ?_; rintro e w6 ⟨rfl, hb6⟩)
    go_ret
    exact ⟨rfl, hb6⟩
  rcases El.parse_cases b with h | h | ⟨h1, h2, h3⟩
  case inr.inr => exact holds_good A m c b w hb (by omega) hmc h1 h2 h3
  all_goals
    have hp := parse_bad A m c w.heap.size b _ w (Nat.le_refl _) hb (by omega) hmc h
    have Hp := hide hp
    clear hp hb h
    go_enter Try.func3, Try.ntmps3
    go_wp2_with fail
    refine (unhide Hp).mono ?_
    rintro e w1 ⟨A1, c1, rfl, hb1⟩
    have Hb1 := hide hb1
    have hs1 := hb1.size
    clear hb1
    go_wp2_with (go_at_call 7; refine ((unhide W) _).mono ?_; rintro e w6 ⟨rfl, hb6⟩)
    go_ret
    exact ⟨rfl, (unhide Hb1).trans ((below_new hb6).mono hs1)⟩

end Go.Proofs.Ytkonolmakpeocaa
