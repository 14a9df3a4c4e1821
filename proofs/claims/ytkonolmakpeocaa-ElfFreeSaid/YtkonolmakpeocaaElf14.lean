/- The walk of ElfFree: it returns true and changes nothing that was there. Conditions: the slices are no longer than their capacities. -/
import Derived.Test.YtkonolmakpeocaaElf11
import Derived.StillTailTactics
namespace Go.Proofs.Ytkonolmakpeocaa
set_option linter.unusedVariables false
set_option linter.unusedSimpArgs false
open Go.RowKit

theorem unflip {P : Program} {f : FuncId} {args : Array Value} {w : World} {r : Ending} (h : Calls P f args w fun e w' => e = r ∧ w = w') : Calls P f args w fun e w' => e = r ∧ w' = w :=
  h.mono fun _ _ ⟨a, b⟩ => ⟨a, b.symm⟩

set_option maxHeartbeats 4000000 in
set_option maxRecDepth 100000 in
theorem free_out (A A2 : Option Addr) (m c n2 c2 : Nat) (x : Int) (w : World) (hm : m ≤ maxLen) (hn : n2 ≤ maxLen) (h : 65536 < m ∨ 300 < n2) :
    Calls Try.prog 4 #[.slice A m c, .slice A2 n2 c2, .int .u8 x] w fun e w' => e = .returned (.bool true) ∧ Below w.heap.size w w' := by
  unfold maxLen at hm hn
  have W := hide works_any
  have hc : 65536 < m ∨ (¬ 65536 < m ∧ 300 < n2) := by omega
  rcases hc with h1 | ⟨h1, h2⟩
  all_goals
    clear h
    go_enter Try.func4, Try.ntmps4
    go_wp2_with (go_at_call 7; refine ((unhide W) _).mono ?_; rintro e w6 ⟨rfl, hb6⟩)
    go_ret
    exact ⟨rfl, hb6⟩

set_option maxHeartbeats 4000000 in
set_option maxRecDepth 100000 in
theorem free_bad (A A2 : Option Addr) (m c n2 c2 : Nat) (x y : Int) (b : List UInt8) (w : World) (hb : Rd w w.heap.size 1 A m (u8s b)) (hm : m ≤ 65536) (hn : n2 ≤ 300) (hmc : m ≤ c) (hp : El.parse b = (y, El.zeroHd)) (hy : (y == 0) = false) :
    Calls Try.prog 4 #[.slice A m c, .slice A2 n2 c2, .int .u8 x] w fun e w' => e = .returned (.bool true) ∧ Below w.heap.size w w' := by
  have W := hide works_any
  have p1 := parse_bad A m c w.heap.size b y w (Nat.le_refl _) hb (by omega) hmc hp
  have P1 := hide p1
  have hy2 : (y != 0) = true := by simpa using hy
  clear p1 hp hb
  go_enter Try.func4, Try.ntmps4
  go_wp2_with fail
  refine (unhide P1).mono ?_
  rintro e w1 ⟨A1, c1, rfl, hb1⟩
  have hs1 := hb1.size
  have Hb1 := hide hb1
  clear hb1
  go_wp2_with (go_at_call 7; refine ((unhide W) _).mono ?_; rintro e w6 ⟨rfl, hb6⟩)
  go_ret
  exact ⟨rfl, (unhide Hb1).trans ((below_new hb6).mono hs1)⟩

set_option maxHeartbeats 4000000 in
set_option maxRecDepth 100000 in
theorem free_low (A A2 : Option Addr) (m c n2 c2 : Nat) (x : Int) (ty en ph : Nat) (l : List El.Sg) (b : List UInt8) (w : World) (hb : Rd w w.heap.size 1 A m (u8s b)) (hm : m ≤ 65536) (hn : n2 ≤ 300) (hmc : m ≤ c) (hp : El.parse b = (0, ⟨ty, en, ph, l⟩)) (hph : ph < 64) :
    Calls Try.prog 4 #[.slice A m c, .slice A2 n2 c2, .int .u8 x] w fun e w' => e = .returned (.bool true) ∧ Below w.heap.size w w' := by
  have W := hide works_any
  have p1 := parse_good A m c w.heap.size b ty en ph l w (Nat.le_refl _) hb (by omega) hmc hp
  have P1 := hide p1
  clear p1 hp hb
  go_enter Try.func4, Try.ntmps4
  go_wp2_with fail
  refine (unhide P1).mono ?_
  rintro e w1 ⟨A1, c1, rfl, hr1, hb1⟩
  have hs1 := hb1.size
  have Hb1 := hide hb1
  clear hb1 hr1
  go_wp2_with (go_at_call 7; refine ((unhide W) _).mono ?_; rintro e w6 ⟨rfl, hb6⟩)
  go_ret
  exact ⟨rfl, (unhide Hb1).trans ((below_new hb6).mono hs1)⟩

set_option maxHeartbeats 8000000 in
set_option maxRecDepth 100000 in
theorem free_good (A A2 : Option Addr) (m c n2 c2 : Nat) (x : Int) (zs : List Int) (ty en ph : Nat) (l : List El.Sg) (b : List UInt8) (w : World) (hb : Rd w w.heap.size 1 A m (u8s b)) (hz : Rd w w.heap.size 1 A2 n2 (zs.map (Value.int .i64))) (hx : 0 ≤ x ∧ x ≤ 255)
    (hm : m ≤ 65536) (hn : n2 ≤ 300) (hm64 : 64 ≤ m) (hmc : m ≤ c) (hp : El.parse b = (0, ⟨ty, en, ph, l⟩)) (hph : ¬ ph < 64) (hph2 : ph ≤ 65536) (hl8 : l.length ≤ 8) (hfree : ∀ d, El.Agree ph l.length b d → El.parse d = (0, ⟨ty, en, ph, l⟩)) :
    Calls Try.prog 4 #[.slice A m c, .slice A2 n2 c2, .int .u8 x] w fun e w' => e = .returned (.bool true) ∧ Below w.heap.size w w' := by
  obtain ⟨hx0, hx1⟩ := hx
  have hzl : zs.length = n2 := by simpa using hz.len1
  have hbl : b.length = m := by simpa using hb.len1
  have W := hide works_any
  have p1 := parse_good A m c w.heap.size b ty en ph l w (Nat.le_refl _) hb (by omega) hmc hp
  have p2 := fun (w' : World) (hB : Below w.heap.size w w') => copyBytes_any A m c w.heap.size b w' hB.size (hb.below hB) (by omega)
  have p3 := fun (A' : Option Addr) (c' : Nat) (d : List UInt8) (w' : World) (hr : Rd w' w'.heap.size 1 A' m (u8s d)) (hc : m ≤ c') (hd : El.Agree ph l.length b d) => parse_good A' m c' w'.heap.size d ty en ph l w' (Nat.le_refl _) hr (by omega) hc (hfree d hd)
  have P1 := hide p1
  have P2 := hide p2
  have P3 := hide p3
  have P4 := hide same_yes
  have Hz := hide hz
  have Hzl := hide hzl
  have Hbl := hide hbl
  clear p1 p2 p3 hp hb hz hfree hzl hbl
  go_enter Try.func4, Try.ntmps4
  go_wp2_with fail
  refine (unhide P1).mono ?_
  rintro e w1 ⟨A1, c1, rfl, hr1, hb1⟩
  have hs1 := hb1.size
  have Hb1 := hide hb1
  have Hr1 := hide hr1
  clear hb1 hr1
  go_wp2_with fail
  refine ((unhide P2) _ ((unhide Hb1).alloc hs1 _)).mono ?_
  rintro e w2 ⟨A3, c3, rfl, ho2, hb2⟩
  have hx2 := newblk hb2
  have hr12 := (unhide Hr1).below (below_new hb2)
  have hb02 := (unhide Hb1).trans ((below_new hb2).mono hs1)
  have hs02 := hb02.size
  have hs2 := lt_of_block hx2
  have hz2 := (unhide Hz).below hb02
  simp only [World.size_alloc] at ho2
  have Hx2 := hide hx2
  have Hr2 := hide hr12
  have Hb2 := hide hb02
  have Hz2 := hide hz2
  have Ho2 := hide ho2
  clear hb2 hb02 Hb1 Hr1 hr12 hx2 hz2 ho2 Hz
  go_wp2_with fail
  go_loopw [10] (fun i wr => ∃ (k : Nat) (d : List UInt8), k ≤ n2 ∧ i = .int .i64 k ∧ El.Agree ph l.length b d ∧ wr.ownsRow (w1.heap.size + 1) 5 1 (.slice A3 m c3) m (u8s d) ∧ wr.heap[w1.heap.size]? = some (.cells #[.int .u16 ty, .int .u64 en, .int .u64 ph, .slice A1 l.length c1] 28 (0, 0)) ∧ Below (w1.heap.size + 1) w2 wr) (fun i _ => n2 - (intOf i).toNat)
  case atStart => exact ⟨0, b, Nat.zero_le _, rfl, El.Agree.refl _ _ _, unhide Ho2, unhide Hx2, Below.refl _ _⟩
  case round =>
    obtain ⟨k, d, hk, rfl, hag, hown, hx3, hbw⟩ := hrel
    have hsw := hbw.size
    have hs3 := lt_of_block hx3
    obtain ⟨x0, x1, x2, x3⟩ := box_facts hx3
    have Hag := hide hag
    have Hown := hide hown
    have Hx3 := hide hx3
    have Hbw := hide hbw
    clear hag hown hx3 hbw
    rcases Nat.lt_or_ge k n2 with hlt | hge
    case inr =>
      obtain rfl : k = n2 := by omega
      obtain ⟨g, rfl, hg1, hg2⟩ := own_some (unhide Hown) (by omega)
      have hmc3 := (own_at (unhide Hown)).2.2
      have hr3 := (unhide Hr2).below ((unhide Hbw).mono (by omega))
      have hb3 := (unhide Hb2).trans ((unhide Hbw).mono (by omega))
      have hs03 := hb3.size
      have Hr3 := hide hr3
      have Hb3 := hide hb3
      clear hr3 hb3
      go_wp2_with fail
      refine ((unhide P3) _ _ d _ (Rd.of_own (unhide Hown)) hmc3 (unhide Hag)).mono ?_
      rintro e w4 ⟨A4, c4, rfl, hr4, hb4⟩
      have hx4 := (hb4.block _ hs3).trans (unhide Hx3)
      have hr34 := (unhide Hr3).below (hb4.mono (by omega))
      have hs4 := hb4.size
      have hb04 := (unhide Hb3).trans (hb4.mono hs03)
      clear x0 x1 x2 x3
      obtain ⟨x0, x1, x2, x3⟩ := box_facts hx4
      have hs14 := lt_of_block hx4
      have Hr34 := hide hr34
      have Hr4 := hide hr4
      have Hb4 := hide hb04
      have Hx4 := hide hx4
      clear hb4 hx4 hr34 hr4 hb04
      go_wp2_with fail
      refine ((unhide P4) A1 A4 _ _ _ w4.heap.size l ty en ph _ (by simp) (((unhide Hr34).more (by omega)).alloc (Nat.le_refl _) _) ((unhide Hr4).alloc (Nat.le_refl _) _) (by omega)).mono ?_
      rintro e w5 ⟨rfl, hb5⟩
      have hs04 := (unhide Hb4).size
      have hb05 := (unhide Hb4).trans ((below_new hb5).mono hs04)
      have hs5 := hb05.size
      have Hb5 := hide hb05
      clear hb5 hb05 x0 x1 x2 x3
      go_wp2_with (go_at_call 7; refine ((unhide W) _).mono ?_; rintro e w6 ⟨rfl, hb6⟩)
      go_ret
      exact ⟨rfl, (unhide Hb5).trans (hb6.mono hs5)⟩
    obtain ⟨v, hv⟩ : ∃ v, zs[k]? = some v := ⟨_, List.getElem?_eq_getElem (by rw [unhide Hzl]; exact hlt)⟩
    obtain ⟨b2, o2, rfl, hbb, cz⟩ := ((unhide Hz2).below ((unhide Hbw).mono (by omega))).at_ (k := k) (u := .int .i64 v) (by simp [hv])
    have i0 : (0 : Int) ≤ (k : Int) := by omega
    have i1 : (k : Int) < (n2 : Int) := by omega
    clear hv
    by_cases hv0 : v < 0
    · have g1 : decide (0 ≤ v) = false := by simp; omega
      go_wp2
      go_quiet (fail)
      go_wp2
      go_roundw
      case rel => exact ⟨k + 1, d, by omega, by go_num, unhide Hag, unhide Hown, unhide Hx3, below_drewN' (unhide Hbw) _⟩
      case measure => simp [intOf]; omega
    · obtain ⟨p, rfl⟩ := Int.eq_ofNat_of_zero_le (show 0 ≤ v by omega)
      have g1 : decide ((0 : Int) ≤ (p : Int)) = true := by simp
      by_cases hvm : m ≤ p
      · have g2 : decide ((p : Int) < (m : Int)) = false := by simp; omega
        have g2' : decide (p < m) = false := by simp; omega
        go_wp2
        go_quiet (fail)
        go_wp2
        go_roundw
        case rel => exact ⟨k + 1, d, by omega, by go_num, unhide Hag, unhide Hown, unhide Hx3, below_drewN' (unhide Hbw) _⟩
        case measure => simp [intOf]; omega
      · have g2 : decide ((p : Int) < (m : Int)) = true := by simp; omega
        have g2' : decide (p < m) = true := by simp; omega
        have g3 : (p : Int) < (m : Int) := by omega
        have g4 : (0 : Int) ≤ (p : Int) := by omega
        have hlk := fun (w' : World) => looked_any p ph l.length w' (by omega) (by omega) (by omega)
        cases hL : El.lookedB p ph l.length
        case true =>
          rw [hL] at hlk
          have Hlk := hide hlk
          clear hlk hL
          go_wp2
          go_quiet ((go_at_call 12; exact Calls.quiet_of_same (unflip ((unhide Hlk) _))))
          go_wp2
          go_roundw
          case rel => exact ⟨k + 1, d, by omega, by go_num, unhide Hag, unhide Hown, unhide Hx3, below_drewN' (unhide Hbw) _⟩
          case measure => simp [intOf]; omega
        case false =>
          rw [hL] at hlk
          have Hlk := hide hlk
          have HL := hide hL
          clear hlk hL
          have hdl : d.length = m := (unhide Hag).1.trans (unhide Hbl)
          obtain ⟨o, ho⟩ : ∃ o, d[p]? = some o := ⟨_, List.getElem?_eq_getElem (by omega)⟩
          obtain ⟨g, rfl, hg1, hg2⟩ := own_some (unhide Hown) (by omega)
          have cg := own_cell (unhide Hown) (u8s_at ho)
          have fg := own_free (unhide Hown) p
          have hset := fun (n : Nat) => own_set (i := p) (own_drewN (unhide Hown) n) (.int .u8 (UInt8.ofNat ((o.toNat + x.toNat) % 256)).toNat)
          simp only [u8s_set] at hset
          have hy : (((UInt8.ofNat ((o.toNat + x.toNat) % 256)).toNat : Nat) : Int) = IntKind.u8.wrap ((o.toNat : Int) + x) := by
            rw [IntKind.wrap_u8]
            simp
            omega
          have hag2 := (unhide Hag).set (unhide HL) (UInt8.ofNat ((o.toNat + x.toNat) % 256))
          simp only [hy] at hset
          have Hset := hide hset
          have Hag2 := hide hag2
          clear hset hag2 hy ho hdl
          generalize hon : o.toNat = on at *
          clear hon
          go_wp2
          go_quiet ((go_at_call 12; exact Calls.quiet_of_same (unflip ((unhide Hlk) _))))
          go_wp2
          have hbw := below_drewN' (unhide Hbw) nq
          have hset := (unhide Hset) nq
          have hx3 : (wr.drewN nq).heap[w1.heap.size]? = _ := unhide Hx3
          have cz : (wr.drewN nq).cell? _ = _ := cz
          have cg : (wr.drewN nq).cell? _ = _ := cg
          have fg : (wr.drewN nq).frozen? _ = _ := fg
          clear Hset Hbw Hx3 x0 x1 x2 x3 Hown
          generalize wr.drewN nq = W at *
          have cz2 : World.cell? { heap := W.heap, tape := W.tape, drawn := W.drawn + 1, os := W.os, output := W.output } ⟨b2, o2 + k, none⟩ = some (.int .i64 ((p : Nat) : Int)) := cz
          have cg2 : World.cell? { heap := W.heap, tape := W.tape, drawn := W.drawn + 1, os := W.os, output := W.output } ⟨g, p, none⟩ = some (.int .u8 ((on : Nat) : Int)) := cg
          go_still_tail 15, (by kernel_rfl)
          change wpList _ _ _ _ _ W.drew
          have cg3 : W.drew.cell? ⟨g, p, none⟩ = some (.int .u8 ((on : Nat) : Int)) := cg
          have fg3 : W.drew.frozen? ⟨g, p, none⟩ = false := fg
          have hset3 : World.ownsRow (W.drew.setCell ⟨g, p, none⟩ _) _ _ _ _ _ _ := hset
          have hx4 : W.drew.heap[w1.heap.size]? = _ := hx3
          have hbw3 := below_drew' hbw
          clear cz cz2 cg cg2 fg hset hx3 hbw
          generalize W.drew = V at *
          have Hset := hide hset3
          have Hx4 := hide hx4
          have Hbw := hide hbw3
          clear hset3 hx4 hbw3
          go_wp2
          go_roundw
          case rel => exact ⟨k + 1, _, by omega, by go_num, unhide Hag2, unhide Hset, (Below.heap_setCell _ _ _ _ (by simp; omega)).trans (unhide Hx4), (unhide Hbw).setCell (by simp; omega) _⟩
          case measure => simp [intOf]; omega

/-- ElfFree, of any bytes, any places and any turn. -/
theorem elfFree_walk (A : Option Addr) (m c : Nat) (b : List UInt8) (A2 : Option Addr) (n2 c2 : Nat) (zs : List Int) (x : Int) (w : World) (hb : Rd w w.heap.size 1 A m (u8s b)) (hmc : m ≤ c) (hm : m ≤ maxLen)
    (hz : Rd w w.heap.size 1 A2 n2 (zs.map (Value.int .i64))) (hn : n2 ≤ maxLen) (hx : 0 ≤ x ∧ x ≤ 255) :
    Calls Try.prog 4 #[.slice A m c, .slice A2 n2 c2, .int .u8 x] w fun e w' => e = .returned (.bool true) ∧ Below w.heap.size w w' := by
  by_cases ho : 65536 < m ∨ 300 < n2
  · exact free_out A A2 m c n2 c2 x w hm hn ho
  have hbl : b.length = m := by simpa using hb.len1
  rcases El.parse_cases b with h | h | ⟨h1, h2, h3⟩
  · exact free_bad A A2 m c n2 c2 x 13 b w hb (by omega) (by omega) hmc h rfl
  · exact free_bad A A2 m c n2 c2 x 25 b w hb (by omega) (by omega) hmc h rfl
  · by_cases hp : Wd.num b 32 8 < 64
    · exact free_low A A2 m c n2 c2 x _ _ _ _ b w hb (by omega) (by omega) hmc h3 hp
    · have h64 := El.hdr_len h1
      have hf := (El.form_parts h2).1
      have hlen := El.segsOf_len b (Wd.num b 56 2)
      exact free_good A A2 m c n2 c2 x zs _ _ _ _ b w hb hz hx (by omega) (by omega) (by omega) hmc h3 hp (by omega) (by rw [hlen]; exact (El.hdr_many h1).2) fun d hd => El.parse_free h1 h2 (by omega) (by rw [hlen] at hd; exact hd)

end Go.Proofs.Ytkonolmakpeocaa
