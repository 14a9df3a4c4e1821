/- The walk of ElfCut: it returns true and changes nothing that was there. Condition: the slice is no longer than its capacity. -/
import Derived.Test.YtkonolmakpeocaaElf11
namespace Go.Proofs.Ytkonolmakpeocaa
set_option linter.unusedVariables false
set_option linter.unusedSimpArgs false
open Go.RowKit

/-- What Parse answers, whatever it is. -/
theorem parse_gen (A : Option Addr) (m c B : Nat) (b : List UInt8) (w : World) (hB : B ≤ w.heap.size) (hb : Rd w B 1 A m (u8s b)) (hm : m ≤ 4294967296) (hmc : m ≤ c) :
    Calls Try.prog 8 #[.slice A m c] w fun e w' => ∃ (v0 v1 v2 : Int) (A' : Option Addr) (n' c' : Nat) (x : Int), e = .returned (.tuple #[.agg #[.int .u16 v0, .int .u64 v1, .int .u64 v2, .slice A' n' c'], .int .i64 x]) ∧ Below w.heap.size w w' := by
  refine (parse_any A m c b w (hb.more hB) hm hmc).mono ?_
  rintro e w' he
  unfold ParseEnd at he
  obtain ⟨A', c', rfl, _, hbl⟩ := he
  exact ⟨_, _, _, A', _, c', _, rfl, hbl⟩

set_option maxHeartbeats 4000000 in
set_option maxRecDepth 100000 in
theorem cut_out (A : Option Addr) (m c : Nat) (n : Int) (w : World) (hm : m ≤ maxLen) (h : 65536 < m ∨ n < 0 ∨ (m : Int) < n) :
    Calls Try.prog 5 #[.slice A m c, .int .i64 n] w fun e w' => e = .returned (.bool true) ∧ Below w.heap.size w w' := by
  unfold maxLen at hm
  have W := hide works_any
  have hc : 65536 < m ∨ (¬ 65536 < m ∧ n < 0) ∨ (¬ 65536 < m ∧ ¬ n < 0 ∧ (m : Int) < n) := by omega
  rcases hc with h1 | ⟨h1, h2⟩ | ⟨h1, h2, h3⟩
  all_goals
    clear h
    go_enter Try.func5, Try.ntmps5
    go_wp2_with (go_at_call 7; refine ((unhide W) _).mono ?_; rintro e w6 ⟨rfl, hb6⟩)
    go_ret
    exact ⟨rfl, hb6⟩

set_option maxHeartbeats 4000000 in
set_option maxRecDepth 100000 in
theorem cut_bad (A : Option Addr) (m c k : Nat) (x : Int) (b : List UInt8) (w : World) (hb : Rd w w.heap.size 1 A m (u8s b)) (hm : m ≤ 65536) (hmc : m ≤ c) (hk : k ≤ m) (hp : El.parse (b.take k) = (x, El.zeroHd)) (hx : x = 13 ∨ (x = 25 ∧ 64 ≤ k)) :
    Calls Try.prog 5 #[.slice A m c, .int .i64 k] w fun e w' => e = .returned (.bool true) ∧ Below w.heap.size w w' := by
  have W := hide works_any
  have p1 := parse_gen A m c w.heap.size b w (Nat.le_refl _) hb (by omega) hmc
  have hcut := hb.cut hk
  rw [u8s_take] at hcut
  have p2 := fun (w' : World) (hB : Below w.heap.size w w') => parse_bad A k c w.heap.size (b.take k) x w' hB.size (hcut.below hB) (by omega) (by omega) hp
  have P1 := hide p1
  have P2 := hide p2
  clear p1 p2 hcut hb hp
  have hcase : (k < 64 ∧ x = 13) ∨ (64 ≤ k ∧ (x == 0) = false) := by
    rcases hx with rfl | ⟨rfl, h⟩
    · by_cases h : k < 64
      · exact .inl ⟨h, rfl⟩
      · exact .inr ⟨by omega, rfl⟩
    · exact .inr ⟨h, rfl⟩
  clear hx
  rcases hcase with ⟨h1, rfl⟩ | ⟨h1, h2⟩
  all_goals
    go_enter Try.func5, Try.ntmps5
    go_wp2_with fail
    refine (unhide P1).mono ?_
    rintro e w1 ⟨v0, v1, v2, A1, n1, c1, y, rfl, hb1⟩
    have hs1 := hb1.size
    have Hb1 := hide hb1
    clear hb1
    go_wp2_with fail
    refine ((unhide P2) _ ((unhide Hb1).alloc hs1 _)).mono ?_
    rintro e w2 ⟨A2, c2, rfl, hb2⟩
    have hb02 := (unhide Hb1).trans ((below_new hb2).mono hs1)
    have hs2 := hb02.size
    have Hb2 := hide hb02
    clear hb2 hb02 Hb1
    go_wp2_with (go_at_call 7; refine ((unhide W) _).mono ?_; rintro e w6 ⟨rfl, hb6⟩)
    go_ret
    exact ⟨rfl, (unhide Hb2).trans ((below_new hb6).mono hs2)⟩

set_option maxHeartbeats 4000000 in
set_option maxRecDepth 100000 in
theorem cut_good (A : Option Addr) (m c k ty en ph : Nat) (l : List El.Sg) (b : List UInt8) (w : World) (hb : Rd w w.heap.size 1 A m (u8s b)) (hm : m ≤ 65536) (hmc : m ≤ c) (hk : k ≤ m) (hk64 : 64 ≤ k) (hl : l.length ≤ 8)
    (hp : El.parse (b.take k) = (0, ⟨ty, en, ph, l⟩)) (hp2 : El.parse b = (0, ⟨ty, en, ph, l⟩)) :
    Calls Try.prog 5 #[.slice A m c, .int .i64 k] w fun e w' => e = .returned (.bool true) ∧ Below w.heap.size w w' := by
  have W := hide works_any
  have p1 := parse_good A m c w.heap.size b ty en ph l w (Nat.le_refl _) hb (by omega) hmc hp2
  have hcut := hb.cut hk
  rw [u8s_take] at hcut
  have p2 := fun (w' : World) (hB : Below w.heap.size w w') => parse_good A k c w.heap.size (b.take k) ty en ph l w' hB.size (hcut.below hB) (by omega) (by omega) hp
  have P1 := hide p1
  have P2 := hide p2
  have P3 := hide same_yes
  clear p1 p2 hcut hb hp hp2
  go_enter Try.func5, Try.ntmps5
  go_wp2_with fail
  refine (unhide P1).mono ?_
  rintro e w1 ⟨A1, c1, rfl, hr1, hb1⟩
  have hs1 := hb1.size
  have Hb1 := hide hb1
  have Hr1 := hide hr1
  clear hb1 hr1
  go_wp2_with fail
  refine ((unhide P2) _ ((unhide Hb1).alloc hs1 _)).mono ?_
  rintro e w2 ⟨A2, c2, rfl, hr2, hb2⟩
  have hx2 := newblk hb2
  have hr12 := (unhide Hr1).below (below_new hb2)
  have hb02 := (unhide Hb1).trans ((below_new hb2).mono hs1)
  have hs02 := hb02.size
  have hs2 := lt_of_block hx2
  obtain ⟨x0, x1, x2, x3⟩ := box_facts hx2
  have Hx2 := hide hx2
  have Hr12 := hide hr12
  have Hr2 := hide hr2
  have Hb2 := hide hb02
  clear hb2 hb02 Hb1 Hr1 hr12 hr2 hx2
  go_wp2_with fail
  refine ((unhide P3) A1 A2 _ _ _ w2.heap.size l ty en ph _ (by simp) (((unhide Hr12).more (by omega)).alloc (Nat.le_refl _) _) ((unhide Hr2).alloc (Nat.le_refl _) _) (by omega)).mono ?_
  rintro e w3 ⟨rfl, hb3⟩
  have hb03 := (unhide Hb2).trans ((below_new hb3).mono hs02)
  have hs3 := hb03.size
  have Hb3 := hide hb03
  clear hb3 hb03 x0 x1 x2 x3
  go_wp2_with (go_at_call 7; refine ((unhide W) _).mono ?_; rintro e w6 ⟨rfl, hb6⟩)
  go_ret
  exact ⟨rfl, (unhide Hb3).trans (hb6.mono hs3)⟩

/-- ElfCut, of any bytes and any number. -/
theorem elfCut_walk (A : Option Addr) (m c : Nat) (b : List UInt8) (n : Int) (w : World) (hb : Rd w w.heap.size 1 A m (u8s b)) (hmc : m ≤ c) (hm : m ≤ maxLen) :
    Calls Try.prog 5 #[.slice A m c, .int .i64 n] w fun e w' => e = .returned (.bool true) ∧ Below w.heap.size w w' := by
  by_cases ho : 65536 < m ∨ n < 0 ∨ (m : Int) < n
  · exact cut_out A m c n w hm ho
  obtain ⟨k, rfl⟩ := Int.eq_ofNat_of_zero_le (show 0 ≤ n by omega)
  have hbl : b.length = m := by simpa using hb.len1
  by_cases h64 : k < 64
  · exact cut_bad A m c k 13 b w hb (by omega) hmc (by omega) (El.parse_short _ (by rw [List.length_take]; omega)) (.inl rfl)
  rcases El.parse_cases (b.take k) with h | h | ⟨h1, h2, h3⟩
  · exact cut_bad A m c k 13 b w hb (by omega) hmc (by omega) h (.inl rfl)
  · exact cut_bad A m c k 25 b w hb (by omega) hmc (by omega) h (.inr ⟨rfl, by omega⟩)
  · have hp2 := El.parse_cut b k (by rw [h3])
    have hlen : (El.segsOf (b.take k) (Wd.num (b.take k) 56 2)).length ≤ 8 := by rw [El.segsOf_len]; exact (El.hdr_many h1).2
    exact cut_good A m c k _ _ _ _ b w hb (by omega) hmc (by omega) (by omega) hlen h3 (hp2.trans h3)

end Go.Proofs.Ytkonolmakpeocaa
