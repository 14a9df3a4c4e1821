/- The walks of the references that the laws of elf need: CopyBytes, place, Set. Conditions: there are fewer than 2^32 bytes. -/
import Derived.Test.YtkonolmakpeocaaOwn
import Derived.Test.YtkonolmakpeocaaElf7
namespace Go.Proofs.Ytkonolmakpeocaa
set_option linter.unusedVariables false
set_option linter.unusedSimpArgs false
open Go.RowKit

theorem byteInfo : (Try.prog.info? 5).map (fun i => (i.zero, i.size, i.bytes)) = some (some (.int .u8 0), 1, 1) := by kernel_rfl
theorem u8s_at {b : List UInt8} {i : Nat} {x : UInt8} (h : b[i]? = some x) : (u8s b)[i]? = some (.int .u8 x.toNat) := by simp [u8s, h]

/-- What has been copied from k on. -/
def backTo (b : List UInt8) (k : Nat) : List Value := List.replicate k (.int .u8 0) ++ u8s (b.drop k)
theorem backTo_set {b : List UInt8} {k : Nat} {x : UInt8} (h : b[k]? = some x) : (backTo b (k + 1)).set k (.int .u8 x.toNat) = backTo b k := by
  unfold backTo
  rw [List.drop_eq_getElem_cons (i := k) (by have := (List.getElem?_eq_some_iff.1 h).1; exact this)]
  have hx : b[k]'((List.getElem?_eq_some_iff.1 h).1) = x := (List.getElem?_eq_some_iff.1 h).2
  rw [hx, List.replicate_succ', List.append_assoc]
  rw [List.set_append]
  simp [u8s]

set_option maxHeartbeats 1000000 in
theorem copyBytes_any (A : Option Addr) (m c B : Nat) (b : List UInt8) (w : World) (hB : B ≤ w.heap.size) (hb : Rd w B 1 A m (u8s b)) (hm : m ≤ 4294967296) :
    Calls Try.prog 11 #[.slice A m c] w fun e w' => ∃ A' c', e = .returned (.slice A' m c') ∧ w'.ownsRow w.heap.size 5 1 (.slice A' m c') m (u8s b) ∧ Below w.heap.size w w' := by
  have hbl : b.length = m := by simpa using hb.len1
  rcases Nat.eq_zero_or_pos m with rfl | hpos
  · have hb0 : b = [] := List.eq_nil_of_length_eq_zero hbl
    subst hb0
    clear hb hbl
    go_enter Try.func11, Try.ntmps11
    go_wp2
    go_ret
    exact ⟨none, 0, rfl, World.ownsRow_nil _ _ _ _, Below.refl _ _⟩
  have hne : decide (m = 0) = false := by simp; omega
  obtain ⟨i, hi, hz0, hz1, hz2⟩ := info_parts byteInfo
  have Hb := hide hb
  have Hbl := hide hbl
  have Hi := hide hi
  have Hz0 := hide hz0
  have Hz1 := hide hz1
  have Hz2 := hide hz2
  clear hb hbl hi hz0 hz1 hz2
  go_enter Try.func11, Try.ntmps11
  go_wp2_with (at_make; refine wpList_make_full _ rfl _ _ 22 rfl w.heap.size 5 i (.int .u8 0) 1 Try.underlying22 (unhide Hi) (unhide Hz0) (unhide Hz1) _ _ _ _ m rfl rfl rfl rfl (by rw [unhide Hz2]; omega) (by unfold maxLen; omega) (Nat.le_refl _) ?_; intro w1 hown hgrow; have hb1 := (Below.refl w.heap.size w).grown hgrow (Nat.le_refl _) (fun k hk => by cases hk); have Hown := hide hown; have Hb1 := hide hb1; clear hown hgrow hb1)
  go_loopw [4] (fun at_ wr => ∃ k : Nat, k ≤ m ∧ at_ = .int .i64 ((k : Int) - 1) ∧ wr.ownsRow w.heap.size 5 1 (.slice (some ⟨w.heap.size, 0, none⟩) m m) m (backTo b k) ∧ Below w.heap.size w wr) (fun at_ _ => (intOf at_ + 1).toNat)
  case atStart =>
    refine ⟨m, Nat.le_refl _, rfl, ?_, unhide Hb1⟩
    have := unhide Hown
    have e : (madeCells (Value.int .u8 0).cells (m * 1)).toList = backTo b m := by
      unfold backTo
      rw [List.drop_eq_nil_of_le (by rw [unhide Hbl]; exact Nat.le_refl _)]
      simp [u8s, Value.cells, toList_madeCells_one]
    rwa [e] at this
  case round =>
  clear Hown Hb1
  obtain ⟨k, hk, rfl, hown, hb2⟩ := hrel
  have Hown := hide hown
  have Hb2 := hide hb2
  clear hown hb2
  by_cases hk0 : k = 0
  · subst hk0
    go_wp2
    go_ret
    refine ⟨_, _, rfl, ?_, unhide Hb2⟩
    have := unhide Hown
    simpa [backTo] using this
  · obtain ⟨j, rfl⟩ : ∃ j, k = j + 1 := ⟨k - 1, by omega⟩
    obtain ⟨x, hx⟩ : ∃ x, b[j]? = some x := ⟨_, List.getElem?_eq_getElem (by rw [unhide Hbl]; omega)⟩
    obtain ⟨ab, ao, rfl, hlt, hc⟩ := ((unhide Hb).below ((unhide Hb2).mono hB)).at_ (u8s_at hx)
    have hset := own_set (i := j) (unhide Hown) (.int .u8 x.toNat)
    rw [backTo_set hx] at hset
    have hcl : (backTo b (j + 1))[j]? = some (.int .u8 0) := by simp [backTo, List.getElem?_append]
    have hc2 := own_cell (unhide Hown) hcl
    have hf2 := own_free (unhide Hown) j
    have hge := own_at (unhide Hown)
    have e1 : ((j + 1 : Nat) : Int) - 1 = (j : Int) := by omega
    rw [e1]
    have Hset := hide hset
    clear hset hcl hx
    go_wp2
    go_roundw
    case rel => exact ⟨j, by omega, rfl, unhide Hset, (unhide Hb2).setCell (Nat.le_refl _) _⟩
    case measure => simp [intOf]

theorem refInside_yes (a b c : Nat) (w : World) (hc : c < 18446744073709551616) (h : a + b ≤ c) : Calls Try.prog 41 #[.int .u64 a, .int .u64 b, .int .u64 c] w fun e w' => e = .returned (.bool true) ∧ w = w' := by
  have h1 : decide (((b : Nat) : Int) ≤ ((c : Nat) : Int)) = true := by simp; omega
  have h2 : decide (((a : Nat) : Int) ≤ ((c : Nat) : Int) - ((b : Nat) : Int)) = true := by simp; omega
  go_enter Try.func41, Try.ntmps41
  go_wp2
  go_ret
  exact ⟨rfl, rfl⟩

theorem place_yes (A : Option Addr) (m c p s : Nat) (w : World) (hm : m ≤ 4294967296) (hs : s = 1 ∨ s = 2 ∨ s = 4 ∨ s = 8) (h : p + s ≤ m) : Calls Try.prog 53 #[.slice A m c, .int .u64 p, .int .i64 s] w fun e w' => e = .returned (.int .i64 0) ∧ w = w' := by
  rcases hs with rfl | rfl | rfl | rfl
  all_goals
    go_enter Try.func53, Try.ntmps53
    go_wp2_with (go_at_call 41; refine (refInside_yes p _ m w (by omega) h).mono ?_; rintro e w1 ⟨rfl, rfl⟩)
    go_ret
    exact ⟨rfl, rfl⟩

/-- i bytes of x written from p on. -/
def setK (b : List UInt8) (p x : Nat) : Nat → List UInt8
  | 0 => b
  | i + 1 => (setK b p x i).set (p + i) (UInt8.ofNat (x / 256 ^ i % 256))
theorem setK_len (b : List UInt8) (p x i : Nat) : (setK b p x i).length = b.length := by
  induction i with
  | zero => rfl
  | succ i ih => simp [setK, ih]
theorem u8s_set (b : List UInt8) (i : Nat) (x : UInt8) : (u8s b).set i (.int .u8 x.toNat) = u8s (b.set i x) := by simp [u8s, List.map_set]

set_option maxHeartbeats 1000000 in
theorem refSet_yes (A : Option Addr) (m c B : Nat) (b : List UInt8) (p s x : Nat) (w : World) (hB : B ≤ w.heap.size) (hb : Rd w B 1 A m (u8s b)) (hm : m ≤ 4294967296) (hs : s = 1 ∨ s = 2 ∨ s = 4 ∨ s = 8) (h : p + s ≤ m) (hx : x < 18446744073709551616) :
    Calls Try.prog 44 #[.slice A m c, .int .u64 p, .int .i64 s, .int .u64 x] w fun e w' => ∃ A' c', e = .returned (.tuple #[.slice A' m c', .int .i64 0]) ∧ w'.ownsRow w.heap.size 5 1 (.slice A' m c') m (u8s (setK b p x s)) ∧ Below w.heap.size w w' := by
  have hbl : b.length = m := by simpa using hb.len1
  have hs8 : s ≤ 8 := by omega
  have hs0 : 0 < s := by omega
  have hpl := place_yes A m c p s w hm hs h
  have hcp := copyBytes_any A m c B b w hB hb hm
  have Hpl := hide hpl
  have Hcp := hide hcp
  have Hbl := hide hbl
  clear hpl hcp hbl hb hs
  go_enter Try.func44, Try.ntmps44
  go_wp2_with (first
    | (go_at_call 53; refine (unhide Hpl).mono ?_; rintro e w1 ⟨rfl, rfl⟩)
    | (go_at_call 11; refine (unhide Hcp).mono ?_; rintro e w1 ⟨A', c', rfl, hown, hb1⟩; obtain ⟨g, rfl, hg1, hg2⟩ := own_some hown (by omega); have Hown := hide hown; have Hb1 := hide hb1; clear hown hb1))
  go_loopw [12, 3] (fun i y wr => ∃ k : Nat, k ≤ s ∧ i = .int .i64 k ∧ y = .int .u64 (x / 256 ^ k : Nat) ∧ wr.ownsRow w.heap.size 5 1 (.slice (some ⟨g, 0, none⟩) m c') m (u8s (setK b p x k)) ∧ Below w.heap.size w wr) (fun i _ _ => s - (intOf i).toNat)
  case atStart => exact ⟨0, by omega, rfl, by simp, unhide Hown, unhide Hb1⟩
  case round =>
  clear Hown Hb1
  obtain ⟨k, hk, rfl, rfl, hown, hb2⟩ := hrel
  have Hown := hide hown
  have Hb2 := hide hb2
  clear hown hb2
  rcases Nat.lt_or_ge k s with hlt | hge
  case inr =>
    obtain rfl : k = s := by omega
    go_wp2
    go_ret2
    exact ⟨_, _, rfl, unhide Hown, unhide Hb2⟩
  obtain ⟨z, hz⟩ : ∃ z, (setK b p x k)[p + k]? = some z := ⟨_, List.getElem?_eq_getElem (by rw [setK_len, unhide Hbl]; omega)⟩
  have hset := own_set (i := p + k) (unhide Hown) (.int .u8 (UInt8.ofNat (x / 256 ^ k % 256)).toNat)
  rw [u8s_set] at hset
  have hc2 := own_cell (unhide Hown) (u8s_at hz)
  have hf2 := own_free (unhide Hown) (p + k)
  obtain ⟨hg3, hg4, hg5⟩ := own_at (unhide Hown)
  have hy : x / 256 ^ k < 18446744073709551616 := Nat.lt_of_le_of_lt (Nat.div_le_self _ _) hx
  have hy2 : x / 256 ^ k / 256 = x / 256 ^ (k + 1) := by rw [Nat.div_div_eq_div_mul, Nat.pow_succ]
  have hy3 : (UInt8.ofNat (x / 256 ^ k % 256)).toNat = x / 256 ^ k % 256 := by simp
  have Hy2 := hide hy2
  rw [show (setK b p x k).set (p + k) (UInt8.ofNat (x / 256 ^ k % 256)) = setK b p x (k + 1) from rfl, hy3] at hset
  have Hset := hide hset
  clear hset hy2 hy3 hz
  generalize x / 256 ^ k = y at *
  go_wp2
  go_roundw
  case rel =>
    refine ⟨k + 1, by omega, by go_num, ?_, ?_, (unhide Hb2).setCell hg1 _⟩
    · rw [← unhide Hy2]
      congr 1
    · exact unhide Hset
  case measure => simp [intOf]; omega

end Go.Proofs.Ytkonolmakpeocaa
