/- The walks of the package words: Add, Down, Up, Inside, sized, check, Get. Conditions: the numbers fit their kinds. -/
import Derived.Test.YtphbkjdheopmhaaApp
import Derived.Test.YtphbkjdheopmhaaWordsPure
import Derived.Test.YtphbkjdheopmhaaProg
import Derived.WalkSpells
import Derived.WalkLawsBesides
import Derived.BigQuiet
import Derived.Deep.QuietTactic
namespace Go.Proofs.Ytphbkjdheopmhaa
set_option linter.unusedVariables false
set_option linter.unusedSimpArgs false
open Go.RowKit

theorem add_yes (a b : Int) (w : World) (h0 : 0 ≤ a) (h2 : 0 ≤ b) (h : a + b ≤ 18446744073709551615) :
    Calls Try.prog 87 #[.int .u64 a, .int .u64 b] w fun e w' => e = .returned (.tuple #[.int .u64 (a + b), .bool true]) ∧ w = w' := by
  obtain ⟨c, hc, hcb⟩ : ∃ c, bits .xor .u64 IntKind.u64.max b = c ∧ c = 18446744073709551615 - b := ⟨_, rfl, Wd.xor_top b h2 (by omega)⟩
  have hc2 : ¬ c < a := by omega
  have hs : IntKind.u64.signed = false := rfl
  clear hcb
  go_enter Try.func87, Try.ntmps87
  go_wp2
  go_ret2
  exact ⟨rfl, rfl⟩
theorem add_no (a b : Int) (w : World) (h1 : a ≤ 18446744073709551615) (h2 : 0 ≤ b) (h3 : b ≤ 18446744073709551615) (h : 18446744073709551615 < a + b) :
    Calls Try.prog 87 #[.int .u64 a, .int .u64 b] w fun e w' => e = .returned (.tuple #[.int .u64 0, .bool false]) ∧ w = w' := by
  obtain ⟨c, hc, hcb⟩ : ∃ c, bits .xor .u64 IntKind.u64.max b = c ∧ c = 18446744073709551615 - b := ⟨_, rfl, Wd.xor_top b h2 (by omega)⟩
  have hc2 : c < a := by omega
  have hs : IntKind.u64.signed = false := rfl
  clear hcb
  go_enter Try.func87, Try.ntmps87
  go_wp2
  go_ret2
  exact ⟨rfl, rfl⟩

theorem inside_any (a b c : Int) (w : World) (h0 : 0 ≤ a) (h1 : a ≤ 18446744073709551615) (h2 : 0 ≤ b) (h3 : b ≤ 18446744073709551615) (h5 : c ≤ 18446744073709551615) :
    Calls Try.prog 80 #[.int .u64 a, .int .u64 b, .int .u64 c] w fun e w' => e = .returned (.bool (decide (a + b ≤ c))) ∧ w = w' := by
  by_cases h : a + b ≤ 18446744073709551615
  · go_enter Try.func80, Try.ntmps80
    go_wp2_with (go_at_call 87; refine (add_yes _ _ _ h0 h2 h).mono ?_; rintro e w' ⟨rfl, rfl⟩)
    go_ret
    exact ⟨rfl, rfl⟩
  · have h' : 18446744073709551615 < a + b := by omega
    have hr : decide (a + b ≤ c) = false := decide_eq_false (by omega)
    rw [hr]
    clear hr
    go_enter Try.func80, Try.ntmps80
    go_wp2_with (go_at_call 87; refine (add_no _ _ _ h1 h2 h3 h').mono ?_; rintro e w' ⟨rfl, rfl⟩)
    go_ret
    exact ⟨rfl, rfl⟩

def IdxInt (xs : List Int) (v : Int) (w : World) (e : Ending) (w' : World) : Prop := ∃ r : Int, e = .returned (.int .i64 r) ∧ (0 ≤ r ↔ v ∈ xs) ∧ w = w'
theorem indexInt_any (A : Option Addr) (n c B : Nat) (xs : List Int) (v : Int) (w : World) (hx : Rd w B 1 A n (xs.map (Value.int .i64))) (hn : n ≤ maxLen) :
    Calls Try.prog 90 #[.slice A n c, .int .i64 v] w (IdxInt xs v w) := by
  have hxl : xs.length = n := by simpa using hx.len1
  unfold maxLen at hn
  have Hx := hide hx
  have Hxl := hide hxl
  clear hx hxl
  go_enter Try.func90, Try.ntmps90
  go_wp2
  go_loop [8] (fun i => ∃ k : Nat, k ≤ n ∧ i = .int .i64 k ∧ v ∉ xs.take k) (fun i => n - (intOf i).toNat)
  case atStart => exact ⟨0, Nat.zero_le _, rfl, by simp⟩
  case round =>
    obtain ⟨k, hk, rfl, hv⟩ := hrel
    have Hv := hide hv
    clear hv
    by_cases hlt : k < n
    · obtain ⟨x, hxk⟩ : ∃ x, xs[k]? = some x := ⟨_, List.getElem?_eq_getElem (by rw [unhide Hxl]; exact hlt)⟩
      obtain ⟨b1, o1, rfl, _, c1⟩ := (unhide Hx).at_ (k := k) (u := .int .i64 x) (by simp [hxk])
      by_cases he : v = x
      · have hb : (v == x) = true := by simpa using he
        have hm : v ∈ xs := by rw [he]; exact List.mem_of_getElem? hxk
        have Hm := hide hm
        clear he hxk hm
        go_wp2
        go_ret
        exact ⟨k, rfl, ⟨fun _ => unhide Hm, fun _ => by omega⟩, rfl⟩
      · have hb : (v == x) = false := by simpa using he
        have hm : v ∉ xs.take (k + 1) := by
          rw [List.take_add_one, hxk, List.mem_append]
          simp [he, unhide Hv]
        have Hm := hide hm
        clear he hxk hm
        go_wp2
        go_round
        case rel => exact ⟨k + 1, by omega, by go_num, unhide Hm⟩
        case measure => simp [intOf]; omega
    · have hm : v ∉ xs := by
        have := unhide Hv
        rwa [List.take_of_length_le (by have := unhide Hxl; omega)] at this
      have Hm := hide hm
      clear hm
      go_wp2
      go_ret
      exact ⟨-1, rfl, ⟨fun h => by omega, fun h => absurd h (unhide Hm)⟩, rfl⟩

theorem containsInt_any (A : Option Addr) (n c B : Nat) (xs : List Int) (v : Int) (w : World) (hx : Rd w B 1 A n (xs.map (Value.int .i64))) (hn : n ≤ maxLen) :
    Calls Try.prog 86 #[.slice A n c, .int .i64 v] w fun e w' => e = .returned (.bool (Wd.memB v xs)) ∧ w = w' := by
  have Hx := hide hx
  clear hx
  go_enter Try.func86, Try.ntmps86
  go_wp2_with (go_at_call 90; refine (indexInt_any _ _ _ _ _ _ _ (unhide Hx) hn).mono ?_; rintro e w1 ⟨r, rfl, hr, rfl⟩; have Hr := hide hr; clear hr)
  go_ret
  refine ⟨ret_bool ?_, rfl⟩
  unfold Wd.memB
  rw [Bool.eq_iff_iff, decide_eq_true_eq, decide_eq_true_eq]
  exact unhide Hr

theorem sized_any (n : Int) (w : World) :
    Calls Try.prog 79 #[.int .i64 n] w fun e w' => e = .returned (.bool (Wd.sizedB n)) ∧ Below w.heap.size w w' := by
  have hr := Rd.row (w := w) (cs := #[.int .i64 1, .int .i64 2, .int .i64 4, .int .i64 8]) (e := 107) (size := 4) rfl
  have hr2 : Rd (w.alloc (.cells #[.int .i64 1, .int .i64 2, .int .i64 4, .int .i64 8] 107)) (w.heap.size + 1) 1 (some ⟨w.heap.size, 0, none⟩) 4 (([1, 2, 4, 8] : List Int).map (Value.int .i64)) := ⟨rfl, hr.2⟩
  have Hr := hide hr2
  clear hr hr2
  go_enter Try.func79, Try.ntmps79
  go_wp2_with (go_at_call 86; refine (containsInt_any _ _ _ _ _ _ _ (unhide Hr) (by unfold maxLen; omega)).mono ?_; rintro e w1 ⟨rfl, rfl⟩)
  go_ret
  exact ⟨rfl, (Below.refl _ _).alloc (Nat.le_refl _) _⟩

/-- check, where so many bytes are there. -/
theorem check_yes (A : Option Addr) (m c : Nat) (p s : Int) (w : World) (hm : m ≤ maxLen) (hs : s = 1 ∨ s = 2 ∨ s = 4 ∨ s = 8) (h0 : 0 ≤ p) (hp : p ≤ 18446744073709551615) (hin : p + s ≤ m) :
    Calls Try.prog 75 #[.slice A m c, .int .u64 p, .int .i64 s] w fun e w' => e = .returned (.int .i64 0) ∧ Below w.heap.size w w' := by
  unfold maxLen at hm
  have hd : Wd.sizedB s = true := Wd.sizedB_yes hs
  have hd2 : decide (p + s ≤ (m : Int)) = true := by simpa using hin
  have hs1 : 1 ≤ s := by omega
  have hs8 : s ≤ 8 := by omega
  clear hs
  go_enter Try.func75, Try.ntmps75
  go_wp2_with (first
    | (go_at_call 79; refine (sized_any _ _).mono ?_; rintro e w1 ⟨rfl, hb1⟩)
    | (go_at_call 80; refine (inside_any _ _ _ _ h0 hp (by omega) (by omega) (by omega)).mono ?_; rintro e w2 ⟨rfl, rfl⟩))
  go_ret
  exact ⟨rfl, hb1⟩
/-- check, where they are not. -/
theorem check_no (A : Option Addr) (m c : Nat) (p s : Int) (w : World) (hm : m ≤ maxLen) (hs : s = 1 ∨ s = 2 ∨ s = 4 ∨ s = 8) (h0 : 0 ≤ p) (hp : p ≤ 18446744073709551615) (hin : m < p + s) :
    Calls Try.prog 75 #[.slice A m c, .int .u64 p, .int .i64 s] w fun e w' => e = .returned (.int .i64 24) ∧ Below w.heap.size w w' := by
  unfold maxLen at hm
  have hd : Wd.sizedB s = true := Wd.sizedB_yes hs
  have hd2 : decide (p + s ≤ (m : Int)) = false := by simpa using hin
  have hs1 : 1 ≤ s := by omega
  have hs8 : s ≤ 8 := by omega
  clear hs
  go_enter Try.func75, Try.ntmps75
  go_wp2_with (first
    | (go_at_call 79; refine (sized_any _ _).mono ?_; rintro e w1 ⟨rfl, hb1⟩)
    | (go_at_call 80; refine (inside_any _ _ _ _ h0 hp (by omega) (by omega) (by omega)).mono ?_; rintro e w2 ⟨rfl, rfl⟩))
  go_ret
  exact ⟨rfl, hb1⟩

set_option maxHeartbeats 800000 in
theorem get_loop (A : Option Addr) (m c : Nat) (B : Nat) (b : List UInt8) (p s : Nat) (w : World) (hB : B ≤ w.heap.size) (hb : Rd w B 1 A m (b.map fun c => .int .u8 c.toNat)) (hm : m ≤ maxLen) (hs : s = 1 ∨ s = 2 ∨ s = 4 ∨ s = 8) (hin : p + s ≤ m)
    (hck : ∀ w, Calls Try.prog 75 #[.slice A m c, .int .u64 p, .int .i64 s] w fun e w' => e = .returned (.int .i64 0) ∧ Below w.heap.size w w') :
    Calls Try.prog 71 #[.slice A m c, .int .u64 p, .int .i64 s] w fun e w' => e = .returned (.tuple #[.int .u64 (Wd.num b p s), .int .i64 0]) ∧ Below w.heap.size w w' := by
  have hs8 : s ≤ 8 := by omega
  have hbl : b.length = m := by simpa using hb.len1
  unfold maxLen at hm
  have Hb := hide hb
  have Hck := hide hck
  have Hbl := hide hbl
  clear hb hck hs hbl
  go_enter Try.func71, Try.ntmps71
  go_wp2_with (go_at_call 75; refine ((unhide Hck) _).mono ?_; rintro e w1 ⟨rfl, hb1⟩)
  go_loop [6, 18] (fun x i => ∃ k : Nat, k ≤ s ∧ i = .int .i64 k ∧ x = .int .u64 (Wd.num b p k)) (fun _ i => s - (intOf i).toNat)
  case atStart => exact ⟨0, Nat.zero_le _, rfl, by rw [Wd.num_zero]; rfl⟩
  case round =>
    obtain ⟨k, hk, rfl, rfl⟩ := hrel
    by_cases hlt : k < s
    · obtain ⟨x, hx⟩ : ∃ x, b[p + k]? = some x := ⟨_, List.getElem?_eq_getElem (by rw [unhide Hbl]; omega)⟩
      obtain ⟨b1, o1, rfl, _, c1⟩ := ((unhide Hb).below (hb1.mono hB)).at_ (k := p + k) (u := .int .u8 x.toNat) (by simp [hx])
      have hst := Wd.num_succ b p k x hx
      have hlt2 := Wd.num_lt b p s
      have Hst := hide hst
      have hval := Wd.or_val (Wd.num b p k) x.toNat k (Wd.num_lt b p k) x.toNat_lt (by omega)
      rw [← hst] at hval
      have Hval := hide hval
      clear hst hx hlt2 hval
      go_wp2
      go_round
      case rel => exact ⟨k + 1, by omega, by go_num, by rw [unhide Hval]⟩
      case measure => simp [intOf]; omega
    · obtain rfl : k = s := by omega
      go_wp2
      go_ret2
      exact ⟨rfl, hb1⟩

theorem get_yes (A : Option Addr) (m c : Nat) (B : Nat) (b : List UInt8) (p s : Nat) (w : World) (hB : B ≤ w.heap.size) (hb : Rd w B 1 A m (b.map fun c => .int .u8 c.toNat)) (hm : m ≤ maxLen) (hs : s = 1 ∨ s = 2 ∨ s = 4 ∨ s = 8) (hin : p + s ≤ m) :
    Calls Try.prog 71 #[.slice A m c, .int .u64 p, .int .i64 s] w fun e w' => e = .returned (.tuple #[.int .u64 (Wd.num b p s), .int .i64 0]) ∧ Below w.heap.size w w' :=
  get_loop A m c B b p s w hB hb hm hs hin fun w => check_yes A m c p s w hm (by omega) (by omega) (by unfold maxLen at hm; omega) (by omega)

theorem get_no (A : Option Addr) (m c : Nat) (p s : Int) (w : World) (hm : m ≤ maxLen) (hs : s = 1 ∨ s = 2 ∨ s = 4 ∨ s = 8) (h0 : 0 ≤ p) (hp : p ≤ 18446744073709551615) (hin : m < p + s) :
    Calls Try.prog 71 #[.slice A m c, .int .u64 p, .int .i64 s] w fun e w' => e = .returned (.tuple #[.int .u64 0, .int .i64 24]) ∧ Below w.heap.size w w' := by
  go_enter Try.func71, Try.ntmps71
  go_wp2_with (go_at_call 75; refine (check_no A m c p s _ hm hs h0 hp hin).mono ?_; rintro e w1 ⟨rfl, hb1⟩)
  go_ret2
  exact ⟨rfl, hb1⟩

end Go.Proofs.Ytphbkjdheopmhaa
