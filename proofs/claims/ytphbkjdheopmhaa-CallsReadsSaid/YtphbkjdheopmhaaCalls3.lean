/- The walks of calls.number, empty, first and Check. Conditions: the numbers fit their kinds; lists and texts are no longer than the model's greatest length. -/
import Derived.Test.YtphbkjdheopmhaaCalls2
import Derived.Test.YtphbkjdheopmhaaBytes
import Derived.Deep.RegionHeld3
namespace Go.Proofs.Ytphbkjdheopmhaa
set_option linter.unusedVariables false
set_option linter.unusedSimpArgs false
open Go.RowKit

/-- A slice value's three words. -/
structure Sl where
  A : Option Addr
  n : Nat
  c : Nat
/-- A call's cells. -/
abbrev clCells (q : Cl.C) (x y z : Sl) : Array Value := #[.int .u8 q.kind, .int .u64 q.a, .int .u64 q.b, .int .u64 q.c, .int .u64 q.d, .int .u64 q.e, .string q.path, .slice x.A x.n x.c, .slice y.A y.n y.c, .slice z.A z.n z.c]
/-- The three lists of a call read so, below B. -/
structure ClOk (w : World) (B : Nat) (q : Cl.C) (x y z : Sl) : Prop where
  r1 : Rd w B 1 x.A x.n (q.argv.map Value.string)
  r2 : Rd w B 1 y.A y.n (q.env.map Value.string)
  r3 : Rd w B 1 z.A z.n (bys q.bytes)
/-- The numbers fit, and nothing is longer than it may be. -/
structure ClFit (q : Cl.C) : Prop where
  k : q.kind < 256
  a : q.a < 18446744073709551616
  b : q.b < 18446744073709551616
  c : q.c < 18446744073709551616
  d : q.d < 18446744073709551616
  e : q.e < 18446744073709551616
  p : q.path.size ≤ maxLen
  l1 : q.argv.length ≤ maxLen
  l2 : q.env.length ≤ maxLen
  l3 : q.bytes.length ≤ maxLen
  s1 : ∀ t ∈ q.argv, t.size ≤ maxLen
  s2 : ∀ t ∈ q.env, t.size ≤ maxLen
section
variable {w w' : World} {B B' : Nat} {q : Cl.C} {x y z : Sl}
theorem ClOk.below (h : ClOk w B q x y z) (hb : Below B w w') : ClOk w' B q x y z := ⟨h.r1.below hb, h.r2.below hb, h.r3.below hb⟩
theorem ClOk.more (h : ClOk w B q x y z) (hB : B ≤ B') : ClOk w B' q x y z := ⟨h.r1.more hB, h.r2.more hB, h.r3.more hB⟩
theorem ClOk.alloc (h : ClOk w B q x y z) (hB : B ≤ w.heap.size) (o : Obj) : ClOk (w.alloc o) B q x y z := ⟨h.r1.alloc hB o, h.r2.alloc hB o, h.r3.alloc hB o⟩
theorem ClOk.n1 (h : ClOk w B q x y z) : q.argv.length = x.n := by simpa using h.r1.len1
theorem ClOk.n2 (h : ClOk w B q x y z) : q.env.length = y.n := by simpa using h.r2.len1
theorem ClOk.n3 (h : ClOk w B q x y z) : q.bytes.length = z.n := by simpa [bys] using h.r3.len1
end
theorem box10 {w : World} {g : Nat} {a0 a1 a2 a3 a4 a5 a6 a7 a8 a9 : Value} {t : TypeId} (h : w.heap[g]? = some (.cells #[a0, a1, a2, a3, a4, a5, a6, a7, a8, a9] t)) :
    w.cell? ⟨g, 0, none⟩ = some a0 ∧ w.cell? ⟨g, 1, none⟩ = some a1 ∧ w.cell? ⟨g, 2, none⟩ = some a2 ∧ w.cell? ⟨g, 3, none⟩ = some a3 ∧ w.cell? ⟨g, 4, none⟩ = some a4 ∧ w.cell? ⟨g, 5, none⟩ = some a5 ∧ w.cell? ⟨g, 6, none⟩ = some a6 ∧ w.cell? ⟨g, 7, none⟩ = some a7 ∧ w.cell? ⟨g, 8, none⟩ = some a8 ∧ w.cell? ⟨g, 9, none⟩ = some a9 :=
  ⟨cell_of_row _ _ 0 _ _ _ h, cell_of_row _ _ 1 _ _ _ h, cell_of_row _ _ 2 _ _ _ h, cell_of_row _ _ 3 _ _ _ h, cell_of_row _ _ 4 _ _ _ h, cell_of_row _ _ 5 _ _ _ h, cell_of_row _ _ 6 _ _ _ h, cell_of_row _ _ 7 _ _ _ h, cell_of_row _ _ 8 _ _ _ h, cell_of_row _ _ 9 _ _ _ h⟩

theorem number_any (g f : Nat) (w : World) (hf : f < 5) : Calls Try.prog 44 #[.pointer (some ⟨g, 0, none⟩), .int .i64 f] w fun e w' => e = .returned (.pointer (some ⟨g, f + 1, none⟩)) ∧ w = w' := by
  obtain rfl | rfl | rfl | rfl | rfl : f = 0 ∨ f = 1 ∨ f = 2 ∨ f = 3 ∨ f = 4 := by omega
  all_goals
    go_enter Try.func44, Try.ntmps44
    go_wp2_with fail
    go_ret
    exact ⟨rfl, rfl⟩

theorem zero_eq (n : Nat) : (((n : Nat) : Int) == 0) = (n == 0) := by rw [Bool.eq_iff_iff, beq_iff_eq, beq_iff_eq]; omega
theorem zero_dec (n : Nat) : (((n : Nat) : Int) == 0) = decide (n = 0) := by rw [Bool.eq_iff_iff, beq_iff_eq, decide_eq_true_eq]; omega

/-- The first that is not nought. -/
def firstNZ : List Int → Int
  | [] => 0
  | x :: r => if x = 0 then firstNZ r else x
theorem firstNZ_zero (l : List Int) (k : Nat) (h : ∀ j, j < k → l[j]? = some 0 ∨ l[j]? = none) : firstNZ l = firstNZ (l.drop k) := by
  induction k generalizing l with
  | zero => rfl
  | succ k ih =>
    cases l with
    | nil => rfl
    | cons x r =>
      have h0 := h 0 (by omega)
      simp at h0
      subst h0
      simp only [firstNZ, if_true, List.drop_succ_cons]
      exact ih r (fun j hj => by simpa using h (j + 1) (by omega))
theorem first_any (A : Option Addr) (n c B : Nat) (l : List Int) (w : World) (hl : Rd w B 1 A n (l.map (Value.int .i64))) (hn : n ≤ maxLen) :
    Calls Try.prog 33 #[.slice A n c] w fun e w' => e = .returned (.int .i64 (firstNZ l)) ∧ w = w' := by
  have hln : l.length = n := by simpa using hl.len1
  unfold maxLen at hn
  have Hl := hide hl
  have Hln := hide hln
  clear hl hln
  go_enter Try.func33, Try.ntmps33
  go_wp2_with fail
  go_loopg [7] n (fun gk i wr => ∃ k : Nat, gk = n - k ∧ k ≤ n ∧ i = .int .i64 k ∧ (∀ j, j < k → l[j]? = some 0 ∨ l[j]? = none) ∧ w = wr)
  case atStart => exact ⟨0, by omega, Nat.zero_le _, rfl, fun j hj => by omega, rfl⟩
  case round =>
    obtain ⟨k, hgk, hk, rfl, hno, rfl⟩ := hrel
    have Hgk := hide hgk
    have Hno := hide hno
    clear hgk hno
    by_cases hlt : k < n
    · obtain ⟨x, hx⟩ : ∃ x, l[k]? = some x := ⟨_, List.getElem?_eq_getElem (by rw [unhide Hln]; exact hlt)⟩
      obtain ⟨b1, o1, rfl, _, c1⟩ := (unhide Hl).at_ (k := k) (u := .int .i64 x) (by simp [hx])
      by_cases he : x = 0
      · have hb : (x != 0) = false := by simpa using he
        have hno2 : ∀ j, j < k + 1 → l[j]? = some 0 ∨ l[j]? = none := fun j hj => by
          by_cases e : j = k
          · subst e; exact .inl (by rw [hx, he])
          · exact (unhide Hno) j (by omega)
        have Hno2 := hide hno2
        clear hno2 hx he
        go_wp2_with fail
        go_roundg (n - (k + 1))
        case measure => have := unhide Hgk; omega
        case rel => exact ⟨k + 1, rfl, by omega, by go_num, unhide Hno2, rfl⟩
      · have hb : (x != 0) = true := by simpa using he
        have hf : firstNZ l = x := by
          rw [firstNZ_zero l k (unhide Hno), List.drop_eq_getElem_cons (by rw [unhide Hln]; exact hlt), (List.getElem?_eq_some_iff.1 hx).2]
          simp [firstNZ, he]
        have Hf := hide hf
        clear hf hx he
        go_wp2_with fail
        go_ret
        exact ⟨by rw [unhide Hf]; rfl, rfl⟩
    · have hf : firstNZ l = 0 := by
        rw [firstNZ_zero l k (unhide Hno), List.drop_eq_nil_of_le (by rw [unhide Hln]; omega)]
        rfl
      have Hf := hide hf
      clear hf
      go_wp2_with fail
      go_ret
      exact ⟨by rw [unhide Hf]; rfl, rfl⟩

theorem fs_map (k : Nat) : fs k = (Cl.fsN k).map fun n : Nat => ((n : Nat) : Int) := by
  match k with
  | 0 | 1 | 2 | 3 | 4 | 5 | 6 | 7 | 8 | 9 | 10 | 11 | 12 => rfl
  | k + 13 => rfl
theorem memB_fs (k f : Nat) : Wd.memB ((f : Nat) : Int) (fs k) = (Cl.fsN k).contains f := by
  rw [fs_map]
  unfold Wd.memB
  rw [Bool.eq_iff_iff, decide_eq_true_eq, List.contains_iff_mem, List.mem_map]
  constructor
  · rintro ⟨a, ha, he⟩
    have : a = f := by omega
    rwa [this] at ha
  · intro h
    exact ⟨f, h, rfl⟩

theorem fmap_find (bs : Nat → Nat) (j k : Nat) (h1 : 1 ≤ k) (h2 : k ≤ j) : (fmap bs j).find? (fun p => p.1 == ((k : Nat) : Int)) = some (((k : Nat) : Int), Value.slice (some ⟨bs (k - 1), 0, none⟩) (fs k).length (fs k).length) := by
  induction j with
  | zero => omega
  | succ j ih =>
    have e : fmap bs (j + 1) = fmap bs j ++ [(((j + 1 : Nat) : Int), Value.slice (some ⟨bs j, 0, none⟩) (fs (j + 1)).length (fs (j + 1)).length)] := by
      unfold fmap; rw [List.range_succ, List.map_append]; rfl
    rw [e, List.find?_append]
    by_cases hk : k ≤ j
    · rw [ih hk]; rfl
    · obtain rfl : k = j + 1 := by omega
      have hn : (fmap bs j).find? (fun p => p.1 == (((j + 1 : Nat) : Nat) : Int)) = none := by
        rw [List.find?_eq_none]
        intro p hp
        unfold fmap at hp
        simp only [List.mem_map, List.mem_range] at hp
        obtain ⟨i, hi, rfl⟩ := hp
        simp
        omega
      rw [hn]
      simp
theorem fmap_none (bs : Nat → Nat) (j k : Nat) (h : k = 0 ∨ j < k) : (fmap bs j).find? (fun p => p.1 == ((k : Nat) : Int)) = none := by
  rw [List.find?_eq_none]
  intro p hp
  unfold fmap at hp
  simp only [List.mem_map, List.mem_range] at hp
  obtain ⟨i, hi, rfl⟩ := hp
  simp
  omega
theorem zero_fields (w : World) : (zeroValue 53).run Try.prog w = .ok (.slice none 0 0) w := by kernel_rfl
/-- What the map of fields holds of a kind. -/
theorem look_yes {w0 w : World} {g k : Nat} (h : FM w0 g 12 w) (h1 : 1 ≤ k) (h2 : k ≤ 12) : ∃ b, w0.heap.size ≤ b ∧
    (Instr.lookup 55 (.map (some g)) (.int .u8 k) true).run Try.prog w = .ok (.tuple #[.slice (some ⟨b, 0, none⟩) (fs k).length (fs k).length, .bool true]) w ∧
    (Instr.lookup 55 (.map (some g)) (.int .u8 k) false).run Try.prog w = .ok (.slice (some ⟨b, 0, none⟩) (fs k).length (fs k).length) w ∧
    Rd w w.heap.size 1 (some ⟨b, 0, none⟩) (fs k).length ((fs k).map (Value.int .i64)) := by
  obtain ⟨bs, hm, hb, _, _⟩ := h
  have hf := fmap_find bs 12 k h1 h2
  have r1 := run_mapLook (P := Try.prog) (z := .slice none 0 0) Try.underlying55 Try.underlying5 (x := ((k : Nat) : Int)) (by simp [Go.MapKept.IsKey]) (zero_fields w) hm
  have r2 := run_mapLook1 (P := Try.prog) (z := .slice none 0 0) Try.underlying55 Try.underlying5 (x := ((k : Nat) : Int)) (by simp [Go.MapKept.IsKey]) (zero_fields w) hm
  rw [hf] at r1 r2
  obtain ⟨q1, q2, q3⟩ := hb (k - 1) (by omega)
  rw [show k - 1 + 1 = k from by omega] at q1
  refine ⟨bs (k - 1), q3, r1, r2, ⟨by simp, ?_⟩⟩
  refine .inr ⟨bs (k - 1), 0, rfl, lt_of_block q1, fun j u hu => ?_⟩
  rw [cell_of_row _ _ _ _ _ _ q1, Nat.zero_add]
  simpa [fcells] using hu
theorem look_no {w0 w : World} {g k : Nat} (h : FM w0 g 12 w) (hk : k = 0 ∨ 12 < k) :
    (Instr.lookup 55 (.map (some g)) (.int .u8 k) true).run Try.prog w = .ok (.tuple #[.slice none 0 0, .bool false]) w := by
  obtain ⟨bs, hm, hb, _, _⟩ := h
  have r1 := run_mapLook (P := Try.prog) (z := .slice none 0 0) Try.underlying55 Try.underlying5 (x := ((k : Nat) : Int)) (by simp [Go.MapKept.IsKey]) (zero_fields w) hm
  rw [fmap_none bs 12 k hk] at r1
  exact r1
theorem FM.below {w0 w : World} {g j : Nat} (h : FM w0 g j w) : Below w0.heap.size w0 w := h.choose_spec.2.2.1
end Go.Proofs.Ytphbkjdheopmhaa
