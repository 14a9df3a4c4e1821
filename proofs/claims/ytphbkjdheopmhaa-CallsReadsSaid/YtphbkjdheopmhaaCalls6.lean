/- The walk of hostelref25.Same. Conditions: as calls'. -/
import Derived.Test.YtphbkjdheopmhaaCalls5
import Derived.Test.YtphbkjdheopmhaaEq
namespace Go.Proofs.Ytphbkjdheopmhaa
set_option linter.unusedVariables false
set_option linter.unusedSimpArgs false
open Go.RowKit

/-- Two calls are the same. -/
def sameB (q r : Cl.C) : Bool := decide (q.kind = r.kind ∧ q.a = r.a ∧ q.b = r.b ∧ q.c = r.c ∧ q.d = r.d ∧ q.e = r.e ∧ q.path = r.path ∧ q.argv = r.argv ∧ q.env = r.env ∧ q.bytes = r.bytes)
theorem natEq_t {a b : Nat} (h : a = b) : (((a : Nat) : Int) == ((b : Nat) : Int)) = true := by rw [h]; exact beq_self_eq_true _
theorem natEq_f {a b : Nat} (h : ¬ a = b) : (((a : Nat) : Int) == ((b : Nat) : Int)) = false := beq_eq_false_iff_ne.2 (by omega)
theorem ClOk.drewN {w : World} {B : Nat} {q : Cl.C} {x y z : Sl} (h : ClOk w B q x y z) (k : Nat) : ClOk (w.drewN k) B q x y z := ⟨h.r1.drewN k, h.r2.drewN k, h.r3.drewN k⟩
theorem same_rows (q r : Cl.C) (x y z x' y' z' : Sl) (w : World) :
    ((w.alloc (.cells (clCells q x y z) 26)).alloc (.cells (clCells r x' y' z') 26)).heap[w.heap.size]? = some (.cells (clCells q x y z) 26 (0, 0)) ∧
    ((w.alloc (.cells (clCells q x y z) 26)).alloc (.cells (clCells r x' y' z') 26)).heap[w.heap.size + 1]? = some (.cells (clCells r x' y' z') 26 (0, 0)) ∧
    Below w.heap.size w ((w.alloc (.cells (clCells q x y z) 26)).alloc (.cells (clCells r x' y' z') 26)) := by
  refine ⟨?_, ?_, ((Below.refl w.heap.size w).alloc (Nat.le_refl _) _).alloc (by simp) _⟩
  · have h1 := heap_alloc_new w (.cells (clCells q x y z) 26)
    have h2 := ((Below.refl (w.alloc (.cells (clCells q x y z) 26)).heap.size _).alloc (Nat.le_refl _) (.cells (clCells r x' y' z') 26)).block w.heap.size (lt_of_block h1)
    exact h2.trans h1
  · have h1 := heap_alloc_new (w.alloc (.cells (clCells q x y z) 26)) (.cells (clCells r x' y' z') 26)
    have e : (w.alloc (.cells (clCells q x y z) 26)).heap.size = w.heap.size + 1 := by simp
    rwa [e] at h1

set_option maxRecDepth 20000 in
set_option maxHeartbeats 4000000 in
theorem same_ne (q r : Cl.C) (x y z x' y' z' : Sl) (w : World) (hne : ¬ (q.kind = r.kind ∧ q.a = r.a ∧ q.b = r.b ∧ q.c = r.c ∧ q.d = r.d ∧ q.e = r.e ∧ q.path = r.path)) :
    Calls Try.prog 15 #[.agg (clCells q x y z), .agg (clCells r x' y' z')] w fun e w' => e = .returned (.bool false) ∧ Below w.heap.size w w' := by
  have HbW := hide (same_rows q r x y z x' y' z' w).2.2
  by_cases h0 : q.kind = r.kind
  case neg =>
    have t0 := natEq_f h0
    clear h0 hne
    go_enter Try.func15, Try.ntmps15
    go_wp2_with fail
    go_ret
    exact ⟨rfl, unhide HbW⟩
  have t0 := natEq_t h0
  by_cases h1 : q.a = r.a
  case neg =>
    have t1 := natEq_f h1
    clear h1 hne
    go_enter Try.func15, Try.ntmps15
    go_wp2_with fail
    go_ret
    exact ⟨rfl, unhide HbW⟩
  have t1 := natEq_t h1
  by_cases h2 : q.b = r.b
  case neg =>
    have t2 := natEq_f h2
    clear h2 hne
    go_enter Try.func15, Try.ntmps15
    go_wp2_with fail
    go_ret
    exact ⟨rfl, unhide HbW⟩
  have t2 := natEq_t h2
  by_cases h3 : q.c = r.c
  case neg =>
    have t3 := natEq_f h3
    clear h3 hne
    go_enter Try.func15, Try.ntmps15
    go_wp2_with fail
    go_ret
    exact ⟨rfl, unhide HbW⟩
  have t3 := natEq_t h3
  by_cases h4 : q.d = r.d
  case neg =>
    have t4 := natEq_f h4
    clear h4 hne
    go_enter Try.func15, Try.ntmps15
    go_wp2_with fail
    go_ret
    exact ⟨rfl, unhide HbW⟩
  have t4 := natEq_t h4
  by_cases h5 : q.e = r.e
  case neg =>
    have t5 := natEq_f h5
    clear h5 hne
    go_enter Try.func15, Try.ntmps15
    go_wp2_with fail
    go_ret
    exact ⟨rfl, unhide HbW⟩
  have t5 := natEq_t h5
  have t6 : (q.path.toList == r.path.toList) = false := by
    rw [beq_toList, decide_eq_false_iff_not]
    exact fun h => hne ⟨h0, h1, h2, h3, h4, h5, h⟩
  clear hne h0 h1 h2 h3 h4 h5
  go_enter Try.func15, Try.ntmps15
  go_wp2_with fail
  go_ret
  exact ⟨rfl, unhide HbW⟩
end Go.Proofs.Ytphbkjdheopmhaa
