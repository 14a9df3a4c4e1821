/- The walk of elf.Parse: what it answers of any bytes. Conditions: there are fewer than 2^32 bytes. -/
import Derived.Test.YtkonolmakpeocaaElf5
import Derived.Test.YtkonolmakpeocaaElf2z
import Derived.Recover
namespace Go.Proofs.Ytkonolmakpeocaa
set_option linter.unusedVariables false
set_option linter.unusedSimpArgs false
open Go.RowKit

/-- Block g holds a head, the next one an error; below g nothing has turned. -/
structure PW (w : World) (a b c d e : Value) (w' : World) : Prop where
  below : Below w.heap.size w w'
  head : w'.heap[w.heap.size]? = some (.cells #[a, b, c, d] 28 (0, 0))
  err : w'.heap[w.heap.size + 1]? = some (.cells #[e] 29 (0, 0))

theorem PW.start (w : World) : PW w (.int .u16 0) (.int .u64 0) (.int .u64 0) (.slice none 0 0) (.int .i64 0) ((w.alloc (.cells #[.int .u16 0, .int .u64 0, .int .u64 0, .slice none 0 0] 28)).alloc (.cells #[.int .i64 0] 29)) :=
  ⟨((Below.refl _ _).alloc (Nat.le_refl _) _).alloc (by simp) _, (Below.heap_alloc _ _ _ (by simp)).trans (heap_alloc_new _ _), heap_alloc2_new _ _ _⟩
theorem PW.later {w0 w w' : World} {a b c d e : Value} (h : PW w0 a b c d e w) (hb : Below w.heap.size w w') : PW w0 a b c d e w' :=
  ⟨h.below.trans (hb.mono h.below.size), (hb.block _ (lt_of_block h.head)).trans h.head, (hb.block _ (lt_of_block h.err)).trans h.err⟩
theorem PW.setHead {w0 w : World} {a b c d e a' b' c' d' : Value} (h : PW w0 a b c d e w) : PW w0 a' b' c' d' e (w.setRow w0.heap.size #[a', b', c', d']) :=
  ⟨below_setRow h.below (Nat.le_refl _) _, setRow_heap _ _ _ _ _ _ h.head, (setRow_other _ _ _ _ (by simp)).trans h.err⟩
theorem PW.setErr {w0 w : World} {a b c d e e' : Value} (h : PW w0 a b c d e w) : PW w0 a b c d e' (w.setCell ⟨w0.heap.size + 1, 0, none⟩ e') :=
  ⟨h.below.setCell (by simp) _, (Below.heap_setCell _ _ _ _ (by simp)).trans h.head, one_setCell h.err⟩
theorem PW.reset {w0 w : World} {a b c d e0 : Value} (h : PW w0 a b c d e0 w) (e : Int) : PW w0 (.int .u16 0) (.int .u64 0) (.int .u64 0) (.slice none 0 0) (.int .i64 e) ((w.setRow w0.heap.size #[.int .u16 0, .int .u64 0, .int .u64 0, .slice none 0 0]).setCell ⟨w0.heap.size + 1, 0, none⟩ (.int .i64 e)) := h.setHead.setErr

theorem headInfo : (Try.prog.info? 28).map (·.size) = some 4 := by kernel_rfl
theorem headOne (a b c : Int) (A : Option Addr) (n cp : Nat) : (#[.int .u16 a, .int .u64 b, .int .u64 c, .slice A n cp] : Array Value).all (·.oneCell') = true := by simp [Value.oneCell']

set_option maxRecDepth 100000 in
theorem catch_panicking (w0 : World) (a b c d e0 : Value) (e : Int) (w : World) (h : PW w0 a b c d e0 w) :
    CallsD Try.prog 25 #[.pointer (some ⟨w0.heap.size, 0, none⟩), .pointer (some ⟨w0.heap.size + 1, 0, none⟩)] (.panicking [{ v := .iface 53 (.int .i64 e), recovered := false }]) w fun r u' w' =>
      r = .returned (.tuple #[]) ∧ u' = .panicking [{ v := .iface 53 (.int .i64 e), recovered := true }] ∧ PW w0 (.int .u16 0) (.int .u64 0) (.int .u64 0) (.slice none 0 0) (.int .i64 e) w' := by
  refine callsD_of_wpS Try.func25 rfl fun c₀ cs hu => ?_
  have hta : ∀ w, (Instr.typeAssert (.iface 53 (.int .i64 e)) 20 53 true).run Try.prog w = .ok (.tuple #[.int .i64 e, .bool true]) w := fun _ => by kernel_rfl
  have h3 := cell_of_one h.err
  have h4 := free_of_one h.err
  have h5 : (w.setRow w0.heap.size #[.int .u16 0, .int .u64 0, .int .u64 0, .slice none 0 0]).cell? ⟨w0.heap.size + 1, 0, none⟩ = some e0 := by
    rw [cell_setRow_other _ _ _ _ (by simp)]
    exact h3
  have h6 : (w.setRow w0.heap.size #[.int .u16 0, .int .u64 0, .int .u64 0, .slice none 0 0]).frozen? ⟨w0.heap.size + 1, 0, none⟩ = false := by
    rw [World.frozen?_of_block (setRow_other _ _ _ _ (by simp))]
    exact h4
  have H := hide h
  clear h h3 h4
  simp only [Try.ntmps25, List.size_toArray, List.length_cons, List.length_nil, Nat.reduceAdd, Nat.reduceSub, Array.replicate_succ, Array.replicate_zero, List.push_toArray, List.append_toArray, List.nil_append, List.cons_append]
  apply wpS_seq
  apply wpS_region
  simp [wpOpsS, go_sem, recoverD, hu, Exit.thenS]
  refine wpS_of_wp ?_
  go_wp2_with ((with_reducible refine (@id (wpList _ _ _ (Oper.mk none (Op.store 28 (.tmp 0) (.tmp 11)) _ _ _ none :: _) _ _) ?_)); refine wpList_store_row rfl 28 (.tmp 0) (.tmp 11) rfl w0.heap.size #[.int .u16 0, .int .u64 0, .int .u64 0, .slice none 0 0] rfl rfl 28 _ (unhide H).head headInfo rfl (headOne _ _ _ _ _ _) ?_)
  simp [bodyPostS, results, Try.results25]
  exact (unhide H).reset e

set_option maxRecDepth 100000 in
theorem catch_idle (p q : Addr) (w : World) :
    CallsD Try.prog 25 #[.pointer (some p), .pointer (some q)] .returning w fun r u' w' => r = .returned (.tuple #[]) ∧ u' = .returning ∧ w' = w := by
  refine callsD_of_wpS Try.func25 rfl fun c₀ cs hu => ?_
  simp only [Try.ntmps25, List.size_toArray, List.length_cons, List.length_nil, Nat.reduceAdd, Nat.reduceSub, Array.replicate_succ, Array.replicate_zero, List.push_toArray, List.append_toArray, List.nil_append, List.cons_append]
  apply wpS_seq
  apply wpS_region
  simp [wpOpsS, go_sem, recoverD, hu, Exit.thenS]
  refine wpS_of_wp ?_
  go_wp2
  cases c₀
  simp_all [bodyPostS, results, Try.results25]

/-- The head that Parse gives beside an error. -/
abbrev noHead : Value := .agg #[.int .u16 0, .int .u64 0, .int .u64 0, .slice none 0 0]

theorem parse_results {w0 w1 : World} {tmps : Array Value} {a b c d e : Value} (h : PW w0 a b c d e w1) (h2 : tmps.getD 2 undef = .pointer (some ⟨w0.heap.size, 0, none⟩)) (h3 : tmps.getD 3 undef = .pointer (some ⟨w0.heap.size + 1, 0, none⟩)) :
    (results Try.f8 tmps).run Try.prog w1 = .ok (.tuple #[.agg #[a, b, c, d], e]) w1 := by
  obtain ⟨q0, q1, q2, q3⟩ := box_facts h.head
  have q4 := cell_of_one h.err
  have h2' : tmps[2]?.getD undef = .pointer (some ⟨w0.heap.size, 0, none⟩) := by simpa using h2
  have h3' : tmps[3]?.getD undef = .pointer (some ⟨w0.heap.size + 1, 0, none⟩) := by simpa using h3
  simp [results, Try.results8, go_sem, h2', h3', q0, q1, q2, q3, q4]

/-- The door of Parse, where a must has given up. -/
theorem door_bad {R : Ending → World → Prop} {w0 w1 : World} {tmps : Array Value} {a b c d e0 : Value} {e : Int} (h : PW w0 a b c d e0 w1) (h2 : tmps.getD 2 undef = .pointer (some ⟨w0.heap.size, 0, none⟩)) (h3 : tmps.getD 3 undef = .pointer (some ⟨w0.heap.size + 1, 0, none⟩))
    (hR : ∀ w', Below w0.heap.size w0 w' → R (.returned (.tuple #[noHead, .int .i64 e])) w') :
    bodyPostD Try.prog Try.f8 R (Exit.panic [{ v := .iface 53 (.int .i64 e), recovered := false }])
      { tmps := tmps, defers := [{ target := Target.fn (Fn.func 25) #[.pointer (some ⟨w0.heap.size, 0, none⟩), .pointer (some ⟨w0.heap.size + 1, 0, none⟩)], args := #[] }] } w1 := by
  refine leaves_cons (f := 25) (args := #[.pointer (some ⟨w0.heap.size, 0, none⟩), .pointer (some ⟨w0.heap.size + 1, 0, none⟩)]) (by simp) (by simp [go_sem]) ?_
  refine (catch_panicking w0 a b c d e0 e w1 h).mono ?_
  rintro e u' w'' ⟨rfl, rfl, hp⟩
  exact ⟨_, parse_results hp h2 h3, hR _ hp.below⟩

/-- The door of Parse, where it returns. -/
theorem door_ok {R : Ending → World → Prop} {w0 w1 : World} {tmps : Array Value} {a b c d e : Value} (h : PW w0 a b c d e w1) (h2 : tmps.getD 2 undef = .pointer (some ⟨w0.heap.size, 0, none⟩)) (h3 : tmps.getD 3 undef = .pointer (some ⟨w0.heap.size + 1, 0, none⟩))
    (hR : R (.returned (.tuple #[.agg #[a, b, c, d], e])) w1) :
    bodyPostD Try.prog Try.f8 R Exit.ret
      { tmps := tmps, defers := [{ target := Target.fn (Fn.func 25) #[.pointer (some ⟨w0.heap.size, 0, none⟩), .pointer (some ⟨w0.heap.size + 1, 0, none⟩)], args := #[] }] } w1 := by
  refine leaves_cons (f := 25) (args := #[.pointer (some ⟨w0.heap.size, 0, none⟩), .pointer (some ⟨w0.heap.size + 1, 0, none⟩)]) (by simp) (by simp [go_sem]) ?_
  refine (catch_idle _ _ _).mono ?_
  rintro e u' w'' ⟨rfl, rfl, rfl⟩
  exact ⟨_, parse_results h h2 h3, hR⟩

set_option maxHeartbeats 1600000 in
set_option maxRecDepth 100000 in
/-- No program: the header gives up. -/
theorem parse_nohdr (A : Option Addr) (m c : Nat) (b : List UInt8) (w : World) (hb : Rd w w.heap.size 1 A m (u8s b)) (hm : m ≤ 4294967296) (hmc : m ≤ c) (hh : El.hdrOk b = false) :
    Calls Try.prog 8 #[.slice A m c] w fun e w' => e = .returned (.tuple #[noHead, .int .i64 13]) ∧ Below w.heap.size w w' := by
  have hmf : ∀ (fn : Fn) (first cap : Array Value) (w : World), (Instr.makeFunc fn first cap).run Try.prog w = .ok (.func fn first cap) w := fun _ _ _ _ => rfl
  have hpw : PW w (.int .u16 0) (.int .u64 0) (.int .u64 0) (.slice none 0 0) (.int .i64 0) ((w.alloc (.cells #[.int .u16 0, .int .u64 0, .int .u64 0, .slice none 0 0] 28)).alloc (.cells #[.int .i64 0] 29)) := PW.start w
  have Hpw := hide hpw
  clear hpw
  go_enter_defers Try.func8, Try.ntmps8
  go_wp2_with (go_at_call 26; refine (header_bad A m c w.heap.size b _ (by simp; omega) ((hb.alloc (Nat.le_refl _) _).alloc (by simp) _) (by unfold maxLen; omega) hmc hh).mono ?_; rintro e w1 ⟨rfl, hb1⟩)
  exact door_bad ((unhide Hpw).later hb1) rfl rfl fun w' hb => ⟨rfl, hb⟩

end Go.Proofs.Ytkonolmakpeocaa
