/- Texts of the claim LawMakerMakes (Elf6, Elf6p, Elf7, MkL4, MkR9c, MkR9d, MkR7, MkR8, MkR9b, Apart3): what the functions that the statement reaches compute, and plain laws of it. Conditions: those that each theorem states. -/
import Derived.Test.YtnbecdahfgkffaaGreatMmK8
import Derived.Test.YtnbecdahfgkffaaGreatMmK2
import Derived.Recover
import Derived.Test.YtnbecdahfgkffaaGreatMmK6
import Derived.Laws.EntriesVeiled
import Derived.Deep.DeepCutAuto
import Derived.Deep.CutBlock
import Derived.Test.YtnbecdahfgkffaaGreatMmK4
import Derived.Test.YtnbecdahfgkffaaGreatMmK5
import Derived.Test.YtnbecdahfgkffaaGreatMmK3
import Derived.Test.YtnbecdahfgkffaaGreatMmK1
set_option linter.unusedVariables false
set_option linter.unusedSimpArgs false
namespace Go.Proofs.YtnbecdahfgkffaaGreat
open Go.RowKit
structure PW (w : World) (a b c d e : Value) (w' : World) : Prop where
  below : Below w.heap.size w w'
  head : w'.heap[w.heap.size]? = some (.cells #[a, b, c, d] 44 (0, 0))
  err : w'.heap[w.heap.size + 1]? = some (.cells #[e] 35 (0, 0))
theorem PW.start (w : World) : PW w (.int .u16 0) (.int .u64 0) (.int .u64 0) (.slice none 0 0) (.int .i64 0) ((w.alloc (.cells #[.int .u16 0, .int .u64 0, .int .u64 0, .slice none 0 0] 44)).alloc (.cells #[.int .i64 0] 35)) :=
  ⟨((Below.refl _ _).alloc (Nat.le_refl _) _).alloc (by simp) _, (Below.heap_alloc _ _ _ (by simp)).trans (heap_alloc_new _ _), heap_alloc2_new _ _ _⟩
theorem PW.later {w0 w w' : World} {a b c d e : Value} (h : PW w0 a b c d e w) (hb : Below w.heap.size w w') : PW w0 a b c d e w' :=
  ⟨h.below.trans (hb.mono h.below.size), (hb.block _ (lt_of_block h.head)).trans h.head, (hb.block _ (lt_of_block h.err)).trans h.err⟩
theorem PW.setHead {w0 w : World} {a b c d e a' b' c' d' : Value} (h : PW w0 a b c d e w) : PW w0 a' b' c' d' e (w.setRow w0.heap.size #[a', b', c', d']) :=
  ⟨below_setRow h.below (Nat.le_refl _) _, setRow_heap _ _ _ _ _ _ h.head, (setRow_other _ _ _ _ (by simp)).trans h.err⟩
theorem PW.setErr {w0 w : World} {a b c d e e' : Value} (h : PW w0 a b c d e w) : PW w0 a b c d e' (w.setCell ⟨w0.heap.size + 1, 0, none⟩ e') :=
  ⟨h.below.setCell (by simp) _, (Below.heap_setCell _ _ _ _ (by simp)).trans h.head, one_setCell h.err⟩
theorem PW.reset {w0 w : World} {a b c d e0 : Value} (h : PW w0 a b c d e0 w) (e : Int) : PW w0 (.int .u16 0) (.int .u64 0) (.int .u64 0) (.slice none 0 0) (.int .i64 e) ((w.setRow w0.heap.size #[.int .u16 0, .int .u64 0, .int .u64 0, .slice none 0 0]).setCell ⟨w0.heap.size + 1, 0, none⟩ (.int .i64 e)) := h.setHead.setErr
theorem headInfo : (Tryz.prog.info? 44).map (·.size) = some 4 := by kernel_rfl
theorem headOne (a b c : Int) (A : Option Addr) (n cp : Nat) : (#[.int .u16 a, .int .u64 b, .int .u64 c, .slice A n cp] : Array Value).all (·.oneCell') = true := by simp [Value.oneCell']
set_option maxRecDepth 100000 in
theorem catch_panicking (w0 : World) (a b c d e0 : Value) (e : Int) (w : World) (h : PW w0 a b c d e0 w) :
    CallsD Tryz.prog 42 #[.pointer (some ⟨w0.heap.size, 0, none⟩), .pointer (some ⟨w0.heap.size + 1, 0, none⟩)] (.panicking [{ v := .iface 102 (.int .i64 e), recovered := false }]) w fun r u' w' =>
      r = .returned (.tuple #[]) ∧ u' = .panicking [{ v := .iface 102 (.int .i64 e), recovered := true }] ∧ PW w0 (.int .u16 0) (.int .u64 0) (.int .u64 0) (.slice none 0 0) (.int .i64 e) w' := by
  refine callsD_of_wpS Tryz.func42 rfl fun c₀ cs hu => ?_
  have hta : ∀ w, (Instr.typeAssert (.iface 102 (.int .i64 e)) 20 102 true).run Tryz.prog w = .ok (.tuple #[.int .i64 e, .bool true]) w := fun _ => by kernel_rfl
  have h3 := cell_of_one h.err
  have h4 := free_of_one h.err
  have h5 : (w.setRow w0.heap.size #[.int .u16 0, .int .u64 0, .int .u64 0, .slice none 0 0]).cell? ⟨w0.heap.size + 1, 0, none⟩ = some e0 := by
    rw [cell_setRow_other _ _ _ _ (by simp)]
    exact h3
  have h6 : (w.setRow w0.heap.size #[.int .u16 0, .int .u64 0, .int .u64 0, .slice none 0 0]).frozen? ⟨w0.heap.size + 1, 0, none⟩ = false := by
    rw [World.frozen?_of_block (setRow_other _ _ _ _ (by simp))]
    exact h4
  have H := hide h
  clear h h3 h4
  simp only [Tryz.ntmps42, List.size_toArray, List.length_cons, List.length_nil, Nat.reduceAdd, Nat.reduceSub, Array.replicate_succ, Array.replicate_zero, List.push_toArray, List.append_toArray, List.nil_append, List.cons_append]
  apply wpS_seq
  apply wpS_region
  simp [wpOpsS, go_sem, recoverD, hu, Exit.thenS]
  refine wpS_of_wp ?_
  go_wp2_with ((with_reducible refine (@id (wpList _ _ _ (Oper.mk none (Op.store 44 (.tmp 0) (.tmp 11)) _ _ _ none :: _) _ _) ?_)); refine wpList_store_row rfl 44 (.tmp 0) (.tmp 11) rfl w0.heap.size #[.int .u16 0, .int .u64 0, .int .u64 0, .slice none 0 0] rfl rfl 44 _ (unhide H).head headInfo rfl (headOne _ _ _ _ _ _) ?_)
  simp [bodyPostS, results, Tryz.results42]
  exact (unhide H).reset e
set_option maxRecDepth 100000 in
theorem catch_idle (p q : Addr) (w : World) :
    CallsD Tryz.prog 42 #[.pointer (some p), .pointer (some q)] .returning w fun r u' w' => r = .returned (.tuple #[]) ∧ u' = .returning ∧ w' = w := by
  refine callsD_of_wpS Tryz.func42 rfl fun c₀ cs hu => ?_
  simp only [Tryz.ntmps42, List.size_toArray, List.length_cons, List.length_nil, Nat.reduceAdd, Nat.reduceSub, Array.replicate_succ, Array.replicate_zero, List.push_toArray, List.append_toArray, List.nil_append, List.cons_append]
  apply wpS_seq
  apply wpS_region
  simp [wpOpsS, go_sem, recoverD, hu, Exit.thenS]
  refine wpS_of_wp ?_
  go_wp2
  cases c₀
  simp_all [bodyPostS, results, Tryz.results42]
abbrev noHead : Value := .agg #[.int .u16 0, .int .u64 0, .int .u64 0, .slice none 0 0]
theorem parse_results {w0 w1 : World} {tmps : Array Value} {a b c d e : Value} (h : PW w0 a b c d e w1) (h2 : tmps.getD 2 undef = .pointer (some ⟨w0.heap.size, 0, none⟩)) (h3 : tmps.getD 3 undef = .pointer (some ⟨w0.heap.size + 1, 0, none⟩)) :
    (results Tryz.f14 tmps).run Tryz.prog w1 = .ok (.tuple #[.agg #[a, b, c, d], e]) w1 := by
  obtain ⟨q0, q1, q2, q3⟩ := box_facts h.head
  have q4 := cell_of_one h.err
  have h2' : tmps[2]?.getD undef = .pointer (some ⟨w0.heap.size, 0, none⟩) := by simpa using h2
  have h3' : tmps[3]?.getD undef = .pointer (some ⟨w0.heap.size + 1, 0, none⟩) := by simpa using h3
  simp [results, Tryz.results14, go_sem, h2', h3', q0, q1, q2, q3, q4]
theorem door_bad {R : Ending → World → Prop} {w0 w1 : World} {tmps : Array Value} {a b c d e0 : Value} {e : Int} (h : PW w0 a b c d e0 w1) (h2 : tmps.getD 2 undef = .pointer (some ⟨w0.heap.size, 0, none⟩)) (h3 : tmps.getD 3 undef = .pointer (some ⟨w0.heap.size + 1, 0, none⟩))
    (hR : ∀ w', Below w0.heap.size w0 w' → R (.returned (.tuple #[noHead, .int .i64 e])) w') :
    bodyPostD Tryz.prog Tryz.f14 R (Exit.panic [{ v := .iface 102 (.int .i64 e), recovered := false }])
      { tmps := tmps, defers := [{ target := Target.fn (Fn.func 42) #[.pointer (some ⟨w0.heap.size, 0, none⟩), .pointer (some ⟨w0.heap.size + 1, 0, none⟩)], args := #[] }] } w1 := by
  refine leaves_cons (f := 42) (args := #[.pointer (some ⟨w0.heap.size, 0, none⟩), .pointer (some ⟨w0.heap.size + 1, 0, none⟩)]) (by simp) (by simp [go_sem]) ?_
  refine (catch_panicking w0 a b c d e0 e w1 h).mono ?_
  rintro e u' w'' ⟨rfl, rfl, hp⟩
  exact ⟨_, parse_results hp h2 h3, hR _ hp.below⟩
theorem door_ok {R : Ending → World → Prop} {w0 w1 : World} {tmps : Array Value} {a b c d e : Value} (h : PW w0 a b c d e w1) (h2 : tmps.getD 2 undef = .pointer (some ⟨w0.heap.size, 0, none⟩)) (h3 : tmps.getD 3 undef = .pointer (some ⟨w0.heap.size + 1, 0, none⟩))
    (hR : R (.returned (.tuple #[.agg #[a, b, c, d], e])) w1) :
    bodyPostD Tryz.prog Tryz.f14 R Exit.ret
      { tmps := tmps, defers := [{ target := Target.fn (Fn.func 42) #[.pointer (some ⟨w0.heap.size, 0, none⟩), .pointer (some ⟨w0.heap.size + 1, 0, none⟩)], args := #[] }] } w1 := by
  refine leaves_cons (f := 42) (args := #[.pointer (some ⟨w0.heap.size, 0, none⟩), .pointer (some ⟨w0.heap.size + 1, 0, none⟩)]) (by simp) (by simp [go_sem]) ?_
  refine (catch_idle _ _ _).mono ?_
  rintro e u' w'' ⟨rfl, rfl, rfl⟩
  exact ⟨_, parse_results h h2 h3, hR⟩
set_option maxHeartbeats 1600000 in
set_option maxRecDepth 100000 in
theorem parse_nohdr (A : Option Addr) (m c : Nat) (b : List UInt8) (w : World) (hb : Rd w w.heap.size 1 A m (u8s b)) (hm : m ≤ 4294967296) (hmc : m ≤ c) (hh : El.hdrOk b = false) :
    Calls Tryz.prog 14 #[.slice A m c] w fun e w' => e = .returned (.tuple #[noHead, .int .i64 13]) ∧ Below w.heap.size w w' := by
  have hmf : ∀ (fn : Fn) (first cap : Array Value) (w : World), (Instr.makeFunc fn first cap).run Tryz.prog w = .ok (.func fn first cap) w := fun _ _ _ _ => rfl
  have hpw : PW w (.int .u16 0) (.int .u64 0) (.int .u64 0) (.slice none 0 0) (.int .i64 0) ((w.alloc (.cells #[.int .u16 0, .int .u64 0, .int .u64 0, .slice none 0 0] 44)).alloc (.cells #[.int .i64 0] 35)) := PW.start w
  have Hpw := hide hpw
  clear hpw
  go_enter_defers Tryz.func14, Tryz.ntmps14
  go_wp2_with (go_at_call 43; refine (header_bad A m c w.heap.size b _ (by simp; omega) ((hb.alloc (Nat.le_refl _) _).alloc (by simp) _) (by unfold maxLen; omega) hmc hh).mono ?_; rintro e w1 ⟨rfl, hb1⟩)
  exact door_bad ((unhide Hpw).later hb1) rfl rfl fun w' hb => ⟨rfl, hb⟩
end Go.Proofs.YtnbecdahfgkffaaGreat
namespace Go.Proofs.YtnbecdahfgkffaaGreat.El
open Go.Proofs.YtnbecdahfgkffaaGreat
def topOf : List Sg → Nat → Nat
  | [], t => t
  | s :: r, t => if isLoad s then topOf r (up (s.addr + s.msz)) else topOf r t
theorem rises_app (a r : List Sg) : ∀ t, rises (a ++ r) t = (rises a t && rises r (topOf a t)) := by
  induction a with
  | nil => intro t; simp [rises, topOf]
  | cons s a ih =>
    intro t
    simp only [List.cons_append, rises, topOf]
    cases isLoad s
    · simp [ih]
    · simp [ih, Bool.and_assoc]
theorem topOf_snoc (a : List Sg) (s : Sg) : ∀ t, topOf (a ++ [s]) t = if isLoad s then up (s.addr + s.msz) else topOf a t := by
  induction a with
  | nil => intro t; simp [topOf]
  | cons x a ih =>
    intro t
    simp only [List.cons_append, topOf]
    cases isLoad x
    · simp [ih]
    · simp only [if_true, ih]
theorem segsOf_succ (b : List UInt8) (k : Nat) : segsOf b (k + 1) = segsOf b k ++ [segAt b (Wd.num b 32 8 + k * 56)] := by simp [segsOf, List.range_succ]
theorem segsOf_len (b : List UInt8) (k : Nat) : (segsOf b k).length = k := by simp [segsOf]
theorem segsOf_take (b : List UInt8) {k n : Nat} (h : k ≤ n) : ∃ r, segsOf b n = segsOf b k ++ r := by
  obtain ⟨d, rfl⟩ := Nat.exists_eq_add_of_le h
  exact ⟨_, by unfold segsOf; rw [List.range_add, List.map_append]⟩
def readOk (b : List UInt8) (k : Nat) : Bool := (List.range k).all (fun i => segOk b (Wd.num b 32 8 + i * 56) (Wd.num b 16 2)) && rises (segsOf b k) 0
def topAt (b : List UInt8) (k : Nat) : Nat := topOf (segsOf b k) 0
theorem readOk_load {b : List UInt8} {k : Nat} (h : readOk b k = true) (hs : segOk b (Wd.num b 32 8 + k * 56) (Wd.num b 16 2) = true) (h1 : (segAt b (Wd.num b 32 8 + k * 56)).kind = 1) (ht : topAt b k ≤ (segAt b (Wd.num b 32 8 + k * 56)).addr) :
    readOk b (k + 1) = true ∧ topAt b (k + 1) = up ((segAt b (Wd.num b 32 8 + k * 56)).addr + (segAt b (Wd.num b 32 8 + k * 56)).msz) := by
  simp only [readOk, Bool.and_eq_true] at h
  have hl : isLoad (segAt b (Wd.num b 32 8 + k * 56)) = true := by simp [isLoad, h1]
  refine ⟨?_, ?_⟩
  · simp only [readOk, segsOf_succ, rises_app, List.range_succ, List.all_append, List.all_cons, List.all_nil, hs, h.1, h.2, Bool.true_and, Bool.and_true, rises, hl, if_true]
    exact decide_eq_true ht
  · rw [topAt, segsOf_succ, topOf_snoc, hl]; simp
theorem readOk_other {b : List UInt8} {k : Nat} (h : readOk b k = true) (hs : segOk b (Wd.num b 32 8 + k * 56) (Wd.num b 16 2) = true) (h1 : ¬ (segAt b (Wd.num b 32 8 + k * 56)).kind = 1) :
    readOk b (k + 1) = true ∧ topAt b (k + 1) = topAt b k := by
  simp only [readOk, Bool.and_eq_true] at h
  have hl : isLoad (segAt b (Wd.num b 32 8 + k * 56)) = false := by simp [isLoad, h1]
  refine ⟨?_, ?_⟩
  · simp only [readOk, segsOf_succ, rises_app, List.range_succ, List.all_append, List.all_cons, List.all_nil, hs, h.1, h.2, Bool.true_and, Bool.and_true, rises, hl]
    simp
  · rw [topAt, segsOf_succ, topOf_snoc, hl]; simp [topAt]
theorem formOk_eq (b : List UInt8) : formOk b = (decide (Wd.num b 32 8 + Wd.num b 56 2 * 56 ≤ b.length) && readOk b (Wd.num b 56 2) && wholeOk (headOf b)) := by
  simp only [formOk, readOk, Bool.and_assoc]
theorem readOk_mono {b : List UInt8} {k n : Nat} (hk : k ≤ n) (h : readOk b k = false) : readOk b n = false := by
  rw [Bool.eq_false_iff] at h ⊢
  intro hn
  apply h
  simp only [readOk, Bool.and_eq_true, List.all_eq_true, List.mem_range] at hn ⊢
  refine ⟨fun i hi => hn.1 i (by omega), ?_⟩
  obtain ⟨r, hr⟩ := segsOf_take b hk
  have := hn.2
  rw [hr, rises_app, Bool.and_eq_true] at this
  exact this.1
theorem parse_noform {b : List UInt8} (hh : hdrOk b = true) (hf : formOk b = false) : parse b = (25, ⟨0, 0, 0, []⟩) := by simp [parse, hh, hf]
theorem parse_notin {b : List UInt8} (hh : hdrOk b = true) (h : ¬ Wd.num b 32 8 + Wd.num b 56 2 * 56 ≤ b.length) : parse b = (25, ⟨0, 0, 0, []⟩) := parse_noform hh (by simp [formOk_eq, h])
theorem parse_unread {b : List UInt8} (hh : hdrOk b = true) {k : Nat} (hk : k ≤ Wd.num b 56 2) (h : readOk b k = false) : parse b = (25, ⟨0, 0, 0, []⟩) := parse_noform hh (by simp [formOk_eq, readOk_mono hk h])
theorem parse_badseg {b : List UInt8} (hh : hdrOk b = true) {k : Nat} (hk : k < Wd.num b 56 2) (h : segOk b (Wd.num b 32 8 + k * 56) (Wd.num b 16 2) = false) : parse b = (25, ⟨0, 0, 0, []⟩) :=
  parse_unread hh hk (by simp [readOk, List.range_succ, h])
theorem parse_norise {b : List UInt8} (hh : hdrOk b = true) {k : Nat} (hk : k < Wd.num b 56 2) (h1 : (segAt b (Wd.num b 32 8 + k * 56)).kind = 1) (ht : ¬ topAt b k ≤ (segAt b (Wd.num b 32 8 + k * 56)).addr) : parse b = (25, ⟨0, 0, 0, []⟩) := by
  refine parse_unread hh (k := k + 1) hk ?_
  have hl : isLoad (segAt b (Wd.num b 32 8 + k * 56)) = true := by simp [isLoad, h1]
  have ht' : ¬ topOf (segsOf b k) 0 ≤ (segAt b (Wd.num b 32 8 + k * 56)).addr := ht
  simp [readOk, segsOf_succ, rises_app, rises, hl, ht']
theorem parse_unwhole {b : List UInt8} (hh : hdrOk b = true) (h : wholeOk (headOf b) = false) : parse b = (25, ⟨0, 0, 0, []⟩) := parse_noform hh (by simp [formOk_eq, h])
theorem parse_good {b : List UInt8} (hh : hdrOk b = true) (h1 : Wd.num b 32 8 + Wd.num b 56 2 * 56 ≤ b.length) (h2 : readOk b (Wd.num b 56 2) = true) (h : wholeOk (headOf b) = true) : parse b = (0, headOf b) := by simp [parse, hh, formOk_eq, h1, h2, h]
theorem load_end {b : List UInt8} {p ty : Nat} (hs : segOk b p ty = true) (h1 : (segAt b p).kind = 1) : (segAt b p).addr + (segAt b p).msz ≤ 140737488355328 := by
  simp only [segOk, Bool.and_eq_true] at hs
  have h := hs.1.2
  have hk : knownB (segAt b p).kind = true := by rw [h1]; rfl
  have he : endOf ty ≤ 140737488355328 := by unfold endOf; split <;> omega
  simp only [endB, hk, Bool.not_true, Bool.false_or, decide_eq_true_eq] at h
  omega
theorem segAt_fit {b : List UInt8} {p ty : Nat} (hs : segOk b p ty = true) : SgFit (segAt b p) := by
  simp only [segOk, Bool.and_eq_true] at hs
  have h := hs.1.1.1
  simp only [flagsB, decide_eq_true_eq] at h
  exact ⟨Wd.num_lt _ _ 4, by omega, Wd.num_lt _ _ 8, Wd.num_lt _ _ 8, Wd.num_lt _ _ 8, Wd.num_lt _ _ 8⟩
theorem readOk_fit {b : List UInt8} {k : Nat} (h : readOk b k = true) : ∀ x ∈ segsOf b k, SgFit x := by
  intro x hx
  simp only [readOk, Bool.and_eq_true, List.all_eq_true, List.mem_range] at h
  simp only [segsOf, List.mem_map, List.mem_range] at hx
  obtain ⟨i, hi, rfl⟩ := hx
  exact segAt_fit (h.1 i hi)
end Go.Proofs.YtnbecdahfgkffaaGreat.El
namespace Go.Proofs.YtnbecdahfgkffaaGreat
open Go.RowKit
theorem PW.later2 {w0 w w' : World} {a b c d e : Value} (h : PW w0 a b c d e w) (hb : Below (w0.heap.size + 2) w w') : PW w0 a b c d e w' :=
  ⟨h.below.trans (hb.mono (by omega)), (hb.block _ (by omega)).trans h.head, (hb.block _ (by omega)).trans h.err⟩
theorem PW.sz {w0 w : World} {a b c d e : Value} (h : PW w0 a b c d e w) : w0.heap.size + 2 ≤ w.heap.size := by have := lt_of_block h.err; omega
theorem PW.own {w0 w : World} {a b c d e : Value} (h : PW w0 a b c d e w) : World.ownsRow w (w0.heap.size + 2) 58 6 (.slice none 0 0) 0 [] := World.ownsRow_nil _ _ _ _
theorem PW.setSegs {w0 w : World} {a b c d e d' : Value} (h : PW w0 a b c d e w) : PW w0 a b c d' e (w.setCell ⟨w0.heap.size, 3, none⟩ d') :=
  ⟨h.below.setCell (by simp) _, by simpa using (heap_setCell_same _ _ 3 _ _ d' h.head), (Below.heap_setCell _ _ _ _ (by simp)).trans h.err⟩
def ParseEnd (b : List UInt8) (w : World) (e : Ending) (w' : World) : Prop :=
  ∃ A' c', e = .returned (.tuple #[.agg #[.int .u16 (El.parse b).2.type, .int .u64 (El.parse b).2.entry, .int .u64 (El.parse b).2.phoff, .slice A' (El.parse b).2.segs.length c'], .int .i64 (El.parse b).1]) ∧
    w'.ownsRow w.heap.size 58 6 (.slice A' (El.parse b).2.segs.length c') (El.parse b).2.segs.length (segCells (El.parse b).2.segs) ∧ Below w.heap.size w w'
theorem end_bad {b : List UInt8} {w w' : World} (h : El.parse b = (25, ⟨0, 0, 0, []⟩)) (hb : Below w.heap.size w w') : ParseEnd b w (.returned (.tuple #[noHead, .int .i64 25])) w' := by
  unfold ParseEnd
  rw [h]
  exact ⟨none, 0, rfl, World.ownsRow_nil _ _ _ _, hb⟩
theorem own_sameE {w w' : World} {base : Nat} {e : TypeId} {size n : Nat} {v : Value} {xs : List Value} (h : w.ownsRow base e size v n xs) (hk : ∀ g, base ≤ g → g < w.heap.size → w'.heap[g]? = w.heap[g]?) : w'.ownsRow base e size v n xs := by
  refine ⟨h.1, ?_⟩
  rcases h.2 with hn | ⟨g, cap, cur, hv, hb, hg, rest⟩
  · exact .inl hn
  · exact .inr ⟨g, cap, cur, hv, hb, (hk g hb (lt_of_block hg)).trans hg, rest⟩
theorem end_good {b : List UInt8} {w w' : World} {ty en ph n c' : Nat} {A' : Option Addr} {l : List El.Sg} (h : El.parse b = (0, El.headOf b)) (hd : El.headOf b = ⟨ty, en, ph, l⟩) (hl : l.length = n) (hown : w'.ownsRow (w.heap.size + 2) 58 6 (.slice A' n c') n (segCells l)) (hb : Below w.heap.size w w') :
    ParseEnd b w (.returned (.tuple #[.agg #[.int .u16 ty, .int .u64 en, .int .u64 ph, .slice A' n c'], .int .i64 0])) w' := by
  unfold ParseEnd
  rw [h, hd]
  subst hl
  exact ⟨A', c', rfl, own_base hown (by omega), hb⟩
set_option maxHeartbeats 4000000 in
set_option maxRecDepth 100000 in
theorem parse_notin (A : Option Addr) (m c : Nat) (b : List UInt8) (w : World) (hb : Rd w w.heap.size 1 A m (u8s b)) (hm : m ≤ 4294967296) (hmc : m ≤ c) (hh : El.hdrOk b = true) (hin : ¬ Wd.num b 32 8 + Wd.num b 56 2 * 56 ≤ m) :
    Calls Tryz.prog 14 #[.slice A m c] w (ParseEnd b w) := by
  have hmf : ∀ (fn : Fn) (first cap : Array Value) (w : World), (Instr.makeFunc fn first cap).run Tryz.prog w = .ok (.func fn first cap) w := fun _ _ _ _ => rfl
  have hpw : PW w (.int .u16 0) (.int .u64 0) (.int .u64 0) (.slice none 0 0) (.int .i64 0) ((w.alloc (.cells #[.int .u16 0, .int .u64 0, .int .u64 0, .slice none 0 0] 44)).alloc (.cells #[.int .i64 0] 35)) := PW.start w
  have hbl : b.length = m := by simpa using hb.len1
  have hpar := El.parse_notin hh (by rw [hbl]; exact hin)
  have h64 : 64 ≤ m := by
    have hh2 := hh
    unfold El.hdrOk at hh2
    simp only [Bool.and_eq_true, decide_eq_true_eq] at hh2
    omega
  have h8 : Wd.num b 56 2 ≤ 8 := by
    have hh2 := hh
    unfold El.hdrOk at hh2
    simp only [Bool.and_eq_true, decide_eq_true_eq] at hh2
    exact hh2.2.2
  have GH := hide (fun (w' : World) (h : Below w.heap.size w w') => header_ok A m c w.heap.size b w' h.size (hb.below h) (by unfold maxLen; omega) hmc hh)
  have G1 := hide (fun (w' : World) (h : Below w.heap.size w w') => at_lit A m c w.heap.size b 16 2 2 rfl w' h.size (hb.below h) (by unfold maxLen; omega) (by omega) (by omega))
  have G2 := hide (fun (w' : World) (h : Below w.heap.size w w') => at_lit A m c w.heap.size b 24 8 8 rfl w' h.size (hb.below h) (by unfold maxLen; omega) (by omega) (by omega))
  have G3 := hide (fun (w' : World) (h : Below w.heap.size w w') => at_lit A m c w.heap.size b 32 8 8 rfl w' h.size (hb.below h) (by unfold maxLen; omega) (by omega) (by omega))
  have l0 : Wd.num b 16 2 < 65536 := Wd.num_lt _ _ _
  have l1 : Wd.num b 24 8 < 18446744073709551616 := Wd.num_lt _ _ _
  have l2 : Wd.num b 32 8 < 18446744073709551616 := Wd.num_lt _ _ _
  have Hpar := hide hpar
  have Hpw := hide hpw
  clear hpw hpar hh hb hbl
  generalize Wd.num b 16 2 = ty at *
  generalize Wd.num b 24 8 = en at *
  generalize Wd.num b 32 8 = ph at *
  generalize Wd.num b 56 2 = n at *
  have i1 : decide (((ph : Nat) : Int) + ((n : Nat) : Int) * 56 ≤ ((m : Nat) : Int)) = false := by simp; omega
  go_enter_defers Tryz.func14, Tryz.ntmps14
  go_wp2_with (first
    | (go_at_call 43; refine ((unhide GH) _ (unhide Hpw).below).mono ?_; rintro e w1 ⟨rfl, hx⟩; replace Hpw := hide ((unhide Hpw).later hx); clear hx)
    | (go_at_call_of 44 (Value.int IntKind.u64 16); refine ((unhide G1) _ (unhide Hpw).below).mono ?_; rintro e w1 ⟨rfl, hx⟩; replace Hpw := hide ((unhide Hpw).later hx); clear hx)
    | (go_at_call_of 44 (Value.int IntKind.u64 24); refine ((unhide G2) _ (unhide Hpw).below).mono ?_; rintro e w1 ⟨rfl, hx⟩; replace Hpw := hide ((unhide Hpw).later hx); clear hx)
    | (go_at_call_of 44 (Value.int IntKind.u64 32); refine ((unhide G3) _ (unhide Hpw).below).mono ?_; rintro e w1 ⟨rfl, hx⟩; replace Hpw := hide ((unhide Hpw).later hx); clear hx)
    | (go_at_call_of 45 (Value.bool true); refine (must_yes _ _).mono ?_; rintro e w1 ⟨rfl, rfl⟩)
    | (go_at_call_of 45 (Value.bool false); refine (must_no _ _).mono ?_; rintro e w1 ⟨rfl, rfl⟩)
    | (go_at_call 46; refine (inside_any _ _ _ _ (by omega) (by omega) (by omega) (by omega) (by omega)).mono ?_; rintro e w1 ⟨rfl, rfl⟩)
    | ((with_reducible refine (@id (wpList _ _ _ (Oper.mk none (Op.store 44 (.tmp 2) (.tmp 20)) _ _ _ none :: _) _ _) ?_)); refine wpList_store_row rfl 44 (.tmp 2) (.tmp 20) rfl w.heap.size #[.int .u16 ty, .int .u64 en, .int .u64 ph, .slice none 0 0] rfl rfl 44 _ (unhide Hpw).head headInfo rfl (headOne _ _ _ _ _ _) ?_; replace Hpw := hide ((unhide Hpw).setHead (a' := .int .u16 ty) (b' := .int .u64 en) (c' := .int .u64 ph) (d' := .slice none 0 0)); obtain ⟨q0, q1, q2, q3⟩ := box_facts (unhide Hpw).head))
  all_goals exact door_bad (unhide Hpw) rfl rfl fun w' hb => end_bad (unhide Hpar) hb
set_option maxHeartbeats 8000000 in
set_option maxRecDepth 100000 in
theorem parse_in (A : Option Addr) (m c : Nat) (b : List UInt8) (w : World) (hb : Rd w w.heap.size 1 A m (u8s b)) (hm : m ≤ 4294967296) (hmc : m ≤ c) (hh : El.hdrOk b = true) (hin : Wd.num b 32 8 + Wd.num b 56 2 * 56 ≤ m) :
    Calls Tryz.prog 14 #[.slice A m c] w (ParseEnd b w) := by
  have hmf : ∀ (fn : Fn) (first cap : Array Value) (w : World), (Instr.makeFunc fn first cap).run Tryz.prog w = .ok (.func fn first cap) w := fun _ _ _ _ => rfl
  have hpw : PW w (.int .u16 0) (.int .u64 0) (.int .u64 0) (.slice none 0 0) (.int .i64 0) ((w.alloc (.cells #[.int .u16 0, .int .u64 0, .int .u64 0, .slice none 0 0] 44)).alloc (.cells #[.int .i64 0] 35)) := PW.start w
  have hbl : b.length = m := by simpa using hb.len1
  have h64 : 64 ≤ m := by
    have hh2 := hh
    unfold El.hdrOk at hh2
    simp only [Bool.and_eq_true, decide_eq_true_eq] at hh2
    omega
  have h8 : Wd.num b 56 2 ≤ 8 := by
    have hh2 := hh
    unfold El.hdrOk at hh2
    simp only [Bool.and_eq_true, decide_eq_true_eq] at hh2
    exact hh2.2.2
  have l0 : Wd.num b 16 2 < 65536 := Wd.num_lt _ _ _
  have l1 : Wd.num b 24 8 < 18446744073709551616 := Wd.num_lt _ _ _
  have l2 : Wd.num b 32 8 < 18446744073709551616 := Wd.num_lt _ _ _
  have GH := hide (fun (w' : World) (h : Below w.heap.size w w') => header_ok A m c w.heap.size b w' h.size (hb.below h) (by unfold maxLen; omega) hmc hh)
  have G1 := hide (fun (w' : World) (h : Below w.heap.size w w') => at_lit A m c w.heap.size b 16 2 2 rfl w' h.size (hb.below h) (by unfold maxLen; omega) (by omega) (by omega))
  have G2 := hide (fun (w' : World) (h : Below w.heap.size w w') => at_lit A m c w.heap.size b 24 8 8 rfl w' h.size (hb.below h) (by unfold maxLen; omega) (by omega) (by omega))
  have G3 := hide (fun (w' : World) (h : Below w.heap.size w w') => at_lit A m c w.heap.size b 32 8 8 rfl w' h.size (hb.below h) (by unfold maxLen; omega) (by omega) (by omega))
  have GS := hide (fun (k : Nat) (hk : k < Wd.num b 56 2) (w' : World) (h : Below w.heap.size w w') => segment_any A m c w.heap.size b (Wd.num b 32 8 + k * 56) (Wd.num b 16 2) w' h.size (hb.below h) (by unfold maxLen; omega) (by omega) (by omega) l0)
  have GW : Hid (∀ (A' : Option Addr) (c' B : Nat) (hr : El.readOk b (Wd.num b 56 2) = true) (w' : World) (hB : B ≤ w'.heap.size) (hl : Rd w' B 6 A' (Wd.num b 56 2) (segCells (El.segsOf b (Wd.num b 56 2)))),
      Calls Tryz.prog 49 #[.agg #[.int .u16 (Wd.num b 16 2), .int .u64 (Wd.num b 24 8), .int .u64 (Wd.num b 32 8), .slice A' (Wd.num b 56 2) c']] w' fun e w'' => e = Or3 (El.wholeOk (El.headOf b)) (.returned (.tuple #[])) (wrongs 25) ∧ Below w'.heap.size w' w'') :=
    hide fun A' c' B hr w' hB hl => whole_any A' (Wd.num b 56 2) c' B (El.headOf b) w' hB hl (by omega) (El.readOk_fit hr) l0 l1
  have P1 := hide (fun (k : Nat) (hk : k < Wd.num b 56 2) (h : El.segOk b (Wd.num b 32 8 + k * 56) (Wd.num b 16 2) = false) => El.parse_badseg hh hk h)
  have P2 := hide (fun (k : Nat) (hk : k < Wd.num b 56 2) (h1 : (El.segAt b (Wd.num b 32 8 + k * 56)).kind = 1) (ht : ¬ El.topAt b k ≤ (El.segAt b (Wd.num b 32 8 + k * 56)).addr) => El.parse_norise hh hk h1 ht)
  have P3 := hide (El.parse_unwhole hh)
  have P4 := hide (El.parse_good hh (by rw [hbl]; exact hin))
  have SS := hide (fun k => El.segsOf_succ b k)
  have RL := hide (fun (k : Nat) => El.readOk_load (b := b) (k := k))
  have RO := hide (fun (k : Nat) => El.readOk_other (b := b) (k := k))
  have LE := hide (fun (k : Nat) => El.load_end (b := b) (p := Wd.num b 32 8 + k * 56) (ty := Wd.num b 16 2))
  have FT := hide (fun (k : Nat) => El.segAt_fit (b := b) (p := Wd.num b 32 8 + k * 56) (ty := Wd.num b 16 2))
  have SL := hide (El.segsOf_len b (Wd.num b 56 2))
  have HD : Hid (El.headOf b = ⟨Wd.num b 16 2, Wd.num b 24 8, Wd.num b 32 8, El.segsOf b (Wd.num b 56 2)⟩) := hide rfl
  have Hpw := hide hpw
  clear hpw hh hb hbl
  generalize Wd.num b 16 2 = ty at *
  generalize Wd.num b 24 8 = en at *
  generalize Wd.num b 32 8 = ph at *
  generalize Wd.num b 56 2 = n at *
  have i1 : decide (((ph : Nat) : Int) + ((n : Nat) : Int) * 56 ≤ ((m : Nat) : Int)) = true := by simp; omega
  go_enter_defers Tryz.func14, Tryz.ntmps14
  go_wp2_with (first
    | (go_at_call 43; refine ((unhide GH) _ (unhide Hpw).below).mono ?_; rintro e w1 ⟨rfl, hx⟩; replace Hpw := hide ((unhide Hpw).later hx); clear hx)
    | (go_at_call_of 44 (Value.int IntKind.u64 16); refine ((unhide G1) _ (unhide Hpw).below).mono ?_; rintro e w1 ⟨rfl, hx⟩; replace Hpw := hide ((unhide Hpw).later hx); clear hx)
    | (go_at_call_of 44 (Value.int IntKind.u64 24); refine ((unhide G2) _ (unhide Hpw).below).mono ?_; rintro e w1 ⟨rfl, hx⟩; replace Hpw := hide ((unhide Hpw).later hx); clear hx)
    | (go_at_call_of 44 (Value.int IntKind.u64 32); refine ((unhide G3) _ (unhide Hpw).below).mono ?_; rintro e w1 ⟨rfl, hx⟩; replace Hpw := hide ((unhide Hpw).later hx); clear hx)
    | (go_at_call_of 45 (Value.bool true); refine (must_yes _ _).mono ?_; rintro e w1 ⟨rfl, rfl⟩)
    | (go_at_call 46; refine (inside_any _ _ _ _ (by omega) (by omega) (by omega) (by omega) (by omega)).mono ?_; rintro e w1 ⟨rfl, rfl⟩)
    | ((with_reducible refine (@id (wpList _ _ _ (Oper.mk none (Op.store 44 (.tmp 2) (.tmp 20)) _ _ _ none :: _) _ _) ?_)); refine wpList_store_row rfl 44 (.tmp 2) (.tmp 20) rfl w.heap.size #[.int .u16 ty, .int .u64 en, .int .u64 ph, .slice none 0 0] rfl rfl 44 _ (unhide Hpw).head headInfo rfl (headOne _ _ _ _ _ _) ?_; replace Hpw := hide ((unhide Hpw).setHead (a' := .int .u16 ty) (b' := .int .u64 en) (c' := .int .u64 ph) (d' := .slice none 0 0)); obtain ⟨q0, q1, q2, q3⟩ := box_facts (unhide Hpw).head))
  clear q0 q1 q2 q3 i1 GH G1 G2 G3
  go_loopw [6, 31] (fun top i wr => ∃ (k T : Nat) (A' : Option Addr) (c' : Nat), k ≤ n ∧ i = .int .u64 k ∧ top = .int .u64 T ∧ T = El.topAt b k ∧ T < 18446744073709551616 ∧ El.readOk b k = true ∧
    wr.ownsRow (w.heap.size + 2) 58 6 (.slice A' k c') k (segCells (El.segsOf b k)) ∧ PW w (.int .u16 ty) (.int .u64 en) (.int .u64 ph) (.slice A' k c') (.int .i64 0) wr) (fun _ i _ => n - (intOf i).toNat)
  case atStart => exact ⟨0, 0, none, 0, Nat.zero_le _, rfl, rfl, rfl, by omega, rfl, World.ownsRow_nil _ _ _ _, unhide Hpw⟩
  case round =>
  clear Hpw
  obtain ⟨k, T, A', c', hk, rfl, rfl, hT, hT2, hro, hown, hpw⟩ := hrel
  have HT := hide hT
  have Hro := hide hro
  have Hown := hide hown
  have Hpw := hide hpw
  have hsz := hpw.sz
  obtain ⟨q0, q1, q2, q3⟩ := box_facts hpw.head
  clear hT hro hown hpw
  rcases Nat.lt_or_ge k n with hlt | hge
  case inr =>
    obtain rfl : k = n := by omega
    have gw := (unhide GW) A' c' wr.heap.size (unhide Hro) wr (Nat.le_refl _) (Rd.of_own (unhide Hown))
    cases hwo : El.wholeOk (El.headOf b)
    case false =>
      have hpar := (unhide P3) hwo
      rw [hwo] at gw
      have Gw := hide gw
      have Hpar := hide hpar
      clear gw hpar hwo
      go_wp2_with (go_at_call 49; refine (unhide Gw).mono ?_; rintro e w1 ⟨he, hx⟩; obtain rfl : e = wrongs 25 := he; replace Hpw := hide ((unhide Hpw).later hx); clear hx)
      exact door_bad (unhide Hpw) rfl rfl fun w' hb => end_bad (unhide Hpar) hb
    case true =>
      have hpar := (unhide P4) (unhide Hro) hwo
      rw [hwo] at gw
      have Gw := hide gw
      have Hpar := hide hpar
      clear gw hpar hwo
      go_wp2_with (first
        | (go_at_call 49; refine (unhide Gw).mono ?_; rintro e w1 ⟨he, hx⟩; obtain rfl : e = .returned (.tuple #[]) := he; replace Hpw := hide ((unhide Hpw).later hx); replace Hown := hide (own_below (unhide Hown) hx); clear q0 q1 q2 q3)
        | ((with_reducible refine (@id (wpList _ _ _ (Oper.mk (some 69) (Op.load 44 (.tmp 2)) _ _ _ none :: _) _ _) ?_)); refine wpList_load_row rfl 44 (.tmp 2) rfl w.heap.size rfl 44 #[.int .u16 ty, .int .u64 en, .int .u64 ph, .slice A' k c'] (0, 0) _ (unhide Hpw).head Tryz.underlying44 rfl headInfo ?_)
        | ((with_reducible refine (@id (wpList _ _ _ (Oper.mk none (Op.store 44 (.tmp 2) (.tmp 69)) _ _ _ none :: _) _ _) ?_)); refine wpList_store_row rfl 44 (.tmp 2) (.tmp 69) rfl w.heap.size #[.int .u16 ty, .int .u64 en, .int .u64 ph, .slice A' k c'] rfl rfl 44 _ (unhide Hpw).head headInfo rfl (headOne _ _ _ _ _ _) ?_; replace Hpw := hide ((unhide Hpw).setHead (a' := .int .u16 ty) (b' := .int .u64 en) (c' := .int .u64 ph) (d' := .slice A' k c')); replace Hown := hide (own_sameE (unhide Hown) (fun g hg _ => setRow_other _ w.heap.size g #[.int .u16 ty, .int .u64 en, .int .u64 ph, .slice A' k c'] (by omega))); have q4 := cell_of_one (unhide Hpw).err; have q5 := free_of_one (unhide Hpw).err))
      have hf := (unhide Hpw).setErr (e' := .int .i64 0)
      exact door_ok hf rfl rfl (end_good (unhide Hpar) (unhide HD) (unhide SL) (own_sameE (unhide Hown) (fun g hg _ => Below.heap_setCell _ _ _ _ (by simp; omega))) hf.below)
  have gs := (unhide GS) k hlt
  rw [show ((ph + k * 56 : Nat) : Int) = (ph : Int) + (k : Int) * 56 from by omega] at gs
  cases hs : El.segOk b (ph + k * 56) ty
  case false =>
    have hpar := (unhide P1) k hlt hs
    simp only [hs, Bool.false_eq_true, if_false] at gs
    have Gs := hide gs
    have Hpar := hide hpar
    clear gs hpar hs
    go_wp2_with (go_at_call 47; refine ((unhide Gs) _ (unhide Hpw).below).mono ?_; rintro e ws ⟨rfl, hx⟩; replace Hpw := hide ((unhide Hpw).later hx); clear hx)
    exact door_bad (unhide Hpw) rfl rfl fun w' hb => end_bad (unhide Hpar) hb
  case true =>
    simp only [hs, if_true, segVal] at gs
    have p2 := (unhide P2) k hlt
    have rl := (unhide RL) k (unhide Hro) hs
    have ro := (unhide RO) k (unhide Hro) hs
    have le := (unhide LE) k hs
    have ft := (unhide FT) k hs
    have ss := (unhide SS) k
    rw [← unhide HT] at p2 rl
    generalize El.segAt b (ph + k * 56) = s at *
    obtain ⟨sk, sfl, so, sa, sf, sm⟩ := s
    obtain ⟨f1, f2, f3, f4, f5, f6⟩ := ft
    simp only at f1 f2 f3 f4 f5 f6 le rl ro p2 gs
    have Gs := hide gs
    have P2' := hide p2
    have Rl := hide rl
    have Ro := hide ro
    have Ss := hide ss
    clear gs p2 rl ro ss hs
    by_cases h1 : sk = 1
    · have le' := le h1
      have b1 : (((sk : Nat) : Int) == 1) = true := by simp; omega
      by_cases ht : T ≤ sa
      · have b2 : decide (((T : Nat) : Int) ≤ ((sa : Nat) : Int)) = true := by simp; omega
        obtain ⟨hro2, hT3⟩ := (unhide Rl) h1 ht
        have Hro2 := hide hro2
        have HT3 := hide hT3
        clear hro2 hT3 le h1
        go_wp2_with (first
          | (go_at_call 47; refine ((unhide Gs) _ (unhide Hpw).below).mono ?_; rintro e ws ⟨rfl, hx⟩; replace Hown := hide (own_below (unhide Hown) hx); replace Hpw := hide ((unhide Hpw).later hx); clear hx; have hszs := (unhide Hpw).sz; clear q0 q1 q2 q3; obtain ⟨q0, q1, q2, q3⟩ := box_facts (unhide Hpw).head; have r3 := (World.cell?_alloc_lt ws (.cells #[.int .u32 sk, .int .u8 sfl, .int .u64 so, .int .u64 sa, .int .u64 sf, .int .u64 sm] 58) ⟨w.heap.size, 3, none⟩ (by show w.heap.size < _; omega)).trans q3)
          | (go_at_call_of 45 (Value.bool true); refine (must_yes _ _).mono ?_; rintro e w2 ⟨rfl, rfl⟩)
          | (go_at_call_of 45 (Value.bool false); refine (must_no _ _).mono ?_; rintro e w2 ⟨rfl, rfl⟩)
          | (go_at_call 48; refine (up_yes _ _ (by omega) (by omega)).mono ?_; rintro e w2 ⟨rfl, rfl⟩)
          | (at_builtin; refine wpList_app1g segTy rfl _ _ rfl (w.heap.size + 2) (.slice A' k c') k (segCells (El.segsOf b k)) rfl ((unhide Hown).alloc _) #[.int .u32 sk, .int .u8 sfl, .int .u64 so, .int .u64 sa, .int .u64 sf, .int .u64 sm] _ rfl (by simp) rfl (sgVals_one ⟨sk, sfl, so, sa, sf, sm⟩) (by omega) (by simp; omega) ?_; intro A2 c2 wa hown' hgrow hat; replace Hpw := hide ((unhide Hpw).later2 (((Below.refl _ _).alloc hszs _).grown hgrow (by simp; omega) (fun k hk => ((unhide Hown).lt k hk).1))); replace Hown := hide hown'; clear hgrow hat hown' q0 q1 q2 q3 r3; obtain ⟨q0, q1, q2, q3⟩ := box_facts (unhide Hpw).head; have q4 := frozen_of_row _ _ 3 _ _ (unhide Hpw).head))
        go_roundw
        case rel =>
          refine ⟨k + 1, El.up (sa + sm), A2, c2, by omega, by go_num, ?_, (unhide HT3).symm, ?_, unhide Hro2, ?_, (unhide Hpw).setSegs⟩
          · unfold El.up; congr 1; omega
          · unfold El.up; omega
          · rw [unhide Ss, segCells_snoc]
            exact own_sameE (unhide Hown) (fun g hg _ => Below.heap_setCell _ _ _ _ (by simp; omega))
        case measure => simp [intOf]; omega
      · have b2 : decide (((T : Nat) : Int) ≤ ((sa : Nat) : Int)) = false := by simp; omega
        have hpar := (unhide P2') h1 ht
        have Hpar := hide hpar
        clear hpar le h1
        go_wp2_with (first
          | (go_at_call 47; refine ((unhide Gs) _ (unhide Hpw).below).mono ?_; rintro e ws ⟨rfl, hx⟩; replace Hpw := hide ((unhide Hpw).later hx); clear hx; have hszs := (unhide Hpw).sz)
          | (go_at_call_of 45 (Value.bool false); refine (must_no _ _).mono ?_; rintro e w2 ⟨rfl, rfl⟩))
        exact door_bad ((unhide Hpw).later2 ((Below.refl _ _).alloc hszs _)) rfl rfl fun w' hb => end_bad (unhide Hpar) hb
    · have b1 : (((sk : Nat) : Int) == 1) = false := by simp; omega
      obtain ⟨hro2, hT3⟩ := (unhide Ro) h1
      have Hro2 := hide hro2
      have HT3 := hide (hT3.trans (unhide HT).symm)
      clear hro2 hT3 le h1
      go_wp2_with (first
        | (go_at_call 47; refine ((unhide Gs) _ (unhide Hpw).below).mono ?_; rintro e ws ⟨rfl, hx⟩; replace Hown := hide (own_below (unhide Hown) hx); replace Hpw := hide ((unhide Hpw).later hx); clear hx; have hszs := (unhide Hpw).sz; clear q0 q1 q2 q3; obtain ⟨q0, q1, q2, q3⟩ := box_facts (unhide Hpw).head; have r3 := (World.cell?_alloc_lt ws (.cells #[.int .u32 sk, .int .u8 sfl, .int .u64 so, .int .u64 sa, .int .u64 sf, .int .u64 sm] 58) ⟨w.heap.size, 3, none⟩ (by show w.heap.size < _; omega)).trans q3)
        | (go_at_call_of 45 (Value.bool true); refine (must_yes _ _).mono ?_; rintro e w2 ⟨rfl, rfl⟩)
        | (go_at_call_of 45 (Value.bool false); refine (must_no _ _).mono ?_; rintro e w2 ⟨rfl, rfl⟩)
        | (go_at_call 48; refine (up_yes _ _ (by omega) (by omega)).mono ?_; rintro e w2 ⟨rfl, rfl⟩)
        | (at_builtin; refine wpList_app1g segTy rfl _ _ rfl (w.heap.size + 2) (.slice A' k c') k (segCells (El.segsOf b k)) rfl ((unhide Hown).alloc _) #[.int .u32 sk, .int .u8 sfl, .int .u64 so, .int .u64 sa, .int .u64 sf, .int .u64 sm] _ rfl (by simp) rfl (sgVals_one ⟨sk, sfl, so, sa, sf, sm⟩) (by omega) (by simp; omega) ?_; intro A2 c2 wa hown' hgrow hat; replace Hpw := hide ((unhide Hpw).later2 (((Below.refl _ _).alloc hszs _).grown hgrow (by simp; omega) (fun k hk => ((unhide Hown).lt k hk).1))); replace Hown := hide hown'; clear hgrow hat hown' q0 q1 q2 q3 r3; obtain ⟨q0, q1, q2, q3⟩ := box_facts (unhide Hpw).head; have q4 := frozen_of_row _ _ 3 _ _ (unhide Hpw).head))
      go_roundw
      case rel =>
        refine ⟨k + 1, T, A2, c2, by omega, by go_num, rfl, (unhide HT3).symm, hT2, unhide Hro2, ?_, (unhide Hpw).setSegs⟩
        rw [unhide Ss, segCells_snoc]
        exact own_sameE (unhide Hown) (fun g hg _ => Below.heap_setCell _ _ _ _ (by simp; omega))
      case measure => simp [intOf]; omega
theorem parse_any (A : Option Addr) (m c : Nat) (b : List UInt8) (w : World) (hb : Rd w w.heap.size 1 A m (u8s b)) (hm : m ≤ 4294967296) (hmc : m ≤ c) :
    Calls Tryz.prog 14 #[.slice A m c] w (ParseEnd b w) := by
  cases hh : El.hdrOk b
  · refine (parse_nohdr A m c b w hb hm hmc hh).mono ?_
    rintro e w' ⟨rfl, hbl⟩
    unfold ParseEnd
    rw [show El.parse b = (13, ⟨0, 0, 0, []⟩) from by simp [El.parse, hh]]
    exact ⟨none, 0, rfl, World.ownsRow_nil _ _ _ _, hbl⟩
  · by_cases hin : Wd.num b 32 8 + Wd.num b 56 2 * 56 ≤ m
    · exact parse_in A m c b w hb hm hmc hh hin
    · exact parse_notin A m c b w hb hm hmc hh hin
end Go.Proofs.YtnbecdahfgkffaaGreat
namespace Go.Proofs.YtnbecdahfgkffaaGreat
open Go.RowKit
theorem eparse_good (A : Option Addr) (m c B : Nat) (b : List UInt8) (ty en ph : Nat) (l : List El.Sg) (w : World) (hB : B ≤ w.heap.size) (hb : Rd w B 1 A m (u8s b)) (hm : m ≤ 4294967296) (hmc : m ≤ c) (h : El.parse b = (0, ⟨ty, en, ph, l⟩)) :
    Calls Tryz.prog 14 #[.slice A m c] w fun e w' => ∃ A' c', e = .returned (.tuple #[.agg #[.int .u16 ty, .int .u64 en, .int .u64 ph, .slice A' l.length c'], .int .i64 0]) ∧ Rd w' w'.heap.size 6 A' l.length (segCells l) ∧ Below w.heap.size w w' := by
  refine (parse_any A m c b w (hb.more hB) hm hmc).mono ?_
  rintro e w' he
  unfold ParseEnd at he
  rw [h] at he
  obtain ⟨A', c', rfl, hown, hbl⟩ := he
  exact ⟨A', c', rfl, Rd.of_own hown, hbl⟩
namespace Mk
def xa : Spec := ⟨2, 4259840, ⟨#[]⟩, [195], [], 0, false, ⟨[], ⟨#[]⟩, ⟨#[]⟩, [], []⟩, 0⟩
def xb : Spec := ⟨2, 0, ⟨#[]⟩, [], [], 0, false, ⟨[], ⟨#[]⟩, ⟨#[]⟩, [], []⟩, 0⟩
theorem may_xa : may xa = 0 := by kernel_rfl
theorem may_xb : may xb = 1 := by kernel_rfl
theorem front_xa : (front2 xa).length = 232 := by kernel_rfl
theorem out_xa : (out2 xa).length = 4097 := by kernel_rfl
theorem file_xa : (file xa)[4096]? = some 195 := by kernel_rfl
theorem many_xa : many xa = 3 := by kernel_rfl
theorem made_xa : Made xa := ⟨may_zero may_xa, by decide, by rw [front_xa]; omega, by rw [out_xa]; omega⟩
theorem make_xa : make xa = (file xa, 0) := by
  unfold make
  rw [if_neg (by rw [may_xa]; decide), if_neg (by rw [front_xa, out_xa]; omega)]
theorem make_xb : make xb = ([], 1) := by
  unfold make
  rw [if_pos (by rw [may_xb]; decide), may_xb]
end Mk
def sa (g : Nat) : Xq := ⟨Mk.xa, some ⟨g, 0, none⟩, 1, none, 0, none, 0, none, 0, none, 0⟩
def sb : Xq := ⟨Mk.xb, none, 0, none, 0, none, 0, none, 0, none, 0⟩
theorem fit_of (x : Mk.Spec) (At : Option Addr) (ct : Nat) (h1 : x.type < 65536) (h2 : x.entry < 18446744073709551616) (h3 : x.more < 18446744073709551616) (h4 : x.interp = ⟨#[]⟩) (h5 : x.text.length ≤ ct) (h6 : ct ≤ 1) (h7 : x.data = []) (h8 : x.dyn = ⟨[], ⟨#[]⟩, ⟨#[]⟩, [], []⟩) : MkFit ⟨x, At, ct, none, 0, none, 0, none, 0, none, 0⟩ := by
  obtain ⟨t, en, it, te, da, mo, dy, dn, ap⟩ := x
  subst h4 h7 h8
  refine ⟨⟨h1, h2, h3, Nat.zero_le _, Nat.le_trans h5 (Nat.le_trans h6 (by decide)), Nat.zero_le _, h5, Nat.le_refl _, ?_⟩, Nat.zero_le _, Nat.zero_le _, ?_, ?_, ?_⟩
  · refine ⟨Nat.zero_le _, Nat.zero_le _, Nat.zero_le _, fun a ha => ?_, fun a ha => ?_, Nat.zero_le _, Nat.zero_le _, Nat.le_refl _, Nat.le_refl _, Nat.le_refl _⟩
    · exact absurd ha (List.not_mem_nil (a := a))
    · exact absurd ha (List.not_mem_nil (a := a))
  · show (Mk.texts3 (⟨[], ⟨#[]⟩, ⟨#[]⟩, [], []⟩ : Mk.Dyn)).length ≤ 16777216
    decide
  · intro y hy
    exact absurd hy (List.not_mem_nil (a := y))
  · intro y hy
    exact absurd hy (List.not_mem_nil (a := y))
set_option maxRecDepth 100000 in
set_option maxHeartbeats 60000000 in
theorem works14_any (w : World) : Calls Tryz.prog 7 #[] w fun e w' => e = .returned (.bool true) ∧ Below w.heap.size w w' := by
  have hb1 := below_al w (.cells #[.int .u8 195] 5)
  have e1 : (w.alloc (.cells #[.int .u8 195] 5)).heap.size = w.heap.size + 1 := by simp
  have hx1 : XqM (w.alloc (.cells #[.int .u8 195] 5)) (w.heap.size + 1) (sa w.heap.size) := ⟨Rd.row rfl, Rd.none_ _ _ _ _, ⟨Rd.none_ _ _ _ _, Rd.none_ _ _ _ _, Rd.none_ _ _ _ _⟩⟩
  have K1 : Hid (Calls Tryz.prog 9 #[.agg #[.int .u16 2, .int .u64 4259840, .string ⟨#[]⟩, .slice (some ⟨w.heap.size, 0, none⟩) 1 1, .slice none 0 0, .int .u64 0, .bool false, .slice none 0 0, .string ⟨#[]⟩, .string ⟨#[]⟩, .slice none 0 0, .slice none 0 0, .int .i64 0]] (w.alloc (.cells #[.int .u8 195] 5)) (MkE Mk.xa (w.alloc (.cells #[.int .u8 195] 5)))) := hide (pmake_any (sa w.heap.size) (w.heap.size + 1) (w.alloc (.cells #[.int .u8 195] 5)) (by rw [e1]; exact Nat.le_refl _) hx1 (fit_of _ _ _ (by decide) (by decide) (by decide) rfl (Nat.le_refl _) (Nat.le_refl _) rfl rfl) (show 0 + 0 ≤ 1048576 from by decide))
  have K2 : Hid (∀ W, Calls Tryz.prog 9 #[.agg #[.int .u16 2, .int .u64 0, .string ⟨#[]⟩, .slice none 0 0, .slice none 0 0, .int .u64 0, .bool false, .slice none 0 0, .string ⟨#[]⟩, .string ⟨#[]⟩, .slice none 0 0, .slice none 0 0, .int .i64 0]] W (MkE Mk.xb W)) := hide (fun W => pmake_any sb 0 W (Nat.zero_le _) ⟨Rd.none_ _ _ _ _, Rd.none_ _ _ _ _, ⟨Rd.none_ _ _ _ _, Rd.none_ _ _ _ _, Rd.none_ _ _ _ _⟩⟩ (fit_of _ _ _ (by decide) (by decide) (by decide) rfl (Nat.le_refl _) (Nat.zero_le _) rfl rfl) (show 0 + 0 ≤ 1048576 from by decide))
  have Hb1 := hide hb1
  clear hb1 hx1 e1
  go_enter Tryz.func7, Tryz.ntmps7
  go_wp2_with fail
  refine (unhide K1).mono ?_
  rintro e w2 ⟨hb2, A, n, c, rfl, ho⟩
  generalize (w.alloc (.cells #[.int .u8 195] 5)) = W1 at *
  rw [Mk.make_xa] at ho ⊢
  have hn : n = 4097 := by
    have h1 := ho.1
    have h2 := Mk.file_len Mk.xa
    rw [Mk.out_xa] at h2
    simp [bys] at h1
    omega
  subst hn
  have hc := own_capG ho
  obtain ⟨k, rfl, -, -⟩ := own_some ho (by omega)
  have hr := Rd.of_own ho
  have h96 := hr.2
  obtain ⟨b1, o1, hA, -, st⟩ := hr.at_ (k := 4096) (u := .int .u8 195) (by simp [bys, Mk.file_xa])
  have KP := hide (eparse_good (some ⟨k, 0, none⟩) 4097 c w2.heap.size (Mk.file Mk.xa) 2 4259840 64 ((Mk.rows Mk.xa).map Mk.sg) w2 (Nat.le_refl _) hr (by omega) hc (Mk.parse_file Mk.made_xa))
  injection hA with hA
  injection hA with hA1 hA2
  subst hA1 hA2
  rw [Nat.zero_add] at st
  have hkl := (own_bklt ho _ rfl).2
  have hl3 : ((Mk.rows Mk.xa).map Mk.sg).length = 3 := by rw [List.length_map, rows_len, Mk.many_xa]
  rw [hl3] at KP
  have Hbw2 := hide ((unhide Hb1).trans (hb2.mono (unhide Hb1).size))
  have Hst := hide st
  clear hb2 ho hr h96 hl3 K1 Hb1 hc st
  go_wp2_with fail
  refine (unhide KP).mono ?_
  rintro e w3 ⟨A3, c3, rfl, -, hb3⟩
  have hst3 := (hb3.cell (p := ⟨k, 4096, none⟩) hkl).trans (unhide Hst)
  have hH := Blk.new w3 44 [.int .u16 2, .int .u64 4259840, .int .u64 64, .slice A3 3 c3]
  have hb4 := below_al w3 (.cells #[.int .u16 2, .int .u64 4259840, .int .u64 64, .slice A3 3 c3] 44)
  have hst4 := (hb4.cell (p := ⟨k, 4096, none⟩) (by have := hb3.size; show k < _; omega)).trans hst3
  have K2' := hide ((unhide K2) (w3.alloc (.cells #[.int .u16 2, .int .u64 4259840, .int .u64 64, .slice A3 3 c3] 44)))
  have Hbw4 := hide ((unhide Hbw2).trans ((hb3.trans (hb4.mono hb3.size)).mono (unhide Hbw2).size))
  have HH : Hid (Blk (w3.alloc (.cells #[.int .u16 2, .int .u64 4259840, .int .u64 64, .slice A3 3 c3] 44)) w3.heap.size 44 [.int .u16 2, .int .u64 4259840, .int .u64 64, .slice A3 3 c3]) := hide hH
  have Hst4 := hide hst4
  have hk4 : k < (w3.alloc (.cells #[.int .u16 2, .int .u64 4259840, .int .u64 64, .slice A3 3 c3] 44)).heap.size := by have := hb3.size; have := hb4.size; omega
  have Hk4 := hide hk4
  clear hst3 hH hb4 hst4 hb3 KP K2 hk4
  go_wp2_with fail
  refine (unhide K2').mono ?_
  rintro e w5 ⟨hb5, A5, n5, c5, rfl, -⟩
  generalize (w3.alloc (.cells #[.int .u16 2, .int .u64 4259840, .int .u64 64, .slice A3 3 c3] 44)) = W4 at *
  rw [Mk.make_xb]
  have z1 := ((unhide HH).belowSz hb5).cell (i := 1) rfl
  have z3 := ((unhide HH).belowSz hb5).cell (i := 3) rfl
  have st5 := (hb5.cell (p := ⟨k, 4096, none⟩) (unhide Hk4)).trans (unhide Hst4)
  have Hbw5 := hide ((unhide Hbw4).trans (hb5.mono (unhide Hbw4).size))
  clear hb5 K2'
  go_wp2_with fail
  go_ret
  exact ⟨rfl, unhide Hbw5⟩
end Go.Proofs.YtnbecdahfgkffaaGreat
namespace Go.Proofs.YtnbecdahfgkffaaGreat
open Go.RowKit
set_option maxRecDepth 100000 in
set_option maxHeartbeats 60000000 in
theorem rmakeC (s : Xq) (B : Nat) (w W1 wc : World) (gf gl cl : Nat) (Al : Option Addr) (hB : B ≤ w.heap.size) (Hf : Hid (MkFit s)) (Hb1 : Hid (Below w.heap.size w W1)) (hW1 : W1.heap.size = w.heap.size + 1) (Hx : Hid (∀ W, Below (w.heap.size + 1) W1 W → Blk W w.heap.size 31 s.l ∧ XqM W B s)) (hb4 : Mk.base s.x ≤ 4194304) (HM : Hid (MayOk s.x)) (Hmay : Hid (Mk.may s.x = 0))  (nf ta da o2 : Nat) (hnf : nf ≤ 100000000) (htb : ta ≤ 100010000) (hdb : da ≤ 100100000) (ho2b : o2 ≤ 102000000) (htx6 : s.x.text.length ≤ 65536) (hmo6 : s.x.more ≤ 1048576) (Hta : Hid (Mk.textAt s.x = ta)) (Hda : Hid (Mk.dataAt s.x = da)) (Hfl : Hid ((Mk.front2 s.x).length = nf)) (Ho2 : Hid ((Mk.out2 s.x).length = o2)) (hS : MaS (Mk.base s.x) W1 gf (some (gl, lastV s.x)) wc (Mk.front2 s.x) (Mk.rows s.x) Al (Mk.many s.x) cl)
    (u0 u2 u3 u4 u5 u6 u9 u10 u11 u12 u13 u14 u19 u20 u21 u22 u23 u24 u25 u26 u27 u28 u29 u30 u31 u32 u33 u34 u35 u36 u37 u38 u39 u40 u41 u42 u43 u44 u45 u46 u47 u48 u49 u50 u51 u52 u53 u54 u55 u56 u57 u58 u59 u60 u61 u62 u63 u64 u65 u66 u67 u68 u69 u70 u71 u72 u73 u74 u75 u76 u77 u78 u79 u80 u81 u82 u83 u84 u85 u86 u87 u88 u89 u90 u91 u92 u93 u94 u95 u96 u97 u98 u99 u100 u101 u102 u103 u104 u105 u106 u107 u108 u109 u110 u111 u112 u113 u114 u115 u116 u117 u118 u119 u120 u121 u122 u123 u124 u125 u126 u127 u128 u129 u130 u131 u132 u133 u134 u135 u136 u137 u138 u139 u140 u141 u142 u143 u144 u145 u146 u147 u148 u149 u150 u151 u152 u153 u154 u155 u156 u157 u158 u159 u160 u161 u162 u163 u164 u165 u166 u167 u168 u169 u170 u171 u172 u173 u174 u175 u176 u177 u178 u179 u180 u181 u182 u183 u184 u185 u186 u187 u188 u189 u190 u191 u192 u193 u194 u195 u196 u197 u198 u199 u200 u201 u202 u203 u204 u205 u206 u207 u208 u209 u210 u211 u212 u213 u214 u215 u216 : Value) :
    (dropC 18 (Tryz.f10.body.getD .skip)).wp Tryz.prog (bodyPost Tryz.prog Tryz.f10 (MkE s.x w)) ⟨#[u0, .pointer (some ⟨w.heap.size, 0, none⟩), u2, u3, u4, u5, u6, .pointer (some ⟨gf, 0, none⟩), .slice Al (Mk.many s.x) cl, u9, u10, u11, u12, u13, u14, .int .i64 (nf : Nat), .int .i64 (ta : Nat), .int .i64 (da : Nat), .int .i64 (o2 : Nat), u19, u20, u21, u22, u23, u24, u25, u26, u27, u28, u29, u30, u31, u32, u33, u34, u35, u36, u37, u38, u39, u40, u41, u42, u43, u44, u45, u46, u47, u48, u49, u50, u51, u52, u53, u54, u55, u56, u57, u58, u59, u60, u61, u62, u63, u64, u65, u66, u67, u68, u69, u70, u71, u72, u73, u74, u75, u76, u77, u78, u79, u80, u81, u82, u83, u84, u85, u86, u87, u88, u89, u90, u91, u92, u93, u94, u95, u96, u97, u98, u99, u100, u101, u102, u103, u104, u105, u106, u107, u108, u109, u110, u111, u112, u113, u114, u115, u116, u117, u118, u119, u120, u121, u122, u123, u124, u125, u126, u127, u128, u129, u130, u131, u132, u133, u134, u135, u136, u137, u138, u139, u140, u141, u142, u143, u144, u145, u146, u147, u148, u149, u150, u151, u152, u153, u154, u155, u156, u157, u158, u159, u160, u161, u162, u163, u164, u165, u166, u167, u168, u169, u170, u171, u172, u173, u174, u175, u176, u177, u178, u179, u180, u181, u182, u183, u184, u185, u186, u187, u188, u189, u190, u191, u192, u193, u194, u195, u196, u197, u198, u199, u200, u201, u202, u203, u204, u205, u206, u207, u208, u209, u210, u211, u212, u213, u214, u215, u216], []⟩ wc := by
  have hte : s.x.text.length ≤ 4294967296 := (unhide Hf).ok.text
  have hda : s.x.data.length ≤ 1048576 := (unhide Hf).data
  have hin : s.x.interp.size ≤ 1048576 := (unhide Hf).interp
  have hmo := (unhide Hf).ok.more
  have hmany := many_ge s.x
  have Hfr1 := hide (front1_len s.x)
  obtain ⟨i, hi, hz0, hz1, hz2⟩ := info_parts byteInfo
  have Hi := hide hi
  have Hz0 := hide hz0
  have Hz1 := hide hz1
  have Hz2 := hide hz2
  clear hi hz0 hz1 hz2
  have Hrl := hide (rows_len s.x)
  conv => arg 2; whnf
  obtain ⟨Af, n7, cf, hF, hd1, hd2⟩ := hS.fi
  have hfl7 := hF.len
  obtain rfl : n7 = nf := by have := unhide Hfl; omega
  have hnf3 : 100 ≤ n7 := by
    have h1 := front0_len s.x
    have h2 := (unhide Hfr1).1
    have h3 := front2_len s.x
    omega
  obtain ⟨kf, hkf, -, hkf2⟩ := own_some hF.row (by omega)
  subst hkf
  have yf := hF.cell
  have hRf : Rd wc wc.heap.size 1 (some ⟨kf, 0, none⟩) n7 (bys (Mk.front2 s.x)) := hF.rd
  have HRf := hide hRf
  have HS4 := hide hS
  clear hRf hS hF hd1 hd2 hfl7
  have Hmk : Hid (Mk.make s.x = if 65536 < n7 ∨ 65536 < o2 then ([], 12) else (Mk.file s.x, 0)) := hide (by unfold Mk.make; rw [if_neg (by rw [unhide Hmay]; decide), unhide Hfl, unhide Ho2])
  have HBw := hide ((unhide Hb1).trans ((unhide HS4).below.mono (by omega)))
  by_cases e1 : 65536 < n7
  · have e1i : (65536 : Int) < (n7 : Int) := by omega
    have Hm2 : Hid (Mk.make s.x = ([], 12)) := hide (by rw [unhide Hmk, if_pos (Or.inl e1)])
    clear e1 yf
    go_wp2_with fail
    go_ret2
    refine ⟨unhide HBw, none, 0, 0, ?_, ?_⟩
    · rw [unhide Hm2]; rfl
    · rw [unhide Hm2]; exact World.ownsRow_nil _ _ _ _
  have e1i : ¬ (65536 : Int) < (n7 : Int) := by omega
  by_cases e2 : 65536 < o2
  · have e2i : (65536 : Int) < (o2 : Int) := by omega
    have Hm2 : Hid (Mk.make s.x = ([], 12)) := hide (by rw [unhide Hmk, if_pos (Or.inr e2)])
    clear e1 e2 yf
    go_wp2_with fail
    go_ret2
    refine ⟨unhide HBw, none, 0, 0, ?_, ?_⟩
    · rw [unhide Hm2]; rfl
    · rw [unhide Hm2]; exact World.ownsRow_nil _ _ _ _
  have e2i : ¬ (65536 : Int) < (o2 : Int) := by omega
  have Hm2 : Hid (Mk.make s.x = (Mk.file s.x, 0)) := hide (by rw [unhide Hmk, if_neg (by omega)])
  have hno : n7 ≤ o2 := by
    have h1 := out1_ge s.x
    have h2 := out2_ge s.x
    have h3 := unhide Hfl
    have h4 := unhide Ho2
    omega
  clear Hmk e1 e2
  generalize wc = wr0 at *
  go_wp2_with (first
    | (at_make; refine wpList_make_full _ rfl _ _ 24 rfl wr0.heap.size 5 i (.int .u8 0) 1 Tryz.underlying24 (unhide Hi) (unhide Hz0) (unhide Hz1) _ _ _ _ o2 rfl (by rfl) rfl (by rfl) (by rw [unhide Hz2]; omega) (by unfold maxLen; omega) (Nat.le_refl _) ?_; intro w10 hown hgrow; rw [zerosN] at hown; have hb10 := (Below.refl wr0.heap.size wr0).grown hgrow (Nat.le_refl _) (fun k hk => by cases hk); have HC0 := hide (CpM.mk hb10 (Nat.le_refl _) hown); have yf2 := (unhide HC0).below.cell (p := ⟨gf, 0, none⟩) (unhide HS4).lt |>.trans yf; clear hown hgrow hb10)
    | ((with_reducible refine (@id (wpList _ _ _ (Oper.mk _ (Op.call { callee := .builtin .copy, args := _, argTypes := _ }) _ _ _ none :: _) _ _) ?_)); go_loud (refine wpList_copyB rfl _ _ rfl wr0.heap.size 0 o2 o2 wr0.heap.size o2 o2 _ _ rfl (unhide HC0).row kf 0 n7 cf wr0.heap.size rfl ((unhide HRf).below (unhide HC0).below) (by omega) (by omega) ?_; intro w11 ho11 hcs11; have HC1 := hide ((unhide HC0).copied ho11 hcs11); have hx11 := (unhide Hx) _ (hW1 ▸ ((unhide HS4).below.trans ((unhide HC1).below.mono (unhide HS4).size))); have hcells := spec_cells hx11.1; have Hxm := hide hx11.2; clear ho11 hcs11 hx11; obtain ⟨a0, a1, a2, a3, a4, a5, a6, a7, a8, a9, a10, a11, a12⟩ := hcells)))
  have hno1 : (Mk.zs o2).length = o2 := zs_len _
  have hHl := head_len s.x (Mk.rows s.x)
  rw [unhide Hrl] at hHl
  have HCb : Hid (CpM wr0 w11 wr0.heap.size o2 (Mk.blank s.x)) := hide (by
    have h1 := blank_eq s.x
    rw [unhide Ho2] at h1
    have h2 := unhide HC1
    rw [show List.replicate o2 (0 : UInt8) = Mk.zs o2 from rfl, h1] at h2
    exact h2)
  have hrok := rows_ok s.x 102000000 (by omega) (by rw [unhide Hfl]; omega) (by rw [unhide Hta]; omega) (by rw [unhide Hda]; omega) (by omega) (by omega) (by omega) (by omega) (by have := room_le s.x (unhide HM).n1; omega)
  have hRl : Rd w11 wr0.heap.size 7 Al (Mk.many s.x) (rowC (Mk.rows s.x)) := (Rd.of_own (unhide HS4).row).below (unhide HC1).below
  have hs11 : wr0.heap.size ≤ w11.heap.size := (unhide HC1).below.size
  have hm32 : Mk.many s.x ≤ 4294967296 := by omega
  have KH := hide (rheader_any s Al (Mk.many s.x) cl wr0.heap.size (Mk.rows s.x) w11 hs11 (unhide Hf).ok (unhide Hrl) hm32 hRl hrok)
  clear hrok hRl hs11 hm32 hno1 HC0 HC1 yf yf2 a0 a1 a2 a3 a4 a5 a6 a7 a8 a9 a10 a11 a12
  refine (unhide KH).mono ?_
  rintro e w12 ⟨Ah, ch, rfl, hoh, hb12⟩
  obtain ⟨kh, hkh, -, hkh2⟩ := own_some hoh (by omega)
  subst hkh
  have HRh := hide (Rd.of_own hoh)
  have HC12 := hide ((unhide HCb).calm hb12)
  have hmn : 64 + 56 * Mk.many s.x ≤ n7 := by
    have h1 := front0_len s.x
    have h2 := (unhide Hfr1).1
    have h3 := front2_len s.x
    have h4 := unhide Hfl
    omega
  clear KH hoh hb12 HCb Hxm hHl
  have hgk : w.heap.size ≠ wr0.heap.size := by have := (unhide HS4).size; omega
  go_upto_if 199 with ((with_reducible refine (@id (wpList _ _ _ (Oper.mk _ (Op.call { callee := .builtin .copy, args := _, argTypes := _ }) _ _ _ none :: _) _ _) ?_)); refine wpList_copyB rfl _ _ rfl wr0.heap.size 0 o2 o2 wr0.heap.size o2 o2 _ _ rfl (unhide HC12).row kh 0 (64 + 56 * Mk.many s.x) ch w12.heap.size rfl (unhide HRh) (by omega) (by omega) ?_; intro w13 ho13 hcs13; have HC2 := hide ((unhide HC12).copied ho13 hcs13); have hx13 := (unhide Hx) _ (hW1 ▸ ((unhide HS4).below.trans ((unhide HC2).below.mono (unhide HS4).size))); have y3 := hx13.1.cell (i := 3) rfl; have Hxm := hide hx13.2; clear ho13 hcs13 hx13)
  obtain ⟨bq, hbq⟩ : ∃ bq, decide (0 < s.x.text.length) = bq := ⟨_, rfl⟩
  rw [hbq]
  have Hbq := hide hbq
  clear hbq
  go_cut [] (fun wx => CpM wr0 wx wr0.heap.size o2 (if Mk.isText s.x = true then Mk.over (Mk.over (Mk.blank s.x) 0 (Mk.head s.x (Mk.rows s.x))) ta s.x.text else Mk.over (Mk.blank s.x) 0 (Mk.head s.x (Mk.rows s.x))))
  case first =>
    cases bq
    case false =>
      have hit : Mk.isText s.x = false := by unfold Mk.isText; exact unhide Hbq
      have He := hide hit
      clear hit
      go_wp2_with fail
      go_meet
      case rel => rw [unhide He, if_neg (by decide)]; exact unhide HC2
    case true =>
      have hit : Mk.isText s.x = true := by unfold Mk.isText; exact unhide Hbq
      have hlp : 0 < s.x.text.length := of_decide_eq_true (unhide Hbq)
      have He := hide hit
      have hfit : ta + s.x.text.length ≤ o2 := by 
        have h1 : (Mk.out1 s.x).length = Mk.textAt s.x + s.x.text.length := by unfold Mk.out1; rw [hit, if_pos rfl, List.length_append]; rfl
        have h2 := out2_ge s.x
        have h3 := unhide Ho2
        have h4 := unhide Hta
        omega
      obtain ⟨kx, ox, hA, -, -⟩ := (unhide Hxm).text.open_ (by intro e9; have h9 := congrArg List.length e9; simp only [bys, List.length_map, List.length_nil] at h9; omega)
      have hrd := (unhide Hxm).text
      rw [hA] at hrd y3
      have HRd := hide hrd
      have ks : ∀ w', (Instr.slice 24 (.slice (some ⟨wr0.heap.size, 0, none⟩) o2 o2) (some (.int .i64 (ta : Nat))) none none).run Tryz.prog w' = .ok (.slice (some ⟨wr0.heap.size, ta, none⟩) (o2 - ta) (o2 - ta)) w' := fun w' => by
        have h := run_fromK (P := Tryz.prog) Tryz.underlying24 u8sz .i64 (some ⟨wr0.heap.size, 0, none⟩) o2 o2 ta (by omega) w'
        unfold fromA at h
        rw [if_neg (by omega), Option.map_some, Addr.add_lit, Nat.zero_add] at h
        exact h
      clear hit hA hrd
      go_wp2_with fail
      refine wp_region_noPanic ?_
      refine wp_region_held_drew (S := fun W => W.cell? ⟨w.heap.size, 3, none⟩ = some (.slice (some ⟨kx, ox, none⟩) s.x.text.length s.ct)) (by kernel_rfl) y3 (fun HS0 => ?_)
      refine takeD (i := 0) (d := some 200) (v := ?_) rfl rfl (by kernel_rfl) (by kernel_rfl) (by kernel_rfl) (fun _ _ _ h => h) (Or.inl ⟨by rfl, ?y0⟩) HS0 ?_
      case y0 => (intro w' hSw; (try dsimp only at hSw); go_simp; (try with_reducible rfl))
      simp only [Act.put, List.setIfInBounds_toArray, List.set_cons_zero, List.set_cons_succ]
      refine takeD (i := 1) (d := some 201) (v := ?_) rfl rfl (by kernel_rfl) (by kernel_rfl) (by kernel_rfl) (fun _ _ _ h => h) (Or.inl ⟨by rfl, ?y1⟩) HS0 ?_
      case y1 => (intro w' hSw; (try dsimp only at hSw); go_simp; (try with_reducible rfl))
      simp only [Act.put, List.setIfInBounds_toArray, List.set_cons_zero, List.set_cons_succ]
      refine takeD (i := 2) (d := some 202) (v := .slice (some ⟨wr0.heap.size, ta, none⟩) (o2 - ta) (o2 - ta)) rfl rfl (by kernel_rfl) (by kernel_rfl) (by kernel_rfl) (fun _ _ _ h => h) (Or.inl ⟨by rfl, ?y2⟩) HS0 ?_
      case y2 => (intro w' hSw; (try dsimp only at hSw); go_simp; (try simp [ks]))
      simp only [Act.put, List.setIfInBounds_toArray, List.set_cons_zero, List.set_cons_succ]
      refine takeD (i := 3) (d := some 203) (v := ?_) rfl rfl (by kernel_rfl) (by kernel_rfl) (by kernel_rfl) (fun _ _ _ h => h) (Or.inl ⟨by rfl, ?y3⟩) HS0 ?_
      case y3 => (intro w' hSw; (try dsimp only at hSw); go_simp; (try with_reducible rfl))
      simp only [Act.put, List.setIfInBounds_toArray, List.set_cons_zero, List.set_cons_succ]
      refine takeD (i := 4) (d := some 204) (v := ?_) rfl rfl (by kernel_rfl) (by kernel_rfl) (by kernel_rfl) (fun _ _ _ h => h) (Or.inl ⟨by rfl, ?y4⟩) HS0 ?_
      case y4 => (intro w' hSw; (try dsimp only at hSw); go_simp; (try with_reducible rfl))
      simp only [Act.put, List.setIfInBounds_toArray, List.set_cons_zero, List.set_cons_succ]
      refine wpAnyH_ready (rs := [5]) (by kernel_rfl) (by simp) ?_
      refine AllReadyH.cons (i := 5) rfl (fun K hK => ?_) AllReadyH.nil
      rw [if_pos (by rfl)]
      refine wp_copyB (.tmp 202) (.tmp 204) rfl wr0.heap.size ta (o2 - ta) (o2 - ta) wr0.heap.size o2 o2 _ _ rfl (unhide HC2).row kx ox s.x.text.length s.ct B rfl (unhide HRd) (by omega) (by omega) ?_
      rintro w19 ho19 hcs
      have HC9 := hide ((unhide HC2).drew1.copied ho19 hcs)
      obtain ⟨cs, rfl⟩ := hcs
      show K (Act.put _ (some 205) _) _
      refine hK.out _ _ (by exact (cell_blk (setRow_other _ wr0.heap.size w.heap.size cs hgk) 3).trans y3) (fun hHeld => ?_)
      clear hK K HS0 ho19
      have HS0 := hHeld
      clear hHeld
      (try simp only [Act.put, List.setIfInBounds_toArray, List.set_cons_zero, List.set_cons_succ])
      refine wpAnyH_done (by kernel_rfl) ?_ _
      refine NoPanic.normal ?_
      clear HS0 y3 ks
      go_wp2_with fail
      go_meet
      case rel => rw [unhide He, if_pos rfl]; first | exact unhide HC9 | exact (unhide HC9).drew1
  case rest =>
    have HC3 := hide hcut
    have hx14 := (unhide Hx) _ (hW1 ▸ ((unhide HS4).below.trans (hcut.below.mono (unhide HS4).size)))
    have y4 := hx14.1.cell (i := 4) rfl
    have Hxm := hide hx14.2
    clear hx14 hcut HC2 y3 Hbq
    go_upto_if 209 with fail
    obtain ⟨bq, hbq⟩ : ∃ bq, decide (0 < s.x.data.length) = bq := ⟨_, rfl⟩
    rw [hbq]
    have Hbq := hide hbq
    clear hbq
    go_cut [] (fun wx => CpM wr0 wx wr0.heap.size o2 (if decide (0 < s.x.data.length) = true then Mk.over (if Mk.isText s.x = true then Mk.over (Mk.over (Mk.blank s.x) 0 (Mk.head s.x (Mk.rows s.x))) ta s.x.text else Mk.over (Mk.blank s.x) 0 (Mk.head s.x (Mk.rows s.x))) da s.x.data else if Mk.isText s.x = true then Mk.over (Mk.over (Mk.blank s.x) 0 (Mk.head s.x (Mk.rows s.x))) ta s.x.text else Mk.over (Mk.blank s.x) 0 (Mk.head s.x (Mk.rows s.x))))
    case first =>
      cases bq
      case false =>
        have hit : decide (0 < s.x.data.length) = false := by exact unhide Hbq
        have He := hide hit
        clear hit
        go_wp2_with fail
        go_meet
        case rel => rw [unhide He, if_neg (by decide)]; exact unhide HC3
      case true =>
        have hit : decide (0 < s.x.data.length) = true := by exact unhide Hbq
        have hlp : 0 < s.x.data.length := of_decide_eq_true (unhide Hbq)
        have He := hide hit
        have hfit : da + s.x.data.length ≤ o2 := by 
          have h0 : Mk.isData s.x = true := by unfold Mk.isData; rw [decide_eq_true (of_decide_eq_true (unhide Hbq))]; rfl
          have h1 : (Mk.out2 s.x).length = Mk.dataAt s.x + s.x.data.length := by unfold Mk.out2; rw [h0, if_pos rfl, List.length_append]; rfl
          have h3 := unhide Ho2
          have h4 := unhide Hda
          omega
        obtain ⟨kx, ox, hA, -, -⟩ := (unhide Hxm).data.open_ (by intro e9; have h9 := congrArg List.length e9; simp only [bys, List.length_map, List.length_nil] at h9; omega)
        have hrd := (unhide Hxm).data
        rw [hA] at hrd y4
        have HRd := hide hrd
        have ks : ∀ w', (Instr.slice 24 (.slice (some ⟨wr0.heap.size, 0, none⟩) o2 o2) (some (.int .i64 (da : Nat))) none none).run Tryz.prog w' = .ok (.slice (some ⟨wr0.heap.size, da, none⟩) (o2 - da) (o2 - da)) w' := fun w' => by
          have h := run_fromK (P := Tryz.prog) Tryz.underlying24 u8sz .i64 (some ⟨wr0.heap.size, 0, none⟩) o2 o2 da (by omega) w'
          unfold fromA at h
          rw [if_neg (by omega), Option.map_some, Addr.add_lit, Nat.zero_add] at h
          exact h
        clear hit hA hrd
        go_wp2_with fail
        refine wp_region_noPanic ?_
        refine wp_region_held_drew (S := fun W => W.cell? ⟨w.heap.size, 4, none⟩ = some (.slice (some ⟨kx, ox, none⟩) s.x.data.length s.cd)) (by kernel_rfl) y4 (fun HS0 => ?_)
        refine takeD (i := 0) (d := some 210) (v := ?_) rfl rfl (by kernel_rfl) (by kernel_rfl) (by kernel_rfl) (fun _ _ _ h => h) (Or.inl ⟨by rfl, ?y0⟩) HS0 ?_
        case y0 => (intro w' hSw; (try dsimp only at hSw); go_simp; (try with_reducible rfl))
        simp only [Act.put, List.setIfInBounds_toArray, List.set_cons_zero, List.set_cons_succ]
        refine takeD (i := 1) (d := some 211) (v := ?_) rfl rfl (by kernel_rfl) (by kernel_rfl) (by kernel_rfl) (fun _ _ _ h => h) (Or.inl ⟨by rfl, ?y1⟩) HS0 ?_
        case y1 => (intro w' hSw; (try dsimp only at hSw); go_simp; (try with_reducible rfl))
        simp only [Act.put, List.setIfInBounds_toArray, List.set_cons_zero, List.set_cons_succ]
        refine takeD (i := 2) (d := some 212) (v := .slice (some ⟨wr0.heap.size, da, none⟩) (o2 - da) (o2 - da)) rfl rfl (by kernel_rfl) (by kernel_rfl) (by kernel_rfl) (fun _ _ _ h => h) (Or.inl ⟨by rfl, ?y2⟩) HS0 ?_
        case y2 => (intro w' hSw; (try dsimp only at hSw); go_simp; (try simp [ks]))
        simp only [Act.put, List.setIfInBounds_toArray, List.set_cons_zero, List.set_cons_succ]
        refine takeD (i := 3) (d := some 213) (v := ?_) rfl rfl (by kernel_rfl) (by kernel_rfl) (by kernel_rfl) (fun _ _ _ h => h) (Or.inl ⟨by rfl, ?y3⟩) HS0 ?_
        case y3 => (intro w' hSw; (try dsimp only at hSw); go_simp; (try with_reducible rfl))
        simp only [Act.put, List.setIfInBounds_toArray, List.set_cons_zero, List.set_cons_succ]
        refine takeD (i := 4) (d := some 214) (v := ?_) rfl rfl (by kernel_rfl) (by kernel_rfl) (by kernel_rfl) (fun _ _ _ h => h) (Or.inl ⟨by rfl, ?y4⟩) HS0 ?_
        case y4 => (intro w' hSw; (try dsimp only at hSw); go_simp; (try with_reducible rfl))
        simp only [Act.put, List.setIfInBounds_toArray, List.set_cons_zero, List.set_cons_succ]
        refine wpAnyH_ready (rs := [5]) (by kernel_rfl) (by simp) ?_
        refine AllReadyH.cons (i := 5) rfl (fun K hK => ?_) AllReadyH.nil
        rw [if_pos (by rfl)]
        refine wp_copyB (.tmp 212) (.tmp 214) rfl wr0.heap.size da (o2 - da) (o2 - da) wr0.heap.size o2 o2 _ _ rfl (unhide HC3).row kx ox s.x.data.length s.cd B rfl (unhide HRd) (by omega) (by omega) ?_
        rintro w19 ho19 hcs
        have HC9 := hide ((unhide HC3).drew1.copied ho19 hcs)
        obtain ⟨cs, rfl⟩ := hcs
        show K (Act.put _ (some 215) _) _
        refine hK.out _ _ (by exact (cell_blk (setRow_other _ wr0.heap.size w.heap.size cs hgk) 4).trans y4) (fun hHeld => ?_)
        clear hK K HS0 ho19
        have HS0 := hHeld
        clear hHeld
        (try simp only [Act.put, List.setIfInBounds_toArray, List.set_cons_zero, List.set_cons_succ])
        refine wpAnyH_done (by kernel_rfl) ?_ _
        refine NoPanic.normal ?_
        clear HS0 y4 ks
        go_wp2_with fail
        go_meet
        case rel => rw [unhide He, if_pos rfl]; first | exact unhide HC9 | exact (unhide HC9).drew1
    case rest =>
      have HC4 := hide hcut
      clear hcut
      go_wp2_with fail
      go_ret2
      have hcp := copies_eq s.x (Mk.head s.x (Mk.rows s.x)) (by rw [head_len, unhide Hrl, unhide Hfl]; exact hmn)
      rw [unhide Hta, unhide Hda, isData_if] at hcp
      have h9 := unhide HC4
      rw [hcp] at h9
      refine ⟨(unhide HBw).trans (h9.below.mono ?_), some ⟨wr0.heap.size, 0, none⟩, o2, o2, ?_, ?_⟩
      · have := (unhide HS4).size; omega
      · rw [unhide Hm2]; rfl
      · rw [unhide Hm2]; exact own_base h9.row (by have := (unhide HS4).size; omega)
end Go.Proofs.YtnbecdahfgkffaaGreat
namespace Go.Proofs.YtnbecdahfgkffaaGreat
open Go.RowKit
set_option maxRecDepth 100000 in
set_option maxHeartbeats 60000000 in
theorem rmakeB (s : Xq) (B : Nat) (w W1 wc : World) (gf gl cl : Nat) (Al : Option Addr) (hB : B ≤ w.heap.size) (Hf : Hid (MkFit s)) (Hb1 : Hid (Below w.heap.size w W1)) (hW1 : W1.heap.size = w.heap.size + 1) (Hx : Hid (∀ W, Below (w.heap.size + 1) W1 W → Blk W w.heap.size 31 s.l ∧ XqM W B s)) (hb4 : Mk.base s.x ≤ 4194304) (HM : Hid (MayOk s.x)) (Hmay : Hid (Mk.may s.x = 0))  (nl : Nat) (hnl : nl ≤ 2) (dy : Bool) (Hdy : Hid (s.x.dynamic = dy)) (hS : MaS (Mk.base s.x) W1 gf (some (gl, lastV s.x)) wc (Mk.front2 s.x) (Mk.rowPhdr s.x ++ Mk.rowInterp s.x) Al nl cl)
    (u0 u2 u3 u4 u6 u9 u10 u11 u13 u14 u15 u16 u17 u18 u19 u20 u21 u22 u23 u24 u25 u26 u27 u28 u29 u30 u31 u32 u33 u34 u35 u36 u37 u38 u39 u40 u41 u42 u43 u44 u45 u46 u47 u48 u49 u50 u51 u52 u53 u54 u55 u56 u57 u58 u59 u60 u61 u62 u63 u64 u65 u66 u67 u68 u69 u70 u71 u72 u73 u74 u75 u76 u77 u78 u79 u80 u81 u82 u83 u84 u85 u86 u87 u88 u89 u90 u91 u92 u93 u94 u95 u96 u97 u98 u99 u100 u101 u102 u103 u104 u105 u106 u107 u108 u109 u110 u111 u112 u113 u114 u115 u116 u117 u118 u119 u120 u121 u122 u123 u124 u125 u126 u127 u128 u129 u130 u131 u132 u133 u134 u135 u136 u137 u138 u139 u140 u141 u142 u143 u144 u145 u146 u147 u148 u149 u150 u151 u152 u153 u154 u155 u156 u157 u158 u159 u160 u161 u162 u163 u164 u165 u166 u167 u168 u169 u170 u171 u172 u173 u174 u175 u176 u177 u178 u179 u180 u181 u182 u183 u184 u185 u186 u187 u188 u189 u190 u191 u192 u193 u194 u195 u196 u197 u198 u199 u200 u201 u202 u203 u204 u205 u206 u207 u208 u209 u210 u211 u212 u213 u214 u215 u216 : Value) :
    (dropC 10 (Tryz.f10.body.getD .skip)).wp Tryz.prog (bodyPost Tryz.prog Tryz.f10 (MkE s.x w)) ⟨#[u0, .pointer (some ⟨w.heap.size, 0, none⟩), u2, u3, u4, .int .u64 (Mk.base s.x : Nat), u6, .pointer (some ⟨gf, 0, none⟩), .slice Al nl cl, u9, u10, u11, .pointer (some ⟨gl, 0, none⟩), u13, u14, u15, u16, u17, u18, u19, u20, u21, u22, u23, u24, u25, u26, u27, u28, u29, u30, u31, u32, u33, u34, u35, u36, u37, u38, u39, u40, u41, u42, u43, u44, u45, u46, u47, u48, u49, u50, u51, u52, u53, u54, u55, u56, u57, u58, u59, u60, u61, u62, u63, u64, u65, u66, u67, u68, u69, u70, u71, u72, u73, u74, u75, u76, u77, u78, u79, u80, u81, u82, u83, u84, u85, u86, u87, u88, u89, u90, u91, u92, u93, u94, u95, u96, u97, u98, u99, u100, u101, u102, u103, u104, u105, u106, u107, u108, u109, u110, u111, u112, u113, u114, u115, u116, u117, u118, u119, u120, u121, u122, u123, u124, u125, u126, u127, u128, u129, u130, u131, u132, u133, u134, u135, u136, u137, u138, u139, u140, u141, u142, u143, u144, u145, u146, u147, u148, u149, u150, u151, u152, u153, u154, u155, u156, u157, u158, u159, u160, u161, u162, u163, u164, u165, u166, u167, u168, u169, u170, u171, u172, u173, u174, u175, u176, u177, u178, u179, u180, u181, u182, u183, u184, u185, u186, u187, u188, u189, u190, u191, u192, u193, u194, u195, u196, u197, u198, u199, u200, u201, u202, u203, u204, u205, u206, u207, u208, u209, u210, u211, u212, u213, u214, u215, u216], []⟩ wc := by
  have hte : s.x.text.length ≤ 4294967296 := (unhide Hf).ok.text
  have hda : s.x.data.length ≤ 1048576 := (unhide Hf).data
  have hin : s.x.interp.size ≤ 1048576 := (unhide Hf).interp
  have hmo := (unhide Hf).ok.more
  have hmany := many_ge s.x
  have Hfr1 := hide (front1_len s.x)
  obtain ⟨i, hi, hz0, hz1, hz2⟩ := info_parts byteInfo
  have Hi := hide hi
  have Hz0 := hide hz0
  have Hz1 := hide hz1
  have Hz2 := hide hz2
  clear hi hz0 hz1 hz2
  conv => arg 2; whnf
  have hcb := ((unhide Hx) _ (hW1 ▸ hS.below)).1
  have y3 := hcb.cell (i := 3) rfl
  obtain ⟨Af, nf, cf, hF, hd1, hd2⟩ := hS.fi
  have yf : wc.cell? ⟨gf, 0, none⟩ = some (.slice Af nf cf) := hF.cell
  have hfl : (Mk.front2 s.x).length = nf := hF.len
  have hT := (unhide Hf).texts
  have hnf : nf ≤ 100000000 := by
    have h1 := front2_le s.x (unhide HM) 16777216 hT
    have h2 := (unhide Hfr1).2
    have h3 := front0_len s.x
    omega
  have htx6 : s.x.text.length ≤ 65536 := (unhide HM).text
  have hmo6 : s.x.more ≤ 1048576 := (unhide HM).more
  obtain ⟨ta, hta⟩ : ∃ ta, Mk.textAt s.x = ta := ⟨_, rfl⟩
  obtain ⟨da, hda⟩ : ∃ da, Mk.dataAt s.x = da := ⟨_, rfl⟩
  have htu : (nf + 4095) / 4096 * 4096 = ta := by rw [← hta, text_up, hfl]
  have hdu : (ta + s.x.text.length + 4095) / 4096 * 4096 = da := by rw [← hda, data_up, hta]
  have htb : ta ≤ 100010000 := by omega
  have hdb : da ≤ 100100000 := by omega
  have KU1 := hide (fun W => rup_any nf W (by omega))
  have KU2 := hide (fun W => rup_any (ta + s.x.text.length) W (by omega))
  rw [htu] at KU1
  rw [hdu] at KU2
  have Hta := hide hta
  have Hda := hide hda
  have Hfl := hide hfl
  have HS := hide hS
  clear hcb hF hd1 hd2 hfl hT hta hda htu hdu hS
  go_wp2_with fail
  refine ((unhide KU1) _).mono ?_
  rintro e w5 ⟨rfl, rfl⟩
  go_wp2_with fail
  refine ((unhide KU2) _).mono ?_
  rintro e w5 ⟨rfl, rfl⟩
  clear KU1 KU2 yf y3
  go_upto_if 116 with (at_builtin; refine wpList_app1g row14Ty rfl _ _ rfl W1.heap.size (.slice Al nl cl) nl (rowC (Mk.rowPhdr s.x ++ Mk.rowInterp s.x)) rfl (unhide HS).row _ _ rfl (by simp) rfl (rowV_one (Mk.inRow s.x 1 0 nf 4096)) (by omega) (unhide HS).size ?_; intro A9 c9 w9 ho9 hg9 hat9; have HP := hide ((unhide HS).push (Mk.inRow s.x 1 0 nf 4096) ho9 hg9 hat9); clear ho9 hg9 hat9; have y3 := ((unhide Hx) _ (hW1 ▸ (unhide HP).below)).1.cell (i := 3) rfl)
  have HP1 : Hid (MaS (Mk.base s.x) W1 gf (some (gl, lastV s.x)) w9 (Mk.front2 s.x) (Mk.rowPhdr s.x ++ Mk.rowInterp s.x ++ Mk.rowFirst s.x) A9 (nl + 1) c9) := hide (by have h9 := unhide HP; rw [← unhide Hfl] at h9; exact h9)
  obtain ⟨bt, hbt⟩ : ∃ bt, decide (0 < s.x.text.length) = bt := ⟨_, rfl⟩
  rw [hbt]
  have Hbt := hide hbt
  clear HP hbt HS
  go_cut [8, 18] (fun bv ev wx => ∃ Al nl cl, bv = .slice Al nl cl ∧ nl ≤ 4 ∧ ev = .int .i64 ((Mk.out1 s.x).length : Nat) ∧ MaS (Mk.base s.x) W1 gf (some (gl, lastV s.x)) wx (Mk.front2 s.x) (Mk.rowPhdr s.x ++ Mk.rowInterp s.x ++ Mk.rowFirst s.x ++ Mk.rowText s.x) Al nl cl)
  case first =>
    cases bt
    case false =>
      have hit : Mk.isText s.x = false := by
        unfold Mk.isText
        have h9 := unhide Hbt
        rw [decide_eq_false_iff_not] at h9 ⊢
        omega
      have He := hide (show Mk.out1 s.x = Mk.front2 s.x ∧ Mk.rowText s.x = [] by unfold Mk.out1 Mk.rowText; rw [hit]; exact ⟨rfl, rfl⟩)
      clear hit
      go_wp2_with fail
      go_meet
      case rel => exact ⟨A9, _, c9, rfl, by omega, by rw [(unhide He).1, unhide Hfl], by rw [(unhide He).2, List.append_nil]; exact unhide HP1⟩
    case true =>
      have hit : Mk.isText s.x = true := by
        unfold Mk.isText
        have h9 := unhide Hbt
        rw [decide_eq_true_eq] at h9 ⊢
        omega
      have He := hide (show (Mk.out1 s.x).length = ta + s.x.text.length ∧ Mk.rowText s.x = [⟨1, 5, ta, Mk.base s.x + 65536, s.x.text.length, s.x.text.length, 4096⟩] by unfold Mk.out1 Mk.rowText; rw [hit, if_pos rfl, if_pos rfl, List.length_append]; exact ⟨by rw [← unhide Hta]; rfl, by rw [← unhide Hta]; rfl⟩)
      clear hit
      go_wp2_with (at_builtin; refine wpList_app1g row14Ty rfl _ _ rfl W1.heap.size (.slice A9 (nl + 1) c9) (nl + 1) (rowC (Mk.rowPhdr s.x ++ Mk.rowInterp s.x ++ Mk.rowFirst s.x)) rfl (unhide HP1).row _ _ rfl (by simp) rfl (rowV_one ((⟨1, 5, ta, Mk.base s.x + 65536, s.x.text.length, s.x.text.length, 4096⟩ : Mk.Row))) (by omega) (unhide HP1).size ?_; intro A9 c9 w9 ho9 hg9 hat9; have HP := hide ((unhide HP1).push ((⟨1, 5, ta, Mk.base s.x + 65536, s.x.text.length, s.x.text.length, 4096⟩ : Mk.Row)) ho9 hg9 hat9); clear ho9 hg9 hat9; have y3 := ((unhide Hx) _ (hW1 ▸ (unhide HP).below)).1.cell (i := 3) rfl)
      go_meet
      case rel => exact ⟨A9, _, _, rfl, by omega, by rw [(unhide He).1]; rfl, by rw [(unhide He).2]; exact unhide HP⟩
  case rest =>
    obtain ⟨Al, nl, cl, rfl, hnl2, rfl, hS⟩ := hcut
    have hcb := ((unhide Hx) _ (hW1 ▸ hS.below)).1
    have y4 := hcb.cell (i := 4) rfl
    have y5 := hcb.cell (i := 5) rfl
    have HS2 := hide hS
    obtain ⟨o1, ho1⟩ : ∃ o1, (Mk.out1 s.x).length = o1 := ⟨_, rfl⟩
    rw [ho1]
    have ho1b : o1 ≤ 100100000 := by
      have h1 := data_up s.x
      have h2 : Mk.dataAt s.x = (Mk.pad 4096 (Mk.out1 s.x)).length := rfl
      rw [pad_len] at h2
      have h3 := unhide Hda
      omega
    have Ho1 := hide ho1
    have Hda4 := hide (show (s.x.data.length : Int) ≤ 1048576 by omega)
    clear hcb hS ho1 y3 HP1 Hbt
    go_upto_region 26 with fail
    go_cut [146] (fun v wx => v = .bool (Mk.isData s.x) ∧ wx = wc)
    case first =>
      by_cases c1 : 0 < s.x.data.length
      · have c1i : decide (0 < s.x.data.length) = true := decide_eq_true c1
        have He := hide (show Mk.isData s.x = true by unfold Mk.isData; simp [c1])
        clear c1
        go_wp2_with fail
        go_meet
        case rel => exact ⟨by rw [unhide He], rfl⟩
      · have c1i : decide (0 < s.x.data.length) = false := decide_eq_false c1
        by_cases c2 : 0 < s.x.more
        · have c2i : decide (0 < s.x.more) = true := decide_eq_true c2
          have He := hide (show Mk.isData s.x = true by unfold Mk.isData; simp [c2])
          clear c1 c2
          go_wp2_with fail
          go_meet
          case rel => exact ⟨by rw [unhide He], rfl⟩
        · have c2i : decide (0 < s.x.more) = false := decide_eq_false c2
          have He := hide (show Mk.isData s.x = false by unfold Mk.isData; simp [c1, c2])
          clear c1 c2
          go_wp2_with fail
          go_meet
          case rel => exact ⟨by rw [unhide He], rfl⟩
    case rest =>
      obtain ⟨rfl, rfl⟩ := hcut
      obtain ⟨bd, hbd⟩ : ∃ bd, Mk.isData s.x = bd := ⟨_, rfl⟩
      rw [hbd]
      have Hbd := hide hbd
      clear hbd
      go_upto_if 146 with fail
      go_cut [8, 18] (fun bv ev wx => ∃ Al nl cl, bv = .slice Al nl cl ∧ nl ≤ 5 ∧ ev = .int .i64 ((Mk.out2 s.x).length : Nat) ∧ MaS (Mk.base s.x) W1 gf (some (gl, lastV s.x)) wx (Mk.front2 s.x) (Mk.rowPhdr s.x ++ Mk.rowInterp s.x ++ Mk.rowFirst s.x ++ Mk.rowText s.x ++ Mk.rowData s.x) Al nl cl)
      case first =>
        cases bd
        case false =>
          have He := hide (show Mk.out2 s.x = Mk.out1 s.x ∧ Mk.rowData s.x = [] by unfold Mk.out2 Mk.rowData; rw [unhide Hbd]; exact ⟨rfl, rfl⟩)
          go_wp2_with fail
          go_meet
          case rel => exact ⟨Al, _, cl, rfl, by omega, by rw [(unhide He).1, unhide Ho1], by rw [(unhide He).2, List.append_nil]; exact unhide HS2⟩
        case true =>
          have He := hide (show (Mk.out2 s.x).length = da + s.x.data.length ∧ Mk.rowData s.x = [⟨1, 6, da, Mk.base s.x + 131072, s.x.data.length, s.x.data.length + s.x.more, 4096⟩] by unfold Mk.out2 Mk.rowData; rw [unhide Hbd, if_pos rfl, if_pos rfl, List.length_append]; exact ⟨by rw [← unhide Hda]; rfl, by rw [← unhide Hda]; rfl⟩)
          go_wp2_with (at_builtin; refine wpList_app1g row14Ty rfl _ _ rfl W1.heap.size (.slice Al nl cl) nl (rowC (Mk.rowPhdr s.x ++ Mk.rowInterp s.x ++ Mk.rowFirst s.x ++ Mk.rowText s.x)) rfl (unhide HS2).row _ _ rfl (by simp) rfl (rowV_one ((⟨1, 6, da, Mk.base s.x + 131072, s.x.data.length, s.x.data.length + s.x.more, 4096⟩ : Mk.Row))) (by omega) (unhide HS2).size ?_; intro A9 c9 w9 ho9 hg9 hat9; have HP := hide ((unhide HS2).push ((⟨1, 6, da, Mk.base s.x + 131072, s.x.data.length, s.x.data.length + s.x.more, 4096⟩ : Mk.Row)) ho9 hg9 hat9); clear ho9 hg9 hat9; have y4 := ((unhide Hx) _ (hW1 ▸ (unhide HP).below)).1.cell (i := 4) rfl)
          go_meet
          case rel => exact ⟨A9, _, _, rfl, by omega, by rw [(unhide He).1]; rfl, by rw [(unhide He).2]; exact unhide HP⟩
      case rest =>
        obtain ⟨Al, nl, cl, rfl, hnl3, rfl, hS⟩ := hcut
        have hcb := ((unhide Hx) _ (hW1 ▸ hS.below)).1
        have y6 := hcb.cell (i := 6) rfl
        rw [unhide Hdy] at y6
        have HS3 := hide hS
        obtain ⟨o2, ho2⟩ : ∃ o2, (Mk.out2 s.x).length = o2 := ⟨_, rfl⟩
        rw [ho2]
        have ho2b : o2 ≤ 102000000 := by
          have h1 := out2_len s.x
          rw [ho2] at h1
          have h2 := unhide Hda
          have h3 := unhide Hta
          have h4 := unhide Hfl
          split at h1
          · omega
          · split at h1 <;> omega
        have Ho2 := hide ho2
        have Hrl := hide (rows_len s.x)
        clear hcb hS ho2 y4 y5 HS2 Hbd
        go_upto_if 172 with fail
        go_cut [8] (fun bv wx => ∃ Al cl, bv = .slice Al (Mk.many s.x) cl ∧ MaS (Mk.base s.x) W1 gf (some (gl, lastV s.x)) wx (Mk.front2 s.x) (Mk.rows s.x) Al (Mk.many s.x) cl)
        case first =>
          cases dy
          case false =>
            have He : Hid (Mk.rows s.x = Mk.rowPhdr s.x ++ Mk.rowInterp s.x ++ Mk.rowFirst s.x ++ Mk.rowText s.x ++ Mk.rowData s.x) := hide (by unfold Mk.rows Mk.rowDyn; rw [unhide Hdy, if_neg (by decide), List.append_nil])
            have hnq : nl = Mk.many s.x := by rw [← unhide Hrl, unhide He]; exact (unhide HS3).len
            subst hnq
            go_wp2_with fail
            go_meet
            case rel => exact ⟨Al, cl, rfl, by rw [unhide He]; exact unhide HS3⟩
          case true =>
            have hr := lastV_dyn (unhide Hdy)
            obtain ⟨rd, hrd⟩ : ∃ rd, Mk.inRow s.x 2 (Mk.pad 8 (Mk.front1 s.x)).length (Mk.room s.x) 8 = rd := ⟨_, rfl⟩
            rw [hrd] at hr
            have He : Hid (Mk.rows s.x = Mk.rowPhdr s.x ++ Mk.rowInterp s.x ++ Mk.rowFirst s.x ++ Mk.rowText s.x ++ Mk.rowData s.x ++ [rd]) := hide (by unfold Mk.rows Mk.rowDyn; rw [unhide Hdy, if_pos rfl, hrd])
            have hnq : Mk.many s.x = nl + 1 := by rw [← unhide Hrl, unhide He, List.length_append]; exact congrArg (· + 1) (unhide HS3).len.symm
            have Hnq := hide hnq
            have hbl := ((unhide HS3).last _ rfl).1
            rw [hr] at hbl
            have z0 := hbl.cell (i := 0) rfl
            have z1 := hbl.cell (i := 1) rfl
            have z2 := hbl.cell (i := 2) rfl
            have z3 := hbl.cell (i := 3) rfl
            have z4 := hbl.cell (i := 4) rfl
            have z5 := hbl.cell (i := 5) rfl
            have z6 := hbl.cell (i := 6) rfl
            clear hbl hr hrd hnq
            go_wp2_with (at_builtin; refine wpList_app1g row14Ty rfl _ _ rfl W1.heap.size (.slice Al nl cl) nl (rowC (Mk.rowPhdr s.x ++ Mk.rowInterp s.x ++ Mk.rowFirst s.x ++ Mk.rowText s.x ++ Mk.rowData s.x)) rfl (unhide HS3).row _ _ rfl (by simp) rfl (rowV_one (rd)) (by omega) (unhide HS3).size ?_; intro A9 c9 w9 ho9 hg9 hat9; have HP := hide ((unhide HS3).push (rd) ho9 hg9 hat9); clear ho9 hg9 hat9)
            go_meet
            case rel => exact ⟨A9, c9, by rw [unhide Hnq], by rw [unhide He, unhide Hnq]; exact unhide HP⟩
        case rest =>
          obtain ⟨Al, cl, rfl, hS⟩ := hcut
          go_step
          exact rmakeC s B w W1 wc gf gl cl Al hB Hf Hb1 hW1 Hx hb4 HM Hmay nf ta da o2 hnf htb hdb ho2b htx6 hmo6 Hta Hda Hfl Ho2 hS _ _ _ _ _ _ _ _ _ _ _ _ _ _ _ _ _ _ _ _ _ _ _ _ _ _ _ _ _ _ _ _ _ _ _ _ _ _ _ _ _ _ _ _ _ _ _ _ _ _ _ _ _ _ _ _ _ _ _ _ _ _ _ _ _ _ _ _ _ _ _ _ _ _ _ _ _ _ _ _ _ _ _ _ _ _ _ _ _ _ _ _ _ _ _ _ _ _ _ _ _ _ _ _ _ _ _ _ _ _ _ _ _ _ _ _ _ _ _ _ _ _ _ _ _ _ _ _ _ _ _ _ _ _ _ _ _ _ _ _ _ _ _ _ _ _ _ _ _ _ _ _ _ _ _ _ _ _ _ _ _ _ _ _ _ _ _ _ _ _ _ _ _ _ _ _ _ _ _ _ _ _ _ _ _ _ _ _ _ _ _ _ _ _ _ _ _ _ _ _ _ _ _ _ _ _ _ _ _ _
end Go.Proofs.YtnbecdahfgkffaaGreat
namespace Go.Proofs.YtnbecdahfgkffaaGreat
open Go.RowKit
set_option maxRecDepth 100000 in
set_option maxHeartbeats 2000000 in
theorem same0m_any (A1 A2 A3 : Option Addr) (c1 c2 c3 : Nat) (w : World) : Calls Tryz.prog 21 #[.agg #[.slice A1 0 c1, .string ⟨#[]⟩, .string ⟨#[]⟩, .slice A2 0 c2, .slice A3 0 c3], .agg #[.slice none 0 0, .string ⟨#[]⟩, .string ⟨#[]⟩, .slice none 0 0, .slice none 0 0]] w fun e w' => e = .returned (.bool true) ∧ Below w.heap.size w w' := by
  have e1 : (w.alloc (.cells #[.slice A1 0 c1, .string ⟨#[]⟩, .string ⟨#[]⟩, .slice A2 0 c2, .slice A3 0 c3] 29)).heap.size = w.heap.size + 1 := by simp
  have hB : Below w.heap.size w ((w.alloc (.cells #[.slice A1 0 c1, .string ⟨#[]⟩, .string ⟨#[]⟩, .slice A2 0 c2, .slice A3 0 c3] 29)).alloc (.cells #[.slice none 0 0, .string ⟨#[]⟩, .string ⟨#[]⟩, .slice none 0 0, .slice none 0 0] 29)) := ((Below.refl _ _).alloc (Nat.le_refl _) _).alloc (by rw [e1]; omega) _
  have hx := (Blk.new w 29 [.slice A1 0 c1, .string ⟨#[]⟩, .string ⟨#[]⟩, .slice A2 0 c2, .slice A3 0 c3]).alloc (.cells #[.slice none 0 0, .string ⟨#[]⟩, .string ⟨#[]⟩, .slice none 0 0, .slice none 0 0] 29)
  have hy := Blk.new (w.alloc (.cells #[.slice A1 0 c1, .string ⟨#[]⟩, .string ⟨#[]⟩, .slice A2 0 c2, .slice A3 0 c3] 29)) 29 [.slice none 0 0, .string ⟨#[]⟩, .string ⟨#[]⟩, .slice none 0 0, .slice none 0 0]
  rw [e1] at hy
  obtain ⟨x0, x1, x2, x3, x4⟩ := And.intro (hx.cell (i := 0) rfl) (And.intro (hx.cell (i := 1) rfl) (And.intro (hx.cell (i := 2) rfl) (And.intro (hx.cell (i := 3) rfl) (hx.cell (i := 4) rfl))))
  obtain ⟨y0, y1, y2, y3, y4⟩ := And.intro (hy.cell (i := 0) rfl) (And.intro (hy.cell (i := 1) rfl) (And.intro (hy.cell (i := 2) rfl) (And.intro (hy.cell (i := 3) rfl) (hy.cell (i := 4) rfl))))
  have KE := hide (eqTexts_any A1 none 0 0 c1 0 0 [] [] ((w.alloc (.cells #[.slice A1 0 c1, .string ⟨#[]⟩, .string ⟨#[]⟩, .slice A2 0 c2, .slice A3 0 c3] 29)).alloc (.cells #[.slice none 0 0, .string ⟨#[]⟩, .string ⟨#[]⟩, .slice none 0 0, .slice none 0 0] 29)) (Rd.none_ _ _ _ _) (Rd.none_ _ _ _ _) (Nat.zero_le _) (Nat.zero_le _))
  have HX := hide hx
  have HY := hide hy
  have HB := hide hB
  clear hx hy hB e1
  go_enter Tryz.func21, Tryz.ntmps21
  go_wp2_with fail
  refine (unhide KE).mono ?_
  rintro e w1 ⟨rfl, j, rfl⟩
  have hx := (unhide HX).drewN j
  have hy := (unhide HY).drewN j
  have hb := below_drewN' (unhide HB) j
  obtain ⟨V, hV⟩ : ∃ V, ((w.alloc (.cells #[.slice A1 0 c1, .string ⟨#[]⟩, .string ⟨#[]⟩, .slice A2 0 c2, .slice A3 0 c3] 29)).alloc (.cells #[.slice none 0 0, .string ⟨#[]⟩, .string ⟨#[]⟩, .slice none 0 0, .slice none 0 0] 29)).drewN j = V := ⟨_, rfl⟩
  rw [hV] at hx hy hb
  rw [hV]
  clear x0 x1 x2 x3 x4 y0 y1 y2 y3 y4 hV HX HY HB KE
  obtain ⟨x3, x4⟩ := And.intro (hx.cell (i := 3) rfl) (hx.cell (i := 4) rfl)
  obtain ⟨y3, y4⟩ := And.intro (hy.cell (i := 3) rfl) (hy.cell (i := 4) rfl)
  have HB := hide hb
  clear hx hy hb
  go_wp2_with fail
  go_loopg [5] 0 (fun gk iv wr => gk = 0 ∧ iv = .int .i64 0 ∧ V = wr)
  case atStart => exact ⟨rfl, rfl, rfl⟩
  case round =>
  obtain ⟨hgk, rfl, rfl⟩ := hrel
  go_wp2_with fail
  go_loopg [6] 0 (fun gk iv wr => gk = 0 ∧ iv = .int .i64 0 ∧ V = wr)
  case atStart => exact ⟨rfl, rfl, rfl⟩
  case round =>
  obtain ⟨hgk, rfl, rfl⟩ := hrel
  go_wp2_with fail
  go_ret
  exact ⟨rfl, unhide HB⟩
set_option maxRecDepth 100000 in
set_option maxHeartbeats 4000000 in
theorem rsameZ_any (A1 A2 A3 : Option Addr) (c1 c2 c3 nd sy re : Nat) (nl : List ByteArray) (so ru : ByteArray) (B : Nat) (w : World) (hB : B ≤ w.heap.size) (hnl : nl.length = nd) (hnd : nd ≤ 4294967296) (hsy : sy ≤ 4294967296) (hre : re ≤ 4294967296) (hn : Rd w B 1 A1 nd (nl.map Value.string)) :
    Calls Tryz.prog 21 #[.agg #[.slice A1 nd c1, .string so, .string ru, .slice A2 sy c2, .slice A3 re c3], .agg #[.slice none 0 0, .string ⟨#[]⟩, .string ⟨#[]⟩, .slice none 0 0, .slice none 0 0]] w fun e w' => e = .returned (.bool (decide (nd + sy + re = 0) && (decide (so.size = 0) && decide (ru.size = 0)))) ∧ Below w.heap.size w w' := by
  by_cases hz : (nd = 0 ∧ sy = 0 ∧ re = 0) ∧ so.size = 0 ∧ ru.size = 0
  · obtain ⟨⟨rfl, rfl, rfl⟩, h1, h2⟩ := hz
    obtain rfl : so = ⟨#[]⟩ := by cases so with | mk d => have : d = #[] := Array.eq_empty_of_size_eq_zero h1; rw [this]
    obtain rfl : ru = ⟨#[]⟩ := by cases ru with | mk d => have : d = #[] := Array.eq_empty_of_size_eq_zero h2; rw [this]
    exact same0m_any A1 A2 A3 c1 c2 c3 w
  have hres : (decide (nd + sy + re = 0) && (decide (so.size = 0) && decide (ru.size = 0))) = false := by
    rw [Bool.and_eq_false_iff, Bool.and_eq_false_iff, decide_eq_false_iff_not, decide_eq_false_iff_not, decide_eq_false_iff_not]
    by_cases a : nd + sy + re = 0
    · by_cases b : so.size = 0
      · right; right; intro c; exact hz ⟨⟨by omega, by omega, by omega⟩, b, c⟩
      · right; left; exact b
    · left; exact a
  rw [hres]
  have e1 : (w.alloc (.cells #[.slice A1 nd c1, .string so, .string ru, .slice A2 sy c2, .slice A3 re c3] 29)).heap.size = w.heap.size + 1 := by simp
  have hB2 : Below w.heap.size w ((w.alloc (.cells #[.slice A1 nd c1, .string so, .string ru, .slice A2 sy c2, .slice A3 re c3] 29)).alloc (.cells #[.slice none 0 0, .string ⟨#[]⟩, .string ⟨#[]⟩, .slice none 0 0, .slice none 0 0] 29)) := ((Below.refl _ _).alloc (Nat.le_refl _) _).alloc (by rw [e1]; omega) _
  have hx := (Blk.new w 29 [.slice A1 nd c1, .string so, .string ru, .slice A2 sy c2, .slice A3 re c3]).alloc (.cells #[.slice none 0 0, .string ⟨#[]⟩, .string ⟨#[]⟩, .slice none 0 0, .slice none 0 0] 29)
  have hy := Blk.new (w.alloc (.cells #[.slice A1 nd c1, .string so, .string ru, .slice A2 sy c2, .slice A3 re c3] 29)) 29 [.slice none 0 0, .string ⟨#[]⟩, .string ⟨#[]⟩, .slice none 0 0, .slice none 0 0]
  rw [e1] at hy
  obtain ⟨x0, x1, x2, x3, x4⟩ := And.intro (hx.cell (i := 0) rfl) (And.intro (hx.cell (i := 1) rfl) (And.intro (hx.cell (i := 2) rfl) (And.intro (hx.cell (i := 3) rfl) (hx.cell (i := 4) rfl))))
  obtain ⟨y0, y1, y2, y3, y4⟩ := And.intro (hy.cell (i := 0) rfl) (And.intro (hy.cell (i := 1) rfl) (And.intro (hy.cell (i := 2) rfl) (And.intro (hy.cell (i := 3) rfl) (hy.cell (i := 4) rfl))))
  have KE := hide (eqTexts_any A1 none nd 0 c1 0 B nl [] ((w.alloc (.cells #[.slice A1 nd c1, .string so, .string ru, .slice A2 sy c2, .slice A3 re c3] 29)).alloc (.cells #[.slice none 0 0, .string ⟨#[]⟩, .string ⟨#[]⟩, .slice none 0 0, .slice none 0 0] 29)) (hn.below (hB2.mono hB)) (Rd.none_ _ _ _ _) (by unfold maxLen; omega) (Nat.zero_le _))
  have HX := hide hx
  have HY := hide hy
  have HB := hide hB2
  have Hz := hide hz
  have Hnl := hide hnl
  clear hx hy hB2 e1 hres hn hz hnl
  by_cases ha : so.size = 0
  case neg =>
    have hq := toList_some ha
    clear ha
    go_enter Tryz.func21, Tryz.ntmps21
    go_wp2_with fail
    go_ret
    exact ⟨rfl, unhide HB⟩
  have hq := toList_empty ha
  have Ha := hide ha
  clear ha
  by_cases hb : ru.size = 0
  case neg =>
    have hq2 := toList_some hb
    clear hb
    go_enter Tryz.func21, Tryz.ntmps21
    go_wp2_with fail
    go_ret
    exact ⟨rfl, unhide HB⟩
  have hq2 := toList_empty hb
  have Hb := hide hb
  clear hb
  go_enter Tryz.func21, Tryz.ntmps21
  go_wp2_with fail
  refine (unhide KE).mono ?_
  rintro e w1 ⟨rfl, j, rfl⟩
  have hx := (unhide HX).drewN j
  have hy := (unhide HY).drewN j
  have hb := below_drewN' (unhide HB) j
  obtain ⟨V, hV⟩ : ∃ V, ((w.alloc (.cells #[.slice A1 nd c1, .string so, .string ru, .slice A2 sy c2, .slice A3 re c3] 29)).alloc (.cells #[.slice none 0 0, .string ⟨#[]⟩, .string ⟨#[]⟩, .slice none 0 0, .slice none 0 0] 29)).drewN j = V := ⟨_, rfl⟩
  rw [hV] at hx hy hb
  rw [hV]
  clear x0 x1 x2 x3 x4 y0 y1 y2 y3 y4 hV HX HY HB KE
  obtain ⟨x3, x4⟩ := And.intro (hx.cell (i := 3) rfl) (hx.cell (i := 4) rfl)
  obtain ⟨y3, y4⟩ := And.intro (hy.cell (i := 3) rfl) (hy.cell (i := 4) rfl)
  have HB := hide hb
  clear hx hy hb
  by_cases hnn : nd = 0
  case neg =>
    have hd : decide (nl = []) = false := by rw [decide_eq_false_iff_not]; intro e; have := unhide Hnl; rw [e] at this; exact hnn this.symm
    have hd2 : nl ≠ [] := of_decide_eq_false hd
    clear hnn
    go_wp2_with fail
    go_ret
    exact ⟨rfl, unhide HB⟩
  have hd : nl = [] := List.eq_nil_of_length_eq_zero (by rw [unhide Hnl]; exact hnn)
  subst hd
  have Hnn := hide hnn
  clear hnn
  by_cases hs : sy = 0
  case neg =>
    have hq3 : ((sy : Int) != 0) = true := by rw [bne_iff_ne]; omega
    have hq4 : ¬ sy = 0 := hs
    clear hs
    go_wp2_with fail
    go_ret
    exact ⟨rfl, unhide HB⟩
  have hr : ¬ re = 0 := fun e => (unhide Hz) ⟨⟨unhide Hnn, hs, e⟩, unhide Ha, unhide Hb⟩
  have hq3 : ((sy : Int) != 0) = false := by rw [hs]; rfl
  have hq5 : ((re : Int) != 0) = true := by rw [bne_iff_ne]; omega
  clear hs
  go_wp2_with fail
  go_ret
  exact ⟨rfl, unhide HB⟩
end Go.Proofs.YtnbecdahfgkffaaGreat
namespace Go.Proofs.YtnbecdahfgkffaaGreat
open Go.RowKit
set_option maxRecDepth 100000 in
theorem rbase14_any (k : Nat) (w : World) : Calls Tryz.prog 18 #[.int .u16 k] w fun e w' => e = .returned (.int .u64 (if k = 2 then 4194304 else 0 : Nat)) ∧ w = w' := by
  by_cases h : k = 2
  · subst h
    go_enter Tryz.func18, Tryz.ntmps18
    go_wp2_with fail
    go_ret
    exact ⟨rfl, rfl⟩
  · have h1 : (((k : Nat) : Int) == 2) = false := by rw [beq_eq_false_iff_ne]; omega
    rw [if_neg h]
    clear h
    go_enter Tryz.func18, Tryz.ntmps18
    go_wp2_with fail
    go_ret
    exact ⟨rfl, rfl⟩
set_option maxRecDepth 100000 in
set_option maxHeartbeats 8000000 in
theorem rmay14_any (s : Xq) (B : Nat) (w : World) (hB : B ≤ w.heap.size) (h : XqM w B s) (ho : XqOk s) :
    Calls Tryz.prog 33 #[.agg s.l.toArray] w fun e w' => e = .returned (.int .i64 (Mk.may s.x)) ∧ Below w.heap.size w w' := by
  have hb1 : Below w.heap.size w (w.alloc (.cells #[.int .u16 (s.x.type : Nat), .int .u64 (s.x.entry : Nat), .string s.x.interp, .slice s.At s.x.text.length s.ct, .slice s.Ad s.x.data.length s.cd, .int .u64 (s.x.more : Nat), .bool s.x.dynamic, .slice s.A1 s.x.dyn.needed.length s.c1, .string s.x.dyn.soname, .string s.x.dyn.run, .slice s.A2 s.x.dyn.syms.length s.c2, .slice s.A3 s.x.dyn.relas.length s.c3, .int .i64 s.x.apart] 31)) := (Below.refl _ _).alloc (Nat.le_refl _) _
  have hbl := Blk.new w 31 s.l
  have hty := ho.type
  have hen := ho.entry
  have hmo := ho.more
  have hte := ho.text
  have hin := ho.interp
  have KB := hide (fun W => rbase14_any s.x.type W)
  have Hb1 := hide hb1
  have hxm := h.below (hb1.mono hB)
  have Hx : Hid (∀ W, Below (w.heap.size + 1) (w.alloc (.cells #[.int .u16 (s.x.type : Nat), .int .u64 (s.x.entry : Nat), .string s.x.interp, .slice s.At s.x.text.length s.ct, .slice s.Ad s.x.data.length s.cd, .int .u64 (s.x.more : Nat), .bool s.x.dynamic, .slice s.A1 s.x.dyn.needed.length s.c1, .string s.x.dyn.soname, .string s.x.dyn.run, .slice s.A2 s.x.dyn.syms.length s.c2, .slice s.A3 s.x.dyn.relas.length s.c3, .int .i64 s.x.apart] 31)) W → Blk W w.heap.size 31 s.l ∧ XqM W B s) := hide (fun W hW => ⟨Blk.below (show Blk (w.alloc (.cells #[.int .u16 (s.x.type : Nat), .int .u64 (s.x.entry : Nat), .string s.x.interp, .slice s.At s.x.text.length s.ct, .slice s.Ad s.x.data.length s.cd, .int .u64 (s.x.more : Nat), .bool s.x.dynamic, .slice s.A1 s.x.dyn.needed.length s.c1, .string s.x.dyn.soname, .string s.x.dyn.run, .slice s.A2 s.x.dyn.syms.length s.c2, .slice s.A3 s.x.dyn.relas.length s.c3, .int .i64 s.x.apart] 31)) w.heap.size 31 s.l from hbl) hW (by omega), hxm.below (hW.mono (by omega))⟩)
  have HE1 := hide (show (w.alloc (.cells #[.int .u16 (s.x.type : Nat), .int .u64 (s.x.entry : Nat), .string s.x.interp, .slice s.At s.x.text.length s.ct, .slice s.Ad s.x.data.length s.cd, .int .u64 (s.x.more : Nat), .bool s.x.dynamic, .slice s.A1 s.x.dyn.needed.length s.c1, .string s.x.dyn.soname, .string s.x.dyn.run, .slice s.A2 s.x.dyn.syms.length s.c2, .slice s.A3 s.x.dyn.relas.length s.c3, .int .i64 s.x.apart] 31)).heap.size = w.heap.size + 1 by simp)
  have Hbr := hide (Below.refl (w.heap.size + 1) (w.alloc (.cells #[.int .u16 (s.x.type : Nat), .int .u64 (s.x.entry : Nat), .string s.x.interp, .slice s.At s.x.text.length s.ct, .slice s.Ad s.x.data.length s.cd, .int .u64 (s.x.more : Nat), .bool s.x.dynamic, .slice s.A1 s.x.dyn.needed.length s.c1, .string s.x.dyn.soname, .string s.x.dyn.run, .slice s.A2 s.x.dyn.syms.length s.c2, .slice s.A3 s.x.dyn.relas.length s.c3, .int .i64 s.x.apart] 31)))
  have Ho := hide ho
  have hb4 : Mk.base s.x ≤ 4194304 := by unfold Mk.base; split <;> omega
  have Hbase := hide (show Mk.base s.x = (if s.x.type = 2 then 4194304 else 0) from rfl)
  obtain ⟨a0, a1, a2, a3, a4, a5, a6, a7, a8, a9, a10, a11, a12⟩ := spec_cells ((unhide Hx) _ (unhide Hbr)).1
  show Calls _ _ #[.agg #[.int .u16 (s.x.type : Nat), .int .u64 (s.x.entry : Nat), .string s.x.interp, .slice s.At s.x.text.length s.ct, .slice s.Ad s.x.data.length s.cd, .int .u64 (s.x.more : Nat), .bool s.x.dynamic, .slice s.A1 s.x.dyn.needed.length s.c1, .string s.x.dyn.soname, .string s.x.dyn.run, .slice s.A2 s.x.dyn.syms.length s.c2, .slice s.A3 s.x.dyn.relas.length s.c3, .int .i64 s.x.apart]] w _
  clear hb1 hbl hxm h ho
  go_enter Tryz.func33, Tryz.ntmps33
  go_wp2_with fail
  generalize (w.alloc (.cells #[.int .u16 (s.x.type : Nat), .int .u64 (s.x.entry : Nat), .string s.x.interp, .slice s.At s.x.text.length s.ct, .slice s.Ad s.x.data.length s.cd, .int .u64 (s.x.more : Nat), .bool s.x.dynamic, .slice s.A1 s.x.dyn.needed.length s.c1, .string s.x.dyn.soname, .string s.x.dyn.run, .slice s.A2 s.x.dyn.syms.length s.c2, .slice s.A3 s.x.dyn.relas.length s.c3, .int .i64 s.x.apart] 31)) = W1 at *
  refine ((unhide KB) _).mono ?_
  rintro e w1 ⟨rfl, rfl⟩
  rw [← unhide Hbase]
  have Hwi := hide (show Mk.within s.x = (decide (Mk.base s.x + 65536 ≤ s.x.entry) && decide (s.x.entry - (Mk.base s.x + 65536) < s.x.text.length)) from rfl)
  generalize Mk.base s.x = bs at *
  clear KB
  go_upto_region 2 with fail
  go_cut [4] (fun v wx => v = .bool (Mk.within s.x) ∧ wx = W1)
  case first => as_aux_lemma =>
    by_cases c1 : bs + 65536 ≤ s.x.entry
    · have c1i : ((bs : Int) + 65536 ≤ (s.x.entry : Int)) := by omega
      have c3 : (s.x.entry : Int) - ((bs : Int) + 65536) = ((s.x.entry - (bs + 65536) : Nat) : Int) := by omega
      have c4 : Mk.within s.x = decide (s.x.entry - (bs + 65536) < s.x.text.length) := by rw [unhide Hwi, decide_eq_true c1, Bool.true_and]
      obtain ⟨d, hd⟩ : ∃ d, s.x.entry - (bs + 65536) = d := ⟨_, rfl⟩
      rw [hd] at c3 c4
      have hdl : d < 18446744073709551616 := by omega
      have Hc4 := hide c4
      clear hd c4
      go_wp2_with fail
      go_meet
      case rel => exact ⟨by rw [unhide Hc4], rfl⟩
    · have c1i : ¬ ((bs : Int) + 65536 ≤ (s.x.entry : Int)) := by omega
      have c4 : Mk.within s.x = false := by rw [unhide Hwi, decide_eq_false c1, Bool.false_and]
      have Hc4 := hide c4
      clear c4
      go_wp2_with fail
      go_meet
      case rel => exact ⟨by rw [unhide Hc4], rfl⟩
  case rest =>
    obtain ⟨rfl, rfl⟩ := hcut
    have Hb1d := hide (show Mk.bad1 s.x = ((!(decide (s.x.type = 2) || decide (s.x.type = 3))) || !(Mk.within s.x || (decide (s.x.type = 3) && decide (s.x.entry = 0))) || (decide (s.x.interp.size ≠ 0) && decide (Pth.chk s.x.interp ≠ 0))) from rfl)
    generalize Mk.within s.x = wi at *
    have hchk : Hid (∀ W, Calls Tryz.prog 81 #[.string s.x.interp] W fun e w' => e = .returned (.int .i64 (Pth.chk s.x.interp)) ∧ Below W.heap.size W w') := hide (fun W => rcheck_any s.x.interp hin W)
    have hwc1 : w.heap.size + 1 ≤ wc.heap.size := by rw [unhide HE1]; exact Nat.le_refl _
    go_upto_region 3 with fail
    go_cut [62] (fun v wx => v = .bool (Mk.bad1 s.x) ∧ Below (w.heap.size + 1) wc wx)
    case first => as_aux_lemma =>
      by_cases c2 : s.x.type = 2
      · have q1 : ((s.x.type : Int) != 2) = false := by rw [c2]; rfl
        have q2 : ((s.x.type : Int) == 3) = false := by rw [c2]; rfl
        have He : Mk.bad1 s.x = (!wi || (decide (s.x.interp.size ≠ 0) && decide (Pth.chk s.x.interp ≠ 0))) := by
          rw [unhide Hb1d, c2]
          cases wi <;> simp
        have HE := hide He
        clear He c2
        cases wi
        · have HE2 := hide (show Mk.bad1 s.x = true by rw [unhide HE]; rfl)
          go_wp2_with fail
          go_meet
          case rel => exact ⟨by rw [unhide HE2], Below.refl _ _⟩
        · by_cases ci : s.x.interp.size = 0
          · have q3 := toList_empty ci
            have HE2 := hide (show Mk.bad1 s.x = false by rw [unhide HE]; simp [ci])
            clear ci
            go_wp2_with fail
            go_meet
            case rel => exact ⟨by rw [unhide HE2], Below.refl _ _⟩
          · have q3 := toList_some ci
            have HE2 := hide (show Mk.bad1 s.x = decide (Pth.chk s.x.interp ≠ 0) by rw [unhide HE]; simp [ci])
            clear ci
            go_wp2_with (go_at_call 81; refine ((unhide hchk) _).mono ?_; rintro e w5 ⟨rfl, hb5⟩; have Hb5 := hide hb5; clear hb5)
            go_meet
            case rel => exact ⟨by rw [unhide HE2]; congr 1; by_cases hc : Pth.chk s.x.interp = 0 <;> simp [hc], (unhide Hb5).mono hwc1⟩
      · have q1 : ((s.x.type : Int) != 2) = true := by rw [bne_iff_ne]; omega
        by_cases c3 : s.x.type = 3
        · have q2 : ((s.x.type : Int) != 3) = false := by rw [c3]; rfl
          have q2' : ((s.x.type : Int) == 3) = true := by rw [c3]; rfl
          by_cases c5 : wi = true ∨ s.x.entry = 0
          · have He : Mk.bad1 s.x = (decide (s.x.interp.size ≠ 0) && decide (Pth.chk s.x.interp ≠ 0)) := by
              rw [unhide Hb1d, c3]
              rcases c5 with c5 | c5 <;> simp [c5]
            have HE := hide He
            clear He c2 c3
            cases wi
            · have q4 : ((s.x.entry : Int) == 0) = true := by
                rcases c5 with c5 | c5
                · cases c5
                · rw [c5]; rfl
              clear c5
              by_cases ci : s.x.interp.size = 0
              · have q3 := toList_empty ci
                have HE2 := hide (show Mk.bad1 s.x = false by rw [unhide HE]; simp [ci])
                clear ci
                go_wp2_with fail
                go_meet
                case rel => exact ⟨by rw [unhide HE2], Below.refl _ _⟩
              · have q3 := toList_some ci
                have HE2 := hide (show Mk.bad1 s.x = decide (Pth.chk s.x.interp ≠ 0) by rw [unhide HE]; simp [ci])
                clear ci
                go_wp2_with (go_at_call 81; refine ((unhide hchk) _).mono ?_; rintro e w5 ⟨rfl, hb5⟩; have Hb5 := hide hb5; clear hb5)
                go_meet
                case rel => exact ⟨by rw [unhide HE2]; congr 1; by_cases hc : Pth.chk s.x.interp = 0 <;> simp [hc], (unhide Hb5).mono hwc1⟩
            · clear c5
              by_cases ci : s.x.interp.size = 0
              · have q3 := toList_empty ci
                have HE2 := hide (show Mk.bad1 s.x = false by rw [unhide HE]; simp [ci])
                clear ci
                go_wp2_with fail
                go_meet
                case rel => exact ⟨by rw [unhide HE2], Below.refl _ _⟩
              · have q3 := toList_some ci
                have HE2 := hide (show Mk.bad1 s.x = decide (Pth.chk s.x.interp ≠ 0) by rw [unhide HE]; simp [ci])
                clear ci
                go_wp2_with (go_at_call 81; refine ((unhide hchk) _).mono ?_; rintro e w5 ⟨rfl, hb5⟩; have Hb5 := hide hb5; clear hb5)
                go_meet
                case rel => exact ⟨by rw [unhide HE2]; congr 1; by_cases hc : Pth.chk s.x.interp = 0 <;> simp [hc], (unhide Hb5).mono hwc1⟩
          · have hwf : wi = false := by cases wi; rfl; exact absurd (Or.inl rfl) c5
            have hen0 : s.x.entry ≠ 0 := fun e => c5 (Or.inr e)
            have q4 : ((s.x.entry : Int) == 0) = false := by rw [beq_eq_false_iff_ne]; omega
            have HE : Hid (Mk.bad1 s.x = true) := hide (by rw [unhide Hb1d, c3, hwf]; simp [hen0])
            subst hwf
            clear c2 c3 c5 hen0
            have HE2 := hide (show Mk.bad1 s.x = true by exact unhide HE)
            go_wp2_with fail
            go_meet
            case rel => exact ⟨by rw [unhide HE2], Below.refl _ _⟩
        · have q2 : ((s.x.type : Int) != 3) = true := by rw [bne_iff_ne]; omega
          have HE : Hid (Mk.bad1 s.x = true) := hide (by rw [unhide Hb1d]; simp [c2, c3])
          clear c2 c3
          have HE2 := hide (show Mk.bad1 s.x = true by exact unhide HE)
          go_wp2_with fail
          go_meet
          case rel => exact ⟨by rw [unhide HE2], Below.refl _ _⟩
    case rest =>
      obtain ⟨rfl, hbc⟩ := hcut
      have Hmay := hide (show Mk.may s.x = (if Mk.bad1 s.x = true then 1 else if Mk.bad2 s.x = true then 1 else if Mk.bad s.x.dyn = true then 1 else if Mk.tooBig s.x = true then 12 else 0) from rfl)
      have HW := hide hbc
      clear hbc hchk hwc1
      generalize Mk.bad1 s.x = bd1 at *
      cases bd1
      · obtain ⟨x0, x1, x2, x3, x4, x5, x6, x7, x8, x9, x10, x11, x12⟩ := spec_cells ((unhide Hx) _ (unhide HW)).1
        have hxm := ((unhide Hx) _ (unhide HW)).2
        have hWs := (unhide HW).size
        rw [unhide HE1] at hWs
        go_upto_region 6 with fail
        have hbv : Below wc.heap.size wc (wc.alloc (.cells #[.slice s.A1 s.x.dyn.needed.length s.c1, .string s.x.dyn.soname, .string s.x.dyn.run, .slice s.A2 s.x.dyn.syms.length s.c2, .slice s.A3 s.x.dyn.relas.length s.c3] 29)) := (Below.refl _ _).alloc (Nat.le_refl _) _
        have hdb := Blk.new wc 29 [.slice s.A1 s.x.dyn.needed.length s.c1, .string s.x.dyn.soname, .string s.x.dyn.run, .slice s.A2 s.x.dyn.syms.length s.c2, .slice s.A3 s.x.dyn.relas.length s.c3]
        have hbx := ((unhide Hx) _ (unhide HW)).1.belowSz hbv
        have hvs : wc.heap.size < (wc.alloc (.cells #[.slice s.A1 s.x.dyn.needed.length s.c1, .string s.x.dyn.soname, .string s.x.dyn.run, .slice s.A2 s.x.dyn.syms.length s.c2, .slice s.A3 s.x.dyn.relas.length s.c3] 29)).heap.size := by simp
        have hxv := hxm.below (hbv.mono (by omega))
        have HBV := hide ((unhide HW).trans (hbv.mono hWs))
        generalize (wc.alloc (.cells #[.slice s.A1 s.x.dyn.needed.length s.c1, .string s.x.dyn.soname, .string s.x.dyn.run, .slice s.A2 s.x.dyn.syms.length s.c2, .slice s.A3 s.x.dyn.relas.length s.c3] 29)) = V at *
        generalize wc.heap.size = gd at *
        have HF : Hid (∀ W, Below V.heap.size V W → W.cell? ⟨w.heap.size, 12, none⟩ = some (.int .i64 s.x.apart) ∧ W.cell? ⟨gd, 4, none⟩ = some (.slice s.A3 s.x.dyn.relas.length s.c3)) := hide (fun W hW => ⟨(hbx.belowSz hW).cell (i := 12) rfl, (hdb.belowSz hW).cell (i := 4) rfl⟩)
        have z6 : V.cell? ⟨w.heap.size, 6, none⟩ = some (.bool s.x.dynamic) := hbx.cell (i := 6) rfl
        have z12 : V.cell? ⟨w.heap.size, 12, none⟩ = some (.int .i64 s.x.apart) := hbx.cell (i := 12) rfl
        have d0 := hdb.cell (i := 0) rfl
        have d1 := hdb.cell (i := 1) rfl
        have d2 := hdb.cell (i := 2) rfl
        have d3 := hdb.cell (i := 3) rfl
        have d4 := hdb.cell (i := 4) rfl
        have KS := hide (rsameZ_any s.A1 s.A2 s.A3 s.c1 s.c2 s.c3 s.x.dyn.needed.length s.x.dyn.syms.length s.x.dyn.relas.length s.x.dyn.needed s.x.dyn.soname s.x.dyn.run B V (by omega) rfl (unhide Ho).dyn.n1 (unhide Ho).dyn.n2 (unhide Ho).dyn.n3 hxv.dyn.needed)
        have Hem := hide (show Mk.empty s.x.dyn = (decide (s.x.dyn.needed.length + s.x.dyn.syms.length + s.x.dyn.relas.length = 0) && (decide (s.x.dyn.soname.size = 0) && decide (s.x.dyn.run.size = 0))) from rfl)
        have Hb2d := hide (show Mk.bad2 s.x = ((!s.x.dynamic && !Mk.empty s.x.dyn) || decide (s.x.apart < 0) || decide ((s.x.dyn.relas.length : Int) < s.x.apart)) from rfl)
        rw [← unhide Hem] at KS
        have HdB := hide hdb
        have HxB := hide hbx
        have HxV := hide hxv
        clear hbv hdb hbx hxv hxm HW x0 x1 x2 x3 x4 x5 x6 x7 x8 x9 x10 x11 x12 a0 a1 a2 a3 a4 a5 a6 a7 a8 a9 a10 a11 a12
        generalize Mk.empty s.x.dyn = em at *
        generalize hdy : s.x.dynamic = dy at *
        have Hdy := hide hdy
        clear hdy
        go_cut [86] (fun v wx => v = .bool (Mk.bad2 s.x) ∧ Below V.heap.size V wx)
        case first => as_aux_lemma =>
          cases dy
          · cases em
            · have HE2 := hide (show Mk.bad2 s.x = true by rw [unhide Hb2d]; simp)
              go_wp2_with (go_at_call 21; refine (unhide KS).mono ?_; rintro e w5 ⟨rfl, hb5⟩; obtain ⟨r12, r4⟩ := (unhide HF) _ hb5; have Hb5 := hide hb5; clear hb5)
              go_meet
              case rel => exact ⟨by rw [unhide HE2], unhide Hb5⟩
            · have HE := hide (show Mk.bad2 s.x = (decide (s.x.apart < 0) || decide ((s.x.dyn.relas.length : Int) < s.x.apart)) by rw [unhide Hb2d]; simp)
              by_cases ca : s.x.apart < 0
              · have HE2 := hide (show Mk.bad2 s.x = true by rw [unhide HE]; simp [ca])
                have Hca := hide ca
                go_wp2_with (go_at_call 21; refine (unhide KS).mono ?_; rintro e w5 ⟨rfl, hb5⟩; obtain ⟨r12, r4⟩ := (unhide HF) _ hb5; have Hb5 := hide hb5; clear hb5)
                go_meet
                case rel => exact ⟨by rw [unhide HE2], unhide Hb5⟩
              · by_cases cb : (s.x.dyn.relas.length : Int) < s.x.apart
                · have HE2 := hide (show Mk.bad2 s.x = true by rw [unhide HE]; simp [cb])
                  go_wp2_with (go_at_call 21; refine (unhide KS).mono ?_; rintro e w5 ⟨rfl, hb5⟩; obtain ⟨r12, r4⟩ := (unhide HF) _ hb5; have Hb5 := hide hb5; clear hb5)
                  go_meet
                  case rel => exact ⟨by rw [unhide HE2], unhide Hb5⟩
                · have HE2 := hide (show Mk.bad2 s.x = false by rw [unhide HE]; simp [ca, cb])
                  go_wp2_with (go_at_call 21; refine (unhide KS).mono ?_; rintro e w5 ⟨rfl, hb5⟩; obtain ⟨r12, r4⟩ := (unhide HF) _ hb5; have Hb5 := hide hb5; clear hb5)
                  go_meet
                  case rel => exact ⟨by rw [unhide HE2]; (try simp [ca, cb]), unhide Hb5⟩
          · have HE := hide (show Mk.bad2 s.x = (decide (s.x.apart < 0) || decide ((s.x.dyn.relas.length : Int) < s.x.apart)) by rw [unhide Hb2d]; simp)
            by_cases ca : s.x.apart < 0
            · have HE2 := hide (show Mk.bad2 s.x = true by rw [unhide HE]; simp [ca])
              have Hca := hide ca
              go_wp2_with fail
              go_meet
              case rel => exact ⟨by rw [unhide HE2], Below.refl _ _⟩
            · by_cases cb : (s.x.dyn.relas.length : Int) < s.x.apart
              · have HE2 := hide (show Mk.bad2 s.x = true by rw [unhide HE]; simp [cb])
                go_wp2_with fail
                go_meet
                case rel => exact ⟨by rw [unhide HE2], Below.refl _ _⟩
              · have HE2 := hide (show Mk.bad2 s.x = false by rw [unhide HE]; simp [ca, cb])
                go_wp2_with fail
                go_meet
                case rel => exact ⟨by rw [unhide HE2]; (try simp [ca, cb]), Below.refl _ _⟩
        case rest =>
          obtain ⟨rfl, hbc⟩ := hcut
          have HBW := hide ((unhide HBV).trans (hbc.mono (by have := (unhide HBV).size; omega)))
          have HdB2 := hide ((unhide HdB).belowSz hbc)
          have HxB2 := hide ((unhide HxB).belowSz hbc)
          have HxV2 := hide ((unhide HxV).below (hbc.mono (by omega)))
          have hvw := hbc.size
          clear HF z6 z12 d0 d1 d2 d3 d4 KS Hem Hb2d HdB HxB HxV hbc
          generalize Mk.bad2 s.x = bd2 at *
          cases bd2
          case true =>
            have HM : Hid (Mk.may s.x = 1) := hide (by rw [unhide Hmay]; rfl)
            go_wp2_with fail
            go_ret
            exact ⟨ret_int (unhide HM).symm, (unhide Hb1).trans ((unhide HBW).mono (by omega))⟩
          have d1 := (unhide HdB2).cell (i := 1) rfl
          have d2 := (unhide HdB2).cell (i := 2) rfl
          have KH := hide (fun (x : ByteArray) (W : World) (hx : x.size ≤ 4294967296) => rhas_any x W hx)
          have KHs := hide (fun W => (unhide KH) s.x.dyn.soname W (unhide Ho).dyn.s3)
          have KHr := hide (fun W => (unhide KH) s.x.dyn.run W (unhide Ho).dyn.s4)
          have Hbad := hide (show Mk.bad s.x.dyn = (Mk.has s.x.dyn.soname || Mk.has s.x.dyn.run || s.x.dyn.needed.any Mk.has || s.x.dyn.syms.any Mk.badSym || s.x.dyn.relas.any (Mk.badRel s.x.dyn.syms.length)) from rfl)
          generalize Mk.has s.x.dyn.soname = h1 at *
          generalize Mk.has s.x.dyn.run = h2 at *
          go_upto_region 8 with fail
          go_cut [6] (fun v wx => v = .bool (h1 || h2) ∧ wx = wc)
          case first =>
            cases h1
            · go_wp2_with (first | (go_at_call 82; with_reducible (refine ((unhide KHs) _).mono ?_); rintro e w6 ⟨rfl, rfl⟩) | (go_at_call 82; with_reducible (refine ((unhide KHr) _).mono ?_); rintro e w6 ⟨rfl, rfl⟩))
              go_meet
              case rel => exact ⟨by simp, rfl⟩
            · go_wp2_with (first | (go_at_call 82; with_reducible (refine ((unhide KHs) _).mono ?_); rintro e w6 ⟨rfl, rfl⟩) | (go_at_call 82; with_reducible (refine ((unhide KHr) _).mono ?_); rintro e w6 ⟨rfl, rfl⟩))
              go_meet
              case rel => exact ⟨by simp, rfl⟩
          case rest =>
            obtain ⟨rfl, rfl⟩ := hcut
            generalize (h1 || h2) = hs at *
            clear KHs KHr d1 d2
            have d0 := (unhide HdB2).cell (i := 0) rfl
            have n1 : s.x.dyn.needed.length ≤ 4294967296 := (unhide Ho).dyn.n1
            go_upto_block 0 with fail
            go_cut [6, 7] (fun v iv wx => v = .bool (hs || s.x.dyn.needed.any Mk.has) ∧ wx = wc)
            case first => as_aux_lemma =>
              go_wp2_with fail
              go_loopg [6, 7] s.x.dyn.needed.length (fun gk bv iv wr => ∃ i : Nat, gk = s.x.dyn.needed.length - i ∧ i ≤ s.x.dyn.needed.length ∧ iv = .int .i64 i ∧ bv = .bool (hs || (s.x.dyn.needed.take i).any Mk.has) ∧ wr = wc)
              case atStart => exact ⟨0, by omega, by omega, rfl, by simp, rfl⟩
              case round =>
              obtain ⟨i, hgk, hi, rfl, rfl, rfl⟩ := hrel
              have Hgk := hide hgk
              clear hgk
              by_cases hlt : i < s.x.dyn.needed.length
              · obtain ⟨x, hx⟩ : ∃ x, s.x.dyn.needed[i]? = some x := ⟨_, List.getElem?_eq_getElem hlt⟩
                have htk : (s.x.dyn.needed.take (i + 1)).any Mk.has = ((s.x.dyn.needed.take i).any Mk.has || Mk.has x) := by rw [List.take_add_one, hx, List.any_append]; simp
                have hrest : (s.x.dyn.needed.take i).any Mk.has = true → s.x.dyn.needed.any Mk.has = true := fun h9 => by
                  rw [← List.take_append_drop i s.x.dyn.needed, List.any_append, h9]; rfl
                obtain ⟨b1, o1, hA1, hb1, st⟩ := (unhide HxV2).dyn.needed.at_ (k := i) (u := .string x) (by show (s.x.dyn.needed.map Value.string)[i]? = _; simp [hx])
                have hA1' : s.A1 = some ⟨b1, o1, none⟩ := hA1
                rw [hA1'] at d0
                have KHx := hide (fun W => (unhide KH) x W ((unhide Ho).dyn.s1 x (List.mem_of_getElem? hx)))
                have Htk := hide htk
                have Hrest := hide hrest
                have ilt : (i : Int) < (s.x.dyn.needed.length : Int) := by omega
                clear hA1 hA1' hx htk hrest
                generalize (s.x.dyn.needed.take i).any Mk.has = tk at *
                obtain ⟨bb, hbb⟩ : ∃ bb, (hs || tk) = bb := ⟨_, rfl⟩
                rw [hbb]
                cases bb
                · have HB0 := hide hbb
                  clear hbb
                  go_wp2_with (go_at_call 82; with_reducible (refine ((unhide KHx) _).mono ?_); rintro e w6 ⟨rfl, rfl⟩)
                  go_roundg (s.x.dyn.needed.length - (i + 1))
                  case measure => have := unhide Hgk; omega
                  case rel => exact ⟨i + 1, rfl, by omega, by go_num, by
                    have h9 := unhide HB0
                    rw [Bool.or_eq_false_iff] at h9
                    rw [unhide Htk, h9.1, h9.2]
                    simp, rfl⟩
                · have HB0 := hide hbb
                  clear hbb
                  go_wp2_with fail
                  go_meet
                  case rel => exact ⟨by
                    have h9 := unhide HB0
                    rcases Bool.or_eq_true_iff.1 h9 with h9 | h9
                    · rw [h9]; rfl
                    · rw [(unhide Hrest) h9]; simp, rfl⟩
              · obtain rfl : i = s.x.dyn.needed.length := by omega
                have ige : ¬ ((s.x.dyn.needed.length : Nat) : Int) < ((s.x.dyn.needed.length : Nat) : Int) := by omega
                rw [List.take_length]
                go_wp2_with fail
                go_meet
                case rel => exact ⟨rfl, rfl⟩
            case rest =>
              obtain ⟨rfl, rfl⟩ := hcut
              generalize (hs || s.x.dyn.needed.any Mk.has) = hs2 at *
              have d3 := (unhide HdB2).cell (i := 3) rfl
              have n2 : s.x.dyn.syms.length ≤ 4294967296 := (unhide Ho).dyn.n2
              try clear d0
              go_upto_block 2 with fail
              go_cut [6, 8] (fun v iv wx => v = .bool (hs2 || s.x.dyn.syms.any Mk.badSym) ∧ wx = wc)
              case first => as_aux_lemma =>
                go_wp2_with fail
                go_loopg [6, 8] s.x.dyn.syms.length (fun gk bv iv wr => ∃ i : Nat, gk = s.x.dyn.syms.length - i ∧ i ≤ s.x.dyn.syms.length ∧ iv = .int .i64 i ∧ bv = .bool (hs2 || (s.x.dyn.syms.take i).any Mk.badSym) ∧ wr = wc)
                case atStart => exact ⟨0, by omega, by omega, rfl, by simp, rfl⟩
                case round =>
                obtain ⟨i, hgk, hi, rfl, rfl, rfl⟩ := hrel
                have Hgk := hide hgk
                clear hgk
                by_cases hlt : i < s.x.dyn.syms.length
                · obtain ⟨x, hx⟩ : ∃ x, s.x.dyn.syms[i]? = some x := ⟨_, List.getElem?_eq_getElem hlt⟩
                  have htk : (s.x.dyn.syms.take (i + 1)).any Mk.badSym = ((s.x.dyn.syms.take i).any Mk.badSym || (Mk.has x.name || decide (2 < x.bind))) := by rw [List.take_add_one, hx, List.any_append]; simp [Mk.badSym]
                  have hrest : (s.x.dyn.syms.take i).any Mk.badSym = true → s.x.dyn.syms.any Mk.badSym = true := fun h9 => by
                    rw [← List.take_append_drop i s.x.dyn.syms, List.any_append, h9]; rfl
                  obtain ⟨b1, o1, hA1, hb1, st, -, -, st3, -⟩ := mksym_at (unhide HxV2).dyn.syms hx
                  have hA1' : s.A2 = some ⟨b1, o1, none⟩ := hA1
                  rw [hA1'] at d3
                  have KHx := hide (fun W => (unhide KH) x.name W ((unhide Ho).dyn.s2 x (List.mem_of_getElem? hx)))
                  have Htk := hide htk
                  have Hrest := hide hrest
                  have ilt : (i : Int) < (s.x.dyn.syms.length : Int) := by omega
                  clear hA1 hA1' hx htk hrest
                  generalize (s.x.dyn.syms.take i).any Mk.badSym = tk at *
                  obtain ⟨bb, hbb⟩ : ∃ bb, (hs2 || tk) = bb := ⟨_, rfl⟩
                  rw [hbb]
                  generalize x.name = nm at *
                  generalize x.bind = bn at *
                  cases bb
                  · have HB0 := hide hbb
                    clear hbb
                    generalize Mk.has nm = hn at *
                    cases hn
                    · by_cases c2 : 2 < bn
                      · have c2i : (2 : Int) < (bn : Int) := by omega
                        have C2 := hide c2
                        go_wp2_with (go_at_call 82; with_reducible (refine ((unhide KHx) _).mono ?_); rintro e w6 ⟨rfl, rfl⟩)
                        go_roundg (s.x.dyn.syms.length - (i + 1))
                        case measure => have := unhide Hgk; omega
                        case rel => exact ⟨i + 1, rfl, by omega, by go_num, by
                          have h9 := unhide HB0
                          rw [Bool.or_eq_false_iff] at h9
                          rw [unhide Htk, h9.1, h9.2, decide_eq_true (unhide C2)]
                          rfl, rfl⟩
                      · have c2i : ¬ (2 : Int) < (bn : Int) := by omega
                        have C2 := hide c2
                        go_wp2_with (go_at_call 82; with_reducible (refine ((unhide KHx) _).mono ?_); rintro e w6 ⟨rfl, rfl⟩)
                        go_roundg (s.x.dyn.syms.length - (i + 1))
                        case measure => have := unhide Hgk; omega
                        case rel => exact ⟨i + 1, rfl, by omega, by go_num, by
                          have h9 := unhide HB0
                          rw [Bool.or_eq_false_iff] at h9
                          rw [unhide Htk, h9.1, h9.2, decide_eq_false (unhide C2)]
                          first | rfl | (have c := unhide C2; simp; omega), rfl⟩
                    · go_wp2_with (go_at_call 82; with_reducible (refine ((unhide KHx) _).mono ?_); rintro e w6 ⟨rfl, rfl⟩)
                      go_roundg (s.x.dyn.syms.length - (i + 1))
                      case measure => have := unhide Hgk; omega
                      case rel => exact ⟨i + 1, rfl, by omega, by go_num, by
                        have h9 := unhide HB0
                        rw [Bool.or_eq_false_iff] at h9
                        rw [unhide Htk, h9.1, h9.2]
                        rfl, rfl⟩
                  · have HB0 := hide hbb
                    clear hbb
                    go_wp2_with fail
                    go_meet
                    case rel => exact ⟨by
                      have h9 := unhide HB0
                      rcases Bool.or_eq_true_iff.1 h9 with h9 | h9
                      · rw [h9]; rfl
                      · rw [(unhide Hrest) h9]; simp, rfl⟩
                · obtain rfl : i = s.x.dyn.syms.length := by omega
                  have ige : ¬ ((s.x.dyn.syms.length : Nat) : Int) < ((s.x.dyn.syms.length : Nat) : Int) := by omega
                  rw [List.take_length]
                  go_wp2_with fail
                  go_meet
                  case rel => exact ⟨rfl, rfl⟩
              case rest =>
                obtain ⟨rfl, rfl⟩ := hcut
                generalize (hs2 || s.x.dyn.syms.any Mk.badSym) = hs3 at *
                have d4 := (unhide HdB2).cell (i := 4) rfl
                have n3 : s.x.dyn.relas.length ≤ 4294967296 := (unhide Ho).dyn.n3
                go_upto_block 4 with fail
                go_cut [6, 9] (fun v iv wx => v = .bool (hs3 || s.x.dyn.relas.any (Mk.badRel s.x.dyn.syms.length)) ∧ ∃ nq, wx = wc.drewN nq)
                case first => as_aux_lemma =>
                  go_wp2_with fail
                  go_loopg [6, 9] s.x.dyn.relas.length (fun gk bv iv wr => ∃ i nq : Nat, gk = s.x.dyn.relas.length - i ∧ i ≤ s.x.dyn.relas.length ∧ iv = .int .i64 i ∧ bv = .bool (hs3 || (s.x.dyn.relas.take i).any (Mk.badRel s.x.dyn.syms.length)) ∧ wr = wc.drewN nq)
                  case atStart => exact ⟨0, 0, by omega, by omega, rfl, by simp, rfl⟩
                  case round =>
                  obtain ⟨i, nq, hgk, hi, rfl, rfl, rfl⟩ := hrel
                  have Hgk := hide hgk
                  clear hgk
                  by_cases hlt : i < s.x.dyn.relas.length
                  · obtain ⟨x, hx⟩ : ∃ x, s.x.dyn.relas[i]? = some x := ⟨_, List.getElem?_eq_getElem hlt⟩
                    have htk : (s.x.dyn.relas.take (i + 1)).any (Mk.badRel s.x.dyn.syms.length) = ((s.x.dyn.relas.take i).any (Mk.badRel s.x.dyn.syms.length) || (decide (x.sym < 0) || decide ((s.x.dyn.syms.length : Int) < x.sym))) := by rw [List.take_add_one, hx, List.any_append]; simp [Mk.badRel]
                    have hrest : (s.x.dyn.relas.take i).any (Mk.badRel s.x.dyn.syms.length) = true → s.x.dyn.relas.any (Mk.badRel s.x.dyn.syms.length) = true := fun h9 => by
                      rw [← List.take_append_drop i s.x.dyn.relas, List.any_append, h9]; rfl
                    obtain ⟨b1, o1, hA1, hb1, -, -, st0, -⟩ := mkrel_at (unhide HxV2).dyn.relas hx
                    have hA1' : s.A3 = some ⟨b1, o1, none⟩ := hA1
                    rw [hA1'] at d4
                    have st := st0
                    have Htk := hide htk
                    have Hrest := hide hrest
                    have ilt : (i : Int) < (s.x.dyn.relas.length : Int) := by omega
                    clear hA1 hA1' hx htk hrest st0
                    generalize (s.x.dyn.relas.take i).any (Mk.badRel s.x.dyn.syms.length) = tk at *
                    obtain ⟨bb, hbb⟩ : ∃ bb, (hs3 || tk) = bb := ⟨_, rfl⟩
                    rw [hbb]
                    generalize x.sym = sm at *
                    cases bb
                    · have HB0 := hide hbb
                      clear hbb
                      by_cases c2 : sm < 0
                      · have C2 := hide c2
                        have c2b : decide (sm < 0) = true := decide_eq_true c2
                        go_wp2_with fail
                        go_quiet (fail)
                        go_wp2_with fail
                        go_roundg (s.x.dyn.relas.length - (i + 1))
                        case measure => have := unhide Hgk; omega
                        case rel => exact ⟨i + 1, _, rfl, by omega, by go_num, by
                          have h9 := unhide HB0
                          rw [Bool.or_eq_false_iff] at h9
                          have c := unhide C2
                          rw [unhide Htk, h9.1, h9.2]
                          first | rfl | (simp [c]; done) | (simp; omega), rfl⟩
                      · have c2b : decide (sm < 0) = false := decide_eq_false c2
                        by_cases c3 : (s.x.dyn.syms.length : Int) < sm
                        · have C2 := hide (And.intro c2 c3)
                          go_wp2_with fail
                          go_quiet (fail)
                          go_wp2_with fail
                          go_roundg (s.x.dyn.relas.length - (i + 1))
                          case measure => have := unhide Hgk; omega
                          case rel => exact ⟨i + 1, _, rfl, by omega, by go_num, by
                            have h9 := unhide HB0
                            rw [Bool.or_eq_false_iff] at h9
                            have c := unhide C2
                            rw [unhide Htk, h9.1, h9.2]
                            first | rfl | (simp [c]; done) | (simp; omega), rfl⟩
                        · have C2 := hide (And.intro c2 c3)
                          go_wp2_with fail
                          go_quiet (fail)
                          go_wp2_with fail
                          go_roundg (s.x.dyn.relas.length - (i + 1))
                          case measure => have := unhide Hgk; omega
                          case rel => exact ⟨i + 1, _, rfl, by omega, by go_num, by
                            have h9 := unhide HB0
                            rw [Bool.or_eq_false_iff] at h9
                            have c := unhide C2
                            rw [unhide Htk, h9.1, h9.2]
                            first | rfl | (simp [c]; done) | (simp; omega), rfl⟩
                    · have HB0 := hide hbb
                      clear hbb
                      go_wp2_with fail
                      go_meet
                      case rel => exact ⟨by
                        have h9 := unhide HB0
                        rcases Bool.or_eq_true_iff.1 h9 with h9 | h9
                        · rw [h9]; rfl
                        · rw [(unhide Hrest) h9]; simp, _, rfl⟩
                  · obtain rfl : i = s.x.dyn.relas.length := by omega
                    have ige : ¬ ((s.x.dyn.relas.length : Nat) : Int) < ((s.x.dyn.relas.length : Nat) : Int) := by omega
                    rw [List.take_length]
                    go_wp2_with fail
                    go_meet
                    case rel => exact ⟨rfl, _, rfl⟩
                case rest =>
                  obtain ⟨rfl, nq, rfl⟩ := hcut
                  generalize (hs3 || s.x.dyn.relas.any (Mk.badRel s.x.dyn.syms.length)) = bd at *
                  clear d3 d4
                  cases bd
                  case true =>
                    have HM : Hid (Mk.may s.x = 1) := hide (by rw [unhide Hmay, unhide Hbad]; rfl)
                    go_wp2_with fail
                    go_ret
                    exact ⟨ret_int (unhide HM).symm, below_drewN' ((unhide Hb1).trans ((unhide HBW).mono (by omega))) nq⟩
                  have HM : Hid (Mk.may s.x = (if Mk.tooBig s.x = true then 12 else 0)) := hide (by rw [unhide Hmay, unhide Hbad]; rfl)
                  have Htb := hide (show Mk.tooBig s.x = (decide (8 < s.x.dyn.needed.length) || decide (64 < s.x.dyn.syms.length) || decide (64 < s.x.dyn.relas.length) || decide (65536 < s.x.text.length) || decide (1048576 < s.x.more)) from rfl)
                  have d0 := (unhide HdB2).cell (i := 0) rfl
                  have d3 := (unhide HdB2).cell (i := 3) rfl
                  have d4 := (unhide HdB2).cell (i := 4) rfl
                  obtain ⟨-, -, -, x3, -, x5, -⟩ := spec_cells (unhide HxB2)
                  by_cases e0 : 8 < s.x.dyn.needed.length
                  · have f0 : (8 : Int) < (s.x.dyn.needed.length : Int) := by omega
                    have HT : Hid (Mk.may s.x = 12) := hide (by rw [unhide HM, unhide Htb]; simp [e0])
                    clear e0
                    go_wp2_with fail
                    go_ret
                    exact ⟨ret_int (unhide HT).symm, below_drewN' ((unhide Hb1).trans ((unhide HBW).mono (by omega))) nq⟩
                  · have f0 : ¬ (8 : Int) < (s.x.dyn.needed.length : Int) := by omega
                    by_cases e1 : 64 < s.x.dyn.syms.length
                    · have f1 : (64 : Int) < (s.x.dyn.syms.length : Int) := by omega
                      have HT : Hid (Mk.may s.x = 12) := hide (by rw [unhide HM, unhide Htb]; simp [e1])
                      clear e1
                      go_wp2_with fail
                      go_ret
                      exact ⟨ret_int (unhide HT).symm, below_drewN' ((unhide Hb1).trans ((unhide HBW).mono (by omega))) nq⟩
                    · have f1 : ¬ (64 : Int) < (s.x.dyn.syms.length : Int) := by omega
                      by_cases e2 : 64 < s.x.dyn.relas.length
                      · have f2 : (64 : Int) < (s.x.dyn.relas.length : Int) := by omega
                        have HT : Hid (Mk.may s.x = 12) := hide (by rw [unhide HM, unhide Htb]; simp [e2])
                        clear e2
                        go_wp2_with fail
                        go_ret
                        exact ⟨ret_int (unhide HT).symm, below_drewN' ((unhide Hb1).trans ((unhide HBW).mono (by omega))) nq⟩
                      · have f2 : ¬ (64 : Int) < (s.x.dyn.relas.length : Int) := by omega
                        by_cases e3 : 65536 < s.x.text.length
                        · have f3 : (65536 : Int) < (s.x.text.length : Int) := by omega
                          have HT : Hid (Mk.may s.x = 12) := hide (by rw [unhide HM, unhide Htb]; simp [e3])
                          clear e3
                          go_wp2_with fail
                          go_ret
                          exact ⟨ret_int (unhide HT).symm, below_drewN' ((unhide Hb1).trans ((unhide HBW).mono (by omega))) nq⟩
                        · have f3 : ¬ (65536 : Int) < (s.x.text.length : Int) := by omega
                          by_cases e4 : 1048576 < s.x.more
                          · have f4 : (1048576 : Int) < (s.x.more : Int) := by omega
                            have HT : Hid (Mk.may s.x = 12) := hide (by rw [unhide HM, unhide Htb]; simp [e4])
                            clear e4
                            go_wp2_with fail
                            go_ret
                            exact ⟨ret_int (unhide HT).symm, below_drewN' ((unhide Hb1).trans ((unhide HBW).mono (by omega))) nq⟩
                          · have f4 : ¬ (1048576 : Int) < (s.x.more : Int) := by omega
                            have HT : Hid (Mk.may s.x = 0) := hide (by rw [unhide HM, unhide Htb]; simp [e0, e1, e2, e3, e4])
                            clear e0 e1 e2 e3 e4
                            go_wp2_with fail
                            go_ret
                            exact ⟨ret_int (unhide HT).symm, below_drewN' ((unhide Hb1).trans ((unhide HBW).mono (by omega))) nq⟩
      · have HM : Hid (Mk.may s.x = 1) := hide (by rw [unhide Hmay, if_pos rfl])
        go_wp2_with fail
        go_ret
        exact ⟨ret_int (unhide HM).symm, (unhide Hb1).trans ((unhide HW).mono (by omega))⟩
end Go.Proofs.YtnbecdahfgkffaaGreat
namespace Go.Proofs.YtnbecdahfgkffaaGreat
open Go.RowKit
set_option maxRecDepth 100000 in
set_option maxHeartbeats 60000000 in
theorem rmake14_any (s : Xq) (B : Nat) (w : World) (hB : B ≤ w.heap.size) (h : XqM w B s) (hf : MkFit s) :
    Calls Tryz.prog 10 #[.agg s.l.toArray] w (MkE s.x w) := by
  have hb1 : Below w.heap.size w (w.alloc (.cells #[.int .u16 (s.x.type : Nat), .int .u64 (s.x.entry : Nat), .string s.x.interp, .slice s.At s.x.text.length s.ct, .slice s.Ad s.x.data.length s.cd, .int .u64 (s.x.more : Nat), .bool s.x.dynamic, .slice s.A1 s.x.dyn.needed.length s.c1, .string s.x.dyn.soname, .string s.x.dyn.run, .slice s.A2 s.x.dyn.syms.length s.c2, .slice s.A3 s.x.dyn.relas.length s.c3, .int .i64 s.x.apart] 31)) := (Below.refl _ _).alloc (Nat.le_refl _) _
  have hbl := Blk.new w 31 s.l
  have Hb1 := hide hb1
  have hxm := h.below (hb1.mono hB)
  have HE1 := hide (show (w.alloc (.cells #[.int .u16 (s.x.type : Nat), .int .u64 (s.x.entry : Nat), .string s.x.interp, .slice s.At s.x.text.length s.ct, .slice s.Ad s.x.data.length s.cd, .int .u64 (s.x.more : Nat), .bool s.x.dynamic, .slice s.A1 s.x.dyn.needed.length s.c1, .string s.x.dyn.soname, .string s.x.dyn.run, .slice s.A2 s.x.dyn.syms.length s.c2, .slice s.A3 s.x.dyn.relas.length s.c3, .int .i64 s.x.apart] 31)).heap.size = w.heap.size + 1 by simp)
  have Hx : Hid (∀ W, Below (w.heap.size + 1) (w.alloc (.cells #[.int .u16 (s.x.type : Nat), .int .u64 (s.x.entry : Nat), .string s.x.interp, .slice s.At s.x.text.length s.ct, .slice s.Ad s.x.data.length s.cd, .int .u64 (s.x.more : Nat), .bool s.x.dynamic, .slice s.A1 s.x.dyn.needed.length s.c1, .string s.x.dyn.soname, .string s.x.dyn.run, .slice s.A2 s.x.dyn.syms.length s.c2, .slice s.A3 s.x.dyn.relas.length s.c3, .int .i64 s.x.apart] 31)) W → Blk W w.heap.size 31 s.l ∧ XqM W B s) := hide (fun W hW => ⟨Blk.below (show Blk (w.alloc (.cells #[.int .u16 (s.x.type : Nat), .int .u64 (s.x.entry : Nat), .string s.x.interp, .slice s.At s.x.text.length s.ct, .slice s.Ad s.x.data.length s.cd, .int .u64 (s.x.more : Nat), .bool s.x.dynamic, .slice s.A1 s.x.dyn.needed.length s.c1, .string s.x.dyn.soname, .string s.x.dyn.run, .slice s.A2 s.x.dyn.syms.length s.c2, .slice s.A3 s.x.dyn.relas.length s.c3, .int .i64 s.x.apart] 31)) w.heap.size 31 s.l from hbl) hW (by omega), hxm.below (hW.mono (by omega))⟩)
  have KM : Hid (∀ W, B ≤ W.heap.size → XqM W B s → Calls Tryz.prog 33 #[.agg #[.int .u16 (s.x.type : Nat), .int .u64 (s.x.entry : Nat), .string s.x.interp, .slice s.At s.x.text.length s.ct, .slice s.Ad s.x.data.length s.cd, .int .u64 (s.x.more : Nat), .bool s.x.dynamic, .slice s.A1 s.x.dyn.needed.length s.c1, .string s.x.dyn.soname, .string s.x.dyn.run, .slice s.A2 s.x.dyn.syms.length s.c2, .slice s.A3 s.x.dyn.relas.length s.c3, .int .i64 s.x.apart]] W fun e w' => e = .returned (.int .i64 (Mk.may s.x)) ∧ Below W.heap.size W w') := hide (fun W hW hx => rmay14_any s B W hW hx hf.ok)
  have KR : Hid (∀ W, Calls Tryz.prog 34 #[.agg #[.int .u16 (s.x.type : Nat), .int .u64 (s.x.entry : Nat), .string s.x.interp, .slice s.At s.x.text.length s.ct, .slice s.Ad s.x.data.length s.cd, .int .u64 (s.x.more : Nat), .bool s.x.dynamic, .slice s.A1 s.x.dyn.needed.length s.c1, .string s.x.dyn.soname, .string s.x.dyn.run, .slice s.A2 s.x.dyn.syms.length s.c2, .slice s.A3 s.x.dyn.relas.length s.c3, .int .i64 s.x.apart]] W fun e w' => e = .returned (.int .i64 (Mk.many s.x : Nat)) ∧ Below W.heap.size W w') := hide (fun W => rrows_any s W hf.ok)
  have KB := hide (fun W => rbase14_any s.x.type W)
  have Hf := hide hf
  have HxB := hide hxm
  have hte : s.x.text.length ≤ 4294967296 := hf.ok.text
  have hda : s.x.data.length ≤ 1048576 := hf.data
  have hin : s.x.interp.size ≤ 1048576 := hf.interp
  have hmo := hf.ok.more
  have hmany := many_ge s.x
  have hb4 : Mk.base s.x ≤ 4194304 := by unfold Mk.base; split <;> omega
  have Hbase := hide (show Mk.base s.x = (if s.x.type = 2 then 4194304 else 0) from rfl)
  obtain ⟨a0, a1, a2, a3, a4, a5, a6, a7, a8, a9, a10, a11, a12⟩ := spec_cells hbl
  show Calls _ _ #[.agg #[.int .u16 (s.x.type : Nat), .int .u64 (s.x.entry : Nat), .string s.x.interp, .slice s.At s.x.text.length s.ct, .slice s.Ad s.x.data.length s.cd, .int .u64 (s.x.more : Nat), .bool s.x.dynamic, .slice s.A1 s.x.dyn.needed.length s.c1, .string s.x.dyn.soname, .string s.x.dyn.run, .slice s.A2 s.x.dyn.syms.length s.c2, .slice s.A3 s.x.dyn.relas.length s.c3, .int .i64 s.x.apart]] w _
  clear hb1 hbl hxm h hf
  go_enter Tryz.func10, Tryz.ntmps10
  go_wp2_with fail
  refine ((unhide KM) _ (by simp; omega) (unhide HxB)).mono ?_
  rintro e w1 ⟨rfl, hbw⟩
  generalize (w.alloc (.cells #[.int .u16 (s.x.type : Nat), .int .u64 (s.x.entry : Nat), .string s.x.interp, .slice s.At s.x.text.length s.ct, .slice s.Ad s.x.data.length s.cd, .int .u64 (s.x.more : Nat), .bool s.x.dynamic, .slice s.A1 s.x.dyn.needed.length s.c1, .string s.x.dyn.soname, .string s.x.dyn.run, .slice s.A2 s.x.dyn.syms.length s.c2, .slice s.A3 s.x.dyn.relas.length s.c3, .int .i64 s.x.apart] 31)) = W1 at *
  have HBW := hide hbw
  have hW1 := unhide HE1
  have hws := hbw.size
  have hcb := ((unhide Hx) _ (hW1 ▸ hbw)).1
  clear KM HxB hbw a0 a1 a2 a3 a4 a5 a6 a7 a8 a9 a10 a11 a12
  by_cases hmay : Mk.may s.x = 0
  case neg =>
    have hmk : Mk.make s.x = ([], Mk.may s.x) := by unfold Mk.make; rw [if_pos hmay]
    have Hmk := hide hmk
    have hm1 : ((Mk.may s.x : Int) != 0) = true := by rw [bne_iff_ne]; exact hmay
    clear hmay hmk hcb
    go_wp2_with fail
    go_ret2
    refine ⟨(unhide Hb1).trans ((unhide HBW).mono (by omega)), none, 0, 0, ?_, ?_⟩
    · rw [unhide Hmk]; rfl
    · rw [unhide Hmk]; exact World.ownsRow_nil _ _ _ _
  have HM := hide (may_zero hmay)
  rw [hmay]
  have Hmay := hide hmay
  obtain ⟨a0, a1, a2, a3, a4, a5, a6, a7, a8, a9, a10, a11, a12⟩ := spec_cells hcb
  clear hmay hcb
  go_wp2_with fail
  refine ((unhide KB) _).mono ?_
  rintro e w2 ⟨rfl, rfl⟩
  rw [← unhide Hbase]
  go_wp2_with fail
  refine ((unhide KR) _).mono ?_
  rintro e w2 ⟨rfl, hb2⟩
  obtain ⟨ag, hag⟩ : ∃ ag, Value.agg #[.int .u16 (s.x.type : Nat), .int .u64 (s.x.entry : Nat), .string s.x.interp, .slice s.At s.x.text.length s.ct, .slice s.Ad s.x.data.length s.cd, .int .u64 (s.x.more : Nat), .bool s.x.dynamic, .slice s.A1 s.x.dyn.needed.length s.c1, .string s.x.dyn.soname, .string s.x.dyn.run, .slice s.A2 s.x.dyn.syms.length s.c2, .slice s.A3 s.x.dyn.relas.length s.c3, .int .i64 s.x.apart] = ag := ⟨_, rfl⟩
  rw [hag]
  clear hag
  have hB12 := (unhide HBW).trans (hb2.mono hws)
  have hs2 := hB12.size
  have HB2 := hide hB12
  obtain ⟨i, hi, hz0, hz1, hz2⟩ := info_parts byteInfo
  have Hi := hide hi
  have Hz0 := hide hz0
  have Hz1 := hide hz1
  have Hz2 := hide hz2
  clear HBW hB12 hb2 hws KR KB hi hz0 hz1 hz2 a0 a1 a2 a3 a4 a5 a6 a7 a8 a9 a10 a11 a12
  go_upto_if 49 with (at_make; refine wpList_make_full _ rfl _ _ 24 rfl W1.heap.size 5 i (.int .u8 0) 1 Tryz.underlying24 (unhide Hi) (unhide Hz0) (unhide Hz1) _ _ _ _ (64 + 56 * Mk.many s.x) rfl (by rfl) rfl (by rfl) (by rw [unhide Hz2]; omega) (by unfold maxLen; omega) hs2 ?_; intro w3 hown hgrow; have hb3 := (unhide HB2).grown hgrow hs2 (fun k hk => by cases hk); rw [zerosN] at hown; have hS := MaS.start (b0 := Mk.base s.x) hb3 hown (Mk.inRow s.x 6 64 (56 * Mk.many s.x) 8); have HS : Hid (MaS (Mk.base s.x) W1 w3.heap.size none ((w3.alloc (.cells #[.slice (some ⟨w2.heap.size, 0, none⟩) (64 + 56 * Mk.many s.x) (64 + 56 * Mk.many s.x), .int .u64 (Mk.base s.x : Nat)] 87)).alloc (.cells #[.int .u64 6, .int .u64 4, .int .u64 64, .int .u64 ((Mk.base s.x : Nat) + 64), .int .u64 (56 * (Mk.many s.x : Nat)), .int .u64 (56 * (Mk.many s.x : Nat)), .int .u64 8] 89)) (Mk.front0 s.x) (Mk.rowPhdr s.x) (some ⟨w3.heap.size + 1, 0, none⟩) 1 1) := hide hS; have y2 : ((w3.alloc (.cells #[.slice (some ⟨w2.heap.size, 0, none⟩) (64 + 56 * Mk.many s.x) (64 + 56 * Mk.many s.x), .int .u64 (Mk.base s.x : Nat)] 87)).alloc (.cells #[.int .u64 6, .int .u64 4, .int .u64 64, .int .u64 ((Mk.base s.x : Nat) + 64), .int .u64 (56 * (Mk.many s.x : Nat)), .int .u64 (56 * (Mk.many s.x : Nat)), .int .u64 8] 89)).cell? ⟨w.heap.size, 2, none⟩ = some (.string s.x.interp) := ((unhide Hx) ((w3.alloc (.cells #[.slice (some ⟨w2.heap.size, 0, none⟩) (64 + 56 * Mk.many s.x) (64 + 56 * Mk.many s.x), .int .u64 (Mk.base s.x : Nat)] 87)).alloc (.cells #[.int .u64 6, .int .u64 4, .int .u64 64, .int .u64 ((Mk.base s.x : Nat) + 64), .int .u64 (56 * (Mk.many s.x : Nat)), .int .u64 (56 * (Mk.many s.x : Nat)), .int .u64 8] 89)) (hW1 ▸ hS.below)).1.cell (i := 2) rfl; clear hown hgrow hb3 hS)
  generalize ((w3.alloc (.cells #[.slice (some ⟨w2.heap.size, 0, none⟩) (64 + 56 * Mk.many s.x) (64 + 56 * Mk.many s.x), .int .u64 (Mk.base s.x : Nat)] 87)).alloc (.cells #[.int .u64 6, .int .u64 4, .int .u64 64, .int .u64 ((Mk.base s.x : Nat) + 64), .int .u64 (56 * (Mk.many s.x : Nat)), .int .u64 (56 * (Mk.many s.x : Nat)), .int .u64 8] 89)) = w4 at *
  have Hgf := (unhide HS).hg
  generalize w3.heap.size = gf at *
  generalize (some (⟨gf + 1, 0, none⟩ : Addr)) = Al at *
  clear HB2 hs2
  obtain ⟨bi, hbi⟩ : ∃ bi, s.x.interp.toList.isEmpty = bi := ⟨_, rfl⟩
  rw [hbi]
  have Hbi := hide hbi
  clear hbi
  go_cut [8] (fun bv wx => ∃ Al nl cl, bv = .slice Al nl cl ∧ nl ≤ 2 ∧ MaS (Mk.base s.x) W1 gf none wx (Mk.front1 s.x) (Mk.rowPhdr s.x ++ Mk.rowInterp s.x) Al nl cl)
  case first =>
    cases bi
    case true =>
      have hi : s.x.interp.size = 0 := by have h9 := unhide Hbi; rw [isEmpty_toList, decide_eq_true_eq] at h9; exact h9
      have hii : Mk.isInterp s.x = false := by unfold Mk.isInterp; simp [hi]
      have He := hide (show Mk.front1 s.x = Mk.front0 s.x ∧ Mk.rowInterp s.x = [] by unfold Mk.front1 Mk.rowInterp; rw [hii]; exact ⟨rfl, rfl⟩)
      clear hi hii
      go_wp2_with fail
      go_meet
      case rel => exact ⟨Al, _, _, rfl, by omega, by rw [(unhide He).1, (unhide He).2, List.append_nil]; exact unhide HS⟩
    case false =>
      have hi : s.x.interp.size ≠ 0 := by have h9 := unhide Hbi; rw [isEmpty_toList, decide_eq_false_iff_not] at h9; exact h9
      have hii : Mk.isInterp s.x = true := by unfold Mk.isInterp; simp [hi]
      have He := hide (show Mk.front1 s.x = Mk.pad 8 (Mk.front0 s.x) ++ Mk.interpB s.x ∧ Mk.rowInterp s.x = [Mk.inRow s.x 3 (Mk.pad 8 (Mk.front0 s.x)).length (s.x.interp.size + 1) 1] by unfold Mk.front1 Mk.rowInterp; rw [hii]; exact ⟨rfl, rfl⟩)
      have hcv := run_bytes_of_string (P := Tryz.prog) w4 9 24 5 s.x.interp Tryz.underlying9 Tryz.underlying24 Tryz.underlying5
      have hm := OwnM.conv w4 s.x.interp (by unfold maxLen; omega)
      have hv1 : Below w4.heap.size w4 (w4.drew.alloc (.cells (bytesRow s.x.interp (grownCap w4 s.x.interp.size 0 5)) 5 ((bytesRow s.x.interp (grownCap w4 s.x.interp.size 0 5)).size, (bytesRow s.x.interp (grownCap w4 s.x.interp.size 0 5)).size + 1))) := (below_drew' (Below.refl _ _)).alloc (Nat.le_refl _) _
      generalize (w4.drew.alloc (.cells (bytesRow s.x.interp (grownCap w4 s.x.interp.size 0 5)) 5 ((bytesRow s.x.interp (grownCap w4 s.x.interp.size 0 5)).size, (bytesRow s.x.interp (grownCap w4 s.x.interp.size 0 5)).size + 1))) = v1 at *
      generalize grownCap w4 s.x.interp.size 0 5 = cc at *
      have hbl : Below v1.heap.size v1 (v1.alloc (.cells #[.int .u8 0] 5)) := (Below.refl _ _).alloc (Nat.le_refl _) _
      have hm1 := hm.below hbl
      have hlit : Rd (v1.alloc (.cells #[.int .u8 0] 5)) (v1.heap.size + 1) 1 (some ⟨v1.heap.size, 0, none⟩) 1 (bys [0]) := Rd.row (w := v1) rfl
      have hvs := hv1.size
      have Hm1 := hide hm1
      have Hlit := hide hlit
      have HVb := hide (hv1.trans (hbl.mono hvs))
      clear hm hm1 hlit hv1 hbl hi hii
      go_wp2_with (at_builtin; refine wpList_appM rfl _ _ rfl w4.heap.size (some ⟨w4.heap.size, 0, none⟩) s.x.interp.size cc s.x.interp.data.toList rfl (unhide Hm1) (v1.heap.size + 1) v1.heap.size 0 1 1 [0] rfl (unhide Hlit) (by omega) (by simp; omega) ?_; intro A2 c2 v2 hm2 hg2 ha2; have Hm2 := hide hm2; have Hb2 := hide ((unhide HVb).grown hg2 (by simp; omega) (fun k hk => by simp [Value.ownBlock] at hk; omega)); clear hm2 hg2 ha2)
      have hpl := pad_le 8 (by omega) (Mk.front0 s.x)
      have hfl := front0_len s.x
      have KP := hide ((unhide HS).callPut (unhide Hb2) (unhide Hm2) (by omega) (by omega) (by omega))
      clear Hm1 Hlit HVb Hm2 hvs
      refine (unhide KP).mono ?_
      rintro e v3 ⟨rfl, hS3⟩
      obtain ⟨L0, hL0⟩ : ∃ L0, (Mk.pad 8 (Mk.front0 s.x)).length = L0 := ⟨_, rfl⟩
      rw [hL0] at hpl ⊢
      have He2 := hide hL0
      have HS3 := hide hS3
      have hL : L0 ≤ 4294967296 := by omega
      have hsub : ((Mk.base s.x : Nat) : Int) + ((L0 : Nat) : Int) - ((Mk.base s.x : Nat) : Int) = ((L0 : Nat) : Int) := by omega
      clear KP hS3 hL0 hpl hfl HS Hb2
      go_wp2_with (at_builtin; refine wpList_app1g row14Ty rfl _ _ rfl W1.heap.size (.slice Al 1 1) 1 (rowC (Mk.rowPhdr s.x)) rfl (unhide HS3).row _ _ rfl (by simp) rfl (rowV_one (Mk.inRow s.x 3 L0 (s.x.interp.size + 1) 1)) (by omega) (unhide HS3).size ?_; intro A9 c9 w9 ho9 hg9 hat9; have HP := hide ((unhide HS3).push (Mk.inRow s.x 3 L0 (s.x.interp.size + 1) 1) ho9 hg9 hat9); clear ho9 hg9 hat9)
      go_meet
      case rel => exact ⟨A9, _, _, rfl, by omega, by rw [(unhide He).1, (unhide He).2, unhide He2]; exact unhide HP⟩
  case rest =>
    obtain ⟨Al, nl, cl, rfl, hnl, hS⟩ := hcut
    have hwc := hS.lt
    have hSl := hS.lay (l := zrow)
    have hcb := ((unhide Hx) _ (hW1 ▸ hSl.below)).1
    have y6 : (wc.alloc (.cells #[.int .u64 0, .int .u64 0, .int .u64 0, .int .u64 0, .int .u64 0, .int .u64 0, .int .u64 0] 89)).cell? ⟨w.heap.size, 6, none⟩ = some (.bool s.x.dynamic) := hcb.cell (i := 6) rfl
    have HS : Hid (MaS (Mk.base s.x) W1 gf (some (wc.heap.size, zrow)) (wc.alloc (.cells #[.int .u64 0, .int .u64 0, .int .u64 0, .int .u64 0, .int .u64 0, .int .u64 0, .int .u64 0] 89)) (Mk.front1 s.x) (Mk.rowPhdr s.x ++ Mk.rowInterp s.x) Al nl cl) := hide hSl
    clear hcb hSl hS Hbi y2
    go_upto_if 75 with fail
    generalize (wc.alloc (.cells #[.int .u64 0, .int .u64 0, .int .u64 0, .int .u64 0, .int .u64 0, .int .u64 0, .int .u64 0] 89)) = w5 at *
    generalize wc.heap.size = gl at *
    obtain ⟨dy, hdy⟩ : ∃ dy, s.x.dynamic = dy := ⟨_, rfl⟩
    rw [hdy]
    have Hdy := hide hdy
    have Hfr1 := hide (front1_len s.x)
    have KT : Hid (∀ W, B ≤ W.heap.size → XqM W B s → Calls Tryz.prog 37 #[.agg #[.int .u16 (s.x.type : Nat), .int .u64 (s.x.entry : Nat), .string s.x.interp, .slice s.At s.x.text.length s.ct, .slice s.Ad s.x.data.length s.cd, .int .u64 (s.x.more : Nat), .bool s.x.dynamic, .slice s.A1 s.x.dyn.needed.length s.c1, .string s.x.dyn.soname, .string s.x.dyn.run, .slice s.A2 s.x.dyn.syms.length s.c2, .slice s.A3 s.x.dyn.relas.length s.c3, .int .i64 s.x.apart]] W fun e w' => ∃ q : Tb, e = .returned (.agg q.l.toArray) ∧ TabM w' W.heap.size s.x q ∧ Below W.heap.size W w') := hide (fun W hW hx => rtables_any s B W hW hx (unhide Hf).ok ((unhide Hf).dq (unhide HM)) (unhide HM).a0 (unhide HM).a1)
    clear hdy
    go_cut [8] (fun bv wx => ∃ Al nl cl, bv = .slice Al nl cl ∧ nl ≤ 2 ∧ MaS (Mk.base s.x) W1 gf (some (gl, lastV s.x)) wx (Mk.front2 s.x) (Mk.rowPhdr s.x ++ Mk.rowInterp s.x) Al nl cl)
    case first =>
      cases dy
      case false =>
        have He := hide (show Mk.front2 s.x = Mk.front1 s.x ∧ lastV s.x = zrow by unfold Mk.front2 lastV; rw [unhide Hdy]; exact ⟨rfl, rfl⟩)
        go_wp2_with fail
        go_meet
        case rel => exact ⟨Al, nl, cl, rfl, by omega, by rw [(unhide He).1, (unhide He).2]; exact unhide HS⟩
      case true =>
        have He := hide (show Mk.front2 s.x = Mk.section_ s.x (Mk.front1 s.x) ∧ lastV s.x = rowV (Mk.inRow s.x 2 (Mk.pad 8 (Mk.front1 s.x)).length (Mk.room s.x) 8) by unfold Mk.front2 lastV; rw [unhide Hdy]; exact ⟨rfl, rfl⟩)
        have hx5 := (unhide Hx) _ (hW1 ▸ (unhide HS).below)
        obtain ⟨a0, a1, a2, a3, a4, a5, a6, a7, a8, a9, a10, a11, a12⟩ := spec_cells hx5.1
        have hs5 := (unhide HS).size
        have KT5 := hide ((unhide KT) _ (by omega) hx5.2)
        have hf0 := front0_len s.x
        have hfr1 := unhide Hfr1
        clear hx5 y6
        go_wp2_with fail
        refine (unhide KT5).mono ?_
        rintro e w6 ⟨q, rfl, hT, hb6⟩
        have KS := hide ((unhide HS).callSection hb6 hT (by omega) (by have := (unhide Hf).texts; omega) (unhide HM))
        clear hT hb6 KT5 a0 a1 a2 a3 a4 a5 a6 a7 a8 a9 a10 a11 a12
        go_wp2_with fail
        refine (unhide KS).mono ?_
        rintro e w7 ⟨rfl, hS7⟩
        have hpl := pad_le 8 (by omega) (Mk.front1 s.x)
        have hrm := room_le s.x (unhide HM).n1
        obtain ⟨L0, hL0⟩ : ∃ L0, (Mk.pad 8 (Mk.front1 s.x)).length = L0 := ⟨_, rfl⟩
        rw [hL0] at hpl ⊢
        have He2 := hide hL0
        obtain ⟨rm, hrme⟩ : ∃ rm, Mk.room s.x = rm := ⟨_, rfl⟩
        rw [hrme] at hrm ⊢
        have He3 := hide hrme
        have hbl := (hS7.last _ rfl).1
        have Hbl := hide hbl
        have HS7 := hide hS7
        have hL : L0 ≤ 4294967296 := by omega
        have hsub : ((Mk.base s.x : Nat) : Int) + ((L0 : Nat) : Int) - ((Mk.base s.x : Nat) : Int) = ((L0 : Nat) : Int) := by omega
        clear KS hS7 hL0 hpl hrme hbl HS hf0 hfr1
        go_wp2_with ((with_reducible refine (@id (wpList _ _ _ (Oper.mk none (Op.store 89 (.tmp 12) (.tmp 89)) _ _ _ none :: _) _ _) ?_)); refine wpList_store_row rfl 89 (.tmp 12) (.tmp 89) rfl gl (rowV (Mk.inRow s.x 2 L0 rm 8)).toArray rfl rfl 89 _ (unhide Hbl) row14Info rfl (rowV_all _) ?_)
        go_meet
        case rel => exact ⟨Al, _, _, rfl, by omega, by rw [(unhide He).1, (unhide He).2, unhide He2, unhide He3]; exact (unhide HS7).setLast⟩
    case rest =>
      obtain ⟨Al, nl, cl, rfl, hnl, hS⟩ := hcut
      go_step
      exact rmakeB s B w W1 wc gf gl cl Al hB Hf Hb1 hW1 Hx hb4 HM Hmay nl hnl dy Hdy hS _ _ _ _ _ _ _ _ _ _ _ _ _ _ _ _ _ _ _ _ _ _ _ _ _ _ _ _ _ _ _ _ _ _ _ _ _ _ _ _ _ _ _ _ _ _ _ _ _ _ _ _ _ _ _ _ _ _ _ _ _ _ _ _ _ _ _ _ _ _ _ _ _ _ _ _ _ _ _ _ _ _ _ _ _ _ _ _ _ _ _ _ _ _ _ _ _ _ _ _ _ _ _ _ _ _ _ _ _ _ _ _ _ _ _ _ _ _ _ _ _ _ _ _ _ _ _ _ _ _ _ _ _ _ _ _ _ _ _ _ _ _ _ _ _ _ _ _ _ _ _ _ _ _ _ _ _ _ _ _ _ _ _ _ _ _ _ _ _ _ _ _ _ _ _ _ _ _ _ _ _ _ _ _ _ _ _ _ _ _ _ _ _ _ _ _ _ _ _ _ _ _ _ _ _ _ _ _ _ _ _ _
end Go.Proofs.YtnbecdahfgkffaaGreat
namespace Go.Proofs.YtnbecdahfgkffaaGreat
open Go.RowKit
theorem rep_at (ys : List UInt8) (mark : UInt8) {j : Nat} (h1 : ys.length ≤ j) (h2 : j < ys.length + 40) : (ys ++ List.replicate 40 mark)[j]? = some mark := by
  rw [List.getElem?_append_right h1, List.getElem?_replicate, if_pos (by omega)]
set_option maxRecDepth 100000 in
set_option maxHeartbeats 2000000 in
theorem marked_any (A : Option Addr) (n m c B : Nat) (ys : List UInt8) (mark : UInt8) (w : World) (hr : Rd w B 1 A m (bys (ys ++ List.replicate 40 mark))) (hm : m = n + 40) (hn : n ≤ 4294967296) :
    Calls Tryz.prog 41 #[.slice A m c, .int .u8 mark.toNat] w fun e w' => e = .returned (.int .i64 40) ∧ w = w' := by
  have hyl : ys.length = n := by have := hr.len1; simp [bys] at this; omega
  have Hr := hide hr
  have Hyl := hide hyl
  have hmb : m ≤ 4294967400 := by omega
  have Hm := hide hm
  clear hr hyl hm
  go_enter Tryz.func41, Tryz.ntmps41
  go_wp2_with fail
  go_loopg [5, 6] 40 (fun gk nv av wr => ∃ k j : Nat, gk = 40 - k ∧ k ≤ 40 ∧ k + j = m ∧ nv = .int .i64 k ∧ av = .int .i64 ((j : Int) - 1) ∧ w = wr)
  case atStart => exact ⟨0, m, by omega, by omega, by omega, rfl, rfl, rfl⟩
  case round =>
  obtain ⟨k, j, hgk, hk, hj, rfl, rfl, rfl⟩ := hrel
  have Hgk := hide hgk
  have Hj := hide hj
  have hm := unhide Hm
  have hjm : j ≤ m := by omega
  have hjl : k < 40 → n < j := by omega
  have Hjl := hide hjl
  clear hgk hj hm hjl
  rcases Nat.lt_or_ge k 40 with hlt | hge
  case inr =>
    obtain rfl : k = 40 := by omega
    clear hk hge
    by_cases h0 : j = 0
    · subst h0
      go_wp2_with fail
      go_ret
      exact ⟨rfl, rfl⟩
    · have h1 : (0 : Int) ≤ (j : Int) - 1 := by omega
      go_wp2_with fail
      go_ret
      exact ⟨rfl, rfl⟩
  obtain ⟨i, rfl⟩ : ∃ i, j = i + 1 := ⟨j - 1, by have := (unhide Hjl) hlt; omega⟩
  have e1 : ((i + 1 : Nat) : Int) - 1 = (i : Int) := by omega
  rw [e1]
  obtain ⟨b1, o1, rfl, _, c1⟩ := (unhide Hr).at_ (k := i) (u := .int .u8 mark.toNat) (bys_at (rep_at ys mark (by rw [unhide Hyl]; have := (unhide Hjl) hlt; omega) (by rw [unhide Hyl]; have := unhide Hm; omega)))
  have him : i < m := by omega
  have hself : (((mark.toNat : Nat) : Int) == ((mark.toNat : Nat) : Int)) = true := beq_self_eq_true _
  clear e1
  go_wp2_with fail
  go_roundg (40 - (k + 1))
  case measure => have := unhide Hgk; omega
  case rel => exact ⟨k + 1, i, rfl, by omega, by have := unhide Hj; omega, by go_num, rfl, rfl⟩
structure RB where
  A : Option Addr
  n : Nat
  c : Nat
  xs : List UInt8
abbrev RB.v (r : RB) : Value := .slice r.A r.n r.c
def RB.ok (r : RB) (w : World) (base : Nat) : Prop := w.ownsRow base 5 1 r.v r.n (bys r.xs)
theorem RB.ok.rd {r : RB} {w : World} {base : Nat} (h : r.ok w base) : Rd w w.heap.size 1 r.A r.n (bys r.xs) := Rd.of_own h
def nilSl : Value := .slice none 0 0
def done (D : List RB) (N : Nat) : List Value := D.map RB.v ++ List.replicate (N - D.length) nilSl
theorem done_at {D : List RB} {N j : Nat} {d : RB} (h : D[j]? = some d) : (done D N)[j]? = some d.v := by
  have hlt := (List.getElem?_eq_some_iff.1 h).1
  unfold done
  rw [List.getElem?_append_left (by simpa using hlt), List.getElem?_map, h]
  rfl
theorem done_next {D : List RB} {N : Nat} (h : D.length < N) : (done D N)[D.length]? = some nilSl := by
  unfold done
  rw [List.getElem?_append_right (by simp), List.length_map, Nat.sub_self, List.getElem?_replicate, if_pos (by omega)]
theorem done_set {D : List RB} {N : Nat} (h : D.length < N) (d : RB) : (done D N).set D.length d.v = done (D ++ [d]) N := by
  unfold done
  rw [show N - D.length = (N - (D.length + 1)) + 1 from by omega, List.replicate_succ, List.set_append]
  simp
structure ApS (w wr : World) (base G gl : Nat) (R D E : List RB) : Prop where
  bel : Below base w wr
  hgl : w.heap.size < gl
  size : gl < wr.heap.size
  all : Blk wr G 24 (R.map RB.v)
  was : wr.ownsRow w.heap.size 24 1 (.slice (some ⟨w.heap.size, 0, none⟩) R.length R.length) R.length (done D R.length)
  long : wr.ownsRow w.heap.size 24 1 (.slice (some ⟨gl, 0, none⟩) R.length R.length) R.length (done E R.length)
  rows : ∀ (j : Nat) r, R[j]? = some r → r.ok wr base
  ds : ∀ (j : Nat) d r, D[j]? = some d → R[j]? = some r → d.n = r.n ∧ d.xs = r.xs ∧ d.ok wr (gl + 1)
  es : ∀ (j : Nat) d r, E[j]? = some d → R[j]? = some r → d.n = r.n + 40 ∧ d.xs = r.xs ++ List.replicate 40 (UInt8.ofNat (j + 1)) ∧ d.ok wr base ∧ ∀ g, d.v.ownBlock = some g → r.v.ownBlock = some g ∨ gl + 1 ≤ g
structure ApG (w : World) (base G : Nat) (R : List RB) : Prop where
  lo : base ≤ w.heap.size
  all : Blk w G 24 (R.map RB.v)
  rows : ∀ (j : Nat) r, R[j]? = some r → r.ok w base
  len : ∀ (j : Nat) r, R[j]? = some r → r.n ≤ 4294967296
  G : ∀ (j : Nat) r, R[j]? = some r → r.v.ownBlock ≠ some G
  pair : ∀ (i j : Nat) r s, R[i]? = some r → R[j]? = some s → i ≠ j → ∀ g, r.v.ownBlock = some g → s.v.ownBlock ≠ some g
  few : R.length ≤ 200
theorem ApG.lt {w : World} {base G j : Nat} {R : List RB} (h : ApG w base G R) {r : RB} (hr : R[j]? = some r) {g : Nat} (hg : r.v.ownBlock = some g) : g < w.heap.size := ((h.rows j r hr).lt g hg).2
theorem own_setNe {w : World} {base : Nat} {e : TypeId} {size n : Nat} {v : Value} {xs : List Value} (h : w.ownsRow base e size v n xs) {p : Addr} (hp : ∀ g, v.ownBlock = some g → g ≠ p.block) (u : Value) : (w.setCell p u).ownsRow base e size v n xs := by
  refine ⟨h.1, h.2.imp id ?_⟩
  rintro ⟨g, cap, cur, e1, e2, e3, r⟩
  exact ⟨g, cap, cur, e1, e2, (heap_setCell_other _ _ _ _ (by have := hp g (by rw [e1]; rfl); omega)).trans e3, r⟩
section
variable {w wr w' : World} {base G gl : Nat} {R D E : List RB} {r d : RB}
theorem RB.ok.below {B : Nat} (h : r.ok wr B) (hb : Below wr.heap.size wr w') : r.ok w' B := own_below h hb
theorem RB.ok.lo {B : Nat} (h : r.ok wr B) {g : Nat} (hg : r.v.ownBlock = some g) : B ≤ g := (h.lt g hg).1
theorem ApS.below (h : ApS w wr base G gl R D E) (q : ApG w base G R) (hb : Below wr.heap.size wr w') : ApS w w' base G gl R D E :=
  ⟨h.bel.trans (hb.mono (by have := h.size; have := h.hgl; have := q.lo; omega)), h.hgl, Nat.lt_of_lt_of_le h.size hb.size, h.all.belowSz hb, own_below h.was hb, own_below h.long hb, fun j r hr => (h.rows j r hr).below hb,
   fun j d r h1 h2 => by obtain ⟨a, b, c⟩ := h.ds j d r h1 h2; exact ⟨a, b, c.below hb⟩,
   fun j d r h1 h2 => by obtain ⟨a, b, c, e⟩ := h.es j d r h1 h2; exact ⟨a, b, c.below hb, e⟩⟩
theorem apSnoc_at {α : Type} {l : List α} {x y : α} {j : Nat} (h : (l ++ [x])[j]? = some y) : (l[j]? = some y) ∨ (j = l.length ∧ y = x) := by
  rw [List.getElem?_append] at h
  split at h
  · exact .inl h
  · rename_i hj
    have h2 : j - l.length = 0 := by
      have := (List.getElem?_eq_some_iff.1 h).1
      simp at this
      omega
    rw [h2] at h
    exact .inr ⟨by omega, by simpa using h.symm⟩
theorem ApS.put1 (h : ApS w wr base G gl R D E) (q : ApG w base G R) (hk : R[D.length]? = some r) (hd : d.ok wr (gl + 1)) (e1 : d.n = r.n) (e2 : d.xs = r.xs) : ApS w (wr.setCell ⟨w.heap.size, D.length, none⟩ d.v) base G gl R (D ++ [d]) E := by
  have hlt := (List.getElem?_eq_some_iff.1 hk).1
  have hG := q.all.lt
  have hgl := h.hgl
  refine ⟨h.bel.setCell q.lo _, h.hgl, by simpa using h.size, h.all.other (by simp; omega) _, ?_, own_setNe h.long (fun g hg => ?_) _, fun j s hs => own_setNe (h.rows j s hs) (fun g hg => ?_) _, fun j x s h1 h2 => ?_, fun j x s h1 h2 => ?_⟩
  · rw [← done_set hlt]
    exact own_set h.was _
  · simp [Value.ownBlock] at hg
    simp
    omega
  · have := q.lt hs hg
    simp
    omega
  · rcases apSnoc_at h1 with h1 | ⟨rfl, rfl⟩
    · obtain ⟨a, b, c⟩ := h.ds j x s h1 h2
      exact ⟨a, b, own_setNe c (fun g hg => by have := c.lo hg; simp; omega) _⟩
    · rw [hk] at h2
      injection h2 with h2
      subst h2
      exact ⟨e1, e2, own_setNe hd (fun g hg => by have := hd.lo hg; simp; omega) _⟩
  · obtain ⟨a, b, c, e⟩ := h.es j x s h1 h2
    refine ⟨a, b, own_setNe c (fun g hg => ?_) _, e⟩
    rcases e g hg with h3 | h3
    · have := q.lt h2 h3; simp; omega
    · simp; omega
theorem ApS.gone (h : ApS w wr base G gl R D E) (q : ApG w base G R) (hk : R[E.length]? = some r) {mark : UInt8} {A' : Option Addr} {c' : Nat} (hg : Gone wr w' base r.A r.n r.c r.xs mark 40 A' c') : ApS w w' base G gl R D E := by
  have hG := q.all.lt
  have hgl := h.hgl
  have hsz := hg.grew.kept.size
  have hrk := q.rows _ _ hk
  have hl : base ≤ wr.heap.size := by have := h.size; have := q.lo; omega
  refine ⟨h.bel.trans (hg.grew.below hl (fun k hk' => hrk.lo hk')), h.hgl, Nat.lt_of_lt_of_le h.size hsz, hg.grew.blk (by have := h.size; omega) (q.G _ _ hk) h.all, own_grown h.was hg.grew.kept (fun g hg => ?_), own_grown h.long hg.grew.kept (fun g hg => ?_), fun j s hs => ?_, fun j x s h1 h2 => ?_, fun j x s h1 h2 => ?_⟩
  · simp [Value.ownBlock] at hg
    intro e
    have := q.lt hk e
    omega
  · simp [Value.ownBlock] at hg
    intro e
    have := q.lt hk e
    omega
  · by_cases hj : j = E.length
    · subst hj
      rw [hk] at hs
      injection hs with hs
      subst hs
      exact hg.keeps
    · exact own_grown (h.rows j s hs) hg.grew.kept (fun g hg => q.pair j E.length s r hs hk hj g hg)
  · obtain ⟨a, b, c⟩ := h.ds j x s h1 h2
    exact ⟨a, b, own_grown c hg.grew.kept (fun g hg e => by have := c.lo hg; have := q.lt hk e; omega)⟩
  · obtain ⟨a, b, c, e⟩ := h.es j x s h1 h2
    have hj : j < E.length := (List.getElem?_eq_some_iff.1 h1).1
    refine ⟨a, b, own_grown c hg.grew.kept (fun g hg e2 => ?_), e⟩
    rcases e g hg with h3 | h3
    · exact q.pair j E.length s r h2 hk (by omega) g h3 e2
    · have := q.lt hk e2; omega
theorem ApS.put2 (h : ApS w wr base G gl R D E) (q : ApG w base G R) (hk : R[E.length]? = some r) (hd : d.ok wr base) (e1 : d.n = r.n + 40) (e2 : d.xs = r.xs ++ List.replicate 40 (UInt8.ofNat (E.length + 1)))
    (e3 : ∀ g, d.v.ownBlock = some g → r.v.ownBlock = some g ∨ gl + 1 ≤ g) : ApS w (wr.setCell ⟨gl, E.length, none⟩ d.v) base G gl R D (E ++ [d]) := by
  have hlt := (List.getElem?_eq_some_iff.1 hk).1
  have hG := q.all.lt
  have hgl := h.hgl
  have hlo := q.lo
  refine ⟨h.bel.setCell (by show base ≤ gl; omega) _, h.hgl, by simpa using h.size, h.all.other (by simp; omega) _, own_setNe h.was (fun g hg => ?_) _, ?_, fun j s hs => own_setNe (h.rows j s hs) (fun g hg => ?_) _, fun j x s h1 h2 => ?_, fun j x s h1 h2 => ?_⟩
  · simp [Value.ownBlock] at hg
    simp
    omega
  · rw [← done_set hlt]
    exact own_set h.long _
  · have := q.lt hs hg
    simp
    omega
  · obtain ⟨a, b, c⟩ := h.ds j x s h1 h2
    exact ⟨a, b, own_setNe c (fun g hg => by have := c.lo hg; simp; omega) _⟩
  · rcases apSnoc_at h1 with h1 | ⟨rfl, rfl⟩
    · obtain ⟨a, b, c, e⟩ := h.es j x s h1 h2
      refine ⟨a, b, own_setNe c (fun g hg => ?_) _, e⟩
      rcases e g hg with h3 | h3
      · have := q.lt h2 h3; simp; omega
      · simp; omega
    · rw [hk] at h2
      injection h2 with h2
      subst h2
      refine ⟨e1, e2, own_setNe hd (fun g hg => ?_) _, e3⟩
      rcases e3 g hg with h3 | h3
      · have := q.lt hk h3; simp; omega
      · simp; omega
theorem ApS.drewN (h : ApS w wr base G gl R D E) (m : Nat) : ApS w (wr.drewN m) base G gl R D E := ⟨below_drewN' h.bel m, h.hgl, h.size, h.all, h.was, h.long, h.rows, h.ds, h.es⟩
structure ApX (w wr : World) (base G gl : Nat) (R D : List RB) (k : Nat) : Prop where
  bel : Below base w wr
  hgl : w.heap.size < gl
  all : Blk wr G 24 (R.map RB.v)
  was : wr.ownsRow w.heap.size 24 1 (.slice (some ⟨w.heap.size, 0, none⟩) R.length R.length) R.length (done D R.length)
  rows : ∀ (j : Nat) r, k ≤ j → R[j]? = some r → r.ok wr base
  ds : ∀ (j : Nat) d r, D[j]? = some d → R[j]? = some r → d.n = r.n ∧ d.xs = r.xs ∧ d.ok wr (gl + 1)
theorem ApS.x (h : ApS w wr base G gl R D E) : ApX w wr base G gl R D 0 := ⟨h.bel, h.hgl, h.all, h.was, fun j r _ hr => h.rows j r hr, h.ds⟩
theorem ApX.drewN {k : Nat} (h : ApX w wr base G gl R D k) (m : Nat) : ApX w (wr.drewN m) base G gl R D k := ⟨below_drewN' h.bel m, h.hgl, h.all, h.was, h.rows, h.ds⟩
theorem ApX.next {k : Nat} (h : ApX w wr base G gl R D k) : ApX w wr base G gl R D (k + 1) := ⟨h.bel, h.hgl, h.all, h.was, fun j r hj hr => h.rows j r (by omega) hr, h.ds⟩
theorem ApX.set {k g o : Nat} (h : ApX w wr base G gl R D (k + 1)) (q : ApG w base G R) (hk : R[k]? = some r) (hg : r.v.ownBlock = some g) (u : Value) : ApX w (wr.setCell ⟨g, o, none⟩ u) base G gl R D (k + 1) := by
  have h1 := q.lt hk hg
  have h2 := (q.rows _ _ hk).lo hg
  have h3 := h.hgl
  refine ⟨h.bel.setCell h2 u, h.hgl, h.all.other (fun e => q.G _ _ hk (by rw [hg]; exact congrArg some e)) _, own_setNe h.was (fun g' hg' => ?_) _, fun j s hj hs => own_setNe (h.rows j s hj hs) (fun g' hg' e => ?_) _, fun j x s h4 h5 => ?_⟩
  · simp [Value.ownBlock] at hg'
    simp
    omega
  · simp at e
    subst e
    exact q.pair j k s r hs hk (by omega) _ hg' hg
  · obtain ⟨a, b, c⟩ := h.ds j x s h4 h5
    exact ⟨a, b, own_setNe c (fun g' hg' => by have := c.lo hg'; simp; omega) _⟩
end
end Go.Proofs.YtnbecdahfgkffaaGreat
