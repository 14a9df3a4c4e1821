/- Texts of the claim LawMakerMakes (Elf6, Elf6p, Elf7, MkL4): what the functions that the statement reaches compute, and plain laws of it. Conditions: those that each theorem states. -/
import Derived.Test.YtnbecdahfgkffaaGreatMmK8
import Derived.Test.YtnbecdahfgkffaaGreatMmK2
import Derived.Recover
import Derived.Test.YtnbecdahfgkffaaGreatMmK6
import Derived.Laws.EntriesVeiled
import Derived.Deep.DeepCutAuto
import Derived.Deep.CutBlock
set_option linter.unusedVariables false
set_option linter.unusedSimpArgs false
namespace Go.Proofs.YtnbecdahfgkffaaGreat
open Go.RowKit
structure PW (w : World) (a b c d e : Value) (w' : World) : Prop where
  below : Below w.heap.size w w'
  head : w'.heap[w.heap.size]? = some (.cells #[a, b, c, d] 44 (0, 0))
  err : w'.heap[w.heap.size + 1]? = some (.cells #[e] 35 (0, 0))
theorem PW.start (w : World) : PW w (.int .u16 0) (.int .u64 0) (.int .u64 0) (.slice none 0 0) (.int .i64 0) ((w.alloc (.cells #[.int .u16 0, .int .u64 0, .int .u64 0, .slice none 0 0] 44)).alloc (.cells #[.int .i64 0] 35)) :=
  ⟨((Below.refl _ _).alloc (Nat.le_refl _) _).alloc (by simp) _, (Below.heap_alloc _ _ _ (by simp)).trans (heap_alloc_new _ _), heap_alloc2_new _ _ _⟩
theorem PW.later {w0 w w' : World} {a b c d e : Value} (h : PW w0 a b c d e w) (hb : Below w.heap.size w w') : PW w0 a b c d e w' :=
  ⟨h.below.trans (hb.mono h.below.size), (hb.block _ (lt_of_block h.head)).trans h.head, (hb.block _ (lt_of_block h.err)).trans h.err⟩
theorem PW.setHead {w0 w : World} {a b c d e a' b' c' d' : Value} (h : PW w0 a b c d e w) : PW w0 a' b' c' d' e (w.setRow w0.heap.size #[a', b', c', d']) :=
  ⟨below_setRow h.below (Nat.le_refl _) _, setRow_heap _ _ _ _ _ _ h.head, (setRow_other _ _ _ _ (by simp)).trans h.err⟩
theorem PW.setErr {w0 w : World} {a b c d e e' : Value} (h : PW w0 a b c d e w) : PW w0 a b c d e' (w.setCell ⟨w0.heap.size + 1, 0, none⟩ e') :=
  ⟨h.below.setCell (by simp) _, (Below.heap_setCell _ _ _ _ (by simp)).trans h.head, one_setCell h.err⟩
theorem PW.reset {w0 w : World} {a b c d e0 : Value} (h : PW w0 a b c d e0 w) (e : Int) : PW w0 (.int .u16 0) (.int .u64 0) (.int .u64 0) (.slice none 0 0) (.int .i64 e) ((w.setRow w0.heap.size #[.int .u16 0, .int .u64 0, .int .u64 0, .slice none 0 0]).setCell ⟨w0.heap.size + 1, 0, none⟩ (.int .i64 e)) := h.setHead.setErr
theorem headInfo : (Tryz.prog.info? 44).map (·.size) = some 4 := by kernel_rfl
theorem headOne (a b c : Int) (A : Option Addr) (n cp : Nat) : (#[.int .u16 a, .int .u64 b, .int .u64 c, .slice A n cp] : Array Value).all (·.oneCell') = true := by simp [Value.oneCell']
set_option maxRecDepth 100000 in
theorem catch_panicking (w0 : World) (a b c d e0 : Value) (e : Int) (w : World) (h : PW w0 a b c d e0 w) :
    CallsD Tryz.prog 42 #[.pointer (some ⟨w0.heap.size, 0, none⟩), .pointer (some ⟨w0.heap.size + 1, 0, none⟩)] (.panicking [{ v := .iface 102 (.int .i64 e), recovered := false }]) w fun r u' w' =>
      r = .returned (.tuple #[]) ∧ u' = .panicking [{ v := .iface 102 (.int .i64 e), recovered := true }] ∧ PW w0 (.int .u16 0) (.int .u64 0) (.int .u64 0) (.slice none 0 0) (.int .i64 e) w' := by
  refine callsD_of_wpS Tryz.func42 rfl fun c₀ cs hu => ?_
  have hta : ∀ w, (Instr.typeAssert (.iface 102 (.int .i64 e)) 20 102 true).run Tryz.prog w = .ok (.tuple #[.int .i64 e, .bool true]) w := fun _ => by kernel_rfl
  have h3 := cell_of_one h.err
  have h4 := free_of_one h.err
  have h5 : (w.setRow w0.heap.size #[.int .u16 0, .int .u64 0, .int .u64 0, .slice none 0 0]).cell? ⟨w0.heap.size + 1, 0, none⟩ = some e0 := by
    rw [cell_setRow_other _ _ _ _ (by simp)]
    exact h3
  have h6 : (w.setRow w0.heap.size #[.int .u16 0, .int .u64 0, .int .u64 0, .slice none 0 0]).frozen? ⟨w0.heap.size + 1, 0, none⟩ = false := by
    rw [World.frozen?_of_block (setRow_other _ _ _ _ (by simp))]
    exact h4
  have H := hide h
  clear h h3 h4
  simp only [Tryz.ntmps42, List.size_toArray, List.length_cons, List.length_nil, Nat.reduceAdd, Nat.reduceSub, Array.replicate_succ, Array.replicate_zero, List.push_toArray, List.append_toArray, List.nil_append, List.cons_append]
  apply wpS_seq
  apply wpS_region
  simp [wpOpsS, go_sem, recoverD, hu, Exit.thenS]
  refine wpS_of_wp ?_
  go_wp2_with ((with_reducible refine (@id (wpList _ _ _ (Oper.mk none (Op.store 44 (.tmp 0) (.tmp 11)) _ _ _ none :: _) _ _) ?_)); refine wpList_store_row rfl 44 (.tmp 0) (.tmp 11) rfl w0.heap.size #[.int .u16 0, .int .u64 0, .int .u64 0, .slice none 0 0] rfl rfl 44 _ (unhide H).head headInfo rfl (headOne _ _ _ _ _ _) ?_)
  simp [bodyPostS, results, Tryz.results42]
  exact (unhide H).reset e
set_option maxRecDepth 100000 in
theorem catch_idle (p q : Addr) (w : World) :
    CallsD Tryz.prog 42 #[.pointer (some p), .pointer (some q)] .returning w fun r u' w' => r = .returned (.tuple #[]) ∧ u' = .returning ∧ w' = w := by
  refine callsD_of_wpS Tryz.func42 rfl fun c₀ cs hu => ?_
  simp only [Tryz.ntmps42, List.size_toArray, List.length_cons, List.length_nil, Nat.reduceAdd, Nat.reduceSub, Array.replicate_succ, Array.replicate_zero, List.push_toArray, List.append_toArray, List.nil_append, List.cons_append]
  apply wpS_seq
  apply wpS_region
  simp [wpOpsS, go_sem, recoverD, hu, Exit.thenS]
  refine wpS_of_wp ?_
  go_wp2
  cases c₀
  simp_all [bodyPostS, results, Tryz.results42]
abbrev noHead : Value := .agg #[.int .u16 0, .int .u64 0, .int .u64 0, .slice none 0 0]
theorem parse_results {w0 w1 : World} {tmps : Array Value} {a b c d e : Value} (h : PW w0 a b c d e w1) (h2 : tmps.getD 2 undef = .pointer (some ⟨w0.heap.size, 0, none⟩)) (h3 : tmps.getD 3 undef = .pointer (some ⟨w0.heap.size + 1, 0, none⟩)) :
    (results Tryz.f14 tmps).run Tryz.prog w1 = .ok (.tuple #[.agg #[a, b, c, d], e]) w1 := by
  obtain ⟨q0, q1, q2, q3⟩ := box_facts h.head
  have q4 := cell_of_one h.err
  have h2' : tmps[2]?.getD undef = .pointer (some ⟨w0.heap.size, 0, none⟩) := by simpa using h2
  have h3' : tmps[3]?.getD undef = .pointer (some ⟨w0.heap.size + 1, 0, none⟩) := by simpa using h3
  simp [results, Tryz.results14, go_sem, h2', h3', q0, q1, q2, q3, q4]
theorem door_bad {R : Ending → World → Prop} {w0 w1 : World} {tmps : Array Value} {a b c d e0 : Value} {e : Int} (h : PW w0 a b c d e0 w1) (h2 : tmps.getD 2 undef = .pointer (some ⟨w0.heap.size, 0, none⟩)) (h3 : tmps.getD 3 undef = .pointer (some ⟨w0.heap.size + 1, 0, none⟩))
    (hR : ∀ w', Below w0.heap.size w0 w' → R (.returned (.tuple #[noHead, .int .i64 e])) w') :
    bodyPostD Tryz.prog Tryz.f14 R (Exit.panic [{ v := .iface 102 (.int .i64 e), recovered := false }])
      { tmps := tmps, defers := [{ target := Target.fn (Fn.func 42) #[.pointer (some ⟨w0.heap.size, 0, none⟩), .pointer (some ⟨w0.heap.size + 1, 0, none⟩)], args := #[] }] } w1 := by
  refine leaves_cons (f := 42) (args := #[.pointer (some ⟨w0.heap.size, 0, none⟩), .pointer (some ⟨w0.heap.size + 1, 0, none⟩)]) (by simp) (by simp [go_sem]) ?_
  refine (catch_panicking w0 a b c d e0 e w1 h).mono ?_
  rintro e u' w'' ⟨rfl, rfl, hp⟩
  exact ⟨_, parse_results hp h2 h3, hR _ hp.below⟩
theorem door_ok {R : Ending → World → Prop} {w0 w1 : World} {tmps : Array Value} {a b c d e : Value} (h : PW w0 a b c d e w1) (h2 : tmps.getD 2 undef = .pointer (some ⟨w0.heap.size, 0, none⟩)) (h3 : tmps.getD 3 undef = .pointer (some ⟨w0.heap.size + 1, 0, none⟩))
    (hR : R (.returned (.tuple #[.agg #[a, b, c, d], e])) w1) :
    bodyPostD Tryz.prog Tryz.f14 R Exit.ret
      { tmps := tmps, defers := [{ target := Target.fn (Fn.func 42) #[.pointer (some ⟨w0.heap.size, 0, none⟩), .pointer (some ⟨w0.heap.size + 1, 0, none⟩)], args := #[] }] } w1 := by
  refine leaves_cons (f := 42) (args := #[.pointer (some ⟨w0.heap.size, 0, none⟩), .pointer (some ⟨w0.heap.size + 1, 0, none⟩)]) (by simp) (by simp [go_sem]) ?_
  refine (catch_idle _ _ _).mono ?_
  rintro e u' w'' ⟨rfl, rfl, rfl⟩
  exact ⟨_, parse_results h h2 h3, hR⟩
set_option maxHeartbeats 1600000 in
set_option maxRecDepth 100000 in
theorem parse_nohdr (A : Option Addr) (m c : Nat) (b : List UInt8) (w : World) (hb : Rd w w.heap.size 1 A m (u8s b)) (hm : m ≤ 4294967296) (hmc : m ≤ c) (hh : El.hdrOk b = false) :
    Calls Tryz.prog 14 #[.slice A m c] w fun e w' => e = .returned (.tuple #[noHead, .int .i64 13]) ∧ Below w.heap.size w w' := by
  have hmf : ∀ (fn : Fn) (first cap : Array Value) (w : World), (Instr.makeFunc fn first cap).run Tryz.prog w = .ok (.func fn first cap) w := fun _ _ _ _ => rfl
  have hpw : PW w (.int .u16 0) (.int .u64 0) (.int .u64 0) (.slice none 0 0) (.int .i64 0) ((w.alloc (.cells #[.int .u16 0, .int .u64 0, .int .u64 0, .slice none 0 0] 44)).alloc (.cells #[.int .i64 0] 35)) := PW.start w
  have Hpw := hide hpw
  clear hpw
  go_enter_defers Tryz.func14, Tryz.ntmps14
  go_wp2_with (go_at_call 43; refine (header_bad A m c w.heap.size b _ (by simp; omega) ((hb.alloc (Nat.le_refl _) _).alloc (by simp) _) (by unfold maxLen; omega) hmc hh).mono ?_; rintro e w1 ⟨rfl, hb1⟩)
  exact door_bad ((unhide Hpw).later hb1) rfl rfl fun w' hb => ⟨rfl, hb⟩
end Go.Proofs.YtnbecdahfgkffaaGreat
namespace Go.Proofs.YtnbecdahfgkffaaGreat.El
open Go.Proofs.YtnbecdahfgkffaaGreat
def topOf : List Sg → Nat → Nat
  | [], t => t
  | s :: r, t => if isLoad s then topOf r (up (s.addr + s.msz)) else topOf r t
theorem rises_app (a r : List Sg) : ∀ t, rises (a ++ r) t = (rises a t && rises r (topOf a t)) := by
  induction a with
  | nil => intro t; simp [rises, topOf]
  | cons s a ih =>
    intro t
    simp only [List.cons_append, rises, topOf]
    cases isLoad s
    · simp [ih]
    · simp [ih, Bool.and_assoc]
theorem topOf_snoc (a : List Sg) (s : Sg) : ∀ t, topOf (a ++ [s]) t = if isLoad s then up (s.addr + s.msz) else topOf a t := by
  induction a with
  | nil => intro t; simp [topOf]
  | cons x a ih =>
    intro t
    simp only [List.cons_append, topOf]
    cases isLoad x
    · simp [ih]
    · simp only [if_true, ih]
theorem segsOf_succ (b : List UInt8) (k : Nat) : segsOf b (k + 1) = segsOf b k ++ [segAt b (Wd.num b 32 8 + k * 56)] := by simp [segsOf, List.range_succ]
theorem segsOf_len (b : List UInt8) (k : Nat) : (segsOf b k).length = k := by simp [segsOf]
theorem segsOf_take (b : List UInt8) {k n : Nat} (h : k ≤ n) : ∃ r, segsOf b n = segsOf b k ++ r := by
  obtain ⟨d, rfl⟩ := Nat.exists_eq_add_of_le h
  exact ⟨_, by unfold segsOf; rw [List.range_add, List.map_append]⟩
def readOk (b : List UInt8) (k : Nat) : Bool := (List.range k).all (fun i => segOk b (Wd.num b 32 8 + i * 56) (Wd.num b 16 2)) && rises (segsOf b k) 0
def topAt (b : List UInt8) (k : Nat) : Nat := topOf (segsOf b k) 0
theorem readOk_load {b : List UInt8} {k : Nat} (h : readOk b k = true) (hs : segOk b (Wd.num b 32 8 + k * 56) (Wd.num b 16 2) = true) (h1 : (segAt b (Wd.num b 32 8 + k * 56)).kind = 1) (ht : topAt b k ≤ (segAt b (Wd.num b 32 8 + k * 56)).addr) :
    readOk b (k + 1) = true ∧ topAt b (k + 1) = up ((segAt b (Wd.num b 32 8 + k * 56)).addr + (segAt b (Wd.num b 32 8 + k * 56)).msz) := by
  simp only [readOk, Bool.and_eq_true] at h
  have hl : isLoad (segAt b (Wd.num b 32 8 + k * 56)) = true := by simp [isLoad, h1]
  refine ⟨?_, ?_⟩
  · simp only [readOk, segsOf_succ, rises_app, List.range_succ, List.all_append, List.all_cons, List.all_nil, hs, h.1, h.2, Bool.true_and, Bool.and_true, rises, hl, if_true]
    exact decide_eq_true ht
  · rw [topAt, segsOf_succ, topOf_snoc, hl]; simp
theorem readOk_other {b : List UInt8} {k : Nat} (h : readOk b k = true) (hs : segOk b (Wd.num b 32 8 + k * 56) (Wd.num b 16 2) = true) (h1 : ¬ (segAt b (Wd.num b 32 8 + k * 56)).kind = 1) :
    readOk b (k + 1) = true ∧ topAt b (k + 1) = topAt b k := by
  simp only [readOk, Bool.and_eq_true] at h
  have hl : isLoad (segAt b (Wd.num b 32 8 + k * 56)) = false := by simp [isLoad, h1]
  refine ⟨?_, ?_⟩
  · simp only [readOk, segsOf_succ, rises_app, List.range_succ, List.all_append, List.all_cons, List.all_nil, hs, h.1, h.2, Bool.true_and, Bool.and_true, rises, hl]
    simp
  · rw [topAt, segsOf_succ, topOf_snoc, hl]; simp [topAt]
theorem formOk_eq (b : List UInt8) : formOk b = (decide (Wd.num b 32 8 + Wd.num b 56 2 * 56 ≤ b.length) && readOk b (Wd.num b 56 2) && wholeOk (headOf b)) := by
  simp only [formOk, readOk, Bool.and_assoc]
theorem readOk_mono {b : List UInt8} {k n : Nat} (hk : k ≤ n) (h : readOk b k = false) : readOk b n = false := by
  rw [Bool.eq_false_iff] at h ⊢
  intro hn
  apply h
  simp only [readOk, Bool.and_eq_true, List.all_eq_true, List.mem_range] at hn ⊢
  refine ⟨fun i hi => hn.1 i (by omega), ?_⟩
  obtain ⟨r, hr⟩ := segsOf_take b hk
  have := hn.2
  rw [hr, rises_app, Bool.and_eq_true] at this
  exact this.1
theorem parse_noform {b : List UInt8} (hh : hdrOk b = true) (hf : formOk b = false) : parse b = (25, ⟨0, 0, 0, []⟩) := by simp [parse, hh, hf]
theorem parse_notin {b : List UInt8} (hh : hdrOk b = true) (h : ¬ Wd.num b 32 8 + Wd.num b 56 2 * 56 ≤ b.length) : parse b = (25, ⟨0, 0, 0, []⟩) := parse_noform hh (by simp [formOk_eq, h])
theorem parse_unread {b : List UInt8} (hh : hdrOk b = true) {k : Nat} (hk : k ≤ Wd.num b 56 2) (h : readOk b k = false) : parse b = (25, ⟨0, 0, 0, []⟩) := parse_noform hh (by simp [formOk_eq, readOk_mono hk h])
theorem parse_badseg {b : List UInt8} (hh : hdrOk b = true) {k : Nat} (hk : k < Wd.num b 56 2) (h : segOk b (Wd.num b 32 8 + k * 56) (Wd.num b 16 2) = false) : parse b = (25, ⟨0, 0, 0, []⟩) :=
  parse_unread hh hk (by simp [readOk, List.range_succ, h])
theorem parse_norise {b : List UInt8} (hh : hdrOk b = true) {k : Nat} (hk : k < Wd.num b 56 2) (h1 : (segAt b (Wd.num b 32 8 + k * 56)).kind = 1) (ht : ¬ topAt b k ≤ (segAt b (Wd.num b 32 8 + k * 56)).addr) : parse b = (25, ⟨0, 0, 0, []⟩) := by
  refine parse_unread hh (k := k + 1) hk ?_
  have hl : isLoad (segAt b (Wd.num b 32 8 + k * 56)) = true := by simp [isLoad, h1]
  have ht' : ¬ topOf (segsOf b k) 0 ≤ (segAt b (Wd.num b 32 8 + k * 56)).addr := ht
  simp [readOk, segsOf_succ, rises_app, rises, hl, ht']
theorem parse_unwhole {b : List UInt8} (hh : hdrOk b = true) (h : wholeOk (headOf b) = false) : parse b = (25, ⟨0, 0, 0, []⟩) := parse_noform hh (by simp [formOk_eq, h])
theorem parse_good {b : List UInt8} (hh : hdrOk b = true) (h1 : Wd.num b 32 8 + Wd.num b 56 2 * 56 ≤ b.length) (h2 : readOk b (Wd.num b 56 2) = true) (h : wholeOk (headOf b) = true) : parse b = (0, headOf b) := by simp [parse, hh, formOk_eq, h1, h2, h]
theorem load_end {b : List UInt8} {p ty : Nat} (hs : segOk b p ty = true) (h1 : (segAt b p).kind = 1) : (segAt b p).addr + (segAt b p).msz ≤ 140737488355328 := by
  simp only [segOk, Bool.and_eq_true] at hs
  have h := hs.1.2
  have hk : knownB (segAt b p).kind = true := by rw [h1]; rfl
  have he : endOf ty ≤ 140737488355328 := by unfold endOf; split <;> omega
  simp only [endB, hk, Bool.not_true, Bool.false_or, decide_eq_true_eq] at h
  omega
theorem segAt_fit {b : List UInt8} {p ty : Nat} (hs : segOk b p ty = true) : SgFit (segAt b p) := by
  simp only [segOk, Bool.and_eq_true] at hs
  have h := hs.1.1.1
  simp only [flagsB, decide_eq_true_eq] at h
  exact ⟨Wd.num_lt _ _ 4, by omega, Wd.num_lt _ _ 8, Wd.num_lt _ _ 8, Wd.num_lt _ _ 8, Wd.num_lt _ _ 8⟩
theorem readOk_fit {b : List UInt8} {k : Nat} (h : readOk b k = true) : ∀ x ∈ segsOf b k, SgFit x := by
  intro x hx
  simp only [readOk, Bool.and_eq_true, List.all_eq_true, List.mem_range] at h
  simp only [segsOf, List.mem_map, List.mem_range] at hx
  obtain ⟨i, hi, rfl⟩ := hx
  exact segAt_fit (h.1 i hi)
end Go.Proofs.YtnbecdahfgkffaaGreat.El
namespace Go.Proofs.YtnbecdahfgkffaaGreat
open Go.RowKit
theorem PW.later2 {w0 w w' : World} {a b c d e : Value} (h : PW w0 a b c d e w) (hb : Below (w0.heap.size + 2) w w') : PW w0 a b c d e w' :=
  ⟨h.below.trans (hb.mono (by omega)), (hb.block _ (by omega)).trans h.head, (hb.block _ (by omega)).trans h.err⟩
theorem PW.sz {w0 w : World} {a b c d e : Value} (h : PW w0 a b c d e w) : w0.heap.size + 2 ≤ w.heap.size := by have := lt_of_block h.err; omega
theorem PW.own {w0 w : World} {a b c d e : Value} (h : PW w0 a b c d e w) : World.ownsRow w (w0.heap.size + 2) 58 6 (.slice none 0 0) 0 [] := World.ownsRow_nil _ _ _ _
theorem PW.setSegs {w0 w : World} {a b c d e d' : Value} (h : PW w0 a b c d e w) : PW w0 a b c d' e (w.setCell ⟨w0.heap.size, 3, none⟩ d') :=
  ⟨h.below.setCell (by simp) _, by simpa using (heap_setCell_same _ _ 3 _ _ d' h.head), (Below.heap_setCell _ _ _ _ (by simp)).trans h.err⟩
def ParseEnd (b : List UInt8) (w : World) (e : Ending) (w' : World) : Prop :=
  ∃ A' c', e = .returned (.tuple #[.agg #[.int .u16 (El.parse b).2.type, .int .u64 (El.parse b).2.entry, .int .u64 (El.parse b).2.phoff, .slice A' (El.parse b).2.segs.length c'], .int .i64 (El.parse b).1]) ∧
    w'.ownsRow w.heap.size 58 6 (.slice A' (El.parse b).2.segs.length c') (El.parse b).2.segs.length (segCells (El.parse b).2.segs) ∧ Below w.heap.size w w'
theorem end_bad {b : List UInt8} {w w' : World} (h : El.parse b = (25, ⟨0, 0, 0, []⟩)) (hb : Below w.heap.size w w') : ParseEnd b w (.returned (.tuple #[noHead, .int .i64 25])) w' := by
  unfold ParseEnd
  rw [h]
  exact ⟨none, 0, rfl, World.ownsRow_nil _ _ _ _, hb⟩
theorem own_sameE {w w' : World} {base : Nat} {e : TypeId} {size n : Nat} {v : Value} {xs : List Value} (h : w.ownsRow base e size v n xs) (hk : ∀ g, base ≤ g → g < w.heap.size → w'.heap[g]? = w.heap[g]?) : w'.ownsRow base e size v n xs := by
  refine ⟨h.1, ?_⟩
  rcases h.2 with hn | ⟨g, cap, cur, hv, hb, hg, rest⟩
  · exact .inl hn
  · exact .inr ⟨g, cap, cur, hv, hb, (hk g hb (lt_of_block hg)).trans hg, rest⟩
theorem end_good {b : List UInt8} {w w' : World} {ty en ph n c' : Nat} {A' : Option Addr} {l : List El.Sg} (h : El.parse b = (0, El.headOf b)) (hd : El.headOf b = ⟨ty, en, ph, l⟩) (hl : l.length = n) (hown : w'.ownsRow (w.heap.size + 2) 58 6 (.slice A' n c') n (segCells l)) (hb : Below w.heap.size w w') :
    ParseEnd b w (.returned (.tuple #[.agg #[.int .u16 ty, .int .u64 en, .int .u64 ph, .slice A' n c'], .int .i64 0])) w' := by
  unfold ParseEnd
  rw [h, hd]
  subst hl
  exact ⟨A', c', rfl, own_base hown (by omega), hb⟩
set_option maxHeartbeats 4000000 in
set_option maxRecDepth 100000 in
theorem parse_notin (A : Option Addr) (m c : Nat) (b : List UInt8) (w : World) (hb : Rd w w.heap.size 1 A m (u8s b)) (hm : m ≤ 4294967296) (hmc : m ≤ c) (hh : El.hdrOk b = true) (hin : ¬ Wd.num b 32 8 + Wd.num b 56 2 * 56 ≤ m) :
    Calls Tryz.prog 14 #[.slice A m c] w (ParseEnd b w) := by
  have hmf : ∀ (fn : Fn) (first cap : Array Value) (w : World), (Instr.makeFunc fn first cap).run Tryz.prog w = .ok (.func fn first cap) w := fun _ _ _ _ => rfl
  have hpw : PW w (.int .u16 0) (.int .u64 0) (.int .u64 0) (.slice none 0 0) (.int .i64 0) ((w.alloc (.cells #[.int .u16 0, .int .u64 0, .int .u64 0, .slice none 0 0] 44)).alloc (.cells #[.int .i64 0] 35)) := PW.start w
  have hbl : b.length = m := by simpa using hb.len1
  have hpar := El.parse_notin hh (by rw [hbl]; exact hin)
  have h64 : 64 ≤ m := by
    have hh2 := hh
    unfold El.hdrOk at hh2
    simp only [Bool.and_eq_true, decide_eq_true_eq] at hh2
    omega
  have h8 : Wd.num b 56 2 ≤ 8 := by
    have hh2 := hh
    unfold El.hdrOk at hh2
    simp only [Bool.and_eq_true, decide_eq_true_eq] at hh2
    exact hh2.2.2
  have GH := hide (fun (w' : World) (h : Below w.heap.size w w') => header_ok A m c w.heap.size b w' h.size (hb.below h) (by unfold maxLen; omega) hmc hh)
  have G1 := hide (fun (w' : World) (h : Below w.heap.size w w') => at_lit A m c w.heap.size b 16 2 2 rfl w' h.size (hb.below h) (by unfold maxLen; omega) (by omega) (by omega))
  have G2 := hide (fun (w' : World) (h : Below w.heap.size w w') => at_lit A m c w.heap.size b 24 8 8 rfl w' h.size (hb.below h) (by unfold maxLen; omega) (by omega) (by omega))
  have G3 := hide (fun (w' : World) (h : Below w.heap.size w w') => at_lit A m c w.heap.size b 32 8 8 rfl w' h.size (hb.below h) (by unfold maxLen; omega) (by omega) (by omega))
  have l0 : Wd.num b 16 2 < 65536 := Wd.num_lt _ _ _
  have l1 : Wd.num b 24 8 < 18446744073709551616 := Wd.num_lt _ _ _
  have l2 : Wd.num b 32 8 < 18446744073709551616 := Wd.num_lt _ _ _
  have Hpar := hide hpar
  have Hpw := hide hpw
  clear hpw hpar hh hb hbl
  generalize Wd.num b 16 2 = ty at *
  generalize Wd.num b 24 8 = en at *
  generalize Wd.num b 32 8 = ph at *
  generalize Wd.num b 56 2 = n at *
  have i1 : decide (((ph : Nat) : Int) + ((n : Nat) : Int) * 56 ≤ ((m : Nat) : Int)) = false := by simp; omega
  go_enter_defers Tryz.func14, Tryz.ntmps14
  go_wp2_with (first
    | (go_at_call 43; refine ((unhide GH) _ (unhide Hpw).below).mono ?_; rintro e w1 ⟨rfl, hx⟩; replace Hpw := hide ((unhide Hpw).later hx); clear hx)
    | (go_at_call_of 44 (Value.int IntKind.u64 16); refine ((unhide G1) _ (unhide Hpw).below).mono ?_; rintro e w1 ⟨rfl, hx⟩; replace Hpw := hide ((unhide Hpw).later hx); clear hx)
    | (go_at_call_of 44 (Value.int IntKind.u64 24); refine ((unhide G2) _ (unhide Hpw).below).mono ?_; rintro e w1 ⟨rfl, hx⟩; replace Hpw := hide ((unhide Hpw).later hx); clear hx)
    | (go_at_call_of 44 (Value.int IntKind.u64 32); refine ((unhide G3) _ (unhide Hpw).below).mono ?_; rintro e w1 ⟨rfl, hx⟩; replace Hpw := hide ((unhide Hpw).later hx); clear hx)
    | (go_at_call_of 45 (Value.bool true); refine (must_yes _ _).mono ?_; rintro e w1 ⟨rfl, rfl⟩)
    | (go_at_call_of 45 (Value.bool false); refine (must_no _ _).mono ?_; rintro e w1 ⟨rfl, rfl⟩)
    | (go_at_call 46; refine (inside_any _ _ _ _ (by omega) (by omega) (by omega) (by omega) (by omega)).mono ?_; rintro e w1 ⟨rfl, rfl⟩)
    | ((with_reducible refine (@id (wpList _ _ _ (Oper.mk none (Op.store 44 (.tmp 2) (.tmp 20)) _ _ _ none :: _) _ _) ?_)); refine wpList_store_row rfl 44 (.tmp 2) (.tmp 20) rfl w.heap.size #[.int .u16 ty, .int .u64 en, .int .u64 ph, .slice none 0 0] rfl rfl 44 _ (unhide Hpw).head headInfo rfl (headOne _ _ _ _ _ _) ?_; replace Hpw := hide ((unhide Hpw).setHead (a' := .int .u16 ty) (b' := .int .u64 en) (c' := .int .u64 ph) (d' := .slice none 0 0)); obtain ⟨q0, q1, q2, q3⟩ := box_facts (unhide Hpw).head))
  all_goals exact door_bad (unhide Hpw) rfl rfl fun w' hb => end_bad (unhide Hpar) hb
set_option maxHeartbeats 8000000 in
set_option maxRecDepth 100000 in
theorem parse_in (A : Option Addr) (m c : Nat) (b : List UInt8) (w : World) (hb : Rd w w.heap.size 1 A m (u8s b)) (hm : m ≤ 4294967296) (hmc : m ≤ c) (hh : El.hdrOk b = true) (hin : Wd.num b 32 8 + Wd.num b 56 2 * 56 ≤ m) :
    Calls Tryz.prog 14 #[.slice A m c] w (ParseEnd b w) := by
  have hmf : ∀ (fn : Fn) (first cap : Array Value) (w : World), (Instr.makeFunc fn first cap).run Tryz.prog w = .ok (.func fn first cap) w := fun _ _ _ _ => rfl
  have hpw : PW w (.int .u16 0) (.int .u64 0) (.int .u64 0) (.slice none 0 0) (.int .i64 0) ((w.alloc (.cells #[.int .u16 0, .int .u64 0, .int .u64 0, .slice none 0 0] 44)).alloc (.cells #[.int .i64 0] 35)) := PW.start w
  have hbl : b.length = m := by simpa using hb.len1
  have h64 : 64 ≤ m := by
    have hh2 := hh
    unfold El.hdrOk at hh2
    simp only [Bool.and_eq_true, decide_eq_true_eq] at hh2
    omega
  have h8 : Wd.num b 56 2 ≤ 8 := by
    have hh2 := hh
    unfold El.hdrOk at hh2
    simp only [Bool.and_eq_true, decide_eq_true_eq] at hh2
    exact hh2.2.2
  have l0 : Wd.num b 16 2 < 65536 := Wd.num_lt _ _ _
  have l1 : Wd.num b 24 8 < 18446744073709551616 := Wd.num_lt _ _ _
  have l2 : Wd.num b 32 8 < 18446744073709551616 := Wd.num_lt _ _ _
  have GH := hide (fun (w' : World) (h : Below w.heap.size w w') => header_ok A m c w.heap.size b w' h.size (hb.below h) (by unfold maxLen; omega) hmc hh)
  have G1 := hide (fun (w' : World) (h : Below w.heap.size w w') => at_lit A m c w.heap.size b 16 2 2 rfl w' h.size (hb.below h) (by unfold maxLen; omega) (by omega) (by omega))
  have G2 := hide (fun (w' : World) (h : Below w.heap.size w w') => at_lit A m c w.heap.size b 24 8 8 rfl w' h.size (hb.below h) (by unfold maxLen; omega) (by omega) (by omega))
  have G3 := hide (fun (w' : World) (h : Below w.heap.size w w') => at_lit A m c w.heap.size b 32 8 8 rfl w' h.size (hb.below h) (by unfold maxLen; omega) (by omega) (by omega))
  have GS := hide (fun (k : Nat) (hk : k < Wd.num b 56 2) (w' : World) (h : Below w.heap.size w w') => segment_any A m c w.heap.size b (Wd.num b 32 8 + k * 56) (Wd.num b 16 2) w' h.size (hb.below h) (by unfold maxLen; omega) (by omega) (by omega) l0)
  have GW : Hid (∀ (A' : Option Addr) (c' B : Nat) (hr : El.readOk b (Wd.num b 56 2) = true) (w' : World) (hB : B ≤ w'.heap.size) (hl : Rd w' B 6 A' (Wd.num b 56 2) (segCells (El.segsOf b (Wd.num b 56 2)))),
      Calls Tryz.prog 49 #[.agg #[.int .u16 (Wd.num b 16 2), .int .u64 (Wd.num b 24 8), .int .u64 (Wd.num b 32 8), .slice A' (Wd.num b 56 2) c']] w' fun e w'' => e = Or3 (El.wholeOk (El.headOf b)) (.returned (.tuple #[])) (wrongs 25) ∧ Below w'.heap.size w' w'') :=
    hide fun A' c' B hr w' hB hl => whole_any A' (Wd.num b 56 2) c' B (El.headOf b) w' hB hl (by omega) (El.readOk_fit hr) l0 l1
  have P1 := hide (fun (k : Nat) (hk : k < Wd.num b 56 2) (h : El.segOk b (Wd.num b 32 8 + k * 56) (Wd.num b 16 2) = false) => El.parse_badseg hh hk h)
  have P2 := hide (fun (k : Nat) (hk : k < Wd.num b 56 2) (h1 : (El.segAt b (Wd.num b 32 8 + k * 56)).kind = 1) (ht : ¬ El.topAt b k ≤ (El.segAt b (Wd.num b 32 8 + k * 56)).addr) => El.parse_norise hh hk h1 ht)
  have P3 := hide (El.parse_unwhole hh)
  have P4 := hide (El.parse_good hh (by rw [hbl]; exact hin))
  have SS := hide (fun k => El.segsOf_succ b k)
  have RL := hide (fun (k : Nat) => El.readOk_load (b := b) (k := k))
  have RO := hide (fun (k : Nat) => El.readOk_other (b := b) (k := k))
  have LE := hide (fun (k : Nat) => El.load_end (b := b) (p := Wd.num b 32 8 + k * 56) (ty := Wd.num b 16 2))
  have FT := hide (fun (k : Nat) => El.segAt_fit (b := b) (p := Wd.num b 32 8 + k * 56) (ty := Wd.num b 16 2))
  have SL := hide (El.segsOf_len b (Wd.num b 56 2))
  have HD : Hid (El.headOf b = ⟨Wd.num b 16 2, Wd.num b 24 8, Wd.num b 32 8, El.segsOf b (Wd.num b 56 2)⟩) := hide rfl
  have Hpw := hide hpw
  clear hpw hh hb hbl
  generalize Wd.num b 16 2 = ty at *
  generalize Wd.num b 24 8 = en at *
  generalize Wd.num b 32 8 = ph at *
  generalize Wd.num b 56 2 = n at *
  have i1 : decide (((ph : Nat) : Int) + ((n : Nat) : Int) * 56 ≤ ((m : Nat) : Int)) = true := by simp; omega
  go_enter_defers Tryz.func14, Tryz.ntmps14
  go_wp2_with (first
    | (go_at_call 43; refine ((unhide GH) _ (unhide Hpw).below).mono ?_; rintro e w1 ⟨rfl, hx⟩; replace Hpw := hide ((unhide Hpw).later hx); clear hx)
    | (go_at_call_of 44 (Value.int IntKind.u64 16); refine ((unhide G1) _ (unhide Hpw).below).mono ?_; rintro e w1 ⟨rfl, hx⟩; replace Hpw := hide ((unhide Hpw).later hx); clear hx)
    | (go_at_call_of 44 (Value.int IntKind.u64 24); refine ((unhide G2) _ (unhide Hpw).below).mono ?_; rintro e w1 ⟨rfl, hx⟩; replace Hpw := hide ((unhide Hpw).later hx); clear hx)
    | (go_at_call_of 44 (Value.int IntKind.u64 32); refine ((unhide G3) _ (unhide Hpw).below).mono ?_; rintro e w1 ⟨rfl, hx⟩; replace Hpw := hide ((unhide Hpw).later hx); clear hx)
    | (go_at_call_of 45 (Value.bool true); refine (must_yes _ _).mono ?_; rintro e w1 ⟨rfl, rfl⟩)
    | (go_at_call 46; refine (inside_any _ _ _ _ (by omega) (by omega) (by omega) (by omega) (by omega)).mono ?_; rintro e w1 ⟨rfl, rfl⟩)
    | ((with_reducible refine (@id (wpList _ _ _ (Oper.mk none (Op.store 44 (.tmp 2) (.tmp 20)) _ _ _ none :: _) _ _) ?_)); refine wpList_store_row rfl 44 (.tmp 2) (.tmp 20) rfl w.heap.size #[.int .u16 ty, .int .u64 en, .int .u64 ph, .slice none 0 0] rfl rfl 44 _ (unhide Hpw).head headInfo rfl (headOne _ _ _ _ _ _) ?_; replace Hpw := hide ((unhide Hpw).setHead (a' := .int .u16 ty) (b' := .int .u64 en) (c' := .int .u64 ph) (d' := .slice none 0 0)); obtain ⟨q0, q1, q2, q3⟩ := box_facts (unhide Hpw).head))
  clear q0 q1 q2 q3 i1 GH G1 G2 G3
  go_loopw [6, 31] (fun top i wr => ∃ (k T : Nat) (A' : Option Addr) (c' : Nat), k ≤ n ∧ i = .int .u64 k ∧ top = .int .u64 T ∧ T = El.topAt b k ∧ T < 18446744073709551616 ∧ El.readOk b k = true ∧
    wr.ownsRow (w.heap.size + 2) 58 6 (.slice A' k c') k (segCells (El.segsOf b k)) ∧ PW w (.int .u16 ty) (.int .u64 en) (.int .u64 ph) (.slice A' k c') (.int .i64 0) wr) (fun _ i _ => n - (intOf i).toNat)
  case atStart => exact ⟨0, 0, none, 0, Nat.zero_le _, rfl, rfl, rfl, by omega, rfl, World.ownsRow_nil _ _ _ _, unhide Hpw⟩
  case round =>
  clear Hpw
  obtain ⟨k, T, A', c', hk, rfl, rfl, hT, hT2, hro, hown, hpw⟩ := hrel
  have HT := hide hT
  have Hro := hide hro
  have Hown := hide hown
  have Hpw := hide hpw
  have hsz := hpw.sz
  obtain ⟨q0, q1, q2, q3⟩ := box_facts hpw.head
  clear hT hro hown hpw
  rcases Nat.lt_or_ge k n with hlt | hge
  case inr =>
    obtain rfl : k = n := by omega
    have gw := (unhide GW) A' c' wr.heap.size (unhide Hro) wr (Nat.le_refl _) (Rd.of_own (unhide Hown))
    cases hwo : El.wholeOk (El.headOf b)
    case false =>
      have hpar := (unhide P3) hwo
      rw [hwo] at gw
      have Gw := hide gw
      have Hpar := hide hpar
      clear gw hpar hwo
      go_wp2_with (go_at_call 49; refine (unhide Gw).mono ?_; rintro e w1 ⟨he, hx⟩; obtain rfl : e = wrongs 25 := he; replace Hpw := hide ((unhide Hpw).later hx); clear hx)
      exact door_bad (unhide Hpw) rfl rfl fun w' hb => end_bad (unhide Hpar) hb
    case true =>
      have hpar := (unhide P4) (unhide Hro) hwo
      rw [hwo] at gw
      have Gw := hide gw
      have Hpar := hide hpar
      clear gw hpar hwo
      go_wp2_with (first
        | (go_at_call 49; refine (unhide Gw).mono ?_; rintro e w1 ⟨he, hx⟩; obtain rfl : e = .returned (.tuple #[]) := he; replace Hpw := hide ((unhide Hpw).later hx); replace Hown := hide (own_below (unhide Hown) hx); clear q0 q1 q2 q3)
        | ((with_reducible refine (@id (wpList _ _ _ (Oper.mk (some 69) (Op.load 44 (.tmp 2)) _ _ _ none :: _) _ _) ?_)); refine wpList_load_row rfl 44 (.tmp 2) rfl w.heap.size rfl 44 #[.int .u16 ty, .int .u64 en, .int .u64 ph, .slice A' k c'] (0, 0) _ (unhide Hpw).head Tryz.underlying44 rfl headInfo ?_)
        | ((with_reducible refine (@id (wpList _ _ _ (Oper.mk none (Op.store 44 (.tmp 2) (.tmp 69)) _ _ _ none :: _) _ _) ?_)); refine wpList_store_row rfl 44 (.tmp 2) (.tmp 69) rfl w.heap.size #[.int .u16 ty, .int .u64 en, .int .u64 ph, .slice A' k c'] rfl rfl 44 _ (unhide Hpw).head headInfo rfl (headOne _ _ _ _ _ _) ?_; replace Hpw := hide ((unhide Hpw).setHead (a' := .int .u16 ty) (b' := .int .u64 en) (c' := .int .u64 ph) (d' := .slice A' k c')); replace Hown := hide (own_sameE (unhide Hown) (fun g hg _ => setRow_other _ w.heap.size g #[.int .u16 ty, .int .u64 en, .int .u64 ph, .slice A' k c'] (by omega))); have q4 := cell_of_one (unhide Hpw).err; have q5 := free_of_one (unhide Hpw).err))
      have hf := (unhide Hpw).setErr (e' := .int .i64 0)
      exact door_ok hf rfl rfl (end_good (unhide Hpar) (unhide HD) (unhide SL) (own_sameE (unhide Hown) (fun g hg _ => Below.heap_setCell _ _ _ _ (by simp; omega))) hf.below)
  have gs := (unhide GS) k hlt
  rw [show ((ph + k * 56 : Nat) : Int) = (ph : Int) + (k : Int) * 56 from by omega] at gs
  cases hs : El.segOk b (ph + k * 56) ty
  case false =>
    have hpar := (unhide P1) k hlt hs
    simp only [hs, Bool.false_eq_true, if_false] at gs
    have Gs := hide gs
    have Hpar := hide hpar
    clear gs hpar hs
    go_wp2_with (go_at_call 47; refine ((unhide Gs) _ (unhide Hpw).below).mono ?_; rintro e ws ⟨rfl, hx⟩; replace Hpw := hide ((unhide Hpw).later hx); clear hx)
    exact door_bad (unhide Hpw) rfl rfl fun w' hb => end_bad (unhide Hpar) hb
  case true =>
    simp only [hs, if_true, segVal] at gs
    have p2 := (unhide P2) k hlt
    have rl := (unhide RL) k (unhide Hro) hs
    have ro := (unhide RO) k (unhide Hro) hs
    have le := (unhide LE) k hs
    have ft := (unhide FT) k hs
    have ss := (unhide SS) k
    rw [← unhide HT] at p2 rl
    generalize El.segAt b (ph + k * 56) = s at *
    obtain ⟨sk, sfl, so, sa, sf, sm⟩ := s
    obtain ⟨f1, f2, f3, f4, f5, f6⟩ := ft
    simp only at f1 f2 f3 f4 f5 f6 le rl ro p2 gs
    have Gs := hide gs
    have P2' := hide p2
    have Rl := hide rl
    have Ro := hide ro
    have Ss := hide ss
    clear gs p2 rl ro ss hs
    by_cases h1 : sk = 1
    · have le' := le h1
      have b1 : (((sk : Nat) : Int) == 1) = true := by simp; omega
      by_cases ht : T ≤ sa
      · have b2 : decide (((T : Nat) : Int) ≤ ((sa : Nat) : Int)) = true := by simp; omega
        obtain ⟨hro2, hT3⟩ := (unhide Rl) h1 ht
        have Hro2 := hide hro2
        have HT3 := hide hT3
        clear hro2 hT3 le h1
        go_wp2_with (first
          | (go_at_call 47; refine ((unhide Gs) _ (unhide Hpw).below).mono ?_; rintro e ws ⟨rfl, hx⟩; replace Hown := hide (own_below (unhide Hown) hx); replace Hpw := hide ((unhide Hpw).later hx); clear hx; have hszs := (unhide Hpw).sz; clear q0 q1 q2 q3; obtain ⟨q0, q1, q2, q3⟩ := box_facts (unhide Hpw).head; have r3 := (World.cell?_alloc_lt ws (.cells #[.int .u32 sk, .int .u8 sfl, .int .u64 so, .int .u64 sa, .int .u64 sf, .int .u64 sm] 58) ⟨w.heap.size, 3, none⟩ (by show w.heap.size < _; omega)).trans q3)
          | (go_at_call_of 45 (Value.bool true); refine (must_yes _ _).mono ?_; rintro e w2 ⟨rfl, rfl⟩)
          | (go_at_call_of 45 (Value.bool false); refine (must_no _ _).mono ?_; rintro e w2 ⟨rfl, rfl⟩)
          | (go_at_call 48; refine (up_yes _ _ (by omega) (by omega)).mono ?_; rintro e w2 ⟨rfl, rfl⟩)
          | (at_builtin; refine wpList_app1g segTy rfl _ _ rfl (w.heap.size + 2) (.slice A' k c') k (segCells (El.segsOf b k)) rfl ((unhide Hown).alloc _) #[.int .u32 sk, .int .u8 sfl, .int .u64 so, .int .u64 sa, .int .u64 sf, .int .u64 sm] _ rfl (by simp) rfl (sgVals_one ⟨sk, sfl, so, sa, sf, sm⟩) (by omega) (by simp; omega) ?_; intro A2 c2 wa hown' hgrow hat; replace Hpw := hide ((unhide Hpw).later2 (((Below.refl _ _).alloc hszs _).grown hgrow (by simp; omega) (fun k hk => ((unhide Hown).lt k hk).1))); replace Hown := hide hown'; clear hgrow hat hown' q0 q1 q2 q3 r3; obtain ⟨q0, q1, q2, q3⟩ := box_facts (unhide Hpw).head; have q4 := frozen_of_row _ _ 3 _ _ (unhide Hpw).head))
        go_roundw
        case rel =>
          refine ⟨k + 1, El.up (sa + sm), A2, c2, by omega, by go_num, ?_, (unhide HT3).symm, ?_, unhide Hro2, ?_, (unhide Hpw).setSegs⟩
          · unfold El.up; congr 1; omega
          · unfold El.up; omega
          · rw [unhide Ss, segCells_snoc]
            exact own_sameE (unhide Hown) (fun g hg _ => Below.heap_setCell _ _ _ _ (by simp; omega))
        case measure => simp [intOf]; omega
      · have b2 : decide (((T : Nat) : Int) ≤ ((sa : Nat) : Int)) = false := by simp; omega
        have hpar := (unhide P2') h1 ht
        have Hpar := hide hpar
        clear hpar le h1
        go_wp2_with (first
          | (go_at_call 47; refine ((unhide Gs) _ (unhide Hpw).below).mono ?_; rintro e ws ⟨rfl, hx⟩; replace Hpw := hide ((unhide Hpw).later hx); clear hx; have hszs := (unhide Hpw).sz)
          | (go_at_call_of 45 (Value.bool false); refine (must_no _ _).mono ?_; rintro e w2 ⟨rfl, rfl⟩))
        exact door_bad ((unhide Hpw).later2 ((Below.refl _ _).alloc hszs _)) rfl rfl fun w' hb => end_bad (unhide Hpar) hb
    · have b1 : (((sk : Nat) : Int) == 1) = false := by simp; omega
      obtain ⟨hro2, hT3⟩ := (unhide Ro) h1
      have Hro2 := hide hro2
      have HT3 := hide (hT3.trans (unhide HT).symm)
      clear hro2 hT3 le h1
      go_wp2_with (first
        | (go_at_call 47; refine ((unhide Gs) _ (unhide Hpw).below).mono ?_; rintro e ws ⟨rfl, hx⟩; replace Hown := hide (own_below (unhide Hown) hx); replace Hpw := hide ((unhide Hpw).later hx); clear hx; have hszs := (unhide Hpw).sz; clear q0 q1 q2 q3; obtain ⟨q0, q1, q2, q3⟩ := box_facts (unhide Hpw).head; have r3 := (World.cell?_alloc_lt ws (.cells #[.int .u32 sk, .int .u8 sfl, .int .u64 so, .int .u64 sa, .int .u64 sf, .int .u64 sm] 58) ⟨w.heap.size, 3, none⟩ (by show w.heap.size < _; omega)).trans q3)
        | (go_at_call_of 45 (Value.bool true); refine (must_yes _ _).mono ?_; rintro e w2 ⟨rfl, rfl⟩)
        | (go_at_call_of 45 (Value.bool false); refine (must_no _ _).mono ?_; rintro e w2 ⟨rfl, rfl⟩)
        | (go_at_call 48; refine (up_yes _ _ (by omega) (by omega)).mono ?_; rintro e w2 ⟨rfl, rfl⟩)
        | (at_builtin; refine wpList_app1g segTy rfl _ _ rfl (w.heap.size + 2) (.slice A' k c') k (segCells (El.segsOf b k)) rfl ((unhide Hown).alloc _) #[.int .u32 sk, .int .u8 sfl, .int .u64 so, .int .u64 sa, .int .u64 sf, .int .u64 sm] _ rfl (by simp) rfl (sgVals_one ⟨sk, sfl, so, sa, sf, sm⟩) (by omega) (by simp; omega) ?_; intro A2 c2 wa hown' hgrow hat; replace Hpw := hide ((unhide Hpw).later2 (((Below.refl _ _).alloc hszs _).grown hgrow (by simp; omega) (fun k hk => ((unhide Hown).lt k hk).1))); replace Hown := hide hown'; clear hgrow hat hown' q0 q1 q2 q3 r3; obtain ⟨q0, q1, q2, q3⟩ := box_facts (unhide Hpw).head; have q4 := frozen_of_row _ _ 3 _ _ (unhide Hpw).head))
      go_roundw
      case rel =>
        refine ⟨k + 1, T, A2, c2, by omega, by go_num, rfl, (unhide HT3).symm, hT2, unhide Hro2, ?_, (unhide Hpw).setSegs⟩
        rw [unhide Ss, segCells_snoc]
        exact own_sameE (unhide Hown) (fun g hg _ => Below.heap_setCell _ _ _ _ (by simp; omega))
      case measure => simp [intOf]; omega
theorem parse_any (A : Option Addr) (m c : Nat) (b : List UInt8) (w : World) (hb : Rd w w.heap.size 1 A m (u8s b)) (hm : m ≤ 4294967296) (hmc : m ≤ c) :
    Calls Tryz.prog 14 #[.slice A m c] w (ParseEnd b w) := by
  cases hh : El.hdrOk b
  · refine (parse_nohdr A m c b w hb hm hmc hh).mono ?_
    rintro e w' ⟨rfl, hbl⟩
    unfold ParseEnd
    rw [show El.parse b = (13, ⟨0, 0, 0, []⟩) from by simp [El.parse, hh]]
    exact ⟨none, 0, rfl, World.ownsRow_nil _ _ _ _, hbl⟩
  · by_cases hin : Wd.num b 32 8 + Wd.num b 56 2 * 56 ≤ m
    · exact parse_in A m c b w hb hm hmc hh hin
    · exact parse_notin A m c b w hb hm hmc hh hin
end Go.Proofs.YtnbecdahfgkffaaGreat
namespace Go.Proofs.YtnbecdahfgkffaaGreat
open Go.RowKit
theorem eparse_good (A : Option Addr) (m c B : Nat) (b : List UInt8) (ty en ph : Nat) (l : List El.Sg) (w : World) (hB : B ≤ w.heap.size) (hb : Rd w B 1 A m (u8s b)) (hm : m ≤ 4294967296) (hmc : m ≤ c) (h : El.parse b = (0, ⟨ty, en, ph, l⟩)) :
    Calls Tryz.prog 14 #[.slice A m c] w fun e w' => ∃ A' c', e = .returned (.tuple #[.agg #[.int .u16 ty, .int .u64 en, .int .u64 ph, .slice A' l.length c'], .int .i64 0]) ∧ Rd w' w'.heap.size 6 A' l.length (segCells l) ∧ Below w.heap.size w w' := by
  refine (parse_any A m c b w (hb.more hB) hm hmc).mono ?_
  rintro e w' he
  unfold ParseEnd at he
  rw [h] at he
  obtain ⟨A', c', rfl, hown, hbl⟩ := he
  exact ⟨A', c', rfl, Rd.of_own hown, hbl⟩
namespace Mk
def xa : Spec := ⟨2, 4259840, ⟨#[]⟩, [195], [], 0, false, ⟨[], ⟨#[]⟩, ⟨#[]⟩, [], []⟩, 0⟩
def xb : Spec := ⟨2, 0, ⟨#[]⟩, [], [], 0, false, ⟨[], ⟨#[]⟩, ⟨#[]⟩, [], []⟩, 0⟩
theorem may_xa : may xa = 0 := by kernel_rfl
theorem may_xb : may xb = 1 := by kernel_rfl
theorem front_xa : (front2 xa).length = 232 := by kernel_rfl
theorem out_xa : (out2 xa).length = 4097 := by kernel_rfl
theorem file_xa : (file xa)[4096]? = some 195 := by kernel_rfl
theorem many_xa : many xa = 3 := by kernel_rfl
theorem made_xa : Made xa := ⟨may_zero may_xa, by decide, by rw [front_xa]; omega, by rw [out_xa]; omega⟩
theorem make_xa : make xa = (file xa, 0) := by
  unfold make
  rw [if_neg (by rw [may_xa]; decide), if_neg (by rw [front_xa, out_xa]; omega)]
theorem make_xb : make xb = ([], 1) := by
  unfold make
  rw [if_pos (by rw [may_xb]; decide), may_xb]
end Mk
def sa (g : Nat) : Xq := ⟨Mk.xa, some ⟨g, 0, none⟩, 1, none, 0, none, 0, none, 0, none, 0⟩
def sb : Xq := ⟨Mk.xb, none, 0, none, 0, none, 0, none, 0, none, 0⟩
theorem fit_of (x : Mk.Spec) (At : Option Addr) (ct : Nat) (h1 : x.type < 65536) (h2 : x.entry < 18446744073709551616) (h3 : x.more < 18446744073709551616) (h4 : x.interp = ⟨#[]⟩) (h5 : x.text.length ≤ ct) (h6 : ct ≤ 1) (h7 : x.data = []) (h8 : x.dyn = ⟨[], ⟨#[]⟩, ⟨#[]⟩, [], []⟩) : MkFit ⟨x, At, ct, none, 0, none, 0, none, 0, none, 0⟩ := by
  obtain ⟨t, en, it, te, da, mo, dy, dn, ap⟩ := x
  subst h4 h7 h8
  refine ⟨⟨h1, h2, h3, Nat.zero_le _, Nat.le_trans h5 (Nat.le_trans h6 (by decide)), Nat.zero_le _, h5, Nat.le_refl _, ?_⟩, Nat.zero_le _, Nat.zero_le _, ?_, ?_, ?_⟩
  · refine ⟨Nat.zero_le _, Nat.zero_le _, Nat.zero_le _, fun a ha => ?_, fun a ha => ?_, Nat.zero_le _, Nat.zero_le _, Nat.le_refl _, Nat.le_refl _, Nat.le_refl _⟩
    · exact absurd ha (List.not_mem_nil (a := a))
    · exact absurd ha (List.not_mem_nil (a := a))
  · show (Mk.texts3 (⟨[], ⟨#[]⟩, ⟨#[]⟩, [], []⟩ : Mk.Dyn)).length ≤ 16777216
    decide
  · intro y hy
    exact absurd hy (List.not_mem_nil (a := y))
  · intro y hy
    exact absurd hy (List.not_mem_nil (a := y))
set_option maxRecDepth 100000 in
set_option maxHeartbeats 60000000 in
theorem works14_any (w : World) : Calls Tryz.prog 7 #[] w fun e w' => e = .returned (.bool true) ∧ Below w.heap.size w w' := by
  have hb1 := below_al w (.cells #[.int .u8 195] 5)
  have e1 : (w.alloc (.cells #[.int .u8 195] 5)).heap.size = w.heap.size + 1 := by simp
  have hx1 : XqM (w.alloc (.cells #[.int .u8 195] 5)) (w.heap.size + 1) (sa w.heap.size) := ⟨Rd.row rfl, Rd.none_ _ _ _ _, ⟨Rd.none_ _ _ _ _, Rd.none_ _ _ _ _, Rd.none_ _ _ _ _⟩⟩
  have K1 : Hid (Calls Tryz.prog 9 #[.agg #[.int .u16 2, .int .u64 4259840, .string ⟨#[]⟩, .slice (some ⟨w.heap.size, 0, none⟩) 1 1, .slice none 0 0, .int .u64 0, .bool false, .slice none 0 0, .string ⟨#[]⟩, .string ⟨#[]⟩, .slice none 0 0, .slice none 0 0, .int .i64 0]] (w.alloc (.cells #[.int .u8 195] 5)) (MkE Mk.xa (w.alloc (.cells #[.int .u8 195] 5)))) := hide (pmake_any (sa w.heap.size) (w.heap.size + 1) (w.alloc (.cells #[.int .u8 195] 5)) (by rw [e1]; exact Nat.le_refl _) hx1 (fit_of _ _ _ (by decide) (by decide) (by decide) rfl (Nat.le_refl _) (Nat.le_refl _) rfl rfl) (show 0 + 0 ≤ 1048576 from by decide))
  have K2 : Hid (∀ W, Calls Tryz.prog 9 #[.agg #[.int .u16 2, .int .u64 0, .string ⟨#[]⟩, .slice none 0 0, .slice none 0 0, .int .u64 0, .bool false, .slice none 0 0, .string ⟨#[]⟩, .string ⟨#[]⟩, .slice none 0 0, .slice none 0 0, .int .i64 0]] W (MkE Mk.xb W)) := hide (fun W => pmake_any sb 0 W (Nat.zero_le _) ⟨Rd.none_ _ _ _ _, Rd.none_ _ _ _ _, ⟨Rd.none_ _ _ _ _, Rd.none_ _ _ _ _, Rd.none_ _ _ _ _⟩⟩ (fit_of _ _ _ (by decide) (by decide) (by decide) rfl (Nat.le_refl _) (Nat.zero_le _) rfl rfl) (show 0 + 0 ≤ 1048576 from by decide))
  have Hb1 := hide hb1
  clear hb1 hx1 e1
  go_enter Tryz.func7, Tryz.ntmps7
  go_wp2_with fail
  refine (unhide K1).mono ?_
  rintro e w2 ⟨hb2, A, n, c, rfl, ho⟩
  generalize (w.alloc (.cells #[.int .u8 195] 5)) = W1 at *
  rw [Mk.make_xa] at ho ⊢
  have hn : n = 4097 := by
    have h1 := ho.1
    have h2 := Mk.file_len Mk.xa
    rw [Mk.out_xa] at h2
    simp [bys] at h1
    omega
  subst hn
  have hc := own_capG ho
  obtain ⟨k, rfl, -, -⟩ := own_some ho (by omega)
  have hr := Rd.of_own ho
  have h96 := hr.2
  obtain ⟨b1, o1, hA, -, st⟩ := hr.at_ (k := 4096) (u := .int .u8 195) (by simp [bys, Mk.file_xa])
  have KP := hide (eparse_good (some ⟨k, 0, none⟩) 4097 c w2.heap.size (Mk.file Mk.xa) 2 4259840 64 ((Mk.rows Mk.xa).map Mk.sg) w2 (Nat.le_refl _) hr (by omega) hc (Mk.parse_file Mk.made_xa))
  injection hA with hA
  injection hA with hA1 hA2
  subst hA1 hA2
  rw [Nat.zero_add] at st
  have hkl := (own_bklt ho _ rfl).2
  have hl3 : ((Mk.rows Mk.xa).map Mk.sg).length = 3 := by rw [List.length_map, rows_len, Mk.many_xa]
  rw [hl3] at KP
  have Hbw2 := hide ((unhide Hb1).trans (hb2.mono (unhide Hb1).size))
  have Hst := hide st
  clear hb2 ho hr h96 hl3 K1 Hb1 hc st
  go_wp2_with fail
  refine (unhide KP).mono ?_
  rintro e w3 ⟨A3, c3, rfl, -, hb3⟩
  have hst3 := (hb3.cell (p := ⟨k, 4096, none⟩) hkl).trans (unhide Hst)
  have hH := Blk.new w3 44 [.int .u16 2, .int .u64 4259840, .int .u64 64, .slice A3 3 c3]
  have hb4 := below_al w3 (.cells #[.int .u16 2, .int .u64 4259840, .int .u64 64, .slice A3 3 c3] 44)
  have hst4 := (hb4.cell (p := ⟨k, 4096, none⟩) (by have := hb3.size; show k < _; omega)).trans hst3
  have K2' := hide ((unhide K2) (w3.alloc (.cells #[.int .u16 2, .int .u64 4259840, .int .u64 64, .slice A3 3 c3] 44)))
  have Hbw4 := hide ((unhide Hbw2).trans ((hb3.trans (hb4.mono hb3.size)).mono (unhide Hbw2).size))
  have HH : Hid (Blk (w3.alloc (.cells #[.int .u16 2, .int .u64 4259840, .int .u64 64, .slice A3 3 c3] 44)) w3.heap.size 44 [.int .u16 2, .int .u64 4259840, .int .u64 64, .slice A3 3 c3]) := hide hH
  have Hst4 := hide hst4
  have hk4 : k < (w3.alloc (.cells #[.int .u16 2, .int .u64 4259840, .int .u64 64, .slice A3 3 c3] 44)).heap.size := by have := hb3.size; have := hb4.size; omega
  have Hk4 := hide hk4
  clear hst3 hH hb4 hst4 hb3 KP K2 hk4
  go_wp2_with fail
  refine (unhide K2').mono ?_
  rintro e w5 ⟨hb5, A5, n5, c5, rfl, -⟩
  generalize (w3.alloc (.cells #[.int .u16 2, .int .u64 4259840, .int .u64 64, .slice A3 3 c3] 44)) = W4 at *
  rw [Mk.make_xb]
  have z1 := ((unhide HH).belowSz hb5).cell (i := 1) rfl
  have z3 := ((unhide HH).belowSz hb5).cell (i := 3) rfl
  have st5 := (hb5.cell (p := ⟨k, 4096, none⟩) (unhide Hk4)).trans (unhide Hst4)
  have Hbw5 := hide ((unhide Hbw4).trans (hb5.mono (unhide Hbw4).size))
  clear hb5 K2'
  go_wp2_with fail
  go_ret
  exact ⟨rfl, unhide Hbw5⟩
end Go.Proofs.YtnbecdahfgkffaaGreat
