/- A map that is made of constants: its entries in their order; a new key put in, a key looked up. No conditions. -/
import Derived.Test.YtphbkjdheopmhaaBase
import Derived.Maps.Own
namespace Go.Proofs.Ytphbkjdheopmhaa
set_option linter.unusedVariables false
set_option linter.unusedSimpArgs false
open Go.RowKit

/-- Block g is a map whose entries are these, in their order. -/
def MapIs (w : World) (g : Nat) (k : IntKind) (m : List (Int × Value)) : Prop := ∃ es clk, w.heap[g]? = some (.map es clk) ∧ es.toList.map (fun e => (e.key, e.val)) = m.map (fun p => (Value.int k p.1, p.2))

theorem findNow_lit (k : IntKind) (x : Int) (kd : IntKind) : ∀ (es : List MapEntry) (m : List (Int × Value)) (i : Nat), es.map (fun e => (e.key, e.val)) = m.map (fun p => (Value.int k p.1, p.2)) →
    ∃ r, Instr.findNow (.int kd) (.int k x) es i = some r ∧ r.map (·.2) = (m.find? fun p => p.1 == x).map (·.2) := by
  intro es
  induction es with
  | nil => intro m i h; cases m with
    | nil => exact ⟨none, rfl, rfl⟩
    | cons p m => simp at h
  | cons e es ih => intro m i h; cases m with
    | nil => simp at h
    | cons p m =>
      simp only [List.map_cons, List.cons.injEq, Prod.mk.injEq] at h
      obtain ⟨⟨h1, h2⟩, h3⟩ := h
      unfold Instr.findNow
      rw [h1]
      simp only [Instr.sameNow, if_true]
      by_cases hx : x = p.1
      · subst hx
        simp [h2]
      · have e1 : (x == p.1) = false := by simpa using hx
        have e2 : (p.1 == x) = false := by simpa using fun h => hx h.symm
        obtain ⟨r, hr, hm⟩ := ih m (i + 1) h3
        refine ⟨r, ?_, ?_⟩
        · simp only [e1]
          exact hr
        · rw [List.find?_cons, e2]
          exact hm

section
variable {P : Program} {t kt e : TypeId} {k kd : IntKind} {w : World} {g : Nat} {m : List (Int × Value)} {x : Int} {v : Value}
theorem run_mapPut (ht : P.underlying t = some (.map kt e)) (hk : P.underlying kt = some (.int kd)) (hik : Go.MapKept.IsKey (.int kd) (.int k x)) (h : MapIs w g k m) (hx : ∀ p ∈ m, p.1 ≠ x) :
    ∃ w', (Instr.mapUpdate t (.map (some g)) (.int k x) v).run P w = .ok () w' ∧ MapIs w' g k (m ++ [(x, v)]) ∧ w.grownBy w' (some g) ∧ w'.heap.size = w.heap.size := by
  obtain ⟨es, clk, hg, hm⟩ := h
  obtain ⟨r, hr, hrm⟩ := findNow_lit k x kd es.toList m 0 hm
  have hnone : (m.find? fun p => p.1 == x) = none := by
    rw [List.find?_eq_none]
    intro p hp
    simpa using hx p hp
  rw [hnone] at hrm
  obtain rfl : r = none := by cases r with
    | none => rfl
    | some q => simp at hrm
  have hlt : g < w.heap.size := (Array.getElem?_eq_some_iff.1 hg).1
  refine ⟨{ w with heap := w.heap.setIfInBounds g (.map (es.push { key := .int k x, val := v, born := clk }) (clk + 1)) }, ?_, ?_, ?_, by simp⟩
  · simp [Instr.mapUpdate, run_underlying ht, Go.MapKept.run_getObj_map hg, Go.MapKept.run_checkKey hk hik, Go.MapKept.run_findKey hk hr, Go.MapKept.run_setObj_map _ hg, Result.andThen]
  · refine ⟨_, _, (Go.MapKept.heap_set hg).1, ?_⟩
    simp [hm]
  · exact ⟨rfl, rfl, rfl, by simp, fun i _ hi => (Go.MapKept.heap_set hg).2 i (fun e => hi (by rw [e]))⟩

theorem run_mapLook (ht : P.underlying t = some (.map kt e)) (hk : P.underlying kt = some (.int kd)) (hik : Go.MapKept.IsKey (.int kd) (.int k x)) {z : Value} (hz : (zeroValue e).run P w = .ok z w) (h : MapIs w g k m) :
    (Instr.lookup t (.map (some g)) (.int k x) true).run P w = .ok (.tuple #[((m.find? fun p => p.1 == x).map (·.2)).getD z, .bool (m.find? fun p => p.1 == x).isSome]) w := by
  obtain ⟨es, clk, hg, hm⟩ := h
  obtain ⟨r, hr, hrm⟩ := findNow_lit k x kd es.toList m 0 hm
  cases hf : (m.find? fun p => p.1 == x) with
  | none =>
    rw [hf] at hrm
    obtain rfl : r = none := by cases r with
      | none => rfl
      | some q => simp at hrm
    simp [Instr.lookup, run_underlying ht, Go.MapKept.run_getObj_map hg, Go.MapKept.run_checkKey hk hik, Go.MapKept.run_findKey hk hr, hz, Result.andThen]
  | some q =>
    rw [hf] at hrm
    obtain ⟨i, rfl⟩ : ∃ i, r = some (i, q.2) := by cases r with
      | none => simp at hrm
      | some y => obtain ⟨i, v⟩ := y; simp at hrm; exact ⟨i, by rw [hrm]⟩
    simp [Instr.lookup, run_underlying ht, Go.MapKept.run_getObj_map hg, Go.MapKept.run_checkKey hk hik, Go.MapKept.run_findKey hk hr, Result.andThen]
theorem run_mapLook1 (ht : P.underlying t = some (.map kt e)) (hk : P.underlying kt = some (.int kd)) (hik : Go.MapKept.IsKey (.int kd) (.int k x)) {z : Value} (hz : (zeroValue e).run P w = .ok z w) (h : MapIs w g k m) :
    (Instr.lookup t (.map (some g)) (.int k x) false).run P w = .ok (((m.find? fun p => p.1 == x).map (·.2)).getD z) w := by
  obtain ⟨es, clk, hg, hm⟩ := h
  obtain ⟨r, hr, hrm⟩ := findNow_lit k x kd es.toList m 0 hm
  cases hf : (m.find? fun p => p.1 == x) with
  | none =>
    rw [hf] at hrm
    obtain rfl : r = none := by cases r with
      | none => rfl
      | some q => simp at hrm
    simp [Instr.lookup, run_underlying ht, Go.MapKept.run_getObj_map hg, Go.MapKept.run_checkKey hk hik, Go.MapKept.run_findKey hk hr, hz, Result.andThen]
  | some q =>
    rw [hf] at hrm
    obtain ⟨i, rfl⟩ : ∃ i, r = some (i, q.2) := by cases r with
      | none => simp at hrm
      | some y => obtain ⟨i, v⟩ := y; simp at hrm; exact ⟨i, by rw [hrm]⟩
    simp [Instr.lookup, run_underlying ht, Go.MapKept.run_getObj_map hg, Go.MapKept.run_checkKey hk hik, Go.MapKept.run_findKey hk hr, Result.andThen]

theorem MapIs.nil (w : World) : MapIs (w.alloc (.map #[] 0)) w.heap.size k [] := ⟨#[], 0, heap_alloc_new _ _, rfl⟩
theorem MapIs.keep {w' : World} (h : MapIs w g k m) (hk : w'.heap[g]? = w.heap[g]?) : MapIs w' g k m := by
  obtain ⟨es, clk, hg, hm⟩ := h
  exact ⟨es, clk, hk.trans hg, hm⟩
theorem MapIs.alloc (h : MapIs w g k m) (o : Obj) : MapIs (w.alloc o) g k m := by
  obtain ⟨es, clk, hg, hm⟩ := h
  exact ⟨es, clk, (Below.heap_alloc _ _ _ (Array.getElem?_eq_some_iff.1 hg).1).trans hg, hm⟩
theorem MapIs.lt (h : MapIs w g k m) : g < w.heap.size := by
  obtain ⟨es, clk, hg, hm⟩ := h
  exact (Array.getElem?_eq_some_iff.1 hg).1

/-- 'm[x] = v' of a map literal at the operation. -/
theorem wpList_mapPut {ops : Array Oper} {rest : List Oper} {o : Oper} {a : Act} {Q : Exit → Act → World → Prop} (hgd : o.guard = none) (mo xo vo : Operand) (ho : o.op = .insert t mo xo vo)
    (ht : P.underlying t = some (.map kt e)) (hk : P.underlying kt = some (.int kd)) (hik : Go.MapKept.IsKey (.int kd) (.int k x)) (hmo : a.eval mo = .map (some g)) (hxo : a.eval xo = .int k x) (hvo : a.eval vo = v) (h : MapIs w g k m) (hx : ∀ p ∈ m, p.1 ≠ x)
    (hK : ∀ w', MapIs w' g k (m ++ [(x, v)]) → w.grownBy w' (some g) → w'.heap.size = w.heap.size → wpList P ops Q rest (a.put o.dst undef) w') : wpList P ops Q (o :: rest) a w := by
  obtain ⟨w', hrun, h1, h2, h3⟩ := run_mapPut (v := v) ht hk hik h hx
  refine wpList_plain hgd fun K hK' => ?_
  unfold Oper.wp
  simp [execOp, ho, hmo, hxo, hvo, hrun, Result.andThen]
  exact hK' _ _ (hK w' h1 h2 h3)
end
end Go.Proofs.Ytphbkjdheopmhaa
