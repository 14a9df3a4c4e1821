/- The plain mathematics of Parse's loop: what has been read so far. No program in sight. No conditions. -/
import Derived.Test.YtkonolmakpeocaaElf3
namespace Go.Proofs.Ytkonolmakpeocaa.El
set_option linter.unusedVariables false
set_option linter.unusedSimpArgs false
open Go.Proofs.Ytkonolmakpeocaa

/-- The page after the last load. -/
def topOf : List Sg → Nat → Nat
  | [], t => t
  | s :: r, t => if isLoad s then topOf r (up (s.addr + s.msz)) else topOf r t

theorem rises_app (a r : List Sg) : ∀ t, rises (a ++ r) t = (rises a t && rises r (topOf a t)) := by
  induction a with
  | nil => intro t; simp [rises, topOf]
  | cons s a ih =>
    intro t
    simp only [List.cons_append, rises, topOf]
    cases isLoad s
    · simp [ih]
    · simp [ih, Bool.and_assoc]
theorem topOf_snoc (a : List Sg) (s : Sg) : ∀ t, topOf (a ++ [s]) t = if isLoad s then up (s.addr + s.msz) else topOf a t := by
  induction a with
  | nil => intro t; simp [topOf]
  | cons x a ih =>
    intro t
    simp only [List.cons_append, topOf]
    cases isLoad x
    · simp [ih]
    · simp only [if_true, ih]
theorem segsOf_succ (b : List UInt8) (k : Nat) : segsOf b (k + 1) = segsOf b k ++ [segAt b (Wd.num b 32 8 + k * 56)] := by simp [segsOf, List.range_succ]
theorem segsOf_len (b : List UInt8) (k : Nat) : (segsOf b k).length = k := by simp [segsOf]
theorem segsOf_take (b : List UInt8) {k n : Nat} (h : k ≤ n) : ∃ r, segsOf b n = segsOf b k ++ r := by
  obtain ⟨d, rfl⟩ := Nat.exists_eq_add_of_le h
  exact ⟨_, by unfold segsOf; rw [List.range_add, List.map_append]⟩
/-- k headers have been read and none gave up. -/
def readOk (b : List UInt8) (k : Nat) : Bool := (List.range k).all (fun i => segOk b (Wd.num b 32 8 + i * 56) (Wd.num b 16 2)) && rises (segsOf b k) 0
def topAt (b : List UInt8) (k : Nat) : Nat := topOf (segsOf b k) 0
theorem readOk_zero (b : List UInt8) : readOk b 0 = true := rfl
theorem topAt_zero (b : List UInt8) : topAt b 0 = 0 := rfl
theorem readOk_load {b : List UInt8} {k : Nat} (h : readOk b k = true) (hs : segOk b (Wd.num b 32 8 + k * 56) (Wd.num b 16 2) = true) (h1 : (segAt b (Wd.num b 32 8 + k * 56)).kind = 1) (ht : topAt b k ≤ (segAt b (Wd.num b 32 8 + k * 56)).addr) :
    readOk b (k + 1) = true ∧ topAt b (k + 1) = up ((segAt b (Wd.num b 32 8 + k * 56)).addr + (segAt b (Wd.num b 32 8 + k * 56)).msz) := by
  simp only [readOk, Bool.and_eq_true] at h
  have hl : isLoad (segAt b (Wd.num b 32 8 + k * 56)) = true := by simp [isLoad, h1]
  refine ⟨?_, ?_⟩
  · simp only [readOk, segsOf_succ, rises_app, List.range_succ, List.all_append, List.all_cons, List.all_nil, hs, h.1, h.2, Bool.true_and, Bool.and_true, rises, hl, if_true]
    exact decide_eq_true ht
  · rw [topAt, segsOf_succ, topOf_snoc, hl]; simp
theorem readOk_other {b : List UInt8} {k : Nat} (h : readOk b k = true) (hs : segOk b (Wd.num b 32 8 + k * 56) (Wd.num b 16 2) = true) (h1 : ¬ (segAt b (Wd.num b 32 8 + k * 56)).kind = 1) :
    readOk b (k + 1) = true ∧ topAt b (k + 1) = topAt b k := by
  simp only [readOk, Bool.and_eq_true] at h
  have hl : isLoad (segAt b (Wd.num b 32 8 + k * 56)) = false := by simp [isLoad, h1]
  refine ⟨?_, ?_⟩
  · simp only [readOk, segsOf_succ, rises_app, List.range_succ, List.all_append, List.all_cons, List.all_nil, hs, h.1, h.2, Bool.true_and, Bool.and_true, rises, hl]
    simp
  · rw [topAt, segsOf_succ, topOf_snoc, hl]; simp [topAt]
theorem formOk_eq (b : List UInt8) : formOk b = (decide (Wd.num b 32 8 + Wd.num b 56 2 * 56 ≤ b.length) && readOk b (Wd.num b 56 2) && wholeOk (headOf b)) := by
  simp only [formOk, readOk, Bool.and_assoc]
theorem readOk_mono {b : List UInt8} {k n : Nat} (hk : k ≤ n) (h : readOk b k = false) : readOk b n = false := by
  rw [Bool.eq_false_iff] at h ⊢
  intro hn
  apply h
  simp only [readOk, Bool.and_eq_true, List.all_eq_true, List.mem_range] at hn ⊢
  refine ⟨fun i hi => hn.1 i (by omega), ?_⟩
  obtain ⟨r, hr⟩ := segsOf_take b hk
  have := hn.2
  rw [hr, rises_app, Bool.and_eq_true] at this
  exact this.1
theorem parse_noform {b : List UInt8} (hh : hdrOk b = true) (hf : formOk b = false) : parse b = (25, ⟨0, 0, 0, []⟩) := by simp [parse, hh, hf]
theorem parse_notin {b : List UInt8} (hh : hdrOk b = true) (h : ¬ Wd.num b 32 8 + Wd.num b 56 2 * 56 ≤ b.length) : parse b = (25, ⟨0, 0, 0, []⟩) := parse_noform hh (by simp [formOk_eq, h])
theorem parse_unread {b : List UInt8} (hh : hdrOk b = true) {k : Nat} (hk : k ≤ Wd.num b 56 2) (h : readOk b k = false) : parse b = (25, ⟨0, 0, 0, []⟩) := parse_noform hh (by simp [formOk_eq, readOk_mono hk h])
theorem parse_badseg {b : List UInt8} (hh : hdrOk b = true) {k : Nat} (hk : k < Wd.num b 56 2) (h : segOk b (Wd.num b 32 8 + k * 56) (Wd.num b 16 2) = false) : parse b = (25, ⟨0, 0, 0, []⟩) :=
  parse_unread hh hk (by simp [readOk, List.range_succ, h])
theorem parse_norise {b : List UInt8} (hh : hdrOk b = true) {k : Nat} (hk : k < Wd.num b 56 2) (h1 : (segAt b (Wd.num b 32 8 + k * 56)).kind = 1) (ht : ¬ topAt b k ≤ (segAt b (Wd.num b 32 8 + k * 56)).addr) : parse b = (25, ⟨0, 0, 0, []⟩) := by
  refine parse_unread hh (k := k + 1) hk ?_
  have hl : isLoad (segAt b (Wd.num b 32 8 + k * 56)) = true := by simp [isLoad, h1]
  have ht' : ¬ topOf (segsOf b k) 0 ≤ (segAt b (Wd.num b 32 8 + k * 56)).addr := ht
  simp [readOk, segsOf_succ, rises_app, rises, hl, ht']
theorem parse_unwhole {b : List UInt8} (hh : hdrOk b = true) (h : wholeOk (headOf b) = false) : parse b = (25, ⟨0, 0, 0, []⟩) := parse_noform hh (by simp [formOk_eq, h])
theorem parse_good {b : List UInt8} (hh : hdrOk b = true) (h1 : Wd.num b 32 8 + Wd.num b 56 2 * 56 ≤ b.length) (h2 : readOk b (Wd.num b 56 2) = true) (h : wholeOk (headOf b) = true) : parse b = (0, headOf b) := by simp [parse, hh, formOk_eq, h1, h2, h]
theorem load_end {b : List UInt8} {p ty : Nat} (hs : segOk b p ty = true) (h1 : (segAt b p).kind = 1) : (segAt b p).addr + (segAt b p).msz ≤ 140737488355328 := by
  simp only [segOk, Bool.and_eq_true] at hs
  have h := hs.1.2
  have hk : knownB (segAt b p).kind = true := by rw [h1]; rfl
  have he : endOf ty ≤ 140737488355328 := by unfold endOf; split <;> omega
  simp only [endB, hk, Bool.not_true, Bool.false_or, decide_eq_true_eq] at h
  omega
theorem segAt_fit {b : List UInt8} {p ty : Nat} (hs : segOk b p ty = true) : SgFit (segAt b p) := by
  simp only [segOk, Bool.and_eq_true] at hs
  have h := hs.1.1.1
  simp only [flagsB, decide_eq_true_eq] at h
  exact ⟨Wd.num_lt _ _ 4, by omega, Wd.num_lt _ _ 8, Wd.num_lt _ _ 8, Wd.num_lt _ _ 8, Wd.num_lt _ _ 8⟩
theorem readOk_fit {b : List UInt8} {k : Nat} (h : readOk b k = true) : ∀ x ∈ segsOf b k, SgFit x := by
  intro x hx
  simp only [readOk, Bool.and_eq_true, List.all_eq_true, List.mem_range] at h
  simp only [segsOf, List.mem_map, List.mem_range] at hx
  obtain ⟨i, hi, rfl⟩ := hx
  exact segAt_fit (h.1 i hi)
end Go.Proofs.Ytkonolmakpeocaa.El
