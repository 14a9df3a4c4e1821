/- Plain laws of elf: what holds of what is parsed. No program in sight. No conditions. -/
import Derived.Test.YtkonolmakpeocaaElf4
import Derived.Test.YtkonolmakpeocaaElf6p
namespace Go.Proofs.Ytkonolmakpeocaa.El
set_option linter.unusedVariables false
set_option linter.unusedSimpArgs false
open Wd (num)

def zeroHd : Hd := ⟨0, 0, 0, []⟩
theorem parse_cases (b : List UInt8) : parse b = (13, zeroHd) ∨ parse b = (25, zeroHd) ∨ (hdrOk b = true ∧ formOk b = true ∧ parse b = (0, headOf b)) := by
  unfold parse zeroHd
  cases hdrOk b <;> cases formOk b <;> simp

theorem form_parts {b : List UInt8} (h : formOk b = true) : num b 32 8 + num b 56 2 * 56 ≤ b.length ∧ (∀ i, i < num b 56 2 → segOk b (num b 32 8 + i * 56) (num b 16 2) = true) ∧
    rises (segsOf b (num b 56 2)) 0 = true ∧ wholeOk (headOf b) = true := by
  simp only [formOk, Bool.and_eq_true, decide_eq_true_eq, List.all_eq_true, List.mem_range] at h
  exact ⟨h.1.1.1, h.1.1.2, h.1.2, h.2⟩

/-- What holds of a load of a file of n bytes. -/
structure LoadOk (n ty : Nat) (s : Sg) : Prop where
  msz : 0 < s.msz
  fsz : s.fsz ≤ s.msz
  ins : s.off + s.fsz ≤ n
  al : s.off % 4096 = s.addr % 4096
  fin : s.addr + s.msz ≤ endOf ty
  fl : s.flags ≤ 7
theorem endOf_le (ty : Nat) : endOf ty ≤ 140737488355328 := by unfold endOf; split <;> omega

theorem mem_segs {b : List UInt8} {n : Nat} {s : Sg} (h : s ∈ segsOf b n) : ∃ i, i < n ∧ s = segAt b (num b 32 8 + i * 56) := by
  simp only [segsOf, List.mem_map, List.mem_range] at h
  obtain ⟨i, hi, rfl⟩ := h
  exact ⟨i, hi, rfl⟩
theorem load_ok {b : List UInt8} (h : formOk b = true) : ∀ s ∈ loads (segsOf b (num b 56 2)), LoadOk b.length (num b 16 2) s := by
  intro s hs
  obtain ⟨hs, hl⟩ := List.mem_filter.1 hs
  obtain ⟨i, hi, rfl⟩ := mem_segs hs
  have hok := (form_parts h).2.1 i hi
  have hk : (segAt b (num b 32 8 + i * 56)).kind = 1 := by simpa [isLoad] using hl
  generalize num b 32 8 + i * 56 = p at *
  simp only [segOk, Bool.and_eq_true] at hok
  obtain ⟨⟨⟨h1, h2⟩, h3⟩, h4⟩ := hok
  simp only [flagsB, decide_eq_true_eq] at h1
  simp only [insideB, Bool.and_eq_true, decide_eq_true_eq] at h2
  simp only [endB, hk, knownB] at h3
  simp only [alignB, hk] at h4
  simp at h3 h4
  exact ⟨h4.2, h2.1, h2.2, h4.1.2, h3, h1⟩
theorem loads_fit {b : List UInt8} (h : formOk b = true) : ∀ s ∈ segsOf b (num b 56 2), SgFit s := by
  intro s hs
  obtain ⟨i, hi, rfl⟩ := mem_segs hs
  exact segAt_fit ((form_parts h).2.1 i hi)

/-- The loads rise. -/
def risesL : List Sg → Nat → Bool
  | [], _ => true
  | s :: r, t => decide (t ≤ s.addr) && risesL r (up (s.addr + s.msz))
theorem rises_loads (l : List Sg) : ∀ t, rises l t = risesL (loads l) t := by
  induction l with
  | nil => intro t; rfl
  | cons s r ih =>
    intro t
    unfold rises
    cases hs : isLoad s
    · simp [loads, hs, ih]
    · simp [loads, hs, risesL, ih]
theorem risesL_at (l : List Sg) : ∀ t, risesL l t = true → ∀ k s s', l[k]? = some s → l[k + 1]? = some s' → up (s.addr + s.msz) ≤ s'.addr := by
  induction l with
  | nil => intro t _ k s s' h; simp at h
  | cons a r ih =>
    intro t h k s s' h1 h2
    simp only [risesL, Bool.and_eq_true, decide_eq_true_eq] at h
    cases k with
    | zero =>
      simp at h1 h2
      subst h1
      cases r with
      | nil => simp at h2
      | cons c r =>
        simp at h2
        subst h2
        have := h.2
        simp only [risesL, Bool.and_eq_true, decide_eq_true_eq] at this
        exact this.1
    | succ k => exact ih _ h.2 k s s' (by simpa using h1) (by simpa using h2)

theorem loads_pos {b : List UInt8} (h : formOk b = true) : 0 < (loads (segsOf b (num b 56 2))).length := by
  have hw := (form_parts h).2.2.2
  simp only [wholeOk, Bool.and_eq_true, decide_eq_true_eq] at hw
  exact hw.2.1.1.1.1

/-- An entry that lies in a load that may be executed. -/
def entersL (en : Nat) (s : Sg) : Bool := s.flags % 2 == 1 && (decide (s.addr ≤ en) && decide (en < s.addr + s.msz))
theorem w64_in {en : Nat} {s : Sg} (he : en < 18446744073709551616) (h : s.addr + s.msz ≤ 140737488355328) : decide (w64 en s.addr < s.msz) = (decide (s.addr ≤ en) && decide (en < s.addr + s.msz)) := by
  rw [Bool.eq_iff_iff, Bool.and_eq_true, decide_eq_true_eq, decide_eq_true_eq, decide_eq_true_eq]
  unfold w64
  constructor
  · intro h1
    by_cases h2 : s.addr ≤ en
    · omega
    · omega
  · intro h1
    omega
theorem any_filter {α : Type} (p q : α → Bool) (l : List α) : (l.any fun x => p x && q x) = (l.filter p).any q := by simp
theorem any_same {α : Type} {p q : α → Bool} {l : List α} (h : ∀ x ∈ l, p x = q x) : l.any p = l.any q := by
  induction l with
  | nil => rfl
  | cons a r ih =>
    simp only [List.any_cons]
    rw [h a (by simp), ih fun x hx => h x (by simp [hx])]
theorem enters_ok {b : List UInt8} (h : formOk b = true) :
    ((num b 16 2 == 3 && num b 24 8 == 0) || (loads (segsOf b (num b 56 2))).any (entersL (num b 24 8))) = true := by
  have hw := (form_parts h).2.2.2
  simp only [wholeOk, Bool.and_eq_true] at hw
  have he := hw.2.2
  have hl := load_ok h
  have e1 : (segsOf b (num b 56 2)).any (entersBy (headOf b)) = (loads (segsOf b (num b 56 2))).any (entersL (num b 24 8)) := by
    unfold entersBy
    rw [any_filter]
    refine any_same fun s hs => ?_
    have := hl s hs
    unfold entersL
    rw [← w64_in (Wd.num_lt b 24 8) (Nat.le_trans this.fin (endOf_le _))]
    rfl
  unfold enters at he
  rw [← e1]
  exact he

theorem hdr_type {b : List UInt8} (h : hdrOk b = true) : num b 16 2 = 2 ∨ num b 16 2 = 3 := by
  simp only [hdrOk, Bool.and_eq_true, Bool.or_eq_true, beq_iff_eq] at h
  exact h.1.1.2
theorem hdr_len {b : List UInt8} (h : hdrOk b = true) : 64 ≤ b.length := by
  simp only [hdrOk, Bool.and_eq_true, decide_eq_true_eq] at h
  exact h.1.1.1.1
theorem hdr_many {b : List UInt8} (h : hdrOk b = true) : 0 < num b 56 2 ∧ num b 56 2 ≤ 8 := by
  simp only [hdrOk, Bool.and_eq_true, decide_eq_true_eq] at h
  exact h.2

/-- All that the law of loads asks of the loads and the span, in one. -/
structure Holds (n ty en : Nat) (L : List Sg) (low high : Nat) : Prop where
  pos : 0 < L.length
  low1 : low % 4096 = 0
  high1 : high % 4096 = 0
  low2 : ∀ s, L[0]? = some s → low ≤ s.addr
  high2 : high ≤ 140737488355328
  high3 : ty = 3 → high ≤ 4294967296
  each : ∀ s ∈ L, LoadOk n ty s
  rise : ∀ k s s', L[k]? = some s → L[k + 1]? = some s' → up (s.addr + s.msz) ≤ s'.addr
  ent : ((ty == 3 && en == 0) || L.any (entersL en)) = true
  lst : ∀ s, L[L.length - 1]? = some s → (s.addr + s.msz - 1) / 4096 * 4096 < high

theorem up_mod (a : Nat) : up a % 4096 = 0 := by unfold up; omega
theorem up_le {a e : Nat} (h : a ≤ e) (he : e % 4096 = 0) : up a ≤ e := by unfold up; omega
theorem up_gt (a : Nat) (h : 0 < a) : (a - 1) / 4096 * 4096 < up a := by unfold up; omega

theorem holds_of {b : List UInt8} (hh : hdrOk b = true) (h : formOk b = true) :
    Holds b.length (num b 16 2) (num b 24 8) (loads (segsOf b (num b 56 2))) (spanL (loads (segsOf b (num b 56 2)))).1 (spanL (loads (segsOf b (num b 56 2)))).2 := by
  have hl := load_ok h
  have hp := loads_pos h
  have hr := risesL_at _ 0 ((rises_loads _ _).symm.trans (form_parts h).2.2.1)
  have he := enters_ok h
  generalize loads (segsOf b (num b 56 2)) = L at *
  obtain ⟨f, hf⟩ : ∃ f, L[0]? = some f := ⟨_, List.getElem?_eq_getElem hp⟩
  obtain ⟨l, hl0⟩ : ∃ l, L[L.length - 1]? = some l := ⟨_, List.getElem?_eq_getElem (by omega)⟩
  have lo := hl l (List.mem_of_getElem? hl0)
  have hle := Nat.le_trans lo.fin (endOf_le _)
  have hm := lo.msz
  have hsp : spanL L = (f.addr - f.addr % 4096, up (l.addr + l.msz)) := by
    unfold spanL
    rw [List.head?_eq_getElem?, hf, List.getLast?_eq_getElem?, hl0]
    simp only
    rw [if_pos (by omega)]
  rw [hsp]
  refine ⟨hp, ?_, up_mod _, ?_, up_le hle (by omega), ?_, hl, hr, he, ?_⟩
  · show (f.addr - f.addr % 4096) % 4096 = 0
    omega
  · intro s hs
    rw [hf] at hs
    injection hs with hs
    subst hs
    show f.addr - f.addr % 4096 ≤ f.addr
    omega
  · intro h3
    have := lo.fin
    rw [h3] at this
    exact up_le this (by omega)
  · intro s hs
    rw [hl0] at hs
    injection hs with hs
    subst hs
    exact up_gt _ (by omega)

end Go.Proofs.Ytkonolmakpeocaa.El
