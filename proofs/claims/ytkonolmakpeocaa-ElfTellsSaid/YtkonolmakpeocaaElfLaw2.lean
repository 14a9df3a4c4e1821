/- Plain laws of elf: a file that is cut, and a file of which bytes have turned that nobody looks at. No program in sight. No conditions. -/
import Derived.Test.YtkonolmakpeocaaElfLaw
namespace Go.Proofs.Ytkonolmakpeocaa.El
set_option linter.unusedVariables false
set_option linter.unusedSimpArgs false
open Wd (num)

theorem num_congr {b c : List UInt8} {p s : Nat} (h : ∀ i, p ≤ i → i < p + s → b[i]? = c[i]?) : num b p s = num c p s := by
  unfold num
  congr 1
  refine List.ext_getElem? fun i => ?_
  by_cases hi : i < s
  · rw [List.getElem?_take_of_lt hi, List.getElem?_take_of_lt hi, List.getElem?_drop, List.getElem?_drop]
    exact h _ (by omega) (by omega)
  · rw [List.getElem?_take_eq_none (by omega), List.getElem?_take_eq_none (by omega)]

theorem segAt_congr {b c : List UInt8} {p : Nat} (h : ∀ i, p ≤ i → i < p + 24 ∨ (p + 32 ≤ i ∧ i < p + 56) → b[i]? = c[i]?) : segAt b p = segAt c p ∧ num b (p + 48) 8 = num c (p + 48) 8 := by
  unfold segAt
  rw [num_congr (b := b) (c := c) (p := p) (s := 4) fun i h1 h2 => h i (by omega) (by omega), num_congr (b := b) (c := c) (p := p + 4) (s := 4) fun i h1 h2 => h i (by omega) (by omega),
    num_congr (b := b) (c := c) (p := p + 8) (s := 8) fun i h1 h2 => h i (by omega) (by omega), num_congr (b := b) (c := c) (p := p + 16) (s := 8) fun i h1 h2 => h i (by omega) (by omega),
    num_congr (b := b) (c := c) (p := p + 32) (s := 8) fun i h1 h2 => h i (by omega) (by omega), num_congr (b := b) (c := c) (p := p + 40) (s := 8) fun i h1 h2 => h i (by omega) (by omega),
    num_congr (b := b) (c := c) (p := p + 48) (s := 8) fun i h1 h2 => h i (by omega) (by omega)]
  exact ⟨rfl, rfl⟩

theorem prefix_congr {b c : List UInt8} (h : ∀ i, i < 7 → b[i]? = c[i]?) : Lib.hasPrefix b magic = Lib.hasPrefix c magic := by
  have key : ∀ (x : List UInt8), Lib.hasPrefix x magic = (x.take 7 == magic) := by
    intro x
    show List.isPrefixOf magic x = _
    rw [Bool.eq_iff_iff, List.isPrefixOf_iff_prefix, List.prefix_iff_eq_take, beq_iff_eq]
    exact eq_comm
  rw [key, key]
  congr 1
  refine List.ext_getElem? fun i => ?_
  by_cases hi : i < 7
  · rw [List.getElem?_take_of_lt hi, List.getElem?_take_of_lt hi]
    exact h i hi
  · rw [List.getElem?_take_eq_none (by omega), List.getElem?_take_eq_none (by omega)]

/-- The header's bytes that are looked at agree. -/
def HdrSame (b c : List UInt8) : Prop := ∀ i, i < 7 ∨ (16 ≤ i ∧ i < 40) ∨ (54 ≤ i ∧ i < 58) → b[i]? = c[i]?
theorem hdr_nums {b c : List UInt8} (h : HdrSame b c) : num b 16 2 = num c 16 2 ∧ num b 18 2 = num c 18 2 ∧ num b 20 4 = num c 20 4 ∧ num b 24 8 = num c 24 8 ∧ num b 32 8 = num c 32 8 ∧ num b 54 2 = num c 54 2 ∧ num b 56 2 = num c 56 2 :=
  ⟨num_congr fun i h1 h2 => h i (by omega), num_congr fun i h1 h2 => h i (by omega), num_congr fun i h1 h2 => h i (by omega), num_congr fun i h1 h2 => h i (by omega), num_congr fun i h1 h2 => h i (by omega),
    num_congr fun i h1 h2 => h i (by omega), num_congr fun i h1 h2 => h i (by omega)⟩
/-- The program headers' bytes that are looked at agree. -/
def SegSame (b c : List UInt8) (ph n : Nat) : Prop := ∀ k, k < n → ∀ i, ph + k * 56 ≤ i → i < ph + k * 56 + 24 ∨ (ph + k * 56 + 32 ≤ i ∧ i < ph + k * 56 + 56) → b[i]? = c[i]?

theorem segsOf_congr {b c : List UInt8} {n : Nat} (h0 : num b 32 8 = num c 32 8) (h : SegSame b c (num b 32 8) n) : segsOf b n = segsOf c n := by
  unfold segsOf
  refine List.map_congr_left fun i hi => ?_
  rw [← h0]
  exact (segAt_congr (h i (List.mem_range.1 hi))).1

theorem hdrOk_congr {b c : List UInt8} (hl : 64 ≤ b.length) (hl2 : 64 ≤ c.length) (h : HdrSame b c) : hdrOk b = hdrOk c := by
  obtain ⟨e1, e2, e3, e4, e5, e6, e7⟩ := hdr_nums h
  unfold hdrOk
  rw [e1, e2, e3, e6, e7, prefix_congr fun i hi => h i (.inl hi)]
  simp [hl, hl2]

/-- From a file to one that holds it, as far as it is looked at: it is told as it was. -/
theorem parse_more {b c : List UInt8} (hl : b.length ≤ c.length) (h : HdrSame b c) (h2 : SegSame b c (num b 32 8) (num b 56 2)) (hh : hdrOk b = true) (hf : formOk b = true) :
    hdrOk c = true ∧ formOk c = true ∧ headOf c = headOf b := by
  have h64 := hdr_len hh
  obtain ⟨e1, e2, e3, e4, e5, e6, e7⟩ := hdr_nums h
  have hs := segsOf_congr e5 h2
  have hhd : headOf c = headOf b := by
    unfold headOf
    rw [← e1, ← e4, ← e5, ← e7, hs]
  obtain ⟨f1, f2, f3, f4⟩ := form_parts hf
  refine ⟨(hdrOk_congr h64 (by omega) h).symm.trans hh, ?_, hhd⟩
  simp only [formOk, Bool.and_eq_true, decide_eq_true_eq, List.all_eq_true, List.mem_range]
  rw [hhd, ← e1, ← e5, ← e7, ← hs]
  refine ⟨⟨⟨by omega, fun i hi => ?_⟩, f3⟩, f4⟩
  have ho := f2 i hi
  obtain ⟨g1, g2⟩ := segAt_congr (h2 i hi)
  unfold segOk at ho ⊢
  rw [← g1, ← g2]
  simp only [Bool.and_eq_true] at ho ⊢
  refine ⟨⟨⟨ho.1.1.1, ?_⟩, ho.1.2⟩, ho.2⟩
  have h3 := ho.1.1.2
  simp only [insideB, Bool.and_eq_true, decide_eq_true_eq] at h3 ⊢
  omega

theorem get_take {b : List UInt8} {n i : Nat} (h : i < n) : (b.take n)[i]? = b[i]? := List.getElem?_take_of_lt h

/-- A file that is cut: what is told is told of the whole file. -/
theorem parse_cut (b : List UInt8) (n : Nat) (h : (parse (b.take n)).1 = 0) : parse b = parse (b.take n) := by
  rcases parse_cases (b.take n) with e | e | ⟨hh, hf, e⟩
  · rw [e] at h; cases h
  · rw [e] at h; cases h
  · have h64 := hdr_len hh
    have hn : 64 ≤ n := by simp at h64; omega
    have hf1 := (form_parts hf).1
    have hlen : (b.take n).length ≤ n := List.length_take_le _ _
    obtain ⟨g1, g2, g3⟩ := parse_more (b := b.take n) (c := b) (by simp; omega) (fun i hi => get_take (by omega)) (fun k hk i h1 h2 => get_take (by omega)) hh hf
    rw [e, ← g3]
    simp [parse, g1, g2]
theorem parse_short (b : List UInt8) (h : b.length < 64) : parse b = (13, zeroHd) := by
  have : hdrOk b = false := by
    unfold hdrOk
    simp
    intro h'
    omega
  simp [parse, this, zeroHd]

/-- Is a byte one that is looked at, where the headers stand behind the header? -/
def lookedB (i ph n : Nat) : Bool :=
  if i < 64 then decide (i < 7) || (decide (16 ≤ i) && decide (i < 40)) || (decide (54 ≤ i) && decide (i < 58))
  else if decide (i < ph) || decide (ph + 56 * n ≤ i) then false else decide ((i - ph) % 56 < 24) || decide (32 ≤ (i - ph) % 56)

/-- The same length, and the same bytes where one looks. -/
def Agree (ph n : Nat) (b c : List UInt8) : Prop := c.length = b.length ∧ ∀ i, lookedB i ph n = true → b[i]? = c[i]?
theorem Agree.refl (ph n : Nat) (b : List UInt8) : Agree ph n b b := ⟨rfl, fun _ _ => rfl⟩
theorem Agree.set {ph n : Nat} {b c : List UInt8} (h : Agree ph n b c) {i : Nat} (hi : lookedB i ph n = false) (x : UInt8) : Agree ph n b (c.set i x) := by
  refine ⟨by simp [h.1], fun j hj => ?_⟩
  have : i ≠ j := by intro e; subst e; rw [hi] at hj; cases hj
  rw [List.getElem?_set_ne this]
  exact h.2 j hj

theorem parse_free {b c : List UInt8} (hh : hdrOk b = true) (hf : formOk b = true) (hp : 64 ≤ num b 32 8) (h : Agree (num b 32 8) (num b 56 2) b c) : parse c = (0, headOf b) := by
  obtain ⟨g1, g2, g3⟩ := parse_more (b := b) (c := c) (by rw [h.1]; exact Nat.le_refl _) (fun i hi => h.2 i (by
      unfold lookedB
      rw [if_pos (by omega)]
      simp
      omega)) (fun k hk i h1 h2 => h.2 i (by
      have hk2 : k * 56 + 56 ≤ num b 56 2 * 56 := by omega
      unfold lookedB
      rw [if_neg (by omega)]
      have e1 : (decide (i < num b 32 8) || decide (num b 32 8 + 56 * num b 56 2 ≤ i)) = false := by simp; omega
      rw [e1]
      simp
      have e2 : (i - num b 32 8) % 56 = i - num b 32 8 - k * 56 := by
        have : i - num b 32 8 = (i - num b 32 8 - k * 56) + 56 * k := by omega
        rw [this, Nat.add_mul_mod_self_left]
        rw [Nat.mod_eq_of_lt (by omega)]
        omega
      omega)) hh hf
  rw [← g3]
  simp [parse, g1, g2]

end Go.Proofs.Ytkonolmakpeocaa.El
