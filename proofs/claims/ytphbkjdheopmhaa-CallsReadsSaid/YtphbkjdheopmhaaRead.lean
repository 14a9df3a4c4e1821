/- What an argument that is a slice of bytes, of integers or of strings reads as: a list, cell by cell. No conditions. -/
import Derived.Test.YtphbkjdheopmhaaBase
import Derived.ChangeSlices
import Derived.SliceStrings
import Derived.OpenShut
namespace Go.Proofs.Ytphbkjdheopmhaa
set_option linter.unusedVariables false
set_option linter.unusedSimpArgs false
open Go.RowKit Go.ChangeShapes Go.WideShapes

theorem cell_lt {w : World} {a : Addr} {v : Value} (h : w.cell? a = some v) : a.block < w.heap.size := by
  unfold World.cell? at h
  split at h
  · rename_i hb
    exact (Array.getElem?_eq_some_iff.1 hb).1
  · cases h

section
variable {H : Type} {enc : TypeId × Value → H} {P : Program} {w : World} {base : Nat} {held : Bool} {t e : TypeId} {A : Option Addr} {n c : Nat} {d : DataW H} {p : List MemPlace}

theorem open_nums_rd {k : IntKind} (ht : P.underlying t = some (.slice e)) (he : P.underlying e = some (.int k)) (hc : P.cellsOf e = 1)
    (h : DataW.Trod enc P w base (fun _ => true) held t (.slice A n c) d p) :
    ∃ zs : List Int, Rd w w.heap.size 1 A n (zs.map (Value.int k)) ∧ n ≤ c ∧ c ≤ maxLen ∧ ∀ z ∈ zs, (Lit.int k z).wf = true := by
  obtain ⟨fuel, hf⟩ := h
  rcases open_ints ht he hc hf with ⟨h1, h2⟩ | ⟨a, len, cap, zs, h1, hb, hl, hm, hz, hx, hcell, hwz⟩
  · simp [Value.cells] at h1
    obtain ⟨rfl, rfl, rfl⟩ := h1
    exact ⟨[], Rd.none_ _ _ _ _, Nat.le_refl _, by unfold maxLen; omega, by simp⟩
  · simp [Value.cells] at h1
    obtain ⟨rfl, rfl, rfl⟩ := h1
    simp only [if_true] at hz
    refine ⟨zs.take n, ⟨by simp [hz]; omega, ?_⟩, hl, hm, fun z hz => hwz z (List.mem_of_mem_take hz)⟩
    by_cases h0 : n = 0
    · subst h0; exact .inl rfl
    · obtain ⟨b, off, rfl, hc2⟩ := ints_at hcell (by omega)
      have hblk := cell_lt (hc2 0 (by omega))
      refine .inr ⟨b, off, rfl, hblk, fun j u hu => ?_⟩
      simp only [List.getElem?_map, Option.map_eq_some_iff] at hu
      obtain ⟨z, hz1, rfl⟩ := hu
      have hj : j < n := by
        have := (List.getElem?_eq_some_iff.1 hz1).1
        simp at this
        omega
      rw [List.getElem?_take_of_lt hj] at hz1
      rw [hc2 j (by omega), List.getD_eq_getElem?_getD, hz1]
      rfl

theorem u8_of {z : Int} (h : (Lit.int .u8 z).wf = true) : ((UInt8.ofNat z.toNat).toNat : Int) = z := by
  have hb : 0 ≤ z ∧ z ≤ 255 := by
    simpa [Lit.wf, IntKind.min, IntKind.max, IntKind.signed, IntKind.bits] using h
  simp
  omega

theorem open_bytes_rd (ht : P.underlying t = some (.slice e)) (he : P.underlying e = some (.int .u8)) (hc : P.cellsOf e = 1)
    (h : DataW.Trod enc P w base (fun _ => true) held t (.slice A n c) d p) :
    ∃ b : List UInt8, Rd w w.heap.size 1 A n (b.map fun c => .int .u8 c.toNat) ∧ n ≤ c ∧ c ≤ maxLen := by
  obtain ⟨zs, h1, h2, h3, h4⟩ := open_nums_rd ht he hc h
  refine ⟨zs.map fun z => UInt8.ofNat z.toNat, ?_, h2, h3⟩
  have e1 : (zs.map fun z => UInt8.ofNat z.toNat).map (fun c : UInt8 => Value.int .u8 c.toNat) = zs.map (Value.int .u8) := by
    rw [List.map_map]
    refine List.map_congr_left fun z hz => ?_
    show Value.int .u8 ((UInt8.ofNat z.toNat).toNat : Int) = _
    rw [u8_of (h4 z hz)]
  rw [e1]
  exact h1

theorem open_ints_rd (ht : P.underlying t = some (.slice e)) (he : P.underlying e = some (.int .i64)) (hc : P.cellsOf e = 1)
    (h : DataW.Trod enc P w base (fun _ => true) held t (.slice A n c) d p) :
    ∃ zs : List Int, Rd w w.heap.size 1 A n (zs.map (Value.int .i64)) ∧ n ≤ c ∧ c ≤ maxLen ∧ ∀ z ∈ zs, -9223372036854775808 ≤ z ∧ z ≤ 9223372036854775807 := by
  obtain ⟨zs, h1, h2, h3, h4⟩ := open_nums_rd ht he hc h
  refine ⟨zs, h1, h2, h3, fun z hz => ?_⟩
  have := h4 z hz
  simpa [Lit.wf, IntKind.min, IntKind.max, IntKind.signed, IntKind.bits] using this

theorem open_strs_rd (ht : P.underlying t = some (.slice e)) (he : P.underlying e = some .string) (hc : P.cellsOf e = 1)
    (h : DataW.Trod enc P w base (fun _ => true) held t (.slice A n c) d p) :
    ∃ ss : List ByteArray, Rd w w.heap.size 1 A n (ss.map Value.string) ∧ n ≤ c ∧ c ≤ maxLen ∧ ∀ s ∈ ss, s.size ≤ maxLen := by
  obtain ⟨fuel, hf⟩ := h
  rcases open_strings ht he hc hf with ⟨h1, h2⟩ | ⟨a, len, cap, zs, h1, hb, hl, hm, hz, hx, hcell, hwz⟩
  · simp [Value.cells] at h1
    obtain ⟨rfl, rfl, rfl⟩ := h1
    exact ⟨[], Rd.none_ _ _ _ _, Nat.le_refl _, by unfold maxLen; omega, by simp⟩
  · simp [Value.cells] at h1
    obtain ⟨rfl, rfl, rfl⟩ := h1
    simp only [if_true] at hz
    refine ⟨zs.take n, ⟨by simp [hz]; omega, ?_⟩, hl, hm, fun z hz => hwz z (List.mem_of_mem_take hz)⟩
    by_cases h0 : n = 0
    · subst h0; exact .inl rfl
    · obtain ⟨b, off, spot⟩ := a
      have hs : spot = none := by simpa [Addr.add] using World.cell?_spot (hcell 0 (by omega))
      subst hs
      have hc2 : ∀ i, i < zs.length → w.cell? ⟨b, off + i, none⟩ = some (.string (zs.getD i ByteArray.empty)) := fun j hj => by
        rw [← Go.WideShapes.add_plain]; exact hcell j hj
      have hblk := cell_lt (hc2 0 (by omega))
      refine .inr ⟨b, off, rfl, hblk, fun j u hu => ?_⟩
      simp only [List.getElem?_map, Option.map_eq_some_iff] at hu
      obtain ⟨z, hz1, rfl⟩ := hu
      have hj : j < n := by
        have := (List.getElem?_eq_some_iff.1 hz1).1
        simp at this
        omega
      rw [List.getElem?_take_of_lt hj] at hz1
      rw [hc2 j (by omega), List.getD_eq_getElem?_getD, hz1]
      rfl
end
end Go.Proofs.Ytphbkjdheopmhaa
