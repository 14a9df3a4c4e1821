/- What an argument that is a head reads as: four fields, and a list of segments. No conditions. -/
import Derived.Test.YtkonolmakpeocaaRead
import Derived.Test.YtkonolmakpeocaaElf3
import Derived.Deep.Slices
import Derived.Lib.SmallJoins
namespace Go.Proofs.Ytkonolmakpeocaa
set_option linter.unusedVariables false
set_option linter.unusedSimpArgs false
open Go.RowKit Go.ChangeShapes Go.WideShapes Go.Joins Go.Deep

section
variable {H : Type} {enc : TypeId × Value → H} {P : Program} {w : World} {base : Nat} {spare : Nat → Bool} {held : Bool}

theorem cells_at {a : Addr} {k : Nat} {cs : List Value} (h : w.cells? base a k = some cs) : cs.length = k ∧ ∀ j, j < k → w.cell? (a.add j) = cs[j]? := by
  unfold World.cells? at h
  split at h
  · have hl := mapM_some_length h
    refine ⟨by simpa using hl, fun j hj => ?_⟩
    exact mapM_some_get h j j (by simp [hj])
  · cases h
theorem fields_one {t : TypeId} {fs : Array Field} {fuel : Nat} {cs : List Value} {x : DataW H × List MemPlace} (ht : P.underlying t = some (.struct fs)) (hone : oneCellFields P fs = true) (hC : P.cellsOf t = fs.size)
    (h : DataW.trod enc P w base spare held fuel t cs = some x) : cs.length = fs.size ∧ ∃ n, ∀ (i : Nat) (f : Field) (v : Value), fs[i]? = some f → cs[i]? = some v → ∃ y, DataW.trod enc P w base spare held n f.type [v] = some y := by
  obtain ⟨xs, n, _, rfl, hl, hlen, hf⟩ := DataW.trod_struct ht h
  refine ⟨hl.trans hC, n, fun i f v hi hv => ?_⟩
  obtain ⟨o, k⟩ := hone_of hone i f hi
  have hi2 : i < fs.size := (Array.getElem?_eq_some_iff.1 hi).1
  have h1 := hf i f hi
  have e : ((cs.drop f.offset).take (P.cellsOf f.type)) = [v] := by
    rw [o, k]
    have hlt : i < cs.length := (List.getElem?_eq_some_iff.1 hv).1
    rw [List.drop_eq_getElem_cons hlt, (List.getElem?_eq_some_iff.1 hv).2]
    rfl
  rw [e] at h1
  exact ⟨_, h1.trans (List.getElem?_eq_getElem (by omega))⟩
end

theorem segFields : ∃ fs, Try.prog.underlying 37 = some (.struct fs) ∧ oneCellFields Try.prog fs = true ∧ Try.prog.cellsOf 37 = fs.size ∧ fs.size = 6 ∧ fs.map (·.type) = #[35, 5, 25, 25, 25, 25] :=
  ⟨_, Try.underlying37, by kernel_rfl, by kernel_rfl, by kernel_rfl, by kernel_rfl⟩

theorem nat_of {k : IntKind} {z : Int} {y : Nat} (h : 0 ≤ z ∧ z ≤ (y : Int)) : ∃ n : Nat, z = n ∧ n < y + 1 := ⟨z.toNat, by omega, by omega⟩

section
variable {H : Type} {enc : TypeId × Value → H} {w : World} {base : Nat} {spare : Nat → Bool} {held : Bool}
theorem seg_vals {fuel : Nat} {cs : List Value} {x : DataW H × List MemPlace} (h : DataW.trod enc Try.prog w base spare held fuel 37 cs = some x) : ∃ s : El.Sg, cs = sgVals s ∧ SgFit s := by
  obtain ⟨fs, ht, hone, hC, h6, hty⟩ := segFields
  obtain ⟨hl, n, hf⟩ := fields_one ht hone hC h
  rw [h6] at hl
  have hfi : ∀ (i : Nat) (t : TypeId), (fs.map (·.type))[i]? = some t → ∃ f : Field, fs[i]? = some f ∧ f.type = t := by
    intro i t hi
    rw [Array.getElem?_map] at hi
    cases hq : fs[i]? with
    | none => rw [hq] at hi; cases hi
    | some f => rw [hq] at hi; exact ⟨f, rfl, by simpa using hi⟩
  match cs, hl with
  | [c0, c1, c2, c3, c4, c5], _ =>
    obtain ⟨f0, g0, e0⟩ := hfi 0 35 (by rw [hty]; rfl)
    obtain ⟨f1, g1, e1⟩ := hfi 1 5 (by rw [hty]; rfl)
    obtain ⟨f2, g2, e2⟩ := hfi 2 25 (by rw [hty]; rfl)
    obtain ⟨f3, g3, e3⟩ := hfi 3 25 (by rw [hty]; rfl)
    obtain ⟨f4, g4, e4⟩ := hfi 4 25 (by rw [hty]; rfl)
    obtain ⟨f5, g5, e5⟩ := hfi 5 25 (by rw [hty]; rfl)
    obtain ⟨y0, h0⟩ := hf 0 f0 c0 g0 rfl
    obtain ⟨y1, h1⟩ := hf 1 f1 c1 g1 rfl
    obtain ⟨y2, h2⟩ := hf 2 f2 c2 g2 rfl
    obtain ⟨y3, h3⟩ := hf 3 f3 c3 g3 rfl
    obtain ⟨y4, h4⟩ := hf 4 f4 c4 g4 rfl
    obtain ⟨y5, h5⟩ := hf 5 f5 c5 g5 rfl
    rw [e0] at h0
    rw [e1] at h1
    rw [e2] at h2
    rw [e3] at h3
    rw [e4] at h4
    rw [e5] at h5
    obtain ⟨z0, q0, -, w0⟩ := DataW.trod_int Try.underlying35 h0
    obtain ⟨z1, q1, -, w1⟩ := DataW.trod_int Try.underlying5 h1
    obtain ⟨z2, q2, -, w2⟩ := DataW.trod_int Try.underlying25 h2
    obtain ⟨z3, q3, -, w3⟩ := DataW.trod_int Try.underlying25 h3
    obtain ⟨z4, q4, -, w4⟩ := DataW.trod_int Try.underlying25 h4
    obtain ⟨z5, q5, -, w5⟩ := DataW.trod_int Try.underlying25 h5
    simp only [List.cons.injEq, and_true] at q0 q1 q2 q3 q4 q5
    subst q0 q1 q2 q3 q4 q5
    have b0 : 0 ≤ z0 ∧ z0 ≤ 4294967295 := by simpa [Lit.wf, IntKind.min, IntKind.max, IntKind.signed, IntKind.bits] using w0
    have b1 : 0 ≤ z1 ∧ z1 ≤ 255 := by simpa [Lit.wf, IntKind.min, IntKind.max, IntKind.signed, IntKind.bits] using w1
    have b2 : 0 ≤ z2 ∧ z2 ≤ 18446744073709551615 := by simpa [Lit.wf, IntKind.min, IntKind.max, IntKind.signed, IntKind.bits] using w2
    have b3 : 0 ≤ z3 ∧ z3 ≤ 18446744073709551615 := by simpa [Lit.wf, IntKind.min, IntKind.max, IntKind.signed, IntKind.bits] using w3
    have b4 : 0 ≤ z4 ∧ z4 ≤ 18446744073709551615 := by simpa [Lit.wf, IntKind.min, IntKind.max, IntKind.signed, IntKind.bits] using w4
    have b5 : 0 ≤ z5 ∧ z5 ≤ 18446744073709551615 := by simpa [Lit.wf, IntKind.min, IntKind.max, IntKind.signed, IntKind.bits] using w5
    refine ⟨⟨z0.toNat, z1.toNat, z2.toNat, z3.toNat, z4.toNat, z5.toNat⟩, ?_, ?_⟩
    · simp only [sgVals]
      rw [Int.toNat_of_nonneg b0.1, Int.toNat_of_nonneg b1.1, Int.toNat_of_nonneg b2.1, Int.toNat_of_nonneg b3.1, Int.toNat_of_nonneg b4.1, Int.toNat_of_nonneg b5.1]
    · exact ⟨by show z0.toNat < _; omega, by show z1.toNat < _; omega, by show z2.toNat < _; omega, by show z3.toNat < _; omega, by show z4.toNat < _; omega, by show z5.toNat < _; omega⟩

theorem open_segs_rd {A : Option Addr} {n c fuel : Nat} {x : DataW H × List MemPlace} (h : DataW.trod enc Try.prog w base (fun _ => true) held fuel 26 [.slice A n c] = some x) :
    ∃ l : List El.Sg, Rd w w.heap.size 6 A n (segCells l) ∧ n ≤ c ∧ c ≤ maxLen ∧ ∀ s ∈ l, SgFit s := by
  have h6 : Try.prog.cellsOf 37 = 6 := by kernel_rfl
  rcases Go.Deep.open_slice Try.underlying26 h with ⟨h1, h2⟩ | ⟨a, len, cap, m, k, D, Pl, h1, hb, hl, hm, hmm, hx, hel⟩
  · simp at h1
    obtain ⟨rfl, rfl, rfl⟩ := h1
    exact ⟨[], Rd.none_ _ _ _ _, Nat.le_refl _, by unfold maxLen; omega, by simp⟩
  · simp at h1
    obtain ⟨rfl, rfl, rfl⟩ := h1
    simp only [if_true] at hmm
    have each : ∀ i, i < n → ∃ s : El.Sg, SgFit s ∧ ∀ j, j < 6 → w.cell? (a.add (i * 6 + j)) = (sgVals s)[j]? := by
      intro i hi
      obtain ⟨cs, hc, ht⟩ := hel i (by omega)
      rw [h6] at hc
      obtain ⟨s, rfl, hs⟩ := seg_vals ht
      obtain ⟨_, hcell⟩ := cells_at hc
      refine ⟨s, hs, fun j hj => ?_⟩
      have := hcell j hj
      rw [← this]
      congr 1
      by_cases g1 : i * 6 = 0 <;> by_cases g2 : j = 0 <;> simp [Addr.add, g1, g2, Nat.add_assoc]
    have hne : Inhabited El.Sg := ⟨⟨0, 0, 0, 0, 0, 0⟩⟩
    obtain ⟨S, hS⟩ := Go.Deep.choose_lt each
    refine ⟨(List.range n).map S, ⟨by rw [segCells_len]; simp, ?_⟩, hl, hm, ?_⟩
    · by_cases h0 : n = 0
      · subst h0; exact .inl rfl
      · obtain ⟨b, off, spot⟩ := a
        have hs0 := (hS 0 (by omega)).2 0 (by omega)
        have hs : spot = none := by simpa [Addr.add] using World.cell?_spot (hs0.trans rfl)
        subst hs
        have hc2 : ∀ i, i < n → ∀ j, j < 6 → w.cell? ⟨b, off + (i * 6 + j), none⟩ = (sgVals (S i))[j]? := fun i hi j hj => by
          rw [← Go.WideShapes.add_plain]; exact (hS i hi).2 j hj
        have hblk : b < w.heap.size := cell_lt (a := ⟨b, off + (0 * 6 + 0), none⟩) ((hc2 0 (by omega) 0 (by omega)).trans rfl)
        refine .inr ⟨b, off, rfl, hblk, fun j u hu => ?_⟩
        have hj : j < n * 6 := by
          have := (List.getElem?_eq_some_iff.1 hu).1
          rw [segCells_len] at this
          simpa using this
        have hq : j / 6 < n := by omega
        have hat := segCells_at ((List.range n).map S) (j / 6) (S (j / 6)) (by simp [hq]) (j % 6) (by omega)
        rw [show j / 6 * 6 + j % 6 = j from by omega] at hat
        have := hc2 (j / 6) hq (j % 6) (by omega)
        rw [show j / 6 * 6 + j % 6 = j from by omega] at this
        rw [this, ← hat, hu]
    · intro s hs
      simp only [List.mem_map, List.mem_range] at hs
      obtain ⟨i, hi, rfl⟩ := hs
      exact (hS i hi).1
end
end Go.Proofs.Ytkonolmakpeocaa
