/- All of the chapter's texts, for the law of chains. Ahead of it: The arguments of the laws of scripts: three texts; a path and arguments; three numbers. No conditions. -/
import Derived.Test.YtfegfmapdekkbaaGreatDoorSbB4
import Derived.Test.YtfegfmapdekkbaaGreatDoorSbB3
import Derived.Laws.IdiomArrays
import Derived.Test.YtfegfmapdekkbaaGreatDoorSbB5
namespace Go.Proofs.YtfegfmapdekkbaaGreatDoor
set_option linter.unusedVariables false
set_option linter.unusedSimpArgs false
open Go.RowKit Go.ChangeShapes Go.WideShapes Go.Joins Go.Deep

theorem runFields : ∃ fs, Tryz.prog.underlying 29 = some (.struct fs) ∧ oneCellFields Tryz.prog fs = true ∧ Tryz.prog.cellsOf 29 = fs.size ∧ fs.map (·.type) = #[9, 27] :=
  ⟨_, Tryz.underlying29, by kernel_rfl, by kernel_rfl, by kernel_rfl⟩
theorem okWide_arr {P : Program} {w : World} {r : Reach} {base : Nat} {t e : TypeId} {k : Nat} {v : Value} (ht : P.underlying t = some (.array k e)) (h : Value.okWide P w r base t v) : ∃ cs, v = .agg cs ∧ cs.size = P.cellsOf t := by
  simp only [Value.okWide, ht] at h
  obtain ⟨cs, h1, h2, _⟩ := h
  exact ⟨cs, h1, h2⟩
section
variable {H : Type} {enc : TypeId × Value → H} {w : World} {base : Nat} {held : Bool}
set_option maxRecDepth 100000 in
theorem open_run_rd {r : Reach} {b0 : Nat} {v : Value} {d : DataW H} {p : List MemPlace} (hv : Value.okWide Tryz.prog w r b0 29 v) (h : DataW.Trod enc Tryz.prog w base (fun _ => true) held 29 v d p) :
    ∃ (s : ByteArray) (A : Option Addr) (n c : Nat) (l : List ByteArray), v = .agg #[.string s, .slice A n c] ∧ s.size ≤ maxLen ∧ Rd w w.heap.size 1 A n (l.map Value.string) ∧ n ≤ c ∧ c ≤ maxLen ∧ ∀ x ∈ l, x.size ≤ maxLen := by
  obtain ⟨cs, rfl, hsz⟩ := okWide_struct Tryz.underlying29 hv
  obtain ⟨fuel, hf⟩ := h
  obtain ⟨hl, n, hf⟩ := flds_vals _ runFields hf
  have e2 : ∃ c0 c1, cs = #[c0, c1] := by
    obtain ⟨l⟩ := cs
    match l, hl with
    | [c0, c1], _ => exact ⟨c0, c1, rfl⟩
  obtain ⟨c0, c1, rfl⟩ := e2
  obtain ⟨y0, h0⟩ := hf 0 9 c0 rfl rfl
  obtain ⟨y1, h1⟩ := hf 1 27 c1 rfl rfl
  obtain ⟨s, rfl, bs⟩ := fstr_is Tryz.underlying9 h0
  obtain ⟨A, m, c, rfl⟩ := fslice_is Tryz.underlying27 h1
  obtain ⟨x, w1, wc, wm, we⟩ := open_strs_rd (d := y1.1) (p := y1.2) Tryz.underlying27 Tryz.underlying9 (by kernel_rfl) ⟨n, h1⟩
  exact ⟨s, A, m, c, x, rfl, bs, w1, wc, wm, we⟩
end
end Go.Proofs.YtfegfmapdekkbaaGreatDoor

