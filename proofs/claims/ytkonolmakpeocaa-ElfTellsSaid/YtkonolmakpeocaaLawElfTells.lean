/- The statement ElfTells: whatever the input, the law returns true, and what was there reads as it did. No conditions. -/
import Derived.Test.YtkonolmakpeocaaRows
import Derived.Test.YtkonolmakpeocaaElf16
import Derived.ProofKit
import Derived.OpenShut
import Derived.ShutString
import Derived.ChangeOld
import Derived.Below
import Derived.SliceStrings
import Derived.Test.YtkonolmakpeocaaRead
import Derived.Test.YtkonolmakpeocaaElfRead
import Derived.Lib.SmallJoins
namespace Go.Proofs.Ytkonolmakpeocaa.elfTells
open Go.ChangeShapes Go.WideShapes Go.ChangeAt Go.RowKit
open Go.ChangeMaps (open_string shut_string)
set_option linter.unusedVariables false

theorem own : ownKnob Try.prog.godebug = none := by kernel_rfl
theorem laidOut : laidOutB Try.prog = true := by kernel_rfl

set_option maxRecDepth 100000 in
theorem lifted (os : Os) (started : os.Started) (H : Type) (enc : TypeId × Value → H) :
    ReturnsInHanded {} Try.checked os 6 .any (Rows.elfTellsSpec.pre6 enc Try.prog Try.f6 Rows.elfTellsRow.domain false) (Rows.elfTellsSpec.post enc Try.prog Try.f6 false true false false) := by
  refine returnsInHanded_of_change (C := Try.checked) own started (by kernel_rfl) Try.func6
    (ChangeSpec.witness6 (enc := enc) (C := Try.checked) false ⟨#[], #[.agg #[.int .u16 0, .int .u64 0, .int .u64 0, .slice none 0 0], .slice none 0 0], []⟩ 8 (by kernel_rfl) (by kernel_rfl) (by kernel_rfl) (by kernel_rfl)) ?_
  intro W base args ds gs before hval0 hW hcnd _
  have hval : ∀ (j : Nat) t v, Try.f6.params[j]? = some t → args[j]? = some v → Value.okWide Try.prog W .any base t v := hval0
  have hW' := hW
  obtain ⟨p, q, hA0, hV, rfl, hfz, hnd⟩ := hW
  have hA : DataW.TrodAll enc Try.prog W 0 (fun _ => true) true Try.f6.params.toList args.toList ds p := hA0
  rw [Try.params6] at hA hval
  obtain ⟨v0, vs0, d0, ds0, p0, q0, hargs, rfl, rfl, h0, r0⟩ := trodAll_cons hA
  obtain ⟨v1, vs1, d1, ds1, p1, q1, rfl, rfl, rfl, h1, r1⟩ := trodAll_cons r0
  obtain ⟨rfl, rfl, rfl⟩ := trodAll_nil r1
  obtain rfl : args = #[v0, v1] := by cases args; simp_all
  obtain ⟨rfl, rfl⟩ := trodVars_none hV
  have k0 := h0
  have lt0 : ∀ x ∈ p0, x.block < W.heap.size := by obtain ⟨m, hm⟩ := k0; exact DataW.trod_lt m _ _ _ hm
  obtain ⟨u0, u1, u2, u3, y0, y1, y2, y3, nf, rfl, -, -, g0, g1, g2, g3⟩ := Go.Joins.open_agg4 Try.underlying28 (by kernel_rfl) (by kernel_rfl) (hval 0 28 v0 rfl rfl) h0
  have g0' : DataW.trod enc Try.prog W 0 (fun _ => true) true nf 24 [u0] = some y0 := g0
  have g1' : DataW.trod enc Try.prog W 0 (fun _ => true) true nf 25 [u1] = some y1 := g1
  have g2' : DataW.trod enc Try.prog W 0 (fun _ => true) true nf 25 [u2] = some y2 := g2
  have g3' : DataW.trod enc Try.prog W 0 (fun _ => true) true nf 26 [u3] = some y3 := g3
  obtain ⟨z0, e0, -, wz0⟩ := DataW.trod_int Try.underlying24 g0'
  obtain ⟨z1, e1, -, wz1⟩ := DataW.trod_int Try.underlying25 g1'
  obtain ⟨z2, e2, -, wz2⟩ := DataW.trod_int Try.underlying25 g2'
  simp only [List.cons.injEq, and_true] at e0 e1 e2
  subst e0 e1 e2
  have b0 : 0 ≤ z0 ∧ z0 ≤ 65535 := by simpa [Lit.wf, IntKind.min, IntKind.max, IntKind.signed, IntKind.bits] using wz0
  have b1 : 0 ≤ z1 ∧ z1 ≤ 18446744073709551615 := by simpa [Lit.wf, IntKind.min, IntKind.max, IntKind.signed, IntKind.bits] using wz1
  have b2 : 0 ≤ z2 ∧ z2 ≤ 18446744073709551615 := by simpa [Lit.wf, IntKind.min, IntKind.max, IntKind.signed, IntKind.bits] using wz2
  obtain ⟨ty, rfl⟩ := Int.eq_ofNat_of_zero_le b0.1
  obtain ⟨en, rfl⟩ := Int.eq_ofNat_of_zero_le b1.1
  obtain ⟨ph, rfl⟩ := Int.eq_ofNat_of_zero_le b2.1
  obtain ⟨A0, n0, c0, rfl⟩ : ∃ A n c, u3 = .slice A n c := by
    rcases DataW.trod_slice Try.underlying26 g3' with ⟨h, _⟩ | ⟨a, len, cap, _, _, _, _, h, _⟩
    · simp only [List.cons.injEq, and_true] at h
      exact ⟨_, _, _, h⟩
    · simp only [List.cons.injEq, and_true] at h
      exact ⟨_, _, _, h⟩
  obtain ⟨l, hl, hc0, hm0, hf⟩ := open_segs_rd g3'
  obtain ⟨A1, n1, c1, rfl⟩ := okWide_slice Try.underlying22 (hval 1 22 v1 rfl rfl)
  have k1 := h1
  have lt1 : ∀ x ∈ p1, x.block < W.heap.size := by obtain ⟨m, hm⟩ := k1; exact DataW.trod_lt m _ _ _ hm
  obtain ⟨x1, w1, wc1, wm1⟩ := open_bytes_rd Try.underlying22 Try.underlying5 (by kernel_rfl) h1
  clear hA0 hval0
  refine (elfTells_walk A1 A0 n1 c1 n0 c0 ⟨ty, en, ph, l⟩ x1 W w1 hl (Nat.le_trans wc1 wm1) wc1 (Nat.le_trans hc0 hm0) hf (by show en < _; omega) (by show ph < _; omega)).mono fun e W' ⟨he, bel⟩ => ?_
  subst he
  exact ⟨_, rfl, _, _, _, [], _, [], hW', trodAll_mk1 (shut_bool Try.underlying4 _), (trodAll_cons_mk (Below.trod laidOut (by kernel_rfl) (of_decide_eq_true (by kernel_rfl)) k0 bel lt0) (trodAll_cons_mk (Below.trod laidOut (by kernel_rfl) (of_decide_eq_true (by kernel_rfl)) k1 bel lt1) trodAll_mk0)), rfl, bel.frame _, fun h => by cases h⟩

theorem over : Rows.elfTellsRow.holds Try.pinned (OpenSpec.ofChange Rows.elfTellsSpec) :=
  OpenClaim.holds_of_wide 6 Try.f6 rfl rfl rfl rfl rfl rfl rfl ⟨rfl, rfl, rfl, rfl, rfl⟩ rfl rfl rfl rfl rfl (by kernel_rfl) Try.func6 (by kernel_rfl)
    (of_decide_eq_true (by kernel_rfl)) (by unfold Func.isWrapper; first | (rw [if_pos (by decide +kernel)]; kernel_rfl) | (rw [if_neg (by decide +kernel)]; exact ⟨rfl, rfl⟩))
    (fun os started H enc _ => lifted os started H enc)

theorem proved : Rows.ElfTellsSaid := over
#print axioms proved
end Go.Proofs.Ytkonolmakpeocaa.elfTells
