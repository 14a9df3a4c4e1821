/- Only's call is read and fits; it is the same just where nothing else is said. -/
import Derived.Test.YtphbkjdheopmhaaCalls7
namespace Go.Proofs.Ytphbkjdheopmhaa
set_option linter.unusedVariables false
set_option linter.unusedSimpArgs false
open Go.RowKit

theorem onlyC_ok {w : World} {B : Nat} {q : Cl.C} {x y z : Sl} (h : ClOk w B q x y z) : ClOk w B (onlyC q) (onlyX q x) (onlyX q y) (onlyZ q z) := by
  refine ⟨?_, ?_, ?_⟩
  · unfold onlyC onlyX
    cases hasB q.kind 86
    · exact Rd.none_ _ _ _ _
    · exact h.r1
  · unfold onlyC onlyX
    cases hasB q.kind 86
    · exact Rd.none_ _ _ _ _
    · exact h.r2
  · unfold onlyC onlyZ
    cases hasB q.kind 88
    · exact Rd.none_ _ _ _ _
    · exact h.r3
theorem onlyC_fit {q : Cl.C} (h : ClFit q) : ClFit (onlyC q) := by
  refine ⟨h.k, ?_, ?_, ?_, ?_, ?_, ?_, ?_, ?_, ?_, ?_, ?_⟩
  · unfold onlyC; cases hasB q.kind 65; exact (by decide : (0 : Nat) < 18446744073709551616); exact h.a
  · unfold onlyC; cases hasB q.kind 66; exact (by decide : (0 : Nat) < 18446744073709551616); exact h.b
  · unfold onlyC; cases hasB q.kind 67; exact (by decide : (0 : Nat) < 18446744073709551616); exact h.c
  · unfold onlyC; cases hasB q.kind 68; exact (by decide : (0 : Nat) < 18446744073709551616); exact h.d
  · unfold onlyC; cases hasB q.kind 68; exact (by decide : (0 : Nat) < 18446744073709551616); exact h.e
  · unfold onlyC; cases hasB q.kind 80; exact Nat.zero_le _; exact h.p
  · unfold onlyC; cases hasB q.kind 86; exact Nat.zero_le _; exact h.l1
  · unfold onlyC; cases hasB q.kind 86; exact Nat.zero_le _; exact h.l2
  · unfold onlyC; cases hasB q.kind 88; exact Nat.zero_le _; exact h.l3
  · unfold onlyC; cases hasB q.kind 86; exact (fun t ht => absurd ht (List.not_mem_nil)); exact h.s1
  · unfold onlyC; cases hasB q.kind 86; exact (fun t ht => absurd ht (List.not_mem_nil)); exact h.s2
theorem path_nil (p : ByteArray) : p = ⟨#[]⟩ ↔ p.size = 0 := by
  constructor
  · rintro rfl; rfl
  · intro h
    exact ByteArray.ext (Array.eq_empty_of_size_eq_zero h)
theorem same_only (q : Cl.C) (hk : q.kind ≤ 12) : sameB q (onlyC q) = Cl.onlyB q := by
  have e0 : Cl.onlyB q = (Cl.fieldB q 0 && (Cl.fieldB q 1 && (Cl.fieldB q 2 && (Cl.fieldB q 3 && (Cl.fieldB q 4 && (Cl.fieldB q 5 && (Cl.fieldB q 6 && (Cl.fieldB q 7 && (Cl.fieldB q 8 && true))))))))) := rfl
  rw [e0]
  unfold sameB onlyC Cl.fieldB Cl.emptyB Cl.num hasB
  obtain h | h | h | h | h | h | h | h | h | h | h | h | h : q.kind = 0 ∨ q.kind = 1 ∨ q.kind = 2 ∨ q.kind = 3 ∨ q.kind = 4 ∨ q.kind = 5 ∨ q.kind = 6 ∨ q.kind = 7 ∨ q.kind = 8 ∨ q.kind = 9 ∨ q.kind = 10 ∨ q.kind = 11 ∨ q.kind = 12 := by omega
  all_goals
    rw [h]
    rw [Bool.eq_iff_iff]
    simp [flL, Cl.fsN, path_nil]
end Go.Proofs.Ytphbkjdheopmhaa
