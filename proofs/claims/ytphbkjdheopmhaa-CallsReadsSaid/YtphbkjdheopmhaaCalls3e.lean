/- The walk of calls.empty. -/
import Derived.Test.YtphbkjdheopmhaaCalls3
namespace Go.Proofs.Ytphbkjdheopmhaa
set_option linter.unusedVariables false
set_option linter.unusedSimpArgs false
open Go.RowKit

theorem empty_num (q : Cl.C) (x y z : Sl) (f : Nat) (w : World) (hf : f < 5) (b : Bool) (v : Nat) (hv : (f = 0 ∧ v = q.a) ∨ (f = 1 ∧ v = q.b) ∨ (f = 2 ∧ v = q.c) ∨ (f = 3 ∧ v = q.d) ∨ (f = 4 ∧ v = q.e)) (hb : b = (((v : Nat) : Int) == 0)) :
    Calls Try.prog 32 #[.agg (clCells q x y z), .int .i64 f] w fun e w' => e = .returned (.bool b) ∧ Below w.heap.size w w' := by
  have K := hide (fun (g : Nat) (w : World) => number_any g f w hf)
  subst hb
  obtain ⟨rfl, rfl⟩ | ⟨rfl, rfl⟩ | ⟨rfl, rfl⟩ | ⟨rfl, rfl⟩ | ⟨rfl, rfl⟩ := hv
  all_goals
    clear hf
    go_enter Try.func32, Try.ntmps32
    go_wp2_with fail
    refine ((unhide K) _ _).mono ?_
    rintro e w1 ⟨rfl, rfl⟩
    go_wp2_with fail
    go_ret
    exact ⟨rfl, (Below.refl _ _).alloc (Nat.le_refl _) _⟩

theorem empty_rest (q : Cl.C) (x y z : Sl) (f : Nat) (w : World) (b : Bool) (hv : (f = 5 ∧ b = q.path.toList.isEmpty) ∨ (f = 6 ∧ b = (((x.n : Nat) : Int) == 0)) ∨ (f = 7 ∧ b = (((y.n : Nat) : Int) == 0)) ∨ (f = 8 ∧ b = (((z.n : Nat) : Int) == 0))) :
    Calls Try.prog 32 #[.agg (clCells q x y z), .int .i64 f] w fun e w' => e = .returned (.bool b) ∧ Below w.heap.size w w' := by
  obtain ⟨rfl, rfl⟩ | ⟨rfl, rfl⟩ | ⟨rfl, rfl⟩ | ⟨rfl, rfl⟩ := hv
  all_goals
    go_enter Try.func32, Try.ntmps32
    go_wp2_with fail
    go_ret
    exact ⟨rfl, (Below.refl _ _).alloc (Nat.le_refl _) _⟩

theorem empty_any (q : Cl.C) (x y z : Sl) (B f : Nat) (w : World) (hq : ClOk w B q x y z) (hf : f < 9) :
    Calls Try.prog 32 #[.agg (clCells q x y z), .int .i64 f] w fun e w' => e = .returned (.bool (Cl.emptyB q f)) ∧ Below w.heap.size w w' := by
  by_cases h5 : f < 5
  · obtain rfl | rfl | rfl | rfl | rfl : f = 0 ∨ f = 1 ∨ f = 2 ∨ f = 3 ∨ f = 4 := by omega
    · exact empty_num q x y z 0 w h5 _ q.a (.inl ⟨rfl, rfl⟩) (by rw [zero_eq]; rfl)
    · exact empty_num q x y z 1 w h5 _ q.b (.inr (.inl ⟨rfl, rfl⟩)) (by rw [zero_eq]; rfl)
    · exact empty_num q x y z 2 w h5 _ q.c (.inr (.inr (.inl ⟨rfl, rfl⟩))) (by rw [zero_eq]; rfl)
    · exact empty_num q x y z 3 w h5 _ q.d (.inr (.inr (.inr (.inl ⟨rfl, rfl⟩)))) (by rw [zero_eq]; rfl)
    · exact empty_num q x y z 4 w h5 _ q.e (.inr (.inr (.inr (.inr ⟨rfl, rfl⟩)))) (by rw [zero_eq]; rfl)
  · have h1 := hq.n1
    have h2 := hq.n2
    have h3 := hq.n3
    refine empty_rest q x y z f w _ ?_
    obtain rfl | rfl | rfl | rfl : f = 5 ∨ f = 6 ∨ f = 7 ∨ f = 8 := by omega
    · exact .inl ⟨rfl, by rw [isEmpty_toList]; rfl⟩
    · exact .inr (.inl ⟨rfl, by rw [zero_dec, ← h1]; rfl⟩)
    · exact .inr (.inr (.inl ⟨rfl, by rw [zero_dec, ← h2]; rfl⟩))
    · exact .inr (.inr (.inr ⟨rfl, by rw [zero_dec, ← h3]; rfl⟩))
end Go.Proofs.Ytphbkjdheopmhaa
