/- Laws for a region that draws and stores a row elsewhere than where it reads. No conditions. -/
import Derived.Test.YtphbkjdheopmhaaHeld
namespace Go.Proofs.Ytphbkjdheopmhaa
set_option linter.unusedVariables false
set_option linter.unusedSimpArgs false
open Go.RowKit
section
variable {P : Program} {ops : Array Oper} {W : World} {o : Oper} {a : Act} {S : World → Prop}
theorem yieldsS_load (hw : Region.wanted o (yielded ops a.tmps) = true) (ty : TypeId) (x : Operand) (ho : o.op = .load ty x)
    (g : Nat) (hx : a.eval x = .pointer (some ⟨g, 0, none⟩)) (t : TypeId) (cs : Array Value) (fr : Nat × Nat) (d : TypeDesc) (hg : ∀ w', S w' → w'.heap[g]? = some (.cells cs t fr))
    (hu : P.underlying ty = some d) (hd : (match d with | .struct _ | .array _ _ => true | _ => false) = true) (hi : (P.info? ty).map (·.size) = some cs.size) :
    YieldsIf P ops S o (.agg cs) a := by
  refine .inl ⟨hw, fun w' hw' => ?_⟩
  unfold execOp
  simp only [ho, hx, Instr.loadAt, Instr.sureAddr, Sem.run_bind, Sem.run_pure, Result.andThen_ok, run_loadVar_row _ g t ty cs fr d (hg w' hw') hu hd hi]
/-- A store, where nothing else may come up. -/
theorem storeS {md : Region.Mode} {Q : Exit → Act → World → Prop} {i : Nat} {oi : Oper} {fuel : Nat} {listed : Array Bool} (hi : ops[i]? = some oi) (hd : oi.dst = none)
    (hr : Region.ready md ops listed = [i]) (hw : Region.wanted oi (yielded ops a.tmps) = true) (ty : TypeId) (x y : Operand) (ho : oi.op = .store ty x y)
    (g : Nat) (cs old : Array Value) (hx : a.eval x = .pointer (some ⟨g, 0, none⟩)) (hy : a.eval y = .agg cs)
    (t : TypeId) (hg : W.heap[g]? = some (.cells old t (0, 0))) (hsz : (P.info? ty).map (·.size) = some cs.size) (hold : old.size = cs.size) (h1 : cs.all (·.oneCell') = true) (hS : S (W.setRow g cs))
    (h : wpAnyH P md ops Q S fuel (listed.setIfInBounds i true) a (W.setRow g cs)) : wpAnyH P md ops Q S (fuel + 1) listed a W := by
  refine wpAnyH_ready (rs := [i]) hr (by simp) ?_
  refine AllReadyH.cons hi (fun K hK => ?_) AllReadyH.nil
  rw [if_pos hw]
  refine wp_store_row ty x y ho g cs hx hy t old hg hsz hold h1 ?_
  rw [hd]
  exact hK.out _ _ hS (fun _ => h)
end
section
variable {ops : Array Oper} {o : Oper} {a : Act} {S : World → Prop}
theorem yieldsR_field1 (hw : Region.wanted o (yielded ops a.tmps) = true) (x : Operand) (ho : o.op = .fieldAddr 83 x 1) (g : Nat) (hx : a.eval x = .pointer (some ⟨g, 0, none⟩)) : YieldsIf Try.prog ops S o (.pointer (some ⟨g, 1, none⟩)) a := by
  refine .inl ⟨hw, fun w' hw' => ?_⟩
  unfold execOp
  simp only [ho, hx]
  go_simp
theorem yieldsS_int (hw : Region.wanted o (yielded ops a.tmps) = true) (x : Operand) (ho : o.op = .load 3 x) (g i : Nat) (hx : a.eval x = .pointer (some ⟨g, i, none⟩)) (n : Int) (hc : ∀ w', S w' → w'.cell? ⟨g, i, none⟩ = some (.int .i64 n)) : YieldsIf Try.prog ops S o (.int .i64 n) a := by
  refine .inl ⟨hw, fun w' hw' => ?_⟩
  have hc' := hc w' hw'
  unfold execOp
  simp only [ho, hx]
  go_simp
end
end Go.Proofs.Ytphbkjdheopmhaa
