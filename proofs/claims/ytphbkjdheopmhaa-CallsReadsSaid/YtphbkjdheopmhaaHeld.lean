/- Laws for a region that draws, all of whose operations leave the world alone: a load of a row, a store of what stands there. No conditions. -/
import Derived.Test.YtphbkjdheopmhaaMore
import Derived.Deep.RegionHeld3
import Derived.Test.YtphbkjdheopmhaaProg
import Derived.WalkSpells
import Derived.WalkLawsBesides
namespace Go.Proofs.Ytphbkjdheopmhaa
set_option linter.unusedVariables false
set_option linter.unusedSimpArgs false
open Go.RowKit

theorem setRow_same {w : World} {g : Nat} {cs : Array Value} {t : TypeId} {fr : Nat × Nat} (h : w.heap[g]? = some (.cells cs t fr)) : w.setRow g cs = w := by
  have h1 := setRow_heap w g cs cs t fr h
  have h2 : (w.setRow g cs).heap = w.heap := by
    apply Array.ext_getElem?
    intro i
    by_cases e : i = g
    · subst e; rw [h1, h]
    · exact setRow_other w g i cs e
  unfold World.setRow at h2 ⊢
  simp only at h2
  rw [h2]
section
variable {P : Program} {ops : Array Oper} {W : World} {o : Oper} {a : Act}
theorem yields_load (hw : Region.wanted o (yielded ops a.tmps) = true) (ty : TypeId) (x : Operand) (ho : o.op = .load ty x)
    (g : Nat) (hx : a.eval x = .pointer (some ⟨g, 0, none⟩)) (t : TypeId) (cs : Array Value) (fr : Nat × Nat) (d : TypeDesc) (hg : W.heap[g]? = some (.cells cs t fr))
    (hu : P.underlying ty = some d) (hd : (match d with | .struct _ | .array _ _ => true | _ => false) = true) (hi : (P.info? ty).map (·.size) = some cs.size) :
    YieldsIf P ops (fun w' => w' = W) o (.agg cs) a := by
  refine .inl ⟨hw, fun w' hw' => ?_⟩
  subst hw'
  unfold execOp
  simp only [ho, hx, Instr.loadAt, Instr.sureAddr, Sem.run_bind, Sem.run_pure, Result.andThen_ok, run_loadVar_row _ g t ty cs fr d hg hu hd hi]
variable {S : World → Prop}
theorem yields_move (hw : Region.wanted o (yielded ops a.tmps) = true) (x : Operand) (ho : o.op = .move x) (v : Value) (hx : a.eval x = v) : YieldsIf P ops S o v a := by
  refine .inl ⟨hw, fun w' hw' => ?_⟩
  subst hx
  unfold execOp
  simp [ho]
theorem yields_assign (hw : Region.wanted o (yielded ops a.tmps) = true) (x : Operand) (ho : o.op = .assign x) (v : Value) (hx : a.eval x = v) : YieldsIf P ops S o v a := by
  refine .inl ⟨hw, fun w' hw' => ?_⟩
  subst hx
  unfold execOp
  simp [ho]
end
theorem takeD {P : Program} {md : Region.Mode} {ops : Array Oper} {Q : Exit → Act → World → Prop} {S : World → Prop} {i : Nat} {oi : Oper} {v : Value} {d : Option Tmp} {fuel : Nat} {listed : Array Bool} {a : Act} {w : World} (hi : ops[i]? = some oi) (hd : oi.dst = d)
    (hs : Region.noSelect ops = true) (hf : Region.free md ops listed i = true) (hr : (Region.ready md ops listed).contains i = true)
    (hQ : ∀ c a w, Q (.panic c) (a.put d v) w → Q (.panic c) a w) (hy : YieldsIf P ops S oi v a) (hS : S w)
    (h : wpAnyH P md ops Q S fuel (listed.setIfInBounds i true) (a.put d v) w) : wpAnyH P md ops Q S (fuel + 1) listed a w := by
  subst hd
  exact wpAnyH_take hi hs hf hr hQ hy hS h
/-- A store of what stands there already, where nothing else may come up. -/
theorem storeD {P : Program} {md : Region.Mode} {ops : Array Oper} {Q : Exit → Act → World → Prop} {W : World} {i : Nat} {oi : Oper} {fuel : Nat} {listed : Array Bool} {a : Act} (hi : ops[i]? = some oi) (hd : oi.dst = none)
    (hr : Region.ready md ops listed = [i]) (hw : Region.wanted oi (yielded ops a.tmps) = true) (ty : TypeId) (x y : Operand) (ho : oi.op = .store ty x y)
    (g : Nat) (cs : Array Value) (hx : a.eval x = .pointer (some ⟨g, 0, none⟩)) (hy : a.eval y = .agg cs)
    (t : TypeId) (hg : W.heap[g]? = some (.cells cs t (0, 0))) (hsz : (P.info? ty).map (·.size) = some cs.size) (h1 : cs.all (·.oneCell') = true)
    (h : wpAnyH P md ops Q (fun w' => w' = W) fuel (listed.setIfInBounds i true) a W) : wpAnyH P md ops Q (fun w' => w' = W) (fuel + 1) listed a W := by
  refine wpAnyH_ready (rs := [i]) hr (by simp) ?_
  refine AllReadyH.cons hi (fun K hK => ?_) AllReadyH.nil
  rw [if_pos hw]
  refine wp_store_row ty x y ho g cs hx hy t cs hg hsz rfl h1 ?_
  rw [setRow_same hg, hd]
  exact hK.out _ _ rfl (fun _ => h)
section
variable {ops : Array Oper} {W : World} {o : Oper} {a : Act} {S : World → Prop}
theorem yields_len (hw : Region.wanted o (yielded ops a.tmps) = true) (x : Operand) (ho : o.op = .call { callee := .builtin .len, args := #[x], argTypes := #[24] }) (A : Option Addr) (n c : Nat) (hx : a.eval x = .slice A n c) : YieldsIf Try.prog ops S o (.int .i64 n) a := by
  refine .inl ⟨hw, fun w' hw' => ?_⟩
  unfold execOp
  simp only [ho]
  simp [resolve, invoke, builtin, hx]
  go_simp
theorem yields_nil (hw : Region.wanted o (yielded ops a.tmps) = true) (x : Operand) (ho : o.op = .nilCheck x) (ad : Addr) (hx : a.eval x = .pointer (some ad)) : YieldsIf Try.prog ops S o (.pointer (some ad)) a := by
  refine .inl ⟨hw, fun w' hw' => ?_⟩
  unfold execOp
  simp [ho, hx]
theorem yields_field0 (hw : Region.wanted o (yielded ops a.tmps) = true) (x : Operand) (ho : o.op = .fieldAddr 77 x 0) (g : Nat) (hx : a.eval x = .pointer (some ⟨g, 0, none⟩)) : YieldsIf Try.prog ops S o (.pointer (some ⟨g, 0, none⟩)) a := by
  refine .inl ⟨hw, fun w' hw' => ?_⟩
  unfold execOp
  simp only [ho, hx]
  go_simp
theorem yields_sub (hw : Region.wanted o (yielded ops a.tmps) = true) (x y : Operand) (ho : o.op = .binOp .sub 3 x y 3) (m n : Int) (hx : a.eval x = .int .i64 m) (hy : a.eval y = .int .i64 n) (hr : IntKind.i64.wrap (m - n) = m - n) : YieldsIf Try.prog ops S o (.int .i64 (m - n)) a := by
  refine .inl ⟨hw, fun w' hw' => ?_⟩
  unfold execOp
  simp only [ho, hx, hy]
  go_simp
theorem yields_slice (hw : Region.wanted o (yielded ops a.tmps) = true) (x : Operand) (ho : o.op = .load 24 x) (g i : Nat) (hx : a.eval x = .pointer (some ⟨g, i, none⟩)) (A : Option Addr) (n c : Nat) (hc : W.cell? ⟨g, i, none⟩ = some (.slice A n c)) : YieldsIf Try.prog ops (fun w' => w' = W) o (.slice A n c) a := by
  refine .inl ⟨hw, fun w' hw' => ?_⟩
  subst hw'
  unfold execOp
  simp only [ho, hx]
  go_simp
end
end Go.Proofs.Ytphbkjdheopmhaa
