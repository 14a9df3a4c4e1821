/- What is needed to walk Steps: the row of steps, and laws for the region that appends one. No conditions. -/
import Derived.Test.YtphbkjdheopmhaaRRead2
namespace Go.Proofs.Ytphbkjdheopmhaa
set_option linter.unusedVariables false
set_option linter.unusedSimpArgs false
open Go.RowKit

/-- A step, with its lists. -/
structure SEl where
  p : Nat
  q : Cl.C
  x : Sl
  y : Sl
  z : Sl
def sPair (s : SEl) : Nat × Cl.C := (s.p, s.q)
abbrev sCells (s : SEl) : List Value := .int .i64 (s.p : Nat) :: clL s.q s.x s.y s.z
def rowOf : List SEl → List Value
  | [] => []
  | s :: r => sCells s ++ rowOf r
theorem rowOf_app (a b : List SEl) : rowOf (a ++ b) = rowOf a ++ rowOf b := by
  induction a with
  | nil => rfl
  | cons s r ih => show sCells s ++ rowOf (r ++ b) = (sCells s ++ rowOf r) ++ rowOf b; rw [ih, List.append_assoc]
theorem rowOf_len (l : List SEl) : (rowOf l).length = l.length * 11 := by
  induction l with
  | nil => rfl
  | cons s r ih => simp [rowOf, ih]; omega
theorem stepTy : SlTy Try.prog 42 49 11 144 := slTy_mk (z := .agg #[.int .i64 0, .int .u8 0, .int .u64 0, .int .u64 0, .int .u64 0, .int .u64 0, .int .u64 0, .string ⟨#[]⟩, .slice none 0 0, .slice none 0 0, .slice none 0 0]) Try.underlying42 (by kernel_rfl) rfl (by omega) (by omega)

/-- A list of cells in a block that is not 'row'. -/
def Fr (w : World) (row : Option Nat) (A : Option Addr) (n : Nat) (xs : List Value) : Prop := xs.length = n ∧ (xs = [] ∨ ∃ b off cs t fr, A = some ⟨b, off, none⟩ ∧ some b ≠ row ∧ w.heap[b]? = some (.cells cs t fr) ∧ ∀ j u, xs[j]? = some u → cs[off + j]? = some u)
section
variable {w w' : World} {row row' : Option Nat} {base n : Nat} {A : Option Addr} {xs : List Value}
theorem Fresh.fr (h : Fresh w base A n xs) (hr : ∀ k, row = some k → k < base) : Fr w row A n xs := by
  refine ⟨h.1, h.2.imp id ?_⟩
  rintro ⟨b, off, cs, t, fr, e, hb, hg, hc⟩
  exact ⟨b, off, cs, t, fr, e, fun e2 => by have := hr b e2.symm; omega, hg, hc⟩
theorem Fr.rd (h : Fr w row A n xs) : Rd w w.heap.size 1 A n xs := by
  refine ⟨by simpa using h.1, h.2.imp id ?_⟩
  rintro ⟨b, off, cs, t, fr, e, hb, hg, hc⟩
  exact ⟨b, off, e, lt_of_block hg, fun j u hu => by rw [cell_of_row w b (off + j) cs t fr hg]; exact hc j u hu⟩
theorem Fr.below (h : Fr w row A n xs) (hb : Below w.heap.size w w') : Fr w' row A n xs := by
  refine ⟨h.1, h.2.imp id ?_⟩
  rintro ⟨b, off, cs, t, fr, e, hne, hg, hc⟩
  exact ⟨b, off, cs, t, fr, e, hne, (hb.block b (lt_of_block hg)).trans hg, hc⟩
theorem Fr.grown (h : Fr w row A n xs) (hg : w.grownBy w' row) (hr : ∀ k, row' = some k → row = some k ∨ w.heap.size ≤ k) : Fr w' row' A n xs := by
  refine ⟨h.1, h.2.imp id ?_⟩
  rintro ⟨b, off, cs, t, fr, e, hne, hgb, hc⟩
  refine ⟨b, off, cs, t, fr, e, fun e2 => ?_, (hg.block b (lt_of_block hgb) hne).trans hgb, hc⟩
  rcases hr b e2.symm with h1 | h1
  · exact hne h1.symm
  · have := lt_of_block hgb; omega
end
structure ClF (w : World) (row : Option Nat) (q : Cl.C) (x y z : Sl) : Prop where
  o1 : Fr w row x.A x.n (q.argv.map Value.string)
  o2 : Fr w row y.A y.n (q.env.map Value.string)
  o3 : Fr w row z.A z.n (bys q.bytes)
section
variable {w w' : World} {row row' : Option Nat} {base : Nat} {q : Cl.C} {x y z : Sl}
theorem ClF.ok (h : ClF w row q x y z) : ClOk w w.heap.size q x y z := ⟨h.o1.rd, h.o2.rd, h.o3.rd⟩
theorem ClF.below (h : ClF w row q x y z) (hb : Below w.heap.size w w') : ClF w' row q x y z := ⟨h.o1.below hb, h.o2.below hb, h.o3.below hb⟩
theorem ClF.grown (h : ClF w row q x y z) (hg : w.grownBy w' row) (hr : ∀ k, row' = some k → row = some k ∨ w.heap.size ≤ k) : ClF w' row' q x y z := ⟨h.o1.grown hg hr, h.o2.grown hg hr, h.o3.grown hg hr⟩
theorem ClFr.f (h : ClFr w base q x y z) (hr : ∀ k, row = some k → k < base) : ClF w row q x y z := ⟨h.o1.fr hr, h.o2.fr hr, h.o3.fr hr⟩
end
/-- A row of steps. -/
structure SRow (w : World) (base : Nat) (A : Option Addr) (c : Nat) (L : List SEl) : Prop where
  own : w.ownsRow base 49 11 (.slice A L.length c) L.length (rowOf L)
  all : ∀ s ∈ L, ClF w (Value.slice A L.length c).ownBlock s.q s.x s.y s.z
theorem SRow.nil (w : World) (base : Nat) : SRow w base none 0 [] := ⟨World.ownsRow_nil _ _ _ _, fun s hs => absurd hs List.not_mem_nil⟩
theorem SRow.below {w w' : World} {base : Nat} {A : Option Addr} {c : Nat} {L : List SEl} (h : SRow w base A c L) (hb : Below w.heap.size w w') : SRow w' base A c L := ⟨own_below h.own hb, fun s hs => (h.all s hs).below hb⟩
/-- What Steps answers. -/
def StepsEnd (r : List (Nat × Cl.C) × Int × Nat) (w : World) (e : Ending) (w' : World) : Prop := ∃ L A c, e = .returned (.tuple #[.slice A L.length c, .int .i64 r.2.1, .int .i64 (r.2.2 : Nat)]) ∧ L.map sPair = r.1 ∧ SRow w' w.heap.size A c L ∧ Below w.heap.size w w'

section
variable {ops : Array Oper} {o : Oper} {a : Act} {S : World → Prop}
theorem yields_idx (hw : Region.wanted o (yielded ops a.tmps) = true) (x i : Operand) (ho : o.op = .indexAddr 24 x i) (b f n c k : Nat) (hx : a.eval x = .slice (some ⟨b, f, none⟩) n c) (hi : a.eval i = .int .i64 (k : Nat)) (hk : (k : Int) < (n : Int)) (hk2 : k < n) : YieldsIf Try.prog ops S o (.pointer (some ⟨b, f + k, none⟩)) a := by
  refine .inl ⟨hw, fun w' hw' => ?_⟩
  unfold execOp
  simp only [ho, hx, hi]
  go_simp
theorem yieldsS_u8 (hw : Region.wanted o (yielded ops a.tmps) = true) (x : Operand) (ho : o.op = .load 5 x) (g i : Nat) (hx : a.eval x = .pointer (some ⟨g, i, none⟩)) (n : Int) (hc : ∀ w', S w' → w'.cell? ⟨g, i, none⟩ = some (.int .u8 n)) : YieldsIf Try.prog ops S o (.int .u8 n) a := by
  refine .inl ⟨hw, fun w' hw' => ?_⟩
  have hc' := hc w' hw'
  unfold execOp
  simp only [ho, hx]
  go_simp
theorem yields_conv (hw : Region.wanted o (yielded ops a.tmps) = true) (x : Operand) (ho : o.op = .convert 5 3 x) (n : Nat) (hx : a.eval x = .int .u8 (n : Nat)) (hn : n < 256) : YieldsIf Try.prog ops S o (.int .i64 (n : Nat)) a := by
  refine .inl ⟨hw, fun w' hw' => ?_⟩
  unfold execOp
  simp only [ho, hx]
  go_simp
  exact IntWalk.i64_in _ (by omega)
theorem yields_step (hw : Region.wanted o (yielded ops a.tmps) = true) (x y : Operand) (ho : o.op = .build 49 #[(0, x), (1, y)]) (p : Int) (q : Cl.C) (xs ys zs : Sl) (hx : a.eval x = .int .i64 p) (hy : a.eval y = .agg (clCells q xs ys zs)) : YieldsIf Try.prog ops S o (.agg (.int .i64 p :: clL q xs ys zs).toArray) a := by
  refine .inl ⟨hw, fun w' hw' => ?_⟩
  unfold execOp
  simp only [ho]
  simp [hx, hy]
  go_simp
end
theorem stepD {P : Program} {md : Region.Mode} {ops : Array Oper} {Q : Exit → Act → World → Prop} {S : World → Prop} {i : Nat} {oi : Oper} {d : Option Tmp} {fuel : Nat} {listed : Array Bool} {a : Act} {w : World} (hi : ops[i]? = some oi) (hd : oi.dst = d)
    (hr : Region.ready md ops listed = [i]) (hw : Region.wanted oi (yielded ops a.tmps) = true)
    (h : ∀ K : Act → World → Prop, (∀ v w', S w' → wpAnyH P md ops Q S fuel (listed.setIfInBounds i true) (a.put d v) w' → K (a.put oi.dst v) w') → oi.wp P a w K Q) : wpAnyH P md ops Q S (fuel + 1) listed a w := by
  refine wpAnyH_ready (rs := [i]) hr (by simp) ?_
  refine AllReadyH.cons hi (fun K hK => ?_) AllReadyH.nil
  rw [if_pos hw]
  subst hd
  exact h K (fun v w' hS hh => hK.out _ _ hS (fun _ => hh))
theorem run_sliceStep (w : World) (p : Int) (q : Cl.C) (xs ys zs : Sl) : (Instr.buildSlice 42 1 #[(0, .agg (.int .i64 p :: clL q xs ys zs).toArray)]).run Try.prog w = .ok (.slice (some ⟨w.heap.size, 0, none⟩) 1 1) (w.alloc (.cells (.int .i64 p :: clL q xs ys zs).toArray 49)) := by
  go_simp
theorem wp_sliceStep {o : Oper} {a : Act} {w : World} {K : Act → World → Prop} {Q : Exit → Act → World → Prop} (x : Operand) (ho : o.op = .buildSlice 42 1 #[(0, x)]) (p : Int) (q : Cl.C) (xs ys zs : Sl) (hx : a.eval x = .agg (.int .i64 p :: clL q xs ys zs).toArray)
    (h : K (a.put o.dst (.slice (some ⟨w.heap.size, 0, none⟩) 1 1)) (w.alloc (.cells (.int .i64 p :: clL q xs ys zs).toArray 49))) : o.wp Try.prog a w K Q := by
  unfold Oper.wp execOp
  have hr := run_sliceStep w p q xs ys zs
  simp only [ho, Sem.run_bind, Sem.run_pure, Result.andThen_ok, List.map_toArray, List.map_cons, List.map_nil, hx, hr]
  exact h
end Go.Proofs.Ytphbkjdheopmhaa
