/- The walk of hostelref25.Same where the numbers and the paths are the same. Conditions: as calls'. -/
import Derived.Test.YtphbkjdheopmhaaCalls6
namespace Go.Proofs.Ytphbkjdheopmhaa
set_option linter.unusedVariables false
set_option linter.unusedSimpArgs false
open Go.RowKit

theorem same_drew {w : World} {g : Nat} {o : Obj} (j : Nat) (h : w.heap[g]? = some o) : (w.drewN j).heap[g]? = some o := h
set_option maxRecDepth 20000 in
set_option maxHeartbeats 4000000 in
theorem same_eq (q r : Cl.C) (x y z x' y' z' : Sl) (B : Nat) (w : World) (hq : ClOk w B q x y z) (hr : ClOk w B r x' y' z') (hB : B ≤ w.heap.size) (hfq : ClFit q) (hfr : ClFit r)
    (he : q.kind = r.kind ∧ q.a = r.a ∧ q.b = r.b ∧ q.c = r.c ∧ q.d = r.d ∧ q.e = r.e ∧ q.path = r.path) :
    Calls Try.prog 15 #[.agg (clCells q x y z), .agg (clCells r x' y' z')] w fun e w' => e = .returned (.bool (decide (q.argv = r.argv ∧ q.env = r.env ∧ q.bytes = r.bytes))) ∧ Below w.heap.size w w' := by
  have hqW := (hq.alloc hB (.cells (clCells q x y z) 26)).alloc (by simp; omega) (.cells (clCells r x' y' z') 26)
  have hrW := (hr.alloc hB (.cells (clCells q x y z) 26)).alloc (by simp; omega) (.cells (clCells r x' y' z') 26)
  have g1 := hfq.l1; have g2 := hfq.l2; have g3 := hfq.l3
  have k1 := hfr.l1; have k2 := hfr.l2; have k3 := hfr.l3
  rw [hq.n1] at g1; rw [hq.n2] at g2; rw [hq.n3] at g3
  rw [hr.n1] at k1; rw [hr.n2] at k2; rw [hr.n3] at k3
  obtain ⟨hX, hY, hbW⟩ := same_rows q r x y z x' y' z' w
  obtain ⟨v, hv⟩ : ∃ v, decide (q.argv = r.argv ∧ q.env = r.env ∧ q.bytes = r.bytes) = v := ⟨_, rfl⟩
  rw [hv]
  have t0 := natEq_t he.1
  have t1 := natEq_t he.2.1
  have t2 := natEq_t he.2.2.1
  have t3 := natEq_t he.2.2.2.1
  have t4 := natEq_t he.2.2.2.2.1
  have t5 := natEq_t he.2.2.2.2.2.1
  have t6 : (q.path.toList == r.path.toList) = true := by rw [beq_toList, decide_eq_true_eq]; exact he.2.2.2.2.2.2
  have Kw := hide (eqTexts_any x.A x'.A x.n x'.n x.c x'.c B q.argv r.argv _ hqW.r1 hrW.r1 g1 k1)
  have Ke := hide (fun j : Nat => eqTexts_any y.A y'.A y.n y'.n y.c y'.c B q.env r.env _ (hqW.r2.drewN j) (hrW.r2.drewN j) g2 k2)
  have Kb := hide (fun j k : Nat => eqBytes_any z.A z'.A z.n z'.n z.c z'.c B q.bytes r.bytes _ ((hqW.r3.drewN j).drewN k) ((hrW.r3.drewN j).drewN k) g3 k3)
  have Hv := hide hv
  have HX := hide hX
  have HY := hide hY
  have HbW := hide hbW
  clear hqW hrW g1 g2 g3 k1 k2 k3 hq hr hfq hfr he hX hY hbW hv hB
  by_cases hw : q.argv = r.argv
  case neg =>
    have e1 : decide (q.argv = r.argv) = false := decide_eq_false_iff_not.2 hw
    have hf : v = false := by rw [← unhide Hv, decide_eq_false_iff_not]; exact fun h => hw h.1
    have Kw := unhide Kw
    rw [e1] at Kw
    have Kw := hide Kw
    subst hf
    clear hw e1 Ke Kb HX HY
    go_enter Try.func15, Try.ntmps15
    go_wp2_with fail
    refine (unhide Kw).mono ?_
    rintro e w1 ⟨rfl, j, rfl⟩
    clear t0 t1 t2 t3 t4 t5 t6
    have Hb := hide (below_drewN' (unhide HbW) j)
    go_wp2_with fail
    go_ret
    exact ⟨rfl, unhide Hb⟩
  have e1 : decide (q.argv = r.argv) = true := decide_eq_true hw
  have Kw := unhide Kw
  rw [e1] at Kw
  have Kw := hide Kw
  by_cases hE : q.env = r.env
  case neg =>
    have e2 : decide (q.env = r.env) = false := decide_eq_false_iff_not.2 hE
    have hf : v = false := by rw [← unhide Hv, decide_eq_false_iff_not]; exact fun h => hE h.2.1
    have Ke := unhide Ke
    rw [e2] at Ke
    have Ke := hide Ke
    subst hf
    clear hw e1 hE e2 Kb
    go_enter Try.func15, Try.ntmps15
    go_wp2_with fail
    refine (unhide Kw).mono ?_
    rintro e w1 ⟨rfl, j, rfl⟩
    clear t0 t1 t2 t3 t4 t5 t6
    have Hb := hide (below_drewN' (unhide HbW) j)
    have Kj := hide ((unhide Ke) j)
    obtain ⟨x0, x1, x2, x3, x4, x5, x6, x7, x8, x9⟩ := box10 (same_drew j (unhide HX))
    obtain ⟨y0, y1, y2, y3, y4, y5, y6, y7, y8, y9⟩ := box10 (same_drew j (unhide HY))
    clear HbW HX HY Ke
    generalize World.drewN _ j = W1 at *
    go_wp2_with fail
    refine (unhide Kj).mono ?_
    rintro e w2 ⟨rfl, k, rfl⟩
    have Hb2 := hide (below_drewN' (unhide Hb) k)
    clear x0 x1 x2 x3 x4 x5 x6 x7 x8 x9 y0 y1 y2 y3 y4 y5 y6 y7 y8 y9
    go_wp2_with fail
    go_ret
    exact ⟨rfl, unhide Hb2⟩
  have e2 : decide (q.env = r.env) = true := decide_eq_true hE
  have Ke := unhide Ke
  rw [e2] at Ke
  have Ke := hide Ke
  have e3 : decide (q.bytes = r.bytes) = v := by rw [← unhide Hv, decide_eq_decide]; exact ⟨fun h => ⟨hw, hE, h⟩, fun h => h.2.2⟩
  have Kb := unhide Kb
  rw [e3] at Kb
  have Kb := hide Kb
  clear hw e1 hE e2 e3 Hv
  go_enter Try.func15, Try.ntmps15
  go_wp2_with fail
  refine (unhide Kw).mono ?_
  rintro e w1 ⟨rfl, j, rfl⟩
  clear t0 t1 t2 t3 t4 t5 t6
  have Hb := hide (below_drewN' (unhide HbW) j)
  have Kj := hide ((unhide Ke) j)
  have Kbj := hide ((unhide Kb) j)
  have Hx := hide (same_drew j (unhide HX))
  have Hy := hide (same_drew j (unhide HY))
  obtain ⟨x0, x1, x2, x3, x4, x5, x6, x7, x8, x9⟩ := box10 (unhide Hx)
  obtain ⟨y0, y1, y2, y3, y4, y5, y6, y7, y8, y9⟩ := box10 (unhide Hy)
  clear HbW HX HY Ke Kb
  generalize World.drewN _ j = W1 at *
  go_wp2_with fail
  refine (unhide Kj).mono ?_
  rintro e w2 ⟨rfl, k, rfl⟩
  have Hb2 := hide (below_drewN' (unhide Hb) k)
  have Kk := hide ((unhide Kbj) k)
  clear x0 x1 x2 x3 x4 x5 x6 x7 x8 x9 y0 y1 y2 y3 y4 y5 y6 y7 y8 y9
  obtain ⟨x0, x1, x2, x3, x4, x5, x6, x7, x8, x9⟩ := box10 (same_drew k (unhide Hx))
  obtain ⟨y0, y1, y2, y3, y4, y5, y6, y7, y8, y9⟩ := box10 (same_drew k (unhide Hy))
  clear Hb Hx Hy Kbj Kj
  generalize World.drewN _ k = W2 at *
  go_wp2_with fail
  refine (unhide Kk).mono ?_
  rintro e w3 ⟨rfl, l, rfl⟩
  have Hb3 := hide (below_drewN' (unhide Hb2) l)
  clear x0 x1 x2 x3 x4 x5 x6 x7 x8 x9 y0 y1 y2 y3 y4 y5 y6 y7 y8 y9
  go_wp2_with fail
  go_ret
  exact ⟨rfl, unhide Hb3⟩

theorem same_any (q r : Cl.C) (x y z x' y' z' : Sl) (B : Nat) (w : World) (hq : ClOk w B q x y z) (hr : ClOk w B r x' y' z') (hB : B ≤ w.heap.size) (hfq : ClFit q) (hfr : ClFit r) :
    Calls Try.prog 15 #[.agg (clCells q x y z), .agg (clCells r x' y' z')] w fun e w' => e = .returned (.bool (sameB q r)) ∧ Below w.heap.size w w' := by
  by_cases he : q.kind = r.kind ∧ q.a = r.a ∧ q.b = r.b ∧ q.c = r.c ∧ q.d = r.d ∧ q.e = r.e ∧ q.path = r.path
  · have e : sameB q r = decide (q.argv = r.argv ∧ q.env = r.env ∧ q.bytes = r.bytes) := by
      unfold sameB
      rw [decide_eq_decide]
      obtain ⟨h0, h1, h2, h3, h4, h5, h6⟩ := he
      exact ⟨fun h => h.2.2.2.2.2.2.2, fun h => ⟨h0, h1, h2, h3, h4, h5, h6, h⟩⟩
    rw [e]
    exact same_eq q r x y z x' y' z' B w hq hr hB hfq hfr he
  · have e : sameB q r = false := by
      unfold sameB
      rw [decide_eq_false_iff_not]
      rintro ⟨h0, h1, h2, h3, h4, h5, h6, h⟩
      exact he ⟨h0, h1, h2, h3, h4, h5, h6⟩
    rw [e]
    exact same_ne q r x y z x' y' z' w he
end Go.Proofs.Ytphbkjdheopmhaa
