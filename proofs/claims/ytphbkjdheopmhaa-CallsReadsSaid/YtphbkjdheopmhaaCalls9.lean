/- The walk of hostelref25.Check. -/
import Derived.Test.YtphbkjdheopmhaaCalls8
import Derived.Test.YtphbkjdheopmhaaRefC
namespace Go.Proofs.Ytphbkjdheopmhaa
set_option linter.unusedVariables false
set_option linter.unusedSimpArgs false
open Go.RowKit

theorem box_keep {w w' : World} {g B : Nat} {cs : Array Value} {t : TypeId} (h : w.heap[g]? = some (.cells cs t (0, 0))) (hb : Below B w w') (hg : g < B) : w'.heap[g]? = some (.cells cs t (0, 0)) := (hb.block g hg).trans h

theorem check_on {q : Cl.C} (h : ¬ (q.kind = 0 ∨ 12 < q.kind)) (hb : Cl.onlyB q = true) : Cl.check q = (if q.kind = 1 then Cl.fst2 (Pth.chk q.path) (Cl.fst2 (Cl.envCk q.argv) (Cl.envCk q.env))
  else if q.kind = 8 ∨ q.kind = 12 then (if 4096 < q.b then 12 else 0)
  else if q.kind = 9 then (if 4096 < q.bytes.length then 12 else 0)
  else if q.kind = 10 then Cl.fst2 (Pth.chk q.path) (if 1 < q.a then 1 else 0)
  else 0) := by
  unfold Cl.check
  rw [if_neg h, if_neg (by rw [hb]; simp)]
theorem int0_t {a : Int} (h : a = 0) : (a == 0) = true := by rw [h]; rfl
theorem int0_f {a : Int} (h : ¬ a = 0) : (a == 0) = false := beq_eq_false_iff_ne.2 h

set_option maxRecDepth 20000 in
set_option maxHeartbeats 4000000 in
theorem rcallCheck_any (q : Cl.C) (x y z : Sl) (B : Nat) (w : World) (hq : ClOk w B q x y z) (hB : B ≤ w.heap.size) (hf : ClFit q) (hp4 : q.path.size ≤ 4294967296) :
    Calls Try.prog 14 #[.agg (clCells q x y z)] w fun e w' => e = .returned (.int .i64 (Cl.check q)) ∧ Below w.heap.size w w' := by
  have Hf := hide hf
  have hk := hf.k
  have hbox : (w.alloc (.cells (clCells q x y z) 26)).heap[w.heap.size]? = some (.cells (clCells q x y z) 26 (0, 0)) := heap_alloc_new _ _
  have hsz := lt_of_block hbox
  have hqW := hq.alloc hB (.cells (clCells q x y z) 26)
  have hbW : Below w.heap.size w (w.alloc (.cells (clCells q x y z) 26)) := (Below.refl _ _).alloc (Nat.le_refl _) _
  have HqW := hide hqW
  have HbW := hide hbW
  have Hbox := hide hbox
  clear hq hf hqW hbW
  obtain ⟨v0, v1, v2, v3, v4, v5, v6, v7, v8, v9⟩ := box10 hbox
  clear hbox
  by_cases hlow : 1 ≤ q.kind ∧ q.kind ≤ 12
  · have b1 : decide (((q.kind : Nat) : Int) < 1) = false := by rw [decide_eq_false_iff_not]; omega
    have b2 : decide ((12 : Int) < ((q.kind : Nat) : Int)) = false := by rw [decide_eq_false_iff_not]; omega
    have KO := hide (fun w => only_any q x y z w hlow.2)
    go_enter Try.func14, Try.ntmps14
    go_wp2_with fail
    clear b1 b2
    generalize hgW : w.alloc (.cells (clCells q x y z) 26) = W at *
    clear hgW
    go_region_held3 (fun w' => w'.cell? ⟨w.heap.size, 0, none⟩ = some (.int .u8 q.kind) ∧ w'.cell? ⟨w.heap.size, 1, none⟩ = some (.int .u64 q.a) ∧ w'.cell? ⟨w.heap.size, 2, none⟩ = some (.int .u64 q.b) ∧ w'.cell? ⟨w.heap.size, 3, none⟩ = some (.int .u64 q.c) ∧ w'.cell? ⟨w.heap.size, 4, none⟩ = some (.int .u64 q.d) ∧ w'.cell? ⟨w.heap.size, 5, none⟩ = some (.int .u64 q.e) ∧ w'.cell? ⟨w.heap.size, 6, none⟩ = some (.string q.path) ∧ w'.cell? ⟨w.heap.size, 7, none⟩ = some (.slice x.A x.n x.c) ∧ w'.cell? ⟨w.heap.size, 8, none⟩ = some (.slice y.A y.n y.c) ∧ w'.cell? ⟨w.heap.size, 9, none⟩ = some (.slice z.A z.n z.c)) (first | exact ⟨v0, v1, v2, v3, v4, v5, v6, v7, v8, v9⟩ | exact box10 (unhide HB1) | exact box10 (unhide HB2)) (first
      | (go_at_call 37; refine ((unhide KO) _).mono ?_; rintro e w1 ⟨rfl, hb0⟩; have hb1 : Below W.heap.size W w1 := below_undrew hb0; clear hb0; have HB1 := hide (box_keep (unhide Hbox) hb1 hsz); have hs1 := hb1.size; have Hq1 := hide ((unhide HqW).below (hb1.mono (by omega))); have KS := same_any q (onlyC q) x y z (onlyX q x) (onlyX q y) (onlyZ q z) B w1 (unhide Hq1) (onlyC_ok (unhide Hq1)) (by omega) (unhide Hf) (onlyC_fit (unhide Hf)); rw [same_only q hlow.2] at KS)
      | (go_at_call 15; with_reducible (refine KS.mono ?_); rintro e w2 ⟨rfl, hb2⟩; have HB2 := hide (box_keep (unhide HB1) hb2 (by omega))))
    have Hb2 := hide ((unhide HbW).trans ((hb1.mono (by omega)).trans (hb2.mono (by omega))))
    have hs2 := hb2.size
    have Hq2 := hide ((unhide Hq1).below (hb2.mono (by omega)))
    clear hb1 hb2 HB1 KS HqW HbW Hbox KO v0 v1 v2 v3 v4 v5 v6 v7 v8 v9 Hq1
    obtain ⟨v0, v1, v2, v3, v4, v5, v6, v7, v8, v9⟩ := box10 (unhide HB2)
    obtain ⟨ob, hob⟩ : ∃ b, Cl.onlyB q = b := ⟨_, rfl⟩
    rw [hob]
    cases ob
    · have hC : Cl.check q = 1 := by unfold Cl.check; rw [if_neg (by omega), if_pos hob]
      have HC := hide hC
      clear hob hC
      go_wp2_with fail
      go_ret
      exact ⟨by rw [unhide HC]; rfl, unhide Hb2⟩
    · have hC := check_on (q := q) (by omega) hob
      have hn3 := (unhide Hq2).n3
      rw [hn3] at hC
      have Hp := hide hp4
      have KP := hide (fun w => rcheck_any q.path hp4 w)
      clear hob hp4
      obtain hk1 | hk8 | hk12 | hk9 | hk10 | hko : q.kind = 1 ∨ q.kind = 8 ∨ q.kind = 12 ∨ q.kind = 9 ∨ q.kind = 10 ∨ (q.kind ≠ 1 ∧ q.kind ≠ 8 ∧ q.kind ≠ 12 ∧ q.kind ≠ 9 ∧ q.kind ≠ 10) := by omega
      · rw [if_pos hk1] at hC
        have t1 : (((q.kind : Nat) : Int) == 1) = true := by rw [hk1]; rfl
        unfold Cl.fst2 at hC
        have hl1 := (unhide Hf).l1
        have hl2 := (unhide Hf).l2
        rw [(unhide Hq2).n1] at hl1
        rw [(unhide Hq2).n2] at hl2
        have Hl1 := hide hl1
        have Hl2 := hide hl2
        clear hl1 hl2
        by_cases hc : Pth.chk q.path = 0
        · have tc := int0_t hc
          rw [if_pos hc] at hC
          by_cases hc2 : Cl.envCk q.argv = 0
          · have tc2 := int0_t hc2
            rw [if_pos hc2] at hC
            have HC := hide hC
            clear hC hk1 hn3 hc hc2
            go_wp2_with fail
            refine ((unhide KP) _).mono ?_
            rintro e w3 ⟨rfl, hb3⟩
            have HB3 := hide (box_keep (unhide HB2) hb3 (by omega))
            have hs3 := hb3.size
            have Hb3 := hide ((unhide Hb2).trans (hb3.mono (by omega)))
            have Hq3 := hide ((unhide Hq2).below (hb3.mono (by omega)))
            clear hb3 HB2 v0 v1 v2 v3 v4 v5 v6 v7 v8 v9
            obtain ⟨v0, v1, v2, v3, v4, v5, v6, v7, v8, v9⟩ := box10 (unhide HB3)
            go_wp2_with fail
            refine (renvCheck_any x.A x.n x.c _ q.argv _ (unhide Hq3).r1 (unhide Hf).s1 (unhide Hl1)).mono ?_
            rintro e w4 ⟨rfl, rfl⟩
            go_wp2_with fail
            refine (renvCheck_any y.A y.n y.c _ q.env _ (unhide Hq3).r2 (unhide Hf).s2 (unhide Hl2)).mono ?_
            rintro e w4 ⟨rfl, rfl⟩
            go_wp2_with fail
            go_ret
            exact ⟨by rw [unhide HC]; rfl, unhide Hb3⟩
          · have tc2 := int0_f hc2
            rw [if_neg hc2] at hC
            have HC := hide hC
            clear hC hk1 hn3 hc hc2
            go_wp2_with fail
            refine ((unhide KP) _).mono ?_
            rintro e w3 ⟨rfl, hb3⟩
            have HB3 := hide (box_keep (unhide HB2) hb3 (by omega))
            have hs3 := hb3.size
            have Hb3 := hide ((unhide Hb2).trans (hb3.mono (by omega)))
            have Hq3 := hide ((unhide Hq2).below (hb3.mono (by omega)))
            clear hb3 HB2 v0 v1 v2 v3 v4 v5 v6 v7 v8 v9
            obtain ⟨v0, v1, v2, v3, v4, v5, v6, v7, v8, v9⟩ := box10 (unhide HB3)
            go_wp2_with fail
            refine (renvCheck_any x.A x.n x.c _ q.argv _ (unhide Hq3).r1 (unhide Hf).s1 (unhide Hl1)).mono ?_
            rintro e w4 ⟨rfl, rfl⟩
            go_wp2_with fail
            go_ret
            exact ⟨by rw [unhide HC]; rfl, unhide Hb3⟩
        · have tc := int0_f hc
          rw [if_neg hc] at hC
          have HC := hide hC
          clear hC hk1 hn3 hc
          go_wp2_with fail
          refine ((unhide KP) _).mono ?_
          rintro e w3 ⟨rfl, hb3⟩
          have HB3 := hide (box_keep (unhide HB2) hb3 (by omega))
          have hs3 := hb3.size
          have Hb3 := hide ((unhide Hb2).trans (hb3.mono (by omega)))
          have Hq3 := hide ((unhide Hq2).below (hb3.mono (by omega)))
          clear hb3 HB2 v0 v1 v2 v3 v4 v5 v6 v7 v8 v9
          obtain ⟨v0, v1, v2, v3, v4, v5, v6, v7, v8, v9⟩ := box10 (unhide HB3)
          go_wp2_with fail
          go_ret
          exact ⟨by rw [unhide HC]; rfl, unhide Hb3⟩
      · rw [if_neg (by omega), if_pos (by omega)] at hC
        have t1 : (((q.kind : Nat) : Int) == 1) = false := by rw [hk8]; rfl
        have t8 : (((q.kind : Nat) : Int) == 8) = true := by rw [hk8]; rfl
        by_cases hbig : 4096 < q.b
        · have tb : decide ((4096 : Int) < ((q.b : Nat) : Int)) = true := by rw [decide_eq_true_eq]; omega
          rw [if_pos hbig] at hC
          have HC := hide hC
          clear hC hk8 hn3 hbig
          go_wp2_with fail
          go_ret
          exact ⟨by rw [unhide HC]; rfl, unhide Hb2⟩
        · have tb : decide ((4096 : Int) < ((q.b : Nat) : Int)) = false := by rw [decide_eq_false_iff_not]; omega
          rw [if_neg hbig] at hC
          have HC := hide hC
          clear hC hk8 hn3 hbig
          go_wp2_with fail
          go_ret
          exact ⟨by rw [unhide HC]; rfl, unhide Hb2⟩
      · rw [if_neg (by omega), if_pos (by omega)] at hC
        have t1 : (((q.kind : Nat) : Int) == 1) = false := by rw [hk12]; rfl
        have t8 : (((q.kind : Nat) : Int) == 8) = false := by rw [hk12]; rfl
        have t12 : (((q.kind : Nat) : Int) == 12) = true := by rw [hk12]; rfl
        by_cases hbig : 4096 < q.b
        · have tb : decide ((4096 : Int) < ((q.b : Nat) : Int)) = true := by rw [decide_eq_true_eq]; omega
          rw [if_pos hbig] at hC
          have HC := hide hC
          clear hC hk12 hn3 hbig
          go_wp2_with fail
          go_ret
          exact ⟨by rw [unhide HC]; rfl, unhide Hb2⟩
        · have tb : decide ((4096 : Int) < ((q.b : Nat) : Int)) = false := by rw [decide_eq_false_iff_not]; omega
          rw [if_neg hbig] at hC
          have HC := hide hC
          clear hC hk12 hn3 hbig
          go_wp2_with fail
          go_ret
          exact ⟨by rw [unhide HC]; rfl, unhide Hb2⟩
      · rw [if_neg (by omega), if_neg (by omega), if_pos hk9] at hC
        have t1 : (((q.kind : Nat) : Int) == 1) = false := by rw [hk9]; rfl
        have t8 : (((q.kind : Nat) : Int) == 8) = false := by rw [hk9]; rfl
        have t12 : (((q.kind : Nat) : Int) == 12) = false := by rw [hk9]; rfl
        have t9 : (((q.kind : Nat) : Int) == 9) = true := by rw [hk9]; rfl
        by_cases hbig : 4096 < z.n
        · have tb : decide ((4096 : Int) < ((z.n : Nat) : Int)) = true := by rw [decide_eq_true_eq]; omega
          rw [if_pos hbig] at hC
          have HC := hide hC
          clear hC hk9 hn3 hbig
          go_wp2_with fail
          go_ret
          exact ⟨by rw [unhide HC]; rfl, unhide Hb2⟩
        · have tb : decide ((4096 : Int) < ((z.n : Nat) : Int)) = false := by rw [decide_eq_false_iff_not]; omega
          rw [if_neg hbig] at hC
          have HC := hide hC
          clear hC hk9 hn3 hbig
          go_wp2_with fail
          go_ret
          exact ⟨by rw [unhide HC]; rfl, unhide Hb2⟩
      · rw [if_neg (by omega), if_neg (by omega), if_neg (by omega), if_pos hk10] at hC
        have t1 : (((q.kind : Nat) : Int) == 1) = false := by rw [hk10]; rfl
        have t8 : (((q.kind : Nat) : Int) == 8) = false := by rw [hk10]; rfl
        have t12 : (((q.kind : Nat) : Int) == 12) = false := by rw [hk10]; rfl
        have t9 : (((q.kind : Nat) : Int) == 9) = false := by rw [hk10]; rfl
        have t10 : (((q.kind : Nat) : Int) == 10) = true := by rw [hk10]; rfl
        unfold Cl.fst2 at hC
        by_cases hc : Pth.chk q.path = 0
        · have tc := int0_t hc
          rw [if_pos hc] at hC
          by_cases ha : 1 < q.a
          · have ta : decide ((1 : Int) < ((q.a : Nat) : Int)) = true := by rw [decide_eq_true_eq]; omega
            rw [if_pos ha] at hC
            have HC := hide hC
            clear hC hk10 hn3 ha hc
            go_wp2_with fail
            refine ((unhide KP) _).mono ?_
            rintro e w3 ⟨rfl, hb3⟩
            have HB3 := hide (box_keep (unhide HB2) hb3 (by omega))
            have hs3 := hb3.size
            have Hb3 := hide ((unhide Hb2).trans (hb3.mono (by omega)))
            have Hq3 := hide ((unhide Hq2).below (hb3.mono (by omega)))
            clear hb3 HB2 v0 v1 v2 v3 v4 v5 v6 v7 v8 v9
            obtain ⟨v0, v1, v2, v3, v4, v5, v6, v7, v8, v9⟩ := box10 (unhide HB3)
            go_wp2_with fail
            go_ret
            exact ⟨by rw [unhide HC]; rfl, unhide Hb3⟩
          · have ta : decide ((1 : Int) < ((q.a : Nat) : Int)) = false := by rw [decide_eq_false_iff_not]; omega
            rw [if_neg ha, ← hc] at hC
            have HC := hide hC
            clear hC hk10 hn3 ha hc
            go_wp2_with fail
            refine ((unhide KP) _).mono ?_
            rintro e w3 ⟨rfl, hb3⟩
            have HB3 := hide (box_keep (unhide HB2) hb3 (by omega))
            have hs3 := hb3.size
            have Hb3 := hide ((unhide Hb2).trans (hb3.mono (by omega)))
            have Hq3 := hide ((unhide Hq2).below (hb3.mono (by omega)))
            clear hb3 HB2 v0 v1 v2 v3 v4 v5 v6 v7 v8 v9
            obtain ⟨v0, v1, v2, v3, v4, v5, v6, v7, v8, v9⟩ := box10 (unhide HB3)
            go_wp2_with fail
            go_ret
            exact ⟨by rw [unhide HC]; rfl, unhide Hb3⟩
        · have tc := int0_f hc
          rw [if_neg hc] at hC
          have HC := hide hC
          clear hC hk10 hn3 hc
          go_wp2_with fail
          refine ((unhide KP) _).mono ?_
          rintro e w3 ⟨rfl, hb3⟩
          have HB3 := hide (box_keep (unhide HB2) hb3 (by omega))
          have hs3 := hb3.size
          have Hb3 := hide ((unhide Hb2).trans (hb3.mono (by omega)))
          have Hq3 := hide ((unhide Hq2).below (hb3.mono (by omega)))
          clear hb3 HB2 v0 v1 v2 v3 v4 v5 v6 v7 v8 v9
          obtain ⟨v0, v1, v2, v3, v4, v5, v6, v7, v8, v9⟩ := box10 (unhide HB3)
          go_wp2_with fail
          go_ret
          exact ⟨by rw [unhide HC]; rfl, unhide Hb3⟩
      · obtain ⟨o1, o8, o12, o9, o10⟩ := hko
        have t1 : (((q.kind : Nat) : Int) == 1) = false := beq_eq_false_iff_ne.2 (by omega)
        have t8 : (((q.kind : Nat) : Int) == 8) = false := beq_eq_false_iff_ne.2 (by omega)
        have t12 : (((q.kind : Nat) : Int) == 12) = false := beq_eq_false_iff_ne.2 (by omega)
        have t9 : (((q.kind : Nat) : Int) == 9) = false := beq_eq_false_iff_ne.2 (by omega)
        have t10 : (((q.kind : Nat) : Int) == 10) = false := beq_eq_false_iff_ne.2 (by omega)
        rw [if_neg o1, if_neg (by omega), if_neg o9, if_neg o10] at hC
        have HC := hide hC
        clear hC o1 o8 o12 o9 o10 hn3
        go_wp2_with fail
        go_ret
        exact ⟨by rw [unhide HC]; rfl, unhide Hb2⟩
  · have hno : q.kind = 0 ∨ 12 < q.kind := by omega
    have Hc := hide (check_out hno)
    obtain h | h := hno
    · have b1 : decide (((q.kind : Nat) : Int) < 1) = true := by rw [decide_eq_true_eq]; omega
      clear hlow h
      go_enter Try.func14, Try.ntmps14
      go_wp2_with fail
      go_ret
      exact ⟨by rw [unhide Hc]; rfl, unhide HbW⟩
    · have b1 : decide (((q.kind : Nat) : Int) < 1) = false := by rw [decide_eq_false_iff_not]; omega
      have b2 : decide ((12 : Int) < ((q.kind : Nat) : Int)) = true := by rw [decide_eq_true_eq]; omega
      clear hlow h
      go_enter Try.func14, Try.ntmps14
      go_wp2_with fail
      go_ret
      exact ⟨by rw [unhide Hc]; rfl, unhide HbW⟩
end Go.Proofs.Ytphbkjdheopmhaa
