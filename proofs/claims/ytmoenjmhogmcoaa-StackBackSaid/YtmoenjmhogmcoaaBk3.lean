/- The statement StackBack: whatever the input, the law returns true, and what was there reads as it did. No conditions. Ahead of it: The walk of StackBack. Conditions: as the argument's. -/
import Derived.Test.YtmoenjmhogmcoaaBk2
import Derived.StillTailTactics
import Derived.Deep.QuietTactic
import Derived.BigQuiet
import Derived.IntWalk
import Derived.Test.YtmoenjmhogmcoaaRows
import Derived.ProofKit
import Derived.OpenShut
import Derived.ShutString
import Derived.ChangeOld
import Derived.Below
import Derived.SliceStrings
import Derived.Test.YtmoenjmhogmcoaaBk1
namespace Go.Proofs.Ytmoenjmhogmcoaa
set_option linter.unusedVariables false
set_option linter.unusedSimpArgs false
open Go.RowKit

theorem envCk_err (l : List ByteArray) : Cl.envCk l = 0 ∨ Cl.envCk l = 1 ∨ Cl.envCk l = 12 := by
  unfold Cl.envCk
  split
  · exact .inr (.inr rfl)
  · split
    · exact .inr (.inr rfl)
    · split
      · exact .inr (.inl rfl)
      · exact .inl rfl
theorem may_err (argv env : List ByteArray) (aux : List (Nat × Nat)) (path : ByteArray) : Stk.mayE argv env aux path = 0 ∨ Stk.mayE argv env aux path = 1 ∨ Stk.mayE argv env aux path = 12 := by
  unfold Stk.mayE
  split
  · exact envCk_err _
  · split
    · exact envCk_err _
    · split
      · exact .inr (.inr rfl)
      · split
        · exact .inr (.inl rfl)
        · split
          · exact .inr (.inl rfl)
          · exact .inl rfl
theorem lay_cases (argv env : List ByteArray) (aux : List (Nat × Nat)) (path : ByteArray) :
    (∃ e, (e = 1 ∨ e = 12) ∧ Stk.lay argv env aux path = ([], 0, e)) ∨ (Stk.Ok argv env aux path ∧ (Stk.whole argv env aux path).length ≤ 16384 ∧ Stk.lay argv env aux path = (Stk.whole argv env aux path, Stk.top - (Stk.whole argv env aux path).length, 0)) := by
  unfold Stk.lay
  split
  · refine .inl ⟨_, ?_, rfl⟩
    rcases may_err argv env aux path with h | h | h
    · contradiction
    · exact .inl h
    · exact .inr h
  · rename_i h0
    split
    · exact .inl ⟨12, .inr rfl, rfl⟩
    · exact .inr ⟨Stk.may_ok (by omega), by omega, rfl⟩
theorem Rd.aux_front {w : World} {B n : Nat} {A : Option Addr} {l : List (Nat × Nat)} {a : Nat × Nat} (h : Rd w B 2 A (n + 1) (auxC (l ++ [a]))) : Rd w B 2 A n (auxC l) := by
  have hl := h.aux_len
  rw [List.length_append, List.length_singleton] at hl
  refine ⟨by rw [auxC_len]; omega, ?_⟩
  rcases h.2 with h0 | ⟨b, o, e, hb, hc⟩
  · have := congrArg List.length h0
    rw [auxC_len] at this
    simp at this
  · exact .inr ⟨b, o, e, hb, fun j u hu => hc j u (by rw [auxC_app, List.getElem?_append_left (List.getElem?_eq_some_iff.1 hu).1]; exact hu)⟩

set_option maxRecDepth 100000 in
set_option maxHeartbeats 4000000 in
theorem stackBack_walk (x y z : Stk.Sl) (argv env : List ByteArray) (aux : List (Nat × Nat)) (path : ByteArray) (w : World) (hin : StkIn w w.heap.size x.A x.n argv y.A y.n env z.A z.n aux) (hf : BegunFit argv env aux path) :
    Calls Try.prog 4 #[.agg (begunV x y z path)] w fun e w' => e = .returned (.bool true) ∧ Below w.heap.size w w' := by
  have KW := hide works_any
  have s0 := BgS.start (path := path) hin
  have hn1 : argv.length = x.n := by simpa using hin.r1.len1
  have hn2 : env.length = y.n := by simpa using hin.r2.len1
  have hn3 := hin.r3.aux_len
  have KL := hide (blarge_any x y z argv env path w.heap.size _ s0.inn.r1 s0.inn.r2 s0.bel.size hf.a2 hf.e2 (by have := hf.a1; omega) (by have := hf.e1; omega) (by have := hf.x1; omega) hf.p)
  have S0 := hide s0
  have Hf := hide hf
  have Hn := hide (And.intro hn1 (And.intro hn2 hn3))
  clear hin hf hn1 hn2 hn3 s0
  go_enter Try.func4, Try.ntmps4
  unfold begunV at *
  obtain ⟨v0, v1, v2, v3⟩ := (unhide S0).cells
  go_wp2_with fail
  refine (unhide KL).mono ?_
  rintro e w1 ⟨r, rfl, hb1, hr⟩
  have S1 := hide ((unhide S0).below hb1)
  clear v0 v1 v2 v3 hb1 KL S0
  cases r
  case true =>
    clear hr
    go_wp2_with fail
    refine ((unhide KW) _).mono ?_
    rintro e w2 ⟨rfl, hb2⟩
    have S2 := hide ((unhide S1).below hb2)
    clear hb2
    go_wp2_with fail
    go_ret
    exact ⟨rfl, (unhide S2).bel⟩
  have hN := hr rfl
  have hfit : StkFit argv env aux path := by
    obtain ⟨n1, n2, n3⟩ := unhide Hn
    obtain ⟨q1, q2, q3, q4, q5, q6⟩ := hN
    exact ⟨by omega, fun s hs => by have := q2 s hs; omega, by omega, fun s hs => by have := q4 s hs; omega, by omega, (unhide Hf).x2, by omega⟩
  have hx1 : x.n ≤ 4294967296 := by have := hfit.a1; have := (unhide Hn).1; omega
  have hx2 : y.n ≤ 4294967296 := by have := hfit.e1; have := (unhide Hn).2.1; omega
  have hx3 : z.n ≤ 4294967296 := by have := hfit.x1; have := (unhide Hn).2.2; omega
  have hps : path.size ≤ 4294967296 := hfit.p
  have hauxn := (unhide Hf).x2
  have KS := slay_any x.A y.A z.A x.n x.c y.n y.c z.n z.c w.heap.size argv env aux path w1 (unhide S1).inn (unhide S1).bel.size hfit
  clear hr hN Hf hfit
  rcases lay_cases argv env aux path with ⟨ev, hev, hL⟩ | ⟨hok, hlen, hL⟩
  · rw [hL] at KS
    clear hL hauxn
    unfold LayEnd at KS
    replace KS := hide KS
    obtain ⟨v0, v1, v2, v3⟩ := (unhide S1).cells
    rcases hev with rfl | rfl
    all_goals
      go_wp2_with fail
      refine (unhide KS).mono ?_
      rintro e w2 ⟨A4, c4, rfl, -, hb2⟩
      simp only [List.length_nil]
      have S2 := hide ((unhide S1).below hb2)
      clear hb2 v0 v1 v2 v3 KS
      go_wp2_with fail
      refine ((unhide KW) _).mono ?_
      rintro e w3 ⟨rfl, hb3⟩
      have S3 := hide ((unhide S2).below hb3)
      clear hb3
      go_wp2_with fail
      go_ret
      exact ⟨rfl, (unhide S3).bel⟩
  have hback := Stk.read_lay hok hauxn hlen
  obtain ⟨pre, hp1, hp2⟩ := Stk.path_at argv env aux path
  have hmod := Stk.whole_len argv env aux path
  have hT : Stk.top = 140737488351232 := rfl
  rw [hL] at KS
  clear hL hok hauxn
  generalize Stk.whole argv env aux path = Wh at *
  obtain ⟨N, hN⟩ : ∃ N, Wh.length = N := ⟨_, rfl⟩
  obtain ⟨q, hq⟩ : ∃ q, pre.length = q := ⟨_, rfl⟩
  rw [hN] at KS hback hlen hmod hp2
  rw [hq] at hp2
  unfold Stk.ue at hback hp2
  obtain ⟨sp, hsp⟩ : ∃ sp, Stk.top - N = sp := ⟨_, rfl⟩
  obtain ⟨P, hP⟩ : ∃ P, Stk.top - (path.size + 9) = P := ⟨_, rfl⟩
  rw [hsp] at KS hback
  rw [hP] at hback
  unfold LayEnd at KS
  simp only [hN] at KS
  replace KS := hide KS
  have t1 : ((sp : Int) % 16 != 0) = false := by rw [bne_eq_false_iff_eq]; omega
  have t2 : ¬ (16384 : Int) < (N : Int) := by omega
  have t3 : ((sp : Int) + (N : Int) != 140737488351232) = false := by rw [bne_eq_false_iff_eq]; omega
  have t4 : (sp : Int) + (N : Int) ≤ 18446744073709551615 := by omega
  have t5 : ¬ (P : Int) < (sp : Int) := by omega
  have t6 : (P : Int) - (sp : Int) = (q : Int) := by omega
  have t7 : ¬ (N : Int) < (q : Int) := by omega
  have t8 : ¬ (N : Int) - (q : Int) < (path.size : Int) + 1 := by omega
  have hPl : P < 18446744073709551616 := by omega
  have hspl : sp < 18446744073709551616 := by omega
  have hqN : q + path.size < N := by omega
  have Hback := hide hback
  have Hp := hide (And.intro hp1 (And.intro hq hN))
  have HT := hide (And.intro t5 (And.intro t6 (And.intro t7 t8)))
  clear hback hp1 hq hN hT hmod hsp hP hp2 t5 t6 t7 t8
  obtain ⟨v0, v1, v2, v3⟩ := (unhide S1).cells
  go_wp2_with fail
  refine (unhide KS).mono ?_
  rintro e w2 ⟨A4, c4, rfl, ho4, hb2⟩
  have hNc := own_cap ho4
  have KR := sread_any A4 N c4 sp Wh w2 w2.heap.size (Rd.of_own ho4) (Nat.le_refl _) (by omega) hNc hspl
  rw [unhide Hback] at KR
  unfold ReadEnd at KR
  obtain ⟨NY, hNY⟩ : ∃ NY, z.n + 1 = NY := ⟨_, rfl⟩
  simp only [List.length_append, List.length_cons, List.length_nil, (unhide Hn).1, (unhide Hn).2.1, (unhide Hn).2.2, Nat.zero_add, hNY] at KR
  replace KR := hide KR
  have HNY := hide hNY
  have S2 := hide ((unhide S1).below hb2)
  have R2 := hide (Rd.of_own ho4)
  have hbs := (unhide S1).bel.size
  clear v0 v1 v2 v3 hb2 ho4 KS S1 hNY Hback hbs
  go_wp2_with fail
  refine (unhide KR).mono ?_
  rintro e w3 ⟨A5, c5, A6, c6, A7, c7, rfl, ho5, ho6, ho7, hb3⟩
  have hNY := unhide HNY
  have hcap7 := own_cap ho7
  have S3 := hide ((unhide S2).below hb3)
  have R3 := hide ((unhide R2).belowSz hb3)
  have ry := Rd.of_own ho7
  have h7 : (aux ++ [(31, P)])[z.n]? = some (31, P) := by rw [← (unhide Hn).2.2]; simp
  have Y3 := hide (ry.aux h7)
  have ryf : Rd w3 w3.heap.size 2 A7 z.n (auxC aux) := Rd.aux_front (a := (31, P)) (by rw [hNY]; exact ry)
  have K1 : ∀ m, Calls Try.prog 13 #[.slice A5 x.n c5, .slice x.A x.n x.c] (w3.drewN m) fun e w' => e = .returned (.bool true) ∧ ∃ j, w' = (w3.drewN m).drewN j := by
    intro m
    have h := eqTexts_any A5 x.A x.n x.n c5 x.c w3.heap.size argv argv (w3.drewN m) ((Rd.of_own ho5).drewN m) (((unhide S3).inn.r1.more (unhide S3).bel.size).drewN m) (by unfold maxLen; omega) (by unfold maxLen; omega)
    rwa [decide_eq_true rfl] at h
  have K2 : ∀ m, Calls Try.prog 13 #[.slice A6 y.n c6, .slice y.A y.n y.c] (w3.drewN m) fun e w' => e = .returned (.bool true) ∧ ∃ j, w' = (w3.drewN m).drewN j := by
    intro m
    have h := eqTexts_any A6 y.A y.n y.n c6 y.c w3.heap.size env env (w3.drewN m) ((Rd.of_own ho6).drewN m) (((unhide S3).inn.r2.more (unhide S3).bel.size).drewN m) (by unfold maxLen; omega) (by unfold maxLen; omega)
    rwa [decide_eq_true rfl] at h
  have K3 : ∀ m, Calls Try.prog 14 #[.slice A7 z.n c7, .slice z.A z.n z.c] (w3.drewN m) fun e w' => e = .returned (.bool true) ∧ ∃ j, w' = (w3.drewN m).drewN j := by
    intro m
    have h := aeqq_any A7 z.n c7 w3.heap.size aux z.A z.n z.c w.heap.size aux (w3.drewN m) (ryf.drewN m) ((unhide S3).inn.r3.drewN m) hx3 hx3
    rwa [decide_eq_true rfl] at h
  replace K1 := hide K1
  replace K2 := hide K2
  replace K3 := hide K3
  have hzc : z.n ≤ c7 := by omega
  have hzc' : (z.n : Int) ≤ (c7 : Int) := by omega
  have hz0 : (0 : Int) ≤ (z.n : Int) := by omega
  have hyy : ((NY : Int) != (z.n : Int) + 1) = false := by rw [bne_eq_false_iff_eq]; omega
  have hw1 : IntKind.i64.wrap ((z.n : Int) + 1) = (z.n : Int) + 1 := IntWalk.i64_in _ (by omega)
  obtain ⟨v0, v1, v2, v3⟩ := (unhide S3).cells
  clear hb3 ho5 ho6 ho7 KR S2 R2 hNY ry h7 ryf
  go_wp2_with fail
  go_quiet (first
    | (go_at_call 13; with_reducible (exact Calls.quiet_of ((unhide K1) _)))
    | (go_at_call 13; with_reducible (exact Calls.quiet_of ((unhide K2) _)))
    | (go_at_call 14; with_reducible (exact Calls.quiet_of ((unhide K3) _))))
  have S4 := hide ((unhide S3).drewN nq)
  have R4 := hide ((unhide R3).drewN nq)
  have hs34 : w3.heap.size ≤ (w3.drewN nq).heap.size := Nat.le_refl _
  obtain ⟨g7, o7, rfl, hg7, yc1, yc2⟩ := unhide Y3
  have hb7 : g7 < (w3.drewN nq).heap.size := hg7
  have y1 : (w3.drewN nq).cell? ⟨g7, o7 + z.n * 2, none⟩ = some (.int .u64 (31 : Nat)) := yc1
  have y2 : (w3.drewN nq).cell? ⟨g7, o7 + z.n * 2 + 1, none⟩ = some (.int .u64 (P : Nat)) := yc2
  clear hw1 v0 v1 v2 v3 S3 R3 Y3 yc1 yc2 hg7 K1 K2 K3 hyy
  have hzl : (z.n : Int) < (NY : Int) := by have := unhide HNY; omega
  generalize w3.drewN nq = w4 at *
  obtain ⟨v0, v1, v2, v3⟩ := (unhide S4).cells
  have hlt0 := (unhide S4).blk.lt
  obtain ⟨t5, t6, t7, t8⟩ := unhide HT
  go_wp2_with fail
  have hbW : Below w4.heap.size w4 (w4.alloc (.cells #[.int .u64 31, .int .u64 P] 43)) := (Below.refl _ _).alloc (Nat.le_refl _) _
  have s5 := (unhide S4).below hbW
  have r5 := (unhide R4).below (hbW.mono (show w3.heap.size ≤ w4.heap.size from hs34))
  clear v0 v1 v2 v3 y1 y2 hb7 S4 R4 hbW hlt0 t1 t3 t4 t5 t6 t7 t8 HT hs34
  generalize w4.alloc (.cells #[.int .u64 31, .int .u64 P] 43) = W at *
  obtain ⟨hp1, hp2, hp3⟩ := unhide Hp
  have hzero : Wh[q + path.size]? = some 0 := by
    rw [hp1, ← hp2, List.getElem?_append_right (by omega), Nat.add_sub_cancel_left, List.getElem?_append_right (by simp)]
    simp
  obtain ⟨b4, o4, rfl, hb4, cz⟩ := r5.at_ (bys_at hzero)
  have hcut := (r5.from (k := q) (by omega)).cutN (k := path.size) (by omega)
  have hpe : (Wh.drop q).take path.size = path.data.toList := by
    rw [hp1, ← hp2, List.drop_left]
    exact List.take_left' (by simp)
  rw [bys_take, hpe] at hcut
  have hcv : ∀ n, (convert 29 9 (.slice (some ⟨b4, o4 + q, none⟩) path.size (c4 - q))).run Try.prog (W.drewN n) = .ok (.string path) (W.drewN n) := fun n => conv_any (P := Try.prog) (c := c4 - q) (hcut.drewN n) Try.underlying29 Try.underlying5 Try.underlying9
  obtain ⟨v0, v1, v2, v3⟩ := s5.cells
  have S5 := hide s5
  clear s5 r5 hcut hpe hzero hp1 hp2 hp3 Hp hx1 hx2 hx3 hzc hzc' hz0 hcap7 hzl HNY t2 hPl hb4 Hn
  obtain ⟨r, hr⟩ : ∃ r, q + path.size = r := ⟨_, rfl⟩
  rw [hr] at cz
  have hcq : ¬ c4 = q := by omega
  have b1 : (0 : Int) ≤ (q : Int) := by omega
  have b2 : (q : Int) ≤ (r : Int) := by omega
  have b3 : (r : Int) ≤ (c4 : Int) := by omega
  have b4' : (r : Int) < (N : Int) := by omega
  have b5 : (0 : Int) ≤ (r : Int) := by omega
  have hrq2 : r - q = path.size := by omega
  have hrq : (r : Int) - (q : Int) = (path.size : Int) := by omega
  have hqr : (q : Int) + (path.size : Int) = (r : Int) := by omega
  have hwr : IntKind.u64.wrap (r : Int) = (r : Int) := IntWalk.u64_in _ (by omega)
  have h00 : ((0 : UInt8).toNat : Int) = 0 := rfl
  have hpq : (path.toList == path.toList) = true := beq_self_eq_true _
  have hcv1 : (convert 29 9 (.slice (some ⟨b4, o4 + q, none⟩) path.size (c4 - q))).run Try.prog W.drew = .ok (.string path) W.drew := hcv 1
  have v32 : W.drew.cell? ⟨w.heap.size, 3, none⟩ = some (.string path) := v3
  have cz2 : W.drew.cell? ⟨b4, o4 + r, none⟩ = some (.int .u8 ((0 : UInt8).toNat : Nat)) := cz
  have v31 : World.cell? { heap := W.heap, tape := W.tape, drawn := W.drawn + 1, os := W.os, output := W.output } ⟨w.heap.size, 3, none⟩ = some (.string path) := v3
  have cz1 : World.cell? { heap := W.heap, tape := W.tape, drawn := W.drawn + 1, os := W.os, output := W.output } ⟨b4, o4 + r, none⟩ = some (.int .u8 ((0 : UInt8).toNat : Nat)) := cz
  clear hr hcv v0 v1 v2 v3 cz
  go_still_tail 20, (by kernel_rfl)
  change wpList _ _ _ _ _ W.drew
  have S6 := hide ((unhide S5).drewN 1)
  clear hcv1 v31 cz1 v32 cz2 S5
  have S7 : Hid (BgS w x y z argv env aux path W.drew) := S6
  clear S6
  generalize W.drew = V at *
  go_wp2_with fail
  refine ((unhide KW) _).mono ?_
  rintro e w8 ⟨rfl, hb8⟩
  have S8 := hide ((unhide S7).below hb8)
  clear hb8
  go_wp2_with fail
  go_ret
  exact ⟨rfl, (unhide S8).bel⟩
end Go.Proofs.Ytmoenjmhogmcoaa
namespace Go.Proofs.Ytmoenjmhogmcoaa.stackBack
open Go.ChangeShapes Go.WideShapes Go.ChangeAt Go.RowKit
open Go.ChangeMaps (open_string shut_string)
set_option linter.unusedVariables false

theorem own : ownKnob Try.prog.godebug = none := by kernel_rfl
theorem laidOut : laidOutB Try.prog = true := by kernel_rfl
theorem wfi {z : Int} (h : (Lit.int .i64 z).wf = true) : -9223372036854775808 ≤ z ∧ z ≤ 9223372036854775807 := by simpa [Lit.wf, IntKind.min, IntKind.max, IntKind.signed, IntKind.bits] using h

set_option maxRecDepth 100000 in
theorem lifted (os : Os) (started : os.Started) (H : Type) (enc : TypeId × Value → H) :
    ReturnsInHanded {} Try.checked os 4 .any (Rows.stackBackSpec.pre6 enc Try.prog Try.f4 Rows.stackBackRow.domain false) (Rows.stackBackSpec.post enc Try.prog Try.f4 false true false false) := by
  refine returnsInHanded_of_change (C := Try.checked) own started (by kernel_rfl) Try.func4
    (ChangeSpec.witness6 (enc := enc) (C := Try.checked) false ⟨#[], #[.agg #[.slice none 0 0, .slice none 0 0, .slice none 0 0, .string ByteArray.empty]], []⟩ 8 (by kernel_rfl) (by kernel_rfl) (by kernel_rfl) (by kernel_rfl)) ?_
  intro W base args ds gs before hval0 hW hcnd _
  have hval : ∀ (j : Nat) t v, Try.f4.params[j]? = some t → args[j]? = some v → Value.okWide Try.prog W .any base t v := hval0
  have hW' := hW
  obtain ⟨p, q, hA0, hV, rfl, hfz, hnd⟩ := hW
  have hA : DataW.TrodAll enc Try.prog W 0 (fun _ => true) true Try.f4.params.toList args.toList ds p := hA0
  rw [Try.params4] at hA hval
  obtain ⟨v0, vs0, d0, ds0, p0, q0, hargs, rfl, rfl, h0, r0⟩ := trodAll_cons hA
  obtain ⟨rfl, rfl, rfl⟩ := trodAll_nil r0
  obtain rfl : args = #[v0] := by cases args; simp_all
  obtain ⟨rfl, rfl⟩ := trodVars_none hV
  have k0 := h0
  have lt0 : ∀ x ∈ p0, x.block < W.heap.size := by obtain ⟨m, hm⟩ := k0; exact DataW.trod_lt m _ _ _ hm
  obtain ⟨xs0, ys0, zs0, la0, le0, lx0, s0, rfl, w0, o0, -⟩ := open_begun_rd (hval 0 25 v0 rfl rfl) h0
  clear hA0 hval0
  refine (stackBack_walk xs0 ys0 zs0 la0 le0 lx0 s0 W o0 w0).mono fun e W' ⟨he, bel⟩ => ?_
  subst he
  exact ⟨_, rfl, _, _, _, [], _, [], hW', trodAll_mk1 (shut_bool Try.underlying4 _), (trodAll_cons_mk (Below.trod laidOut (by kernel_rfl) (of_decide_eq_true (by kernel_rfl)) k0 bel lt0) trodAll_mk0), rfl, bel.frame _, fun h => by cases h⟩

theorem over : Rows.stackBackRow.holds Try.pinned (OpenSpec.ofChange Rows.stackBackSpec) :=
  OpenClaim.holds_of_wide 4 Try.f4 rfl rfl rfl rfl rfl rfl rfl ⟨rfl, rfl, rfl, rfl, rfl⟩ rfl rfl rfl rfl rfl (by kernel_rfl) Try.func4 (by kernel_rfl)
    (of_decide_eq_true (by kernel_rfl)) (by unfold Func.isWrapper; first | (rw [if_pos (by decide +kernel)]; kernel_rfl) | (rw [if_neg (by decide +kernel)]; exact ⟨rfl, rfl⟩))
    (fun os started H enc _ => lifted os started H enc)

theorem proved : Rows.StackBackSaid := over
#print axioms proved
end Go.Proofs.Ytmoenjmhogmcoaa.stackBack
