/- What an argument that is a call reads as: ten fields, three of them lists. No conditions. The walk of CallsChecks. Conditions: as the argument's. The walk of CallsBack. Conditions: as the arguments'. -/
import Derived.Test.YtphbkjdheopmhaaRead
import Derived.Test.YtphbkjdheopmhaaCalls3
import Derived.Deep.Slices
import Derived.Lib.SmallJoins
import Derived.Test.YtphbkjdheopmhaaLaw25a
namespace Go.Proofs.Ytphbkjdheopmhaa
set_option linter.unusedVariables false
set_option linter.unusedSimpArgs false
open Go.RowKit Go.ChangeShapes Go.WideShapes Go.Joins Go.Deep

section
variable {H : Type} {enc : TypeId × Value → H} {P : Program} {w : World} {base : Nat} {spare : Nat → Bool} {held : Bool}
theorem fields_one {t : TypeId} {fs : Array Field} {fuel : Nat} {cs : List Value} {x : DataW H × List MemPlace} (ht : P.underlying t = some (.struct fs)) (hone : oneCellFields P fs = true) (hC : P.cellsOf t = fs.size)
    (h : DataW.trod enc P w base spare held fuel t cs = some x) : cs.length = fs.size ∧ ∃ n, ∀ (i : Nat) (f : Field) (v : Value), fs[i]? = some f → cs[i]? = some v → ∃ y, DataW.trod enc P w base spare held n f.type [v] = some y := by
  obtain ⟨xs, n, _, rfl, hl, hlen, hf⟩ := DataW.trod_struct ht h
  refine ⟨hl.trans hC, n, fun i f v hi hv => ?_⟩
  obtain ⟨o, k⟩ := hone_of hone i f hi
  have hi2 : i < fs.size := (Array.getElem?_eq_some_iff.1 hi).1
  have h1 := hf i f hi
  have e : ((cs.drop f.offset).take (P.cellsOf f.type)) = [v] := by
    rw [o, k]
    have hlt : i < cs.length := (List.getElem?_eq_some_iff.1 hv).1
    rw [List.drop_eq_getElem_cons hlt, (List.getElem?_eq_some_iff.1 hv).2]
    rfl
  rw [e] at h1
  exact ⟨_, h1.trans (List.getElem?_eq_getElem (by omega))⟩
end

theorem callFields : ∃ fs, Try.prog.underlying 26 = some (.struct fs) ∧ oneCellFields Try.prog fs = true ∧ Try.prog.cellsOf 26 = fs.size ∧ fs.size = 10 ∧ fs.map (·.type) = #[5, 22, 22, 22, 22, 22, 9, 23, 23, 24] :=
  ⟨_, Try.underlying26, by kernel_rfl, by kernel_rfl, by kernel_rfl, by kernel_rfl⟩
theorem list10 {α : Type} {cs : List α} (h : cs.length = 10) : ∃ c0 c1 c2 c3 c4 c5 c6 c7 c8 c9, cs = [c0, c1, c2, c3, c4, c5, c6, c7, c8, c9] := by
  match cs, h with
  | [c0, c1, c2, c3, c4, c5, c6, c7, c8, c9], _ => exact ⟨c0, c1, c2, c3, c4, c5, c6, c7, c8, c9, rfl⟩

section
variable {H : Type} {enc : TypeId × Value → H} {w : World} {base : Nat} {held : Bool}
theorem slice_is {t e : TypeId} {fuel : Nat} {v : Value} {y : DataW H × List MemPlace} (ht : Try.prog.underlying t = some (.slice e)) (hf : DataW.trod enc Try.prog w base (fun _ => true) held fuel t [v] = some y) : ∃ A n c, v = .slice A n c := by
  obtain ⟨a, l, c, h⟩ := slice_form ht hf
  simp only [List.cons.injEq, and_true] at h
  exact ⟨a, l, c, h⟩
theorem u64_is {fuel : Nat} {v : Value} {y : DataW H × List MemPlace} (hf : DataW.trod enc Try.prog w base (fun _ => true) held fuel 22 [v] = some y) : ∃ n : Nat, v = .int .u64 n ∧ n < 18446744073709551616 := by
  obtain ⟨z, q, -, hw⟩ := DataW.trod_int Try.underlying22 hf
  simp only [List.cons.injEq, and_true] at q
  have b : 0 ≤ z ∧ z ≤ 18446744073709551615 := by simpa [Lit.wf, IntKind.min, IntKind.max, IntKind.signed, IntKind.bits] using hw
  obtain ⟨n, rfl⟩ := Int.eq_ofNat_of_zero_le b.1
  exact ⟨n, q, by omega⟩
theorem u8_is {fuel : Nat} {v : Value} {y : DataW H × List MemPlace} (hf : DataW.trod enc Try.prog w base (fun _ => true) held fuel 5 [v] = some y) : ∃ n : Nat, v = .int .u8 n ∧ n < 256 := by
  obtain ⟨z, q, -, hw⟩ := DataW.trod_int Try.underlying5 hf
  simp only [List.cons.injEq, and_true] at q
  have b : 0 ≤ z ∧ z ≤ 255 := by simpa [Lit.wf, IntKind.min, IntKind.max, IntKind.signed, IntKind.bits] using hw
  obtain ⟨n, rfl⟩ := Int.eq_ofNat_of_zero_le b.1
  exact ⟨n, q, by omega⟩
theorem call_vals {fuel : Nat} {cs : List Value} {x : DataW H × List MemPlace} (h : DataW.trod enc Try.prog w base (fun _ => true) held fuel 26 cs = some x) :
    ∃ (q : Cl.C) (xs ys zs : Sl), cs = (clCells q xs ys zs).toList ∧ ClFit q ∧ ClOk w w.heap.size q xs ys zs ∧ xs.n ≤ xs.c ∧ ys.n ≤ ys.c ∧ zs.n ≤ zs.c := by
  obtain ⟨fs, ht, hone, hC, h10, hty⟩ := callFields
  obtain ⟨hl, n, hf⟩ := fields_one ht hone hC h
  rw [h10] at hl
  have hfi : ∀ (i : Nat) (t : TypeId), (fs.map (·.type))[i]? = some t → ∃ f : Field, fs[i]? = some f ∧ f.type = t := by
    intro i t hi
    rw [Array.getElem?_map] at hi
    cases hq : fs[i]? with
    | none => rw [hq] at hi; cases hi
    | some f => rw [hq] at hi; exact ⟨f, rfl, by simpa using hi⟩
  have hft : ∀ (i : Nat) (t : TypeId) (v : Value), (fs.map (·.type))[i]? = some t → cs[i]? = some v → ∃ y, DataW.trod enc Try.prog w base (fun _ => true) held n t [v] = some y := by
    intro i t v hi hv
    obtain ⟨f, g, e⟩ := hfi i t hi
    obtain ⟨y, hy⟩ := hf i f v g hv
    rw [e] at hy
    exact ⟨y, hy⟩
  rw [hty] at hft
  obtain ⟨c0, c1, c2, c3, c4, c5, c6, c7, c8, c9, rfl⟩ := list10 hl
  obtain ⟨y0, h0⟩ := hft 0 5 c0 rfl rfl
  obtain ⟨y1, h1⟩ := hft 1 22 c1 rfl rfl
  obtain ⟨y2, h2⟩ := hft 2 22 c2 rfl rfl
  obtain ⟨y3, h3⟩ := hft 3 22 c3 rfl rfl
  obtain ⟨y4, h4⟩ := hft 4 22 c4 rfl rfl
  obtain ⟨y5, h5⟩ := hft 5 22 c5 rfl rfl
  obtain ⟨y6, h6⟩ := hft 6 9 c6 rfl rfl
  obtain ⟨y7, h7⟩ := hft 7 23 c7 rfl rfl
  obtain ⟨y8, h8⟩ := hft 8 23 c8 rfl rfl
  obtain ⟨y9, h9⟩ := hft 9 24 c9 rfl rfl
  obtain ⟨kd, rfl, bk⟩ := u8_is h0
  obtain ⟨a, rfl, ba⟩ := u64_is h1
  obtain ⟨b, rfl, bb⟩ := u64_is h2
  obtain ⟨c, rfl, bc⟩ := u64_is h3
  obtain ⟨d, rfl, bd⟩ := u64_is h4
  obtain ⟨e, rfl, be⟩ := u64_is h5
  obtain ⟨s, q6, -, bs⟩ := DataW.trod_string Try.underlying9 h6
  simp only [List.cons.injEq, and_true] at q6
  subst q6
  obtain ⟨A7, n7, k7, rfl⟩ := slice_is Try.underlying23 h7
  obtain ⟨A8, n8, k8, rfl⟩ := slice_is Try.underlying23 h8
  obtain ⟨A9, n9, k9, rfl⟩ := slice_is Try.underlying24 h9
  obtain ⟨l7, r7, hc7, hm7, hs7⟩ := open_strs_rd (d := y7.1) (p := y7.2) Try.underlying23 Try.underlying9 (by kernel_rfl) ⟨n, h7⟩
  obtain ⟨l8, r8, hc8, hm8, hs8⟩ := open_strs_rd (d := y8.1) (p := y8.2) Try.underlying23 Try.underlying9 (by kernel_rfl) ⟨n, h8⟩
  obtain ⟨l9, r9, hc9, hm9⟩ := open_bytes_rd (d := y9.1) (p := y9.2) Try.underlying24 Try.underlying5 (by kernel_rfl) ⟨n, h9⟩
  have e7 : l7.length = n7 := by simpa using r7.len1
  have e8 : l8.length = n8 := by simpa using r8.len1
  have e9 : l9.length = n9 := by simpa using r9.len1
  exact ⟨⟨kd, a, b, c, d, e, s, l7, l8, l9⟩, ⟨A7, n7, k7⟩, ⟨A8, n8, k8⟩, ⟨A9, n9, k9⟩, rfl, ⟨bk, ba, bb, bc, bd, be, bs, by show l7.length ≤ _; omega, by show l8.length ≤ _; omega, by show l9.length ≤ _; omega, hs7, hs8⟩, ⟨r7, r8, r9⟩, hc7, hc8, hc9⟩
set_option maxRecDepth 100000 in
/-- A call as an argument. -/
theorem open_call_rd {r : Reach} {b0 : Nat} {v : Value} {d : DataW H} {p : List MemPlace} (hv : Value.okWide Try.prog w r b0 26 v) (h : DataW.Trod enc Try.prog w base (fun _ => true) held 26 v d p) :
    ∃ (q : Cl.C) (xs ys zs : Sl), v = .agg (clCells q xs ys zs) ∧ ClFit q ∧ ClOk w w.heap.size q xs ys zs ∧ xs.n ≤ xs.c ∧ ys.n ≤ ys.c ∧ zs.n ≤ zs.c := by
  obtain ⟨cs, rfl, hsz⟩ := okWide_struct Try.underlying26 hv
  obtain ⟨fuel, hf⟩ := h
  obtain ⟨q, xs, ys, zs, e, h1, h2, h3⟩ := call_vals hf
  refine ⟨q, xs, ys, zs, ?_, h1, h2, h3⟩
  have e2 : cs.toList = (clCells q xs ys zs).toList := e
  rw [← Array.toArray_toList (xs := cs), e2]
end
end Go.Proofs.Ytphbkjdheopmhaa
namespace Go.Proofs.Ytphbkjdheopmhaa
set_option linter.unusedVariables false
set_option linter.unusedSimpArgs false
open Go.RowKit

set_option maxRecDepth 100000 in
set_option maxHeartbeats 4000000 in
theorem callsChecks_walk (q : Cl.C) (x y z : Sl) (w : World) (hq : ClOk w w.heap.size q x y z) (hf : ClFit q) :
    Calls Try.prog 3 #[.agg (clCells q x y z)] w fun e w' => e = .returned (.bool true) ∧ Below w.heap.size w w' := by
  have hbox : (w.alloc (.cells (clCells q x y z) 26)).heap[w.heap.size]? = some (.cells (clCells q x y z) 26 (0, 0)) := heap_alloc_new _ _
  have hb0 : Below w.heap.size w (w.alloc (.cells (clCells q x y z) 26)) := (Below.refl _ _).alloc (Nat.le_refl _) _
  obtain ⟨v0, v1, v2, v3, v4, v5, v6, v7, v8, v9⟩ := box10 hbox
  have hqW := hq.alloc (Nat.le_refl _) (.cells (clCells q x y z) 26)
  have KW := hide works_any
  have KL := hide (Large_any q x y z w.heap.size _ hqW (by simp) hf)
  have HqW := hide hqW
  have Hbox := hide hbox
  have Hb0 := hide hb0
  have Hf := hide hf
  have Hn := hide (And.intro hq.n1 (And.intro hq.n2 hq.n3))
  clear hqW hbox hb0 hf hq
  go_enter Try.func3, Try.ntmps3
  go_wp2_with fail
  refine (unhide KL).mono ?_
  rintro e w1 ⟨r, rfl, hb1, hr⟩
  have hlt0 := lt_of_block (unhide Hbox)
  have hbx1 := (hb1.block _ hlt0).trans (unhide Hbox)
  have hb1' := (unhide Hb0).trans (hb1.mono (by omega))
  have Hq1 := hide ((unhide HqW).below (hb1.mono (by omega)))
  have Hbx1 := hide hbx1
  have Hb1 := hide hb1'
  have Hr := hide hr
  clear v0 v1 v2 v3 v4 v5 v6 v7 v8 v9 hb1 hb1' hr KL Hb0 HqW Hbox
  obtain ⟨v0, v1, v2, v3, v4, v5, v6, v7, v8, v9⟩ := box10 hbx1
  clear hbx1
  cases r
  case true =>
    go_wp2_with (go_at_call 11; refine ((unhide KW) _).mono ?_; rintro e w6 ⟨rfl, hb6⟩)
    go_ret
    exact ⟨rfl, (unhide Hb1).trans (hb6.mono (unhide Hb1).size)⟩
  have hnl := (unhide Hr) rfl
  have hpath : q.path.size ≤ 4294967296 := by have := hnl.p; omega
  have hsz1 := (unhide Hb1).size
  have hlt1 := lt_of_block (unhide Hbx1)
  obtain ⟨n1, n2, n3⟩ := unhide Hn
  have KC := hide (copy_any q x y z w.heap.size w1 (unhide Hq1) hsz1 (by have := hnl.a1; omega) (by have := hnl.e1; omega) (by have := hnl.b; omega))
  clear n1 n2 n3 hnl Hr
  go_wp2_with fail
  refine (unhide KC).mono ?_
  rintro e w2 ⟨x', y', z', rfl, hq2, hb2⟩
  have hbw : Below w2.heap.size w2 (w2.alloc (.cells (clCells q x' y' z') 26)) := (Below.refl _ _).alloc (Nat.le_refl _) _
  have hg3 : (w2.alloc (.cells (clCells q x' y' z') 26)).heap[w2.heap.size]? = some (.cells (clCells q x' y' z') 26 (0, 0)) := heap_alloc_new _ _
  have hs2 := hb2.size
  have hg1 := (hbw.block _ (by omega)).trans ((hb2.block _ hlt1).trans (unhide Hbx1))
  have Hq3 := hide (((unhide Hq1).below (hb2.mono hsz1)).below (hbw.mono (by omega)))
  have Hq4 := hide ((hq2.below hbw).more hbw.size)
  have Hb3 := hide (((unhide Hb1).trans (hb2.mono hsz1)).trans (hbw.mono (by omega)))
  have Hg1 := hide hg1
  have Hg3 := hide hg3
  clear v0 v1 v2 v3 v4 v5 v6 v7 v8 v9 hbw hg3 hg1 hq2 hb2 KC Hq1 Hbx1 Hb1
  go_wp2_with fail
  generalize hW : w2.alloc (.cells (clCells q x' y' z') 26) = W at *
  have hszW : w.heap.size ≤ W.heap.size := (unhide Hb3).size
  have hlg1 := lt_of_block (unhide Hg1)
  have hlg3 := lt_of_block (unhide Hg3)
  clear hW
  generalize w2.heap.size = g3 at *
  obtain ⟨ev, hev⟩ : ∃ ev, Cl.check q = ev := ⟨_, rfl⟩
  have K1 : ∀ w', Below W.heap.size W w' → Calls Try.prog 13 #[.agg (clCells q x' y' z')] w' fun e w'' => e = .returned (.int .i64 ev) ∧ Below w'.heap.size w' w'' := by
    intro w' hb
    rw [← hev]
    exact callCheck_any q x' y' z' W.heap.size w' ((unhide Hq4).below hb) hb.size (unhide Hf)
  have K2 : ∀ w', Below W.heap.size W w' → Calls Try.prog 14 #[.agg (clCells q x y z)] w' fun e w'' => e = .returned (.int .i64 ev) ∧ Below w'.heap.size w' w'' := by
    intro w' hb
    rw [← hev]
    exact rcallCheck_any q x y z w.heap.size w' ((unhide Hq3).below (hb.mono hszW)) (Nat.le_trans hszW hb.size) (unhide Hf) hpath
  have K3 : ∀ w', Below W.heap.size W w' → Calls Try.prog 15 #[.agg (clCells q x' y' z'), .agg (clCells q x y z)] w' fun e w'' => e = .returned (.bool true) ∧ Below w'.heap.size w' w'' := by
    intro w' hb
    have h := same_any q q x' y' z' x y z W.heap.size w' ((unhide Hq4).below hb) (((unhide Hq3).below (hb.mono hszW)).more hszW) hb.size (unhide Hf) (unhide Hf)
    have hs : sameB q q = true := by simp [sameB]
    rwa [hs] at h
  have HS : ∀ w', Below W.heap.size W w' → (Below W.heap.size W w' ∧ w'.cell? ⟨w.heap.size, 0, none⟩ = some (.int .u8 q.kind) ∧ w'.cell? ⟨w.heap.size, 1, none⟩ = some (.int .u64 q.a) ∧ w'.cell? ⟨w.heap.size, 2, none⟩ = some (.int .u64 q.b) ∧ w'.cell? ⟨w.heap.size, 3, none⟩ = some (.int .u64 q.c) ∧ w'.cell? ⟨w.heap.size, 4, none⟩ = some (.int .u64 q.d) ∧ w'.cell? ⟨w.heap.size, 5, none⟩ = some (.int .u64 q.e) ∧ w'.cell? ⟨w.heap.size, 6, none⟩ = some (.string q.path) ∧ w'.cell? ⟨w.heap.size, 7, none⟩ = some (.slice x.A x.n x.c) ∧ w'.cell? ⟨w.heap.size, 8, none⟩ = some (.slice y.A y.n y.c) ∧ w'.cell? ⟨w.heap.size, 9, none⟩ = some (.slice z.A z.n z.c) ∧ w'.cell? ⟨g3, 0, none⟩ = some (.int .u8 q.kind) ∧ w'.cell? ⟨g3, 1, none⟩ = some (.int .u64 q.a) ∧ w'.cell? ⟨g3, 2, none⟩ = some (.int .u64 q.b) ∧ w'.cell? ⟨g3, 3, none⟩ = some (.int .u64 q.c) ∧ w'.cell? ⟨g3, 4, none⟩ = some (.int .u64 q.d) ∧ w'.cell? ⟨g3, 5, none⟩ = some (.int .u64 q.e) ∧ w'.cell? ⟨g3, 6, none⟩ = some (.string q.path) ∧ w'.cell? ⟨g3, 7, none⟩ = some (.slice x'.A x'.n x'.c) ∧ w'.cell? ⟨g3, 8, none⟩ = some (.slice y'.A y'.n y'.c) ∧ w'.cell? ⟨g3, 9, none⟩ = some (.slice z'.A z'.n z'.c)) := by
    intro w' hb
    obtain ⟨a0, a1, a2, a3, a4, a5, a6, a7, a8, a9⟩ := box10 ((hb.block _ hlg1).trans (unhide Hg1))
    obtain ⟨b0, b1, b2, b3, b4, b5, b6, b7, b8, b9⟩ := box10 ((hb.block _ hlg3).trans (unhide Hg3))
    exact ⟨hb, a0, a1, a2, a3, a4, a5, a6, a7, a8, a9, b0, b1, b2, b3, b4, b5, b6, b7, b8, b9⟩
  replace K1 := hide K1
  replace K2 := hide K2
  replace K3 := hide K3
  replace HS := hide HS
  clear hev hpath Hf Hn Hq3 Hq4 hsz1
  go_region_held3 (fun w' => Below W.heap.size W w' ∧ w'.cell? ⟨w.heap.size, 0, none⟩ = some (.int .u8 q.kind) ∧ w'.cell? ⟨w.heap.size, 1, none⟩ = some (.int .u64 q.a) ∧ w'.cell? ⟨w.heap.size, 2, none⟩ = some (.int .u64 q.b) ∧ w'.cell? ⟨w.heap.size, 3, none⟩ = some (.int .u64 q.c) ∧ w'.cell? ⟨w.heap.size, 4, none⟩ = some (.int .u64 q.d) ∧ w'.cell? ⟨w.heap.size, 5, none⟩ = some (.int .u64 q.e) ∧ w'.cell? ⟨w.heap.size, 6, none⟩ = some (.string q.path) ∧ w'.cell? ⟨w.heap.size, 7, none⟩ = some (.slice x.A x.n x.c) ∧ w'.cell? ⟨w.heap.size, 8, none⟩ = some (.slice y.A y.n y.c) ∧ w'.cell? ⟨w.heap.size, 9, none⟩ = some (.slice z.A z.n z.c) ∧ w'.cell? ⟨g3, 0, none⟩ = some (.int .u8 q.kind) ∧ w'.cell? ⟨g3, 1, none⟩ = some (.int .u64 q.a) ∧ w'.cell? ⟨g3, 2, none⟩ = some (.int .u64 q.b) ∧ w'.cell? ⟨g3, 3, none⟩ = some (.int .u64 q.c) ∧ w'.cell? ⟨g3, 4, none⟩ = some (.int .u64 q.d) ∧ w'.cell? ⟨g3, 5, none⟩ = some (.int .u64 q.e) ∧ w'.cell? ⟨g3, 6, none⟩ = some (.string q.path) ∧ w'.cell? ⟨g3, 7, none⟩ = some (.slice x'.A x'.n x'.c) ∧ w'.cell? ⟨g3, 8, none⟩ = some (.slice y'.A y'.n y'.c) ∧ w'.cell? ⟨g3, 9, none⟩ = some (.slice z'.A z'.n z'.c)) (first | exact (unhide HS) _ (below_drew' (Below.refl _ _)) | exact (unhide HS) _ (unhide hbn)) (first
    | (go_at_call 13; rename Below _ _ _ ∧ _ => hH; refine ((unhide K1) _ hH.1).mono ?_; rintro e w4 ⟨rfl, hb4⟩; have hbn := hide (hH.1.trans (hb4.mono hH.1.size)))
    | (go_at_call 14; rename Below _ _ _ ∧ _ => hH; refine ((unhide K2) _ hH.1).mono ?_; rintro e w4 ⟨rfl, hb4⟩; have hbn := hide (hH.1.trans (hb4.mono hH.1.size)))
    | (go_at_call 15; rename Below _ _ _ ∧ _ => hH; refine ((unhide K3) _ hH.1).mono ?_; rintro e w4 ⟨rfl, hb4⟩; have hbn := hide (hH.1.trans (hb4.mono hH.1.size)))
    | (go_at_call 11; rename Below _ _ _ ∧ _ => hH; refine ((unhide KW) _).mono ?_; rintro e w4 ⟨rfl, hb4⟩; have hbn := hide (hH.1.trans (hb4.mono hH.1.size))))
  all_goals
    have Hbe := hide ((unhide Hb3).trans ((unhide hbn).mono hszW))
    go_wp2_with fail
    go_ret
    exact ⟨rfl, unhide Hbe⟩
end Go.Proofs.Ytphbkjdheopmhaa
namespace Go.Proofs.Ytphbkjdheopmhaa
set_option linter.unusedVariables false
set_option linter.unusedSimpArgs false
open Go.RowKit

theorem nums_of {q : Cl.C} (h : ClFit q) : Cl.Nums q := ⟨h.a, h.b, h.c, h.d, h.e⟩

set_option maxRecDepth 100000 in
set_option maxHeartbeats 8000000 in
theorem callsBack_walk (q : Cl.C) (x y z : Sl) (A2 : Option Addr) (m2 c2 : Nat) (b2 : List UInt8) (cut : Int) (w : World) (hq : ClOk w w.heap.size q x y z) (hf : ClFit q) (hb2 : Rd w w.heap.size 1 A2 m2 (bys b2)) (hmc2 : m2 ≤ c2) (hm2 : m2 ≤ maxLen) (hcut : -9223372036854775808 ≤ cut ∧ cut ≤ 9223372036854775807) :
    Calls Try.prog 7 #[.agg (clCells q x y z), .slice A2 m2 c2, .int .i64 cut] w fun e w' => e = .returned (.bool true) ∧ Below w.heap.size w w' := by
  have hbox : (w.alloc (.cells (clCells q x y z) 26)).heap[w.heap.size]? = some (.cells (clCells q x y z) 26 (0, 0)) := heap_alloc_new _ _
  have hb0 : Below w.heap.size w (w.alloc (.cells (clCells q x y z) 26)) := (Below.refl _ _).alloc (Nat.le_refl _) _
  obtain ⟨v0, v1, v2, v3, v4, v5, v6, v7, v8, v9⟩ := box10 hbox
  have hqW := hq.alloc (Nat.le_refl _) (.cells (clCells q x y z) 26)
  have KW := hide works_any
  have KL := hide (Large_any q x y z w.heap.size _ hqW (by simp) hf)
  have HqW := hide hqW
  have Hbox := hide hbox
  have Hb0 := hide hb0
  have Hf := hide hf
  have Hrd := hide hb2
  have hbl2 : b2.length = m2 := by simpa [bys] using hb2.len1
  have Hbl2 := hide hbl2
  unfold maxLen at hm2
  clear hqW hbox hb0 hf hq hb2 hbl2
  go_enter Try.func7, Try.ntmps7
  go_wp2_with fail
  refine (unhide KL).mono ?_
  rintro e w1 ⟨r, rfl, hb1, hr⟩
  have hlt0 := lt_of_block (unhide Hbox)
  have hbx1 := (hb1.block _ hlt0).trans (unhide Hbox)
  have hb1' := (unhide Hb0).trans (hb1.mono (by omega))
  have Hq1 := hide ((unhide HqW).below (hb1.mono (by omega)))
  have Hbx1 := hide hbx1
  have Hb1 := hide hb1'
  clear v0 v1 v2 v3 v4 v5 v6 v7 v8 v9 hb1 hb1' hr KL Hb0 HqW Hbox
  obtain ⟨v0, v1, v2, v3, v4, v5, v6, v7, v8, v9⟩ := box10 hbx1
  clear hbx1
  cases r
  case true =>
    go_wp2_with (go_at_call 11; refine ((unhide KW) _).mono ?_; rintro e w6 ⟨rfl, hb6⟩)
    go_ret
    exact ⟨rfl, (unhide Hb1).trans (hb6.mono (unhide Hb1).size)⟩
  by_cases hbig : 4096 < m2
  · have hbig' : (4096 : Int) < (m2 : Int) := by omega
    go_wp2_with (go_at_call 11; refine ((unhide KW) _).mono ?_; rintro e w6 ⟨rfl, hb6⟩)
    go_ret
    exact ⟨rfl, (unhide Hb1).trans (hb6.mono (unhide Hb1).size)⟩
  have hbig' : ¬ (4096 : Int) < (m2 : Int) := by omega
  have hsz1 := (unhide Hb1).size
  have hlt1 := lt_of_block (unhide Hbx1)
  by_cases hc : Cl.check q = 0
  case neg =>
    have KF := callForm_bad q x y z w.heap.size w1 (unhide Hq1) hsz1 (unhide Hf) hc
    have he1 : (Cl.check q != 0) = true := by simpa using hc
    have KC := fun w' (hb : Below w1.heap.size w1 w') => callCheck_any q x y z w.heap.size w' ((unhide Hq1).below (hb.mono hsz1)) (Nat.le_trans hsz1 hb.size) (unhide Hf)
    generalize Cl.check q = ev at *
    have he2 : (ev == ev) = true := beq_self_eq_true _
    replace KF := hide KF
    replace KC := hide KC
    clear hc
    go_wp2_with fail
    refine (unhide KF).mono ?_
    rintro e w2 ⟨rfl, hb2⟩
    have hbx2 := (hb2.block _ hlt1).trans (unhide Hbx1)
    have K2 := hide ((unhide KC) _ hb2)
    have Hb2 := hide ((unhide Hb1).trans (hb2.mono hsz1))
    clear v0 v1 v2 v3 v4 v5 v6 v7 v8 v9 hb2 KF KC
    obtain ⟨v0, v1, v2, v3, v4, v5, v6, v7, v8, v9⟩ := box10 hbx2
    clear hbx2
    go_wp2_with fail
    refine (unhide K2).mono ?_
    rintro e w3 ⟨rfl, hb3⟩
    have Hb3 := hide ((unhide Hb2).trans (hb3.mono (unhide Hb2).size))
    clear v0 v1 v2 v3 v4 v5 v6 v7 v8 v9 hb3 K2
    go_wp2_with fail
    refine ((unhide KW) _).mono ?_
    rintro e w4 ⟨rfl, hb4⟩
    have Hb4 := hide ((unhide Hb3).trans (hb4.mono (unhide Hb3).size))
    clear hb4
    go_wp2_with fail
    go_ret
    exact ⟨rfl, unhide Hb4⟩
  have KF := hide (callForm_good q x y z w.heap.size w1 (unhide Hq1) hsz1 (unhide Hf) hc)
  have hrf := Cl.read_form hc (nums_of (unhide Hf)) b2
  have hrc := fun n (hn : n < (Cl.form q).length) => Cl.read_cut hc (nums_of (unhide Hf)) hn
  have hfl : (Cl.form q).length ≤ 100000 := by
    have h1 := flds_len (Cl.check_small hc) (Cl.fsN q.kind)
    have h2 := fsN_len q.kind
    have h3 : (Cl.form q).length = (Cl.flds q (Cl.fsN q.kind)).length + 1 := by simp [Cl.form]
    omega
  generalize Cl.form q = fq at *
  obtain ⟨nf, hnf⟩ : ∃ nf, fq.length = nf := ⟨_, rfl⟩
  rw [hnf] at hrf hrc hfl KF
  have Hrf := hide hrf
  have Hrc := hide hrc
  have Hnf := hide hnf
  clear hrf hrc hc hnf
  go_wp2_with fail
  refine (unhide KF).mono ?_
  rintro e w2 ⟨A3, c3, rfl, ho3, hb3⟩
  have hbx2 := (hb3.block _ hlt1).trans (unhide Hbx1)
  have Hbx2 := hide hbx2
  have Hq2 := hide ((unhide Hq1).below (hb3.mono hsz1))
  have hb3' := (unhide Hb1).trans (hb3.mono hsz1)
  have Hb3 := hide hb3'
  have Hr3 := hide (Rd.of_own ho3)
  have Hrd3 := hide ((unhide Hrd).below hb3')
  have hsz3 := hb3'.size
  have hnc3 := own_cap ho3
  have hlt2 := lt_of_block hbx2
  clear v0 v1 v2 v3 v4 v5 v6 v7 v8 v9 hb3 hb3' ho3 KF hbx2 Hq1 Hbx1 Hb1
  go_wp2_with (first
    | (at_builtin; refine wpList_app byteTy rfl _ _ rfl w2.heap.size (.slice none 0 0) 0 [] rfl (World.ownsRow_nil _ _ _ _) w2.heap.size A3 nf c3 (bys fq) rfl (unhide Hr3) (bys_one _) (by omega) (Nat.le_refl _) ?_; intro A4 c4 w4 ho4 hg4 hat4; rw [Nat.zero_add, List.nil_append] at ho4; have Ho4 := hide ho4; have hb4 := (Below.refl w2.heap.size w2).grown hg4 (Nat.le_refl _) (fun k hk => by cases hk); have Hb4 := hide hb4; clear ho4 hg4 hat4 hb4)
    | (at_builtin; refine wpList_app byteTy rfl _ _ rfl w2.heap.size (.slice A4 nf c4) nf (bys fq) rfl (unhide Ho4) w.heap.size A2 m2 c2 (bys b2) rfl ((unhide Hrd3).below ((unhide Hb4).mono hsz3)) (bys_one _) (by omega) (unhide Hb4).size ?_; intro A5 c5 w5 ho5 hg5 hat5; rw [← bys_app] at ho5; have Ho5 := hide ho5; have hb5 := (unhide Hb4).grown hg5 (unhide Hb4).size (fun k hk => ((unhide Ho4).lt k hk).1); have Hb5 := hide hb5; clear ho5 hg5 hat5 hb5))
  have K5 := callRead_any A5 (nf + m2) c5 w5.heap.size (fq ++ b2) w5 (Rd.of_own (unhide Ho5)) (Nat.le_refl _) (by omega) (own_cap (unhide Ho5))
  rw [unhide Hrf] at K5
  refine K5.mono ?_
  rintro e w6 ⟨x', y', z', rfl, ho6, hb6⟩
  simp only at ho6 ⊢
  have hb56 := (unhide Hb5).trans (hb6.mono (unhide Hb5).size)
  have hbw : Below w6.heap.size w6 (w6.alloc (.cells (clCells q x' y' z') 26)) := (Below.refl _ _).alloc (Nat.le_refl _) _
  have hb57 := hb56.trans (hbw.mono hb56.size)
  have hg3 : (w6.alloc (.cells (clCells q x' y' z') 26)).heap[w6.heap.size]? = some (.cells (clCells q x' y' z') 26 (0, 0)) := heap_alloc_new _ _
  have hg1 := (hb57.block _ hlt2).trans (unhide Hbx2)
  have K6 := same_any q q x y z x' y' z' _ _ ((((unhide Hq2).below (hb57.mono hsz3)).more (Nat.le_trans hsz3 hb57.size))) (ho6.below hbw).ok (Nat.le_refl _) (unhide Hf) (unhide Hf)
  have hs : sameB q q = true := by simp [sameB]
  rw [hs] at K6
  replace K6 := hide K6
  have Hb7 := hide ((unhide Hb3).trans (hb57.mono hsz3))
  have Hr7 := hide ((unhide Hr3).below hb57)
  have hnn : (((nf : Nat) : Int) != ((nf : Nat) : Int)) = false := by simp
  obtain ⟨v0, v1, v2, v3, v4, v5, v6, v7, v8, v9⟩ := box10 hg1
  obtain ⟨u0, u1, u2, u3, u4, u5, u6, u7, u8, u9⟩ := box10 hg3
  have hsz7 := hb57.size
  clear hb6 hb56 hbw hb57 hg3 hg1 ho6 hs K5 Ho5 Hb5 Hb4 Ho4 Hr3 Hrd3 Hb3 Hq2 Hbx2
  go_wp2_with fail
  refine (unhide K6).mono ?_
  rintro e w8 ⟨rfl, hb8⟩
  have hb8' := (unhide Hb7).trans (hb8.mono (unhide Hb7).size)
  have Hb8 := hide hb8'
  have Hr8 := hide (((unhide Hr7).more hsz7).below hb8)
  have hsz8 := hb8.size
  clear v0 v1 v2 v3 v4 v5 v6 v7 v8 v9 u0 u1 u2 u3 u4 u5 u6 u7 u8 u9 hb8 hb8' K6 Hr7 Hb7 hnn
  by_cases hcr : 0 ≤ cut ∧ cut < (nf : Int)
  case neg =>
    by_cases hc0 : 0 ≤ cut
    · have hc1 : ¬ cut < (nf : Int) := fun h => hcr ⟨hc0, h⟩
      clear hcr
      go_wp2_with (go_at_call 11; refine ((unhide KW) _).mono ?_; rintro e w9 ⟨rfl, hb9⟩)
      go_ret
      exact ⟨rfl, (unhide Hb8).trans (hb9.mono (unhide Hb8).size)⟩
    · clear hcr
      go_wp2_with (go_at_call 11; refine ((unhide KW) _).mono ?_; rintro e w9 ⟨rfl, hb9⟩)
      go_ret
      exact ⟨rfl, (unhide Hb8).trans (hb9.mono (unhide Hb8).size)⟩
  obtain ⟨hc0, hc1⟩ := hcr
  obtain ⟨cn, rfl⟩ := Int.eq_ofNat_of_zero_le hc0
  have hcn : cn < nf := by omega
  have hcutr := (unhide Hr8).cutN (k := cn) (by omega)
  rw [bys_take] at hcutr
  have K9 := callRead_any A3 cn c3 _ (fq.take cn) w8 hcutr hsz8 (by omega) (by omega)
  rw [(unhide Hrc) cn hcn] at K9
  replace K9 := hide K9
  have hcc : cn ≤ c3 := by omega
  clear hcutr
  go_wp2_with fail
  refine (unhide K9).mono ?_
  rintro e w9 ⟨x9, y9, z9, rfl, ho9, hb9⟩
  simp only
  have Hb9 := hide ((unhide Hb8).trans (hb9.mono (unhide Hb8).size))
  clear ho9 hb9 K9
  go_wp2_with (go_at_call 11; refine ((unhide KW) _).mono ?_; rintro e w10 ⟨rfl, hb10⟩)
  go_ret
  exact ⟨rfl, ((unhide Hb9).alloc (unhide Hb9).size _).trans (hb10.mono (by have := (unhide Hb9).size; simp; omega))⟩
end Go.Proofs.Ytphbkjdheopmhaa
