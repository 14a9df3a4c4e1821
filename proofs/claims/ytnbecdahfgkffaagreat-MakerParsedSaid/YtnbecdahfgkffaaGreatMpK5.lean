/- Texts of the claim LawMakerParsed (MkL2, MkL3, MkP10, MkP12, MkP13, MkP14, MkP15): what the functions that the statement reaches compute, and plain laws of it. Conditions: those that each theorem states. -/
import Derived.Test.YtnbecdahfgkffaaGreatMpK3
import Derived.Test.YtnbecdahfgkffaaGreatMpK4
import Derived.Test.YtnbecdahfgkffaaGreatMpK1
import Derived.Deep.MidRow
import Derived.Laws.EntriesVeiled
import Derived.Deep.DeepCutAuto
import Derived.Deep.CutBlock
set_option linter.unusedVariables false
set_option linter.unusedSimpArgs false
namespace Go.Proofs.YtnbecdahfgkffaaGreat
open Go.RowKit
theorem symC_one (l : List Dy.Sym) : ∀ u ∈ symC l, u.oneCell' = true := by
 intro u hu
 obtain ⟨r, -, hr⟩ := List.mem_flatMap.1 hu
 simp only [symV, List.mem_cons, List.not_mem_nil, or_false] at hr
 rcases hr with rfl | rfl | rfl | rfl | rfl <;> rfl
theorem mrC_one (l : List Mk.Rel) : ∀ u ∈ mrC l, u.oneCell' = true := by
 intro u hu
 obtain ⟨r, -, hr⟩ := List.mem_flatMap.1 hu
 simp only [mrV, List.mem_cons, List.not_mem_nil, or_false] at hr
 rcases hr with rfl | rfl | rfl | rfl <;> rfl
theorem dynInfo : (Tryz.prog.info? 29).map (·.size) = some 5 := by kernel_rfl
theorem apiInfo : (Tryz.prog.info? 31).map (·.size) = some 13 := by kernel_rfl
theorem dq_one (q : Dq) : q.l.toArray.all (·.oneCell') = true := by simp [Dq.l, Value.oneCell']
theorem xq_one (s : Xq) : s.l.toArray.all (·.oneCell') = true := by simp [Xq.l, Value.oneCell']
theorem xJ5 {B : Nat} {a w : World} (h : Below B a w) {p : Addr} (hp : B <= p.block) (u : Value) : Below B a (w.setCell p u) :=
 ⟨h.os, h.tape, h.output, by simpa using h.size, fun k hk => (heap_setCell_other _ _ _ _ (by omega)).trans (h.block k hk)⟩
theorem Rd.setC {w : World} {B size n : Nat} {A : Option Addr} {xs : List Value} (h : Rd w B size A n xs) {p : Addr} (hp : bk A ≠ some p.block) (u : Value) : Rd (w.setCell p u) B size A n xs := by
 refine ⟨h.1, h.2.imp id ?_⟩
 rintro ⟨b, off, e, hb, hc⟩
 refine ⟨b, off, e, hb, fun j v hv => ?_⟩
 rw [zJ4 (heap_setCell_other w p b u (fun e2 => hp (by rw [e, <- e2]; rfl)))]
 exact hc j v hv
theorem xJk {base n c z b : Nat} {A : Option Addr} {e : TypeId} {xs : List Value} (hp : bk A ≠ some b) : ∀ (vs : List Value) (o : Nat) (w : World), w.ownsRow base e z (.slice A n c) n xs -> (w.setCells b o vs).ownsRow base e z (.slice A n c) n xs
 | [], _, _, h => h
 | v :: r, o, w, h => xJk hp r (o + 1) _ (zJm h (p := ⟨b, o, none⟩) hp v)
theorem below_setCells {B b : Nat} {a : World} (hp : B <= b) : ∀ (vs : List Value) (o : Nat) (w : World), Below B a w -> Below B a (w.setCells b o vs)
 | [], _, _, h => h
 | v :: r, o, w, h => below_setCells hp r (o + 1) _ (xJ5 h (p := ⟨b, o, none⟩) hp v)
theorem Rd.setCells {B n z b : Nat} {A : Option Addr} {xs : List Value} (hp : bk A ≠ some b) : ∀ (vs : List Value) (o : Nat) (w : World), Rd w B z A n xs -> Rd (w.setCells b o vs) B z A n xs
 | [], _, _, h => h
 | v :: r, o, w, h => Rd.setCells hp r (o + 1) _ (Rd.setC h (p := ⟨b, o, none⟩) hp v)
theorem size_setCells {b : Nat} : ∀ (vs : List Value) (o : Nat) (w : World), (w.setCells b o vs).heap.size = w.heap.size
 | [], _, _ => rfl
 | v :: r, o, w => by rw [World.setCells, size_setCells r (o + 1)]; simp
theorem Rd.setRowN {w : World} {B size n k : Nat} {A : Option Addr} {xs : List Value} (h : Rd w B size A n xs) (hp : bk A ≠ some k) (cs : Array Value) : Rd (w.setRow k cs) B size A n xs := by
 refine ⟨h.1, h.2.imp id ?_⟩
 rintro ⟨b, off, e, hb, hc⟩
 refine ⟨b, off, e, hb, fun j v hv => ?_⟩
 rw [zJ4 (setRow_other w k b cs (fun e2 => hp (by rw [e, <- e2]; rfl)))]
 exact hc j v hv
theorem vJt {w : World} {base n c z k : Nat} {A : Option Addr} {e : TypeId} {xs : List Value} (h : w.ownsRow base e z (.slice A n c) n xs) (hp : bk A ≠ some k) (cs : Array Value) : (w.setRow k cs).ownsRow base e z (.slice A n c) n xs :=
 vJ8 h fun j hj => setRow_other w k j cs (fun e => hp (by rw [<- e]; exact hj))
theorem xJa {w : World} {base n c size : Nat} {e : TypeId} {A : Option Addr} {xs : List Value} (h : w.ownsRow base e size (.slice A n c) n xs) : n <= c := by
 rcases h.2 with ⟨e1, h0⟩ | ⟨g, cap, cur, e1, e2, e3, h4, -⟩
 ·injection e1 with _ _ e3; omega
 ·injection e1 with _ _ e3; omega
def Copy13E (q : Dq) (w : World) (e : Ending) (w' : World) : Prop := ∃ q' : Dq, q'.d = q.d /\ e = .returned (.agg q'.l.toArray) /\ DqM w' w'.heap.size q' /\ (q.d.needed.length <= q'.c1 /\ q.d.syms.length <= q'.c2 /\ q.d.relas.length <= q'.c3) /\ Below w.heap.size w w' /\ (∀ k, bk q'.A1 = some k -> w.heap.size <= k) /\ (∀ k, bk q'.A2 = some k -> w.heap.size <= k) /\ ∀ k, bk q'.A3 = some k -> w.heap.size <= k
set_option maxRecDepth 100000 in
set_option maxHeartbeats 60000000 in
theorem rcopy13_any (q : Dq) (B : Nat) (w : World) (hB : B <= w.heap.size) (h : DqM w B q) (h1 : q.d.needed.length <= 1048576) (h2 : q.d.syms.length <= 1048576) (h3 : q.d.relas.length <= 1048576) :
  Calls Tryz.prog 24 #[.agg q.l.toArray] w (Copy13E q w) := by
 have e1 : (w.alloc (.cells #[.slice q.A1 q.d.needed.length q.c1, .string q.d.soname, .string q.d.run, .slice q.A2 q.d.syms.length q.c2, .slice q.A3 q.d.relas.length q.c3] 29)).heap.size = w.heap.size + 1 := by simp
 have e2 : ((w.alloc (.cells #[.slice q.A1 q.d.needed.length q.c1, .string q.d.soname, .string q.d.run, .slice q.A2 q.d.syms.length q.c2, .slice q.A3 q.d.relas.length q.c3] 29)).alloc (.cells #[.slice none 0 0, .string ⟨#[]⟩, .string ⟨#[]⟩, .slice none 0 0, .slice none 0 0] 29)).heap.size = w.heap.size + 1 + 1 := by simp
 have hb1 : Below w.heap.size w ((w.alloc (.cells #[.slice q.A1 q.d.needed.length q.c1, .string q.d.soname, .string q.d.run, .slice q.A2 q.d.syms.length q.c2, .slice q.A3 q.d.relas.length q.c3] 29)).alloc (.cells #[.slice none 0 0, .string ⟨#[]⟩, .string ⟨#[]⟩, .slice none 0 0, .slice none 0 0] 29)) := ((Below.refl _ _).alloc (Nat.le_refl _) _).alloc (by simp) _
 have hd : Blk ((w.alloc (.cells #[.slice q.A1 q.d.needed.length q.c1, .string q.d.soname, .string q.d.run, .slice q.A2 q.d.syms.length q.c2, .slice q.A3 q.d.relas.length q.c3] 29)).alloc (.cells #[.slice none 0 0, .string ⟨#[]⟩, .string ⟨#[]⟩, .slice none 0 0, .slice none 0 0] 29)) w.heap.size 29 q.l := (Blk.new w 29 q.l).alloc (.cells #[.slice none 0 0, .string ⟨#[]⟩, .string ⟨#[]⟩, .slice none 0 0, .slice none 0 0] 29)
 have hz := Blk.new (w.alloc (.cells #[.slice q.A1 q.d.needed.length q.c1, .string q.d.soname, .string q.d.run, .slice q.A2 q.d.syms.length q.c2, .slice q.A3 q.d.relas.length q.c3] 29)) 29 [.slice none 0 0, .string ⟨#[]⟩, .string ⟨#[]⟩, .slice none 0 0, .slice none 0 0]
 rw [e1] at hz
 have hq := h.below (hb1.mono hB)
 have y3 := hd.cell (i := 3) (u := .slice q.A2 q.d.syms.length q.c2) rfl
 have y4 := hd.cell (i := 4) (u := .slice q.A3 q.d.relas.length q.c3) rfl
 have y0 := hd.cell (i := 0) (u := .slice q.A1 q.d.needed.length q.c1) rfl
 have Hb1 := zJ2 hb1
 have Hd := zJ2 hd
 have Hz := zJ2 hz
 have Hq := zJ2 hq
 have Hn0 := zJ2 (World.ownsRow_nil ((w.alloc (.cells #[.slice q.A1 q.d.needed.length q.c1, .string q.d.soname, .string q.d.run, .slice q.A2 q.d.syms.length q.c2, .slice q.A3 q.d.relas.length q.c3] 29)).alloc (.cells #[.slice none 0 0, .string ⟨#[]⟩, .string ⟨#[]⟩, .slice none 0 0, .slice none 0 0] 29)) (w.heap.size + 1 + 1) 48 5)
 have hs2 : w.heap.size + 1 + 1 <= ((w.alloc (.cells #[.slice q.A1 q.d.needed.length q.c1, .string q.d.soname, .string q.d.run, .slice q.A2 q.d.syms.length q.c2, .slice q.A3 q.d.relas.length q.c3] 29)).alloc (.cells #[.slice none 0 0, .string ⟨#[]⟩, .string ⟨#[]⟩, .slice none 0 0, .slice none 0 0] 29)).heap.size := by rw [e2]; exact Nat.le_refl _
 show Calls _ _ #[.agg #[.slice q.A1 q.d.needed.length q.c1, .string q.d.soname, .string q.d.run, .slice q.A2 q.d.syms.length q.c2, .slice q.A3 q.d.relas.length q.c3]] w _
 clear hb1 hd hz hq h e1 e2 y0 y4
 go_enter Tryz.func24, Tryz.ntmps24
 go_upto_region 3 with fail
 generalize ((w.alloc (.cells #[.slice q.A1 q.d.needed.length q.c1, .string q.d.soname, .string q.d.run, .slice q.A2 q.d.syms.length q.c2, .slice q.A3 q.d.relas.length q.c3] 29)).alloc (.cells #[.slice none 0 0, .string ⟨#[]⟩, .string ⟨#[]⟩, .slice none 0 0, .slice none 0 0] 29)) = W at *
 go_cut [3] (fun sv wx => ∃ (A : Option Addr) (c : Nat), sv = .slice A q.d.syms.length c /\ wx.ownsRow (w.heap.size + 1 + 1) 48 5 (.slice A q.d.syms.length c) q.d.syms.length (symC q.d.syms) /\ Below W.heap.size W wx)
 case first =>
  go_wp2_with (at_builtin; refine zJq syTy rfl _ _ rfl (w.heap.size + 1 + 1) (.slice none 0 0) 0 _ rfl (zJ1 Hn0) B q.A2 q.d.syms.length q.c2 (symC q.d.syms) rfl (zJ1 Hq).syms (symC_one _) (by omega) hs2 ?_; intro A5 c5 w5 ho5 hg5 ha5; have HO5 := zJ2 ho5; have HB5 := zJ2 ((Below.refl W.heap.size W).grown hg5 (Nat.le_refl _) (fun k hk => by cases hk)); clear ho5 hg5 ha5)
  go_meet
  case rel =>
   refine ⟨A5, c5, by first | rfl | simp, ?_, zJ1 HB5⟩
   have h9 := zJ1 HO5
   simp only [Nat.zero_add, List.nil_append] at h9
   exact h9
 case rest =>
  obtain ⟨As, cs, rfl, hoS, hbS⟩ := hcut
  have y4 := ((zJ1 Hd).belowSz hbS).cell (i := 4) (u := .slice q.A3 q.d.relas.length q.c3) rfl
  have Hn0' := zJ2 (World.ownsRow_nil wc (w.heap.size + 1 + 1) 141 4)
  have HqS := zJ2 ((zJ1 Hq).below (hbS.mono (by omega)))
  have hs3 : w.heap.size + 1 + 1 <= wc.heap.size := by have := hbS.size; omega
  have HoS := zJ2 hoS
  have HbS := zJ2 hbS
  obtain ⟨w3, hw3⟩ : ∃ w3, w3 = wc := ⟨_, rfl⟩
  rw [<- hw3] at y4 Hn0' HqS hs3 HoS HbS ⊢
  clear hoS hbS y3 hw3
  go_upto_region 4 with fail
  go_cut [4] (fun sv wx => ∃ (A : Option Addr) (c : Nat), sv = .slice A q.d.relas.length c /\ wx.ownsRow (w.heap.size + 1 + 1) 141 4 (.slice A q.d.relas.length c) q.d.relas.length (mrC q.d.relas) /\ Below w3.heap.size w3 wx)
  case first =>
   go_wp2_with (at_builtin; refine zJq reTy rfl _ _ rfl (w.heap.size + 1 + 1) (.slice none 0 0) 0 _ rfl (zJ1 Hn0') B q.A3 q.d.relas.length q.c3 (mrC q.d.relas) rfl (zJ1 HqS).relas (mrC_one _) (by omega) hs3 ?_; intro A5 c5 w5 ho5 hg5 ha5; have HO5 := zJ2 ho5; have HB5 := zJ2 ((Below.refl w3.heap.size w3).grown hg5 (Nat.le_refl _) (fun k hk => by cases hk)); clear ho5 hg5 ha5)
   go_meet
   case rel =>
    refine ⟨A5, c5, by first | rfl | simp, ?_, zJ1 HB5⟩
    have h9 := zJ1 HO5
    simp only [Nat.zero_add, List.nil_append] at h9
    exact h9
  case rest =>
   obtain ⟨Ar, cr, rfl, hoR, hbR⟩ := hcut
   have hb4 := (zJ1 HbS).trans (hbR.mono (zJ1 HbS).size)
   have hd4 := (zJ1 Hd).belowSz hb4
   have hz4 := (zJ1 Hz).belowSz hb4
   have y0 := hd4.cell (i := 0) (u := .slice q.A1 q.d.needed.length q.c1) rfl
   have hs4 : w.heap.size + 1 + 1 <= wc.heap.size := by have := hb4.size; omega
   have KT := zJ2 (tJb q.A1 q.d.needed.length q.c1 B q.d.needed wc (by omega) ((zJ1 Hq).below (hb4.mono (by omega))).needed (by omega))
   have HoS4 := zJ2 (own_below (zJ1 HoS) hbR)
   have HoR := zJ2 hoR
   have Hb4 := zJ2 ((zJ1 Hb1).trans (hb4.mono (by omega)))
   have Hd4 := zJ2 hd4
   have Hz4 := zJ2 hz4
   clear hoR hbR hb4 hd4 hz4 y4 HoS HbS Hn0' Hn0 HqS Hq Hb1 Hd Hz
   go_wp2_with fail
   refine (zJ1 KT).mono ?_
   rintro e w5 ⟨A5, c5, rfl, hoT, hb5⟩
   have hd5 := (zJ1 Hd4).belowSz hb5
   have hz5 := (zJ1 Hz4).belowSz hb5
   have hoS5 := own_below (zJ1 HoS4) hb5
   have hoR5 := own_below (zJ1 HoR) hb5
   have hbT := (zJ1 Hb4).trans (hb5.mono (by omega))
   have hltS := zJ7 hoS5
   have hltR := zJ7 hoR5
   have hltT := zJ7 hoT
   have z0 := hd5.free 0
   have hd6 := hd5.set 0 (.slice A5 q.d.needed.length c5)
   have z3 := hd6.free 3
   have hd7 := hd6.set 3 (.slice As q.d.syms.length cs)
   have z4 := hd7.free 4
   have hd8 := hd7.set 4 (.slice Ar q.d.relas.length cr)
   have x0 := hd5.cell (i := 0) (u := .slice q.A1 q.d.needed.length q.c1) rfl
   have x3 := hd6.cell (i := 3) (u := .slice q.A2 q.d.syms.length q.c2) rfl
   have x4 := hd7.cell (i := 4) (u := .slice q.A3 q.d.relas.length q.c3) rfl
   obtain ⟨q', hq'⟩ : ∃ q' : Dq, q' = ⟨q.d, A5, c5, As, cs, Ar, cr⟩ := ⟨_, rfl⟩
   have hc := And.intro (hd8.cell (i := 0) (u := .slice A5 q.d.needed.length c5) rfl) (And.intro (hd8.cell (i := 1) (u := .string q.d.soname) rfl) (And.intro (hd8.cell (i := 2) (u := .string q.d.run) rfl) (And.intro (hd8.cell (i := 3) (u := .slice As q.d.syms.length cs) rfl) (hd8.cell (i := 4) (u := .slice Ar q.d.relas.length cr) rfl))))
   obtain ⟨c0, c1, c2, c3, c4⟩ := hc
   have hz8 := ((hz5.other (by show w.heap.size ≠ w.heap.size + 1; omega) (.slice A5 q.d.needed.length c5) (p := ⟨w.heap.size, 0, none⟩)).other (by show w.heap.size ≠ w.heap.size + 1; omega) (.slice As q.d.syms.length cs) (p := ⟨w.heap.size, 3, none⟩)).other (by show w.heap.size ≠ w.heap.size + 1; omega) (.slice Ar q.d.relas.length cr) (p := ⟨w.heap.size, 4, none⟩)
   have hn5 : bk A5 ≠ some w.heap.size := fun e => by have := (hltT _ e).1; omega
   have hnS : bk As ≠ some w.heap.size := fun e => by have := (hltS _ e).1; omega
   have hnR : bk Ar ≠ some w.heap.size := fun e => by have := (hltR _ e).1; omega
   have oT := zJm (zJm (zJm hoT (p := ⟨w.heap.size, 0, none⟩) hn5 (.slice A5 q.d.needed.length c5)) (p := ⟨w.heap.size, 3, none⟩) hn5 (.slice As q.d.syms.length cs)) (p := ⟨w.heap.size, 4, none⟩) hn5 (.slice Ar q.d.relas.length cr)
   have oS := zJm (zJm (zJm hoS5 (p := ⟨w.heap.size, 0, none⟩) hnS (.slice A5 q.d.needed.length c5)) (p := ⟨w.heap.size, 3, none⟩) hnS (.slice As q.d.syms.length cs)) (p := ⟨w.heap.size, 4, none⟩) hnS (.slice Ar q.d.relas.length cr)
   have oR := zJm (zJm (zJm hoR5 (p := ⟨w.heap.size, 0, none⟩) hnR (.slice A5 q.d.needed.length c5)) (p := ⟨w.heap.size, 3, none⟩) hnR (.slice As q.d.syms.length cs)) (p := ⟨w.heap.size, 4, none⟩) hnR (.slice Ar q.d.relas.length cr)
   have hbF := xJ5 (xJ5 (xJ5 hbT (p := ⟨w.heap.size, 0, none⟩) (Nat.le_refl _) (.slice A5 q.d.needed.length c5)) (p := ⟨w.heap.size, 3, none⟩) (Nat.le_refl _) (.slice As q.d.syms.length cs)) (p := ⟨w.heap.size, 4, none⟩) (Nat.le_refl _) (.slice Ar q.d.relas.length cr)
   have HoT := zJ2 oT
   have HoSf := zJ2 oS
   have HoRf := zJ2 oR
   have HbF := zJ2 hbF
   have Hz8 := zJ2 hz8
   have Hfr := zJ2 (And.intro (fun k hk => show w.heap.size <= k by have := (hltT k hk).1; omega) (And.intro (fun k hk => show w.heap.size <= k by have := (hltS k hk).1; omega) (fun k hk => show w.heap.size <= k by have := (hltR k hk).1; omega)))
   have Hcaps := zJ2 (And.intro (xJa hoT) (And.intro (xJa hoS5) (xJa hoR5)))
   have hs5 := hb5.size
   clear hd5 hz5 hoS5 hoR5 hbT hltS hltR hltT hd6 hd7 hd8 hz8 oT oS oR hbF hoT hb5 KT Hd4 Hz4 HoS4 HoR Hb4 y0
   go_wp2_with ((with_reducible refine (@id (wpList _ _ _ (Oper.mk none (Op.store 29 (.tmp 2) (.tmp 21)) _ _ _ none :: _) _ _) ?_)); refine wpList_store_row rfl 29 (.tmp 2) (.tmp 21) rfl (w.heap.size + 1) (Dq.l ⟨q.d, A5, c5, As, cs, Ar, cr⟩).toArray rfl rfl 29 _ (zJ1 Hz8) dynInfo rfl (dq_one _) ?_)
   refine bodyPost_ret (results_cell_row (P := Tryz.prog) rfl _ _ (w.heap.size + 1) 29 (Dq.l ⟨q.d, A5, c5, As, cs, Ar, cr⟩).toArray (0, 0) _ rfl (setRow_heap _ _ _ _ _ _ (zJ1 Hz8)) Tryz.underlying29 rfl dynInfo) rfl ?_
   exact ⟨⟨q.d, A5, c5, As, cs, Ar, cr⟩, rfl, rfl, ⟨Rd.of_own (wJ1 (zJ1 HoT) (by omega) _), Rd.of_own (wJ1 (zJ1 HoSf) (by omega) _), Rd.of_own (wJ1 (zJ1 HoRf) (by omega) _)⟩, zJ1 Hcaps, below_setRow (zJ1 HbF) (by omega) _, (zJ1 Hfr).1, (zJ1 Hfr).2.1, (zJ1 Hfr).2.2⟩
def CopiedE (s : Xq) (w : World) (e : Ending) (w' : World) : Prop := ∃ s' : Xq, s'.x = s.x /\ e = .returned (.agg s'.l.toArray) /\ XqM w' w'.heap.size s' /\ (s.x.dyn.needed.length <= s'.c1 /\ s.x.dyn.syms.length <= s'.c2 /\ s.x.dyn.relas.length <= s'.c3) /\ Below w.heap.size w w' /\ ∃ b2, w.heap.size <= b2 /\ b2 <= w'.heap.size /\ w'.ownsRow w.heap.size 5 1 (.slice s'.At s.x.text.length s'.ct) s.x.text.length (bys s.x.text) /\ (∀ k, bk s'.At = some k -> k < b2) /\ w'.ownsRow b2 5 1 (.slice s'.Ad s.x.data.length s'.cd) s.x.data.length (bys s.x.data)
set_option maxRecDepth 100000 in
set_option maxHeartbeats 60000000 in
theorem copied14_any (s : Xq) (B : Nat) (w : World) (hB : B <= w.heap.size) (h : XqM w B s) (h0 : s.x.text.length <= 1048576) (h00 : s.x.data.length <= 1048576) (h1 : s.x.dyn.needed.length <= 1048576) (h2 : s.x.dyn.syms.length <= 1048576) (h3 : s.x.dyn.relas.length <= 1048576) :
  Calls Tryz.prog 8 #[.agg s.l.toArray] w (CopiedE s w) := by
 have e1 : (w.alloc (.cells #[.int .u16 (s.x.type : Nat), .int .u64 (s.x.entry : Nat), .string s.x.interp, .slice s.At s.x.text.length s.ct, .slice s.Ad s.x.data.length s.cd, .int .u64 (s.x.more : Nat), .bool s.x.dynamic, .slice s.A1 s.x.dyn.needed.length s.c1, .string s.x.dyn.soname, .string s.x.dyn.run, .slice s.A2 s.x.dyn.syms.length s.c2, .slice s.A3 s.x.dyn.relas.length s.c3, .int .i64 s.x.apart] 31)).heap.size = w.heap.size + 1 := by simp
 have e2 : ((w.alloc (.cells #[.int .u16 (s.x.type : Nat), .int .u64 (s.x.entry : Nat), .string s.x.interp, .slice s.At s.x.text.length s.ct, .slice s.Ad s.x.data.length s.cd, .int .u64 (s.x.more : Nat), .bool s.x.dynamic, .slice s.A1 s.x.dyn.needed.length s.c1, .string s.x.dyn.soname, .string s.x.dyn.run, .slice s.A2 s.x.dyn.syms.length s.c2, .slice s.A3 s.x.dyn.relas.length s.c3, .int .i64 s.x.apart] 31)).alloc (.cells #[.int .u16 0, .int .u64 0, .string ⟨#[]⟩, .slice none 0 0, .slice none 0 0, .int .u64 0, .bool false, .slice none 0 0, .string ⟨#[]⟩, .string ⟨#[]⟩, .slice none 0 0, .slice none 0 0, .int .i64 0] 31)).heap.size = w.heap.size + 1 + 1 := by simp
 have hb1 : Below w.heap.size w ((w.alloc (.cells #[.int .u16 (s.x.type : Nat), .int .u64 (s.x.entry : Nat), .string s.x.interp, .slice s.At s.x.text.length s.ct, .slice s.Ad s.x.data.length s.cd, .int .u64 (s.x.more : Nat), .bool s.x.dynamic, .slice s.A1 s.x.dyn.needed.length s.c1, .string s.x.dyn.soname, .string s.x.dyn.run, .slice s.A2 s.x.dyn.syms.length s.c2, .slice s.A3 s.x.dyn.relas.length s.c3, .int .i64 s.x.apart] 31)).alloc (.cells #[.int .u16 0, .int .u64 0, .string ⟨#[]⟩, .slice none 0 0, .slice none 0 0, .int .u64 0, .bool false, .slice none 0 0, .string ⟨#[]⟩, .string ⟨#[]⟩, .slice none 0 0, .slice none 0 0, .int .i64 0] 31)) := ((Below.refl _ _).alloc (Nat.le_refl _) _).alloc (by simp) _
 have hd : Blk ((w.alloc (.cells #[.int .u16 (s.x.type : Nat), .int .u64 (s.x.entry : Nat), .string s.x.interp, .slice s.At s.x.text.length s.ct, .slice s.Ad s.x.data.length s.cd, .int .u64 (s.x.more : Nat), .bool s.x.dynamic, .slice s.A1 s.x.dyn.needed.length s.c1, .string s.x.dyn.soname, .string s.x.dyn.run, .slice s.A2 s.x.dyn.syms.length s.c2, .slice s.A3 s.x.dyn.relas.length s.c3, .int .i64 s.x.apart] 31)).alloc (.cells #[.int .u16 0, .int .u64 0, .string ⟨#[]⟩, .slice none 0 0, .slice none 0 0, .int .u64 0, .bool false, .slice none 0 0, .string ⟨#[]⟩, .string ⟨#[]⟩, .slice none 0 0, .slice none 0 0, .int .i64 0] 31)) w.heap.size 31 s.l := (Blk.new w 31 s.l).alloc (.cells #[.int .u16 0, .int .u64 0, .string ⟨#[]⟩, .slice none 0 0, .slice none 0 0, .int .u64 0, .bool false, .slice none 0 0, .string ⟨#[]⟩, .string ⟨#[]⟩, .slice none 0 0, .slice none 0 0, .int .i64 0] 31)
 have hz := Blk.new (w.alloc (.cells #[.int .u16 (s.x.type : Nat), .int .u64 (s.x.entry : Nat), .string s.x.interp, .slice s.At s.x.text.length s.ct, .slice s.Ad s.x.data.length s.cd, .int .u64 (s.x.more : Nat), .bool s.x.dynamic, .slice s.A1 s.x.dyn.needed.length s.c1, .string s.x.dyn.soname, .string s.x.dyn.run, .slice s.A2 s.x.dyn.syms.length s.c2, .slice s.A3 s.x.dyn.relas.length s.c3, .int .i64 s.x.apart] 31)) 31 [.int .u16 0, .int .u64 0, .string ⟨#[]⟩, .slice none 0 0, .slice none 0 0, .int .u64 0, .bool false, .slice none 0 0, .string ⟨#[]⟩, .string ⟨#[]⟩, .slice none 0 0, .slice none 0 0, .int .i64 0]
 rw [e1] at hz
 have hx := h.below (hb1.mono hB)
 have Hx0 := zJ2 h
 have y3 := hd.cell (i := 3) (u := .slice s.At s.x.text.length s.ct) rfl
 have hs2 : w.heap.size + 1 + 1 <= ((w.alloc (.cells #[.int .u16 (s.x.type : Nat), .int .u64 (s.x.entry : Nat), .string s.x.interp, .slice s.At s.x.text.length s.ct, .slice s.Ad s.x.data.length s.cd, .int .u64 (s.x.more : Nat), .bool s.x.dynamic, .slice s.A1 s.x.dyn.needed.length s.c1, .string s.x.dyn.soname, .string s.x.dyn.run, .slice s.A2 s.x.dyn.syms.length s.c2, .slice s.A3 s.x.dyn.relas.length s.c3, .int .i64 s.x.apart] 31)).alloc (.cells #[.int .u16 0, .int .u64 0, .string ⟨#[]⟩, .slice none 0 0, .slice none 0 0, .int .u64 0, .bool false, .slice none 0 0, .string ⟨#[]⟩, .string ⟨#[]⟩, .slice none 0 0, .slice none 0 0, .int .i64 0] 31)).heap.size := by rw [e2]; exact Nat.le_refl _
 have Hb1 := zJ2 hb1
 have Hd := zJ2 hd
 have Hz := zJ2 hz
 have Hx := zJ2 hx
 show Calls _ _ #[.agg #[.int .u16 (s.x.type : Nat), .int .u64 (s.x.entry : Nat), .string s.x.interp, .slice s.At s.x.text.length s.ct, .slice s.Ad s.x.data.length s.cd, .int .u64 (s.x.more : Nat), .bool s.x.dynamic, .slice s.A1 s.x.dyn.needed.length s.c1, .string s.x.dyn.soname, .string s.x.dyn.run, .slice s.A2 s.x.dyn.syms.length s.c2, .slice s.A3 s.x.dyn.relas.length s.c3, .int .i64 s.x.apart]] w _
 have K0 := zJ2 (wJm s.At s.x.text.length s.ct B s.x.text _ (Nat.le_trans hB (zJ1 Hb1).size) (zJ1 Hx).text (by omega))
 clear hb1 hd hz hx h e1 e2
 go_enter Tryz.func8, Tryz.ntmps8
 go_wp2_with fail
 refine (zJ1 K0).mono ?_
 rintro e w3 ⟨A3, c3, rfl, ho3, hb3⟩
 generalize ((w.alloc (.cells #[.int .u16 (s.x.type : Nat), .int .u64 (s.x.entry : Nat), .string s.x.interp, .slice s.At s.x.text.length s.ct, .slice s.Ad s.x.data.length s.cd, .int .u64 (s.x.more : Nat), .bool s.x.dynamic, .slice s.A1 s.x.dyn.needed.length s.c1, .string s.x.dyn.soname, .string s.x.dyn.run, .slice s.A2 s.x.dyn.syms.length s.c2, .slice s.A3 s.x.dyn.relas.length s.c3, .int .i64 s.x.apart] 31)).alloc (.cells #[.int .u16 0, .int .u64 0, .string ⟨#[]⟩, .slice none 0 0, .slice none 0 0, .int .u64 0, .bool false, .slice none 0 0, .string ⟨#[]⟩, .string ⟨#[]⟩, .slice none 0 0, .slice none 0 0, .int .i64 0] 31)) = W at *
 have hd3 := (zJ1 Hd).belowSz hb3
 have hz3 := (zJ1 Hz).belowSz hb3
 have hbw3 := (zJ1 Hb1).trans (hb3.mono (zJ1 Hb1).size)
 have hs3 := hb3.size
 have x3 := hd3.cell (i := 3) (u := .slice s.At s.x.text.length s.ct) rfl
 have z3 := hd3.free 3
 have hd4 := hd3.set 3 (.slice A3 s.x.text.length c3)
 have y4 := hd4.cell (i := 4) (u := .slice s.Ad s.x.data.length s.cd) rfl
 have hz4 := hz3.other (by show w.heap.size ≠ w.heap.size + 1; omega) (.slice A3 s.x.text.length c3) (p := ⟨w.heap.size, 3, none⟩)
 have hbw4 := xJ5 hbw3 (p := ⟨w.heap.size, 3, none⟩) (Nat.le_refl _) (.slice A3 s.x.text.length c3)
 have ho4 := zJm ho3 (p := ⟨w.heap.size, 3, none⟩) (fun e => by have h9 : bk A3 = some w.heap.size := e; have := (zJ7 ho3 _ h9).1; omega) (.slice A3 s.x.text.length c3)
 have hlt4 := zJ7 ho4
 have K1 := zJ2 (wJm s.Ad s.x.data.length s.cd B s.x.data _ (by have := hbw4.size; omega) ((zJ1 Hx0).below (hbw4.mono hB)).data (by omega))
 have hs4 : (w3.setCell ⟨w.heap.size, 3, none⟩ (.slice A3 s.x.text.length c3)).heap.size = w3.heap.size := by simp
 have Hd4 := zJ2 hd4
 have Hz4 := zJ2 hz4
 have Hbw4 := zJ2 hbw4
 have Ho4 := zJ2 ho4
 have Hlt4 := zJ2 hlt4
 clear hd3 hz3 hbw3 ho3 hb3 hd4 hz4 hbw4 ho4 hlt4 K0 y3 Hb1 Hd Hz Hx
 go_wp2_with fail
 refine (zJ1 K1).mono ?_
 rintro e w5 ⟨A5, c5, rfl, ho5, hb5⟩
 rw [hs4] at ho5
 have hd5 := (zJ1 Hd4).belowSz hb5
 have hz5 := (zJ1 Hz4).belowSz hb5
 have hbw5 := (zJ1 Hbw4).trans (hb5.mono (zJ1 Hbw4).size)
 have ho45 := own_below (zJ1 Ho4) hb5
 have hs5 : w3.heap.size <= w5.heap.size := by have := hb5.size; omega
 generalize (w3.setCell ⟨w.heap.size, 3, none⟩ (.slice A3 s.x.text.length c3)) = W4 at *
 have x4 := hd5.cell (i := 4) (u := .slice s.Ad s.x.data.length s.cd) rfl
 have z4 := hd5.free 4
 have hd6 := hd5.set 4 (.slice A5 s.x.data.length c5)
 have hz6 := hz5.other (by show w.heap.size ≠ w.heap.size + 1; omega) (.slice A5 s.x.data.length c5) (p := ⟨w.heap.size, 4, none⟩)
 have hbw6 := xJ5 hbw5 (p := ⟨w.heap.size, 4, none⟩) (Nat.le_refl _) (.slice A5 s.x.data.length c5)
 have ho46 := zJm ho45 (p := ⟨w.heap.size, 4, none⟩) (fun e => by have h9 : bk A3 = some w.heap.size := e; have := ((zJ1 Hlt4) _ h9).1; omega) (.slice A5 s.x.data.length c5)
 have ho56 := zJm ho5 (p := ⟨w.heap.size, 4, none⟩) (fun e => by have h9 : bk A5 = some w.heap.size := e; have := (zJ7 ho5 _ h9).1; omega) (.slice A5 s.x.data.length c5)
 obtain ⟨y7, y8, y9, y10, y11⟩ := And.intro (hd6.cell (i := 7) (u := .slice s.A1 s.x.dyn.needed.length s.c1) rfl) (And.intro (hd6.cell (i := 8) (u := .string s.x.dyn.soname) rfl) (And.intro (hd6.cell (i := 9) (u := .string s.x.dyn.run) rfl) (And.intro (hd6.cell (i := 10) (u := .slice s.A2 s.x.dyn.syms.length s.c2) rfl) (hd6.cell (i := 11) (u := .slice s.A3 s.x.dyn.relas.length s.c3) rfl))))
 have hs6 : (w5.setCell ⟨w.heap.size, 4, none⟩ (.slice A5 s.x.data.length c5)).heap.size = w5.heap.size := by simp
 have K2 : Hid (Calls Tryz.prog 24 #[.agg #[.slice s.A1 s.x.dyn.needed.length s.c1, .string s.x.dyn.soname, .string s.x.dyn.run, .slice s.A2 s.x.dyn.syms.length s.c2, .slice s.A3 s.x.dyn.relas.length s.c3]] (w5.setCell ⟨w.heap.size, 4, none⟩ (.slice A5 s.x.data.length c5)) (Copy13E s.q (w5.setCell ⟨w.heap.size, 4, none⟩ (.slice A5 s.x.data.length c5)))) := zJ2 (rcopy13_any s.q B _ (by have := hbw6.size; omega) ((zJ1 Hx0).below (hbw6.mono hB)).dyn h1 h2 h3)
 have Hd6 := zJ2 hd6
 have Hz6 := zJ2 hz6
 have Hbw6 := zJ2 hbw6
 have Ho46 := zJ2 ho46
 have Ho56 := zJ2 ho56
 clear hd5 hz5 hbw5 ho45 ho5 hb5 hd6 hz6 hbw6 ho46 ho56 K1 Hd4 Hz4 Hbw4 Ho4 y4
 go_wp2_with fail
 refine (zJ1 K2).mono ?_
 rintro e w7 ⟨q', hq1, rfl, hq7, hcap, hb7, hf1, hf2, hf3⟩
 have hbs7 : w3.heap.size <= w7.heap.size := by have := hb7.size; rw [hs6] at this; omega
 have hd7 := (zJ1 Hd6).belowSz hb7
 have hz7 := (zJ1 Hz6).belowSz hb7
 have hbw7 := (zJ1 Hbw6).trans (hb7.mono (zJ1 Hbw6).size)
 have ho47 := own_below (zJ1 Ho46) hb7
 have ho57 := own_below (zJ1 Ho56) hb7
 generalize (w5.setCell ⟨w.heap.size, 4, none⟩ (.slice A5 s.x.data.length c5)) = W6 at *
 obtain ⟨x7, x8, x9, x10, x11⟩ := And.intro (hd7.cell (i := 7) (u := .slice s.A1 s.x.dyn.needed.length s.c1) rfl) (And.intro (hd7.cell (i := 8) (u := .string s.x.dyn.soname) rfl) (And.intro (hd7.cell (i := 9) (u := .string s.x.dyn.run) rfl) (And.intro (hd7.cell (i := 10) (u := .slice s.A2 s.x.dyn.syms.length s.c2) rfl) (hd7.cell (i := 11) (u := .slice s.A3 s.x.dyn.relas.length s.c3) rfl))))
 obtain ⟨z7, z8, z9, z10, z11⟩ := And.intro (hd7.free 7) (And.intro (hd7.free 8) (And.intro (hd7.free 9) (And.intro (hd7.free 10) (hd7.free 11))))
 obtain ⟨qd, B1, g1, B2, g2, B3, g3⟩ := q'
 obtain rfl : qd = s.q.d := hq1
 have hl : (Dq.l ⟨s.q.d, B1, g1, B2, g2, B3, g3⟩).toArray = #[.slice B1 s.x.dyn.needed.length g1, .string s.x.dyn.soname, .string s.x.dyn.run, .slice B2 s.x.dyn.syms.length g2, .slice B3 s.x.dyn.relas.length g3] := rfl
 rw [hl]
 have Hd7 := zJ2 hd7
 have Hz7 := zJ2 hz7
 have Hbw7 := zJ2 hbw7
 have Ho47 := zJ2 ho47
 have Ho57 := zJ2 ho57
 have Hq7 := zJ2 hq7
 have Hcap := zJ2 hcap
 clear hl hd7 hz7 hbw7 ho47 ho57 hq7 hcap hb7 K2 Hd6 Hz6 Hbw6 Ho46 Ho56
 have hth : w7.there w.heap.size 7 5 := by
  intro j hj
  have e9 : j = 0 \/ j = 1 \/ j = 2 \/ j = 3 \/ j = 4 := by omega
  rcases e9 with rfl | rfl | rfl | rfl | rfl
  ·exact ⟨by rw [x7]; rfl, z7⟩
  ·exact ⟨by rw [x8]; rfl, z8⟩
  ·exact ⟨by rw [x9]; rfl, z9⟩
  ·exact ⟨by rw [x10]; rfl, z10⟩
  ·exact ⟨by rw [x11]; rfl, z11⟩
 have Hth := zJ2 hth
 obtain ⟨WF, hWF⟩ : ∃ WF, w7.setCells w.heap.size 7 [.slice B1 s.x.dyn.needed.length g1, .string s.x.dyn.soname, .string s.x.dyn.run, .slice B2 s.x.dyn.syms.length g2, .slice B3 s.x.dyn.relas.length g3] = WF := ⟨_, rfl⟩
 have hdF : Blk WF w.heap.size 31 (Xq.l ⟨s.x, A3, c3, A5, c5, B1, g1, B2, g2, B3, g3⟩) := by
  rw [<- hWF]
  exact (((((zJ1 Hd7).set 7 (.slice B1 s.x.dyn.needed.length g1)).set 8 (.string s.x.dyn.soname)).set 9 (.string s.x.dyn.run)).set 10 (.slice B2 s.x.dyn.syms.length g2)).set 11 (.slice B3 s.x.dyn.relas.length g3)
 have hne : w.heap.size ≠ w.heap.size + 1 := by omega
 have hzF : Blk WF (w.heap.size + 1) 31 [.int .u16 0, .int .u64 0, .string ⟨#[]⟩, .slice none 0 0, .slice none 0 0, .int .u64 0, .bool false, .slice none 0 0, .string ⟨#[]⟩, .string ⟨#[]⟩, .slice none 0 0, .slice none 0 0, .int .i64 0] := by
  rw [<- hWF]
  exact ((((((zJ1 Hz7).other hne (.slice B1 s.x.dyn.needed.length g1) (p := ⟨w.heap.size, 7, none⟩)).other hne (.string s.x.dyn.soname) (p := ⟨w.heap.size, 8, none⟩)).other hne (.string s.x.dyn.run) (p := ⟨w.heap.size, 9, none⟩)).other hne (.slice B2 s.x.dyn.syms.length g2) (p := ⟨w.heap.size, 10, none⟩)).other hne (.slice B3 s.x.dyn.relas.length g3) (p := ⟨w.heap.size, 11, none⟩))
 have hk3 : ∀ k, bk A3 = some k -> w.heap.size + 1 < k := fun k hk => by have := ((zJ1 Hlt4) k hk).1; omega
 have hk5 : ∀ k, bk A5 = some k -> w.heap.size + 1 < k := fun k hk => by have := (zJ7 (zJ1 Ho57) k hk).1; omega
 have hbF : Below w.heap.size w WF := by rw [<- hWF]; exact below_setCells (Nat.le_refl _) _ _ _ (zJ1 Hbw7)
 have ho4F := xJk (b := w.heap.size) (fun e => by have := hk3 _ e; omega) [.slice B1 s.x.dyn.needed.length g1, .string s.x.dyn.soname, .string s.x.dyn.run, .slice B2 s.x.dyn.syms.length g2, .slice B3 s.x.dyn.relas.length g3] 7 w7 (zJ1 Ho47)
 have ho5F := xJk (b := w.heap.size) (fun e => by have := hk5 _ e; omega) [.slice B1 s.x.dyn.needed.length g1, .string s.x.dyn.soname, .string s.x.dyn.run, .slice B2 s.x.dyn.syms.length g2, .slice B3 s.x.dyn.relas.length g3] 7 w7 (zJ1 Ho57)
 have hszF : WF.heap.size = w7.heap.size := by rw [<- hWF]; exact size_setCells _ _ _
 have hq1F := Rd.setCells (b := w.heap.size) (fun e => by have := hf1 _ e; omega) [.slice B1 s.x.dyn.needed.length g1, .string s.x.dyn.soname, .string s.x.dyn.run, .slice B2 s.x.dyn.syms.length g2, .slice B3 s.x.dyn.relas.length g3] 7 w7 (zJ1 Hq7).needed
 have hq2F := Rd.setCells (b := w.heap.size) (fun e => by have := hf2 _ e; omega) [.slice B1 s.x.dyn.needed.length g1, .string s.x.dyn.soname, .string s.x.dyn.run, .slice B2 s.x.dyn.syms.length g2, .slice B3 s.x.dyn.relas.length g3] 7 w7 (zJ1 Hq7).syms
 have hq3F := Rd.setCells (b := w.heap.size) (fun e => by have := hf3 _ e; omega) [.slice B1 s.x.dyn.needed.length g1, .string s.x.dyn.soname, .string s.x.dyn.run, .slice B2 s.x.dyn.syms.length g2, .slice B3 s.x.dyn.relas.length g3] 7 w7 (zJ1 Hq7).relas
 rw [hWF] at ho4F ho5F hq1F hq2F hq3F
 have HWF := zJ2 hWF
 have HzF := zJ2 hzF
 have HbF := zJ2 hbF
 have Ho4F := zJ2 ho4F
 have Ho5F := zJ2 ho5F
 have Hq1F := zJ2 hq1F
 have Hq2F := zJ2 hq2F
 have Hq3F := zJ2 hq3F
 obtain ⟨a0, a1, a2, a3, a4, a5, a6, a7, a8, a9, a10, a11, a12⟩ := zJx hdF
 have Hk3 := zJ2 hk3
 have Hk5 := zJ2 hk5
 clear hth hdF hzF hbF ho4F ho5F hq1F hq2F hq3F x7 x8 x9 x10 x11 z7 z8 z9 z10 z11 hk3 hk5
 go_wp2_with (first
  | ((with_reducible refine (@id (wpList _ _ _ (Oper.mk none (Op.store 29 (.tmp 14) (.tmp 13)) _ _ _ none :: _) _ _) ?_)); refine wpList_store_mid rfl 29 (.tmp 14) (.tmp 13) rfl w.heap.size 7 (Dq.l ⟨s.q.d, B1, g1, B2, g2, B3, g3⟩).toArray rfl rfl (zJ1 Hth) dynInfo (dq_one _) ?_; change wpList _ _ _ _ _ (w7.setCells w.heap.size 7 [.slice B1 s.x.dyn.needed.length g1, .string s.x.dyn.soname, .string s.x.dyn.run, .slice B2 s.x.dyn.syms.length g2, .slice B3 s.x.dyn.relas.length g3]); rw [zJ1 HWF])
  | ((with_reducible refine (@id (wpList _ _ _ (Oper.mk none (Op.store 31 (.tmp 2) (.tmp 15)) _ _ _ none :: _) _ _) ?_)); refine wpList_store_row rfl 31 (.tmp 2) (.tmp 15) rfl (w.heap.size + 1) (Xq.l ⟨s.x, A3, c3, A5, c5, B1, g1, B2, g2, B3, g3⟩).toArray rfl rfl 31 _ (zJ1 HzF) apiInfo rfl (xq_one _) ?_))
 refine bodyPost_ret (results_cell_row (P := Tryz.prog) rfl _ _ (w.heap.size + 1) 31 (Xq.l ⟨s.x, A3, c3, A5, c5, B1, g1, B2, g2, B3, g3⟩).toArray (0, 0) _ rfl (setRow_heap _ _ _ _ _ _ (zJ1 HzF)) Tryz.underlying31 rfl apiInfo) rfl ?_
 have oT := vJt (k := w.heap.size + 1) (zJ1 Ho4F) (fun e => by have := (zJ1 Hk3) _ e; omega) (Xq.l ⟨s.x, A3, c3, A5, c5, B1, g1, B2, g2, B3, g3⟩).toArray
 have oD := vJt (k := w.heap.size + 1) (zJ1 Ho5F) (fun e => by have := (zJ1 Hk5) _ e; omega) (Xq.l ⟨s.x, A3, c3, A5, c5, B1, g1, B2, g2, B3, g3⟩).toArray
 have hsr : (WF.setRow (w.heap.size + 1) (Xq.l ⟨s.x, A3, c3, A5, c5, B1, g1, B2, g2, B3, g3⟩).toArray).heap.size = w7.heap.size := by rw [<- hszF]; simp [World.setRow]
 have hlow : ∀ k, w3.heap.size <= k -> w.heap.size + 1 ≠ k := fun k hk => by omega
 refine ⟨⟨s.x, A3, c3, A5, c5, B1, g1, B2, g2, B3, g3⟩, rfl, rfl, ⟨Rd.of_own oT, Rd.of_own oD, ⟨?_, ?_, ?_⟩⟩, zJ1 Hcap, below_setRow (zJ1 HbF) (by omega) _, w3.heap.size, by omega, by rw [hsr]; exact hbs7, zJh oT (by omega), fun k hk => ?_, oD⟩
 ·rw [hsr]; exact Rd.setRowN (zJ1 Hq1F) (fun e => by have := hf1 _ e; omega) _
 ·rw [hsr]; exact Rd.setRowN (zJ1 Hq2F) (fun e => by have := hf2 _ e; omega) _
 ·rw [hsr]; exact Rd.setRowN (zJ1 Hq3F) (fun e => by have := hf3 _ e; omega) _
 ·have := ((zJ1 Hlt4) k hk).2; omega
set_option maxRecDepth 100000 in
set_option maxHeartbeats 60000000 in
theorem same13_any (q r : Dq) (hqr : r.d = q.d) (B : Nat) (w : World) (hB : B <= w.heap.size) (h : DqM w B q) (h' : DqM w B r) (h1 : q.d.needed.length <= 1048576) (h2 : q.d.syms.length <= 1048576) (h3 : q.d.relas.length <= 1048576) :
  Calls Tryz.prog 21 #[.agg q.l.toArray, .agg r.l.toArray] w fun e w' => e = .returned (.bool true) /\ Below w.heap.size w w' := by
 have e1 : (w.alloc (.cells #[.slice q.A1 q.d.needed.length q.c1, .string q.d.soname, .string q.d.run, .slice q.A2 q.d.syms.length q.c2, .slice q.A3 q.d.relas.length q.c3] 29)).heap.size = w.heap.size + 1 := by simp
 have hb1 : Below w.heap.size w ((w.alloc (.cells #[.slice q.A1 q.d.needed.length q.c1, .string q.d.soname, .string q.d.run, .slice q.A2 q.d.syms.length q.c2, .slice q.A3 q.d.relas.length q.c3] 29)).alloc (.cells #[.slice r.A1 q.d.needed.length r.c1, .string q.d.soname, .string q.d.run, .slice r.A2 q.d.syms.length r.c2, .slice r.A3 q.d.relas.length r.c3] 29)) := ((Below.refl _ _).alloc (Nat.le_refl _) _).alloc (by simp) _
 have hrl : r.l = [.slice r.A1 q.d.needed.length r.c1, .string q.d.soname, .string q.d.run, .slice r.A2 q.d.syms.length r.c2, .slice r.A3 q.d.relas.length r.c3] := by unfold Dq.l; rw [hqr]
 have hx : Blk ((w.alloc (.cells #[.slice q.A1 q.d.needed.length q.c1, .string q.d.soname, .string q.d.run, .slice q.A2 q.d.syms.length q.c2, .slice q.A3 q.d.relas.length q.c3] 29)).alloc (.cells #[.slice r.A1 q.d.needed.length r.c1, .string q.d.soname, .string q.d.run, .slice r.A2 q.d.syms.length r.c2, .slice r.A3 q.d.relas.length r.c3] 29)) w.heap.size 29 q.l := (Blk.new w 29 q.l).alloc (.cells #[.slice r.A1 q.d.needed.length r.c1, .string q.d.soname, .string q.d.run, .slice r.A2 q.d.syms.length r.c2, .slice r.A3 q.d.relas.length r.c3] 29)
 have hy := Blk.new (w.alloc (.cells #[.slice q.A1 q.d.needed.length q.c1, .string q.d.soname, .string q.d.run, .slice q.A2 q.d.syms.length q.c2, .slice q.A3 q.d.relas.length q.c3] 29)) 29 [.slice r.A1 q.d.needed.length r.c1, .string q.d.soname, .string q.d.run, .slice r.A2 q.d.syms.length r.c2, .slice r.A3 q.d.relas.length r.c3]
 rw [e1] at hy
 have hq := h.below (hb1.mono hB)
 have hr := h'.below (hb1.mono hB)
 have hrn : Rd ((w.alloc (.cells #[.slice q.A1 q.d.needed.length q.c1, .string q.d.soname, .string q.d.run, .slice q.A2 q.d.syms.length q.c2, .slice q.A3 q.d.relas.length q.c3] 29)).alloc (.cells #[.slice r.A1 q.d.needed.length r.c1, .string q.d.soname, .string q.d.run, .slice r.A2 q.d.syms.length r.c2, .slice r.A3 q.d.relas.length r.c3] 29)) B 1 r.A1 q.d.needed.length (q.d.needed.map Value.string) := by have h9 := hr.needed; rw [hqr] at h9; exact h9
 have hrs : Rd ((w.alloc (.cells #[.slice q.A1 q.d.needed.length q.c1, .string q.d.soname, .string q.d.run, .slice q.A2 q.d.syms.length q.c2, .slice q.A3 q.d.relas.length q.c3] 29)).alloc (.cells #[.slice r.A1 q.d.needed.length r.c1, .string q.d.soname, .string q.d.run, .slice r.A2 q.d.syms.length r.c2, .slice r.A3 q.d.relas.length r.c3] 29)) B 5 r.A2 q.d.syms.length (symC q.d.syms) := by have h9 := hr.syms; rw [hqr] at h9; exact h9
 have hrr : Rd ((w.alloc (.cells #[.slice q.A1 q.d.needed.length q.c1, .string q.d.soname, .string q.d.run, .slice q.A2 q.d.syms.length q.c2, .slice q.A3 q.d.relas.length q.c3] 29)).alloc (.cells #[.slice r.A1 q.d.needed.length r.c1, .string q.d.soname, .string q.d.run, .slice r.A2 q.d.syms.length r.c2, .slice r.A3 q.d.relas.length r.c3] 29)) B 4 r.A3 q.d.relas.length (mrC q.d.relas) := by have h9 := hr.relas; rw [hqr] at h9; exact h9
 have KE := eqTexts_any q.A1 r.A1 q.d.needed.length q.d.needed.length q.c1 r.c1 B q.d.needed q.d.needed ((w.alloc (.cells #[.slice q.A1 q.d.needed.length q.c1, .string q.d.soname, .string q.d.run, .slice q.A2 q.d.syms.length q.c2, .slice q.A3 q.d.relas.length q.c3] 29)).alloc (.cells #[.slice r.A1 q.d.needed.length r.c1, .string q.d.soname, .string q.d.run, .slice r.A2 q.d.syms.length r.c2, .slice r.A3 q.d.relas.length r.c3] 29)) hq.needed hrn (by unfold maxLen; omega) (by unfold maxLen; omega)
 rw [show decide (q.d.needed = q.d.needed) = true from decide_eq_true rfl] at KE
 obtain ⟨x0, x1, x2, x3, x4⟩ := And.intro (hx.cell (i := 0) (u := .slice q.A1 q.d.needed.length q.c1) rfl) (And.intro (hx.cell (i := 1) (u := .string q.d.soname) rfl) (And.intro (hx.cell (i := 2) (u := .string q.d.run) rfl) (And.intro (hx.cell (i := 3) (u := .slice q.A2 q.d.syms.length q.c2) rfl) (hx.cell (i := 4) (u := .slice q.A3 q.d.relas.length q.c3) rfl))))
 obtain ⟨y0, y1, y2, y3, y4⟩ := And.intro (hy.cell (i := 0) rfl) (And.intro (hy.cell (i := 1) rfl) (And.intro (hy.cell (i := 2) rfl) (And.intro (hy.cell (i := 3) rfl) (hy.cell (i := 4) rfl))))
 have HX := zJ2 hx
 have HY := zJ2 hy
 have HB := zJ2 hb1
 have Hqs := zJ2 hq.syms
 have Hqr := zJ2 hq.relas
 have Hrs := zJ2 hrs
 have Hrr := zJ2 hrr
 have KE := zJ2 KE
 have hBw : B <= ((w.alloc (.cells #[.slice q.A1 q.d.needed.length q.c1, .string q.d.soname, .string q.d.run, .slice q.A2 q.d.syms.length q.c2, .slice q.A3 q.d.relas.length q.c3] 29)).alloc (.cells #[.slice r.A1 q.d.needed.length r.c1, .string q.d.soname, .string q.d.run, .slice r.A2 q.d.syms.length r.c2, .slice r.A3 q.d.relas.length r.c3] 29)).heap.size := Nat.le_trans hB hb1.size
 show Calls _ _ #[.agg #[.slice q.A1 q.d.needed.length q.c1, .string q.d.soname, .string q.d.run, .slice q.A2 q.d.syms.length q.c2, .slice q.A3 q.d.relas.length q.c3], .agg r.l.toArray] w _
 rw [hrl]
 show Calls _ _ #[.agg #[.slice q.A1 q.d.needed.length q.c1, .string q.d.soname, .string q.d.run, .slice q.A2 q.d.syms.length q.c2, .slice q.A3 q.d.relas.length q.c3], .agg #[.slice r.A1 q.d.needed.length r.c1, .string q.d.soname, .string q.d.run, .slice r.A2 q.d.syms.length r.c2, .slice r.A3 q.d.relas.length r.c3]] w _
 clear hb1 hrl hx hy hq hr hrn hrs hrr h h' hqr e1
 go_enter Tryz.func21, Tryz.ntmps21
 go_upto_region 1 with fail
 generalize ((w.alloc (.cells #[.slice q.A1 q.d.needed.length q.c1, .string q.d.soname, .string q.d.run, .slice q.A2 q.d.syms.length q.c2, .slice q.A3 q.d.relas.length q.c3] 29)).alloc (.cells #[.slice r.A1 q.d.needed.length r.c1, .string q.d.soname, .string q.d.run, .slice r.A2 q.d.syms.length r.c2, .slice r.A3 q.d.relas.length r.c3] 29)) = V0 at *
 go_wp2_with fail
 refine (zJ1 KE).mono ?_
 rintro e w1 ⟨rfl, j, rfl⟩
 have hx := (zJ1 HX).drewN j
 have hy := (zJ1 HY).drewN j
 have hb := below_drewN' (zJ1 HB) j
 have hsq : Rd (V0.drewN j) B 5 q.A2 q.d.syms.length (symC q.d.syms) := zJ1 Hqs
 have hsr : Rd (V0.drewN j) B 5 r.A2 q.d.syms.length (symC q.d.syms) := zJ1 Hrs
 have hrq : Rd (V0.drewN j) B 4 q.A3 q.d.relas.length (mrC q.d.relas) := zJ1 Hqr
 have hrr : Rd (V0.drewN j) B 4 r.A3 q.d.relas.length (mrC q.d.relas) := zJ1 Hrr
 have hBs : B <= (V0.drewN j).heap.size := hBw
 generalize V0.drewN j = V at *
 have HX := zJ2 hx
 have HY := zJ2 hy
 have HB := zJ2 hb
 have Hqs := zJ2 hsq
 have Hrs := zJ2 hsr
 have Hqr := zJ2 hrq
 have Hrr := zJ2 hrr
 obtain ⟨M, hM⟩ : ∃ M, q.d.syms.length = M := ⟨_, rfl⟩
 obtain ⟨R, hR⟩ : ∃ R, q.d.relas.length = R := ⟨_, rfl⟩
 obtain ⟨A2, hA2⟩ : ∃ A, q.A2 = A := ⟨_, rfl⟩
 obtain ⟨B2, hB2⟩ : ∃ A, r.A2 = A := ⟨_, rfl⟩
 obtain ⟨A3, hA3⟩ : ∃ A, q.A3 = A := ⟨_, rfl⟩
 obtain ⟨B3, hB3⟩ : ∃ A, r.A3 = A := ⟨_, rfl⟩
 have z3 : V.cell? ⟨w.heap.size, 3, none⟩ = some (.slice A2 M q.c2) := by rw [<- hA2, <- hM]; exact hx.cell (i := 3) rfl
 have z4 : V.cell? ⟨w.heap.size, 4, none⟩ = some (.slice A3 R q.c3) := by rw [<- hA3, <- hR]; exact hx.cell (i := 4) rfl
 have v3 : V.cell? ⟨w.heap.size + 1, 3, none⟩ = some (.slice B2 M r.c2) := by rw [<- hB2, <- hM]; exact hy.cell (i := 3) rfl
 have v4 : V.cell? ⟨w.heap.size + 1, 4, none⟩ = some (.slice B3 R r.c3) := by rw [<- hB3, <- hR]; exact hy.cell (i := 4) rfl
 have hMb : M <= 1048576 := by omega
 have hRb : R <= 1048576 := by omega
 rw [hM, hA2] at Hqs
 rw [hM, hB2] at Hrs
 rw [hR, hA3] at Hqr
 rw [hR, hB3] at Hrr
 have HM := zJ2 hM
 have HR := zJ2 hR
 have Hz := zJ2 (And.intro z3 (And.intro z4 (And.intro v3 v4)))
 clear x0 x1 x2 x3 x4 y0 y1 y2 y3 y4 hx hy hb hsq hsr hrq hrr KE hM hR hA2 hB2 hA3 hB3
 go_wp2_with fail
 go_loopg [5] M (fun gk iv wr => ∃ i : Nat, gk = M - i /\ i <= M /\ iv = .int .i64 i /\ Below V.heap.size V wr)
 case atStart => exact ⟨0, by omega, by omega, rfl, Below.refl _ _⟩
 case round =>
 clear z3 z4 v3 v4
 obtain ⟨i, hgk, hi, rfl, hbv⟩ := hrel
 have Hgk := zJ2 hgk
 have hx := (zJ1 HX).belowSz hbv
 have hy := (zJ1 HY).belowSz hbv
 have hqj0 := (zJ1 Hqs).below (hbv.mono hBs)
 have hrj0 := (zJ1 Hrs).below (hbv.mono hBs)
 have Hbv := zJ2 hbv
 clear hgk hbv
 have z3 := (zJ4 (hx.trans (zJ1 HX).symm) 3).trans (zJ1 Hz).1
 have v3 := (zJ4 (hy.trans (zJ1 HY).symm) 3).trans (zJ1 Hz).2.2.1
 clear hx hy
 by_cases hlt : i < M
 ·have ilt : (i : Int) < (M : Int) := by omega
  obtain ⟨x, hxx⟩ : ∃ x, q.d.syms[i]? = some x := ⟨_, List.getElem?_eq_getElem (by rw [zJ1 HM]; exact hlt)⟩
  obtain ⟨b1, o1, hAA, -, s0, s1, s2, s3, s4⟩ := xJq hqj0 hxx
  obtain ⟨b2, o2, hBB, -, t0, t1, t2, t3, t4⟩ := xJq hrj0 hxx
  subst hAA hBB
  clear hxx hqj0 hrj0
  go_wp2_with fail
  go_quiet (fail)
  have Hbn := zJ2 (below_drewN' (zJ1 Hbv) nq)
  clear z3 v3 s0 s1 s2 s3 s4 t0 t1 t2 t3 t4
  go_wp2_with fail
  go_roundg (M - (i + 1))
  case measure => have := zJ1 Hgk; omega
  case rel => exact ⟨i + 1, rfl, by omega, by go_num, zJ1 Hbn⟩
 have hiM : i = M := by omega
 subst hiM
 have ige : ¬ (i : Int) < (i : Int) := by omega
 have hx := (zJ1 HX).belowSz (zJ1 Hbv)
 have hy := (zJ1 HY).belowSz (zJ1 Hbv)
 have z4 := (zJ4 (hx.trans (zJ1 HX).symm) 4).trans (zJ1 Hz).2.1
 have v4 := (zJ4 (hy.trans (zJ1 HY).symm) 4).trans (zJ1 Hz).2.2.2
 have hBr : B <= wr.heap.size := by have := (zJ1 Hbv).size; omega
 have Hqw := zJ2 ((zJ1 Hqr).below ((zJ1 Hbv).mono hBs))
 have Hrw := zJ2 ((zJ1 Hrr).below ((zJ1 Hbv).mono hBs))
 obtain ⟨U, hU⟩ : ∃ U, wr = U := ⟨_, rfl⟩
 rw [hU] at z4 v4 hBr Hqw Hrw Hbv z3 v3 hx hy ⊢
 have HXU := zJ2 hx
 have HYU := zJ2 hy
 have HZU := zJ2 (And.intro z4 v4)
 clear hx hy hqj0 hrj0 hU hlt
 go_wp2_with fail
 go_loopg [6] R (fun gk iv wr => ∃ i : Nat, gk = R - i /\ i <= R /\ iv = .int .i64 i /\ Below U.heap.size U wr)
 case atStart => exact ⟨0, by omega, by omega, rfl, Below.refl _ _⟩
 case round =>
 clear z4 v4 z3 v3
 obtain ⟨k, hgk2, hk, rfl, hbv2⟩ := hrel
 have Hgk2 := zJ2 hgk2
 have hx := (zJ1 HXU).belowSz hbv2
 have hy := (zJ1 HYU).belowSz hbv2
 have z4 := (zJ4 (hx.trans (zJ1 HXU).symm) 4).trans (zJ1 HZU).1
 have v4 := (zJ4 (hy.trans (zJ1 HYU).symm) 4).trans (zJ1 HZU).2
 have hqj0 := (zJ1 Hqw).below (hbv2.mono hBr)
 have hrj0 := (zJ1 Hrw).below (hbv2.mono hBr)
 have Hbv2 := zJ2 hbv2
 clear hgk2 hbv2 hx hy
 by_cases hlt : k < R
 ·have klt : (k : Int) < (R : Int) := by omega
  obtain ⟨x, hxx⟩ : ∃ x, q.d.relas[k]? = some x := ⟨_, List.getElem?_eq_getElem (by rw [zJ1 HR]; exact hlt)⟩
  obtain ⟨b1, o1, hAA, -, s0, s1, s2, s3⟩ := vJb hqj0 hxx
  obtain ⟨b2, o2, hBB, -, t0, t1, t2, t3⟩ := vJb hrj0 hxx
  subst hAA hBB
  clear hxx hqj0 hrj0
  go_wp2_with fail
  go_quiet (fail)
  have Hbn := zJ2 (below_drewN' (zJ1 Hbv2) nq)
  clear z4 v4 s0 s1 s2 s3 t0 t1 t2 t3
  go_wp2_with fail
  go_roundg (R - (k + 1))
  case measure => have := zJ1 Hgk2; omega
  case rel => exact ⟨k + 1, rfl, by omega, by go_num, zJ1 Hbn⟩
 have hkR : k = R := by omega
 subst hkR
 have kge : ¬ (k : Int) < (k : Int) := by omega
 clear hqj0 hrj0
 go_wp2_with fail
 go_ret
 exact ⟨rfl, (zJ1 HB).trans (((zJ1 Hbv).mono (by have := (zJ1 HB).size; omega)).trans ((zJ1 Hbv2).mono (by have := (zJ1 HB).size; have := (zJ1 Hbv).size; omega)))⟩
theorem mSegInfo : (Tryz.prog.info? 74).map (·.size) = some 7 := by kernel_rfl
set_option maxRecDepth 100000 in
set_option maxHeartbeats 4000000 in
theorem uJv (s : Xq) (gx k off sz al : Nat) (w : World) (hx : Blk w gx 66 s.l) (ho : off <= 4294967296) :
  Calls Tryz.prog 26 #[.int .u64 (k : Nat), .int .u64 (off : Nat), .int .u64 (sz : Nat), .int .u64 (al : Nat), .pointer (some ⟨gx, 0, none⟩)] w fun e w' => e = .returned (.agg (rowV (Mk.inRow s.x k off sz al)).toArray) /\ Below w.heap.size w w' := by
 have hb1 := zJ3 w (.cells #[.int .u64 0, .int .u64 0, .int .u64 0, .int .u64 0, .int .u64 0, .int .u64 0, .int .u64 0] 74)
 have hbz := Blk.new w 74 [.int .u64 0, .int .u64 0, .int .u64 0, .int .u64 0, .int .u64 0, .int .u64 0, .int .u64 0]
 have hx1 := hx.belowSz hb1
 have hlt := hx.lt
 have hbs : Mk.base s.x <= 4194304 := by unfold Mk.base; split <;> omega
 obtain ⟨a0, a1, a2, a3, a4, a5, a6, a7, a8, a9, a10, a11, a12⟩ := zJ6 hx1
 have KB : Hid (Calls Tryz.prog 27 #[.agg #[.int .u16 (s.x.type : Nat), .int .u64 (s.x.entry : Nat), .string s.x.interp, .slice s.At s.x.text.length s.ct, .slice s.Ad s.x.data.length s.cd, .int .u64 (s.x.more : Nat), .bool s.x.dynamic, .slice s.A1 s.x.dyn.needed.length s.c1, .string s.x.dyn.soname, .string s.x.dyn.run, .slice s.A2 s.x.dyn.syms.length s.c2, .slice s.A3 s.x.dyn.relas.length s.c3, .int .i64 s.x.apart]] (w.alloc (.cells #[.int .u64 0, .int .u64 0, .int .u64 0, .int .u64 0, .int .u64 0, .int .u64 0, .int .u64 0] 74)) fun e w' => e = .returned (.int .u64 (Mk.base s.x : Nat)) /\ Below (w.alloc (.cells #[.int .u64 0, .int .u64 0, .int .u64 0, .int .u64 0, .int .u64 0, .int .u64 0, .int .u64 0] 74)).heap.size (w.alloc (.cells #[.int .u64 0, .int .u64 0, .int .u64 0, .int .u64 0, .int .u64 0, .int .u64 0, .int .u64 0] 74)) w') := zJ2 (wJ7 s (w.alloc (.cells #[.int .u64 0, .int .u64 0, .int .u64 0, .int .u64 0, .int .u64 0, .int .u64 0, .int .u64 0] 74)))
 have Hb1 := zJ2 hb1
 have Hbz : Hid (Blk (w.alloc (.cells #[.int .u64 0, .int .u64 0, .int .u64 0, .int .u64 0, .int .u64 0, .int .u64 0, .int .u64 0] 74)) w.heap.size 74 [.int .u64 0, .int .u64 0, .int .u64 0, .int .u64 0, .int .u64 0, .int .u64 0, .int .u64 0]) := zJ2 hbz
 clear hb1 hbz hx1 hx
 go_enter Tryz.func26, Tryz.ntmps26
 go_wp2_with fail
 generalize (w.alloc (.cells #[.int .u64 0, .int .u64 0, .int .u64 0, .int .u64 0, .int .u64 0, .int .u64 0, .int .u64 0] 74)) = W1 at *
 refine (zJ1 KB).mono ?_
 rintro e w1 ⟨rfl, hb⟩
 have Hb2 := zJ2 ((zJ1 Hb1).trans (hb.mono (zJ1 Hb1).size))
 have Hbz1 := zJ2 ((zJ1 Hbz).belowSz hb)
 clear hb KB a0 a1 a2 a3 a4 a5 a6 a7 a8 a9 a10 a11 a12
 generalize hbe : Mk.base s.x = bs at *
 have Hbe := zJ2 hbe
 clear hbe
 go_wp2_with ((with_reducible refine (@id (wpList _ _ _ (Oper.mk none (Op.store 74 (.tmp 9) (.tmp 19)) _ _ _ none :: _) _ _) ?_)); refine wpList_store_row rfl 74 (.tmp 9) (.tmp 19) rfl w.heap.size (rowV ⟨k, 4, off, bs + off, sz, sz, al⟩).toArray rfl rfl 74 _ (zJ1 Hbz1) mSegInfo rfl (rowV_all _) ?_)
 refine bodyPost_ret (results_cell_row (P := Tryz.prog) rfl _ _ w.heap.size 74 (rowV ⟨k, 4, off, bs + off, sz, sz, al⟩).toArray (0, 0) _ rfl (setRow_heap _ _ _ _ _ _ (zJ1 Hbz1)) Tryz.underlying74 rfl mSegInfo) rfl ?_
 exact ⟨by unfold Mk.inRow; rw [zJ1 Hbe], below_setRow (zJ1 Hb2) (Nat.le_refl _) _⟩
def SecE (s : Xq) (gf base : Nat) (l : List Value) (A : Option Addr) (fs : List UInt8) (w : World) (e : Ending) (w' : World) : Prop :=
 ∃ A' n' c', e = .returned (.tuple #[.int .u64 ((Mk.pad 8 fs).length : Nat), .int .u64 (Mk.room s.x : Nat)]) /\ FiE 71 gf 0 l base A w w' A' n' c' (Mk.section_ s.x fs)
def stAt (x : Mk.Spec) (f : List UInt8) (i : Nat) : List UInt8 × List (Nat × Nat) := ((Mk.parts x).take i).foldl (Mk.stepPart (Mk.base x)) (Mk.pad 8 f ++ Mk.zs (Mk.room x), Mk.heads2 x.dyn)
theorem stAt_end {x : Mk.Spec} {f : List UInt8} {i : Nat} (h : (Mk.parts x).length <= i) : stAt x f i = Mk.laidParts x f := by
 unfold stAt Mk.laidParts
 rw [List.take_of_length_le h]
theorem stAt_step {x : Mk.Spec} {f : List UInt8} {i : Nat} {p : Nat × List UInt8} (h : (Mk.parts x)[i]? = some p) : stAt x f (i + 1) = (Mk.pad 8 (stAt x f i).1 ++ p.2, (stAt x f i).2 ++ Mk.tell p.1 (Mk.base x + (Mk.pad 8 (stAt x f i).1).length) p.2.length) := by
 unfold stAt
 rw [List.take_add_one, h, List.foldl_append]
 rfl
theorem stAt_le {x : Mk.Spec} (f : List UInt8) (i T : Nat) (h2 : x.dyn.syms.length <= 64) (h3 : x.dyn.relas.length <= 64) (hT : (Mk.texts3 x.dyn).length <= T) : (stAt x f i).1.length <= f.length + 8 + Mk.room x + 5 * (T + 1600) := by
 have h1 := fold_le (Mk.base x) ((Mk.parts x).take i) (T + 1600) (Mk.pad 8 f ++ Mk.zs (Mk.room x), Mk.heads2 x.dyn) (fun p hp => part_len x h2 h3 T hT p (List.mem_of_mem_take hp))
 have h4 := vJs x
 have h5 : ((Mk.parts x).take i).length <= 5 := by rw [List.length_take]; omega
 have h6 := Nat.mul_le_mul_left (T + 1600) h5
 have h7 := xJj 8 (by omega) f
 unfold stAt
 simp only [List.length_append, yJj] at h1
 omega
theorem stAt_ents {x : Mk.Spec} (f : List UInt8) (i : Nat) : (Mk.entsB (stAt x f i).2).length <= Mk.room x := by
 rw [yJ0]
 unfold stAt Mk.room
 rw [(tJ7 _ _ _).1, List.length_append]
 have h : (Mk.told ((Mk.parts x).take i)).length <= (Mk.told (Mk.parts x)).length := by
  have e := List.take_append_drop i (Mk.parts x)
  rw [show Mk.told (Mk.parts x) = Mk.told ((Mk.parts x).take i ++ (Mk.parts x).drop i) by rw [e], uJo, List.length_append]
  omega
 have e9 : ((Mk.pad 8 f ++ Mk.zs (16 * (List.length (Mk.heads2 x.dyn) + List.length (Mk.told (Mk.parts x)))), Mk.heads2 x.dyn) : List UInt8 × List (Nat × Nat)).2 = Mk.heads2 x.dyn := rfl
 rw [e9]
 omega
theorem told_next {l : List (Nat × List UInt8)} {i : Nat} {p : Nat × List UInt8} (h : l[i]? = some p) : Mk.told (l.take (i + 1)) = Mk.told (l.take i) ++ Mk.tell p.1 0 0 := by
 rw [List.take_add_one, h, uJo]
 simp [Mk.told]
theorem enter_tell0 (args : Array Value) (w : World) : (callFunc 75 args).run Tryz.prog w = .ok (.enter 75 args) w := by kernel_rfl
theorem enter_tell1 (args : Array Value) (w : World) : (callFunc 76 args).run Tryz.prog w = .ok (.enter 76 args) w := by kernel_rfl
theorem enter_tell2 (args : Array Value) (w : World) : (callFunc 78 args).run Tryz.prog w = .ok (.enter 78 args) w := by kernel_rfl
theorem enter_tell3 (args : Array Value) (w : World) : (callFunc 79 args).run Tryz.prog w = .ok (.enter 79 args) w := by kernel_rfl
theorem enter_tell4 (args : Array Value) (w : World) : (callFunc 80 args).run Tryz.prog w = .ok (.enter 80 args) w := by kernel_rfl
theorem vJf (k : Nat) (args : Array Value) (w : World) : (callFunc (tellF k) args).run Tryz.prog w = .ok (.enter (tellF k) args) w := by
 match k with
 | 0 => exact enter_tell0 args w
 | 1 => exact enter_tell1 args w
 | 2 => exact enter_tell2 args w
 | 3 => exact enter_tell3 args w
 | k + 4 => exact enter_tell4 args w
theorem zJn {w w' : World} (h : Below (w.drew).heap.size w.drew w') : Below w.heap.size w w' := ⟨h.os, h.tape, h.output, h.size, h.block⟩
theorem entsB_app (a b : List (Nat × Nat)) : Mk.entsB (a ++ b) = Mk.entsB a ++ Mk.entsB b := by unfold Mk.entsB; simp
set_option maxRecDepth 100000 in
set_option maxHeartbeats 60000000 in
theorem psecC (s : Xq) (gf gs base n c np cp ns cs0 T : Nat) (A As Ap : Option Addr) (fs : List UInt8) (qs : List PQ) (w wc : World)
  (hxB : Blk wc w.heap.size 66 s.l) (hF : FiM w 71 gf 0 [.slice A n c] base A n c fs) (hbase : base <= w.heap.size) (hfs : fs.length <= 1073741824) (hbw : Below w.heap.size w wc)
  (hgs : w.heap.size < gs) (hS : FiM wc 71 gs 0 [.slice As ns cs0] w.heap.size As ns cs0 (Mk.entsB (Mk.heads2 s.x.dyn))) (hax : bk As ≠ some w.heap.size) (hP : PaF w.heap.size gs As wc qs Ap np cp) (hqs : qs.map PQ.p = Mk.parts s.x)
  (n1 : s.x.dyn.needed.length <= 8) (n2 : s.x.dyn.syms.length <= 64) (n3 : s.x.dyn.relas.length <= 64) (hT : (Mk.texts3 s.x.dyn).length <= T) (hT2 : T <= 536870912)
  (u0 u3 u4 u5 u6 u7 u9 u10 u11 u13 u14 u15 u16 u17 u18 u19 u20 u21 u22 u23 u24 u25 u26 u27 u28 u29 u30 u31 u32 u33 u34 u35 u36 u37 u38 u39 u40 u41 u42 u43 u44 u45 u46 u47 u48 u49 u50 u51 u52 u53 u54 u55 u56 u57 u58 u59 u60 u61 u62 u63 u64 u65 u66 u67 u68 u69 u70 u71 u72 u73 u74 u75 u76 u77 u78 u79 u80 u81 u82 u83 u84 u85 u86 u87 u88 u89 u90 u91 u92 u93 u94 u95 u96 u97 u98 u99 u100 u101 u102 u103 u104 u105 u106 u107 u108 u109 u110 u111 u112 u113 u114 u115 u116 u117 u118 u119 u120 u121 u122 u123 u124 u125 u126 u127 u128 u129 u130 u131 u132 u133 u134 u135 u136 u137 u138 u139 u140 u141 u142 u143 u144 u145 u146 u147 u148 u149 u150 u151 u152 u153 u154 u155 u156 u157 u158 u159 u160 u161 u162 u163 u164 u165 u166 u167 u168 u169 u170 u171 u172 u173 u174 u175 u176 : Value) :
  (dropC 13 (Tryz.f29.body.getD .skip)).wp Tryz.prog (bodyPost Tryz.prog Tryz.f29 (SecE s gf base [.slice A n c] A fs w)) ⟨#[u0, .pointer (some ⟨gf, 0, none⟩), .pointer (some ⟨w.heap.size, 0, none⟩), u3, u4, u5, u6, u7, .pointer (some ⟨gs, 0, none⟩), u9, u10, u11, .slice Ap np cp, u13, u14, u15, u16, u17, u18, u19, u20, u21, u22, u23, u24, u25, u26, u27, u28, u29, u30, u31, u32, u33, u34, u35, u36, u37, u38, u39, u40, u41, u42, u43, u44, u45, u46, u47, u48, u49, u50, u51, u52, u53, u54, u55, u56, u57, u58, u59, u60, u61, u62, u63, u64, u65, u66, u67, u68, u69, u70, u71, u72, u73, u74, u75, u76, u77, u78, u79, u80, u81, u82, u83, u84, u85, u86, u87, u88, u89, u90, u91, u92, u93, u94, u95, u96, u97, u98, u99, u100, u101, u102, u103, u104, u105, u106, u107, u108, u109, u110, u111, u112, u113, u114, u115, u116, u117, u118, u119, u120, u121, u122, u123, u124, u125, u126, u127, u128, u129, u130, u131, u132, u133, u134, u135, u136, u137, u138, u139, u140, u141, u142, u143, u144, u145, u146, u147, u148, u149, u150, u151, u152, u153, u154, u155, u156, u157, u158, u159, u160, u161, u162, u163, u164, u165, u166, u167, u168, u169, u170, u171, u172, u173, u174, u175, u176], []⟩ wc := by
 conv => arg 2; whnf
 have hnp : np <= 5 := by
  have h1 := vJs s.x
  have h2 := congrArg List.length hqs
  rw [List.length_map] at h2
  have := hP.len
  omega
 have hsl := hS.len
 rw [yJ0] at hsl
 have hh2 := xJr s.x.dyn
 have hns : ns <= 160 := by omega
 have hrm := room_le s.x n1
 have y0 := hS.cell
 have hgsl := hS.blk.lt
 have hbl := Blk.new wc 71 [.slice As ns cs0]
 have HP := zJ2 hP
 have HS := zJ2 hS
 have HF := zJ2 hF
 have HxB := zJ2 hxB
 have Hqs := zJ2 hqs
 have Hbw := zJ2 hbw
 have Hsl := zJ2 hsl
 clear hP hS hF hxB hqs hbw hsl hh2
 have hE0 : FiE 71 wc.heap.size 0 [.slice As ns cs0] w.heap.size As wc (wc.alloc (.cells #[.slice As ns cs0] 71)) As ns cs0 (Mk.entsB (Mk.heads2 s.x.dyn)) :=
  FiE.after (zJ3 _ _) (FiE.refl ⟨hbl, rfl, own_below (zJ1 HS).row (zJ3 _ _), fun e => by have := (zJ7 (zJ1 HS).row _ e).2; omega⟩)
 have hO0 : OldK 5 1 (wc.alloc (.cells #[.slice As ns cs0] 71)) w.heap.size As ns cs0 (bys (Mk.entsB (Mk.heads2 s.x.dyn))) As ns cs0 := OldK.refl (own_below (zJ1 HS).row (zJ3 _ _))
 have HE0 := zJ2 hE0
 have HO0 := zJ2 hO0
 clear hE0 hO0 hbl
 go_wp2_with fail
 go_loopg [124] np (fun gk iv wr => ∃ (i : Nat) (A' : Option Addr) (c' : Nat), gk = np - i /\ i <= np /\ iv = .int .i64 i /\ FiE 71 wc.heap.size 0 [.slice As ns cs0] w.heap.size As wc wr A' (ns + 16 * (Mk.told ((Mk.parts s.x).take i)).length) c' (Mk.entsB (Mk.heads2 s.x.dyn) ++ Mk.entsB (Mk.told ((Mk.parts s.x).take i))) /\ OldK 5 1 wr w.heap.size As ns cs0 (bys (Mk.entsB (Mk.heads2 s.x.dyn))) A' (ns + 16 * (Mk.told ((Mk.parts s.x).take i)).length) c')
 case atStart => exact ⟨0, As, cs0, by omega, by omega, rfl, by simpa [Mk.told, Mk.entsB] using zJ1 HE0, by simpa [Mk.told] using zJ1 HO0⟩
 case round =>
 clear HE0 HO0 y0
 obtain ⟨i, A', c', hgk, hi, rfl, hE, hO⟩ := hrel
 have Hgk := zJ2 hgk
 have hPr := (zJ1 HP).same (w' := wr) (fun k h1 h2 h3 h4 => hE.block k h2 (by omega) h4)
 have HE := zJ2 hE
 have HO := zJ2 hO
 have hwr := hE.size
 clear hgk hE hO
 by_cases hlt : i < np
 ·obtain ⟨q, hq⟩ : ∃ q, qs[i]? = some q := ⟨_, List.getElem?_eq_getElem (by have := hPr.len; omega)⟩
  have hqp : (Mk.parts s.x)[i]? = some q.p := by rw [<- zJ1 Hqs, List.getElem?_map, hq]; rfl
  have Ht := zJ2 (told_next hqp)
  obtain ⟨kp, op, hAp, -, st0, st1⟩ := part_at (Rd.of_own hPr.row) hq
  subst hAp
  have ilt : (i : Int) < (np : Int) := by omega
  have hb1 := zJ3 wr (.cells #[.slice q.A q.n q.c, .func (.func (tellF q.k)) #[] #[]] 158)
  have hl16 : (Mk.told ((Mk.parts s.x).take i)).length <= 15 := by
   have h1 := told_len ((Mk.parts s.x).take i)
   rw [List.length_take] at h1
   omega
  have hent : (Mk.entsB (Mk.told ((Mk.parts s.x).take i))).length = 16 * (Mk.told ((Mk.parts s.x).take i)).length := yJ0 _
  have KT : Hid (Calls Tryz.prog (tellF q.k) #[.pointer (some ⟨wc.heap.size, 0, none⟩), .int .u64 0, .int .i64 0] (wr.alloc (.cells #[.slice q.A q.n q.c, .func (.func (tellF q.k)) #[] #[]] 158)) (TellE 71 wc.heap.size 0 ([.slice As ns cs0].set 0 (.slice A' (ns + 16 * (Mk.told ((Mk.parts s.x).take i)).length) c')) w.heap.size A' (ns + 16 * (Mk.told ((Mk.parts s.x).take i)).length) c' (Mk.entsB (Mk.heads2 s.x.dyn) ++ Mk.entsB (Mk.told ((Mk.parts s.x).take i))) (Mk.tell q.k 0 0) (wr.alloc (.cells #[.slice q.A q.n q.c, .func (.func (tellF q.k)) #[] #[]] 158)))) :=
   zJ2 (tell_any q.k _ wc.heap.size 0 _ w.heap.size A' _ c' 0 0 _ _ ((zJ1 HE).m.below hb1) (by have := hb1.size; have := (zJ1 Hbw).size; omega) (by omega) (by omega) (by omega))
  have Hb1 := zJ2 hb1
  have Hq := zJ2 hq
  have Hent := zJ2 hent
  clear hb1 hq hqp hent hPr hl16
  go_wp2_with fail
  rw [vJf, Oper.upon_enter]
  refine (zJ1 KT).mono ?_
  rintro e w5 ⟨rfl, A2, c2, hE2, hK2⟩
  have hE3 := ((zJ1 HE).then_ (zJ1 Hb1)).trans hE2
  have hO3 := OldK.step ((zJ1 HO).below (zJ1 Hb1)) hE2 hK2 (Nat.le_refl _) rfl (fun e => by have := ((zJ1 HS).lt _ e).2; omega) (zJ1 HS).len (by rw [zJ1 Hent])
  have hn3 : ns + 16 * (Mk.told ((Mk.parts s.x).take i)).length + 16 * (Mk.tell q.k 0 0).length = ns + 16 * (Mk.told ((Mk.parts s.x).take (i + 1))).length := by rw [zJ1 Ht, List.length_append]; show _ + 16 * (Mk.tell q.p.1 0 0).length = _; omega
  rw [hn3] at hE3 hO3
  rw [List.append_assoc, <- entsB_app, show Mk.told ((Mk.parts s.x).take i) ++ Mk.tell q.k 0 0 = Mk.told ((Mk.parts s.x).take (i + 1)) from (zJ1 Ht).symm] at hE3
  have HE3 := zJ2 hE3
  have HO3 := zJ2 hO3
  clear hE2 hK2 hE3 hO3 hn3 KT st0 st1
  go_wp2_with fail
  go_roundg (np - (i + 1))
  case measure => have := zJ1 Hgk; omega
  case rel => exact ⟨i + 1, A2, c2, rfl, by omega, by go_num, zJ1 HE3, zJ1 HO3⟩
 have hi' : i = np := by omega
 subst hi'
 have ige : ¬ (i : Int) < (i : Int) := by omega
 have hpl : (Mk.parts s.x).length = i := by rw [<- zJ1 Hqs, List.length_map]; exact hPr.len.symm
 have hE := zJ1 HE
 have hO := zJ1 HO
 rw [List.take_of_length_le (by omega)] at hE hO
 have hrm2 : ns + 16 * (Mk.told (Mk.parts s.x)).length = Mk.room s.x := by unfold Mk.room; rw [List.length_append]; have := zJ1 Hsl; omega
 rw [hrm2] at hE hO
 obtain ⟨rm, hrme⟩ : ∃ rm, Mk.room s.x = rm := ⟨_, rfl⟩
 rw [hrme] at hE hO hrm
 have Hrm := zJ2 hrme
 have y1 := hE.m.cell
 have hS4 : FiM wr 71 gs 0 [.slice As ns cs0] w.heap.size As ns cs0 (Mk.entsB (Mk.heads2 s.x.dyn)) := ⟨hE.blk (zJ1 HS).blk (by omega) (zJ1 HS).ne, rfl, hO.own, (zJ1 HS).ne⟩
 have hx4 := hE.blk (zJ1 HxB) (by have := (zJ1 HxB).lt; omega) hax
 have hb4 := (zJ1 Hbw).trans (hE.below (B := w.heap.size) (by have := (zJ1 Hbw).size; omega) (fun k hk => ((zJ1 HS).lt k hk).1) (zJ1 Hbw).size)
 have HS4 := zJ2 hS4
 have Hx4 := zJ2 hx4
 have Hb4 := zJ2 hb4
 have HPr := zJ2 hPr
 have Hpl := zJ2 hpl
 have hb4s := hb4.size
 obtain ⟨bi, hbi, hz0, hz1, hz2⟩ := info_parts yJw
 have Hbi := zJ2 hbi
 have Hz0 := zJ2 hz0
 have Hz1 := zJ2 hz1
 have Hz2 := zJ2 hz2
 clear hE hO hS4 hx4 hb4 hPr hlt hi HE HO hpl hrm2 hrme hbi hz0 hz1 hz2 HP
 go_wp2_with (at_make; refine wpList_make_full _ rfl _ _ 24 rfl wr.heap.size 5 bi (.int .u8 0) 1 Tryz.underlying24 (zJ1 Hbi) (zJ1 Hz0) (zJ1 Hz1) _ _ _ _ rm rfl (by rfl) rfl (by rfl) (by rw [zJ1 Hz2]; omega) (by unfold maxLen; omega) (Nat.le_refl _) ?_; intro w5 hown hgrow; have hb5 := (Below.refl wr.heap.size wr).grown hgrow (Nat.le_refl _) (fun k hk => by cases hk); rw [uJ7] at hown; have Hown := zJ2 hown; have Hb5 := zJ2 hb5; clear hown hgrow hb5)
 have hL : LoS gf gs base [.slice A n c] A As w w5 w5 fs (Mk.entsB (Mk.heads2 s.x.dyn)) none := by
  have hb5 := (zJ1 Hb4).trans ((zJ1 Hb5).mono (zJ1 Hb4).size)
  have hF := zJ1 HF
  have hS5 := (zJ1 HS4).below (zJ1 Hb5)
  have hnl := (zJ1 HS).len
  refine ⟨⟨A, n, c, As, cs0, (FiE.refl hF).then_ hb5, by rw [hnl]; exact hS5, fun k h1 h2 => ?_, fun e => ?_, fun k hk => .inl hk, fun k hk => .inl hk, fun k hk => by cases hk⟩, fun k _ _ _ _ => rfl, by omega, hF.blk.lt, hF.lt, hbase, Nat.le_refl _, hb5.size⟩
  ·have := (hF.lt k h2).2; have := (hS5.lt k h1).1; omega
  ·have := (hF.lt _ e).2; omega
 have hP5 := (zJ1 HPr).calm (zJ1 Hb5)
 have hx5 := (zJ1 Hx4).belowSz (zJ1 Hb5)
 have hs5 := (zJ1 Hb5).size
 have KP := zJ2 (hL.callPut (by omega) (zJh (zJ1 Hown) (show w.heap.size <= wr.heap.size by omega)) (fun k hk => by
  have h1 := (zJ7 (zJ1 Hown) k hk).1
  exact ⟨by omega, fun e => by have := ((zJ1 HS).lt k e).2; omega⟩) (by omega))
 have HP5 := zJ2 hP5
 have Hx5 := zJ2 hx5
 clear hL hP5 hx5 Hown HS4 Hx4 HPr y1
 refine (zJ1 KP).mono ?_
 rintro e w6 ⟨rfl, hL, -⟩
 have hpd := xJj 8 (by omega) fs
 obtain ⟨p0, hp0⟩ : ∃ p0, (Mk.pad 8 fs).length = p0 := ⟨_, rfl⟩
 rw [hp0] at hpd ⊢
 have Hp0 := zJ2 hp0
 have hL0 : LoS gf gs base [.slice A n c] A As w w5 w6 (stAt s.x fs 0).1 (Mk.entsB (stAt s.x fs 0).2) none := hL.bind (by unfold stAt; rw [zJ1 Hrm]; rfl) rfl
 have HL0 := zJ2 hL0
 clear hL hL0 KP hp0
 go_wp2_with fail
 go_loopg [140] i (fun gk iv wr => ∃ j : Nat, gk = i - j /\ j <= i /\ iv = .int .i64 j /\ LoS gf gs base [.slice A n c] A As w w5 wr (stAt s.x fs j).1 (Mk.entsB (stAt s.x fs j).2) none)
 case atStart => exact ⟨0, by omega, by omega, rfl, zJ1 HL0⟩
 case round =>
 clear HL0
 rename_i wr0 _ _ _
 obtain ⟨j, hgk, hj, rfl, hL⟩ := hrel
 have Hgk := zJ2 hgk
 have HL := zJ2 hL
 have hPr := hL.parts (zJ1 HP5)
 have hxr := hL.blk (zJ1 Hx5) (Nat.le_refl _) (by omega) hax
 have hwr5 := hL.size
 have hww := hL.h3
 clear hgk hL
 by_cases hlt : j < i
 ·obtain ⟨q, hq⟩ : ∃ q, qs[j]? = some q := ⟨_, List.getElem?_eq_getElem (by have := hPr.len; omega)⟩
  have hqp : (Mk.parts s.x)[j]? = some q.p := by rw [<- zJ1 Hqs, List.getElem?_map, hq]; rfl
  have hqo := ((zJ1 HP5).own q (List.mem_of_getElem? hq))
  have hqn : q.b.length = q.n := by have := hqo.1.1; simpa [bys] using this
  have hstep := stAt_step (f := fs) hqp
  have hst1 := stAt_le fs j T n2 n3 hT
  have hst2 := stAt_ents (x := s.x) fs j
  rw [zJ1 Hrm] at hst1 hst2
  have hqle : q.n <= 4294967296 := by
   have h9 := part_len s.x n2 n3 T hT _ (List.mem_of_getElem? hqp)
   have h8 : q.p.2 = q.b := rfl
   rw [h8] at h9
   omega
  obtain ⟨f9, hf9⟩ : ∃ f9, (stAt s.x fs j).1 = f9 := ⟨_, rfl⟩
  obtain ⟨e9, he9⟩ : ∃ e9, (stAt s.x fs j).2 = e9 := ⟨_, rfl⟩
  rw [hf9] at hst1 hstep HL
  rw [he9] at hst2 hstep HL
  obtain ⟨kp, op, hAp, -, st0, st1⟩ := part_at (Rd.of_own hPr.row) hq
  subst hAp
  have ilt : (j : Int) < (i : Int) := by omega
  have hpad := xJj 8 (by omega) f9
  obtain ⟨p9, hp9⟩ : ∃ p9, (Mk.pad 8 f9).length = p9 := ⟨_, rfl⟩
  rw [hp9] at hpad hstep
  have hbs : Mk.base s.x <= 4194304 := by unfold Mk.base; split <;> omega
  have Hbs := zJ2 (show Mk.base s.x = Mk.base s.x from rfl)
  obtain ⟨b9, hb9⟩ : ∃ b9, Mk.base s.x = b9 := ⟨_, rfl⟩
  rw [hb9] at hbs hstep
  have hb1 := zJ3 wr (.cells #[.slice q.A q.n q.c, .func (.func (tellF q.k)) #[] #[]] 158)
  have hpb := Blk.new wr 158 [.slice q.A q.n q.c, .func (.func (tellF q.k)) #[] #[]]
  have hxp := hxr.belowSz hb1
  obtain ⟨a0, a1, a2, a3, a4, a5, a6, a7, a8, a9, a10, a11, a12⟩ := zJ6 hxp
  have z0 : (wr.alloc (.cells #[.slice q.A q.n q.c, .func (.func (tellF q.k)) #[] #[]] 158)).cell? ⟨wr.heap.size, 0, none⟩ = some (.slice q.A q.n q.c) := hpb.cell (i := 0) rfl
  have z1 : (wr.alloc (.cells #[.slice q.A q.n q.c, .func (.func (tellF q.k)) #[] #[]] 158)).cell? ⟨wr.heap.size, 1, none⟩ = some (.func (.func (tellF q.k)) #[] #[]) := hpb.cell (i := 1) rfl
  have HLp : Hid (LoS gf gs base [.slice A n c] A As w w5 (wr.alloc (.cells #[.slice q.A q.n q.c, .func (.func (tellF q.k)) #[] #[]] 158)) f9 (Mk.entsB e9) (some wr.heap.size)) := zJ2 ((zJ1 HL).lay _)
  have hwb : IntKind.u64.wrap ((b9 : Int) + (p9 : Int)) = (b9 : Int) + (p9 : Int) := by rw [IntKind.wrap_u64]; omega
  have hsz1 : (wr.alloc (.cells #[.slice q.A q.n q.c, .func (.func (tellF q.k)) #[] #[]] 158)).heap.size = wr.heap.size + 1 := by simp
  have hwp : w.heap.size < wr.heap.size := by have := hxr.lt; omega
  have KB : Hid (∀ W, Calls Tryz.prog 27 #[.agg #[.int .u16 (s.x.type : Nat), .int .u64 (s.x.entry : Nat), .string s.x.interp, .slice s.At s.x.text.length s.ct, .slice s.Ad s.x.data.length s.cd, .int .u64 (s.x.more : Nat), .bool s.x.dynamic, .slice s.A1 s.x.dyn.needed.length s.c1, .string s.x.dyn.soname, .string s.x.dyn.run, .slice s.A2 s.x.dyn.syms.length s.c2, .slice s.A3 s.x.dyn.relas.length s.c3, .int .i64 s.x.apart]] W fun e w' => e = .returned (.int .u64 (b9 : Nat)) /\ Below W.heap.size W w') := zJ2 (fun W => by have h9 := wJ7 s W; rw [hb9] at h9; exact h9)
  have Hb1 := zJ2 hb1
  have Hqo := zJ2 hqo
  have Hqn := zJ2 hqn
  have Hstep := zJ2 hstep
  have Hf9 := zJ2 hf9
  have Hp9 := zJ2 hp9
  have Hq := zJ2 hq
  have Hsz1 := zJ2 hsz1
  clear hb1 hq hqp hqo hqn hPr hstep hf9 he9 hp9 hb9 Hbs hsz1 hpb hxr hxp
  go_wp2_with fail
  refine wp_region_noPanic ?_
  refine wp_region_held_drew (S := fun W => W.cell? ⟨wr.heap.size, 0, none⟩ = some (.slice q.A q.n q.c) /\ W.cell? ⟨wr.heap.size, 1, none⟩ = some (.func (.func (tellF q.k)) #[] #[]) /\ W.cell? ⟨w.heap.size, 0, none⟩ = some (.int .u16 (s.x.type : Nat)) /\ W.cell? ⟨w.heap.size, 1, none⟩ = some (.int .u64 (s.x.entry : Nat)) /\ W.cell? ⟨w.heap.size, 2, none⟩ = some (.string s.x.interp) /\ W.cell? ⟨w.heap.size, 3, none⟩ = some (.slice s.At s.x.text.length s.ct) /\ W.cell? ⟨w.heap.size, 4, none⟩ = some (.slice s.Ad s.x.data.length s.cd) /\ W.cell? ⟨w.heap.size, 5, none⟩ = some (.int .u64 (s.x.more : Nat)) /\ W.cell? ⟨w.heap.size, 6, none⟩ = some (.bool s.x.dynamic) /\ W.cell? ⟨w.heap.size, 7, none⟩ = some (.slice s.A1 s.x.dyn.needed.length s.c1) /\ W.cell? ⟨w.heap.size, 8, none⟩ = some (.string s.x.dyn.soname) /\ W.cell? ⟨w.heap.size, 9, none⟩ = some (.string s.x.dyn.run) /\ W.cell? ⟨w.heap.size, 10, none⟩ = some (.slice s.A2 s.x.dyn.syms.length s.c2) /\ W.cell? ⟨w.heap.size, 11, none⟩ = some (.slice s.A3 s.x.dyn.relas.length s.c3) /\ W.cell? ⟨w.heap.size, 12, none⟩ = some (.int .i64 s.x.apart)) (by kernel_rfl) (⟨z0, z1, a0, a1, a2, a3, a4, a5, a6, a7, a8, a9, a10, a11, a12⟩) (fun HS0 => ?_)
  refine takeD (i := 0) (d := some 144) (v := ?_) rfl rfl (by kernel_rfl) (by kernel_rfl) (by kernel_rfl) (fun _ _ _ h => h) (Or.inl ⟨by rfl, ?y0⟩) HS0 ?_
  case y0 => (intro w' hSw; (try dsimp only at hSw); go_simp; (try with_reducible rfl))
  simp only [Act.put, List.setIfInBounds_toArray, List.set_cons_zero, List.set_cons_succ]
  refine takeD (i := 1) (d := some 145) (v := ?_) rfl rfl (by kernel_rfl) (by kernel_rfl) (by kernel_rfl) (fun _ _ _ h => h) (Or.inl ⟨by rfl, ?y1⟩) HS0 ?_
  case y1 => (intro w' hSw; (try dsimp only at hSw); go_simp; (try with_reducible rfl))
  simp only [Act.put, List.setIfInBounds_toArray, List.set_cons_zero, List.set_cons_succ]
  refine takeD (i := 2) (d := some 146) (v := ?_) rfl rfl (by kernel_rfl) (by kernel_rfl) (by kernel_rfl) (fun _ _ _ h => h) (Or.inl ⟨by rfl, ?y2⟩) HS0 ?_
  case y2 => (intro w' hSw; (try dsimp only at hSw); go_simp; (try with_reducible rfl))
  simp only [Act.put, List.setIfInBounds_toArray, List.set_cons_zero, List.set_cons_succ]
  refine takeD (i := 3) (d := some 147) (v := ?_) rfl rfl (by kernel_rfl) (by kernel_rfl) (by kernel_rfl) (fun _ _ _ h => h) (Or.inl ⟨by rfl, ?y3⟩) HS0 ?_
  case y3 => (intro w' hSw; (try dsimp only at hSw); go_simp; (try with_reducible rfl))
  simp only [Act.put, List.setIfInBounds_toArray, List.set_cons_zero, List.set_cons_succ]
  refine takeD (i := 5) (d := some 149) (v := ?_) rfl rfl (by kernel_rfl) (by kernel_rfl) (by kernel_rfl) (fun _ _ _ h => h) (Or.inl ⟨by rfl, ?y5⟩) HS0 ?_
  case y5 => (intro w' hSw; (try dsimp only at hSw); go_simp; (try with_reducible rfl))
  simp only [Act.put, List.setIfInBounds_toArray, List.set_cons_zero, List.set_cons_succ]
  refine takeD (i := 6) (d := some 150) (v := ?_) rfl rfl (by kernel_rfl) (by kernel_rfl) (by kernel_rfl) (fun _ _ _ h => h) (Or.inl ⟨by rfl, ?y6⟩) HS0 ?_
  case y6 => (intro w' hSw; (try dsimp only at hSw); go_simp; (try with_reducible rfl))
  simp only [Act.put, List.setIfInBounds_toArray, List.set_cons_zero, List.set_cons_succ]
  refine takeD (i := 7) (d := some 151) (v := ?_) rfl rfl (by kernel_rfl) (by kernel_rfl) (by kernel_rfl) (fun _ _ _ h => h) (Or.inl ⟨by rfl, ?y7⟩) HS0 ?_
  case y7 => (intro w' hSw; (try dsimp only at hSw); go_simp; (try with_reducible rfl))
  simp only [Act.put, List.setIfInBounds_toArray, List.set_cons_zero, List.set_cons_succ]
  refine takeD (i := 10) (d := some 154) (v := ?_) rfl rfl (by kernel_rfl) (by kernel_rfl) (by kernel_rfl) (fun _ _ _ h => h) (Or.inl ⟨by rfl, ?y10⟩) HS0 ?_
  case y10 => (intro w' hSw; (try dsimp only at hSw); go_simp; (try with_reducible rfl))
  simp only [Act.put, List.setIfInBounds_toArray, List.set_cons_zero, List.set_cons_succ]
  refine takeD (i := 11) (d := some 155) (v := ?_) rfl rfl (by kernel_rfl) (by kernel_rfl) (by kernel_rfl) (fun _ _ _ h => h) (Or.inl ⟨by rfl, ?y11⟩) HS0 ?_
  case y11 => (intro w' hSw; (try dsimp only at hSw); go_simp; (try with_reducible rfl))
  simp only [Act.put, List.setIfInBounds_toArray, List.set_cons_zero, List.set_cons_succ]
  refine takeD (i := 12) (d := some 156) (v := ?_) rfl rfl (by kernel_rfl) (by kernel_rfl) (by kernel_rfl) (fun _ _ _ h => h) (Or.inl ⟨by rfl, ?y12⟩) HS0 ?_
  case y12 => (intro w' hSw; (try dsimp only at hSw); go_simp; (try with_reducible rfl))
  simp only [Act.put, List.setIfInBounds_toArray, List.set_cons_zero, List.set_cons_succ]
  refine wpAnyH_ready (rs := [4]) (by kernel_rfl) (by simp) ?_
  refine AllReadyH.cons (i := 4) rfl (fun K hK => ?_) AllReadyH.nil
  rw [if_pos (by rfl)]
  go_simp
  go_at_call 27
  with_reducible refine ((zJ1 KB) _).mono ?_
  rintro e w7 ⟨rfl, hb7⟩
  have hb7 := zJn hb7
  have hL7 := (zJ1 HLp).calm hb7
  have hk7 : w7.heap[wr.heap.size]? = (wr.alloc (.cells #[.slice q.A q.n q.c, .func (.func (tellF q.k)) #[] #[]] 158)).heap[wr.heap.size]? := hb7.block _ (by rw [zJ1 Hsz1]; omega)
  have hx7 : w7.heap[w.heap.size]? = (wr.alloc (.cells #[.slice q.A q.n q.c, .func (.func (tellF q.k)) #[] #[]] 158)).heap[w.heap.size]? := hb7.block _ (by rw [zJ1 Hsz1]; omega)
  refine hK.out _ _ (⟨(zJ4 hk7 0).trans z0, (zJ4 hk7 1).trans z1, (zJ4 hx7 0).trans a0, (zJ4 hx7 1).trans a1, (zJ4 hx7 2).trans a2, (zJ4 hx7 3).trans a3, (zJ4 hx7 4).trans a4, (zJ4 hx7 5).trans a5, (zJ4 hx7 6).trans a6, (zJ4 hx7 7).trans a7, (zJ4 hx7 8).trans a8, (zJ4 hx7 9).trans a9, (zJ4 hx7 10).trans a10, (zJ4 hx7 11).trans a11, (zJ4 hx7 12).trans a12⟩) (fun hHeld => ?_)
  clear hK K HS0
  have HS0 := hHeld
  clear hHeld
  (try simp only [Act.put, List.setIfInBounds_toArray, List.set_cons_zero, List.set_cons_succ])
  refine wpAnyH_ready (rs := [8]) (by kernel_rfl) (by simp) ?_
  refine AllReadyH.cons (i := 8) rfl (fun K hK => ?_) AllReadyH.nil
  rw [if_pos (by rfl)]
  have KP := zJ2 (hL7.callPut (by omega) (zJ1 Hqo).1 (zJ1 Hqo).2 hqle)
  rw [zJ1 Hp9] at KP
  go_simp
  go_at_call 28
  with_reducible refine (zJ1 KP).mono ?_
  rintro e w8 ⟨rfl, hL8, hm8⟩
  have hk8 := (hm8 _ rfl).trans hk7
  have hx8 : w8.heap[w.heap.size]? = (wr.alloc (.cells #[.slice q.A q.n q.c, .func (.func (tellF q.k)) #[] #[]] 158)).heap[w.heap.size]? := (hL8.keep _ (Nat.le_refl _) (by have := (zJ1 Hx5).lt; omega) (by omega) hax).trans ((zJ1 HLp).keep _ (Nat.le_refl _) (by have := (zJ1 Hx5).lt; omega) (by omega) hax).symm
  refine hK.out _ _ (⟨(zJ4 hk8 0).trans z0, (zJ4 hk8 1).trans z1, (zJ4 hx8 0).trans a0, (zJ4 hx8 1).trans a1, (zJ4 hx8 2).trans a2, (zJ4 hx8 3).trans a3, (zJ4 hx8 4).trans a4, (zJ4 hx8 5).trans a5, (zJ4 hx8 6).trans a6, (zJ4 hx8 7).trans a7, (zJ4 hx8 8).trans a8, (zJ4 hx8 9).trans a9, (zJ4 hx8 10).trans a10, (zJ4 hx8 11).trans a11, (zJ4 hx8 12).trans a12⟩) (fun hHeld => ?_)
  clear hK K HS0
  have HS0 := hHeld
  clear hHeld
  (try simp only [Act.put, List.setIfInBounds_toArray, List.set_cons_zero, List.set_cons_succ])
  refine takeD (i := 9) (d := some 153) (v := .int .u64 ((b9 : Int) + (p9 : Int))) rfl rfl (by kernel_rfl) (by kernel_rfl) (by kernel_rfl) (fun _ _ _ h => h) (Or.inl ⟨by rfl, ?y9⟩) HS0 ?_
  case y9 => (intro w' hSw; (try dsimp only at hSw); go_simp; (try rw [hwb]))
  simp only [Act.put, List.setIfInBounds_toArray, List.set_cons_zero, List.set_cons_succ]
  refine wpAnyH_ready (rs := [13]) (by kernel_rfl) (by simp) ?_
  refine AllReadyH.cons (i := 13) rfl (fun K hK => ?_) AllReadyH.nil
  rw [if_pos (by rfl)]
  have hss9 : (Mk.entsB e9).length <= 17592186044416 := by omega
  have KT := zJ2 (hL8.callTell q.k (b9 + p9) q.n ((b9 : Int) + (p9 : Int)) (q.n : Int) (by omega) rfl hss9 (by omega) hqle)
  go_simp
  rw [vJf, Oper.upon_enter]
  refine (zJ1 KT).mono ?_
  rintro e w9 ⟨rfl, hL9, hm9⟩
  have hk9 := (hm9 _ rfl).trans hk8
  have hx9 : w9.heap[w.heap.size]? = (wr.alloc (.cells #[.slice q.A q.n q.c, .func (.func (tellF q.k)) #[] #[]] 158)).heap[w.heap.size]? := (hL9.keep _ (Nat.le_refl _) (by have := (zJ1 Hx5).lt; omega) (by omega) hax).trans ((zJ1 HLp).keep _ (Nat.le_refl _) (by have := (zJ1 Hx5).lt; omega) (by omega) hax).symm
  have HL9 := zJ2 hL9
  refine hK.out _ _ (⟨(zJ4 hk9 0).trans z0, (zJ4 hk9 1).trans z1, (zJ4 hx9 0).trans a0, (zJ4 hx9 1).trans a1, (zJ4 hx9 2).trans a2, (zJ4 hx9 3).trans a3, (zJ4 hx9 4).trans a4, (zJ4 hx9 5).trans a5, (zJ4 hx9 6).trans a6, (zJ4 hx9 7).trans a7, (zJ4 hx9 8).trans a8, (zJ4 hx9 9).trans a9, (zJ4 hx9 10).trans a10, (zJ4 hx9 11).trans a11, (zJ4 hx9 12).trans a12⟩) (fun hHeld => ?_)
  clear hK K HS0
  have HS0 := hHeld
  clear hHeld
  (try simp only [Act.put, List.setIfInBounds_toArray, List.set_cons_zero, List.set_cons_succ])
  refine wpAnyH_done (by kernel_rfl) ?_ _
  refine NoPanic.normal ?_
  clear HS0 z0 z1 a0 a1 a2 a3 a4 a5 a6 a7 a8 a9 a10 a11 a12 KB
  go_wp2_with fail
  go_roundg (i - (j + 1))
  case measure => have := zJ1 Hgk; omega
  case rel => exact ⟨j + 1, rfl, by omega, by go_num, (zJ1 HL9).drop.bind (by rw [zJ1 Hstep]; rfl) (by rw [zJ1 Hstep, entsB_app]; show _ = _ ++ Mk.entsB (Mk.tell q.k (b9 + p9) q.b.length); rw [zJ1 Hqn])⟩
 have hj' : j = i := by omega
 subst hj'
 have jge : ¬ (j : Int) < (j : Int) := by omega
 have hL := zJ1 HL
 rw [stAt_end (by rw [zJ1 Hpl]; omega)] at hL
 obtain ⟨Af, nf, cf, A2, c2, hE, hM, hd1, hd2, -⟩ := hL.st
 have hel : (Mk.entsB (Mk.laidParts s.x fs).2).length = rm := by rw [xJb, zJ1 Hrm]
 rw [hel] at hM
 have hl1 := wJe s.x fs
 have hl0 : (Mk.st0 s.x fs).1.length = p0 + rm := by unfold Mk.st0; rw [List.length_append, yJj, zJ1 Hp0, zJ1 Hrm]
 rw [hl0] at hl1
 have hnf := hE.m.len
 have hnf2 : p0 + rm <= nf := by omega
 have hrm0 : 0 < rm := by
  have h1 := zJ1 Hrm
  unfold Mk.room Mk.parts at h1
  rw [uJo] at h1
  have h5 : (Mk.told [(4, Mk.texts3 s.x.dyn)]).length = 3 := rfl
  simp only [List.length_append, h5] at h1
  omega
 obtain ⟨kf, hkf, -, hkf2⟩ := xJ9 hE.m.row (by omega)
 subst hkf
 obtain ⟨kb, hkb, -, -⟩ := xJ9 hM.row (by omega)
 subst hkb
 have hcf := (wJb hE.m.row).2.2
 have x0 : wr.cell? ⟨gf, 0, none⟩ = some (.slice (some ⟨kf, 0, none⟩) nf cf) := hE.m.cell
 have x1 := hM.cell
 have ks : ∀ w', (Instr.slice 24 (.slice (some ⟨kf, 0, none⟩) nf cf) (some (.int .u64 (p0 : Nat))) none none).run Tryz.prog w' = .ok (.slice (some ⟨kf, p0, none⟩) (nf - p0) (cf - p0)) w' := fun w' => by
  have h := xJ1 (P := Tryz.prog) Tryz.underlying24 u8sz .u64 (some ⟨kf, 0, none⟩) nf cf p0 (by omega) w'
  unfold fromA at h
  rw [if_neg (by omega), Option.map_some, Addr.add_lit, Nat.zero_add] at h
  exact h
 have hgk : gf ≠ kf := fun e => hE.m.ne (by rw [<- e]; rfl)
 have hsk : gs ≠ kf := fun e => hd2 (by rw [e]; rfl)
 have hwrm : IntKind.u64.wrap (rm : Int) = (rm : Int) := by rw [IntKind.wrap_u64]; omega
 have HE9 := zJ2 hE
 have HM9 := zJ2 hM
 have Hcpr := zJ2 (Rd.of_own hM.row)
 have Hwrm := zJ2 hwrm
 clear hL hE hM hd1 hd2 hel hl1 hl0 hPr hxr HL HP5 hwrm
 go_wp2_with fail
 refine wp_region_noPanic ?_
 refine wp_region_held_drew (S := fun W => W.cell? ⟨gf, 0, none⟩ = some (.slice (some ⟨kf, 0, none⟩) nf cf) /\ W.cell? ⟨gs, 0, none⟩ = some (.slice (some ⟨kb, 0, none⟩) rm c2)) (by kernel_rfl) (⟨x0, x1⟩) (fun HS0 => ?_)
 refine takeD (i := 0) (d := some 159) (v := ?_) rfl rfl (by kernel_rfl) (by kernel_rfl) (by kernel_rfl) (fun _ _ _ h => h) (Or.inl ⟨by rfl, ?y0⟩) HS0 ?_
 case y0 => (intro w' hSw; (try dsimp only at hSw); go_simp; (try with_reducible rfl))
 simp only [Act.put, List.setIfInBounds_toArray, List.set_cons_zero, List.set_cons_succ]
 refine takeD (i := 1) (d := some 160) (v := ?_) rfl rfl (by kernel_rfl) (by kernel_rfl) (by kernel_rfl) (fun _ _ _ h => h) (Or.inl ⟨by rfl, ?y1⟩) HS0 ?_
 case y1 => (intro w' hSw; (try dsimp only at hSw); go_simp; (try with_reducible rfl))
 simp only [Act.put, List.setIfInBounds_toArray, List.set_cons_zero, List.set_cons_succ]
 refine takeD (i := 2) (d := some 161) (v := ?_) rfl rfl (by kernel_rfl) (by kernel_rfl) (by kernel_rfl) (fun _ _ _ h => h) (Or.inl ⟨by rfl, ?y2⟩) HS0 ?_
 case y2 => (intro w' hSw; (try dsimp only at hSw); go_simp; (try with_reducible rfl))
 simp only [Act.put, List.setIfInBounds_toArray, List.set_cons_zero, List.set_cons_succ]
 refine takeD (i := 3) (d := some 162) (v := ?_) rfl rfl (by kernel_rfl) (by kernel_rfl) (by kernel_rfl) (fun _ _ _ h => h) (Or.inl ⟨by rfl, ?y3⟩) HS0 ?_
 case y3 => (intro w' hSw; (try dsimp only at hSw); go_simp; (try with_reducible rfl))
 simp only [Act.put, List.setIfInBounds_toArray, List.set_cons_zero, List.set_cons_succ]
 refine takeD (i := 4) (d := some 163) (v := ?_) rfl rfl (by kernel_rfl) (by kernel_rfl) (by kernel_rfl) (fun _ _ _ h => h) (Or.inl ⟨by rfl, ?y4⟩) HS0 ?_
 case y4 => (intro w' hSw; (try dsimp only at hSw); go_simp; (try with_reducible rfl))
 simp only [Act.put, List.setIfInBounds_toArray, List.set_cons_zero, List.set_cons_succ]
 refine takeD (i := 5) (d := some 164) (v := .slice (some ⟨kf, p0, none⟩) (nf - p0) (cf - p0)) rfl rfl (by kernel_rfl) (by kernel_rfl) (by kernel_rfl) (fun _ _ _ h => h) (Or.inl ⟨by rfl, ?y5⟩) HS0 ?_
 case y5 => (intro w' hSw; (try dsimp only at hSw); go_simp; (try simp [ks]))
 simp only [Act.put, List.setIfInBounds_toArray, List.set_cons_zero, List.set_cons_succ]
 refine takeD (i := 6) (d := some 165) (v := ?_) rfl rfl (by kernel_rfl) (by kernel_rfl) (by kernel_rfl) (fun _ _ _ h => h) (Or.inl ⟨by rfl, ?y6⟩) HS0 ?_
 case y6 => (intro w' hSw; (try dsimp only at hSw); go_simp; (try with_reducible rfl))
 simp only [Act.put, List.setIfInBounds_toArray, List.set_cons_zero, List.set_cons_succ]
 refine takeD (i := 7) (d := some 166) (v := ?_) rfl rfl (by kernel_rfl) (by kernel_rfl) (by kernel_rfl) (fun _ _ _ h => h) (Or.inl ⟨by rfl, ?y7⟩) HS0 ?_
 case y7 => (intro w' hSw; (try dsimp only at hSw); go_simp; (try with_reducible rfl))
 simp only [Act.put, List.setIfInBounds_toArray, List.set_cons_zero, List.set_cons_succ]
 refine takeD (i := 8) (d := some 167) (v := ?_) rfl rfl (by kernel_rfl) (by kernel_rfl) (by kernel_rfl) (fun _ _ _ h => h) (Or.inl ⟨by rfl, ?y8⟩) HS0 ?_
 case y8 => (intro w' hSw; (try dsimp only at hSw); go_simp; (try with_reducible rfl))
 simp only [Act.put, List.setIfInBounds_toArray, List.set_cons_zero, List.set_cons_succ]
 refine takeD (i := 9) (d := some 168) (v := ?_) rfl rfl (by kernel_rfl) (by kernel_rfl) (by kernel_rfl) (fun _ _ _ h => h) (Or.inl ⟨by rfl, ?y9⟩) HS0 ?_
 case y9 => (intro w' hSw; (try dsimp only at hSw); go_simp; (try with_reducible rfl))
 simp only [Act.put, List.setIfInBounds_toArray, List.set_cons_zero, List.set_cons_succ]
 refine wpAnyH_ready (rs := [10]) (by kernel_rfl) (by simp) ?_
 refine AllReadyH.cons (i := 10) rfl (fun K hK => ?_) AllReadyH.nil
 rw [if_pos (by rfl)]
 refine wp_copyB (.tmp 164) (.tmp 168) rfl kf p0 (nf - p0) (cf - p0) base nf cf _ _ rfl (zJ1 HE9).m.row kb 0 rm c2 _ rfl (zJ1 Hcpr) (by omega) (by omega) ?_
 rintro w9 ho9 ⟨cs, rfl⟩
 have hEF := (zJ1 HE9).copy cs ho9
 have HEF := zJ2 hEF
 have x2 := (zJ4 (setRow_other _ kf gs cs hsk) 0).trans x1
 clear ho9 hEF
 show K (Act.put _ (some 169) _) _
 refine hK.out _ _ (⟨(zJ4 (setRow_other _ kf gf cs hgk) 0).trans x0, x2⟩) (fun hHeld => ?_)
 clear hK K HS0
 have HS0 := hHeld
 clear hHeld
 (try simp only [Act.put, List.setIfInBounds_toArray, List.set_cons_zero, List.set_cons_succ])
 refine wpAnyH_done (by kernel_rfl) ?_ _
 refine NoPanic.normal ?_
 clear HS0 x0 ks
 go_wp2_with fail
 refine wp_region_noPanic ?_
 refine wp_region_held_drew (S := fun W => W.cell? ⟨gs, 0, none⟩ = some (.slice (some ⟨kb, 0, none⟩) rm c2)) (by kernel_rfl) (x2) (fun HS0 => ?_)
 refine takeD (i := 0) (d := some 170) (v := ?_) rfl rfl (by kernel_rfl) (by kernel_rfl) (by kernel_rfl) (fun _ _ _ h => h) (Or.inl ⟨by rfl, ?y0⟩) HS0 ?_
 case y0 => (intro w' hSw; (try dsimp only at hSw); go_simp; (try with_reducible rfl))
 simp only [Act.put, List.setIfInBounds_toArray, List.set_cons_zero, List.set_cons_succ]
 refine takeD (i := 1) (d := some 171) (v := ?_) rfl rfl (by kernel_rfl) (by kernel_rfl) (by kernel_rfl) (fun _ _ _ h => h) (Or.inl ⟨by rfl, ?y1⟩) HS0 ?_
 case y1 => (intro w' hSw; (try dsimp only at hSw); go_simp; (try with_reducible rfl))
 simp only [Act.put, List.setIfInBounds_toArray, List.set_cons_zero, List.set_cons_succ]
 refine takeD (i := 2) (d := some 172) (v := ?_) rfl rfl (by kernel_rfl) (by kernel_rfl) (by kernel_rfl) (fun _ _ _ h => h) (Or.inl ⟨by rfl, ?y2⟩) HS0 ?_
 case y2 => (intro w' hSw; (try dsimp only at hSw); go_simp; (try with_reducible rfl))
 simp only [Act.put, List.setIfInBounds_toArray, List.set_cons_zero, List.set_cons_succ]
 refine takeD (i := 3) (d := some 173) (v := ?_) rfl rfl (by kernel_rfl) (by kernel_rfl) (by kernel_rfl) (fun _ _ _ h => h) (Or.inl ⟨by rfl, ?y3⟩) HS0 ?_
 case y3 => (intro w' hSw; (try dsimp only at hSw); go_simp; (try with_reducible rfl))
 simp only [Act.put, List.setIfInBounds_toArray, List.set_cons_zero, List.set_cons_succ]
 refine takeD (i := 4) (d := some 174) (v := ?_) rfl rfl (by kernel_rfl) (by kernel_rfl) (by kernel_rfl) (fun _ _ _ h => h) (Or.inl ⟨by rfl, ?y4⟩) HS0 ?_
 case y4 => (intro w' hSw; (try dsimp only at hSw); go_simp; (try with_reducible rfl))
 simp only [Act.put, List.setIfInBounds_toArray, List.set_cons_zero, List.set_cons_succ]
 refine takeD (i := 5) (d := some 175) (v := ?_) rfl rfl (by kernel_rfl) (by kernel_rfl) (by kernel_rfl) (fun _ _ _ h => h) (Or.inl ⟨by rfl, ?y5⟩) HS0 ?_
 case y5 => (intro w' hSw; (try dsimp only at hSw); go_simp; (try with_reducible rfl))
 simp only [Act.put, List.setIfInBounds_toArray, List.set_cons_zero, List.set_cons_succ]
 refine takeD (i := 6) (d := some 176) (v := .int .u64 (rm : Nat)) rfl rfl (by kernel_rfl) (by kernel_rfl) (by kernel_rfl) (fun _ _ _ h => h) (Or.inl ⟨by rfl, ?y6⟩) HS0 ?_
 case y6 => (intro w' hSw; (try dsimp only at hSw); go_simp; (try rw [zJ1 Hwrm]))
 simp only [Act.put, List.setIfInBounds_toArray, List.set_cons_zero, List.set_cons_succ]
 refine takeD (i := 7) (d := some 4) (v := ?_) rfl rfl (by kernel_rfl) (by kernel_rfl) (by kernel_rfl) (fun _ _ _ h => h) (Or.inl ⟨by rfl, ?y7⟩) HS0 ?_
 case y7 => (intro w' hSw; (try dsimp only at hSw); go_simp; (try with_reducible rfl))
 simp only [Act.put, List.setIfInBounds_toArray, List.set_cons_zero, List.set_cons_succ]
 refine takeD (i := 8) (d := some 5) (v := ?_) rfl rfl (by kernel_rfl) (by kernel_rfl) (by kernel_rfl) (fun _ _ _ h => h) (Or.inl ⟨by rfl, ?y8⟩) HS0 ?_
 case y8 => (intro w' hSw; (try dsimp only at hSw); go_simp; (try with_reducible rfl))
 simp only [Act.put, List.setIfInBounds_toArray, List.set_cons_zero, List.set_cons_succ]
 refine wpAnyH_done (by kernel_rfl) ?_ _
 refine NoPanic.normal ?_
 clear HS0 x2
 go_wp2_with fail
 go_ret2
 have hsec : Mk.section_ s.x fs = Mk.over (Mk.laidParts s.x fs).1 p0 (Mk.entsB (Mk.laidParts s.x fs).2) := by unfold Mk.section_; rw [zJ1 Hp0]
 refine ⟨some ⟨kf, 0, none⟩, nf, cf, by rw [zJ1 Hrm, zJ1 Hp0]; first | rfl | (rw [zJ1 Hwrm]; rfl), ?_⟩
 rw [hsec]
 exact (zJ1 HEF).then_ (zJ5 (zJ5 (Below.refl _ _)))
theorem partTy : SlTy Tryz.prog 153 158 2 32 := yJx (z := .agg #[.slice none 0 0, .nilFunc]) Tryz.underlying153 (by kernel_rfl) rfl (by omega) (by omega)
structure SeB (h0 B gs gt gd bt : Nat) (s : Xq) (Af : Option Addr) (cf : Nat) (At : Option Addr) (nt ct : Nat) (ts ss : List UInt8) (w w2 : World) : Prop where
 x : Blk w2 h0 66 s.l
 xq : XqM w2 B s
 tb : FiM w2 150 gt 0 [.slice At nt ct] bt At nt ct ts
 sf : FiM w2 71 gs 0 [.slice Af ss.length cf] h0 Af ss.length cf ss
 d : Blk w2 gd 29 s.q.l
 d1 : ∀ k, bk At = some k -> k ≠ gs /\ bk Af ≠ some k
 below : Below h0 w w2
 h1 : h0 <= w2.heap.size
 h2 : B <= h0
section
variable {h0 B gs gt gd bt cf nt ct : Nat} {s : Xq} {Af At : Option Addr} {ts ss : List UInt8} {w w2 wr : World}
theorem SeB.calm (h : SeB h0 B gs gt gd bt s Af cf At nt ct ts ss w w2) (hb : Below w2.heap.size w2 wr) : SeB h0 B gs gt gd bt s Af cf At nt ct ts ss w wr :=
 ⟨h.x.belowSz hb, h.xq.below (hb.mono (Nat.le_trans h.h2 h.h1)), h.tb.below hb, h.sf.below hb, h.d.belowSz hb, h.d1, h.below.trans (hb.mono h.h1), Nat.le_trans h.h1 hb.size, h.h2⟩
end
theorem PaS.add1 {h0 np cp : Nat} {av : Nat -> Prop} {w2 wr w' : World} {qs : List PQ} {Ap : Option Addr} (h : PaS h0 av w2 wr qs Ap np cp) (q : PQ) {A2 : Option Addr} {c2 : Nat} (hnew : wr.ownsRow h0 5 1 (.slice q.A q.n q.c) q.n (bys q.b) /\ ∀ k, bk q.A = some k -> bk Ap ≠ some k /\ av k)
  (ho : w'.ownsRow w2.heap.size 158 2 (.slice A2 (np + 1) c2) (np + 1) (partC qs ++ q.cells)) (hg : wr.grownBy w' (Value.slice Ap np cp).ownBlock) (ha : ∀ k, (Value.slice A2 (np + 1) c2).ownBlock = some k -> (Value.slice Ap np cp).ownBlock = some k \/ wr.heap.size <= k) : PaS h0 av w2 w' (qs ++ [q]) A2 (np + 1) c2 :=
 h.add [q] rfl (fun q' hq => by rw [List.mem_singleton.1 hq]; exact hnew) (by rw [partC_one]; exact ho) hg ha
theorem cells_one (q : PQ) : ∀ u ∈ q.cells, u.oneCell' = true := by
 intro u hu
 simp only [PQ.cells, List.mem_cons, List.not_mem_nil, or_false] at hu
 rcases hu with rfl | rfl <;> rfl
theorem xJv {w : World} {g : Nat} {s : Xq} (h : Blk w g 29 s.q.l) : w.cell? ⟨g, 0, none⟩ = some (.slice s.A1 s.x.dyn.needed.length s.c1) /\ w.cell? ⟨g, 1, none⟩ = some (.string s.x.dyn.soname) /\ w.cell? ⟨g, 2, none⟩ = some (.string s.x.dyn.run) /\ w.cell? ⟨g, 3, none⟩ = some (.slice s.A2 s.x.dyn.syms.length s.c2) /\ w.cell? ⟨g, 4, none⟩ = some (.slice s.A3 s.x.dyn.relas.length s.c3) :=
 ⟨h.cell (i := 0) rfl, h.cell (i := 1) rfl, h.cell (i := 2) rfl, h.cell (i := 3) rfl, h.cell (i := 4) rfl⟩
set_option maxRecDepth 100000 in
set_option maxHeartbeats 60000000 in
theorem psecB (s : Xq) (gf gs gt gd base n c B nt0 ct0 cf bt T : Nat) (A Af At0 : Option Addr) (fs : List UInt8) (w wc : World) (hF : FiM w 71 gf 0 [.slice A n c] base A n c fs) (hbase : base <= w.heap.size) (hfs : fs.length <= 1073741824)
  (hb : SeB w.heap.size B gs gt gd bt s Af cf At0 nt0 ct0 (Mk.texts2 s.x.dyn) (Mk.entsB (Mk.heads2 s.x.dyn)) w wc) (hgs : w.heap.size < gs) (hbt : w.heap.size < bt) (hbt2 : bt <= wc.heap.size) (hgt : w.heap.size < gt) (e1 : gs ≠ gt) (e2 : gd ≠ gt) (e3 : bk At0 ≠ some gd) (e4 : bk Af ≠ some gt) (e5 : bk Af ≠ some w.heap.size)
  (hm : MayOk s.x) (hf : MkFit s) (hT : (Mk.texts3 s.x.dyn).length <= T) (hT2 : T <= 536870912)
  (u0 u3 u4 u5 u10 u11 u12 u13 u14 u15 u16 u17 u18 u19 u20 u21 u22 u23 u24 u25 u26 u27 u28 u29 u30 u31 u32 u33 u34 u35 u36 u37 u38 u39 u40 u41 u42 u43 u44 u45 u46 u47 u48 u49 u50 u51 u52 u53 u54 u55 u56 u57 u58 u59 u60 u61 u62 u63 u64 u65 u66 u67 u68 u69 u70 u71 u72 u73 u74 u75 u76 u77 u78 u79 u80 u81 u82 u83 u84 u85 u86 u87 u88 u89 u90 u91 u92 u93 u94 u95 u96 u97 u98 u99 u100 u101 u102 u103 u104 u105 u106 u107 u108 u109 u110 u111 u112 u113 u114 u115 u116 u117 u118 u119 u120 u121 u122 u123 u124 u125 u126 u127 u128 u129 u130 u131 u132 u133 u134 u135 u136 u137 u138 u139 u140 u141 u142 u143 u144 u145 u146 u147 u148 u149 u150 u151 u152 u153 u154 u155 u156 u157 u158 u159 u160 u161 u162 u163 u164 u165 u166 u167 u168 u169 u170 u171 u172 u173 u174 u175 u176 : Value) :
  (dropC 7 (Tryz.f29.body.getD .skip)).wp Tryz.prog (bodyPost Tryz.prog Tryz.f29 (SecE s gf base [.slice A n c] A fs w)) ⟨#[u0, .pointer (some ⟨gf, 0, none⟩), .pointer (some ⟨w.heap.size, 0, none⟩), u3, u4, u5, .pointer (some ⟨gt, 0, none⟩), .func (.func 71) #[.pointer (some ⟨gt, 0, none⟩)] #[], .pointer (some ⟨gs, 0, none⟩), .pointer (some ⟨gd, 0, none⟩), u10, u11, u12, u13, u14, u15, u16, u17, u18, u19, u20, u21, u22, u23, u24, u25, u26, u27, u28, u29, u30, u31, u32, u33, u34, u35, u36, u37, u38, u39, u40, u41, u42, u43, u44, u45, u46, u47, u48, u49, u50, u51, u52, u53, u54, u55, u56, u57, u58, u59, u60, u61, u62, u63, u64, u65, u66, u67, u68, u69, u70, u71, u72, u73, u74, u75, u76, u77, u78, u79, u80, u81, u82, u83, u84, u85, u86, u87, u88, u89, u90, u91, u92, u93, u94, u95, u96, u97, u98, u99, u100, u101, u102, u103, u104, u105, u106, u107, u108, u109, u110, u111, u112, u113, u114, u115, u116, u117, u118, u119, u120, u121, u122, u123, u124, u125, u126, u127, u128, u129, u130, u131, u132, u133, u134, u135, u136, u137, u138, u139, u140, u141, u142, u143, u144, u145, u146, u147, u148, u149, u150, u151, u152, u153, u154, u155, u156, u157, u158, u159, u160, u161, u162, u163, u164, u165, u166, u167, u168, u169, u170, u171, u172, u173, u174, u175, u176], []⟩ wc := by
 conv => arg 2; whnf
 have n1 := hm.n1
 have n2 := hm.n2
 have n3 := hm.n3
 have ha0 := hm.a0
 have ha1 := hm.a1
 have hq := hf.dq hm
 have hok := hf.ok.dyn
 have hnm : ∀ y ∈ s.x.dyn.syms, y.name.size <= 4294967296 := hok.s2
 have hc3 : s.x.dyn.relas.length <= s.c3 := hok.c3
 have hsy : ∀ y ∈ s.x.dyn.syms, SyOk y := hq.sy
 have hre : ∀ r ∈ s.x.dyn.relas, MrOk r := hq.re
 have ht2 : (Mk.texts2 s.x.dyn).length <= T := Nat.le_trans (xJn _ (Mk.names s.x.dyn.syms)) hT
 have hwc := hb.h1
 have hBw := hb.h2
 obtain ⟨d0, d1, d2, d3, d4⟩ := xJv hb.d
 have HF := zJ2 hF
 have Hb := zJ2 hb
 have Hnm := zJ2 hnm
 have Hsy := zJ2 hsy
 have Hre := zJ2 hre
 clear hF hb hm hf hq hok hnm hsy hre d0 d1 d2
 go_upto_if 67 with fail
 obtain ⟨bs, hbs⟩ : ∃ bs, decide (0 < s.x.dyn.syms.length) = bs := ⟨_, rfl⟩
 rw [hbs]
 have Hbs := zJ2 hbs
 clear hbs
 go_cut [12] (fun pv wx => ∃ (qs : List PQ) (Ap : Option Addr) (np cp : Nat) (At : Option Addr) (nt ct : Nat) (w2 : World), pv = .slice Ap np cp /\ np <= 2 /\ SeB w.heap.size B gs gt gd bt s Af cf At nt ct (Mk.texts3 s.x.dyn) (Mk.entsB (Mk.heads2 s.x.dyn)) w w2 /\ PaS w.heap.size (fun k => k ≠ gs /\ bk Af ≠ some k) w2 wx qs Ap np cp /\ qs.map PQ.p = Mk.partSyms s.x.dyn /\ gs < w2.heap.size /\ (∀ k, bk Af = some k -> k < w2.heap.size) /\ (∀ k, bk At = some k -> k < w2.heap.size))
 case first =>
  cases bs
  case false =>
   have hs0 : s.x.dyn.syms.length = 0 := by have := of_decide_eq_false (zJ1 Hbs); omega
   have hnil : s.x.dyn.syms = [] := List.eq_nil_of_length_eq_zero hs0
   have He := zJ2 (show Mk.texts3 s.x.dyn = Mk.texts2 s.x.dyn /\ Mk.partSyms s.x.dyn = [] from ⟨by unfold Mk.texts3 Mk.names; rw [hnil]; rfl, by unfold Mk.partSyms; rw [if_pos hs0]⟩)
   clear hnil hs0
   go_wp2_with fail
   go_meet
   case rel => exact ⟨[], none, 0, 0, At0, nt0, ct0, wc, rfl, by omega, by rw [(zJ1 He).1]; exact zJ1 Hb, PaS.nil, by rw [(zJ1 He).2]; rfl, (zJ1 Hb).sf.blk.lt, fun k hk => ((zJ1 Hb).sf.lt k hk).2, fun k hk => ((zJ1 Hb).tb.lt k hk).2⟩
  case true =>
   have hs0 : s.x.dyn.syms.length ≠ 0 := by have := of_decide_eq_true (zJ1 Hbs); omega
   have He : Hid (Mk.partSyms s.x.dyn = [(0, Mk.hashB s.x.dyn.syms), (1, Mk.symsB (Mk.texts2 s.x.dyn) s.x.dyn.syms)]) := zJ2 (by unfold Mk.partSyms; rw [if_neg hs0])
   have hxs : Rd wc B 5 s.A2 s.x.dyn.syms.length (symC s.x.dyn.syms) := (zJ1 Hb).xq.dyn.syms
   have KS := zJ2 (psymbols_any _ gt 0 bt _ At0 nt0 ct0 _ s.A2 _ s.c2 B s.x.dyn.syms wc (by omega) hxs rfl n2 (zJ1 Hsy) (zJ1 Hnm) (zJ1 Hb).tb (by omega) hbt2 (by omega) (by omega))
   clear hxs hs0
   go_wp2_with fail
   refine (zJ1 KS).mono ?_
   rintro e w2 ⟨As, cs, At, nt, ct, rfl, hoS, hE, hd⟩
   have hb2 : SeB w.heap.size B gs gt gd bt s Af cf At nt ct (Mk.texts3 s.x.dyn) (Mk.entsB (Mk.heads2 s.x.dyn)) w w2 := by
    have hb := zJ1 Hb
    have hlt := hb.tb.lt
    have hgsl := hb.sf.blk.lt
    have hfl := hb.sf.lt
    have e6 : bk At0 ≠ some gs := fun e => (hb.d1 _ e).1 rfl
    obtain ⟨m1, m2⟩ := hb.sf.aside hE e1 e6 (fun e => e4 e) (fun k h1 h2 => (hb.d1 k h2).2 h1)
    refine ⟨hE.blk hb.x (by omega) (fun e => by have := (hlt _ e).1; omega), hb.xq.below (hE.below (by omega) (fun k hk => by have := (hlt k hk).1; omega) (by omega)), hE.m, m1, hE.blk hb.d e2 e3, fun k hk => ⟨fun e => ?_, fun e => m2 k e hk⟩, hb.below.trans (hE.below (by omega) (fun k hk => by have := (hlt k hk).1; omega) hb.h1), Nat.le_trans hb.h1 hE.size, hb.h2⟩
    rcases hE.at_ k hk with h9 | h9
    ·exact (hb.d1 k h9).1 e
    ·omega
   have hsz2 := hE.size
   have hgs2 : gs < w2.heap.size := by have := (zJ1 Hb).sf.blk.lt; omega
   have hAf2 : ∀ k, bk Af = some k -> k < w2.heap.size := fun k hk => by have := ((zJ1 Hb).sf.lt k hk).2; omega
   have hoS' := zJ7 hoS
   have hAs2 : ∀ k, bk As = some k -> k ≠ gs /\ bk Af ≠ some k := fun k hk => ⟨fun e => by have := (hoS' k hk).1; have := (zJ1 Hb).sf.blk.lt; omega, fun e => by have := (hoS' k hk).1; have := ((zJ1 Hb).sf.lt k e).2; omega⟩
   have hxs2 : Rd w2 B 5 s.A2 s.x.dyn.syms.length (symC s.x.dyn.syms) := hb2.xq.dyn.syms
   have KH := zJ2 (phashes_any s.A2 _ s.c2 B s.x.dyn.syms w2 (by omega) hxs2 rfl n2 (zJ1 Hnm))
   obtain ⟨-, -, -, f3, -⟩ := xJv hb2.d
   have Hb2 := zJ2 hb2
   have HoS := zJ2 hoS
   have HAs2 := zJ2 hAs2
   have HAf2 := zJ2 hAf2
   clear KS hE hd hb2 hoS hoS' hAs2 hAf2 hxs2 d3 d4
   go_wp2_with fail
   refine (zJ1 KH).mono ?_
   rintro e w3 ⟨Ah, nh, ch, rfl, hoH, hb3⟩
   obtain ⟨q0, hq0⟩ : ∃ q0 : PQ, q0 = ⟨0, Ah, nh, ch, Mk.hashB s.x.dyn.syms⟩ := ⟨_, rfl⟩
   obtain ⟨q1, hq1⟩ : ∃ q1 : PQ, q1 = ⟨1, As, 24 * (s.x.dyn.syms.length + 1), cs, Mk.symsB (Mk.texts2 s.x.dyn) s.x.dyn.syms⟩ := ⟨_, rfl⟩
   have hb4 := zJ3 w3 (.cells #[.slice Ah nh ch, .func (.func 75) #[] #[], .slice As (24 * (s.x.dyn.syms.length + 1)) cs, .func (.func 76) #[] #[]] 158)
   have hP := (PaS.nil (h0 := w.heap.size) (av := (fun k => k ≠ gs /\ bk Af ≠ some k)) (w2 := w2)).calm (hb3.trans (hb4.mono hb3.size))
   have hr2 : Rd (w3.alloc (.cells #[.slice Ah nh ch, .func (.func 75) #[] #[], .slice As (24 * (s.x.dyn.syms.length + 1)) cs, .func (.func 76) #[] #[]] 158)) (w3.heap.size + 1) 2 (some ⟨w3.heap.size, 0, none⟩) 2 (partC [q0, q1]) := by
    rw [hq0, hq1]
    exact Rd.rowF (n := 2) (size := 2) rfl
   have hs3 := hb3.size
   have hw2 := (zJ1 Hb2).h1
   have hoH4 : (w3.alloc (.cells #[.slice Ah nh ch, .func (.func 75) #[] #[], .slice As (24 * (s.x.dyn.syms.length + 1)) cs, .func (.func 76) #[] #[]] 158)).ownsRow w.heap.size 5 1 (.slice Ah nh ch) nh (bys (Mk.hashB s.x.dyn.syms)) := zJh (own_below hoH hb4) hw2
   have hoS4 : (w3.alloc (.cells #[.slice Ah nh ch, .func (.func 75) #[] #[], .slice As (24 * (s.x.dyn.syms.length + 1)) cs, .func (.func 76) #[] #[]] 158)).ownsRow w.heap.size 5 1 (.slice As (24 * (s.x.dyn.syms.length + 1)) cs) (24 * (s.x.dyn.syms.length + 1)) (bys (Mk.symsB (Mk.texts2 s.x.dyn) s.x.dyn.syms)) := zJh (own_below (zJ1 HoS) (hb3.trans (hb4.mono hb3.size))) hwc
   have hnew : ∀ q ∈ [q0, q1], (w3.alloc (.cells #[.slice Ah nh ch, .func (.func 75) #[] #[], .slice As (24 * (s.x.dyn.syms.length + 1)) cs, .func (.func 76) #[] #[]] 158)).ownsRow w.heap.size 5 1 (.slice q.A q.n q.c) q.n (bys q.b) /\ ∀ k, bk q.A = some k -> bk none ≠ some k /\ (k ≠ gs /\ bk Af ≠ some k) := by
    intro q hq
    rcases List.mem_cons.1 hq with rfl | hq
    ·rw [hq0]
     exact ⟨hoH4, fun k hk => ⟨by simp [bk], fun e => by have := (zJ7 hoH k hk).1; omega, fun e => by have := (zJ7 hoH k hk).1; have := (zJ1 HAf2) k e; omega⟩⟩
    ·rw [List.mem_singleton.1 hq, hq1]
     exact ⟨hoS4, fun k hk => ⟨by simp [bk], (zJ1 HAs2) k hk⟩⟩
   have hmap : Hid ([q0, q1].map PQ.p = Mk.partSyms s.x.dyn) := zJ2 (by rw [zJ1 He, hq0, hq1]; rfl)
   have HP := zJ2 hP
   have Hr2 := zJ2 hr2
   have Hnew := zJ2 hnew
   have hsz4 := hb4.size
   have hszz : w2.heap.size <= (w3.alloc (.cells #[.slice Ah nh ch, .func (.func 75) #[] #[], .slice As (24 * (s.x.dyn.syms.length + 1)) cs, .func (.func 76) #[] #[]] 158)).heap.size := Nat.le_trans hs3 hsz4
   clear KH hoH hb3 hb4 hP hr2 hoH4 hoS4 hnew hq0 hq1 f3 HoS HAs2 He
   go_wp2_with (at_builtin; refine zJq partTy rfl _ _ rfl w2.heap.size (.slice none 0 0) 0 _ rfl (zJ1 HP).row _ (some ⟨w3.heap.size, 0, none⟩) 2 2 _ rfl (zJ1 Hr2) (part_cell1 _) (by omega) hszz ?_; intro A5 c5 w5 ho5 hg5 ha5; have HP5 := zJ2 ((zJ1 HP).add [q0, q1] rfl (zJ1 Hnew) ho5 hg5 ha5); clear ho5 hg5 ha5)
   go_meet
   case rel => exact ⟨[] ++ [q0, q1], A5, 0 + 2, c5, At, nt, ct, w2, rfl, by omega, zJ1 Hb2, zJ1 HP5, zJ1 hmap, hgs2, zJ1 HAf2, fun k hk => ((zJ1 Hb2).tb.lt k hk).2⟩
 case rest =>
  obtain ⟨qs1, Ap, np, cp, At, nt, ct, w2, rfl, hnp, hb2, hP, hmap, hgs2, hAf2, hAt2⟩ := hcut
  have hb3 := hb2.calm hP.below
  obtain ⟨-, -, -, -, f4⟩ := xJv hb3.d
  obtain ⟨-, -, -, -, -, -, -, -, -, -, -, -, x12⟩ := zJ6 hb3.x
  have Hb2 := zJ2 hb2
  have HP := zJ2 hP
  have Hmap := zJ2 hmap
  have HAf2 := zJ2 hAf2
  have HAt2 := zJ2 hAt2
  clear hb2 hP hmap hAf2 hAt2 hb3 Hb d3 d4
  have hla : (s.x.dyn.relas.length : Int) - s.x.apart = ((Mk.last s.x : Nat) : Int) := by unfold Mk.last; omega
  have hll : Mk.last s.x <= s.x.dyn.relas.length := by unfold Mk.last; omega
  have hwl : IntKind.i64.wrap ((s.x.dyn.relas.length : Int) - s.x.apart) = (s.x.dyn.relas.length : Int) - s.x.apart := by rw [IntKind.wrap_i64]; omega
  have kt : ∀ w', (Instr.slice 27 (.slice s.A3 s.x.dyn.relas.length s.c3) none (some (.int .i64 ((s.x.dyn.relas.length : Int) - s.x.apart))) none).run Tryz.prog w' = .ok (.slice s.A3 (Mk.last s.x) s.c3) w' := fun w' => by rw [hla]; exact run_toZ Tryz.underlying27 mkreInfo s.A3 _ s.c3 _ (by omega) w'
  have kf : ∀ w', (Instr.slice 27 (.slice s.A3 s.x.dyn.relas.length s.c3) (some (.int .i64 ((s.x.dyn.relas.length : Int) - s.x.apart))) none none).run Tryz.prog w' = .ok (.slice (fromZ 4 s.A3 s.c3 (Mk.last s.x)) (s.x.dyn.relas.length - Mk.last s.x) (s.c3 - Mk.last s.x)) w' := fun w' => by rw [hla]; exact run_fromZ Tryz.underlying27 mkreInfo s.A3 _ s.c3 _ hll w'
  have Hla := zJ2 hla
  clear hla
  go_upto_if 88 with fail
  obtain ⟨bo, hbo⟩ : ∃ bo, decide (s.x.apart < (s.x.dyn.relas.length : Int)) = bo := ⟨_, rfl⟩
  rw [hbo]
  have Hbo := zJ2 hbo
  clear hbo
  go_cut [12] (fun pv wx => ∃ (qs : List PQ) (Ap : Option Addr) (np cp : Nat), pv = .slice Ap np cp /\ np <= 3 /\ PaS w.heap.size (fun k => k ≠ gs /\ bk Af ≠ some k) w2 wx qs Ap np cp /\ qs.map PQ.p = Mk.partSyms s.x.dyn ++ Mk.partOne s.x)
  case first =>
   cases bo
   case false =>
    have hl0 : Mk.last s.x = 0 := by have := of_decide_eq_false (zJ1 Hbo); have := zJ1 Hla; omega
    have He := zJ2 (show Mk.partOne s.x = [] by unfold Mk.partOne; rw [if_pos hl0])
    clear hl0
    go_wp2_with fail
    go_meet
    case rel => exact ⟨qs1, Ap, np, cp, rfl, by omega, zJ1 HP, by rw [zJ1 He, List.append_nil]; exact zJ1 Hmap⟩
   case true =>
    have hl0 : Mk.last s.x ≠ 0 := by have := of_decide_eq_true (zJ1 Hbo); have := zJ1 Hla; omega
    have He := zJ2 (show Mk.partOne s.x = [(2, Mk.relsB (s.x.dyn.relas.take (Mk.last s.x)))] by unfold Mk.partOne; rw [if_neg hl0])
    have hxr : Rd wc B 4 s.A3 s.x.dyn.relas.length (mrC s.x.dyn.relas) := ((zJ1 Hb2).calm (zJ1 HP).below).xq.dyn.relas
    have hwcs := (zJ1 HP).size
    have KR := zJ2 (uJc s.A3 (Mk.last s.x) s.c3 B (s.x.dyn.relas.take (Mk.last s.x)) wc (by have := (zJ1 Hb2).h1; omega) (by have h9 := Rd.toZ hxr hll; unfold mrC at h9 ⊢; rw [(flat_take mrV 4 (fun _ => rfl) _ _).1] at h9; exact h9) (by rw [List.length_take]; omega) (by omega) (fun r hr => (zJ1 Hre) r (List.mem_of_mem_take hr)))
    clear hl0 hxr
    go_wp2_with fail
    refine (zJ1 KR).mono ?_
    rintro e w3 ⟨Ar, cr, rfl, hoR, hb3⟩
    obtain ⟨q0, hq0⟩ : ∃ q0 : PQ, q0 = ⟨2, Ar, 24 * Mk.last s.x, cr, Mk.relsB (s.x.dyn.relas.take (Mk.last s.x))⟩ := ⟨_, rfl⟩
    have hP3 := (zJ1 HP).calm hb3
    have hnew : w3.ownsRow w.heap.size 5 1 (.slice q0.A q0.n q0.c) q0.n (bys q0.b) /\ ∀ k, bk q0.A = some k -> bk Ap ≠ some k /\ (k ≠ gs /\ bk Af ≠ some k) := by
     rw [hq0]
     refine ⟨zJh hoR (by have := (zJ1 Hb2).h1; omega), fun k hk => ?_⟩
     have h8 := (zJ7 hoR k hk).1
     exact ⟨fun e => by have := (zJ7 (zJ1 HP).row k e).2; omega, fun e => by omega, fun e => by have := (zJ1 HAf2) k e; omega⟩
    have hcl : #[.slice Ar (24 * Mk.last s.x) cr, Value.func (.func 78) #[] #[]] = q0.cells.toArray := by rw [hq0]; rfl
    have Hm2 : Hid ((qs1 ++ [q0]).map PQ.p = Mk.partSyms s.x.dyn ++ Mk.partOne s.x) := zJ2 (by rw [List.map_append, zJ1 Hmap, zJ1 He, hq0]; rfl)
    have HP3 := zJ2 hP3
    have Hnew := zJ2 hnew
    have Hcl := zJ2 hcl
    have hs3 := hP3.size
    have hb3s := hb3.size
    clear KR hoR hb3 hP3 hnew hq0 hcl kt f4 x12 He
    go_wp2_with (at_builtin; refine zJl partTy rfl _ _ rfl w2.heap.size (.slice Ap np cp) np _ rfl (zJ1 HP3).row _ _ rfl (by simp) rfl (by first | (rw [zJ1 Hcl]; exact cells_one q0) | (intro u hu; simp at hu; rcases hu with rfl | rfl <;> rfl)) (by omega) hs3 ?_; intro A5 c5 w5 ho5 hg5 ha5; have HP5 := zJ2 ((zJ1 HP3).add1 q0 (zJ1 Hnew) (by rw [zJ1 Hcl] at ho5; exact ho5) hg5 ha5); clear ho5 hg5 ha5)
    go_meet
    case rel => exact ⟨qs1 ++ [q0], A5, np + 1, c5, rfl, by omega, zJ1 HP5, zJ1 Hm2⟩
  case rest =>
   obtain ⟨qs2, Ap, np, cp, rfl, hnp, hP, hmap⟩ := hcut
   have hb3 := (zJ1 Hb2).calm hP.below
   obtain ⟨-, -, -, -, f4⟩ := xJv hb3.d
   obtain ⟨-, -, -, -, -, -, -, -, -, -, -, -, x12⟩ := zJ6 hb3.x
   have HP2 := zJ2 hP
   have Hmap2 := zJ2 hmap
   clear hP hmap hb3 Hmap HP kt Hbo
   go_upto_if 100 with fail
   obtain ⟨bo, hbo⟩ : ∃ bo, decide ((0 : Int) < s.x.apart) = bo := ⟨_, rfl⟩
   rw [hbo]
   have Hbo := zJ2 hbo
   clear hbo
   go_cut [12] (fun pv wx => ∃ (qs : List PQ) (Ap : Option Addr) (np cp : Nat), pv = .slice Ap np cp /\ np <= 4 /\ PaS w.heap.size (fun k => k ≠ gs /\ bk Af ≠ some k) w2 wx qs Ap np cp /\ qs.map PQ.p = Mk.partSyms s.x.dyn ++ Mk.partOne s.x ++ Mk.partTwo s.x)
   case first =>
    cases bo
    case false =>
     have hl0 : s.x.apart.toNat = 0 := by have := of_decide_eq_false (zJ1 Hbo); omega
     have He := zJ2 (show Mk.partTwo s.x = [] by unfold Mk.partTwo; rw [if_pos hl0])
     clear hl0
     go_wp2_with fail
     go_meet
     case rel => exact ⟨qs2, Ap, np, cp, rfl, by omega, zJ1 HP2, by rw [zJ1 He, List.append_nil]; exact zJ1 Hmap2⟩
    case true =>
     have hl0 : s.x.apart.toNat ≠ 0 := by have := of_decide_eq_true (zJ1 Hbo); omega
     have He := zJ2 (show Mk.partTwo s.x = [(3, Mk.relsB (s.x.dyn.relas.drop (Mk.last s.x)))] by unfold Mk.partTwo; rw [if_neg hl0])
     have hxr : Rd wc B 4 s.A3 s.x.dyn.relas.length (mrC s.x.dyn.relas) := ((zJ1 Hb2).calm (zJ1 HP2).below).xq.dyn.relas
     have hwcs := (zJ1 HP2).size
     have KR := zJ2 (uJc (fromZ 4 s.A3 s.c3 (Mk.last s.x)) (s.x.dyn.relas.length - Mk.last s.x) (s.c3 - Mk.last s.x) B (s.x.dyn.relas.drop (Mk.last s.x)) wc (by have := (zJ1 Hb2).h1; omega) (by have h9 := Rd.fromZ hxr (by omega) hll hc3; unfold mrC at h9 ⊢; rw [(flat_take mrV 4 (fun _ => rfl) _ _).2] at h9; exact h9) (by rw [List.length_drop]) (by omega) (fun r hr => (zJ1 Hre) r (List.mem_of_mem_drop hr)))
     clear hl0 hxr
     go_wp2_with fail
     refine (zJ1 KR).mono ?_
     rintro e w3 ⟨Ar, cr, rfl, hoR, hb3⟩
     obtain ⟨m9, hm9⟩ : ∃ m9, 24 * (s.x.dyn.relas.length - Mk.last s.x) = m9 := ⟨_, rfl⟩
     rw [hm9] at hoR ⊢
     obtain ⟨q0, hq0⟩ : ∃ q0 : PQ, q0 = ⟨3, Ar, m9, cr, Mk.relsB (s.x.dyn.relas.drop (Mk.last s.x))⟩ := ⟨_, rfl⟩
     have hP3 := (zJ1 HP2).calm hb3
     have hnew : w3.ownsRow w.heap.size 5 1 (.slice q0.A q0.n q0.c) q0.n (bys q0.b) /\ ∀ k, bk q0.A = some k -> bk Ap ≠ some k /\ (k ≠ gs /\ bk Af ≠ some k) := by
      rw [hq0]
      refine ⟨zJh hoR (by have := (zJ1 Hb2).h1; omega), fun k hk => ?_⟩
      have h8 := (zJ7 hoR k hk).1
      exact ⟨fun e => by have := (zJ7 (zJ1 HP2).row k e).2; omega, fun e => by omega, fun e => by have := (zJ1 HAf2) k e; omega⟩
     have hcl : #[.slice Ar m9 cr, Value.func (.func 79) #[] #[]] = q0.cells.toArray := by rw [hq0]; rfl
     have Hm2 : Hid ((qs2 ++ [q0]).map PQ.p = Mk.partSyms s.x.dyn ++ Mk.partOne s.x ++ Mk.partTwo s.x) := zJ2 (by rw [List.map_append, zJ1 Hmap2, zJ1 He, hq0]; rfl)
     have HP3 := zJ2 hP3
     have Hnew := zJ2 hnew
     have Hcl := zJ2 hcl
     have hs3 := hP3.size
     have hb3s := hb3.size
     clear KR hoR hb3 hP3 hnew hq0 hcl kf f4 x12 He hm9
     go_wp2_with (at_builtin; refine zJl partTy rfl _ _ rfl w2.heap.size (.slice Ap np cp) np _ rfl (zJ1 HP3).row _ _ rfl (by simp) rfl (by first | (rw [zJ1 Hcl]; exact cells_one q0) | (intro u hu; simp at hu; rcases hu with rfl | rfl <;> rfl)) (by omega) hs3 ?_; intro A5 c5 w5 ho5 hg5 ha5; have HP5 := zJ2 ((zJ1 HP3).add1 q0 (zJ1 Hnew) (by rw [zJ1 Hcl] at ho5; exact ho5) hg5 ha5); clear ho5 hg5 ha5)
     go_meet
     case rel => exact ⟨qs2 ++ [q0], A5, np + 1, c5, rfl, by omega, zJ1 HP5, zJ1 Hm2⟩
   case rest =>
    obtain ⟨qs3, Ap, np, cp, rfl, hnp, hP, hmap⟩ := hcut
    have hb3 := (zJ1 Hb2).calm hP.below
    have t0 := hb3.tb.cell
    have hnew : wc.ownsRow w.heap.size 5 1 (.slice At nt ct) nt (bys (Mk.texts3 s.x.dyn)) /\ ∀ k, bk At = some k -> bk Ap ≠ some k /\ (k ≠ gs /\ bk Af ≠ some k) :=
     ⟨zJh hb3.tb.row (by omega), fun k hk => ⟨fun e => by have := (zJ7 hP.row k e).1; have := (zJ1 HAt2) k hk; omega, (zJ1 Hb2).d1 k hk⟩⟩
    obtain ⟨q0, hq0⟩ : ∃ q0 : PQ, q0 = ⟨4, At, nt, ct, Mk.texts3 s.x.dyn⟩ := ⟨_, rfl⟩
    have hcl : #[.slice At nt ct, Value.func (.func 80) #[] #[]] = q0.cells.toArray := by rw [hq0]; rfl
    have hnew' : wc.ownsRow w.heap.size 5 1 (.slice q0.A q0.n q0.c) q0.n (bys q0.b) /\ ∀ k, bk q0.A = some k -> bk Ap ≠ some k /\ (k ≠ gs /\ bk Af ≠ some k) := by rw [hq0]; exact hnew
    have Hm2 : Hid ((qs3 ++ [q0]).map PQ.p = Mk.parts s.x) := zJ2 (by unfold Mk.parts; rw [List.map_append, hmap, hq0]; rfl)
    have HP3 := zJ2 hP
    have Hnew := zJ2 hnew'
    have Hcl := zJ2 hcl
    have hs3 := hP.size
    clear hP hmap hb3 hnew hnew' hq0 hcl kf f4 x12 Hbo HP2 Hmap2
    go_upto_region 22 with fail
    go_cut [12] (fun pv wx => ∃ (qs : List PQ) (Ap : Option Addr) (np cp : Nat), pv = .slice Ap np cp /\ PaS w.heap.size (fun k => k ≠ gs /\ bk Af ≠ some k) w2 wx qs Ap np cp /\ qs.map PQ.p = Mk.parts s.x)
    case first =>
     go_wp2_with (at_builtin; refine zJl partTy rfl _ _ rfl w2.heap.size (.slice Ap np cp) np _ rfl (zJ1 HP3).row _ _ rfl (by simp) rfl (by first | (rw [zJ1 Hcl]; exact cells_one q0) | (intro u hu; simp at hu; rcases hu with rfl | rfl <;> rfl)) (by omega) hs3 ?_; intro A5 c5 w5 ho5 hg5 ha5; have HP5 := zJ2 ((zJ1 HP3).add1 q0 (zJ1 Hnew) (by rw [zJ1 Hcl] at ho5; exact ho5) hg5 ha5); clear ho5 hg5 ha5)
     go_meet
     case rel => exact ⟨qs3 ++ [q0], A5, np + 1, c5, rfl, zJ1 HP5, zJ1 Hm2⟩
    case rest =>
     obtain ⟨qs4, Ap, np, cp, rfl, hP, hmap⟩ := hcut
     have hb3 := (zJ1 Hb2).calm hP.below
     go_step
     exact psecC s gf gs base n c np cp _ cf T A Af Ap fs qs4 w wc hb3.x (zJ1 HF) hbase hfs hb3.below hgs hb3.sf e5 (hP.fix (zJ1 Hb2).h1 hgs2 (zJ1 HAf2)) hmap n1 n2 n3 hT hT2 _ _ _ _ _ _ _ _ _ _ _ _ _ _ _ _ _ _ _ _ _ _ _ _ _ _ _ _ _ _ _ _ _ _ _ _ _ _ _ _ _ _ _ _ _ _ _ _ _ _ _ _ _ _ _ _ _ _ _ _ _ _ _ _ _ _ _ _ _ _ _ _ _ _ _ _ _ _ _ _ _ _ _ _ _ _ _ _ _ _ _ _ _ _ _ _ _ _ _ _ _ _ _ _ _ _ _ _ _ _ _ _ _ _ _ _ _ _ _ _ _ _ _ _ _ _ _ _ _ _ _ _ _ _ _ _ _ _ _ _ _ _ _ _ _ _ _ _ _ _ _ _ _ _ _ _ _ _ _ _ _ _ _ _ _ _ _ _ _ _ _ _ _
open Go.RowKit
theorem SyS.start {tt t3 : TypeId} {gt bt gs gd : Nat} {A0 : Option Addr} {l3 : List Value} {w1 wx : World} {ts : List UInt8} {nt ct : Nat} (hT : FiM w1 tt gt 0 [.slice A0 nt ct] bt A0 nt ct ts) (hb : Below w1.heap.size w1 wx) (hs : Blk wx gs 71 [.slice none 0 0]) (hd : Blk wx gd t3 l3) (h1 : w1.heap.size <= gs) (h2 : w1.heap.size <= gd) (h3 : gd ≠ gs) (hbt : bt <= w1.heap.size) : SyS tt gt 0 bt gs [.slice A0 nt ct] A0 w1 wx ts [] (some (gd, t3, l3)) := by
 refine ⟨⟨A0, nt, ct, none, 0, (FiE.refl hT).then_ hb, ⟨hs, rfl, World.ownsRow_nil _ _ _ _, by simp [bk]⟩, fun k hk => by simp [bk] at hk, fun e => by have := (hT.lt _ e).2; omega, fun p hp => ?_⟩, h1, hT.blk.lt, hbt⟩
 injection hp with hp
 subst hp
 exact ⟨hd, h3, h2, fun e => by have := (hT.lt _ e).2; omega, by simp [bk]⟩
theorem puts_take_le (t : List UInt8) (l : List ByteArray) (j : Nat) : (Mk.puts t (l.take j)).length <= (Mk.puts t l).length := by
 have h := xJn (Mk.puts t (l.take j)) (l.drop j)
 rw [<- uJu, List.take_append_drop] at h
 exact h
theorem texts_up (d : Mk.Dyn) : (Mk.texts0 d).length <= (Mk.texts1 d).length /\ (Mk.texts1 d).length <= (Mk.texts2 d).length /\ (Mk.texts2 d).length <= (Mk.texts3 d).length := by
 refine ⟨?_, ?_, xJn _ (Mk.names d.syms)⟩
 ·unfold Mk.texts1 Mk.put; split <;> simp <;> omega
 ·unfold Mk.texts2 Mk.put; split <;> simp <;> omega
theorem uJx (a b : Nat) : Mk.lbs 8 [a, b] = Mk.pairB (a, b) := by simp [Mk.lbs, Mk.pairB]
theorem yJr (t : List UInt8) (s : ByteArray) : Mk.place t s <= t.length := by unfold Mk.place; split <;> omega
theorem bytes0_own (w : World) (c : Obj) : ((w.alloc (.cells #[.int .u8 0] 5)).alloc c).ownsRow w.heap.size 5 1 (.slice (some ⟨w.heap.size, 0, none⟩) 1 1) 1 (bys [0]) := by
 have hb := (Blk.new w 5 [.int .u8 0]).alloc c
 refine ⟨rfl, .inr ⟨_, 1, _, rfl, Nat.le_refl _, hb, Nat.le_refl _, by unfold maxLen; omega, rfl, ?_⟩⟩
 simp [bys]
theorem heads_up (d : Mk.Dyn) : (Mk.heads0 d).length <= (Mk.heads2 d).length /\ (Mk.heads1 d).length <= (Mk.heads2 d).length := by
 have h1 : (Mk.heads0 d).length <= (Mk.heads1 d).length := by unfold Mk.heads1; split <;> simp
 have h2 : (Mk.heads1 d).length <= (Mk.heads2 d).length := by unfold Mk.heads2; split <;> simp
 exact ⟨Nat.le_trans h1 h2, h2⟩
set_option maxRecDepth 100000 in
set_option maxHeartbeats 60000000 in
theorem psection_any (s : Xq) (gf base n c B T : Nat) (A : Option Addr) (fs : List UInt8) (w : World) (hB : B <= w.heap.size) (hx : XqM w B s) (hF : FiM w 71 gf 0 [.slice A n c] base A n c fs) (hbase : base <= w.heap.size) (hfs : fs.length <= 1073741824)
  (hm : MayOk s.x) (hf : MkFit s) (hT : (Mk.texts3 s.x.dyn).length <= T) (hT2 : T <= 536870912) :
  Calls Tryz.prog 29 #[.agg s.l.toArray, .pointer (some ⟨gf, 0, none⟩)] w (SecE s gf base [.slice A n c] A fs w) := by
 have hb0 : Below w.heap.size w (((w.alloc (.cells #[.int .u16 (s.x.type : Nat), .int .u64 (s.x.entry : Nat), .string s.x.interp, .slice s.At s.x.text.length s.ct, .slice s.Ad s.x.data.length s.cd, .int .u64 (s.x.more : Nat), .bool s.x.dynamic, .slice s.A1 s.x.dyn.needed.length s.c1, .string s.x.dyn.soname, .string s.x.dyn.run, .slice s.A2 s.x.dyn.syms.length s.c2, .slice s.A3 s.x.dyn.relas.length s.c3, .int .i64 s.x.apart] 66)).alloc (.cells #[.int .u8 0] 5)).alloc (.cells #[.slice (some ⟨w.heap.size + 1, 0, none⟩) 1 1] 150)) := (((Below.refl _ _).alloc (Nat.le_refl _) _).alloc (by simp) _).alloc (by simp; omega) _
 have hbx : Blk (((w.alloc (.cells #[.int .u16 (s.x.type : Nat), .int .u64 (s.x.entry : Nat), .string s.x.interp, .slice s.At s.x.text.length s.ct, .slice s.Ad s.x.data.length s.cd, .int .u64 (s.x.more : Nat), .bool s.x.dynamic, .slice s.A1 s.x.dyn.needed.length s.c1, .string s.x.dyn.soname, .string s.x.dyn.run, .slice s.A2 s.x.dyn.syms.length s.c2, .slice s.A3 s.x.dyn.relas.length s.c3, .int .i64 s.x.apart] 66)).alloc (.cells #[.int .u8 0] 5)).alloc (.cells #[.slice (some ⟨w.heap.size + 1, 0, none⟩) 1 1] 150)) w.heap.size 66 s.l := ((Blk.new w 66 s.l).alloc (.cells #[.int .u8 0] 5)).alloc (.cells #[.slice (some ⟨w.heap.size + 1, 0, none⟩) 1 1] 150)
 have hs1 : (((w.alloc (.cells #[.int .u16 (s.x.type : Nat), .int .u64 (s.x.entry : Nat), .string s.x.interp, .slice s.At s.x.text.length s.ct, .slice s.Ad s.x.data.length s.cd, .int .u64 (s.x.more : Nat), .bool s.x.dynamic, .slice s.A1 s.x.dyn.needed.length s.c1, .string s.x.dyn.soname, .string s.x.dyn.run, .slice s.A2 s.x.dyn.syms.length s.c2, .slice s.A3 s.x.dyn.relas.length s.c3, .int .i64 s.x.apart] 66)).alloc (.cells #[.int .u8 0] 5)).alloc (.cells #[.slice (some ⟨w.heap.size + 1, 0, none⟩) 1 1] 150)).heap.size = w.heap.size + 1 + 1 + 1 := by simp
 have hTb : FiM (((w.alloc (.cells #[.int .u16 (s.x.type : Nat), .int .u64 (s.x.entry : Nat), .string s.x.interp, .slice s.At s.x.text.length s.ct, .slice s.Ad s.x.data.length s.cd, .int .u64 (s.x.more : Nat), .bool s.x.dynamic, .slice s.A1 s.x.dyn.needed.length s.c1, .string s.x.dyn.soname, .string s.x.dyn.run, .slice s.A2 s.x.dyn.syms.length s.c2, .slice s.A3 s.x.dyn.relas.length s.c3, .int .i64 s.x.apart] 66)).alloc (.cells #[.int .u8 0] 5)).alloc (.cells #[.slice (some ⟨w.heap.size + 1, 0, none⟩) 1 1] 150)) 150 (w.heap.size + 1 + 1) 0 [.slice (some ⟨w.heap.size + 1, 0, none⟩) 1 1] (w.heap.size + 1) (some ⟨w.heap.size + 1, 0, none⟩) 1 1 [0] := by
  have h1 := Blk.new ((w.alloc (.cells #[.int .u16 (s.x.type : Nat), .int .u64 (s.x.entry : Nat), .string s.x.interp, .slice s.At s.x.text.length s.ct, .slice s.Ad s.x.data.length s.cd, .int .u64 (s.x.more : Nat), .bool s.x.dynamic, .slice s.A1 s.x.dyn.needed.length s.c1, .string s.x.dyn.soname, .string s.x.dyn.run, .slice s.A2 s.x.dyn.syms.length s.c2, .slice s.A3 s.x.dyn.relas.length s.c3, .int .i64 s.x.apart] 66)).alloc (.cells #[.int .u8 0] 5)) 150 [.slice (some ⟨w.heap.size + 1, 0, none⟩) 1 1]
  have h2 := bytes0_own (w.alloc (.cells #[.int .u16 (s.x.type : Nat), .int .u64 (s.x.entry : Nat), .string s.x.interp, .slice s.At s.x.text.length s.ct, .slice s.Ad s.x.data.length s.cd, .int .u64 (s.x.more : Nat), .bool s.x.dynamic, .slice s.A1 s.x.dyn.needed.length s.c1, .string s.x.dyn.soname, .string s.x.dyn.run, .slice s.A2 s.x.dyn.syms.length s.c2, .slice s.A3 s.x.dyn.relas.length s.c3, .int .i64 s.x.apart] 66)) (.cells #[.slice (some ⟨w.heap.size + 1, 0, none⟩) 1 1] 150)
  have e1 : (w.alloc (.cells #[.int .u16 (s.x.type : Nat), .int .u64 (s.x.entry : Nat), .string s.x.interp, .slice s.At s.x.text.length s.ct, .slice s.Ad s.x.data.length s.cd, .int .u64 (s.x.more : Nat), .bool s.x.dynamic, .slice s.A1 s.x.dyn.needed.length s.c1, .string s.x.dyn.soname, .string s.x.dyn.run, .slice s.A2 s.x.dyn.syms.length s.c2, .slice s.A3 s.x.dyn.relas.length s.c3, .int .i64 s.x.apart] 66)).heap.size = w.heap.size + 1 := by simp
  have e2 : ((w.alloc (.cells #[.int .u16 (s.x.type : Nat), .int .u64 (s.x.entry : Nat), .string s.x.interp, .slice s.At s.x.text.length s.ct, .slice s.Ad s.x.data.length s.cd, .int .u64 (s.x.more : Nat), .bool s.x.dynamic, .slice s.A1 s.x.dyn.needed.length s.c1, .string s.x.dyn.soname, .string s.x.dyn.run, .slice s.A2 s.x.dyn.syms.length s.c2, .slice s.A3 s.x.dyn.relas.length s.c3, .int .i64 s.x.apart] 66)).alloc (.cells #[.int .u8 0] 5)).heap.size = w.heap.size + 1 + 1 := by simp
  rw [e1] at h2
  rw [e2] at h1
  exact ⟨h1, rfl, h2, fun e => by injection e with e; have h9 : w.heap.size + 1 = w.heap.size + 1 + 1 := e; omega⟩
 have hx1 := hx.below (hb0.mono hB)
 have hneed : ∀ y ∈ s.x.dyn.needed, y.size <= 4294967296 := hf.ok.dyn.s1
 have hson : s.x.dyn.soname.size <= 4294967296 := hf.ok.dyn.s3
 have hrun : s.x.dyn.run.size <= 4294967296 := hf.ok.dyn.s4
 have n1 := hm.n1
 obtain ⟨t01, t12, t23⟩ := texts_up s.x.dyn
 obtain ⟨a0, a1, a2, a3, a4, a5, a6, a7, a8, a9, a10, a11, a12⟩ := zJ6 hbx
 show Calls _ _ #[.agg #[.int .u16 (s.x.type : Nat), .int .u64 (s.x.entry : Nat), .string s.x.interp, .slice s.At s.x.text.length s.ct, .slice s.Ad s.x.data.length s.cd, .int .u64 (s.x.more : Nat), .bool s.x.dynamic, .slice s.A1 s.x.dyn.needed.length s.c1, .string s.x.dyn.soname, .string s.x.dyn.run, .slice s.A2 s.x.dyn.syms.length s.c2, .slice s.A3 s.x.dyn.relas.length s.c3, .int .i64 s.x.apart], _] w _
 have Hb0 := zJ2 hb0
 have Hbx := zJ2 hbx
 have HTb := zJ2 hTb
 have Hx1 := zJ2 hx1
 have Hneed := zJ2 hneed
 have Hs1 := zJ2 hs1
 clear a0 a1 a2 a3 a4 a5 a6 a12 hb0 hbx hTb hx1 hx hneed
 go_enter Tryz.func29, Tryz.ntmps29
 go_upto_region 3 with fail
 generalize (((w.alloc (.cells #[.int .u16 (s.x.type : Nat), .int .u64 (s.x.entry : Nat), .string s.x.interp, .slice s.At s.x.text.length s.ct, .slice s.Ad s.x.data.length s.cd, .int .u64 (s.x.more : Nat), .bool s.x.dynamic, .slice s.A1 s.x.dyn.needed.length s.c1, .string s.x.dyn.soname, .string s.x.dyn.run, .slice s.A2 s.x.dyn.syms.length s.c2, .slice s.A3 s.x.dyn.relas.length s.c3, .int .i64 s.x.apart] 66)).alloc (.cells #[.int .u8 0] 5)).alloc (.cells #[.slice (some ⟨w.heap.size + 1, 0, none⟩) 1 1] 150)) = w1 at *
 go_cut [8, 9] (fun sv dv wx => ∃ gs gd, sv = .pointer (some ⟨gs, 0, none⟩) /\ dv = .pointer (some ⟨gd, 0, none⟩) /\ SyS 150 (w.heap.size + 1 + 1) 0 (w.heap.size + 1) gs [.slice (some ⟨w.heap.size + 1, 0, none⟩) 1 1] (some ⟨w.heap.size + 1, 0, none⟩) w1 wx [0] [] (some (gd, 29, s.q.l)))
 case first =>
  go_region
  ·go_wp2_with fail
   go_meet
   case rel =>
    have h1 := (Blk.new w1 71 [.slice none 0 0]).alloc (.cells #[.slice s.A1 s.x.dyn.needed.length s.c1, .string s.x.dyn.soname, .string s.x.dyn.run, .slice s.A2 s.x.dyn.syms.length s.c2, .slice s.A3 s.x.dyn.relas.length s.c3] 29)
    have h2 := Blk.new (w1.alloc (.cells #[.slice none 0 0] 71)) 29 s.q.l
    have e9 : (w1.alloc (.cells #[.slice none 0 0] 71)).heap.size = w.heap.size + 1 + 1 + 1 + 1 := by simp [zJ1 Hs1]
    rw [e9] at h2
    rw [zJ1 Hs1] at h1
    exact ⟨_, _, rfl, rfl, SyS.start (zJ1 HTb) (zJ5 (((Below.refl _ _).alloc (Nat.le_refl _) _).alloc (by simp) _)) h1 h2 (by rw [zJ1 Hs1]; omega) (by rw [zJ1 Hs1]; omega) (by omega) (by rw [zJ1 Hs1]; omega)⟩
  ·go_wp2_with fail
   go_meet
   case rel =>
    have h1 := Blk.new (w1.alloc (.cells #[.slice s.A1 s.x.dyn.needed.length s.c1, .string s.x.dyn.soname, .string s.x.dyn.run, .slice s.A2 s.x.dyn.syms.length s.c2, .slice s.A3 s.x.dyn.relas.length s.c3] 29)) 71 [.slice none 0 0]
    have h2 : Blk ((w1.alloc (.cells #[.slice s.A1 s.x.dyn.needed.length s.c1, .string s.x.dyn.soname, .string s.x.dyn.run, .slice s.A2 s.x.dyn.syms.length s.c2, .slice s.A3 s.x.dyn.relas.length s.c3] 29)).alloc (.cells #[.slice none 0 0] 71)) w1.heap.size 29 s.q.l := (Blk.new w1 29 s.q.l).alloc (.cells #[.slice none 0 0] 71)
    have e9 : (w1.alloc (.cells #[.slice s.A1 s.x.dyn.needed.length s.c1, .string s.x.dyn.soname, .string s.x.dyn.run, .slice s.A2 s.x.dyn.syms.length s.c2, .slice s.A3 s.x.dyn.relas.length s.c3] 29)).heap.size = w.heap.size + 1 + 1 + 1 + 1 := by simp [zJ1 Hs1]
    rw [e9] at h1
    rw [zJ1 Hs1] at h2
    exact ⟨_, _, rfl, rfl, SyS.start (zJ1 HTb) (zJ5 (((Below.refl _ _).alloc (Nat.le_refl _) _).alloc (by simp) _)) h1 h2 (by rw [zJ1 Hs1]; omega) (by rw [zJ1 Hs1]; omega) (by omega) (by rw [zJ1 Hs1]; omega)⟩
 case rest =>
  obtain ⟨gs, gd, rfl, rfl, hS⟩ := hcut
  obtain ⟨N, hN⟩ : ∃ N, s.x.dyn.needed.length = N := ⟨_, rfl⟩
  have hN8 : N <= 8 := by omega
  have HS0 := zJ2 hS
  have HN := zJ2 hN
  have z0 : wc.cell? ⟨gd, 0, none⟩ = some (.slice s.A1 N s.c1) := by rw [<- hN]; exact hS.cell (i := 0) rfl
  obtain ⟨A1, hA1⟩ : ∃ A1, s.A1 = A1 := ⟨_, rfl⟩
  rw [hA1] at z0
  have HA1 := zJ2 hA1
  clear hS hN a7 a8 a9 a10 a11 hA1
  go_wp2_with fail
  go_loopg [33] N (fun gk iv wr => ∃ j : Nat, gk = N - j /\ j <= N /\ iv = .int .i64 j /\ SyS 150 (w.heap.size + 1 + 1) 0 (w.heap.size + 1) gs [.slice (some ⟨w.heap.size + 1, 0, none⟩) 1 1] (some ⟨w.heap.size + 1, 0, none⟩) w1 wr (Mk.puts [0] (s.x.dyn.needed.take j)) (Mk.entsB (((Mk.places [0] s.x.dyn.needed).take j).map fun p => (1, p))) (some (gd, 29, s.q.l)))
  case atStart => exact ⟨0, by omega, by omega, rfl, by simpa [Mk.puts, Mk.entsB] using zJ1 HS0⟩
  case round =>
  clear HS0 z0
  obtain ⟨j, hgk, hj, rfl, hS⟩ := hrel
  have Hgk := zJ2 hgk
  have hbB := hS.bel (B := B) (by omega) (fun k hk => by injection hk with hk; have h9 : w.heap.size + 1 = k := hk; omega) (by rw [zJ1 Hs1]; omega)
  have hxr := (zJ1 Hx1).below hbB
  have HS := zJ2 hS
  have hnd : Rd wr B 1 A1 N (s.x.dyn.needed.map Value.string) := by have h9 := hxr.dyn.needed; rw [show s.q.A1 = s.A1 from rfl, zJ1 HA1, show s.q.d.needed = s.x.dyn.needed from rfl, zJ1 HN] at h9; exact h9
  clear hgk hS hbB hxr
  by_cases hlt : j < N
  ·obtain ⟨x, hx⟩ : ∃ x, s.x.dyn.needed[j]? = some x := ⟨_, List.getElem?_eq_getElem (by rw [zJ1 HN]; exact hlt)⟩
   have hxn := (zJ1 Hneed) x (List.mem_of_getElem? hx)
   obtain ⟨b1, o1, hAA, -, st⟩ := hnd.at_ (k := j) (u := .string x) (by simp [hx])
   subst hAA
   have ilt : (j : Int) < (N : Int) := by omega
   have hpn := places_next (t := [0]) hx
   have hpl := yJf [0] s.x.dyn.needed
   have hpx : (Mk.places [0] s.x.dyn.needed)[j]? = some (Mk.place (Mk.puts [0] (s.x.dyn.needed.take j)) x) := by
    have h1 := hpn.1
    have h2 : (Mk.places [0] (s.x.dyn.needed.take j ++ s.x.dyn.needed.drop j))[j]? = some (Mk.place (Mk.puts [0] (s.x.dyn.needed.take j)) x) := by
     rw [uJe, List.getElem?_append_right (by rw [yJf, List.length_take]; omega), yJf, List.length_take]
     obtain ⟨hi, hxi⟩ := List.getElem?_eq_some_iff.1 hx
     rw [List.drop_eq_getElem_cons hi, hxi, Mk.places, show j - min j s.x.dyn.needed.length = 0 by omega]
     rfl
    rw [List.take_append_drop] at h2
    exact h2
   have hpt := puts_take_le [0] s.x.dyn.needed j
   rw [show Mk.puts [0] s.x.dyn.needed = Mk.texts0 s.x.dyn from rfl] at hpt
   have Hpn := zJ2 hpn.2
   obtain ⟨tj, htj⟩ : ∃ tj, Mk.puts [0] (s.x.dyn.needed.take j) = tj := ⟨_, rfl⟩
   have hel : (Mk.entsB (((Mk.places [0] s.x.dyn.needed).take j).map fun p => (1, p))).length <= 256 := by rw [yJ0, List.length_map, List.length_take]; omega
   obtain ⟨fj, hfj⟩ : ∃ fj, Mk.entsB (((Mk.places [0] s.x.dyn.needed).take j).map fun p => (1, p)) = fj := ⟨_, rfl⟩
   rw [hfj] at hel HS
   rw [htj] at hpt HS Hpn hpx
   have hpv := yJr tj x
   obtain ⟨pv, hpe⟩ : ∃ pv, Mk.place tj x = pv := ⟨_, rfl⟩
   rw [hpe] at hpv hpx
   have hej : Mk.entsB (((Mk.places [0] s.x.dyn.needed).take (j + 1)).map fun p => (1, p)) = fj ++ Mk.pairB (1, pv) := by rw [List.take_add_one, hpx, List.map_append, <- hfj]; exact xJu _ _
   have Hej := zJ2 hej
   have KT := zJ2 ((zJ1 HS).callText (by omega) x hxn)
   rw [hpe] at KT
   clear hx hpn hpl hpx htj hfj hpe hej hnd hxn
   go_wp2_with fail
   refine (zJ1 KT).mono ?_
   rintro e w5 ⟨rfl, hS5⟩
   have H1 := zJ2 (lit2 w5 1 (pv : Nat))
   have KN := zJ2 (hS5.callNumber (w2 := w5.alloc (.cells #[.int .u64 1, .int .u64 (pv : Nat)] 23)) (zJ3 _ _) (kv := w5.heap.size) (m := 2) (cv := 2) (s := 8) (sv := 8) (vs := [1, pv]) (Nat.le_refl _) (zJ1 H1) rfl (by intro v hv; simp at hv; rcases hv with rfl | rfl <;> omega) rfl (by omega) (by omega) (by omega))
   clear hS5 KT HS st
   go_wp2_with fail
   refine (zJ1 KN).mono ?_
   rintro e w6 ⟨rfl, hS6⟩
   have HS6 := zJ2 hS6
   clear hS6 KN H1
   go_wp2_with fail
   go_roundg (N - (j + 1))
   case measure => have := zJ1 Hgk; omega
   case rel => exact ⟨j + 1, rfl, by omega, by go_num, (zJ1 HS6).bind (zJ1 Hpn).symm (by rw [zJ1 Hej, uJx])⟩
  have hj' : j = N := by omega
  subst hj'
  have ige : ¬ (j : Int) < (j : Int) := by omega
  have hS := zJ1 HS
  rw [List.take_of_length_le (by rw [zJ1 HN]; exact Nat.le_refl _), List.take_of_length_le (by rw [yJf, zJ1 HN]; exact Nat.le_refl _)] at hS
  have hS : SyS 150 (w.heap.size + 1 + 1) 0 (w.heap.size + 1) gs [.slice (some ⟨w.heap.size + 1, 0, none⟩) 1 1] (some ⟨w.heap.size + 1, 0, none⟩) w1 wr (Mk.texts0 s.x.dyn) (Mk.entsB (Mk.heads0 s.x.dyn)) (some (gd, 29, s.q.l)) := hS
  have z1 := hS.cell (i := 1) (v := .string s.x.dyn.soname) rfl
  have HSa := zJ2 hS
  clear hS HS hnd hlt hj
  go_upto_if 46 with fail
  obtain ⟨bi, hbi⟩ : ∃ bi, s.x.dyn.soname.toList.isEmpty = bi := ⟨_, rfl⟩
  rw [hbi]
  have Hbi := zJ2 hbi
  clear hbi
  go_cut [] (fun wx => SyS 150 (w.heap.size + 1 + 1) 0 (w.heap.size + 1) gs [.slice (some ⟨w.heap.size + 1, 0, none⟩) 1 1] (some ⟨w.heap.size + 1, 0, none⟩) w1 wx (Mk.texts1 s.x.dyn) (Mk.entsB (Mk.heads1 s.x.dyn)) (some (gd, 29, s.q.l)))
  case first =>
   cases bi
   case true =>
    have hi : s.x.dyn.soname.size = 0 := by have h9 := zJ1 Hbi; rw [zJi, decide_eq_true_eq] at h9; exact h9
    have He := zJ2 (show Mk.texts1 s.x.dyn = Mk.texts0 s.x.dyn /\ Mk.heads1 s.x.dyn = Mk.heads0 s.x.dyn from ⟨by unfold Mk.texts1 Mk.put; rw [if_pos hi], by unfold Mk.heads1; rw [if_pos hi]⟩)
    clear hi
    go_wp2_with fail
    go_meet
    case rel => rw [(zJ1 He).1, (zJ1 He).2]; exact zJ1 HSa
   case false =>
    have hi : s.x.dyn.soname.size ≠ 0 := by have h9 := zJ1 Hbi; rw [zJi, decide_eq_false_iff_not] at h9; exact h9
    have He := zJ2 (show Mk.heads1 s.x.dyn = Mk.heads0 s.x.dyn ++ [(14, Mk.place (Mk.texts0 s.x.dyn) s.x.dyn.soname)] by unfold Mk.heads1; rw [if_neg hi])
    have KT := zJ2 ((zJ1 HSa).callText (by omega) s.x.dyn.soname hson)
    clear hi
    go_wp2_with fail
    refine (zJ1 KT).mono ?_
    rintro e w5 ⟨rfl, hS5⟩
    have hpv := yJr (Mk.texts0 s.x.dyn) s.x.dyn.soname
    obtain ⟨pv, hpe⟩ : ∃ pv, Mk.place (Mk.texts0 s.x.dyn) s.x.dyn.soname = pv := ⟨_, rfl⟩
    have Hpe := zJ2 hpe
    rw [hpe] at hpv ⊢
    have H1 := zJ2 (lit2 w5 14 (pv : Nat))
    have KN := zJ2 (hS5.callNumber (w2 := w5.alloc (.cells #[.int .u64 14, .int .u64 (pv : Nat)] 23)) (zJ3 _ _) (kv := w5.heap.size) (m := 2) (cv := 2) (s := 8) (sv := 8) (vs := [14, pv]) (Nat.le_refl _) (zJ1 H1) rfl (by intro v hv; simp at hv; rcases hv with rfl | rfl <;> omega) rfl (by omega) (by rw [yJ0]; have := xJr s.x.dyn; have := heads_up s.x.dyn; omega) (by omega))
    clear hS5 KT hpe
    go_wp2_with fail
    refine (zJ1 KN).mono ?_
    rintro e w6 ⟨rfl, hS6⟩
    have HS6 := zJ2 hS6
    clear hS6 KN H1
    go_wp2_with fail
    go_meet
    case rel => exact (zJ1 HS6).bind rfl (by rw [zJ1 He, zJ1 Hpe, xJu, uJx])
  case rest =>
   have HSb := zJ2 hcut
   clear hcut Hbi
   have z2 := (zJ1 HSb).cell (i := 2) (v := .string s.x.dyn.run) rfl
   clear HSa z1
   go_upto_if 56 with fail
   obtain ⟨bi, hbi⟩ : ∃ bi, s.x.dyn.run.toList.isEmpty = bi := ⟨_, rfl⟩
   rw [hbi]
   have Hbi := zJ2 hbi
   clear hbi
   go_cut [] (fun wx => SyS 150 (w.heap.size + 1 + 1) 0 (w.heap.size + 1) gs [.slice (some ⟨w.heap.size + 1, 0, none⟩) 1 1] (some ⟨w.heap.size + 1, 0, none⟩) w1 wx (Mk.texts2 s.x.dyn) (Mk.entsB (Mk.heads2 s.x.dyn)) (some (gd, 29, s.q.l)))
   case first =>
    cases bi
    case true =>
     have hi : s.x.dyn.run.size = 0 := by have h9 := zJ1 Hbi; rw [zJi, decide_eq_true_eq] at h9; exact h9
     have He := zJ2 (show Mk.texts2 s.x.dyn = Mk.texts1 s.x.dyn /\ Mk.heads2 s.x.dyn = Mk.heads1 s.x.dyn from ⟨by unfold Mk.texts2 Mk.put; rw [if_pos hi], by unfold Mk.heads2; rw [if_pos hi]⟩)
     clear hi
     go_wp2_with fail
     go_meet
     case rel => rw [(zJ1 He).1, (zJ1 He).2]; exact zJ1 HSb
    case false =>
     have hi : s.x.dyn.run.size ≠ 0 := by have h9 := zJ1 Hbi; rw [zJi, decide_eq_false_iff_not] at h9; exact h9
     have He := zJ2 (show Mk.heads2 s.x.dyn = Mk.heads1 s.x.dyn ++ [(29, Mk.place (Mk.texts1 s.x.dyn) s.x.dyn.run)] by unfold Mk.heads2; rw [if_neg hi])
     have KT := zJ2 ((zJ1 HSb).callText (by omega) s.x.dyn.run hrun)
     clear hi
     go_wp2_with fail
     refine (zJ1 KT).mono ?_
     rintro e w5 ⟨rfl, hS5⟩
     have hpv := yJr (Mk.texts1 s.x.dyn) s.x.dyn.run
     obtain ⟨pv, hpe⟩ : ∃ pv, Mk.place (Mk.texts1 s.x.dyn) s.x.dyn.run = pv := ⟨_, rfl⟩
     have Hpe := zJ2 hpe
     rw [hpe] at hpv ⊢
     have H1 := zJ2 (lit2 w5 29 (pv : Nat))
     have KN := zJ2 (hS5.callNumber (w2 := w5.alloc (.cells #[.int .u64 29, .int .u64 (pv : Nat)] 23)) (zJ3 _ _) (kv := w5.heap.size) (m := 2) (cv := 2) (s := 8) (sv := 8) (vs := [29, pv]) (Nat.le_refl _) (zJ1 H1) rfl (by intro v hv; simp at hv; rcases hv with rfl | rfl <;> omega) rfl (by omega) (by rw [yJ0]; have := xJr s.x.dyn; have := heads_up s.x.dyn; omega) (by omega))
     clear hS5 KT hpe
     go_wp2_with fail
     refine (zJ1 KN).mono ?_
     rintro e w6 ⟨rfl, hS6⟩
     have HS6 := zJ2 hS6
     clear hS6 KN H1
     go_wp2_with fail
     go_meet
     case rel => exact (zJ1 HS6).bind rfl (by rw [zJ1 He, zJ1 Hpe, xJu, uJx])
   case rest =>
    have HSc := zJ2 hcut
    clear hcut Hbi
    have hS := zJ1 HSc
    obtain ⟨At, nt, ct, Af, cf, hE, hM, q1, q2, q3⟩ := hS.tx
    obtain ⟨g1, g2, g3, g4, g5⟩ := q3 _ rfl
    have hgs := hS.hgF
    rw [zJ1 Hs1] at hgs g3
    have hb9 := hS.bel (B := w.heap.size + 1) (by omega) (fun k hk => by injection hk with hk; have h9 : w.heap.size + 1 = k := hk; omega) (by rw [zJ1 Hs1]; omega)
    have hlt := hM.lt
    have hsz9 := hb9.size
    clear z2 HSb
    go_step
    exact psecB s gf gs (w.heap.size + 1 + 1) gd base n c B nt ct cf (w.heap.size + 1) T A Af At fs w wc hF hbase hfs
     ⟨Blk.below (zJ1 Hbx) hb9 (by omega), (zJ1 Hx1).below (hb9.mono (by omega)), hE.m, ⟨hM.blk, hM.at_, zJh hM.row (by rw [zJ1 Hs1]; omega), hM.ne⟩, g1, fun k hk => ⟨fun e => q2 (by rw [<- e]; exact hk), fun e => q1 k e hk⟩, (zJ1 Hb0).trans (hb9.mono (by omega)), by have := zJ1 Hs1; omega, hB⟩
     (by omega) (by omega) (by have := zJ1 Hs1; omega) (by omega) (by omega) (by omega) g4 (fun e => by have := (hlt _ e).1; have := zJ1 Hs1; omega) (fun e => by have := (hlt _ e).1; have := zJ1 Hs1; omega) hm hf hT hT2 _ _ _ _ _ _ _ _ _ _ _ _ _ _ _ _ _ _ _ _ _ _ _ _ _ _ _ _ _ _ _ _ _ _ _ _ _ _ _ _ _ _ _ _ _ _ _ _ _ _ _ _ _ _ _ _ _ _ _ _ _ _ _ _ _ _ _ _ _ _ _ _ _ _ _ _ _ _ _ _ _ _ _ _ _ _ _ _ _ _ _ _ _ _ _ _ _ _ _ _ _ _ _ _ _ _ _ _ _ _ _ _ _ _ _ _ _ _ _ _ _ _ _ _ _ _ _ _ _ _ _ _ _ _ _ _ _ _ _ _ _ _ _ _ _ _ _ _ _ _ _ _ _ _ _ _ _ _ _ _ _ _ _ _ _ _ _ _ _ _ _
theorem rowC_len (l : List Mk.Row) : (rowC l).length = 7 * l.length := by
 unfold rowC
 induction l with
 | nil => rfl
 | cons s r ih => rw [List.flatMap_cons, List.length_append, ih, List.length_cons, Nat.mul_succ]; show 7 + _ = _; omega
theorem rowC_app (a b : List Mk.Row) : rowC (a ++ b) = rowC a ++ rowC b := by simp [rowC]
theorem rowC_one (l : List Mk.Row) : ∀ u ∈ rowC l, u.oneCell' = true := by
 intro u hu
 obtain ⟨r, -, hr⟩ := List.mem_flatMap.1 hu
 exact yJ5 r u hr
theorem yJu : SlTy Tryz.prog 72 74 7 56 := yJx (z := .agg #[.int .u64 0, .int .u64 0, .int .u64 0, .int .u64 0, .int .u64 0, .int .u64 0, .int .u64 0]) Tryz.underlying72 (by kernel_rfl) rfl (by omega) (by omega)
structure PmS (gF gl : Nat) (w wr : World) (Af : Option Addr) (nf cf : Nat) (fs : List UInt8) (Al : Option Addr) (cl : Nat) (rs : List Mk.Row) (H : List (Nat × TypeId × List Value)) (Ad : Option Addr) (nd cd : Nat) (ds : List Mk.Row) : Prop where
 below : Below w.heap.size w wr
 fi : FiM wr 71 gF 0 [.slice Af nf cf] w.heap.size Af nf cf fs
 lb : Blk wr gl 72 [.slice Al rs.length cl]
 row : wr.ownsRow w.heap.size 74 7 (.slice Al rs.length cl) rs.length (rowC rs)
 dyn : wr.ownsRow w.heap.size 74 7 (.slice Ad nd cd) nd (rowC ds)
 d1 : ∀ k, bk Al = some k -> bk Af ≠ some k /\ k ≠ gF /\ k ≠ gl
 d2 : bk Af ≠ some gl
 d3 : ∀ k, bk Ad = some k -> bk Af ≠ some k /\ bk Al ≠ some k /\ k ≠ gF /\ k ≠ gl
 held : ∀ p ∈ H, Blk wr p.1 p.2.1 p.2.2 /\ p.1 ≠ gF /\ p.1 ≠ gl /\ bk Af ≠ some p.1 /\ bk Al ≠ some p.1
 hF : w.heap.size <= gF
 hl : w.heap.size <= gl
 ne : gF ≠ gl
section
variable {gF gl nf cf cl nd cd nf2 cf2 : Nat} {w wr w' : World} {Af Al Ad Af2 : Option Addr} {fs fs2 : List UInt8} {rs ds : List Mk.Row} {H : List (Nat × TypeId × List Value)}
theorem PmS.size (h : PmS gF gl w wr Af nf cf fs Al cl rs H Ad nd cd ds) : w.heap.size <= wr.heap.size := h.below.size
theorem PmS.calm (h : PmS gF gl w wr Af nf cf fs Al cl rs H Ad nd cd ds) (hb : Below wr.heap.size wr w') : PmS gF gl w w' Af nf cf fs Al cl rs H Ad nd cd ds :=
 ⟨h.below.trans (hb.mono h.size), h.fi.below hb, h.lb.belowSz hb, own_below h.row hb, own_below h.dyn hb, h.d1, h.d2, h.d3, fun p hp => ⟨(h.held p hp).1.belowSz hb, (h.held p hp).2⟩, h.hF, h.hl, h.ne⟩
theorem PmS.sub (h : PmS gF gl w wr Af nf cf fs Al cl rs H Ad nd cd ds) {H' : List (Nat × TypeId × List Value)} (hs : ∀ p ∈ H', p ∈ H) : PmS gF gl w wr Af nf cf fs Al cl rs H' Ad nd cd ds :=
 ⟨h.below, h.fi, h.lb, h.row, h.dyn, h.d1, h.d2, h.d3, fun p hp => h.held p (hs p hp), h.hF, h.hl, h.ne⟩
theorem PmS.bind (h : PmS gF gl w wr Af nf cf fs Al cl rs H Ad nd cd ds) {fs' : List UInt8} (e : fs = fs') : PmS gF gl w wr Af nf cf fs' Al cl rs H Ad nd cd ds := by subst e; exact h
theorem PmS.cell (h : PmS gF gl w wr Af nf cf fs Al cl rs H Ad nd cd ds) {k i : Nat} {t3 : TypeId} {l3 : List Value} {v : Value} (hm : (k, t3, l3) ∈ H) (hi : l3[i]? = some v) : wr.cell? ⟨k, i, none⟩ = some v := (h.held _ hm).1.cell hi
theorem PmS.front (h : PmS gF gl w wr Af nf cf fs Al cl rs H Ad nd cd ds) (E : FiE 71 gF 0 [.slice Af nf cf] w.heap.size Af wr w' Af2 nf2 cf2 fs2) : PmS gF gl w w' Af2 nf2 cf2 fs2 Al cl rs H Ad nd cd ds := by
 obtain ⟨r1, r2⟩ := E.own h.row (fun e => (h.d1 _ e).2.1 rfl) (fun k hk => (h.d1 k hk).1)
 obtain ⟨q1, q2⟩ := E.own h.dyn (fun e => (h.d3 _ e).2.2.1 rfl) (fun k hk => (h.d3 k hk).1)
 refine ⟨h.below.trans (E.below h.hF (fun k hk => (h.fi.lt k hk).1) h.size), E.m, E.blk h.lb (fun e => h.ne e.symm) h.d2, r1, q1, fun k hk => ⟨r2 k hk, (h.d1 k hk).2⟩, fun e => ?_, fun k hk => ⟨q2 k hk, (h.d3 k hk).2⟩, fun p hp => ?_, h.hF, h.hl, h.ne⟩
 ·rcases E.at_ _ e with h9 | h9
  ·exact h.d2 h9
  ·have := h.lb.lt; omega
 ·obtain ⟨p1, p2, p3, p4, p5⟩ := h.held p hp
  refine ⟨E.blk p1 p2 p4, p2, p3, fun e => ?_, p5⟩
  rcases E.at_ _ e with h9 | h9
  ·exact p4 h9
  ·have := p1.lt; omega
theorem PmS.midBlk (h : PmS gF gl w wr Af nf cf fs Al cl rs H Ad nd cd ds) (hg : wr.grownBy w' (Value.slice Al rs.length cl).ownBlock) {p : Nat × TypeId × List Value} (hp : p ∈ H) : Blk w' p.1 p.2.1 p.2.2 := by
 rw [zJr] at hg
 exact (hg.block p.1 (h.held p hp).1.lt (fun e => (h.held p hp).2.2.2.2 e.symm)).trans (h.held p hp).1
theorem PmS.midL (h : PmS gF gl w wr Af nf cf fs Al cl rs H Ad nd cd ds) (hg : wr.grownBy w' (Value.slice Al rs.length cl).ownBlock) : Blk w' gl 72 [.slice Al rs.length cl] := by
 rw [zJr] at hg
 exact (hg.block gl h.lb.lt (fun e => (h.d1 gl e.symm).2.2 rfl)).trans h.lb
theorem PmS.midF (h : PmS gF gl w wr Af nf cf fs Al cl rs H Ad nd cd ds) (hg : wr.grownBy w' (Value.slice Al rs.length cl).ownBlock) : Blk w' gF 71 [.slice Af nf cf] := by
 rw [zJr] at hg
 exact (hg.block gF h.fi.blk.lt (fun e => (h.d1 gF e.symm).2.1 rfl)).trans h.fi.blk
theorem PmS.midRow (h : PmS gF gl w wr Af nf cf fs Al cl rs H Ad nd cd ds) (hg : wr.grownBy w' (Value.slice Al rs.length cl).ownBlock) : w'.ownsRow w.heap.size 5 1 (.slice Af nf cf) nf (bys fs) := by
 rw [zJr] at hg
 exact xJo h.fi.row hg (fun k hk e => (h.d1 k e).1 hk)
theorem PmS.kne (h : PmS gF gl w wr Af nf cf fs Al cl rs H Ad nd cd ds) {p : Nat × TypeId × List Value} (hp : p ∈ H) : bk Af ≠ some p.1 := (h.held p hp).2.2.2.1
theorem PmS.push {A2 : Option Addr} {c2 : Nat} (h : PmS gF gl w wr Af nf cf fs Al cl rs H Ad nd cd ds) (r : Mk.Row) (ho : w'.ownsRow w.heap.size 74 7 (.slice A2 (rs.length + 1) c2) (rs.length + 1) (rowC rs ++ rowV r)) (hg : wr.grownBy w' (Value.slice Al rs.length cl).ownBlock) (hat : ∀ k, (Value.slice A2 (rs.length + 1) c2).ownBlock = some k -> (Value.slice Al rs.length cl).ownBlock = some k \/ wr.heap.size <= k) :
  PmS gF gl w (w'.setCell ⟨gl, 0, none⟩ (.slice A2 (rs.length + 1) c2)) Af nf cf fs A2 c2 (rs ++ [r]) H Ad nd cd ds := by
 have hL := h.midL hg
 have hF := h.midF hg
 have hH := fun p hp => h.midBlk hg (p := p) hp
 rw [zJr] at hg
 simp only [zJr] at hat
 have hfr := (h.fi.grown hg (fun e => (h.d1 gF e).2.1 rfl) (fun k hk e => (h.d1 k e).1 hk))
 have hdy := xJo h.dyn hg (fun k hk => (h.d3 k hk).2.1)
 have hlen : (rs ++ [r]).length = rs.length + 1 := by rw [List.length_append]; rfl
 have hA2 : ∀ k, bk A2 = some k -> bk Af ≠ some k /\ k ≠ gF /\ k ≠ gl := fun k hk => by
  rcases hat k hk with h9 | h9
  ·exact h.d1 k h9
  ·exact ⟨fun e => by have := (h.fi.lt k e).2; omega, fun e => by have := h.fi.blk.lt; omega, fun e => by have := h.lb.lt; omega⟩
 have hB := h.below.grown hg h.size (fun k hk => (zJ7 h.row k hk).1)
 refine ⟨⟨hB.os, hB.tape, hB.output, by simpa using hB.size, fun k hk => (heap_setCell_other _ _ _ _ (by have := h.hl; show k ≠ gl; omega)).trans (hB.block k hk)⟩, ?_, ?_, ?_, ?_, hA2, h.d2, fun k hk => ⟨(h.d3 k hk).1, fun e => ?_, (h.d3 k hk).2.2⟩, fun p hp => ?_, h.hF, h.hl, h.ne⟩
 ·exact ⟨(heap_setCell_other _ _ _ _ (by show gF ≠ gl; exact h.ne)).trans hF, rfl, zJm hfr.row (fun e => h.d2 e) _, h.fi.ne⟩
 ·rw [hlen]
  exact hL.set 0 _
 ·rw [hlen, rowC_snoc]
  exact zJm ho (fun e => (hA2 _ e).2.2 rfl) _
 ·exact zJm hdy (fun e => (h.d3 _ e).2.2.2 rfl) _
 ·rcases hat k e with h9 | h9
  ·exact (h.d3 k hk).2.1 h9
  ·have := (zJ7 h.dyn k hk).2; omega
 ·obtain ⟨p1, p2, p3, p4, p5⟩ := h.held p hp
  refine ⟨(heap_setCell_other _ _ _ _ (by show p.1 ≠ gl; exact p3)).trans (hH p hp), p2, p3, p4, fun e => ?_⟩
  rcases hat _ e with h9 | h9
  ·exact p5 h9
  ·have := p1.lt; omega
theorem PmS.putDyn {A2 : Option Addr} {c2 : Nat} (h : PmS gF gl w wr Af nf cf fs Al cl rs H none 0 0 []) (r : Mk.Row) (ho : w'.ownsRow w.heap.size 74 7 (.slice A2 1 c2) 1 (rowV r)) (hg : wr.grownBy w' none) (hat : ∀ k, (Value.slice A2 1 c2).ownBlock = some k -> (Value.slice none 0 0).ownBlock = some k \/ wr.heap.size <= k) :
  PmS gF gl w w' Af nf cf fs Al cl rs H A2 1 c2 [r] := by
 have h2 := h.calm ((Below.refl _ _).grown hg (Nat.le_refl _) (fun k hk => by cases hk))
 simp only [zJr] at hat
 have hnew : ∀ k, bk A2 = some k -> wr.heap.size <= k := fun k hk => by
  rcases hat k hk with h9 | h9
  ·simp [bk] at h9
  ·exact h9
 refine ⟨h2.below, h2.fi, h2.lb, h2.row, by simpa [rowC] using ho, h2.d1, h2.d2, fun k hk => ⟨fun e => ?_, fun e => ?_, fun e => ?_, fun e => ?_⟩, h2.held, h.hF, h.hl, h.ne⟩
 ·have := hnew k hk; have := (h.fi.lt k e).2; omega
 ·have := hnew k hk; have := (zJ7 h.row k e).2; omega
 ·have := hnew k hk; have := h.fi.blk.lt; omega
 ·have := hnew k hk; have := h.lb.lt; omega
theorem PmS.lay (h : PmS gF gl w wr Af nf cf fs Al cl rs H Ad nd cd ds) (t3 : TypeId) (l3 : List Value) : PmS gF gl w (wr.alloc (.cells l3.toArray t3)) Af nf cf fs Al cl rs ((wr.heap.size, t3, l3) :: H) Ad nd cd ds := by
 have h2 := h.calm (zJ3 wr (.cells l3.toArray t3))
 refine ⟨h2.below, h2.fi, h2.lb, h2.row, h2.dyn, h2.d1, h2.d2, h2.d3, fun p hp => ?_, h.hF, h.hl, h.ne⟩
 rcases List.mem_cons.1 hp with rfl | hp
 ·exact ⟨Blk.new wr t3 l3, fun e => by have := h.fi.blk.lt; have e' : wr.heap.size = gF := e; omega, fun e => by have := h.lb.lt; have e' : wr.heap.size = gl := e; omega, fun e => by have := (h.fi.lt _ e).2; have e' : wr.heap.size < wr.heap.size := this; omega, fun e => by have := (zJ7 h.row _ e).2; have e' : wr.heap.size < wr.heap.size := this; omega⟩
 ·exact h2.held p hp
theorem PmS.out (h : PmS gF gl w wr Af nf cf fs Al cl rs H Ad nd cd ds) : PmS wr.heap.size gl w (wr.alloc (.cells #[.slice Af nf cf] 71)) Af nf cf fs Al cl rs ((gF, 71, [.slice Af nf cf]) :: H) Ad nd cd ds := by
 have h2 := h.calm (zJ3 wr (.cells #[.slice Af nf cf] 71))
 refine ⟨h2.below, ⟨Blk.new wr _ _, rfl, h2.fi.row, fun e => by have := (h.fi.lt _ e).2; omega⟩, h2.lb, h2.row, h2.dyn, fun k hk => ⟨(h.d1 k hk).1, fun e => by have := (zJ7 h.row k hk).2; omega, (h.d1 k hk).2.2⟩, h.d2, fun k hk => ⟨(h.d3 k hk).1, (h.d3 k hk).2.1, fun e => by have := (zJ7 h.dyn k hk).2; omega, (h.d3 k hk).2.2.2⟩, fun p hp => ?_, h.size, h.hl, fun e => by have := h.lb.lt; omega⟩
 rcases List.mem_cons.1 hp with rfl | hp
 ·exact ⟨h2.fi.blk, fun e => by have := h.fi.blk.lt; have e' : gF = wr.heap.size := e; omega, h.ne, h.fi.ne, fun e => (h.d1 _ e).2.1 rfl⟩
 ·obtain ⟨p1, p2, p3, p4, p5⟩ := h2.held p hp
  exact ⟨p1, fun e => by have := (h.held p hp).1.lt; omega, p3, p4, p5⟩
end
end Go.Proofs.YtnbecdahfgkffaaGreat
