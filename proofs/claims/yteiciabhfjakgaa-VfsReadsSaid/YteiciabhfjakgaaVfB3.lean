/- All that the chapter's last three laws stand on. Ahead of it: The reference's New: the walk. Conditions: as it says. What made answers; the answers of the two News in one form. Conditions: as each says. A region's lexical order serves every order: a check that the kernel does in little time also where the region is long. No conditions. made: the walk. Conditions: those of the arguments. The reference's Walk: the walk. Conditions: as it says. VfsWalks: the law's walk. Conditions: those of the arguments. The reference's Meta: the walk. Conditions: as it says. The reference's Read: the walk. Conditions: as it says. The reference's Path: the walk. Conditions: as it says. Append of one byte onto a row of the call's own: in place, or all that was there stays. No conditions. The walk of hostelref00.goneOn: 40 marks behind a row, the slice itself read as before. Conditions: there are fewer than 2^32 bytes. The walk of hostelref00.marked; the state of Apart. Conditions: there are fewer than 2^32 bytes. The walk of hostelref00.Apart: rows of the call's own that lie apart. Conditions: there are fewer than 2^32 bytes in each. Three rows that were made one behind the other, put into a new row of slices. No conditions. VfsReads: the law's walk. Conditions: those of the arguments. VfsNews: the law's walk. Conditions: those of the arguments. What a way reads as. No conditions. -/
import Derived.Test.YteiciabhfjakgaaVfB2
import Derived.Deep.RegionHeld3
import Derived.BigQuiet
import Derived.Test.YteiciabhfjakgaaVfB1
import Derived.BigRegion
import Derived.Maps.AppendAt
import Derived.Deep.LoopGhost
namespace Go.Proofs.Yteiciabhfjakgaa
set_option linter.unusedVariables false
set_option linter.unusedSimpArgs false
open Go.RowKit

def NewRE (es : List Vf.Ent) (w : World) (e : Ending) (w' : World) : Prop :=
  Below w.heap.size w w' ∧ (((Vf.new es).1 ≠ 0 ∧ e = .returned (.tuple #[.pointer none, .int .i64 (Vf.new es).1, .int .i64 (Vf.new es).2.1])) ∨
    ((Vf.new es).1 = 0 ∧ ∃ g A c ls, e = .returned (.tuple #[.pointer (some ⟨g, 0, none⟩), .int .i64 0, .int .i64 0]) ∧ RFs w' w.heap.size g A c (Vf.new es).2.2 ls ∧ Vf.Good (Vf.new es).2.2 ∧ (Vf.new es).2.2.length = es.length + 1 ∧ (Vf.new es).2.1 = 0 ∧ es.length ≤ 64))
theorem wp_app1g {P : Program} {t e : TypeId} {size bytes : Nat} (T : SlTy P t e size bytes) {W : World} {o : Oper} {a : Act} {K : Act → World → Prop} {Q : Exit → Act → World → Prop} (s x : Operand)
    (ho : o.op = .call { callee := .builtin .append, args := #[s, x], argTypes := #[t, t] })
    (base : Nat) (v : Value) (n : Nat) (xs : List Value) (hs : a.eval s = v) (hown : W.ownsRow base e size v n xs)
    (cs : Array Value) (g : Nat) (hx : a.eval x = .slice (some ⟨g, 0, none⟩) 1 1) (hg : g = W.heap.size) (hcs : cs.size = size) (h1 : ∀ u ∈ cs.toList, u.oneCell' = true)
    (hb : (n + 1) * bytes ≤ 140737488355328) (hbase : base ≤ W.heap.size)
    (h : ∀ A' c' w', w'.ownsRow base e size (.slice A' (n + 1) c') (n + 1) (xs ++ cs.toList) → W.grownBy w' v.ownBlock → K (a.put o.dst (.slice A' (n + 1) c')) w') : o.wp P a (W.alloc (.cells cs e)) K Q := by
  subst hg
  refine wp_app T s x ho base v n xs hs (hown.alloc _) (W.heap.size + 1) (some ⟨W.heap.size, 0, none⟩) 1 1 cs.toList hx (Rd.row hcs) h1 hb (by simp; omega) fun v' w' h2 h3 h4 => ?_
  obtain ⟨A', c', rfl⟩ := own_form h2
  exact h A' c' w' h2 (grown_trans (World.grownBy_alloc W _ _) h3)
theorem takeQ {P : Program} {md : Region.Mode} {ops : Array Oper} {Q : Exit → Act → World → Prop} {S : World → Prop} {i : Nat} {oi : Oper} {v : Value} {d : Option Tmp} {fuel : Nat} {listed : Array Bool} {a : Act} {w : World} (hi : ops[i]? = some oi) (hd : oi.dst = d)
    (hs : Region.noSelect ops = true) (hf : Region.free md ops listed i = true) (hr : (Region.ready md ops listed).contains i = true)
    (hQ : ∀ c a w, Q (.panic c) (a.put d v) w → Q (.panic c) a w) (hy : YieldsIf P ops S oi v a) (hS : S w)
    (h : wpAnyH P md ops Q S fuel (listed.setIfInBounds i true) (a.put d v) w) : wpAnyH P md ops Q S (fuel + 1) listed a w := by
  subst hd
  exact wpAnyH_take hi hs hf hr hQ hy hS h
theorem numV_some (i : Nat) : numV (some i) = .int .i64 (i : Nat) := rfl
theorem numV_none : numV none = .int .i64 (-1) := rfl

set_option maxRecDepth 100000 in
set_option maxHeartbeats 8000000 in
theorem rnew_any (l : List EntA) (A : Option Addr) (n c B : Nat) (w : World) (h : Rd w B 7 A n (rowCs entVals l)) (hB : B ≤ w.heap.size) (hl : l.length = n) (hok : ∀ s ∈ l, EntOk w s) (hn : n ≤ 4294967296) :
    Calls Try.prog 29 #[.slice A n c] w (NewRE (l.map (·.e)) w) := by
  have hlm : (l.map (·.e)).length = n := by simpa using hl
  have H := hide h
  have Hl := hide hl
  have Hok := hide hok
  have Hlm := hide hlm
  clear h hl hok hlm
  by_cases h64 : 64 < n
  · have g1 : (64 : Int) < (n : Int) := by omega
    have hnew : Vf.new (l.map (·.e)) = (15, -1, []) := by unfold Vf.new; rw [if_pos (by rw [unhide Hlm]; exact h64)]
    have Hnew := hide hnew
    clear h64 hnew
    go_enter Try.func29, Try.ntmps29
    go_wp2_with fail
    go_ret3
    unfold NewRE
    rw [unhide Hnew]
    exact ⟨Below.refl _ _, .inl ⟨by decide, rfl⟩⟩
  · have g1 : ¬ (64 : Int) < (n : Int) := by omega
    have hbF : Blk (w.alloc (.cells #[.slice none 0 0] 77)) w.heap.size 77 [.slice none 0 0] := Blk.new w _ _
    have HbF := hide hbF
    clear hbF
    go_enter Try.func29, Try.ntmps29
    go_wp2_with (at_builtin; refine wpList_app1g rnodeTy rfl _ _ rfl w.heap.size (.slice none 0 0) 0 [] rfl (World.ownsRow_nil _ _ _ _) (rndV (Vf.root, ⟨none, 0, 0⟩)).toArray _ rfl (by simp) rfl (rndV_one _) (by omega) (by simp) ?_; intro A4 c4 w4 ho4 hg4 hat4; have hf4 : Blk w4 w.heap.size 77 [.slice none 0 0] := (hg4.block _ (unhide HbF).lt (fun e => by simp [Value.ownBlock] at e)).trans (unhide HbF); have hb4 : Below w.heap.size w w4 := ((Below.refl w.heap.size w).alloc (Nat.le_refl _) (.cells #[.slice none 0 0] 77)).grown hg4 (by simp) (fun k hk => by simp [Value.ownBlock] at hk); simp only [Nat.zero_add, List.nil_append] at ho4 ⊢; have t0 : w4.cell? ⟨w.heap.size, 0, none⟩ = some (.slice none 0 0) := hf4.cell rfl; have tf : w4.frozen? ⟨w.heap.size, 0, none⟩ = false := hf4.free 0; have Ho4 := hide ho4; have Hf4 := hide hf4; have Hb4 := hide hb4; clear ho4 hg4 hat4 hf4 hb4)
    have hRF0 : RFs (w4.setCell ⟨w.heap.size, 0, none⟩ (.slice A4 1 c4)) w.heap.size w.heap.size A4 c4 [Vf.root] [⟨none, 0, 0⟩] := by
      refine RFs.start w A4 c4 _ ?_ ((unhide Hf4).set 0 _)
      have ho := unhide Ho4
      refine ⟨ho.1, ho.2.imp id fun ⟨k, cap, cur, e1, e2, e3, r⟩ => ⟨k, cap, cur, e1, e2, (heap_setCell_other _ _ _ _ ?_).trans e3, r⟩⟩
      show k ≠ w.heap.size
      rintro rfl
      have hg := unhide Hf4
      unfold Blk at hg
      rw [e3] at hg
      injection hg with hg
      injection hg with _ h3
      exact absurd h3 (by decide)
    have HRF0 := hide hRF0
    have HB0 := hide ((unhide Hb4).setCell (p := ⟨w.heap.size, 0, none⟩) (Nat.le_refl _) (.slice A4 1 c4))
    clear hRF0 t0 tf
    go_loopg [6] n (fun gk iv wr => ∃ (k : Nat) (F : List Vf.Nd) (ls : List RPl) (A' : Option Addr) (c' : Nat), gk = n - k ∧ k ≤ n ∧ iv = .int .i64 (k : Nat) ∧ Vf.adds [Vf.root] 0 (l.map (·.e)) = Vf.adds F k ((l.map (·.e)).drop k) ∧ Vf.Good F ∧ F.length = k + 1 ∧ RFs wr w.heap.size w.heap.size A' c' F ls ∧ Below w.heap.size w wr)
    case atStart => exact ⟨0, [Vf.root], _, _, _, by omega, Nat.zero_le _, rfl, rfl, Vf.good_root, rfl, unhide HRF0, unhide HB0⟩
    case round =>
    obtain ⟨k, F, ls, A', c', hgk, hk, rfl, hadds, hF, hFl, hFS, hB2⟩ := hrel
    have Hgk := hide hgk
    have Hadds := hide hadds
    have HF := hide hF
    have HFl := hide hFl
    have HFS := hide hFS
    have HB := hide hB2
    clear hgk hadds hF hFl hFS hB2
    by_cases hlt : k < n
    case neg =>
      have hkn : k = n := by omega
      have ilt : ¬ (k : Int) < (n : Int) := by omega
      go_wp2_with fail
      go_ret3
      have ha := unhide Hadds
      rw [List.drop_of_length_le (by rw [unhide Hlm]; omega)] at ha
      have hnew : Vf.new (l.map (·.e)) = (0, 0, F) := by
        unfold Vf.new
        rw [if_neg (by rw [unhide Hlm]; exact h64), ha]
        rfl
      unfold NewRE
      rw [hnew]
      exact ⟨unhide HB, .inr ⟨rfl, _, A', c', ls, rfl, unhide HFS, unhide HF, by rw [unhide HFl, unhide Hlm, hkn], rfl, by rw [unhide Hlm]; omega⟩⟩
    obtain ⟨s, hs⟩ : ∃ s, l[k]? = some s := ⟨_, List.getElem?_eq_getElem (by rw [unhide Hl]; exact hlt)⟩
    obtain ⟨b1, o1, rfl, hb1, c1⟩ := (unhide H).open_ (by
      intro h0
      have := rowCs_len (vals := entVals) (size := 7) (fun _ => rfl) l
      rw [h0, unhide Hl] at this
      simp at this
      omega)
    have hc : ∀ j u, (entVals s)[j]? = some u → wr.cell? ⟨b1, o1 + (k * 7 + j), none⟩ = some u := by
      intro j u hu
      have hj : j < 7 := (List.getElem?_eq_some_iff.1 hu).1
      refine ((unhide HB).cell (p := ⟨b1, _, none⟩) (Nat.lt_of_lt_of_le hb1 hB)).trans (c1 _ _ ?_)
      rw [rowCs_at (vals := entVals) (size := 7) (fun _ => rfl) l k s hs j hj, hu]
    have x0 := hc 0 _ rfl
    have x1 := hc 1 _ rfl
    have x2 := hc 2 _ rfl
    have x3 := hc 3 _ rfl
    have x4 := hc 4 _ rfl
    have x5 := hc 5 _ rfl
    have x6 := hc 6 _ rfl
    rw [Nat.add_zero] at x0
    simp only [← Nat.add_assoc] at x1 x2 x3 x4 x5 x6
    have ilt : (k : Int) < (n : Int) := by omega
    have hes : (l.map (·.e))[k]? = some s.e := by rw [List.getElem?_map, hs]; rfl
    have hstep := adds_step (F := F) hes
    have hbA : Below wr.heap.size wr (wr.alloc (.cells (entVals s).toArray 60)) := (Below.refl _ _).alloc (Nat.le_refl _) _
    have hbE : Blk (wr.alloc (.cells (entVals s).toArray 60)) wr.heap.size 60 (entVals s) := Blk.new wr _ _
    have hok := (unhide Hok) s (List.mem_of_getElem? hs)
    have hdl : s.e.data.length = s.n := by simpa [bys] using hok.d.len1
    have KM := mayR_any s.e s.A s.n s.c (wr.alloc (.cells (entVals s).toArray 60)) hdl hok.n hok.p hok.t hok.m
    have KP := fun w' => rparts_any s.e.path hok.p w'
    have fail_ : ∀ (er : Int) (w' : World), (Vf.add F s.e).1 = er → er ≠ 0 → Below w.heap.size w w' → NewRE (l.map (·.e)) w (.returned (.tuple #[.pointer none, .int .i64 er, .int .i64 (k : Nat)])) w' := by
      intro er w' he h0 hb
      have hst := hstep
      rw [he, if_pos h0] at hst
      have hnew : Vf.new (l.map (·.e)) = (er, ((k : Nat) : Int), []) := by
        unfold Vf.new
        rw [if_neg (by rw [unhide Hlm]; exact h64), (unhide Hadds).trans hst]
        rw [if_pos h0]
      unfold NewRE
      rw [hnew]
      exact ⟨hb, .inl ⟨h0, rfl⟩⟩
    unfold entV at KM
    simp only [entVals, entC] at KM hbE hbA
    have HKM := hide KM
    have HKP := hide KP
    have Hfail := hide fail_
    have Hstep := hide hstep
    have HbA := hide hbA
    have HbE := hide hbE
    have Hok1 := hide hok
    have Hdl := hide hdl
    clear hc c1 hs hes hstep hok KM KP fail_ hbA hbE hdl
    go_wp2_with fail
    refine (unhide HKM).mono ?_
    rintro e w2 ⟨rfl, hb2⟩
    have Hb2 := hide ((unhide HbA).trans (hb2.mono (unhide HbA).size))
    have HbE2 := hide ((unhide HbE).belowSz hb2)
    clear x0 x1 x2 x3 x4 x5 x6 hb2 HbE HbA HKM
    by_cases hm : Vf.may s.e = 0
    case neg =>
      have hr : (Vf.add F s.e).1 = Vf.may s.e := by unfold Vf.add; rw [if_pos hm]
      have Hr := hide hr
      obtain ⟨me, hme⟩ : ∃ v, Vf.may s.e = v := ⟨_, rfl⟩
      rw [hme] at Hr hm ⊢
      have Hm := hide hm
      have q1 : (me != 0) = true := by simp [hm]
      have HbF := hide ((unhide HB).trans ((unhide Hb2).mono (unhide HB).size))
      clear hr hm hme
      go_wp2_with fail
      go_ret3
      exact (unhide Hfail) _ _ (unhide Hr) (unhide Hm) (unhide HbF)
    obtain ⟨m1, m2, m3, m4, m5, m6, m7, m8, m9, m10, m11⟩ := Vf.may_ok hm
    have hpl := Vf.parts_len s.e.path
    have hadd : Vf.add F s.e = if (Vf.at_ F 0 (Pth.partsL s.e.path)).isSome then ((7 : Int), F) else match Vf.at_ F 0 (Pth.partsL s.e.path).dropLast with
      | none => ((3 : Int), F)
      | some up => if Vf.kindAt F up ≠ 2 then ((8 : Int), F) else ((0 : Int), F ++ [Vf.ndOf s.e up]) := by
      unfold Vf.add
      rw [if_neg (by simp [hm])]
      rfl
    rw [hm]
    have q1 : ((0 : Int) != 0) = false := rfl
    have y0 := (unhide HbE2).cell (i := 0) rfl
    have Hadd := hide hadd
    have Hm5 := hide m5
    obtain ⟨pl, hple⟩ : ∃ l, Pth.partsL s.e.path = l := ⟨_, rfl⟩
    have KP2 := (unhide HKP) w2
    rw [hple] at KP2 hpl Hadd Hm5
    obtain ⟨n1, hn1⟩ : ∃ n, pl.length = n := ⟨_, rfl⟩
    rw [hn1] at KP2 hpl
    have hn0 : 0 < n1 := by rw [← hn1]; exact List.length_pos_iff.2 (unhide Hm5)
    have HKP2 := hide KP2
    have Hple := hide hple
    have Hn1 := hide hn1
    clear m1 m2 m3 m4 m5 m6 m7 m8 m9 m10 m11 hadd hm hple hn1 KP2 HKP
    go_wp2_with fail
    refine (unhide HKP2).mono ?_
    rintro e w3 ⟨A1, cp, rfl, ho3, hb3⟩
    have Hb3 := hide ((unhide Hb2).trans (hb3.mono (unhide Hb2).size))
    have HbE3 := hide ((unhide HbE2).belowSz hb3)
    have hr3 := Rd.of_own ho3
    have hcp := own_cap ho3
    have rs := fun w' => run_to (P := Try.prog) Try.underlying85 (e := 9) (by kernel_rfl) A1 n1 cp (n1 - 1) (by omega) w'
    have hdrop : (pl.map Value.string).take (n1 - 1) = pl.dropLast.map Value.string := by
      rw [← unhide Hn1, List.dropLast_eq_take, List.map_take]
    have hr2 : Rd w3 w3.heap.size 1 A1 (n1 - 1) (pl.dropLast.map Value.string) := by
      rw [← hdrop]
      exact hr3.to_ (by omega)
    have hFl65 : F.length ≤ 65 := by rw [unhide HFl]; omega
    have hFl0 : 0 < F.length := by rw [unhide HFl]; omega
    have hFS3 := (unhide HFS).belowSz (unhide Hb3)
    have KA1 := rat_any F ls _ _ c' A' A1 n1 cp _ pl w3 hFS3 hFl65 hFl0 hr3 (by omega)
    have KA2 := rat_any F ls _ _ c' A' A1 (n1 - 1) cp _ pl.dropLast w3 hFS3 hFl65 hFl0 hr2 (by omega)
    obtain ⟨k1, hk1⟩ : ∃ k1, n1 - 1 = k1 := ⟨_, rfl⟩
    have ei : IntKind.i64.wrap ((n1 : Int) - 1) = (k1 : Int) := by rw [IntWalk.i64_in _ (by omega)]; omega
    have j1 : (k1 : Int) < (n1 : Int) := by omega
    rw [hk1] at rs KA2
    have Hk1 := hide hk1
    have HKA1 := hide KA1
    have HKA2 := hide KA2
    have Hr3 := hide hr3
    have Ho3 := hide ho3
    have HFS3 := hide hFS3
    have HBw3 := hide ((unhide HB).trans ((unhide Hb3).mono (unhide HB).size))
    clear ho3 hb3 hr3 hcp hdrop hr2 KA1 KA2 hk1 hFS3 HKP2 y0
    cases ha : Vf.at_ F 0 pl with
    | some i =>
      rw [ha, numV_some] at HKA1
      have hr : (Vf.add F s.e).1 = 7 := by rw [unhide Hadd, ha]; rfl
      have Hr := hide hr
      have i0 : (0 : Int) ≤ (i : Int) := by omega
      clear hr ha
      go_wp2_with fail
      refine (unhide HKA1).mono ?_
      rintro e w4 ⟨rfl, rfl⟩
      go_wp2_with fail
      go_ret3
      exact (unhide Hfail) _ _ (unhide Hr) (by decide) (unhide HBw3)
    | none =>
    have hadd := unhide Hadd
    rw [ha] at hadd
    rw [ha, numV_none] at HKA1
    simp only [Option.isSome_none, Bool.false_eq_true, if_false] at hadd
    clear ha Hadd
    go_wp2_with fail
    refine (unhide HKA1).mono ?_
    rintro e w4 ⟨rfl, rfl⟩
    go_wp2_with fail
    refine (unhide HKA2).mono ?_
    rintro e w4 ⟨rfl, rfl⟩
    cases hu : Vf.at_ F 0 pl.dropLast with
    | none =>
      rw [hu] at hadd
      rw [numV_none]
      have hr : (Vf.add F s.e).1 = 3 := by rw [hadd]
      have Hr := hide hr
      clear hr hu hadd
      go_wp2_with fail
      go_ret3
      exact (unhide Hfail) _ _ (unhide Hr) (by decide) (unhide HBw3)
    | some up =>
    rw [hu] at hadd
    rw [numV_some]
    simp only at hadd
    have hupl := Vf.at_lt (unhide HF) _ _ _ (Vf.good_pos (unhide HF)) hu
    obtain ⟨xu, hxu⟩ : ∃ x, F[up]? = some x := ⟨_, List.getElem?_eq_getElem hupl⟩
    obtain ⟨pu, hpu, _⟩ := (unhide HFS3).at_ hxu
    rw [Vf.kindAt_eq hxu] at hadd
    obtain ⟨b2, o2, hA2, _, hcl⟩ := (unhide HFS3).cells hFl0
    have z0 := hcl up xu pu hxu hpu 0 _ rfl
    rw [Nat.add_zero] at z0
    have u0 : w3.cell? ⟨w.heap.size, 0, none⟩ = some (.slice A' F.length c') := (unhide HFS3).fs.cell rfl
    obtain ⟨flen, hfl⟩ : ∃ n, F.length = n := ⟨_, rfl⟩
    rw [hfl] at u0 hupl
    have Hfl := hide hfl
    have i0 : ¬ (up : Int) < 0 := by omega
    have i3 : (up : Int) < (flen : Int) := by omega
    subst hA2
    by_cases hk2 : xu.m.kind = 2
    case neg =>
      have q2 : ((xu.m.kind : Int) != 2) = true := by simp; omega
      rw [if_pos hk2] at hadd
      have hr : (Vf.add F s.e).1 = 8 := by rw [hadd]
      have Hr := hide hr
      clear hr hu hadd hxu hpu hcl hk2
      go_wp2_with fail
      go_ret3
      exact (unhide Hfail) _ _ (unhide Hr) (by decide) (unhide HBw3)
    have q2 : ((xu.m.kind : Int) != 2) = false := by rw [hk2]; rfl
    rw [if_neg (by simp [hk2])] at hadd
    have Hadd := hide hadd
    clear hu hadd hxu hpu hcl hk2
    obtain ⟨nm, hnm⟩ : ∃ nm, Vf.lastOf pl = nm := ⟨_, rfl⟩
    have hlast : (pl.map Value.string)[k1]? = some (.string nm) := by
      rw [← unhide Hk1, ← unhide Hn1, ← List.length_map (f := Value.string), ← List.getLast?_eq_getElem?, List.getLast?_map, ← hnm]
      unfold Vf.lastOf
      rw [List.getLast?_eq_some_getLast (unhide Hm5)]
      rfl
    obtain ⟨g3, hA1, _, _⟩ := own_some (unhide Ho3) hn0
    subst hA1
    have c3 := own_cell (unhide Ho3) hlast
    have HFS3' := unhide HFS3
    have hEB := unhide HbE3
    have hOwn3 := unhide Ho3
    have KC : ∀ w', Below w3.heap.size w3 w' → Calls Try.prog 32 #[.slice s.A s.n s.c] w' fun e w5 => ∃ A5 c5, e = .returned (.slice A5 s.n c5) ∧ w5.ownsRow w'.heap.size 5 1 (.slice A5 s.n c5) s.n (bys s.e.data) ∧ Below w'.heap.size w' w5 :=
      fun w' hb => copyBytes_any s.A s.n s.c w.heap.size s.e.data w' (Nat.le_trans (unhide HBw3).size hb.size) ((unhide Hok1).d.below ((unhide HBw3).trans (hb.mono (unhide HBw3).size))) (unhide Hok1).n
    have HSC : ∀ w', Below w3.heap.size w3 w' → (w'.cell? ⟨wr.heap.size, 1, none⟩ = some (.int .u8 (s.e.kind : Nat)) ∧ w'.cell? ⟨wr.heap.size, 2, none⟩ = some (.int .u16 (s.e.mode : Nat)) ∧ w'.cell? ⟨wr.heap.size, 3, none⟩ = some (.int .u32 (s.e.uid : Nat)) ∧ w'.cell? ⟨wr.heap.size, 4, none⟩ = some (.int .u32 (s.e.gid : Nat)) ∧ w'.cell? ⟨wr.heap.size, 5, none⟩ = some (.slice s.A s.n s.c) ∧ w'.cell? ⟨wr.heap.size, 6, none⟩ = some (.string s.e.to) ∧ w'.cell? ⟨g3, k1, none⟩ = some (.string nm)) := by
      intro w' hb
      have h1 := hEB.belowSz hb
      have h2 := (HFS3'.belowSz hb).fs
      unfold Blk at h2
      rw [unhide Hfl] at h2
      have h2' : Blk w' w.heap.size 77 [.slice (some ⟨b2, o2, none⟩) flen c'] := h2
      exact ⟨h1.cell rfl, h1.cell rfl, h1.cell rfl, h1.cell rfl, h1.cell rfl, h1.cell rfl, (hb.cell (p := ⟨g3, k1, none⟩) (cell_lt c3)).trans c3⟩
    have HSG : ∀ V V3, Below w3.heap.size w3 V → World.grownBy V V3 (Value.slice (some ⟨b2, o2, none⟩) flen c').ownBlock → (V3.cell? ⟨wr.heap.size, 1, none⟩ = some (.int .u8 (s.e.kind : Nat)) ∧ V3.cell? ⟨wr.heap.size, 2, none⟩ = some (.int .u16 (s.e.mode : Nat)) ∧ V3.cell? ⟨wr.heap.size, 3, none⟩ = some (.int .u32 (s.e.uid : Nat)) ∧ V3.cell? ⟨wr.heap.size, 4, none⟩ = some (.int .u32 (s.e.gid : Nat)) ∧ V3.cell? ⟨wr.heap.size, 5, none⟩ = some (.slice s.A s.n s.c) ∧ V3.cell? ⟨wr.heap.size, 6, none⟩ = some (.string s.e.to) ∧ V3.cell? ⟨g3, k1, none⟩ = some (.string nm)) := by
      intro V V3 hb hg
      have hrow := (HFS3'.belowSz hb).row
      rw [unhide Hfl] at hrow
      have h1 := hEB.belowSz hb
      have hne1 : (Value.slice (some ⟨b2, o2, none⟩) flen c').ownBlock ≠ some wr.heap.size := by
        intro e
        obtain ⟨cs, h3⟩ := row_blkS hrow e
        unfold Blk at h1
        rw [h1] at h3
        injection h3 with h3
        injection h3 with _ h4
        exact absurd h4 (by decide)
      have h1' : Blk V3 wr.heap.size 60 [.string s.e.path, .int .u8 (s.e.kind : Nat), .int .u16 (s.e.mode : Nat), .int .u32 (s.e.uid : Nat), .int .u32 (s.e.gid : Nat), .slice s.A s.n s.c, .string s.e.to] := (hg.block _ h1.lt (fun e => hne1 e.symm)).trans h1
      have h2 := HFS3'.addF (V3 := V3) hb (by rw [unhide Hfl]; exact hg)
      unfold Blk at h2
      rw [unhide Hfl] at h2
      have h2' : Blk V3 w.heap.size 77 [.slice (some ⟨b2, o2, none⟩) flen c'] := h2
      have h5 := (own_below hOwn3 hb).kept hg (own_tyne (own_below hOwn3 hb) hrow (by decide))
      exact ⟨h1'.cell rfl, h1'.cell rfl, h1'.cell rfl, h1'.cell rfl, h1'.cell rfl, h1'.cell rfl, own_cell h5 hlast⟩
    have HF3 : ∀ V V3, Below w3.heap.size w3 V → World.grownBy V V3 (Value.slice (some ⟨b2, o2, none⟩) flen c').ownBlock → V3.cell? ⟨w.heap.size, 0, none⟩ = some (.slice (some ⟨b2, o2, none⟩) flen c') ∧ V3.frozen? ⟨w.heap.size, 0, none⟩ = false := by
      intro V V3 hb hg
      have h2 := HFS3'.addF (V3 := V3) hb (by rw [unhide Hfl]; exact hg)
      unfold Blk at h2
      rw [unhide Hfl] at h2
      have h2' : Blk V3 w.heap.size 77 [.slice (some ⟨b2, o2, none⟩) flen c'] := h2
      exact ⟨h2'.cell rfl, h2'.free 0⟩
    have hrow3 : ∀ V, Below w3.heap.size w3 V → V.ownsRow w.heap.size 79 9 (.slice (some ⟨b2, o2, none⟩) flen c') flen (rowCs rndV (F.zip ls)) := by
      intro V hb
      have hrow := (HFS3'.belowSz hb).row
      rw [unhide Hfl] at hrow
      exact hrow
    have hgw : w.heap.size ≠ wr.heap.size := by
      intro e
      have h1 := (HFS3').fs
      have h2 := hEB
      unfold Blk at h1 h2
      rw [← e] at h2
      rw [h1] at h2
      injection h2 with h2
      injection h2 with _ h3
      exact absurd h3 (by decide)
    have hg3 : g3 ≠ w.heap.size := by
      rintro rfl
      have h1 := (HFS3').fs
      obtain ⟨cs, h2⟩ := row_blkS hOwn3 (k := w.heap.size) rfl
      unfold Blk at h1
      rw [h1] at h2
      injection h2 with h2
      injection h2 with _ h3
      exact absurd h3 (by decide)
    have HSS : ∀ (V3 : World) (u : Value), (V3.cell? ⟨wr.heap.size, 1, none⟩ = some (.int .u8 (s.e.kind : Nat)) ∧ V3.cell? ⟨wr.heap.size, 2, none⟩ = some (.int .u16 (s.e.mode : Nat)) ∧ V3.cell? ⟨wr.heap.size, 3, none⟩ = some (.int .u32 (s.e.uid : Nat)) ∧ V3.cell? ⟨wr.heap.size, 4, none⟩ = some (.int .u32 (s.e.gid : Nat)) ∧ V3.cell? ⟨wr.heap.size, 5, none⟩ = some (.slice s.A s.n s.c) ∧ V3.cell? ⟨wr.heap.size, 6, none⟩ = some (.string s.e.to) ∧ V3.cell? ⟨g3, k1, none⟩ = some (.string nm)) → ((V3.setCell ⟨w.heap.size, 0, none⟩ u).cell? ⟨wr.heap.size, 1, none⟩ = some (.int .u8 (s.e.kind : Nat)) ∧ (V3.setCell ⟨w.heap.size, 0, none⟩ u).cell? ⟨wr.heap.size, 2, none⟩ = some (.int .u16 (s.e.mode : Nat)) ∧ (V3.setCell ⟨w.heap.size, 0, none⟩ u).cell? ⟨wr.heap.size, 3, none⟩ = some (.int .u32 (s.e.uid : Nat)) ∧ (V3.setCell ⟨w.heap.size, 0, none⟩ u).cell? ⟨wr.heap.size, 4, none⟩ = some (.int .u32 (s.e.gid : Nat)) ∧ (V3.setCell ⟨w.heap.size, 0, none⟩ u).cell? ⟨wr.heap.size, 5, none⟩ = some (.slice s.A s.n s.c) ∧ (V3.setCell ⟨w.heap.size, 0, none⟩ u).cell? ⟨wr.heap.size, 6, none⟩ = some (.string s.e.to) ∧ (V3.setCell ⟨w.heap.size, 0, none⟩ u).cell? ⟨g3, k1, none⟩ = some (.string nm)) := by
      intro V3 u ⟨a1, a2, a3, a4, a5, a6, a7⟩
      have key : ∀ (b o : Nat), b ≠ w.heap.size → (V3.setCell ⟨w.heap.size, 0, none⟩ u).cell? ⟨b, o, none⟩ = V3.cell? ⟨b, o, none⟩ := fun b o hb => World.cell?_setCell_other _ _ _ _ (fun e => hb (by injection e with e1; first | exact e1 | exact e1.symm))
      exact ⟨(key _ _ hgw.symm).trans a1, (key _ _ hgw.symm).trans a2, (key _ _ hgw.symm).trans a3, (key _ _ hgw.symm).trans a4, (key _ _ hgw.symm).trans a5, (key _ _ hgw.symm).trans a6, (key _ _ hg3).trans a7⟩
    have HSS' := hide HSS
    have HKC := hide KC
    have HSC' := hide HSC
    have HSG' := hide HSG
    have HF3' := hide HF3
    have Hrow3 := hide hrow3
    have Hnm := hide hnm
    have hlo3 : w.heap.size ≤ w3.heap.size := (unhide HBw3).size
    have hfl64 : flen ≤ 64 := by rw [← unhide Hfl, unhide HFl]; omega
    obtain ⟨v1, v2, v3, v4, v5, v6, v7⟩ := HSC w3 (Below.refl _ _)
    have v8 : w3.drew.cell? ⟨w.heap.size, 0, none⟩ = some (.slice (some ⟨b2, o2, none⟩) flen c') := u0
    clear hlast c3 HFS3' hEB hOwn3 KC HSC HSG HF3 HSS hgw hg3 hrow3 hnm hFl65 hFl0
    go_wp2_with fail
    clear u0 z0
    refine wp_region_noPanic ?_
    refine wp_region_held_drew (S := fun w' => w'.cell? ⟨wr.heap.size, 1, none⟩ = some (.int .u8 (s.e.kind : Nat)) ∧ w'.cell? ⟨wr.heap.size, 2, none⟩ = some (.int .u16 (s.e.mode : Nat)) ∧ w'.cell? ⟨wr.heap.size, 3, none⟩ = some (.int .u32 (s.e.uid : Nat)) ∧ w'.cell? ⟨wr.heap.size, 4, none⟩ = some (.int .u32 (s.e.gid : Nat)) ∧ w'.cell? ⟨wr.heap.size, 5, none⟩ = some (.slice s.A s.n s.c) ∧ w'.cell? ⟨wr.heap.size, 6, none⟩ = some (.string s.e.to) ∧ w'.cell? ⟨g3, k1, none⟩ = some (.string nm)) (by kernel_rfl) ((unhide HSC') _ (below_drew' (Below.refl _ _))) (fun HS0 => ?_)
    refine takeQ (i := 0) (d := some 78) (v := ?_) rfl rfl (by kernel_rfl) (by kernel_rfl) (by kernel_rfl) (fun _ _ _ h => h) (Or.inl ⟨by rfl, ?y0⟩) HS0 ?_
    case y0 => (intro w' hSw; (try dsimp only at hSw); go_simp; (try with_reducible rfl))
    try simp only [Act.put, List.setIfInBounds_toArray, List.set_cons_zero, List.set_cons_succ]
    refine takeQ (i := 1) (d := some 79) (v := ?_) rfl rfl (by kernel_rfl) (by kernel_rfl) (by kernel_rfl) (fun _ _ _ h => h) (Or.inl ⟨by rfl, ?y1⟩) HS0 ?_
    case y1 => (intro w' hSw; (try dsimp only at hSw); go_simp; (try with_reducible rfl))
    try simp only [Act.put, List.setIfInBounds_toArray, List.set_cons_zero, List.set_cons_succ]
    refine takeQ (i := 2) (d := some 80) (v := ?_) rfl rfl (by kernel_rfl) (by kernel_rfl) (by kernel_rfl) (fun _ _ _ h => h) (Or.inl ⟨by rfl, ?y2⟩) HS0 ?_
    case y2 => (intro w' hSw; (try dsimp only at hSw); go_simp; (try with_reducible rfl))
    try simp only [Act.put, List.setIfInBounds_toArray, List.set_cons_zero, List.set_cons_succ]
    refine takeQ (i := 3) (d := some 81) (v := ?_) rfl rfl (by kernel_rfl) (by kernel_rfl) (by kernel_rfl) (fun _ _ _ h => h) (Or.inl ⟨by rfl, ?y3⟩) HS0 ?_
    case y3 => (intro w' hSw; (try dsimp only at hSw); go_simp; (try with_reducible rfl))
    try simp only [Act.put, List.setIfInBounds_toArray, List.set_cons_zero, List.set_cons_succ]
    refine takeQ (i := 5) (d := some 83) (v := ?_) rfl rfl (by kernel_rfl) (by kernel_rfl) (by kernel_rfl) (fun _ _ _ h => h) (Or.inl ⟨by rfl, ?y5⟩) HS0 ?_
    case y5 => (intro w' hSw; (try dsimp only at hSw); go_simp; (try with_reducible rfl))
    try simp only [Act.put, List.setIfInBounds_toArray, List.set_cons_zero, List.set_cons_succ]
    refine takeQ (i := 6) (d := some 84) (v := ?_) rfl rfl (by kernel_rfl) (by kernel_rfl) (by kernel_rfl) (fun _ _ _ h => h) (Or.inl ⟨by rfl, ?y6⟩) HS0 ?_
    case y6 => (intro w' hSw; (try dsimp only at hSw); go_simp; (try with_reducible rfl))
    try simp only [Act.put, List.setIfInBounds_toArray, List.set_cons_zero, List.set_cons_succ]
    refine takeQ (i := 7) (d := some 85) (v := ?_) rfl rfl (by kernel_rfl) (by kernel_rfl) (by kernel_rfl) (fun _ _ _ h => h) (Or.inl ⟨by rfl, ?y7⟩) HS0 ?_
    case y7 => (intro w' hSw; (try dsimp only at hSw); go_simp; (try with_reducible rfl))
    try simp only [Act.put, List.setIfInBounds_toArray, List.set_cons_zero, List.set_cons_succ]
    refine takeQ (i := 8) (d := some 86) (v := ?_) rfl rfl (by kernel_rfl) (by kernel_rfl) (by kernel_rfl) (fun _ _ _ h => h) (Or.inl ⟨by rfl, ?y8⟩) HS0 ?_
    case y8 => (intro w' hSw; (try dsimp only at hSw); go_simp; (try with_reducible rfl))
    try simp only [Act.put, List.setIfInBounds_toArray, List.set_cons_zero, List.set_cons_succ]
    refine takeQ (i := 9) (d := some 87) (v := ?_) rfl rfl (by kernel_rfl) (by kernel_rfl) (by kernel_rfl) (fun _ _ _ h => h) (Or.inl ⟨by rfl, ?y9⟩) HS0 ?_
    case y9 => (intro w' hSw; (try dsimp only at hSw); go_simp; (try with_reducible rfl))
    try simp only [Act.put, List.setIfInBounds_toArray, List.set_cons_zero, List.set_cons_succ]
    refine takeQ (i := 10) (d := some 88) (v := ?_) rfl rfl (by kernel_rfl) (by kernel_rfl) (by kernel_rfl) (fun _ _ _ h => h) (Or.inl ⟨by rfl, ?y10⟩) HS0 ?_
    case y10 => (intro w' hSw; (try dsimp only at hSw); go_simp; (try with_reducible rfl))
    try simp only [Act.put, List.setIfInBounds_toArray, List.set_cons_zero, List.set_cons_succ]
    refine takeQ (i := 11) (d := some 89) (v := ?_) rfl rfl (by kernel_rfl) (by kernel_rfl) (by kernel_rfl) (fun _ _ _ h => h) (Or.inl ⟨by rfl, ?y11⟩) HS0 ?_
    case y11 => (intro w' hSw; (try dsimp only at hSw); go_simp; (try with_reducible rfl))
    try simp only [Act.put, List.setIfInBounds_toArray, List.set_cons_zero, List.set_cons_succ]
    refine takeQ (i := 12) (d := some 90) (v := ?_) rfl rfl (by kernel_rfl) (by kernel_rfl) (by kernel_rfl) (fun _ _ _ h => h) (Or.inl ⟨by rfl, ?y12⟩) HS0 ?_
    case y12 => (intro w' hSw; (try dsimp only at hSw); go_simp; (try with_reducible rfl))
    try simp only [Act.put, List.setIfInBounds_toArray, List.set_cons_zero, List.set_cons_succ]
    refine takeQ (i := 13) (d := some 91) (v := ?_) rfl rfl (by kernel_rfl) (by kernel_rfl) (by kernel_rfl) (fun _ _ _ h => h) (Or.inl ⟨by rfl, ?y13⟩) HS0 ?_
    case y13 => (intro w' hSw; (try dsimp only at hSw); go_simp; (try with_reducible rfl))
    try simp only [Act.put, List.setIfInBounds_toArray, List.set_cons_zero, List.set_cons_succ]
    refine takeQ (i := 14) (d := some 92) (v := ?_) rfl rfl (by kernel_rfl) (by kernel_rfl) (by kernel_rfl) (fun _ _ _ h => h) (Or.inl ⟨by rfl, ?y14⟩) HS0 ?_
    case y14 => (intro w' hSw; (try dsimp only at hSw); go_simp; (try with_reducible rfl))
    try simp only [Act.put, List.setIfInBounds_toArray, List.set_cons_zero, List.set_cons_succ]
    refine takeQ (i := 15) (d := some 93) (v := ?_) rfl rfl (by kernel_rfl) (by kernel_rfl) (by kernel_rfl) (fun _ _ _ h => h) (Or.inl ⟨by rfl, ?y15⟩) HS0 ?_
    case y15 => (intro w' hSw; (try dsimp only at hSw); go_simp; (try with_reducible rfl))
    try simp only [Act.put, List.setIfInBounds_toArray, List.set_cons_zero, List.set_cons_succ]
    refine takeQ (i := 16) (d := some 94) (v := ?_) rfl rfl (by kernel_rfl) (by kernel_rfl) (by kernel_rfl) (fun _ _ _ h => h) (Or.inl ⟨by rfl, ?y16⟩) HS0 ?_
    case y16 => (intro w' hSw; (try dsimp only at hSw); go_simp; (try with_reducible rfl))
    try simp only [Act.put, List.setIfInBounds_toArray, List.set_cons_zero, List.set_cons_succ]
    refine takeQ (i := 17) (d := some 95) (v := ?_) rfl rfl (by kernel_rfl) (by kernel_rfl) (by kernel_rfl) (fun _ _ _ h => h) (Or.inl ⟨by rfl, ?y17⟩) HS0 ?_
    case y17 => (intro w' hSw; (try dsimp only at hSw); go_simp; (try with_reducible rfl))
    try simp only [Act.put, List.setIfInBounds_toArray, List.set_cons_zero, List.set_cons_succ]
    refine takeQ (i := 18) (d := some 96) (v := ?_) rfl rfl (by kernel_rfl) (by kernel_rfl) (by kernel_rfl) (fun _ _ _ h => h) (Or.inl ⟨by rfl, ?y18⟩) HS0 ?_
    case y18 => (intro w' hSw; (try dsimp only at hSw); go_simp; (try with_reducible rfl))
    try simp only [Act.put, List.setIfInBounds_toArray, List.set_cons_zero, List.set_cons_succ]
    refine takeQ (i := 19) (d := some 97) (v := ?_) rfl rfl (by kernel_rfl) (by kernel_rfl) (by kernel_rfl) (fun _ _ _ h => h) (Or.inl ⟨by rfl, ?y19⟩) HS0 ?_
    case y19 => (intro w' hSw; (try dsimp only at hSw); go_simp; (try with_reducible rfl))
    try simp only [Act.put, List.setIfInBounds_toArray, List.set_cons_zero, List.set_cons_succ]
    refine takeQ (i := 20) (d := some 98) (v := ?_) rfl rfl (by kernel_rfl) (by kernel_rfl) (by kernel_rfl) (fun _ _ _ h => h) (Or.inl ⟨by rfl, ?y20⟩) HS0 ?_
    case y20 => (intro w' hSw; (try dsimp only at hSw); go_simp; (try with_reducible rfl))
    try simp only [Act.put, List.setIfInBounds_toArray, List.set_cons_zero, List.set_cons_succ]
    refine takeQ (i := 21) (d := some 99) (v := ?_) rfl rfl (by kernel_rfl) (by kernel_rfl) (by kernel_rfl) (fun _ _ _ h => h) (Or.inl ⟨by rfl, ?y21⟩) HS0 ?_
    case y21 => (intro w' hSw; (try dsimp only at hSw); go_simp; (try with_reducible rfl))
    try simp only [Act.put, List.setIfInBounds_toArray, List.set_cons_zero, List.set_cons_succ]
    refine takeQ (i := 22) (d := some 100) (v := ?_) rfl rfl (by kernel_rfl) (by kernel_rfl) (by kernel_rfl) (fun _ _ _ h => h) (Or.inl ⟨by rfl, ?y22⟩) HS0 ?_
    case y22 => (intro w' hSw; (try dsimp only at hSw); go_simp; (try with_reducible rfl))
    try simp only [Act.put, List.setIfInBounds_toArray, List.set_cons_zero, List.set_cons_succ]
    refine takeQ (i := 23) (d := some 101) (v := ?_) rfl rfl (by kernel_rfl) (by kernel_rfl) (by kernel_rfl) (fun _ _ _ h => h) (Or.inl ⟨by rfl, ?y23⟩) HS0 ?_
    case y23 => (intro w' hSw; (try dsimp only at hSw); go_simp; (try with_reducible rfl))
    try simp only [Act.put, List.setIfInBounds_toArray, List.set_cons_zero, List.set_cons_succ]
    refine takeQ (i := 24) (d := some 102) (v := ?_) rfl rfl (by kernel_rfl) (by kernel_rfl) (by kernel_rfl) (fun _ _ _ h => h) (Or.inl ⟨by rfl, ?y24⟩) HS0 ?_
    case y24 => (intro w' hSw; (try dsimp only at hSw); go_simp; (try with_reducible rfl))
    try simp only [Act.put, List.setIfInBounds_toArray, List.set_cons_zero, List.set_cons_succ]
    refine takeQ (i := 25) (d := some 103) (v := ?_) rfl rfl (by kernel_rfl) (by kernel_rfl) (by kernel_rfl) (fun _ _ _ h => h) (Or.inl ⟨by rfl, ?y25⟩) HS0 ?_
    case y25 => (intro w' hSw; (try dsimp only at hSw); go_simp; (try with_reducible rfl))
    try simp only [Act.put, List.setIfInBounds_toArray, List.set_cons_zero, List.set_cons_succ]
    refine takeQ (i := 27) (d := some 105) (v := ?_) rfl rfl (by kernel_rfl) (by kernel_rfl) (by kernel_rfl) (fun _ _ _ h => h) (Or.inl ⟨by rfl, ?y27⟩) HS0 ?_
    case y27 => (intro w' hSw; (try dsimp only at hSw); go_simp; (try with_reducible rfl))
    try simp only [Act.put, List.setIfInBounds_toArray, List.set_cons_zero, List.set_cons_succ]
    refine takeQ (i := 28) (d := some 106) (v := ?_) rfl rfl (by kernel_rfl) (by kernel_rfl) (by kernel_rfl) (fun _ _ _ h => h) (Or.inl ⟨by rfl, ?y28⟩) HS0 ?_
    case y28 => (intro w' hSw; (try dsimp only at hSw); go_simp; (try with_reducible rfl))
    try simp only [Act.put, List.setIfInBounds_toArray, List.set_cons_zero, List.set_cons_succ]
    refine wpAnyH_ready (rs := [4, 26]) (by kernel_rfl) (by simp) ?_
    refine AllReadyH.cons (i := 4) rfl (fun K hK => ?way4) (AllReadyH.cons (i := 26) rfl (fun K hK => ?way26) AllReadyH.nil)
    case way4 =>
      rw [if_pos (by rfl)]
      go_simp
      refine hK.out _ _ (by (first | exact (unhide HSC') _ (below_drew' (Below.refl _ _)) | exact (unhide HSG') _ _ (unhide hbn) (unhide hgr) | exact (unhide HSC') _ (unhide hbn) | exact (unhide HSC') _ ((unhide hbn).alloc (unhide hbn).size _) | exact (unhide HSS') _ _ ((unhide HSG') _ _ (unhide hbn) (unhide hgr)))) (fun hHeld => ?_)
      clear hK K HS0
      have HS0 := hHeld
      clear hHeld
      try simp only [Act.put, List.setIfInBounds_toArray, List.set_cons_zero, List.set_cons_succ]
      refine wpAnyH_ready (rs := [26]) (by kernel_rfl) (by simp) ?_
      refine AllReadyH.cons (i := 26) rfl (fun K hK => ?_) AllReadyH.nil
      rw [if_pos (by rfl)]
      go_simp
      go_at_call 32
      refine ((unhide HKC) _ (below_drew' (Below.refl _ _))).mono ?_
      rintro e w5 ⟨A5, c5, rfl, ho5, hb5⟩
      have hbn := hide ((below_drew' (Below.refl w3.heap.size w3)).trans hb5)
      have v8b := ((unhide HF3') _ _ (unhide hbn) (World.grownBy.refl w5 _)).1
      have v8c : ∀ o, (w5.alloc o).cell? ⟨w.heap.size, 0, none⟩ = some (.slice (some ⟨b2, o2, none⟩) flen c') := fun o => (World.cell?_alloc_some w5 _ o (by rw [v8b]; rfl)).trans v8b
      have Ho5 := hide ho5
      clear ho5 hb5
      refine hK.out _ _ (by (first | exact (unhide HSC') _ (below_drew' (Below.refl _ _)) | exact (unhide HSG') _ _ (unhide hbn) (unhide hgr) | exact (unhide HSC') _ (unhide hbn) | exact (unhide HSC') _ ((unhide hbn).alloc (unhide hbn).size _) | exact (unhide HSS') _ _ ((unhide HSG') _ _ (unhide hbn) (unhide hgr)))) (fun hHeld => ?_)
      clear hK K HS0
      have HS0 := hHeld
      clear hHeld
      try simp only [Act.put, List.setIfInBounds_toArray, List.set_cons_zero, List.set_cons_succ]
      refine takeQ (i := 29) (d := some 107) (v := ?_) rfl rfl (by kernel_rfl) (by kernel_rfl) (by kernel_rfl) (fun _ _ _ h => h) (Or.inl ⟨by rfl, ?y29⟩) HS0 ?_
      case y29 => (intro w' hSw; (try dsimp only at hSw); go_simp; (try with_reducible rfl))
      try simp only [Act.put, List.setIfInBounds_toArray, List.set_cons_zero, List.set_cons_succ]
      refine wpAnyH_ready (rs := [30]) (by kernel_rfl) (by simp) ?_
      refine AllReadyH.cons (i := 30) rfl (fun K hK => ?_) AllReadyH.nil
      rw [if_pos (by rfl)]
      go_simp
      refine hK.out _ _ (by (first | exact (unhide HSC') _ (below_drew' (Below.refl _ _)) | exact (unhide HSG') _ _ (unhide hbn) (unhide hgr) | exact (unhide HSC') _ (unhide hbn) | exact (unhide HSC') _ ((unhide hbn).alloc (unhide hbn).size _) | exact (unhide HSS') _ _ ((unhide HSG') _ _ (unhide hbn) (unhide hgr)))) (fun hHeld => ?_)
      clear hK K HS0
      have HS0 := hHeld
      clear hHeld
      try simp only [Act.put, List.setIfInBounds_toArray, List.set_cons_zero, List.set_cons_succ]
      refine wpAnyH_ready (rs := [31]) (by kernel_rfl) (by simp) ?_
      refine AllReadyH.cons (i := 31) rfl (fun K hK => ?_) AllReadyH.nil
      rw [if_pos (by rfl)]
      refine wp_app1g rnodeTy _ _ rfl w.heap.size (.slice (some ⟨b2, o2, none⟩) flen c') flen _ rfl ((unhide Hrow3) _ (unhide hbn)) #[.int .u8 (s.e.kind : Nat), .int .u16 (s.e.mode : Nat), .int .u32 (s.e.uid : Nat), .int .u32 (s.e.gid : Nat), .int .i64 (s.n : Nat), .int .i64 (up : Nat), .string nm, .slice A5 s.n c5, .string s.e.to] _ rfl (by simp) rfl (by simp [Value.oneCell']) (by omega) (Nat.le_trans hlo3 (unhide hbn).size) ?_; intro A6 c6 w6 ho6 hg6; have hgr := hide hg6; obtain ⟨t6, f6⟩ := (unhide HF3') _ _ (unhide hbn) hg6; have Ho6 := hide ho6; clear ho6 hg6
      refine hK.out _ _ (by (first | exact (unhide HSC') _ (below_drew' (Below.refl _ _)) | exact (unhide HSG') _ _ (unhide hbn) (unhide hgr) | exact (unhide HSC') _ (unhide hbn) | exact (unhide HSC') _ ((unhide hbn).alloc (unhide hbn).size _) | exact (unhide HSS') _ _ ((unhide HSG') _ _ (unhide hbn) (unhide hgr)))) (fun hHeld => ?_)
      clear hK K HS0
      have HS0 := hHeld
      clear hHeld
      try simp only [Act.put, List.setIfInBounds_toArray, List.set_cons_zero, List.set_cons_succ]
      refine takeQ (i := 32) (d := some 110) (v := ?_) rfl rfl (by kernel_rfl) (by kernel_rfl) (by kernel_rfl) (fun _ _ _ h => h) (Or.inl ⟨by rfl, ?y32⟩) HS0 ?_
      case y32 => (intro w' hSw; (try dsimp only at hSw); go_simp; (try with_reducible rfl))
      try simp only [Act.put, List.setIfInBounds_toArray, List.set_cons_zero, List.set_cons_succ]
      refine takeQ (i := 33) (d := some 111) (v := ?_) rfl rfl (by kernel_rfl) (by kernel_rfl) (by kernel_rfl) (fun _ _ _ h => h) (Or.inl ⟨by rfl, ?y33⟩) HS0 ?_
      case y33 => (intro w' hSw; (try dsimp only at hSw); go_simp; (try with_reducible rfl))
      try simp only [Act.put, List.setIfInBounds_toArray, List.set_cons_zero, List.set_cons_succ]
      refine wpAnyH_ready (rs := [34]) (by kernel_rfl) (by simp) ?_
      refine AllReadyH.cons (i := 34) rfl (fun K hK => ?_) AllReadyH.nil
      rw [if_pos (by rfl)]
      go_simp
      refine hK.out _ _ (by (first | exact (unhide HSC') _ (below_drew' (Below.refl _ _)) | exact (unhide HSG') _ _ (unhide hbn) (unhide hgr) | exact (unhide HSC') _ (unhide hbn) | exact (unhide HSC') _ ((unhide hbn).alloc (unhide hbn).size _) | exact (unhide HSS') _ _ ((unhide HSG') _ _ (unhide hbn) (unhide hgr)))) (fun hHeld => ?_)
      clear hK K HS0
      have HS0 := hHeld
      clear hHeld
      try simp only [Act.put, List.setIfInBounds_toArray, List.set_cons_zero, List.set_cons_succ]
      refine wpAnyH_done (by kernel_rfl) ?_ _
      refine NoPanic.normal ?_
      have hre : rndV (Vf.ndOf s.e up, ⟨A5, s.n, c5⟩) = [.int .u8 (s.e.kind : Nat), .int .u16 (s.e.mode : Nat), .int .u32 (s.e.uid : Nat), .int .u32 (s.e.gid : Nat), .int .i64 (s.n : Nat), .int .i64 (up : Nat), .string nm, .slice A5 s.n c5, .string s.e.to] := by
        unfold rndV
        simp only [Vf.ndOf, unhide Hdl, unhide Hple, unhide Hnm]
      have hfin := (unhide HFS3).addFin (V := w5) (V3 := w6) (Vf.ndOf s.e up) ⟨A5, s.n, c5⟩ hlo3 (unhide hbn) (own_base (unhide Ho5) hlo3) A6 c6 (by rw [hre, unhide Hfl]; exact unhide Ho6) (by rw [unhide Hfl]; exact unhide hgr)
      rw [unhide Hfl] at hfin
      have hg2 := Vf.add_good (unhide HF) (e := s.e) (by rw [unhide Hadd])
      rw [unhide Hadd] at hg2
      have hst := unhide Hstep
      rw [unhide Hadd, if_neg (by simp)] at hst
      have Hst := hide ((unhide Hadds).trans hst)
      have Hg2 := hide hg2
      have Hfin := hide hfin
      clear hre hfin hg2 hst v1 v2 v3 v4 v5 v6 v7 v8
      go_wp2_with fail
      go_roundg (n - (k + 1))
      case rel => exact ⟨k + 1, _, _, A6, c6, rfl, by omega, by go_num, unhide Hst, unhide Hg2, by rw [List.length_append, unhide HFl]; rfl, (unhide Hfin).1, (unhide HBw3).trans ((unhide Hfin).2)⟩
      case measure => rw [unhide Hgk]; omega
    case way26 =>
      rw [if_pos (by rfl)]
      go_simp
      go_at_call 32
      refine ((unhide HKC) _ (below_drew' (Below.refl _ _))).mono ?_
      rintro e w5 ⟨A5, c5, rfl, ho5, hb5⟩
      have hbn := hide ((below_drew' (Below.refl w3.heap.size w3)).trans hb5)
      have v8b := ((unhide HF3') _ _ (unhide hbn) (World.grownBy.refl w5 _)).1
      have v8c : ∀ o, (w5.alloc o).cell? ⟨w.heap.size, 0, none⟩ = some (.slice (some ⟨b2, o2, none⟩) flen c') := fun o => (World.cell?_alloc_some w5 _ o (by rw [v8b]; rfl)).trans v8b
      have Ho5 := hide ho5
      clear ho5 hb5
      refine hK.out _ _ (by (first | exact (unhide HSC') _ (below_drew' (Below.refl _ _)) | exact (unhide HSG') _ _ (unhide hbn) (unhide hgr) | exact (unhide HSC') _ (unhide hbn) | exact (unhide HSC') _ ((unhide hbn).alloc (unhide hbn).size _) | exact (unhide HSS') _ _ ((unhide HSG') _ _ (unhide hbn) (unhide hgr)))) (fun hHeld => ?_)
      clear hK K HS0
      have HS0 := hHeld
      clear hHeld
      try simp only [Act.put, List.setIfInBounds_toArray, List.set_cons_zero, List.set_cons_succ]
      refine takeQ (i := 29) (d := some 107) (v := ?_) rfl rfl (by kernel_rfl) (by kernel_rfl) (by kernel_rfl) (fun _ _ _ h => h) (Or.inl ⟨by rfl, ?y29⟩) HS0 ?_
      case y29 => (intro w' hSw; (try dsimp only at hSw); go_simp; (try with_reducible rfl))
      try simp only [Act.put, List.setIfInBounds_toArray, List.set_cons_zero, List.set_cons_succ]
      refine wpAnyH_ready (rs := [4, 30]) (by kernel_rfl) (by simp) ?_
      refine AllReadyH.cons (i := 4) rfl (fun K hK => ?way4) (AllReadyH.cons (i := 30) rfl (fun K hK => ?way30) AllReadyH.nil)
      case way4 =>
        rw [if_pos (by rfl)]
        go_simp
        refine hK.out _ _ (by (first | exact (unhide HSC') _ (below_drew' (Below.refl _ _)) | exact (unhide HSG') _ _ (unhide hbn) (unhide hgr) | exact (unhide HSC') _ (unhide hbn) | exact (unhide HSC') _ ((unhide hbn).alloc (unhide hbn).size _) | exact (unhide HSS') _ _ ((unhide HSG') _ _ (unhide hbn) (unhide hgr)))) (fun hHeld => ?_)
        clear hK K HS0
        have HS0 := hHeld
        clear hHeld
        try simp only [Act.put, List.setIfInBounds_toArray, List.set_cons_zero, List.set_cons_succ]
        refine wpAnyH_ready (rs := [30]) (by kernel_rfl) (by simp) ?_
        refine AllReadyH.cons (i := 30) rfl (fun K hK => ?_) AllReadyH.nil
        rw [if_pos (by rfl)]
        go_simp
        refine hK.out _ _ (by (first | exact (unhide HSC') _ (below_drew' (Below.refl _ _)) | exact (unhide HSG') _ _ (unhide hbn) (unhide hgr) | exact (unhide HSC') _ (unhide hbn) | exact (unhide HSC') _ ((unhide hbn).alloc (unhide hbn).size _) | exact (unhide HSS') _ _ ((unhide HSG') _ _ (unhide hbn) (unhide hgr)))) (fun hHeld => ?_)
        clear hK K HS0
        have HS0 := hHeld
        clear hHeld
        try simp only [Act.put, List.setIfInBounds_toArray, List.set_cons_zero, List.set_cons_succ]
        refine wpAnyH_ready (rs := [31]) (by kernel_rfl) (by simp) ?_
        refine AllReadyH.cons (i := 31) rfl (fun K hK => ?_) AllReadyH.nil
        rw [if_pos (by rfl)]
        refine wp_app1g rnodeTy _ _ rfl w.heap.size (.slice (some ⟨b2, o2, none⟩) flen c') flen _ rfl ((unhide Hrow3) _ (unhide hbn)) #[.int .u8 (s.e.kind : Nat), .int .u16 (s.e.mode : Nat), .int .u32 (s.e.uid : Nat), .int .u32 (s.e.gid : Nat), .int .i64 (s.n : Nat), .int .i64 (up : Nat), .string nm, .slice A5 s.n c5, .string s.e.to] _ rfl (by simp) rfl (by simp [Value.oneCell']) (by omega) (Nat.le_trans hlo3 (unhide hbn).size) ?_; intro A6 c6 w6 ho6 hg6; have hgr := hide hg6; obtain ⟨t6, f6⟩ := (unhide HF3') _ _ (unhide hbn) hg6; have Ho6 := hide ho6; clear ho6 hg6
        refine hK.out _ _ (by (first | exact (unhide HSC') _ (below_drew' (Below.refl _ _)) | exact (unhide HSG') _ _ (unhide hbn) (unhide hgr) | exact (unhide HSC') _ (unhide hbn) | exact (unhide HSC') _ ((unhide hbn).alloc (unhide hbn).size _) | exact (unhide HSS') _ _ ((unhide HSG') _ _ (unhide hbn) (unhide hgr)))) (fun hHeld => ?_)
        clear hK K HS0
        have HS0 := hHeld
        clear hHeld
        try simp only [Act.put, List.setIfInBounds_toArray, List.set_cons_zero, List.set_cons_succ]
        refine takeQ (i := 32) (d := some 110) (v := ?_) rfl rfl (by kernel_rfl) (by kernel_rfl) (by kernel_rfl) (fun _ _ _ h => h) (Or.inl ⟨by rfl, ?y32⟩) HS0 ?_
        case y32 => (intro w' hSw; (try dsimp only at hSw); go_simp; (try with_reducible rfl))
        try simp only [Act.put, List.setIfInBounds_toArray, List.set_cons_zero, List.set_cons_succ]
        refine takeQ (i := 33) (d := some 111) (v := ?_) rfl rfl (by kernel_rfl) (by kernel_rfl) (by kernel_rfl) (fun _ _ _ h => h) (Or.inl ⟨by rfl, ?y33⟩) HS0 ?_
        case y33 => (intro w' hSw; (try dsimp only at hSw); go_simp; (try with_reducible rfl))
        try simp only [Act.put, List.setIfInBounds_toArray, List.set_cons_zero, List.set_cons_succ]
        refine wpAnyH_ready (rs := [34]) (by kernel_rfl) (by simp) ?_
        refine AllReadyH.cons (i := 34) rfl (fun K hK => ?_) AllReadyH.nil
        rw [if_pos (by rfl)]
        go_simp
        refine hK.out _ _ (by (first | exact (unhide HSC') _ (below_drew' (Below.refl _ _)) | exact (unhide HSG') _ _ (unhide hbn) (unhide hgr) | exact (unhide HSC') _ (unhide hbn) | exact (unhide HSC') _ ((unhide hbn).alloc (unhide hbn).size _) | exact (unhide HSS') _ _ ((unhide HSG') _ _ (unhide hbn) (unhide hgr)))) (fun hHeld => ?_)
        clear hK K HS0
        have HS0 := hHeld
        clear hHeld
        try simp only [Act.put, List.setIfInBounds_toArray, List.set_cons_zero, List.set_cons_succ]
        refine wpAnyH_done (by kernel_rfl) ?_ _
        refine NoPanic.normal ?_
        have hre : rndV (Vf.ndOf s.e up, ⟨A5, s.n, c5⟩) = [.int .u8 (s.e.kind : Nat), .int .u16 (s.e.mode : Nat), .int .u32 (s.e.uid : Nat), .int .u32 (s.e.gid : Nat), .int .i64 (s.n : Nat), .int .i64 (up : Nat), .string nm, .slice A5 s.n c5, .string s.e.to] := by
          unfold rndV
          simp only [Vf.ndOf, unhide Hdl, unhide Hple, unhide Hnm]
        have hfin := (unhide HFS3).addFin (V := w5) (V3 := w6) (Vf.ndOf s.e up) ⟨A5, s.n, c5⟩ hlo3 (unhide hbn) (own_base (unhide Ho5) hlo3) A6 c6 (by rw [hre, unhide Hfl]; exact unhide Ho6) (by rw [unhide Hfl]; exact unhide hgr)
        rw [unhide Hfl] at hfin
        have hg2 := Vf.add_good (unhide HF) (e := s.e) (by rw [unhide Hadd])
        rw [unhide Hadd] at hg2
        have hst := unhide Hstep
        rw [unhide Hadd, if_neg (by simp)] at hst
        have Hst := hide ((unhide Hadds).trans hst)
        have Hg2 := hide hg2
        have Hfin := hide hfin
        clear hre hfin hg2 hst v1 v2 v3 v4 v5 v6 v7 v8
        go_wp2_with fail
        go_roundg (n - (k + 1))
        case rel => exact ⟨k + 1, _, _, A6, c6, rfl, by omega, by go_num, unhide Hst, unhide Hg2, by rw [List.length_append, unhide HFl]; rfl, (unhide Hfin).1, (unhide HBw3).trans ((unhide Hfin).2)⟩
        case measure => rw [unhide Hgk]; omega
      case way30 =>
        rw [if_pos (by rfl)]
        go_simp
        refine hK.out _ _ (by (first | exact (unhide HSC') _ (below_drew' (Below.refl _ _)) | exact (unhide HSG') _ _ (unhide hbn) (unhide hgr) | exact (unhide HSC') _ (unhide hbn) | exact (unhide HSC') _ ((unhide hbn).alloc (unhide hbn).size _) | exact (unhide HSS') _ _ ((unhide HSG') _ _ (unhide hbn) (unhide hgr)))) (fun hHeld => ?_)
        clear hK K HS0
        have HS0 := hHeld
        clear hHeld
        try simp only [Act.put, List.setIfInBounds_toArray, List.set_cons_zero, List.set_cons_succ]
        refine wpAnyH_ready (rs := [4]) (by kernel_rfl) (by simp) ?_
        refine AllReadyH.cons (i := 4) rfl (fun K hK => ?_) AllReadyH.nil
        rw [if_pos (by rfl)]
        go_simp
        refine hK.out _ _ (by (first | exact (unhide HSC') _ (below_drew' (Below.refl _ _)) | exact (unhide HSG') _ _ (unhide hbn) (unhide hgr) | exact (unhide HSC') _ (unhide hbn) | exact (unhide HSC') _ ((unhide hbn).alloc (unhide hbn).size _) | exact (unhide HSS') _ _ ((unhide HSG') _ _ (unhide hbn) (unhide hgr)))) (fun hHeld => ?_)
        clear hK K HS0
        have HS0 := hHeld
        clear hHeld
        try simp only [Act.put, List.setIfInBounds_toArray, List.set_cons_zero, List.set_cons_succ]
        refine wpAnyH_ready (rs := [31]) (by kernel_rfl) (by simp) ?_
        refine AllReadyH.cons (i := 31) rfl (fun K hK => ?_) AllReadyH.nil
        rw [if_pos (by rfl)]
        refine wp_app1g rnodeTy _ _ rfl w.heap.size (.slice (some ⟨b2, o2, none⟩) flen c') flen _ rfl ((unhide Hrow3) _ (unhide hbn)) #[.int .u8 (s.e.kind : Nat), .int .u16 (s.e.mode : Nat), .int .u32 (s.e.uid : Nat), .int .u32 (s.e.gid : Nat), .int .i64 (s.n : Nat), .int .i64 (up : Nat), .string nm, .slice A5 s.n c5, .string s.e.to] _ rfl (by simp) rfl (by simp [Value.oneCell']) (by omega) (Nat.le_trans hlo3 (unhide hbn).size) ?_; intro A6 c6 w6 ho6 hg6; have hgr := hide hg6; obtain ⟨t6, f6⟩ := (unhide HF3') _ _ (unhide hbn) hg6; have Ho6 := hide ho6; clear ho6 hg6
        refine hK.out _ _ (by (first | exact (unhide HSC') _ (below_drew' (Below.refl _ _)) | exact (unhide HSG') _ _ (unhide hbn) (unhide hgr) | exact (unhide HSC') _ (unhide hbn) | exact (unhide HSC') _ ((unhide hbn).alloc (unhide hbn).size _) | exact (unhide HSS') _ _ ((unhide HSG') _ _ (unhide hbn) (unhide hgr)))) (fun hHeld => ?_)
        clear hK K HS0
        have HS0 := hHeld
        clear hHeld
        try simp only [Act.put, List.setIfInBounds_toArray, List.set_cons_zero, List.set_cons_succ]
        refine takeQ (i := 32) (d := some 110) (v := ?_) rfl rfl (by kernel_rfl) (by kernel_rfl) (by kernel_rfl) (fun _ _ _ h => h) (Or.inl ⟨by rfl, ?y32⟩) HS0 ?_
        case y32 => (intro w' hSw; (try dsimp only at hSw); go_simp; (try with_reducible rfl))
        try simp only [Act.put, List.setIfInBounds_toArray, List.set_cons_zero, List.set_cons_succ]
        refine takeQ (i := 33) (d := some 111) (v := ?_) rfl rfl (by kernel_rfl) (by kernel_rfl) (by kernel_rfl) (fun _ _ _ h => h) (Or.inl ⟨by rfl, ?y33⟩) HS0 ?_
        case y33 => (intro w' hSw; (try dsimp only at hSw); go_simp; (try with_reducible rfl))
        try simp only [Act.put, List.setIfInBounds_toArray, List.set_cons_zero, List.set_cons_succ]
        refine wpAnyH_ready (rs := [34]) (by kernel_rfl) (by simp) ?_
        refine AllReadyH.cons (i := 34) rfl (fun K hK => ?_) AllReadyH.nil
        rw [if_pos (by rfl)]
        go_simp
        refine hK.out _ _ (by (first | exact (unhide HSC') _ (below_drew' (Below.refl _ _)) | exact (unhide HSG') _ _ (unhide hbn) (unhide hgr) | exact (unhide HSC') _ (unhide hbn) | exact (unhide HSC') _ ((unhide hbn).alloc (unhide hbn).size _) | exact (unhide HSS') _ _ ((unhide HSG') _ _ (unhide hbn) (unhide hgr)))) (fun hHeld => ?_)
        clear hK K HS0
        have HS0 := hHeld
        clear hHeld
        try simp only [Act.put, List.setIfInBounds_toArray, List.set_cons_zero, List.set_cons_succ]
        refine wpAnyH_done (by kernel_rfl) ?_ _
        refine NoPanic.normal ?_
        have hre : rndV (Vf.ndOf s.e up, ⟨A5, s.n, c5⟩) = [.int .u8 (s.e.kind : Nat), .int .u16 (s.e.mode : Nat), .int .u32 (s.e.uid : Nat), .int .u32 (s.e.gid : Nat), .int .i64 (s.n : Nat), .int .i64 (up : Nat), .string nm, .slice A5 s.n c5, .string s.e.to] := by
          unfold rndV
          simp only [Vf.ndOf, unhide Hdl, unhide Hple, unhide Hnm]
        have hfin := (unhide HFS3).addFin (V := w5) (V3 := w6) (Vf.ndOf s.e up) ⟨A5, s.n, c5⟩ hlo3 (unhide hbn) (own_base (unhide Ho5) hlo3) A6 c6 (by rw [hre, unhide Hfl]; exact unhide Ho6) (by rw [unhide Hfl]; exact unhide hgr)
        rw [unhide Hfl] at hfin
        have hg2 := Vf.add_good (unhide HF) (e := s.e) (by rw [unhide Hadd])
        rw [unhide Hadd] at hg2
        have hst := unhide Hstep
        rw [unhide Hadd, if_neg (by simp)] at hst
        have Hst := hide ((unhide Hadds).trans hst)
        have Hg2 := hide hg2
        have Hfin := hide hfin
        clear hre hfin hg2 hst v1 v2 v3 v4 v5 v6 v7 v8
        go_wp2_with fail
        go_roundg (n - (k + 1))
        case rel => exact ⟨k + 1, _, _, A6, c6, rfl, by omega, by go_num, unhide Hst, unhide Hg2, by rw [List.length_append, unhide HFl]; rfl, (unhide Hfin).1, (unhide HBw3).trans ((unhide Hfin).2)⟩
        case measure => rw [unhide Hgk]; omega
end Go.Proofs.Yteiciabhfjakgaa
namespace Go.Proofs.Yteiciabhfjakgaa
set_option linter.unusedVariables false
set_option linter.unusedSimpArgs false
open Go.RowKit

/-- The program's file system, if there is one. -/
def FsO (lo : Nat) (ne : Int) (F : List Vf.Nd) (n : Nat) (fo : Option Addr) (w : World) : Prop :=
  (ne ≠ 0 ∧ fo = none) ∨ (ne = 0 ∧ ∃ f A c L, fo = some ⟨f, 0, none⟩ ∧ FsM w lo f A c F L ∧ Vf.Good F ∧ F.length = n + 1 ∧ n ≤ 64)
/-- The reference's. -/
def RFsO (lo : Nat) (ne : Int) (F : List Vf.Nd) (n : Nat) (go : Option Addr) (w : World) : Prop :=
  (ne ≠ 0 ∧ go = none) ∨ (ne = 0 ∧ ∃ g A c ls, go = some ⟨g, 0, none⟩ ∧ RFs w lo g A c F ls ∧ Vf.Good F ∧ F.length = n + 1 ∧ n ≤ 64)
theorem FsO.keep {lo n : Nat} {ne : Int} {F : List Vf.Nd} {fo : Option Addr} {w w' : World} (h : FsO lo ne F n fo w) (hk : ∀ k, lo ≤ k → k < w.heap.size → w'.heap[k]? = w.heap[k]?) : FsO lo ne F n fo w' := by
  rcases h with h | ⟨h0, f, A, c, L, e, hf, r⟩
  · exact .inl h
  · exact .inr ⟨h0, f, A, c, L, e, hf.keep hk, r⟩
theorem RFsO.keep {lo n : Nat} {ne : Int} {F : List Vf.Nd} {go : Option Addr} {w w' : World} (h : RFsO lo ne F n go w) (hk : ∀ k, lo ≤ k → k < w.heap.size → w'.heap[k]? = w.heap[k]?) : RFsO lo ne F n go w' := by
  rcases h with h | ⟨h0, f, A, c, L, e, hf, r⟩
  · exact .inl h
  · exact .inr ⟨h0, f, A, c, L, e, hf.keep hk, r⟩
/-- Both News in one form. -/
theorem newE_one {es : List Vf.Ent} {w w' : World} {e : Ending} {ne ni : Int} {F : List Vf.Nd} (h : NewE es w e w') (hn : Vf.new es = (ne, ni, F)) :
    Below w.heap.size w w' ∧ ∃ fo, e = .returned (.tuple #[.pointer fo, .int .i64 ne, .int .i64 ni]) ∧ FsO w.heap.size ne F es.length fo w' := by
  unfold NewE at h
  rw [hn] at h
  obtain ⟨hb, ⟨h0, rfl⟩ | ⟨h0, f, A, c, L, rfl, hf, hg, hl, h1, h2⟩⟩ := h
  · exact ⟨hb, none, rfl, .inl ⟨h0, rfl⟩⟩
  · dsimp only at h0 h1
    subst h0
    subst h1
    exact ⟨hb, some ⟨f, 0, none⟩, rfl, .inr ⟨rfl, f, A, c, L, rfl, hf, hg, hl, h2⟩⟩
theorem newRE_one {es : List Vf.Ent} {w w' : World} {e : Ending} {ne ni : Int} {F : List Vf.Nd} (h : NewRE es w e w') (hn : Vf.new es = (ne, ni, F)) :
    Below w.heap.size w w' ∧ ∃ go, e = .returned (.tuple #[.pointer go, .int .i64 ne, .int .i64 ni]) ∧ RFsO w.heap.size ne F es.length go w' := by
  unfold NewRE at h
  rw [hn] at h
  obtain ⟨hb, ⟨h0, rfl⟩ | ⟨h0, f, A, c, L, rfl, hf, hg, hl, h1, h2⟩⟩ := h
  · exact ⟨hb, none, rfl, .inl ⟨h0, rfl⟩⟩
  · dsimp only at h0 h1
    subst h0
    subst h1
    exact ⟨hb, some ⟨f, 0, none⟩, rfl, .inr ⟨rfl, f, A, c, L, rfl, hf, hg, hl, h2⟩⟩
/-- What made answers. -/
def MadeE (es : List Vf.Ent) (w : World) (e : Ending) (w' : World) : Prop :=
  Below w.heap.size w w' ∧ ∃ fo go lo hi, e = .returned (.tuple #[.pointer fo, .pointer go, .bool true]) ∧ w.heap.size ≤ lo ∧ w.heap.size ≤ hi ∧ FsO lo (Vf.new es).1 (Vf.new es).2.2 es.length fo w' ∧ RFsO hi (Vf.new es).1 (Vf.new es).2.2 es.length go w'
end Go.Proofs.Yteiciabhfjakgaa
namespace Go.Proofs.Yteiciabhfjakgaa
set_option linter.unusedVariables false
set_option linter.unusedSimpArgs false
open Go.RowKit

namespace Lex
/-- What the check looks at of an operation: its slot, the slots that it looks at, and the operations that it comes behind. -/
structure Inf where
  dst : Option Nat
  looks : List Nat
  on : List Nat
def has : List Nat → Nat → Bool
  | [], _ => false
  | a :: r, d => or (Nat.beq a d) (has r d)
def none_ : Option Nat → List Nat → Bool
  | none, _ => true
  | some d, l => not (has l d)
def other : Option Nat → Option Nat → Bool
  | some d, some d' => not (Nat.beq d d')
  | _, _ => true
def apart (x y : Inf) : Bool := and (none_ x.dst y.looks) (and (other x.dst y.dst) (none_ y.dst x.looks))
def pairs (x : Inf) (k : Nat) : List Inf → Bool
  | [] => true
  | y :: r => and (or (has y.on k) (apart x y)) (pairs x k r)
def below (k : Nat) : List Nat → Bool
  | [] => true
  | e :: r => and (Nat.blt e k) (below k r)
def chk : List Inf → Nat → Bool
  | [], _ => true
  | x :: r, k => and (below k x.on) (and (pairs x k r) (chk r (k + 1)))
def inf (ops : Array Oper) (o : Oper) : Inf := ⟨o.dst, o.looksAt ops, (o.after.toList.filter (Region.binds .any)).map (·.on)⟩
def chkL (l : List Oper) : Bool := and (Region.noSelect l.toArray) (chk (l.map (inf l.toArray)) 0)

theorem has_iff {l : List Nat} {d : Nat} : has l d = true ↔ d ∈ l := by
  induction l with
  | nil => simp [has]
  | cons a r ih =>
    unfold has
    rw [Bool.or_eq_true, ih, List.mem_cons, show (a.beq d = true) = (a = d) from Nat.beq_eq]
    constructor
    · rintro (rfl | h)
      · exact .inl rfl
      · exact .inr h
    · rintro (rfl | h)
      · exact .inl rfl
      · exact .inr h
theorem below_iff {l : List Nat} {k : Nat} : below k l = true ↔ ∀ e ∈ l, e < k := by
  induction l with
  | nil => simp [below]
  | cons a r ih => unfold below; rw [Bool.and_eq_true, ih, Nat.blt_eq]; simp
theorem pairs_iff {x : Inf} {k : Nat} {l : List Inf} : pairs x k l = true ↔ ∀ y ∈ l, has y.on k = true ∨ apart x y = true := by
  induction l with
  | nil => simp [pairs]
  | cons a r ih => unfold pairs; rw [Bool.and_eq_true, ih, Bool.or_eq_true]; simp
theorem chk_iff {l : List Inf} : ∀ {k : Nat}, chk l k = true → ∀ (j : Nat) (x : Inf), l[j]? = some x → (∀ e ∈ x.on, e < k + j) ∧ ∀ (i : Nat) (y : Inf), j < i → l[i]? = some y → has y.on (k + j) = true ∨ apart x y = true := by
  induction l with
  | nil => intro k h j x hx; simp at hx
  | cons a r ih =>
    intro k h j x hx
    unfold chk at h
    rw [Bool.and_eq_true, Bool.and_eq_true] at h
    obtain ⟨h1, h2, h3⟩ := h
    cases j with
    | zero =>
      obtain rfl : a = x := by simpa using hx
      refine ⟨below_iff.1 h1, fun i y hi hy => ?_⟩
      obtain ⟨i, rfl⟩ : ∃ i', i = i' + 1 := ⟨i - 1, by omega⟩
      exact pairs_iff.1 h2 y (List.mem_of_getElem? (by simpa using hy))
    | succ j =>
      obtain ⟨g1, g2⟩ := ih h3 j x (by simpa using hx)
      refine ⟨fun e he => by have := g1 e he; omega, fun i y hi hy => ?_⟩
      obtain ⟨i, rfl⟩ : ∃ i', i = i' + 1 := ⟨i - 1, by omega⟩
      have := g2 i y (by omega) (by simpa using hy)
      rwa [show k + 1 + j = k + (j + 1) by omega] at this
theorem apart_iff {ops : Array Oper} {x y : Oper} (h : apart (inf ops x) (inf ops y) = true) : x.apart ops y = true := by
  unfold apart inf at h
  unfold Oper.apart
  simp only [Bool.and_eq_true] at h ⊢
  obtain ⟨h1, h2, h3⟩ := h
  constructor
  · cases hd : x.dst with
    | none => rfl
    | some d =>
      rw [hd] at h1 h2
      simp only [none_, Bool.not_eq_true', Bool.and_eq_true] at h1 ⊢
      refine ⟨?_, ?_⟩
      · rw [Bool.eq_false_iff] at h1 ⊢
        intro hc
        exact h1 (has_iff.2 (List.contains_iff_mem.1 hc))
      · cases he : y.dst with
        | none => rfl
        | some e =>
          rw [he] at h2
          simp only [other, Bool.not_eq_true'] at h2
          rw [bne_iff_ne]
          intro hc
          injection hc with hc
          rw [hc, Nat.beq_refl] at h2
          cases h2
  · cases hd : y.dst with
    | none => rfl
    | some d =>
      rw [hd] at h3
      simp only [none_, Bool.not_eq_true'] at h3 ⊢
      rw [Bool.eq_false_iff] at h3 ⊢
      intro hc
      exact h3 (has_iff.2 (List.contains_iff_mem.1 hc))
theorem lexFrom_of {l : List Oper} (h : chk (l.map (inf l.toArray)) 0 = true) : ∀ (fuel k : Nat) (listed : Array Bool), fuel + k = l.length → listed.size = l.length → (∀ j, j < l.length → listed.getD j true = decide (j < k)) →
    Region.lexFrom .any l.toArray fuel k listed = true
  | 0, k, listed, hf, hs, hl => by
    unfold Region.lexFrom
    rw [List.isEmpty_iff, List.eq_nil_iff_forall_not_mem]
    intro j hj
    rw [mem_ready] at hj
    obtain ⟨h0, o, ho, _⟩ := hj
    have hjl : j < l.length := by simpa using (Array.getElem?_eq_some_iff.1 ho).1
    rw [hl j hjl, decide_eq_false_iff_not] at h0
    omega
  | fuel + 1, k, listed, hf, hs, hl => by
    have hk : k < l.length := by omega
    obtain ⟨o, ho⟩ : ∃ o, l[k]? = some o := ⟨_, List.getElem?_eq_getElem hk⟩
    have hx : (l.map (inf l.toArray))[k]? = some (inf l.toArray o) := by rw [List.getElem?_map, ho]; rfl
    obtain ⟨g1, g2⟩ := chk_iff h k _ hx
    have hlf : ∀ j, j < k → listed.getD j false = true := by
      intro j hj
      have h1 := hl j (by omega)
      rw [decide_eq_true hj] at h1
      rw [Array.getD_eq_getD_getElem?, Array.getElem?_eq_getElem (by omega)] at h1 ⊢
      exact h1
    unfold Region.lexFrom
    rw [Bool.and_eq_true, Bool.and_eq_true]
    refine ⟨⟨?_, ?_⟩, ?_⟩
    · rw [List.contains_iff_mem, mem_ready]
      refine ⟨by rw [hl k hk, decide_eq_false_iff_not]; omega, o, by simpa using ho, fun e he hb => hlf _ ?_⟩
      have := g1 e.on (List.mem_map.2 ⟨e, List.mem_filter.2 ⟨by simpa using he, hb⟩, rfl⟩)
      omega
    · unfold Region.free
      have ho' : l.toArray[k]? = some o := by simpa using ho
      rw [ho']
      simp only [List.all_eq_true, List.mem_range, List.size_toArray, Bool.or_eq_true, beq_iff_eq]
      intro j hj
      by_cases hjk : j = k
      · exact .inl (.inl hjk)
      · rcases Nat.lt_or_gt_of_ne hjk with hlt | hgt
        · exact .inl (.inr (by rw [hl j hj, decide_eq_true hlt]))
        · refine .inr ?_
          obtain ⟨o2, ho2⟩ : ∃ o, l[j]? = some o := ⟨_, List.getElem?_eq_getElem hj⟩
          have ho2' : l.toArray[j]? = some o2 := by simpa using ho2
          have hy : (l.map (inf l.toArray))[j]? = some (inf l.toArray o2) := by rw [List.getElem?_map, ho2]; rfl
          rw [ho2']
          simp only [Bool.or_eq_true]
          rcases g2 j _ hgt hy with h3 | h3
          · left
            rw [has_iff] at h3
            obtain ⟨e, he, heq⟩ := List.mem_map.1 h3
            rw [List.mem_filter] at he
            rw [Array.any_eq_true']
            exact ⟨e, by simpa using he.1, by rw [Bool.and_eq_true, beq_iff_eq]; exact ⟨he.2, by omega⟩⟩
          · exact .inr (apart_iff h3)
    · refine lexFrom_of h fuel (k + 1) _ (by omega) (by simpa using hs) (fun j hj => ?_)
      by_cases hjk : j = k
      · subst hjk
        rw [Array.getD_eq_getD_getElem?, Array.getElem?_setIfInBounds_self_of_lt (by omega), decide_eq_true (Nat.lt_succ_self j)]
        rfl
      · rw [getD_set_ne true (Ne.symm hjk), hl j hj]
        congr 1
        rw [eq_iff_iff]
        omega
theorem lexB_of {l : List Oper} (h : chkL l = true) : Region.lexB .any l.toArray = true := by
  unfold chkL at h
  rw [Bool.and_eq_true] at h
  unfold Region.lexB
  rw [Bool.and_eq_true]
  refine ⟨h.1, lexFrom_of h.2 _ _ _ (by simp) (by simp) (fun j hj => ?_)⟩
  rw [Array.getD_eq_getD_getElem?]
  simp [hj]
end Lex
theorem wp_region_quietC {P : Program} {id : Nat} {Q : Exit → Act → World → Prop} {a : Act} {w : World} {l : List Oper} (hm : P.follows .mixedOrders = true) (hB : Lex.chkL l = true)
    (h : wpQuiet P l.toArray (fun w' => ∃ n, w' = w.drewN n) (fun a' => ∀ w', (∃ n, w' = w.drewN n) → Q .normal a' w') l a) : (Code.region id l.toArray true).wp P Q a w :=
  wp_region_quiet_lit hm (Lex.lexB_of hB) h
end Go.Proofs.Yteiciabhfjakgaa
namespace Go.Proofs.Yteiciabhfjakgaa
set_option linter.unusedVariables false
set_option linter.unusedSimpArgs false
open Go.RowKit

theorem setC_keep {w : World} {g i j : Nat} {u : Value} (h : j ≠ g) : (w.setCell ⟨g, i, none⟩ u).heap[j]? = w.heap[j]? := heap_setCell_other _ _ _ _ h
theorem SpI.drew {w W : World} {A : Option Addr} {c k q : Nat} {l' : List EntA} {s : EntA} (h : SpI w A c l' k q s W) : SpI w A c l' k q s W.drew := by
  obtain ⟨ys, h1, h2⟩ := h.row
  exact ⟨h.sp.below (below_drew' (Below.refl _ _)), h.at_, ys, own_keepA h1 (fun _ _ _ => rfl), h2⟩

set_option maxRecDepth 100000 in
set_option maxHeartbeats 4000000 in
theorem made_any (l : List EntA) (A : Option Addr) (n c : Nat) (w : World) (h : Rd w w.heap.size 7 A n (rowCs entVals l)) (hl : l.length = n) (hok : ∀ s ∈ l, EntOk w s) (hfit : EsFit (l.map (·.e))) (hn : n ≤ 262144) :
    Calls Try.prog 12 #[.slice A n c] w (MadeE (l.map (·.e)) w) := by
  have KC := copyEnts_any l A n c w.heap.size w h (Nat.le_refl _) hl (by omega) (fun s hs => ⟨(hok s hs).d, (hok s hs).n⟩)
  have hlm : (l.map (·.e)).length = n := by simpa using hl
  obtain ⟨⟨ne, ni, F⟩, hnew⟩ : ∃ r, Vf.new (l.map (·.e)) = r := ⟨_, rfl⟩
  have HKC := hide KC
  have H := hide h
  have Hl := hide hl
  have Hok := hide hok
  have Hlm := hide hlm
  have Hnew := hide hnew
  have Hfit := hide hfit
  clear KC h hl hok hlm hnew hfit
  go_enter Try.func12, Try.ntmps12
  go_wp2_with fail
  refine (unhide HKC).mono ?_
  rintro e w1 ⟨A1, c1, l1, rfl, hcp⟩
  obtain ⟨hr1, hok1⟩ := hcp.newArgs (unhide Hfit)
  have hlen1 : l1.length = n := hcp.len.trans (unhide Hlm)
  have KN := new_any l1 A1 n c1 w1 (by rw [← hlen1]; exact hr1) hlen1 hok1 (by omega)
  rw [hcp.map] at KN
  have HKN := hide KN
  have Hcp := hide hcp
  have Hlen1 := hide hlen1
  rw [unhide Hlm]
  clear hr1 hok1 KN hcp hlen1 HKC
  go_wp2_with fail
  refine (unhide HKN).mono ?_
  intro e w2 hN
  obtain ⟨hb2, fo, rfl, hF⟩ := newE_one hN (unhide Hnew)
  have HF := hide hF
  have Hcp2 := hide ((unhide Hcp).below hb2)
  have Hb2 := hide hb2
  have KR := rnew_any l A n c w.heap.size w2 ((unhide H).below ((unhide Hcp2).bel)) (unhide Hcp2).bel.size (unhide Hl) (fun s hs => ((unhide Hok) s hs).below (unhide Hcp2).bel) (by omega)
  have HKR := hide KR
  clear hN hF hb2 KR HKN
  go_wp2_with fail
  refine (unhide HKR).mono ?_
  intro e w3 hN
  obtain ⟨hb3, go, rfl, hG⟩ := newRE_one hN (unhide Hnew)
  have HF3 := hide ((unhide HF).keep (w' := w3) (fun k _ hk => hb3.block k hk))
  have HG3 := hide hG
  have HS0 := hide (SpS.start ((unhide Hcp2).below hb3))
  have Hlo := hide (show w.heap.size ≤ w1.heap.size from (unhide Hcp).bel.size)
  have Hhi := hide (show w.heap.size ≤ w2.heap.size from (unhide Hcp2).bel.size)
  have Hw13 := hide (show w1.heap.size ≤ w3.heap.size from Nat.le_trans (unhide Hb2).size hb3.size)
  have Hw23 := hide hb3.size
  clear hN hG hb3 HKR
  go_wp2_with fail
  go_loopg [12] n (fun gk iv wr => ∃ k : Nat, gk = n - k ∧ k ≤ n ∧ iv = .int .i64 (k : Nat) ∧ SpS w A1 c1 l1 k k wr ∧ FsO w1.heap.size ne F (l.map (·.e)).length fo wr ∧ RFsO w2.heap.size ne F (l.map (·.e)).length go wr)
  case atStart => exact ⟨0, by omega, Nat.zero_le _, rfl, unhide HS0, unhide HF3, unhide HG3⟩
  case round =>
  obtain ⟨k, hgk, hk, rfl, hS, hFo, hGo⟩ := hrel
  have Hgk := hide hgk
  have HS := hide hS
  have HFo := hide hFo
  have HGo := hide hGo
  clear hgk hS hFo hGo
  by_cases hlt : k < n
  case neg =>
    have ilt : ¬ (k : Int) < (n : Int) := by omega
    have hfg : ((fo = none ∧ go = none) ∨ ∃ f g, fo = some ⟨f, 0, none⟩ ∧ go = some ⟨g, 0, none⟩) := by
      rcases unhide HFo with ⟨a, b⟩ | ⟨a, f, _, _, _, b, _⟩
      · rcases unhide HGo with ⟨a2, b2⟩ | ⟨a2, _⟩
        · exact .inl ⟨b, b2⟩
        · exact absurd a2 a
      · rcases unhide HGo with ⟨a2, b2⟩ | ⟨a2, g, _, _, _, b2, _⟩
        · exact absurd a a2
        · exact .inr ⟨f, g, b, b2⟩
    rcases hfg with ⟨rfl, rfl⟩ | ⟨f, g, rfl, rfl⟩
    all_goals
      clear hlt
      go_wp2_with fail
      go_ret3
      unfold MadeE
      rw [unhide Hnew]
      exact ⟨(unhide HS).bel, _, _, _, _, rfl, unhide Hlo, unhide Hhi, unhide HFo, unhide HGo⟩
  obtain ⟨s, hs⟩ : ∃ s, l[k]? = some s := ⟨_, List.getElem?_eq_getElem (by rw [unhide Hl]; exact hlt)⟩
  obtain ⟨s1, hs1⟩ : ∃ s, l1[k]? = some s := ⟨_, List.getElem?_eq_getElem (by rw [unhide Hlen1]; exact hlt)⟩
  have hse : s1.e = s.e := by
    have h1 := congrArg (fun t => t[k]?) (unhide Hcp).map
    simp only [List.getElem?_map, hs, hs1, Option.map_some] at h1
    exact Option.some.inj h1
  obtain ⟨g1, hA1, _, _⟩ := own_some (unhide Hcp).row (by rw [unhide Hlen1]; omega)
  subst hA1
  obtain ⟨b1, o1, rfl, hb1, c1'⟩ := (unhide H).open_ (by
    intro h0
    have := rowCs_len (vals := entVals) (size := 7) (fun _ => rfl) l
    rw [h0, unhide Hl] at this
    simp at this
    omega)
  have hc : ∀ j u, (entVals s)[j]? = some u → wr.cell? ⟨b1, o1 + (k * 7 + j), none⟩ = some u := by
    intro j u hu
    have hj : j < 7 := (List.getElem?_eq_some_iff.1 hu).1
    refine ((unhide HS).bel.cell (p := ⟨b1, _, none⟩) hb1).trans (c1' _ _ ?_)
    rw [rowCs_at (vals := entVals) (size := 7) (fun _ => rfl) l k s hs j hj, hu]
  have hd := fun q hq u hu => (unhide HS).cell (Nat.le_refl k) hs1 (q := q) hq (u := u) hu
  have x0 := hc 0 _ rfl
  have x1 := hc 1 _ rfl
  have x2 := hc 2 _ rfl
  have x3 := hc 3 _ rfl
  have x4 := hc 4 _ rfl
  have x5 := hc 5 _ rfl
  have x6 := hc 6 _ rfl
  have y0 := hd 0 (by omega) _ rfl
  have y1 := hd 1 (by omega) _ rfl
  have y2 := hd 2 (by omega) _ rfl
  have y3 := hd 3 (by omega) _ rfl
  have y4 := hd 4 (by omega) _ rfl
  have y5 := hd 5 (by omega) _ rfl
  have y6 := hd 6 (by omega) _ rfl
  rw [Nat.add_zero] at x0 y0
  simp only [← Nat.add_assoc] at x1 x2 x3 x4 x5 x6
  rw [hse] at y0 y1 y2 y3 y4 y6
  have ilt : (k : Int) < (n : Int) := by omega
  have ige : ¬ (k : Int) < 0 := by omega
  have hln1 : s1.e.data.length = s1.n := by have := ((unhide HS).dat k s1 (Nat.le_refl _) hs1).1; simpa [bys] using this
  have Hln1 := hide hln1
  clear hln1
  have hsz : s.n ≤ 262144 ∧ s1.n ≤ 262144 := by
    have h1 := ((unhide Hfit) s.e (List.mem_map.2 ⟨s, List.mem_of_getElem? hs, rfl⟩)).2.1
    have h2 : s.e.data.length = s.n := by have := ((unhide Hok) s (List.mem_of_getElem? hs)).d.len1; simpa [bys] using this
    have h3 : s1.e.data.length = s1.n := by have := ((unhide HS).dat k s1 (Nat.le_refl _) hs1).1; simpa [bys] using this
    rw [hse] at h3
    omega
  have KE : ∀ m, Calls Try.prog 17 #[.slice s1.A s1.n s1.c, .slice s.A s.n s.c] (wr.drewN m) fun e w' => e = .returned (.bool true) ∧ ∃ j, w' = (wr.drewN m).drewN j := by
    intro m
    have h := eqBytes_any s1.A s.A s1.n s.n s1.c s.c wr.heap.size s1.e.data s.e.data (wr.drewN m) (Rd.of_own ((unhide HS).dat k s1 (Nat.le_refl _) hs1)) ((((unhide Hok) s (List.mem_of_getElem? hs)).d.below (unhide HS).bel).more (unhide HS).bel.size) (by unfold maxLen; omega) (by unfold maxLen; omega)
    rwa [decide_eq_true (by rw [hse])] at h
  have Hsz := hide hsz
  have HKE := hide KE
  have Hs := hide hs
  have Hs1 := hide hs1
  clear hc hd hs hs1 KE c1' hse hsz
  go_wp2_with fail
  refine wp_region_quietC (by kernel_rfl) (by kernel_rfl) ?_
  repeat (go_big_quiet_step ((go_at_call 17; exact Calls.quiet_of ((unhide HKE) _))))
  refine wpQuiet_nil ?_
  intro _ hw'
  obtain ⟨nq, hw''⟩ := hw'
  subst hw''
  have HI0 := hide (SpI.start ((unhide HS).below (below_drewN' (Below.refl _ _) nq)) (unhide Hs1))
  have HFo2 := hide ((unhide HFo).keep (w' := wr.drewN nq) (fun _ _ _ => rfl))
  have HGo2 := hide ((unhide HGo).keep (w' := wr.drewN nq) (fun _ _ _ => rfl))
  clear x0 x1 x2 x3 x4 x5 x6 y0 y1 y2 y3 y4 y5 y6 HKE
  generalize wr.drewN nq = W0 at *
  go_wp2_with fail
  go_loopg [13] s1.n (fun gk iv W => ∃ q : Nat, gk = s1.n - q ∧ q ≤ s1.n ∧ iv = .int .i64 (q : Nat) ∧ SpI w (some ⟨g1, 0, none⟩) c1 l1 k q s1 W ∧ FsO w1.heap.size ne F (l.map (·.e)).length fo W ∧ RFsO w2.heap.size ne F (l.map (·.e)).length go W)
  case atStart => exact ⟨0, by omega, Nat.zero_le _, rfl, unhide HI0, unhide HFo2, unhide HGo2⟩
  case round =>
  obtain ⟨q, hgk2, hq, rfl, hI, hFo, hGo⟩ := hrel
  have Hgk2 := hide hgk2
  have HI := hide hI
  have HFo3 := hide hFo
  have HGo3 := hide hGo
  clear hgk2 hI hFo hGo HI0 HFo2 HGo2 HFo HGo HS
  have hd := fun q hq u hu => (unhide HI).sp.cell (Nat.le_refl k) (unhide Hs1) (q := q) hq (u := u) hu
  have y5 := hd 5 (by omega) _ rfl
  by_cases hlq : q < s1.n
  case neg =>
    have ilq : ¬ (q : Int) < (s1.n : Int) := by omega
    have y0 := hd 0 (by omega) _ rfl
    have y1 := hd 1 (by omega) _ rfl
    have y2 := hd 2 (by omega) _ rfl
    have y3 := hd 3 (by omega) _ rfl
    have y4 := hd 4 (by omega) _ rfl
    have y6 := hd 6 (by omega) _ rfl
    rw [Nat.add_zero] at y0
    have z := fun i => (unhide HI).sp.free i
    have z0 := z (k * 7)
    have z1 := z (k * 7 + 1)
    have z2 := z (k * 7 + 2)
    have z3 := z (k * 7 + 3)
    have z4 := z (k * 7 + 4)
    have z5 := z (k * 7 + 5)
    have z6 := z (k * 7 + 6)
    have hg1 : g1 < w1.heap.size := by
      obtain ⟨c2, e2⟩ := row_blkS (k := g1) (unhide Hcp).row rfl
      exact (Array.getElem?_eq_some_iff.1 e2).1
    have h7 := ((((((((unhide HI).sp.less (Nat.le_succ k) (Nat.le_refl _)).setRow (k * 7) (by omega) (.string ⟨#[]⟩)).setRow (k * 7 + 1) (by omega) (.int .u8 0)).setRow (k * 7 + 2) (by omega) (.int .u16 0)).setRow (k * 7 + 3) (by omega) (.int .u32 0)).setRow (k * 7 + 4) (by omega) (.int .u32 0)).setRow (k * 7 + 5) (by omega) (.slice none 0 0)).setRow (k * 7 + 6) (by omega) (.string ⟨#[]⟩)
    have hw12 := (unhide Hb2).size
    have hf7 := fun (u0 u1 u2 u3 u4 u5 u6 : Value) => (unhide HFo3).keep (w' := (((((((wr.setCell ⟨g1, k * 7, none⟩ u0).setCell ⟨g1, k * 7 + 1, none⟩ u1).setCell ⟨g1, k * 7 + 2, none⟩ u2).setCell ⟨g1, k * 7 + 3, none⟩ u3).setCell ⟨g1, k * 7 + 4, none⟩ u4).setCell ⟨g1, k * 7 + 5, none⟩ u5).setCell ⟨g1, k * 7 + 6, none⟩ u6)) (fun j hj _ => by
      have hne : j ≠ g1 := by omega
      simp only [setC_keep hne])
    have hr7 := fun (u0 u1 u2 u3 u4 u5 u6 : Value) => (unhide HGo3).keep (w' := (((((((wr.setCell ⟨g1, k * 7, none⟩ u0).setCell ⟨g1, k * 7 + 1, none⟩ u1).setCell ⟨g1, k * 7 + 2, none⟩ u2).setCell ⟨g1, k * 7 + 3, none⟩ u3).setCell ⟨g1, k * 7 + 4, none⟩ u4).setCell ⟨g1, k * 7 + 5, none⟩ u5).setCell ⟨g1, k * 7 + 6, none⟩ u6)) (fun j hj _ => by
      have hne : j ≠ g1 := by omega
      simp only [setC_keep hne])
    have H7 := hide h7
    have Hf7 := hide hf7
    have Hr7 := hide hr7
    clear hd hlq z hg1 h7 hf7 hr7 hw12
    go_wp2_with fail
    go_roundg (n - (k + 1))
    case measure => have := unhide Hgk; omega
    case rel => exact ⟨k + 1, rfl, by omega, by go_num, unhide H7, (unhide Hf7) _ _ _ _ _ _ _, (unhide Hr7) _ _ _ _ _ _ _⟩
  obtain ⟨b2, hA2⟩ : ∃ b2, s1.A = some ⟨b2, 0, none⟩ := by
    obtain ⟨ys, h1, h2⟩ := (unhide HI).row
    obtain ⟨g2, e2, _, _⟩ := own_some h1 (by omega)
    exact ⟨g2, e2⟩
  obtain ⟨u, hu⟩ : ∃ u, s1.e.data[q]? = some u := by
    have h3 := unhide Hln1
    exact ⟨_, List.getElem?_eq_getElem (by omega)⟩
  have yb := (unhide HI).cell hA2 (Nat.le_refl q) (u := .int .u8 (u.toNat : Nat)) (by simp [bys, hu])
  have zb := (unhide HI).free hA2 q
  rw [hA2] at y5
  have ilq : (q : Int) < (s1.n : Int) := by omega
  have iqe : ¬ (q : Int) < 0 := by omega
  have hb2 : b2 < w1.heap.size := by
    have hd2 := (unhide Hcp).dat s1 (List.mem_of_getElem? (unhide Hs1))
    obtain ⟨c2, e2⟩ := row_blkS (k := b2) hd2 (by rw [hA2]; rfl)
    exact (Array.getElem?_eq_some_iff.1 e2).1
  have hw12 := (unhide Hb2).size
  have h7 := fun v => ((unhide HI).set hA2 v).drew
  have hf7 := fun v => (unhide HFo3).keep (w' := (wr.setCell ⟨b2, q, none⟩ v).drew) (fun j hj _ => by
    have hne : j ≠ b2 := by omega
    exact setC_keep hne)
  have hr7 := fun v => (unhide HGo3).keep (w' := (wr.setCell ⟨b2, q, none⟩ v).drew) (fun j hj _ => by
    have hne : j ≠ b2 := by omega
    exact setC_keep hne)
  have H7 := hide h7
  have Hf7 := hide hf7
  have Hr7 := hide hr7
  have hsz2 : s1.n ≤ 262144 := (unhide Hsz).2
  clear hd hA2 hb2 h7 hf7 hr7 hw12 hu
  go_wp2_with fail
  go_region
  go_wp2_with fail
  go_roundg (s1.n - (q + 1))
  case measure => have := unhide Hgk2; omega
  case rel => exact ⟨q + 1, rfl, by omega, by go_num, (unhide H7) _, (unhide Hf7) _, (unhide Hr7) _⟩
end Go.Proofs.Yteiciabhfjakgaa
namespace Go.Proofs.Yteiciabhfjakgaa
set_option linter.unusedVariables false
set_option linter.unusedSimpArgs false
open Go.RowKit

set_option maxRecDepth 100000 in
set_option maxHeartbeats 8000000 in
theorem rwalk_any (F : List Vf.Nd) (ls : List RPl) (base g c : Nat) (A Ag : Option Addr) (ng kg : Nat) (cr : Vf.Cred) (src : Int) (path : ByteArray) (last : Bool) (w : World) (hF : Vf.Good F) (h : RFs w base g A c F ls) (hn : F.length ≤ 65)
    (hg : Rd w w.heap.size 1 Ag ng (cr.groups.map u32v)) (hng : ng ≤ maxLen) (hps : path.size ≤ 4294967296) :
    Calls Try.prog 23 #[.pointer (some ⟨g, 0, none⟩), credV cr Ag ng kg, .int .i64 src, .string path, .bool last] w fun e w' => e = .returned (.tuple #[.int .i64 ((Vf.walk F cr src path last).1 : Nat), .int .i64 (Vf.walk F cr src path last).2]) ∧ Below w.heap.size w w' := by
  have h0 := Vf.good_pos hF
  have hb0 : Below w.heap.size w (w.alloc (.cells #[.int .u32 (cr.uid : Nat), .int .u32 (cr.euid : Nat), .int .u32 (cr.suid : Nat), .int .u32 (cr.gid : Nat), .slice Ag ng kg] 44)) := (Below.refl _ _).alloc (Nat.le_refl _) _
  have hcb : Blk (w.alloc (.cells #[.int .u32 (cr.uid : Nat), .int .u32 (cr.euid : Nat), .int .u32 (cr.suid : Nat), .int .u32 (cr.gid : Nat), .slice Ag ng kg] 44)) w.heap.size 44 [.int .u32 (cr.uid : Nat), .int .u32 (cr.euid : Nat), .int .u32 (cr.suid : Nat), .int .u32 (cr.gid : Nat), .slice Ag ng kg] := Blk.new w 44 _
  have KMay : ∀ (i : Nat) (x : Vf.Nd), F[i]? = some x → ∀ w', Below w.heap.size w w' → Calls Try.prog 42 #[.agg #[.int .u32 (cr.uid : Nat), .int .u32 (cr.euid : Nat), .int .u32 (cr.suid : Nat), .int .u32 (cr.gid : Nat), .slice Ag ng kg], .agg #[.int .u8 (x.m.kind : Nat), .int .u16 (x.m.mode : Nat), .int .u32 (x.m.uid : Nat), .int .u32 (x.m.gid : Nat), .int .i64 (x.m.size : Nat)], .int .u8 1] w' fun e w2 => e = .returned (.bool (Vf.mayX cr x.m)) ∧ Below w'.heap.size w' w2 :=
    fun i x hx w' hb => rmay_any cr x.m Ag ng kg w.heap.size w' (hg.below hb) hb.size hng (hF.mode i x hx)
  have KDir : ∀ w', Below w.heap.size w w' → ∀ (i : Int) (r : Bool), r = decide (¬ (i < 0 ∨ Vf.kindAt F i.toNat ≠ 2)) → Calls Try.prog 40 #[.pointer (some ⟨g, 0, none⟩), .int .i64 i] w' fun e w2 => e = .returned (.bool r) ∧ w' = w2 :=
    fun w' hb i r hr => rfdir_any F ls base g c A i w' (h.belowSz hb) hn h0 r hr
  have KCh : ∀ w', Below w.heap.size w w' → ∀ (d : Nat) (nm : ByteArray), Calls Try.prog 43 #[.pointer (some ⟨g, 0, none⟩), .int .i64 (d : Nat), .string nm] w' fun e w2 => e = .returned (numV (Vf.child F d nm)) ∧ w' = w2 :=
    fun w' hb d nm => rchild_any F ls base g c A d nm w' (h.belowSz hb) hn h0
  obtain ⟨⟨rn0, re0⟩, hr⟩ : ∃ r, Vf.walk F cr src path last = r := ⟨_, rfl⟩
  rw [hr]
  dsimp only
  have HKM := hide KMay
  have HKD := hide KDir
  have HKC := hide KCh
  have HF := hide hF
  have H := hide h
  have Hr := hide hr
  have Hb0 := hide hb0
  have Hcb := hide hcb
  have Hg := hide hg
  have Hn := hide hn
  have H0 := hide h0
  unfold credV
  clear hF h hr hb0 hcb hg KMay KDir KCh hn h0
  go_enter Try.func23, Try.ntmps23
  go_wp2_with fail
  by_cases hs : src < 0 ∨ Vf.kindAt F src.toNat ≠ 2
  · obtain ⟨rfl, rfl⟩ : rn0 = 0 ∧ re0 = 1 := by
      have := unhide Hr
      unfold Vf.walk at this
      rw [if_pos hs] at this
      injection this with a b
      exact ⟨a.symm, b.symm⟩
    refine ((unhide HKD) _ (unhide Hb0) src false (by simp [hs])).mono ?_
    rintro e w1 ⟨rfl, rfl⟩
    clear hs
    go_wp2_with fail
    go_ret2
    exact ⟨rfl, unhide Hb0⟩
  · refine ((unhide HKD) _ (unhide Hb0) src true (by simp [hs])).mono ?_
    rintro e w1 ⟨rfl, rfl⟩
    obtain ⟨i, rfl⟩ := Int.eq_ofNat_of_zero_le (show 0 ≤ src by omega)
    have hk : Vf.kindAt F i = 2 := by
      simp only [not_or, Decidable.not_not, Int.toNat_natCast] at hs
      exact hs.2
    obtain ⟨x, hx, hxk⟩ := Vf.kindAt_lt hk
    have KP := hide (rparts_any path (by omega) (w.alloc (.cells #[.int .u32 (cr.uid : Nat), .int .u32 (cr.euid : Nat), .int .u32 (cr.suid : Nat), .int .u32 (cr.gid : Nat), .slice Ag ng kg] 44)))
    obtain ⟨ck, hck⟩ : ∃ b, Pth.chk path = b := ⟨_, rfl⟩
    obtain ⟨tb, htb⟩ : ∃ b, Pth.rootB path = b := ⟨_, rfl⟩
    obtain ⟨pl, hpl⟩ : ∃ l, Pth.partsL path = l := ⟨_, rfl⟩
    obtain ⟨tl, htl⟩ : ∃ b, Pth.tailB path = b := ⟨_, rfl⟩
    have hpl2 := Vf.parts_len path
    have hwk := unhide Hr
    unfold Vf.walk at hwk
    rw [if_neg hs] at hwk
    simp only [Int.toNat_natCast] at hwk
    rw [hck, htb, hpl, htl] at hwk
    rw [hck, htb, hpl] at KP
    rw [hpl] at hpl2
    have Hwk := hide hwk
    have Hx := hide hx
    have Hpl2 := hide hpl2
    have KT := hide (fun w' => rtail_any path (by omega) w')
    rw [htl] at KT
    have Hil := hide (List.getElem?_eq_some_iff.1 hx).1
    clear hs hk hx hxk hck htb hpl htl hwk hpl2 Hr
    go_wp2_with fail
    refine (unhide KP).mono ?_
    rintro e w2 ⟨A2, c2, rfl, ho2, hb2⟩
    have hcb2 := (unhide Hcb).belowSz hb2
    have Hb2 := hide ((unhide Hb0).trans (hb2.mono (by simp)))
    have Hr2 := hide (Rd.of_own ho2)
    have Hc2 := hide (own_cap ho2)
    have Hcb2 := hide hcb2
    clear ho2 hb2 hcb2
    by_cases hck : ck = 0
    case neg =>
      obtain ⟨rfl, rfl⟩ : rn0 = 0 ∧ re0 = ck := by
        have := unhide Hwk
        rw [if_pos hck] at this
        injection this with a b
        exact ⟨a.symm, b.symm⟩
      have i1 : (re0 != 0) = true := by simp [hck]
      clear hck
      go_wp2_with fail
      go_ret2
      exact ⟨rfl, unhide Hb2⟩
    subst hck
    have hwk := unhide Hwk
    rw [if_neg (by simp)] at hwk
    have q0 : ((0 : Int) != 0) = false := rfl
    obtain ⟨i1, hi1⟩ : ∃ i1, (if tb = true then 0 else i) = i1 := ⟨_, rfl⟩
    rw [hi1] at hwk
    have hil1 : i1 < F.length := by
      rw [← hi1]
      split
      · exact unhide H0
      · exact unhide Hil
    obtain ⟨lt, hlt⟩ : ∃ b, (last || tl) = b := ⟨_, rfl⟩
    rw [hlt] at hwk
    obtain ⟨⟨re, rn⟩, hen⟩ : ∃ r, Vf.ends F cr lt ⟨i1, 0, pl⟩ = r := ⟨_, rfl⟩
    obtain ⟨M, hMe⟩ : ∃ M, Vf.mu ⟨i1, 0, pl⟩ = M := ⟨_, rfl⟩
    have hM : M ≤ 1817 := by rw [← hMe]; unfold Vf.mu; have := unhide Hpl2; simp only; omega
    rw [hen] at hwk
    dsimp only at hwk
    have herr : ∀ e', re = e' → e' ≠ 0 → rn0 = 0 ∧ re0 = e' := by
      intro e' h1 h2
      rw [h1, if_pos h2] at hwk
      injection hwk with a b
      exact ⟨a.symm, b.symm⟩
    have Herr := hide herr
    have S0 : AlS w F [] cr Ag ng kg lt (re, rn) M ⟨i1, 0, pl⟩ A2 c2 w2 :=
      ⟨unhide Hb2, unhide Hcb2, (unhide Hr2), hil1, Nat.zero_le _, Nat.le_of_eq hMe, hen, unhide Hc2⟩
    have HS0 := hide S0
    have Hwk2 := hide hwk
    have HMe := hide hMe
    have Hlt := hide hlt
    have Hi1 := hide hi1
    obtain ⟨nl, hnl⟩ : ∃ n, pl.length = n := ⟨_, rfl⟩
    rw [hnl]
    have Hnl := hide hnl
    clear hwk herr S0 hMe hlt hil1 hen hi1 hnl Hwk
    cases tb
    all_goals
      go_wp2_with fail
      refine ((unhide KT) _).mono ?_
      rintro e w3 ⟨rfl, rfl⟩
      go_wp2_with fail
      go_loopg [12, 15, 17] M (fun gk lv av kv wr => ∃ (s : Vf.St) (A1 : Option Addr) (c1 : Nat), gk = Vf.mu s ∧ lv = .slice A1 s.left.length c1 ∧ av = .int .i64 (s.at_ : Nat) ∧ kv = .int .i64 (s.links : Nat) ∧ AlS w F [] cr Ag ng kg lt (re, rn) M s A1 c1 wr)
      case atStart => exact ⟨⟨i1, 0, pl⟩, A2, c2, (unhide HMe).symm, by rw [← unhide Hnl], by rw [← unhide Hi1]; rfl, rfl, unhide HS0⟩
      case round =>
      obtain ⟨s, A1, c1, hgk, rfl, rfl, rfl, hS⟩ := hrel
      have HS := hide hS
      have hat := hS.at_
      have hlen := hS.len
      obtain ⟨x, hx⟩ : ∃ x, F[s.at_]? = some x := ⟨_, List.getElem?_eq_getElem hat⟩
      obtain ⟨p, hp, _⟩ := (unhide H).at_ hx
      have HW := hide ((unhide H).belowSz hS.b)
      have Hx := hide hx
      have Hp := hide hp
      have Hgk := hide hgk
      have HbS := hide hS.b
      cases hleft : s.left with
      | nil =>
        obtain ⟨rfl, rfl⟩ : re = 0 ∧ rn = s.at_ := by
          have := hS.stop (Vf.hop_nil hleft)
          injection this with a b
          exact ⟨a, b⟩
        simp only [List.length_nil]
        have hwk := unhide Hwk2
        rw [if_neg (by simp), Vf.kindAt_eq hx] at hwk
        have hdr : ∀ r : Bool, r = decide (x.m.kind = 2) → r = decide (¬ (((s.at_ : Nat) : Int) < 0 ∨ Vf.kindAt F ((s.at_ : Nat) : Int).toNat ≠ 2)) := by
          intro r hr
          rw [hr, Int.toNat_natCast, Vf.kindAt_eq hx]
          by_cases h2 : x.m.kind = 2
          · rw [decide_eq_true h2]; exact (decide_eq_true (by omega)).symm
          · rw [decide_eq_false h2]; exact (decide_eq_false (by omega)).symm
        have Hdr := hide hdr
        clear hdr
        cases tl with
        | false =>
          rw [if_neg (by simp)] at hwk
          obtain ⟨rfl, rfl⟩ : rn0 = s.at_ ∧ re0 = 0 := by
            injection hwk with a b
            exact ⟨a.symm, b.symm⟩
          clear hS hx hp hgk hlen hat hleft hwk
          go_wp2_with fail
          go_ret2
          exact ⟨rfl, unhide HbS⟩
        | true =>
          by_cases h2 : x.m.kind = 2
          · rw [if_neg (by simp [h2])] at hwk
            obtain ⟨rfl, rfl⟩ : rn0 = s.at_ ∧ re0 = 0 := by
              injection hwk with a b
              exact ⟨a.symm, b.symm⟩
            have hd := (unhide Hdr) true (decide_eq_true h2).symm
            have Hd := hide hd
            clear hS hx hp hgk hlen hat hleft hwk h2 hd
            go_wp2_with fail
            refine ((unhide HKD) _ (unhide HbS) _ true (unhide Hd)).mono ?_
            rintro e w4 ⟨rfl, rfl⟩
            go_wp2_with fail
            go_ret2
            exact ⟨rfl, unhide HbS⟩
          · rw [if_pos (by simp [h2])] at hwk
            obtain ⟨rfl, rfl⟩ : rn0 = 0 ∧ re0 = 8 := by
              injection hwk with a b
              exact ⟨a.symm, b.symm⟩
            have hd := (unhide Hdr) false (decide_eq_false h2).symm
            have Hd := hide hd
            clear hS hx hp hgk hlen hat hleft hwk h2 hd
            go_wp2_with fail
            refine ((unhide HKD) _ (unhide HbS) _ false (unhide Hd)).mono ?_
            rintro e w4 ⟨rfl, rfl⟩
            go_wp2_with fail
            go_ret2
            exact ⟨rfl, unhide HbS⟩
      | cons pn rest =>
        have hl1 : s.left.length = rest.length + 1 := by rw [hleft]; rfl
        have Hleft := hide hleft
        obtain ⟨m, hm⟩ : ∃ m, rest.length = m := ⟨_, rfl⟩
        have Hm := hide hm
        have hmM : m < M := by omega
        simp only [List.length_cons]
        rw [hm]
        have g1 : (0 : Int) < (m : Int) + 1 := by omega
        have gl : ((m + 1 : Nat) : Int) = (m : Int) + 1 := by omega
        have hdr : ∀ r : Bool, r = decide (x.m.kind = 2) → r = decide (¬ (((s.at_ : Nat) : Int) < 0 ∨ Vf.kindAt F ((s.at_ : Nat) : Int).toNat ≠ 2)) := by
          intro r hr
          rw [hr, Int.toNat_natCast, Vf.kindAt_eq hx]
          by_cases h2 : x.m.kind = 2
          · rw [decide_eq_true h2]; exact (decide_eq_true (by omega)).symm
          · rw [decide_eq_false h2]; exact (decide_eq_false (by omega)).symm
        by_cases hk2 : x.m.kind = 2
        case neg =>
          have hka : Vf.kindAt F s.at_ ≠ 2 := by rw [Vf.kindAt_eq hx]; exact hk2
          have h8 : re = 8 := by
            have := hS.stop (Vf.hop_no hleft hka)
            injection this with a b
          obtain ⟨rfl, rfl⟩ := (unhide Herr) 8 h8 (by decide)
          have Hd := hide (hdr false (decide_eq_false hk2).symm)
          clear hS hx hp hgk hlen hat hleft hk2 hka h8 hdr hm hl1
          go_wp2_with fail
          refine ((unhide HKD) _ (unhide HbS) _ false (unhide Hd)).mono ?_
          rintro e w4 ⟨rfl, rfl⟩
          go_wp2_with fail
          go_ret2
          exact ⟨rfl, unhide HbS⟩
        have Hd := hide (hdr true (decide_eq_true hk2).symm)
        have hka : Vf.kindAt F s.at_ = 2 := (Vf.kindAt_eq hx).trans hk2
        have hnd : Vf.nd F s.at_ = x := Vf.nd_eq hx
        obtain ⟨b1, o1, hA, _, hcl⟩ := (unhide HW).cells (unhide H0)
        have v0 := (unhide HW).fs.cell (i := 0) rfl
        obtain ⟨n, hfn⟩ : ∃ n, F.length = n := ⟨_, rfl⟩
        rw [hfn] at v0 hat
        have ilt : ((s.at_ : Nat) : Int) < (n : Int) := by omega
        have ige : ¬ ((s.at_ : Nat) : Int) < 0 := by omega
        have hcb := hS.cb
        have hfsb := (unhide HW)
        have KM := (unhide HKM) s.at_ x hx
        obtain ⟨bm, hbm⟩ : ∃ b, Vf.mayX cr x.m = b := ⟨_, rfl⟩
        rw [hbm] at KM
        have Hbm := hide hbm
        have HSK : ∀ w', Below wr.heap.size wr w' → (Below wr.heap.size wr w' ∧ w'.cell? ⟨w.heap.size, 0, none⟩ = some (.int .u32 (cr.uid : Nat)) ∧ w'.cell? ⟨w.heap.size, 1, none⟩ = some (.int .u32 (cr.euid : Nat)) ∧ w'.cell? ⟨w.heap.size, 2, none⟩ = some (.int .u32 (cr.suid : Nat)) ∧ w'.cell? ⟨w.heap.size, 3, none⟩ = some (.int .u32 (cr.gid : Nat)) ∧ w'.cell? ⟨w.heap.size, 4, none⟩ = some (.slice Ag ng kg) ∧ w'.cell? ⟨g, 0, none⟩ = some (.slice A n c) ∧ w'.cell? ⟨b1, o1 + s.at_ * 9, none⟩ = some (.int .u8 (x.m.kind : Nat)) ∧ w'.cell? ⟨b1, o1 + s.at_ * 9 + 1, none⟩ = some (.int .u16 (x.m.mode : Nat)) ∧ w'.cell? ⟨b1, o1 + s.at_ * 9 + 2, none⟩ = some (.int .u32 (x.m.uid : Nat)) ∧ w'.cell? ⟨b1, o1 + s.at_ * 9 + 3, none⟩ = some (.int .u32 (x.m.gid : Nat)) ∧ w'.cell? ⟨b1, o1 + s.at_ * 9 + 4, none⟩ = some (.int .i64 (x.m.size : Nat))) := by
          intro w' hbw
          have h1 := hcb.belowSz hbw
          have h2 := (hfsb.belowSz hbw).fs
          rw [hfn] at h2
          have h3 : ∀ j u, (rndV (x, p))[j]? = some u → w'.cell? ⟨b1, o1 + (s.at_ * 9 + j), none⟩ = some u := fun j u hu => (hbw.cell (p := ⟨b1, _, none⟩) (cell_lt (hcl s.at_ x p hx hp j u hu))).trans (hcl s.at_ x p hx hp j u hu)
          have e0 := h3 0 _ rfl
          have e1 := h3 1 _ rfl
          have e2 := h3 2 _ rfl
          have e3 := h3 3 _ rfl
          have e4 := h3 4 _ rfl
          rw [Nat.add_zero] at e0
          simp only [← Nat.add_assoc] at e1 e2 e3 e4
          exact ⟨hbw, h1.cell rfl, h1.cell rfl, h1.cell rfl, h1.cell rfl, h1.cell rfl, h2.cell rfl, e0, e1, e2, e3, e4⟩
        obtain ⟨-, a0, a1, a2, a3, a4, v1, d0, d1, d2, d3, d4⟩ := HSK wr (Below.refl _ _)
        have hbW := hS.b
        have HKM2 := hide (fun w' (hbw : Below wr.heap.size wr w') => KM w' (hbW.trans (hbw.mono hbW.size)))
        have Hka := hide hka
        have Hnd := hide hnd
        have HSK' := hide HSK
        have Hk2 := hide hk2
        have Hcl := hide hcl
        have Hfn := hide hfn
        subst hA
        clear hS hx hp hgk hlen hleft hcb KM hbm HSK hka hnd hk2 hm hl1 hdr hcl hfn v0 hfsb hbW
        go_wp2_with fail
        refine ((unhide HKD) _ (unhide HbS) _ true (unhide Hd)).mono ?_
        rintro e w4 ⟨rfl, rfl⟩
        go_wp2_with fail
        go_region_held3 (fun w' => Below wr.heap.size wr w' ∧ w'.cell? ⟨w.heap.size, 0, none⟩ = some (.int .u32 (cr.uid : Nat)) ∧ w'.cell? ⟨w.heap.size, 1, none⟩ = some (.int .u32 (cr.euid : Nat)) ∧ w'.cell? ⟨w.heap.size, 2, none⟩ = some (.int .u32 (cr.suid : Nat)) ∧ w'.cell? ⟨w.heap.size, 3, none⟩ = some (.int .u32 (cr.gid : Nat)) ∧ w'.cell? ⟨w.heap.size, 4, none⟩ = some (.slice Ag ng kg) ∧ w'.cell? ⟨g, 0, none⟩ = some (.slice (some ⟨b1, o1, none⟩) n c) ∧ w'.cell? ⟨b1, o1 + s.at_ * 9, none⟩ = some (.int .u8 (x.m.kind : Nat)) ∧ w'.cell? ⟨b1, o1 + s.at_ * 9 + 1, none⟩ = some (.int .u16 (x.m.mode : Nat)) ∧ w'.cell? ⟨b1, o1 + s.at_ * 9 + 2, none⟩ = some (.int .u32 (x.m.uid : Nat)) ∧ w'.cell? ⟨b1, o1 + s.at_ * 9 + 3, none⟩ = some (.int .u32 (x.m.gid : Nat)) ∧ w'.cell? ⟨b1, o1 + s.at_ * 9 + 4, none⟩ = some (.int .i64 (x.m.size : Nat))) (first | exact (unhide HSK') _ (below_drew' (Below.refl _ _)) | exact (unhide HSK') _ (unhide hbn)) (first
          | (go_at_call 42; rename Below _ _ _ ∧ _ => hH; refine ((unhide HKM2) _ hH.1).mono ?_; rintro e w5 ⟨rfl, hb5⟩; have hbn := hide (hH.1.trans (hb5.mono hH.1.size))))
        have HS2 := hide ((unhide HS).below (unhide hbn))
        have Hb5 := hide ((unhide HS2).b)
        clear a0 a1 a2 a3 a4 v1 d0 d1 d2 d3 d4
        cases bm with
        | false =>
          have h5 : re = 5 := by
            have := (unhide HS).stop (Vf.hop_shut (unhide Hleft) (unhide Hka) (by rw [unhide Hnd]; exact unhide Hbm))
            injection this with a b
          obtain ⟨rfl, rfl⟩ := (unhide Herr) 5 h5 (by decide)
          clear h5
          go_wp2_with fail
          go_ret2
          exact ⟨rfl, unhide Hb5⟩
        | true =>
          have hrd := (unhide HS2).rd
          rw [unhide Hleft, List.length_cons, unhide Hm, List.map_cons] at hrd
          have hcp := (unhide HS2).cap
          rw [unhide Hleft, List.length_cons, unhide Hm] at hcp
          have hsl := fun w' => run_tail (P := Try.prog) (e := 9) Try.underlying85 (by kernel_rfl) A1 m c1 w'
          have hrt := hrd.tail hcp
          obtain ⟨bL, oL, hA1, _, cL⟩ := hrd.at_ (k := 0) (u := .string pn) rfl
          obtain ⟨A2', hA2⟩ : ∃ A2, tailA A1 c1 = A2 := ⟨_, rfl⟩
          rw [hA2] at hsl hrt
          rw [Nat.add_zero] at cL
          subst hA1
          have Hrt := hide hrt
          have Hcp := hide hcp
          have hw5 := (unhide HSK') w5 (unhide hbn)
          have v5 := hw5.2.2.2.2.2.2.1
          clear hrd hA2 hrt hcp hw5
          have hdq : (pn.toList == [46, 46]) = decide (pn = Vf.dd) := by
            have h := beq_toList pn Vf.dd
            rwa [show Vf.dd.toList = [46, 46] by rw [Lib.toList_data]; rfl] at h
          by_cases hd : pn = Vf.dd
          · rw [decide_eq_true hd] at hdq
            obtain ⟨hul, hud⟩ := Vf.up_lt (unhide HF) (unhide Hx)
            have e5 := (unhide Hcl) s.at_ x p (unhide Hx) (unhide Hp) 5 _ rfl
            simp only [← Nat.add_assoc] at e5
            have c6 := ((unhide hbn).cell (p := ⟨b1, _, none⟩) (cell_lt e5)).trans e5
            have hnx := (unhide HS).next (Vf.hop_up (unhide Hleft) (unhide Hka) (by rw [unhide Hnd]; exact unhide Hbm) hd)
            rw [unhide Hnd] at hnx
            have HN : Hid (AlS w F [] cr Ag ng kg lt (re, rn) M ⟨x.up, s.links, rest⟩ A2' (c1 - 1) w5) :=
              hide ⟨(unhide HS2).b, (unhide HS2).cb, by rw [unhide Hm]; exact unhide Hrt, hul, (unhide HS2).lk, Nat.le_trans (Nat.le_of_lt hnx.2) (unhide HS2).mu, hnx.1, by rw [unhide Hm]; have := unhide Hcp; omega⟩
            have Hnx := hide hnx.2
            clear hd hul hud hnx e5
            go_wp2_with fail
            go_roundg (Vf.mu ⟨x.up, s.links, rest⟩)
            case rel => exact ⟨⟨x.up, s.links, rest⟩, A2', c1 - 1, rfl, by rw [unhide Hm], rfl, rfl, unhide HN⟩
            case measure => rw [unhide Hgk]; exact unhide Hnx
          · rw [decide_eq_false hd] at hdq
            have hml : Vf.mayX cr (Vf.nd F s.at_).m = true := by rw [unhide Hnd]; exact unhide Hbm
            have KC := (unhide HKC) w5 (unhide Hb5) s.at_ pn
            cases hc : Vf.child F s.at_ pn with
            | none =>
              rw [hc, numV_none] at KC
              have h3 : re = 3 := by
                have := (unhide HS).stop (Vf.hop_none (unhide Hleft) (unhide Hka) hml hd hc)
                injection this with a b
              obtain ⟨rfl, rfl⟩ := (unhide Herr) 3 h3 (by decide)
              have HKC2 := hide KC
              clear h3 hd hc hml KC
              go_wp2_with fail
              refine (unhide HKC2).mono ?_
              rintro e w6 ⟨rfl, rfl⟩
              go_wp2_with fail
              go_ret2
              exact ⟨rfl, unhide Hb5⟩
            | some j =>
              rw [hc, numV_some] at KC
              have hjl := (Vf.child_dir (unhide HF) hc).2.2
              obtain ⟨xj, hxj⟩ : ∃ x, F[j]? = some x := ⟨_, List.getElem?_eq_getElem hjl⟩
              obtain ⟨pj, hpj, _⟩ := (unhide H).at_ hxj
              have ej0 := (unhide Hcl) j xj pj hxj hpj 0 _ rfl
              have ej8 := (unhide Hcl) j xj pj hxj hpj 8 _ rfl
              rw [Nat.add_zero] at ej0
              simp only [← Nat.add_assoc] at ej8
              have f0 := ((unhide hbn).cell (p := ⟨b1, _, none⟩) (cell_lt ej0)).trans ej0
              have f8 := ((unhide hbn).cell (p := ⟨b1, _, none⟩) (cell_lt ej8)).trans ej8
              have HKC2 := hide KC
              have HIn : Hid (Vf.kindAt F j ≠ 3 ∨ (rest = [] ∧ lt = false) → AlS w F [] cr Ag ng kg lt (re, rn) M ⟨j, s.links, rest⟩ A2' (c1 - 1) w5 ∧ Vf.mu ⟨j, s.links, rest⟩ < Vf.mu s) := hide (fun h3 => by
                have hnx := (unhide HS).next (Vf.hop_in (unhide Hleft) (unhide Hka) hml hd hc h3)
                exact ⟨⟨(unhide HS2).b, (unhide HS2).cb, by rw [unhide Hm]; exact unhide Hrt, hjl, (unhide HS2).lk, Nat.le_trans (Nat.le_of_lt hnx.2) (unhide HS2).mu, hnx.1, by rw [unhide Hm]; have := unhide Hcp; omega⟩, hnx.2⟩)
              have hjn : j < n := by rw [← unhide Hfn]; exact hjl
              have j0 : ¬ (j : Int) < 0 := by omega
              have j1 : (j : Int) < (n : Int) := by omega
              by_cases hk3 : xj.m.kind = 3
              · have q3 : ((xj.m.kind : Int) != 3) = false := by rw [hk3]; rfl
                have hk3' : Vf.kindAt F j = 3 := (Vf.kindAt_eq hxj).trans hk3
                have hndj : Vf.nd F j = xj := Vf.nd_eq hxj
                have hto : xj.to.size ≤ 200 := Pth.chk_size _ ((unhide HF).to j xj hxj hk3)
                by_cases hin : rest = [] ∧ lt = false
                · have h3 := (unhide HIn) (.inr hin)
                  have HN := hide h3.1
                  have Hnx := hide h3.2
                  have hm0 : m = 0 := by rw [← unhide Hm, hin.1]; rfl
                  have hq0 : ((m : Int) == 0) = true := by rw [hm0]; rfl
                  obtain ⟨hla, htl⟩ : last = false ∧ tl = false := by
                    have := unhide Hlt
                    rw [hin.2] at this
                    exact Bool.or_eq_false_iff.1 this
                  clear h3 hk3 hc hjl hxj hpj hml hd ej0 ej8 hk3' hndj hto hin hm0 KC
                  subst hla
                  subst htl
                  go_wp2_with fail
                  refine (unhide HKC2).mono ?_
                  rintro e w6 ⟨rfl, rfl⟩
                  go_wp2_with fail
                  go_roundg (Vf.mu ⟨j, s.links, rest⟩)
                  case rel => exact ⟨⟨j, s.links, rest⟩, A2', c1 - 1, rfl, by rw [unhide Hm], rfl, rfl, unhide HN⟩
                  case measure => rw [unhide Hgk]; exact unhide Hnx
                · have hno : ¬ (Vf.kindAt F j ≠ 3 ∨ (rest = [] ∧ lt = false)) := by
                    rintro (h | h)
                    · exact h hk3'
                    · exact hin h
                  have hpick : ((m : Int) == 0) = false ∨ (((m : Int) == 0) = true ∧ last = true) ∨ (((m : Int) == 0) = true ∧ last = false ∧ tl = true) := by
                    by_cases hm0 : m = 0
                    · have e0 : ((m : Int) == 0) = true := by rw [hm0]; rfl
                      have hl := unhide Hlt
                      have hr0 : rest = [] := List.eq_nil_of_length_eq_zero ((unhide Hm).trans hm0)
                      have hlt2 : lt = true := by
                        cases lt with
                        | true => rfl
                        | false => exact absurd ⟨hr0, rfl⟩ hin
                      cases last with
                      | true => exact .inr (.inl ⟨e0, rfl⟩)
                      | false =>
                        rw [hlt2] at hl
                        cases tl with
                        | true => exact .inr (.inr ⟨e0, rfl, rfl⟩)
                        | false => cases hl
                    · exact .inl (by rw [beq_eq_false_iff_ne]; omega)
                  have hlk8 := (unhide HS2).lk
                  have i0 : (0 : Int) ≤ (s.links : Int) := by omega
                  have iw : IntKind.i64.wrap ((s.links : Int) + 1) = (s.links : Int) + 1 := IntWalk.i64_in _ (by omega)
                  by_cases h8 : 8 ≤ s.links
                  · have h10 : re = 10 := by
                      have := (unhide HS).stop (Vf.hop_loop (unhide Hleft) (unhide Hka) hml hd hc hno h8)
                      injection this with a b
                    obtain ⟨rfl, rfl⟩ := (unhide Herr) 10 h10 (by decide)
                    have g8 : (8 : Int) < (s.links : Int) + 1 := by omega
                    clear hk3 hc hjl hxj hpj hml hd ej0 ej8 hk3' hndj hto hin hno hlk8 h8 h10 KC
                    rcases hpick with hq0 | ⟨hq0, rfl⟩ | ⟨hq0, rfl, rfl⟩
                    all_goals
                      go_wp2_with fail
                      refine (unhide HKC2).mono ?_
                      rintro e w6 ⟨rfl, rfl⟩
                      go_wp2_with fail
                      go_ret2
                      exact ⟨rfl, unhide Hb5⟩
                  · have hnx := (unhide HS).next (Vf.hop_link (unhide Hleft) (unhide Hka) hml hd hc hno h8)
                    rw [hndj] at hnx
                    have g8 : ¬ (8 : Int) < (s.links : Int) + 1 := by omega
                    have KP := hide (rparts_any xj.to (by omega) w5)
                    have hpl := Vf.parts_len xj.to
                    have Hnx := hide hnx
                    have h8' : s.links + 1 ≤ 8 := by omega
                    have hm2 : m ≤ 1817 := by omega
                    obtain ⟨tb2, htb⟩ : ∃ b, Pth.rootB xj.to = b := ⟨_, rfl⟩
                    obtain ⟨pl2, hpll⟩ : ∃ l, Pth.partsL xj.to = l := ⟨_, rfl⟩
                    rw [htb, hpll] at KP
                    rw [hpll] at hpl
                    obtain ⟨np, hnp⟩ : ∃ n, pl2.length = n := ⟨_, rfl⟩
                    rw [hnp] at KP hpl
                    rw [htb, hpll] at Hnx
                    have Hnp := hide hnp
                    clear hk3 hc hjl hxj hpj hml hd ej0 ej8 hk3' hndj hto hin hno hlk8 h8 hnx htb hpll hnp KC
                    have HN : ∀ (B : Nat) (A4 : Option Addr) (c4 : Nat) (w4 : World), w4.ownsRow B 9 1 (.slice A4 (np + m) c4) (np + m) (pl2.map Value.string ++ rest.map Value.string) → Below w5.heap.size w5 w4 → AlS w F [] cr Ag ng kg lt (re, rn) M ⟨if tb2 = true then 0 else s.at_, s.links + 1, pl2 ++ rest⟩ A4 c4 w4 := by
                      intro B A4 c4 w4 ho4 hb4
                      have hS4 := (unhide HS2).below hb4
                      have hlen4 : (pl2 ++ rest).length = np + m := by rw [List.length_append, unhide Hnp, unhide Hm]
                      refine ⟨hS4.b, hS4.cb, ?_, ?_, h8', Nat.le_trans (Nat.le_of_lt (unhide Hnx).2) (unhide HS2).mu, (unhide Hnx).1, ?_⟩
                      · show Rd w4 w4.heap.size 1 A4 (pl2 ++ rest).length ((pl2 ++ rest).map Value.string)
                        rw [hlen4, List.map_append]
                        exact Rd.of_own ho4
                      · show (if tb2 = true then 0 else s.at_) < F.length
                        split
                        · exact Vf.good_pos (unhide HF)
                        · exact (unhide HS2).at_
                      · show (pl2 ++ rest).length ≤ c4
                        rw [hlen4]
                        exact own_cap ho4
                    have hlen4 : (pl2 ++ rest).length = np + m := by rw [List.length_append, unhide Hnp, unhide Hm]
                    have Hlen4 := hide hlen4
                    replace HN := hide HN
                    clear hlen4
                    rcases hpick with hq0 | ⟨hq0, rfl⟩ | ⟨hq0, rfl, rfl⟩
                    all_goals
                      go_wp2_with fail
                      refine (unhide HKC2).mono ?_
                      rintro e w6 ⟨rfl, rfl⟩
                      go_wp2_with fail
                      refine (unhide KP).mono ?_
                      rintro e w3 ⟨A3, c3, rfl, ho3, hb3⟩
                      have Hrd3 := hide (Rd.of_own ho3)
                      have Hb3 := hide hb3
                      have Hr3 := hide ((unhide Hrt).belowSz hb3)
                      clear ho3 hb3
                      cases tb2 with
                      | false =>
                        go_wp2_with (at_builtin; first | (refine wpList_app strTy rfl _ _ rfl w3.heap.size (.slice none 0 0) 0 [] rfl (World.ownsRow_nil _ _ _ _) w3.heap.size A3 np c3 _ rfl (unhide Hrd3) (strs_one _) (by omega) (Nat.le_refl _) ?_; intro A4 c4 w4 ho4 hg4 hat4; simp only [Nat.zero_add, List.nil_append] at ho4; have hb4 := (Below.refl w3.heap.size w3).grown hg4 (Nat.le_refl _) (fun k hk => by simp [Value.ownBlock] at hk); have Ho4 := hide ho4; have Hb4 := hide hb4; have Hr4 := hide ((unhide Hr3).belowSz hb4); simp only [Nat.zero_add]; clear ho4 hg4 hat4 hb4) | (refine wpList_app strTy rfl _ _ rfl w3.heap.size (.slice A4 np c4) np _ rfl (unhide Ho4) w4.heap.size A2' m (c1 - 1) _ rfl (unhide Hr4) (strs_one _) (by omega) (unhide Hb4).size ?_; intro A5 c5 w7 ho5 hg5 hat5; have hb6 := (unhide Hb4).grown hg5 (unhide Hb4).size (fun k hk => ((unhide Ho4).lt k hk).1); have Ho5 := hide ho5; have Hb6 := hide hb6; clear ho5 hg5 hat5 hb6))
                        have hN4 := (unhide HN) _ A5 c5 w7 (unhide Ho5) ((unhide Hb3).trans ((unhide Hb6).mono (unhide Hb3).size))
                        simp only [Bool.false_eq_true, if_false] at hN4
                        go_roundg (Vf.mu ⟨s.at_, s.links + 1, pl2 ++ rest⟩)
                        case rel => exact ⟨⟨s.at_, s.links + 1, pl2 ++ rest⟩, A5, c5, rfl, by rw [unhide Hlen4], rfl, rfl, hN4⟩
                        case measure => rw [unhide Hgk]; exact (unhide Hnx).2
                      | true =>
                        go_wp2_with (at_builtin; first | (refine wpList_app strTy rfl _ _ rfl w3.heap.size (.slice none 0 0) 0 [] rfl (World.ownsRow_nil _ _ _ _) w3.heap.size A3 np c3 _ rfl (unhide Hrd3) (strs_one _) (by omega) (Nat.le_refl _) ?_; intro A4 c4 w4 ho4 hg4 hat4; simp only [Nat.zero_add, List.nil_append] at ho4; have hb4 := (Below.refl w3.heap.size w3).grown hg4 (Nat.le_refl _) (fun k hk => by simp [Value.ownBlock] at hk); have Ho4 := hide ho4; have Hb4 := hide hb4; have Hr4 := hide ((unhide Hr3).belowSz hb4); simp only [Nat.zero_add]; clear ho4 hg4 hat4 hb4) | (refine wpList_app strTy rfl _ _ rfl w3.heap.size (.slice A4 np c4) np _ rfl (unhide Ho4) w4.heap.size A2' m (c1 - 1) _ rfl (unhide Hr4) (strs_one _) (by omega) (unhide Hb4).size ?_; intro A5 c5 w7 ho5 hg5 hat5; have hb6 := (unhide Hb4).grown hg5 (unhide Hb4).size (fun k hk => ((unhide Ho4).lt k hk).1); have Ho5 := hide ho5; have Hb6 := hide hb6; clear ho5 hg5 hat5 hb6))
                        have hN4 := (unhide HN) _ A5 c5 w7 (unhide Ho5) ((unhide Hb3).trans ((unhide Hb6).mono (unhide Hb3).size))
                        simp only [if_true] at hN4
                        go_roundg (Vf.mu ⟨0, s.links + 1, pl2 ++ rest⟩)
                        case rel => exact ⟨⟨0, s.links + 1, pl2 ++ rest⟩, A5, c5, rfl, by rw [unhide Hlen4], rfl, rfl, hN4⟩
                        case measure => rw [unhide Hgk]; exact (unhide Hnx).2
              · have q3 : ((xj.m.kind : Int) != 3) = true := by simp; omega
                have h3 := (unhide HIn) (.inl (by rw [Vf.kindAt_eq hxj]; exact hk3))
                have HN := hide h3.1
                have Hnx := hide h3.2
                clear h3 hk3 hc hjl hxj hpj hml hd ej0 ej8 KC
                go_wp2_with fail
                refine (unhide HKC2).mono ?_
                rintro e w6 ⟨rfl, rfl⟩
                go_wp2_with fail
                go_roundg (Vf.mu ⟨j, s.links, rest⟩)
                case rel => exact ⟨⟨j, s.links, rest⟩, A2', c1 - 1, rfl, by rw [unhide Hm], rfl, rfl, unhide HN⟩
                case measure => rw [unhide Hgk]; exact unhide Hnx
end Go.Proofs.Yteiciabhfjakgaa
namespace Go.Proofs.Yteiciabhfjakgaa
set_option linter.unusedVariables false
set_option linter.unusedSimpArgs false
open Go.RowKit

set_option maxRecDepth 100000 in
set_option maxHeartbeats 4000000 in
theorem vfsWalks_walk (l : List EntA) (A : Option Addr) (n c : Nat) (cr : Vf.Cred) (Ag : Option Addr) (ng kg : Nat) (src : Int) (path : ByteArray) (last : Bool) (w : World) (h : Rd w w.heap.size 7 A n (rowCs entVals l)) (hl : l.length = n) (hnc : n ≤ c) (hcm : c ≤ maxLen) (hin : ∀ s ∈ l, EntIn w s)
    (hg : Rd w w.heap.size 1 Ag ng (cr.groups.map u32v)) (hgk : ng ≤ kg) (hgm : kg ≤ maxLen) (hp : path.size ≤ maxLen) :
    Calls Try.prog 4 #[.slice A n c, credV cr Ag ng kg, .agg #[.int .i64 src, .string path, .bool last]] w fun e w' => e = .returned (.bool true) ∧ Below w.heap.size w w' := by
  have S0 := hide (WyS.start w cr Ag ng kg src path last)
  have KL := hide (large_any l A n c w.heap.size _ (h.below (unhide S0).bel) hl (Nat.le_trans hnc hcm) (fun s hs => ⟨(hin s hs).p, Nat.le_trans (hin s hs).nc (hin s hs).c, (hin s hs).t⟩))
  have KS := hide (fun w' => small_any cr Ag ng kg path w')
  have KW := hide (fun w' => works_any w')
  obtain ⟨sb, hsb⟩ : ∃ b, (decide (ng ≤ 1024) && decide (path.size ≤ 4096)) = b := ⟨_, rfl⟩
  rw [hsb] at KS
  have Hsb := hide hsb
  have H := hide h
  have Hin := hide hin
  have Hg := hide hg
  have Hl := hide hl
  unfold credV at KS ⊢
  clear hsb h hin hg hl
  go_enter Try.func4, Try.ntmps4
  go_wp2_with fail
  refine (unhide KL).mono ?_
  rintro e w1 ⟨lb, q, rfl, hlb, rfl⟩
  have S1 := hide ((unhide S0).drewN q)
  have Hlb := hide hlb
  clear hlb S0 KL
  generalize ((w.alloc (.cells #[.int .u32 (cr.uid : Nat), .int .u32 (cr.euid : Nat), .int .u32 (cr.suid : Nat), .int .u32 (cr.gid : Nat), .slice Ag ng kg] 44)).alloc (.cells #[.int .i64 src, .string path, .bool last] 46)).drewN q = W1 at *
  obtain ⟨⟨v0, v1, v2, v3, v4⟩, y0, y1, y2⟩ := (unhide S1).cells
  cases lb with
  | true =>
    go_wp2_with fail
    refine ((unhide KW) _).mono ?_
    rintro e w2 ⟨rfl, hb2⟩
    have S2 := hide ((unhide S1).below hb2)
    clear hb2
    go_wp2_with fail
    go_ret
    exact ⟨rfl, (unhide S2).bel⟩
  | false =>
  go_wp2_with fail
  refine ((unhide KS) _).mono ?_
  rintro e w2 ⟨rfl, hb2⟩
  have S2 := hide ((unhide S1).below hb2)
  clear hb2 S1 v0 v1 v2 v3 v4 y0 y1 y2
  cases sb with
  | false =>
    go_wp2_with fail
    refine ((unhide KW) _).mono ?_
    rintro e w3 ⟨rfl, hb3⟩
    have S3 := hide ((unhide S2).below hb3)
    clear hb3
    go_wp2_with fail
    go_ret
    exact ⟨rfl, (unhide S3).bel⟩
  | true =>
  obtain ⟨hn26, hall⟩ := (unhide Hlb) (by first | rfl | trivial)
  have hfit := esFit_of (unhide Hin) hall
  have KM := made_any l A n c w2 ((unhide H).belowSz (unhide S2).bel) (unhide Hl) (fun s hs => ⟨((unhide Hin) s hs).d.belowSz (unhide S2).bel, by have := (hall s hs).2.1; omega, by have := (hall s hs).1; omega, by have := (hall s hs).2.2; omega, ((unhide Hin) s hs).m⟩) hfit hn26
  have HKM := hide KM
  clear KM hall hfit Hlb
  go_wp2_with fail
  refine (unhide HKM).mono ?_
  rintro e w4 ⟨hb4, fo, go, lo, hi, rfl, hlo, hhi, hFo, hGo⟩
  have S4 := hide ((unhide S2).below hb4)
  clear hb4 HKM S2
  rcases hFo with ⟨hne, rfl⟩ | ⟨hne, f, Af, cf, L, rfl, hFS, hF, hFl, h64⟩
  · rcases hGo with ⟨_, rfl⟩ | ⟨h0, _⟩
    case inr => exact absurd h0 hne
    clear hne hlo hhi
    go_wp2_with fail
    refine ((unhide KW) _).mono ?_
    rintro e w5 ⟨rfl, hb5⟩
    have S5 := hide ((unhide S4).below hb5)
    clear hb5
    go_wp2_with fail
    go_ret
    exact ⟨rfl, (unhide S5).bel⟩
  · rcases hGo with ⟨h0, _⟩ | ⟨_, g, Ag2, cg2, ls, rfl, hGS, hG, _, _⟩
    case inl => exact absurd hne h0
    obtain ⟨F, hFe⟩ : ∃ F, (Vf.new (l.map (·.e))).2.2 = F := ⟨_, rfl⟩
    rw [hFe] at hFS hF hFl hGS hG
    have hn65 : F.length ≤ 65 := by rw [hFl]; omega
    have hpath : path.size ≤ 4096 ∧ ng ≤ 1024 := by
      have := unhide Hsb
      simp only [Bool.and_eq_true, decide_eq_true_eq] at this
      exact ⟨this.2, this.1⟩
    have KCp : ∀ w', Below w4.heap.size w4 w' → Calls Try.prog 22 #[.agg #[.int .u32 (cr.uid : Nat), .int .u32 (cr.euid : Nat), .int .u32 (cr.suid : Nat), .int .u32 (cr.gid : Nat), .slice Ag ng kg]] w' fun e w5 => ∃ A' k', e = .returned (.agg #[.int .u32 (cr.uid : Nat), .int .u32 (cr.euid : Nat), .int .u32 (cr.suid : Nat), .int .u32 (cr.gid : Nat), .slice A' ng k']) ∧ Rd w5 w5.heap.size 1 A' ng (cr.groups.map u32v) ∧ Below w'.heap.size w' w5 :=
      fun w' hb => copyCred_any cr Ag ng kg w.heap.size w' ((unhide Hg).below ((unhide S4).bel.trans (hb.mono (unhide S4).bel.size))) (Nat.le_trans (unhide S4).bel.size hb.size) (by omega)
    have KWk : ∀ w', Below w4.heap.size w4 w' → ∀ (A' : Option Addr) (k' : Nat), Rd w' w'.heap.size 1 A' ng (cr.groups.map u32v) → Calls Try.prog 21 #[.pointer (some ⟨f, 0, none⟩), .agg #[.int .u32 (cr.uid : Nat), .int .u32 (cr.euid : Nat), .int .u32 (cr.suid : Nat), .int .u32 (cr.gid : Nat), .slice A' ng k'], .int .i64 src, .string path, .bool last] w' fun e w5 => e = .returned (.tuple #[.int .i64 ((Vf.walk F cr src path last).1 : Nat), .int .i64 (Vf.walk F cr src path last).2]) ∧ Below w'.heap.size w' w5 :=
      fun w' hb A' k' hr => walk_any F L _ f cf Af A' ng k' cr src path last w' hF (hFS.belowSz hb) hn65 hr (by unfold maxLen; omega) (by omega)
    have KRz : ∀ w', Below w4.heap.size w4 w' → Calls Try.prog 23 #[.pointer (some ⟨g, 0, none⟩), .agg #[.int .u32 (cr.uid : Nat), .int .u32 (cr.euid : Nat), .int .u32 (cr.suid : Nat), .int .u32 (cr.gid : Nat), .slice Ag ng kg], .int .i64 src, .string path, .bool last] w' fun e w5 => e = .returned (.tuple #[.int .i64 ((Vf.walk F cr src path last).1 : Nat), .int .i64 (Vf.walk F cr src path last).2]) ∧ Below w'.heap.size w' w5 :=
      fun w' hb => rwalk_any F ls _ g cg2 Ag2 Ag ng kg cr src path last w' hG (hGS.keep (fun k _ hk => hb.block k hk)) hn65 (((unhide Hg).below ((unhide S4).bel.trans (hb.mono (unhide S4).bel.size))).more (Nat.le_trans (unhide S4).bel.size hb.size)) (by unfold maxLen; omega) (by omega)
    obtain ⟨⟨n1, e1⟩, hw1⟩ : ∃ r, Vf.walk F cr src path last = r := ⟨_, rfl⟩
    rw [hw1] at KWk KRz
    dsimp only at KWk KRz
    have HSK : ∀ w', Below w4.heap.size w4 w' → (Below w4.heap.size w4 w' ∧ w'.cell? ⟨w.heap.size, 0, none⟩ = some (.int .u32 (cr.uid : Nat)) ∧ w'.cell? ⟨w.heap.size, 1, none⟩ = some (.int .u32 (cr.euid : Nat)) ∧ w'.cell? ⟨w.heap.size, 2, none⟩ = some (.int .u32 (cr.suid : Nat)) ∧ w'.cell? ⟨w.heap.size, 3, none⟩ = some (.int .u32 (cr.gid : Nat)) ∧ w'.cell? ⟨w.heap.size, 4, none⟩ = some (.slice Ag ng kg) ∧ w'.cell? ⟨w.heap.size + 1, 0, none⟩ = some (.int .i64 src) ∧ w'.cell? ⟨w.heap.size + 1, 1, none⟩ = some (.string path) ∧ w'.cell? ⟨w.heap.size + 1, 2, none⟩ = some (.bool last)) := by
      intro w' hb
      obtain ⟨⟨a0, a1, a2, a3, a4⟩, b0, b1, b2⟩ := ((unhide S4).below hb).cells
      exact ⟨hb, a0, a1, a2, a3, a4, b0, b1, b2⟩
    have HKCp := hide KCp
    have HKWk := hide KWk
    have HKRz := hide KRz
    have HSK' := hide HSK
    obtain ⟨-, v0, v1, v2, v3, v4, y0, y1, y2⟩ := HSK w4 (Below.refl _ _)
    clear KCp KWk KRz HSK hw1 hFS hF hFl hGS hG h64 hne hFe hlo hhi
    go_wp2_with fail
    go_region_held3 (fun w' => Below w4.heap.size w4 w' ∧ w'.cell? ⟨w.heap.size, 0, none⟩ = some (.int .u32 (cr.uid : Nat)) ∧ w'.cell? ⟨w.heap.size, 1, none⟩ = some (.int .u32 (cr.euid : Nat)) ∧ w'.cell? ⟨w.heap.size, 2, none⟩ = some (.int .u32 (cr.suid : Nat)) ∧ w'.cell? ⟨w.heap.size, 3, none⟩ = some (.int .u32 (cr.gid : Nat)) ∧ w'.cell? ⟨w.heap.size, 4, none⟩ = some (.slice Ag ng kg) ∧ w'.cell? ⟨w.heap.size + 1, 0, none⟩ = some (.int .i64 src) ∧ w'.cell? ⟨w.heap.size + 1, 1, none⟩ = some (.string path) ∧ w'.cell? ⟨w.heap.size + 1, 2, none⟩ = some (.bool last)) (first | exact (unhide HSK') _ (below_drew' (Below.refl _ _)) | exact (unhide HSK') _ (unhide hbn)) (first
      | (go_at_call 22; rename Below _ _ _ ∧ _ => hH; refine ((unhide HKCp) _ hH.1).mono ?_; rintro e w5 ⟨A5, k5, rfl, hr5, hb5⟩; have hbn := hide (hH.1.trans (hb5.mono hH.1.size)); have Hr5 := hide hr5; clear hb5 hr5)
      | (go_at_call 21; rename Below _ _ _ ∧ _ => hH; refine ((unhide HKWk) _ hH.1 _ _ (unhide Hr5)).mono ?_; rintro e w6 ⟨rfl, hb6⟩; have hbn := hide (hH.1.trans (hb6.mono hH.1.size)); clear hb6))
    have S6 := hide ((unhide S4).below (unhide hbn))
    clear v0 v1 v2 v3 v4 y0 y1 y2
    obtain ⟨⟨v0, v1, v2, v3, v4⟩, y0, y1, y2⟩ := (unhide S6).cells
    go_wp2_with fail
    refine ((unhide HKRz) _ (unhide hbn)).mono ?_
    rintro e w7 ⟨rfl, hb7⟩
    have S7 := hide ((unhide S6).below hb7)
    clear hb7 y0 y1 y2 v0 v1 v2 v3 v4 HKCp HKWk HKRz HSK'
    have r1 : (((n1 : Nat) : Int) == ((n1 : Nat) : Int)) = true := beq_self_eq_true _
    have r2 : (e1 == e1) = true := beq_self_eq_true _
    go_wp2_with fail
    refine ((unhide KW) _).mono ?_
    rintro e w8 ⟨rfl, hb8⟩
    have Hb8 := hide ((unhide S7).below hb8).bel
    clear hb8
    go_wp2_with fail
    go_ret
    exact ⟨rfl, unhide Hb8⟩
end Go.Proofs.Yteiciabhfjakgaa
namespace Go.Proofs.Yteiciabhfjakgaa
set_option linter.unusedVariables false
set_option linter.unusedSimpArgs false
open Go.RowKit

set_option maxRecDepth 100000 in
set_option maxHeartbeats 4000000 in
theorem rmeta_any (F : List Vf.Nd) (ls : List RPl) (base g c : Nat) (A : Option Addr) (ino : Int) (w : World) (h : RFs w base g A c F ls) (hn : F.length ≤ 65) (h0 : 0 < F.length) :
    Calls Try.prog 14 #[.pointer (some ⟨g, 0, none⟩), .int .i64 ino] w fun e w' => e = .returned (.tuple #[metaV (Vf.metaOf F ino).1, .int .i64 (Vf.metaOf F ino).2]) ∧ Below w.heap.size w w' := by
  have hb0 : Below w.heap.size w (w.alloc (.cells #[.int .u8 0, .int .u16 0, .int .u32 0, .int .u32 0, .int .i64 0] 32)) := (Below.refl _ _).alloc (Nat.le_refl _) _
  have h1 := h.belowSz hb0
  obtain ⟨b1, o1, hA, _, hc⟩ := h1.cells h0
  have v0 := h1.fs.cell (i := 0) rfl
  obtain ⟨n, hfn⟩ : ∃ n, F.length = n := ⟨_, rfl⟩
  rw [hfn] at v0 hn
  subst hA
  have HB := hide hb0
  obtain ⟨⟨rm, re⟩, hr⟩ : ∃ r, Vf.metaOf F ino = r := ⟨_, rfl⟩
  rw [hr]
  dsimp only
  have Hr := hide hr
  have H1 := hide h1
  clear hr h hb0 h0 h1
  by_cases hneg : ino < 0
  · obtain ⟨rfl, rfl⟩ := Prod.mk.inj ((unhide Hr).symm.trans (show Vf.metaOf F ino = (Vf.zeroMeta, 3) by unfold Vf.metaOf; rw [if_pos (.inl hneg)]))
    clear hc
    go_enter Try.func14, Try.ntmps14
    go_wp2_with fail
    refine bodyPost_ret (results_cell_tmp (P := Try.prog) rfl _ _ w.heap.size 32 #[.int .u8 0, .int .u16 0, .int .u32 0, .int .u32 0, .int .i64 0] (0, 0) _ rfl (heap_alloc_new _ _) Try.underlying32 rfl metaInfo) rfl ?_
    exact ⟨rfl, unhide HB⟩
  · obtain ⟨i, rfl⟩ := Int.eq_ofNat_of_zero_le (show 0 ≤ ino by omega)
    have i0 : ¬ (i : Int) < 0 := by omega
    by_cases hlt : i < n
    · obtain ⟨x, hx⟩ : ∃ x, F[i]? = some x := ⟨_, List.getElem?_eq_getElem (by rw [hfn]; exact hlt)⟩
      obtain ⟨p, hp, _⟩ := (unhide H1).at_ hx
      have e0 := hc i x p hx hp 0 _ rfl
      have e1 := hc i x p hx hp 1 _ rfl
      have e2 := hc i x p hx hp 2 _ rfl
      have e3 := hc i x p hx hp 3 _ rfl
      have e4 := hc i x p hx hp 4 _ rfl
      rw [Nat.add_zero] at e0
      simp only [← Nat.add_assoc] at e1 e2 e3 e4
      have i1 : (i : Int) < (n : Int) := by omega
      have i2 : ¬ (n : Int) ≤ (i : Int) := by omega
      obtain ⟨rfl, rfl⟩ := Prod.mk.inj ((unhide Hr).symm.trans (show Vf.metaOf F (i : Nat) = (x.m, 0) by unfold Vf.metaOf; rw [if_neg (by rw [hfn]; simp; omega), Int.toNat_natCast, Vf.nd_eq hx]))
      clear hc hx hp
      go_enter Try.func14, Try.ntmps14
      go_wp2_with fail
      refine bodyPost_ret (results_cell_tmp (P := Try.prog) rfl _ _ w.heap.size 32 #[.int .u8 (x.m.kind : Nat), .int .u16 (x.m.mode : Nat), .int .u32 (x.m.uid : Nat), .int .u32 (x.m.gid : Nat), .int .i64 (x.m.size : Nat)] (0, 0) _ rfl (heap_alloc_new _ _) Try.underlying32 rfl metaInfo) rfl ?_
      exact ⟨rfl, (Below.refl w.heap.size w).alloc (Nat.le_refl _) _⟩
    · have i1 : ¬ (i : Int) < (n : Int) := by omega
      have i2 : (n : Int) ≤ (i : Int) := by omega
      obtain ⟨rfl, rfl⟩ := Prod.mk.inj ((unhide Hr).symm.trans (show Vf.metaOf F (i : Nat) = (Vf.zeroMeta, 3) by unfold Vf.metaOf; rw [if_pos (.inr (by rw [hfn]; simp; omega))]))
      clear hc
      go_enter Try.func14, Try.ntmps14
      go_wp2_with fail
      refine bodyPost_ret (results_cell_tmp (P := Try.prog) rfl _ _ w.heap.size 32 #[.int .u8 0, .int .u16 0, .int .u32 0, .int .u32 0, .int .i64 0] (0, 0) _ rfl (heap_alloc_new _ _) Try.underlying32 rfl metaInfo) rfl ?_
      exact ⟨rfl, unhide HB⟩
end Go.Proofs.Yteiciabhfjakgaa
namespace Go.Proofs.Yteiciabhfjakgaa
set_option linter.unusedVariables false
set_option linter.unusedSimpArgs false
open Go.RowKit

set_option maxRecDepth 100000 in
set_option maxHeartbeats 4000000 in
theorem rread_any (F : List Vf.Nd) (ls : List RPl) (base g c : Nat) (A : Option Addr) (ino off n : Int) (w : World) (hF : Vf.Good F) (h : RFs w base g A c F ls) (hn : F.length ≤ 65) (hbs : base ≤ w.heap.size) :
    Calls Try.prog 16 #[.pointer (some ⟨g, 0, none⟩), .int .i64 ino, .int .i64 off, .int .i64 n] w (ReadVE F ino off n w) := by
  have h0 := Vf.good_pos hF
  have KM := rmeta_any F ls base g c A ino w h hn h0
  unfold metaV at KM
  obtain ⟨⟨⟨mk, mm, mu, mg, ms⟩, me⟩, hm⟩ : ∃ r, Vf.metaOf F ino = r := ⟨_, rfl⟩
  rw [hm] at KM
  dsimp only at KM
  have HKM := hide KM
  have HF := hide hF
  have H := hide h
  have Hm := hide hm
  clear KM hF h hm
  go_enter Try.func16, Try.ntmps16
  go_wp2_with fail
  refine (unhide HKM).mono ?_
  rintro e w1 ⟨rfl, hb1⟩
  have hb2 := (unhide (hide hb1)).alloc hb1.size (.cells #[.int .u8 (mk : Nat), .int .u16 (mm : Nat), .int .u32 (mu : Nat), .int .u32 (mg : Nat), .int .i64 (ms : Nat)] 32)
  have Hb2 := hide hb2
  clear hb1 hb2
  by_cases hme : me = 0
  case neg =>
    have hre : Vf.readOf F ino off n = ([], me) := by
      unfold Vf.readOf
      rw [unhide Hm]
      simp [hme]
    have q0 : (me != 0) = true := by simp [hme]
    have Hre := hide hre
    clear hre hme
    go_wp2_with fail
    go_ret2
    exact readVE_nil (unhide Hre) (unhide Hb2)
  subst hme
  have hre : Vf.readOf F ino off n = if mk = 2 then ([], 9) else if mk = 3 ∨ off < 0 ∨ n < 0 then ([], 1) else (((Vf.nd F ino.toNat).data.drop off.toNat).take n.toNat, 0) := by
    unfold Vf.readOf
    rw [unhide Hm]
    simp
  have q0 : ((0 : Int) != 0) = false := rfl
  obtain ⟨i, hio, x, hx, hmx⟩ : ∃ i : Nat, ino = (i : Int) ∧ ∃ x, F[i]? = some x ∧ (⟨mk, mm, mu, mg, ms⟩ : Vf.Meta) = x.m := by
    have h := unhide Hm
    unfold Vf.metaOf at h
    split at h
    · injection h with _ h2; cases h2
    · next ho =>
      obtain ⟨i, rfl⟩ := Int.eq_ofNat_of_zero_le (show 0 ≤ ino by omega)
      have hi : i < F.length := by simp at ho; omega
      refine ⟨i, rfl, F[i], List.getElem?_eq_getElem hi, ?_⟩
      injection h with h1 _
      rw [Int.toNat_natCast, Vf.nd_eq (List.getElem?_eq_getElem hi)] at h1
      exact h1.symm
  subst hio
  by_cases h2 : mk = 2
  · have b1 : (((mk : Nat) : Int) == 2) = true := by rw [h2]; rfl
    rw [if_pos h2] at hre
    have Hre := hide hre
    clear hre hmx hx h2
    go_wp2_with fail
    go_ret2
    exact readVE_nil (unhide Hre) (unhide Hb2)
  have b1 : (((mk : Nat) : Int) == 2) = false := by rw [beq_eq_false_iff_ne]; omega
  rw [if_neg h2] at hre
  by_cases h3 : mk = 3 ∨ off < 0 ∨ n < 0
  · rw [if_pos h3] at hre
    have Hre := hide hre
    have hon : (((mk : Nat) : Int) == 3) = true ∨ ((((mk : Nat) : Int) == 3) = false ∧ off < 0) ∨ ((((mk : Nat) : Int) == 3) = false ∧ ¬ off < 0 ∧ n < 0) := by
      by_cases a : mk = 3
      · exact .inl (by rw [a]; rfl)
      · have b : (((mk : Nat) : Int) == 3) = false := by rw [beq_eq_false_iff_ne]; omega
        by_cases a2 : off < 0
        · exact .inr (.inl ⟨b, a2⟩)
        · exact .inr (.inr ⟨b, a2, by omega⟩)
    clear hre hmx hx h2 h3
    rcases hon with o1 | ⟨o1, o2⟩ | ⟨o1, o2, o3⟩
    all_goals
      go_wp2_with fail
      go_ret2
      exact readVE_nil (unhide Hre) (unhide Hb2)
  rw [if_neg h3] at hre
  have b3 : (((mk : Nat) : Int) == 3) = false := by rw [beq_eq_false_iff_ne]; omega
  have hon1 : ¬ off < 0 := by omega
  have hon2 : ¬ n < 0 := by omega
  obtain ⟨p, hp, _⟩ := (unhide H).at_ hx
  have hHW := ((unhide H).belowSz (unhide Hb2))
  obtain ⟨bb, ob, hA, _, hc⟩ := hHW.cells h0
  have v0 := hHW.fs.cell (i := 0) rfl
  have hdat := hHW.dat i x p hx hp
  have e7 := hc i x p hx hp 7 _ rfl
  simp only [← Nat.add_assoc] at e7
  obtain ⟨fl, hfn⟩ : ∃ n, F.length = n := ⟨_, rfl⟩
  rw [hfn] at v0
  have hil : i < fl := by rw [← hfn]; exact (List.getElem?_eq_some_iff.1 hx).1
  have j0 : ¬ (i : Int) < 0 := by omega
  have j1 : (i : Int) < (fl : Int) := by omega
  subst hA
  rw [Int.toNat_natCast, Vf.nd_eq hx] at hre
  have hsz := ((unhide HF).size i x hx).2.2
  obtain ⟨o, rfl⟩ := Int.eq_ofNat_of_zero_le (show 0 ≤ off by omega)
  obtain ⟨m, rfl⟩ := Int.eq_ofNat_of_zero_le (show 0 ≤ n by omega)
  simp only [Int.toNat_natCast] at hre
  have hrd := Rd.of_own hdat
  have hpc := own_cap hdat
  have hpn : x.data.length = p.n := by simpa [bys] using hrd.len1
  by_cases hop : p.n ≤ o
  · have g1 : (p.n : Int) ≤ (o : Int) := by omega
    rw [List.drop_of_length_le (by omega), List.take_nil] at hre
    have Hre := hide hre
    clear hre hmx hx hp h2 h3 hHW hc hdat hrd hpc hpn hsz hop hfn hil
    go_wp2_with fail
    go_ret2
    exact readVE_nil (unhide Hre) (unhide Hb2)
  have g1 : ¬ (p.n : Int) ≤ (o : Int) := by omega
  obtain ⟨q, hq⟩ : ∃ q, p.n - o = q := ⟨_, rfl⟩
  obtain ⟨cq, hcq⟩ : ∃ q, p.c - o = q := ⟨_, rfl⟩
  have r1 := fun w' => run_from (P := Try.prog) Try.underlying36 (e := 5) (by kernel_rfl) p.A p.n p.c o (by omega) w'
  have hrd2 := hrd.from_ (k := o) (by omega) hpc
  obtain ⟨A3, hA3⟩ : ∃ A3, fromA p.A p.c o = A3 := ⟨_, rfl⟩
  rw [hq, hcq, hA3] at r1
  rw [hq, hA3] at hrd2
  have hbd : (bys x.data).drop o = bys (x.data.drop o) := by unfold bys; rw [← List.map_drop]
  rw [hbd] at hrd2
  by_cases hmq : m < q
  · have g2 : (m : Int) < (q : Int) := by omega
    have r2 := fun w' => run_to (P := Try.prog) Try.underlying36 (e := 5) (by kernel_rfl) A3 q cq m (by omega) w'
    have hrd3 := hrd2.to_ (k := m) (by omega)
    have hbt : (bys (x.data.drop o)).take m = bys ((x.data.drop o).take m) := by unfold bys; rw [← List.map_take]
    rw [hbt] at hrd3
    have hdl : ((x.data.drop o).take m).length = m := by rw [List.length_take, List.length_drop]; omega
    have KC := copyBytes_any A3 m cq _ ((x.data.drop o).take m) _ (Nat.le_refl _) hrd3 (by omega)
    have HKC := hide KC
    have Hdl := hide hdl
    have Hre := hide hre
    clear hre hmx hx hp h2 h3 hHW hc hdat hrd hpc hpn hsz hop hfn hil hq hcq hA3 hrd2 hbd hmq hrd3 hbt hdl KC
    go_wp2_with fail
    refine (unhide HKC).mono ?_
    rintro e w4 ⟨A5, c5, rfl, ho5, hb5⟩
    have hb6 := (unhide Hb2).trans (hb5.mono (unhide Hb2).size)
    have ho6 := own_base ho5 (unhide Hb2).size
    have Hb6 := hide hb6
    have Ho6 := hide ho6
    clear hb5 ho5 hb6 ho6
    go_wp2_with fail
    go_ret2
    unfold ReadVE
    rw [unhide Hre]
    dsimp only
    rw [unhide Hdl]
    exact ⟨A5, c5, rfl, unhide Ho6, unhide Hb6⟩
  · have g2 : ¬ (m : Int) < (q : Int) := by omega
    have hdl : (x.data.drop o).length = q := by rw [List.length_drop]; omega
    rw [List.take_of_length_le (by omega)] at hre
    have KC := copyBytes_any A3 q cq _ (x.data.drop o) _ (Nat.le_refl _) hrd2 (by omega)
    have HKC := hide KC
    have Hdl := hide hdl
    have Hre := hide hre
    clear hre hmx hx hp h2 h3 hHW hc hdat hrd hpc hpn hsz hop hfn hil hq hcq hA3 hrd2 hbd hmq hdl KC
    go_wp2_with fail
    refine (unhide HKC).mono ?_
    rintro e w4 ⟨A5, c5, rfl, ho5, hb5⟩
    have hb6 := (unhide Hb2).trans (hb5.mono (unhide Hb2).size)
    have ho6 := own_base ho5 (unhide Hb2).size
    have Hb6 := hide hb6
    have Ho6 := hide ho6
    clear hb5 ho5 hb6 ho6
    go_wp2_with fail
    go_ret2
    unfold ReadVE
    rw [unhide Hre]
    dsimp only
    rw [unhide Hdl]
    exact ⟨A5, c5, rfl, unhide Ho6, unhide Hb6⟩
end Go.Proofs.Yteiciabhfjakgaa
namespace Go.Proofs.Yteiciabhfjakgaa
set_option linter.unusedVariables false
set_option linter.unusedSimpArgs false
open Go.RowKit

theorem slashed_size (l : List ByteArray) (h : ∀ x ∈ l, x.size ≤ 32) : (Vf.slashed l).size ≤ l.length * 33 := by
  induction l with
  | nil => exact Nat.zero_le _
  | cons x r ih =>
    have h1 := ih (fun y hy => h y (List.mem_cons_of_mem _ hy))
    have h2 := h x (List.mem_cons_self ..)
    show (⟨#[47]⟩ ++ x ++ Vf.slashed r : ByteArray).size ≤ _
    rw [ByteArray.size_append, ByteArray.size_append]
    have h3 : (⟨#[47]⟩ : ByteArray).size = 1 := rfl
    rw [h3, List.length_cons]
    omega
set_option maxRecDepth 100000 in
set_option maxHeartbeats 4000000 in
theorem rpath_any (F : List Vf.Nd) (ls : List RPl) (base g c : Nat) (A : Option Addr) (ino : Int) (w : World) (hF : Vf.Good F) (h : RFs w base g A c F ls) (hn : F.length ≤ 65) :
    Calls Try.prog 19 #[.pointer (some ⟨g, 0, none⟩), .int .i64 ino] w fun e w' => e = .returned (.string (Vf.pathOf F ino)) ∧ w = w' := by
  have h0 := Vf.good_pos hF
  obtain ⟨b1, o1, hA, _, hc⟩ := h.cells h0
  have v0 := h.fs.cell (i := 0) rfl
  obtain ⟨n, hfn⟩ : ∃ n, F.length = n := ⟨_, rfl⟩
  rw [hfn] at v0 hn
  subst hA
  obtain ⟨r, hr⟩ : ∃ r, Vf.pathOf F ino = r := ⟨_, rfl⟩
  rw [hr]
  have Hr := hide hr
  have Hc := hide hc
  have HF := hide hF
  have H := hide h
  have Hfn := hide hfn
  clear hr hc hF h h0 hfn
  by_cases hneg : ino < 0
  · have e2 : r = ⟨#[]⟩ := by rw [← unhide Hr]; exact Vf.pathOf_out (.inl hneg)
    clear Hr
    subst e2
    go_enter Try.func19, Try.ntmps19
    go_wp2_with fail
    go_ret
    exact ⟨rfl, rfl⟩
  obtain ⟨i0, rfl⟩ := Int.eq_ofNat_of_zero_le (show 0 ≤ ino by omega)
  have j0 : ¬ (i0 : Int) < 0 := by omega
  by_cases hlt : i0 < n
  case neg =>
    have e2 : r = ⟨#[]⟩ := by rw [← unhide Hr]; exact Vf.pathOf_out (.inr (by rw [unhide Hfn]; simp; omega))
    clear Hr
    subst e2
    have j1 : (n : Int) ≤ (i0 : Int) := by omega
    go_enter Try.func19, Try.ntmps19
    go_wp2_with fail
    go_ret
    exact ⟨rfl, rfl⟩
  have j1 : ¬ (n : Int) ≤ (i0 : Int) := by omega
  have e2 := Vf.pathOf_in (unhide HF) (show i0 < F.length by rw [unhide Hfn]; exact hlt)
  rw [unhide Hr] at e2
  have He2 := hide e2
  have Hlt := hide hlt
  clear e2 hlt
  go_enter Try.func19, Try.ntmps19
  go_wp2_with fail
  go_loopg [5, 6] i0 (fun gk sv nv wr => ∃ acc : List ByteArray, gk < n ∧ nv = .int .i64 (gk : Nat) ∧ sv = .string (Vf.slashed acc) ∧ Vf.nmsP F i0 = Vf.nmsP F gk ++ acc ∧ acc.length + gk ≤ i0 ∧ w = wr)
  case atStart => exact ⟨[], unhide Hlt, rfl, rfl, by simp, by simp, rfl⟩
  case round =>
  obtain ⟨acc, hgl, rfl, rfl, hnm, hal, rfl⟩ := hrel
  have hszs := (Vf.nmsP_sz (unhide HF) i0 (by rw [unhide Hfn]; exact unhide Hlt)).1
  have hss := slashed_size acc (fun x hx => hszs x (by rw [hnm]; exact List.mem_append_right _ hx))
  have hal2 : acc.length ≤ 65 := by have := unhide Hlt; omega
  obtain ⟨sv, hsv⟩ : ∃ s, Vf.slashed acc = s := ⟨_, rfl⟩
  rw [hsv] at hss ⊢
  have hs1 : sv.size ≤ 2145 := by omega
  have Hnm := hide hnm
  have Hal := hide hal
  have Hsv := hide hsv
  have Hgl := hide hgl
  by_cases hz : gk = 0
  · subst hz
    have q0 : (((0 : Nat) : Int) != 0) = false := rfl
    have hnm0 := hnm
    rw [Vf.nmsP_zero, List.nil_append] at hnm0
    by_cases hi0 : i0 = 0
    · have hacc : acc = [] := by rw [← hnm0, hi0]; rfl
      have hsv0 : sv = ⟨#[]⟩ := by rw [← hsv, hacc]; rfl
      have hr0 : r = ⟨#[47]⟩ := by rw [unhide He2, if_pos hi0]
      clear hnm hal hsv hgl hszs hss hnm0 hi0 hacc Hsv
      subst hsv0
      clear He2 Hr
      subst hr0
      go_wp2_with fail
      go_ret
      exact ⟨rfl, rfl⟩
    · have hne : acc ≠ [] := by
        rw [← hnm0]
        exact Vf.nmsP_ne (unhide HF) (by rw [unhide Hfn]; exact unhide Hlt) (by omega)
      have hr0 : r = sv := by rw [unhide He2, if_neg hi0, hnm0, hsv]
      have hq : (sv.toList == []) = false := by
        have h := beq_toList sv ⟨#[]⟩
        have e : (⟨#[]⟩ : ByteArray).toList = [] := by rw [Lib.toList_data]
        rw [e] at h
        rw [h]
        refine decide_eq_false ?_
        rintro rfl
        cases acc with
        | nil => exact hne rfl
        | cons x rr =>
          have h1 : (⟨#[47]⟩ ++ x ++ Vf.slashed rr : ByteArray) = ⟨#[]⟩ := hsv
          have h2 := congrArg ByteArray.size h1
          rw [ByteArray.size_append, ByteArray.size_append] at h2
          have h3 : (⟨#[47]⟩ : ByteArray).size = 1 := rfl
          have h4 : (⟨#[]⟩ : ByteArray).size = 0 := rfl
          omega
      clear hnm hal hsv hgl hszs hss hnm0 hi0 hne He2 Hr
      subst hr0
      go_wp2_with fail
      go_ret
      exact ⟨rfl, rfl⟩
  · have q0 : (((gk : Nat) : Int) != 0) = true := by simp; omega
    obtain ⟨x, hx⟩ : ∃ x, F[gk]? = some x := ⟨_, List.getElem?_eq_getElem (by rw [unhide Hfn]; exact hgl)⟩
    obtain ⟨p, hp, _⟩ := (unhide H).at_ hx
    have x5 := (unhide Hc) gk x p hx hp 5 _ rfl
    have x6 := (unhide Hc) gk x p hx hp 6 _ rfl
    simp only [← Nat.add_assoc] at x5 x6
    have hnx := Vf.nmsP_succ (unhide HF) hx (by omega)
    have hup := (Vf.up_lt (unhide HF) hx).1
    have hupl := ((unhide HF).up gk x hx (by omega)).1
    have hxs := (unhide HF).nmsz gk x hx
    have k0 : ¬ (gk : Int) < 0 := by omega
    have k1 : (gk : Int) < (n : Int) := by omega
    have hs2 : (⟨#[47]⟩ ++ x.name : ByteArray).size ≤ 33 := by
      rw [ByteArray.size_append]
      have h3 : (⟨#[47]⟩ : ByteArray).size = 1 := rfl
      omega
    have Hnx := hide hnx
    have Hup := hide hup
    have Hupl := hide hupl
    clear hnm hal hsv hgl hszs hss hx hp hnx hup hupl hz
    go_wp2_with fail
    go_roundg x.up
    case rel =>
      refine ⟨x.name :: acc, by rw [← unhide Hfn]; exact unhide Hup, rfl, by rw [← unhide Hsv]; rfl, ?_, ?_, rfl⟩
      · rw [unhide Hnm, unhide Hnx, List.append_assoc]
        rfl
      · rw [List.length_cons]
        have := unhide Hal
        have := unhide Hupl
        omega
    case measure => exact unhide Hupl
end Go.Proofs.Yteiciabhfjakgaa
namespace Go.Proofs.Yteiciabhfjakgaa
set_option linter.unusedVariables false
set_option linter.unusedSimpArgs false
open Go.RowKit

theorem app_in_or_kept {P : Program} {w w' : World} {base : Nat} {t ty e : TypeId} {i : TypeInfo} {z : Value} (ht : P.underlying t = some (.slice e)) (hi : P.info? e = some i) (hz : i.zero = some z)
    (hs : i.size = 1) (hby : i.bytes = 1) {v v' : Value} {n : Nat} {xs : List Value} (hown : w.ownsRow base e 1 v n xs) {a : Addr} {c : Nat} {u : Value} (hu : w.cell? a = some u) (h1 : u.oneCell' = true) (hb : n + 1 ≤ 140737488355328)
    (hr : (Builtin.append_ #[t, t] ty #[v, .slice (some a) 1 c]).run P w = .ok v' w') : (∃ A c0, v = .slice A n c0 ∧ v' = .slice A (n + 1) c0) ∨ (Below w.heap.size w w' ∧ ∀ k, v'.ownBlock = some k → w.heap.size ≤ k) := by
  have hnews : ∀ j x, ([u] : List Value)[j]? = some x → w.cell? (a.add j) = some x := by
    intro j x hj
    cases j with
    | zero => simp at hj; subst hj; simpa [Addr.add] using hu
    | succ j => simp at hj
  rcases hown.2 with ⟨rfl, rfl⟩ | ⟨g, cap, cur, rfl, h1', h2, h3, h4, h5, h6⟩
  · rw [run_append_nil (P := P) w t ty e i z ht hi hz a 1 c [u] (by simp [hs]) hnews (by omega) (by omega) (by rw [hby]; omega)] at hr
    injection hr with e1 e2
    subst e1 e2
    exact .inr ⟨(below_drew' (Below.refl _ _)).alloc (Nat.le_refl _) _, fun k hk => by simp [Value.ownBlock] at hk; omega⟩
  · by_cases hroom : n + 1 ≤ cap
    · rw [run_append_room (P := P) w t ty e i ht hi g n cap cur h2 a 1 c [u] (by simp [hs]) hnews (by simpa using h1) hroom (by rw [hs]; simp; omega)] at hr
      injection hr with e1 e2
      subst e1
      exact .inl ⟨_, _, rfl, rfl⟩
    · have hc : ∀ j x, xs[j]? = some x → w.cell? ((⟨g, 0, none⟩ : Addr).add j) = some x := hown.cells (g := g) rfl
      rw [run_append_grow (P := P) w t ty e i z ht hi hz ⟨g, 0, none⟩ n cap xs (by rw [hs]; exact hown.1) hc a 1 c [u] (by simp [hs]) hnews (by omega) (by omega) (by rw [hby]; exact growslice_fits (by omega) (by omega))] at hr
      injection hr with e1 e2
      subst e1 e2
      exact .inr ⟨(below_drew' (Below.refl _ _)).alloc (Nat.le_refl _) _, fun k hk => by simp [Value.ownBlock] at hk; omega⟩
end Go.Proofs.Yteiciabhfjakgaa
namespace Go.Proofs.Yteiciabhfjakgaa
set_option linter.unusedVariables false
set_option linter.unusedSimpArgs false
open Go.RowKit

/-- append(b, c) for one byte, which has just been laid in a block of its own. -/
theorem wpList_appK {W : World} {ops : Array Oper} {rest : List Oper} {o : Oper} {a : Act} {Q : Exit → Act → World → Prop} (hgd : o.guard = none) (s x : Operand)
    (ho : o.op = .call { callee := .builtin .append, args := #[s, x], argTypes := #[36, 36] })
    (base : Nat) (v : Value) (n : Nat) (xs : List UInt8) (hs : a.eval s = v) (hown : W.ownsRow base 5 1 v n (bys xs)) (ch : UInt8) (g : Nat) (hx : a.eval x = .slice (some ⟨g, 0, none⟩) 1 1) (hg : g = W.heap.size) (hb : n + 1 ≤ 140737488355328) (hbase : base ≤ W.heap.size)
    (h : ∀ A' c' w', Grew W w' base v (.slice A' (n + 1) c') (n + 1) (xs ++ [ch]) → ((∃ A c0, v = .slice A n c0 ∧ (Value.slice A' (n + 1) c') = .slice A (n + 1) c0) ∨ (Below W.heap.size W w' ∧ ∀ k, (Value.slice A' (n + 1) c').ownBlock = some k → W.heap.size ≤ k)) → wpList Try.prog ops Q rest (a.put o.dst (.slice A' (n + 1) c')) w') : wpList Try.prog ops Q (o :: rest) a (W.alloc (.cells #[.int .u8 ch.toNat] 5)) := by
  subst hg
  obtain ⟨i, hi, hz0, hz1, hz2⟩ := info_parts byteInfo
  refine wpList_plain hgd fun K hK => ?_
  have hr : Rd (W.alloc (.cells #[.int .u8 ch.toNat] 5)) (W.heap.size + 1) 1 (some ⟨W.heap.size, 0, none⟩) 1 (bys [ch]) := Rd.row (w := W) rfl
  obtain ⟨v', w', hrun, h2, h3, h4⟩ := run_app byteTy (W.alloc (.cells #[.int .u8 ch.toNat] 5)) base o.type v n (bys xs) (hown.alloc _) _ _ 1 1 (bys [ch]) hr (bys_one _) (by omega) (by simp; omega)
  have hcell : (W.alloc (.cells #[.int .u8 ch.toNat] 5)).cell? ⟨W.heap.size, 0, none⟩ = some (.int .u8 ch.toNat) := (Blk.new W 5 [.int .u8 ch.toNat]).cell (i := 0) rfl
  have h5 := app_in_or_kept Try.underlying36 hi hz0 hz1 hz2 (hown.alloc _) hcell rfl hb hrun
  have hbl : Below W.heap.size W (W.alloc (.cells #[.int .u8 ch.toNat] 5)) := (Below.refl _ _).alloc (Nat.le_refl _) _
  obtain ⟨A', c', rfl⟩ := own_form h2
  rw [← bys_app] at h2
  unfold Oper.wp execOp
  simp only [ho, resolve, invoke, builtin, Sem.run_bind, Sem.run_pure, Result.andThen_ok, List.map_toArray, List.map_cons, List.map_nil, hs, hx, hrun]
  exact hK _ _ (h A' c' w' (Grew.after hbl ⟨h2, h3, h4⟩) (h5.imp id fun h6 => ⟨hbl.trans (h6.1.mono (by simp)), fun k hk => by have := h6.2 k hk; simp at this; omega⟩))

theorem own_grown {w w' : World} {base : Nat} {e : TypeId} {size n : Nat} {v : Value} {xs : List Value} {row : Option Nat} (h : w.ownsRow base e size v n xs) (hg : w.grownBy w' row) (hne : ∀ g, v.ownBlock = some g → row ≠ some g) : w'.ownsRow base e size v n xs := by
  refine ⟨h.1, h.2.imp id ?_⟩
  rintro ⟨g, cap, cur, rfl, e2, e3, r⟩
  exact ⟨g, cap, cur, rfl, e2, (hg.block g (lt_of_block e3) (fun e => hne g rfl e.symm)).trans e3, r⟩
theorem own_prefix {w : World} {base : Nat} {e : TypeId} {n m c : Nat} {A : Option Addr} {xs ys : List Value} (h : w.ownsRow base e 1 (.slice A (n + m) c) (n + m) (xs ++ ys)) (hl : xs.length = n) : w.ownsRow base e 1 (.slice A n c) n xs := by
  refine ⟨by omega, ?_⟩
  rcases h.2 with ⟨h1, h2⟩ | ⟨g, cap, cur, h1, h2, h3, h4, h5, h6, h7⟩
  · injection h1 with e1 e2 e3
    have hn : n = 0 := by omega
    subst e1 e3 hn
    exact .inl ⟨rfl, rfl⟩
  · injection h1 with e1 e2 e3
    subst e1 e3
    refine .inr ⟨g, c, cur, rfl, h2, h3, by omega, h5, h6, ?_⟩
    have h8 := congrArg (List.take (n * 1)) h7
    rw [List.take_take, Nat.min_eq_left (by omega)] at h8
    rw [h8, List.take_append_of_le_length (by omega), List.take_of_length_le (by omega)]

/-- k marks behind a row; the row itself is still there. -/
structure Gone (w wr : World) (base : Nat) (A : Option Addr) (n c : Nat) (xs : List UInt8) (mark : UInt8) (k : Nat) (A' : Option Addr) (c' : Nat) : Prop where
  grew : Grew w wr base (.slice A n c) (.slice A' (n + k) c') (n + k) (xs ++ List.replicate k mark)
  old : (A' = A ∧ c' = c) ∨ (wr.ownsRow base 5 1 (.slice A n c) n (bys xs) ∧ ∀ g, (Value.slice A n c).ownBlock = some g → (Value.slice A' (n + k) c').ownBlock ≠ some g)
section
variable {w wr w' : World} {base n c k c' c'' : Nat} {A A' A'' : Option Addr} {xs : List UInt8} {mark : UInt8}
theorem Gone.start (h : w.ownsRow base 5 1 (.slice A n c) n (bys xs)) : Gone w w base A n c xs mark 0 A c :=
  ⟨⟨by simpa using h, World.grownBy.refl w _, fun k hk => .inl hk⟩, .inl ⟨rfl, rfl⟩⟩
theorem Gone.keeps (h : Gone w wr base A n c xs mark k A' c') : wr.ownsRow base 5 1 (.slice A n c) n (bys xs) := by
  rcases h.old with ⟨rfl, rfl⟩ | ⟨h1, _⟩
  · have h1 := h.grew.own
    have hl := h1.1
    rw [bys_app] at h1
    exact own_prefix h1 (by simp [bys] at hl ⊢; omega)
  · exact h1
theorem Gone.step (h : Gone w wr base A n c xs mark k A' c') (hg : Grew wr w' base (.slice A' (n + k) c') (.slice A'' (n + k + 1) c'') (n + k + 1) (xs ++ List.replicate k mark ++ [mark]))
    (ho : (∃ A0 c0, Value.slice A' (n + k) c' = .slice A0 (n + k) c0 ∧ Value.slice A'' (n + k + 1) c'' = .slice A0 (n + k + 1) c0) ∨ (Below wr.heap.size wr w' ∧ ∀ k', (Value.slice A'' (n + k + 1) c'').ownBlock = some k' → wr.heap.size ≤ k')) : Gone w w' base A n c xs mark (k + 1) A'' c'' := by
  have e : xs ++ List.replicate k mark ++ [mark] = xs ++ List.replicate (k + 1) mark := by rw [List.replicate_succ', List.append_assoc]
  rw [e] at hg
  refine ⟨h.grew.trans hg, ?_⟩
  have hk := h.keeps
  have hlt : ∀ g, (Value.slice A n c).ownBlock = some g → g < wr.heap.size := fun g hg => (hk.lt g hg).2
  rcases ho with ⟨A0, c0, e1, e2⟩ | ⟨hb, hn⟩
  · injection e1 with e1 _ e3
    injection e2 with e4 _ e6
    subst e1 e3 e4 e6
    rcases h.old with h1 | ⟨h1, h2⟩
    · exact .inl h1
    · refine .inr ⟨own_grown h1 hg.kept (fun g hg => h2 g hg), fun g hg => ?_⟩
      have := h2 g hg
      cases A'' with
      | none => simp [Value.ownBlock]
      | some a => simpa [Value.ownBlock] using this
  · exact .inr ⟨own_below hk hb, fun g hg e => by have := hlt g hg; have := hn g e; omega⟩
end

set_option maxRecDepth 100000 in
set_option maxHeartbeats 2000000 in
theorem goneOn_any (A : Option Addr) (n c base : Nat) (xs : List UInt8) (mark : UInt8) (w : World) (hown : w.ownsRow base 5 1 (.slice A n c) n (bys xs)) (hn : n ≤ 4294967296) (hbase : base ≤ w.heap.size) :
    Calls Try.prog 44 #[.slice A n c, .int .u8 mark.toNat] w fun e w' => ∃ A' c', e = .returned (.slice A' (n + 40) c') ∧ Gone w w' base A n c xs mark 40 A' c' := by
  have H0 := hide (Gone.start (mark := mark) hown)
  clear hown
  go_enter Try.func44, Try.ntmps44
  go_wp2_with fail
  go_loopg [0, 5] 40 (fun gk bv lv wr => ∃ (k : Nat) (A' : Option Addr) (c' : Nat), gk = 40 - k ∧ k ≤ 40 ∧ lv = .int .i64 (40 - (k : Int)) ∧ bv = .slice A' (n + k) c' ∧ Gone w wr base A n c xs mark k A' c')
  case atStart => exact ⟨0, A, c, by omega, by omega, rfl, rfl, unhide H0⟩
  case round =>
  obtain ⟨k, A', c', hgk, hk, rfl, rfl, hG⟩ := hrel
  have Hgk := hide hgk
  have HG := hide hG
  have hsz := hG.grew.kept.size
  clear hgk hG H0
  rcases Nat.lt_or_ge k 40 with hlt | hge
  case inr =>
    obtain rfl : k = 40 := by omega
    go_wp2_with fail
    go_ret
    exact ⟨A', c', rfl, unhide HG⟩
  have hpos : (0 : Int) < 40 - (k : Int) := by omega
  go_wp2_with (at_builtin; refine wpList_appK rfl _ _ rfl base (.slice A' (n + k) c') (n + k) (xs ++ List.replicate k mark) rfl (unhide HG).grew.own mark wr.heap.size rfl rfl (by omega) (by omega) ?_; intro A2 c2 w2 hg2 ho2; have HG2 := hide ((unhide HG).step hg2 ho2); clear hg2 ho2)
  go_roundg (40 - (k + 1))
  case measure => have := unhide Hgk; omega
  case rel => exact ⟨k + 1, A2, c2, rfl, by omega, by go_num, rfl, unhide HG2⟩
end Go.Proofs.Yteiciabhfjakgaa
namespace Go.Proofs.Yteiciabhfjakgaa
set_option linter.unusedVariables false
set_option linter.unusedSimpArgs false
open Go.RowKit

theorem rep_at (ys : List UInt8) (mark : UInt8) {j : Nat} (h1 : ys.length ≤ j) (h2 : j < ys.length + 40) : (ys ++ List.replicate 40 mark)[j]? = some mark := by
  rw [List.getElem?_append_right h1, List.getElem?_replicate, if_pos (by omega)]

set_option maxRecDepth 100000 in
set_option maxHeartbeats 2000000 in
theorem marked_any (A : Option Addr) (n m c B : Nat) (ys : List UInt8) (mark : UInt8) (w : World) (hr : Rd w B 1 A m (bys (ys ++ List.replicate 40 mark))) (hm : m = n + 40) (hn : n ≤ 4294967296) :
    Calls Try.prog 45 #[.slice A m c, .int .u8 mark.toNat] w fun e w' => e = .returned (.int .i64 40) ∧ w = w' := by
  have hyl : ys.length = n := by have := hr.len1; simp [bys] at this; omega
  have Hr := hide hr
  have Hyl := hide hyl
  have hmb : m ≤ 4294967400 := by omega
  have Hm := hide hm
  clear hr hyl hm
  go_enter Try.func45, Try.ntmps45
  go_wp2_with fail
  go_loopg [5, 6] 40 (fun gk nv av wr => ∃ k j : Nat, gk = 40 - k ∧ k ≤ 40 ∧ k + j = m ∧ nv = .int .i64 k ∧ av = .int .i64 ((j : Int) - 1) ∧ w = wr)
  case atStart => exact ⟨0, m, by omega, by omega, by omega, rfl, rfl, rfl⟩
  case round =>
  obtain ⟨k, j, hgk, hk, hj, rfl, rfl, rfl⟩ := hrel
  have Hgk := hide hgk
  have Hj := hide hj
  have hm := unhide Hm
  have hjm : j ≤ m := by omega
  have hjl : k < 40 → n < j := by omega
  have Hjl := hide hjl
  clear hgk hj hm hjl
  rcases Nat.lt_or_ge k 40 with hlt | hge
  case inr =>
    obtain rfl : k = 40 := by omega
    clear hk hge
    by_cases h0 : j = 0
    · subst h0
      go_wp2_with fail
      go_ret
      exact ⟨rfl, rfl⟩
    · have h1 : (0 : Int) ≤ (j : Int) - 1 := by omega
      go_wp2_with fail
      go_ret
      exact ⟨rfl, rfl⟩
  obtain ⟨i, rfl⟩ : ∃ i, j = i + 1 := ⟨j - 1, by have := (unhide Hjl) hlt; omega⟩
  have e1 : ((i + 1 : Nat) : Int) - 1 = (i : Int) := by omega
  rw [e1]
  obtain ⟨b1, o1, rfl, _, c1⟩ := (unhide Hr).at_ (k := i) (u := .int .u8 mark.toNat) (bys_at (rep_at ys mark (by rw [unhide Hyl]; have := (unhide Hjl) hlt; omega) (by rw [unhide Hyl]; have := unhide Hm; omega)))
  have him : i < m := by omega
  have hself : (((mark.toNat : Nat) : Int) == ((mark.toNat : Nat) : Int)) = true := beq_self_eq_true _
  clear e1
  go_wp2_with fail
  go_roundg (40 - (k + 1))
  case measure => have := unhide Hgk; omega
  case rel => exact ⟨k + 1, i, rfl, by omega, by have := unhide Hj; omega, by go_num, rfl, rfl⟩

/-- A row among those that are held apart. -/
structure RB where
  A : Option Addr
  n : Nat
  c : Nat
  xs : List UInt8
abbrev RB.v (r : RB) : Value := .slice r.A r.n r.c
def RB.ok (r : RB) (w : World) (base : Nat) : Prop := w.ownsRow base 5 1 r.v r.n (bys r.xs)
theorem RB.ok.rd {r : RB} {w : World} {base : Nat} (h : r.ok w base) : Rd w w.heap.size 1 r.A r.n (bys r.xs) := Rd.of_own h
def nilSl : Value := .slice none 0 0
/-- What a row of slices holds where the first ones are done. -/
def done (D : List RB) (N : Nat) : List Value := D.map RB.v ++ List.replicate (N - D.length) nilSl
theorem done_at {D : List RB} {N j : Nat} {d : RB} (h : D[j]? = some d) : (done D N)[j]? = some d.v := by
  have hlt := (List.getElem?_eq_some_iff.1 h).1
  unfold done
  rw [List.getElem?_append_left (by simpa using hlt), List.getElem?_map, h]
  rfl
theorem done_next {D : List RB} {N : Nat} (h : D.length < N) : (done D N)[D.length]? = some nilSl := by
  unfold done
  rw [List.getElem?_append_right (by simp), List.length_map, Nat.sub_self, List.getElem?_replicate, if_pos (by omega)]
theorem done_set {D : List RB} {N : Nat} (h : D.length < N) (d : RB) : (done D N).set D.length d.v = done (D ++ [d]) N := by
  unfold done
  rw [show N - D.length = (N - (D.length + 1)) + 1 from by omega, List.replicate_succ, List.set_append]
  simp
/-- Where Apart stands: its two rows lie at w's end and at gl. -/
structure ApS (w wr : World) (base G gl : Nat) (R D E : List RB) : Prop where
  bel : Below base w wr
  hgl : w.heap.size < gl
  size : gl < wr.heap.size
  all : Blk wr G 36 (R.map RB.v)
  was : wr.ownsRow w.heap.size 36 1 (.slice (some ⟨w.heap.size, 0, none⟩) R.length R.length) R.length (done D R.length)
  long : wr.ownsRow w.heap.size 36 1 (.slice (some ⟨gl, 0, none⟩) R.length R.length) R.length (done E R.length)
  rows : ∀ (j : Nat) r, R[j]? = some r → r.ok wr base
  ds : ∀ (j : Nat) d r, D[j]? = some d → R[j]? = some r → d.n = r.n ∧ d.xs = r.xs ∧ d.ok wr (gl + 1)
  es : ∀ (j : Nat) d r, E[j]? = some d → R[j]? = some r → d.n = r.n + 40 ∧ d.xs = r.xs ++ List.replicate 40 (UInt8.ofNat (j + 1)) ∧ d.ok wr base ∧ ∀ g, d.v.ownBlock = some g → r.v.ownBlock = some g ∨ gl + 1 ≤ g
/-- What is given. -/
structure ApG (w : World) (base G : Nat) (R : List RB) : Prop where
  lo : base ≤ w.heap.size
  all : Blk w G 36 (R.map RB.v)
  rows : ∀ (j : Nat) r, R[j]? = some r → r.ok w base
  len : ∀ (j : Nat) r, R[j]? = some r → r.n ≤ 4294967296
  G : ∀ (j : Nat) r, R[j]? = some r → r.v.ownBlock ≠ some G
  pair : ∀ (i j : Nat) r s, R[i]? = some r → R[j]? = some s → i ≠ j → ∀ g, r.v.ownBlock = some g → s.v.ownBlock ≠ some g
  few : R.length ≤ 200
theorem ApG.lt {w : World} {base G j : Nat} {R : List RB} (h : ApG w base G R) {r : RB} (hr : R[j]? = some r) {g : Nat} (hg : r.v.ownBlock = some g) : g < w.heap.size := ((h.rows j r hr).lt g hg).2
theorem own_setNe {w : World} {base : Nat} {e : TypeId} {size n : Nat} {v : Value} {xs : List Value} (h : w.ownsRow base e size v n xs) {p : Addr} (hp : ∀ g, v.ownBlock = some g → g ≠ p.block) (u : Value) : (w.setCell p u).ownsRow base e size v n xs := by
  refine ⟨h.1, h.2.imp id ?_⟩
  rintro ⟨g, cap, cur, e1, e2, e3, r⟩
  exact ⟨g, cap, cur, e1, e2, (heap_setCell_other _ _ _ _ (by have := hp g (by rw [e1]; rfl); omega)).trans e3, r⟩
section
variable {w wr w' : World} {base G gl : Nat} {R D E : List RB} {r d : RB}
theorem RB.ok.below {B : Nat} (h : r.ok wr B) (hb : Below wr.heap.size wr w') : r.ok w' B := own_below h hb
theorem RB.ok.lo {B : Nat} (h : r.ok wr B) {g : Nat} (hg : r.v.ownBlock = some g) : B ≤ g := (h.lt g hg).1
theorem ApS.below (h : ApS w wr base G gl R D E) (q : ApG w base G R) (hb : Below wr.heap.size wr w') : ApS w w' base G gl R D E :=
  ⟨h.bel.trans (hb.mono (by have := h.size; have := h.hgl; have := q.lo; omega)), h.hgl, Nat.lt_of_lt_of_le h.size hb.size, h.all.belowSz hb, own_below h.was hb, own_below h.long hb, fun j r hr => (h.rows j r hr).below hb,
   fun j d r h1 h2 => by obtain ⟨a, b, c⟩ := h.ds j d r h1 h2; exact ⟨a, b, c.below hb⟩,
   fun j d r h1 h2 => by obtain ⟨a, b, c, e⟩ := h.es j d r h1 h2; exact ⟨a, b, c.below hb, e⟩⟩
theorem apSnoc_at {α : Type} {l : List α} {x y : α} {j : Nat} (h : (l ++ [x])[j]? = some y) : (l[j]? = some y) ∨ (j = l.length ∧ y = x) := by
  rw [List.getElem?_append] at h
  split at h
  · exact .inl h
  · rename_i hj
    have h2 : j - l.length = 0 := by
      have := (List.getElem?_eq_some_iff.1 h).1
      simp at this
      omega
    rw [h2] at h
    exact .inr ⟨by omega, by simpa using h.symm⟩
theorem ApS.put1 (h : ApS w wr base G gl R D E) (q : ApG w base G R) (hk : R[D.length]? = some r) (hd : d.ok wr (gl + 1)) (e1 : d.n = r.n) (e2 : d.xs = r.xs) : ApS w (wr.setCell ⟨w.heap.size, D.length, none⟩ d.v) base G gl R (D ++ [d]) E := by
  have hlt := (List.getElem?_eq_some_iff.1 hk).1
  have hG := q.all.lt
  have hgl := h.hgl
  refine ⟨h.bel.setCell q.lo _, h.hgl, by simpa using h.size, h.all.other (by simp; omega) _, ?_, own_setNe h.long (fun g hg => ?_) _, fun j s hs => own_setNe (h.rows j s hs) (fun g hg => ?_) _, fun j x s h1 h2 => ?_, fun j x s h1 h2 => ?_⟩
  · rw [← done_set hlt]
    exact own_set h.was _
  · simp [Value.ownBlock] at hg
    simp
    omega
  · have := q.lt hs hg
    simp
    omega
  · rcases apSnoc_at h1 with h1 | ⟨rfl, rfl⟩
    · obtain ⟨a, b, c⟩ := h.ds j x s h1 h2
      exact ⟨a, b, own_setNe c (fun g hg => by have := c.lo hg; simp; omega) _⟩
    · rw [hk] at h2
      injection h2 with h2
      subst h2
      exact ⟨e1, e2, own_setNe hd (fun g hg => by have := hd.lo hg; simp; omega) _⟩
  · obtain ⟨a, b, c, e⟩ := h.es j x s h1 h2
    refine ⟨a, b, own_setNe c (fun g hg => ?_) _, e⟩
    rcases e g hg with h3 | h3
    · have := q.lt h2 h3; simp; omega
    · simp; omega
theorem ApS.gone (h : ApS w wr base G gl R D E) (q : ApG w base G R) (hk : R[E.length]? = some r) {mark : UInt8} {A' : Option Addr} {c' : Nat} (hg : Gone wr w' base r.A r.n r.c r.xs mark 40 A' c') : ApS w w' base G gl R D E := by
  have hG := q.all.lt
  have hgl := h.hgl
  have hsz := hg.grew.kept.size
  have hrk := q.rows _ _ hk
  have hl : base ≤ wr.heap.size := by have := h.size; have := q.lo; omega
  refine ⟨h.bel.trans (hg.grew.below hl (fun k hk' => hrk.lo hk')), h.hgl, Nat.lt_of_lt_of_le h.size hsz, hg.grew.blk (by have := h.size; omega) (q.G _ _ hk) h.all, own_grown h.was hg.grew.kept (fun g hg => ?_), own_grown h.long hg.grew.kept (fun g hg => ?_), fun j s hs => ?_, fun j x s h1 h2 => ?_, fun j x s h1 h2 => ?_⟩
  · simp [Value.ownBlock] at hg
    intro e
    have := q.lt hk e
    omega
  · simp [Value.ownBlock] at hg
    intro e
    have := q.lt hk e
    omega
  · by_cases hj : j = E.length
    · subst hj
      rw [hk] at hs
      injection hs with hs
      subst hs
      exact hg.keeps
    · exact own_grown (h.rows j s hs) hg.grew.kept (fun g hg => q.pair j E.length s r hs hk hj g hg)
  · obtain ⟨a, b, c⟩ := h.ds j x s h1 h2
    exact ⟨a, b, own_grown c hg.grew.kept (fun g hg e => by have := c.lo hg; have := q.lt hk e; omega)⟩
  · obtain ⟨a, b, c, e⟩ := h.es j x s h1 h2
    have hj : j < E.length := (List.getElem?_eq_some_iff.1 h1).1
    refine ⟨a, b, own_grown c hg.grew.kept (fun g hg e2 => ?_), e⟩
    rcases e g hg with h3 | h3
    · exact q.pair j E.length s r h2 hk (by omega) g h3 e2
    · have := q.lt hk e2; omega
theorem ApS.put2 (h : ApS w wr base G gl R D E) (q : ApG w base G R) (hk : R[E.length]? = some r) (hd : d.ok wr base) (e1 : d.n = r.n + 40) (e2 : d.xs = r.xs ++ List.replicate 40 (UInt8.ofNat (E.length + 1)))
    (e3 : ∀ g, d.v.ownBlock = some g → r.v.ownBlock = some g ∨ gl + 1 ≤ g) : ApS w (wr.setCell ⟨gl, E.length, none⟩ d.v) base G gl R D (E ++ [d]) := by
  have hlt := (List.getElem?_eq_some_iff.1 hk).1
  have hG := q.all.lt
  have hgl := h.hgl
  have hlo := q.lo
  refine ⟨h.bel.setCell (by show base ≤ gl; omega) _, h.hgl, by simpa using h.size, h.all.other (by simp; omega) _, own_setNe h.was (fun g hg => ?_) _, ?_, fun j s hs => own_setNe (h.rows j s hs) (fun g hg => ?_) _, fun j x s h1 h2 => ?_, fun j x s h1 h2 => ?_⟩
  · simp [Value.ownBlock] at hg
    simp
    omega
  · rw [← done_set hlt]
    exact own_set h.long _
  · have := q.lt hs hg
    simp
    omega
  · obtain ⟨a, b, c⟩ := h.ds j x s h1 h2
    exact ⟨a, b, own_setNe c (fun g hg => by have := c.lo hg; simp; omega) _⟩
  · rcases apSnoc_at h1 with h1 | ⟨rfl, rfl⟩
    · obtain ⟨a, b, c, e⟩ := h.es j x s h1 h2
      refine ⟨a, b, own_setNe c (fun g hg => ?_) _, e⟩
      rcases e g hg with h3 | h3
      · have := q.lt h2 h3; simp; omega
      · simp; omega
    · rw [hk] at h2
      injection h2 with h2
      subst h2
      refine ⟨e1, e2, own_setNe hd (fun g hg => ?_) _, e3⟩
      rcases e3 g hg with h3 | h3
      · have := q.lt hk h3; simp; omega
      · simp; omega
theorem ApS.drewN (h : ApS w wr base G gl R D E) (m : Nat) : ApS w (wr.drewN m) base G gl R D E := ⟨below_drewN' h.bel m, h.hgl, h.size, h.all, h.was, h.long, h.rows, h.ds, h.es⟩
/-- Where Apart stands while it writes over: the rows from k on are as they were. -/
structure ApX (w wr : World) (base G gl : Nat) (R D : List RB) (k : Nat) : Prop where
  bel : Below base w wr
  hgl : w.heap.size < gl
  all : Blk wr G 36 (R.map RB.v)
  was : wr.ownsRow w.heap.size 36 1 (.slice (some ⟨w.heap.size, 0, none⟩) R.length R.length) R.length (done D R.length)
  rows : ∀ (j : Nat) r, k ≤ j → R[j]? = some r → r.ok wr base
  ds : ∀ (j : Nat) d r, D[j]? = some d → R[j]? = some r → d.n = r.n ∧ d.xs = r.xs ∧ d.ok wr (gl + 1)
theorem ApS.x (h : ApS w wr base G gl R D E) : ApX w wr base G gl R D 0 := ⟨h.bel, h.hgl, h.all, h.was, fun j r _ hr => h.rows j r hr, h.ds⟩
theorem ApX.drewN {k : Nat} (h : ApX w wr base G gl R D k) (m : Nat) : ApX w (wr.drewN m) base G gl R D k := ⟨below_drewN' h.bel m, h.hgl, h.all, h.was, h.rows, h.ds⟩
theorem ApX.next {k : Nat} (h : ApX w wr base G gl R D k) : ApX w wr base G gl R D (k + 1) := ⟨h.bel, h.hgl, h.all, h.was, fun j r hj hr => h.rows j r (by omega) hr, h.ds⟩
theorem ApX.set {k g o : Nat} (h : ApX w wr base G gl R D (k + 1)) (q : ApG w base G R) (hk : R[k]? = some r) (hg : r.v.ownBlock = some g) (u : Value) : ApX w (wr.setCell ⟨g, o, none⟩ u) base G gl R D (k + 1) := by
  have h1 := q.lt hk hg
  have h2 := (q.rows _ _ hk).lo hg
  have h3 := h.hgl
  refine ⟨h.bel.setCell h2 u, h.hgl, h.all.other (fun e => q.G _ _ hk (by rw [hg]; exact congrArg some e)) _, own_setNe h.was (fun g' hg' => ?_) _, fun j s hj hs => own_setNe (h.rows j s hj hs) (fun g' hg' e => ?_) _, fun j x s h4 h5 => ?_⟩
  · simp [Value.ownBlock] at hg'
    simp
    omega
  · simp at e
    subst e
    exact q.pair j k s r hs hk (by omega) _ hg' hg
  · obtain ⟨a, b, c⟩ := h.ds j x s h4 h5
    exact ⟨a, b, own_setNe c (fun g' hg' => by have := c.lo hg'; simp; omega) _⟩
end
end Go.Proofs.Yteiciabhfjakgaa
namespace Go.Proofs.Yteiciabhfjakgaa
set_option linter.unusedVariables false
set_option linter.unusedSimpArgs false
open Go.RowKit

theorem slInfo : (Try.prog.info? 36).map (fun i => (i.zero, i.size, i.bytes)) = some (some (.slice none 0 0), 1, 24) := by kernel_rfl
theorem done_nil (N : Nat) : (madeCells nilSl.cells (N * 1)).toList = done [] N := by
  simp [done, nilSl, Value.cells, toList_madeCells_one]
theorem xor_u8 (c : UInt8) : ∃ y : UInt8, bits BinOp.xor IntKind.u8 ((c.toNat : Nat) : Int) 255 = ((y.toNat : Nat) : Int) := by
  have h : ∀ x : Fin 256, bits BinOp.xor IntKind.u8 ((x.val : Nat) : Int) 255 = ((255 - x.val : Nat) : Int) := by decide +kernel
  have h2 := h ⟨c.toNat, c.toNat_lt⟩
  refine ⟨UInt8.ofNat (255 - c.toNat), h2.trans ?_⟩
  have : (UInt8.ofNat (255 - c.toNat)).toNat = 255 - c.toNat := by simp; omega
  rw [this]

set_option maxRecDepth 100000 in
set_option maxHeartbeats 4000000 in
theorem apart_any (G base N : Nat) (R : List RB) (w : World) (q : ApG w base G R) (hN : R.length = N) :
    Calls Try.prog 24 #[.slice (some ⟨G, 0, none⟩) N N] w fun e w' => e = .returned (.bool true) ∧ Below base w w' := by
  obtain ⟨i, hi, hz0, hz1, hz2⟩ := info_parts slInfo
  have Hi := hide hi
  have Hz0 := hide hz0
  have Hz1 := hide hz1
  have Hz2 := hide hz2
  have hfew := q.few
  rw [hN] at hfew
  have Q := hide q
  have HN := hide hN
  clear hi hz0 hz1 hz2 q hN
  go_enter Try.func24, Try.ntmps24
  go_wp2_with (first
    | (at_make; (with_reducible refine (@id (wpList _ _ _ _ _ w) ?_)); refine wpList_make_full _ rfl _ _ 54 rfl w.heap.size 36 i nilSl 1 Try.underlying54 (unhide Hi) (unhide Hz0) (unhide Hz1) _ _ _ _ N rfl rfl rfl rfl (by rw [unhide Hz2]; omega) (by unfold maxLen; omega) (Nat.le_refl _) ?_; intro w1 hown1 hg1; have hsz1 := hg1.size; have Hown1 := hide hown1; have Hg1 := hide hg1; clear hown1 hg1)
    | (at_make; (with_reducible refine (@id (wpList _ _ _ _ _ w1) ?_)); refine wpList_make_full _ rfl _ _ 54 rfl w.heap.size 36 i nilSl 1 Try.underlying54 (unhide Hi) (unhide Hz0) (unhide Hz1) _ _ _ _ N rfl rfl rfl rfl (by rw [unhide Hz2]; omega) (by unfold maxLen; omega) hsz1 ?_; intro w2 hown2 hg2; have Hown2 := hide hown2; have Hg2 := hide hg2; clear hown2 hg2))
  have hS0 : ApS w w2 base G w1.heap.size R [] [] := by
    have q := unhide Q
    have g1 := unhide Hg1
    have g2 := unhide Hg2
    have o1 := own_grown (unhide Hown1) g2 (fun g hg e => by cases e)
    have o2 := unhide Hown2
    rw [done_nil, ← unhide HN] at o1 o2
    have hG := q.all.lt
    refine ⟨(((Below.refl base w).grown g1 q.lo (fun k hk => by cases hk)).grown g2 (Nat.le_trans q.lo hsz1) (fun k hk => by cases hk)), (own_at (unhide Hown1)).2.1, (own_at (unhide Hown2)).2.1, ?_, o1, o2, fun j r hr => own_grown (own_grown (q.rows j r hr) g1 (fun g hg e => by cases e)) g2 (fun g hg e => by cases e), fun j d r h1 => by simp at h1, fun j d r h1 => by simp at h1⟩
    exact (g2.block _ (by omega) (fun e => by cases e)).trans ((g1.block _ hG (fun e => by cases e)).trans q.all)
  generalize hgl : w1.heap.size = gl at *
  have HS0 := hide hS0
  clear hS0 hgl Hown1 Hown2 Hg1 Hg2 Hi Hz0 Hz1 Hz2
  go_loopg [5] N (fun gk av wr => ∃ D, gk = N - D.length ∧ D.length ≤ N ∧ av = .int .i64 D.length ∧ ApS w wr base G gl R D [])
  case atStart => exact ⟨[], by simp, by simp, rfl, unhide HS0⟩
  case round =>
  clear HS0
  obtain ⟨D, hgk, hk, rfl, hS⟩ := hrel
  have Hgk := hide hgk
  have HS := hide hS
  clear hgk hS
  rcases Nat.lt_or_ge D.length N with hlt | hge
  case inl =>
    obtain ⟨r, hr⟩ : ∃ r, R[D.length]? = some r := ⟨_, List.getElem?_eq_getElem (by rw [unhide HN]; exact hlt)⟩
    have c1 := (unhide HS).all.cell (i := D.length) (u := r.v) (by simp [hr])
    have hsz := (unhide HS).size
    have hgl := (unhide HS).hgl
    have hrk := (unhide HS).rows _ _ hr
    have K := hide (copyBytes_any r.A r.n r.c wr.heap.size r.xs wr (Nat.le_refl _) hrk.rd ((unhide Q).len _ _ hr))
    have Hr := hide hr
    clear hr hrk
    go_wp2_with fail
    refine (unhide K).mono ?_
    rintro e w3 ⟨A', c', rfl, ho, hb⟩
    have hS3 := (unhide HS).below (unhide Q) hb
    have hput := hS3.put1 (d := ⟨A', r.n, c', r.xs⟩) (unhide Q) (unhide Hr) (own_base ho (by omega)) rfl rfl
    have z1 := own_free hS3.was D.length
    have z2 := own_cell hS3.was (done_next (by rw [unhide HN]; exact hlt))
    have z3 := own_at hS3.was
    have Hput := hide hput
    clear hput hS3 ho hb K c1
    go_wp2_with fail
    go_roundg (N - (D.length + 1))
    case measure => have := unhide Hgk; omega
    case rel => exact ⟨D ++ [⟨A', r.n, c', r.xs⟩], by simp, by simp; omega, by simp, unhide Hput⟩
  have HDN := hide (show D.length = N by omega)
  have d1 : decide (D.length < N) = false := by simp; omega
  clear hge
  clear Hgk hk
  go_wp2_with fail
  go_loopg [6] N (fun gk av wr => ∃ E, gk = N - E.length ∧ E.length ≤ N ∧ av = .int .i64 E.length ∧ ApS w wr base G gl R D E)
  case atStart => exact ⟨[], by simp, by simp, rfl, unhide HS⟩
  case round =>
  clear HS
  obtain ⟨E, hgk, hk, rfl, hS⟩ := hrel
  have Hgk := hide hgk
  have HS := hide hS
  clear hgk hS
  rcases Nat.lt_or_ge E.length N with hlt | hge2
  case inl =>
    obtain ⟨r, hr⟩ : ∃ r, R[E.length]? = some r := ⟨_, List.getElem?_eq_getElem (by rw [unhide HN]; exact hlt)⟩
    have c1 := (unhide HS).all.cell (i := E.length) (u := r.v) (by simp [hr])
    have hsz := (unhide HS).size
    have hgl := (unhide HS).hgl
    have hlo := (unhide Q).lo
    have hrk := (unhide HS).rows _ _ hr
    have K := goneOn_any r.A r.n r.c base r.xs (UInt8.ofNat (E.length + 1)) wr hrk ((unhide Q).len _ _ hr) (by omega)
    have e1 : (((UInt8.ofNat (E.length + 1)).toNat : Nat) : Int) = (E.length : Int) + 1 := by simp; omega
    rw [e1] at K
    replace K := hide K
    have Hr := hide hr
    clear hr hrk e1
    go_wp2_with fail
    refine (unhide K).mono ?_
    rintro e w3 ⟨A', c', rfl, hg⟩
    have hS3 := (unhide HS).gone (unhide Q) (unhide Hr) hg
    have hat : ∀ g, (Value.slice A' (r.n + 40) c').ownBlock = some g → r.v.ownBlock = some g ∨ gl + 1 ≤ g := fun g h => (hg.grew.at_ g h).imp id fun h => by omega
    have hput := hS3.put2 (d := ⟨A', r.n + 40, c', r.xs ++ List.replicate 40 (UInt8.ofNat (E.length + 1))⟩) (unhide Q) (unhide Hr) hg.grew.own rfl rfl hat
    have z1 := own_free hS3.long E.length
    have z2 := own_cell hS3.long (done_next (by rw [unhide HN]; exact hlt))
    have z3 := own_at hS3.long
    have Hput := hide hput
    clear hput hS3 hg hat K c1
    go_wp2_with fail
    go_roundg (N - (E.length + 1))
    case measure => have := unhide Hgk; omega
    case rel => exact ⟨E ++ [⟨A', r.n + 40, c', r.xs ++ List.replicate 40 (UInt8.ofNat (E.length + 1))⟩], by simp, by simp; omega, by simp, unhide Hput⟩
  have HEN := hide (show E.length = N by omega)
  have d2 : decide (E.length < N) = false := by simp; omega
  clear hge2
  clear Hgk hk
  go_wp2_with fail
  go_loopg [7] N (fun gk av wr => ∃ k : Nat, gk = N - k ∧ k ≤ N ∧ av = .int .i64 k ∧ ApS w wr base G gl R D E)
  case atStart => exact ⟨0, by omega, by omega, rfl, unhide HS⟩
  case round =>
  clear HS
  obtain ⟨k, hgk, hk, rfl, hS⟩ := hrel
  have Hgk := hide hgk
  have HS := hide hS
  clear hgk hS
  rcases Nat.lt_or_ge k N with hlt | hge3
  case inl =>
    obtain ⟨r, hr⟩ : ∃ r, R[k]? = some r := ⟨_, List.getElem?_eq_getElem (by rw [unhide HN]; exact hlt)⟩
    obtain ⟨d, hd⟩ : ∃ d, D[k]? = some d := ⟨_, List.getElem?_eq_getElem (by rw [unhide HDN]; exact hlt)⟩
    obtain ⟨e, he⟩ : ∃ e, E[k]? = some e := ⟨_, List.getElem?_eq_getElem (by rw [unhide HEN]; exact hlt)⟩
    obtain ⟨u1, u2, u3⟩ := (unhide HS).ds _ _ _ hd hr
    obtain ⟨v1, v2, v3, _⟩ := (unhide HS).es _ _ _ he hr
    have c1 := (unhide HS).all.cell (i := k) (u := r.v) (by simp [hr])
    have c2 := own_cell (unhide HS).was (done_at hd)
    have c3 := own_cell (unhide HS).long (done_at he)
    have hrk := (unhide HS).rows _ _ hr
    have hrn := (unhide Q).len _ _ hr
    have K1 : ∀ m, Calls Try.prog 45 #[.slice e.A e.n e.c, .int .u8 ((k : Int) + 1)] (wr.drewN m) fun e w' => e = .returned (.int .i64 40) ∧ w' = wr.drewN m := by
      intro m
      have e1 : (((UInt8.ofNat (k + 1)).toNat : Nat) : Int) = (k : Int) + 1 := by simp; omega
      rw [← e1]
      have h := v3.rd
      rw [v2] at h
      exact (marked_any e.A r.n e.n e.c wr.heap.size r.xs (UInt8.ofNat (k + 1)) (wr.drewN m) h v1 hrn).mono fun _ _ h => ⟨h.1, h.2.symm⟩
    have K2 : ∀ m, Calls Try.prog 17 #[.slice r.A r.n r.c, .slice d.A d.n d.c] (wr.drewN m) fun e w' => e = .returned (.bool true) ∧ ∃ j, w' = (wr.drewN m).drewN j := by
      intro m
      have h := eqBytes_any r.A d.A r.n d.n r.c d.c wr.heap.size r.xs d.xs (wr.drewN m) hrk.rd u3.rd (by unfold maxLen; omega) (by unfold maxLen; omega)
      rwa [u2, decide_eq_true rfl] at h
    replace K1 := hide K1
    replace K2 := hide K2
    clear u1 u2 u3 v1 v2 v3 hr hd he hrk hrn
    go_wp2_with fail
    go_quiet (first
      | (go_at_call 45; exact Calls.quiet_of_same ((unhide K1) _))
      | (go_at_call 17; exact Calls.quiet_of ((unhide K2) _)))
    go_wp2_with fail
    go_roundg (N - (k + 1))
    case measure => have := unhide Hgk; omega
    case rel => exact ⟨k + 1, rfl, by omega, by go_num, (unhide HS).drewN _⟩
  have d3 : decide (k < N) = false := by simp; omega
  have HX := hide (unhide HS).x
  clear hge3 HS Hgk hk
  go_wp2_with fail
  go_loopg [8] N (fun gk av wr => ∃ k : Nat, gk = N - k ∧ k ≤ N ∧ av = .int .i64 k ∧ ApX w wr base G gl R D k)
  case atStart => exact ⟨0, by omega, by omega, rfl, unhide HX⟩
  case round =>
  clear HX
  obtain ⟨k, hgk, hk, rfl, hX⟩ := hrel
  have Hgk := hide hgk
  have HX := hide hX
  clear hgk hX
  rcases Nat.lt_or_ge k N with hlt | hge4
  case inr =>
    go_wp2_with fail
    go_ret
    exact ⟨rfl, (unhide HX).bel⟩
  obtain ⟨r, hr⟩ : ∃ r, R[k]? = some r := ⟨_, List.getElem?_eq_getElem (by rw [unhide HN]; exact hlt)⟩
  have c1 := (unhide HX).all.cell (i := k) (u := .slice r.A r.n r.c) (by simp [hr])
  have hrn := (unhide Q).len _ _ hr
  have Hr := hide hr
  have hok := (unhide HX).rows _ _ (Nat.le_refl _) hr
  have hX1 := (unhide HX).next
  have Hok := hide hok
  have HX1 := hide hX1
  clear hr hok hX1 HX
  go_wp2_with fail
  go_loopg [10] r.n (fun gk av wr => ∃ (j : Nat) (ys : List UInt8), gk = r.n - j ∧ j ≤ r.n ∧ av = .int .i64 j ∧ ApX w wr base G gl R D (k + 1) ∧ RB.ok ⟨r.A, r.n, r.c, ys⟩ wr base)
  case atStart => exact ⟨0, r.xs, by omega, by omega, rfl, unhide HX1, unhide Hok⟩
  case round =>
  clear HX1 Hok c1
  obtain ⟨j, ys, hgj, hj, rfl, hX1, hok⟩ := hrel
  have Hgj := hide hgj
  have HX1 := hide hX1
  have Hok := hide hok
  clear hgj hX1 hok
  rcases Nat.lt_or_ge j r.n with hjlt | hjge
  case inl =>
    have hown : _ := unhide Hok
    unfold RB.ok RB.v at hown
    simp only at hown
    have hyl : ys.length = r.n := by have := hown.1; simpa [bys] using this
    obtain ⟨g, hA, hg1, hg2⟩ := own_some hown (by omega)
    obtain ⟨x, hx⟩ : ∃ x, ys[j]? = some x := ⟨_, List.getElem?_eq_getElem (by rw [hyl]; exact hjlt)⟩
    rw [hA] at hown
    have z1 := own_free hown j
    have z2 := own_cell hown (bys_at hx)
    obtain ⟨y, hy⟩ := xor_u8 x
    have hset := own_set (i := j) hown (.int .u8 y.toNat)
    rw [bys_set] at hset
    have hXs := (unhide HX1).set (g := g) (o := j) (unhide Q) (unhide Hr) (by show (Value.slice r.A r.n r.c).ownBlock = some g; rw [hA]; rfl) (.int .u8 y.toNat)
    have HXs := hide hXs
    have HA := hide hA
    have Hset := hide hset
    rw [hA]
    clear hown hyl hx hXs hset hA HX1 Hok
    go_wp2_with fail
    rw [← unhide HA]
    go_roundg (r.n - (j + 1))
    case measure => have := unhide Hgj; omega
    case rel => exact ⟨j + 1, ys.set j y, rfl, by omega, by go_num, unhide HXs, by show World.ownsRow _ _ _ _ (Value.slice r.A r.n r.c) _ _; rw [unhide HA]; exact unhide Hset⟩
  have d4 : decide (j < r.n) = false := by simp; omega
  clear hjge Hok Hgj hj
  go_wp2_with fail
  go_loopg [11] (N - (k + 1)) (fun gk av wr => ∃ o : Nat, gk = N - o ∧ k + 1 ≤ o ∧ o ≤ N ∧ av = .int .i64 o ∧ ApX w wr base G gl R D (k + 1))
  case atStart => exact ⟨k + 1, by omega, by omega, by omega, by go_num, unhide HX1⟩
  case round =>
  clear HX1
  obtain ⟨o, hgo, hko, ho, rfl, hX1⟩ := hrel
  have Hgo := hide hgo
  have HX1 := hide hX1
  clear hgo hX1
  rcases Nat.lt_or_ge o N with holt | hoge
  case inl =>
    obtain ⟨s, hs⟩ : ∃ s, R[o]? = some s := ⟨_, List.getElem?_eq_getElem (by rw [unhide HN]; exact holt)⟩
    obtain ⟨d, hd⟩ : ∃ d, D[o]? = some d := ⟨_, List.getElem?_eq_getElem (by rw [unhide HDN]; exact holt)⟩
    obtain ⟨u1, u2, u3⟩ := (unhide HX1).ds _ _ _ hd hs
    have hsk := (unhide HX1).rows _ _ hko hs
    have hsn := (unhide Q).len _ _ hs
    have c1 := (unhide HX1).all.cell (i := o) (u := s.v) (by simp [hs])
    have c2 := own_cell (unhide HX1).was (done_at hd)
    have K2 : ∀ m, Calls Try.prog 17 #[.slice s.A s.n s.c, .slice d.A d.n d.c] (wr.drewN m) fun e w' => e = .returned (.bool true) ∧ ∃ j, w' = (wr.drewN m).drewN j := by
      intro m
      have h := eqBytes_any s.A d.A s.n d.n s.c d.c wr.heap.size s.xs d.xs (wr.drewN m) hsk.rd u3.rd (by unfold maxLen; omega) (by unfold maxLen; omega)
      rwa [u2, decide_eq_true rfl] at h
    replace K2 := hide K2
    clear u1 u2 u3 hs hd hsk hsn
    go_wp2_with fail
    go_quiet ((go_at_call 17; exact Calls.quiet_of ((unhide K2) _)))
    go_wp2_with fail
    go_roundg (N - (o + 1))
    case measure => have := unhide Hgo; omega
    case rel => exact ⟨o + 1, rfl, by omega, by omega, by go_num, (unhide HX1).drewN _⟩
  have d5 : decide (o < N) = false := by simp; omega
  clear hoge Hgo hko ho
  go_wp2_with fail
  go_roundg (N - (k + 1))
  case measure => have := unhide Hgk; omega
  case rel => exact ⟨k + 1, rfl, by omega, by go_num, unhide HX1⟩
end Go.Proofs.Yteiciabhfjakgaa
namespace Go.Proofs.Yteiciabhfjakgaa
set_option linter.unusedVariables false
set_option linter.unusedSimpArgs false
open Go.RowKit

/-- Three rows, made in this order. -/
theorem ApG.up3 {w : World} {base b2 b3 : Nat} {r1 r2 r3 : RB} (h1 : r1.ok w base) (h2 : r2.ok w b2) (h3 : r3.ok w b3) (hb : base ≤ b2) (hb2 : b2 ≤ b3) (hb3 : b3 ≤ w.heap.size)
    (l1 : ∀ g, r1.v.ownBlock = some g → g < b2) (l2 : ∀ g, r2.v.ownBlock = some g → g < b3) (n1 : r1.n ≤ 4294967296) (n2 : r2.n ≤ 4294967296) (n3 : r3.n ≤ 4294967296) :
    ApG (w.alloc (.cells #[r1.v, r2.v, r3.v] 36)) base w.heap.size [r1, r2, r3] := by
  have hbl : Below w.heap.size w (w.alloc (.cells #[r1.v, r2.v, r3.v] 36)) := (Below.refl _ _).alloc (Nat.le_refl _) _
  have hi : ∀ (j : Nat) r, [r1, r2, r3][j]? = some r → (j = 0 ∧ r = r1) ∨ (j = 1 ∧ r = r2) ∨ (j = 2 ∧ r = r3) := by
    intro j r h
    match j with
    | 0 => exact .inl ⟨rfl, by simpa using h.symm⟩
    | 1 => exact .inr (.inl ⟨rfl, by simpa using h.symm⟩)
    | 2 => exact .inr (.inr ⟨rfl, by simpa using h.symm⟩)
    | k + 3 => simp at h
  have lt1 : ∀ g, r1.v.ownBlock = some g → base ≤ g ∧ g < b2 := fun g hg => ⟨h1.lo hg, l1 g hg⟩
  have lt2 : ∀ g, r2.v.ownBlock = some g → b2 ≤ g ∧ g < b3 := fun g hg => ⟨h2.lo hg, l2 g hg⟩
  have lt3 : ∀ g, r3.v.ownBlock = some g → b3 ≤ g ∧ g < w.heap.size := fun g hg => h3.lt g hg
  refine ⟨by simp; omega, heap_alloc_new _ _, fun j r h => ?_, fun j r h => ?_, fun j r h e => ?_, fun i j r s hr hs hij g hg e => ?_, by simp⟩
  · rcases hi j r h with ⟨_, rfl⟩ | ⟨_, rfl⟩ | ⟨_, rfl⟩
    · exact own_below h1 hbl
    · exact own_base (own_below h2 hbl) hb
    · exact own_base (own_below h3 hbl) (Nat.le_trans hb hb2)
  · rcases hi j r h with ⟨_, rfl⟩ | ⟨_, rfl⟩ | ⟨_, rfl⟩ <;> assumption
  · rcases hi j r h with ⟨_, rfl⟩ | ⟨_, rfl⟩ | ⟨_, rfl⟩
    · have := lt1 _ e; omega
    · have := lt2 _ e; omega
    · have := lt3 _ e; omega
  · rcases hi i r hr with ⟨a, rfl⟩ | ⟨a, rfl⟩ | ⟨a, rfl⟩ <;> rcases hi j s hs with ⟨b, rfl⟩ | ⟨b, rfl⟩ | ⟨b, rfl⟩
    · omega
    · have := lt1 _ hg; have := lt2 _ e; omega
    · have := lt1 _ hg; have := lt3 _ e; omega
    · have := lt2 _ hg; have := lt1 _ e; omega
    · omega
    · have := lt2 _ hg; have := lt3 _ e; omega
    · have := lt3 _ hg; have := lt1 _ e; omega
    · have := lt3 _ hg; have := lt2 _ e; omega
    · omega
end Go.Proofs.Yteiciabhfjakgaa
namespace Go.Proofs.Yteiciabhfjakgaa
set_option linter.unusedVariables false
set_option linter.unusedSimpArgs false
open Go.RowKit

theorem readOf_len {F : List Vf.Nd} (h : Vf.Good F) (ino off n : Int) : (Vf.readOf F ino off n).1.length ≤ 65536 := by
  unfold Vf.readOf
  have h0 : (Vf.nd F ino.toNat).data.length ≤ 65536 := by
    unfold Vf.nd
    cases hx : F[ino.toNat]? with
    | none => simp [Vf.root]
    | some x => exact (h.size _ x hx).2.2
  split
  · simp
  · split
    · simp
    · split
      · simp
      · simp only [List.length_take, List.length_drop]; omega

/-- The law's own copy of where is read, in the world W. -/
structure AtS (w : World) (a b : Int) (W : World) : Prop where
  bel : Below w.heap.size w W
  t : Blk W w.heap.size 52 [.int .i64 a, .int .i64 b]
section
variable {w W W' : World} {a b : Int}
theorem AtS.below (h : AtS w a b W) (hb : Below W.heap.size W W') : AtS w a b W' := ⟨h.bel.trans (hb.mono h.bel.size), h.t.belowSz hb⟩
theorem AtS.drewN (h : AtS w a b W) (q : Nat) : AtS w a b (W.drewN q) := ⟨below_drewN' h.bel q, h.t⟩
theorem AtS.cells (h : AtS w a b W) : W.cell? ⟨w.heap.size, 0, none⟩ = some (.int .i64 a) ∧ W.cell? ⟨w.heap.size, 1, none⟩ = some (.int .i64 b) := ⟨h.t.cell rfl, h.t.cell rfl⟩
theorem AtS.start (w : World) (a b : Int) : AtS w a b (w.alloc (.cells #[.int .i64 a, .int .i64 b] 52)) :=
  ⟨(Below.refl _ _).alloc (Nat.le_refl _) _, Blk.new w 52 [.int .i64 a, .int .i64 b]⟩
end

set_option maxRecDepth 100000 in
set_option maxHeartbeats 4000000 in
theorem vfsReads_walk (l : List EntA) (A : Option Addr) (n c : Nat) (ino a b : Int) (w : World) (h : Rd w w.heap.size 7 A n (rowCs entVals l)) (hl : l.length = n) (hnc : n ≤ c) (hcm : c ≤ maxLen) (hin : ∀ s ∈ l, EntIn w s) :
    Calls Try.prog 5 #[.slice A n c, .int .i64 ino, .agg #[.int .i64 a, .int .i64 b]] w fun e w' => e = .returned (.bool true) ∧ Below w.heap.size w w' := by
  have S0 := hide (AtS.start w a b)
  have KL := hide (large_any l A n c w.heap.size _ (h.below (unhide S0).bel) hl (Nat.le_trans hnc hcm) (fun s hs => ⟨(hin s hs).p, Nat.le_trans (hin s hs).nc (hin s hs).c, (hin s hs).t⟩))
  have KW := hide (fun w' => works_any w')
  have H := hide h
  have Hin := hide hin
  have Hl := hide hl
  clear h hin hl
  go_enter Try.func5, Try.ntmps5
  go_wp2_with fail
  refine (unhide KL).mono ?_
  rintro e w1 ⟨lb, q, rfl, hlb, rfl⟩
  have S1 := hide ((unhide S0).drewN q)
  have Hlb := hide hlb
  clear hlb S0 KL
  generalize (w.alloc (.cells #[.int .i64 a, .int .i64 b] 52)).drewN q = W1 at *
  cases lb with
  | true =>
    go_wp2_with fail
    refine ((unhide KW) _).mono ?_
    rintro e w2 ⟨rfl, hb2⟩
    have S2 := hide ((unhide S1).below hb2)
    clear hb2
    go_wp2_with fail
    go_ret
    exact ⟨rfl, (unhide S2).bel⟩
  | false =>
  obtain ⟨hn26, hall⟩ := (unhide Hlb) (by first | rfl | trivial)
  have hfit := esFit_of (unhide Hin) hall
  have KM := made_any l A n c W1 ((unhide H).belowSz (unhide S1).bel) (unhide Hl) (fun s hs => ⟨((unhide Hin) s hs).d.belowSz (unhide S1).bel, by have := (hall s hs).2.1; omega, by have := (hall s hs).1; omega, by have := (hall s hs).2.2; omega, ((unhide Hin) s hs).m⟩) hfit hn26
  have HKM := hide KM
  clear KM hall hfit Hlb
  go_wp2_with fail
  refine (unhide HKM).mono ?_
  rintro e w4 ⟨hb4, fo, go, lo, hi, rfl, hlo, hhi, hFo, hGo⟩
  have S4 := hide ((unhide S1).below hb4)
  clear hb4 HKM S1
  rcases hFo with ⟨hne, rfl⟩ | ⟨hne, f, Af, cf, L, rfl, hFS, hF, hFl, h64⟩
  · rcases hGo with ⟨_, rfl⟩ | ⟨h0, _⟩
    case inr => exact absurd h0 hne
    clear hne hlo hhi
    go_wp2_with fail
    refine ((unhide KW) _).mono ?_
    rintro e w5 ⟨rfl, hb5⟩
    have S5 := hide ((unhide S4).below hb5)
    clear hb5
    go_wp2_with fail
    go_ret
    exact ⟨rfl, (unhide S5).bel⟩
  · rcases hGo with ⟨h0, _⟩ | ⟨_, g, Ag2, cg2, ls, rfl, hGS, hG, _, _⟩
    case inl => exact absurd hne h0
    obtain ⟨F, hFe⟩ : ∃ F, (Vf.new (l.map (·.e))).2.2 = F := ⟨_, rfl⟩
    rw [hFe] at hFS hF hFl hGS hG
    have hn65 : F.length ≤ 65 := by rw [hFl]; omega
    have hg0 := Vf.good_pos hF
    have hgsz : hi ≤ w4.heap.size := Nat.le_of_lt (Nat.lt_of_le_of_lt hGS.lo hGS.fs.lt)
    have KR1 : ∀ w', Below w4.heap.size w4 w' → ∀ ino off m : Int, Calls Try.prog 15 #[.pointer (some ⟨f, 0, none⟩), .int .i64 ino, .int .i64 off, .int .i64 m] w' (ReadVE F ino off m w') :=
      fun w' hb ino off m => read_any F L _ f cf Af ino off m w' hF (hFS.belowSz hb) hn65
    have KR2 : ∀ w', Below w4.heap.size w4 w' → ∀ ino off m : Int, Calls Try.prog 16 #[.pointer (some ⟨g, 0, none⟩), .int .i64 ino, .int .i64 off, .int .i64 m] w' (ReadVE F ino off m w') :=
      fun w' hb ino off m => rread_any F ls _ g cg2 Ag2 ino off m w' hG (hGS.keep (fun k _ hk => hb.block k hk)) hn65 (Nat.le_trans hgsz hb.size)
    have HKR1 := hide KR1
    have HKR2 := hide KR2
    have hDl := readOf_len hF ino a b
    have hEl := readOf_len hF ino 0 131072
    have KA := fun w' hb => (unhide HKR1) w' hb ino a b
    have KB := fun w' hb => (unhide HKR2) w' hb ino a b
    have KD := fun w' hb => (unhide HKR1) w' hb ino 0 131072
    unfold ReadVE at KA KB KD
    obtain ⟨⟨D, er⟩, hD⟩ : ∃ r, Vf.readOf F ino a b = r := ⟨_, rfl⟩
    obtain ⟨⟨E, es⟩, hE⟩ : ∃ r, Vf.readOf F ino 0 131072 = r := ⟨_, rfl⟩
    rw [hD] at KA KB hDl
    rw [hE] at KD hEl
    dsimp only at KA KB KD hDl hEl
    have HKA := hide KA
    have HKB := hide KB
    have HKD := hide KD
    obtain ⟨t0, t1⟩ := (unhide S4).cells
    clear KA KB KD KR1 KR2 HKR1 HKR2 hD hE hFS hF hFl hGS hG h64 hne hFe hlo hhi hg0 hgsz hn65
    go_wp2_with fail
    refine ((unhide HKA) _ (Below.refl _ _)).mono ?_
    rintro e w5 ⟨A5, c5, rfl, ho5, hb5⟩
    have S5 := hide ((unhide S4).below hb5)
    have Hb5 := hide hb5
    have Ho5 := hide ho5
    clear t0 t1 hb5 ho5
    obtain ⟨t0, t1⟩ := (unhide S5).cells
    go_wp2_with fail
    refine ((unhide HKB) _ (unhide Hb5)).mono ?_
    rintro e w6 ⟨A6, c6, rfl, ho6, hb6⟩
    have S6 := hide ((unhide S5).below hb6)
    have Hb6 := hide ((unhide Hb5).trans (hb6.mono (unhide Hb5).size))
    have Ho5' := hide (own_below (unhide Ho5) hb6)
    have hl5 : ∀ g, (Value.slice A5 D.length c5).ownBlock = some g → g < w6.heap.size := fun g hg => Nat.lt_of_lt_of_le ((unhide Ho5).lt g hg).2 hb6.size
    have Hl5 := hide hl5
    have KE := hide (eqBytes_any A5 A6 D.length D.length c5 c6 w6.heap.size D D w6 (Rd.of_own (unhide Ho5')) (Rd.of_own ho6) (by unfold maxLen; omega) (by unfold maxLen; omega))
    have hdd : decide (D = D) = true := decide_eq_true rfl
    rw [hdd] at KE
    have r0 : (er != er) = false := by simp
    clear t0 t1 hb6 ho6 Ho5 hl5 hdd
    go_wp2_with fail
    refine (unhide KE).mono ?_
    rintro e w7 ⟨rfl, j, rfl⟩
    have S7 := hide ((unhide S6).drewN j)
    have Hb7 := hide (below_drewN' (unhide Hb6) j)
    have Ho7 := hide (own_drewN (unhide Ho5') j)
    have hl7 : ∀ g, (Value.slice A5 D.length c5).ownBlock = some g → g < (w6.drewN j).heap.size := unhide Hl5
    have Hl7 := hide hl7
    clear S6 Hb6 Ho5' Hl5 KE hl7 r0
    generalize w6.drewN j = w7 at *
    obtain ⟨t0, t1⟩ := (unhide S7).cells
    go_wp2_with fail
    refine ((unhide HKA) _ (unhide Hb7)).mono ?_
    rintro e w8 ⟨A8, c8, rfl, ho8, hb8⟩
    have S8 := hide ((unhide S7).below hb8)
    have Hb8 := hide ((unhide Hb7).trans (hb8.mono (unhide Hb7).size))
    have Ho8 := hide ho8
    have Hb78 := hide hb8
    clear t0 t1 hb8 ho8
    go_wp2_with fail
    refine ((unhide HKD) _ (unhide Hb8)).mono ?_
    rintro e w9 ⟨A9, c9, rfl, ho9, hb9⟩
    have S9 := hide ((unhide S8).below hb9)
    have q9 := ApG.up3 (w := w9) (base := w4.heap.size) (b2 := w7.heap.size) (b3 := w8.heap.size) (r1 := ⟨A5, D.length, c5, D⟩) (r2 := ⟨A8, D.length, c8, D⟩) (r3 := ⟨A9, E.length, c9, E⟩) (own_below (own_below (unhide Ho7) (unhide Hb78)) hb9) (own_below (unhide Ho8) hb9) ho9 (unhide Hb7).size (unhide Hb78).size hb9.size (unhide Hl7) (fun g hg => ((unhide Ho8).lt g hg).2) (by show D.length ≤ _; omega) (by show D.length ≤ _; omega) (by show E.length ≤ _; omega)
    have KP := hide (apart_any _ _ 3 _ _ q9 rfl)
    have hsz9 := (unhide S4).bel.size
    have Hsz9 := hide hsz9
    have HB9 := hide (((unhide S9).bel).alloc (unhide S9).bel.size (.cells #[.slice A5 D.length c5, .slice A8 D.length c8, .slice A9 E.length c9] 36))
    clear hb9 ho9 q9 hsz9
    go_wp2_with fail
    refine (unhide KP).mono ?_
    rintro e w10 ⟨rfl, hb10⟩
    have Hb10 := hide ((unhide HB9).trans (hb10.mono (unhide Hsz9)))
    clear hb10 KP
    go_wp2_with fail
    refine ((unhide KW) _).mono ?_
    rintro e w11 ⟨rfl, hb11⟩
    have Hb11 := hide ((unhide Hb10).trans (hb11.mono (unhide Hb10).size))
    clear hb11
    go_wp2_with fail
    go_ret
    exact ⟨rfl, unhide Hb11⟩
end Go.Proofs.Yteiciabhfjakgaa
namespace Go.Proofs.Yteiciabhfjakgaa
set_option linter.unusedVariables false
set_option linter.unusedSimpArgs false
open Go.RowKit

structure BelS (w W : World) : Prop where
  bel : Below w.heap.size w W
theorem BelS.below {w W W' : World} (h : BelS w W) (hb : Below W.heap.size W W') : BelS w W' := ⟨h.bel.trans (hb.mono h.bel.size)⟩
set_option maxRecDepth 100000 in
set_option maxHeartbeats 4000000 in
theorem vfsNews_walk (l : List EntA) (A : Option Addr) (n c : Nat) (more : Int) (w : World) (h : Rd w w.heap.size 7 A n (rowCs entVals l)) (hl : l.length = n) (hnc : n ≤ c) (hcm : c ≤ maxLen) (hin : ∀ s ∈ l, EntIn w s) :
    Calls Try.prog 3 #[.slice A n c, .int .i64 more] w fun e w' => e = .returned (.bool true) ∧ Below w.heap.size w w' := by
  have KL := hide (large_any l A n c w.heap.size w h hl (Nat.le_trans hnc hcm) (fun s hs => ⟨(hin s hs).p, Nat.le_trans (hin s hs).nc (hin s hs).c, (hin s hs).t⟩))
  have KW := hide (fun w' => works_any w')
  have H := hide h
  have Hin := hide hin
  have Hl := hide hl
  clear h hin hl
  go_enter Try.func3, Try.ntmps3
  go_wp2_with fail
  refine (unhide KL).mono ?_
  rintro e w1 ⟨lb, q, rfl, hlb, rfl⟩
  have S1 := hide (BelS.mk (below_drewN' (Below.refl w.heap.size w) q))
  have Hlb := hide hlb
  clear hlb KL
  generalize w.drewN q = W1 at *
  cases lb with
  | true =>
    go_wp2_with fail
    refine ((unhide KW) _).mono ?_
    rintro e w2 ⟨rfl, hb2⟩
    have S2 := hide ((unhide S1).below hb2)
    clear hb2
    go_wp2_with fail
    go_ret
    exact ⟨rfl, (unhide S2).bel⟩
  | false =>
  obtain ⟨hn26, hall⟩ := (unhide Hlb) (by first | rfl | trivial)
  have hfit := esFit_of (unhide Hin) hall
  have KM := made_any l A n c W1 ((unhide H).belowSz (unhide S1).bel) (unhide Hl) (fun s hs => ⟨((unhide Hin) s hs).d.belowSz (unhide S1).bel, by have := (hall s hs).2.1; omega, by have := (hall s hs).1; omega, by have := (hall s hs).2.2; omega, ((unhide Hin) s hs).m⟩) hfit hn26
  have HKM := hide KM
  clear KM hall hfit Hlb
  go_wp2_with fail
  refine (unhide HKM).mono ?_
  rintro e w4 ⟨hb4, fo, go, lo, hi, rfl, hlo, hhi, hFo, hGo⟩
  have S4 := hide ((unhide S1).below hb4)
  clear hb4 HKM S1
  rcases hFo with ⟨hne, rfl⟩ | ⟨hne, f, Af, cf, L, rfl, hFS, hF, hFl, h64⟩
  · rcases hGo with ⟨_, rfl⟩ | ⟨h0, _⟩
    case inr => exact absurd h0 hne
    clear hne hlo hhi
    go_wp2_with fail
    refine ((unhide KW) _).mono ?_
    rintro e w5 ⟨rfl, hb5⟩
    have S5 := hide ((unhide S4).below hb5)
    clear hb5
    go_wp2_with fail
    go_ret
    exact ⟨rfl, (unhide S5).bel⟩
  · rcases hGo with ⟨h0, _⟩ | ⟨_, g, Ag2, cg2, ls, rfl, hGS, hG, _, _⟩
    case inl => exact absurd hne h0
    obtain ⟨F, hFe⟩ : ∃ F, (Vf.new (l.map (·.e))).2.2 = F := ⟨_, rfl⟩
    rw [hFe] at hFS hF hFl hGS hG
    have hn65 : F.length ≤ 65 := by rw [hFl]; omega
    have hg0 := Vf.good_pos hF
    have hgsz : hi ≤ w4.heap.size := Nat.le_of_lt (Nat.lt_of_le_of_lt hGS.lo hGS.fs.lt)
    have KR1 : ∀ w', Below w4.heap.size w4 w' → ∀ ino off m : Int, Calls Try.prog 15 #[.pointer (some ⟨f, 0, none⟩), .int .i64 ino, .int .i64 off, .int .i64 m] w' (ReadVE F ino off m w') :=
      fun w' hb ino off m => read_any F L _ f cf Af ino off m w' hF (hFS.belowSz hb) hn65
    have KR2 : ∀ w', Below w4.heap.size w4 w' → ∀ ino off m : Int, Calls Try.prog 16 #[.pointer (some ⟨g, 0, none⟩), .int .i64 ino, .int .i64 off, .int .i64 m] w' (ReadVE F ino off m w') :=
      fun w' hb ino off m => rread_any F ls _ g cg2 Ag2 ino off m w' hG (hGS.keep (fun k _ hk => hb.block k hk)) hn65 (Nat.le_trans hgsz hb.size)
    have HKR1 := hide KR1
    have HKR2 := hide KR2
    have KM1 : ∀ w', Below w4.heap.size w4 w' → ∀ ino : Int, Calls Try.prog 13 #[.pointer (some ⟨f, 0, none⟩), .int .i64 ino] w' fun e w5 => e = .returned (.tuple #[metaV (Vf.metaOf F ino).1, .int .i64 (Vf.metaOf F ino).2]) ∧ Below w'.heap.size w' w5 :=
      fun w' hb ino => meta_any F L f cf _ Af ino w' (hFS.belowSz hb).toR (Nat.le_refl _) hn65 hF.kind
    have KM2 : ∀ w', Below w4.heap.size w4 w' → ∀ ino : Int, Calls Try.prog 14 #[.pointer (some ⟨g, 0, none⟩), .int .i64 ino] w' fun e w5 => e = .returned (.tuple #[metaV (Vf.metaOf F ino).1, .int .i64 (Vf.metaOf F ino).2]) ∧ Below w'.heap.size w' w5 :=
      fun w' hb ino => rmeta_any F ls _ g cg2 Ag2 ino w' (hGS.keep (fun k _ hk => hb.block k hk)) hn65 hg0
    have KP1 : ∀ w', Below w4.heap.size w4 w' → ∀ ino : Int, Calls Try.prog 18 #[.pointer (some ⟨f, 0, none⟩), .int .i64 ino] w' fun e w5 => e = .returned (.string (Vf.pathOf F ino)) ∧ Below w'.heap.size w' w5 :=
      fun w' hb ino => path_any F L _ f cf Af ino w' hF (hFS.belowSz hb) hn65
    have KP2 : ∀ w', Below w4.heap.size w4 w' → ∀ ino : Int, Calls Try.prog 19 #[.pointer (some ⟨g, 0, none⟩), .int .i64 ino] w' fun e w5 => e = .returned (.string (Vf.pathOf F ino)) ∧ w' = w5 :=
      fun w' hb ino => rpath_any F ls _ g cg2 Ag2 ino w' hG (hGS.keep (fun k _ hk => hb.block k hk)) hn65
    have hRl : ∀ ino : Int, (Vf.readOf F ino 0 131072).1.length ≤ 65536 := fun ino => readOf_len hF ino 0 131072
    unfold metaV at KM1 KM2
    have HKM1 := hide KM1
    have HKM2 := hide KM2
    have HKP1 := hide KP1
    have HKP2 := hide KP2
    have HRl := hide hRl
    have hn64 : n ≤ 64 := by have := unhide Hl; simpa [this] using h64
    clear KM1 KM2 KP1 KP2 KR1 KR2 hRl hFS hF hFl hGS hG h64 hne hFe hlo hhi hg0 hgsz hn65 hn26
    go_wp2_with fail
    go_loopg [8] (n + 3) (fun gk iv wr => ∃ z : Int, gk = (n + 2 - z).toNat ∧ -1 ≤ z ∧ z ≤ n + 2 ∧ iv = .int .i64 z ∧ Below w4.heap.size w4 wr)
    case atStart => exact ⟨-1, by omega, by omega, by omega, rfl, Below.refl _ _⟩
    case round =>
    obtain ⟨z, hgk, hz1, hz2, rfl, hbr⟩ := hrel
    have Hgk := hide hgk
    have Hbr := hide hbr
    clear hgk hbr
    by_cases hlt : z ≤ n + 1
    case neg =>
      have i1 : ¬ z ≤ (n : Int) + 1 := by omega
      have KM1 := fun w' (hb : Below w4.heap.size w4 w') => (unhide HKM1) w' hb more
      have KM2 := fun w' (hb : Below w4.heap.size w4 w') => (unhide HKM2) w' hb more
      have KP1 := fun w' (hb : Below w4.heap.size w4 w') => (unhide HKP1) w' hb more
      have KP2 := fun w' (hb : Below w4.heap.size w4 w') => (unhide HKP2) w' hb more
      obtain ⟨⟨⟨mk, mm, mu, mg, ms⟩, me⟩, hm⟩ : ∃ r, Vf.metaOf F more = r := ⟨_, rfl⟩
      obtain ⟨pp, hpp⟩ : ∃ r, Vf.pathOf F more = r := ⟨_, rfl⟩
      rw [hm] at KM1 KM2
      rw [hpp] at KP1 KP2
      dsimp only at KM1 KM2
      have K1 := hide KM1
      have K2 := hide KM2
      have K3 := hide KP1
      have K4 := hide KP2
      clear KM1 KM2 KP1 KP2 hm hpp hlt
      go_wp2_with fail
      refine ((unhide K1) _ (unhide Hbr)).mono ?_
      rintro e w5 ⟨rfl, hb5⟩
      have Hb5 := hide ((unhide Hbr).trans ((hb5.alloc hb5.size (.cells #[.int .u8 (mk : Nat), .int .u16 (mm : Nat), .int .u32 (mu : Nat), .int .u32 (mg : Nat), .int .i64 (ms : Nat)] 32)).mono (unhide Hbr).size))
      clear hb5
      go_wp2_with fail
      refine ((unhide K2) _ (unhide Hb5)).mono ?_
      rintro e w6 ⟨rfl, hb6⟩
      have Hb6 := hide ((unhide Hb5).trans ((hb6.alloc hb6.size (.cells #[.int .u8 (mk : Nat), .int .u16 (mm : Nat), .int .u32 (mu : Nat), .int .u32 (mg : Nat), .int .i64 (ms : Nat)] 32)).mono (unhide Hb5).size))
      clear hb6
      have r1 : (me == me) = true := by simp
      go_wp2_with fail
      refine ((unhide K3) _ (unhide Hb6)).mono ?_
      rintro e w7 ⟨rfl, hb7⟩
      have Hb7 := hide ((unhide Hb6).trans (hb7.mono (unhide Hb6).size))
      clear hb7
      go_wp2_with fail
      refine ((unhide K4) _ (unhide Hb7)).mono ?_
      rintro e w8 ⟨rfl, rfl⟩
      go_wp2_with fail
      refine ((unhide KW) _).mono ?_
      rintro e w9 ⟨rfl, hb9⟩
      have Hb9 := hide ((unhide S4).below ((unhide Hb7).trans (hb9.mono (unhide Hb7).size))).bel
      clear hb9
      go_wp2_with fail
      go_ret
      exact ⟨rfl, unhide Hb9⟩
    have i1 : z ≤ (n : Int) + 1 := by omega
    have hRl := (unhide HRl) z
    have KM1 := fun w' (hb : Below w4.heap.size w4 w') => (unhide HKM1) w' hb z
    have KM2 := fun w' (hb : Below w4.heap.size w4 w') => (unhide HKM2) w' hb z
    have KP1 := fun w' (hb : Below w4.heap.size w4 w') => (unhide HKP1) w' hb z
    have KP2 := fun w' (hb : Below w4.heap.size w4 w') => (unhide HKP2) w' hb z
    have KR1 := fun w' (hb : Below w4.heap.size w4 w') => (unhide HKR1) w' hb z 0 131072
    have KR2 := fun w' (hb : Below w4.heap.size w4 w') => (unhide HKR2) w' hb z 0 131072
    unfold ReadVE at KR1 KR2
    obtain ⟨⟨⟨mk, mm, mu, mg, ms⟩, me⟩, hm⟩ : ∃ r, Vf.metaOf F z = r := ⟨_, rfl⟩
    obtain ⟨pp, hpp⟩ : ∃ r, Vf.pathOf F z = r := ⟨_, rfl⟩
    obtain ⟨⟨D, er⟩, hD⟩ : ∃ r, Vf.readOf F z 0 131072 = r := ⟨_, rfl⟩
    rw [hm] at KM1 KM2
    rw [hpp] at KP1 KP2
    rw [hD] at KR1 KR2 hRl
    dsimp only at KM1 KM2 KR1 KR2 hRl
    have K1 := hide KM1
    have K2 := hide KM2
    have K3 := hide KP1
    have K4 := hide KP2
    have K5 := hide KR1
    have K6 := hide KR2
    clear KM1 KM2 KP1 KP2 KR1 KR2 hm hpp hD hlt
    go_wp2_with fail
    refine ((unhide K1) _ (unhide Hbr)).mono ?_
    rintro e w5 ⟨rfl, hb5⟩
    have Hb5 := hide ((unhide Hbr).trans ((hb5.alloc hb5.size (.cells #[.int .u8 (mk : Nat), .int .u16 (mm : Nat), .int .u32 (mu : Nat), .int .u32 (mg : Nat), .int .i64 (ms : Nat)] 32)).mono (unhide Hbr).size))
    have HM5 := hide (Blk.new w5 32 [.int .u8 (mk : Nat), .int .u16 (mm : Nat), .int .u32 (mu : Nat), .int .u32 (mg : Nat), .int .i64 (ms : Nat)])
    clear hb5
    go_wp2_with fail
    refine ((unhide K2) _ (unhide Hb5)).mono ?_
    rintro e w6 ⟨rfl, hb6⟩
    have hb6' := hb6.alloc hb6.size (.cells #[.int .u8 (mk : Nat), .int .u16 (mm : Nat), .int .u32 (mu : Nat), .int .u32 (mg : Nat), .int .i64 (ms : Nat)] 32)
    have Hb6 := hide ((unhide Hb5).trans (hb6'.mono (unhide Hb5).size))
    have HM6 := hide ((unhide HM5).belowSz hb6')
    have HN6 := hide (Blk.new w6 32 [.int .u8 (mk : Nat), .int .u16 (mm : Nat), .int .u32 (mu : Nat), .int .u32 (mg : Nat), .int .i64 (ms : Nat)])
    clear hb6 hb6' HM5
    go_wp2_with fail
    refine ((unhide K5) _ (unhide Hb6)).mono ?_
    rintro e w7 ⟨A7, c7, rfl, ho7, hb7⟩
    have Hb7 := hide ((unhide Hb6).trans (hb7.mono (unhide Hb6).size))
    have HM7 := hide ((unhide HM6).belowSz hb7)
    have HN7 := hide ((unhide HN6).belowSz hb7)
    have Ho7 := hide ho7
    clear hb7 HM6 HN6 ho7
    go_wp2_with fail
    refine ((unhide K6) _ (unhide Hb7)).mono ?_
    rintro e w8 ⟨A8, c8, rfl, ho8, hb8⟩
    have Hb8 := hide ((unhide Hb7).trans (hb8.mono (unhide Hb7).size))
    have HM8 := hide ((unhide HM7).belowSz hb8)
    have HN8 := hide ((unhide HN7).belowSz hb8)
    have KE := hide (eqBytes_any A7 A8 D.length D.length c7 c8 w8.heap.size D D w8 (Rd.of_own (own_below (unhide Ho7) hb8)) (Rd.of_own ho8) (by unfold maxLen; omega) (by unfold maxLen; omega))
    have hdd : decide (D = D) = true := decide_eq_true rfl
    rw [hdd] at KE
    clear hb8 HM7 HN7 Ho7 ho8 hdd
    obtain ⟨x0, x1, x2, x3, x4⟩ : w8.cell? ⟨w5.heap.size, 0, none⟩ = some (.int .u8 (mk : Nat)) ∧ w8.cell? ⟨w5.heap.size, 1, none⟩ = some (.int .u16 (mm : Nat)) ∧ w8.cell? ⟨w5.heap.size, 2, none⟩ = some (.int .u32 (mu : Nat)) ∧ w8.cell? ⟨w5.heap.size, 3, none⟩ = some (.int .u32 (mg : Nat)) ∧ w8.cell? ⟨w5.heap.size, 4, none⟩ = some (.int .i64 (ms : Nat)) := ⟨(unhide HM8).cell rfl, (unhide HM8).cell rfl, (unhide HM8).cell rfl, (unhide HM8).cell rfl, (unhide HM8).cell rfl⟩
    obtain ⟨y0, y1, y2, y3, y4⟩ : w8.cell? ⟨w6.heap.size, 0, none⟩ = some (.int .u8 (mk : Nat)) ∧ w8.cell? ⟨w6.heap.size, 1, none⟩ = some (.int .u16 (mm : Nat)) ∧ w8.cell? ⟨w6.heap.size, 2, none⟩ = some (.int .u32 (mu : Nat)) ∧ w8.cell? ⟨w6.heap.size, 3, none⟩ = some (.int .u32 (mg : Nat)) ∧ w8.cell? ⟨w6.heap.size, 4, none⟩ = some (.int .i64 (ms : Nat)) := ⟨(unhide HN8).cell rfl, (unhide HN8).cell rfl, (unhide HN8).cell rfl, (unhide HN8).cell rfl, (unhide HN8).cell rfl⟩
    have r0 : (er != er) = false := by simp
    have r1 : (me != me) = false := by simp
    clear HM8 HN8
    go_wp2_with fail
    refine (unhide KE).mono ?_
    rintro e w9 ⟨rfl, j, rfl⟩
    have Hb9 := hide (below_drewN' (unhide Hb8) j)
    clear KE x0 x1 x2 x3 x4 y0 y1 y2 y3 y4 Hb8
    generalize w8.drewN j = w9 at *
    go_wp2_with fail
    refine ((unhide K3) _ (unhide Hb9)).mono ?_
    rintro e w10 ⟨rfl, hb10⟩
    have Hb10 := hide ((unhide Hb9).trans (hb10.mono (unhide Hb9).size))
    clear hb10
    go_wp2_with fail
    refine ((unhide K4) _ (unhide Hb10)).mono ?_
    rintro e w11 ⟨rfl, rfl⟩
    go_wp2_with fail
    go_roundg ((n + 2 - (z + 1)).toNat)
    case measure => have := unhide Hgk; omega
    case rel => exact ⟨z + 1, rfl, by omega, by omega, by go_num, unhide Hb10⟩
end Go.Proofs.Yteiciabhfjakgaa
namespace Go.Proofs.Yteiciabhfjakgaa
set_option linter.unusedVariables false
set_option linter.unusedSimpArgs false
open Go.RowKit Go.ChangeShapes Go.WideShapes Go.Joins Go.Deep

theorem wayFields : ∃ fs, Try.prog.underlying 46 = some (.struct fs) ∧ oneCellFields Try.prog fs = true ∧ Try.prog.cellsOf 46 = fs.size ∧ fs.map (·.type) = #[3, 9, 4] :=
  ⟨_, Try.underlying46, by kernel_rfl, by kernel_rfl, by kernel_rfl⟩
set_option maxRecDepth 100000 in
theorem open_way_rd {H : Type} {enc : TypeId × Value → H} {w : World} {base : Nat} {held : Bool} {r : Reach} {b0 : Nat} {v : Value} {d : DataW H} {p : List MemPlace} (hv : Value.okWide Try.prog w r b0 46 v) (h : DataW.Trod enc Try.prog w base (fun _ => true) held 46 v d p) :
    ∃ (src : Int) (path : ByteArray) (last : Bool), v = .agg #[.int .i64 src, .string path, .bool last] ∧ (-9223372036854775808 ≤ src ∧ src ≤ 9223372036854775807) ∧ path.size ≤ maxLen := by
  obtain ⟨cs, rfl, hsz⟩ := okWide_struct Try.underlying46 hv
  obtain ⟨fuel, hf⟩ := h
  obtain ⟨hl, n, hf⟩ := flds_vals _ wayFields hf
  have e2 : ∃ c0 c1 c2, cs = #[c0, c1, c2] := by
    obtain ⟨l⟩ := cs
    match l, hl with
    | [c0, c1, c2], _ => exact ⟨c0, c1, c2, rfl⟩
  obtain ⟨c0, c1, c2, rfl⟩ := e2
  obtain ⟨y0, h0⟩ := hf 0 3 c0 rfl rfl
  obtain ⟨y1, h1⟩ := hf 1 9 c1 rfl rfl
  obtain ⟨y2, h2⟩ := hf 2 4 c2 rfl rfl
  obtain ⟨a, rfl, ba⟩ := fint_is Try.underlying3 h0
  obtain ⟨s, rfl, bs⟩ := fstr_is Try.underlying9 h1
  obtain ⟨b, rfl⟩ := fbool_is Try.underlying4 h2
  exact ⟨a, s, b, rfl, ba, bs⟩
end Go.Proofs.Yteiciabhfjakgaa

