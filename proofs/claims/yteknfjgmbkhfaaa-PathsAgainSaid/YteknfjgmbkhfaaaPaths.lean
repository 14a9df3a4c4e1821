/- The walks of the package paths: what pieces, Check, Parts, Join, Base, Dir and Tail compute, of any text. Condition: the texts are no longer than the model's greatest length. -/
import Derived.Test.YteknfjgmbkhfaaaApp
import Derived.Test.YteknfjgmbkhfaaaPathsPure
import Derived.Test.YteknfjgmbkhfaaaProg
import Derived.Test.YteknfjgmbkhfaaaShelf
import Derived.Lib.IndexAny
import Derived.WalkLawsBesides
import Derived.WalkSpells
import Derived.Deep.RegionWith
namespace Go.Proofs.Yteknfjgmbkhfaaa
set_option linter.unusedVariables false
set_option linter.unusedSimpArgs false
open Go.RowKit Go.Lib

/-- Nothing below B, and no block that is no iterator of a text, has turned. -/
structure ItKp (B : Nat) (w w' : World) : Prop where
  os : w'.os = w.os
  tape : w'.tape = w.tape
  output : w'.output = w.output
  size : w.heap.size ≤ w'.heap.size
  low : ∀ k, k < B → w'.heap[k]? = w.heap[k]?
  rest : ∀ (k : Nat) (o : Obj), w.heap[k]? = some o → (∀ s p, o ≠ .stringIter s p) → w'.heap[k]? = some o

def IterKept (w w' : World) : Prop := ∀ (k : Nat) (s : ByteArray) (p : Nat), w.heap[k]? = some (.stringIter s p) → w'.heap[k]? = some (.stringIter s p)

theorem ItKp.iter {B : Nat} {w : World} (hB : B ≤ w.heap.size) (s : ByteArray) (p : Nat) : ItKp B w (w.iter s p) :=
  ⟨rfl, rfl, rfl, by simp [World.iter], fun k hk => Below.heap_alloc _ _ _ (by omega), fun k o h _ => by
    rw [← h]
    exact Below.heap_alloc _ _ _ (Array.getElem?_eq_some_iff.1 h).1⟩

theorem ItKp.iterAt {B : Nat} {w : World} {k : Nat} (hB : B ≤ k) (s : ByteArray) (p q : Nat) (h : w.heap[k]? = some (.stringIter s q)) : ItKp B w (w.iterAt k s p) :=
  ⟨rfl, rfl, rfl, by rw [iterAt_size]; exact Nat.le_refl _, fun j hj => iterAt_other _ _ _ _ _ (by omega), fun j o hj hn => by
    by_cases e : j = k
    · subst e
      rw [h] at hj
      exact absurd (Option.some.inj hj).symm (hn _ _)
    · rw [iterAt_other _ _ _ _ _ e]
      exact hj⟩

set_option maxHeartbeats 800000 in
/-- pieces hands each text between slashes to yield, till that says no. -/
theorem pieces_any {S : Type} (fn : FuncId) (c : Value) (I : Nat → S → World → Prop) (step : S → ByteArray → S × Bool) (B : Nat) (p : ByteArray) (hp : p.size ≤ maxLen)
    (hf : ∀ (args : Array Value) (w : World), (callFunc fn args).run Try.prog w = .ok (.enter fn args) w)
    (hI : ∀ n s w w', ItKp B w w' → I n s w → I n s w')
    (hcall : ∀ n s w (x : ByteArray), n ≤ p.size → x.size ≤ p.size → I n s w → Calls Try.prog fn #[.string x, c] w fun e w' => e = .returned (.bool (step s x).2) ∧ I (n + 1) (step s x).1 w' ∧ IterKept w w')
    (s0 : S) (w : World) (hB : B ≤ w.heap.size) (h0 : I 0 s0 w) :
    Calls Try.prog 22 #[.string p, .func (.func fn) #[] #[c]] w fun e w' => e = .returned (.tuple #[]) ∧ ∃ n, I n (Pth.goF step s0 (Pth.pcs p)) w' := by
  have Hc := hide hcall
  have HI := hide hI
  clear hcall hI
  unfold maxLen at hp
  go_enter Try.func22, Try.ntmps22
  go_wp2
  go_loopw [4] (fun f wr => ∃ (n pos fr : Nat) (s : S), n ≤ pos ∧ f = .int .i64 fr ∧ fr ≤ pos ∧ pos ≤ p.size ∧ wr.heap[w.heap.size]? = some (.stringIter p pos) ∧ I n s wr ∧ Pth.goF step s (Pth.pcsAt p pos fr) = Pth.goF step s0 (Pth.pcs p)) (fun _ wr => p.size - wr.iterPos w.heap.size)
  case atStart => exact ⟨0, 0, 0, s0, Nat.le_refl _, rfl, Nat.le_refl _, Nat.zero_le _, World.iter_heap _ _ _, unhide HI _ _ _ _ (ItKp.iter hB _ _) h0, rfl⟩
  case round =>
    obtain ⟨n, pos, fr, s, hnp, rfl, hfr, hps, hit, hIs, hg⟩ := hrel
    have Hg := hide hg
    clear hg
    by_cases hlt : pos < p.size
    · obtain ⟨c1, c2, c3, c4, c5⟩ := Pth.decode_cover p pos hlt
      have hI1 : I n s (wr.iterAt w.heap.size p (pos + (Utf8.decode p pos).2))   := unhide HI _ _ _ _ (ItKp.iterAt hB _ _ _ hit) hIs
      have hit1 := iterAt_heap wr w.heap.size p pos (pos + (Utf8.decode p pos).2) hit
      have hip := iterPos_of hit
      have hip1 := iterPos_of hit1
      have hnx := fun ty => run_next_any_at (P := Try.prog) wr w.heap.size p pos ty hit hlt
      by_cases hc : p[pos] = 47
      · have hd1 := c4 hc
        have hc' := c3.2 hc
        rw [hd1] at hI1 hit1 hip1 hnx
        rw [hc'] at hnx
        have hgoal : Pth.goF step s (p.extract fr pos :: Pth.pcsAt p (pos + 1) (pos + 1)) = Pth.goF step s0 (Pth.pcs p) := by rw [← Pth.pcsAt_slash p pos fr hlt hc]; exact unhide Hg
        have Hgoal := hide hgoal
        have Hip := hide hip
        have Hit := hide hit1
        clear hgoal hd1 hc' hc hip hip1 hit1 hit c3 c4 c5 c1 c2
        go_wp2_with (refine ((unhide Hc) n s _ (p.extract fr pos) (by omega) (by simp only [ByteArray.size_extract]; omega) hI1).mono ?_; rintro e w1 ⟨rfl, hI2, hk2⟩)
        · have hst : (step s (p.extract fr pos)).2 = false := by
            have h : (!(step s (p.extract fr pos)).2) = true := by assumption
            simpa using h
          refine bodyPost_ret (results_none rfl _ _ _) rfl ⟨rfl, n + 1, ?_⟩
          rw [← unhide Hgoal]
          simp only [Pth.goF, hst, if_false, Bool.false_eq_true]
          exact hI2
        · have hit2 := hk2 _ _ _ (unhide Hit)
          have hip2 := iterPos_of hit2
          have hst : (step s (p.extract fr pos)).2 = true := by
            have h : (!(step s (p.extract fr pos)).2) = false := by assumption
            simpa using h
          go_roundw
          case rel => exact ⟨n + 1, pos + 1, pos + 1, _, by omega, by go_num, Nat.le_refl _, by omega, hit2, hI2, by rw [← unhide Hgoal]; simp [Pth.goF, hst]⟩
          case measure => rw [hip2, unhide Hip]; omega
      · have hne : ((((Utf8.decode p pos).1 : Nat) : Int) != 47) = true := by
          have : (Utf8.decode p pos).1 ≠ 47 := fun e => hc (c3.1 e)
          rw [bne_iff_ne]; omega
        have hgoal : Pth.goF step s (Pth.pcsAt p (pos + (Utf8.decode p pos).2) fr) = Pth.goF step s0 (Pth.pcs p) := by
          rw [← Pth.pcsAt_skips p fr _ pos (c5 hc)]; exact unhide Hg
        have Hgoal := hide hgoal
        have Hip := hide hip
        have Hip1 := hide hip1
        have Hit := hide hit1
        clear hgoal hip hip1 hit1 c3 c4 c5
        go_wp2
        go_roundw
        case rel => exact ⟨n, pos + (Utf8.decode p pos).2, fr, s, by omega, rfl, by omega, c2, unhide Hit, hI1, unhide Hgoal⟩
        case measure => rw [unhide Hip, unhide Hip1]; omega
    · have hnx := fun ty => run_next_end_at (P := Try.prog) wr w.heap.size p pos ty hit hlt
      obtain rfl : pos = p.size := by omega
      have hgoal : Pth.goF step s [p.extract fr p.size] = Pth.goF step s0 (Pth.pcs p) := by rw [← Pth.pcsAt_end]; exact unhide Hg
      have Hgoal := hide hgoal
      clear hgoal hps hlt
      go_wp2_with (refine ((unhide Hc) n s _ (p.extract fr p.size) (by omega) (by simp only [ByteArray.size_extract]; omega) hIs).mono ?_; rintro e w1 ⟨rfl, hI2, hk2⟩)
      go_end0
      refine ⟨rfl, n + 1, ?_⟩
      rw [← unhide Hgoal]
      simp only [Pth.goF]
      split <;> exact hI2

/-- What Check's yield keeps: its error in block g. -/
def ChkI (w0 : World) (g : Nat) (e : Int) (w : World) : Prop := w.heap[g]? = some (.cells #[.int .i64 e] 24 (0, 0)) ∧ Below w0.heap.size w0 w

theorem ChkI.stable {w0 : World} {g : Nat} (e : Int) (w w' : World) (h : ItKp w0.heap.size w w') (hI : ChkI w0 g e w) : ChkI w0 g e w' :=
  ⟨h.rest _ _ hI.1 (fun _ _ => by simp), hI.2.trans ⟨h.os, h.tape, h.output, h.size, h.low⟩⟩

theorem iterKept_setCell {w : World} {g : Nat} {cs : Array Value} {t : TypeId} {fz : Nat × Nat} (h : w.heap[g]? = some (.cells cs t fz)) (o : Nat) (v : Value) : IterKept w (w.setCell ⟨g, o, none⟩ v) := by
  intro k s p hk
  rw [Below.heap_setCell _ _ _ _ ?_]
  · exact hk
  · rintro rfl
    rw [h] at hk
    cases hk

theorem check1_any (w0 : World) (g : Nat) (hg : w0.heap.size ≤ g) (e : Int) (w : World) (x : ByteArray) (hx : x.size ≤ maxLen) (hI : ChkI w0 g e w) :
    Calls Try.prog 27 #[.string x, .pointer (some ⟨g, 0, none⟩)] w fun r w' => r = .returned (.bool (Pth.checkStep e x).2) ∧ ChkI w0 g (Pth.checkStep e x).1 w' ∧ IterKept w w' := by
  have HI := hide hI
  obtain ⟨hc, hb⟩ := hI
  have h1 := cell_of_one hc
  have h2 := free_of_one hc
  have h3 := cell_of_one (one_setCell (u := .int .i64 11) hc)
  clear hc hb
  unfold maxLen at hx
  by_cases hl : 32 < x.size
  · go_enter Try.func27, Try.ntmps27
    go_wp2
    go_ret
    refine ⟨by simp [Pth.checkStep, hl], ⟨?_, ?_⟩, ?_⟩
    · simp only [Pth.checkStep, hl, if_true]
      exact one_setCell (unhide HI).1
    · exact (unhide HI).2.setCell hg _
    · exact iterKept_setCell (unhide HI).1 _ _
  · go_enter Try.func27, Try.ntmps27
    go_wp2
    go_ret
    exact ⟨by simp [Pth.checkStep, hl], by simpa [Pth.checkStep, hl] using unhide HI, fun _ _ _ h => h⟩

theorem callFunc_check1 (args : Array Value) (w : World) : (callFunc 27 args).run Try.prog w = .ok (.enter 27 args) w := by kernel_rfl

theorem check_any (p : ByteArray) (hp : p.size ≤ maxLen) (w : World) :
    Calls Try.prog 11 #[.string p] w fun e w' => e = .returned (.int .i64 (Pth.chk p)) ∧ Below w.heap.size w w' := by
  have hp' := hp
  unfold maxLen at hp
  have hmf : ∀ (fn : Fn) (first cap : Array Value) (w : World), (Instr.makeFunc fn first cap).run Try.prog w = .ok (.func fn first cap) w := fun _ _ _ _ => rfl
  have he0 : p.toList.isEmpty = decide (p.size = 0) := isEmpty_toList p
  have hcn := Lib.contains_iff_indexByte p.data.toList 0
  by_cases h0 : p.size = 0
  · have hr : Pth.chk p = 3 := by simp [Pth.chk, h0]
    have Hr := hide hr
    have he : p.toList.isEmpty = true := by rw [he0]; simpa using h0
    clear he0 hr h0 hcn
    go_enter Try.func11, Try.ntmps11
    go_wp2_with fail
    go_ret
    exact ⟨by rw [unhide Hr]; rfl, Below.refl _ _⟩
  · have he : p.toList.isEmpty = false := by rw [he0]; simpa using h0
    by_cases h1 : p.data.toList.contains 0 = true
    · have hr : Pth.chk p = 1 := by simp only [Pth.chk, h0, h1, if_true, if_false]
      have Hr := hide hr
      have hi : decide (0 ≤ Lib.indexByte p.data.toList 0) = true := by rw [← hcn]; exact h1
      clear he0 hr h0 hcn h1
      go_enter Try.func11, Try.ntmps11
      go_wp2_with (go_at_call 26; refine (flipw (Try.strings_Contains_one _ _ _)).mono ?_; rintro e w1 ⟨rfl, rfl⟩)
      go_ret
      exact ⟨by rw [unhide Hr]; rfl, Below.refl _ _⟩
    · have hi : decide (0 ≤ Lib.indexByte p.data.toList 0) = false := by rw [← hcn]; simpa using h1
      by_cases h2 : 200 < p.size
      · have hr : Pth.chk p = 11 := by simp only [Pth.chk, h0, h1, h2, if_true, if_false, Bool.false_eq_true]
        have Hr := hide hr
        clear he0 hr h0 hcn h1
        go_enter Try.func11, Try.ntmps11
        go_wp2_with (go_at_call 26; refine (flipw (Try.strings_Contains_one _ _ _)).mono ?_; rintro e w1 ⟨rfl, rfl⟩)
        go_ret
        exact ⟨by rw [unhide Hr]; rfl, Below.refl _ _⟩
      · have hr : Pth.chk p = Pth.goF Pth.checkStep 0 (Pth.pcs p) := by rw [Pth.goF_check]; simp only [Pth.chk, h0, h1, h2, if_false, Bool.false_eq_true]
        have Hr := hide hr
        clear he0 hr h0 hcn h1
        have hini : ChkI w w.heap.size 0 (w.alloc (.cells #[.int .i64 0] 24)) := ⟨heap_alloc_new _ _, (Below.refl _ _).alloc (Nat.le_refl _) _⟩
        have Hini := hide hini
        clear hini
        go_enter Try.func11, Try.ntmps11
        go_wp2_with (first
          | (go_at_call 26; refine (flipw (Try.strings_Contains_one _ _ _)).mono ?_; rintro e w1 ⟨rfl, rfl⟩)
          | (go_at_call 22; refine (pieces_any 27 _ (fun _ => ChkI w w.heap.size) Pth.checkStep w.heap.size p hp' callFunc_check1 (fun _ => ChkI.stable) (fun _ s w' x _ hx hI => check1_any w w.heap.size (Nat.le_refl _) s w' x (Nat.le_trans hx hp') hI) 0 _ (Nat.le_of_lt (by simp)) (unhide Hini)).mono ?_; rintro e w1 ⟨rfl, _, hI⟩; have h9 := cell_of_one hI.1; have HI9 := hide hI; clear hI))
        go_ret
        exact ⟨by rw [unhide Hr]; rfl, (unhide HI9).2⟩

theorem strTy : SlTy Try.prog 23 9 1 16 := slTy_mk (z := .string ⟨#[]⟩) Try.underlying23 (by kernel_rfl) rfl (by omega) (by omega)

/-- What Parts' yield keeps: its list in block g. -/
def PrtI (w0 : World) (g : Nat) (n : Nat) (l : List ByteArray) (w : World) : Prop :=
  ∃ A c, w.heap[g]? = some (.cells #[.slice A l.length c] 23 (0, 0)) ∧ w.ownsRow w0.heap.size 9 1 (.slice A l.length c) l.length (l.map Value.string) ∧ Below w0.heap.size w0 w ∧ (Value.slice A l.length c).ownBlock ≠ some g ∧ l.length ≤ n

theorem PrtI.stable {w0 : World} {g : Nat} (n : Nat) (l : List ByteArray) (w w' : World) (h : ItKp w0.heap.size w w') (hI : PrtI w0 g n l w) : PrtI w0 g n l w' := by
  obtain ⟨A, c, h1, h2, h3, h4, h5⟩ := hI
  refine ⟨A, c, h.rest _ _ h1 (fun _ _ => by simp), ?_, h3.trans ⟨h.os, h.tape, h.output, h.size, h.low⟩, h4, h5⟩
  refine ⟨h2.1, h2.2.imp id fun ⟨g', cap, cur, e, hb, hh, r⟩ => ⟨g', cap, cur, e, hb, h.rest _ _ hh (fun _ _ => by simp), r⟩⟩

theorem iterKept_trans {a b c : World} (h : IterKept a b) (k : IterKept b c) : IterKept a c := fun i s p hi => k i s p (h i s p hi)
theorem iterKept_grown {w w' : World} {row : Option Nat} (h : w.grownBy w' row) (hr : ∀ k, row = some k → ∃ cs t fz, w.heap[k]? = some (.cells cs t fz)) : IterKept w w' := by
  intro k s p hk
  rw [h.block k (Array.getElem?_eq_some_iff.1 hk).1]
  · exact hk
  · intro e
    obtain ⟨cs, t, fz, hc⟩ := hr k e.symm
    rw [hk] at hc
    cases hc

theorem parts1_any (w0 : World) (g : Nat) (hg : w0.heap.size ≤ g) (n : Nat) (hn : n ≤ 4294967296) (l : List ByteArray) (w : World) (x : ByteArray) (hI : PrtI w0 g n l w) :
    Calls Try.prog 23 #[.string x, .pointer (some ⟨g, 0, none⟩)] w fun r w' => r = .returned (.bool (Pth.partsStep l x).2) ∧ PrtI w0 g (n + 1) (Pth.partsStep l x).1 w' ∧ IterKept w w' := by
  have HI := hide hI
  obtain ⟨A, c, hc, hown, hb, hne, hln⟩ := hI
  have Hc := hide hc
  have h1 := cell_of_one hc
  have hgs := lt_of_block hc
  have hbs := hb.size
  have e1 : x.toList.isEmpty = decide (x.data.toList = []) := by rw [Lib.toList_data, Bool.eq_iff_iff]; simp
  have e2 : (x.toList == [46]) = decide (x.data.toList = [46]) := by rw [Lib.toList_data, Bool.eq_iff_iff]; simp
  by_cases hx : x.data.toList = [] ∨ x.data.toList = [46]
  · have hp : Pth.isPart x = false := by rcases hx with h | h <;> simp [Pth.isPart, h]
    have Hp := hide hp
    clear hp hc
    rcases hx with hx | hx
    · have q1 : x.toList.isEmpty = true := by rw [e1]; simpa using hx
      clear e1 e2 hx
      go_enter Try.func23, Try.ntmps23
      go_wp2
      go_ret
      exact ⟨rfl, by
        have e : (Pth.partsStep l x).1 = l := by simp [Pth.partsStep, unhide Hp]
        rw [e]
        exact ⟨A, c, unhide Hc, hown, hb, hne, by omega⟩, fun _ _ _ h => h⟩
    · have q1 : x.toList.isEmpty = false := by rw [e1]; simp [hx]
      have q2 : (x.toList == [46]) = true := by rw [e2]; simpa using hx
      clear e1 e2 hx
      go_enter Try.func23, Try.ntmps23
      go_wp2
      go_ret
      exact ⟨rfl, by
        have e : (Pth.partsStep l x).1 = l := by simp [Pth.partsStep, unhide Hp]
        rw [e]
        exact ⟨A, c, unhide Hc, hown, hb, hne, by omega⟩, fun _ _ _ h => h⟩
  · have hp : Pth.isPart x = true := by simp only [Pth.isPart]; simp; simpa using hx
    have Hp := hide hp
    have q1 : x.toList.isEmpty = false := by rw [e1]; simp; exact fun h => hx (.inl (by simpa using h))
    have q2 : (x.toList == [46]) = false := by rw [e2]; simp; exact fun h => hx (.inr (by simpa using h))
    clear e1 e2 hx hp hc
    go_enter Try.func23, Try.ntmps23
    go_wp2_with (at_builtin; refine wpList_app1 strTy rfl _ _ rfl w0.heap.size (.slice A l.length c) l.length (l.map Value.string) rfl hown #[.string x] rfl rfl (by simp [Value.oneCell']) (by omega) (by omega) ?_; intro A' c' w1 hown' hgrow hat; have hg1 := (hgrow.block g hgs (fun e => hne e.symm)).trans (unhide Hc); have hc1 := cell_of_one hg1; have hf1 := free_of_one hg1; have Hg1 := hide hg1; have Hgr := hide hgrow; have Hat := hide hat; clear hg1 hgrow hat)
    go_ret
    have hne' : (Value.slice A' (l.length + 1) c').ownBlock ≠ some g := by
      intro e
      rcases unhide Hat _ e with h | h
      · exact hne h
      · omega
    refine ⟨rfl, ?_, ?_⟩
    · have e : (Pth.partsStep l x).1 = l ++ [x] := by simp [Pth.partsStep, unhide Hp]
      rw [e]
      refine ⟨A', c', ?_, ?_, ?_, ?_, ?_⟩
      · rw [List.length_append]
        exact one_setCell (unhide Hg1)
      · rw [List.length_append, List.map_append]
        exact ownsRow_setCell_other hown' (a := ⟨g, 0, none⟩) hne' _
      · exact (hb.grown (unhide Hgr) hbs (fun k hk => (hown.lt k hk).1)).setCell hg _
      · rw [List.length_append]
        exact hne'
      · rw [List.length_append]
        simp only [List.length_cons, List.length_nil]
        omega
    · refine iterKept_trans (iterKept_grown (unhide Hgr) (fun k hk => ?_)) (iterKept_setCell (unhide Hg1) _ _)
      rcases hown.2 with ⟨e, _⟩ | ⟨g', cap, cur, e, _, hh, _⟩
      · rw [e] at hk
        simp [Value.ownBlock] at hk
      · rw [e] at hk
        simp [Value.ownBlock] at hk
        exact ⟨_, _, _, hk ▸ hh⟩

theorem prt_start {w w1 : World} (hb : Below (w.alloc (.cells #[.slice none 0 0] 23)).heap.size (w.alloc (.cells #[.slice none 0 0] 23)) w1) : PrtI w w.heap.size 0 [] w1 :=
  ⟨none, 0, (hb.block _ (by simp)).trans (heap_alloc_new _ _), World.ownsRow_nil _ _ _ _, ((Below.refl _ _).alloc (Nat.le_refl _) _).trans (hb.mono (by simp)), by simp [Value.ownBlock], Nat.le_refl _⟩
theorem PrtI.sz {w0 w : World} {g n : Nat} {l : List ByteArray} (h : PrtI w0 g n l w) : w0.heap.size ≤ w.heap.size := h.choose_spec.choose_spec.2.2.1.size

theorem callFunc_parts1 (args : Array Value) (w : World) : (callFunc 23 args).run Try.prog w = .ok (.enter 23 args) w := by kernel_rfl

theorem parts_any (p : ByteArray) (hp : p.size ≤ maxLen) (w : World) :
    Calls Try.prog 9 #[.string p] w fun e w' => ∃ A c, e = .returned (.tuple #[.slice A (Pth.partsL p).length c, .bool (Pth.rootB p), .int .i64 (Pth.chk p)]) ∧
      w'.ownsRow w.heap.size 9 1 (.slice A (Pth.partsL p).length c) (Pth.partsL p).length ((Pth.partsL p).map Value.string) ∧ Below w.heap.size w w' := by
  have hck := Pth.chk_size p
  by_cases h0 : Pth.chk p = 0
  · have hrl : Pth.partsL p = Pth.goF Pth.partsStep [] (Pth.pcs p) := by rw [Pth.goF_parts]; simp [Pth.partsL, h0, Pth.parts]
    have hrb : Pth.rootB p = Lib.hasPrefix p.data.toList [47] := by simp [Pth.rootB, h0]
    have Hrl := hide hrl
    have Hrb := hide hrb
    have hs := hck h0
    have b0 : (Pth.chk p == 0) = true := by simpa using h0
    have b1 : (Pth.chk p != 0) = false := by simpa using h0
    have hmf : ∀ (fn : Fn) (first cap : Array Value) (w : World), (Instr.makeFunc fn first cap).run Try.prog w = .ok (.func fn first cap) w := fun _ _ _ _ => rfl
    have H0 := hide h0
    clear hck hrl hrb h0
    go_enter Try.func9, Try.ntmps9
    go_wp2_with (first
      | (go_at_call 11; refine (check_any p hp _).mono ?_; rintro e w1 ⟨rfl, hb1⟩; have Hini := hide (prt_start hb1); clear hb1)
      | (go_at_call 22; refine (pieces_any 23 _ (PrtI w w.heap.size) Pth.partsStep w.heap.size p hp callFunc_parts1 PrtI.stable (fun n s w' x hn _ hI => parts1_any w w.heap.size (Nat.le_refl _) n (by omega) s w' x hI) [] _ (PrtI.sz (unhide Hini)) (unhide Hini)).mono ?_; rintro e w2 ⟨rfl, n, hI2⟩; have HI2 := hide hI2; clear hI2))
    have HI3 := unhide HI2
    rw [← unhide Hrl] at HI3
    obtain ⟨A, c, hc, hown, hb, hne, hln⟩ := HI3
    have hc1 := cell_of_one hc
    have hf1 := free_of_one hc
    have hc2 := cell_of_one (one_setCell (u := .slice A (Pth.partsL p).length c) hc)
    have Hc := hide hc
    clear hc
    go_region_with (go_at_call 24; refine (flipw (Try.strings_HasPrefix _ _ _)).mono ?_; rintro e w3 ⟨rfl, rfl⟩)
    all_goals
      go_wp2
      refine bodyPost_ret (v := .tuple #[.slice A (Pth.partsL p).length c, .bool (Lib.hasPrefix p.data.toList [47]), .int .i64 0]) (by simp [results, Try.results9, go_sem, hc2]) rfl ?_
      exact ⟨A, c, by rw [unhide Hrb, unhide H0], ownsRow_setCell_other hown (a := ⟨w.heap.size, 0, none⟩) hne _, (hb.setCell (p := ⟨w.heap.size, 0, none⟩) (Nat.le_refl _) _).drew⟩
  · have b0 : (Pth.chk p == 0) = false := by simpa using h0
    have b1 : (Pth.chk p != 0) = true := by simpa using h0
    have e1 : Pth.partsL p = [] := by simp [Pth.partsL, h0]
    have e2 : Pth.rootB p = false := by simp [Pth.rootB, h0]
    rw [e1, e2]
    clear hck e1 e2 h0
    go_enter Try.func9, Try.ntmps9
    go_wp2_with (go_at_call 11; refine (check_any p hp _).mono ?_; rintro e w1 ⟨rfl, hb1⟩; have hn := newblk hb1; have Hb := hide (below_new hb1); clear hb1; have hc := cell_of_one hn; have hf := free_of_one hn; have hc2 := cell_of_one (one_setCell (u := .slice none 0 0) hn); clear hn)
    refine bodyPost_ret (v := .tuple #[.slice none 0 0, .bool false, .int .i64 (Pth.chk p)]) (by simp [results, Try.results9, go_sem, hc2]) rfl ?_
    exact ⟨none, 0, rfl, World.ownsRow_nil _ _ _ _, (unhide Hb).setCell (p := ⟨w.heap.size, 0, none⟩) (Nat.le_refl _) _⟩

end Go.Proofs.Yteknfjgmbkhfaaa
