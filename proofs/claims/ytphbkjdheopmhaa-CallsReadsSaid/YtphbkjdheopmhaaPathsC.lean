/- The walks of pieces and Check of the package paths, of any text. Condition: the texts are no longer than the model's greatest length. -/
import Derived.Test.YtphbkjdheopmhaaApp
import Derived.Test.YtphbkjdheopmhaaPathsPure
import Derived.Test.YtphbkjdheopmhaaProg
import Derived.Test.YtphbkjdheopmhaaShelf
import Derived.Lib.IndexAny
import Derived.WalkLawsBesides
import Derived.WalkSpells
import Derived.Deep.RegionWith
namespace Go.Proofs.Ytphbkjdheopmhaa
set_option linter.unusedVariables false
set_option linter.unusedSimpArgs false
open Go.RowKit Go.Lib

/-- Nothing below B, and no block that is no iterator of a text, has turned. -/
structure ItKp (B : Nat) (w w' : World) : Prop where
  os : w'.os = w.os
  tape : w'.tape = w.tape
  output : w'.output = w.output
  size : w.heap.size ≤ w'.heap.size
  low : ∀ k, k < B → w'.heap[k]? = w.heap[k]?
  rest : ∀ (k : Nat) (o : Obj), w.heap[k]? = some o → (∀ s p, o ≠ .stringIter s p) → w'.heap[k]? = some o

def IterKept (w w' : World) : Prop := ∀ (k : Nat) (s : ByteArray) (p : Nat), w.heap[k]? = some (.stringIter s p) → w'.heap[k]? = some (.stringIter s p)

theorem ItKp.iter {B : Nat} {w : World} (hB : B ≤ w.heap.size) (s : ByteArray) (p : Nat) : ItKp B w (w.iter s p) :=
  ⟨rfl, rfl, rfl, by simp [World.iter], fun k hk => Below.heap_alloc _ _ _ (by omega), fun k o h _ => by
    rw [← h]
    exact Below.heap_alloc _ _ _ (Array.getElem?_eq_some_iff.1 h).1⟩

theorem ItKp.iterAt {B : Nat} {w : World} {k : Nat} (hB : B ≤ k) (s : ByteArray) (p q : Nat) (h : w.heap[k]? = some (.stringIter s q)) : ItKp B w (w.iterAt k s p) :=
  ⟨rfl, rfl, rfl, by rw [iterAt_size]; exact Nat.le_refl _, fun j hj => iterAt_other _ _ _ _ _ (by omega), fun j o hj hn => by
    by_cases e : j = k
    · subst e
      rw [h] at hj
      exact absurd (Option.some.inj hj).symm (hn _ _)
    · rw [iterAt_other _ _ _ _ _ e]
      exact hj⟩

set_option maxHeartbeats 800000 in
/-- pieces hands each text between slashes to yield, till that says no. -/
theorem pieces_any {S : Type} (fn : FuncId) (c : Value) (I : Nat → S → World → Prop) (step : S → ByteArray → S × Bool) (B : Nat) (p : ByteArray) (hp : p.size ≤ maxLen)
    (hf : ∀ (args : Array Value) (w : World), (callFunc fn args).run Try.prog w = .ok (.enter fn args) w)
    (hI : ∀ n s w w', ItKp B w w' → I n s w → I n s w')
    (hcall : ∀ n s w (x : ByteArray), n ≤ p.size → x.size ≤ p.size → I n s w → Calls Try.prog fn #[.string x, c] w fun e w' => e = .returned (.bool (step s x).2) ∧ I (n + 1) (step s x).1 w' ∧ IterKept w w')
    (s0 : S) (w : World) (hB : B ≤ w.heap.size) (h0 : I 0 s0 w) :
    Calls Try.prog 59 #[.string p, .func (.func fn) #[] #[c]] w fun e w' => e = .returned (.tuple #[]) ∧ ∃ n, I n (Pth.goF step s0 (Pth.pcs p)) w' := by
  have Hc := hide hcall
  have HI := hide hI
  clear hcall hI
  unfold maxLen at hp
  go_enter Try.func59, Try.ntmps59
  go_wp2
  go_loopw [4] (fun f wr => ∃ (n pos fr : Nat) (s : S), n ≤ pos ∧ f = .int .i64 fr ∧ fr ≤ pos ∧ pos ≤ p.size ∧ wr.heap[w.heap.size]? = some (.stringIter p pos) ∧ I n s wr ∧ Pth.goF step s (Pth.pcsAt p pos fr) = Pth.goF step s0 (Pth.pcs p)) (fun _ wr => p.size - wr.iterPos w.heap.size)
  case atStart => exact ⟨0, 0, 0, s0, Nat.le_refl _, rfl, Nat.le_refl _, Nat.zero_le _, World.iter_heap _ _ _, unhide HI _ _ _ _ (ItKp.iter hB _ _) h0, rfl⟩
  case round =>
    obtain ⟨n, pos, fr, s, hnp, rfl, hfr, hps, hit, hIs, hg⟩ := hrel
    have Hg := hide hg
    clear hg
    by_cases hlt : pos < p.size
    · obtain ⟨c1, c2, c3, c4, c5⟩ := Pth.decode_cover p pos hlt
      have hI1 : I n s (wr.iterAt w.heap.size p (pos + (Utf8.decode p pos).2))   := unhide HI _ _ _ _ (ItKp.iterAt hB _ _ _ hit) hIs
      have hit1 := iterAt_heap wr w.heap.size p pos (pos + (Utf8.decode p pos).2) hit
      have hip := iterPos_of hit
      have hip1 := iterPos_of hit1
      have hnx := fun ty => run_next_any_at (P := Try.prog) wr w.heap.size p pos ty hit hlt
      by_cases hc : p[pos] = 47
      · have hd1 := c4 hc
        have hc' := c3.2 hc
        rw [hd1] at hI1 hit1 hip1 hnx
        rw [hc'] at hnx
        have hgoal : Pth.goF step s (p.extract fr pos :: Pth.pcsAt p (pos + 1) (pos + 1)) = Pth.goF step s0 (Pth.pcs p) := by rw [← Pth.pcsAt_slash p pos fr hlt hc]; exact unhide Hg
        have Hgoal := hide hgoal
        have Hip := hide hip
        have Hit := hide hit1
        clear hgoal hd1 hc' hc hip hip1 hit1 hit c3 c4 c5 c1 c2
        go_wp2_with (refine ((unhide Hc) n s _ (p.extract fr pos) (by omega) (by simp only [ByteArray.size_extract]; omega) hI1).mono ?_; rintro e w1 ⟨rfl, hI2, hk2⟩)
        · have hst : (step s (p.extract fr pos)).2 = false := by
            have h : (!(step s (p.extract fr pos)).2) = true := by assumption
            simpa using h
          refine bodyPost_ret (results_none rfl _ _ _) rfl ⟨rfl, n + 1, ?_⟩
          rw [← unhide Hgoal]
          simp only [Pth.goF, hst, if_false, Bool.false_eq_true]
          exact hI2
        · have hit2 := hk2 _ _ _ (unhide Hit)
          have hip2 := iterPos_of hit2
          have hst : (step s (p.extract fr pos)).2 = true := by
            have h : (!(step s (p.extract fr pos)).2) = false := by assumption
            simpa using h
          go_roundw
          case rel => exact ⟨n + 1, pos + 1, pos + 1, _, by omega, by go_num, Nat.le_refl _, by omega, hit2, hI2, by rw [← unhide Hgoal]; simp [Pth.goF, hst]⟩
          case measure => rw [hip2, unhide Hip]; omega
      · have hne : ((((Utf8.decode p pos).1 : Nat) : Int) != 47) = true := by
          have : (Utf8.decode p pos).1 ≠ 47 := fun e => hc (c3.1 e)
          rw [bne_iff_ne]; omega
        have hgoal : Pth.goF step s (Pth.pcsAt p (pos + (Utf8.decode p pos).2) fr) = Pth.goF step s0 (Pth.pcs p) := by
          rw [← Pth.pcsAt_skips p fr _ pos (c5 hc)]; exact unhide Hg
        have Hgoal := hide hgoal
        have Hip := hide hip
        have Hip1 := hide hip1
        have Hit := hide hit1
        clear hgoal hip hip1 hit1 c3 c4 c5
        go_wp2
        go_roundw
        case rel => exact ⟨n, pos + (Utf8.decode p pos).2, fr, s, by omega, rfl, by omega, c2, unhide Hit, hI1, unhide Hgoal⟩
        case measure => rw [unhide Hip, unhide Hip1]; omega
    · have hnx := fun ty => run_next_end_at (P := Try.prog) wr w.heap.size p pos ty hit hlt
      obtain rfl : pos = p.size := by omega
      have hgoal : Pth.goF step s [p.extract fr p.size] = Pth.goF step s0 (Pth.pcs p) := by rw [← Pth.pcsAt_end]; exact unhide Hg
      have Hgoal := hide hgoal
      clear hgoal hps hlt
      go_wp2_with (refine ((unhide Hc) n s _ (p.extract fr p.size) (by omega) (by simp only [ByteArray.size_extract]; omega) hIs).mono ?_; rintro e w1 ⟨rfl, hI2, hk2⟩)
      go_end0
      refine ⟨rfl, n + 1, ?_⟩
      rw [← unhide Hgoal]
      simp only [Pth.goF]
      split <;> exact hI2

/-- What Check's yield keeps: its error in block g. -/
def ChkI (w0 : World) (g : Nat) (e : Int) (w : World) : Prop := w.heap[g]? = some (.cells #[.int .i64 e] 30 (0, 0)) ∧ Below w0.heap.size w0 w

theorem ChkI.stable {w0 : World} {g : Nat} (e : Int) (w w' : World) (h : ItKp w0.heap.size w w') (hI : ChkI w0 g e w) : ChkI w0 g e w' :=
  ⟨h.rest _ _ hI.1 (fun _ _ => by simp), hI.2.trans ⟨h.os, h.tape, h.output, h.size, h.low⟩⟩

theorem iterKept_setCell {w : World} {g : Nat} {cs : Array Value} {t : TypeId} {fz : Nat × Nat} (h : w.heap[g]? = some (.cells cs t fz)) (o : Nat) (v : Value) : IterKept w (w.setCell ⟨g, o, none⟩ v) := by
  intro k s p hk
  rw [Below.heap_setCell _ _ _ _ ?_]
  · exact hk
  · rintro rfl
    rw [h] at hk
    cases hk

theorem check1_any (w0 : World) (g : Nat) (hg : w0.heap.size ≤ g) (e : Int) (w : World) (x : ByteArray) (hx : x.size ≤ maxLen) (hI : ChkI w0 g e w) :
    Calls Try.prog 60 #[.string x, .pointer (some ⟨g, 0, none⟩)] w fun r w' => r = .returned (.bool (Pth.checkStep e x).2) ∧ ChkI w0 g (Pth.checkStep e x).1 w' ∧ IterKept w w' := by
  have HI := hide hI
  obtain ⟨hc, hb⟩ := hI
  have h1 := cell_of_one hc
  have h2 := free_of_one hc
  have h3 := cell_of_one (one_setCell (u := .int .i64 11) hc)
  clear hc hb
  unfold maxLen at hx
  by_cases hl : 32 < x.size
  · go_enter Try.func60, Try.ntmps60
    go_wp2
    go_ret
    refine ⟨by simp [Pth.checkStep, hl], ⟨?_, ?_⟩, ?_⟩
    · simp only [Pth.checkStep, hl, if_true]
      exact one_setCell (unhide HI).1
    · exact (unhide HI).2.setCell hg _
    · exact iterKept_setCell (unhide HI).1 _ _
  · go_enter Try.func60, Try.ntmps60
    go_wp2
    go_ret
    exact ⟨by simp [Pth.checkStep, hl], by simpa [Pth.checkStep, hl] using unhide HI, fun _ _ _ h => h⟩

theorem callFunc_check1 (args : Array Value) (w : World) : (callFunc 60 args).run Try.prog w = .ok (.enter 60 args) w := by kernel_rfl

theorem check_any (p : ByteArray) (hp : p.size ≤ maxLen) (w : World) :
    Calls Try.prog 34 #[.string p] w fun e w' => e = .returned (.int .i64 (Pth.chk p)) ∧ Below w.heap.size w w' := by
  have hp' := hp
  unfold maxLen at hp
  have hmf : ∀ (fn : Fn) (first cap : Array Value) (w : World), (Instr.makeFunc fn first cap).run Try.prog w = .ok (.func fn first cap) w := fun _ _ _ _ => rfl
  have he0 : p.toList.isEmpty = decide (p.size = 0) := isEmpty_toList p
  have hcn := Lib.contains_iff_indexByte p.data.toList 0
  by_cases h0 : p.size = 0
  · have hr : Pth.chk p = 3 := by simp [Pth.chk, h0]
    have Hr := hide hr
    have he : p.toList.isEmpty = true := by rw [he0]; simpa using h0
    clear he0 hr h0 hcn
    go_enter Try.func34, Try.ntmps34
    go_wp2_with fail
    go_ret
    exact ⟨by rw [unhide Hr]; rfl, Below.refl _ _⟩
  · have he : p.toList.isEmpty = false := by rw [he0]; simpa using h0
    by_cases h1 : p.data.toList.contains 0 = true
    · have hr : Pth.chk p = 1 := by simp only [Pth.chk, h0, h1, if_true, if_false]
      have Hr := hide hr
      have hi : decide (0 ≤ Lib.indexByte p.data.toList 0) = true := by rw [← hcn]; exact h1
      clear he0 hr h0 hcn h1
      go_enter Try.func34, Try.ntmps34
      go_wp2_with (go_at_call 58; refine (flipw (Try.strings_Contains_one _ _ _)).mono ?_; rintro e w1 ⟨rfl, rfl⟩)
      go_ret
      exact ⟨by rw [unhide Hr]; rfl, Below.refl _ _⟩
    · have hi : decide (0 ≤ Lib.indexByte p.data.toList 0) = false := by rw [← hcn]; simpa using h1
      by_cases h2 : 200 < p.size
      · have hr : Pth.chk p = 11 := by simp only [Pth.chk, h0, h1, h2, if_true, if_false, Bool.false_eq_true]
        have Hr := hide hr
        clear he0 hr h0 hcn h1
        go_enter Try.func34, Try.ntmps34
        go_wp2_with (go_at_call 58; refine (flipw (Try.strings_Contains_one _ _ _)).mono ?_; rintro e w1 ⟨rfl, rfl⟩)
        go_ret
        exact ⟨by rw [unhide Hr]; rfl, Below.refl _ _⟩
      · have hr : Pth.chk p = Pth.goF Pth.checkStep 0 (Pth.pcs p) := by rw [Pth.goF_check]; simp only [Pth.chk, h0, h1, h2, if_false, Bool.false_eq_true]
        have Hr := hide hr
        clear he0 hr h0 hcn h1
        have hini : ChkI w w.heap.size 0 (w.alloc (.cells #[.int .i64 0] 30)) := ⟨heap_alloc_new _ _, (Below.refl _ _).alloc (Nat.le_refl _) _⟩
        have Hini := hide hini
        clear hini
        go_enter Try.func34, Try.ntmps34
        go_wp2_with (first
          | (go_at_call 58; refine (flipw (Try.strings_Contains_one _ _ _)).mono ?_; rintro e w1 ⟨rfl, rfl⟩)
          | (go_at_call 59; refine (pieces_any 60 _ (fun _ => ChkI w w.heap.size) Pth.checkStep w.heap.size p hp' callFunc_check1 (fun _ => ChkI.stable) (fun _ s w' x _ hx hI => check1_any w w.heap.size (Nat.le_refl _) s w' x (Nat.le_trans hx hp') hI) 0 _ (Nat.le_of_lt (by simp)) (unhide Hini)).mono ?_; rintro e w1 ⟨rfl, _, hI⟩; have h9 := cell_of_one hI.1; have HI9 := hide hI; clear hI))
        go_ret
        exact ⟨by rw [unhide Hr]; rfl, (unhide HI9).2⟩

theorem strTy : SlTy Try.prog 23 9 1 16 := slTy_mk (z := .string ⟨#[]⟩) Try.underlying23 (by kernel_rfl) rfl (by omega) (by omega)

end Go.Proofs.Ytphbkjdheopmhaa
