/- Texts of the claim LawCloManyCard (Paths2, Eq, RefC, PathsRef, MkFit, MkR9, MkR4c, Nm4, Vfs3, Vfs4, Vfs5, Vfs6, Vfs8, Vfs9, Vfs10, Vfs11): what the functions that the statement reaches compute, and plain laws of it. Conditions: those that each theorem states. -/
import Derived.Test.YtiiiblmhlhikkaaGreatDoorCbK3
import Derived.Test.YtiiiblmhlhikkaaGreatDoorCbK1
import Derived.Test.YtiiiblmhlhikkaaGreatDoorProg
import Derived.WalkSpells
import Derived.WalkLawsBesides
import Derived.BigQuiet
import Derived.Deep.QuietTactic
import Derived.Test.YtiiiblmhlhikkaaGreatDoorCbK2
import Derived.Deep.RegionHeld3
set_option linter.unusedVariables false
set_option linter.unusedSimpArgs false
namespace Go.Proofs.YtiiiblmhlhikkaaGreatDoor
open Go.RowKit
theorem wJo (p : ByteArray) (hp : p.size <= 4611686018427387903) (w : World) :
  Calls Tryz.prog 64 #[.string p] w fun e w' => e = .returned (.bool (Pth.tailB p)) /\ w = w' := by
 go_enter Tryz.func64, Tryz.ntmps64
 go_wp2_with (go_at_call 118; refine (vJu (Tryz.strings_HasSuffix _ _ _ (by omega))).mono ?_; rintro e w1 ⟨rfl, rfl⟩)
 go_ret
 exact ⟨rfl, rfl⟩
theorem xJm (p : ByteArray) (hp : p.size <= 4611686018427387903) (w : World) :
  Calls Tryz.prog 45 #[.string p] w fun e w' => e = .returned (.bool (Pth.tailB p)) /\ w = w' := by
 by_cases h0 : p.size = 0
 ·have h1 : ¬ (0 < p.size) := by omega
  rw [Pth.tailB_empty p h0]
  have H0 := zJ2 h0
  clear h0
  go_enter Tryz.func45, Tryz.ntmps45
  go_wp2
  go_ret
  exact ⟨rfl, rfl⟩
 ·rw [Pth.tailB_iff p (by omega)]
  have h1 : 0 < p.size := by omega
  go_enter Tryz.func45, Tryz.ntmps45
  go_wp2
  go_ret
  exact ⟨by rw [<- byte_47]; rfl, rfl⟩
theorem rjoin_any (d p : ByteArray) (hd : d.size <= 4611686018427387903) (hp : p.size <= 4611686018427387903) (w : World) :
  Calls Tryz.prog 59 #[.string d, .string p] w fun e w' => e = .returned (.string (Pth.joinB d p)) /\ w = w' := by
 have he0 := zJl d
 by_cases h0 : d.size = 0
 ·have hr : Pth.joinB d p = p := by simp [Pth.joinB, h0]
  rw [hr]
  have q : d.toList.isEmpty = true := by rw [he0]; simpa using h0
  clear he0 h0 hr
  go_enter Tryz.func59, Tryz.ntmps59
  go_wp2_with fail
  go_ret
  exact ⟨rfl, rfl⟩
 ·have q : d.toList.isEmpty = false := by rw [he0]; simpa using h0
  have hh := Pth.headB_iff p
  by_cases h1 : Pth.headB p = true
  ·have hr : Pth.joinB d p = p := by simp [Pth.joinB, h1]
   rw [hr]
   rw [h1] at hh
   obtain ⟨hp0, hp1⟩ := of_decide_eq_true hh.symm
   have b : (((p[0].toNat : Nat) : Int) == 47) = true := by rw [byte_47]; simpa using hp1
   clear he0 h0 hr hh hp1 h1
   go_enter Tryz.func59, Tryz.ntmps59
   go_wp2_with fail
   go_ret
   exact ⟨rfl, rfl⟩
  ·rw [Bool.not_eq_true] at h1
   rw [h1] at hh
   have hn := of_decide_eq_false hh.symm
   have fin : Calls Tryz.prog 59 #[.string d, .string p] w fun e w' => e = .returned (.string (if Pth.tailB d = true then d ++ p else d ++ Pth.slash ++ p)) /\ w = w' := by
    by_cases hz : 0 < p.size
    ·have b : (((p[0].toNat : Nat) : Int) == 47) = false := by rw [byte_47]; simpa using fun e => hn ⟨hz, e⟩
     clear he0 h0 hh hn h1
     by_cases h2 : Pth.tailB d = true
     ·rw [if_pos h2]
      go_enter Tryz.func59, Tryz.ntmps59
      go_wp2_with (go_at_call 45; refine (xJm d hd _).mono ?_; rintro e w1 ⟨rfl, rfl⟩)
      go_ret
      exact ⟨rfl, rfl⟩
     ·rw [if_neg h2]
      rw [Bool.not_eq_true] at h2
      go_enter Tryz.func59, Tryz.ntmps59
      go_wp2_with (go_at_call 45; refine (xJm d hd _).mono ?_; rintro e w1 ⟨rfl, rfl⟩)
      go_ret
      exact ⟨rfl, rfl⟩
    ·clear he0 h0 hh hn h1
     by_cases h2 : Pth.tailB d = true
     ·rw [if_pos h2]
      go_enter Tryz.func59, Tryz.ntmps59
      go_wp2_with (go_at_call 45; refine (xJm d hd _).mono ?_; rintro e w1 ⟨rfl, rfl⟩)
      go_ret
      exact ⟨rfl, rfl⟩
     ·rw [if_neg h2]
      rw [Bool.not_eq_true] at h2
      go_enter Tryz.func59, Tryz.ntmps59
      go_wp2_with (go_at_call 45; refine (xJm d hd _).mono ?_; rintro e w1 ⟨rfl, rfl⟩)
      go_ret
      exact ⟨rfl, rfl⟩
   have hr : Pth.joinB d p = if Pth.tailB d = true then d ++ p else d ++ Pth.slash ++ p := by simp only [Pth.joinB, h0, h1, Bool.false_eq_true, or_self, if_false]
   rw [hr]
   exact fin
theorem join_any (d p : ByteArray) (hd : d.size <= 4611686018427387903) (hp : p.size <= 4611686018427387903) (w : World) :
  Calls Tryz.prog 40 #[.string d, .string p] w fun e w' => e = .returned (.string (Pth.joinB d p)) /\ w = w' := by
 have he0 := zJl d
 by_cases h0 : d.size = 0
 ·have hr : Pth.joinB d p = p := by simp [Pth.joinB, h0]
  rw [hr]
  have q : d.toList.isEmpty = true := by rw [he0]; simpa using h0
  clear he0 h0 hr
  go_enter Tryz.func40, Tryz.ntmps40
  go_wp2_with fail
  go_ret
  exact ⟨rfl, rfl⟩
 ·have q : d.toList.isEmpty = false := by rw [he0]; simpa using h0
  have hp1 : ∀ w, Calls Tryz.prog 69 #[.string p, .string ⟨#[47]⟩] w fun e w' => e = .returned (.bool (Pth.headB p)) /\ w = w' := fun w => vJu (Tryz.strings_HasPrefix p ⟨#[47]⟩ w)
  have Hp1 := zJ2 hp1
  by_cases h1 : Pth.headB p = true
  ·have hr : Pth.joinB d p = p := by simp [Pth.joinB, h1]
   rw [hr]
   clear he0 h0 hr hp1
   go_enter Tryz.func40, Tryz.ntmps40
   go_wp2_with (go_at_call 69; refine ((zJ1 Hp1) _).mono ?_; rintro e w1 ⟨rfl, rfl⟩)
   go_ret
   exact ⟨rfl, rfl⟩
  ·rw [Bool.not_eq_true] at h1
   by_cases h2 : Pth.tailB d = true
   ·have hr : Pth.joinB d p = d ++ p := by simp [Pth.joinB, h0, h1, h2]
    rw [hr]
    clear he0 h0 hr hp1
    go_enter Tryz.func40, Tryz.ntmps40
    go_wp2_with (first | (go_at_call 69; refine ((zJ1 Hp1) _).mono ?_; rintro e w1 ⟨rfl, rfl⟩) | (go_at_call 64; refine (wJo d hd _).mono ?_; rintro e w1 ⟨rfl, rfl⟩))
    go_ret
    exact ⟨rfl, rfl⟩
   ·rw [Bool.not_eq_true] at h2
    have hr : Pth.joinB d p = d ++ Pth.slash ++ p := by simp [Pth.joinB, h0, h1, h2]
    rw [hr]
    clear he0 h0 hr hp1
    go_enter Tryz.func40, Tryz.ntmps40
    go_wp2_with (first | (go_at_call 69; refine ((zJ1 Hp1) _).mono ?_; rintro e w1 ⟨rfl, rfl⟩) | (go_at_call 64; refine (wJo d hd _).mono ?_; rintro e w1 ⟨rfl, rfl⟩))
    go_ret
    exact ⟨rfl, rfl⟩
theorem take_ext {α : Type} {xs ys : List α} {k : Nat} {x : α} (h : xs.take k = ys.take k) (hx : xs[k]? = some x) (hy : ys[k]? = some x) : xs.take (k + 1) = ys.take (k + 1) := by
 rw [List.take_add_one, List.take_add_one, h, hx, hy]
set_option maxHeartbeats 1000000 in
theorem eqTexts_any (A B : Option Addr) (n m c d K : Nat) (xs ys : List ByteArray) (w : World) (ha : Rd w K 1 A n (xs.map Value.string)) (hb : Rd w K 1 B m (ys.map Value.string)) (hn : n <= maxLen) (hm : m <= maxLen) :
  Calls Tryz.prog 60 #[.slice A n c, .slice B m d] w fun e w' => e = .returned (.bool (decide (xs = ys))) /\ ∃ j, w' = w.drewN j := by
 have hxl : xs.length = n := by simpa using ha.len1
 have hyl : ys.length = m := by simpa using hb.len1
 unfold maxLen at hn hm
 have Hxl := zJ2 hxl
 have Hyl := zJ2 hyl
 have Ha := zJ2 ha
 have Hb := zJ2 hb
 clear hxl hyl ha hb
 go_enter Tryz.func60, Tryz.ntmps60
 go_wp2
 go_loopw [5] (fun at_ wr => ∃ k j : Nat, at_ = .int .i64 k /\ k <= n /\ k <= m /\ xs.take k = ys.take k /\ wr = w.drewN j) (fun at_ _ => n - (intOf at_).toNat)
 case atStart => exact ⟨0, 0, rfl, Nat.zero_le _, Nat.zero_le _, rfl, rfl⟩
 case round =>
  obtain ⟨k, j, rfl, hkn, hkm, htk, rfl⟩ := hrel
  have Htk := zJ2 htk
  clear htk
  by_cases h1 : k < n
  ·have d1 : decide (k < n) = true := by simpa using h1
   have i1 : (k : Int) < (n : Int) := by omega
   by_cases h2 : k < m
   ·have d2 : decide (k < m) = true := by simpa using h2
    have i2 : (k : Int) < (m : Int) := by omega
    obtain ⟨x, hx⟩ : ∃ x, xs[k]? = some x := ⟨_, List.getElem?_eq_getElem (by rw [zJ1 Hxl]; exact h1)⟩
    obtain ⟨y, hy⟩ : ∃ y, ys[k]? = some y := ⟨_, List.getElem?_eq_getElem (by rw [zJ1 Hyl]; exact h2)⟩
    obtain ⟨b1, o1, rfl, _, c1⟩ := (zJ1 Ha).at_ (k := k) (u := .string x) (by simp [hx])
    obtain ⟨b2, o2, rfl, _, c2⟩ := (zJ1 Hb).at_ (k := k) (u := .string y) (by simp [hy])
    have Hx := zJ2 hx
    have Hy := zJ2 hy
    have hbq := uJd x y
    clear hx hy
    by_cases he : x = y
    ·have q : (x.toList == y.toList) = true := by rw [hbq]; simpa using he
     subst he
     clear hbq
     go_wp2
     go_quiet (fail)
     go_wp2
     go_round
     case rel => exact ⟨k + 1, j + nq, by go_num, by omega, by omega, take_ext (zJ1 Htk) (zJ1 Hx) (zJ1 Hy), rfl⟩
     case measure => simp [intOf]; omega
    ·have q : (x.toList == y.toList) = false := by rw [hbq]; simpa using he
     have He := zJ2 he
     clear hbq he
     go_wp2
     go_quiet (fail)
     go_wp2
     go_ret
     refine ⟨yJb ?_, _, rfl⟩
     symm
     simp only [decide_eq_false_iff_not]
     rintro rfl
     exact zJ1 He (Option.some.inj ((zJ1 Hx).symm.trans (zJ1 Hy)))
   ·have d2 : decide (k < m) = false := by simpa using h2
    go_wp2
    go_quiet (fail)
    go_wp2
    go_ret
    refine ⟨yJb ?_, _, rfl⟩
    symm
    simp only [decide_eq_false_iff_not]
    rintro rfl
    have := zJ1 Hxl
    have := zJ1 Hyl
    omega
  ·have d1 : decide (k < n) = false := by simpa using h1
   go_wp2
   go_quiet (fail)
   go_wp2
   go_ret
   refine ⟨yJb ?_, _, rfl⟩
   have hl1 := zJ1 Hxl
   have hl2 := zJ1 Hyl
   rw [Bool.eq_iff_iff, beq_iff_eq, decide_eq_true_eq]
   constructor
   ·intro e
    have e' := zJ1 Htk
    rwa [List.take_of_length_le (by omega), List.take_of_length_le (by omega)] at e'
   ·rintro rfl
    omega
end Go.Proofs.YtiiiblmhlhikkaaGreatDoor
namespace Go.Proofs.YtiiiblmhlhikkaaGreatDoor
theorem uJn (m : Nat) (f : List UInt8) : (Mk.pad m f).length = f.length + Mk.gap m f.length := by unfold Mk.pad; rw [List.length_append, vJw]
theorem parts_len (x : Mk.Spec) : (Mk.parts x).length <= 5 := by
 unfold Mk.parts Mk.partSyms Mk.partOne Mk.partTwo
 simp only [List.length_append]
 split <;> split <;> split <;> simp
theorem over_len (f : List UInt8) (p : Nat) (b : List UInt8) (h : p + b.length <= f.length) : (Mk.over f p b).length = f.length := by
 unfold Mk.over
 simp only [List.length_append, List.length_take, List.length_drop]
 omega
theorem uJz (x : Mk.Spec) (f : List UInt8) : (Mk.entsB (Mk.laidParts x f).2).length = Mk.room x := by
 rw [entsB_len, laid_len]
 rfl
theorem zs_add (a b : Nat) : Mk.zs (a + b) = Mk.zs a ++ Mk.zs b := by
 unfold Mk.zs
 exact (List.replicate_append_replicate ..).symm
theorem over_mid (a b c d : List UInt8) (p : Nat) (hp : p = a.length) (h : d.length = b.length) : Mk.over (a ++ b ++ c) p d = a ++ d ++ c := by
 subst hp
 unfold Mk.over
 rw [h, <- List.length_append, List.drop_left, List.append_assoc a b c, List.take_left, List.append_assoc]
def Mk.textAt (x : Mk.Spec) : Nat := (Mk.pad 4096 (Mk.front2 x)).length
theorem out1_ge (x : Mk.Spec) : (Mk.front2 x).length <= (Mk.out1 x).length := by
 unfold Mk.out1
 split
 ·rw [List.length_append, uJn]; omega
 ·omega
theorem out2_ge (x : Mk.Spec) : (Mk.out1 x).length <= (Mk.out2 x).length := by
 unfold Mk.out2
 split
 ·rw [List.length_append, uJn]; omega
 ·omega
def Mk.blank (x : Mk.Spec) : List UInt8 := Mk.front2 x ++ Mk.zs ((Mk.out2 x).length - (Mk.front2 x).length)
def Mk.withText (x : Mk.Spec) : List UInt8 := Mk.out1 x ++ Mk.zs ((Mk.out2 x).length - (Mk.out1 x).length)
theorem text_eq (x : Mk.Spec) : (if Mk.isText x = true then Mk.over (Mk.blank x) (Mk.textAt x) x.text else Mk.blank x) = Mk.withText x := by
 have h1 := out1_ge x
 have h2 := out2_ge x
 split
 ·rename_i h
  have e1 : Mk.out1 x = Mk.pad 4096 (Mk.front2 x) ++ x.text := by unfold Mk.out1; rw [if_pos h]
  have e2 : (Mk.out1 x).length = Mk.textAt x + x.text.length := by rw [e1, List.length_append]; rfl
  have e3 : Mk.textAt x = (Mk.front2 x).length + Mk.gap 4096 (Mk.front2 x).length := uJn _ _
  have e4 : Mk.blank x = Mk.pad 4096 (Mk.front2 x) ++ Mk.zs x.text.length ++ Mk.zs ((Mk.out2 x).length - (Mk.out1 x).length) := by
   unfold Mk.blank Mk.pad
   rw [List.append_assoc, List.append_assoc, <- zs_add, <- zs_add]
   congr 2
   omega
  rw [e4, over_mid _ _ _ _ (Mk.textAt x) rfl (by rw [vJw])]
  unfold Mk.withText
  rw [e1]
 ·rename_i h
  unfold Mk.withText Mk.blank Mk.out1
  rw [if_neg h]
end Go.Proofs.YtiiiblmhlhikkaaGreatDoor
namespace Go.Proofs.YtiiiblmhlhikkaaGreatDoor
open Go.RowKit
theorem row14Ty : SlTy Tryz.prog 163 162 7 56 := yJ0 (z := .agg #[.int .u64 0, .int .u64 0, .int .u64 0, .int .u64 0, .int .u64 0, .int .u64 0, .int .u64 0]) Tryz.underlying163 (by kernel_rfl) rfl (by omega) (by omega)
theorem rowV_one (r : Mk.Row) : ∀ u ∈ rowV r, u.oneCell' = true := by
 intro u hu
 simp only [rowV, List.mem_cons, List.not_mem_nil, or_false] at hu
 rcases hu with rfl | rfl | rfl | rfl | rfl | rfl | rfl <;> rfl
theorem rowC_snoc (l : List Mk.Row) (r : Mk.Row) : rowC (l ++ [r]) = rowC l ++ rowV r := by unfold rowC; simp
structure MaS (b0 : Nat) (W1 : World) (gf : Nat) (L : Option (Nat × List Value)) (wr : World) (fs : List UInt8) (rs : List Mk.Row) (Al : Option Addr) (nl cl : Nat) : Prop where
 below : Below W1.heap.size W1 wr
 hg : W1.heap.size <= gf
 fi : ∃ A n c, FiM wr 160 gf 0 [.slice A n c, .int .u64 (b0 : Nat)] W1.heap.size A n c fs /\ (∀ k, bk Al = some k -> bk A ≠ some k) /\ ∀ p, L = some p -> bk A ≠ some p.1
 len : nl = rs.length
 row : wr.ownsRow W1.heap.size 162 7 (.slice Al nl cl) nl (rowC rs)
 gl : bk Al ≠ some gf
 last : ∀ p, L = some p -> Blk wr p.1 162 p.2 /\ W1.heap.size <= p.1 /\ p.1 ≠ gf /\ bk Al ≠ some p.1
section
variable {b0 gf nl cl : Nat} {W1 wr w' : World} {L : Option (Nat × List Value)} {fs fs' : List UInt8} {rs : List Mk.Row} {Al : Option Addr}
theorem MaS.size (h : MaS b0 W1 gf L wr fs rs Al nl cl) : W1.heap.size <= wr.heap.size := h.below.size
theorem MaS.calm (h : MaS b0 W1 gf L wr fs rs Al nl cl) (hb : Below wr.heap.size wr w') : MaS b0 W1 gf L w' fs rs Al nl cl := by
 obtain ⟨A, n, c, hf, h1, h2⟩ := h.fi
 exact ⟨h.below.trans (hb.mono h.size), h.hg, ⟨A, n, c, hf.below hb, h1, h2⟩, h.len, own_below h.row hb, h.gl, fun p hp => ⟨(h.last p hp).1.belowSz hb, (h.last p hp).2⟩⟩
theorem MaS.front {A A' : Option Addr} {n c n' c' : Nat} (h : MaS b0 W1 gf L wr fs rs Al nl cl) (hf : FiM wr 160 gf 0 [.slice A n c, .int .u64 (b0 : Nat)] W1.heap.size A n c fs) (h1 : ∀ k, bk Al = some k -> bk A ≠ some k) (h2 : ∀ p, L = some p -> bk A ≠ some p.1) (E : FiE 160 gf 0 [.slice A n c, .int .u64 (b0 : Nat)] W1.heap.size A wr w' A' n' c' fs') : MaS b0 W1 gf L w' fs' rs Al nl cl := by
 obtain ⟨r1, r2⟩ := E.own h.row h.gl h1
 refine ⟨h.below.trans (E.below h.hg (fun k hk => (hf.lt k hk).1) h.size), h.hg, ⟨A', n', c', E.m, r2, fun p hp e => ?_⟩, h.len, r1, h.gl, fun p hp => ⟨E.blk (h.last p hp).1 (h.last p hp).2.2.1 (h2 p hp), (h.last p hp).2⟩⟩
 rcases E.at_ _ e with h3 | h3
 ·exact h2 p hp h3
 ·have := (h.last p hp).1.lt; omega
theorem MaS.push {A2 : Option Addr} {c2 : Nat} (h : MaS b0 W1 gf L wr fs rs Al nl cl) (r : Mk.Row) (ho : w'.ownsRow W1.heap.size 162 7 (.slice A2 (nl + 1) c2) (nl + 1) (rowC rs ++ rowV r)) (hg : wr.grownBy w' (Value.slice Al nl cl).ownBlock) (hat : ∀ k, (Value.slice A2 (nl + 1) c2).ownBlock = some k -> (Value.slice Al nl cl).ownBlock = some k \/ wr.heap.size <= k) : MaS b0 W1 gf L w' fs (rs ++ [r]) A2 (nl + 1) c2 := by
 rw [zJv] at hg
 simp only [zJv] at hat
 obtain ⟨A, n, c, hf, h1, h2⟩ := h.fi
 refine ⟨h.below.grown hg h.size (fun k hk => (zJp h.row k hk).1), h.hg, ⟨A, n, c, hf.grown hg h.gl (fun k hk e => h1 k e hk), fun k hk e => ?_, h2⟩, by rw [h.len, List.length_append]; rfl, by rw [rowC_snoc]; exact ho, fun e => ?_, fun p hp => ⟨(hg.block p.1 (h.last p hp).1.lt (fun e => (h.last p hp).2.2.2 e.symm)).trans (h.last p hp).1, (h.last p hp).2.1, (h.last p hp).2.2.1, fun e => ?_⟩⟩
 ·rcases hat k hk with h3 | h3
  ·exact h1 k h3 e
  ·have := hf.lt k e; omega
 ·rcases hat _ e with h3 | h3
  ·exact h.gl h3
  ·have := hf.blk.lt; omega
 ·rcases hat _ e with h3 | h3
  ·exact (h.last p hp).2.2.2 h3
  ·have := (h.last p hp).1.lt; omega
theorem MaS.lt (h : MaS b0 W1 gf L wr fs rs Al nl cl) : gf < wr.heap.size := by
 obtain ⟨A, n, c, hf, h1, h2⟩ := h.fi
 exact hf.blk.lt
theorem MaS.setLast {gl : Nat} {l l2 : List Value} (h : MaS b0 W1 gf (some (gl, l)) wr fs rs Al nl cl) : MaS b0 W1 gf (some (gl, l2)) (wr.setRow gl l2.toArray) fs rs Al nl cl := by
 obtain ⟨hb, h1, h2, h3⟩ := h.last _ rfl
 obtain ⟨A, n, c, hf, e1, e2⟩ := h.fi
 have e3 := e2 _ rfl
 have own : ∀ {b3 z n3 c3 : Nat} {A3 : Option Addr} {e : TypeId} {ys : List Value}, wr.ownsRow b3 e z (.slice A3 n3 c3) n3 ys -> bk A3 ≠ some gl -> (wr.setRow gl l2.toArray).ownsRow b3 e z (.slice A3 n3 c3) n3 ys := by
  intro b3 z n3 c3 A3 e ys r hne
  refine ⟨r.1, r.2.imp id ?_⟩
  rintro ⟨k, cap, cur, q1, q2, q3, r'⟩
  have hk : bk A3 = some k := by injection q1 with q1; rw [q1]; rfl
  exact ⟨k, cap, cur, q1, q2, (setRow_other wr gl k _ (fun e => hne (by rw [hk, e]))).trans q3, r'⟩
 refine ⟨⟨h.below.os, h.below.tape, h.below.output, by simpa [World.setRow] using h.below.size, fun k hk => (setRow_other wr gl k _ (by omega)).trans (h.below.block k hk)⟩, h.hg, ⟨A, n, c, ⟨(setRow_other wr gl gf _ (fun e => h2 e.symm)).trans hf.blk, hf.at_, own hf.row e3, hf.ne⟩, e1, fun p hp => ?_⟩, h.len, own h.row h3, h.gl, fun p hp => ?_⟩
 ·injection hp with hp; subst hp; exact e3
 ·injection hp with hp; subst hp
  exact ⟨setRow_heap _ _ _ _ _ _ hb, h1, h2, h3⟩
def zrow : List Value := [.int .u64 0, .int .u64 0, .int .u64 0, .int .u64 0, .int .u64 0, .int .u64 0, .int .u64 0]
theorem row14Info : (Tryz.prog.info? 162).map (·.size) = some 7 := by kernel_rfl
theorem rowV_all (r : Mk.Row) : (rowV r).toArray.all (·.oneCell') = true := by simp [rowV, Value.oneCell']
theorem MaS.start {W1 w3 : World} {b0 n c : Nat} {A : Option Addr} {fs : List UInt8} (hb : Below W1.heap.size W1 w3) (ho : w3.ownsRow W1.heap.size 5 1 (.slice A n c) n (bys fs)) (r : Mk.Row) :
  MaS b0 W1 w3.heap.size none ((w3.alloc (.cells #[.slice A n c, .int .u64 (b0 : Nat)] 160)).alloc (.cells (rowV r).toArray 162)) fs [r] (some ⟨w3.heap.size + 1, 0, none⟩) 1 1 := by
 have hs := hb.size
 have b1 : Below w3.heap.size w3 ((w3.alloc (.cells #[.slice A n c, .int .u64 (b0 : Nat)] 160)).alloc (.cells (rowV r).toArray 162)) := ((Below.refl _ _).alloc (Nat.le_refl _) _).alloc (by simp) _
 have hbl := (Blk.new w3 160 [.slice A n c, .int .u64 (b0 : Nat)]).alloc (.cells (rowV r).toArray 162)
 have hbr := Blk.new (w3.alloc (.cells #[.slice A n c, .int .u64 (b0 : Nat)] 160)) 162 (rowV r)
 have e1 : (w3.alloc (.cells #[.slice A n c, .int .u64 (b0 : Nat)] 160)).heap.size = w3.heap.size + 1 := by simp
 rw [e1] at hbr
 have hlt := zJp ho
 refine ⟨hb.trans (b1.mono hs), hs, ⟨A, n, c, ⟨hbl, rfl, own_below ho b1, fun e => by have := hlt _ e; omega⟩, fun k hk e => ?_, fun p hp => by cases hp⟩, rfl, ⟨rfl, .inr ⟨_, 1, _, rfl, by omega, hbr, by omega, by unfold maxLen; omega, rfl, ?_⟩⟩, fun e => ?_, fun p hp => by cases hp⟩
 ·injection hk with hk
  have h9 : w3.heap.size + 1 = k := hk
  have := hlt _ e
  omega
 ·simp [rowC, rowV]
 ·injection e with e
  have h9 : w3.heap.size + 1 = w3.heap.size := e
  omega
theorem MaS.lay {l : List Value} (h : MaS b0 W1 gf none wr fs rs Al nl cl) : MaS b0 W1 gf (some (wr.heap.size, l)) (wr.alloc (.cells l.toArray 162)) fs rs Al nl cl := by
 have hb : Below wr.heap.size wr (wr.alloc (.cells l.toArray 162)) := (Below.refl _ _).alloc (Nat.le_refl _) _
 have h1 := h.calm hb
 obtain ⟨A, n, c, hf, e1, e2⟩ := h.fi
 refine ⟨h1.below, h1.hg, ⟨A, n, c, hf.below hb, e1, fun p hp e => ?_⟩, h1.len, h1.row, h1.gl, fun p hp => ?_⟩
 ·injection hp with hp; subst hp; have := hf.lt _ e; simp at this
 ·injection hp with hp; subst hp
  refine ⟨Blk.new wr _ l, h.size, fun e => ?_, fun e => ?_⟩
  ·have := hf.blk.lt; simp at e; omega
  ·have := zJp h.row _ e; simp at this
end
theorem below_setRow {B k : Nat} {a w : World} (h : Below B a w) (hk : B <= k) (cs : Array Value) : Below B a (w.setRow k cs) :=
 ⟨h.os, h.tape, h.output, by simpa [World.setRow] using h.size, fun j hj => (setRow_other w k j cs (by omega)).trans (h.block j hj)⟩
theorem wJ7 {ops : Array Oper} {rest : List Oper} {o : Oper} {a : Act} {w : World} {Q : Exit -> Act -> World -> Prop} (hgd : o.guard = none) (d x : Operand) (ho : o.op = .call { callee := .builtin .copy, args := #[d, x], argTypes := #[64, 64] }) (k p dn dc base nf cf : Nat) (fs ys : List UInt8)
  (hd : a.eval d = .slice (some ⟨k, p, none⟩) dn dc) (hown : w.ownsRow base 5 1 (.slice (some ⟨k, 0, none⟩) nf cf) nf (bys fs)) (b2 o2 m cx B : Nat) (hx : a.eval x = .slice (some ⟨b2, o2, none⟩) m cx) (hr : Rd w B 1 (some ⟨b2, o2, none⟩) m (bys ys)) (hm : m <= dn) (hdn : p + m <= nf)
  (h : ∀ w', w'.ownsRow base 5 1 (.slice (some ⟨k, 0, none⟩) nf cf) nf (bys (Mk.over fs p ys)) -> (∃ cs, w' = w.setRow k cs) -> wpList Tryz.prog ops Q rest (a.put o.dst (.int .i64 m)) w') : wpList Tryz.prog ops Q (o :: rest) a w :=
 wpList_plain hgd fun _ hK => wp_copyB d x ho k p dn dc base nf cf fs ys hd hown b2 o2 m cx B hx hr hm hdn fun w' h2 h3 => hK _ _ (h w' h2 h3)
structure CpM (W8 wr : World) (kb n : Nat) (cur : List UInt8) : Prop where
 below : Below W8.heap.size W8 wr
 hk : W8.heap.size <= kb
 row : wr.ownsRow W8.heap.size 5 1 (.slice (some ⟨kb, 0, none⟩) n n) n (bys cur)
theorem CpM.calm {W8 wr w' : World} {kb n : Nat} {cur : List UInt8} (h : CpM W8 wr kb n cur) (hb : Below wr.heap.size wr w') : CpM W8 w' kb n cur := ⟨h.below.trans (hb.mono h.below.size), h.hk, own_below h.row hb⟩
theorem CpM.copied {W8 wr : World} {kb n : Nat} {cur cur' : List UInt8} (h : CpM W8 wr kb n cur) {w' : World} (ho : w'.ownsRow W8.heap.size 5 1 (.slice (some ⟨kb, 0, none⟩) n n) n (bys cur')) (he : ∃ cs, w' = wr.setRow kb cs) : CpM W8 w' kb n cur' := by
 obtain ⟨cs, rfl⟩ := he
 exact ⟨below_setRow h.below h.hk cs, h.hk, ho⟩
theorem CpM.drew {W8 wr : World} {kb n : Nat} {cur : List UInt8} (h : CpM W8 wr kb n cur) (q : Nat) : CpM W8 (wr.drewN q) kb n cur := ⟨below_drewN' h.below q, h.hk, h.row⟩
open Go.RowKit
theorem conv24 (w : World) (C : Array Value) (n c : Nat) : (convert 64 64 (.slice (some ⟨w.heap.size, 0, none⟩) n c)).run Tryz.prog (w.alloc (.cells C 5)) = .ok (.slice (some ⟨w.heap.size, 0, none⟩) n c) (w.alloc (.cells C 5 (C.size, C.size + 1))) := Lib.run_convert_bytes_const w 64 5 C n c Tryz.underlying64 Tryz.underlying5
theorem wpList_appZG {w : World} {ops : Array Oper} {rest : List Oper} {o : Oper} {a : Act} {Q : Exit -> Act -> World -> Prop} (hgd : o.guard = none) (s x : Operand)
  (ho : o.op = .call { callee := .builtin .append, args := #[s, x], argTypes := #[64, 3] }) (g n c : Nat) (xs : List UInt8) (hs : a.eval s = .slice (some ⟨g, 0, none⟩) n c) (hr : ∀ j u, (bys xs)[j]? = some u -> w.cell? ((⟨g, 0, none⟩ : Addr).add j) = some u) (hxl : xs.length = n)
  (k : Nat) (hx : a.eval x = .int .i64 (k : Nat)) (hroom : c < n + k) (hb : n + k <= 140737488355328)
  (h : ∀ c' w', w'.ownsRow w.heap.size 5 1 (.slice (some ⟨w.heap.size, 0, none⟩) (n + k) c') (n + k) (bys (xs ++ List.replicate k 0)) -> Below w.heap.size w w' -> wpList Tryz.prog ops Q rest (a.put o.dst (.slice (some ⟨w.heap.size, 0, none⟩) (n + k) c')) w') (hk : 0 < k) : wpList Tryz.prog ops Q (o :: rest) a w := by
 obtain ⟨i, hi, hz, hsize, hby⟩ := info_parts yJo
 have ht := Tryz.underlying64
 have htn := intTyp
 have hxl2 : (bys xs).length = n := by simp [bys]; exact hxl
 have hzl : (bys (List.replicate k 0)).length = k := by simp [bys]
 have hlen : (bys xs ++ bys (List.replicate k 0)).length = (n + k) * 1 := by rw [List.length_append, hxl2]; simp [bys]
 have hfo := run_firstCells_some (P := Tryz.prog) w.drew 1 n ⟨g, 0, none⟩ n c (bys xs) (by simpa using hxl2) (by simpa using hr)
 have hrr := Lib.run_append_grow_zeros (P := Tryz.prog) w 64 3 o.type 5 i (.int .u8 0) .i64 .i64 ht htn hi hz (some ⟨g, 0, none⟩) n c (bys xs) (by rw [hsize]; exact hfo) k hk (by omega) hroom (by omega) (by rw [hby]; omega) (by rw [hby]; exact growslice_fits (by omega) (by omega))
 refine wpList_plain hgd fun K hK => ?_
 unfold Oper.wp execOp
 simp only [ho, resolve, invoke, builtin, Sem.run_bind, Sem.run_pure, Result.andThen_ok, List.map_toArray, List.map_cons, List.map_nil, hs, hx, hrr]
 refine hK _ _ (h _ _ ?_ ((zJ3 (Below.refl _ _)).alloc (Nat.le_refl _) _))
 have hge := grownCap_ge w (n + k) c 5
 have hcm : grownCap w (n + k) c 5 <= maxLen := grownCap_le_maxLen w (n + k) c 5 (by unfold maxLen; omega)
 rw [zJj]
 refine ⟨hlen, .inr ⟨w.heap.size, _, _, rfl, Nat.le_refl _, heap_alloc_new w.drew _, hge, hcm, ?_, ?_⟩⟩
 ·have hz1 : (Value.int IntKind.u8 0).cells.size = 1 := rfl
  simp only [Array.size_append, List.size_toArray, size_zeroCells, hz1, hxl2]
  omega
 ·rw [Array.toList_append, Array.toList_append, zeroL, List.append_assoc, <- hlen, <- List.append_assoc]
  exact List.take_left
set_option maxRecDepth 100000 in
set_option maxHeartbeats 8000000 in
theorem rheader_any (s : Xq) (Al : Option Addr) (nl cl B : Nat) (l : List Mk.Row) (w : World) (hB : B <= w.heap.size) (ho : XqOk s) (hl : l.length = nl) (hnl : nl <= 4294967296) (hr : Rd w B 7 Al nl (rowC l)) (hok : ∀ r ∈ l, RowOk r) :
  Calls Tryz.prog 77 #[.agg s.l.toArray, .slice Al nl cl] w fun e w' => ∃ A' c', e = .returned (.slice A' (64 + 56 * nl) c') /\ w'.ownsRow w.heap.size 5 1 (.slice A' (64 + 56 * nl) c') (64 + 56 * nl) (bys (Mk.head s.x l)) /\ Below w.heap.size w w' := by
 have hb1 : Below w.heap.size w (w.alloc (.cells #[.int .u16 (s.x.type : Nat), .int .u64 (s.x.entry : Nat), .string s.x.interp, .slice s.At s.x.text.length s.ct, .slice s.Ad s.x.data.length s.cd, .int .u64 (s.x.more : Nat), .bool s.x.dynamic, .slice s.A1 s.x.dyn.needed.length s.c1, .string s.x.dyn.soname, .string s.x.dyn.run, .slice s.A2 s.x.dyn.syms.length s.c2, .slice s.A3 s.x.dyn.relas.length s.c3, .int .i64 s.x.apart] 119)) := (Below.refl _ _).alloc (Nat.le_refl _) _
 have hbl := Blk.new w 119 s.l
 have hr1 := hr.below (hb1.mono hB)
 have Hty : Hid (∀ W, Below (w.heap.size + 1) (w.alloc (.cells #[.int .u16 (s.x.type : Nat), .int .u64 (s.x.entry : Nat), .string s.x.interp, .slice s.At s.x.text.length s.ct, .slice s.Ad s.x.data.length s.cd, .int .u64 (s.x.more : Nat), .bool s.x.dynamic, .slice s.A1 s.x.dyn.needed.length s.c1, .string s.x.dyn.soname, .string s.x.dyn.run, .slice s.A2 s.x.dyn.syms.length s.c2, .slice s.A3 s.x.dyn.relas.length s.c3, .int .i64 s.x.apart] 119)) W -> W.cell? ⟨w.heap.size, 0, none⟩ = some (.int .u16 (s.x.type : Nat))) := zJ2 (fun W hW => (hW.cell (p := ⟨w.heap.size, 0, none⟩) (by show w.heap.size < _; omega)).trans (hbl.cell (i := 0) rfl))
 have hen := ho.entry
 have hty := ho.type
 have Hbl : Hid (∀ W, Below (w.heap.size + 1) (w.alloc (.cells #[.int .u16 (s.x.type : Nat), .int .u64 (s.x.entry : Nat), .string s.x.interp, .slice s.At s.x.text.length s.ct, .slice s.Ad s.x.data.length s.cd, .int .u64 (s.x.more : Nat), .bool s.x.dynamic, .slice s.A1 s.x.dyn.needed.length s.c1, .string s.x.dyn.soname, .string s.x.dyn.run, .slice s.A2 s.x.dyn.syms.length s.c2, .slice s.A3 s.x.dyn.relas.length s.c3, .int .i64 s.x.apart] 119)) W -> W.cell? ⟨w.heap.size, 1, none⟩ = some (.int .u64 (s.x.entry : Nat))) := zJ2 (fun W hW => (hW.cell (p := ⟨w.heap.size, 1, none⟩) (by show w.heap.size < _; omega)).trans (hbl.cell (i := 1) rfl))
 have HBx := zJ2 hb1
 have Hr := zJ2 hr1
 have Hok := zJ2 hok
 have Hl := zJ2 hl
 have HE1 := zJ2 (show (w.alloc (.cells #[.int .u16 (s.x.type : Nat), .int .u64 (s.x.entry : Nat), .string s.x.interp, .slice s.At s.x.text.length s.ct, .slice s.Ad s.x.data.length s.cd, .int .u64 (s.x.more : Nat), .bool s.x.dynamic, .slice s.A1 s.x.dyn.needed.length s.c1, .string s.x.dyn.soname, .string s.x.dyn.run, .slice s.A2 s.x.dyn.syms.length s.c2, .slice s.A3 s.x.dyn.relas.length s.c3, .int .i64 s.x.apart] 119)).heap.size = w.heap.size + 1 by simp)
 have Hhead := zJ2 (show Mk.head s.x l = Mk.magic ++ Cl.lb s.x.type 2 ++ Cl.lb 62 2 ++ Cl.lb 1 4 ++ Cl.lb s.x.entry 8 ++ Cl.lb 64 8 ++ Cl.lb 0 8 ++ Cl.lb 0 4 ++ Cl.lb 64 2 ++ Cl.lb 56 2 ++ Cl.lb l.length 2 ++ Cl.lb 64 2 ++ Cl.lb 0 2 ++ Cl.lb 0 2 ++ Mk.rowsB l from rfl)
 show Calls _ _ #[.agg #[.int .u16 (s.x.type : Nat), .int .u64 (s.x.entry : Nat), .string s.x.interp, .slice s.At s.x.text.length s.ct, .slice s.Ad s.x.data.length s.cd, .int .u64 (s.x.more : Nat), .bool s.x.dynamic, .slice s.A1 s.x.dyn.needed.length s.c1, .string s.x.dyn.soname, .string s.x.dyn.run, .slice s.A2 s.x.dyn.syms.length s.c2, .slice s.A3 s.x.dyn.relas.length s.c3, .int .i64 s.x.apart], .slice Al nl cl] w _
 clear hb1 hbl hr hr1 hok hl ho
 generalize Mk.head s.x l = hd at *
 generalize s.x.type = ty at *
 generalize s.x.entry = en at *
 have hcv := conv24 (w.alloc (.cells #[.int .u16 (ty : Nat), .int .u64 (en : Nat), .string s.x.interp, .slice s.At s.x.text.length s.ct, .slice s.Ad s.x.data.length s.cd, .int .u64 (s.x.more : Nat), .bool s.x.dynamic, .slice s.A1 s.x.dyn.needed.length s.c1, .string s.x.dyn.soname, .string s.x.dyn.run, .slice s.A2 s.x.dyn.syms.length s.c2, .slice s.A3 s.x.dyn.relas.length s.c3, .int .i64 s.x.apart] 119)) #[.int .u8 127, .int .u8 69, .int .u8 76, .int .u8 70, .int .u8 2, .int .u8 1, .int .u8 1] 7 7
 rw [zJ1 HE1] at hcv
 have hbw : Below (w.heap.size + 1) (w.alloc (.cells #[.int .u16 (ty : Nat), .int .u64 (en : Nat), .string s.x.interp, .slice s.At s.x.text.length s.ct, .slice s.Ad s.x.data.length s.cd, .int .u64 (s.x.more : Nat), .bool s.x.dynamic, .slice s.A1 s.x.dyn.needed.length s.c1, .string s.x.dyn.soname, .string s.x.dyn.run, .slice s.A2 s.x.dyn.syms.length s.c2, .slice s.A3 s.x.dyn.relas.length s.c3, .int .i64 s.x.apart] 119)) ((w.alloc (.cells #[.int .u16 (ty : Nat), .int .u64 (en : Nat), .string s.x.interp, .slice s.At s.x.text.length s.ct, .slice s.Ad s.x.data.length s.cd, .int .u64 (s.x.more : Nat), .bool s.x.dynamic, .slice s.A1 s.x.dyn.needed.length s.c1, .string s.x.dyn.soname, .string s.x.dyn.run, .slice s.A2 s.x.dyn.syms.length s.c2, .slice s.A3 s.x.dyn.relas.length s.c3, .int .i64 s.x.apart] 119)).alloc (.cells #[.int .u8 127, .int .u8 69, .int .u8 76, .int .u8 70, .int .u8 2, .int .u8 1, .int .u8 1] 5 (7, 8))) := (Below.refl _ _).alloc (by rw [zJ1 HE1]; exact Nat.le_refl _) _
 have hcells : ∀ j u, (bys [127, 69, 76, 70, 2, 1, 1])[j]? = some u -> ((w.alloc (.cells #[.int .u16 (ty : Nat), .int .u64 (en : Nat), .string s.x.interp, .slice s.At s.x.text.length s.ct, .slice s.Ad s.x.data.length s.cd, .int .u64 (s.x.more : Nat), .bool s.x.dynamic, .slice s.A1 s.x.dyn.needed.length s.c1, .string s.x.dyn.soname, .string s.x.dyn.run, .slice s.A2 s.x.dyn.syms.length s.c2, .slice s.A3 s.x.dyn.relas.length s.c3, .int .i64 s.x.apart] 119)).alloc (.cells #[.int .u8 127, .int .u8 69, .int .u8 76, .int .u8 70, .int .u8 2, .int .u8 1, .int .u8 1] 5 (7, 8))).cell? ((⟨w.heap.size + 1, 0, none⟩ : Addr).add j) = some u := by
  intro j u hu
  have h := heap_alloc_new (w.alloc (.cells #[.int .u16 (ty : Nat), .int .u64 (en : Nat), .string s.x.interp, .slice s.At s.x.text.length s.ct, .slice s.Ad s.x.data.length s.cd, .int .u64 (s.x.more : Nat), .bool s.x.dynamic, .slice s.A1 s.x.dyn.needed.length s.c1, .string s.x.dyn.soname, .string s.x.dyn.run, .slice s.A2 s.x.dyn.syms.length s.c2, .slice s.A3 s.x.dyn.relas.length s.c3, .int .i64 s.x.apart] 119)) (.cells #[.int .u8 127, .int .u8 69, .int .u8 76, .int .u8 70, .int .u8 2, .int .u8 1, .int .u8 1] 5 (7, 8))
  rw [zJ1 HE1] at h
  rw [Addr.add_lit, cell_of_row _ _ _ _ _ _ h, Nat.zero_add]
  simpa [bys] using hu
 have Hbw := zJ2 hbw
 have Hcells := zJ2 hcells
 have hszw : w.heap.size + 1 <= ((w.alloc (.cells #[.int .u16 (ty : Nat), .int .u64 (en : Nat), .string s.x.interp, .slice s.At s.x.text.length s.ct, .slice s.Ad s.x.data.length s.cd, .int .u64 (s.x.more : Nat), .bool s.x.dynamic, .slice s.A1 s.x.dyn.needed.length s.c1, .string s.x.dyn.soname, .string s.x.dyn.run, .slice s.A2 s.x.dyn.syms.length s.c2, .slice s.A3 s.x.dyn.relas.length s.c3, .int .i64 s.x.apart] 119)).alloc (.cells #[.int .u8 127, .int .u8 69, .int .u8 76, .int .u8 70, .int .u8 2, .int .u8 1, .int .u8 1] 5 (7, 8))).heap.size := by have := hbw.size; rw [zJ1 HE1] at this; exact this
 have Hszw := zJ2 hszw
 clear hbw hcells hszw
 go_enter Tryz.func77, Tryz.ntmps77
 go_wp2_with (at_builtin; refine wpList_appZG rfl _ _ rfl (w.heap.size + 1) 7 7 [127, 69, 76, 70, 2, 1, 1] rfl (zJ1 Hcells) rfl 9 rfl (by omega) (by omega) ?_ (by omega); intro c0 v0 ho hb; have HO0 := zJ2 (zJd ho (zJ1 Hszw)); have HB0 := zJ2 ((zJ1 Hbw).trans (hb.mono (zJ1 Hszw))); clear ho hb; have y0 := (zJ1 Hty) v0 (zJ1 HB0))
 have hs0 : w.heap.size + 1 <= v0.heap.size := by
  have h2 := (zJ1 HB0).size
  rw [zJ1 HE1] at h2
  exact h2
 have hown0 : v0.ownsRow (w.heap.size + 1) 5 1 (.slice (some ⟨w.heap.size + 1 + 1, 0, none⟩) 16 c0) 16 (bys ([127, 69, 76, 70, 2, 1, 1] ++ List.replicate 9 0)) := by
  have h := zJ1 HO0
  rw [show ((w.alloc (.cells #[.int .u16 (ty : Nat), .int .u64 (en : Nat), .string s.x.interp, .slice s.At s.x.text.length s.ct, .slice s.Ad s.x.data.length s.cd, .int .u64 (s.x.more : Nat), .bool s.x.dynamic, .slice s.A1 s.x.dyn.needed.length s.c1, .string s.x.dyn.soname, .string s.x.dyn.run, .slice s.A2 s.x.dyn.syms.length s.c2, .slice s.A3 s.x.dyn.relas.length s.c3, .int .i64 s.x.apart] 119)).alloc (.cells #[.int .u8 127, .int .u8 69, .int .u8 76, .int .u8 70, .int .u8 2, .int .u8 1, .int .u8 1] 5 (7, 8))).heap.size = w.heap.size + 1 + 1 by simp] at h
  exact h
 have HG00 := zJ2 (Grew.refl hown0)
 have Hlow := zJ2 (fun k hk => (hown0.lt k hk).1)
 clear Hbw hown0 HO0 hcv Hcells Hszw
 generalize (w.alloc (.cells #[.int .u16 (ty : Nat), .int .u64 (en : Nat), .string s.x.interp, .slice s.At s.x.text.length s.ct, .slice s.Ad s.x.data.length s.cd, .int .u64 (s.x.more : Nat), .bool s.x.dynamic, .slice s.A1 s.x.dyn.needed.length s.c1, .string s.x.dyn.soname, .string s.x.dyn.run, .slice s.A2 s.x.dyn.syms.length s.c2, .slice s.A3 s.x.dyn.relas.length s.c3, .int .i64 s.x.apart] 119)) = W1 at *
 have e1 := zJ1 HE1
 refine (zJk (ty) 2 _ _ (rfl) rfl v0 (by omega) (.inr (.inl rfl))).mono ?_
 rintro e x1w ⟨A1n, c1n, rfl, ho, hb⟩
 have hs1n := hb.size
 have Ho1 := zJ2 ho
 have Hb1 := zJ2 hb
 have Hr1 := zJ2 (own_below (zJ1 HG00).own hb)
 have hsg1 := (zJ1 HG00).kept.size
 clear ho hb
 go_wp2_with (at_builtin; refine zJe zJy rfl _ _ rfl (w.heap.size + 1) (.slice (some ⟨w.heap.size + 1 + 1, 0, none⟩) (16) c0) (16) _ rfl (zJ1 Hr1) x1w.heap.size A1n 2 c1n (bys (Cl.lb (ty) 2)) rfl (Rd.of_own (zJ1 Ho1)) (zJm _) (by omega) (by omega) ?_; intro A1r c1r x1v ho hg hat; have HG1 := zJ2 ((zJ1 HG00).trans (Grew.after (zJ1 Hb1) (show Grew x1w x1v (w.heap.size + 1) (.slice (some ⟨w.heap.size + 1 + 1, 0, none⟩) (16) c0) (.slice A1r (16 + 2) c1r) (16 + 2) (([127, 69, 76, 70, 2, 1, 1] ++ List.replicate 9 0) ++ Cl.lb (ty) 2) from ⟨by rw [zJj]; exact ho, hg, hat⟩))); clear ho hg hat; have y1 := (zJ1 Hbl) x1v ((zJ1 HB0).trans ((zJ1 HG1).below hs0 (zJ1 Hlow))))
 have hsw1 := (zJ1 HG1).kept.size
 refine (zJk (62) 2 _ _ (rfl) rfl x1v (by omega) (.inr (.inl rfl))).mono ?_
 rintro e x2w ⟨A2n, c2n, rfl, ho, hb⟩
 have hs2n := hb.size
 have Ho2 := zJ2 ho
 have Hb2 := zJ2 hb
 have Hr2 := zJ2 (own_below (zJ1 HG1).own hb)
 have hsg2 := (zJ1 HG1).kept.size
 clear ho hb
 go_wp2_with (at_builtin; refine zJe zJy rfl _ _ rfl (w.heap.size + 1) (.slice A1r (16 + 2) c1r) (16 + 2) _ rfl (zJ1 Hr2) x2w.heap.size A2n 2 c2n (bys (Cl.lb (62) 2)) rfl (Rd.of_own (zJ1 Ho2)) (zJm _) (by omega) (by omega) ?_; intro A2r c2r x2v ho hg hat; have HG2 := zJ2 ((zJ1 HG1).trans (Grew.after (zJ1 Hb2) (show Grew x2w x2v (w.heap.size + 1) (.slice A1r (16 + 2) c1r) (.slice A2r (16 + 2 + 2) c2r) (16 + 2 + 2) (([127, 69, 76, 70, 2, 1, 1] ++ List.replicate 9 0) ++ Cl.lb (ty) 2 ++ Cl.lb (62) 2) from ⟨by rw [zJj]; exact ho, hg, hat⟩))); clear ho hg hat; skip)
 have hsw2 := (zJ1 HG2).kept.size
 refine (zJk (1) 4 _ _ (rfl) rfl x2v (by omega) (.inr (.inr (.inl rfl)))).mono ?_
 rintro e x3w ⟨A3n, c3n, rfl, ho, hb⟩
 have hs3n := hb.size
 have Ho3 := zJ2 ho
 have Hb3 := zJ2 hb
 have Hr3 := zJ2 (own_below (zJ1 HG2).own hb)
 have hsg3 := (zJ1 HG2).kept.size
 clear ho hb
 go_wp2_with (at_builtin; refine zJe zJy rfl _ _ rfl (w.heap.size + 1) (.slice A2r (16 + 2 + 2) c2r) (16 + 2 + 2) _ rfl (zJ1 Hr3) x3w.heap.size A3n 4 c3n (bys (Cl.lb (1) 4)) rfl (Rd.of_own (zJ1 Ho3)) (zJm _) (by omega) (by omega) ?_; intro A3r c3r x3v ho hg hat; have HG3 := zJ2 ((zJ1 HG2).trans (Grew.after (zJ1 Hb3) (show Grew x3w x3v (w.heap.size + 1) (.slice A2r (16 + 2 + 2) c2r) (.slice A3r (16 + 2 + 2 + 4) c3r) (16 + 2 + 2 + 4) (([127, 69, 76, 70, 2, 1, 1] ++ List.replicate 9 0) ++ Cl.lb (ty) 2 ++ Cl.lb (62) 2 ++ Cl.lb (1) 4) from ⟨by rw [zJj]; exact ho, hg, hat⟩))); clear ho hg hat; have y1 := (zJ1 Hbl) x3v ((zJ1 HB0).trans ((zJ1 HG3).below hs0 (zJ1 Hlow))))
 have hsw3 := (zJ1 HG3).kept.size
 refine (zJk (en) 8 _ _ (rfl) rfl x3v hen (.inr (.inr (.inr rfl)))).mono ?_
 rintro e x4w ⟨A4n, c4n, rfl, ho, hb⟩
 have hs4n := hb.size
 have Ho4 := zJ2 ho
 have Hb4 := zJ2 hb
 have Hr4 := zJ2 (own_below (zJ1 HG3).own hb)
 have hsg4 := (zJ1 HG3).kept.size
 clear ho hb
 go_wp2_with (at_builtin; refine zJe zJy rfl _ _ rfl (w.heap.size + 1) (.slice A3r (16 + 2 + 2 + 4) c3r) (16 + 2 + 2 + 4) _ rfl (zJ1 Hr4) x4w.heap.size A4n 8 c4n (bys (Cl.lb (en) 8)) rfl (Rd.of_own (zJ1 Ho4)) (zJm _) (by omega) (by omega) ?_; intro A4r c4r x4v ho hg hat; have HG4 := zJ2 ((zJ1 HG3).trans (Grew.after (zJ1 Hb4) (show Grew x4w x4v (w.heap.size + 1) (.slice A3r (16 + 2 + 2 + 4) c3r) (.slice A4r (16 + 2 + 2 + 4 + 8) c4r) (16 + 2 + 2 + 4 + 8) (([127, 69, 76, 70, 2, 1, 1] ++ List.replicate 9 0) ++ Cl.lb (ty) 2 ++ Cl.lb (62) 2 ++ Cl.lb (1) 4 ++ Cl.lb (en) 8) from ⟨by rw [zJj]; exact ho, hg, hat⟩))); clear ho hg hat; skip)
 have hsw4 := (zJ1 HG4).kept.size
 refine (zJk (64) 8 _ _ (rfl) rfl x4v (by omega) (.inr (.inr (.inr rfl)))).mono ?_
 rintro e x5w ⟨A5n, c5n, rfl, ho, hb⟩
 have hs5n := hb.size
 have Ho5 := zJ2 ho
 have Hb5 := zJ2 hb
 have Hr5 := zJ2 (own_below (zJ1 HG4).own hb)
 have hsg5 := (zJ1 HG4).kept.size
 clear ho hb
 go_wp2_with (first | (at_builtin; refine zJe zJy rfl _ _ rfl (w.heap.size + 1) (.slice A4r (16 + 2 + 2 + 4 + 8) c4r) (16 + 2 + 2 + 4 + 8) _ rfl (zJ1 Hr5) x5w.heap.size A5n 8 c5n (bys (Cl.lb (64) 8)) rfl (Rd.of_own (zJ1 Ho5)) (zJm _) (by omega) (by omega) ?_; intro A5r c5r x5v ho hg hat; have HG5 := zJ2 ((zJ1 HG4).trans (Grew.after (zJ1 Hb5) (show Grew x5w x5v (w.heap.size + 1) (.slice A4r (16 + 2 + 2 + 4 + 8) c4r) (.slice A5r (16 + 2 + 2 + 4 + 8 + 8) c5r) (16 + 2 + 2 + 4 + 8 + 8) (([127, 69, 76, 70, 2, 1, 1] ++ List.replicate 9 0) ++ Cl.lb (ty) 2 ++ Cl.lb (62) 2 ++ Cl.lb (1) 4 ++ Cl.lb (en) 8 ++ Cl.lb (64) 8) from ⟨by rw [zJj]; exact ho, hg, hat⟩))); clear ho hg hat; skip) | (at_builtin; refine wJv rfl _ _ rfl (w.heap.size + 1) (.slice A5r (16 + 2 + 2 + 4 + 8 + 8) c5r) (16 + 2 + 2 + 4 + 8 + 8) _ rfl (zJ1 HG5).own 12 rfl (by omega) (by have := (zJ1 HG5).kept.size; omega) ?_; intro A5z c5z z5v hG; have HZ5 := zJ2 ((zJ1 HG5).trans hG); clear hG; skip))
 have hsw5 := (zJ1 HG5).kept.size
 have hsz5 := (zJ1 HZ5).kept.size
 refine (zJk (64) 2 _ _ (rfl) rfl z5v (by omega) (.inr (.inl rfl))).mono ?_
 rintro e x6w ⟨A6n, c6n, rfl, ho, hb⟩
 have hs6n := hb.size
 have Ho6 := zJ2 ho
 have Hb6 := zJ2 hb
 have Hr6 := zJ2 (own_below (zJ1 HZ5).own hb)
 have hsg6 := (zJ1 HZ5).kept.size
 clear ho hb
 go_wp2_with (at_builtin; refine zJe zJy rfl _ _ rfl (w.heap.size + 1) (.slice A5z (16 + 2 + 2 + 4 + 8 + 8 + 12) c5z) (16 + 2 + 2 + 4 + 8 + 8 + 12) _ rfl (zJ1 Hr6) x6w.heap.size A6n 2 c6n (bys (Cl.lb (64) 2)) rfl (Rd.of_own (zJ1 Ho6)) (zJm _) (by omega) (by omega) ?_; intro A6r c6r x6v ho hg hat; have HG6 := zJ2 ((zJ1 HZ5).trans (Grew.after (zJ1 Hb6) (show Grew x6w x6v (w.heap.size + 1) (.slice A5z (16 + 2 + 2 + 4 + 8 + 8 + 12) c5z) (.slice A6r (16 + 2 + 2 + 4 + 8 + 8 + 12 + 2) c6r) (16 + 2 + 2 + 4 + 8 + 8 + 12 + 2) (([127, 69, 76, 70, 2, 1, 1] ++ List.replicate 9 0) ++ Cl.lb (ty) 2 ++ Cl.lb (62) 2 ++ Cl.lb (1) 4 ++ Cl.lb (en) 8 ++ Cl.lb (64) 8 ++ List.replicate 12 0 ++ Cl.lb (64) 2) from ⟨by rw [zJj]; exact ho, hg, hat⟩))); clear ho hg hat; skip)
 have hsw6 := (zJ1 HG6).kept.size
 refine (zJk (56) 2 _ _ (rfl) rfl x6v (by omega) (.inr (.inl rfl))).mono ?_
 rintro e x7w ⟨A7n, c7n, rfl, ho, hb⟩
 have hs7n := hb.size
 have Ho7 := zJ2 ho
 have Hb7 := zJ2 hb
 have Hr7 := zJ2 (own_below (zJ1 HG6).own hb)
 have hsg7 := (zJ1 HG6).kept.size
 clear ho hb
 go_wp2_with (at_builtin; refine zJe zJy rfl _ _ rfl (w.heap.size + 1) (.slice A6r (16 + 2 + 2 + 4 + 8 + 8 + 12 + 2) c6r) (16 + 2 + 2 + 4 + 8 + 8 + 12 + 2) _ rfl (zJ1 Hr7) x7w.heap.size A7n 2 c7n (bys (Cl.lb (56) 2)) rfl (Rd.of_own (zJ1 Ho7)) (zJm _) (by omega) (by omega) ?_; intro A7r c7r x7v ho hg hat; have HG7 := zJ2 ((zJ1 HG6).trans (Grew.after (zJ1 Hb7) (show Grew x7w x7v (w.heap.size + 1) (.slice A6r (16 + 2 + 2 + 4 + 8 + 8 + 12 + 2) c6r) (.slice A7r (16 + 2 + 2 + 4 + 8 + 8 + 12 + 2 + 2) c7r) (16 + 2 + 2 + 4 + 8 + 8 + 12 + 2 + 2) (([127, 69, 76, 70, 2, 1, 1] ++ List.replicate 9 0) ++ Cl.lb (ty) 2 ++ Cl.lb (62) 2 ++ Cl.lb (1) 4 ++ Cl.lb (en) 8 ++ Cl.lb (64) 8 ++ List.replicate 12 0 ++ Cl.lb (64) 2 ++ Cl.lb (56) 2) from ⟨by rw [zJj]; exact ho, hg, hat⟩))); clear ho hg hat; skip)
 have hsw7 := (zJ1 HG7).kept.size
 refine (zJk (nl) 2 _ _ (rfl) rfl x7v (by omega) (.inr (.inl rfl))).mono ?_
 rintro e x8w ⟨A8n, c8n, rfl, ho, hb⟩
 have hs8n := hb.size
 have Ho8 := zJ2 ho
 have Hb8 := zJ2 hb
 have Hr8 := zJ2 (own_below (zJ1 HG7).own hb)
 have hsg8 := (zJ1 HG7).kept.size
 clear ho hb
 go_wp2_with (at_builtin; refine zJe zJy rfl _ _ rfl (w.heap.size + 1) (.slice A7r (16 + 2 + 2 + 4 + 8 + 8 + 12 + 2 + 2) c7r) (16 + 2 + 2 + 4 + 8 + 8 + 12 + 2 + 2) _ rfl (zJ1 Hr8) x8w.heap.size A8n 2 c8n (bys (Cl.lb (nl) 2)) rfl (Rd.of_own (zJ1 Ho8)) (zJm _) (by omega) (by omega) ?_; intro A8r c8r x8v ho hg hat; have HG8 := zJ2 ((zJ1 HG7).trans (Grew.after (zJ1 Hb8) (show Grew x8w x8v (w.heap.size + 1) (.slice A7r (16 + 2 + 2 + 4 + 8 + 8 + 12 + 2 + 2) c7r) (.slice A8r (16 + 2 + 2 + 4 + 8 + 8 + 12 + 2 + 2 + 2) c8r) (16 + 2 + 2 + 4 + 8 + 8 + 12 + 2 + 2 + 2) (([127, 69, 76, 70, 2, 1, 1] ++ List.replicate 9 0) ++ Cl.lb (ty) 2 ++ Cl.lb (62) 2 ++ Cl.lb (1) 4 ++ Cl.lb (en) 8 ++ Cl.lb (64) 8 ++ List.replicate 12 0 ++ Cl.lb (64) 2 ++ Cl.lb (56) 2 ++ Cl.lb (nl) 2) from ⟨by rw [zJj]; exact ho, hg, hat⟩))); clear ho hg hat; skip)
 have hsw8 := (zJ1 HG8).kept.size
 refine (zJk (64) 2 _ _ (rfl) rfl x8v (by omega) (.inr (.inl rfl))).mono ?_
 rintro e x9w ⟨A9n, c9n, rfl, ho, hb⟩
 have hs9n := hb.size
 have Ho9 := zJ2 ho
 have Hb9 := zJ2 hb
 have Hr9 := zJ2 (own_below (zJ1 HG8).own hb)
 have hsg9 := (zJ1 HG8).kept.size
 clear ho hb
 go_wp2_with (first | (at_builtin; refine zJe zJy rfl _ _ rfl (w.heap.size + 1) (.slice A8r (16 + 2 + 2 + 4 + 8 + 8 + 12 + 2 + 2 + 2) c8r) (16 + 2 + 2 + 4 + 8 + 8 + 12 + 2 + 2 + 2) _ rfl (zJ1 Hr9) x9w.heap.size A9n 2 c9n (bys (Cl.lb (64) 2)) rfl (Rd.of_own (zJ1 Ho9)) (zJm _) (by omega) (by omega) ?_; intro A9r c9r x9v ho hg hat; have HG9 := zJ2 ((zJ1 HG8).trans (Grew.after (zJ1 Hb9) (show Grew x9w x9v (w.heap.size + 1) (.slice A8r (16 + 2 + 2 + 4 + 8 + 8 + 12 + 2 + 2 + 2) c8r) (.slice A9r (16 + 2 + 2 + 4 + 8 + 8 + 12 + 2 + 2 + 2 + 2) c9r) (16 + 2 + 2 + 4 + 8 + 8 + 12 + 2 + 2 + 2 + 2) (([127, 69, 76, 70, 2, 1, 1] ++ List.replicate 9 0) ++ Cl.lb (ty) 2 ++ Cl.lb (62) 2 ++ Cl.lb (1) 4 ++ Cl.lb (en) 8 ++ Cl.lb (64) 8 ++ List.replicate 12 0 ++ Cl.lb (64) 2 ++ Cl.lb (56) 2 ++ Cl.lb (nl) 2 ++ Cl.lb (64) 2) from ⟨by rw [zJj]; exact ho, hg, hat⟩))); clear ho hg hat; skip) | (at_builtin; refine wJv rfl _ _ rfl (w.heap.size + 1) (.slice A9r (16 + 2 + 2 + 4 + 8 + 8 + 12 + 2 + 2 + 2 + 2) c9r) (16 + 2 + 2 + 4 + 8 + 8 + 12 + 2 + 2 + 2 + 2) _ rfl (zJ1 HG9).own 4 rfl (by omega) (by have := (zJ1 HG9).kept.size; omega) ?_; intro A9z c9z z9v hG; have HZ9 := zJ2 ((zJ1 HG9).trans hG); clear hG; skip))
 have hsw9 := (zJ1 HG9).kept.size
 have hsz9 := (zJ1 HZ9).kept.size
 have hGF := zJ1 HZ9
 have HBF := zJ2 ((zJ1 HB0).trans (hGF.below hs0 (zJ1 Hlow)))
 have hownF := hGF.own
 obtain ⟨H, hH⟩ : ∃ H, ([127, 69, 76, 70, 2, 1, 1] ++ List.replicate 9 0) ++ Cl.lb (ty) 2 ++ Cl.lb (62) 2 ++ Cl.lb (1) 4 ++ Cl.lb (en) 8 ++ Cl.lb (64) 8 ++ List.replicate 12 0 ++ Cl.lb (64) 2 ++ Cl.lb (56) 2 ++ Cl.lb (nl) 2 ++ Cl.lb (64) 2 ++ List.replicate 4 0 = H := ⟨_, rfl⟩
 rw [hH] at hownF
 have HOF := zJ2 hownF
 have HHd : Hid (hd = H ++ Mk.rowsB l) := zJ2 (by
  rw [zJ1 Hhead, <- hH, zJ1 Hl]
  have e : ([127, 69, 76, 70, 2, 1, 1] : List UInt8) ++ List.replicate 9 0 = Mk.magic := rfl
  have e8 : Cl.lb 0 8 ++ Cl.lb 0 4 = List.replicate 12 0 := rfl
  have e4 : Cl.lb 0 2 ++ Cl.lb 0 2 = List.replicate 4 0 := rfl
  rw [e, <- e8, <- e4]
  simp only [List.append_assoc])
 clear hGF hownF hH Hhead y1 Hty Hbl
 generalize z9v = vF at *
 generalize A9z = AF at *
 generalize c9z = cF at *
 go_loopg [5, 6] nl (fun gk bv iv wr => ∃ (j : Nat) (Aj : Option Addr) (cj : Nat), gk = nl - j /\ j <= nl /\ iv = .int .i64 j /\ bv = .slice Aj (64 + 56 * j) cj /\ wr.ownsRow (w.heap.size + 1) 5 1 (.slice Aj (64 + 56 * j) cj) (64 + 56 * j) (bys (H ++ Mk.rowsB (l.take j))) /\ Below (w.heap.size + 1) W1 wr)
 case atStart => exact ⟨0, AF, cF, by omega, by omega, rfl, rfl, by simpa [Mk.rowsB] using zJ1 HOF, zJ1 HBF⟩
 case round =>
 clear HOF HBF
 try clear HB0
 try clear Hlow
 try clear HG00
 obtain ⟨j, Aj, cj, hgk, hj, rfl, rfl, hown, hb⟩ := hrel
 have Hgk := zJ2 hgk
 have hsz := hb.size
 have Hb := zJ2 hb
 have HG0 := zJ2 (Grew.refl hown)
 have Hlow := zJ2 (fun k hk => (hown.lt k hk).1)
 clear hgk hb hown
 rcases Nat.lt_or_ge j nl with hlt | hge
 case inr =>
  obtain rfl : j = nl := by omega
  have h := (zJ1 HG0).own
  rw [List.take_of_length_le (by rw [zJ1 Hl]; exact Nat.le_refl _), <- zJ1 HHd] at h
  have HF := zJ2 h
  clear h
  go_wp2_with fail
  go_ret
  exact ⟨Aj, cj, rfl, zJd (zJ1 HF) (by omega), (zJ1 HBx).trans ((zJ1 Hb).mono (by omega))⟩
 obtain ⟨x, hx⟩ : ∃ x, l[j]? = some x := ⟨_, List.getElem?_eq_getElem (by rw [zJ1 Hl]; exact hlt)⟩
 obtain ⟨b1, o1, rfl, hb1, y0, y1, y2, y3, y4, y5, y6⟩ := mkrow_at ((zJ1 Hr).below ((zJ1 Hb).mono (by omega))) hx
 have hb1w : b1 < w.heap.size := by omega
 have Hall : Hid (∀ W, Below (w.heap.size + 1) wr W -> W.cell? ⟨b1, o1 + j * 7, none⟩ = some (.int .u64 (x.kind : Nat)) /\ W.cell? ⟨b1, o1 + j * 7 + 1, none⟩ = some (.int .u64 (x.flags : Nat)) /\ W.cell? ⟨b1, o1 + j * 7 + 2, none⟩ = some (.int .u64 (x.off : Nat)) /\ W.cell? ⟨b1, o1 + j * 7 + 3, none⟩ = some (.int .u64 (x.addr : Nat)) /\ W.cell? ⟨b1, o1 + j * 7 + 4, none⟩ = some (.int .u64 (x.fsz : Nat)) /\ W.cell? ⟨b1, o1 + j * 7 + 5, none⟩ = some (.int .u64 (x.msz : Nat)) /\ W.cell? ⟨b1, o1 + j * 7 + 6, none⟩ = some (.int .u64 (x.align : Nat))) := zJ2 (fun W hW => by
  have hb1' : b1 < w.heap.size + 1 := by omega
  exact ⟨(hW.cell (p := ⟨b1, _, none⟩) hb1').trans y0, (hW.cell (p := ⟨b1, _, none⟩) hb1').trans y1, (hW.cell (p := ⟨b1, _, none⟩) hb1').trans y2, (hW.cell (p := ⟨b1, _, none⟩) hb1').trans y3, (hW.cell (p := ⟨b1, _, none⟩) hb1').trans y4, (hW.cell (p := ⟨b1, _, none⟩) hb1').trans y5, (hW.cell (p := ⟨b1, _, none⟩) hb1').trans y6⟩)
 obtain ⟨k0, k1, k2, k3, k4, k5, k6⟩ := (zJ1 Hok) x (List.mem_of_getElem? hx)
 have Hnext := zJ2 (rowsB_next hx)
 have HrB : Hid (Mk.rowB x = Cl.lb x.kind 4 ++ Cl.lb x.flags 4 ++ Mk.lbs 8 [x.off, x.addr, x.addr, x.fsz, x.msz, x.align]) := zJ2 (by unfold Mk.rowB; simp [Mk.lbs])
 have hlt' : j < nl := hlt
 clear hx y2 y3 y4 y5 y6
 generalize Mk.rowB x = rb at *
 generalize x.kind = x0 at *
 generalize x.flags = x1 at *
 generalize x.off = x2 at *
 generalize x.addr = x3 at *
 generalize x.fsz = x4 at *
 generalize x.msz = x5 at *
 generalize x.align = x6 at *
 go_wp2_with fail
 refine (zJk (x0) 4 _ _ (rfl) rfl wr k0 (.inr (.inr (.inl rfl)))).mono ?_
 rintro e x1w ⟨A1n, c1n, rfl, ho, hb⟩
 have hs1n := hb.size
 have Ho1 := zJ2 ho
 have Hb1 := zJ2 hb
 have Hr1 := zJ2 (own_below (zJ1 HG0).own hb)
 have hsg1 := (zJ1 HG0).kept.size
 clear ho hb
 go_wp2_with (at_builtin; refine zJe zJy rfl _ _ rfl (w.heap.size + 1) (.slice Aj (64 + 56 * j) cj) (64 + 56 * j) _ rfl (zJ1 Hr1) x1w.heap.size A1n 4 c1n (bys (Cl.lb (x0) 4)) rfl (Rd.of_own (zJ1 Ho1)) (zJm _) (by omega) (by omega) ?_; intro A1r c1r x1v ho hg hat; have HG1 := zJ2 ((zJ1 HG0).trans (Grew.after (zJ1 Hb1) (show Grew x1w x1v (w.heap.size + 1) (.slice Aj (64 + 56 * j) cj) (.slice A1r (64 + 56 * j + 4) c1r) (64 + 56 * j + 4) ((H ++ Mk.rowsB (l.take j)) ++ Cl.lb (x0) 4) from ⟨by rw [zJj]; exact ho, hg, hat⟩))); clear ho hg hat; clear y0 y1; obtain ⟨y0, y1, y2, y3, y4, y5, y6⟩ := (zJ1 Hall) x1v ((zJ1 HG1).below (by omega) (zJ1 Hlow)))
 have hsw1 := (zJ1 HG1).kept.size
 refine (zJk (x1) 4 _ _ (rfl) rfl x1v k1 (.inr (.inr (.inl rfl)))).mono ?_
 rintro e x2w ⟨A2n, c2n, rfl, ho, hb⟩
 have hs2n := hb.size
 have Ho2 := zJ2 ho
 have Hb2 := zJ2 hb
 have Hr2 := zJ2 (own_below (zJ1 HG1).own hb)
 have hsg2 := (zJ1 HG1).kept.size
 clear ho hb
 go_wp2_with (at_builtin; refine zJe zJy rfl _ _ rfl (w.heap.size + 1) (.slice A1r (64 + 56 * j + 4) c1r) (64 + 56 * j + 4) _ rfl (zJ1 Hr2) x2w.heap.size A2n 4 c2n (bys (Cl.lb (x1) 4)) rfl (Rd.of_own (zJ1 Ho2)) (zJm _) (by omega) (by omega) ?_; intro A2r c2r x2v ho hg hat; have HG2 := zJ2 ((zJ1 HG1).trans (Grew.after (zJ1 Hb2) (show Grew x2w x2v (w.heap.size + 1) (.slice A1r (64 + 56 * j + 4) c1r) (.slice A2r (64 + 56 * j + 4 + 4) c2r) (64 + 56 * j + 4 + 4) ((H ++ Mk.rowsB (l.take j)) ++ Cl.lb (x0) 4 ++ Cl.lb (x1) 4) from ⟨by rw [zJj]; exact ho, hg, hat⟩))); clear ho hg hat; clear y0 y1; obtain ⟨y0, y1, y2, y3, y4, y5, y6⟩ := (zJ1 Hall) x2v ((zJ1 HG2).below (by omega) (zJ1 Hlow)))
 have hsw2 := (zJ1 HG2).kept.size
 have hBV := (zJ1 HG2).below (by omega : w.heap.size + 1 <= wr.heap.size) (zJ1 Hlow)
 have HBV := zJ2 ((zJ1 Hb).trans hBV)
 have hOV := (zJ1 HG2).own
 have hsV := hBV.size
 have HOV := zJ2 hOV
 have HNn := zJ2 (show 64 + 56 * j + 4 + 4 = 64 + 56 * j + 8 by omega)
 clear hBV hOV HG0 Hall
 go_wp2_with fail
 refine wp_region_noPanic ?_
 refine wp_region_held_drew (S := fun W => W.cell? ⟨b1, o1 + j * 7 + 2, none⟩ = some (.int .u64 (x2 : Nat)) /\ W.cell? ⟨b1, o1 + j * 7 + 3, none⟩ = some (.int .u64 (x3 : Nat)) /\ W.cell? ⟨b1, o1 + j * 7 + 4, none⟩ = some (.int .u64 (x4 : Nat)) /\ W.cell? ⟨b1, o1 + j * 7 + 5, none⟩ = some (.int .u64 (x5 : Nat)) /\ W.cell? ⟨b1, o1 + j * 7 + 6, none⟩ = some (.int .u64 (x6 : Nat))) (by kernel_rfl) (⟨y2, y3, y4, y5, y6⟩) (fun HS0 => ?_)
 refine takeD (i := 0) (d := some 74) (v := ?_) rfl rfl (by kernel_rfl) (by kernel_rfl) (by kernel_rfl) (fun _ _ _ h => h) (Or.inl ⟨by rfl, ?y0⟩) HS0 ?_
 case y0 => (intro w' hSw; (try dsimp only at hSw); go_simp; (try with_reducible rfl))
 simp only [Act.put, List.setIfInBounds_toArray, List.set_cons_zero, List.set_cons_succ]
 refine takeD (i := 1) (d := some 75) (v := ?_) rfl rfl (by kernel_rfl) (by kernel_rfl) (by kernel_rfl) (fun _ _ _ h => h) (Or.inl ⟨by rfl, ?y1⟩) HS0 ?_
 case y1 => (intro w' hSw; (try dsimp only at hSw); go_simp; (try with_reducible rfl))
 simp only [Act.put, List.setIfInBounds_toArray, List.set_cons_zero, List.set_cons_succ]
 refine takeD (i := 2) (d := some 76) (v := ?_) rfl rfl (by kernel_rfl) (by kernel_rfl) (by kernel_rfl) (fun _ _ _ h => h) (Or.inl ⟨by rfl, ?y2⟩) HS0 ?_
 case y2 => (intro w' hSw; (try dsimp only at hSw); go_simp; (try with_reducible rfl))
 simp only [Act.put, List.setIfInBounds_toArray, List.set_cons_zero, List.set_cons_succ]
 refine takeD (i := 3) (d := some 77) (v := ?_) rfl rfl (by kernel_rfl) (by kernel_rfl) (by kernel_rfl) (fun _ _ _ h => h) (Or.inl ⟨by rfl, ?y3⟩) HS0 ?_
 case y3 => (intro w' hSw; (try dsimp only at hSw); go_simp; (try with_reducible rfl))
 simp only [Act.put, List.setIfInBounds_toArray, List.set_cons_zero, List.set_cons_succ]
 refine takeD (i := 4) (d := some 78) (v := ?_) rfl rfl (by kernel_rfl) (by kernel_rfl) (by kernel_rfl) (fun _ _ _ h => h) (Or.inl ⟨by rfl, ?y4⟩) HS0 ?_
 case y4 => (intro w' hSw; (try dsimp only at hSw); go_simp; (try with_reducible rfl))
 simp only [Act.put, List.setIfInBounds_toArray, List.set_cons_zero, List.set_cons_succ]
 refine takeD (i := 5) (d := some 79) (v := ?_) rfl rfl (by kernel_rfl) (by kernel_rfl) (by kernel_rfl) (fun _ _ _ h => h) (Or.inl ⟨by rfl, ?y5⟩) HS0 ?_
 case y5 => (intro w' hSw; (try dsimp only at hSw); go_simp; (try with_reducible rfl))
 simp only [Act.put, List.setIfInBounds_toArray, List.set_cons_zero, List.set_cons_succ]
 refine takeD (i := 6) (d := some 80) (v := ?_) rfl rfl (by kernel_rfl) (by kernel_rfl) (by kernel_rfl) (fun _ _ _ h => h) (Or.inl ⟨by rfl, ?y6⟩) HS0 ?_
 case y6 => (intro w' hSw; (try dsimp only at hSw); go_simp; (try with_reducible rfl))
 simp only [Act.put, List.setIfInBounds_toArray, List.set_cons_zero, List.set_cons_succ]
 refine takeD (i := 7) (d := some 81) (v := ?_) rfl rfl (by kernel_rfl) (by kernel_rfl) (by kernel_rfl) (fun _ _ _ h => h) (Or.inl ⟨by rfl, ?y7⟩) HS0 ?_
 case y7 => (intro w' hSw; (try dsimp only at hSw); go_simp; (try with_reducible rfl))
 simp only [Act.put, List.setIfInBounds_toArray, List.set_cons_zero, List.set_cons_succ]
 refine takeD (i := 8) (d := some 82) (v := ?_) rfl rfl (by kernel_rfl) (by kernel_rfl) (by kernel_rfl) (fun _ _ _ h => h) (Or.inl ⟨by rfl, ?y8⟩) HS0 ?_
 case y8 => (intro w' hSw; (try dsimp only at hSw); go_simp; (try with_reducible rfl))
 simp only [Act.put, List.setIfInBounds_toArray, List.set_cons_zero, List.set_cons_succ]
 refine takeD (i := 9) (d := some 83) (v := ?_) rfl rfl (by kernel_rfl) (by kernel_rfl) (by kernel_rfl) (fun _ _ _ h => h) (Or.inl ⟨by rfl, ?y9⟩) HS0 ?_
 case y9 => (intro w' hSw; (try dsimp only at hSw); go_simp; (try with_reducible rfl))
 simp only [Act.put, List.setIfInBounds_toArray, List.set_cons_zero, List.set_cons_succ]
 refine takeD (i := 10) (d := some 84) (v := ?_) rfl rfl (by kernel_rfl) (by kernel_rfl) (by kernel_rfl) (fun _ _ _ h => h) (Or.inl ⟨by rfl, ?y10⟩) HS0 ?_
 case y10 => (intro w' hSw; (try dsimp only at hSw); go_simp; (try with_reducible rfl))
 simp only [Act.put, List.setIfInBounds_toArray, List.set_cons_zero, List.set_cons_succ]
 refine takeD (i := 11) (d := some 85) (v := ?_) rfl rfl (by kernel_rfl) (by kernel_rfl) (by kernel_rfl) (fun _ _ _ h => h) (Or.inl ⟨by rfl, ?y11⟩) HS0 ?_
 case y11 => (intro w' hSw; (try dsimp only at hSw); go_simp; (try with_reducible rfl))
 simp only [Act.put, List.setIfInBounds_toArray, List.set_cons_zero, List.set_cons_succ]
 refine takeD (i := 12) (d := some 86) (v := ?_) rfl rfl (by kernel_rfl) (by kernel_rfl) (by kernel_rfl) (fun _ _ _ h => h) (Or.inl ⟨by rfl, ?y12⟩) HS0 ?_
 case y12 => (intro w' hSw; (try dsimp only at hSw); go_simp; (try with_reducible rfl))
 simp only [Act.put, List.setIfInBounds_toArray, List.set_cons_zero, List.set_cons_succ]
 refine takeD (i := 13) (d := some 87) (v := ?_) rfl rfl (by kernel_rfl) (by kernel_rfl) (by kernel_rfl) (fun _ _ _ h => h) (Or.inl ⟨by rfl, ?y13⟩) HS0 ?_
 case y13 => (intro w' hSw; (try dsimp only at hSw); go_simp; (try with_reducible rfl))
 simp only [Act.put, List.setIfInBounds_toArray, List.set_cons_zero, List.set_cons_succ]
 refine takeD (i := 14) (d := some 88) (v := ?_) rfl rfl (by kernel_rfl) (by kernel_rfl) (by kernel_rfl) (fun _ _ _ h => h) (Or.inl ⟨by rfl, ?y14⟩) HS0 ?_
 case y14 => (intro w' hSw; (try dsimp only at hSw); go_simp; (try with_reducible rfl))
 simp only [Act.put, List.setIfInBounds_toArray, List.set_cons_zero, List.set_cons_succ]
 refine takeD (i := 15) (d := some 89) (v := ?_) rfl rfl (by kernel_rfl) (by kernel_rfl) (by kernel_rfl) (fun _ _ _ h => h) (Or.inl ⟨by rfl, ?y15⟩) HS0 ?_
 case y15 => (intro w' hSw; (try dsimp only at hSw); go_simp; (try with_reducible rfl))
 simp only [Act.put, List.setIfInBounds_toArray, List.set_cons_zero, List.set_cons_succ]
 refine takeD (i := 16) (d := some 90) (v := ?_) rfl rfl (by kernel_rfl) (by kernel_rfl) (by kernel_rfl) (fun _ _ _ h => h) (Or.inl ⟨by rfl, ?y16⟩) HS0 ?_
 case y16 => (intro w' hSw; (try dsimp only at hSw); go_simp; (try with_reducible rfl))
 simp only [Act.put, List.setIfInBounds_toArray, List.set_cons_zero, List.set_cons_succ]
 refine takeD (i := 17) (d := some 91) (v := ?_) rfl rfl (by kernel_rfl) (by kernel_rfl) (by kernel_rfl) (fun _ _ _ h => h) (Or.inl ⟨by rfl, ?y17⟩) HS0 ?_
 case y17 => (intro w' hSw; (try dsimp only at hSw); go_simp; (try with_reducible rfl))
 simp only [Act.put, List.setIfInBounds_toArray, List.set_cons_zero, List.set_cons_succ]
 refine takeD (i := 18) (d := some 92) (v := ?_) rfl rfl (by kernel_rfl) (by kernel_rfl) (by kernel_rfl) (fun _ _ _ h => h) (Or.inl ⟨by rfl, ?y18⟩) HS0 ?_
 case y18 => (intro w' hSw; (try dsimp only at hSw); go_simp; (try with_reducible rfl))
 simp only [Act.put, List.setIfInBounds_toArray, List.set_cons_zero, List.set_cons_succ]
 refine takeD (i := 19) (d := some 93) (v := ?_) rfl rfl (by kernel_rfl) (by kernel_rfl) (by kernel_rfl) (fun _ _ _ h => h) (Or.inl ⟨by rfl, ?y19⟩) HS0 ?_
 case y19 => (intro w' hSw; (try dsimp only at hSw); go_simp; (try with_reducible rfl))
 simp only [Act.put, List.setIfInBounds_toArray, List.set_cons_zero, List.set_cons_succ]
 refine takeD (i := 20) (d := some 94) (v := ?_) rfl rfl (by kernel_rfl) (by kernel_rfl) (by kernel_rfl) (fun _ _ _ h => h) (Or.inl ⟨by rfl, ?y20⟩) HS0 ?_
 case y20 => (intro w' hSw; (try dsimp only at hSw); go_simp; (try with_reducible rfl))
 simp only [Act.put, List.setIfInBounds_toArray, List.set_cons_zero, List.set_cons_succ]
 refine takeD (i := 21) (d := some 95) (v := ?_) rfl rfl (by kernel_rfl) (by kernel_rfl) (by kernel_rfl) (fun _ _ _ h => h) (Or.inl ⟨by rfl, ?y21⟩) HS0 ?_
 case y21 => (intro w' hSw; (try dsimp only at hSw); go_simp; (try with_reducible rfl))
 simp only [Act.put, List.setIfInBounds_toArray, List.set_cons_zero, List.set_cons_succ]
 refine takeD (i := 22) (d := some 96) (v := ?_) rfl rfl (by kernel_rfl) (by kernel_rfl) (by kernel_rfl) (fun _ _ _ h => h) (Or.inl ⟨by rfl, ?y22⟩) HS0 ?_
 case y22 => (intro w' hSw; (try dsimp only at hSw); go_simp; (try with_reducible rfl))
 simp only [Act.put, List.setIfInBounds_toArray, List.set_cons_zero, List.set_cons_succ]
 refine takeD (i := 23) (d := some 97) (v := ?_) rfl rfl (by kernel_rfl) (by kernel_rfl) (by kernel_rfl) (fun _ _ _ h => h) (Or.inl ⟨by rfl, ?y23⟩) HS0 ?_
 case y23 => (intro w' hSw; (try dsimp only at hSw); go_simp; (try with_reducible rfl))
 simp only [Act.put, List.setIfInBounds_toArray, List.set_cons_zero, List.set_cons_succ]
 refine takeD (i := 24) (d := some 98) (v := ?_) rfl rfl (by kernel_rfl) (by kernel_rfl) (by kernel_rfl) (fun _ _ _ h => h) (Or.inl ⟨by rfl, ?y24⟩) HS0 ?_
 case y24 => (intro w' hSw; (try dsimp only at hSw); go_simp; (try with_reducible rfl))
 simp only [Act.put, List.setIfInBounds_toArray, List.set_cons_zero, List.set_cons_succ]
 refine takeD (i := 25) (d := some 99) (v := ?_) rfl rfl (by kernel_rfl) (by kernel_rfl) (by kernel_rfl) (fun _ _ _ h => h) (Or.inl ⟨by rfl, ?y25⟩) HS0 ?_
 case y25 => (intro w' hSw; (try dsimp only at hSw); go_simp; (try with_reducible rfl))
 simp only [Act.put, List.setIfInBounds_toArray, List.set_cons_zero, List.set_cons_succ]
 refine takeD (i := 26) (d := some 100) (v := ?_) rfl rfl (by kernel_rfl) (by kernel_rfl) (by kernel_rfl) (fun _ _ _ h => h) (Or.inl ⟨by rfl, ?y26⟩) HS0 ?_
 case y26 => (intro w' hSw; (try dsimp only at hSw); go_simp; (try with_reducible rfl))
 simp only [Act.put, List.setIfInBounds_toArray, List.set_cons_zero, List.set_cons_succ]
 refine takeD (i := 27) (d := some 101) (v := ?_) rfl rfl (by kernel_rfl) (by kernel_rfl) (by kernel_rfl) (fun _ _ _ h => h) (Or.inl ⟨by rfl, ?y27⟩) HS0 ?_
 case y27 => (intro w' hSw; (try dsimp only at hSw); go_simp; (try with_reducible rfl))
 simp only [Act.put, List.setIfInBounds_toArray, List.set_cons_zero, List.set_cons_succ]
 refine takeD (i := 28) (d := some 102) (v := ?_) rfl rfl (by kernel_rfl) (by kernel_rfl) (by kernel_rfl) (fun _ _ _ h => h) (Or.inl ⟨by rfl, ?y28⟩) HS0 ?_
 case y28 => (intro w' hSw; (try dsimp only at hSw); go_simp; (try with_reducible rfl))
 simp only [Act.put, List.setIfInBounds_toArray, List.set_cons_zero, List.set_cons_succ]
 refine takeD (i := 29) (d := some 103) (v := ?_) rfl rfl (by kernel_rfl) (by kernel_rfl) (by kernel_rfl) (fun _ _ _ h => h) (Or.inl ⟨by rfl, ?y29⟩) HS0 ?_
 case y29 => (intro w' hSw; (try dsimp only at hSw); go_simp; (try with_reducible rfl))
 simp only [Act.put, List.setIfInBounds_toArray, List.set_cons_zero, List.set_cons_succ]
 refine wpAnyH_ready (rs := [30]) (by kernel_rfl) (by simp) ?_
 refine AllReadyH.cons (i := 30) rfl (fun K hK => ?_) AllReadyH.nil
 rw [if_pos (by rfl)]
 go_simp
 refine hK.out _ _ ((by obtain ⟨q2, q3, q4, q5, q6⟩ := HS0; exact ⟨(World.cell?_alloc_lt _ _ _ (by show b1 < _; first | omega | (simp; omega))).trans y2, (World.cell?_alloc_lt _ _ _ (by show b1 < _; first | omega | (simp; omega))).trans y3, (World.cell?_alloc_lt _ _ _ (by show b1 < _; first | omega | (simp; omega))).trans y4, (World.cell?_alloc_lt _ _ _ (by show b1 < _; first | omega | (simp; omega))).trans y5, (World.cell?_alloc_lt _ _ _ (by show b1 < _; first | omega | (simp; omega))).trans y6⟩)) (fun hHeld => ?_)
 clear hK K HS0
 have HS0 := hHeld
 clear hHeld
 (try simp only [Act.put, List.setIfInBounds_toArray, List.set_cons_zero, List.set_cons_succ])
 refine takeD (i := 31) (d := some 7) (v := ?_) rfl rfl (by kernel_rfl) (by kernel_rfl) (by kernel_rfl) (fun _ _ _ h => h) (Or.inl ⟨by rfl, ?y31⟩) HS0 ?_
 case y31 => (intro w' hSw; (try dsimp only at hSw); go_simp; (try with_reducible rfl))
 simp only [Act.put, List.setIfInBounds_toArray, List.set_cons_zero, List.set_cons_succ]
 refine wpAnyH_done (by kernel_rfl) ?_ _
 refine NoPanic.normal ?_
 clear HS0
 go_wp2_with fail
 have hbl3 := Blk.new x2v 46 (u64s [x2, x3, x3, x4, x5, x6])
 have hbb : Below x2v.heap.size x2v ((x2v.alloc (.cells #[.int .u64 (x2 : Nat), .int .u64 (x3 : Nat), .int .u64 (x3 : Nat), .int .u64 (x4 : Nat), .int .u64 (x5 : Nat), .int .u64 (x6 : Nat)] 46)).drew) := zJ3 ((Below.refl _ _).alloc (Nat.le_refl _) _)
 have hO3 := own_below (zJ1 HOV) hbb
 have hB3 := (zJ1 HBV).trans (hbb.mono (by omega))
 have hbl3' : Blk ((x2v.alloc (.cells #[.int .u64 (x2 : Nat), .int .u64 (x3 : Nat), .int .u64 (x3 : Nat), .int .u64 (x4 : Nat), .int .u64 (x5 : Nat), .int .u64 (x6 : Nat)] 46)).drew) x2v.heap.size 46 (u64s [x2, x3, x3, x4, x5, x6]) := hbl3
 have hne3 : bk A2r ≠ some x2v.heap.size := fun e => by have := ((zJ1 HOV).lt _ (by rw [zJv]; exact e)).2; omega
 have hN6 : ∀ y ∈ [x2, x3, x3, x4, x5, x6], y < 18446744073709551616 := by
  intro y hy
  simp only [List.mem_cons, List.not_mem_nil, or_false] at hy
  rcases hy with rfl | rfl | rfl | rfl | rfl | rfl <;> assumption
 obtain ⟨XS, hXS⟩ : ∃ XS, (H ++ Mk.rowsB (l.take j)) ++ Cl.lb (x0) 4 ++ Cl.lb (x1) 4 = XS := ⟨_, rfl⟩
 rw [hXS] at hO3
 have HXS : Hid (H ++ Mk.rowsB (l.take (j + 1)) = XS ++ Mk.lbs 8 [x2, x3, x3, x4, x5, x6]) := zJ2 (by
  rw [<- hXS, zJ1 Hnext, zJ1 HrB]
  simp only [List.append_assoc])
 have h6 : [x2, x3, x3, x4, x5, x6].length = 6 := rfl
 have HO3 := zJ2 hO3
 have HB3 := zJ2 hB3
 have HBl3 := zJ2 hbl3'
 have Hne3 := zJ2 hne3
 have HN6 := zJ2 hN6
 have H6 := zJ2 h6
 clear hbl3 hbb hO3 hB3 hbl3' hne3 hN6 hXS HOV HBV Hnext HrB h6 y0 y1 y2 y3 y4 y5 y6
 generalize (x2v.alloc (.cells #[.int .u64 (x2 : Nat), .int .u64 (x3 : Nat), .int .u64 (x3 : Nat), .int .u64 (x4 : Nat), .int .u64 (x5 : Nat), .int .u64 (x6 : Nat)] 46)).drew = W3 at *
 generalize [x2, x3, x3, x4, x5, x6] = N6 at *
 generalize x2v.heap.size = gl at *
 go_loopg [5, 8] 6 (fun gk2 bv2 iv2 wr2 => ∃ (i : Nat) (Ai : Option Addr) (ci : Nat), gk2 = 6 - i /\ i <= 6 /\ iv2 = .int .i64 i /\ bv2 = .slice Ai (64 + 56 * j + 8 + 8 * i) ci /\ wr2.ownsRow (w.heap.size + 1) 5 1 (.slice Ai (64 + 56 * j + 8 + 8 * i) ci) (64 + 56 * j + 8 + 8 * i) (bys (XS ++ Mk.lbs 8 (N6.take i))) /\ Blk wr2 gl 46 (u64s N6) /\ bk Ai ≠ some gl /\ Below (w.heap.size + 1) W1 wr2)
 case atStart => exact ⟨0, A2r, c2r, rfl, by omega, rfl, by rw [show 64 + 56 * j + 8 + 8 * 0 = 64 + 56 * j + 4 + 4 by omega], by rw [show 64 + 56 * j + 8 + 8 * 0 = 64 + 56 * j + 4 + 4 by omega]; simpa [Mk.lbs] using zJ1 HO3, zJ1 HBl3, zJ1 Hne3, zJ1 HB3⟩
 case round =>
 clear HO3 HB3 HBl3 Hne3
 obtain ⟨i, Ai, ci, hgk2, hi, rfl, rfl, hown, hbl, hne, hb⟩ := hrel
 have Hgk2 := zJ2 hgk2
 have hsz2 := hb.size
 have HG2 := zJ2 (Grew.refl hown)
 have Hlow2 := zJ2 (fun k hk => (hown.lt k hk).1)
 have Hb2 := zJ2 hb
 have Hbl2 := zJ2 hbl
 have Hne2 := zJ2 hne
 clear hgk2 hb hown hne
 rcases Nat.lt_or_ge i 6 with hlt2 | hge2
 case inr =>
  obtain rfl : i = 6 := by omega
  have h := (zJ1 HG2).own
  rw [List.take_of_length_le (by rw [zJ1 H6]; exact Nat.le_refl _), <- zJ1 HXS] at h
  have HF := zJ2 h
  have Hn56 := zJ2 (show 64 + 56 * (j + 1) = 64 + 56 * j + 8 + 8 * 6 by omega)
  clear h hbl
  go_wp2_with fail
  go_roundg (nl - (j + 1))
  case measure => have := zJ1 Hgk; omega
  case rel => exact ⟨j + 1, Ai, ci, rfl, by omega, by go_num, by rw [zJ1 Hn56], by rw [zJ1 Hn56]; exact zJ1 HF, zJ1 Hb2⟩
 obtain ⟨y, hy⟩ : ∃ y, N6[i]? = some y := ⟨_, List.getElem?_eq_getElem (by rw [zJ1 H6]; exact hlt2)⟩
 have hy64 := (zJ1 HN6) y (List.mem_of_getElem? hy)
 have y0 := hbl.cell (i := i) (u := .int .u64 (y : Nat)) (by simp [u64s, hy])
 have Htk : Hid (XS ++ Mk.lbs 8 (N6.take (i + 1)) = XS ++ Mk.lbs 8 (N6.take i) ++ Cl.lb y 8) := zJ2 (by rw [List.take_add_one, hy]; simp only [Option.toList]; rw [lbs_snoc, List.append_assoc])
 clear hy hbl
 go_wp2_with fail
 refine (zJk (y) 8 _ _ (rfl) rfl wr hy64 (.inr (.inr (.inr rfl)))).mono ?_
 rintro e x1w ⟨A1n, c1n, rfl, ho, hb⟩
 have hs1n := hb.size
 have Ho1 := zJ2 ho
 have Hb1 := zJ2 hb
 have Hr1 := zJ2 (own_below (zJ1 HG2).own hb)
 have hsg1 := (zJ1 HG2).kept.size
 clear ho hb
 go_wp2_with (at_builtin; refine zJe zJy rfl _ _ rfl (w.heap.size + 1) (.slice Ai (64 + 56 * j + 8 + 8 * i) ci) (64 + 56 * j + 8 + 8 * i) _ rfl (zJ1 Hr1) x1w.heap.size A1n 8 c1n (bys (Cl.lb (y) 8)) rfl (Rd.of_own (zJ1 Ho1)) (zJm _) (by omega) (by omega) ?_; intro A1r c1r x1v ho hg hat; have HG1 := zJ2 ((zJ1 HG2).trans (Grew.after (zJ1 Hb1) (show Grew x1w x1v (w.heap.size + 1) (.slice Ai (64 + 56 * j + 8 + 8 * i) ci) (.slice A1r (64 + 56 * j + 8 + 8 * i + 8) c1r) (64 + 56 * j + 8 + 8 * i + 8) ((XS ++ Mk.lbs 8 (N6.take i)) ++ Cl.lb (y) 8) from ⟨by rw [zJj]; exact ho, hg, hat⟩))); clear ho hg hat; skip)
 have hsw1 := (zJ1 HG1).kept.size
 have hGF := zJ1 HG1
 rw [<- zJ1 Htk] at hGF
 have HGF := zJ2 hGF
 have hblF : Blk x1v gl 46 (u64s N6) := (hGF.kept.block gl (zJ1 Hbl2).lt (fun e => (zJ1 Hne2) (by rw [zJv] at e; exact e.symm))).trans (zJ1 Hbl2)
 have hneF : bk A1r ≠ some gl := fun e => by
  rcases hGF.at_ gl (by rw [zJv]; exact e) with h3 | h3
  ·rw [zJv] at h3; exact (zJ1 Hne2) h3
  ·have := (zJ1 Hbl2).lt; omega
 have hbF := (zJ1 Hb2).trans (hGF.below (by omega : w.heap.size + 1 <= wr.heap.size) (zJ1 Hlow2))
 have HblF := zJ2 hblF
 have HneF := zJ2 hneF
 have HbF := zJ2 hbF
 have Hn8 := zJ2 (show 64 + 56 * j + 8 + 8 * (i + 1) = 64 + 56 * j + 8 + 8 * i + 8 by omega)
 clear hGF hblF hneF hbF y0
 go_roundg (6 - (i + 1))
 case measure => have := zJ1 Hgk2; omega
 case rel => exact ⟨i + 1, A1r, c1r, rfl, by omega, by go_num, by rw [zJ1 Hn8], by rw [zJ1 Hn8]; exact (zJ1 HGF).own, zJ1 HblF, zJ1 HneF, zJ1 HbF⟩
def nspec (l : List ByteArray) : Mk.Spec := ⟨3, 0, ⟨#[]⟩, [], [], 0, true, ⟨l, ⟨#[]⟩, ⟨#[]⟩, [], []⟩, 0⟩
def nfront (l : List ByteArray) : List UInt8 := nsec l (Mk.zs 232)
def nrow0 : Mk.Row := ⟨6, 4, 64, 64, 168, 168, 8⟩
def nrow1 (n : Nat) : Mk.Row := ⟨1, 4, 0, 0, n, n, 4096⟩
def nrow2 (n : Nat) : Mk.Row := ⟨2, 4, 232, 232, n, n, 8⟩
def nfile (l : List ByteArray) : List UInt8 := Mk.over (nfront l) 0 (Mk.head (nspec l) [nrow0, nrow1 (nfront l).length, nrow2 (16 * (l.length + 3))])
theorem MaS.callSectionN {gf nl cl nt ct cn : Nat} {W1 wr w' : World} {L : Option (Nat × List Value)} {fs : List UInt8} {rs : List Mk.Row} {Al At An : Option Addr} {l : List ByteArray} (h : MaS 0 W1 gf L wr fs rs Al nl cl) (hb : Below wr.heap.size wr w') (hT : w'.ownsRow wr.heap.size 5 1 (.slice At nt ct) nt (bys (Mk.puts [0] l))) (hN : w'.ownsRow wr.heap.size 46 1 (.slice An l.length cn) l.length (u64s (Mk.places [0] l))) (hfs : fs.length <= 1073741824) (htx : (Mk.puts [0] l).length <= 1073741824) (n1 : l.length <= 8) :
  Calls Tryz.prog 74 #[.pointer (some ⟨gf, 0, none⟩), .agg (nq At nt ct An l.length cn).l.toArray] w' fun e w2 => e = .returned (.tuple #[.int .u64 ((Mk.pad 8 fs).length : Nat), .int .u64 (16 * (l.length + 3) : Nat)]) /\ MaS 0 W1 gf L w2 (nsec l fs) rs Al nl cl := by
 obtain ⟨A, n, c, hf, h1, h2⟩ := h.fi
 have hl := hf.len
 have h3 := h.calm hb
 refine (rsectionN l At nt ct An cn wr.heap.size gf W1.heap.size _ A n c fs w' hT hN (hf.below hb) rfl h.lt (fun k hk => (hf.lt k hk).2) h3.size (by omega) htx n1).mono ?_
 rintro e w2 ⟨A', n', c', rfl, E⟩
 exact ⟨rfl, h3.front (hf.below hb) h1 h2 E⟩
theorem putsN_le : ∀ (l : List ByteArray) (t : List UInt8), (∀ s ∈ l, s.size <= 8) -> (Mk.puts t l).length <= t.length + 9 * l.length := by
 intro l
 induction l with
 | nil => intro t _; exact Nat.le_refl _
 | cons s r ih =>
  intro t h
  have h1 := ih (Mk.put t s) (fun x hx => h x (List.mem_cons_of_mem _ hx))
  have h2 := h s List.mem_cons_self
  have h3 : (Mk.put t s).length <= t.length + 9 := by
   unfold Mk.put
   split
   ·omega
   ·rw [List.length_append, List.length_append]
    have : s.data.toList.length = s.size := by rw [Array.length_toList]; rfl
    simp only [List.length_cons, List.length_nil]
    omega
  show (Mk.puts (Mk.put t s) r).length <= _
  rw [List.length_cons]
  omega
theorem nsec_len (l : List ByteArray) (n1 : l.length <= 8) (h : (Mk.puts [0] l).length <= 73) : 232 <= (nsec l (Mk.zs 232)).length /\ (nsec l (Mk.zs 232)).length <= 600 := by
 have h0 : (Mk.pad 8 (Mk.zs 232)).length = 232 := by kernel_rfl
 have h1 : (nroom l (Mk.zs 232)).length = 232 + 16 * (l.length + 3) := by unfold nroom; rw [List.length_append, vJw, h0]
 have h2 := uJn 8 (nroom l (Mk.zs 232))
 have h3 := pad_le 8 (by decide) (nroom l (Mk.zs 232))
 have h4 : (nsec l (Mk.zs 232)).length = (Mk.pad 8 (nroom l (Mk.zs 232))).length + (Mk.puts [0] l).length := by
  unfold nsec
  rw [over_len, List.length_append]
  rw [nents_len, List.length_append, h0]
  omega
 omega
theorem nm_ok (l : List ByteArray) (A : Option Addr) (c : Nat) (n1 : l.length <= 8) (hc : l.length <= c) (hs : ∀ s ∈ l, s.size <= 8) : XqOk ⟨nspec l, none, 0, none, 0, A, c, none, 0, none, 0⟩ := by
 refine ⟨by show 3 < 65536; decide, by show (0 : Nat) < _; decide, by show (0 : Nat) < _; decide, Nat.zero_le _, Nat.zero_le _, Nat.zero_le _, Nat.le_refl _, Nat.le_refl _, ?_⟩
 refine ⟨?_, Nat.zero_le _, Nat.zero_le _, fun a ha => Nat.le_trans (hs a ha) (by decide), fun a ha => absurd ha (List.not_mem_nil (a := a)), Nat.zero_le _, Nat.zero_le _, hc, Nat.le_refl _, Nat.le_refl _⟩
 show l.length <= 4294967296
 omega
theorem nrows_ok {a b : Nat} (ha : a <= 1000) (hb : b <= 1000) : ∀ r ∈ ([nrow0] ++ [nrow1 a] ++ [nrow2 b] : List Mk.Row), RowOk r := by
 intro r hr
 simp only [List.mem_append, List.mem_singleton] at hr
 rcases hr with (rfl | rfl) | rfl <;> constructor <;> simp only [nrow0, nrow1, nrow2] <;> omega
theorem over_zs {f : List UInt8} {n : Nat} (h : f.length = n) : Mk.over (Mk.zs n) 0 f = f := by
 unfold Mk.over Mk.zs
 rw [List.take_zero, List.nil_append, Nat.zero_add, h, List.drop_eq_nil_of_le (by rw [List.length_replicate]; exact Nat.le_refl _), List.append_nil]
def NmE (l : List ByteArray) (w : World) (e : Ending) (w' : World) : Prop :=
 Below w.heap.size w w' /\ ∃ A n c, e = .returned (.tuple #[.slice A n c, .int .i64 0]) /\ w'.ownsRow w.heap.size 5 1 (.slice A n c) n (bys (nfile l))
theorem nstart {W1 w3 : World} {g : Nat} {fs : List UInt8} (hb : Below W1.heap.size W1 w3) (ho : w3.ownsRow W1.heap.size 5 1 (.slice (some ⟨g, 0, none⟩) 232 232) 232 (bys fs)) :
  Below W1.heap.size W1 ((w3.alloc (.cells #[.slice (some ⟨g, 0, none⟩) 232 232, .int .u64 0] 160)).alloc (.cells #[.int .u64 6, .int .u64 4, .int .u64 64, .int .u64 64, .int .u64 168, .int .u64 168, .int .u64 8] 162)) /\ MaS 0 W1 w3.heap.size (some (w3.heap.size + 1 + 1, zrow)) (((w3.alloc (.cells #[.slice (some ⟨g, 0, none⟩) 232 232, .int .u64 0] 160)).alloc (.cells #[.int .u64 6, .int .u64 4, .int .u64 64, .int .u64 64, .int .u64 168, .int .u64 168, .int .u64 8] 162)).alloc (.cells #[.int .u64 0, .int .u64 0, .int .u64 0, .int .u64 0, .int .u64 0, .int .u64 0, .int .u64 0] 162)) fs [nrow0] (some ⟨w3.heap.size + 1, 0, none⟩) 1 1 := by
 have h := MaS.start (b0 := 0) hb ho nrow0
 have h2 := h.lay (l := zrow)
 have e : ((w3.alloc (.cells #[.slice (some ⟨g, 0, none⟩) 232 232, .int .u64 0] 160)).alloc (.cells #[.int .u64 6, .int .u64 4, .int .u64 64, .int .u64 64, .int .u64 168, .int .u64 168, .int .u64 8] 162)).heap.size = w3.heap.size + 1 + 1 := by simp
 refine ⟨h.below, ?_⟩
 rw [<- e]
 exact h2
set_option maxRecDepth 100000 in
set_option maxHeartbeats 16000000 in
theorem rmakeN (l : List ByteArray) (A : Option Addr) (c : Nat) (w : World) (h : Rd w w.heap.size 1 A l.length (l.map Value.string)) (n1 : l.length <= 8) (hc : l.length <= c) (hs : ∀ s ∈ l, s.size <= 8 /\ Mk.has s = false) :
  Calls Tryz.prog 41 #[.agg (nmL A l.length c).toArray] w (NmE l w) := by
 have hb1 := xJr A l.length c w
 have Hb1 := zJ2 hb1
 have HE1 := zJ2 (vJf A l.length c w)
 have Hx : Hid (∀ W, Below (w.heap.size + 1) (nmW A l.length c w) W -> Blk W w.heap.size 119 (nmL A l.length c) /\ Rd W w.heap.size 1 A l.length (l.map Value.string)) := zJ2 (fun W hW => ⟨Blk.below (nm_blk A l.length c w) hW (by omega), (h.below hb1).below (hW.mono (by omega))⟩)
 have hx0 := (zJ1 Hx) _ (Below.refl _ _)
 have KM := zJ2 (rmayN l A l.length c w.heap.size (nmW A l.length c w) (by rw [vJf]; omega) hx0.2 n1 (fun s hs' => ⟨Nat.le_trans (hs s hs').1 (by decide), (hs s hs').2⟩))
 have KB := zJ2 rbase3
 have KR := zJ2 (fun W => rrowsN A l.length c W)
 have KT : Hid (∀ W, w.heap.size <= W.heap.size -> Rd W w.heap.size 1 A l.length (l.map Value.string) -> Calls Tryz.prog 75 #[.agg (nmL A l.length c).toArray] W (TabN l W)) := zJ2 (fun W hW hr => rtablesN l A c w.heap.size W hW hr n1 (fun s hs' => Nat.le_trans (hs s hs').1 (by decide)))
 have hem := wJs
 obtain ⟨a0, a1, a2, a3, a4, a5, a6, a7, a8, a9, a10, a11, a12⟩ := zJr hx0.1
 obtain ⟨i, hi, hz0, hz1, hz2⟩ := info_parts yJo
 have Hi := zJ2 hi
 have Hz0 := zJ2 hz0
 have Hz1 := zJ2 hz1
 have Hz2 := zJ2 hz2
 have Hs := zJ2 hs
 clear hb1 hx0 hi hz0 hz1 hz2 h hs
 unfold nmW nmL at *
 go_enter Tryz.func41, Tryz.ntmps41
 go_wp2_with fail
 refine (zJ1 KM).mono ?_
 rintro e w1 ⟨rfl, hbw⟩
 generalize (w.alloc (.cells #[.int .u16 3, .int .u64 0, .string ⟨#[]⟩, .slice none 0 0, .slice none 0 0, .int .u64 0, .bool true, .slice A l.length c, .string ⟨#[]⟩, .string ⟨#[]⟩, .slice none 0 0, .slice none 0 0, .int .i64 0] 119)) = W1 at *
 have hW1 := zJ1 HE1
 have hws := hbw.size
 have HBW := zJ2 hbw
 clear KM a0 a1 a2 a3 a4 a5 a6 a7 a8 a9 a10 a11 a12
 obtain ⟨a0, a1, a2, a3, a4, a5, a6, a7, a8, a9, a10, a11, a12⟩ := zJr ((zJ1 Hx) _ (hW1 ▸ hbw)).1
 clear hbw
 go_wp2_with fail
 refine ((zJ1 KB) _).mono ?_
 rintro e w2 ⟨rfl, rfl⟩
 go_wp2_with fail
 refine ((zJ1 KR) _).mono ?_
 rintro e w2 ⟨rfl, hb2⟩
 have hB12 := (zJ1 HBW).trans (hb2.mono hws)
 have hs2 := hB12.size
 have HB2 := zJ2 hB12
 clear HBW hB12 hb2 hws KR KB a0 a1 a2 a3 a4 a5 a6 a7 a8 a9 a10 a11 a12
 go_wp2_with (at_make; refine wpList_make_full _ rfl _ _ 64 rfl W1.heap.size 5 i (.int .u8 0) 1 Tryz.underlying64 (zJ1 Hi) (zJ1 Hz0) (zJ1 Hz1) _ _ _ _ 232 rfl (by rfl) rfl (by rfl) (by rw [zJ1 Hz2]; omega) (by unfold maxLen; omega) hs2 ?_; intro w3 hown hgrow; have hb3 := (zJ1 HB2).grown hgrow hs2 (fun k hk => by cases hk); rw [zerosN] at hown; have hS0 := nstart hb3 hown; have y2 := ((zJ1 Hx) _ (hW1 ▸ hS0.1)).1.cell (i := 2) rfl; have HS := zJ2 hS0.2; have hx3 := ((zJ1 Hx) _ (hW1 ▸ (zJ1 HS).below)).1; obtain ⟨a0, a1, a2, a3, a4, a5, a6, a7, a8, a9, a10, a11, a12⟩ := zJr hx3; clear hown hgrow hb3 hS0 hx3)
 generalize (((w3.alloc (.cells #[.slice (some ⟨w2.heap.size, 0, none⟩) 232 232, .int .u64 0] 160)).alloc (.cells #[.int .u64 6, .int .u64 4, .int .u64 64, .int .u64 64, .int .u64 168, .int .u64 168, .int .u64 8] 162)).alloc (.cells #[.int .u64 0, .int .u64 0, .int .u64 0, .int .u64 0, .int .u64 0, .int .u64 0, .int .u64 0] 162)) = w5 at *
 generalize w3.heap.size = gf at *
 clear a0 a1 a2 a3 a4 a5 a6 a7 a8 a9 a10 a11 a12 y2 HB2
 have hs5 := (zJ1 HS).size
 refine ((zJ1 KT) _ (by omega) ((zJ1 Hx) _ (hW1 ▸ (zJ1 HS).below)).2).mono ?_
 rintro e w6 ⟨At, nt, ct, An, cn, rfl, hT, hN, hb6⟩
 have htx : (Mk.puts [0] l).length <= 73 := by
  have h1 := putsN_le l [0] (fun s hs => ((zJ1 Hs) s hs).1)
  simp only [List.length_cons, List.length_nil] at h1
  omega
 have KS := zJ2 ((zJ1 HS).callSectionN hb6 hT hN (by decide) (by omega) n1)
 rw [show List.replicate 232 (0 : UInt8) = Mk.zs 232 from rfl, show (Mk.pad 8 (Mk.zs 232)).length = 232 by kernel_rfl] at KS
 clear hT hN hb6 KT HS
 go_wp2_with fail
 refine (zJ1 KS).mono ?_
 rintro e w7 ⟨rfl, hS7⟩
 obtain ⟨rm, hrm⟩ : ∃ rm, 16 * (l.length + 3) = rm := ⟨_, rfl⟩
 rw [hrm]
 have hrb : rm <= 176 := by omega
 have Hrm := zJ2 hrm
 have Hbl := zJ2 (hS7.last _ rfl).1
 have HS8 := zJ2 (hS7.setLast (l2 := rowV (nrow2 rm)))
 clear KS hS7 hrm
 go_wp2_with ((with_reducible refine (@id (wpList _ _ _ (Oper.mk none (Op.store 162 (.tmp 12) (.tmp 89)) _ _ _ none :: _) _ _) ?_)); refine wpList_store_row rfl 162 (.tmp 12) (.tmp 89) rfl (gf + 1 + 1) (rowV (nrow2 rm)).toArray rfl rfl 162 _ (zJ1 Hbl) row14Info rfl (rowV_all _) ?_; obtain ⟨Af, nf, cf, hF, -, -⟩ := (zJ1 HS8).fi; have yf := hF.cell; have hnf := hF.len; obtain ⟨a0, a1, a2, a3, a4, a5, a6, a7, a8, a9, a10, a11, a12⟩ := zJr ((zJ1 Hx) _ (hW1 ▸ (zJ1 HS8).below)).1; clear hF)
 have hnf0 := nsec_len l n1 htx
 have hnf2 : nf <= 600 := by omega
 have hnf1 : 232 <= nf := by omega
 have Hnf := zJ2 hnf
 have KU1 := zJ2 (fun W => rup_any nf W (by omega))
 rw [show (nf + 4095) / 4096 * 4096 = 4096 by omega] at KU1
 have KU2 := zJ2 (fun W => rup_any 4096 W (by omega))
 generalize w7.setRow (gf + 1 + 1) (rowV (nrow2 rm)).toArray = w8 at *
 clear hnf hnf0 Hbl
 refine ((zJ1 KU1) _).mono ?_
 rintro e w9 ⟨rfl, rfl⟩
 go_wp2_with fail
 refine ((zJ1 KU2) _).mono ?_
 rintro e w9 ⟨rfl, rfl⟩
 clear KU1 KU2
 go_upto_if 182 with (first
  | (at_builtin; refine zJh row14Ty rfl _ _ rfl W1.heap.size (.slice (some ⟨gf + 1, 0, none⟩) 1 1) 1 (rowC [nrow0]) rfl (zJ1 HS8).row _ _ rfl (by simp) rfl (rowV_one (nrow1 nf)) (by omega) (zJ1 HS8).size ?_; intro A9 c9 w9 ho9 hg9 hat9; have HP := zJ2 ((zJ1 HS8).push (nrow1 nf) ho9 hg9 hat9); clear ho9 hg9 hat9 a0 a1 a2 a3 a4 a5 a6 a7 a8 a9 a10 a11 a12; obtain ⟨a0, a1, a2, a3, a4, a5, a6, a7, a8, a9, a10, a11, a12⟩ := zJr ((zJ1 Hx) _ (hW1 ▸ (zJ1 HP).below)).1; have hbl := ((zJ1 HP).last _ rfl).1; have z0 := hbl.cell (i := 0) rfl; have z1 := hbl.cell (i := 1) rfl; have z2 := hbl.cell (i := 2) rfl; have z3 := hbl.cell (i := 3) rfl; have z4 := hbl.cell (i := 4) rfl; have z5 := hbl.cell (i := 5) rfl; have z6 := hbl.cell (i := 6) rfl; clear hbl yf)
  | (at_builtin; refine zJh row14Ty rfl _ _ rfl W1.heap.size (.slice A9 2 c9) 2 (rowC ([nrow0] ++ [nrow1 nf])) rfl (zJ1 HP).row _ _ rfl (by simp) rfl (rowV_one (nrow2 rm)) (by omega) (zJ1 HP).size ?_; intro A10 c10 w10 ho10 hg10 hat10; have HQ := zJ2 ((zJ1 HP).push (nrow2 rm) ho10 hg10 hat10); clear ho10 hg10 hat10 a0 a1 a2 a3 a4 a5 a6 a7 a8 a9 a10 a11 a12 z0 z1 z2 z3 z4 z5 z6; obtain ⟨a0, a1, a2, a3, a4, a5, a6, a7, a8, a9, a10, a11, a12⟩ := zJr ((zJ1 Hx) _ (hW1 ▸ (zJ1 HQ).below)).1; obtain ⟨Ag, ng, cg, hG, -, -⟩ := (zJ1 HQ).fi; have yg := hG.cell; have hng := hG.len; have HG := zJ2 hG; clear hG))
 obtain rfl : ng = nf := by have := zJ1 Hnf; omega
 have hG := zJ1 HG
 obtain ⟨kf, hkf, -, hkf2⟩ := yJx hG.row (by omega)
 subst hkf
 have HRf := zJ2 hG.rd
 have HBw := zJ2 ((zJ1 Hb1).trans ((zJ1 HQ).below.mono (by omega)))
 have hmc : ng <= 140737488355328 := by omega
 clear hG HG hng HP HS8
 go_wp2_with (first
  | (at_make; refine wpList_make_full _ rfl _ _ 64 rfl w10.heap.size 5 i (.int .u8 0) 1 Tryz.underlying64 (zJ1 Hi) (zJ1 Hz0) (zJ1 Hz1) _ _ _ _ ng rfl (by rfl) rfl (by rfl) (by rw [zJ1 Hz2]; omega) (by unfold maxLen; omega) (Nat.le_refl _) ?_; intro w11 hown hgrow; rw [zerosN] at hown; have hb11 := (Below.refl w10.heap.size w10).grown hgrow (Nat.le_refl _) (fun k hk => by cases hk); have HC0 := zJ2 (CpM.mk hb11 (Nat.le_refl _) hown); have yf2 : w11.cell? ⟨gf, 0, none⟩ = some (.slice (some ⟨kf, 0, none⟩) ng cg) := ((zJ1 HC0).below.cell (p := ⟨gf, 0, none⟩) (zJ1 HQ).lt).trans yg; clear hown hgrow hb11)
  | ((with_reducible refine (@id (wpList _ _ _ (Oper.mk _ (Op.call { callee := .builtin .copy, args := _, argTypes := _ }) _ _ _ none :: _) _ _) ?_)); go_loud (refine wJ7 rfl _ _ rfl w10.heap.size 0 ng ng w10.heap.size ng ng _ _ rfl (zJ1 HC0).row kf 0 ng cg w10.heap.size rfl ((zJ1 HRf).below (zJ1 HC0).below) (by omega) (by omega) ?_; intro w12 ho12 hcs12; have HC1 := zJ2 ((zJ1 HC0).copied ho12 hcs12); obtain ⟨a0, a1, a2, a3, a4, a5, a6, a7, a8, a9, a10, a11, a12⟩ := zJr ((zJ1 Hx) _ (hW1 ▸ ((zJ1 HQ).below.trans ((zJ1 HC1).below.mono (zJ1 HQ).size)))).1; clear ho12 hcs12)))
 have KH : Hid (Calls Tryz.prog 77 #[.agg #[.int .u16 3, .int .u64 0, .string ⟨#[]⟩, .slice none 0 0, .slice none 0 0, .int .u64 0, .bool true, .slice A l.length c, .string ⟨#[]⟩, .string ⟨#[]⟩, .slice none 0 0, .slice none 0 0, .int .i64 0], .slice A10 3 c10] w12 fun e w' => ∃ A' c', e = .returned (.slice A' 232 c') /\ w'.ownsRow w12.heap.size 5 1 (.slice A' 232 c') 232 (bys (Mk.head (nspec l) ([nrow0] ++ [nrow1 ng] ++ [nrow2 rm]))) /\ Below w12.heap.size w12 w') := zJ2 (rheader_any ⟨nspec l, none, 0, none, 0, A, c, none, 0, none, 0⟩ A10 3 c10 w10.heap.size ([nrow0] ++ [nrow1 ng] ++ [nrow2 rm]) w12 (zJ1 HC1).below.size (nm_ok l A c n1 hc (fun s hs => ((zJ1 Hs) s hs).1)) rfl (by decide) ((Rd.of_own (zJ1 HQ).row).below (zJ1 HC1).below) (nrows_ok (by omega) (by omega)))
 clear a0 a1 a2 a3 a4 a5 a6 a7 a8 a9 a10 a11 a12 HC0 yf2 yg HRf
 refine (zJ1 KH).mono ?_
 rintro e w13 ⟨Ah, ch, rfl, hoh, hb13⟩
 obtain ⟨kh, hkh, -, hkh2⟩ := yJx hoh (by omega)
 subst hkh
 have HRh := zJ2 (Rd.of_own hoh)
 have HC12 := zJ2 ((zJ1 HC1).calm hb13)
 clear KH hoh hb13 HC1
 go_wp2_with ((with_reducible refine (@id (wpList _ _ _ (Oper.mk _ (Op.call { callee := .builtin .copy, args := _, argTypes := _ }) _ _ _ none :: _) _ _) ?_)); go_loud (refine wJ7 rfl _ _ rfl w10.heap.size 0 ng ng w10.heap.size ng ng _ _ rfl (zJ1 HC12).row kh 0 232 ch w13.heap.size rfl (zJ1 HRh) (by omega) (by omega) ?_; intro w14 ho14 hcs14; have HC2 := zJ2 ((zJ1 HC12).copied ho14 hcs14); obtain ⟨a0, a1, a2, a3, a4, a5, a6, a7, a8, a9, a10, a11, a12⟩ := zJr ((zJ1 Hx) _ (hW1 ▸ ((zJ1 HQ).below.trans ((zJ1 HC2).below.mono (zJ1 HQ).size)))).1; clear ho14 hcs14))
 go_ret2
 have h9 := zJ1 HC2
 have h8 := zJ1 Hnf
 have h7 : ([nrow0] ++ [nrow1 ng] ++ [nrow2 rm] : List Mk.Row) = [nrow0, nrow1 (nfront l).length, nrow2 (16 * (l.length + 3))] := by rw [zJ1 Hrm, show (nfront l).length = ng from h8]; rfl
 rw [show List.replicate ng (0 : UInt8) = Mk.zs ng from rfl, over_zs h8, h7] at h9
 exact ⟨(zJ1 HBw).trans (h9.below.mono (by have := (zJ1 HQ).size; omega)), _, _, _, rfl, zJd h9.row (by have := (zJ1 HQ).size; omega)⟩
structure Pl where
 q : Nat
 g : Nat
 A : Option Addr
 n : Nat
 c : Nat
def ptrV (q : Nat) : Value := .pointer (some ⟨q, 0, none⟩)
def kindT (k : Nat) : TypeId := if k = 2 then 68 else if k = 1 then 126 else 129
def blkT (k : Nat) : TypeId := if k = 2 then 75 else if k = 1 then 128 else 131
def ndV (x : Vf.Nd) (p : Pl) : Value := .iface (kindT x.m.kind) (ptrV p.q)
def lastV (x : Vf.Nd) (p : Pl) : Value := if x.m.kind = 2 then .map (some p.g) else if x.m.kind = 1 then .slice p.A p.n p.c else .string x.to
def ndC (x : Vf.Nd) (i up : Nat) (p : Pl) : List Value := [.int .u8 (x.m.kind : Nat), .int .u16 (x.m.mode : Nat), .int .u32 (x.m.uid : Nat), .int .u32 (x.m.gid : Nat), .int .i64 (x.m.size : Nat), .int .i64 (i : Nat), ptrV up, .string x.name, lastV x p]
def kidsM (F : List Vf.Nd) (L : List Pl) (d : Nat) : List (Value × Value) := ((F.zip L).drop 1).filterMap fun y => if y.1.up = d then some (.string y.1.name, ndV y.1 y.2) else none
structure FsR (w : World) (B f : Nat) (A : Option Addr) (c : Nat) (F : List Vf.Nd) (L : List Pl) : Prop where
 len : L.length = F.length
 lt : f < B
 fs : Blk w f 78 [.slice A F.length c]
 row : Rd w B 1 A F.length ((F.zip L).map fun y => ndV y.1 y.2)
 nd : ∀ (i : Nat) (x : Vf.Nd) (p : Pl), F[i]? = some x -> L[i]? = some p -> p.q < B /\ ∃ u, L[x.up]? = some u /\ Blk w p.q (blkT x.m.kind) (ndC x i u.q p)
 byt : ∀ (i : Nat) (x : Vf.Nd) (p : Pl), F[i]? = some x -> L[i]? = some p -> x.m.kind = 1 -> p.n = x.data.length /\ Rd w B 1 p.A p.n (x.data.map fun b => Value.int .u8 (b.toNat : Nat))
theorem FsR.at_ {w : World} {B f : Nat} {A : Option Addr} {c : Nat} {F : List Vf.Nd} {L : List Pl} (h : FsR w B f A c F L) {i : Nat} (hi : i < F.length) : ∃ x p, F[i]? = some x /\ L[i]? = some p /\ ((F.zip L).map fun y => ndV y.1 y.2)[i]? = some (ndV x p) := by
 have hl : i < L.length := by rw [h.len]; exact hi
 refine ⟨F[i], L[i], List.getElem?_eq_getElem hi, List.getElem?_eq_getElem hl, ?_⟩
 rw [List.getElem?_map, List.getElem?_eq_getElem (by rw [List.length_zip]; omega), List.getElem_zip]
 rfl
theorem FsR.drewN {w : World} {B f : Nat} {A : Option Addr} {c : Nat} {F : List Vf.Nd} {L : List Pl} (h : FsR w B f A c F L) (j : Nat) : FsR (w.drewN j) B f A c F L := ⟨h.len, h.lt, h.fs, h.row.drewN j, h.nd, fun i x p h1 h2 h3 => ⟨(h.byt i x p h1 h2 h3).1, (h.byt i x p h1 h2 h3).2.drewN j⟩⟩
theorem FsR.below {w w' : World} {B f : Nat} {A : Option Addr} {c : Nat} {F : List Vf.Nd} {L : List Pl} (h : FsR w B f A c F L) (hb : Below B w w') : FsR w' B f A c F L :=
 ⟨h.len, h.lt, h.fs.below hb h.lt, h.row.below hb, fun i x p h1 h2 => by
  obtain ⟨a, u, b, d⟩ := h.nd i x p h1 h2
  exact ⟨a, u, b, d.below hb a⟩, fun i x p h1 h2 h3 => ⟨(h.byt i x p h1 h2 h3).1, (h.byt i x p h1 h2 h3).2.below hb⟩⟩
def nodeV (F : List Vf.Nd) (L : List Pl) (ino : Int) : Value := if ino < 0 \/ F.length <= ino.toNat then .nilIface else ((F.zip L).map fun y => ndV y.1 y.2)[ino.toNat]?.getD .nilIface
theorem uJs (F : List Vf.Nd) (L : List Pl) (f c B : Nat) (A : Option Addr) (ino : Int) (w : World) (h : FsR w B f A c F L) (hn : F.length <= 65) :
  Calls Tryz.prog 61 #[ptrV f, .int .i64 ino] w fun e w' => e = .returned (nodeV F L ino) /\ w = w' := by
 have H := zJ2 h
 have v0 := h.fs.cell (i := 0) rfl
 obtain ⟨n, hfn⟩ : ∃ n, F.length = n := ⟨_, rfl⟩
 rw [hfn] at v0 hn
 have Hfn := zJ2 hfn
 clear h hfn
 unfold ptrV
 obtain ⟨r, hr⟩ : ∃ r, nodeV F L ino = r := ⟨_, rfl⟩
 rw [hr]
 have Hr := zJ2 hr
 clear hr
 by_cases h0 : ino < 0
 ·have hr : r = .nilIface := by rw [<- zJ1 Hr]; unfold nodeV; rw [if_pos (.inl h0)]
  go_enter Tryz.func61, Tryz.ntmps61
  go_wp2_with fail
  go_ret
  subst hr
  exact ⟨rfl, rfl⟩
 ·obtain ⟨i, rfl⟩ := Int.eq_ofNat_of_zero_le (show 0 <= ino by omega)
  by_cases h1 : i < n
  ·obtain ⟨x, p, hx, hp, hv⟩ := (zJ1 H).at_ (i := i) (by rw [zJ1 Hfn]; exact h1)
   have hr : r = ndV x p := by
    rw [<- zJ1 Hr]
    unfold nodeV
    rw [if_neg (by rw [zJ1 Hfn]; simp; omega)]
    simp only [Int.toNat_natCast]
    rw [hv]
    rfl
   obtain ⟨b3, o3, rfl, _, c3⟩ := (zJ1 H).row.at_ (k := i) hv
   have i1 : (i : Int) < (n : Int) := by omega
   have i2 : ¬ (n : Int) <= (i : Int) := by omega
   clear hx hp hv
   rw [hr]
   generalize ndV x p = z at *
   clear hr Hr
   go_enter Tryz.func61, Tryz.ntmps61
   go_wp2_with fail
   go_ret
   exact ⟨rfl, rfl⟩
  ·have hr : r = .nilIface := by rw [<- zJ1 Hr]; unfold nodeV; rw [if_pos (.inr (by rw [zJ1 Hfn]; simp; omega))]
   have i2 : (n : Int) <= (i : Int) := by omega
   go_enter Tryz.func61, Tryz.ntmps61
   go_wp2_with fail
   go_ret
   subst hr
   exact ⟨rfl, rfl⟩
theorem vJr (w : World) (q : Nat) : (method 258 68 (.pointer (some ⟨q, 0, none⟩)) "hostel/vfs.about").run Tryz.prog w = .ok (209, .pointer (some ⟨q, 0, none⟩)) w := by kernel_rfl
theorem wJ6 (w : World) (q : Nat) : (method 258 126 (.pointer (some ⟨q, 0, none⟩)) "hostel/vfs.about").run Tryz.prog w = .ok (209, .pointer (some ⟨q, 0, none⟩)) w := by kernel_rfl
theorem wJ5 (w : World) (q : Nat) : (method 258 129 (.pointer (some ⟨q, 0, none⟩)) "hostel/vfs.about").run Tryz.prog w = .ok (209, .pointer (some ⟨q, 0, none⟩)) w := by kernel_rfl
theorem zJx (a : Addr) (w : World) : Calls Tryz.prog 209 #[.pointer (some a)] w fun e w' => e = .returned (.pointer (some a)) /\ w = w' := by
 go_enter Tryz.func209, Tryz.ntmps209
 go_wp2_with fail
 go_ret
 exact ⟨rfl, rfl⟩
theorem uJu {w : World} {x : Vf.Nd} {i up : Nat} {p : Pl} {t : TypeId} (h : Blk w p.q t (ndC x i up p)) : w.cell? ⟨p.q, 0, none⟩ = some (.int .u8 (x.m.kind : Nat)) /\ w.cell? ⟨p.q, 1, none⟩ = some (.int .u16 (x.m.mode : Nat)) /\ w.cell? ⟨p.q, 2, none⟩ = some (.int .u32 (x.m.uid : Nat)) /\ w.cell? ⟨p.q, 3, none⟩ = some (.int .u32 (x.m.gid : Nat)) /\ w.cell? ⟨p.q, 4, none⟩ = some (.int .i64 (x.m.size : Nat)) :=
 ⟨h.cell rfl, h.cell rfl, h.cell rfl, h.cell rfl, h.cell rfl⟩
theorem wJt : (Tryz.prog.info? 70).map (·.size) = some 5 := by kernel_rfl
set_option maxRecDepth 100000 in
theorem meta_any (F : List Vf.Nd) (L : List Pl) (f c B : Nat) (A : Option Addr) (ino : Int) (w : World) (h : FsR w B f A c F L) (hB : B <= w.heap.size) (hn : F.length <= 65) (hkd : ∀ (i : Nat) (x : Vf.Nd), F[i]? = some x -> 1 <= x.m.kind /\ x.m.kind <= 3) :
  Calls Tryz.prog 36 #[ptrV f, .int .i64 ino] w fun e w' => e = .returned (.tuple #[metaV (Vf.metaOf F ino).1, .int .i64 (Vf.metaOf F ino).2]) /\ Below w.heap.size w w' := by
 have K : ∀ w', Below w.heap.size w w' -> Calls Tryz.prog 61 #[.pointer (some ⟨f, 0, none⟩), .int .i64 ino] w' fun e w2 => e = .returned (nodeV F L ino) /\ w' = w2 :=
  fun w' hb => uJs F L f c B A ino w' (h.below (hb.mono hB)) hn
 obtain ⟨⟨rm, re⟩, hr⟩ : ∃ r, Vf.metaOf F ino = r := ⟨_, rfl⟩
 rw [hr]
 dsimp only
 have Hr := zJ2 hr
 clear hr
 have HK := zJ2 K
 have H := zJ2 h
 clear h K
 unfold ptrV
 have qn : ∀ w', (binOp .eql 123 .nilIface .nilIface).run Tryz.prog w' = .ok (.bool true) w' := fun w' => by kernel_rfl
 have qi : ∀ w' t v, (binOp .eql 123 (.iface t v) .nilIface).run Tryz.prog w' = .ok (.bool false) w' := fun w' t v => by kernel_rfl
 have HB := zJ2 ((Below.refl w.heap.size w).alloc (Nat.le_refl _) (.cells #[.int .u8 0, .int .u16 0, .int .u32 0, .int .u32 0, .int .i64 0] 70))
 go_enter Tryz.func36, Tryz.ntmps36
 go_wp2_with fail
 refine ((zJ1 HK) _ (zJ1 HB)).mono ?_
 rintro e w2 ⟨rfl, rfl⟩
 by_cases ho : ino < 0 \/ F.length <= ino.toNat
 ·have e1 : nodeV F L ino = .nilIface := by unfold nodeV; rw [if_pos ho]
  have e2 : Vf.metaOf F ino = (Vf.zeroMeta, 3) := by unfold Vf.metaOf; rw [if_pos ho]
  rw [e1]
  obtain ⟨rfl, rfl⟩ := Prod.mk.inj ((zJ1 Hr).symm.trans e2)
  clear e1 e2 ho
  go_wp2_with fail
  refine bodyPost_ret (results_cell_tmp (P := Tryz.prog) rfl _ _ w.heap.size 70 #[.int .u8 0, .int .u16 0, .int .u32 0, .int .u32 0, .int .i64 0] (0, 0) _ rfl (heap_alloc_new _ _) Tryz.underlying70 rfl wJt) rfl ?_
  exact ⟨rfl, zJ1 HB⟩
 ·obtain ⟨i, rfl⟩ := Int.eq_ofNat_of_zero_le (show 0 <= ino by omega)
  have hi : i < F.length := by simp at ho; omega
  obtain ⟨x, p, hx, hp, hv⟩ := (zJ1 H).at_ hi
  obtain ⟨hq, u, hu, hk⟩ := (zJ1 H).nd i x p hx hp
  have e1 : nodeV F L (i : Nat) = ndV x p := by
   unfold nodeV
   rw [if_neg ho]
   simp only [Int.toNat_natCast]
   rw [hv]
   rfl
  have e2 : Vf.metaOf F (i : Nat) = (x.m, 0) := by
   unfold Vf.metaOf Vf.nd
   rw [if_neg ho]
   simp only [Int.toNat_natCast]
   rw [hx]
   rfl
  rw [e1]
  obtain ⟨rfl, rfl⟩ := Prod.mk.inj ((zJ1 Hr).symm.trans e2)
  unfold ndV ptrV
  clear e1 e2 ho
  obtain ⟨k1, k3⟩ : 1 <= x.m.kind /\ x.m.kind <= 3 := hkd i x hx
  rcases (show x.m.kind = 1 \/ x.m.kind = 2 \/ x.m.kind = 3 by omega) with h1 | h1 | h1
  ·have et : kindT x.m.kind = 126 := by rw [h1]; rfl
   rw [et]
   have hm := fun w' => wJ6 w' p.q
   have hk2 := hk.below ((zJ1 HB).mono hB) hq
   obtain ⟨y0, y1, y2, y3, y4⟩ := uJu hk2
   have Hn := zJ2 h1
   clear hk hk2 et h1 k1 k3 hx hp hu hv hi
   go_wp2_with fail
   refine (zJx _ _).mono ?_
   rintro e w3 ⟨rfl, rfl⟩
   go_wp2_with fail
   refine bodyPost_ret (results_cell_tmp (P := Tryz.prog) rfl _ _ w.heap.size 70 #[.int .u8 (x.m.kind : Nat), .int .u16 (x.m.mode : Nat), .int .u32 (x.m.uid : Nat), .int .u32 (x.m.gid : Nat), .int .i64 (x.m.size : Nat)] (0, 0) _ rfl (heap_alloc_new _ _) Tryz.underlying70 rfl wJt) rfl ?_
   exact ⟨rfl, (Below.refl w.heap.size w).alloc (Nat.le_refl _) _⟩
  ·have et : kindT x.m.kind = 68 := by rw [h1]; rfl
   rw [et]
   have hm := fun w' => vJr w' p.q
   have hk2 := hk.below ((zJ1 HB).mono hB) hq
   obtain ⟨y0, y1, y2, y3, y4⟩ := uJu hk2
   have Hn := zJ2 h1
   clear hk hk2 et h1 k1 k3 hx hp hu hv hi
   go_wp2_with fail
   refine (zJx _ _).mono ?_
   rintro e w3 ⟨rfl, rfl⟩
   go_wp2_with fail
   refine bodyPost_ret (results_cell_tmp (P := Tryz.prog) rfl _ _ w.heap.size 70 #[.int .u8 (x.m.kind : Nat), .int .u16 (x.m.mode : Nat), .int .u32 (x.m.uid : Nat), .int .u32 (x.m.gid : Nat), .int .i64 (x.m.size : Nat)] (0, 0) _ rfl (heap_alloc_new _ _) Tryz.underlying70 rfl wJt) rfl ?_
   exact ⟨rfl, (Below.refl w.heap.size w).alloc (Nat.le_refl _) _⟩
  ·have et : kindT x.m.kind = 129 := by rw [h1]; rfl
   rw [et]
   have hm := fun w' => wJ5 w' p.q
   have hk2 := hk.below ((zJ1 HB).mono hB) hq
   obtain ⟨y0, y1, y2, y3, y4⟩ := uJu hk2
   have Hn := zJ2 h1
   clear hk hk2 et h1 k1 k3 hx hp hu hv hi
   go_wp2_with fail
   refine (zJx _ _).mono ?_
   rintro e w3 ⟨rfl, rfl⟩
   go_wp2_with fail
   refine bodyPost_ret (results_cell_tmp (P := Tryz.prog) rfl _ _ w.heap.size 70 #[.int .u8 (x.m.kind : Nat), .int .u16 (x.m.mode : Nat), .int .u32 (x.m.uid : Nat), .int .u32 (x.m.gid : Nat), .int .i64 (x.m.size : Nat)] (0, 0) _ rfl (heap_alloc_new _ _) Tryz.underlying70 rfl wJt) rfl ?_
   exact ⟨rfl, (Below.refl w.heap.size w).alloc (Nat.le_refl _) _⟩
theorem as_dir (v : Value) (w : World) : (Instr.typeAssert (.iface 68 v) 123 68 false).run Tryz.prog w = .ok v w := by
 simp [Instr.typeAssert, run_underlying Tryz.underlying68, go_sem, Result.andThen]
theorem uJ8 (v : Value) (w : World) : (Instr.typeAssert (.iface 68 v) 123 68 true).run Tryz.prog w = .ok (.tuple #[v, .bool true]) w := by
 simp [Instr.typeAssert, run_underlying Tryz.underlying68, go_sem, Result.andThen]
theorem uJf (w : World) : (zeroValue 68).run Tryz.prog w = .ok (.pointer none) w := by kernel_rfl
theorem yJ6 (v : Value) (w : World) : (Instr.typeAssert (.iface 126 v) 123 68 true).run Tryz.prog w = .ok (.tuple #[.pointer none, .bool false]) w := by
 simp [Instr.typeAssert, run_underlying Tryz.underlying68, uJf, go_sem, Result.andThen]
theorem yJ4 (v : Value) (w : World) : (Instr.typeAssert (.iface 129 v) 123 68 true).run Tryz.prog w = .ok (.tuple #[.pointer none, .bool false]) w := by
 simp [Instr.typeAssert, run_underlying Tryz.underlying68, uJf, go_sem, Result.andThen]
theorem nil_no_dir (w : World) : (Instr.typeAssert .nilIface 123 68 true).run Tryz.prog w = .ok (.tuple #[.pointer none, .bool false]) w := by
 simp [Instr.typeAssert, run_underlying Tryz.underlying68, uJf, go_sem, Result.andThen]
theorem root_any (F : List Vf.Nd) (L : List Pl) (f c B : Nat) (A : Option Addr) (w : World) (h : FsR w B f A c F L) (hn : F.length <= 65) (x : Vf.Nd) (p : Pl) (hx : F[0]? = some x) (hp : L[0]? = some p) (hk : x.m.kind = 2) :
  Calls Tryz.prog 63 #[ptrV f] w fun e w' => e = .returned (ptrV p.q) /\ w = w' := by
 have hl : 0 < F.length := (List.getElem?_eq_some_iff.1 hx).1
 obtain ⟨x', p', hx', hp', hv⟩ := h.at_ hl
 obtain rfl : x = x' := Option.some.inj (hx.symm.trans hx')
 obtain rfl : p = p' := Option.some.inj (hp.symm.trans hp')
 obtain ⟨b3, o3, rfl, _, c3⟩ := h.row.at_ (k := 0) hv
 have v0 := h.fs.cell (i := 0) rfl
 obtain ⟨n, hfn⟩ : ∃ n, F.length = n := ⟨_, rfl⟩
 rw [hfn] at v0 hl
 have e : ndV x p = .iface 68 (.pointer (some ⟨p.q, 0, none⟩)) := by unfold ndV kindT ptrV; rw [if_pos hk]
 rw [e, Nat.add_zero] at c3
 have ha := as_dir (.pointer (some ⟨p.q, 0, none⟩))
 have i1 : (0 : Int) < (n : Int) := by omega
 clear h hx hp hx' hp' hv e hfn hk hn
 unfold ptrV
 go_enter Tryz.func63, Tryz.ntmps63
 go_wp2_with fail
 go_ret
 exact ⟨rfl, rfl⟩
def RdI (w : World) (lo : Nat) (t : TypeId) (size : Nat) (A : Option Addr) (n : Nat) (xs : List Value) : Prop :=
 xs.length = n * size /\ (xs = [] \/ ∃ b off cs fz, A = some ⟨b, off, none⟩ /\ lo <= b /\ w.heap[b]? = some (.cells cs t fz) /\ ∀ j u, xs[j]? = some u -> cs[off + j]? = some u)
theorem RdI.rd {w : World} {lo : Nat} {t : TypeId} {size : Nat} {A : Option Addr} {n : Nat} {xs : List Value} (h : RdI w lo t size A n xs) : Rd w w.heap.size size A n xs :=
 ⟨h.1, h.2.imp id fun ⟨b, off, cs, fz, e, hlo, hb, hc⟩ => ⟨b, off, e, (Array.getElem?_eq_some_iff.1 hb).1, fun j u hu => by rw [cell_of_row _ _ _ _ _ _ hb]; exact hc j u hu⟩⟩
theorem RdI.keep {w w' : World} {lo : Nat} {t : TypeId} {size : Nat} {A : Option Addr} {n : Nat} {xs : List Value} (h : RdI w lo t size A n xs) (hk : ∀ k o, lo <= k -> w.heap[k]? = some o -> (∃ cs fz, o = .cells cs t fz) -> w'.heap[k]? = some o) : RdI w' lo t size A n xs :=
 ⟨h.1, h.2.imp id fun ⟨b, off, cs, fz, e, hlo, hb, hc⟩ => ⟨b, off, cs, fz, e, hlo, hk b _ hlo hb ⟨_, _, rfl⟩, hc⟩⟩
theorem RdI.of_own {w : World} {base : Nat} {t : TypeId} {size c : Nat} {A : Option Addr} {n : Nat} {xs : List Value} (h : w.ownsRow base t size (.slice A n c) n xs) : RdI w base t size A n xs := by
 refine ⟨h.1, ?_⟩
 rcases h.2 with ⟨_, h0⟩ | ⟨g, cap, cur, hv, hbg, hh, hcap, hcm, hsz, htk⟩
 ·exact .inl (List.eq_nil_of_length_eq_zero (by rw [h.1, h0]; simp))
 ·have hA : A = some ⟨g, 0, none⟩ := by injection hv
  refine .inr ⟨g, 0, cur, (0, 0), hA, hbg, hh, fun j u hu => ?_⟩
  rw [Nat.zero_add]
  rw [<- htk, List.getElem?_take] at hu
  split at hu
  ·simpa using hu
  ·cases hu
theorem vJc {w w' : World} {lo : Nat} {e : TypeId} {u : Value} {k size : Nat} {xs : List Value} (h : w.ownsRow lo e size u k xs) (hk : ∀ k, lo <= k -> k < w.heap.size -> w'.heap[k]? = w.heap[k]?) : w'.ownsRow lo e size u k xs :=
 ⟨h.1, h.2.imp id fun ⟨g, cap, cur, e1, e2, e3, r⟩ => ⟨g, cap, cur, e1, e2, (hk g e2 (Array.getElem?_eq_some_iff.1 e3).1).trans e3, r⟩⟩
structure FsM (w : World) (lo f : Nat) (A : Option Addr) (c : Nat) (F : List Vf.Nd) (L : List Pl) : Prop where
 len : L.length = F.length
 lf : lo <= f
 fs : Blk w f 78 [.slice A F.length c]
 row : w.ownsRow lo 123 1 (.slice A F.length c) F.length ((F.zip L).map fun y => ndV y.1 y.2)
 nd : ∀ (i : Nat) (x : Vf.Nd) (p : Pl), F[i]? = some x -> L[i]? = some p -> lo <= p.q /\ ∃ u, L[x.up]? = some u /\ Blk w p.q (blkT x.m.kind) (ndC x i u.q p)
 byt : ∀ (i : Nat) (x : Vf.Nd) (p : Pl), F[i]? = some x -> L[i]? = some p -> x.m.kind = 1 -> p.n = x.data.length /\ p.n <= p.c /\ RdI w lo 5 1 p.A p.n (x.data.map fun b => Value.int .u8 (b.toNat : Nat))
 map : ∀ (i : Nat) (x : Vf.Nd) (p : Pl), F[i]? = some x -> L[i]? = some p -> x.m.kind = 2 -> lo <= p.g /\ MapG w p.g .string (kidsM F L i)
 one : ∀ (i j : Nat) (x y : Vf.Nd) (p r : Pl), F[i]? = some x -> F[j]? = some y -> L[i]? = some p -> L[j]? = some r -> x.m.kind = 2 -> y.m.kind = 2 -> p.g = r.g -> i = j
section
variable {w w' : World} {lo f c : Nat} {A : Option Addr} {F : List Vf.Nd} {L : List Pl}
theorem FsM.keep (h : FsM w lo f A c F L) (hk : ∀ k, lo <= k -> k < w.heap.size -> w'.heap[k]? = w.heap[k]?) : FsM w' lo f A c F L where
 len := h.len
 lf := h.lf
 fs := (hk f h.lf h.fs.lt).trans h.fs
 row := vJc h.row hk
 nd := fun i x p h1 h2 => by
  obtain ⟨a, u, b, d⟩ := h.nd i x p h1 h2
  exact ⟨a, u, b, (hk _ a d.lt).trans d⟩
 byt := fun i x p h1 h2 h3 => by
  obtain ⟨a, a2, b⟩ := h.byt i x p h1 h2 h3
  exact ⟨a, a2, b.keep fun k o hl ho _ => (hk k hl (Array.getElem?_eq_some_iff.1 ho).1).trans ho⟩
 map := fun i x p h1 h2 h3 => by
  obtain ⟨a, b⟩ := h.map i x p h1 h2 h3
  exact ⟨a, b.keep (hk _ a b.lt)⟩
 one := h.one
theorem FsM.belowSz (h : FsM w lo f A c F L) (hb : Below w.heap.size w w') : FsM w' lo f A c F L := h.keep fun k _ hk => hb.block k hk
theorem FsM.toR (h : FsM w lo f A c F L) : FsR w w.heap.size f A c F L :=
 ⟨h.len, h.fs.lt, h.fs, Rd.of_own h.row, fun i x p h1 h2 => by
  obtain ⟨a, u, b, d⟩ := h.nd i x p h1 h2
  exact ⟨d.lt, u, b, d⟩, fun i x p h1 h2 h3 => ⟨(h.byt i x p h1 h2 h3).1, (h.byt i x p h1 h2 h3).2.2.rd⟩⟩
theorem FsM.base {lo' : Nat} (h : FsM w lo f A c F L) (hl : lo' <= lo) : FsM w lo' f A c F L where
 len := h.len
 lf := Nat.le_trans hl h.lf
 fs := h.fs
 row := zJd h.row hl
 nd := fun i x p h1 h2 => by
  obtain ⟨a, b⟩ := h.nd i x p h1 h2
  exact ⟨Nat.le_trans hl a, b⟩
 byt := fun i x p h1 h2 h3 => by
  obtain ⟨a, a2, b1, b2⟩ := h.byt i x p h1 h2 h3
  exact ⟨a, a2, b1, b2.imp id fun ⟨b, off, cs, fz, e, h4, h5⟩ => ⟨b, off, cs, fz, e, Nat.le_trans hl h4, h5⟩⟩
 map := fun i x p h1 h2 h3 => by
  obtain ⟨a, b⟩ := h.map i x p h1 h2 h3
  exact ⟨Nat.le_trans hl a, b⟩
 one := h.one
theorem FsM.at_ (h : FsM w lo f A c F L) {i : Nat} {x : Vf.Nd} (hx : F[i]? = some x) : ∃ p, L[i]? = some p /\ (F.zip L)[i]? = some (x, p) /\ ((F.zip L).map fun y => ndV y.1 y.2)[i]? = some (ndV x p) := by
 have hi : i < F.length := (List.getElem?_eq_some_iff.1 hx).1
 have hl : i < L.length := by rw [h.len]; exact hi
 have hz : (F.zip L)[i]? = some (x, L[i]) := by
  rw [List.getElem?_eq_getElem (by rw [List.length_zip]; omega), List.getElem_zip, (List.getElem?_eq_some_iff.1 hx).2]
 exact ⟨L[i], List.getElem?_eq_getElem hl, hz, by rw [List.getElem?_map, hz]; rfl⟩
/-! A directory's entries. -/
theorem kids_mem {d : Nat} {e : Value × Value} : e ∈ kidsM F L d ↔ ∃ i x p, 1 <= i /\ (F.zip L)[i]? = some (x, p) /\ x.up = d /\ e = (.string x.name, ndV x p) := by
 unfold kidsM
 rw [List.mem_filterMap]
 constructor
 ·rintro ⟨⟨x, p⟩, hm, he⟩
  obtain ⟨j, hj⟩ := List.getElem?_of_mem hm
  rw [List.getElem?_drop] at hj
  split at he
  ·next hu => exact ⟨1 + j, x, p, by omega, hj, hu, (Option.some.inj he).symm⟩
  ·cases he
 ·rintro ⟨i, x, p, h1, hx, hu, rfl⟩
  refine ⟨(x, p), ?_, by rw [if_pos hu]⟩
  refine List.mem_of_getElem? (i := i - 1) ?_
  rw [List.getElem?_drop, show 1 + (i - 1) = i by omega]
  exact hx
theorem zip_at {i : Nat} {x : Vf.Nd} {p : Pl} (h : (F.zip L)[i]? = some (x, p)) : F[i]? = some x /\ L[i]? = some p := by
 rw [List.getElem?_zip_eq_some] at h
 exact h
theorem kids_yes (hF : Vf.Good F) (h : FsM w lo f A c F L) {d j : Nat} {nm : ByteArray} (hc : Vf.child F d nm = some j) : ∃ x p, F[j]? = some x /\ L[j]? = some p /\ x.up = d /\ x.name = nm /\ (Value.string nm, ndV x p) ∈ kidsM F L d := by
 obtain ⟨h1, x, hx, hu, hn⟩ := (Vf.child_some hF).1 hc
 obtain ⟨p, hp, hz, _⟩ := h.at_ hx
 exact ⟨x, p, hx, hp, hu, hn, kids_mem.2 ⟨j, x, p, h1, hz, hu, by rw [hn]⟩⟩
theorem uJv (hF : Vf.Good F) {d : Nat} {nm : ByteArray} (hc : Vf.child F d nm = none) : ∀ e ∈ kidsM F L d, e.1 ≠ Value.string nm := by
 intro e he e1
 obtain ⟨i, x, p, h1, hz, hu, rfl⟩ := kids_mem.1 he
 injection e1 with e1
 have := (Vf.child_some hF).2 ⟨h1, x, (zip_at hz).1, hu, e1⟩
 rw [hc] at this
 cases this
theorem look_yes (hF : Vf.Good F) (h : FsM w lo f A c F L) {d j : Nat} {nm : ByteArray} {xd : Vf.Nd} {pd : Pl} (hd : F[d]? = some xd) (hp : L[d]? = some pd) (hk : xd.m.kind = 2) (hc : Vf.child F d nm = some j) :
  ∃ x p, F[j]? = some x /\ L[j]? = some p /\ (Instr.lookup 73 (.map (some pd.g)) (.string nm) true).run Tryz.prog w = .ok (.tuple #[ndV x p, .bool true]) w := by
 obtain ⟨x, p, hx, hpx, _, _, hm⟩ := kids_yes hF h hc
 exact ⟨x, p, hx, hpx, (xJl (P := Tryz.prog) Tryz.underlying73 Tryz.underlying9 (by simp [Go.MapKept.IsKey]) (h.map d xd pd hd hp hk).2 hm).1⟩
theorem look_no (hF : Vf.Good F) (h : FsM w lo f A c F L) {d : Nat} {nm : ByteArray} {xd : Vf.Nd} {pd : Pl} (hd : F[d]? = some xd) (hp : L[d]? = some pd) (hk : xd.m.kind = 2) (hc : Vf.child F d nm = none) :
  (Instr.lookup 73 (.map (some pd.g)) (.string nm) true).run Tryz.prog w = .ok (.tuple #[.nilIface, .bool false]) w :=
 (wJc (P := Tryz.prog) (z := .nilIface) Tryz.underlying73 Tryz.underlying9 (by simp [Go.MapKept.IsKey]) (by kernel_rfl) (h.map d xd pd hd hp hk).2 (uJv hF hc)).1
end
open Go.RowKit
def ndA (F : List Vf.Nd) (L : List Pl) (i : Nat) : Value := ((F.zip L).map fun y => ndV y.1 y.2)[i]?.getD .nilIface
def atV (F : List Vf.Nd) (L : List Pl) : Option Nat -> Value
 | none => .nilIface
 | some i => ndA F L i
theorem FsM.ndA_eq {w : World} {lo f c : Nat} {A : Option Addr} {F : List Vf.Nd} {L : List Pl} (h : FsM w lo f A c F L) {i : Nat} {x : Vf.Nd} {p : Pl} (hx : F[i]? = some x) (hp : L[i]? = some p) : ndA F L i = .iface (kindT x.m.kind) (.pointer (some ⟨p.q, 0, none⟩)) := by
 obtain ⟨p', hp', _, hv⟩ := h.at_ hx
 obtain rfl : p = p' := Option.some.inj (hp.symm.trans hp')
 unfold ndA
 rw [hv]
 rfl
theorem kind3 {F : List Vf.Nd} (h : Vf.Good F) {i : Nat} {x : Vf.Nd} (hx : F[i]? = some x) : x.m.kind = 1 \/ x.m.kind = 2 \/ x.m.kind = 3 := by
 have := h.kind i x hx
 omega
set_option maxRecDepth 100000 in
set_option maxHeartbeats 1000000 in
theorem at_any (F : List Vf.Nd) (L : List Pl) (lo f c : Nat) (A A' : Option Addr) (n' c' B : Nat) (l : List ByteArray) (w : World) (hF : Vf.Good F) (h : FsM w lo f A c F L) (hn : F.length <= 65) (hl : Rd w B 1 A' n' (l.map Value.string)) (hn' : n' <= 4294967296) :
  Calls Tryz.prog 43 #[ptrV f, .slice A' n' c'] w fun e w' => e = .returned (atV F L (Vf.at_ F 0 l)) /\ w = w' := by
 have hll : l.length = n' := by simpa using hl.len1
 obtain ⟨x0, hx0⟩ : ∃ x, F[0]? = some x := ⟨_, hF.r⟩
 obtain ⟨p0, hp0, _, hv0⟩ := h.at_ hx0
 obtain ⟨b3, o3, rfl, _, c3⟩ := (Rd.of_own h.row).at_ (k := 0) hv0
 have v0 := h.fs.cell (i := 0) rfl
 have e0 := h.ndA_eq hx0 hp0
 have e0' : ndA F L 0 = ndV x0 p0 := by unfold ndA; rw [hv0]; rfl
 rw [<- e0', Nat.add_zero] at c3
 obtain ⟨n, hfn⟩ : ∃ n, F.length = n := ⟨_, rfl⟩
 have hpos := Vf.good_pos hF
 have i1 : (0 : Int) < (n : Int) := by omega
 rw [hfn] at v0
 obtain ⟨r, hr⟩ : ∃ r, Vf.at_ F 0 l = r := ⟨_, rfl⟩
 have Hr := zJ2 hr
 rw [hr]
 have H := zJ2 h
 have HF := zJ2 hF
 have Hl := zJ2 hl
 have Hll := zJ2 hll
 have Hfn := zJ2 hfn
 obtain ⟨z0, hz0⟩ : ∃ z, ndA F L 0 = z := ⟨_, rfl⟩
 rw [hz0] at c3
 have Hz0 := zJ2 hz0
 clear hr h hF hl hll hv0 e0 e0' hfn hpos hx0 hp0 hz0
 unfold ptrV
 go_enter Tryz.func43, Tryz.ntmps43
 go_wp2_with fail
 go_loop [5, 18] (fun nv iv => ∃ k i : Nat, k <= n' /\ iv = .int .i64 k /\ Vf.at_ F 0 (l.take k) = some i /\ i < F.length /\ nv = ndA F L i) (fun _ i => n' - (intOf i).toNat)
 case atStart => exact ⟨0, 0, Nat.zero_le _, rfl, rfl, Vf.good_pos (zJ1 HF), (zJ1 Hz0).symm⟩
 case round =>
  obtain ⟨k, i, hk, rfl, hat, hi, rfl⟩ := hrel
  have Hat := zJ2 hat
  obtain ⟨x, hx⟩ : ∃ x, F[i]? = some x := ⟨_, List.getElem?_eq_getElem hi⟩
  obtain ⟨p, hp, _, _⟩ := (zJ1 H).at_ hx
  have e1 := (zJ1 H).ndA_eq hx hp
  have Hi := zJ2 hi
  by_cases hlt : k < n'
  ·obtain ⟨nm, hnm⟩ : ∃ nm, l[k]? = some nm := ⟨_, List.getElem?_eq_getElem (by rw [zJ1 Hll]; exact hlt)⟩
   obtain ⟨b1, o1, rfl, _, c1⟩ := (zJ1 Hl).at_ (k := k) (u := .string nm) (by simp [hnm])
   have hnx := Vf.at_next hat hnm
   have ilt : (k : Int) < (n' : Int) := by omega
   rcases kind3 (zJ1 HF) hx with hk1 | hk1 | hk1
   ·have et : kindT x.m.kind = 126 := by rw [hk1]; rfl
    rw [et] at e1
    rw [e1]
    have ha := yJ6 (.pointer (some ⟨p.q, 0, none⟩))
    have hr0 : r = none := by
     rw [<- zJ1 Hr]
     exact Vf.at_stop (k := k + 1) (hnx.trans (Vf.child_none (zJ1 HF) (by rw [Vf.kindAt_eq hx, hk1]; decide)))
    clear e1 et hk1 hnx hx hp hat hnm hi
    go_wp2_with fail
    go_ret
    subst hr0
    exact ⟨rfl, rfl⟩
   ·have et : kindT x.m.kind = 68 := by rw [hk1]; rfl
    rw [et] at e1
    rw [e1]
    have ha := uJ8 (.pointer (some ⟨p.q, 0, none⟩))
    obtain ⟨_, u, hu, hb⟩ := (zJ1 H).nd i x p hx hp
    have c8 : w.cell? ⟨p.q, 8, none⟩ = some (lastV x p) := hb.cell rfl
    have e8 : lastV x p = .map (some p.g) := by unfold lastV; rw [if_pos hk1]
    rw [e8] at c8
    cases hc : Vf.child F i nm with
    | none =>
     have hlk := look_no (zJ1 HF) (zJ1 H) hx hp hk1 hc
     have hr0 : r = none := by
      rw [<- zJ1 Hr]
      exact Vf.at_stop (k := k + 1) (hnx.trans hc)
     clear e1 et hk1 hnx hx hp hat hnm hi hu hb e8 hc
     go_wp2_with fail
     go_ret
     subst hr0
     exact ⟨rfl, rfl⟩
    | some j =>
     obtain ⟨xj, pj, hxj, hpj, hlk⟩ := look_yes (zJ1 HF) (zJ1 H) hx hp hk1 hc
     have ej : ndA F L j = ndV xj pj := (zJ1 H).ndA_eq hxj hpj
     rw [<- ej] at hlk
     obtain ⟨zj, hzj⟩ : ∃ z, ndA F L j = z := ⟨_, rfl⟩
     rw [hzj] at hlk
     have Hzj := zJ2 hzj
     have Hnx := zJ2 (hnx.trans hc)
     have Hj := zJ2 ((List.getElem?_eq_some_iff.1 hxj).1)
     clear e1 et hk1 hnx hx hp hat hnm hi hu hb e8 hc hxj hpj ej hzj
     go_wp2_with fail
     go_round
     case rel => exact ⟨k + 1, j, by omega, by go_num, zJ1 Hnx, zJ1 Hj, (zJ1 Hzj).symm⟩
     case measure => simp [intOf]; omega
   ·have et : kindT x.m.kind = 129 := by rw [hk1]; rfl
    rw [et] at e1
    rw [e1]
    have ha := yJ4 (.pointer (some ⟨p.q, 0, none⟩))
    have hr0 : r = none := by
     rw [<- zJ1 Hr]
     exact Vf.at_stop (k := k + 1) (hnx.trans (Vf.child_none (zJ1 HF) (by rw [Vf.kindAt_eq hx, hk1]; decide)))
    clear e1 et hk1 hnx hx hp hat hnm hi
    go_wp2_with fail
    go_ret
    subst hr0
    exact ⟨rfl, rfl⟩
  ·have ilt : ¬ (k : Int) < (n' : Int) := by omega
   have hr0 : r = some i := by
    rw [<- zJ1 Hr, <- hat, List.take_of_length_le (by have := zJ1 Hll; omega)]
   obtain ⟨z, hz⟩ : ∃ z, ndA F L i = z := ⟨_, rfl⟩
   rw [hz]
   have Hz := zJ2 hz
   clear hat hi hx hp e1 hz
   go_wp2_with fail
   go_ret
   subst hr0
   exact ⟨ret_val (zJ1 Hz).symm, rfl⟩
theorem as_link (v : Value) (w : World) : (Instr.typeAssert (.iface 129 v) 123 129 true).run Tryz.prog w = .ok (.tuple #[v, .bool true]) w := by
 simp [Instr.typeAssert, run_underlying Tryz.underlying129, go_sem, Result.andThen]
theorem zero_link (w : World) : (zeroValue 129).run Tryz.prog w = .ok (.pointer none) w := by kernel_rfl
theorem file_no_link (v : Value) (w : World) : (Instr.typeAssert (.iface 126 v) 123 129 true).run Tryz.prog w = .ok (.tuple #[.pointer none, .bool false]) w := by
 simp [Instr.typeAssert, run_underlying Tryz.underlying129, zero_link, go_sem, Result.andThen]
theorem dir_no_link (v : Value) (w : World) : (Instr.typeAssert (.iface 68 v) 123 129 true).run Tryz.prog w = .ok (.tuple #[.pointer none, .bool false]) w := by
 simp [Instr.typeAssert, run_underlying Tryz.underlying129, zero_link, go_sem, Result.andThen]
theorem strs_one (l : List ByteArray) : ∀ u ∈ l.map Value.string, u.oneCell' = true := by
 intro u hu
 obtain ⟨x, _, rfl⟩ := List.mem_map.1 hu
 rfl
def alV (F : List Vf.Nd) (L : List Pl) (r : Int × Nat) : Value := if r.1 = 0 then ndA F L r.2 else .nilIface
structure AlS (w : World) (F : List Vf.Nd) (L : List Pl) (cr : Vf.Cred) (Ag : Option Addr) (ng kg : Nat) (last : Bool) (r : Int × Nat) (M : Nat) (s : Vf.St) (A : Option Addr) (c1 : Nat) (W : World) : Prop where
 b : Below w.heap.size w W
 cb : Blk W w.heap.size 26 [.int .u32 (cr.uid : Nat), .int .u32 (cr.euid : Nat), .int .u32 (cr.suid : Nat), .int .u32 (cr.gid : Nat), .slice Ag ng kg]
 rd : Rd W W.heap.size 1 A s.left.length (s.left.map Value.string)
 at_ : s.at_ < F.length
 lk : s.links <= 8
 mu : Vf.mu s <= M
 r : Vf.ends F cr last s = r
 cap : s.left.length <= c1
theorem AlS.below {w : World} {F : List Vf.Nd} {L : List Pl} {cr : Vf.Cred} {Ag : Option Addr} {ng kg : Nat} {last : Bool} {r : Int × Nat} {M : Nat} {s : Vf.St} {A : Option Addr} {c1 : Nat} {W W' : World} (h : AlS w F L cr Ag ng kg last r M s A c1 W) (hb : Below W.heap.size W W') : AlS w F L cr Ag ng kg last r M s A c1 W' :=
 ⟨h.b.trans (hb.mono h.b.size), h.cb.belowSz hb, h.rd.belowSz hb, h.at_, h.lk, h.mu, h.r, h.cap⟩
theorem AlS.len {w : World} {F : List Vf.Nd} {L : List Pl} {cr : Vf.Cred} {Ag : Option Addr} {ng kg : Nat} {last : Bool} {r : Int × Nat} {M : Nat} {s : Vf.St} {A : Option Addr} {c1 : Nat} {W : World} (h : AlS w F L cr Ag ng kg last r M s A c1 W) : s.left.length <= M := by
 have := h.mu
 unfold Vf.mu at this
 omega
theorem AlS.stop {w : World} {F : List Vf.Nd} {L : List Pl} {cr : Vf.Cred} {Ag : Option Addr} {ng kg : Nat} {last : Bool} {r x : Int × Nat} {M : Nat} {s : Vf.St} {A : Option Addr} {c1 : Nat} {W : World} (h : AlS w F L cr Ag ng kg last r M s A c1 W) (hh : Vf.hop F cr last s = .inl x) : r = x := by
 rw [<- h.r, Vf.ends_eq, hh]
theorem AlS.next {w : World} {F : List Vf.Nd} {L : List Pl} {cr : Vf.Cred} {Ag : Option Addr} {ng kg : Nat} {last : Bool} {r : Int × Nat} {M : Nat} {s s' : Vf.St} {A : Option Addr} {c1 : Nat} {W : World} (h : AlS w F L cr Ag ng kg last r M s A c1 W) (hh : Vf.hop F cr last s = .inr s') : Vf.ends F cr last s' = r /\ Vf.mu s' < Vf.mu s := by
 refine ⟨?_, Vf.hop_mu hh⟩
 rw [<- h.r, Vf.ends_eq F cr last s, hh]
set_option maxRecDepth 100000 in
set_option maxHeartbeats 4000000 in
theorem along_any (F : List Vf.Nd) (L : List Pl) (lo f c : Nat) (A Ag A' : Option Addr) (ng kg c' : Nat) (cr : Vf.Cred) (i0 : Nat) (x0 : Vf.Nd) (p0 : Pl) (l : List ByteArray) (last : Bool) (w : World) (hF : Vf.Good F) (h : FsM w lo f A c F L) (hn : F.length <= 65)
  (hx0 : F[i0]? = some x0) (hp0 : L[i0]? = some p0) (hk0 : x0.m.kind = 2) (hl : Rd w w.heap.size 1 A' l.length (l.map Value.string)) (hll : l.length <= 201) (hcap : l.length <= c') (hg : Rd w w.heap.size 1 Ag ng (cr.groups.map u32v)) (hng : ng <= maxLen) :
  Calls Tryz.prog 65 #[ptrV f, credV cr Ag ng kg, ptrV p0.q, .slice A' l.length c', .bool last] w fun e w' => e = .returned (.tuple #[alV F L (Vf.ends F cr last ⟨i0, 0, l⟩), .int .i64 (Vf.ends F cr last ⟨i0, 0, l⟩).1]) /\ Below w.heap.size w w' := by
 have KMay : ∀ (i : Nat) (x : Vf.Nd), F[i]? = some x -> ∀ w', Below w.heap.size w w' -> Calls Tryz.prog 37 #[.agg #[.int .u32 (cr.uid : Nat), .int .u32 (cr.euid : Nat), .int .u32 (cr.suid : Nat), .int .u32 (cr.gid : Nat), .slice Ag ng kg], .agg #[.int .u8 (x.m.kind : Nat), .int .u16 (x.m.mode : Nat), .int .u32 (x.m.uid : Nat), .int .u32 (x.m.gid : Nat), .int .i64 (x.m.size : Nat)], .int .u8 1] w' fun e w2 => e = .returned (.bool (Vf.mayX cr x.m)) /\ Below w'.heap.size w' w2 :=
  fun i x hx w' hb => may_any cr x.m Ag ng kg w.heap.size w' (hg.below hb) hb.size hng (hF.mode i x hx)
 obtain ⟨pr, hpr, _, _⟩ := h.at_ hF.r
 have hrk := Vf.root_dir hF
 rw [Vf.kindAt_eq hF.r] at hrk
 have KRoot : ∀ w', Below w.heap.size w w' -> Calls Tryz.prog 63 #[.pointer (some ⟨f, 0, none⟩)] w' fun e w2 => e = .returned (.pointer (some ⟨pr.q, 0, none⟩)) /\ w' = w2 :=
  fun w' hb => root_any F L f c w'.heap.size A w' (h.belowSz hb).toR hn _ pr hF.r hpr hrk
 have e00 : ndA F L 0 = .iface 68 (.pointer (some ⟨pr.q, 0, none⟩)) := by
  rw [h.ndA_eq hF.r hpr]
  rfl
 have He00 := zJ2 e00
 have S0 : AlS w F L cr Ag ng kg last (Vf.ends F cr last ⟨i0, 0, l⟩) (Vf.mu ⟨i0, 0, l⟩) ⟨i0, 0, l⟩ A' c' (w.alloc (.cells #[.int .u32 (cr.uid : Nat), .int .u32 (cr.euid : Nat), .int .u32 (cr.suid : Nat), .int .u32 (cr.gid : Nat), .slice Ag ng kg] 26)) :=
  ⟨(Below.refl _ _).alloc (Nat.le_refl _) _, Blk.new w 26 [.int .u32 (cr.uid : Nat), .int .u32 (cr.euid : Nat), .int .u32 (cr.suid : Nat), .int .u32 (cr.gid : Nat), .slice Ag ng kg], (hl.below ((Below.refl _ _).alloc (Nat.le_refl _) _)).more (by simp), (List.getElem?_eq_some_iff.1 hx0).1, Nat.zero_le _, Nat.le_refl _, rfl, hcap⟩
 have hM : Vf.mu ⟨i0, 0, l⟩ <= 1817 := by unfold Vf.mu; simp only; omega
 have e0 : ndA F L i0 = .iface 68 (.pointer (some ⟨p0.q, 0, none⟩)) := by
  rw [h.ndA_eq hx0 hp0]
  unfold kindT
  rw [if_pos hk0]
 obtain ⟨r, hr⟩ : ∃ r, Vf.ends F cr last ⟨i0, 0, l⟩ = r := ⟨_, rfl⟩
 obtain ⟨M, hMe⟩ : ∃ M, Vf.mu ⟨i0, 0, l⟩ = M := ⟨_, rfl⟩
 obtain ⟨re, rn⟩ := r
 rw [hr] at S0 ⊢
 rw [hMe] at S0 hM
 dsimp only
 have HS0 := zJ2 S0
 have HF := zJ2 hF
 have H := zJ2 h
 have HKM := zJ2 KMay
 have HKR := zJ2 KRoot
 have He0 := zJ2 e0.symm
 have HMe := zJ2 hMe
 obtain ⟨av, hav⟩ : ∃ v, alV F L (re, rn) = v := ⟨_, rfl⟩
 have Hav := zJ2 hav
 rw [hav]
 obtain ⟨nl, hnl⟩ : ∃ n, l.length = n := ⟨_, rfl⟩
 have Hnl := zJ2 hnl
 rw [hnl]
 unfold credV ptrV
 clear hr hMe S0 hF h KMay KRoot e00 hrk hpr hx0 hp0 hk0 hl hg e0 hav hnl
 go_enter Tryz.func65, Tryz.ntmps65
 go_wp2_with fail
 go_loopg [3, 12, 13] M (fun gk lv nv kv wr => ∃ (s : Vf.St) (A1 : Option Addr) (c1 : Nat), gk = Vf.mu s /\ lv = .slice A1 s.left.length c1 /\ nv = ndA F L s.at_ /\ kv = .int .i64 (s.links : Nat) /\ AlS w F L cr Ag ng kg last (re, rn) M s A1 c1 wr)
 case atStart => exact ⟨⟨i0, 0, l⟩, A', c', (zJ1 HMe).symm, by rw [<- zJ1 Hnl], (zJ1 He0), rfl, zJ1 HS0⟩
 case round =>
 obtain ⟨s, A1, c1, hgk, rfl, rfl, rfl, hS⟩ := hrel
 have HS := zJ2 hS
 have hat := hS.at_
 have hlen := hS.len
 obtain ⟨x, hx⟩ : ∃ x, F[s.at_]? = some x := ⟨_, List.getElem?_eq_getElem hat⟩
 obtain ⟨p, hp, _, _⟩ := (zJ1 H).at_ hx
 have e1 := (zJ1 H).ndA_eq hx hp
 have Hx := zJ2 hx
 have Hp := zJ2 hp
 have Hgk := zJ2 hgk
 cases hleft : s.left with
 | nil =>
  obtain ⟨rfl, rfl⟩ : re = 0 /\ rn = s.at_ := by
   have := hS.stop (Vf.hop_nil hleft)
   injection this with a b
   exact ⟨a, b⟩
  have hz : alV F L (0, s.at_) = ndA F L s.at_ := by unfold alV; rw [if_pos rfl]
  rw [hz] at Hav
  rw [zJ1 Hav]
  simp only [List.length_nil]
  have Hb := zJ2 hS.b
  clear hS hz hx hp e1 hgk hlen hat hleft
  go_wp2_with fail
  go_ret2
  exact ⟨rfl, zJ1 Hb⟩
 | cons pn rest =>
  have hl1 : s.left.length = rest.length + 1 := by rw [hleft]; rfl
  have Hleft := zJ2 hleft
  obtain ⟨m, hm⟩ : ∃ m, rest.length = m := ⟨_, rfl⟩
  have Hm := zJ2 hm
  have hmM : m < M := by omega
  simp only [List.length_cons]
  rw [hm]
  have g1 : (0 : Int) < (m : Int) + 1 := by omega
  have gl : ((m + 1 : Nat) : Int) = (m : Int) + 1 := by omega
  by_cases hk2 : x.m.kind = 2
  ·have et : kindT x.m.kind = 68 := by rw [hk2]; rfl
   rw [et] at e1
   rw [e1]
   have ha := uJ8 (.pointer (some ⟨p.q, 0, none⟩))
   have hka : Vf.kindAt F s.at_ = 2 := (Vf.kindAt_eq hx).trans hk2
   have hnd : Vf.nd F s.at_ = x := Vf.nd_eq hx
   have HW := zJ2 ((zJ1 H).belowSz hS.b)
   obtain ⟨_, u, hu, hb⟩ := (zJ1 HW).nd s.at_ x p hx hp
   have hcb := hS.cb
   have KM := (zJ1 HKM) s.at_ x hx
   obtain ⟨bm, hbm⟩ : ∃ b, Vf.mayX cr x.m = b := ⟨_, rfl⟩
   rw [hbm] at KM
   have Hbm := zJ2 hbm
   have HSK : ∀ w', Below wr.heap.size wr w' -> (Below wr.heap.size wr w' /\ w'.cell? ⟨w.heap.size, 0, none⟩ = some (.int .u32 (cr.uid : Nat)) /\ w'.cell? ⟨w.heap.size, 1, none⟩ = some (.int .u32 (cr.euid : Nat)) /\ w'.cell? ⟨w.heap.size, 2, none⟩ = some (.int .u32 (cr.suid : Nat)) /\ w'.cell? ⟨w.heap.size, 3, none⟩ = some (.int .u32 (cr.gid : Nat)) /\ w'.cell? ⟨w.heap.size, 4, none⟩ = some (.slice Ag ng kg) /\ w'.cell? ⟨p.q, 0, none⟩ = some (.int .u8 (x.m.kind : Nat)) /\ w'.cell? ⟨p.q, 1, none⟩ = some (.int .u16 (x.m.mode : Nat)) /\ w'.cell? ⟨p.q, 2, none⟩ = some (.int .u32 (x.m.uid : Nat)) /\ w'.cell? ⟨p.q, 3, none⟩ = some (.int .u32 (x.m.gid : Nat)) /\ w'.cell? ⟨p.q, 4, none⟩ = some (.int .i64 (x.m.size : Nat))) := by
    intro w' hbw
    have h1 := hcb.belowSz hbw
    have h2 := uJu (hb.belowSz hbw)
    exact ⟨hbw, h1.cell rfl, h1.cell rfl, h1.cell rfl, h1.cell rfl, h1.cell rfl, h2⟩
   obtain ⟨-, a0, a1, a2, a3, a4, b0, b1, b2, b3, b4⟩ := HSK wr (Below.refl _ _)
   have hbW := hS.b
   have HKM2 := zJ2 (fun w' (hbw : Below wr.heap.size wr w') => KM w' (hbW.trans (hbw.mono hbW.size)))
   have HbW := zJ2 hbW
   have Hka := zJ2 hka
   have Hnd := zJ2 hnd
   have HSK' := zJ2 HSK
   have HeS := zJ2 ((zJ1 H).ndA_eq hx hp |>.trans (by rw [hk2]; rfl : _ = Value.iface 68 (.pointer (some ⟨p.q, 0, none⟩))))
   have Hk2 := zJ2 hk2
   have Hu := zJ2 hu
   have Hb := zJ2 hb
   clear hS hx hp hgk hlen hat hleft hu hb hcb KM hbm HSK hbW hka hnd e1 et hk2 hm hl1 hll hn
   go_wp2_with fail
   go_region_held3 (fun w' => Below wr.heap.size wr w' /\ w'.cell? ⟨w.heap.size, 0, none⟩ = some (.int .u32 (cr.uid : Nat)) /\ w'.cell? ⟨w.heap.size, 1, none⟩ = some (.int .u32 (cr.euid : Nat)) /\ w'.cell? ⟨w.heap.size, 2, none⟩ = some (.int .u32 (cr.suid : Nat)) /\ w'.cell? ⟨w.heap.size, 3, none⟩ = some (.int .u32 (cr.gid : Nat)) /\ w'.cell? ⟨w.heap.size, 4, none⟩ = some (.slice Ag ng kg) /\ w'.cell? ⟨p.q, 0, none⟩ = some (.int .u8 (x.m.kind : Nat)) /\ w'.cell? ⟨p.q, 1, none⟩ = some (.int .u16 (x.m.mode : Nat)) /\ w'.cell? ⟨p.q, 2, none⟩ = some (.int .u32 (x.m.uid : Nat)) /\ w'.cell? ⟨p.q, 3, none⟩ = some (.int .u32 (x.m.gid : Nat)) /\ w'.cell? ⟨p.q, 4, none⟩ = some (.int .i64 (x.m.size : Nat))) (first | exact (zJ1 HSK') _ (zJ3 (Below.refl _ _)) | exact (zJ1 HSK') _ (zJ1 hbn)) (first
    | (go_at_call 37; rename Below _ _ _ /\ _ => hH; refine ((zJ1 HKM2) _ hH.1).mono ?_; rintro e w2 ⟨rfl, hb2⟩; have hbn := zJ2 (hH.1.trans (hb2.mono hH.1.size))))
   have HS2 := zJ2 ((zJ1 HS).below (zJ1 hbn))
   have HW2 := zJ2 ((zJ1 HW).belowSz (zJ1 hbn))
   have Hb2 := zJ2 ((zJ1 Hb).belowSz (zJ1 hbn))
   clear a0 a1 a2 a3 a4 b0 b1 b2 b3 b4
   cases bm with
   | false =>
    obtain ⟨rfl, rfl⟩ : re = 5 /\ rn = 0 := by
     have := (zJ1 HS).stop (Vf.hop_shut (zJ1 Hleft) (zJ1 Hka) (by rw [zJ1 Hnd]; exact zJ1 Hbm))
     injection this with a b
     exact ⟨a, b⟩
    have Hb3 := zJ2 (zJ1 HS2).b
    have hz : alV F L (5, 0) = .nilIface := rfl
    rw [hz] at Hav
    have hv := zJ1 Hav
    subst hv
    clear hz
    go_wp2_with fail
    go_ret2
    exact ⟨rfl, zJ1 Hb3⟩
   | true =>
    have hrd := (zJ1 HS2).rd
    rw [zJ1 Hleft, List.length_cons, zJ1 Hm, List.map_cons] at hrd
    have hcp := (zJ1 HS2).cap
    rw [zJ1 Hleft, List.length_cons, zJ1 Hm] at hcp
    have hsl := fun w' => run_tail (P := Tryz.prog) (e := 9) Tryz.underlying50 (by kernel_rfl) A1 m c1 w'
    have hrt := hrd.tail hcp
    obtain ⟨bL, oL, hA1, _, cL⟩ := hrd.at_ (k := 0) (u := .string pn) rfl
    obtain ⟨A2, hA2⟩ : ∃ A2, tailA A1 c1 = A2 := ⟨_, rfl⟩
    rw [hA2] at hsl hrt
    rw [Nat.add_zero] at cL
    subst hA1
    have Hrt := zJ2 hrt
    have Hcp := zJ2 hcp
    clear hrd hA2 hrt hcp
    have hdq : (pn.toList == [46, 46]) = decide (pn = Vf.dd) := by
     have h := uJd pn Vf.dd
     rwa [show Vf.dd.toList = [46, 46] by rw [Lib.toList_data]; rfl] at h
    have hml : ∀ (s' : Vf.St), Vf.hop F cr last s = .inr s' -> Vf.mu s' < Vf.mu s := fun s' h => Vf.hop_mu h
    by_cases hd : pn = Vf.dd
    ·rw [decide_eq_true hd] at hdq
     obtain ⟨hul, hud⟩ := Vf.up_lt (zJ1 HF) (zJ1 Hx)
     obtain ⟨xu, hxu, hxk⟩ := Vf.kindAt_lt hud
     have eu := (zJ1 H).ndA_eq hxu (zJ1 Hu)
     rw [hxk] at eu
     have c6 : w2.cell? ⟨p.q, 6, none⟩ = some (.pointer (some ⟨u.q, 0, none⟩)) := (zJ1 Hb2).cell rfl
     have hnx := (zJ1 HS).next (Vf.hop_up (zJ1 Hleft) (zJ1 Hka) (by rw [zJ1 Hnd]; exact zJ1 Hbm) hd)
     rw [zJ1 Hnd] at hnx
     have HN : Hid (AlS w F L cr Ag ng kg last (re, rn) M ⟨x.up, s.links, rest⟩ A2 (c1 - 1) w2) :=
      zJ2 ⟨(zJ1 HS2).b, (zJ1 HS2).cb, by rw [zJ1 Hm]; exact zJ1 Hrt, hul, (zJ1 HS2).lk, Nat.le_trans (Nat.le_of_lt hnx.2) (zJ1 HS2).mu, hnx.1, by rw [zJ1 Hm]; have := zJ1 Hcp; omega⟩
     have Hnx := zJ2 hnx.2
     have Heu := zJ2 eu
     clear hd hul hud hxu hxk eu hnx hml
     go_wp2_with fail
     go_roundg (Vf.mu ⟨x.up, s.links, rest⟩)
     case rel => exact ⟨⟨x.up, s.links, rest⟩, A2, c1 - 1, rfl, by rw [zJ1 Hm], (zJ1 Heu).symm, rfl, zJ1 HN⟩
     case measure => rw [zJ1 Hgk]; exact zJ1 Hnx
    ·rw [decide_eq_false hd] at hdq
     have c8 : w2.cell? ⟨p.q, 8, none⟩ = some (lastV x p) := (zJ1 Hb2).cell rfl
     have e8 : lastV x p = .map (some p.g) := by unfold lastV; rw [if_pos (zJ1 Hk2)]
     rw [e8] at c8
     have hml : Vf.mayX cr (Vf.nd F s.at_).m = true := by rw [zJ1 Hnd]; exact zJ1 Hbm
     cases hc : Vf.child F s.at_ pn with
     | none =>
      have hlk := look_no (zJ1 HF) (zJ1 HW2) (zJ1 Hx) (zJ1 Hp) (zJ1 Hk2) hc
      obtain ⟨rfl, rfl⟩ : re = 3 /\ rn = 0 := by
       have := (zJ1 HS).stop (Vf.hop_none (zJ1 Hleft) (zJ1 Hka) hml hd hc)
       injection this with a b
       exact ⟨a, b⟩
      have Hb3 := zJ2 (zJ1 HS2).b
      have hz : alV F L (3, 0) = .nilIface := rfl
      rw [hz] at Hav
      have hv := zJ1 Hav
      subst hv
      clear hz e8 hd hc hml
      go_wp2_with fail
      go_ret2
      exact ⟨rfl, zJ1 Hb3⟩
     | some j =>
      obtain ⟨xj, pj, hxj, hpj, hlk⟩ := look_yes (zJ1 HF) (zJ1 HW2) (zJ1 Hx) (zJ1 Hp) (zJ1 Hk2) hc
      have hjl := (List.getElem?_eq_some_iff.1 hxj).1
      have ej : ndV xj pj = .iface (kindT xj.m.kind) (.pointer (some ⟨pj.q, 0, none⟩)) := rfl
      have ejA := (zJ1 H).ndA_eq hxj hpj
      have Hxj := zJ2 hxj
      have Hpj := zJ2 hpj
      have HeA := zJ2 ejA
      rw [ej] at hlk
      have HIn : Hid (Vf.kindAt F j ≠ 3 \/ (rest = [] /\ last = false) -> AlS w F L cr Ag ng kg last (re, rn) M ⟨j, s.links, rest⟩ A2 (c1 - 1) w2 /\ Vf.mu ⟨j, s.links, rest⟩ < Vf.mu s) := zJ2 (fun h3 => by
       have hnx := (zJ1 HS).next (Vf.hop_in (zJ1 Hleft) (zJ1 Hka) hml hd hc h3)
       exact ⟨⟨(zJ1 HS2).b, (zJ1 HS2).cb, by rw [zJ1 Hm]; exact zJ1 Hrt, hjl, (zJ1 HS2).lk, Nat.le_trans (Nat.le_of_lt hnx.2) (zJ1 HS2).mu, hnx.1, by rw [zJ1 Hm]; have := zJ1 Hcp; omega⟩, hnx.2⟩)
      have Hd := zJ2 hd
      have Hml := zJ2 hml
      have Hc := zJ2 hc
      have Hjl := zJ2 hjl
      by_cases hk3 : xj.m.kind = 3
      ·have et : kindT xj.m.kind = 129 := by rw [hk3]; rfl
       rw [et] at hlk
       have Het := zJ2 et
       have ha1 := as_link (.pointer (some ⟨pj.q, 0, none⟩))
       obtain ⟨_, uj, _, hbj⟩ := (zJ1 HW2).nd j xj pj hxj hpj
       have cto : w2.cell? ⟨pj.q, 8, none⟩ = some (lastV xj pj) := hbj.cell rfl
       have e9 : lastV xj pj = .string xj.to := by unfold lastV; rw [if_neg (by omega), if_neg (by omega)]
       rw [e9] at cto
       have hk3' : Vf.kindAt F j = 3 := (Vf.kindAt_eq hxj).trans hk3
       have hndj : Vf.nd F j = xj := Vf.nd_eq hxj
       have hto : xj.to.size <= 200 := Pth.chk_size _ ((zJ1 HF).to j xj hxj hk3)
       by_cases hin : rest = [] /\ last = false
       ·have h3 := (zJ1 HIn) (.inr hin)
        have HN := zJ2 h3.1
        have Hnx := zJ2 h3.2
        have hm0 : m = 0 := by rw [<- zJ1 Hm, hin.1]; rfl
        have hq0 : ((m : Int) == 0) = true := by rw [hm0]; rfl
        have hla : last = false := hin.2
        clear et h3 hk3 hc hjl ejA hxj hpj hml hd e8 ej hbj e9 hk3' hndj hto hin hm0
        subst hla
        go_wp2_with fail
        go_roundg (Vf.mu ⟨j, s.links, rest⟩)
        case rel => exact ⟨⟨j, s.links, rest⟩, A2, c1 - 1, rfl, by rw [zJ1 Hm], by rw [zJ1 HeA, zJ1 Het], rfl, zJ1 HN⟩
        case measure => rw [zJ1 Hgk]; exact zJ1 Hnx
       ·have hno : ¬ (Vf.kindAt F j ≠ 3 \/ (rest = [] /\ last = false)) := by
         rintro (h | h)
         ·exact h hk3'
         ·exact hin h
        have hpick : ((m : Int) == 0) = false \/ ((m : Int) == 0) = true /\ last = true := by
         by_cases hm0 : m = 0
         ·refine .inr ⟨by rw [hm0]; rfl, ?_⟩
          cases hla : last with
          | true => rfl
          | false => exact absurd ⟨List.eq_nil_of_length_eq_zero ((zJ1 Hm).trans hm0), hla⟩ hin
         ·exact .inl (by rw [beq_eq_false_iff_ne]; omega)
        have hlk8 := (zJ1 HS2).lk
        have i0 : (0 : Int) <= (s.links : Int) := by omega
        have iw : IntKind.i64.wrap ((s.links : Int) + 1) = (s.links : Int) + 1 := IntWalk.i64_in _ (by omega)
        by_cases h8 : 8 <= s.links
        ·obtain ⟨rfl, rfl⟩ : re = 10 /\ rn = 0 := by
          have := (zJ1 HS).stop (Vf.hop_loop (zJ1 Hleft) (zJ1 Hka) hml hd hc hno h8)
          injection this with a b
          exact ⟨a, b⟩
         have Hb3 := zJ2 (zJ1 HS2).b
         have hz : alV F L (10, 0) = .nilIface := rfl
         rw [hz] at Hav
         have hv := zJ1 Hav
         subst hv
         have g8 : (8 : Int) < (s.links : Int) + 1 := by omega
         clear et hk3 hc hjl ejA hxj hpj hml hd e8 ej hbj e9 hk3' hndj hto hin hno hz hlk8 h8
         rcases hpick with hq0 | ⟨hq0, rfl⟩
         all_goals
          go_wp2_with fail
          go_ret2
          exact ⟨rfl, zJ1 Hb3⟩
        ·have hnx := (zJ1 HS).next (Vf.hop_link (zJ1 Hleft) (zJ1 Hka) hml hd hc hno h8)
         rw [hndj] at hnx
         have g8 : ¬ (8 : Int) < (s.links : Int) + 1 := by omega
         have KP := zJ2 (vJ8 xj.to (by unfold maxLen; omega) w2)
         have hpl := Vf.parts_len xj.to
         have Hnx := zJ2 hnx
         have h8' : s.links + 1 <= 8 := by omega
         have hm2 : m <= 1817 := by omega
         obtain ⟨tb, htb⟩ : ∃ b, Pth.rootB xj.to = b := ⟨_, rfl⟩
         obtain ⟨pl, hpll⟩ : ∃ l, Pth.partsL xj.to = l := ⟨_, rfl⟩
         rw [htb, hpll] at KP
         rw [hpll] at hpl
         obtain ⟨np, hnp⟩ : ∃ n, pl.length = n := ⟨_, rfl⟩
         rw [hnp] at KP hpl
         rw [htb, hpll] at Hnx
         have Hnp := zJ2 hnp
         clear et hk3 hc hjl ejA hxj hpj hml hd e8 ej hbj e9 hk3' hndj hto hin hno hlk8 h8 hnx htb hpll hnp
         have HN : ∀ (A4 : Option Addr) (c4 : Nat) (w4 : World), w4.ownsRow w2.heap.size 9 1 (.slice A4 (np + m) c4) (np + m) (pl.map Value.string ++ rest.map Value.string) -> Below w2.heap.size w2 w4 -> AlS w F L cr Ag ng kg last (re, rn) M ⟨if tb = true then 0 else s.at_, s.links + 1, pl ++ rest⟩ A4 c4 w4 := by
          intro A4 c4 w4 ho4 hb4
          have hS4 := (zJ1 HS2).below hb4
          have hlen4 : (pl ++ rest).length = np + m := by rw [List.length_append, zJ1 Hnp, zJ1 Hm]
          refine ⟨hS4.b, hS4.cb, ?_, ?_, h8', Nat.le_trans (Nat.le_of_lt (zJ1 Hnx).2) (zJ1 HS2).mu, (zJ1 Hnx).1, ?_⟩
          ·show Rd w4 w4.heap.size 1 A4 (pl ++ rest).length ((pl ++ rest).map Value.string)
           rw [hlen4, List.map_append]
           exact Rd.of_own ho4
          ·show (if tb = true then 0 else s.at_) < F.length
           split
           ·exact Vf.good_pos (zJ1 HF)
           ·exact (zJ1 HS2).at_
          ·show (pl ++ rest).length <= c4
           rw [hlen4]
           exact vJd ho4
         have hlen4 : (pl ++ rest).length = np + m := by rw [List.length_append, zJ1 Hnp, zJ1 Hm]
         have Hlen4 := zJ2 hlen4
         replace HN := zJ2 HN
         clear hlen4
         rcases hpick with hq0 | ⟨hq0, rfl⟩
         all_goals
          go_wp2_with fail
          refine (zJ1 KP).mono ?_
          rintro e w3 ⟨A3, c3, rfl, ho3, hb3⟩
          have Ho3 := zJ2 ho3
          have Hb3 := zJ2 hb3
          have Hr3 := zJ2 ((zJ1 Hrt).belowSz hb3)
          have hsz3 := hb3.size
          have Hb23 := zJ2 hb3
          have HS3 := zJ2 ((zJ1 HS2).below hb3)
          have hlo3 := fun k hk => (ho3.lt k hk).1
          have Hlo3 := zJ2 hlo3
          clear ho3 hb3 hlo3
          cases tb with
          | false =>
           go_wp2_with (at_builtin; refine zJe strTy rfl _ _ rfl w2.heap.size (.slice A3 np c3) np _ rfl (zJ1 Ho3) w3.heap.size A2 m (c1 - 1) _ rfl (zJ1 Hr3) (strs_one _) (by omega) hsz3 ?_; intro A4 c4 w4 ho4 hg4 hat4; have hb4 := (Below.refl w2.heap.size w3).grown hg4 hsz3 (zJ1 Hlo3); have Ho4 := zJ2 ho4; have Hb4 := zJ2 hb4; clear ho4 hg4 hat4 hb4)
           have hN4 := (zJ1 HN) A4 c4 w4 (zJ1 Ho4) ((zJ1 Hb23).trans ((zJ1 Hb4).mono (Nat.le_refl _)))
           go_roundg (Vf.mu ⟨s.at_, s.links + 1, pl ++ rest⟩)
           case rel => exact ⟨⟨s.at_, s.links + 1, pl ++ rest⟩, A4, c4, rfl, by rw [zJ1 Hlen4], (zJ1 HeS).symm, rfl, hN4⟩
           case measure => rw [zJ1 Hgk]; exact (zJ1 Hnx).2
          | true =>
           go_wp2_with (at_builtin; refine zJe strTy rfl _ _ rfl w2.heap.size (.slice A3 np c3) np _ rfl (zJ1 Ho3) w3.heap.size A2 m (c1 - 1) _ rfl (zJ1 Hr3) (strs_one _) (by omega) hsz3 ?_; intro A4 c4 w4 ho4 hg4 hat4; have hb4 := (Below.refl w2.heap.size w3).grown hg4 hsz3 (zJ1 Hlo3); have Ho4 := zJ2 ho4; have Hb4 := zJ2 hb4; clear ho4 hg4 hat4 hb4)
           have hN4 := (zJ1 HN) A4 c4 w4 (zJ1 Ho4) ((zJ1 Hb23).trans ((zJ1 Hb4).mono (Nat.le_refl _)))
           refine ((zJ1 HKR) w4 hN4.b).mono ?_
           rintro e w5 ⟨rfl, rfl⟩
           go_wp2_with fail
           go_roundg (Vf.mu ⟨0, s.links + 1, pl ++ rest⟩)
           case rel => exact ⟨⟨0, s.links + 1, pl ++ rest⟩, A4, c4, rfl, by rw [zJ1 Hlen4], (zJ1 He00).symm, rfl, hN4⟩
           case measure => rw [zJ1 Hgk]; exact (zJ1 Hnx).2
      ·have h3 := (zJ1 HIn) (.inl (by rw [Vf.kindAt_eq hxj]; exact hk3))
       have HN := zJ2 h3.1
       have Hnx := zJ2 h3.2
       have et : kindT xj.m.kind = 126 \/ kindT xj.m.kind = 68 := by
        rcases kind3 (zJ1 HF) hxj with h1 | h1 | h1
        ·exact .inl (by rw [h1]; rfl)
        ·exact .inr (by rw [h1]; rfl)
        ·exact absurd h1 hk3
       have ha1 := file_no_link (.pointer (some ⟨pj.q, 0, none⟩))
       have ha2 := dir_no_link (.pointer (some ⟨pj.q, 0, none⟩))
       rcases et with et | et
       all_goals
        rw [et] at hlk
        have Het := zJ2 et
        clear et h3 hk3 hc hjl ejA hxj hpj hml hd e8 ej
        go_wp2_with fail
        go_roundg (Vf.mu ⟨j, s.links, rest⟩)
        case rel => exact ⟨⟨j, s.links, rest⟩, A2, c1 - 1, rfl, by rw [zJ1 Hm], by rw [zJ1 HeA, zJ1 Het], rfl, zJ1 HN⟩
        case measure => rw [zJ1 Hgk]; exact zJ1 Hnx
  ·have hka : Vf.kindAt F s.at_ ≠ 2 := by rw [Vf.kindAt_eq hx]; exact hk2
   obtain ⟨rfl, rfl⟩ : re = 8 /\ rn = 0 := by
    have := hS.stop (Vf.hop_no hleft hka)
    injection this with a b
    exact ⟨a, b⟩
   have hz : alV F L (8, 0) = .nilIface := rfl
   rw [hz] at Hav
   have hv := zJ1 Hav
   subst hv
   rw [e1]
   have Hb := zJ2 hS.b
   have et : kindT x.m.kind = 126 \/ kindT x.m.kind = 129 := by
    rcases kind3 (zJ1 HF) hx with h1 | h1 | h1
    ·exact .inl (by rw [h1]; rfl)
    ·exact absurd h1 hk2
    ·exact .inr (by rw [h1]; rfl)
   have ha := yJ6 (.pointer (some ⟨p.q, 0, none⟩))
   have ha2 := yJ4 (.pointer (some ⟨p.q, 0, none⟩))
   rcases et with et | et
   all_goals
    rw [et]
    clear et hS hz hx hp e1 hgk hlen hat hleft hk2 hka hm hl1 hll hn
    go_wp2_with fail
    go_ret2
    exact ⟨rfl, zJ1 Hb⟩
theorem hop_lt {F : List Vf.Nd} (h : Vf.Good F) {c : Vf.Cred} {last : Bool} {s : Vf.St} (hs : s.at_ < F.length) : (∀ x, Vf.hop F c last s = .inl x -> x.2 < F.length) /\ ∀ s', Vf.hop F c last s = .inr s' -> s'.at_ < F.length := by
 have h0 := Vf.good_pos h
 unfold Vf.hop
 constructor
 ·intro x hx
  split at hx
  ·cases hx; exact hs
  ·repeat' (first | (split at hx) | (cases hx; exact h0) | cases hx)
 ·intro s' hx
  split at hx
  ·cases hx
  ·split at hx
   ·cases hx
   split at hx
   ·cases hx
   split at hx
   ·cases hx
    obtain ⟨x, hx⟩ : ∃ x, F[s.at_]? = some x := ⟨_, List.getElem?_eq_getElem hs⟩
    show (Vf.nd F s.at_).up < F.length
    rw [Vf.nd_eq hx]
    exact (Vf.up_lt h hx).1
   split at hx
   ·cases hx
   ·next n hn =>
    split at hx
    ·cases hx
     exact (Vf.child_dir h hn).2.2
    split at hx
    ·cases hx
    ·cases hx
     show (if Pth.rootB (Vf.nd F n).to = true then 0 else s.at_) < F.length
     split
     ·exact h0
     ·exact hs
theorem go_lt {F : List Vf.Nd} (h : Vf.Good F) {c : Vf.Cred} {last : Bool} : ∀ (k : Nat) (s : Vf.St), s.at_ < F.length -> (Vf.go F c last k s).2 < F.length := by
 intro k
 induction k with
 | zero => intro s _; exact Vf.good_pos h
 | succ k ih =>
  intro s hs
  unfold Vf.go
  cases hh : Vf.hop F c last s with
  | inl x => exact (hop_lt h hs).1 x hh
  | inr s' => exact ih s' ((hop_lt h hs).2 s' hh)
theorem ends_lt {F : List Vf.Nd} (h : Vf.Good F) {c : Vf.Cred} {last : Bool} {s : Vf.St} (hs : s.at_ < F.length) : (Vf.ends F c last s).2 < F.length := go_lt h _ s hs
theorem uJt {w : World} {lo f c : Nat} {A : Option Addr} {F : List Vf.Nd} {L : List Pl} (h : FsM w lo f A c F L) {i : Nat} {x : Vf.Nd} {p : Pl} (hx : F[i]? = some x) (hp : L[i]? = some p) : nodeV F L (i : Nat) = .iface (kindT x.m.kind) (.pointer (some ⟨p.q, 0, none⟩)) := by
 have := h.ndA_eq hx hp
 unfold ndA at this
 unfold nodeV
 have hl := (List.getElem?_eq_some_iff.1 hx).1
 rw [if_neg (by simp; omega)]
 simp only [Int.toNat_natCast]
 exact this
theorem nodeV_out {F : List Vf.Nd} {L : List Pl} {ino : Int} (h : ino < 0 \/ F.length <= ino.toNat) : nodeV F L ino = .nilIface := by unfold nodeV; rw [if_pos h]
theorem nodeV_no {w : World} {lo f c : Nat} {A : Option Addr} {F : List Vf.Nd} {L : List Pl} (hF : Vf.Good F) (h : FsM w lo f A c F L) {ino : Int} (hs : ino < 0 \/ Vf.kindAt F ino.toNat ≠ 2) : nodeV F L ino = .nilIface \/ (∃ v, nodeV F L ino = .iface 126 v) \/ (∃ v, nodeV F L ino = .iface 129 v) := by
 by_cases ho : ino < 0 \/ F.length <= ino.toNat
 ·exact .inl (nodeV_out ho)
 ·obtain ⟨i, rfl⟩ := Int.eq_ofNat_of_zero_le (show 0 <= ino by omega)
  have hi : i < F.length := by simp at ho; omega
  obtain ⟨x, hx⟩ : ∃ x, F[i]? = some x := ⟨_, List.getElem?_eq_getElem hi⟩
  obtain ⟨p, hp, _, _⟩ := h.at_ hx
  have e := uJt h hx hp
  have hk : x.m.kind ≠ 2 := by
   rcases hs with h1 | h1
   ·omega
   ·rw [Int.toNat_natCast, Vf.kindAt_eq hx] at h1
    exact h1
  rcases kind3 hF hx with h1 | h1 | h1
  ·exact .inr (.inl ⟨_, by rw [e, h1]; rfl⟩)
  ·exact absurd h1 hk
  ·exact .inr (.inr ⟨_, by rw [e, h1]; rfl⟩)
set_option maxRecDepth 100000 in
set_option maxHeartbeats 4000000 in
theorem walk_any (F : List Vf.Nd) (L : List Pl) (lo f c : Nat) (A Ag : Option Addr) (ng kg : Nat) (cr : Vf.Cred) (src : Int) (path : ByteArray) (last : Bool) (w : World) (hF : Vf.Good F) (h : FsM w lo f A c F L) (hn : F.length <= 65)
  (hg : Rd w w.heap.size 1 Ag ng (cr.groups.map u32v)) (hng : ng <= maxLen) (hps : path.size <= 4294967296) :
  Calls Tryz.prog 35 #[ptrV f, credV cr Ag ng kg, .int .i64 src, .string path, .bool last] w fun e w' => e = .returned (.tuple #[.int .i64 ((Vf.walk F cr src path last).1 : Nat), .int .i64 (Vf.walk F cr src path last).2]) /\ Below w.heap.size w w' := by
 have hb0 : Below w.heap.size w (w.alloc (.cells #[.int .u32 (cr.uid : Nat), .int .u32 (cr.euid : Nat), .int .u32 (cr.suid : Nat), .int .u32 (cr.gid : Nat), .slice Ag ng kg] 26)) := (Below.refl _ _).alloc (Nat.le_refl _) _
 have KN := uJs F L f c _ A src _ (h.belowSz hb0).toR hn
 have hcb : Blk (w.alloc (.cells #[.int .u32 (cr.uid : Nat), .int .u32 (cr.euid : Nat), .int .u32 (cr.suid : Nat), .int .u32 (cr.gid : Nat), .slice Ag ng kg] 26)) w.heap.size 26 [.int .u32 (cr.uid : Nat), .int .u32 (cr.euid : Nat), .int .u32 (cr.suid : Nat), .int .u32 (cr.gid : Nat), .slice Ag ng kg] := Blk.new w 26 _
 obtain ⟨⟨rn, re⟩, hr⟩ : ∃ r, Vf.walk F cr src path last = r := ⟨_, rfl⟩
 rw [hr]
 dsimp only
 unfold ptrV at KN
 have HKN := zJ2 KN
 have HF := zJ2 hF
 have H := zJ2 h
 have Hr := zJ2 hr
 have Hb0 := zJ2 hb0
 have Hcb := zJ2 hcb
 have Hg := zJ2 hg
 unfold credV ptrV
 clear KN hF h hr hb0 hcb hg
 go_enter Tryz.func35, Tryz.ntmps35
 go_wp2_with fail
 refine (zJ1 HKN).mono ?_
 rintro e w1 ⟨rfl, rfl⟩
 by_cases hs : src < 0 \/ Vf.kindAt F src.toNat ≠ 2
 ·obtain ⟨rfl, rfl⟩ : rn = 0 /\ re = 1 := by
   have := zJ1 Hr
   unfold Vf.walk at this
   rw [if_pos hs] at this
   injection this with a b
   exact ⟨a.symm, b.symm⟩
  have ha1 := nil_no_dir
  have ha2 := yJ6
  have ha3 := yJ4
  rcases nodeV_no (zJ1 HF) (zJ1 H) hs with e | ⟨v, e⟩ | ⟨v, e⟩
  all_goals
   rw [e]
   clear e hs
   go_wp2_with fail
   go_ret2
   exact ⟨rfl, zJ1 Hb0⟩
 ·obtain ⟨i, rfl⟩ := Int.eq_ofNat_of_zero_le (show 0 <= src by omega)
  have hk : Vf.kindAt F i = 2 := by
   simp only [not_or, Decidable.not_not, Int.toNat_natCast] at hs
   exact hs.2
  obtain ⟨x, hx, hxk⟩ := Vf.kindAt_lt hk
  obtain ⟨p, hp, _, _⟩ := (zJ1 H).at_ hx
  have e := uJt (zJ1 H) hx hp
  rw [hxk] at e
  have et : kindT 2 = 68 := rfl
  rw [et] at e
  rw [e]
  have ha := uJ8 (.pointer (some ⟨p.q, 0, none⟩))
  have KP := zJ2 (vJ8 path (by unfold maxLen; omega) (w.alloc (.cells #[.int .u32 (cr.uid : Nat), .int .u32 (cr.euid : Nat), .int .u32 (cr.suid : Nat), .int .u32 (cr.gid : Nat), .slice Ag ng kg] 26)))
  obtain ⟨ck, hck⟩ : ∃ b, Pth.chk path = b := ⟨_, rfl⟩
  obtain ⟨tb, htb⟩ : ∃ b, Pth.rootB path = b := ⟨_, rfl⟩
  obtain ⟨pl, hpl⟩ : ∃ l, Pth.partsL path = l := ⟨_, rfl⟩
  obtain ⟨tl, htl⟩ : ∃ b, Pth.tailB path = b := ⟨_, rfl⟩
  have hpl2 := Vf.parts_len path
  have hwk := zJ1 Hr
  unfold Vf.walk at hwk
  rw [if_neg hs] at hwk
  simp only [Int.toNat_natCast] at hwk
  rw [hck, htb, hpl, htl] at hwk
  rw [hck, htb, hpl] at KP
  rw [hpl] at hpl2
  have Hwk := zJ2 hwk
  have Hx := zJ2 hx
  have Hp := zJ2 hp
  have Hxk := zJ2 hxk
  have Hpl2 := zJ2 hpl2
  have KT := zJ2 (fun w' => wJo path (by omega) w')
  rw [htl] at KT
  clear e et hs hk hx hp hxk hck htb hpl htl hwk hpl2 HKN
  go_wp2_with fail
  refine (zJ1 KP).mono ?_
  rintro e w2 ⟨A2, c2, rfl, ho2, hb2⟩
  have HW2 := zJ2 (((zJ1 H).belowSz (zJ1 Hb0)).belowSz hb2)
  have hcb2 := (zJ1 Hcb).belowSz hb2
  obtain ⟨a0, a1, a2, a3, a4⟩ : w2.cell? ⟨w.heap.size, 0, none⟩ = some (.int .u32 (cr.uid : Nat)) /\ w2.cell? ⟨w.heap.size, 1, none⟩ = some (.int .u32 (cr.euid : Nat)) /\ w2.cell? ⟨w.heap.size, 2, none⟩ = some (.int .u32 (cr.suid : Nat)) /\ w2.cell? ⟨w.heap.size, 3, none⟩ = some (.int .u32 (cr.gid : Nat)) /\ w2.cell? ⟨w.heap.size, 4, none⟩ = some (.slice Ag ng kg) := ⟨hcb2.cell rfl, hcb2.cell rfl, hcb2.cell rfl, hcb2.cell rfl, hcb2.cell rfl⟩
  have Hb2 := zJ2 ((zJ1 Hb0).trans (hb2.mono (by simp)))
  have Hg2 := zJ2 (((zJ1 Hg).below (zJ1 Hb2)).more (zJ1 Hb2).size)
  have Ho2 := zJ2 ho2
  have Hr2 := zJ2 (Rd.of_own ho2)
  have Hc2 := zJ2 (vJd ho2)
  clear ho2 hb2 hcb2
  by_cases hck : ck = 0
  ·subst hck
   have hwk := zJ1 Hwk
   rw [if_neg (by simp)] at hwk
   have i1 : ((0 : Int) != 0) = false := rfl
   obtain ⟨i1, hi1⟩ : ∃ i1, (if tb = true then 0 else i) = i1 := ⟨_, rfl⟩
   rw [hi1] at hwk
   have hx1 : ∃ x1 p1, F[i1]? = some x1 /\ L[i1]? = some p1 /\ x1.m.kind = 2 /\ (tb = false -> p1 = p) := by
    cases tb with
    | false =>
     simp only [Bool.false_eq_true, if_false] at hi1
     subst hi1
     exact ⟨x, p, zJ1 Hx, zJ1 Hp, zJ1 Hxk, fun _ => rfl⟩
    | true =>
     simp only [if_true] at hi1
     subst hi1
     obtain ⟨pr, hpr, _, _⟩ := (zJ1 H).at_ (zJ1 HF).r
     exact ⟨_, pr, (zJ1 HF).r, hpr, rfl, fun h => by cases h⟩
   obtain ⟨x1, p1, hx1, hp1, hk1, hpp⟩ := hx1
   have Hx1 := zJ2 hx1
   have Hp1 := zJ2 hp1
   have Hk1 := zJ2 hk1
   have KR : Hid (tb = true -> Calls Tryz.prog 63 #[.pointer (some ⟨f, 0, none⟩)] w2 fun e w3 => e = .returned (.pointer (some ⟨p1.q, 0, none⟩)) /\ w2 = w3) := by
    refine zJ2 (fun ht => ?_)
    rw [if_pos ht] at hi1
    subst hi1
    exact root_any F L f c w2.heap.size A w2 (zJ1 HW2).toR hn x1 p1 hx1 hp1 hk1
   have KA := zJ2 (along_any F L lo f c A Ag A2 ng kg c2 cr i1 x1 p1 pl (last || tl) w2 (zJ1 HF) (zJ1 HW2) hn hx1 hp1 hk1 (zJ1 Hr2) (zJ1 Hpl2) (zJ1 Hc2) (zJ1 Hg2) hng)
   unfold credV ptrV at KA
   obtain ⟨⟨ee, en⟩, hen⟩ : ∃ r, Vf.ends F cr (last || tl) ⟨i1, 0, pl⟩ = r := ⟨_, rfl⟩
   have henl := ends_lt (zJ1 HF) (c := cr) (last := last || tl) (s := ⟨i1, 0, pl⟩) (List.getElem?_eq_some_iff.1 hx1).1
   rw [hen] at KA hwk henl
   dsimp only at KA hwk henl
   have Henl := zJ2 henl
   have Hwk2 := zJ2 hwk
   clear hwk hen henl hi1 hx1 hp1 hk1 Hwk
   cases tb with
   | false =>
    obtain rfl := hpp rfl
    clear hpp
    go_wp2_with fail
    refine ((zJ1 KT) _).mono ?_
    rintro e w3 ⟨rfl, rfl⟩
    cases last
    all_goals
     simp only [Bool.true_or, Bool.false_or] at KA
     go_wp2_with fail
     refine (zJ1 KA).mono ?_
     rintro e w4 ⟨rfl, hb4⟩
     have Hb4 := zJ2 ((zJ1 Hb2).trans (hb4.mono (zJ1 Hb2).size))
     have HW4 := zJ2 ((zJ1 HW2).belowSz hb4)
     clear a0 a1 a2 a3 a4 hb4
     by_cases he : ee = 0
     ·subst he
      have hwk := zJ1 Hwk2
      rw [if_neg (by simp)] at hwk
      have q1 : ((0 : Int) != 0) = false := rfl
      have ea : alV F L (0, en) = ndA F L en := by unfold alV; rw [if_pos rfl]
      obtain ⟨xe, hxe⟩ : ∃ x, F[en]? = some x := ⟨_, List.getElem?_eq_getElem (zJ1 Henl)⟩
      obtain ⟨pe, hpe, _, _⟩ := (zJ1 H).at_ hxe
      rw [ea, (zJ1 H).ndA_eq hxe hpe]
      rw [Vf.kindAt_eq hxe] at hwk
      obtain ⟨_, ue, _, hbe⟩ := (zJ1 HW4).nd en xe pe hxe hpe
      have y5 : w4.cell? ⟨pe.q, 5, none⟩ = some (.int .i64 (en : Nat)) := hbe.cell rfl
      have ha1 := uJ8 (.pointer (some ⟨pe.q, 0, none⟩))
      have ha2 := yJ6 (.pointer (some ⟨pe.q, 0, none⟩))
      have ha3 := yJ4 (.pointer (some ⟨pe.q, 0, none⟩))
      have hm1 := fun w' => vJr w' pe.q
      have hm2 := fun w' => wJ6 w' pe.q
      have hm3 := fun w' => wJ5 w' pe.q
      rcases kind3 (zJ1 HF) hxe with hk | hk | hk
      ·have et : kindT xe.m.kind = 126 := by rw [hk]; rfl
       rw [et]
       rw [hk] at hwk
       cases tl with
       | false =>
        obtain ⟨rfl, rfl⟩ : rn = en /\ re = 0 := by
         rw [if_neg (by simp)] at hwk
         injection hwk with a b
         exact ⟨a.symm, b.symm⟩
        clear et hk hwk ea hxe hpe hbe
        go_wp2_with fail
        refine (zJx _ _).mono ?_
        rintro e w5 ⟨rfl, rfl⟩
        go_wp2_with fail
        go_ret2
        exact ⟨rfl, zJ1 Hb4⟩
       | true =>
        obtain ⟨rfl, rfl⟩ : rn = 0 /\ re = 8 := by
         rw [if_pos (by simp)] at hwk
         injection hwk with a b
         exact ⟨a.symm, b.symm⟩
        clear et hk hwk ea hxe hpe hbe
        go_wp2_with fail
        go_ret2
        exact ⟨rfl, zJ1 Hb4⟩
      ·have et : kindT xe.m.kind = 68 := by rw [hk]; rfl
       rw [et]
       obtain ⟨rfl, rfl⟩ : rn = en /\ re = 0 := by
        rw [if_neg (by simp [hk])] at hwk
        injection hwk with a b
        exact ⟨a.symm, b.symm⟩
       clear et hk hwk ea hxe hpe hbe
       cases tl
       all_goals
        go_wp2_with fail
        refine (zJx _ _).mono ?_
        rintro e w5 ⟨rfl, rfl⟩
        go_wp2_with fail
        go_ret2
        exact ⟨rfl, zJ1 Hb4⟩
      ·have et : kindT xe.m.kind = 129 := by rw [hk]; rfl
       rw [et]
       rw [hk] at hwk
       cases tl with
       | false =>
        obtain ⟨rfl, rfl⟩ : rn = en /\ re = 0 := by
         rw [if_neg (by simp)] at hwk
         injection hwk with a b
         exact ⟨a.symm, b.symm⟩
        clear et hk hwk ea hxe hpe hbe
        go_wp2_with fail
        refine (zJx _ _).mono ?_
        rintro e w5 ⟨rfl, rfl⟩
        go_wp2_with fail
        go_ret2
        exact ⟨rfl, zJ1 Hb4⟩
       | true =>
        obtain ⟨rfl, rfl⟩ : rn = 0 /\ re = 8 := by
         rw [if_pos (by simp)] at hwk
         injection hwk with a b
         exact ⟨a.symm, b.symm⟩
        clear et hk hwk ea hxe hpe hbe
        go_wp2_with fail
        go_ret2
        exact ⟨rfl, zJ1 Hb4⟩
     ·obtain ⟨rfl, rfl⟩ : rn = 0 /\ re = ee := by
       have := zJ1 Hwk2
       rw [if_pos he] at this
       injection this with a b
       exact ⟨a.symm, b.symm⟩
      have q1 : (re != 0) = true := by simp [he]
      clear he
      go_wp2_with fail
      go_ret2
      exact ⟨rfl, zJ1 Hb4⟩
   | true =>
    clear hpp
    go_wp2_with fail
    refine ((zJ1 KR) (by first | rfl | trivial)).mono ?_
    rintro e w3 ⟨rfl, rfl⟩
    go_wp2_with fail
    refine ((zJ1 KT) _).mono ?_
    rintro e w3 ⟨rfl, rfl⟩
    cases last
    all_goals
     simp only [Bool.true_or, Bool.false_or] at KA
     go_wp2_with fail
     refine (zJ1 KA).mono ?_
     rintro e w4 ⟨rfl, hb4⟩
     have Hb4 := zJ2 ((zJ1 Hb2).trans (hb4.mono (zJ1 Hb2).size))
     have HW4 := zJ2 ((zJ1 HW2).belowSz hb4)
     clear a0 a1 a2 a3 a4 hb4
     by_cases he : ee = 0
     ·subst he
      have hwk := zJ1 Hwk2
      rw [if_neg (by simp)] at hwk
      have q1 : ((0 : Int) != 0) = false := rfl
      have ea : alV F L (0, en) = ndA F L en := by unfold alV; rw [if_pos rfl]
      obtain ⟨xe, hxe⟩ : ∃ x, F[en]? = some x := ⟨_, List.getElem?_eq_getElem (zJ1 Henl)⟩
      obtain ⟨pe, hpe, _, _⟩ := (zJ1 H).at_ hxe
      rw [ea, (zJ1 H).ndA_eq hxe hpe]
      rw [Vf.kindAt_eq hxe] at hwk
      obtain ⟨_, ue, _, hbe⟩ := (zJ1 HW4).nd en xe pe hxe hpe
      have y5 : w4.cell? ⟨pe.q, 5, none⟩ = some (.int .i64 (en : Nat)) := hbe.cell rfl
      have ha1 := uJ8 (.pointer (some ⟨pe.q, 0, none⟩))
      have ha2 := yJ6 (.pointer (some ⟨pe.q, 0, none⟩))
      have ha3 := yJ4 (.pointer (some ⟨pe.q, 0, none⟩))
      have hm1 := fun w' => vJr w' pe.q
      have hm2 := fun w' => wJ6 w' pe.q
      have hm3 := fun w' => wJ5 w' pe.q
      rcases kind3 (zJ1 HF) hxe with hk | hk | hk
      ·have et : kindT xe.m.kind = 126 := by rw [hk]; rfl
       rw [et]
       rw [hk] at hwk
       cases tl with
       | false =>
        obtain ⟨rfl, rfl⟩ : rn = en /\ re = 0 := by
         rw [if_neg (by simp)] at hwk
         injection hwk with a b
         exact ⟨a.symm, b.symm⟩
        clear et hk hwk ea hxe hpe hbe
        go_wp2_with fail
        refine (zJx _ _).mono ?_
        rintro e w5 ⟨rfl, rfl⟩
        go_wp2_with fail
        go_ret2
        exact ⟨rfl, zJ1 Hb4⟩
       | true =>
        obtain ⟨rfl, rfl⟩ : rn = 0 /\ re = 8 := by
         rw [if_pos (by simp)] at hwk
         injection hwk with a b
         exact ⟨a.symm, b.symm⟩
        clear et hk hwk ea hxe hpe hbe
        go_wp2_with fail
        go_ret2
        exact ⟨rfl, zJ1 Hb4⟩
      ·have et : kindT xe.m.kind = 68 := by rw [hk]; rfl
       rw [et]
       obtain ⟨rfl, rfl⟩ : rn = en /\ re = 0 := by
        rw [if_neg (by simp [hk])] at hwk
        injection hwk with a b
        exact ⟨a.symm, b.symm⟩
       clear et hk hwk ea hxe hpe hbe
       cases tl
       all_goals
        go_wp2_with fail
        refine (zJx _ _).mono ?_
        rintro e w5 ⟨rfl, rfl⟩
        go_wp2_with fail
        go_ret2
        exact ⟨rfl, zJ1 Hb4⟩
      ·have et : kindT xe.m.kind = 129 := by rw [hk]; rfl
       rw [et]
       rw [hk] at hwk
       cases tl with
       | false =>
        obtain ⟨rfl, rfl⟩ : rn = en /\ re = 0 := by
         rw [if_neg (by simp)] at hwk
         injection hwk with a b
         exact ⟨a.symm, b.symm⟩
        clear et hk hwk ea hxe hpe hbe
        go_wp2_with fail
        refine (zJx _ _).mono ?_
        rintro e w5 ⟨rfl, rfl⟩
        go_wp2_with fail
        go_ret2
        exact ⟨rfl, zJ1 Hb4⟩
       | true =>
        obtain ⟨rfl, rfl⟩ : rn = 0 /\ re = 8 := by
         rw [if_pos (by simp)] at hwk
         injection hwk with a b
         exact ⟨a.symm, b.symm⟩
        clear et hk hwk ea hxe hpe hbe
        go_wp2_with fail
        go_ret2
        exact ⟨rfl, zJ1 Hb4⟩
     ·obtain ⟨rfl, rfl⟩ : rn = 0 /\ re = ee := by
       have := zJ1 Hwk2
       rw [if_pos he] at this
       injection this with a b
       exact ⟨a.symm, b.symm⟩
      have q1 : (re != 0) = true := by simp [he]
      clear he
      go_wp2_with fail
      go_ret2
      exact ⟨rfl, zJ1 Hb4⟩
  ·obtain ⟨rfl, rfl⟩ : rn = 0 /\ re = ck := by
    have := zJ1 Hwk
    rw [if_pos hck] at this
    injection this with a b
    exact ⟨a.symm, b.symm⟩
   have i1 : (re != 0) = true := by simp [hck]
   clear hck
   go_wp2_with fail
   go_ret2
   exact ⟨rfl, zJ1 Hb2⟩
end Go.Proofs.YtiiiblmhlhikkaaGreatDoor
