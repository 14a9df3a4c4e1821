/- Texts of the claim LawCloManyCard (CloneB, Vfs14, Vfs15, Vfs15b, Read, Vfs16, Flds, Vfs17, CloAnc, AppG, Que, Held2, CloQ): what the functions that the statement reaches compute, and plain laws of it. Conditions: those that each theorem states. -/
import Derived.Test.YtiiiblmhlhikkaaGreatDoorCbK1
import Derived.Lib.SliceRun
import Derived.Test.YtiiiblmhlhikkaaGreatDoorCbK4
import Derived.Test.YtiiiblmhlhikkaaGreatDoorCbK2
import Derived.ChangeSlices
import Derived.SliceStrings
import Derived.OpenShut
import Derived.StillTailTactics
import Derived.Deep.Slices
import Derived.Lib.SmallJoins
import Derived.Deep.LoopGhost
import Derived.ArgAppend
import Derived.Deep.Upon
import Derived.Laws.Tables
import Derived.Laws.Rows
import Derived.Laws.CopyOwn
import Derived.Deep.DeepCutAuto
import Derived.Deep.CutBlock
import Derived.Laws.EntriesVeiled
set_option linter.unusedVariables false
set_option linter.unusedSimpArgs false
namespace Go.Proofs.YtiiiblmhlhikkaaGreatDoor
open Go.RowKit
def CloneBE (n : Nat) (xs : List UInt8) (w : World) (e : Ending) (w' : World) : Prop :=
 ∃ A' c', e = .returned (.slice A' n c') /\ w'.ownsRow w.heap.size 5 1 (.slice A' n c') n (bys xs) /\ Below w.heap.size w w'
set_option maxRecDepth 100000 in
set_option maxHeartbeats 1000000 in
theorem uJb (A : Option Addr) (n c B : Nat) (xs : List UInt8) (w : World) (h : Rd w B 1 A n (bys xs)) (hB : B <= w.heap.size) (hn : n <= 4294967296) :
  Calls Tryz.prog 44 #[.slice A n c] w (CloneBE n xs w) := by
 have hl : xs.length = n := by simpa [bys] using h.len1
 have q : ∀ (w : World) (a : Option Addr) (n c n' c' : Nat), (binOp .eql 64 (.slice a n c) (.slice none n' c')).run Tryz.prog w = .ok (.bool a.isNone) w := fun w a n c n' c' => Lib.run_eql_slice_nil w _ _ a n c n' c' Tryz.underlying64
 have H := zJ2 h
 clear h
 cases A with
 | none =>
  have h0 : bys xs = [] := by
   rcases (zJ1 H).2 with h0 | ⟨b, off, h1, _⟩
   ·exact h0
   ·cases h1
  have hx : xs = [] := by simpa [bys] using h0
  subst hx
  simp only [List.length_nil] at hl
  subst hl
  have q1 : (none : Option Addr).isNone = true := rfl
  clear h0 H
  go_enter Tryz.func44, Tryz.ntmps44
  go_wp2_with fail
  go_ret
  exact ⟨none, 0, rfl, World.ownsRow_nil _ _ _ _, Below.refl _ _⟩
 | some a =>
  have q1 : (some a : Option Addr).isNone = false := rfl
  have hm := World.ownsRow_made (e := 5) (size := 1) w #[] 0 (Nat.le_refl _) (Nat.zero_le _) rfl
  have Hm := zJ2 hm
  have hb1 : Below w.heap.size w (w.alloc (.cells #[] 5)) := (Below.refl _ _).alloc (Nat.le_refl _) _
  have Hb1 := zJ2 hb1
  have Hr := zJ2 ((zJ1 H).below (hb1.mono hB))
  clear hm hb1 hl
  go_enter Tryz.func44, Tryz.ntmps44
  go_wp2_with (at_builtin; refine zJe zJy rfl _ _ rfl w.heap.size (.slice (some ⟨w.heap.size, 0, none⟩) 0 0) 0 [] rfl (zJ1 Hm) B (some a) n c _ rfl (zJ1 Hr) (zJm _) (by omega) (zJ1 Hb1).size ?_; intro A4 c4 w4 ho4 hg4 hat4; have hb4 := (zJ1 Hb1).grown hg4 (zJ1 Hb1).size (fun k hk => by simp [Value.ownBlock] at hk; omega); simp only [Nat.zero_add, List.nil_append] at ho4 ⊢; have Ho4 := zJ2 ho4; have Hb4 := zJ2 hb4; clear ho4 hg4 hat4 hb4)
  go_ret
  exact ⟨A4, c4, rfl, zJ1 Ho4, zJ1 Hb4⟩
theorem andn2559 (n : Nat) (h : n < 65536) : (bits .andNot .u16 (n : Int) 2559 != 0) = !decide (n &&& 2559 = n) := by
 have e : (2559 : Int) = ((2559 : Nat) : Int) := rfl
 rw [e, u16_andNot_nat n 2559 h (by omega)]
 have h1 : n &&& 62976 = 0 ↔ n &&& 2559 = n := by
  have hn : n &&& 65535 = n := by
   have := Nat.and_two_pow_sub_one_eq_mod n 16
   simp only [Nat.reducePow, Nat.reduceSub] at this
   rw [this]
   omega
  constructor
  ·intro h0
   have h2 : n &&& (2559 ||| 62976) = (n &&& 2559) ||| (n &&& 62976) := Nat.and_or_distrib_left ..
   rw [h0, Nat.or_zero] at h2
   rw [<- h2]
   exact hn
  ·intro h0
   rw [<- h0, Nat.and_assoc]
   exact Nat.and_zero n
 rw [bne, Bool.not_inj_iff, Bool.eq_iff_iff, beq_iff_eq, decide_eq_true_eq, <- h1]
 have e2 : 65535 - 2559 = 62976 := rfl
 rw [e2]
 omega
def ventC (e : Vf.Ent) (A : Option Addr) (n c : Nat) : List Value := [.string e.path, .int .u8 (e.kind : Nat), .int .u16 (e.mode : Nat), .int .u32 (e.uid : Nat), .int .u32 (e.gid : Nat), .slice A n c, .string e.to]
def entV (e : Vf.Ent) (A : Option Addr) (n c : Nat) : Value := .agg #[.string e.path, .int .u8 (e.kind : Nat), .int .u16 (e.mode : Nat), .int .u32 (e.uid : Nat), .int .u32 (e.gid : Nat), .slice A n c, .string e.to]
def PtVE (x : Vf.Ent) (w : World) (e : Ending) (w' : World) : Prop :=
 ∃ A n c, e = .returned (.tuple #[.slice A n c, .int .i64 (Vf.may x)]) /\ (Vf.may x = 0 -> n = (Pth.partsL x.path).length /\ w'.ownsRow w.heap.size 9 1 (.slice A n c) n ((Pth.partsL x.path).map Value.string)) /\ Below w.heap.size w w'
theorem yJ2 {x : Vf.Ent} {w w' : World} {er : Int} (h : Vf.may x = er) (h0 : er ≠ 0) (hb : Below w.heap.size w w') : PtVE x w (.returned (.tuple #[.slice none 0 0, .int .i64 er])) w' := by
 unfold PtVE
 rw [h]
 exact ⟨none, 0, 0, rfl, fun h1 => absurd h1 h0, hb⟩
theorem contains_dd (A : Option Addr) (n c B : Nat) (l : List ByteArray) (w : World) (hl : Rd w B 1 A n (l.map Value.string)) (hn : n <= maxLen) :
  Calls Tryz.prog 78 #[.slice A n c, .string ⟨#[46, 46]⟩] w fun e w' => e = .returned (.bool (l.any fun x => decide (x = Vf.dd))) /\ w = w' := by
 have hll : l.length = n := by simpa using hl.len1
 unfold maxLen at hn
 rcases hl.2 with h0 | ⟨b, off, rfl, hb, hc⟩
 ·have h1 : l = [] := by simpa using h0
  subst h1
  simp only [List.length_nil] at hll
  subst hll
  refine (vJu (Tryz.slices_Contains_string_empty A c ⟨#[46, 46]⟩ w)).mono ?_
  rintro e w' ⟨rfl, rfl⟩
  exact ⟨rfl, rfl⟩
 ·refine (vJu (Tryz.slices_Contains_string b off n c l ⟨#[46, 46]⟩ w (by omega) (by omega) (fun j hj => ?_))).mono ?_
  ·have := hc j (.string l[j]) (by rw [List.getElem?_map, List.getElem?_eq_getElem hj]; rfl)
   rw [this, List.getD_eq_getElem?_getD, List.getElem?_eq_getElem hj]
   rfl
  ·rintro e w' ⟨rfl, rfl⟩
   refine ⟨yJb ?_, rfl⟩
   rw [List.take_of_length_le (by omega), Bool.eq_iff_iff, List.any_eq_true]
   refine (Lib.containsS_iff l ⟨#[46, 46]⟩).trans ⟨fun h => ⟨_, h, by simp [Vf.dd]⟩, fun ⟨x, hx, h⟩ => ?_⟩
   rw [decide_eq_true_eq] at h
   rw [h] at hx
   exact hx
set_option maxRecDepth 100000 in
set_option maxHeartbeats 4000000 in
theorem partsV_any (x : Vf.Ent) (A : Option Addr) (n c : Nat) (w : World) (hd : x.data.length = n) (hn : n <= 4294967296) (hps : x.path.size <= 4294967296) (hto : x.to.size <= 4294967296) (hmd : x.mode < 65536) :
  Calls Tryz.prog 42 #[entV x A n c] w (PtVE x w) := by
 have hb0 : Below w.heap.size w (w.alloc (.cells (ventC x A n c).toArray 66)) := (Below.refl _ _).alloc (Nat.le_refl _) _
 have hbk : Blk (w.alloc (.cells (ventC x A n c).toArray 66)) w.heap.size 66 (ventC x A n c) := Blk.new w 66 _
 have KP := zJ2 (vJ8 x.path (by unfold maxLen; omega) (w.alloc (.cells (ventC x A n c).toArray 66)))
 have KT := zJ2 (fun w' => wJo x.path (by omega) w')
 have KK := zJ2 (fun w' => vJn x.to (by unfold maxLen; omega) w')
 have hand := andn2559 x.mode hmd
 have hmay : Vf.may x = if ¬ (1 <= x.kind /\ x.kind <= 3) \/ x.mode &&& 2559 ≠ x.mode then 1
  else if Pth.chk x.path ≠ 0 \/ Pth.rootB x.path = false \/ (Pth.partsL x.path).isEmpty = true \/ Pth.tailB x.path = true \/ (Pth.partsL x.path).any (fun y => decide (y = Vf.dd)) = true then 1
  else if (x.kind ≠ 1 /\ x.data ≠ []) \/ (x.kind ≠ 3 /\ x.to.size ≠ 0) \/ (x.kind = 3 /\ Pth.chk x.to ≠ 0) then 1
  else if 65536 < x.data.length then 12 else 0 := rfl
 have hdn : x.data ≠ [] ↔ 0 < n := by rw [<- hd, List.length_pos_iff]
 simp only [hdn] at hmay
 rw [hd] at hmay
 have hpl2 := Vf.parts_len x.path
 obtain ⟨ck, hck⟩ : ∃ b, Pth.chk x.path = b := ⟨_, rfl⟩
 obtain ⟨tb, htb⟩ : ∃ b, Pth.rootB x.path = b := ⟨_, rfl⟩
 obtain ⟨pl, hpl⟩ : ∃ l, Pth.partsL x.path = l := ⟨_, rfl⟩
 obtain ⟨tl, htl⟩ : ∃ b, Pth.tailB x.path = b := ⟨_, rfl⟩
 obtain ⟨ct, hct⟩ : ∃ b, Pth.chk x.to = b := ⟨_, rfl⟩
 obtain ⟨dd, hdd⟩ : ∃ b, (pl.any fun y => decide (y = Vf.dd)) = b := ⟨_, rfl⟩
 obtain ⟨np, hnp⟩ : ∃ n, pl.length = n := ⟨_, rfl⟩
 have hpe : pl.isEmpty = true ↔ np = 0 := by rw [<- hnp, List.isEmpty_iff_length_eq_zero]
 simp only [hck, htb, hpl, htl, hct, hdd, hpe] at hmay
 rw [hck, htb, hpl, hnp] at KP
 rw [htl] at KT
 rw [hct] at KK
 rw [hpl, hnp] at hpl2
 have Hmay := zJ2 hmay
 have Hb0 := zJ2 hb0
 have Hbk := zJ2 hbk
 have Hpl := zJ2 hpl
 have Hnp := zJ2 hnp
 have Hdd := zJ2 hdd
 have hemp : x.to.toList.isEmpty = decide (x.to.size = 0) := zJl x.to
 unfold entV
 unfold ventC at KP
 clear hmay hd hdn hpl hck htb htl hct hdd hpe hnp hb0 hbk hps hto
 go_enter Tryz.func42, Tryz.ntmps42
 go_wp2_with fail
 refine (zJ1 KP).mono ?_
 rintro e w1 ⟨A1, c1, rfl, ho1, hb1⟩
 have hbk1 := (zJ1 Hbk).belowSz hb1
 obtain ⟨v0, v1, v2, v3, v4, v5, v6⟩ : w1.cell? ⟨w.heap.size, 0, none⟩ = some (.string x.path) /\ w1.cell? ⟨w.heap.size, 1, none⟩ = some (.int .u8 (x.kind : Nat)) /\ w1.cell? ⟨w.heap.size, 2, none⟩ = some (.int .u16 (x.mode : Nat)) /\ w1.cell? ⟨w.heap.size, 3, none⟩ = some (.int .u32 (x.uid : Nat)) /\ w1.cell? ⟨w.heap.size, 4, none⟩ = some (.int .u32 (x.gid : Nat)) /\ w1.cell? ⟨w.heap.size, 5, none⟩ = some (.slice A n c) /\ w1.cell? ⟨w.heap.size, 6, none⟩ = some (.string x.to) := ⟨hbk1.cell rfl, hbk1.cell rfl, hbk1.cell rfl, hbk1.cell rfl, hbk1.cell rfl, hbk1.cell rfl, hbk1.cell rfl⟩
 have Hb1 := zJ2 ((zJ1 Hb0).trans (hb1.mono (by simp)))
 have KC := contains_dd A1 np c1 w1.heap.size pl w1 (Rd.of_own ho1) (by unfold maxLen; omega)
 rw [zJ1 Hdd] at KC
 have hlt1 : w.heap.size < w1.heap.size := hbk1.lt
 have Ho1 := zJ2 ho1
 have HKC := zJ2 KC
 clear hb1 ho1 hbk1 KC KP Hbk
 by_cases k1 : (x.kind : Int) < 1
 ·have hm : Vf.may x = 1 := by rw [zJ1 Hmay, if_pos (.inl (by omega))]
  have Hm := zJ2 hm
  clear hm hand hemp
  go_wp2_with fail
  go_ret2
  exact yJ2 (zJ1 Hm) (by decide) (zJ1 Hb1)
 by_cases k2 : (3 : Int) < (x.kind : Int)
 ·have hm : Vf.may x = 1 := by rw [zJ1 Hmay, if_pos (.inl (by omega))]
  have Hm := zJ2 hm
  clear hm hand hemp
  go_wp2_with fail
  go_ret2
  exact yJ2 (zJ1 Hm) (by decide) (zJ1 Hb1)
 by_cases k3 : x.mode &&& 2559 = x.mode
 case neg =>
  have hm : Vf.may x = 1 := by rw [zJ1 Hmay, if_pos (.inr k3)]
  rw [decide_eq_false k3] at hand
  have Hm := zJ2 hm
  clear hm k3 hemp
  go_wp2_with fail
  go_ret2
  exact yJ2 (zJ1 Hm) (by decide) (zJ1 Hb1)
 rw [decide_eq_true k3] at hand
 have hmay2 := zJ1 Hmay
 rw [if_neg (by rintro (h | h); exact h (by omega); exact h k3)] at hmay2
 clear k3 Hmay
 by_cases k4 : ck = 0
 case neg =>
  have hm : Vf.may x = 1 := by rw [hmay2, if_pos (.inl k4)]
  have b4 : (ck != 0) = true := by simp [k4]
  have Hm := zJ2 hm
  clear hm k4 hemp hmay2
  go_wp2_with fail
  go_ret2
  exact yJ2 (zJ1 Hm) (by decide) (zJ1 Hb1)
 subst k4
 have b4 : ((0 : Int) != 0) = false := rfl
 cases tb with
 | false =>
  have hm : Vf.may x = 1 := by rw [hmay2, if_pos (.inr (.inl rfl))]
  have Hm := zJ2 hm
  clear hm hemp hmay2
  go_wp2_with fail
  go_ret2
  exact yJ2 (zJ1 Hm) (by decide) (zJ1 Hb1)
 | true =>
 by_cases k5 : np = 0
 ·have hm : Vf.may x = 1 := by rw [hmay2, if_pos (.inr (.inr (.inl k5)))]
  have b5 : ((np : Int) == 0) = true := by rw [k5]; rfl
  have Hm := zJ2 hm
  clear hm hemp hmay2 k5
  go_wp2_with fail
  go_ret2
  exact yJ2 (zJ1 Hm) (by decide) (zJ1 Hb1)
 have b5 : ((np : Int) == 0) = false := by rw [beq_eq_false_iff_ne]; omega
 cases tl with
 | true =>
  have hm : Vf.may x = 1 := by rw [hmay2, if_pos (.inr (.inr (.inr (.inl rfl))))]
  have Hm := zJ2 hm
  clear hm hemp hmay2 k5
  go_wp2_with (go_at_call 64; refine ((zJ1 KT) _).mono ?_; rintro e w2 ⟨rfl, rfl⟩)
  go_ret2
  exact yJ2 (zJ1 Hm) (by decide) (zJ1 Hb1)
 | false =>
 cases dd with
 | true =>
  have hm : Vf.may x = 1 := by rw [hmay2, if_pos (.inr (.inr (.inr (.inr rfl))))]
  have Hm := zJ2 hm
  clear hm hemp hmay2 k5
  go_wp2_with (first | (go_at_call 64; refine ((zJ1 KT) _).mono ?_; rintro e w2 ⟨rfl, rfl⟩) | (go_at_call 78; refine (zJ1 HKC).mono ?_; rintro e w2 ⟨rfl, rfl⟩))
  go_ret2
  exact yJ2 (zJ1 Hm) (by decide) (zJ1 Hb1)
 | false =>
 rw [if_neg (by simp [k5])] at hmay2
 have Hmay2 := zJ2 hmay2
 clear hmay2 k5
 by_cases k6 : x.kind ≠ 1 /\ 0 < n
 ·have hm : Vf.may x = 1 := by rw [zJ1 Hmay2, if_pos (.inl k6)]
  have b6 : ((x.kind : Int) != 1) = true := by simp; omega
  have b7 : (0 : Int) < (n : Int) := by omega
  have Hm := zJ2 hm
  clear hm hemp k6
  go_wp2_with (first | (go_at_call 64; refine ((zJ1 KT) _).mono ?_; rintro e w2 ⟨rfl, rfl⟩) | (go_at_call 78; refine (zJ1 HKC).mono ?_; rintro e w2 ⟨rfl, rfl⟩))
  go_ret2
  exact yJ2 (zJ1 Hm) (by decide) (zJ1 Hb1)
 have i0 : ¬ (0 : Int) < (n : Int) \/ x.kind = 1 := by omega
 rcases (show x.kind = 1 \/ x.kind = 2 \/ x.kind = 3 by omega) with hk | hk | hk
 ·have q1 : ((x.kind : Int) != 1) = false := by rw [hk]; rfl
  have q3 : ((x.kind : Int) != 3) = true := by rw [hk]; rfl
  have q4 : ((x.kind : Int) == 3) = false := by rw [hk]; rfl
  clear i0
  by_cases k8 : x.to.size = 0
  ·rw [decide_eq_true k8] at hemp
   have hto2 : x.to.toList = [] := List.isEmpty_iff.1 hemp
   have hn1 : ¬ ((x.kind ≠ 1 /\ 0 < n) \/ (x.kind ≠ 3 /\ x.to.size ≠ 0) \/ (x.kind = 3 /\ ct ≠ 0)) := by omega
   have Hn1 := zJ2 hn1
   clear hn1 k8 k6 hk
   by_cases k9 : 65536 < n
   ·have hm : Vf.may x = 12 := by rw [zJ1 Hmay2, if_neg (zJ1 Hn1), if_pos k9]
    have b9 : (65536 : Int) < (n : Int) := by omega
    have Hm := zJ2 hm
    clear hm k9
    go_wp2_with (first | (go_at_call 64; refine ((zJ1 KT) _).mono ?_; rintro e w2 ⟨rfl, rfl⟩) | (go_at_call 78; refine (zJ1 HKC).mono ?_; rintro e w2 ⟨rfl, rfl⟩))
    go_ret2
    exact yJ2 (zJ1 Hm) (by decide) (zJ1 Hb1)
   ·have hm : Vf.may x = 0 := by rw [zJ1 Hmay2, if_neg (zJ1 Hn1), if_neg k9]
    have b9 : ¬ (65536 : Int) < (n : Int) := by omega
    have Hm := zJ2 hm
    clear hm k9
    go_wp2_with (first | (go_at_call 64; refine ((zJ1 KT) _).mono ?_; rintro e w2 ⟨rfl, rfl⟩) | (go_at_call 78; refine (zJ1 HKC).mono ?_; rintro e w2 ⟨rfl, rfl⟩))
    go_ret2
    unfold PtVE
    rw [zJ1 Hm, zJ1 Hpl, zJ1 Hnp]
    exact ⟨A1, np, c1, rfl, fun _ => ⟨rfl, zJd (zJ1 Ho1) (by simp)⟩, (zJ1 Hb1)⟩
  ·rw [decide_eq_false k8] at hemp
   have hto2 : ¬ x.to.toList = [] := fun h => by rw [h] at hemp; cases hemp
   have hm : Vf.may x = 1 := by rw [zJ1 Hmay2, if_pos (.inr (.inl ⟨by omega, k8⟩))]
   have Hm := zJ2 hm
   clear hm k8 k6 hk
   go_wp2_with (first | (go_at_call 64; refine ((zJ1 KT) _).mono ?_; rintro e w2 ⟨rfl, rfl⟩) | (go_at_call 78; refine (zJ1 HKC).mono ?_; rintro e w2 ⟨rfl, rfl⟩))
   go_ret2
   exact yJ2 (zJ1 Hm) (by decide) (zJ1 Hb1)
 ·have q1 : ((x.kind : Int) != 1) = true := by rw [hk]; rfl
  have q3 : ((x.kind : Int) != 3) = true := by rw [hk]; rfl
  have q4 : ((x.kind : Int) == 3) = false := by rw [hk]; rfl
  have i1 : ¬ (0 : Int) < (n : Int) := by omega
  clear i0
  by_cases k8 : x.to.size = 0
  ·rw [decide_eq_true k8] at hemp
   have hto2 : x.to.toList = [] := List.isEmpty_iff.1 hemp
   have hn1 : ¬ ((x.kind ≠ 1 /\ 0 < n) \/ (x.kind ≠ 3 /\ x.to.size ≠ 0) \/ (x.kind = 3 /\ ct ≠ 0)) := by omega
   have Hn1 := zJ2 hn1
   clear hn1 k8 k6 hk
   by_cases k9 : 65536 < n
   ·exact absurd k9 (by omega)
   ·have hm : Vf.may x = 0 := by rw [zJ1 Hmay2, if_neg (zJ1 Hn1), if_neg k9]
    have b9 : ¬ (65536 : Int) < (n : Int) := by omega
    have Hm := zJ2 hm
    clear hm k9
    go_wp2_with (first | (go_at_call 64; refine ((zJ1 KT) _).mono ?_; rintro e w2 ⟨rfl, rfl⟩) | (go_at_call 78; refine (zJ1 HKC).mono ?_; rintro e w2 ⟨rfl, rfl⟩))
    go_ret2
    unfold PtVE
    rw [zJ1 Hm, zJ1 Hpl, zJ1 Hnp]
    exact ⟨A1, np, c1, rfl, fun _ => ⟨rfl, zJd (zJ1 Ho1) (by simp)⟩, (zJ1 Hb1)⟩
  ·rw [decide_eq_false k8] at hemp
   have hto2 : ¬ x.to.toList = [] := fun h => by rw [h] at hemp; cases hemp
   have hm : Vf.may x = 1 := by rw [zJ1 Hmay2, if_pos (.inr (.inl ⟨by omega, k8⟩))]
   have Hm := zJ2 hm
   clear hm k8 k6 hk
   go_wp2_with (first | (go_at_call 64; refine ((zJ1 KT) _).mono ?_; rintro e w2 ⟨rfl, rfl⟩) | (go_at_call 78; refine (zJ1 HKC).mono ?_; rintro e w2 ⟨rfl, rfl⟩))
   go_ret2
   exact yJ2 (zJ1 Hm) (by decide) (zJ1 Hb1)
 ·have q1 : ((x.kind : Int) != 1) = true := by rw [hk]; rfl
  have q3 : ((x.kind : Int) != 3) = false := by rw [hk]; rfl
  have q4 : ((x.kind : Int) == 3) = true := by rw [hk]; rfl
  have i1 : ¬ (0 : Int) < (n : Int) := by omega
  clear i0 hemp
  by_cases k8 : ct = 0
  ·have hn1 : ¬ ((x.kind ≠ 1 /\ 0 < n) \/ (x.kind ≠ 3 /\ x.to.size ≠ 0) \/ (x.kind = 3 /\ ct ≠ 0)) := by omega
   subst k8
   have q8 : ((0 : Int) != 0) = false := rfl
   have Hn1 := zJ2 hn1
   clear hn1 k6 hk
   by_cases k9 : 65536 < n
   ·exact absurd k9 (by omega)
   ·have hm : Vf.may x = 0 := by rw [zJ1 Hmay2, if_neg (zJ1 Hn1), if_neg k9]
    have b9 : ¬ (65536 : Int) < (n : Int) := by omega
    have Hm := zJ2 hm
    clear hm k9
    go_wp2_with (first | (go_at_call 64; refine ((zJ1 KT) _).mono ?_; rintro e w2 ⟨rfl, rfl⟩) | (go_at_call 78; refine (zJ1 HKC).mono ?_; rintro e w2 ⟨rfl, rfl⟩) | (go_at_call 79; refine ((zJ1 KK) _).mono ?_; rintro e w2 ⟨rfl, hb3⟩; have v5b := (hb3.cell (p := ⟨w.heap.size, 5, none⟩) hlt1).trans v5; have Hb3 := zJ2 hb3; clear hb3))
    go_ret2
    unfold PtVE
    rw [zJ1 Hm, zJ1 Hpl, zJ1 Hnp]
    exact ⟨A1, np, c1, rfl, fun _ => ⟨rfl, zJd (own_below (zJ1 Ho1) (zJ1 Hb3)) (by simp)⟩, ((zJ1 Hb1).trans ((zJ1 Hb3).mono (zJ1 Hb1).size))⟩
  ·have q8 : (ct != 0) = true := by simp [k8]
   have hm : Vf.may x = 1 := by rw [zJ1 Hmay2, if_pos (.inr (.inr ⟨hk, k8⟩))]
   have Hm := zJ2 hm
   clear hm k8 k6 hk
   go_wp2_with (first | (go_at_call 64; refine ((zJ1 KT) _).mono ?_; rintro e w2 ⟨rfl, rfl⟩) | (go_at_call 78; refine (zJ1 HKC).mono ?_; rintro e w2 ⟨rfl, rfl⟩) | (go_at_call 79; refine ((zJ1 KK) _).mono ?_; rintro e w2 ⟨rfl, hb3⟩; have v5b := (hb3.cell (p := ⟨w.heap.size, 5, none⟩) hlt1).trans v5; have Hb3 := zJ2 hb3; clear hb3))
   go_ret2
   exact yJ2 (zJ1 Hm) (by decide) ((zJ1 Hb1).trans ((zJ1 Hb3).mono (zJ1 Hb1).size))
theorem kids_snoc {F : List Vf.Nd} {L : List Pl} (hl : L.length = F.length) (h0 : 0 < F.length) (x : Vf.Nd) (p : Pl) (d : Nat) :
  kidsM (F ++ [x]) (L ++ [p]) d = kidsM F L d ++ (if x.up = d then [(.string x.name, ndV x p)] else []) := by
 unfold kidsM
 rw [List.zip_append hl.symm, List.drop_append_of_le_length (by rw [List.length_zip]; omega), List.filterMap_append]
 congr 1
 by_cases h : x.up = d
 ·simp [h]
 ·simp [h]
theorem kids_new {F : List Vf.Nd} {L : List Pl} (hF : Vf.Good F) : kidsM F L F.length = [] := by
 apply List.eq_nil_iff_forall_not_mem.2
 intro e he
 obtain ⟨i, x, p, h1, hz, hu, rfl⟩ := kids_mem.1 he
 have hx := (zip_at hz).1
 have := (hF.up i x hx h1).1
 have := (List.getElem?_eq_some_iff.1 hx).1
 omega
theorem snoc_at {α : Type} {l : List α} {a y : α} {i : Nat} (h : (l ++ [a])[i]? = some y) : (i < l.length /\ l[i]? = some y) \/ (i = l.length /\ y = a) := by
 by_cases hi : i < l.length
 ·rw [List.getElem?_append_left hi] at h
  exact .inl ⟨hi, h⟩
 ·rw [List.getElem?_append_right (by omega)] at h
  have h0 : i - l.length = 0 := by
   have := (List.getElem?_eq_some_iff.1 h).1
   simp at this
   omega
  rw [h0] at h
  exact .inr ⟨by omega, by simpa using h.symm⟩
theorem vJ4 {w : World} {base n c k : Nat} {e : TypeId} {A : Option Addr} {xs : List Value} (h : w.ownsRow base e 1 (.slice A n c) n xs) (hk : (Value.slice A n c).ownBlock = some k) : ∃ cs, w.heap[k]? = some (.cells cs e (0, 0)) := by
 rcases h.2 with ⟨h1, h2⟩ | ⟨g, cap, cur, hv, hbg, hh, hcap⟩
 ·rw [h1] at hk; cases hk
 ·rw [hv] at hk
  have : g = k := by simpa [Value.ownBlock] using hk
  exact ⟨cur, this ▸ hh⟩
section
variable {w w' : World} {lo f c : Nat} {A : Option Addr} {F : List Vf.Nd} {L : List Pl}
theorem FsM.addNd (h : FsM w lo f A c F L) (hF : Vf.Good F) (x : Vf.Nd) (p : Pl) (xu : Vf.Nd) (pu : Pl) (hxu : F[x.up]? = some xu) (hpu : L[x.up]? = some pu) (hku : xu.m.kind = 2) (A' : Option Addr) (c' : Nat)
  (hrow : w'.ownsRow lo 123 1 (.slice A' (F.length + 1) c') (F.length + 1) ((F.zip L).map (fun y => ndV y.1 y.2) ++ [ndV x p]))
  (hfs : Blk w' f 78 [.slice A' (F.length + 1) c'])
  (hmap : MapG w' pu.g .string (kidsM F L x.up ++ [(.string x.name, ndV x p)]))
  (hk : ∀ k, lo <= k -> k < w.heap.size -> k ≠ f -> k ≠ pu.g -> (Value.slice A F.length c).ownBlock ≠ some k -> w'.heap[k]? = w.heap[k]?)
  (hq : lo <= p.q) (hnd : Blk w' p.q (blkT x.m.kind) (ndC x F.length pu.q p))
  (hby : x.m.kind = 1 -> p.n = x.data.length /\ p.n <= p.c /\ RdI w' lo 5 1 p.A p.n (x.data.map fun b => Value.int .u8 (b.toNat : Nat)))
  (hdm : x.m.kind = 2 -> lo <= p.g /\ w.heap.size <= p.g /\ MapG w' p.g .string []) : FsM w' lo f A' c' (F ++ [x]) (L ++ [p]) := by
 have hpos := Vf.good_pos hF
 have hul : x.up < F.length := (List.getElem?_eq_some_iff.1 hxu).1
 have hgu := (h.map x.up xu pu hxu hpu hku).2
 obtain ⟨esu, clku, hmu, _⟩ := hgu.there
 have hcells : ∀ k cs t fz, lo <= k -> w.heap[k]? = some (.cells cs t fz) -> t ≠ 78 -> t ≠ 123 -> w'.heap[k]? = w.heap[k]? := by
  intro k cs t fz hlo hb h1 h2
  refine hk k hlo (Array.getElem?_eq_some_iff.1 hb).1 ?_ ?_ ?_
  ·rintro rfl
   have := h.fs
   unfold Blk at this
   rw [hb] at this
   injection this with this
   injection this with _ h3
   exact h1 h3
  ·rintro rfl
   rw [hb] at hmu
   cases hmu
  ·intro e
   obtain ⟨cs2, h3⟩ := vJ4 h.row e
   rw [hb] at h3
   injection h3 with h3
   injection h3 with _ h4
   exact h2 h4
 have hbt : ∀ k, blkT k ≠ 78 /\ blkT k ≠ 123 := by
  intro k
  unfold blkT
  split
  ·exact ⟨by decide, by decide⟩
  ·split
   ·exact ⟨by decide, by decide⟩
   ·exact ⟨by decide, by decide⟩
 have hL : ∀ {i : Nat} {y : Vf.Nd} {r : Pl}, (F ++ [x])[i]? = some y -> (L ++ [p])[i]? = some r -> (i < F.length /\ F[i]? = some y /\ L[i]? = some r) \/ (i = F.length /\ y = x /\ r = p) := by
  intro i y r h1 h2
  have hll := h.len
  rcases snoc_at h1 with ⟨a1, a2⟩ | ⟨a1, a2⟩
  ·rcases snoc_at h2 with ⟨b1, b2⟩ | ⟨b1, b2⟩
   ·exact .inl ⟨a1, a2, b2⟩
   ·omega
  ·rcases snoc_at h2 with ⟨b1, b2⟩ | ⟨b1, b2⟩
   ·omega
   ·exact .inr ⟨a1, a2, b2⟩
 have hup : ∀ {j : Nat} {r : Pl}, L[j]? = some r -> (L ++ [p])[j]? = some r := fun hr => by
  rw [List.getElem?_append_left (List.getElem?_eq_some_iff.1 hr).1]
  exact hr
 refine ⟨?_, h.lf, ?_, ?_, ?_, ?_, ?_, ?_⟩
 ·rw [List.length_append, List.length_append, h.len]; rfl
 ·rw [List.length_append]; exact hfs
 ·rw [List.length_append, List.zip_append h.len.symm, List.map_append]; exact hrow
 ·intro i y r h1 h2
  rcases hL h1 h2 with ⟨hi, h1, h2⟩ | ⟨rfl, rfl, rfl⟩
  ·obtain ⟨a, u, b, d⟩ := h.nd i y r h1 h2
   refine ⟨a, u, hup b, ?_⟩
   unfold Blk
   rw [hcells r.q _ _ _ a d (hbt _).1 (hbt _).2]
   exact d
  ·exact ⟨hq, pu, hup hpu, hnd⟩
 ·intro i y r h1 h2 h3
  rcases hL h1 h2 with ⟨hi, h1, h2⟩ | ⟨rfl, rfl, rfl⟩
  ·obtain ⟨a, b, d⟩ := h.byt i y r h1 h2 h3
   refine ⟨a, b, d.keep fun k o hlo ho ⟨cs, fz, e⟩ => ?_⟩
   subst e
   rw [hcells k _ _ _ hlo ho (by decide) (by decide)]
   exact ho
  ·exact hby h3
 ·intro i y r h1 h2 h3
  rcases hL h1 h2 with ⟨hi, h1, h2⟩ | ⟨rfl, rfl, rfl⟩
  ·obtain ⟨a, b⟩ := h.map i y r h1 h2 h3
   refine ⟨a, ?_⟩
   rw [kids_snoc h.len hpos]
   by_cases hiu : x.up = i
   ·subst hiu
    have e1 : r = pu := Option.some.inj (h2.symm.trans hpu)
    subst e1
    rw [if_pos rfl]
    exact hmap
   ·rw [if_neg hiu, List.append_nil]
    obtain ⟨es, clk, hm, _⟩ := b.there
    refine b.keep (hk r.g a b.lt ?_ ?_ ?_)
    ·rintro rfl
     have := h.fs
     unfold Blk at this
     rw [hm] at this
     cases this
    ·intro e
     exact hiu (h.one i x.up y xu r pu h1 hxu h2 hpu h3 hku e).symm
    ·intro e
     obtain ⟨cs2, h4⟩ := vJ4 h.row e
     rw [hm] at h4
     cases h4
  ·obtain ⟨a, _, b⟩ := hdm h3
   refine ⟨a, ?_⟩
   rw [kids_snoc h.len hpos, kids_new hF, if_neg (by omega)]
   exact b
 ·intro i j y z r s h1 h2 h3 h4 h5 h6 e
  rcases hL h1 h3 with ⟨hi, a1, a3⟩ | ⟨ei, ey, er⟩
  ·rcases hL h2 h4 with ⟨hj, a2, a4⟩ | ⟨ej, ez, es⟩
   ·exact h.one i j y z r s a1 a2 a3 a4 h5 h6 e
   ·have := (h.map i y r a1 a3 h5).2.lt
    subst ez es
    have := (hdm h6).2.1
    omega
  ·rcases hL h2 h4 with ⟨hj, a2, a4⟩ | ⟨ej, ez, es⟩
   ·have := (h.map j z s a2 a4 h6).2.lt
    subst ey er
    have := (hdm h5).2.1
    omega
   ·omega
end
theorem xJc {P : Program} {t kt e : TypeId} {d : TypeDesc} {w : World} {g : Nat} {m : List (Value × Value)} {x v : Value} {ops : Array Oper} {rest : List Oper} {o : Oper} {a : Act} {Q : Exit -> Act -> World -> Prop} (hgd : o.guard = none) (mo xo vo : Operand) (ho : o.op = .mapUpdate t mo xo vo)
  (ht : P.underlying t = some (.map kt e)) (hk : P.underlying kt = some d) (hik : Go.MapKept.IsKey d x) (hmo : a.eval mo = .map (some g)) (hxo : a.eval xo = x) (hvo : a.eval vo = v) (h : MapG w g d m) (hx : ∀ p ∈ m, p.1 ≠ x)
  (hK : ∀ w', MapG w' g d (m ++ [(x, v)]) -> w.grownBy w' (some g) -> w'.heap.size = w.heap.size -> wpList P ops Q rest (a.put o.dst undef) w') : wpList P ops Q (o :: rest) a w := by
 obtain ⟨w', hrun, h1, h2, h3⟩ := run_putG (v := v) ht hk hik h hx
 refine wpList_plain hgd fun K hK' => ?_
 unfold Oper.wp
 simp [execOp, ho, hmo, hxo, hvo, hrun, Result.andThen]
 exact hK' _ _ (hK w' h1 h2 h3)
open Go.RowKit
theorem wJ3 {W W' : World} {base n : Nat} {e : TypeId} {u : Value} {xs : List Value} (h : W.ownsRow base e 1 u n xs) (hk : ∀ g, u.ownBlock = some g -> W'.heap[g]? = W.heap[g]?) : W'.ownsRow base e 1 u n xs :=
 ⟨h.1, h.2.imp id fun ⟨g, cap, cur, e1, e2, e3, r⟩ => ⟨g, cap, cur, e1, e2, (hk g (by rw [e1]; rfl)).trans e3, r⟩⟩
section
variable {w1 V V2 V3 : World} {lo f c : Nat} {A : Option Addr} {F : List Vf.Nd} {L : List Pl}
theorem FsM.fOwn (h : FsM w1 lo f A c F L) : (Value.slice A F.length c).ownBlock ≠ some f := by
 intro e
 obtain ⟨cs, h1⟩ := vJ4 h.row e
 have h2 := h.fs
 unfold Blk at h2
 rw [h1] at h2
 injection h2 with h2
 injection h2 with _ h3
 exact absurd h3 (by decide)
theorem FsM.fMap (h : FsM w1 lo f A c F L) {g : Nat} {m : List (Value × Value)} (hm : MapG w1 g .string m) : f ≠ g := by
 rintro rfl
 obtain ⟨es, clk, h1, _⟩ := hm.there
 have h2 := h.fs
 unfold Blk at h2
 rw [h1] at h2
 cases h2
theorem FsM.ownMap (h : FsM w1 lo f A c F L) {g : Nat} {m : List (Value × Value)} (hm : MapG w1 g .string m) : (Value.slice A F.length c).ownBlock ≠ some g := by
 intro e
 obtain ⟨cs, h1⟩ := vJ4 h.row e
 obtain ⟨es, clk, h2, _⟩ := hm.there
 rw [h1] at h2
 cases h2
theorem FsM.addF (h : FsM w1 lo f A c F L) {xu : Vf.Nd} {pu : Pl} {up : Nat} (hxu : F[up]? = some xu) (hpu : L[up]? = some pu) (hku : xu.m.kind = 2) (hb : Below w1.heap.size w1 V) (hg2 : V.grownBy V2 (some pu.g)) :
  Blk V2 f 78 [.slice A F.length c] /\ V2.ownsRow lo 123 1 (.slice A F.length c) F.length ((F.zip L).map fun y => ndV y.1 y.2) /\ w1.heap.size <= V2.heap.size /\ ∀ V3 : World, V2.grownBy V3 (Value.slice A F.length c).ownBlock -> Blk V3 f 78 [.slice A F.length c] := by
 have hm := (h.map up xu pu hxu hpu hku).2
 have hkp : ∀ k, k < w1.heap.size -> k ≠ pu.g -> V2.heap[k]? = w1.heap[k]? := fun k hk hne => (hg2.block k (Nat.lt_of_lt_of_le hk hb.size) (fun e => hne (by injection e))).trans (hb.block k hk)
 have h2 : Blk V2 f 78 [.slice A F.length c] := (hkp f h.fs.lt (h.fMap hm)).trans h.fs
 refine ⟨h2, ?_, Nat.le_trans hb.size hg2.size, fun V3 hg3 => (hg3.block f h2.lt (fun e => h.fOwn e.symm)).trans h2⟩
 refine wJ3 h.row (fun g hg => hkp g (h.row.lt g hg).2 ?_)
 rintro rfl
 exact h.ownMap hm hg
theorem FsM.addFin (h : FsM w1 lo f A c F L) (hF : Vf.Good F) (x : Vf.Nd) (p : Pl) (xu : Vf.Nd) (pu : Pl) (hxu : F[x.up]? = some xu) (hpu : L[x.up]? = some pu) (hku : xu.m.kind = 2) (hlo : lo <= w1.heap.size)
  (hb : Below w1.heap.size w1 V) (hm2 : MapG V2 pu.g .string (kidsM F L x.up ++ [(.string x.name, ndV x p)])) (hg2 : V.grownBy V2 (some pu.g)) (A' : Option Addr) (c' : Nat)
  (ho3 : V3.ownsRow lo 123 1 (.slice A' (F.length + 1) c') (F.length + 1) ((F.zip L).map (fun y => ndV y.1 y.2) ++ [ndV x p])) (hg3 : V2.grownBy V3 (Value.slice A F.length c).ownBlock)
  (hq : w1.heap.size <= p.q) (hnd : Blk V p.q (blkT x.m.kind) (ndC x F.length pu.q p))
  (hby : x.m.kind = 1 -> p.n = x.data.length /\ p.n <= p.c /\ RdI V w1.heap.size 5 1 p.A p.n (x.data.map fun b => Value.int .u8 (b.toNat : Nat)))
  (hdm : x.m.kind = 2 -> w1.heap.size <= p.g /\ MapG V p.g .string []) :
  FsM (V3.setCell ⟨f, 0, none⟩ (.slice A' (F.length + 1) c')) lo f A' c' (F ++ [x]) (L ++ [p]) /\ Below lo w1 (V3.setCell ⟨f, 0, none⟩ (.slice A' (F.length + 1) c')) := by
 have hm := (h.map x.up xu pu hxu hpu hku).2
 obtain ⟨hf2, hr2, hs2, hf3'⟩ := h.addF hxu hpu hku hb hg2
 have hf3 := hf3' V3 hg3
 have hgl := hm.lt
 have hfl := h.fs.lt
 have hol : ∀ k, (Value.slice A F.length c).ownBlock = some k -> lo <= k /\ k < w1.heap.size := fun k hk => h.row.lt k hk
 have hset : ∀ k, k ≠ f -> (V3.setCell ⟨f, 0, none⟩ (.slice A' (F.length + 1) c')).heap[k]? = V3.heap[k]? := fun k hk => heap_setCell_other _ _ _ _ hk
 have hV : ∀ k, k < V.heap.size -> k ≠ f -> k ≠ pu.g -> (Value.slice A F.length c).ownBlock ≠ some k -> (V3.setCell ⟨f, 0, none⟩ (.slice A' (F.length + 1) c')).heap[k]? = V.heap[k]? := fun k hk h1 h2 h3 =>
  (hset k h1).trans ((hg3.block k (Nat.lt_of_lt_of_le hk hg2.size) (fun e => h3 e.symm)).trans (hg2.block k hk (fun e => h2 (by injection e))))
 have hVn : ∀ k, w1.heap.size <= k -> k < V.heap.size -> (V3.setCell ⟨f, 0, none⟩ (.slice A' (F.length + 1) c')).heap[k]? = V.heap[k]? := fun k hk hl =>
  hV k hl (by omega) (by omega) (fun e => by have := hol k e; omega)
 refine ⟨h.addNd hF x p xu pu hxu hpu hku A' c' ?_ ?_ ?_ ?_ ?_ ?_ ?_ ?_, ?_⟩
 ·refine wJ3 ho3 (fun g hg => hset g ?_)
  rintro rfl
  obtain ⟨cs, h1⟩ := vJ4 ho3 hg
  unfold Blk at hf3
  rw [h1] at hf3
  injection hf3 with hf3
  injection hf3 with _ h3
  exact absurd h3 (by decide)
 ·exact hf3.set 0 _
 ·refine hm2.keep ((hset _ (fun e => h.fMap hm e.symm)).trans (hg3.block _ hm2.lt (fun e => h.ownMap hm e.symm)))
 ·intro k h1 h2 h3 h4 h5
  exact (hV k (Nat.lt_of_lt_of_le h2 hb.size) h3 h4 h5).trans (hb.block k h2)
 ·exact Nat.le_trans hlo hq
 ·exact (hVn _ hq hnd.lt).trans hnd
 ·intro h1
  obtain ⟨a, b, d1, d2⟩ := hby h1
  refine ⟨a, b, d1, d2.imp id fun ⟨bb, off, cs, fz, e, h4, h5, h6⟩ => ⟨bb, off, cs, fz, e, Nat.le_trans hlo h4, ?_, h6⟩⟩
  exact (hVn _ h4 (Array.getElem?_eq_some_iff.1 h5).1).trans h5
 ·intro h1
  obtain ⟨a, b⟩ := hdm h1
  exact ⟨Nat.le_trans hlo a, a, b.keep (hVn _ a b.lt)⟩
 ·have b1 : Below lo w1 V := hb.mono hlo
  have b2 : Below lo w1 V2 := b1.grown hg2 (Nat.le_trans hlo b1.size) (fun k hk => by injection hk with hk; rw [<- hk]; exact (h.map x.up xu pu hxu hpu hku).1)
  have b3 : Below lo w1 V3 := b2.grown hg3 (Nat.le_trans hlo b2.size) (fun k hk => (hol k hk).1)
  exact b3.setCell h.lf _
end
end Go.Proofs.YtiiiblmhlhikkaaGreatDoor
namespace Go.Proofs.YtiiiblmhlhikkaaGreatDoor
open Go.RowKit Go.ChangeShapes Go.WideShapes
theorem cell_lt {w : World} {a : Addr} {v : Value} (h : w.cell? a = some v) : a.block < w.heap.size := by
 unfold World.cell? at h
 split at h
 ·rename_i hb
  exact (Array.getElem?_eq_some_iff.1 hb).1
 ·cases h
section
variable {H : Type} {enc : TypeId × Value -> H} {P : Program} {w : World} {base : Nat} {held : Bool} {t e : TypeId} {A : Option Addr} {n c : Nat} {d : DataW H} {p : List MemPlace}
theorem wJh {k : IntKind} (ht : P.underlying t = some (.slice e)) (he : P.underlying e = some (.int k)) (hc : P.cellsOf e = 1)
  (h : DataW.Trod enc P w base (fun _ => true) held t (.slice A n c) d p) :
  ∃ zs : List Int, Rd w w.heap.size 1 A n (zs.map (Value.int k)) /\ n <= c /\ c <= maxLen /\ ∀ z ∈ zs, (Lit.int k z).wf = true := by
 obtain ⟨fuel, hf⟩ := h
 rcases open_ints ht he hc hf with ⟨h1, h2⟩ | ⟨a, len, cap, zs, h1, hb, hl, hm, hz, hx, hcell, hwz⟩
 ·simp [Value.cells] at h1
  obtain ⟨rfl, rfl, rfl⟩ := h1
  exact ⟨[], Rd.none_ _ _ _ _, Nat.le_refl _, by unfold maxLen; omega, by simp⟩
 ·simp [Value.cells] at h1
  obtain ⟨rfl, rfl, rfl⟩ := h1
  simp only [if_true] at hz
  refine ⟨zs.take n, ⟨by simp [hz]; omega, ?_⟩, hl, hm, fun z hz => hwz z (List.mem_of_mem_take hz)⟩
  by_cases h0 : n = 0
  ·subst h0; exact .inl rfl
  ·obtain ⟨b, off, rfl, hc2⟩ := ints_at hcell (by omega)
   have hblk := cell_lt (hc2 0 (by omega))
   refine .inr ⟨b, off, rfl, hblk, fun j u hu => ?_⟩
   simp only [List.getElem?_map, Option.map_eq_some_iff] at hu
   obtain ⟨z, hz1, rfl⟩ := hu
   have hj : j < n := by
    have := (List.getElem?_eq_some_iff.1 hz1).1
    simp at this
    omega
   rw [List.getElem?_take_of_lt hj] at hz1
   rw [hc2 j (by omega), List.getD_eq_getElem?_getD, hz1]
   rfl
theorem u8_of {z : Int} (h : (Lit.int .u8 z).wf = true) : ((UInt8.ofNat z.toNat).toNat : Int) = z := by
 have hb : 0 <= z /\ z <= 255 := by
  simpa [Lit.wf, IntKind.min, IntKind.max, IntKind.signed, IntKind.bits] using h
 simp
 omega
theorem uJq (ht : P.underlying t = some (.slice e)) (he : P.underlying e = some (.int .u8)) (hc : P.cellsOf e = 1)
  (h : DataW.Trod enc P w base (fun _ => true) held t (.slice A n c) d p) :
  ∃ b : List UInt8, Rd w w.heap.size 1 A n (b.map fun c => .int .u8 c.toNat) /\ n <= c /\ c <= maxLen := by
 obtain ⟨zs, h1, h2, h3, h4⟩ := wJh ht he hc h
 refine ⟨zs.map fun z => UInt8.ofNat z.toNat, ?_, h2, h3⟩
 have e1 : (zs.map fun z => UInt8.ofNat z.toNat).map (fun c : UInt8 => Value.int .u8 c.toNat) = zs.map (Value.int .u8) := by
  rw [List.map_map]
  refine List.map_congr_left fun z hz => ?_
  show Value.int .u8 ((UInt8.ofNat z.toNat).toNat : Int) = _
  rw [u8_of (h4 z hz)]
 rw [e1]
 exact h1
end
end Go.Proofs.YtiiiblmhlhikkaaGreatDoor
namespace Go.Proofs.YtiiiblmhlhikkaaGreatDoor
open Go.RowKit
theorem nodeTy : SlTy Tryz.prog 76 123 1 16 := yJ0 (z := .nilIface) Tryz.underlying76 (by kernel_rfl) rfl (by omega) (by omega)
def AddE (F : List Vf.Nd) (L : List Pl) (lo f : Nat) (x : Vf.Ent) (w : World) (e : Ending) (w' : World) : Prop :=
 e = .returned (.int .i64 (Vf.add F x).1) /\ ((Vf.add F x).1 = 0 -> ∃ L' A' c', FsM w' lo f A' c' (Vf.add F x).2 L') /\ Below lo w w'
theorem tJ2 {F : List Vf.Nd} {L : List Pl} {lo f : Nat} {x : Vf.Ent} {w w' : World} {er : Int} (h : (Vf.add F x).1 = er) (h0 : er ≠ 0) (hb : Below lo w w') : AddE F L lo f x w (.returned (.int .i64 er)) w' := by
 unfold AddE
 rw [h]
 exact ⟨rfl, fun h1 => absurd h1 h0, hb⟩
theorem atV_ne {w : World} {lo f c : Nat} {A : Option Addr} {F : List Vf.Nd} {L : List Pl} (hF : Vf.Good F) (h : FsM w lo f A c F L) {l : List ByteArray} {i : Nat} (hi : Vf.at_ F 0 l = some i) : ∃ x p, F[i]? = some x /\ L[i]? = some p /\ atV F L (Vf.at_ F 0 l) = .iface (kindT x.m.kind) (.pointer (some ⟨p.q, 0, none⟩)) := by
 have hl := Vf.at_lt hF l 0 i (Vf.good_pos hF) hi
 obtain ⟨x, hx⟩ : ∃ x, F[i]? = some x := ⟨_, List.getElem?_eq_getElem hl⟩
 obtain ⟨p, hp, _, _⟩ := h.at_ hx
 exact ⟨x, p, hx, hp, by rw [hi]; exact h.ndA_eq hx hp⟩
set_option maxRecDepth 100000 in
set_option maxHeartbeats 4000000 in
theorem add_any (F : List Vf.Nd) (L : List Pl) (lo f c : Nat) (A Ax : Option Addr) (n cx : Nat) (x : Vf.Ent) (w : World) (hF : Vf.Good F) (h : FsM w lo f A c F L) (hlo : lo <= w.heap.size) (hn : F.length <= 64)
  (hd : Rd w w.heap.size 1 Ax n (bys x.data)) (hnn : n <= 4294967296) (hps : x.path.size <= 4294967296) (hto : x.to.size <= 4294967296) (hmd : x.mode < 65536) :
  Calls Tryz.prog 19 #[ptrV f, entV x Ax n cx] w (AddE F L lo f x w) := by
 have hdl : x.data.length = n := by simpa [bys] using hd.len1
 have hb0 : Below w.heap.size w (w.alloc (.cells (ventC x Ax n cx).toArray 66)) := (Below.refl _ _).alloc (Nat.le_refl _) _
 have hbk : Blk (w.alloc (.cells (ventC x Ax n cx).toArray 66)) w.heap.size 66 (ventC x Ax n cx) := Blk.new w 66 _
 have KP := zJ2 (partsV_any x Ax n cx (w.alloc (.cells (ventC x Ax n cx).toArray 66)) hdl hnn hps hto hmd)
 have KAt : ∀ w', Below w.heap.size w w' -> ∀ (A' : Option Addr) (n' c' : Nat) (l : List ByteArray), Rd w' w'.heap.size 1 A' n' (l.map Value.string) -> n' <= 4294967296 -> Calls Tryz.prog 43 #[.pointer (some ⟨f, 0, none⟩), .slice A' n' c'] w' fun e w2 => e = .returned (atV F L (Vf.at_ F 0 l)) /\ w' = w2 :=
  fun w' hb A' n' c' l hl hn' => at_any F L lo f c A A' n' c' _ l w' hF (h.belowSz hb) (by omega) hl hn'
 have qn : ∀ w', (binOp .eql 123 .nilIface .nilIface).run Tryz.prog w' = .ok (.bool true) w' := fun w' => by kernel_rfl
 have qi : ∀ w' t v, (binOp .eql 123 (.iface t v) .nilIface).run Tryz.prog w' = .ok (.bool false) w' := fun w' t v => by kernel_rfl
 have qn2 : ∀ w', (binOp .neq 123 .nilIface .nilIface).run Tryz.prog w' = .ok (.bool false) w' := fun w' => by kernel_rfl
 have qi2 : ∀ w' t v, (binOp .neq 123 (.iface t v) .nilIface).run Tryz.prog w' = .ok (.bool true) w' := fun w' t v => by kernel_rfl
 have HF := zJ2 hF
 have H := zJ2 h
 have HKAt := zJ2 KAt
 have Hb0 := zJ2 hb0
 have Hbk := zJ2 hbk
 have Hd := zJ2 hd
 have Hdl := zJ2 hdl
 unfold entV at KP ⊢
 unfold ptrV
 clear hF h KAt hb0 hbk hd hdl hps hto
 unfold ventC at KP
 go_enter Tryz.func19, Tryz.ntmps19
 go_wp2_with fail
 refine (zJ1 KP).mono ?_
 rintro e w1 ⟨A1, n1, c1, rfl, ho1, hb1⟩
 have Hbk1 := zJ2 ((zJ1 Hbk).belowSz hb1)
 have Hb1 := zJ2 ((zJ1 Hb0).trans (hb1.mono (by simp)))
 have Ho1 := zJ2 ho1
 clear ho1 hb1 KP Hbk
 by_cases hm : Vf.may x = 0
 case neg =>
  have hr : (Vf.add F x).1 = Vf.may x := by unfold Vf.add; rw [if_pos hm]
  have Hr := zJ2 hr
  have Hm := zJ2 hm
  obtain ⟨me, hme⟩ : ∃ v, Vf.may x = v := ⟨_, rfl⟩
  rw [hme] at Hr Hm hm ⊢
  have q1 : (me != 0) = true := by simp [hm]
  have Hb := zJ2 ((zJ1 Hb1).mono hlo)
  clear hr hm hme
  go_wp2_with fail
  go_ret
  exact tJ2 (zJ1 Hr) (zJ1 Hm) (zJ1 Hb)
 obtain ⟨hn1, ho2⟩ := (zJ1 Ho1) hm
 obtain ⟨m1, m2, m3, m4, m5, m6, m7, m8, m9, m10, m11⟩ := Vf.may_ok hm
 have hpl := Vf.parts_len x.path
 have hadd : Vf.add F x = if (Vf.at_ F 0 (Pth.partsL x.path)).isSome then ((7 : Int), F) else match Vf.at_ F 0 (Pth.partsL x.path).dropLast with
  | none => ((3 : Int), F)
  | some up => if Vf.kindAt F up ≠ 2 then ((8 : Int), F) else ((0 : Int), F ++ [Vf.ndOf x up]) := by
  unfold Vf.add
  rw [if_neg (by simp [hm])]
  rfl
 rw [hm]
 have q1 : ((0 : Int) != 0) = false := rfl
 have hn0 : 0 < n1 := by rw [hn1]; exact List.length_pos_iff.2 m5
 have hr1 := Rd.of_own ho2
 have HKA := zJ2 ((zJ1 HKAt) w1 (zJ1 Hb1) A1 n1 c1 (Pth.partsL x.path) hr1 (by omega))
 have hcp := vJd ho2
 have rs := fun w' => run_to (P := Tryz.prog) Tryz.underlying50 (e := 9) (by kernel_rfl) A1 n1 c1 (n1 - 1) (by omega) w'
 have hdrop : ((Pth.partsL x.path).map Value.string).take (n1 - 1) = (Pth.partsL x.path).dropLast.map Value.string := by
  rw [hn1, List.dropLast_eq_take, List.map_take]
 have hr2 : Rd w1 w1.heap.size 1 A1 (n1 - 1) ((Pth.partsL x.path).dropLast.map Value.string) := by
  rw [<- hdrop]
  exact hr1.to_ (by omega)
 have HKA2 := zJ2 ((zJ1 HKAt) w1 (zJ1 Hb1) A1 (n1 - 1) c1 (Pth.partsL x.path).dropLast hr2 (by omega))
 obtain ⟨k1, hk1⟩ : ∃ k1, n1 - 1 = k1 := ⟨_, rfl⟩
 have ei : IntKind.i64.wrap ((n1 : Int) - 1) = (k1 : Int) := by rw [IntWalk.i64_in _ (by omega)]; omega
 have j1 : (k1 : Int) < (n1 : Int) := by omega
 rw [hk1] at rs HKA2
 have Hk1 := zJ2 hk1
 clear hk1
 have Hadd := zJ2 hadd
 have Hm := zJ2 hm
 have Hr1 := zJ2 hr1
 have Hn1 := zJ2 hn1
 have Hm11 := zJ2 m11
 have Hm5 := zJ2 m5
 have hn1b : n1 <= 201 := by omega
 obtain ⟨pl, hple⟩ : ∃ l, Pth.partsL x.path = l := ⟨_, rfl⟩
 have Hple := zJ2 hple
 clear ho2 m1 m2 m3 m4 m5 m6 m7 m8 m9 m10 m11 hpl hadd hm hr1 hcp hdrop hr2 Ho1 hn1 hple
 cases ha : Vf.at_ F 0 (Pth.partsL x.path) with
 | some i =>
  obtain ⟨xi, pi, _, _, ea⟩ := atV_ne (zJ1 HF) (zJ1 H) ha
  rw [ea] at HKA
  have hr : (Vf.add F x).1 = 7 := by rw [zJ1 Hadd, ha]; rfl
  have Hr := zJ2 hr
  have Hb := zJ2 ((zJ1 Hb1).mono hlo)
  clear hr ha ea
  go_wp2_with fail
  refine (zJ1 HKA).mono ?_
  rintro e w2 ⟨rfl, rfl⟩
  go_wp2_with fail
  go_ret
  exact tJ2 (zJ1 Hr) (by decide) (zJ1 Hb)
 | none =>
  have hadd := zJ1 Hadd
  rw [ha] at hadd HKA
  simp only [Option.isSome_none, Bool.false_eq_true, if_false] at hadd
  have ea : atV F L none = .nilIface := rfl
  rw [ea] at HKA
  have Hat0 := zJ2 ha
  clear ha ea Hadd
  go_wp2_with fail
  refine (zJ1 HKA).mono ?_
  rintro e w2 ⟨rfl, rfl⟩
  go_wp2_with fail
  refine (zJ1 HKA2).mono ?_
  rintro e w2 ⟨rfl, rfl⟩
  cases hu : Vf.at_ F 0 (Pth.partsL x.path).dropLast with
  | none =>
   have ea : atV F L none = .nilIface := rfl
   rw [ea]
   rw [hu] at hadd
   have hr : (Vf.add F x).1 = 3 := by rw [hadd]
   have Hr := zJ2 hr
   have Hb := zJ2 ((zJ1 Hb1).mono hlo)
   clear hr hu ea hadd
   go_wp2_with fail
   go_ret
   exact tJ2 (zJ1 Hr) (by decide) (zJ1 Hb)
  | some up =>
   obtain ⟨xu, pu, hxu, hpu, ea⟩ := atV_ne (zJ1 HF) (zJ1 H) hu
   rw [hu] at ea hadd
   rw [ea]
   simp only at hadd
   rw [Vf.kindAt_eq hxu] at hadd
   by_cases hk : xu.m.kind = 2
   case neg =>
    rw [if_pos hk] at hadd
    have hr : (Vf.add F x).1 = 8 := by rw [hadd]
    have Hr := zJ2 hr
    have Hb := zJ2 ((zJ1 Hb1).mono hlo)
    have ha1 := yJ6 (.pointer (some ⟨pu.q, 0, none⟩))
    have ha2 := yJ4 (.pointer (some ⟨pu.q, 0, none⟩))
    have et : kindT xu.m.kind = 126 \/ kindT xu.m.kind = 129 := by
     rcases kind3 (zJ1 HF) hxu with h1 | h1 | h1
     ·exact .inl (by rw [h1]; rfl)
     ·exact absurd h1 hk
     ·exact .inr (by rw [h1]; rfl)
    clear hr hadd hxu hpu ea hu hk
    rcases et with et | et
    all_goals
     rw [et]
     clear et
     go_wp2_with fail
     go_ret
     exact tJ2 (zJ1 Hr) (by decide) (zJ1 Hb)
   rw [if_neg (by simp [hk])] at hadd
   have et : kindT xu.m.kind = 68 := by rw [hk]; rfl
   rw [et]
   have ha1 := uJ8 (.pointer (some ⟨pu.q, 0, none⟩))
   have Hadd := zJ2 hadd
   have Hxu := zJ2 hxu
   have Hpu := zJ2 hpu
   have Hk := zJ2 hk
   have Hu := zJ2 hu
   have HW1 := zJ2 ((zJ1 H).belowSz (zJ1 Hb1))
   have hfs1 := (zJ1 HW1).fs
   obtain ⟨flen, hfl⟩ : ∃ n, F.length = n := ⟨_, rfl⟩
   have Hfl := zJ2 hfl
   rw [hfl] at hfs1 hn
   have hbk1 := zJ1 Hbk1
   obtain ⟨nm, hnm⟩ : ∃ nm, Vf.lastOf (Pth.partsL x.path) = nm := ⟨_, rfl⟩
   have hlast : ((Pth.partsL x.path).map Value.string)[k1]? = some (.string nm) := by
    rw [<- zJ1 Hk1, zJ1 Hn1, <- List.length_map (f := Value.string), <- List.getLast?_eq_getElem?, List.getLast?_map, <- hnm]
    unfold Vf.lastOf
    rw [List.getLast?_eq_some_getLast (zJ1 Hm5)]
    rfl
   obtain ⟨b3, o3, hA1, _, c3⟩ := (zJ1 Hr1).at_ (k := k1) hlast
   subst hA1
   have Hnm := zJ2 hnm
   have hcn : Vf.child F up nm = none := by
    have h1 := zJ1 Hat0
    rw [Vf.lastOf_app (zJ1 Hm5), Vf.at_app, hu, hnm] at h1
    cases hq : Vf.child F up nm with
    | none => rfl
    | some j => simp [Vf.at_, hq] at h1
   have HSK : ∀ w', Below w1.heap.size w1 w' -> (Below w1.heap.size w1 w' /\ w'.cell? ⟨w.heap.size, 1, none⟩ = some (.int .u8 (x.kind : Nat)) /\ w'.cell? ⟨w.heap.size, 2, none⟩ = some (.int .u16 (x.mode : Nat)) /\ w'.cell? ⟨w.heap.size, 3, none⟩ = some (.int .u32 (x.uid : Nat)) /\ w'.cell? ⟨w.heap.size, 4, none⟩ = some (.int .u32 (x.gid : Nat)) /\ w'.cell? ⟨w.heap.size, 5, none⟩ = some (.slice Ax n cx) /\ w'.cell? ⟨f, 0, none⟩ = some (.slice A flen c) /\ w'.cell? ⟨b3, o3 + k1, none⟩ = some (.string nm)) := by
    intro w' hbw
    have h1 := hbk1.belowSz hbw
    have h2 := hfs1.belowSz hbw
    refine ⟨hbw, h1.cell rfl, h1.cell rfl, h1.cell rfl, h1.cell rfl, h1.cell rfl, h2.cell rfl, (hbw.cell (p := ⟨b3, o3 + k1, none⟩) (cell_lt c3)).trans c3⟩
   have v := HSK w1 (Below.refl _ _)
   obtain ⟨-, v1, v2, v3, v4, v5, v6, v7⟩ := v
   have HSK' := zJ2 HSK
   have hbW : Below w1.heap.size w1 (w1.alloc (.cells #[.int .u8 (x.kind : Nat), .int .u16 (x.mode : Nat), .int .u32 (x.uid : Nat), .int .u32 (x.gid : Nat), .int .i64 (n : Nat), .int .i64 (flen : Nat), .pointer (some ⟨pu.q, 0, none⟩), .string nm] 72)).drew := zJ3 ((Below.refl _ _).alloc (Nat.le_refl _) _)
   have hBb : Blk (w1.alloc (.cells #[.int .u8 (x.kind : Nat), .int .u16 (x.mode : Nat), .int .u32 (x.uid : Nat), .int .u32 (x.gid : Nat), .int .i64 (n : Nat), .int .i64 (flen : Nat), .pointer (some ⟨pu.q, 0, none⟩), .string nm] 72)).drew w1.heap.size 72 [.int .u8 (x.kind : Nat), .int .u16 (x.mode : Nat), .int .u32 (x.uid : Nat), .int .u32 (x.gid : Nat), .int .i64 (n : Nat), .int .i64 (flen : Nat), .pointer (some ⟨pu.q, 0, none⟩), .string nm] := Blk.new w1 _ _
   have HbW := zJ2 hbW
   have HBb := zJ2 hBb
   clear hbW hBb
   clear hadd hxu hpu ea hu hk et HSK c3 hlast hnm hbk1 hfs1 hfl
   go_wp2_with fail
   go_region_held3 (fun w' => Below w1.heap.size w1 w' /\ w'.cell? ⟨w.heap.size, 1, none⟩ = some (.int .u8 (x.kind : Nat)) /\ w'.cell? ⟨w.heap.size, 2, none⟩ = some (.int .u16 (x.mode : Nat)) /\ w'.cell? ⟨w.heap.size, 3, none⟩ = some (.int .u32 (x.uid : Nat)) /\ w'.cell? ⟨w.heap.size, 4, none⟩ = some (.int .u32 (x.gid : Nat)) /\ w'.cell? ⟨w.heap.size, 5, none⟩ = some (.slice Ax n cx) /\ w'.cell? ⟨f, 0, none⟩ = some (.slice A flen c) /\ w'.cell? ⟨b3, o3 + k1, none⟩ = some (.string nm)) (first | exact (zJ1 HSK') _ (zJ3 (Below.refl _ _)) | exact (zJ1 HSK') _ (zJ3 ((Below.refl _ _).alloc (Nat.le_refl _) _)) | exact (zJ1 HSK') _ (zJ1 HbW)) (fail)
   clear v1 v2 v3 v4 v5 v6 v7
   generalize (w1.alloc (.cells #[.int .u8 (x.kind : Nat), .int .u16 (x.mode : Nat), .int .u32 (x.uid : Nat), .int .u32 (x.gid : Nat), .int .i64 (n : Nat), .int .i64 (flen : Nat), .pointer (some ⟨pu.q, 0, none⟩), .string nm] 72)).drew = W at *
   obtain ⟨-, v1, v2, v3, v4, v5, v6, v7⟩ := (zJ1 HSK') W (zJ1 HbW)
   have hB2 := (zJ1 HBb)
   obtain ⟨y0, y1, y2, y3, y4, y5, y6, y7⟩ : W.cell? ⟨w1.heap.size, 0, none⟩ = some (.int .u8 (x.kind : Nat)) /\ W.cell? ⟨w1.heap.size, 1, none⟩ = some (.int .u16 (x.mode : Nat)) /\ W.cell? ⟨w1.heap.size, 2, none⟩ = some (.int .u32 (x.uid : Nat)) /\ W.cell? ⟨w1.heap.size, 3, none⟩ = some (.int .u32 (x.gid : Nat)) /\ W.cell? ⟨w1.heap.size, 4, none⟩ = some (.int .i64 (n : Nat)) /\ W.cell? ⟨w1.heap.size, 5, none⟩ = some (.int .i64 (flen : Nat)) /\ W.cell? ⟨w1.heap.size, 6, none⟩ = some (.pointer (some ⟨pu.q, 0, none⟩)) /\ W.cell? ⟨w1.heap.size, 7, none⟩ = some (.string nm) := ⟨hB2.cell rfl, hB2.cell rfl, hB2.cell rfl, hB2.cell rfl, hB2.cell rfl, hB2.cell rfl, hB2.cell rfl, hB2.cell rfl⟩
   clear hB2
   have hmm := @run_makeMap Tryz.prog
   have hkind := (Vf.may_ok (zJ1 Hm)).1
   rcases (show x.kind = 1 \/ x.kind = 2 \/ x.kind = 3 by omega) with hk | hk | hk
   ·have q2 : ((x.kind : Int) == 2) = false := by rw [hk]; rfl
    have q3 : ((x.kind : Int) == 1) = true := by rw [hk]; rfl
    have KC : ∀ w', Below W.heap.size W w' -> Calls Tryz.prog 44 #[.slice Ax n cx] w' (CloneBE n x.data w') := fun w' hb =>
     uJb Ax n cx w.heap.size x.data w' ((zJ1 Hd).below ((zJ1 Hb1).trans (((zJ1 HbW).mono (zJ1 Hb1).size).trans (hb.mono (Nat.le_trans (zJ1 Hb1).size (zJ1 HbW).size))))) (Nat.le_trans (Nat.le_trans (zJ1 Hb1).size (zJ1 HbW).size) hb.size) hnn
    have HSC : ∀ w', Below W.heap.size W w' -> (Below W.heap.size W w' /\ w'.cell? ⟨w1.heap.size, 0, none⟩ = some (.int .u8 (x.kind : Nat)) /\ w'.cell? ⟨w1.heap.size, 1, none⟩ = some (.int .u16 (x.mode : Nat)) /\ w'.cell? ⟨w1.heap.size, 2, none⟩ = some (.int .u32 (x.uid : Nat)) /\ w'.cell? ⟨w1.heap.size, 3, none⟩ = some (.int .u32 (x.gid : Nat)) /\ w'.cell? ⟨w1.heap.size, 4, none⟩ = some (.int .i64 (n : Nat)) /\ w'.cell? ⟨w1.heap.size, 5, none⟩ = some (.int .i64 (flen : Nat)) /\ w'.cell? ⟨w1.heap.size, 6, none⟩ = some (.pointer (some ⟨pu.q, 0, none⟩)) /\ w'.cell? ⟨w1.heap.size, 7, none⟩ = some (.string nm) /\ w'.cell? ⟨w.heap.size, 5, none⟩ = some (.slice Ax n cx)) := by
     intro w' hb
     have h1 := (zJ1 HBb).belowSz hb
     have h2 := (zJ1 HSK') w' ((zJ1 HbW).trans (hb.mono (zJ1 HbW).size))
     exact ⟨hb, h1.cell rfl, h1.cell rfl, h1.cell rfl, h1.cell rfl, h1.cell rfl, h1.cell rfl, h1.cell rfl, h1.cell rfl, h2.2.2.2.2.2.1⟩
    have Hkk := zJ2 hk
    have HKC := zJ2 KC
    have HSC' := zJ2 HSC
    clear hk hkind KC HSC
    go_wp2_with fail
    go_region_held3 (fun w' => Below W.heap.size W w' /\ w'.cell? ⟨w1.heap.size, 0, none⟩ = some (.int .u8 (x.kind : Nat)) /\ w'.cell? ⟨w1.heap.size, 1, none⟩ = some (.int .u16 (x.mode : Nat)) /\ w'.cell? ⟨w1.heap.size, 2, none⟩ = some (.int .u32 (x.uid : Nat)) /\ w'.cell? ⟨w1.heap.size, 3, none⟩ = some (.int .u32 (x.gid : Nat)) /\ w'.cell? ⟨w1.heap.size, 4, none⟩ = some (.int .i64 (n : Nat)) /\ w'.cell? ⟨w1.heap.size, 5, none⟩ = some (.int .i64 (flen : Nat)) /\ w'.cell? ⟨w1.heap.size, 6, none⟩ = some (.pointer (some ⟨pu.q, 0, none⟩)) /\ w'.cell? ⟨w1.heap.size, 7, none⟩ = some (.string nm) /\ w'.cell? ⟨w.heap.size, 5, none⟩ = some (.slice Ax n cx)) (first | exact (zJ1 HSC') _ (zJ3 (Below.refl _ _)) | exact (zJ1 HSC') _ (zJ1 hbn) | exact (zJ1 HSC') _ ((zJ1 hbn).alloc (zJ1 hbn).size _)) (first
     | (go_at_call 44; rename Below _ _ _ /\ _ => hH; refine ((zJ1 HKC) _ hH.1).mono ?_; rintro e w3 ⟨A5, c5, rfl, ho5, hb5⟩; have hbn := zJ2 (hH.1.trans (hb5.mono hH.1.size)); have Ho5 := zJ2 ho5; have Hlo5 := zJ2 (Nat.le_trans (zJ1 HbW).size hH.1.size); clear ho5 hb5))
    have HbW3 := zJ2 ((zJ1 HbW).trans ((zJ1 hbn).mono (zJ1 HbW).size))
    go_wp2_with fail
    obtain ⟨np, hnp⟩ : ∃ np : Pl, (⟨w3.heap.size, 0, A5, n, c5⟩ : Pl) = np := ⟨_, rfl⟩
    have hbV : Below w1.heap.size w1 (w3.alloc (.cells #[.int .u8 (x.kind : Nat), .int .u16 (x.mode : Nat), .int .u32 (x.uid : Nat), .int .u32 (x.gid : Nat), .int .i64 (n : Nat), .int .i64 (flen : Nat), .pointer (some ⟨pu.q, 0, none⟩), .string nm, .slice A5 n c5] 128)) := (zJ1 HbW3).alloc (zJ1 HbW3).size _
    have hndV : Blk (w3.alloc (.cells #[.int .u8 (x.kind : Nat), .int .u16 (x.mode : Nat), .int .u32 (x.uid : Nat), .int .u32 (x.gid : Nat), .int .i64 (n : Nat), .int .i64 (flen : Nat), .pointer (some ⟨pu.q, 0, none⟩), .string nm, .slice A5 n c5] 128)) np.q (blkT (Vf.ndOf x up).m.kind) (ndC (Vf.ndOf x up) F.length pu.q np) := by
     have e1 : ndC (Vf.ndOf x up) F.length pu.q np = [.int .u8 (x.kind : Nat), .int .u16 (x.mode : Nat), .int .u32 (x.uid : Nat), .int .u32 (x.gid : Nat), .int .i64 (n : Nat), .int .i64 (flen : Nat), .pointer (some ⟨pu.q, 0, none⟩), .string nm, .slice A5 n c5] := by
      unfold ndC lastV
      rw [show (Vf.ndOf x up).m.kind = x.kind from rfl, if_neg (by rw [zJ1 Hkk]; decide), if_pos (zJ1 Hkk), zJ1 Hfl]
      try rw [<- hnp]
      simp only [Vf.ndOf, zJ1 Hdl, zJ1 Hnm]
      rfl
     have e2 : blkT (Vf.ndOf x up).m.kind = 128 := by rw [show (Vf.ndOf x up).m.kind = x.kind from rfl, zJ1 Hkk]; rfl
     rw [e1, e2, <- hnp]
     exact Blk.new w3 128 [.int .u8 (x.kind : Nat), .int .u16 (x.mode : Nat), .int .u32 (x.uid : Nat), .int .u32 (x.gid : Nat), .int .i64 (n : Nat), .int .i64 (flen : Nat), .pointer (some ⟨pu.q, 0, none⟩), .string nm, .slice A5 n c5]
    have hbyV : (Vf.ndOf x up).m.kind = 1 -> np.n = (Vf.ndOf x up).data.length /\ np.n <= np.c /\ RdI (w3.alloc (.cells #[.int .u8 (x.kind : Nat), .int .u16 (x.mode : Nat), .int .u32 (x.uid : Nat), .int .u32 (x.gid : Nat), .int .i64 (n : Nat), .int .i64 (flen : Nat), .pointer (some ⟨pu.q, 0, none⟩), .string nm, .slice A5 n c5] 128)) w1.heap.size 5 1 np.A np.n ((Vf.ndOf x up).data.map fun b => Value.int .u8 (b.toNat : Nat)) := by
     intro _
     rw [<- hnp]
     refine ⟨(zJ1 Hdl).symm, vJd (zJ1 Ho5), ?_⟩
     have h5 : RdI w3 w1.heap.size 5 1 A5 n (bys x.data) := RdI.of_own (zJd (zJ1 Ho5) (zJ1 Hlo5))
     exact h5.keep fun k o _ ho _ => (Below.heap_alloc _ _ _ (Array.getElem?_eq_some_iff.1 ho).1).trans ho
    have hdmV : (Vf.ndOf x up).m.kind = 2 -> w1.heap.size <= np.g /\ MapG (w3.alloc (.cells #[.int .u8 (x.kind : Nat), .int .u16 (x.mode : Nat), .int .u32 (x.uid : Nat), .int .u32 (x.gid : Nat), .int .i64 (n : Nat), .int .i64 (flen : Nat), .pointer (some ⟨pu.q, 0, none⟩), .string nm, .slice A5 n c5] 128)) np.g .string [] := by
     intro h
     have : x.kind = 2 := h
     rw [zJ1 Hkk] at this
     cases this
    have hnpq : w1.heap.size <= np.q := by rw [<- hnp]; exact (zJ1 HbW3).size
    have hnpe : np.q = w3.heap.size := by rw [<- hnp]
    clear hnp
    generalize (w3.alloc (.cells #[.int .u8 (x.kind : Nat), .int .u16 (x.mode : Nat), .int .u32 (x.uid : Nat), .int .u32 (x.gid : Nat), .int .i64 (n : Nat), .int .i64 (flen : Nat), .pointer (some ⟨pu.q, 0, none⟩), .string nm, .slice A5 n c5] 128)) = V at *
    rw [<- hnpe]
    clear hnpe
    have HbV := zJ2 hbV
    have HnV := zJ2 hndV
    have HyV := zJ2 hbyV
    have HdV := zJ2 hdmV
    clear hbV hndV hbyV hdmV
    obtain ⟨-, z1, z2, z3, z4, z5, z6, z7⟩ := (zJ1 HSK') V (zJ1 HbV)
    have hmu := ((zJ1 HW1).map up xu pu (zJ1 Hxu) (zJ1 Hpu) (zJ1 Hk)).2.belowSz (zJ1 HbV)
    obtain ⟨_, uu, _, hbu⟩ := (zJ1 HW1).nd up xu pu (zJ1 Hxu) (zJ1 Hpu)
    have e8 : lastV xu pu = .map (some pu.g) := by unfold lastV; rw [if_pos (zJ1 Hk)]
    have z8 : V.cell? ⟨pu.q, 8, none⟩ = some (lastV xu pu) := (hbu.belowSz (zJ1 HbV)).cell rfl
    rw [e8] at z8
    have z7' : World.cell? { heap := V.heap, tape := V.tape, drawn := V.drawn + 1, os := V.os, output := V.output } ⟨b3, o3 + k1, none⟩ = some (.string nm) := z7
    have z8' : World.cell? { heap := V.heap, tape := V.tape, drawn := V.drawn + 1, os := V.os, output := V.output } ⟨pu.q, 8, none⟩ = some (.map (some pu.g)) := z8
    have hmuD : MapG V.drew pu.g .string (kidsM F L up) := ⟨hmu.there, hmu.keys, hmu.once⟩
    have hnone := uJv (zJ1 HF) (L := L) (hcn)
    have HmuD := zJ2 hmuD
    have Hnone := zJ2 hnone
    clear v1 v2 v3 v4 v5 v6 v7 y0 y1 y2 y3 y4 y5 y6 y7 z1 z2 z3 z4 z5 z6 hmu hbu e8 hmuD hnone
    go_still_tail 9, (by kernel_rfl)
    change wpList _ _ _ _ _ V.drew
    refine xJc (x := .string nm) (g := pu.g) rfl _ _ _ rfl Tryz.underlying73 Tryz.underlying9 (by simp [Go.MapKept.IsKey]) rfl rfl rfl (zJ1 HmuD) (zJ1 Hnone) ?_
    intro V2 hm2 hg2 hs2
    have HbV' : Hid (Below w1.heap.size w1 V.drew) := zJ2 (zJ3 (zJ1 HbV))
    obtain ⟨f2, r2, s2, f3⟩ := (zJ1 HW1).addF (zJ1 Hxu) (zJ1 Hpu) (zJ1 Hk) (zJ1 HbV') hg2
    have u0 : V2.cell? ⟨f, 0, none⟩ = some (.slice A F.length c) := f2.cell rfl
    rw [zJ1 Hfl] at u0
    have Hr2 := zJ2 r2
    have Hf3 := zJ2 f3
    have Hm2 := zJ2 hm2
    have Hg2 := zJ2 hg2
    have hlo2 : lo <= V2.heap.size := by have := (zJ1 Hb1).size; omega
    clear f2 r2 s2 f3 hm2 hg2 hs2 z7 z8 z7' z8'
    go_wp2_with (at_builtin; refine yJh nodeTy rfl _ _ rfl lo (.slice A flen c) flen _ rfl (by have := zJ1 Hr2; rw [zJ1 Hfl] at this; exact this) #[.iface 126 (.pointer (some ⟨np.q, 0, none⟩))] rfl rfl (by simp [Value.oneCell']) (by omega) hlo2 ?_; intro A4 c4 V3 ho3 hg3 hat3; have hff := (zJ1 Hf3) V3 (by rw [zJ1 Hfl]; exact hg3); have t0 : V3.cell? ⟨f, 0, none⟩ = some (.slice A F.length c) := hff.cell rfl; rw [zJ1 Hfl] at t0; have tf : V3.frozen? ⟨f, 0, none⟩ = false := hff.free 0; have Ho3 := zJ2 ho3; have Hg3 := zJ2 hg3; clear ho3 hg3 hat3 hff)
    go_ret
    have hnd0 : ndV (Vf.ndOf x up) np = .iface 126 (.pointer (some ⟨np.q, 0, none⟩)) := by unfold ndV kindT; rw [show (Vf.ndOf x up).m.kind = x.kind from rfl, zJ1 Hkk]; rfl
    have hnm0 : (Vf.ndOf x up).name = nm := zJ1 Hnm
    have hfin := (zJ1 HW1).addFin (V := V.drew) (V2 := V2) (V3 := V3) (zJ1 HF) (Vf.ndOf x up) np xu pu (zJ1 Hxu) (zJ1 Hpu) (zJ1 Hk) (by have := (zJ1 Hb1).size; omega) (zJ1 HbV') (by rw [hnm0, hnd0]; exact zJ1 Hm2) (zJ1 Hg2) A4 c4 (by rw [hnd0, zJ1 Hfl]; exact zJ1 Ho3) (by rw [zJ1 Hfl]; exact zJ1 Hg3) hnpq (zJ1 HnV) (zJ1 HyV) (fun h => ⟨((zJ1 HdV) h).1, ((zJ1 HdV) h).2.keep rfl⟩)
    rw [zJ1 Hfl] at hfin
    unfold AddE
    rw [zJ1 Hadd]
    exact ⟨rfl, fun _ => ⟨_, A4, c4, hfin.1⟩, ((zJ1 Hb1).mono hlo).trans hfin.2⟩
   ·have q2 : ((x.kind : Int) == 2) = true := by rw [hk]; rfl
    have Hkk := zJ2 hk
    clear hk hkind
    go_wp2_with fail
    obtain ⟨np, hnp⟩ : ∃ np : Pl, (⟨W.heap.size + 1, W.heap.size, none, 0, 0⟩ : Pl) = np := ⟨_, rfl⟩
    have hbV : Below w1.heap.size w1 ((W.alloc (.map #[] 0)).alloc (.cells #[.int .u8 (x.kind : Nat), .int .u16 (x.mode : Nat), .int .u32 (x.uid : Nat), .int .u32 (x.gid : Nat), .int .i64 (n : Nat), .int .i64 (flen : Nat), .pointer (some ⟨pu.q, 0, none⟩), .string nm, .map (some W.heap.size)] 75)) := ((zJ1 HbW).alloc (zJ1 HbW).size _).alloc (by have := (zJ1 HbW).size; simp; omega) _
    have hndV : Blk ((W.alloc (.map #[] 0)).alloc (.cells #[.int .u8 (x.kind : Nat), .int .u16 (x.mode : Nat), .int .u32 (x.uid : Nat), .int .u32 (x.gid : Nat), .int .i64 (n : Nat), .int .i64 (flen : Nat), .pointer (some ⟨pu.q, 0, none⟩), .string nm, .map (some W.heap.size)] 75)) np.q (blkT (Vf.ndOf x up).m.kind) (ndC (Vf.ndOf x up) F.length pu.q np) := by
     have e1 : ndC (Vf.ndOf x up) F.length pu.q np = [.int .u8 (x.kind : Nat), .int .u16 (x.mode : Nat), .int .u32 (x.uid : Nat), .int .u32 (x.gid : Nat), .int .i64 (n : Nat), .int .i64 (flen : Nat), .pointer (some ⟨pu.q, 0, none⟩), .string nm, .map (some W.heap.size)] := by
      unfold ndC lastV
      rw [show (Vf.ndOf x up).m.kind = x.kind from rfl, if_pos (zJ1 Hkk), zJ1 Hfl]
      try rw [<- hnp]
      simp only [Vf.ndOf, zJ1 Hdl, zJ1 Hnm]
      rfl
     have e2 : blkT (Vf.ndOf x up).m.kind = 75 := by rw [show (Vf.ndOf x up).m.kind = x.kind from rfl, zJ1 Hkk]; rfl
     rw [e1, e2, <- hnp]
     have := Blk.new (W.alloc (.map #[] 0)) 75 [.int .u8 (x.kind : Nat), .int .u16 (x.mode : Nat), .int .u32 (x.uid : Nat), .int .u32 (x.gid : Nat), .int .i64 (n : Nat), .int .i64 (flen : Nat), .pointer (some ⟨pu.q, 0, none⟩), .string nm, .map (some W.heap.size)]
     rw [World.size_alloc] at this
     exact this
    have hbyV : (Vf.ndOf x up).m.kind = 1 -> np.n = (Vf.ndOf x up).data.length /\ np.n <= np.c /\ RdI ((W.alloc (.map #[] 0)).alloc (.cells #[.int .u8 (x.kind : Nat), .int .u16 (x.mode : Nat), .int .u32 (x.uid : Nat), .int .u32 (x.gid : Nat), .int .i64 (n : Nat), .int .i64 (flen : Nat), .pointer (some ⟨pu.q, 0, none⟩), .string nm, .map (some W.heap.size)] 75)) w1.heap.size 5 1 np.A np.n ((Vf.ndOf x up).data.map fun b => Value.int .u8 (b.toNat : Nat)) := by
     intro h
     have : x.kind = 1 := h
     rw [zJ1 Hkk] at this
     cases this
    have hdmV : (Vf.ndOf x up).m.kind = 2 -> w1.heap.size <= np.g /\ MapG ((W.alloc (.map #[] 0)).alloc (.cells #[.int .u8 (x.kind : Nat), .int .u16 (x.mode : Nat), .int .u32 (x.uid : Nat), .int .u32 (x.gid : Nat), .int .i64 (n : Nat), .int .i64 (flen : Nat), .pointer (some ⟨pu.q, 0, none⟩), .string nm, .map (some W.heap.size)] 75)) np.g .string [] := by
     intro _
     rw [<- hnp]
     exact ⟨(zJ1 HbW).size, (MapG.nil W _).belowSz ((Below.refl _ _).alloc (Nat.le_refl _) _)⟩
    have hnpq : w1.heap.size <= np.q := by rw [<- hnp]; have := (zJ1 HbW).size; simp; omega
    have hnpe : np.q = W.heap.size + 1 := by rw [<- hnp]
    clear hnp
    generalize ((W.alloc (.map #[] 0)).alloc (.cells #[.int .u8 (x.kind : Nat), .int .u16 (x.mode : Nat), .int .u32 (x.uid : Nat), .int .u32 (x.gid : Nat), .int .i64 (n : Nat), .int .i64 (flen : Nat), .pointer (some ⟨pu.q, 0, none⟩), .string nm, .map (some W.heap.size)] 75)) = V at *
    rw [<- hnpe]
    clear hnpe
    have HbV := zJ2 hbV
    have HnV := zJ2 hndV
    have HyV := zJ2 hbyV
    have HdV := zJ2 hdmV
    clear hbV hndV hbyV hdmV
    obtain ⟨-, z1, z2, z3, z4, z5, z6, z7⟩ := (zJ1 HSK') V (zJ1 HbV)
    have hmu := ((zJ1 HW1).map up xu pu (zJ1 Hxu) (zJ1 Hpu) (zJ1 Hk)).2.belowSz (zJ1 HbV)
    obtain ⟨_, uu, _, hbu⟩ := (zJ1 HW1).nd up xu pu (zJ1 Hxu) (zJ1 Hpu)
    have e8 : lastV xu pu = .map (some pu.g) := by unfold lastV; rw [if_pos (zJ1 Hk)]
    have z8 : V.cell? ⟨pu.q, 8, none⟩ = some (lastV xu pu) := (hbu.belowSz (zJ1 HbV)).cell rfl
    rw [e8] at z8
    have z7' : World.cell? { heap := V.heap, tape := V.tape, drawn := V.drawn + 1, os := V.os, output := V.output } ⟨b3, o3 + k1, none⟩ = some (.string nm) := z7
    have z8' : World.cell? { heap := V.heap, tape := V.tape, drawn := V.drawn + 1, os := V.os, output := V.output } ⟨pu.q, 8, none⟩ = some (.map (some pu.g)) := z8
    have hmuD : MapG V.drew pu.g .string (kidsM F L up) := ⟨hmu.there, hmu.keys, hmu.once⟩
    have hnone := uJv (zJ1 HF) (L := L) (hcn)
    have HmuD := zJ2 hmuD
    have Hnone := zJ2 hnone
    clear v1 v2 v3 v4 v5 v6 v7 y0 y1 y2 y3 y4 y5 y6 y7 z1 z2 z3 z4 z5 z6 hmu hbu e8 hmuD hnone
    go_still_tail 9, (by kernel_rfl)
    change wpList _ _ _ _ _ V.drew
    refine xJc (x := .string nm) (g := pu.g) rfl _ _ _ rfl Tryz.underlying73 Tryz.underlying9 (by simp [Go.MapKept.IsKey]) rfl rfl rfl (zJ1 HmuD) (zJ1 Hnone) ?_
    intro V2 hm2 hg2 hs2
    have HbV' : Hid (Below w1.heap.size w1 V.drew) := zJ2 (zJ3 (zJ1 HbV))
    obtain ⟨f2, r2, s2, f3⟩ := (zJ1 HW1).addF (zJ1 Hxu) (zJ1 Hpu) (zJ1 Hk) (zJ1 HbV') hg2
    have u0 : V2.cell? ⟨f, 0, none⟩ = some (.slice A F.length c) := f2.cell rfl
    rw [zJ1 Hfl] at u0
    have Hr2 := zJ2 r2
    have Hf3 := zJ2 f3
    have Hm2 := zJ2 hm2
    have Hg2 := zJ2 hg2
    have hlo2 : lo <= V2.heap.size := by have := (zJ1 Hb1).size; omega
    clear f2 r2 s2 f3 hm2 hg2 hs2 z7 z8 z7' z8'
    go_wp2_with (at_builtin; refine yJh nodeTy rfl _ _ rfl lo (.slice A flen c) flen _ rfl (by have := zJ1 Hr2; rw [zJ1 Hfl] at this; exact this) #[.iface 68 (.pointer (some ⟨np.q, 0, none⟩))] rfl rfl (by simp [Value.oneCell']) (by omega) hlo2 ?_; intro A4 c4 V3 ho3 hg3 hat3; have hff := (zJ1 Hf3) V3 (by rw [zJ1 Hfl]; exact hg3); have t0 : V3.cell? ⟨f, 0, none⟩ = some (.slice A F.length c) := hff.cell rfl; rw [zJ1 Hfl] at t0; have tf : V3.frozen? ⟨f, 0, none⟩ = false := hff.free 0; have Ho3 := zJ2 ho3; have Hg3 := zJ2 hg3; clear ho3 hg3 hat3 hff)
    go_ret
    have hnd0 : ndV (Vf.ndOf x up) np = .iface 68 (.pointer (some ⟨np.q, 0, none⟩)) := by unfold ndV kindT; rw [show (Vf.ndOf x up).m.kind = x.kind from rfl, zJ1 Hkk]; rfl
    have hnm0 : (Vf.ndOf x up).name = nm := zJ1 Hnm
    have hfin := (zJ1 HW1).addFin (V := V.drew) (V2 := V2) (V3 := V3) (zJ1 HF) (Vf.ndOf x up) np xu pu (zJ1 Hxu) (zJ1 Hpu) (zJ1 Hk) (by have := (zJ1 Hb1).size; omega) (zJ1 HbV') (by rw [hnm0, hnd0]; exact zJ1 Hm2) (zJ1 Hg2) A4 c4 (by rw [hnd0, zJ1 Hfl]; exact zJ1 Ho3) (by rw [zJ1 Hfl]; exact zJ1 Hg3) hnpq (zJ1 HnV) (zJ1 HyV) (fun h => ⟨((zJ1 HdV) h).1, ((zJ1 HdV) h).2.keep rfl⟩)
    rw [zJ1 Hfl] at hfin
    unfold AddE
    rw [zJ1 Hadd]
    exact ⟨rfl, fun _ => ⟨_, A4, c4, hfin.1⟩, ((zJ1 Hb1).mono hlo).trans hfin.2⟩
   ·have q2 : ((x.kind : Int) == 2) = false := by rw [hk]; rfl
    have q3 : ((x.kind : Int) == 1) = false := by rw [hk]; rfl
    have v6t : W.cell? ⟨w.heap.size, 6, none⟩ = some (.string x.to) := ((zJ1 Hbk1).belowSz (zJ1 HbW)).cell rfl
    have Hkk := zJ2 hk
    clear hk hkind
    go_wp2_with fail
    obtain ⟨np, hnp⟩ : ∃ np : Pl, (⟨W.heap.size, 0, none, 0, 0⟩ : Pl) = np := ⟨_, rfl⟩
    have hbV : Below w1.heap.size w1 (W.alloc (.cells #[.int .u8 (x.kind : Nat), .int .u16 (x.mode : Nat), .int .u32 (x.uid : Nat), .int .u32 (x.gid : Nat), .int .i64 (n : Nat), .int .i64 (flen : Nat), .pointer (some ⟨pu.q, 0, none⟩), .string nm, .string x.to] 131)) := (zJ1 HbW).alloc (zJ1 HbW).size _
    have hndV : Blk (W.alloc (.cells #[.int .u8 (x.kind : Nat), .int .u16 (x.mode : Nat), .int .u32 (x.uid : Nat), .int .u32 (x.gid : Nat), .int .i64 (n : Nat), .int .i64 (flen : Nat), .pointer (some ⟨pu.q, 0, none⟩), .string nm, .string x.to] 131)) np.q (blkT (Vf.ndOf x up).m.kind) (ndC (Vf.ndOf x up) F.length pu.q np) := by
     have e1 : ndC (Vf.ndOf x up) F.length pu.q np = [.int .u8 (x.kind : Nat), .int .u16 (x.mode : Nat), .int .u32 (x.uid : Nat), .int .u32 (x.gid : Nat), .int .i64 (n : Nat), .int .i64 (flen : Nat), .pointer (some ⟨pu.q, 0, none⟩), .string nm, .string x.to] := by
      unfold ndC lastV
      rw [show (Vf.ndOf x up).m.kind = x.kind from rfl, if_neg (by rw [zJ1 Hkk]; decide), if_neg (by rw [zJ1 Hkk]; decide), zJ1 Hfl]
      try rw [<- hnp]
      simp only [Vf.ndOf, zJ1 Hdl, zJ1 Hnm]
      rfl
     have e2 : blkT (Vf.ndOf x up).m.kind = 131 := by rw [show (Vf.ndOf x up).m.kind = x.kind from rfl, zJ1 Hkk]; rfl
     rw [e1, e2, <- hnp]
     exact Blk.new W 131 [.int .u8 (x.kind : Nat), .int .u16 (x.mode : Nat), .int .u32 (x.uid : Nat), .int .u32 (x.gid : Nat), .int .i64 (n : Nat), .int .i64 (flen : Nat), .pointer (some ⟨pu.q, 0, none⟩), .string nm, .string x.to]
    have hbyV : (Vf.ndOf x up).m.kind = 1 -> np.n = (Vf.ndOf x up).data.length /\ np.n <= np.c /\ RdI (W.alloc (.cells #[.int .u8 (x.kind : Nat), .int .u16 (x.mode : Nat), .int .u32 (x.uid : Nat), .int .u32 (x.gid : Nat), .int .i64 (n : Nat), .int .i64 (flen : Nat), .pointer (some ⟨pu.q, 0, none⟩), .string nm, .string x.to] 131)) w1.heap.size 5 1 np.A np.n ((Vf.ndOf x up).data.map fun b => Value.int .u8 (b.toNat : Nat)) := by
     intro h
     have : x.kind = 1 := h
     rw [zJ1 Hkk] at this
     cases this
    have hdmV : (Vf.ndOf x up).m.kind = 2 -> w1.heap.size <= np.g /\ MapG (W.alloc (.cells #[.int .u8 (x.kind : Nat), .int .u16 (x.mode : Nat), .int .u32 (x.uid : Nat), .int .u32 (x.gid : Nat), .int .i64 (n : Nat), .int .i64 (flen : Nat), .pointer (some ⟨pu.q, 0, none⟩), .string nm, .string x.to] 131)) np.g .string [] := by
     intro h
     have : x.kind = 2 := h
     rw [zJ1 Hkk] at this
     cases this
    have hnpq : w1.heap.size <= np.q := by rw [<- hnp]; exact (zJ1 HbW).size
    have hnpe : np.q = W.heap.size := by rw [<- hnp]
    clear hnp
    generalize (W.alloc (.cells #[.int .u8 (x.kind : Nat), .int .u16 (x.mode : Nat), .int .u32 (x.uid : Nat), .int .u32 (x.gid : Nat), .int .i64 (n : Nat), .int .i64 (flen : Nat), .pointer (some ⟨pu.q, 0, none⟩), .string nm, .string x.to] 131)) = V at *
    rw [<- hnpe]
    clear hnpe
    have HbV := zJ2 hbV
    have HnV := zJ2 hndV
    have HyV := zJ2 hbyV
    have HdV := zJ2 hdmV
    clear hbV hndV hbyV hdmV
    obtain ⟨-, z1, z2, z3, z4, z5, z6, z7⟩ := (zJ1 HSK') V (zJ1 HbV)
    have hmu := ((zJ1 HW1).map up xu pu (zJ1 Hxu) (zJ1 Hpu) (zJ1 Hk)).2.belowSz (zJ1 HbV)
    obtain ⟨_, uu, _, hbu⟩ := (zJ1 HW1).nd up xu pu (zJ1 Hxu) (zJ1 Hpu)
    have e8 : lastV xu pu = .map (some pu.g) := by unfold lastV; rw [if_pos (zJ1 Hk)]
    have z8 : V.cell? ⟨pu.q, 8, none⟩ = some (lastV xu pu) := (hbu.belowSz (zJ1 HbV)).cell rfl
    rw [e8] at z8
    have z7' : World.cell? { heap := V.heap, tape := V.tape, drawn := V.drawn + 1, os := V.os, output := V.output } ⟨b3, o3 + k1, none⟩ = some (.string nm) := z7
    have z8' : World.cell? { heap := V.heap, tape := V.tape, drawn := V.drawn + 1, os := V.os, output := V.output } ⟨pu.q, 8, none⟩ = some (.map (some pu.g)) := z8
    have hmuD : MapG V.drew pu.g .string (kidsM F L up) := ⟨hmu.there, hmu.keys, hmu.once⟩
    have hnone := uJv (zJ1 HF) (L := L) (hcn)
    have HmuD := zJ2 hmuD
    have Hnone := zJ2 hnone
    clear v6t v1 v2 v3 v4 v5 v6 v7 y0 y1 y2 y3 y4 y5 y6 y7 z1 z2 z3 z4 z5 z6 hmu hbu e8 hmuD hnone
    go_still_tail 9, (by kernel_rfl)
    change wpList _ _ _ _ _ V.drew
    refine xJc (x := .string nm) (g := pu.g) rfl _ _ _ rfl Tryz.underlying73 Tryz.underlying9 (by simp [Go.MapKept.IsKey]) rfl rfl rfl (zJ1 HmuD) (zJ1 Hnone) ?_
    intro V2 hm2 hg2 hs2
    have HbV' : Hid (Below w1.heap.size w1 V.drew) := zJ2 (zJ3 (zJ1 HbV))
    obtain ⟨f2, r2, s2, f3⟩ := (zJ1 HW1).addF (zJ1 Hxu) (zJ1 Hpu) (zJ1 Hk) (zJ1 HbV') hg2
    have u0 : V2.cell? ⟨f, 0, none⟩ = some (.slice A F.length c) := f2.cell rfl
    rw [zJ1 Hfl] at u0
    have Hr2 := zJ2 r2
    have Hf3 := zJ2 f3
    have Hm2 := zJ2 hm2
    have Hg2 := zJ2 hg2
    have hlo2 : lo <= V2.heap.size := by have := (zJ1 Hb1).size; omega
    clear f2 r2 s2 f3 hm2 hg2 hs2 z7 z8 z7' z8'
    go_wp2_with (at_builtin; refine yJh nodeTy rfl _ _ rfl lo (.slice A flen c) flen _ rfl (by have := zJ1 Hr2; rw [zJ1 Hfl] at this; exact this) #[.iface 129 (.pointer (some ⟨np.q, 0, none⟩))] rfl rfl (by simp [Value.oneCell']) (by omega) hlo2 ?_; intro A4 c4 V3 ho3 hg3 hat3; have hff := (zJ1 Hf3) V3 (by rw [zJ1 Hfl]; exact hg3); have t0 : V3.cell? ⟨f, 0, none⟩ = some (.slice A F.length c) := hff.cell rfl; rw [zJ1 Hfl] at t0; have tf : V3.frozen? ⟨f, 0, none⟩ = false := hff.free 0; have Ho3 := zJ2 ho3; have Hg3 := zJ2 hg3; clear ho3 hg3 hat3 hff)
    go_ret
    have hnd0 : ndV (Vf.ndOf x up) np = .iface 129 (.pointer (some ⟨np.q, 0, none⟩)) := by unfold ndV kindT; rw [show (Vf.ndOf x up).m.kind = x.kind from rfl, zJ1 Hkk]; rfl
    have hnm0 : (Vf.ndOf x up).name = nm := zJ1 Hnm
    have hfin := (zJ1 HW1).addFin (V := V.drew) (V2 := V2) (V3 := V3) (zJ1 HF) (Vf.ndOf x up) np xu pu (zJ1 Hxu) (zJ1 Hpu) (zJ1 Hk) (by have := (zJ1 Hb1).size; omega) (zJ1 HbV') (by rw [hnm0, hnd0]; exact zJ1 Hm2) (zJ1 Hg2) A4 c4 (by rw [hnd0, zJ1 Hfl]; exact zJ1 Ho3) (by rw [zJ1 Hfl]; exact zJ1 Hg3) hnpq (zJ1 HnV) (zJ1 HyV) (fun h => ⟨((zJ1 HdV) h).1, ((zJ1 HdV) h).2.keep rfl⟩)
    rw [zJ1 Hfl] at hfin
    unfold AddE
    rw [zJ1 Hadd]
    exact ⟨rfl, fun _ => ⟨_, A4, c4, hfin.1⟩, ((zJ1 Hb1).mono hlo).trans hfin.2⟩
end Go.Proofs.YtiiiblmhlhikkaaGreatDoor
namespace Go.Proofs.YtiiiblmhlhikkaaGreatDoor
open Go.RowKit Go.ChangeShapes Go.WideShapes Go.Joins Go.Deep
section
variable {H : Type} {enc : TypeId × Value -> H} {P : Program} {w : World} {base : Nat} {held : Bool}
theorem flds_one {spare : Nat -> Bool} {t : TypeId} {fs : Array Field} {fuel : Nat} {cs : List Value} {x : DataW H × List MemPlace} (ht : P.underlying t = some (.struct fs)) (hone : oneCellFields P fs = true) (hC : P.cellsOf t = fs.size)
  (h : DataW.trod enc P w base spare held fuel t cs = some x) : cs.length = fs.size /\ ∃ n, ∀ (i : Nat) (f : Field) (v : Value), fs[i]? = some f -> cs[i]? = some v -> ∃ y, DataW.trod enc P w base spare held n f.type [v] = some y := by
 obtain ⟨xs, n, _, rfl, hl, hlen, hf⟩ := DataW.trod_struct ht h
 refine ⟨hl.trans hC, n, fun i f v hi hv => ?_⟩
 obtain ⟨o, k⟩ := hone_of hone i f hi
 have hi2 : i < fs.size := (Array.getElem?_eq_some_iff.1 hi).1
 have h1 := hf i f hi
 have e : ((cs.drop f.offset).take (P.cellsOf f.type)) = [v] := by
  rw [o, k]
  have hlt : i < cs.length := (List.getElem?_eq_some_iff.1 hv).1
  rw [List.drop_eq_getElem_cons hlt, (List.getElem?_eq_some_iff.1 hv).2]
  rfl
 rw [e] at h1
 exact ⟨_, h1.trans (List.getElem?_eq_getElem (by omega))⟩
theorem vJj {t : TypeId} (tys : Array TypeId) {fuel : Nat} {cs : List Value} {x : DataW H × List MemPlace}
  (hS : ∃ fs, P.underlying t = some (.struct fs) /\ oneCellFields P fs = true /\ P.cellsOf t = fs.size /\ fs.map (·.type) = tys)
  (h : DataW.trod enc P w base (fun _ => true) held fuel t cs = some x) : cs.length = tys.size /\ ∃ n, ∀ (i : Nat) (t : TypeId) (v : Value), tys[i]? = some t -> cs[i]? = some v -> ∃ y, DataW.trod enc P w base (fun _ => true) held n t [v] = some y := by
 obtain ⟨fs, ht, hone, hC, hty⟩ := hS
 obtain ⟨hl, n, hf⟩ := flds_one ht hone hC h
 refine ⟨by rw [<- hty]; simpa using hl, n, fun i t v hi hv => ?_⟩
 rw [<- hty, Array.getElem?_map] at hi
 cases hq : fs[i]? with
 | none => rw [hq] at hi; cases hi
 | some f =>
  rw [hq] at hi
  obtain ⟨y, hy⟩ := hf i f v hq hv
  have e : f.type = t := by simpa using hi
  rw [e] at hy
  exact ⟨y, hy⟩
theorem fcells_at {a : Addr} {k : Nat} {cs : List Value} (h : w.cells? base a k = some cs) : cs.length = k /\ ∀ j, j < k -> w.cell? (a.add j) = cs[j]? := by
 unfold World.cells? at h
 split at h
 ·have hl := mapM_some_length h
  refine ⟨by simpa using hl, fun j hj => ?_⟩
  exact mapM_some_get h j j (by simp [hj])
 ·cases h
theorem fslice_is {t e : TypeId} {fuel : Nat} {v : Value} {y : DataW H × List MemPlace} (ht : P.underlying t = some (.slice e)) (hf : DataW.trod enc P w base (fun _ => true) held fuel t [v] = some y) : ∃ A n c, v = .slice A n c := by
 obtain ⟨a, l, c, h⟩ := slice_form ht hf
 simp only [List.cons.injEq, and_true] at h
 exact ⟨a, l, c, h⟩
theorem wJ4 {t : TypeId} {fuel : Nat} {v : Value} {y : DataW H × List MemPlace} (ht : P.underlying t = some (.int .u32)) (hf : DataW.trod enc P w base (fun _ => true) held fuel t [v] = some y) : ∃ n : Nat, v = .int .u32 n /\ n < 4294967296 := by
 obtain ⟨z, q, -, hw⟩ := DataW.trod_int ht hf
 simp only [List.cons.injEq, and_true] at q
 have b : 0 <= z /\ z <= 4294967295 := by simpa [Lit.wf, IntKind.min, IntKind.max, IntKind.signed, IntKind.bits] using hw
 obtain ⟨n, rfl⟩ := Int.eq_ofNat_of_zero_le b.1
 exact ⟨n, q, by omega⟩
theorem fu16_is {t : TypeId} {fuel : Nat} {v : Value} {y : DataW H × List MemPlace} (ht : P.underlying t = some (.int .u16)) (hf : DataW.trod enc P w base (fun _ => true) held fuel t [v] = some y) : ∃ n : Nat, v = .int .u16 n /\ n < 65536 := by
 obtain ⟨z, q, -, hw⟩ := DataW.trod_int ht hf
 simp only [List.cons.injEq, and_true] at q
 have b : 0 <= z /\ z <= 65535 := by simpa [Lit.wf, IntKind.min, IntKind.max, IntKind.signed, IntKind.bits] using hw
 obtain ⟨n, rfl⟩ := Int.eq_ofNat_of_zero_le b.1
 exact ⟨n, q, by omega⟩
theorem fu8_is {t : TypeId} {fuel : Nat} {v : Value} {y : DataW H × List MemPlace} (ht : P.underlying t = some (.int .u8)) (hf : DataW.trod enc P w base (fun _ => true) held fuel t [v] = some y) : ∃ n : Nat, v = .int .u8 n /\ n < 256 := by
 obtain ⟨z, q, -, hw⟩ := DataW.trod_int ht hf
 simp only [List.cons.injEq, and_true] at q
 have b : 0 <= z /\ z <= 255 := by simpa [Lit.wf, IntKind.min, IntKind.max, IntKind.signed, IntKind.bits] using hw
 obtain ⟨n, rfl⟩ := Int.eq_ofNat_of_zero_le b.1
 exact ⟨n, q, by omega⟩
theorem fint_is {t : TypeId} {fuel : Nat} {v : Value} {y : DataW H × List MemPlace} (ht : P.underlying t = some (.int .i64)) (hf : DataW.trod enc P w base (fun _ => true) held fuel t [v] = some y) : ∃ n : Int, v = .int .i64 n /\ -9223372036854775808 <= n /\ n <= 9223372036854775807 := by
 obtain ⟨z, q, -, hw⟩ := DataW.trod_int ht hf
 simp only [List.cons.injEq, and_true] at q
 have b : -9223372036854775808 <= z /\ z <= 9223372036854775807 := by simpa [Lit.wf, IntKind.min, IntKind.max, IntKind.signed, IntKind.bits] using hw
 exact ⟨z, q, b⟩
theorem fstr_is {t : TypeId} {fuel : Nat} {v : Value} {y : DataW H × List MemPlace} (ht : P.underlying t = some .string) (hf : DataW.trod enc P w base (fun _ => true) held fuel t [v] = some y) : ∃ s : ByteArray, v = .string s /\ s.size <= maxLen := by
 obtain ⟨s, q, -, bs⟩ := DataW.trod_string ht hf
 simp only [List.cons.injEq, and_true] at q
 exact ⟨s, q, bs⟩
theorem fbool_is {t : TypeId} {fuel : Nat} {v : Value} {y : DataW H × List MemPlace} (ht : P.underlying t = some .bool) (hf : DataW.trod enc P w base (fun _ => true) held fuel t [v] = some y) : ∃ b : Bool, v = .bool b := by
 obtain ⟨s, q, -⟩ := DataW.trod_bool ht hf
 simp only [List.cons.injEq, and_true] at q
 exact ⟨s, q⟩
def rowCs {α : Type} (vals : α -> List Value) (l : List α) : List Value := l.flatMap vals
theorem yJq {α : Type} {vals : α -> List Value} {size : Nat} (hv : ∀ s, (vals s).length = size) (l : List α) : (rowCs vals l).length = l.length * size := by
 induction l with
 | nil => simp [rowCs]
 | cons s r ih =>
  have : (rowCs vals (s :: r)).length = size + (rowCs vals r).length := by simp [rowCs, hv]
  rw [this, ih, List.length_cons, Nat.add_mul]
  omega
theorem rowCs_app {α : Type} (vals : α -> List Value) (a b : List α) : rowCs vals (a ++ b) = rowCs vals a ++ rowCs vals b := by simp [rowCs]
theorem wJp {α : Type} {vals : α -> List Value} {size : Nat} (hv : ∀ s, (vals s).length = size) (l : List α) (k : Nat) (s : α) (hk : l[k]? = some s) (j : Nat) (hj : j < size) : (rowCs vals l)[k * size + j]? = (vals s)[j]? := by
 have hlt := (List.getElem?_eq_some_iff.1 hk).1
 have e : l = l.take k ++ s :: l.drop (k + 1) := by
  rw [<- (List.getElem?_eq_some_iff.1 hk).2, <- List.drop_eq_getElem_cons hlt, List.take_append_drop]
 have hl : (rowCs vals (l.take k)).length = k * size := by rw [yJq hv, List.length_take]; congr 1; omega
 conv => lhs; rw [e]
 rw [rowCs_app, List.getElem?_append_right (by omega), hl, Nat.add_sub_cancel_left]
 show (vals s ++ rowCs vals (l.drop (k + 1)))[j]? = _
 rw [List.getElem?_append_left (by rw [hv]; exact hj)]
theorem vJe {α : Type} [Inhabited α] {A : Option Addr} {n c fuel size : Nat} {t e : TypeId} {x : DataW H × List MemPlace} (ht : P.underlying t = some (.slice e)) (h6 : P.cellsOf e = size) (hpos : 0 < size) (vals : α -> List Value) (ok : α -> Prop) (hv : ∀ s, (vals s).length = size)
  (hone : ∀ fuel cs x, DataW.trod enc P w base (fun _ => true) held fuel e cs = some x -> ∃ s, cs = vals s /\ ok s)
  (h : DataW.trod enc P w base (fun _ => true) held fuel t [.slice A n c] = some x) :
  ∃ l : List α, Rd w w.heap.size size A n (rowCs vals l) /\ l.length = n /\ n <= c /\ c <= maxLen /\ ∀ s ∈ l, ok s := by
 rcases Go.Deep.open_slice ht h with ⟨h1, h2⟩ | ⟨a, len, cap, m, k, D, Pl, h1, hb, hl, hm, hmm, hx, hel⟩
 ·simp at h1
  obtain ⟨rfl, rfl, rfl⟩ := h1
  exact ⟨[], Rd.none_ _ _ _ _, rfl, Nat.le_refl _, by unfold maxLen; omega, by simp⟩
 ·simp at h1
  obtain ⟨rfl, rfl, rfl⟩ := h1
  simp only [if_true] at hmm
  have each : ∀ i, i < n -> ∃ s : α, ok s /\ ∀ j, j < size -> w.cell? (a.add (i * size + j)) = (vals s)[j]? := by
   intro i hi
   obtain ⟨cs, hc, ht⟩ := hel i (by omega)
   rw [h6] at hc
   obtain ⟨s, rfl, hs⟩ := hone _ _ _ ht
   obtain ⟨_, hcell⟩ := fcells_at hc
   refine ⟨s, hs, fun j hj => ?_⟩
   have := hcell j hj
   rw [<- this]
   congr 1
   by_cases g1 : i * size = 0 <;> by_cases g2 : j = 0 <;> simp [Addr.add, g1, g2, Nat.add_assoc]
  obtain ⟨S, hS⟩ := Go.Deep.choose_lt each
  refine ⟨(List.range n).map S, ⟨by rw [yJq hv]; simp, ?_⟩, by simp, hl, hm, ?_⟩
  ·by_cases h0 : n = 0
   ·subst h0; exact .inl rfl
   ·obtain ⟨b, off, spot⟩ := a
    have hs0 := (hS 0 (by omega)).2 0 hpos
    have hlt0 : 0 < (vals (S 0)).length := by rw [hv]; exact hpos
    have hs : spot = none := by simpa [Addr.add] using World.cell?_spot (hs0.trans (List.getElem?_eq_getElem hlt0))
    subst hs
    have hc2 : ∀ i, i < n -> ∀ j, j < size -> w.cell? ⟨b, off + (i * size + j), none⟩ = (vals (S i))[j]? := fun i hi j hj => by
     rw [<- Go.WideShapes.add_plain]; exact (hS i hi).2 j hj
    have hblk : b < w.heap.size := cell_lt (a := ⟨b, off + (0 * size + 0), none⟩) ((hc2 0 (by omega) 0 hpos).trans (List.getElem?_eq_getElem hlt0))
    refine .inr ⟨b, off, rfl, hblk, fun j u hu => ?_⟩
    have hj : j < n * size := by
     have := (List.getElem?_eq_some_iff.1 hu).1
     rw [yJq hv] at this
     simpa using this
    have hq : j / size < n := (Nat.div_lt_iff_lt_mul hpos).2 hj
    have hr : j % size < size := Nat.mod_lt _ hpos
    have hjj : j / size * size + j % size = j := by rw [Nat.mul_comm]; exact Nat.div_add_mod j size
    have hat := wJp hv ((List.range n).map S) (j / size) (S (j / size)) (by simp [hq]) (j % size) hr
    rw [hjj] at hat
    have := hc2 (j / size) hq (j % size) hr
    rw [hjj] at this
    rw [this, <- hat, hu]
  ·intro s hs
   simp only [List.mem_map, List.mem_range] at hs
   obtain ⟨i, hi, rfl⟩ := hs
   exact (hS i hi).1
end
end Go.Proofs.YtiiiblmhlhikkaaGreatDoor
namespace Go.Proofs.YtiiiblmhlhikkaaGreatDoor
open Go.RowKit
def Vf.new (es : List Vf.Ent) : Int × Int × List Vf.Nd :=
 if 64 < es.length then (15, -1, []) else if (Vf.adds [Vf.root] 0 es).1 ≠ 0 then ((Vf.adds [Vf.root] 0 es).1, ((Vf.adds [Vf.root] 0 es).2.1 : Nat), []) else (0, 0, (Vf.adds [Vf.root] 0 es).2.2)
structure EntA where
 e : Vf.Ent
 A : Option Addr
 n : Nat
 c : Nat
instance : Inhabited EntA := ⟨⟨⟨⟨#[]⟩, 0, 0, 0, 0, [], ⟨#[]⟩⟩, none, 0, 0⟩⟩
def entVals (s : EntA) : List Value := ventC s.e s.A s.n s.c
structure EntOk (w : World) (s : EntA) : Prop where
 d : Rd w w.heap.size 1 s.A s.n (bys s.e.data)
 n : s.n <= 4294967296
 p : s.e.path.size <= 4294967296
 t : s.e.to.size <= 4294967296
 m : s.e.mode < 65536
theorem EntOk.below {w w' : World} {s : EntA} (h : EntOk w s) (hb : Below w.heap.size w w') : EntOk w' s := ⟨h.d.belowSz hb, h.n, h.p, h.t, h.m⟩
def NewE (es : List Vf.Ent) (w : World) (e : Ending) (w' : World) : Prop :=
 Below w.heap.size w w' /\ (((Vf.new es).1 ≠ 0 /\ e = .returned (.tuple #[.pointer none, .int .i64 (Vf.new es).1, .int .i64 (Vf.new es).2.1])) \/
  ((Vf.new es).1 = 0 /\ ∃ f A c L, e = .returned (.tuple #[ptrV f, .int .i64 0, .int .i64 0]) /\ FsM w' w.heap.size f A c (Vf.new es).2.2 L /\ Vf.Good (Vf.new es).2.2 /\ (Vf.new es).2.2.length = es.length + 1 /\ (Vf.new es).2.1 = 0 /\ es.length <= 64))
theorem FsM.start (w : World) : FsM ((((w.alloc (.map #[] 0)).alloc (.cells #[.int .u8 2, .int .u16 493, .int .u32 0, .int .u32 0, .int .i64 0, .int .i64 0, .pointer (some ⟨w.heap.size + 1, 0, none⟩), .string ⟨#[]⟩, .map (some w.heap.size)] 75)).alloc (.cells #[.iface 68 (.pointer (some ⟨w.heap.size + 1, 0, none⟩))] 123)).alloc (.cells #[.slice (some ⟨w.heap.size + 2, 0, none⟩) 1 1] 78)) w.heap.size (w.heap.size + 3) (some ⟨w.heap.size + 2, 0, none⟩) 1 [Vf.root] [⟨w.heap.size + 1, w.heap.size, none, 0, 0⟩] := by
 have m0 := MapG.nil w .string
 have d1 : Blk ((w.alloc (.map #[] 0)).alloc (.cells #[.int .u8 2, .int .u16 493, .int .u32 0, .int .u32 0, .int .i64 0, .int .i64 0, .pointer (some ⟨w.heap.size + 1, 0, none⟩), .string ⟨#[]⟩, .map (some w.heap.size)] 75)) (w.heap.size + 1) 75 [.int .u8 2, .int .u16 493, .int .u32 0, .int .u32 0, .int .i64 0, .int .i64 0, .pointer (some ⟨w.heap.size + 1, 0, none⟩), .string ⟨#[]⟩, .map (some w.heap.size)] := by
  have := Blk.new (w.alloc (.map #[] 0)) 75 [.int .u8 2, .int .u16 493, .int .u32 0, .int .u32 0, .int .i64 0, .int .i64 0, .pointer (some ⟨w.heap.size + 1, 0, none⟩), .string ⟨#[]⟩, .map (some w.heap.size)]
  rw [World.size_alloc] at this
  exact this
 have m2 := (m0.belowSz ((Below.refl _ _).alloc (Nat.le_refl _) (.cells #[.int .u8 2, .int .u16 493, .int .u32 0, .int .u32 0, .int .i64 0, .int .i64 0, .pointer (some ⟨w.heap.size + 1, 0, none⟩), .string ⟨#[]⟩, .map (some w.heap.size)] 75)))
 generalize hW : (w.alloc (.map #[] 0)).alloc (.cells #[.int .u8 2, .int .u16 493, .int .u32 0, .int .u32 0, .int .i64 0, .int .i64 0, .pointer (some ⟨w.heap.size + 1, 0, none⟩), .string ⟨#[]⟩, .map (some w.heap.size)] 75) = W at *
 have hsz : W.heap.size = w.heap.size + 2 := by rw [<- hW]; simp
 have r0 : (W.alloc (.cells #[.iface 68 (.pointer (some ⟨w.heap.size + 1, 0, none⟩))] 123)).ownsRow w.heap.size 123 1 (.slice (some ⟨w.heap.size + 2, 0, none⟩) 1 1) 1 [.iface 68 (.pointer (some ⟨w.heap.size + 1, 0, none⟩))] :=
  ⟨rfl, .inr ⟨w.heap.size + 2, 1, #[.iface 68 (.pointer (some ⟨w.heap.size + 1, 0, none⟩))], rfl, by omega, by rw [<- hsz]; exact heap_alloc_new _ _, by omega, by unfold maxLen; omega, rfl, rfl⟩⟩
 have f0 := Blk.new (W.alloc (.cells #[.iface 68 (.pointer (some ⟨w.heap.size + 1, 0, none⟩))] 123)) 78 [.slice (some ⟨w.heap.size + 2, 0, none⟩) 1 1]
 rw [World.size_alloc, hsz] at f0
 have hbb : Below W.heap.size W ((W.alloc (.cells #[.iface 68 (.pointer (some ⟨w.heap.size + 1, 0, none⟩))] 123)).alloc (.cells #[.slice (some ⟨w.heap.size + 2, 0, none⟩) 1 1] 78)) := ((Below.refl _ _).alloc (Nat.le_refl _) _).alloc (by simp) _
 have only : ∀ {i : Nat} {x : Vf.Nd} {p : Pl}, [Vf.root][i]? = some x -> [(⟨w.heap.size + 1, w.heap.size, none, 0, 0⟩ : Pl)][i]? = some p -> i = 0 /\ x = Vf.root /\ p = ⟨w.heap.size + 1, w.heap.size, none, 0, 0⟩ := by
  intro i x p h1 h2
  cases i with
  | zero => exact ⟨rfl, by simpa using h1.symm, by simpa using h2.symm⟩
  | succ i => simp at h1
 refine ⟨rfl, by omega, f0, r0.alloc _, ?_, ?_, ?_, ?_⟩
 ·intro i x p h1 h2
  obtain ⟨rfl, rfl, rfl⟩ := only h1 h2
  exact ⟨by simp, _, rfl, d1.belowSz hbb⟩
 ·intro i x p h1 h2 h3
  obtain ⟨rfl, rfl, rfl⟩ := only h1 h2
  cases h3
 ·intro i x p h1 h2 h3
  obtain ⟨rfl, rfl, rfl⟩ := only h1 h2
  exact ⟨Nat.le_refl _, m2.belowSz hbb⟩
 ·intro i j x y p r h1 h2 h3 h4 _ _ _
  rw [(only h1 h3).1, (only h2 h4).1]
theorem adds_step {F : List Vf.Nd} {es : List Vf.Ent} {k : Nat} {x : Vf.Ent} (hx : es[k]? = some x) : Vf.adds F k (es.drop k) = if (Vf.add F x).1 ≠ 0 then ((Vf.add F x).1, k, F) else Vf.adds (Vf.add F x).2 (k + 1) (es.drop (k + 1)) := by
 have hlt := (List.getElem?_eq_some_iff.1 hx).1
 rw [List.drop_eq_getElem_cons hlt, (List.getElem?_eq_some_iff.1 hx).2]
 rfl
set_option maxRecDepth 100000 in
set_option maxHeartbeats 4000000 in
theorem new_any (l : List EntA) (A : Option Addr) (n c : Nat) (w : World) (h : Rd w w.heap.size 7 A n (rowCs entVals l)) (hl : l.length = n) (hok : ∀ s ∈ l, EntOk w s) (hn : n <= 4294967296) :
  Calls Tryz.prog 9 #[.slice A n c] w (NewE (l.map (·.e)) w) := by
 have hlm : (l.map (·.e)).length = n := by simpa using hl
 have hmm := @run_makeMap Tryz.prog
 have H := zJ2 h
 have Hl := zJ2 hl
 have Hok := zJ2 hok
 have Hlm := zJ2 hlm
 clear h hl hok hlm
 by_cases h64 : 64 < n
 ·have g1 : (64 : Int) < (n : Int) := by omega
  have hnew : Vf.new (l.map (·.e)) = (15, -1, []) := by unfold Vf.new; rw [if_pos (by rw [zJ1 Hlm]; exact h64)]
  have Hnew := zJ2 hnew
  clear h64 hnew
  go_enter Tryz.func9, Tryz.ntmps9
  go_wp2_with fail
  go_ret3
  unfold NewE
  rw [zJ1 Hnew]
  exact ⟨Below.refl _ _, .inl ⟨by decide, rfl⟩⟩
 ·have g1 : ¬ (64 : Int) < (n : Int) := by omega
  have hFS := FsM.start w
  have HFS := zJ2 hFS
  clear hFS
  go_enter Tryz.func9, Tryz.ntmps9
  go_wp2_with fail
  have hB4 : Below w.heap.size w ((((w.alloc (.map #[] 0)).alloc (.cells #[.int .u8 2, .int .u16 493, .int .u32 0, .int .u32 0, .int .i64 0, .int .i64 0, .pointer (some ⟨w.heap.size + 1, 0, none⟩), .string ⟨#[]⟩, .map (some w.heap.size)] 75)).alloc (.cells #[.iface 68 (.pointer (some ⟨w.heap.size + 1, 0, none⟩))] 123)).alloc (.cells #[.slice (some ⟨w.heap.size + 2, 0, none⟩) 1 1] 78)) :=
   ((((Below.refl _ _).alloc (Nat.le_refl _) _).alloc (by simp) _).alloc (by simp; omega) _).alloc (by simp; omega) _
  have HB4 := zJ2 hB4
  clear hB4
  go_loopg [30] n (fun gk iv wr => ∃ (k : Nat) (F : List Vf.Nd) (L : List Pl) (A' : Option Addr) (c' : Nat), gk = n - k /\ k <= n /\ iv = .int .i64 (k : Nat) /\ Vf.adds [Vf.root] 0 (l.map (·.e)) = Vf.adds F k ((l.map (·.e)).drop k) /\ Vf.Good F /\ F.length = k + 1 /\ FsM wr w.heap.size (w.heap.size + 3) A' c' F L /\ Below w.heap.size w wr)
  case atStart => exact ⟨0, [Vf.root], _, _, _, by omega, Nat.zero_le _, rfl, rfl, Vf.good_root, rfl, zJ1 HFS, zJ1 HB4⟩
  case round =>
  obtain ⟨k, F, L, A', c', hgk, hk, rfl, hadds, hF, hFl, hFS, hB⟩ := hrel
  have Hgk := zJ2 hgk
  have Hadds := zJ2 hadds
  have HF := zJ2 hF
  have HFl := zJ2 hFl
  have HFSk := zJ2 hFS
  have HB := zJ2 hB
  clear hgk hadds hF hFl hFS hB
  by_cases hlt : k < n
  ·obtain ⟨s, hs⟩ : ∃ s, l[k]? = some s := ⟨_, List.getElem?_eq_getElem (by rw [zJ1 Hl]; exact hlt)⟩
   obtain ⟨b1, o1, rfl, hb1, c1⟩ := (zJ1 H).open_ (by
    intro h0
    have := yJq (vals := entVals) (size := 7) (fun _ => rfl) l
    rw [h0, zJ1 Hl] at this
    simp at this
    omega)
   have hc : ∀ j u, (entVals s)[j]? = some u -> wr.cell? ⟨b1, o1 + (k * 7 + j), none⟩ = some u := by
    intro j u hu
    have hj : j < 7 := (List.getElem?_eq_some_iff.1 hu).1
    refine ((zJ1 HB).cell (p := ⟨b1, _, none⟩) hb1).trans (c1 _ _ ?_)
    rw [wJp (vals := entVals) (size := 7) (fun _ => rfl) l k s hs j hj, hu]
   have x0 := hc 0 _ rfl
   have x1 := hc 1 _ rfl
   have x2 := hc 2 _ rfl
   have x3 := hc 3 _ rfl
   have x4 := hc 4 _ rfl
   have x5 := hc 5 _ rfl
   have x6 := hc 6 _ rfl
   rw [Nat.add_zero] at x0
   simp only [<- Nat.add_assoc] at x1 x2 x3 x4 x5 x6
   have ilt : (k : Int) < (n : Int) := by omega
   have Hs := zJ2 hs
   have hsm : s ∈ l := List.mem_of_getElem? hs
   have hes : (l.map (·.e))[k]? = some s.e := by rw [List.getElem?_map, hs]; rfl
   have hstep := adds_step (F := F) hes
   have hok := (zJ1 Hok) s hsm
   have hbA : Below w.heap.size w (wr.alloc (.cells #[.string s.e.path, .int .u8 (s.e.kind : Nat), .int .u16 (s.e.mode : Nat), .int .u32 (s.e.uid : Nat), .int .u32 (s.e.gid : Nat), .slice s.A s.n s.c, .string s.e.to] 66)) := (zJ1 HB).alloc (zJ1 HB).size _
   have hok2 := hok.below hbA
   have KA := add_any F L w.heap.size (w.heap.size + 3) c' A' s.A s.n s.c s.e (wr.alloc (.cells #[.string s.e.path, .int .u8 (s.e.kind : Nat), .int .u16 (s.e.mode : Nat), .int .u32 (s.e.uid : Nat), .int .u32 (s.e.gid : Nat), .slice s.A s.n s.c, .string s.e.to] 66)) (zJ1 HF) ((zJ1 HFSk).belowSz ((Below.refl _ _).alloc (Nat.le_refl _) _)) hbA.size (by rw [zJ1 HFl]; omega) hok2.d hok2.n hok2.p hok2.t hok2.m
   unfold entV ptrV at KA
   have HKA := zJ2 KA
   have HbA := zJ2 hbA
   have Hstep := zJ2 hstep
   clear hc c1 hs hsm hes hstep hok hbA hok2 KA
   go_wp2_with fail
   refine (zJ1 HKA).mono ?_
   rintro e w2 ⟨rfl, hfs2, hb2⟩
   have Hb2 := zJ2 ((zJ1 HbA).trans hb2)
   by_cases ha : (Vf.add F s.e).1 = 0
   ·obtain ⟨L2, A2, c2, hF2⟩ := hfs2 ha
    have HF2 := zJ2 hF2
    have hg2 := Vf.add_good (zJ1 HF) ha
    have hst := zJ1 Hstep
    rw [if_neg (by simp [ha])] at hst
    have hlen2 : (Vf.add F s.e).2.length = k + 1 + 1 := by
     obtain ⟨_, up, _, _, _, he⟩ := Vf.add_ok ha
     rw [he, List.length_append, zJ1 HFl]
     rfl
    have Hg2 := zJ2 hg2
    have Hst := zJ2 hst
    have Hlen2 := zJ2 hlen2
    rw [ha]
    clear ha hfs2 hb2 hF2 hg2 hst hlen2 x0 x1 x2 x3 x4 x5 x6
    go_wp2_with fail
    go_roundg (n - (k + 1))
    case rel => exact ⟨k + 1, _, L2, A2, c2, rfl, by omega, by go_num, (zJ1 Hadds).trans (zJ1 Hst), zJ1 Hg2, zJ1 Hlen2, zJ1 HF2, zJ1 Hb2⟩
    case measure => rw [zJ1 Hgk]; omega
   ·obtain ⟨er, her⟩ : ∃ v, (Vf.add F s.e).1 = v := ⟨_, rfl⟩
    have q1 : (er != 0) = true := by rw [<- her]; simp [ha]
    have hst := zJ1 Hstep
    rw [if_pos ha] at hst
    have hnew : Vf.new (l.map (·.e)) = (er, ((k : Nat) : Int), []) := by
     unfold Vf.new
     rw [if_neg (by rw [zJ1 Hlm]; exact h64), (zJ1 Hadds).trans hst, her]
     rw [her] at ha
     rw [if_pos ha]
    have Hnew := zJ2 hnew
    rw [her] at ha
    have Ha := zJ2 ha
    rw [her]
    clear ha hfs2 hb2 hst hnew her x0 x1 x2 x3 x4 x5 x6
    go_wp2_with fail
    go_ret3
    unfold NewE
    rw [zJ1 Hnew]
    exact ⟨zJ1 Hb2, .inl ⟨zJ1 Ha, rfl⟩⟩
  ·have hkn : k = n := by omega
   have ilt : ¬ (k : Int) < (n : Int) := by omega
   go_wp2_with fail
   go_ret3
   have ha := zJ1 Hadds
   rw [List.drop_of_length_le (by rw [zJ1 Hlm]; omega)] at ha
   have hnew : Vf.new (l.map (·.e)) = (0, 0, F) := by
    unfold Vf.new
    rw [if_neg (by rw [zJ1 Hlm]; exact h64), ha]
    rfl
   unfold NewE
   rw [hnew]
   exact ⟨zJ1 HB, .inr ⟨rfl, _, A', c', L, rfl, zJ1 HFSk, zJ1 HF, by rw [zJ1 HFl, zJ1 Hlm, hkn], rfl, by rw [zJ1 Hlm]; omega⟩⟩
end Go.Proofs.YtiiiblmhlhikkaaGreatDoor
namespace Go.Proofs.YtiiiblmhlhikkaaGreatDoor
namespace Clo
def tA : ByteArray := ⟨#[97]⟩
def tB : ByteArray := ⟨#[98]⟩
def fM : List UInt8 := nfile [tA]
def fA : List UInt8 := nfile [tB, tA]
def fB : List UInt8 := nfile []
theorem lenfM : fM.length = 299 := by kernel_rfl
theorem lenfA : fA.length = 317 := by kernel_rfl
theorem lenfB : fB.length = 281 := by kernel_rfl
def anE : List Vf.Ent := [⟨⟨#[47, 109, 97, 105, 110]⟩, 1, 493, 0, 0, fM, ⟨#[]⟩⟩, ⟨⟨#[47, 108, 105, 98]⟩, 2, 493, 0, 0, [], ⟨#[]⟩⟩, ⟨⟨#[47, 108, 105, 98, 47, 97]⟩, 1, 493, 0, 0, fA, ⟨#[]⟩⟩, ⟨⟨#[47, 108, 105, 98, 47, 98]⟩, 1, 493, 0, 0, fB, ⟨#[]⟩⟩]
theorem an_new : (Vf.new anE).1 = 0 := by kernel_rfl
theorem an_err : (closure (Vf.new anE).2.2 ⟨Vf.zc, ⟨#[]⟩, false⟩ 1).2 = 0 := by kernel_rfl
theorem an_ino : (closure (Vf.new anE).2.2 ⟨Vf.zc, ⟨#[]⟩, false⟩ 1).1.map (·.ino) = [1, 3, 4] := by kernel_rfl
theorem an_dir : (closure (Vf.new anE).2.2 ⟨Vf.zc, ⟨#[]⟩, false⟩ 2).2 = 9 := by kernel_rfl
end Clo
end Go.Proofs.YtiiiblmhlhikkaaGreatDoor
namespace Go.Proofs.YtiiiblmhlhikkaaGreatDoor
open Go.RowKit
section
variable {P : Program} {t e : TypeId} {size bytes : Nat}
theorem rd_src (T : SlTy P t e size bytes) {w : World} {B : Nat} {A : Option Addr} {m : Nat} {xs : List Value} (h : Rd w B size A m xs) (hm : 0 < m) : ∃ ad, A = some ad /\ ∀ j u, xs[j]? = some u -> w.cell? (ad.add j) = some u := by
 rcases h.2 with rfl | ⟨b, off, rfl, _, hc⟩
 ·exfalso
  have h1 := h.1
  simp only [List.length_nil] at h1
  have := Nat.mul_pos hm T.hsz
  omega
 ·exact ⟨_, rfl, fun j u hu => by rw [Addr.add_lit]; exact hc j u hu⟩
theorem run_appG (T : SlTy P t e size bytes) (w : World) (ty : TypeId) (A : Option Addr) (n B : Nat) (olds : List Value) (hr : Rd w B size A n olds) (B2 : Nat) (A2 : Option Addr) (m c : Nat) (news : List Value) (hr2 : Rd w B2 size A2 m news)
  (h1 : ∀ u ∈ news, u.oneCell' = true) (hb : (n + m) * bytes <= 140737488355328) :
  ∃ v' w', (Builtin.append_ #[t, t] ty #[.slice A n n, .slice A2 m c]).run P w = .ok v' w' /\ ((m = 0 /\ v' = .slice A n n /\ w' = w) \/ (0 < m /\ w'.ownsRow w.heap.size e size v' (n + m) (olds ++ news) /\ w.grownBy w' none)) := by
 have T' := T
 obtain ⟨ht, ⟨i, z, hi, hz, hs, hby, hzs⟩, hsz, hbp⟩ := T
 have h63 : n + m <= maxLen := by
  have : (n + m) * 1 <= (n + m) * bytes := Nat.mul_le_mul_left _ hbp
  unfold maxLen
  omega
 rcases Nat.eq_zero_or_pos m with rfl | hm
 ·have hn0 : news = [] := List.eq_nil_of_length_eq_zero (by simpa using hr2.1)
  subst hn0
  refine ⟨_, _, ?_, .inl ⟨rfl, rfl, rfl⟩⟩
  cases A2 with
  | none => exact run_append_nothing w t t ty e i ht hi A n n (Nat.le_refl _) _ (Src.ofNil w ht c)
  | some a => exact run_append_nothing w t t ty e i ht hi A n n (Nat.le_refl _) _ (Src.ofSlice w ht a 0 c [] (by simp) (by simp) (by simp))
 ·obtain ⟨ad, rfl, hc2⟩ := rd_src T' hr2 hm
  cases A with
  | some b0 =>
   have hc : ∀ j u, olds[j]? = some u -> w.cell? (b0.add j) = some u := by
    intro j u hu
    rcases hr.2 with rfl | ⟨b, off, ha, _, hc⟩
    ·simp at hu
    ·injection ha with ha
     subst ha
     rw [Addr.add_lit]
     exact hc j u hu
   obtain ⟨v', w', hrun, r1, r2⟩ := run_append_arg_grows (P := P) w t ty e i z size bytes ht hi hz hs hby hzs hsz b0 n n olds hr.1 hc ad m c news hr2.1 hc2 (by omega) h63 hb
   exact ⟨v', w', hrun, .inr ⟨hm, r1, r2⟩⟩
  | none =>
   have hn : n = 0 /\ olds = [] := by
    rcases hr.2 with rfl | ⟨b, off, ha, _, _⟩
    ·have h1 := hr.1
     simp only [List.length_nil] at h1
     refine ⟨?_, rfl⟩
     rcases Nat.eq_zero_or_pos n with h | h
     ·exact h
     ·have := Nat.mul_pos h hsz
      omega
    ·cases ha
   obtain ⟨rfl, rfl⟩ := hn
   obtain ⟨v', w', hrun, r1, r2, _⟩ := run_append_own (P := P) w w.heap.size t ty e i z size bytes ht hi hz hs hby hzs hsz (.slice none 0 0) 0 [] (World.ownsRow_nil w _ e size) ad m c news hr2.1 hc2 h1 h63 hb (Nat.le_refl _)
   exact ⟨v', w', hrun, .inr ⟨hm, r1, r2⟩⟩
theorem wp_appG (T : SlTy P t e size bytes) {w : World} {o : Oper} {a : Act} {K : Act -> World -> Prop} {Q : Exit -> Act -> World -> Prop} (s x : Operand)
  (ho : o.op = .call { callee := .builtin .append, args := #[s, x], argTypes := #[t, t] })
  (A : Option Addr) (n B : Nat) (olds : List Value) (hs : a.eval s = .slice A n n) (hr : Rd w B size A n olds) (hB : B <= w.heap.size)
  (B2 : Nat) (A2 : Option Addr) (m c : Nat) (news : List Value) (hx : a.eval x = .slice A2 m c) (hr2 : Rd w B2 size A2 m news) (h1 : ∀ u ∈ news, u.oneCell' = true)
  (hb : (n + m) * bytes <= 140737488355328)
  (h : ∀ A' c' w', n + m <= c' -> Rd w' w'.heap.size size A' (n + m) (olds ++ news) -> Below w.heap.size w w' -> K (a.put o.dst (.slice A' (n + m) c')) w') : o.wp P a w K Q := by
 obtain ⟨v', w', hrun, h2⟩ := run_appG T w o.type A n B olds hr B2 A2 m c news hr2 h1 hb
 unfold Oper.wp execOp
 simp only [ho, resolve, invoke, builtin, Sem.run_bind, Sem.run_pure, Result.andThen_ok, List.map_toArray, List.map_cons, List.map_nil, hs, hx, hrun]
 rcases h2 with ⟨rfl, rfl, rfl⟩ | ⟨hm, h3, h4⟩
 ·have hn0 : news = [] := List.eq_nil_of_length_eq_zero (by simpa using hr2.1)
  subst hn0
  rw [List.append_nil] at h
  exact h A n w' (Nat.le_refl _) (hr.more hB) (Below.refl _ _)
 ·obtain ⟨A', c', rfl⟩ := yJd h3
  refine h A' c' w' ?_ (Rd.of_own h3) ((Below.refl _ _).grown h4 (Nat.le_refl _) (fun k hk => by cases hk))
  rcases h3.2 with ⟨e1, e2⟩ | ⟨g, cap, cur, e1, _, _, e4, _⟩
  ·omega
  ·injection e1 with _ _ e1
   omega
theorem wJ8 (T : SlTy P t e size bytes) {w : World} {ops : Array Oper} {rest : List Oper} {o : Oper} {a : Act} {Q : Exit -> Act -> World -> Prop} (hgd : o.guard = none) (s x : Operand)
  (ho : o.op = .call { callee := .builtin .append, args := #[s, x], argTypes := #[t, t] })
  (A : Option Addr) (n B : Nat) (olds : List Value) (hs : a.eval s = .slice A n n) (hr : Rd w B size A n olds)
  (B2 : Nat) (A2 : Option Addr) (m c : Nat) (news : List Value) (hx : a.eval x = .slice A2 m c) (hr2 : Rd w B2 size A2 m news) (h1 : ∀ u ∈ news, u.oneCell' = true)
  (hb : (n + m) * bytes <= 140737488355328) (hm : 0 < m)
  (h : ∀ A' c' w', w'.ownsRow w.heap.size e size (.slice A' (n + m) c') (n + m) (olds ++ news) -> Below w.heap.size w w' -> wpList P ops Q rest (a.put o.dst (.slice A' (n + m) c')) w') : wpList P ops Q (o :: rest) a w := by
 refine wpList_plain hgd fun _ hK => ?_
 obtain ⟨v', w', hrun, h2⟩ := run_appG T w o.type A n B olds hr B2 A2 m c news hr2 h1 hb
 unfold Oper.wp execOp
 simp only [ho, resolve, invoke, builtin, Sem.run_bind, Sem.run_pure, Result.andThen_ok, List.map_toArray, List.map_cons, List.map_nil, hs, hx, hrun]
 rcases h2 with ⟨rfl, _⟩ | ⟨_, h3, h4⟩
 ·omega
 ·obtain ⟨A', c', rfl⟩ := yJd h3
  exact hK _ _ (h A' c' w' h3 ((Below.refl _ _).grown h4 (Nat.le_refl _) (fun k hk => by cases hk)))
end
open Go.RowKit
def QRow (w : World) (base : Nat) (e : TypeId) (size : Nat) (A : Option Addr) (n c : Nat) (xs : List Value) : Prop :=
 xs.length = n * size /\ n <= c /\ c <= maxLen /\ (c = 0 \/ ∃ b off, A = some ⟨b, off, none⟩ /\ base <= b /\ b < w.heap.size /\ (∃ arr fr, w.heap[b]? = some (.cells arr e fr)) /\ (∀ j u, xs[j]? = some u -> w.cell? ⟨b, off + j, none⟩ = some u) /\
  ∀ j, j < c * size -> (w.cell? ⟨b, off + j, none⟩).isSome = true /\ w.frozen? ⟨b, off + j, none⟩ = false)
def qblk (A : Option Addr) (c : Nat) : Option Nat := if c = 0 then none else A.map (·.block)
theorem yJw {b off c : Nat} (h : 0 < c) : qblk (some ⟨b, off, none⟩) c = some b := if_neg (by omega)
section
variable {P : Program} {t e : TypeId} {size bytes : Nat}
theorem QRow.nil (w : World) (base size : Nat) (e : TypeId) (A : Option Addr) : QRow w base e size A 0 0 [] := ⟨by simp, Nat.le_refl _, by unfold maxLen; omega, .inl rfl⟩
theorem QRow.keep {w w' : World} {base n c : Nat} {A : Option Addr} {xs : List Value} (h : QRow w base e size A n c xs) (hs : w.heap.size <= w'.heap.size) (hb : ∀ b, qblk A c = some b -> b < w.heap.size -> w'.heap[b]? = w.heap[b]?) : QRow w' base e size A n c xs := by
 obtain ⟨h1, h2, h3, h4⟩ := h
 refine ⟨h1, h2, h3, ?_⟩
 by_cases hc : c = 0
 ·exact .inl hc
 rcases h4 with h4 | ⟨b, off, rfl, g1, g2, ⟨arr, fr, gt⟩, g3, g4⟩
 ·exact .inl h4
 refine .inr ?_
 have e := hb b (yJw (by omega)) g2
 refine ⟨b, off, rfl, g1, by omega, ⟨arr, fr, e.trans gt⟩, fun j u hu => (World.cell?_of_block (a := ⟨b, off + j, none⟩) e).trans (g3 j u hu), fun j hj => ?_⟩
 rw [World.cell?_of_block (a := ⟨b, off + j, none⟩) e, World.frozen?_of_block (a := ⟨b, off + j, none⟩) e]
 exact g4 j hj
theorem QRow.below {w w' : World} {base n c : Nat} {A : Option Addr} {xs : List Value} (h : QRow w base e size A n c xs) (hb : Below w.heap.size w w') : QRow w' base e size A n c xs := h.keep hb.size fun b _ hl => hb.block b hl
theorem QRow.tail {w : World} {base n c : Nat} {A : Option Addr} {x xs : List Value} (h : QRow w base e size A (n + 1) c (x ++ xs)) (hx : x.length = size) : QRow w base e size (if c = 1 then A else A.map (·.add (1 * size))) n (c - 1) xs := by
 obtain ⟨h1, h2, h3, h4⟩ := h
 rw [List.length_append, hx, Nat.add_mul] at h1
 refine ⟨by omega, by omega, by omega, ?_⟩
 by_cases hc : c = 1
 ·exact .inl (by omega)
 ·rcases h4 with h4 | ⟨b, off, rfl, g1, g2, gt, g3, g4⟩
  ·omega
  ·rw [if_neg hc]
   refine .inr ⟨b, off + size, by rw [Option.map_some, Addr.add_lit, Nat.one_mul], g1, g2, gt, fun j u hu => ?_, fun j hj => ?_⟩
   ·rw [Nat.add_assoc]
    exact g3 _ _ (by rw [List.getElem?_append_right (by omega), hx, Nat.add_sub_cancel_left]; exact hu)
   ·rw [Nat.add_assoc]
    refine g4 _ ?_
    obtain ⟨d, rfl⟩ : ∃ d, c = d + 1 := ⟨c - 1, by omega⟩
    rw [Nat.add_mul]
    simp only [Nat.add_sub_cancel] at hj
    omega
theorem QRow.head {w : World} {base n c : Nat} {A : Option Addr} {x xs : List Value} (h : QRow w base e size A (n + 1) c (x ++ xs)) : ∃ b off, A = some ⟨b, off, none⟩ /\ base <= b /\ b < w.heap.size /\ ∀ j u, x[j]? = some u -> w.cell? ⟨b, off + j, none⟩ = some u := by
 obtain ⟨h1, h2, h3, h4⟩ := h
 rcases h4 with h4 | ⟨b, off, rfl, g1, g2, gt, g3, g4⟩
 ·omega
 ·exact ⟨b, off, rfl, g1, g2, fun j u hu => g3 j u (by rw [List.getElem?_append_left (List.getElem?_eq_some_iff.1 hu).1]; exact hu)⟩
theorem xJi (g : Nat) : ∀ (vs : List Value) (o : Nat) (w : World), (w.setCells g o vs).tape = w.tape
 | [], _, _ => rfl
 | v :: r, o, w => xJi g r (o + 1) (w.setCell ⟨g, o, none⟩ v)
theorem yJ7 (g : Nat) : ∀ (vs : List Value) (o : Nat) (w : World), (w.setCells g o vs).heap.size = w.heap.size
 | [], _, _ => rfl
 | v :: r, o, w => (yJ7 g r (o + 1) (w.setCell ⟨g, o, none⟩ v)).trans (by simp)
theorem type_setCell {w : World} {b : Nat} {e : TypeId} (a : Addr) (v : Value) (h : ∃ arr fr, w.heap[b]? = some (.cells arr e fr)) : ∃ arr fr, (w.setCell a v).heap[b]? = some (.cells arr e fr) := by
 obtain ⟨arr, fr, h⟩ := h
 by_cases hb : a.block = b
 ·subst hb
  unfold World.setCell
  refine ⟨if a.spot.isSome then arr else arr.setIfInBounds a.off v, fr, ?_⟩
  simp [Array.getElem?_modify, h]
 ·exact ⟨arr, fr, (heap_setCell_other _ _ _ _ (fun e => hb e.symm)).trans h⟩
theorem xJh (g : Nat) {b : Nat} {e : TypeId} : ∀ (vs : List Value) (o : Nat) (w : World), (∃ arr fr, w.heap[b]? = some (.cells arr e fr)) -> ∃ arr fr, (w.setCells g o vs).heap[b]? = some (.cells arr e fr)
 | [], _, _, h => h
 | v :: r, o, w, h => xJh g r (o + 1) (w.setCell ⟨g, o, none⟩ v) (type_setCell _ _ h)
theorem QRow.not {w : World} {base n c b2 : Nat} {A : Option Addr} {xs : List Value} (h : QRow w base e size A n c xs) {arr : Array Value} {e2 : TypeId} {fr : Nat × Nat} (h2 : w.heap[b2]? = some (.cells arr e2 fr)) (hne : e2 ≠ e) : qblk A c ≠ some b2 := by
 intro hb
 have hc : 0 < c := by
  unfold qblk at hb
  split at hb
  ·cases hb
  ·omega
 rcases h.2.2.2 with h0 | ⟨b, off, rfl, g1, g2, ⟨a1, f1, gt⟩, -⟩
 ·omega
 ·rw [yJw hc] at hb
  have : b = b2 := by injection hb
  subst this
  rw [gt] at h2
  simp at h2
  exact hne h2.2.1.symm
theorem run_appQ (T : SlTy P t e size bytes) (w : World) (base : Nat) (ty : TypeId) (A : Option Addr) (n c : Nat) (xs : List Value) (hq : QRow w base e size A n c xs) (B : Nat) (A2 : Option Addr) (m c2 : Nat) (news : List Value) (hr : Rd w B size A2 m news)
  (h1 : ∀ u ∈ news, u.oneCell' = true) (hb : (n + m) * bytes <= 140737488355328) (hbase : base <= w.heap.size) (hm : 0 < m) :
  ∃ A' c' w', (Builtin.append_ #[t, t] ty #[.slice A n c, .slice A2 m c2]).run P w = .ok (.slice A' (n + m) c') w' /\ QRow w' base e size A' (n + m) c' (xs ++ news) /\ w.grownBy w' (qblk A c) /\ ∀ k, qblk A' c' = some k -> qblk A c = some k \/ w.heap.size <= k := by
 obtain ⟨ad, rfl, hc2⟩ := rd_src T hr hm
 obtain ⟨ht, ⟨i, z, hi, hz, hs, hby, hzs⟩, hsz, hbp⟩ := T
 subst hs
 subst hby
 obtain ⟨q1, q2, q3, q4⟩ := hq
 have hnl := hr.1
 have h63 : n + m <= maxLen := by
  have : (n + m) * 1 <= (n + m) * i.bytes := Nat.mul_le_mul_left _ hbp
  unfold maxLen
  omega
 have hlen : (xs ++ news).length = (n + m) * i.size := by rw [List.length_append, q1, hnl, Nat.add_mul]
 have hsr := Src.ofSlice (P := P) w ht ad m c2 news hnl hc2 h1
 by_cases hroom : n + m <= c
 ·rcases q4 with q4 | ⟨b, off, rfl, g1, g2, gt, g3, g4⟩
  ·omega
  have hle : (n + m) * i.size <= c * i.size := Nat.mul_le_mul_right _ hroom
  rw [Nat.add_mul] at hle
  have hsome : ∀ j, j < news.length -> (w.cell? ⟨b, off + n * i.size + j, none⟩).isSome = true := fun j hj => by rw [Nat.add_assoc]; exact (g4 _ (by omega)).1
  have hrun := run_append_room_src (P := P) w t t ty e i ht hi b off n c _ m news hsr hroom hsome (fun j hj => by rw [Nat.add_assoc]; exact (g4 _ (by omega)).2)
  refine ⟨_, _, _, hrun, ⟨hlen, hroom, q3, .inr ⟨b, off, rfl, g1, by rw [yJ7]; exact g2, xJh b _ _ _ gt, fun j u hu => ?_, fun j hj => ?_⟩⟩, ⟨World.os_setCells _ _ _ _, xJi _ _ _ _, World.output_setCells _ _ _ _, by rw [yJ7]; exact Nat.le_refl _, fun k hk hne => World.heap_setCells_other w b _ news hk (fun e => hne (by rw [e, yJw (by omega)]))⟩, fun k hk => .inl hk⟩
  ·by_cases hj : j < xs.length
   ·rw [World.cell?_setCells_out b _ _ _ _ (fun _ _ => Or.inl (by show off + j < off + n * i.size; omega))]
    exact g3 j u (by rw [List.getElem?_append_left hj] at hu; exact hu)
   ·rw [List.getElem?_append_right (by omega)] at hu
    obtain ⟨hjl, hju⟩ := List.getElem?_eq_some_iff.1 hu
    have := World.cell?_setCells_in b news (off + n * i.size) w hsome (j - xs.length) hjl
    rw [show off + n * i.size + (j - xs.length) = off + j by omega] at this
    rw [this, hju]
  ·refine ⟨?_, (World.frozen?_setCells b _ _ _ _).trans (g4 j hj).2⟩
   by_cases hin : n * i.size <= j /\ j < n * i.size + news.length
   ·have := World.cell?_setCells_in b news (off + n * i.size) w hsome (j - n * i.size) (by omega)
    rw [show off + n * i.size + (j - n * i.size) = off + j by omega] at this
    rw [this]
    rfl
   ·rw [World.cell?_setCells_out b _ _ _ _ (fun _ _ => by show off + j < off + n * i.size \/ off + n * i.size + news.length <= off + j; omega)]
    exact (g4 j hj).1
 ·have hold : (Builtin.firstCells i.size n (.slice A n c)).run P w.drew = .ok xs.toArray w.drew := by
   rcases q4 with q4 | ⟨b, off, rfl, g1, g2, gt, g3, g4⟩
   ·have hn0 : n = 0 := by omega
    subst hn0
    have hx : xs = [] := List.eq_nil_of_length_eq_zero (by simpa using q1)
    subst hx
    cases A with
    | none => exact run_firstCells_none w.drew i.size 0 0 c
    | some a => exact run_firstCells_some w.drew i.size 0 a 0 c [] (by simp) (by intro _ _ h'; simp at h')
   ·exact run_firstCells_some w.drew i.size n ⟨b, off, none⟩ n c xs q1 (fun j u hu => by rw [Addr.add_lit]; exact g3 j u hu)
  have hrun := run_append_grow_src (P := P) w t t ty e i z ht hi hz A n c xs hold _ m news hsr (by omega) (by simp only [maxLen] at h63; omega) (growslice_fits (by omega) hb)
  have hge := grownCap_ge w (n + m) c e
  have hcm := grownCap_le_maxLen w (n + m) c e h63
  have hsz2 : ((xs ++ news).toArray ++ Builtin.zeroCells z.cells (grownCap w (n + m) c e - (n + m))).size = grownCap w (n + m) c e * i.size := by
   rw [Array.size_append, List.size_toArray, hlen, size_zeroCells, hzs, <- Nat.add_mul]
   congr 1
   omega
  refine ⟨_, _, _, hrun, ⟨hlen, hge, hcm, .inr ⟨w.heap.size, 0, rfl, hbase, by simp, ⟨_, _, heap_alloc_new w.drew _⟩, fun j u hu => ?_, fun j hj => ⟨?_, ?_⟩⟩⟩, ⟨rfl, rfl, rfl, by simp, fun k hk _ => Below.heap_alloc w.drew _ k hk⟩, fun k hk => .inr ?_⟩
  ·rw [Nat.zero_add]
   have e1 : (w.drew.alloc (.cells ((xs ++ news).toArray ++ Builtin.zeroCells z.cells (grownCap w (n + m) c e - (n + m))) e)).cell? ⟨w.heap.size, j, none⟩ = _ := World.cell?_alloc_new w.drew _ _ j
   rw [e1, Array.getElem?_append_left (by simp only [List.size_toArray]; exact (List.getElem?_eq_some_iff.1 hu).1), List.getElem?_toArray]
   exact hu
  ·rw [Nat.zero_add]
   have e1 : (w.drew.alloc (.cells ((xs ++ news).toArray ++ Builtin.zeroCells z.cells (grownCap w (n + m) c e - (n + m))) e)).cell? ⟨w.heap.size, j, none⟩ = _ := World.cell?_alloc_new w.drew _ _ j
   rw [e1, Array.getElem?_eq_getElem (by rw [hsz2]; exact hj)]
   rfl
  ·rw [Nat.zero_add]
   exact World.frozen?_alloc_new w.drew _ _ j
  ·unfold qblk at hk
   split at hk
   ·cases hk
   ·have : w.heap.size = k := by injection hk
    omega
theorem wp_appQ1 (T : SlTy P t e size bytes) {W : World} {o : Oper} {a : Act} {K : Act -> World -> Prop} {Q : Exit -> Act -> World -> Prop} (s x : Operand)
  (ho : o.op = .call { callee := .builtin .append, args := #[s, x], argTypes := #[t, t] })
  (base : Nat) (A : Option Addr) (n c : Nat) (xs : List Value) (hs : a.eval s = .slice A n c) (hq : QRow W base e size A n c xs)
  (cs : Array Value) (g : Nat) (hx : a.eval x = .slice (some ⟨g, 0, none⟩) 1 1) (hg : g = W.heap.size) (hcs : cs.size = size) (h1 : ∀ u ∈ cs.toList, u.oneCell' = true)
  (hb : (n + 1) * bytes <= 140737488355328) (hbase : base <= W.heap.size)
  (h : ∀ A' c' w', QRow w' base e size A' (n + 1) c' (xs ++ cs.toList) -> W.grownBy w' (qblk A c) -> (∀ k, qblk A' c' = some k -> qblk A c = some k \/ W.heap.size <= k) -> K (a.put o.dst (.slice A' (n + 1) c')) w') : o.wp P a (W.alloc (.cells cs e)) K Q := by
 subst hg
 obtain ⟨A', c', w', hrun, h2, h3, h4⟩ := run_appQ T (W.alloc (.cells cs e)) base o.type A n c xs (hq.below ((Below.refl _ _).alloc (Nat.le_refl _) _)) (W.heap.size + 1) (some ⟨W.heap.size, 0, none⟩) 1 1 cs.toList (Rd.row hcs) h1 hb (by simp; omega) (by omega)
 unfold Oper.wp execOp
 simp only [ho, resolve, invoke, builtin, Sem.run_bind, Sem.run_pure, Result.andThen_ok, List.map_toArray, List.map_cons, List.map_nil, hs, hx, hrun]
 exact h A' c' w' h2 (yJ5 (World.grownBy_alloc W _ _) h3) (fun k hk => (h4 k hk).imp id (fun h => by simp at h; omega))
end
open Go.RowKit
section
variable {P : Program} {ops : Array Oper} {W : World} {o : Oper} {a : Act} {S : World -> Prop}
theorem storeS {md : Region.Mode} {Q : Exit -> Act -> World -> Prop} {i : Nat} {oi : Oper} {fuel : Nat} {listed : Array Bool} (hi : ops[i]? = some oi) (hd : oi.dst = none)
  (hr : Region.ready md ops listed = [i]) (hw : Region.wanted oi (yielded ops a.tmps) = true) (ty : TypeId) (x y : Operand) (ho : oi.op = .store ty x y)
  (g : Nat) (cs old : Array Value) (hx : a.eval x = .pointer (some ⟨g, 0, none⟩)) (hy : a.eval y = .agg cs)
  (t : TypeId) (hg : W.heap[g]? = some (.cells old t (0, 0))) (hsz : (P.info? ty).map (·.size) = some cs.size) (hold : old.size = cs.size) (h1 : cs.all (·.oneCell') = true) (hS : S (W.setRow g cs))
  (h : wpAnyH P md ops Q S fuel (listed.setIfInBounds i true) a (W.setRow g cs)) : wpAnyH P md ops Q S (fuel + 1) listed a W := by
 refine wpAnyH_ready (rs := [i]) hr (by simp) ?_
 refine AllReadyH.cons hi (fun K hK => ?_) AllReadyH.nil
 rw [if_pos hw]
 refine wp_store_row ty x y ho g cs hx hy t old hg hsz hold h1 ?_
 rw [hd]
 exact hK.out _ _ hS (fun _ => h)
end
section
variable {ops : Array Oper} {o : Oper} {a : Act} {S : World -> Prop}
end
open Go.RowKit
theorem dqTy : SlTy Tryz.prog 94 54 5 104 := yJ0 (z := .agg #[.slice none 0 0, .string ⟨#[]⟩, .string ⟨#[]⟩, .slice none 0 0, .slice none 0 0]) Tryz.underlying94 (by kernel_rfl) rfl (by omega) (by omega)
structure QGrow (w w' : World) (base g : Nat) (r : Option Nat) : Prop where
 bel : Below base w w'
 size : w.heap.size <= w'.heap.size
 block : ∀ k, k < w.heap.size -> k ≠ g -> some k ≠ r -> w'.heap[k]? = w.heap[k]?
theorem QRow.ge {w : World} {base size n c k : Nat} {e : TypeId} {A : Option Addr} {xs : List Value} (h : QRow w base e size A n c xs) (hk : qblk A c = some k) : base <= k /\ k < w.heap.size := by
 have hc : 0 < c := by
  unfold qblk at hk
  split at hk
  ·cases hk
  ·omega
 rcases h.2.2.2 with h0 | ⟨b, off, rfl, g1, g2, -⟩
 ·omega
 ·rw [yJw hc] at hk
  have : b = k := by injection hk
  subst this
  exact ⟨g1, g2⟩
set_option maxRecDepth 100000 in
set_option maxHeartbeats 4000000 in
theorem qput_any (base g : Nat) (A : Option Addr) (n c : Nat) (xs : List Value) (A1 A2 A3 : Option Addr) (n1 c1 n2 c2 n3 c3 : Nat) (s1 s2 : ByteArray) (w : World) (hg : base <= g) (hb : base <= w.heap.size) (hk : Blk w g 96 [.slice A n c]) (hq : QRow w base 54 5 A n c xs) (hn : n <= 1000000) :
  Calls Tryz.prog 25 #[.pointer (some ⟨g, 0, none⟩), .agg #[.slice A1 n1 c1, .string s1, .string s2, .slice A2 n2 c2, .slice A3 n3 c3]] w fun e w' => e = .returned (.tuple #[]) /\ ∃ A' c', Blk w' g 96 [.slice A' (n + 1) c'] /\ QRow w' base 54 5 A' (n + 1) c' (xs ++ [.slice A1 n1 c1, .string s1, .string s2, .slice A2 n2 c2, .slice A3 n3 c3]) /\ QGrow w w' base g (qblk A c) /\ ∀ k, qblk A' c' = some k -> qblk A c = some k \/ w.heap.size <= k := by
 have hgl := hk.lt
 have hb1 : Below w.heap.size w (w.alloc (.cells #[.slice A1 n1 c1, .string s1, .string s2, .slice A2 n2 c2, .slice A3 n3 c3] 54)) := (Below.refl _ _).alloc (Nat.le_refl _) _
 have hx : Blk (w.alloc (.cells #[.slice A1 n1 c1, .string s1, .string s2, .slice A2 n2 c2, .slice A3 n3 c3] 54)) w.heap.size 54 [.slice A1 n1 c1, .string s1, .string s2, .slice A2 n2 c2, .slice A3 n3 c3] := Blk.new w 54 [.slice A1 n1 c1, .string s1, .string s2, .slice A2 n2 c2, .slice A3 n3 c3]
 have hk1 := hk.belowSz hb1
 have hq1 := hq.below hb1
 have e1 : (w.alloc (.cells #[.slice A1 n1 c1, .string s1, .string s2, .slice A2 n2 c2, .slice A3 n3 c3] 54)).heap.size = w.heap.size + 1 := by simp
 have hne : qblk A c ≠ some g := hq.not hk (by decide)
 have hne2 : qblk A c ≠ some w.heap.size := fun e => by have := (hq.ge e).2; omega
 have hbb := hb1.mono hb
 have w0 := hk.cell (i := 0) rfl
 have w5 := hk1.drew.cell (i := 0) rfl
 have w6 := ((hk1.drew).alloc (.cells #[.slice A1 n1 c1, .string s1, .string s2, .slice A2 n2 c2, .slice A3 n3 c3] 54)).cell (i := 0) rfl
 have HX := zJ2 hx.drew
 have HK := zJ2 hk1.drew
 have HQ := zJ2 (show QRow (w.alloc (.cells #[.slice A1 n1 c1, .string s1, .string s2, .slice A2 n2 c2, .slice A3 n3 c3] 54)).drew base 54 5 A n c xs from hq1)
 have HB := zJ2 (zJ3 hbb)
 have HSK' : Hid (∀ w' : World, Blk w' w.heap.size 54 [.slice A1 n1 c1, .string s1, .string s2, .slice A2 n2 c2, .slice A3 n3 c3] -> (w'.cell? ⟨w.heap.size, 0, none⟩ = some (.slice A1 n1 c1) /\ w'.cell? ⟨w.heap.size, 1, none⟩ = some (.string s1) /\ w'.cell? ⟨w.heap.size, 2, none⟩ = some (.string s2) /\ w'.cell? ⟨w.heap.size, 3, none⟩ = some (.slice A2 n2 c2) /\ w'.cell? ⟨w.heap.size, 4, none⟩ = some (.slice A3 n3 c3))) := zJ2 (fun w' h => ⟨h.cell (i := 0) rfl, h.cell (i := 1) rfl, h.cell (i := 2) rfl, h.cell (i := 3) rfl, h.cell (i := 4) rfl⟩)
 have hs1 : (w.alloc (.cells #[.slice A1 n1 c1, .string s1, .string s2, .slice A2 n2 c2, .slice A3 n3 c3] 54)).drew.heap.size = w.heap.size + 1 := e1
 clear hk hq hk1 hq1 hx hb1 hbb e1
 go_enter Tryz.func25, Tryz.ntmps25
 go_wp2_with fail
 refine wp_region_held_drew (S := fun w' => w'.cell? ⟨w.heap.size, 0, none⟩ = some (.slice A1 n1 c1) /\ w'.cell? ⟨w.heap.size, 1, none⟩ = some (.string s1) /\ w'.cell? ⟨w.heap.size, 2, none⟩ = some (.string s2) /\ w'.cell? ⟨w.heap.size, 3, none⟩ = some (.slice A2 n2 c2) /\ w'.cell? ⟨w.heap.size, 4, none⟩ = some (.slice A3 n3 c3)) (by kernel_rfl) ((zJ1 HSK') _ (zJ1 HX)) (fun HS0 => ?_)
 refine takeD (i := 0) (d := some 4) (v := ?_) rfl rfl (by kernel_rfl) (by kernel_rfl) (by kernel_rfl) (fun _ _ _ h => h) (Or.inl ⟨by rfl, ?y0⟩) HS0 ?_
 case y0 => (intro w' hSw; (try dsimp only at hSw); go_simp; (try with_reducible rfl))
 simp only [Act.put, List.setIfInBounds_toArray, List.set_cons_zero, List.set_cons_succ]
 refine takeD (i := 1) (d := some 5) (v := ?_) rfl rfl (by kernel_rfl) (by kernel_rfl) (by kernel_rfl) (fun _ _ _ h => h) (Or.inl ⟨by rfl, ?y1⟩) HS0 ?_
 case y1 => (intro w' hSw; (try dsimp only at hSw); go_simp; (try with_reducible rfl))
 simp only [Act.put, List.setIfInBounds_toArray, List.set_cons_zero, List.set_cons_succ]
 refine takeD (i := 2) (d := some 6) (v := ?_) rfl rfl (by kernel_rfl) (by kernel_rfl) (by kernel_rfl) (fun _ _ _ h => h) (Or.inl ⟨by rfl, ?y2⟩) HS0 ?_
 case y2 => (intro w' hSw; (try dsimp only at hSw); go_simp; (try with_reducible rfl))
 simp only [Act.put, List.setIfInBounds_toArray, List.set_cons_zero, List.set_cons_succ]
 refine takeD (i := 3) (d := some 7) (v := ?_) rfl rfl (by kernel_rfl) (by kernel_rfl) (by kernel_rfl) (fun _ _ _ h => h) (Or.inl ⟨by rfl, ?y3⟩) HS0 ?_
 case y3 => (intro w' hSw; (try dsimp only at hSw); go_simp; (try with_reducible rfl))
 simp only [Act.put, List.setIfInBounds_toArray, List.set_cons_zero, List.set_cons_succ]
 refine takeD (i := 5) (d := some 9) (v := ?_) rfl rfl (by kernel_rfl) (by kernel_rfl) (by kernel_rfl) (fun _ _ _ h => h) (Or.inl ⟨by rfl, ?y5⟩) HS0 ?_
 case y5 => (intro w' hSw; (try dsimp only at hSw); go_simp; (try with_reducible rfl))
 simp only [Act.put, List.setIfInBounds_toArray, List.set_cons_zero, List.set_cons_succ]
 refine wpAnyH_ready (rs := [4, 6]) (by kernel_rfl) (by simp) ?_
 refine AllReadyH.cons (i := 4) rfl (fun K hK => ?way4) (AllReadyH.cons (i := 6) rfl (fun K hK => ?way6) AllReadyH.nil)
 case way4 =>
  rw [if_pos (by rfl)]
  go_simp
  refine hK.out _ _ ((zJ1 HSK') _ (zJ1 HX)) (fun hHeld => ?_)
  clear hK K HS0
  have HS0 := hHeld
  clear hHeld
  (try simp only [Act.put, List.setIfInBounds_toArray, List.set_cons_zero, List.set_cons_succ])
  refine wpAnyH_ready (rs := [6]) (by kernel_rfl) (by simp) ?_
  refine AllReadyH.cons (i := 6) rfl (fun K hK => ?_) AllReadyH.nil
  rw [if_pos (by rfl)]
  go_simp
  refine hK.out _ _ ((zJ1 HSK') _ ((zJ1 HX).alloc _)) (fun hHeld => ?_)
  clear hK K HS0
  have HS0 := hHeld
  clear hHeld
  (try simp only [Act.put, List.setIfInBounds_toArray, List.set_cons_zero, List.set_cons_succ])
  refine wpAnyH_ready (rs := [7]) (by kernel_rfl) (by simp) ?_
  refine AllReadyH.cons (i := 7) rfl (fun K hK => ?_) AllReadyH.nil
  rw [if_pos (by rfl)]
  refine wp_appQ1 dqTy _ _ rfl base A n c xs rfl (zJ1 HQ) #[.slice A1 n1 c1, .string s1, .string s2, .slice A2 n2 c2, .slice A3 n3 c3] _ rfl (by simp) rfl (by intro u hu; simp at hu; rcases hu with rfl | rfl | rfl | rfl | rfl <;> rfl) (by omega) (by rw [hs1]; omega) ?_
  intro A6 c6 w8 ho6 hg6 hqk
  have Hqk := zJ2 hqk
  have Ho6 := zJ2 ho6
  have Hg6 := zJ2 hg6
  have hk8 : Blk w8 g 96 [.slice A n c] := (hg6.block g (by rw [hs1]; omega) (fun e => hne e.symm)).trans (zJ1 HK)
  have HK8 := zJ2 hk8
  have HE6 : Hid (Blk w8 w.heap.size 54 [.slice A1 n1 c1, .string s1, .string s2, .slice A2 n2 c2, .slice A3 n3 c3]) := zJ2 ((hg6.block w.heap.size (by rw [hs1]; omega) (fun e => hne2 e.symm)).trans (zJ1 HX))
  have v9 := hk8.cell (i := 0) rfl
  have f9 := hk8.free 0
  clear ho6 hg6 hk8 hqk
  refine hK.out _ _ ((zJ1 HSK') _ (zJ1 HE6)) (fun hHeld => ?_)
  clear hK K HS0
  have HS0 := hHeld
  clear hHeld
  (try simp only [Act.put, List.setIfInBounds_toArray, List.set_cons_zero, List.set_cons_succ])
  refine takeD (i := 8) (d := some 12) (v := ?_) rfl rfl (by kernel_rfl) (by kernel_rfl) (by kernel_rfl) (fun _ _ _ h => h) (Or.inl ⟨by rfl, ?y8⟩) HS0 ?_
  case y8 => (intro w' hSw; (try dsimp only at hSw); go_simp; (try with_reducible rfl))
  simp only [Act.put, List.setIfInBounds_toArray, List.set_cons_zero, List.set_cons_succ]
  refine takeD (i := 9) (d := some 13) (v := ?_) rfl rfl (by kernel_rfl) (by kernel_rfl) (by kernel_rfl) (fun _ _ _ h => h) (Or.inl ⟨by rfl, ?y9⟩) HS0 ?_
  case y9 => (intro w' hSw; (try dsimp only at hSw); go_simp; (try with_reducible rfl))
  simp only [Act.put, List.setIfInBounds_toArray, List.set_cons_zero, List.set_cons_succ]
  refine wpAnyH_ready (rs := [10]) (by kernel_rfl) (by simp) ?_
  refine AllReadyH.cons (i := 10) rfl (fun K hK => ?_) AllReadyH.nil
  rw [if_pos (by rfl)]
  go_simp
  refine hK.out _ _ ((zJ1 HSK') _ ((zJ1 HE6).other (p := ⟨g, 0, none⟩) (by dsimp only; omega) _)) (fun hHeld => ?_)
  clear hK K HS0
  have HS0 := hHeld
  clear hHeld
  (try simp only [Act.put, List.setIfInBounds_toArray, List.set_cons_zero, List.set_cons_succ])
  refine wpAnyH_done (by kernel_rfl) ?_ _
  clear v9 f9
  go_wp2_with fail
  go_end0
  refine ⟨rfl, A6, c6, (zJ1 HK8).set 0 _, (zJ1 Ho6).keep (by simp) (fun b hb hl => heap_setCell_other _ _ _ _ ?_), ⟨?_, ?_, ?_⟩, fun k hk => ((zJ1 Hqk) k hk).imp id (fun h => by rw [hs1] at h; omega)⟩
  ·intro e
   rw [show b = g from e] at hb
   exact (zJ1 Ho6).not (zJ1 HK8) (by decide) hb
  ·exact ((zJ1 HB).grown (zJ1 Hg6) (by rw [hs1]; omega) (fun k hk => ((zJ1 HQ).ge hk).1)).setCell (p := ⟨g, 0, none⟩) hg _
  ·have := (zJ1 Hg6).size
   rw [hs1] at this
   simp
   omega
  ·intro k hkl h1 h2
   rw [heap_setCell_other _ _ _ _ (by dsimp only; omega), (zJ1 Hg6).block k (by rw [hs1]; omega) h2]
   exact heap_alloc_old w _ hkl
 case way6 =>
  rw [if_pos (by rfl)]
  go_simp
  refine hK.out _ _ ((zJ1 HSK') _ ((zJ1 HX).alloc _)) (fun hHeld => ?_)
  clear hK K HS0
  have HS0 := hHeld
  clear hHeld
  (try simp only [Act.put, List.setIfInBounds_toArray, List.set_cons_zero, List.set_cons_succ])
  refine wpAnyH_ready (rs := [4]) (by kernel_rfl) (by simp) ?_
  refine AllReadyH.cons (i := 4) rfl (fun K hK => ?_) AllReadyH.nil
  rw [if_pos (by rfl)]
  go_simp
  refine hK.out _ _ ((zJ1 HSK') _ ((zJ1 HX).alloc _)) (fun hHeld => ?_)
  clear hK K HS0
  have HS0 := hHeld
  clear hHeld
  (try simp only [Act.put, List.setIfInBounds_toArray, List.set_cons_zero, List.set_cons_succ])
  refine wpAnyH_ready (rs := [7]) (by kernel_rfl) (by simp) ?_
  refine AllReadyH.cons (i := 7) rfl (fun K hK => ?_) AllReadyH.nil
  rw [if_pos (by rfl)]
  refine wp_appQ1 dqTy _ _ rfl base A n c xs rfl (zJ1 HQ) #[.slice A1 n1 c1, .string s1, .string s2, .slice A2 n2 c2, .slice A3 n3 c3] _ rfl (by simp) rfl (by intro u hu; simp at hu; rcases hu with rfl | rfl | rfl | rfl | rfl <;> rfl) (by omega) (by rw [hs1]; omega) ?_
  intro A6 c6 w8 ho6 hg6 hqk
  have Hqk := zJ2 hqk
  have Ho6 := zJ2 ho6
  have Hg6 := zJ2 hg6
  have hk8 : Blk w8 g 96 [.slice A n c] := (hg6.block g (by rw [hs1]; omega) (fun e => hne e.symm)).trans (zJ1 HK)
  have HK8 := zJ2 hk8
  have HE6 : Hid (Blk w8 w.heap.size 54 [.slice A1 n1 c1, .string s1, .string s2, .slice A2 n2 c2, .slice A3 n3 c3]) := zJ2 ((hg6.block w.heap.size (by rw [hs1]; omega) (fun e => hne2 e.symm)).trans (zJ1 HX))
  have v9 := hk8.cell (i := 0) rfl
  have f9 := hk8.free 0
  clear ho6 hg6 hk8 hqk
  refine hK.out _ _ ((zJ1 HSK') _ (zJ1 HE6)) (fun hHeld => ?_)
  clear hK K HS0
  have HS0 := hHeld
  clear hHeld
  (try simp only [Act.put, List.setIfInBounds_toArray, List.set_cons_zero, List.set_cons_succ])
  refine takeD (i := 8) (d := some 12) (v := ?_) rfl rfl (by kernel_rfl) (by kernel_rfl) (by kernel_rfl) (fun _ _ _ h => h) (Or.inl ⟨by rfl, ?y8⟩) HS0 ?_
  case y8 => (intro w' hSw; (try dsimp only at hSw); go_simp; (try with_reducible rfl))
  simp only [Act.put, List.setIfInBounds_toArray, List.set_cons_zero, List.set_cons_succ]
  refine takeD (i := 9) (d := some 13) (v := ?_) rfl rfl (by kernel_rfl) (by kernel_rfl) (by kernel_rfl) (fun _ _ _ h => h) (Or.inl ⟨by rfl, ?y9⟩) HS0 ?_
  case y9 => (intro w' hSw; (try dsimp only at hSw); go_simp; (try with_reducible rfl))
  simp only [Act.put, List.setIfInBounds_toArray, List.set_cons_zero, List.set_cons_succ]
  refine wpAnyH_ready (rs := [10]) (by kernel_rfl) (by simp) ?_
  refine AllReadyH.cons (i := 10) rfl (fun K hK => ?_) AllReadyH.nil
  rw [if_pos (by rfl)]
  go_simp
  refine hK.out _ _ ((zJ1 HSK') _ ((zJ1 HE6).other (p := ⟨g, 0, none⟩) (by dsimp only; omega) _)) (fun hHeld => ?_)
  clear hK K HS0
  have HS0 := hHeld
  clear hHeld
  (try simp only [Act.put, List.setIfInBounds_toArray, List.set_cons_zero, List.set_cons_succ])
  refine wpAnyH_done (by kernel_rfl) ?_ _
  clear v9 f9
  go_wp2_with fail
  go_end0
  refine ⟨rfl, A6, c6, (zJ1 HK8).set 0 _, (zJ1 Ho6).keep (by simp) (fun b hb hl => heap_setCell_other _ _ _ _ ?_), ⟨?_, ?_, ?_⟩, fun k hk => ((zJ1 Hqk) k hk).imp id (fun h => by rw [hs1] at h; omega)⟩
  ·intro e
   rw [show b = g from e] at hb
   exact (zJ1 Ho6).not (zJ1 HK8) (by decide) hb
  ·exact ((zJ1 HB).grown (zJ1 Hg6) (by rw [hs1]; omega) (fun k hk => ((zJ1 HQ).ge hk).1)).setCell (p := ⟨g, 0, none⟩) hg _
  ·have := (zJ1 Hg6).size
   rw [hs1] at this
   simp
   omega
  ·intro k hkl h1 h2
   rw [heap_setCell_other _ _ _ _ (by dsimp only; omega), (zJ1 Hg6).block k (by rw [hs1]; omega) h2]
   exact heap_alloc_old w _ hkl
theorem size_zQ {P : Program} {e : TypeId} {z : Nat} {w : World} (he : (P.info? e).map (·.size) = some z) : (sizeOf e).run P w = .ok z w := by
 cases hi : P.info? e with
 | none => simp [hi] at he
 | some i => simp [hi] at he; simp [sizeOf, typeInfo, hi, he]
theorem run_tailZ {P : Program} {t e : TypeId} {z : Nat} (ht : P.underlying t = some (.slice e)) (he : (P.info? e).map (·.size) = some z) (A : Option Addr) (n c : Nat) (w : World) :
  (Instr.slice t (.slice A (n + 1) c) (some (.int .i64 1)) none none).run P w = .ok (.slice (if c = 1 then A else A.map (·.add (1 * z))) n (c - 1)) w := by
 have hel : P.elem t = e := by simp [Program.elem, ht]
 rw [run_slice_l w t A (n + 1) c (by rw [hel]; exact ht) .i64 1 (by omega) (by omega), hel, size_zQ he]
 simp only [Result.andThen_ok]
 unfold sliced
 simp
theorem yJi (A1 A2 A3 : Option Addr) (n1 c1 n2 c2 n3 c3 : Nat) (s1 s2 : ByteArray) : (#[.slice A1 n1 c1, .string s1, .string s2, .slice A2 n2 c2, .slice A3 n3 c3] : Array Value).all (·.oneCell') = true := by simp [Value.oneCell']
theorem zJg : (Tryz.prog.info? 54).map (·.size) = some 5 := by kernel_rfl
set_option maxRecDepth 100000 in
set_option maxHeartbeats 4000000 in
theorem qtake_none (base g : Nat) (A : Option Addr) (c : Nat) (w : World) (hk : Blk w g 96 [.slice A 0 c]) :
  Calls Tryz.prog 26 #[.pointer (some ⟨g, 0, none⟩)] w fun e w' => ∃ v, e = .returned (.tuple #[v, .bool false]) /\ (v = .agg #[.slice none 0 0, .string ⟨#[]⟩, .string ⟨#[]⟩, .slice none 0 0, .slice none 0 0]) /\ Below w.heap.size w w' := by
 have hb1 : Below w.heap.size w (w.alloc (.cells #[.slice none 0 0, .string ⟨#[]⟩, .string ⟨#[]⟩, .slice none 0 0, .slice none 0 0] 54)) := (Below.refl _ _).alloc (Nat.le_refl _) _
 have hk1 := hk.belowSz hb1
 have z0 := hk1.cell (i := 0) rfl
 have hx : (w.alloc (.cells #[.slice none 0 0, .string ⟨#[]⟩, .string ⟨#[]⟩, .slice none 0 0, .slice none 0 0] 54)).heap[w.heap.size]? = some (.cells #[.slice none 0 0, .string ⟨#[]⟩, .string ⟨#[]⟩, .slice none 0 0, .slice none 0 0] 54 (0, 0)) := heap_alloc_new _ _
 have HX := zJ2 hx
 have Hb1 := zJ2 hb1
 clear hk hk1 hx hb1
 go_enter Tryz.func26, Tryz.ntmps26
 go_wp2_with ((with_reducible refine (@id (wpList _ _ _ (Oper.mk none (Op.store 54 (.tmp 2) (.tmp 10)) _ _ _ none :: _) _ _) ?_)); refine wpList_store_row rfl 54 (.tmp 2) (.tmp 10) rfl w.heap.size #[.slice none 0 0, .string ⟨#[]⟩, .string ⟨#[]⟩, .slice none 0 0, .slice none 0 0] rfl rfl 54 _ (zJ1 HX) zJg rfl (yJi _ _ _ _ _ _ _ _ _ _ _) ?_)
 refine bodyPost_ret (results_cell_tmp (P := Tryz.prog) rfl _ _ w.heap.size 54 #[.slice none 0 0, .string ⟨#[]⟩, .string ⟨#[]⟩, .slice none 0 0, .slice none 0 0] (0, 0) _ rfl (setRow_heap _ _ _ _ _ _ (zJ1 HX)) Tryz.underlying54 rfl zJg) rfl ?_
 exact ⟨_, rfl, rfl, below_setRow (zJ1 Hb1) (Nat.le_refl _) _⟩
set_option maxRecDepth 100000 in
set_option maxHeartbeats 4000000 in
theorem uJ3 (base g : Nat) (A : Option Addr) (n c : Nat) (xs : List Value) (A1 A2 A3 : Option Addr) (n1 c1 n2 c2 n3 c3 : Nat) (s1 s2 : ByteArray) (w : World) (hg : base <= g) (hb : base <= w.heap.size) (hk : Blk w g 96 [.slice A (n + 1) c]) (hq : QRow w base 54 5 A (n + 1) c ([.slice A1 n1 c1, .string s1, .string s2, .slice A2 n2 c2, .slice A3 n3 c3] ++ xs)) (hn : n <= 1000000) :
  Calls Tryz.prog 26 #[.pointer (some ⟨g, 0, none⟩)] w fun e w' => e = .returned (.tuple #[.agg #[.slice A1 n1 c1, .string s1, .string s2, .slice A2 n2 c2, .slice A3 n3 c3], .bool true]) /\ ∃ A', Blk w' g 96 [.slice A' n (c - 1)] /\ QRow w' base 54 5 A' n (c - 1) xs /\ QGrow w w' base g none /\ ∀ k, qblk A' (c - 1) = some k -> qblk A c = some k := by
 have hgl := hk.lt
 have hb1 : Below w.heap.size w (w.alloc (.cells #[.slice none 0 0, .string ⟨#[]⟩, .string ⟨#[]⟩, .slice none 0 0, .slice none 0 0] 54)) := (Below.refl _ _).alloc (Nat.le_refl _) _
 have hk1 := hk.belowSz hb1
 have hq1 := hq.below hb1
 have hx : (w.alloc (.cells #[.slice none 0 0, .string ⟨#[]⟩, .string ⟨#[]⟩, .slice none 0 0, .slice none 0 0] 54)).heap[w.heap.size]? = some (.cells #[.slice none 0 0, .string ⟨#[]⟩, .string ⟨#[]⟩, .slice none 0 0, .slice none 0 0] 54 (0, 0)) := heap_alloc_new _ _
 have e1 : (w.alloc (.cells #[.slice none 0 0, .string ⟨#[]⟩, .string ⟨#[]⟩, .slice none 0 0, .slice none 0 0] 54)).heap.size = w.heap.size + 1 := by simp
 have htl := hq.tail rfl
 have hne : qblk A c ≠ some g := hq.not hk (by decide)
 have hcp : 0 < c := by have := hq.2.1; omega
 have kf := fun w' => run_tailZ (P := Tryz.prog) Tryz.underlying94 zJg A n c w'
 obtain ⟨A', hA'⟩ : ∃ A', (if c = 1 then A else A.map (·.add (1 * 5))) = A' := ⟨_, rfl⟩
 have hqk : ∀ k, qblk A' (c - 1) = some k -> qblk A c = some k := by
  intro k hk
  rw [<- hA'] at hk
  unfold qblk at hk ⊢
  split at hk
  ·cases hk
  ·rw [if_neg (by omega)] at hk
   rw [if_neg (by omega)]
   cases A with
   | none => cases hk
   | some a =>
    rw [Option.map_some, Option.map_some] at hk
    injection hk with hk
    rw [Option.map_some, <- hk]
    congr 1
 rw [hA'] at htl kf
 obtain ⟨b1, o1, rfl, hb1l, hb1w, hc1⟩ := hq.head
 have hbb := hb1.mono hb
 have HX := zJ2 hx
 have HK := zJ2 hk1
 have HT := zJ2 htl
 have HB := zJ2 hbb
 have y0 := hk1.cell (i := 0) rfl
 have HS : Hid (∀ w', Below w.heap.size w w' -> (w'.cell? ⟨b1, o1, none⟩ = some (.slice A1 n1 c1) /\ w'.cell? ⟨b1, o1 + 1, none⟩ = some (.string s1) /\ w'.cell? ⟨b1, o1 + 2, none⟩ = some (.string s2) /\ w'.cell? ⟨b1, o1 + 3, none⟩ = some (.slice A2 n2 c2) /\ w'.cell? ⟨b1, o1 + 4, none⟩ = some (.slice A3 n3 c3))) := zJ2 (fun w' hb => by
  have hc2 := fun j u hu => (hb.cell (p := ⟨b1, o1 + j, none⟩) hb1w).trans (hc1 j u hu)
  exact ⟨hc2 0 _ rfl, hc2 1 _ rfl, hc2 2 _ rfl, hc2 3 _ rfl, hc2 4 _ rfl⟩)
 have y1 := hk.cell (i := 0) rfl
 have y2 := hk1.drew.cell (i := 0) rfl
 have hgw : g ≠ w.heap.size := by omega
 have hbw : b1 ≠ w.heap.size := by omega
 have HBd := zJ2 (zJ3 hb1)
 have HXd : Hid ((w.alloc (.cells #[.slice none 0 0, .string ⟨#[]⟩, .string ⟨#[]⟩, .slice none 0 0, .slice none 0 0] 54)).drew.heap[w.heap.size]? = some (.cells #[.slice none 0 0, .string ⟨#[]⟩, .string ⟨#[]⟩, .slice none 0 0, .slice none 0 0] 54 (0, 0))) := zJ2 hx
 have hk2 : Blk ((w.alloc (.cells #[.slice none 0 0, .string ⟨#[]⟩, .string ⟨#[]⟩, .slice none 0 0, .slice none 0 0] 54)).drew.setRow w.heap.size #[.slice A1 n1 c1, .string s1, .string s2, .slice A2 n2 c2, .slice A3 n3 c3]) g 96 [.slice (some ⟨b1, o1, none⟩) (n + 1) c] := (setRow_other _ _ _ _ hgw).trans hk1
 have v9 := hk2.cell (i := 0) rfl
 have f9 := hk2.free 0
 have i1 : ¬ (((n + 1 : Nat) : Int) == 0) = true := by rw [beq_iff_eq]; omega
 have hbg : b1 ≠ g := fun e => hne (by rw [yJw hcp, e])
 have hx2 : ((w.alloc (.cells #[.slice none 0 0, .string ⟨#[]⟩, .string ⟨#[]⟩, .slice none 0 0, .slice none 0 0] 54)).drew.setRow w.heap.size #[.slice A1 n1 c1, .string s1, .string s2, .slice A2 n2 c2, .slice A3 n3 c3]).heap[w.heap.size]? = some (.cells #[.slice A1 n1 c1, .string s1, .string s2, .slice A2 n2 c2, .slice A3 n3 c3] 54 (0, 0)) := setRow_heap _ _ _ _ _ _ hx
 have hx3 : (((w.alloc (.cells #[.slice none 0 0, .string ⟨#[]⟩, .string ⟨#[]⟩, .slice none 0 0, .slice none 0 0] 54)).drew.setRow w.heap.size #[.slice A1 n1 c1, .string s1, .string s2, .slice A2 n2 c2, .slice A3 n3 c3]).setCell ⟨g, 0, none⟩ (.slice A' n (c - 1))).heap[w.heap.size]? = some (.cells #[.slice A1 n1 c1, .string s1, .string s2, .slice A2 n2 c2, .slice A3 n3 c3] 54 (0, 0)) := (heap_setCell_other _ _ _ _ (by dsimp only; omega)).trans hx2
 have HX3 := zJ2 hx3
 have HEND : Hid (Blk ((((w.alloc (.cells #[.slice none 0 0, .string ⟨#[]⟩, .string ⟨#[]⟩, .slice none 0 0, .slice none 0 0] 54)).drew.setRow w.heap.size #[.slice A1 n1 c1, .string s1, .string s2, .slice A2 n2 c2, .slice A3 n3 c3]).setCell ⟨g, 0, none⟩ (.slice A' n (c - 1))).setRow w.heap.size #[.slice A1 n1 c1, .string s1, .string s2, .slice A2 n2 c2, .slice A3 n3 c3]) g 96 [.slice A' n (c - 1)] /\ QRow ((((w.alloc (.cells #[.slice none 0 0, .string ⟨#[]⟩, .string ⟨#[]⟩, .slice none 0 0, .slice none 0 0] 54)).drew.setRow w.heap.size #[.slice A1 n1 c1, .string s1, .string s2, .slice A2 n2 c2, .slice A3 n3 c3]).setCell ⟨g, 0, none⟩ (.slice A' n (c - 1))).setRow w.heap.size #[.slice A1 n1 c1, .string s1, .string s2, .slice A2 n2 c2, .slice A3 n3 c3]) base 54 5 A' n (c - 1) xs /\ QGrow w ((((w.alloc (.cells #[.slice none 0 0, .string ⟨#[]⟩, .string ⟨#[]⟩, .slice none 0 0, .slice none 0 0] 54)).drew.setRow w.heap.size #[.slice A1 n1 c1, .string s1, .string s2, .slice A2 n2 c2, .slice A3 n3 c3]).setCell ⟨g, 0, none⟩ (.slice A' n (c - 1))).setRow w.heap.size #[.slice A1 n1 c1, .string s1, .string s2, .slice A2 n2 c2, .slice A3 n3 c3]) base g none /\ ∀ k, qblk A' (c - 1) = some k -> qblk (some ⟨b1, o1, none⟩) c = some k) := zJ2 (by
  have hkeep : ∀ k, k < w.heap.size -> k ≠ g -> ((((w.alloc (.cells #[.slice none 0 0, .string ⟨#[]⟩, .string ⟨#[]⟩, .slice none 0 0, .slice none 0 0] 54)).drew.setRow w.heap.size #[.slice A1 n1 c1, .string s1, .string s2, .slice A2 n2 c2, .slice A3 n3 c3]).setCell ⟨g, 0, none⟩ (.slice A' n (c - 1))).setRow w.heap.size #[.slice A1 n1 c1, .string s1, .string s2, .slice A2 n2 c2, .slice A3 n3 c3]).heap[k]? = w.heap[k]? := fun k hl hk => (setRow_other _ _ _ _ (by omega)).trans ((heap_setCell_other _ _ _ _ (by dsimp only; omega)).trans ((setRow_other _ _ _ _ (by omega)).trans (heap_alloc_old w _ hl)))
  have hsz : w.heap.size <= ((((w.alloc (.cells #[.slice none 0 0, .string ⟨#[]⟩, .string ⟨#[]⟩, .slice none 0 0, .slice none 0 0] 54)).drew.setRow w.heap.size #[.slice A1 n1 c1, .string s1, .string s2, .slice A2 n2 c2, .slice A3 n3 c3]).setCell ⟨g, 0, none⟩ (.slice A' n (c - 1))).setRow w.heap.size #[.slice A1 n1 c1, .string s1, .string s2, .slice A2 n2 c2, .slice A3 n3 c3]).heap.size := by simp [World.setRow, World.drew]
  refine ⟨(setRow_other _ _ _ _ hgw).trans (hk2.set 0 _), htl.keep hsz (fun b hb hl => hkeep b hl (fun e => htl.not hk (by decide) (e ▸ hb))), ⟨?_, hsz, fun k hl h1 _ => hkeep k hl h1⟩, hqk⟩
  exact below_setRow ((below_setRow (zJ3 hbb) hb _).setCell (p := ⟨g, 0, none⟩) hg _) hb _)
 have HK2 := zJ2 hk2
 clear hk hq hk1 hq1 hx hb1 hbb htl hc1 hA' hk2 hx2 hx3 hne
 go_enter Tryz.func26, Tryz.ntmps26
 go_wp2_with fail
 refine wp_region_held_drew (S := fun w' => w'.cell? ⟨b1, o1, none⟩ = some (.slice A1 n1 c1) /\ w'.cell? ⟨b1, o1 + 1, none⟩ = some (.string s1) /\ w'.cell? ⟨b1, o1 + 2, none⟩ = some (.string s2) /\ w'.cell? ⟨b1, o1 + 3, none⟩ = some (.slice A2 n2 c2) /\ w'.cell? ⟨b1, o1 + 4, none⟩ = some (.slice A3 n3 c3)) (by kernel_rfl) ((zJ1 HS) _ (zJ1 HBd)) (fun HS0 => ?_)
 refine takeD (i := 0) (d := some 11) (v := ?_) rfl rfl (by kernel_rfl) (by kernel_rfl) (by kernel_rfl) (fun _ _ _ h => h) (Or.inl ⟨by rfl, ?y0⟩) HS0 ?_
 case y0 => (intro w' hSw; (try dsimp only at hSw); go_simp; (try with_reducible rfl))
 simp only [Act.put, List.setIfInBounds_toArray, List.set_cons_zero, List.set_cons_succ]
 refine takeD (i := 1) (d := some 12) (v := ?_) rfl rfl (by kernel_rfl) (by kernel_rfl) (by kernel_rfl) (fun _ _ _ h => h) (Or.inl ⟨by rfl, ?y1⟩) HS0 ?_
 case y1 => (intro w' hSw; (try dsimp only at hSw); go_simp; (try with_reducible rfl))
 simp only [Act.put, List.setIfInBounds_toArray, List.set_cons_zero, List.set_cons_succ]
 refine takeD (i := 2) (d := some 13) (v := ?_) rfl rfl (by kernel_rfl) (by kernel_rfl) (by kernel_rfl) (fun _ _ _ h => h) (Or.inl ⟨by rfl, ?y2⟩) HS0 ?_
 case y2 => (intro w' hSw; (try dsimp only at hSw); go_simp; (try with_reducible rfl))
 simp only [Act.put, List.setIfInBounds_toArray, List.set_cons_zero, List.set_cons_succ]
 refine takeD (i := 3) (d := some 14) (v := ?_) rfl rfl (by kernel_rfl) (by kernel_rfl) (by kernel_rfl) (fun _ _ _ h => h) (Or.inl ⟨by rfl, ?y3⟩) HS0 ?_
 case y3 => (intro w' hSw; (try dsimp only at hSw); go_simp; (try with_reducible rfl))
 simp only [Act.put, List.setIfInBounds_toArray, List.set_cons_zero, List.set_cons_succ]
 refine takeD (i := 7) (d := some 18) (v := ?_) rfl rfl (by kernel_rfl) (by kernel_rfl) (by kernel_rfl) (fun _ _ _ h => h) (Or.inl ⟨by rfl, ?y7⟩) HS0 ?_
 case y7 => (intro w' hSw; (try dsimp only at hSw); go_simp; (try with_reducible rfl))
 simp only [Act.put, List.setIfInBounds_toArray, List.set_cons_zero, List.set_cons_succ]
 refine takeD (i := 8) (d := some 19) (v := ?_) rfl rfl (by kernel_rfl) (by kernel_rfl) (by kernel_rfl) (fun _ _ _ h => h) (Or.inl ⟨by rfl, ?y8⟩) HS0 ?_
 case y8 => (intro w' hSw; (try dsimp only at hSw); go_simp; (try with_reducible rfl))
 simp only [Act.put, List.setIfInBounds_toArray, List.set_cons_zero, List.set_cons_succ]
 refine takeD (i := 9) (d := some 20) (v := ?_) rfl rfl (by kernel_rfl) (by kernel_rfl) (by kernel_rfl) (fun _ _ _ h => h) (Or.inl ⟨by rfl, ?y9⟩) HS0 ?_
 case y9 => (intro w' hSw; (try dsimp only at hSw); go_simp; (try with_reducible rfl))
 simp only [Act.put, List.setIfInBounds_toArray, List.set_cons_zero, List.set_cons_succ]
 refine wpAnyH_ready (rs := [4, 10]) (by kernel_rfl) (by simp) ?_
 refine AllReadyH.cons (i := 4) rfl (fun K hK => ?way4) (AllReadyH.cons (i := 10) rfl (fun K hK => ?way10) AllReadyH.nil)
 case way4 =>
  rw [if_pos (by rfl)]
  go_simp
  refine hK.out _ _ ((zJ1 HS) _ (zJ1 HBd)) (fun hHeld => ?_)
  clear hK K HS0
  have HS0 := hHeld
  clear hHeld
  (try simp only [Act.put, List.setIfInBounds_toArray, List.set_cons_zero, List.set_cons_succ])
  refine takeD (i := 5) (d := some 16) (v := ?_) rfl rfl (by kernel_rfl) (by kernel_rfl) (by kernel_rfl) (fun _ _ _ h => h) (Or.inl ⟨by rfl, ?y5⟩) HS0 ?_
  case y5 => (intro w' hSw; (try dsimp only at hSw); go_simp; (try with_reducible rfl))
  simp only [Act.put, List.setIfInBounds_toArray, List.set_cons_zero, List.set_cons_succ]
  refine takeD (i := 6) (d := some 17) (v := ?_) rfl rfl (by kernel_rfl) (by kernel_rfl) (by kernel_rfl) (fun _ _ _ h => h) (Or.inl ⟨by rfl, ?y6⟩) HS0 ?_
  case y6 => (intro w' hSw; (try dsimp only at hSw); go_simp; (try with_reducible rfl))
  simp only [Act.put, List.setIfInBounds_toArray, List.set_cons_zero, List.set_cons_succ]
  refine wpAnyH_ready (rs := [10, 12]) (by kernel_rfl) (by simp) ?_
  refine AllReadyH.cons (i := 10) rfl (fun K hK => ?wax10) (AllReadyH.cons (i := 12) rfl (fun K hK => ?way12) AllReadyH.nil)
  case wax10 =>
   rw [if_pos (by rfl)]
   go_simp
   refine hK.out _ _ ((zJ1 HS) _ (zJ1 HBd)) (fun hHeld => ?_)
   clear hK K HS0
   have HS0 := hHeld
   clear hHeld
   (try simp only [Act.put, List.setIfInBounds_toArray, List.set_cons_zero, List.set_cons_succ])
   refine takeD (i := 11) (d := some 22) (v := ?_) rfl rfl (by kernel_rfl) (by kernel_rfl) (by kernel_rfl) (fun _ _ _ h => h) (Or.inl ⟨by rfl, ?y11⟩) HS0 ?_
   case y11 => (intro w' hSw; (try dsimp only at hSw); go_simp; (try with_reducible rfl))
   simp only [Act.put, List.setIfInBounds_toArray, List.set_cons_zero, List.set_cons_succ]
   refine storeS (i := 12) rfl rfl (by kernel_rfl) (by rfl) 54 (.tmp 2) (.tmp 17) rfl w.heap.size #[.slice A1 n1 c1, .string s1, .string s2, .slice A2 n2 c2, .slice A3 n3 c3] #[.slice none 0 0, .string ⟨#[]⟩, .string ⟨#[]⟩, .slice none 0 0, .slice none 0 0] rfl rfl 54 (zJ1 HXd) zJg rfl (yJi _ _ _ _ _ _ _ _ _ _ _) ((zJ1 HS) _ (below_setRow (zJ1 HBd) (Nat.le_refl _) _)) ?_
   have HS1 := (zJ1 HS) _ (below_setRow (zJ1 HBd) (Nat.le_refl _) #[.slice A1 n1 c1, .string s1, .string s2, .slice A2 n2 c2, .slice A3 n3 c3])
   clear HS0
   have HS0 := HS1
   clear HS1
   refine takeD (i := 13) (d := some 23) (v := ?_) rfl rfl (by kernel_rfl) (by kernel_rfl) (by kernel_rfl) (fun _ _ _ h => h) (Or.inl ⟨by rfl, ?y13⟩) HS0 ?_
   case y13 => (intro w' hSw; (try dsimp only at hSw); go_simp; (try with_reducible rfl))
   simp only [Act.put, List.setIfInBounds_toArray, List.set_cons_zero, List.set_cons_succ]
   refine takeD (i := 14) (d := some 24) (v := ?_) rfl rfl (by kernel_rfl) (by kernel_rfl) (by kernel_rfl) (fun _ _ _ h => h) (Or.inl ⟨by rfl, ?y14⟩) HS0 ?_
   case y14 => (intro w' hSw; (try dsimp only at hSw); go_simp; (try with_reducible rfl))
   simp only [Act.put, List.setIfInBounds_toArray, List.set_cons_zero, List.set_cons_succ]
   refine wpAnyH_ready (rs := [15]) (by kernel_rfl) (by simp) ?_
   refine AllReadyH.cons (i := 15) rfl (fun K hK => ?_) AllReadyH.nil
   rw [if_pos (by rfl)]
   go_simp
   refine hK.out _ _ (by obtain ⟨h0, h1, h2, h3, h4⟩ := HS0; exact ⟨(World.cell?_setCell_other _ _ _ _ (fun e => absurd (congrArg Addr.block e) (by dsimp only; omega))).trans h0, (World.cell?_setCell_other _ _ _ _ (fun e => absurd (congrArg Addr.block e) (by dsimp only; omega))).trans h1, (World.cell?_setCell_other _ _ _ _ (fun e => absurd (congrArg Addr.block e) (by dsimp only; omega))).trans h2, (World.cell?_setCell_other _ _ _ _ (fun e => absurd (congrArg Addr.block e) (by dsimp only; omega))).trans h3, (World.cell?_setCell_other _ _ _ _ (fun e => absurd (congrArg Addr.block e) (by dsimp only; omega))).trans h4⟩) (fun hHeld => ?_)
   clear hK K HS0
   have HS0 := hHeld
   clear hHeld
   (try simp only [Act.put, List.setIfInBounds_toArray, List.set_cons_zero, List.set_cons_succ])
   refine wpAnyH_done (by kernel_rfl) ?_ _
   clear v9 f9 HS0
   go_wp2_with (first
    | ((with_reducible refine (@id (wpList _ _ _ (Oper.mk _ (Op.load 54 (.tmp 2)) _ _ _ none :: _) _ _) ?_)); refine wpList_load_row rfl 54 (.tmp 2) rfl w.heap.size rfl 54 #[.slice A1 n1 c1, .string s1, .string s2, .slice A2 n2 c2, .slice A3 n3 c3] (0, 0) _ (zJ1 HX3) Tryz.underlying54 rfl zJg ?_)
    | ((with_reducible refine (@id (wpList _ _ _ (Oper.mk none (Op.store 54 (.tmp 2) (.tmp 25)) _ _ _ none :: _) _ _) ?_)); refine wpList_store_row rfl 54 (.tmp 2) (.tmp 25) rfl w.heap.size #[.slice A1 n1 c1, .string s1, .string s2, .slice A2 n2 c2, .slice A3 n3 c3] rfl rfl 54 _ (zJ1 HX3) zJg rfl (yJi _ _ _ _ _ _ _ _ _ _ _) ?_))
   refine bodyPost_ret (results_cell_tmp (P := Tryz.prog) rfl _ _ w.heap.size 54 #[.slice A1 n1 c1, .string s1, .string s2, .slice A2 n2 c2, .slice A3 n3 c3] (0, 0) _ rfl (setRow_heap _ _ _ _ _ _ (zJ1 HX3)) Tryz.underlying54 rfl zJg) rfl ?_
   exact ⟨rfl, A', zJ1 HEND⟩
  case way12 =>
   rw [if_pos (by rfl)]
   refine wp_store_row 54 (.tmp 2) (.tmp 17) rfl w.heap.size #[.slice A1 n1 c1, .string s1, .string s2, .slice A2 n2 c2, .slice A3 n3 c3] rfl rfl 54 #[.slice none 0 0, .string ⟨#[]⟩, .string ⟨#[]⟩, .slice none 0 0, .slice none 0 0] (zJ1 HXd) zJg rfl (yJi _ _ _ _ _ _ _ _ _ _ _) ?_
   refine hK.out _ _ ((zJ1 HS) _ (below_setRow (zJ1 HBd) (Nat.le_refl _) _)) (fun hHeld => ?_)
   clear hK K HS0
   have HS0 := hHeld
   clear hHeld
   (try simp only [Act.put, List.setIfInBounds_toArray, List.set_cons_zero, List.set_cons_succ])
   refine wpAnyH_ready (rs := [10]) (by kernel_rfl) (by simp) ?_
   refine AllReadyH.cons (i := 10) rfl (fun K hK => ?_) AllReadyH.nil
   rw [if_pos (by rfl)]
   go_simp
   refine hK.out _ _ ((zJ1 HS) _ (below_setRow (zJ1 HBd) (Nat.le_refl _) _)) (fun hHeld => ?_)
   clear hK K HS0
   have HS0 := hHeld
   clear hHeld
   (try simp only [Act.put, List.setIfInBounds_toArray, List.set_cons_zero, List.set_cons_succ])
   refine takeD (i := 11) (d := some 22) (v := ?_) rfl rfl (by kernel_rfl) (by kernel_rfl) (by kernel_rfl) (fun _ _ _ h => h) (Or.inl ⟨by rfl, ?y11⟩) HS0 ?_
   case y11 => (intro w' hSw; (try dsimp only at hSw); go_simp; (try with_reducible rfl))
   simp only [Act.put, List.setIfInBounds_toArray, List.set_cons_zero, List.set_cons_succ]
   refine takeD (i := 13) (d := some 23) (v := ?_) rfl rfl (by kernel_rfl) (by kernel_rfl) (by kernel_rfl) (fun _ _ _ h => h) (Or.inl ⟨by rfl, ?y13⟩) HS0 ?_
   case y13 => (intro w' hSw; (try dsimp only at hSw); go_simp; (try with_reducible rfl))
   simp only [Act.put, List.setIfInBounds_toArray, List.set_cons_zero, List.set_cons_succ]
   refine takeD (i := 14) (d := some 24) (v := ?_) rfl rfl (by kernel_rfl) (by kernel_rfl) (by kernel_rfl) (fun _ _ _ h => h) (Or.inl ⟨by rfl, ?y14⟩) HS0 ?_
   case y14 => (intro w' hSw; (try dsimp only at hSw); go_simp; (try with_reducible rfl))
   simp only [Act.put, List.setIfInBounds_toArray, List.set_cons_zero, List.set_cons_succ]
   refine wpAnyH_ready (rs := [15]) (by kernel_rfl) (by simp) ?_
   refine AllReadyH.cons (i := 15) rfl (fun K hK => ?_) AllReadyH.nil
   rw [if_pos (by rfl)]
   go_simp
   refine hK.out _ _ (by obtain ⟨h0, h1, h2, h3, h4⟩ := HS0; exact ⟨(World.cell?_setCell_other _ _ _ _ (fun e => absurd (congrArg Addr.block e) (by dsimp only; omega))).trans h0, (World.cell?_setCell_other _ _ _ _ (fun e => absurd (congrArg Addr.block e) (by dsimp only; omega))).trans h1, (World.cell?_setCell_other _ _ _ _ (fun e => absurd (congrArg Addr.block e) (by dsimp only; omega))).trans h2, (World.cell?_setCell_other _ _ _ _ (fun e => absurd (congrArg Addr.block e) (by dsimp only; omega))).trans h3, (World.cell?_setCell_other _ _ _ _ (fun e => absurd (congrArg Addr.block e) (by dsimp only; omega))).trans h4⟩) (fun hHeld => ?_)
   clear hK K HS0
   have HS0 := hHeld
   clear hHeld
   (try simp only [Act.put, List.setIfInBounds_toArray, List.set_cons_zero, List.set_cons_succ])
   refine wpAnyH_done (by kernel_rfl) ?_ _
   clear v9 f9 HS0
   go_wp2_with (first
    | ((with_reducible refine (@id (wpList _ _ _ (Oper.mk _ (Op.load 54 (.tmp 2)) _ _ _ none :: _) _ _) ?_)); refine wpList_load_row rfl 54 (.tmp 2) rfl w.heap.size rfl 54 #[.slice A1 n1 c1, .string s1, .string s2, .slice A2 n2 c2, .slice A3 n3 c3] (0, 0) _ (zJ1 HX3) Tryz.underlying54 rfl zJg ?_)
    | ((with_reducible refine (@id (wpList _ _ _ (Oper.mk none (Op.store 54 (.tmp 2) (.tmp 25)) _ _ _ none :: _) _ _) ?_)); refine wpList_store_row rfl 54 (.tmp 2) (.tmp 25) rfl w.heap.size #[.slice A1 n1 c1, .string s1, .string s2, .slice A2 n2 c2, .slice A3 n3 c3] rfl rfl 54 _ (zJ1 HX3) zJg rfl (yJi _ _ _ _ _ _ _ _ _ _ _) ?_))
   refine bodyPost_ret (results_cell_tmp (P := Tryz.prog) rfl _ _ w.heap.size 54 #[.slice A1 n1 c1, .string s1, .string s2, .slice A2 n2 c2, .slice A3 n3 c3] (0, 0) _ rfl (setRow_heap _ _ _ _ _ _ (zJ1 HX3)) Tryz.underlying54 rfl zJg) rfl ?_
   exact ⟨rfl, A', zJ1 HEND⟩
 case way10 =>
  rw [if_pos (by rfl)]
  go_simp
  refine hK.out _ _ ((zJ1 HS) _ (zJ1 HBd)) (fun hHeld => ?_)
  clear hK K HS0
  have HS0 := hHeld
  clear hHeld
  (try simp only [Act.put, List.setIfInBounds_toArray, List.set_cons_zero, List.set_cons_succ])
  refine takeD (i := 11) (d := some 22) (v := ?_) rfl rfl (by kernel_rfl) (by kernel_rfl) (by kernel_rfl) (fun _ _ _ h => h) (Or.inl ⟨by rfl, ?y11⟩) HS0 ?_
  case y11 => (intro w' hSw; (try dsimp only at hSw); go_simp; (try with_reducible rfl))
  simp only [Act.put, List.setIfInBounds_toArray, List.set_cons_zero, List.set_cons_succ]
  refine wpAnyH_ready (rs := [4]) (by kernel_rfl) (by simp) ?_
  refine AllReadyH.cons (i := 4) rfl (fun K hK => ?_) AllReadyH.nil
  rw [if_pos (by rfl)]
  go_simp
  refine hK.out _ _ ((zJ1 HS) _ (zJ1 HBd)) (fun hHeld => ?_)
  clear hK K HS0
  have HS0 := hHeld
  clear hHeld
  (try simp only [Act.put, List.setIfInBounds_toArray, List.set_cons_zero, List.set_cons_succ])
  refine takeD (i := 5) (d := some 16) (v := ?_) rfl rfl (by kernel_rfl) (by kernel_rfl) (by kernel_rfl) (fun _ _ _ h => h) (Or.inl ⟨by rfl, ?y5⟩) HS0 ?_
  case y5 => (intro w' hSw; (try dsimp only at hSw); go_simp; (try with_reducible rfl))
  simp only [Act.put, List.setIfInBounds_toArray, List.set_cons_zero, List.set_cons_succ]
  refine takeD (i := 6) (d := some 17) (v := ?_) rfl rfl (by kernel_rfl) (by kernel_rfl) (by kernel_rfl) (fun _ _ _ h => h) (Or.inl ⟨by rfl, ?y6⟩) HS0 ?_
  case y6 => (intro w' hSw; (try dsimp only at hSw); go_simp; (try with_reducible rfl))
  simp only [Act.put, List.setIfInBounds_toArray, List.set_cons_zero, List.set_cons_succ]
  refine storeS (i := 12) rfl rfl (by kernel_rfl) (by rfl) 54 (.tmp 2) (.tmp 17) rfl w.heap.size #[.slice A1 n1 c1, .string s1, .string s2, .slice A2 n2 c2, .slice A3 n3 c3] #[.slice none 0 0, .string ⟨#[]⟩, .string ⟨#[]⟩, .slice none 0 0, .slice none 0 0] rfl rfl 54 (zJ1 HXd) zJg rfl (yJi _ _ _ _ _ _ _ _ _ _ _) ((zJ1 HS) _ (below_setRow (zJ1 HBd) (Nat.le_refl _) _)) ?_
  have HS1 := (zJ1 HS) _ (below_setRow (zJ1 HBd) (Nat.le_refl _) #[.slice A1 n1 c1, .string s1, .string s2, .slice A2 n2 c2, .slice A3 n3 c3])
  clear HS0
  have HS0 := HS1
  clear HS1
  refine takeD (i := 13) (d := some 23) (v := ?_) rfl rfl (by kernel_rfl) (by kernel_rfl) (by kernel_rfl) (fun _ _ _ h => h) (Or.inl ⟨by rfl, ?y13⟩) HS0 ?_
  case y13 => (intro w' hSw; (try dsimp only at hSw); go_simp; (try with_reducible rfl))
  simp only [Act.put, List.setIfInBounds_toArray, List.set_cons_zero, List.set_cons_succ]
  refine takeD (i := 14) (d := some 24) (v := ?_) rfl rfl (by kernel_rfl) (by kernel_rfl) (by kernel_rfl) (fun _ _ _ h => h) (Or.inl ⟨by rfl, ?y14⟩) HS0 ?_
  case y14 => (intro w' hSw; (try dsimp only at hSw); go_simp; (try with_reducible rfl))
  simp only [Act.put, List.setIfInBounds_toArray, List.set_cons_zero, List.set_cons_succ]
  refine wpAnyH_ready (rs := [15]) (by kernel_rfl) (by simp) ?_
  refine AllReadyH.cons (i := 15) rfl (fun K hK => ?_) AllReadyH.nil
  rw [if_pos (by rfl)]
  go_simp
  refine hK.out _ _ (by obtain ⟨h0, h1, h2, h3, h4⟩ := HS0; exact ⟨(World.cell?_setCell_other _ _ _ _ (fun e => absurd (congrArg Addr.block e) (by dsimp only; omega))).trans h0, (World.cell?_setCell_other _ _ _ _ (fun e => absurd (congrArg Addr.block e) (by dsimp only; omega))).trans h1, (World.cell?_setCell_other _ _ _ _ (fun e => absurd (congrArg Addr.block e) (by dsimp only; omega))).trans h2, (World.cell?_setCell_other _ _ _ _ (fun e => absurd (congrArg Addr.block e) (by dsimp only; omega))).trans h3, (World.cell?_setCell_other _ _ _ _ (fun e => absurd (congrArg Addr.block e) (by dsimp only; omega))).trans h4⟩) (fun hHeld => ?_)
  clear hK K HS0
  have HS0 := hHeld
  clear hHeld
  (try simp only [Act.put, List.setIfInBounds_toArray, List.set_cons_zero, List.set_cons_succ])
  refine wpAnyH_done (by kernel_rfl) ?_ _
  clear v9 f9 HS0
  go_wp2_with (first
   | ((with_reducible refine (@id (wpList _ _ _ (Oper.mk _ (Op.load 54 (.tmp 2)) _ _ _ none :: _) _ _) ?_)); refine wpList_load_row rfl 54 (.tmp 2) rfl w.heap.size rfl 54 #[.slice A1 n1 c1, .string s1, .string s2, .slice A2 n2 c2, .slice A3 n3 c3] (0, 0) _ (zJ1 HX3) Tryz.underlying54 rfl zJg ?_)
   | ((with_reducible refine (@id (wpList _ _ _ (Oper.mk none (Op.store 54 (.tmp 2) (.tmp 25)) _ _ _ none :: _) _ _) ?_)); refine wpList_store_row rfl 54 (.tmp 2) (.tmp 25) rfl w.heap.size #[.slice A1 n1 c1, .string s1, .string s2, .slice A2 n2 c2, .slice A3 n3 c3] rfl rfl 54 _ (zJ1 HX3) zJg rfl (yJi _ _ _ _ _ _ _ _ _ _ _) ?_))
  refine bodyPost_ret (results_cell_tmp (P := Tryz.prog) rfl _ _ w.heap.size 54 #[.slice A1 n1 c1, .string s1, .string s2, .slice A2 n2 c2, .slice A3 n3 c3] (0, 0) _ rfl (setRow_heap _ _ _ _ _ _ (zJ1 HX3)) Tryz.underlying54 rfl zJg) rfl ?_
  exact ⟨rfl, A', zJ1 HEND⟩
end Go.Proofs.YtiiiblmhlhikkaaGreatDoor
