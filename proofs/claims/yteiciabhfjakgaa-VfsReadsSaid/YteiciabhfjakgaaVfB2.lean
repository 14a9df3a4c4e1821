/- Which entries may be: the walk of parts. Conditions: as it says. A file system that gets one node more: what holds of its memory. No conditions beyond those named. A file system that gets one node more: put together behind the walk's last store. No conditions beyond those named. One entry more: the walk of add. Conditions: as it says. A file system of entries: the walk of New. Conditions: as it says. What the arguments of the chapter's laws read as: credentials, a way, two numbers, entries. No conditions. The walk of hostelref00.CopyBytes (as Elf8, for any chapter). Conditions: there are fewer than 2^32 bytes. Copies of credentials and of entries; how great entries are. Conditions: as each says. One more law for append: the new element's block spelt by a number that is the heap's size. No conditions. Entries copied into memory of their own: the walk of CopyEntries. Conditions: as it says. The entries that made spoils: what is kept while it does so. No conditions. The bytes of a file: the walk of Read. Conditions: as it says. The plain file system: the names from the root on. No conditions. slices.Reverse of a row of texts of the call's own; strings.Join of texts. Conditions: as each says. A node's path: the walk of Path. Conditions: as it says. small: are credentials and a path within what a statement goes through? No conditions. string(b) of bytes that are read; parts of what is read. No conditions. The anchor of the chapter's laws: the walk of works. No conditions. The plain file system: who is not refused goes where Euid 0 goes. No conditions. VfsRights: the law's walk. Conditions: those of the arguments. The reference's file system in memory; the walks of its child, at, dir. Conditions: as each says. The walk of hostelref00.EqTexts: are two lists of texts the same? Condition: the lists are no longer than the model's greatest length. The walks of the references for paths: Pieces and Check of hostelref02. Condition: the texts are shorter than 2^32 bytes. The walk of the reference Parts of hostelref02. Condition: the texts are shorter than 2^32 bytes. The reference's dir, and which entries it takes: the walks of dir, may. Conditions: as each says. The reference's New: what holds of its memory. No conditions beyond those named. -/
import Derived.Test.YteiciabhfjakgaaVfB1
import Derived.StillTailTactics
import Derived.Deep.LoopGhost
import Derived.Laws.IdiomArrays
import Derived.Laws.Rows
import Derived.Lib.Join
import Derived.Test.YteiciabhfjakgaaShelf
import Derived.Laws.IdiomCopy
import Derived.Lib.RowBridge
import Derived.Laws.BytesArg
import Derived.Laws.IdiomStrings
import Derived.Test.YteiciabhfjakgaaProg
import Derived.WalkSpells
import Derived.WalkLawsBesides
import Derived.BigQuiet
import Derived.Deep.QuietTactic
namespace Go.Proofs.Yteiciabhfjakgaa
set_option linter.unusedVariables false
set_option linter.unusedSimpArgs false
open Go.RowKit

theorem andn2559 (n : Nat) (h : n < 65536) : (bits .andNot .u16 (n : Int) 2559 != 0) = !decide (n &&& 2559 = n) := by
  have e : (2559 : Int) = ((2559 : Nat) : Int) := rfl
  rw [e, u16_andNot_nat n 2559 h (by omega)]
  have h1 : n &&& 62976 = 0 ↔ n &&& 2559 = n := by
    have hn : n &&& 65535 = n := by
      have := Nat.and_two_pow_sub_one_eq_mod n 16
      simp only [Nat.reducePow, Nat.reduceSub] at this
      rw [this]
      omega
    constructor
    · intro h0
      have h2 : n &&& (2559 ||| 62976) = (n &&& 2559) ||| (n &&& 62976) := Nat.and_or_distrib_left ..
      rw [h0, Nat.or_zero] at h2
      rw [← h2]
      exact hn
    · intro h0
      rw [← h0, Nat.and_assoc]
      exact Nat.and_zero n
  rw [bne, Bool.not_inj_iff, Bool.eq_iff_iff, beq_iff_eq, decide_eq_true_eq, ← h1]
  have e2 : 65535 - 2559 = 62976 := rfl
  rw [e2]
  omega

def entC (e : Vf.Ent) (A : Option Addr) (n c : Nat) : List Value := [.string e.path, .int .u8 (e.kind : Nat), .int .u16 (e.mode : Nat), .int .u32 (e.uid : Nat), .int .u32 (e.gid : Nat), .slice A n c, .string e.to]
def entV (e : Vf.Ent) (A : Option Addr) (n c : Nat) : Value := .agg #[.string e.path, .int .u8 (e.kind : Nat), .int .u16 (e.mode : Nat), .int .u32 (e.uid : Nat), .int .u32 (e.gid : Nat), .slice A n c, .string e.to]
/-- What parts answers. -/
def PtVE (x : Vf.Ent) (w : World) (e : Ending) (w' : World) : Prop :=
  ∃ A n c, e = .returned (.tuple #[.slice A n c, .int .i64 (Vf.may x)]) ∧ (Vf.may x = 0 → n = (Pth.partsL x.path).length ∧ w'.ownsRow w.heap.size 9 1 (.slice A n c) n ((Pth.partsL x.path).map Value.string)) ∧ Below w.heap.size w w'
theorem ptVE_no {x : Vf.Ent} {w w' : World} {er : Int} (h : Vf.may x = er) (h0 : er ≠ 0) (hb : Below w.heap.size w w') : PtVE x w (.returned (.tuple #[.slice none 0 0, .int .i64 er])) w' := by
  unfold PtVE
  rw [h]
  exact ⟨none, 0, 0, rfl, fun h1 => absurd h1 h0, hb⟩
theorem contains_dd (A : Option Addr) (n c B : Nat) (l : List ByteArray) (w : World) (hl : Rd w B 1 A n (l.map Value.string)) (hn : n ≤ maxLen) :
    Calls Try.prog 71 #[.slice A n c, .string ⟨#[46, 46]⟩] w fun e w' => e = .returned (.bool (l.any fun x => decide (x = Vf.dd))) ∧ w = w' := by
  have hll : l.length = n := by simpa using hl.len1
  unfold maxLen at hn
  rcases hl.2 with h0 | ⟨b, off, rfl, hb, hc⟩
  · have h1 : l = [] := by simpa using h0
    subst h1
    simp only [List.length_nil] at hll
    subst hll
    refine (flipw (Try.slices_Contains_string_empty A c ⟨#[46, 46]⟩ w)).mono ?_
    rintro e w' ⟨rfl, rfl⟩
    exact ⟨rfl, rfl⟩
  · refine (flipw (Try.slices_Contains_string b off n c l ⟨#[46, 46]⟩ w (by omega) (by omega) (fun j hj => ?_))).mono ?_
    · have := hc j (.string l[j]) (by rw [List.getElem?_map, List.getElem?_eq_getElem hj]; rfl)
      rw [this, List.getD_eq_getElem?_getD, List.getElem?_eq_getElem hj]
      rfl
    · rintro e w' ⟨rfl, rfl⟩
      refine ⟨ret_bool ?_, rfl⟩
      rw [List.take_of_length_le (by omega), Bool.eq_iff_iff, List.any_eq_true]
      refine (Lib.containsS_iff l ⟨#[46, 46]⟩).trans ⟨fun h => ⟨_, h, by simp [Vf.dd]⟩, fun ⟨x, hx, h⟩ => ?_⟩
      rw [decide_eq_true_eq] at h
      rw [h] at hx
      exact hx

set_option maxRecDepth 100000 in
set_option maxHeartbeats 4000000 in
theorem partsV_any (x : Vf.Ent) (A : Option Addr) (n c : Nat) (w : World) (hd : x.data.length = n) (hn : n ≤ 4294967296) (hps : x.path.size ≤ 4294967296) (hto : x.to.size ≤ 4294967296) (hmd : x.mode < 65536) :
    Calls Try.prog 62 #[entV x A n c] w (PtVE x w) := by
  have hb0 : Below w.heap.size w (w.alloc (.cells (entC x A n c).toArray 60)) := (Below.refl _ _).alloc (Nat.le_refl _) _
  have hbk : Blk (w.alloc (.cells (entC x A n c).toArray 60)) w.heap.size 60 (entC x A n c) := Blk.new w 60 _
  have KP := hide (parts_any x.path (by unfold maxLen; omega) (w.alloc (.cells (entC x A n c).toArray 60)))
  have KT := hide (fun w' => tail_any x.path (by omega) w')
  have KK := hide (fun w' => check_any x.to (by unfold maxLen; omega) w')
  have hand := andn2559 x.mode hmd
  have hmay : Vf.may x = if ¬ (1 ≤ x.kind ∧ x.kind ≤ 3) ∨ x.mode &&& 2559 ≠ x.mode then 1
    else if Pth.chk x.path ≠ 0 ∨ Pth.rootB x.path = false ∨ (Pth.partsL x.path).isEmpty = true ∨ Pth.tailB x.path = true ∨ (Pth.partsL x.path).any (fun y => decide (y = Vf.dd)) = true then 1
    else if (x.kind ≠ 1 ∧ x.data ≠ []) ∨ (x.kind ≠ 3 ∧ x.to.size ≠ 0) ∨ (x.kind = 3 ∧ Pth.chk x.to ≠ 0) then 1
    else if 65536 < x.data.length then 12 else 0 := rfl
  have hdn : x.data ≠ [] ↔ 0 < n := by rw [← hd, List.length_pos_iff]
  simp only [hdn] at hmay
  rw [hd] at hmay
  have hpl2 := Vf.parts_len x.path
  obtain ⟨ck, hck⟩ : ∃ b, Pth.chk x.path = b := ⟨_, rfl⟩
  obtain ⟨tb, htb⟩ : ∃ b, Pth.rootB x.path = b := ⟨_, rfl⟩
  obtain ⟨pl, hpl⟩ : ∃ l, Pth.partsL x.path = l := ⟨_, rfl⟩
  obtain ⟨tl, htl⟩ : ∃ b, Pth.tailB x.path = b := ⟨_, rfl⟩
  obtain ⟨ct, hct⟩ : ∃ b, Pth.chk x.to = b := ⟨_, rfl⟩
  obtain ⟨dd, hdd⟩ : ∃ b, (pl.any fun y => decide (y = Vf.dd)) = b := ⟨_, rfl⟩
  obtain ⟨np, hnp⟩ : ∃ n, pl.length = n := ⟨_, rfl⟩
  have hpe : pl.isEmpty = true ↔ np = 0 := by rw [← hnp, List.isEmpty_iff_length_eq_zero]
  simp only [hck, htb, hpl, htl, hct, hdd, hpe] at hmay
  rw [hck, htb, hpl, hnp] at KP
  rw [htl] at KT
  rw [hct] at KK
  rw [hpl, hnp] at hpl2
  have Hmay := hide hmay
  have Hb0 := hide hb0
  have Hbk := hide hbk
  have Hpl := hide hpl
  have Hnp := hide hnp
  have Hdd := hide hdd
  have hemp : x.to.toList.isEmpty = decide (x.to.size = 0) := isEmpty_toList x.to
  unfold entV
  unfold entC at KP
  clear hmay hd hdn hpl hck htb htl hct hdd hpe hnp hb0 hbk hps hto
  go_enter Try.func62, Try.ntmps62
  go_wp2_with fail
  refine (unhide KP).mono ?_
  rintro e w1 ⟨A1, c1, rfl, ho1, hb1⟩
  have hbk1 := (unhide Hbk).belowSz hb1
  obtain ⟨v0, v1, v2, v3, v4, v5, v6⟩ : w1.cell? ⟨w.heap.size, 0, none⟩ = some (.string x.path) ∧ w1.cell? ⟨w.heap.size, 1, none⟩ = some (.int .u8 (x.kind : Nat)) ∧ w1.cell? ⟨w.heap.size, 2, none⟩ = some (.int .u16 (x.mode : Nat)) ∧ w1.cell? ⟨w.heap.size, 3, none⟩ = some (.int .u32 (x.uid : Nat)) ∧ w1.cell? ⟨w.heap.size, 4, none⟩ = some (.int .u32 (x.gid : Nat)) ∧ w1.cell? ⟨w.heap.size, 5, none⟩ = some (.slice A n c) ∧ w1.cell? ⟨w.heap.size, 6, none⟩ = some (.string x.to) := ⟨hbk1.cell rfl, hbk1.cell rfl, hbk1.cell rfl, hbk1.cell rfl, hbk1.cell rfl, hbk1.cell rfl, hbk1.cell rfl⟩
  have Hb1 := hide ((unhide Hb0).trans (hb1.mono (by simp)))
  have KC := contains_dd A1 np c1 w1.heap.size pl w1 (Rd.of_own ho1) (by unfold maxLen; omega)
  rw [unhide Hdd] at KC
  have hlt1 : w.heap.size < w1.heap.size := hbk1.lt
  have Ho1 := hide ho1
  have HKC := hide KC
  clear hb1 ho1 hbk1 KC KP Hbk
  by_cases k1 : (x.kind : Int) < 1
  · have hm : Vf.may x = 1 := by rw [unhide Hmay, if_pos (.inl (by omega))]
    have Hm := hide hm
    clear hm hand hemp
    go_wp2_with fail
    go_ret2
    exact ptVE_no (unhide Hm) (by decide) (unhide Hb1)
  by_cases k2 : (3 : Int) < (x.kind : Int)
  · have hm : Vf.may x = 1 := by rw [unhide Hmay, if_pos (.inl (by omega))]
    have Hm := hide hm
    clear hm hand hemp
    go_wp2_with fail
    go_ret2
    exact ptVE_no (unhide Hm) (by decide) (unhide Hb1)
  by_cases k3 : x.mode &&& 2559 = x.mode
  case neg =>
    have hm : Vf.may x = 1 := by rw [unhide Hmay, if_pos (.inr k3)]
    rw [decide_eq_false k3] at hand
    have Hm := hide hm
    clear hm k3 hemp
    go_wp2_with fail
    go_ret2
    exact ptVE_no (unhide Hm) (by decide) (unhide Hb1)
  rw [decide_eq_true k3] at hand
  have hmay2 := unhide Hmay
  rw [if_neg (by rintro (h | h); exact h (by omega); exact h k3)] at hmay2
  clear k3 Hmay
  by_cases k4 : ck = 0
  case neg =>
    have hm : Vf.may x = 1 := by rw [hmay2, if_pos (.inl k4)]
    have b4 : (ck != 0) = true := by simp [k4]
    have Hm := hide hm
    clear hm k4 hemp hmay2
    go_wp2_with fail
    go_ret2
    exact ptVE_no (unhide Hm) (by decide) (unhide Hb1)
  subst k4
  have b4 : ((0 : Int) != 0) = false := rfl
  cases tb with
  | false =>
    have hm : Vf.may x = 1 := by rw [hmay2, if_pos (.inr (.inl rfl))]
    have Hm := hide hm
    clear hm hemp hmay2
    go_wp2_with fail
    go_ret2
    exact ptVE_no (unhide Hm) (by decide) (unhide Hb1)
  | true =>
  by_cases k5 : np = 0
  · have hm : Vf.may x = 1 := by rw [hmay2, if_pos (.inr (.inr (.inl k5)))]
    have b5 : ((np : Int) == 0) = true := by rw [k5]; rfl
    have Hm := hide hm
    clear hm hemp hmay2 k5
    go_wp2_with fail
    go_ret2
    exact ptVE_no (unhide Hm) (by decide) (unhide Hb1)
  have b5 : ((np : Int) == 0) = false := by rw [beq_eq_false_iff_ne]; omega
  cases tl with
  | true =>
    have hm : Vf.may x = 1 := by rw [hmay2, if_pos (.inr (.inr (.inr (.inl rfl))))]
    have Hm := hide hm
    clear hm hemp hmay2 k5
    go_wp2_with (go_at_call 38; refine ((unhide KT) _).mono ?_; rintro e w2 ⟨rfl, rfl⟩)
    go_ret2
    exact ptVE_no (unhide Hm) (by decide) (unhide Hb1)
  | false =>
  cases dd with
  | true =>
    have hm : Vf.may x = 1 := by rw [hmay2, if_pos (.inr (.inr (.inr (.inr rfl))))]
    have Hm := hide hm
    clear hm hemp hmay2 k5
    go_wp2_with (first | (go_at_call 38; refine ((unhide KT) _).mono ?_; rintro e w2 ⟨rfl, rfl⟩) | (go_at_call 71; refine (unhide HKC).mono ?_; rintro e w2 ⟨rfl, rfl⟩))
    go_ret2
    exact ptVE_no (unhide Hm) (by decide) (unhide Hb1)
  | false =>
  rw [if_neg (by simp [k5])] at hmay2
  have Hmay2 := hide hmay2
  clear hmay2 k5
  by_cases k6 : x.kind ≠ 1 ∧ 0 < n
  · have hm : Vf.may x = 1 := by rw [unhide Hmay2, if_pos (.inl k6)]
    have b6 : ((x.kind : Int) != 1) = true := by simp; omega
    have b7 : (0 : Int) < (n : Int) := by omega
    have Hm := hide hm
    clear hm hemp k6
    go_wp2_with (first | (go_at_call 38; refine ((unhide KT) _).mono ?_; rintro e w2 ⟨rfl, rfl⟩) | (go_at_call 71; refine (unhide HKC).mono ?_; rintro e w2 ⟨rfl, rfl⟩))
    go_ret2
    exact ptVE_no (unhide Hm) (by decide) (unhide Hb1)
  have i0 : ¬ (0 : Int) < (n : Int) ∨ x.kind = 1 := by omega
  rcases (show x.kind = 1 ∨ x.kind = 2 ∨ x.kind = 3 by omega) with hk | hk | hk
  · have q1 : ((x.kind : Int) != 1) = false := by rw [hk]; rfl
    have q3 : ((x.kind : Int) != 3) = true := by rw [hk]; rfl
    have q4 : ((x.kind : Int) == 3) = false := by rw [hk]; rfl
    clear i0
    by_cases k8 : x.to.size = 0
    · rw [decide_eq_true k8] at hemp
      have hto2 : x.to.toList = [] := List.isEmpty_iff.1 hemp
      have hn1 : ¬ ((x.kind ≠ 1 ∧ 0 < n) ∨ (x.kind ≠ 3 ∧ x.to.size ≠ 0) ∨ (x.kind = 3 ∧ ct ≠ 0)) := by omega
      have Hn1 := hide hn1
      clear hn1 k8 k6 hk
      by_cases k9 : 65536 < n
      · have hm : Vf.may x = 12 := by rw [unhide Hmay2, if_neg (unhide Hn1), if_pos k9]
        have b9 : (65536 : Int) < (n : Int) := by omega
        have Hm := hide hm
        clear hm k9
        go_wp2_with (first | (go_at_call 38; refine ((unhide KT) _).mono ?_; rintro e w2 ⟨rfl, rfl⟩) | (go_at_call 71; refine (unhide HKC).mono ?_; rintro e w2 ⟨rfl, rfl⟩))
        go_ret2
        exact ptVE_no (unhide Hm) (by decide) (unhide Hb1)
      · have hm : Vf.may x = 0 := by rw [unhide Hmay2, if_neg (unhide Hn1), if_neg k9]
        have b9 : ¬ (65536 : Int) < (n : Int) := by omega
        have Hm := hide hm
        clear hm k9
        go_wp2_with (first | (go_at_call 38; refine ((unhide KT) _).mono ?_; rintro e w2 ⟨rfl, rfl⟩) | (go_at_call 71; refine (unhide HKC).mono ?_; rintro e w2 ⟨rfl, rfl⟩))
        go_ret2
        unfold PtVE
        rw [unhide Hm, unhide Hpl, unhide Hnp]
        exact ⟨A1, np, c1, rfl, fun _ => ⟨rfl, own_base (unhide Ho1) (by simp)⟩, (unhide Hb1)⟩
    · rw [decide_eq_false k8] at hemp
      have hto2 : ¬ x.to.toList = [] := fun h => by rw [h] at hemp; cases hemp
      have hm : Vf.may x = 1 := by rw [unhide Hmay2, if_pos (.inr (.inl ⟨by omega, k8⟩))]
      have Hm := hide hm
      clear hm k8 k6 hk
      go_wp2_with (first | (go_at_call 38; refine ((unhide KT) _).mono ?_; rintro e w2 ⟨rfl, rfl⟩) | (go_at_call 71; refine (unhide HKC).mono ?_; rintro e w2 ⟨rfl, rfl⟩))
      go_ret2
      exact ptVE_no (unhide Hm) (by decide) (unhide Hb1)
  · have q1 : ((x.kind : Int) != 1) = true := by rw [hk]; rfl
    have q3 : ((x.kind : Int) != 3) = true := by rw [hk]; rfl
    have q4 : ((x.kind : Int) == 3) = false := by rw [hk]; rfl
    have i1 : ¬ (0 : Int) < (n : Int) := by omega
    clear i0
    by_cases k8 : x.to.size = 0
    · rw [decide_eq_true k8] at hemp
      have hto2 : x.to.toList = [] := List.isEmpty_iff.1 hemp
      have hn1 : ¬ ((x.kind ≠ 1 ∧ 0 < n) ∨ (x.kind ≠ 3 ∧ x.to.size ≠ 0) ∨ (x.kind = 3 ∧ ct ≠ 0)) := by omega
      have Hn1 := hide hn1
      clear hn1 k8 k6 hk
      by_cases k9 : 65536 < n
      · exact absurd k9 (by omega)
      · have hm : Vf.may x = 0 := by rw [unhide Hmay2, if_neg (unhide Hn1), if_neg k9]
        have b9 : ¬ (65536 : Int) < (n : Int) := by omega
        have Hm := hide hm
        clear hm k9
        go_wp2_with (first | (go_at_call 38; refine ((unhide KT) _).mono ?_; rintro e w2 ⟨rfl, rfl⟩) | (go_at_call 71; refine (unhide HKC).mono ?_; rintro e w2 ⟨rfl, rfl⟩))
        go_ret2
        unfold PtVE
        rw [unhide Hm, unhide Hpl, unhide Hnp]
        exact ⟨A1, np, c1, rfl, fun _ => ⟨rfl, own_base (unhide Ho1) (by simp)⟩, (unhide Hb1)⟩
    · rw [decide_eq_false k8] at hemp
      have hto2 : ¬ x.to.toList = [] := fun h => by rw [h] at hemp; cases hemp
      have hm : Vf.may x = 1 := by rw [unhide Hmay2, if_pos (.inr (.inl ⟨by omega, k8⟩))]
      have Hm := hide hm
      clear hm k8 k6 hk
      go_wp2_with (first | (go_at_call 38; refine ((unhide KT) _).mono ?_; rintro e w2 ⟨rfl, rfl⟩) | (go_at_call 71; refine (unhide HKC).mono ?_; rintro e w2 ⟨rfl, rfl⟩))
      go_ret2
      exact ptVE_no (unhide Hm) (by decide) (unhide Hb1)
  · have q1 : ((x.kind : Int) != 1) = true := by rw [hk]; rfl
    have q3 : ((x.kind : Int) != 3) = false := by rw [hk]; rfl
    have q4 : ((x.kind : Int) == 3) = true := by rw [hk]; rfl
    have i1 : ¬ (0 : Int) < (n : Int) := by omega
    clear i0 hemp
    by_cases k8 : ct = 0
    · have hn1 : ¬ ((x.kind ≠ 1 ∧ 0 < n) ∨ (x.kind ≠ 3 ∧ x.to.size ≠ 0) ∨ (x.kind = 3 ∧ ct ≠ 0)) := by omega
      subst k8
      have q8 : ((0 : Int) != 0) = false := rfl
      have Hn1 := hide hn1
      clear hn1 k6 hk
      by_cases k9 : 65536 < n
      · exact absurd k9 (by omega)
      · have hm : Vf.may x = 0 := by rw [unhide Hmay2, if_neg (unhide Hn1), if_neg k9]
        have b9 : ¬ (65536 : Int) < (n : Int) := by omega
        have Hm := hide hm
        clear hm k9
        go_wp2_with (first | (go_at_call 38; refine ((unhide KT) _).mono ?_; rintro e w2 ⟨rfl, rfl⟩) | (go_at_call 71; refine (unhide HKC).mono ?_; rintro e w2 ⟨rfl, rfl⟩) | (go_at_call 53; refine ((unhide KK) _).mono ?_; rintro e w2 ⟨rfl, hb3⟩; have v5b := (hb3.cell (p := ⟨w.heap.size, 5, none⟩) hlt1).trans v5; have Hb3 := hide hb3; clear hb3))
        go_ret2
        unfold PtVE
        rw [unhide Hm, unhide Hpl, unhide Hnp]
        exact ⟨A1, np, c1, rfl, fun _ => ⟨rfl, own_base (own_below (unhide Ho1) (unhide Hb3)) (by simp)⟩, ((unhide Hb1).trans ((unhide Hb3).mono (unhide Hb1).size))⟩
    · have q8 : (ct != 0) = true := by simp [k8]
      have hm : Vf.may x = 1 := by rw [unhide Hmay2, if_pos (.inr (.inr ⟨hk, k8⟩))]
      have Hm := hide hm
      clear hm k8 k6 hk
      go_wp2_with (first | (go_at_call 38; refine ((unhide KT) _).mono ?_; rintro e w2 ⟨rfl, rfl⟩) | (go_at_call 71; refine (unhide HKC).mono ?_; rintro e w2 ⟨rfl, rfl⟩) | (go_at_call 53; refine ((unhide KK) _).mono ?_; rintro e w2 ⟨rfl, hb3⟩; have v5b := (hb3.cell (p := ⟨w.heap.size, 5, none⟩) hlt1).trans v5; have Hb3 := hide hb3; clear hb3))
      go_ret2
      exact ptVE_no (unhide Hm) (by decide) ((unhide Hb1).trans ((unhide Hb3).mono (unhide Hb1).size))
end Go.Proofs.Yteiciabhfjakgaa
namespace Go.Proofs.Yteiciabhfjakgaa
set_option linter.unusedVariables false
set_option linter.unusedSimpArgs false
open Go.RowKit

theorem kids_snoc {F : List Vf.Nd} {L : List Pl} (hl : L.length = F.length) (h0 : 0 < F.length) (x : Vf.Nd) (p : Pl) (d : Nat) :
    kidsM (F ++ [x]) (L ++ [p]) d = kidsM F L d ++ (if x.up = d then [(.string x.name, ndV x p)] else []) := by
  unfold kidsM
  rw [List.zip_append hl.symm, List.drop_append_of_le_length (by rw [List.length_zip]; omega), List.filterMap_append]
  congr 1
  by_cases h : x.up = d
  · simp [h]
  · simp [h]
theorem kids_new {F : List Vf.Nd} {L : List Pl} (hF : Vf.Good F) : kidsM F L F.length = [] := by
  apply List.eq_nil_iff_forall_not_mem.2
  intro e he
  obtain ⟨i, x, p, h1, hz, hu, rfl⟩ := kids_mem.1 he
  have hx := (zip_at hz).1
  have := (hF.up i x hx h1).1
  have := (List.getElem?_eq_some_iff.1 hx).1
  omega
theorem snoc_at {α : Type} {l : List α} {a y : α} {i : Nat} (h : (l ++ [a])[i]? = some y) : (i < l.length ∧ l[i]? = some y) ∨ (i = l.length ∧ y = a) := by
  by_cases hi : i < l.length
  · rw [List.getElem?_append_left hi] at h
    exact .inl ⟨hi, h⟩
  · rw [List.getElem?_append_right (by omega)] at h
    have h0 : i - l.length = 0 := by
      have := (List.getElem?_eq_some_iff.1 h).1
      simp at this
      omega
    rw [h0] at h
    exact .inr ⟨by omega, by simpa using h.symm⟩
/-- The row's own block. -/
theorem row_blk {w : World} {base n c k : Nat} {e : TypeId} {A : Option Addr} {xs : List Value} (h : w.ownsRow base e 1 (.slice A n c) n xs) (hk : (Value.slice A n c).ownBlock = some k) : ∃ cs, w.heap[k]? = some (.cells cs e (0, 0)) := by
  rcases h.2 with ⟨h1, h2⟩ | ⟨g, cap, cur, hv, hbg, hh, hcap⟩
  · rw [h1] at hk; cases hk
  · rw [hv] at hk
    have : g = k := by simpa [Value.ownBlock] using hk
    exact ⟨cur, this ▸ hh⟩
section
variable {w w' : World} {lo f c : Nat} {A : Option Addr} {F : List Vf.Nd} {L : List Pl}
theorem FsM.addNd (h : FsM w lo f A c F L) (hF : Vf.Good F) (x : Vf.Nd) (p : Pl) (xu : Vf.Nd) (pu : Pl) (hxu : F[x.up]? = some xu) (hpu : L[x.up]? = some pu) (hku : xu.m.kind = 2) (A' : Option Addr) (c' : Nat)
    (hrow : w'.ownsRow lo 68 1 (.slice A' (F.length + 1) c') (F.length + 1) ((F.zip L).map (fun y => ndV y.1 y.2) ++ [ndV x p]))
    (hfs : Blk w' f 104 [.slice A' (F.length + 1) c'])
    (hmap : MapG w' pu.g .string (kidsM F L x.up ++ [(.string x.name, ndV x p)]))
    (hk : ∀ k, lo ≤ k → k < w.heap.size → k ≠ f → k ≠ pu.g → (Value.slice A F.length c).ownBlock ≠ some k → w'.heap[k]? = w.heap[k]?)
    (hq : lo ≤ p.q) (hnd : Blk w' p.q (blkT x.m.kind) (ndC x F.length pu.q p))
    (hby : x.m.kind = 1 → p.n = x.data.length ∧ p.n ≤ p.c ∧ RdI w' lo 5 1 p.A p.n (x.data.map fun b => Value.int .u8 (b.toNat : Nat)))
    (hdm : x.m.kind = 2 → lo ≤ p.g ∧ w.heap.size ≤ p.g ∧ MapG w' p.g .string []) : FsM w' lo f A' c' (F ++ [x]) (L ++ [p]) := by
  have hpos := Vf.good_pos hF
  have hul : x.up < F.length := (List.getElem?_eq_some_iff.1 hxu).1
  have hgu := (h.map x.up xu pu hxu hpu hku).2
  obtain ⟨esu, clku, hmu, _⟩ := hgu.there
  have hcells : ∀ k cs t fz, lo ≤ k → w.heap[k]? = some (.cells cs t fz) → t ≠ 104 → t ≠ 68 → w'.heap[k]? = w.heap[k]? := by
    intro k cs t fz hlo hb h1 h2
    refine hk k hlo (Array.getElem?_eq_some_iff.1 hb).1 ?_ ?_ ?_
    · rintro rfl
      have := h.fs
      unfold Blk at this
      rw [hb] at this
      injection this with this
      injection this with _ h3
      exact h1 h3
    · rintro rfl
      rw [hb] at hmu
      cases hmu
    · intro e
      obtain ⟨cs2, h3⟩ := row_blk h.row e
      rw [hb] at h3
      injection h3 with h3
      injection h3 with _ h4
      exact h2 h4
  have hbt : ∀ k, blkT k ≠ 104 ∧ blkT k ≠ 68 := by
    intro k
    unfold blkT
    split
    · exact ⟨by decide, by decide⟩
    · split
      · exact ⟨by decide, by decide⟩
      · exact ⟨by decide, by decide⟩
  have hL : ∀ {i : Nat} {y : Vf.Nd} {r : Pl}, (F ++ [x])[i]? = some y → (L ++ [p])[i]? = some r → (i < F.length ∧ F[i]? = some y ∧ L[i]? = some r) ∨ (i = F.length ∧ y = x ∧ r = p) := by
    intro i y r h1 h2
    have hll := h.len
    rcases snoc_at h1 with ⟨a1, a2⟩ | ⟨a1, a2⟩
    · rcases snoc_at h2 with ⟨b1, b2⟩ | ⟨b1, b2⟩
      · exact .inl ⟨a1, a2, b2⟩
      · omega
    · rcases snoc_at h2 with ⟨b1, b2⟩ | ⟨b1, b2⟩
      · omega
      · exact .inr ⟨a1, a2, b2⟩
  have hup : ∀ {j : Nat} {r : Pl}, L[j]? = some r → (L ++ [p])[j]? = some r := fun hr => by
    rw [List.getElem?_append_left (List.getElem?_eq_some_iff.1 hr).1]
    exact hr
  refine ⟨?_, h.lf, ?_, ?_, ?_, ?_, ?_, ?_⟩
  · rw [List.length_append, List.length_append, h.len]; rfl
  · rw [List.length_append]; exact hfs
  · rw [List.length_append, List.zip_append h.len.symm, List.map_append]; exact hrow
  · intro i y r h1 h2
    rcases hL h1 h2 with ⟨hi, h1, h2⟩ | ⟨rfl, rfl, rfl⟩
    · obtain ⟨a, u, b, d⟩ := h.nd i y r h1 h2
      refine ⟨a, u, hup b, ?_⟩
      unfold Blk
      rw [hcells r.q _ _ _ a d (hbt _).1 (hbt _).2]
      exact d
    · exact ⟨hq, pu, hup hpu, hnd⟩
  · intro i y r h1 h2 h3
    rcases hL h1 h2 with ⟨hi, h1, h2⟩ | ⟨rfl, rfl, rfl⟩
    · obtain ⟨a, b, d⟩ := h.byt i y r h1 h2 h3
      refine ⟨a, b, d.keep fun k o hlo ho ⟨cs, fz, e⟩ => ?_⟩
      subst e
      rw [hcells k _ _ _ hlo ho (by decide) (by decide)]
      exact ho
    · exact hby h3
  · intro i y r h1 h2 h3
    rcases hL h1 h2 with ⟨hi, h1, h2⟩ | ⟨rfl, rfl, rfl⟩
    · obtain ⟨a, b⟩ := h.map i y r h1 h2 h3
      refine ⟨a, ?_⟩
      rw [kids_snoc h.len hpos]
      by_cases hiu : x.up = i
      · subst hiu
        have e1 : r = pu := Option.some.inj (h2.symm.trans hpu)
        subst e1
        rw [if_pos rfl]
        exact hmap
      · rw [if_neg hiu, List.append_nil]
        obtain ⟨es, clk, hm, _⟩ := b.there
        refine b.keep (hk r.g a b.lt ?_ ?_ ?_)
        · rintro rfl
          have := h.fs
          unfold Blk at this
          rw [hm] at this
          cases this
        · intro e
          exact hiu (h.one i x.up y xu r pu h1 hxu h2 hpu h3 hku e).symm
        · intro e
          obtain ⟨cs2, h4⟩ := row_blk h.row e
          rw [hm] at h4
          cases h4
    · obtain ⟨a, _, b⟩ := hdm h3
      refine ⟨a, ?_⟩
      rw [kids_snoc h.len hpos, kids_new hF, if_neg (by omega)]
      exact b
  · intro i j y z r s h1 h2 h3 h4 h5 h6 e
    rcases hL h1 h3 with ⟨hi, a1, a3⟩ | ⟨ei, ey, er⟩
    · rcases hL h2 h4 with ⟨hj, a2, a4⟩ | ⟨ej, ez, es⟩
      · exact h.one i j y z r s a1 a2 a3 a4 h5 h6 e
      · have := (h.map i y r a1 a3 h5).2.lt
        subst ez es
        have := (hdm h6).2.1
        omega
    · rcases hL h2 h4 with ⟨hj, a2, a4⟩ | ⟨ej, ez, es⟩
      · have := (h.map j z s a2 a4 h6).2.lt
        subst ey er
        have := (hdm h5).2.1
        omega
      · omega
end
/-- 'm[x] = v' of a new key at the operation. -/
theorem wpList_updG {P : Program} {t kt e : TypeId} {d : TypeDesc} {w : World} {g : Nat} {m : List (Value × Value)} {x v : Value} {ops : Array Oper} {rest : List Oper} {o : Oper} {a : Act} {Q : Exit → Act → World → Prop} (hgd : o.guard = none) (mo xo vo : Operand) (ho : o.op = .mapUpdate t mo xo vo)
    (ht : P.underlying t = some (.map kt e)) (hk : P.underlying kt = some d) (hik : Go.MapKept.IsKey d x) (hmo : a.eval mo = .map (some g)) (hxo : a.eval xo = x) (hvo : a.eval vo = v) (h : MapG w g d m) (hx : ∀ p ∈ m, p.1 ≠ x)
    (hK : ∀ w', MapG w' g d (m ++ [(x, v)]) → w.grownBy w' (some g) → w'.heap.size = w.heap.size → wpList P ops Q rest (a.put o.dst undef) w') : wpList P ops Q (o :: rest) a w := by
  obtain ⟨w', hrun, h1, h2, h3⟩ := run_putG (v := v) ht hk hik h hx
  refine wpList_plain hgd fun K hK' => ?_
  unfold Oper.wp
  simp [execOp, ho, hmo, hxo, hvo, hrun, Result.andThen]
  exact hK' _ _ (hK w' h1 h2 h3)
end Go.Proofs.Yteiciabhfjakgaa
namespace Go.Proofs.Yteiciabhfjakgaa
set_option linter.unusedVariables false
set_option linter.unusedSimpArgs false
open Go.RowKit
theorem own_keepB' {W W' : World} {base n : Nat} {e : TypeId} {u : Value} {xs : List Value} (h : W.ownsRow base e 1 u n xs) (hk : ∀ g, u.ownBlock = some g → W'.heap[g]? = W.heap[g]?) : W'.ownsRow base e 1 u n xs :=
  ⟨h.1, h.2.imp id fun ⟨g, cap, cur, e1, e2, e3, r⟩ => ⟨g, cap, cur, e1, e2, (hk g (by rw [e1]; rfl)).trans e3, r⟩⟩
section
variable {w1 V V2 V3 : World} {lo f c : Nat} {A : Option Addr} {F : List Vf.Nd} {L : List Pl}
theorem FsM.fOwn (h : FsM w1 lo f A c F L) : (Value.slice A F.length c).ownBlock ≠ some f := by
  intro e
  obtain ⟨cs, h1⟩ := row_blk h.row e
  have h2 := h.fs
  unfold Blk at h2
  rw [h1] at h2
  injection h2 with h2
  injection h2 with _ h3
  exact absurd h3 (by decide)
theorem FsM.fMap (h : FsM w1 lo f A c F L) {g : Nat} {m : List (Value × Value)} (hm : MapG w1 g .string m) : f ≠ g := by
  rintro rfl
  obtain ⟨es, clk, h1, _⟩ := hm.there
  have h2 := h.fs
  unfold Blk at h2
  rw [h1] at h2
  cases h2
theorem FsM.ownMap (h : FsM w1 lo f A c F L) {g : Nat} {m : List (Value × Value)} (hm : MapG w1 g .string m) : (Value.slice A F.length c).ownBlock ≠ some g := by
  intro e
  obtain ⟨cs, h1⟩ := row_blk h.row e
  obtain ⟨es, clk, h2, _⟩ := hm.there
  rw [h1] at h2
  cases h2
/-- f's block stands behind the map's update, and behind the append. -/
theorem FsM.addF (h : FsM w1 lo f A c F L) {xu : Vf.Nd} {pu : Pl} {up : Nat} (hxu : F[up]? = some xu) (hpu : L[up]? = some pu) (hku : xu.m.kind = 2) (hb : Below w1.heap.size w1 V) (hg2 : V.grownBy V2 (some pu.g)) :
    Blk V2 f 104 [.slice A F.length c] ∧ V2.ownsRow lo 68 1 (.slice A F.length c) F.length ((F.zip L).map fun y => ndV y.1 y.2) ∧ w1.heap.size ≤ V2.heap.size ∧ ∀ V3 : World, V2.grownBy V3 (Value.slice A F.length c).ownBlock → Blk V3 f 104 [.slice A F.length c] := by
  have hm := (h.map up xu pu hxu hpu hku).2
  have hkp : ∀ k, k < w1.heap.size → k ≠ pu.g → V2.heap[k]? = w1.heap[k]? := fun k hk hne => (hg2.block k (Nat.lt_of_lt_of_le hk hb.size) (fun e => hne (by injection e))).trans (hb.block k hk)
  have h2 : Blk V2 f 104 [.slice A F.length c] := (hkp f h.fs.lt (h.fMap hm)).trans h.fs
  refine ⟨h2, ?_, Nat.le_trans hb.size hg2.size, fun V3 hg3 => (hg3.block f h2.lt (fun e => h.fOwn e.symm)).trans h2⟩
  refine own_keepB' h.row (fun g hg => hkp g (h.row.lt g hg).2 ?_)
  rintro rfl
  exact h.ownMap hm hg
theorem FsM.addFin (h : FsM w1 lo f A c F L) (hF : Vf.Good F) (x : Vf.Nd) (p : Pl) (xu : Vf.Nd) (pu : Pl) (hxu : F[x.up]? = some xu) (hpu : L[x.up]? = some pu) (hku : xu.m.kind = 2) (hlo : lo ≤ w1.heap.size)
    (hb : Below w1.heap.size w1 V) (hm2 : MapG V2 pu.g .string (kidsM F L x.up ++ [(.string x.name, ndV x p)])) (hg2 : V.grownBy V2 (some pu.g)) (A' : Option Addr) (c' : Nat)
    (ho3 : V3.ownsRow lo 68 1 (.slice A' (F.length + 1) c') (F.length + 1) ((F.zip L).map (fun y => ndV y.1 y.2) ++ [ndV x p])) (hg3 : V2.grownBy V3 (Value.slice A F.length c).ownBlock)
    (hq : w1.heap.size ≤ p.q) (hnd : Blk V p.q (blkT x.m.kind) (ndC x F.length pu.q p))
    (hby : x.m.kind = 1 → p.n = x.data.length ∧ p.n ≤ p.c ∧ RdI V w1.heap.size 5 1 p.A p.n (x.data.map fun b => Value.int .u8 (b.toNat : Nat)))
    (hdm : x.m.kind = 2 → w1.heap.size ≤ p.g ∧ MapG V p.g .string []) :
    FsM (V3.setCell ⟨f, 0, none⟩ (.slice A' (F.length + 1) c')) lo f A' c' (F ++ [x]) (L ++ [p]) ∧ Below lo w1 (V3.setCell ⟨f, 0, none⟩ (.slice A' (F.length + 1) c')) := by
  have hm := (h.map x.up xu pu hxu hpu hku).2
  obtain ⟨hf2, hr2, hs2, hf3'⟩ := h.addF hxu hpu hku hb hg2
  have hf3 := hf3' V3 hg3
  have hgl := hm.lt
  have hfl := h.fs.lt
  have hol : ∀ k, (Value.slice A F.length c).ownBlock = some k → lo ≤ k ∧ k < w1.heap.size := fun k hk => h.row.lt k hk
  have hset : ∀ k, k ≠ f → (V3.setCell ⟨f, 0, none⟩ (.slice A' (F.length + 1) c')).heap[k]? = V3.heap[k]? := fun k hk => heap_setCell_other _ _ _ _ hk
  have hV : ∀ k, k < V.heap.size → k ≠ f → k ≠ pu.g → (Value.slice A F.length c).ownBlock ≠ some k → (V3.setCell ⟨f, 0, none⟩ (.slice A' (F.length + 1) c')).heap[k]? = V.heap[k]? := fun k hk h1 h2 h3 =>
    (hset k h1).trans ((hg3.block k (Nat.lt_of_lt_of_le hk hg2.size) (fun e => h3 e.symm)).trans (hg2.block k hk (fun e => h2 (by injection e))))
  have hVn : ∀ k, w1.heap.size ≤ k → k < V.heap.size → (V3.setCell ⟨f, 0, none⟩ (.slice A' (F.length + 1) c')).heap[k]? = V.heap[k]? := fun k hk hl =>
    hV k hl (by omega) (by omega) (fun e => by have := hol k e; omega)
  refine ⟨h.addNd hF x p xu pu hxu hpu hku A' c' ?_ ?_ ?_ ?_ ?_ ?_ ?_ ?_, ?_⟩
  · refine own_keepB' ho3 (fun g hg => hset g ?_)
    rintro rfl
    obtain ⟨cs, h1⟩ := row_blk ho3 hg
    unfold Blk at hf3
    rw [h1] at hf3
    injection hf3 with hf3
    injection hf3 with _ h3
    exact absurd h3 (by decide)
  · exact hf3.set 0 _
  · refine hm2.keep ((hset _ (fun e => h.fMap hm e.symm)).trans (hg3.block _ hm2.lt (fun e => h.ownMap hm e.symm)))
  · intro k h1 h2 h3 h4 h5
    exact (hV k (Nat.lt_of_lt_of_le h2 hb.size) h3 h4 h5).trans (hb.block k h2)
  · exact Nat.le_trans hlo hq
  · exact (hVn _ hq hnd.lt).trans hnd
  · intro h1
    obtain ⟨a, b, d1, d2⟩ := hby h1
    refine ⟨a, b, d1, d2.imp id fun ⟨bb, off, cs, fz, e, h4, h5, h6⟩ => ⟨bb, off, cs, fz, e, Nat.le_trans hlo h4, ?_, h6⟩⟩
    exact (hVn _ h4 (Array.getElem?_eq_some_iff.1 h5).1).trans h5
  · intro h1
    obtain ⟨a, b⟩ := hdm h1
    exact ⟨Nat.le_trans hlo a, a, b.keep (hVn _ a b.lt)⟩
  · have b1 : Below lo w1 V := hb.mono hlo
    have b2 : Below lo w1 V2 := b1.grown hg2 (Nat.le_trans hlo b1.size) (fun k hk => by injection hk with hk; rw [← hk]; exact (h.map x.up xu pu hxu hpu hku).1)
    have b3 : Below lo w1 V3 := b2.grown hg3 (Nat.le_trans hlo b2.size) (fun k hk => (hol k hk).1)
    exact b3.setCell h.lf _
end
end Go.Proofs.Yteiciabhfjakgaa
namespace Go.Proofs.Yteiciabhfjakgaa
set_option linter.unusedVariables false
set_option linter.unusedSimpArgs false
open Go.RowKit

theorem nodeTy : SlTy Try.prog 102 68 1 16 := slTy_mk (z := .nilIface) Try.underlying102 (by kernel_rfl) rfl (by omega) (by omega)
/-- What add answers; where it is none, the file system has one node more. -/
def AddE (F : List Vf.Nd) (L : List Pl) (lo f : Nat) (x : Vf.Ent) (w : World) (e : Ending) (w' : World) : Prop :=
  e = .returned (.int .i64 (Vf.add F x).1) ∧ ((Vf.add F x).1 = 0 → ∃ L' A' c', FsM w' lo f A' c' (Vf.add F x).2 L') ∧ Below lo w w'
theorem addE_no {F : List Vf.Nd} {L : List Pl} {lo f : Nat} {x : Vf.Ent} {w w' : World} {er : Int} (h : (Vf.add F x).1 = er) (h0 : er ≠ 0) (hb : Below lo w w') : AddE F L lo f x w (.returned (.int .i64 er)) w' := by
  unfold AddE
  rw [h]
  exact ⟨rfl, fun h1 => absurd h1 h0, hb⟩
theorem atV_ne {w : World} {lo f c : Nat} {A : Option Addr} {F : List Vf.Nd} {L : List Pl} (hF : Vf.Good F) (h : FsM w lo f A c F L) {l : List ByteArray} {i : Nat} (hi : Vf.at_ F 0 l = some i) : ∃ x p, F[i]? = some x ∧ L[i]? = some p ∧ atV F L (Vf.at_ F 0 l) = .iface (kindT x.m.kind) (.pointer (some ⟨p.q, 0, none⟩)) := by
  have hl := Vf.at_lt hF l 0 i (Vf.good_pos hF) hi
  obtain ⟨x, hx⟩ : ∃ x, F[i]? = some x := ⟨_, List.getElem?_eq_getElem hl⟩
  obtain ⟨p, hp, _, _⟩ := h.at_ hx
  exact ⟨x, p, hx, hp, by rw [hi]; exact h.ndA_eq hx hp⟩

set_option maxRecDepth 100000 in
set_option maxHeartbeats 4000000 in
theorem add_any (F : List Vf.Nd) (L : List Pl) (lo f c : Nat) (A Ax : Option Addr) (n cx : Nat) (x : Vf.Ent) (w : World) (hF : Vf.Good F) (h : FsM w lo f A c F L) (hlo : lo ≤ w.heap.size) (hn : F.length ≤ 64)
    (hd : Rd w w.heap.size 1 Ax n (bys x.data)) (hnn : n ≤ 4294967296) (hps : x.path.size ≤ 4294967296) (hto : x.to.size ≤ 4294967296) (hmd : x.mode < 65536) :
    Calls Try.prog 46 #[ptrV f, entV x Ax n cx] w (AddE F L lo f x w) := by
  have hdl : x.data.length = n := by simpa [bys] using hd.len1
  have hb0 : Below w.heap.size w (w.alloc (.cells (entC x Ax n cx).toArray 60)) := (Below.refl _ _).alloc (Nat.le_refl _) _
  have hbk : Blk (w.alloc (.cells (entC x Ax n cx).toArray 60)) w.heap.size 60 (entC x Ax n cx) := Blk.new w 60 _
  have KP := hide (partsV_any x Ax n cx (w.alloc (.cells (entC x Ax n cx).toArray 60)) hdl hnn hps hto hmd)
  have KAt : ∀ w', Below w.heap.size w w' → ∀ (A' : Option Addr) (n' c' : Nat) (l : List ByteArray), Rd w' w'.heap.size 1 A' n' (l.map Value.string) → n' ≤ 4294967296 → Calls Try.prog 63 #[.pointer (some ⟨f, 0, none⟩), .slice A' n' c'] w' fun e w2 => e = .returned (atV F L (Vf.at_ F 0 l)) ∧ w' = w2 :=
    fun w' hb A' n' c' l hl hn' => at_any F L lo f c A A' n' c' _ l w' hF (h.belowSz hb) (by omega) hl hn'
  have qn : ∀ w', (binOp .eql 68 .nilIface .nilIface).run Try.prog w' = .ok (.bool true) w' := fun w' => by kernel_rfl
  have qi : ∀ w' t v, (binOp .eql 68 (.iface t v) .nilIface).run Try.prog w' = .ok (.bool false) w' := fun w' t v => by kernel_rfl
  have qn2 : ∀ w', (binOp .neq 68 .nilIface .nilIface).run Try.prog w' = .ok (.bool false) w' := fun w' => by kernel_rfl
  have qi2 : ∀ w' t v, (binOp .neq 68 (.iface t v) .nilIface).run Try.prog w' = .ok (.bool true) w' := fun w' t v => by kernel_rfl
  have HF := hide hF
  have H := hide h
  have HKAt := hide KAt
  have Hb0 := hide hb0
  have Hbk := hide hbk
  have Hd := hide hd
  have Hdl := hide hdl
  unfold entV at KP ⊢
  unfold ptrV
  clear hF h KAt hb0 hbk hd hdl hps hto
  unfold entC at KP
  go_enter Try.func46, Try.ntmps46
  go_wp2_with fail
  refine (unhide KP).mono ?_
  rintro e w1 ⟨A1, n1, c1, rfl, ho1, hb1⟩
  have Hbk1 := hide ((unhide Hbk).belowSz hb1)
  have Hb1 := hide ((unhide Hb0).trans (hb1.mono (by simp)))
  have Ho1 := hide ho1
  clear ho1 hb1 KP Hbk
  by_cases hm : Vf.may x = 0
  case neg =>
    have hr : (Vf.add F x).1 = Vf.may x := by unfold Vf.add; rw [if_pos hm]
    have Hr := hide hr
    have Hm := hide hm
    obtain ⟨me, hme⟩ : ∃ v, Vf.may x = v := ⟨_, rfl⟩
    rw [hme] at Hr Hm hm ⊢
    have q1 : (me != 0) = true := by simp [hm]
    have Hb := hide ((unhide Hb1).mono hlo)
    clear hr hm hme
    go_wp2_with fail
    go_ret
    exact addE_no (unhide Hr) (unhide Hm) (unhide Hb)
  obtain ⟨hn1, ho2⟩ := (unhide Ho1) hm
  obtain ⟨m1, m2, m3, m4, m5, m6, m7, m8, m9, m10, m11⟩ := Vf.may_ok hm
  have hpl := Vf.parts_len x.path
  have hadd : Vf.add F x = if (Vf.at_ F 0 (Pth.partsL x.path)).isSome then ((7 : Int), F) else match Vf.at_ F 0 (Pth.partsL x.path).dropLast with
    | none => ((3 : Int), F)
    | some up => if Vf.kindAt F up ≠ 2 then ((8 : Int), F) else ((0 : Int), F ++ [Vf.ndOf x up]) := by
    unfold Vf.add
    rw [if_neg (by simp [hm])]
    rfl
  rw [hm]
  have q1 : ((0 : Int) != 0) = false := rfl
  have hn0 : 0 < n1 := by rw [hn1]; exact List.length_pos_iff.2 m5
  have hr1 := Rd.of_own ho2
  have HKA := hide ((unhide HKAt) w1 (unhide Hb1) A1 n1 c1 (Pth.partsL x.path) hr1 (by omega))
  have hcp := own_cap ho2
  have rs := fun w' => run_to (P := Try.prog) Try.underlying85 (e := 9) (by kernel_rfl) A1 n1 c1 (n1 - 1) (by omega) w'
  have hdrop : ((Pth.partsL x.path).map Value.string).take (n1 - 1) = (Pth.partsL x.path).dropLast.map Value.string := by
    rw [hn1, List.dropLast_eq_take, List.map_take]
  have hr2 : Rd w1 w1.heap.size 1 A1 (n1 - 1) ((Pth.partsL x.path).dropLast.map Value.string) := by
    rw [← hdrop]
    exact hr1.to_ (by omega)
  have HKA2 := hide ((unhide HKAt) w1 (unhide Hb1) A1 (n1 - 1) c1 (Pth.partsL x.path).dropLast hr2 (by omega))
  obtain ⟨k1, hk1⟩ : ∃ k1, n1 - 1 = k1 := ⟨_, rfl⟩
  have ei : IntKind.i64.wrap ((n1 : Int) - 1) = (k1 : Int) := by rw [IntWalk.i64_in _ (by omega)]; omega
  have j1 : (k1 : Int) < (n1 : Int) := by omega
  rw [hk1] at rs HKA2
  have Hk1 := hide hk1
  clear hk1
  have Hadd := hide hadd
  have Hm := hide hm
  have Hr1 := hide hr1
  have Hn1 := hide hn1
  have Hm11 := hide m11
  have Hm5 := hide m5
  have hn1b : n1 ≤ 201 := by omega
  obtain ⟨pl, hple⟩ : ∃ l, Pth.partsL x.path = l := ⟨_, rfl⟩
  have Hple := hide hple
  clear ho2 m1 m2 m3 m4 m5 m6 m7 m8 m9 m10 m11 hpl hadd hm hr1 hcp hdrop hr2 Ho1 hn1 hple
  cases ha : Vf.at_ F 0 (Pth.partsL x.path) with
  | some i =>
    obtain ⟨xi, pi, _, _, ea⟩ := atV_ne (unhide HF) (unhide H) ha
    rw [ea] at HKA
    have hr : (Vf.add F x).1 = 7 := by rw [unhide Hadd, ha]; rfl
    have Hr := hide hr
    have Hb := hide ((unhide Hb1).mono hlo)
    clear hr ha ea
    go_wp2_with fail
    refine (unhide HKA).mono ?_
    rintro e w2 ⟨rfl, rfl⟩
    go_wp2_with fail
    go_ret
    exact addE_no (unhide Hr) (by decide) (unhide Hb)
  | none =>
    have hadd := unhide Hadd
    rw [ha] at hadd HKA
    simp only [Option.isSome_none, Bool.false_eq_true, if_false] at hadd
    have ea : atV F L none = .nilIface := rfl
    rw [ea] at HKA
    have Hat0 := hide ha
    clear ha ea Hadd
    go_wp2_with fail
    refine (unhide HKA).mono ?_
    rintro e w2 ⟨rfl, rfl⟩
    go_wp2_with fail
    refine (unhide HKA2).mono ?_
    rintro e w2 ⟨rfl, rfl⟩
    cases hu : Vf.at_ F 0 (Pth.partsL x.path).dropLast with
    | none =>
      have ea : atV F L none = .nilIface := rfl
      rw [ea]
      rw [hu] at hadd
      have hr : (Vf.add F x).1 = 3 := by rw [hadd]
      have Hr := hide hr
      have Hb := hide ((unhide Hb1).mono hlo)
      clear hr hu ea hadd
      go_wp2_with fail
      go_ret
      exact addE_no (unhide Hr) (by decide) (unhide Hb)
    | some up =>
      obtain ⟨xu, pu, hxu, hpu, ea⟩ := atV_ne (unhide HF) (unhide H) hu
      rw [hu] at ea hadd
      rw [ea]
      simp only at hadd
      rw [Vf.kindAt_eq hxu] at hadd
      by_cases hk : xu.m.kind = 2
      case neg =>
        rw [if_pos hk] at hadd
        have hr : (Vf.add F x).1 = 8 := by rw [hadd]
        have Hr := hide hr
        have Hb := hide ((unhide Hb1).mono hlo)
        have ha1 := file_no_dir (.pointer (some ⟨pu.q, 0, none⟩))
        have ha2 := link_no_dir (.pointer (some ⟨pu.q, 0, none⟩))
        have et : kindT xu.m.kind = 80 ∨ kindT xu.m.kind = 121 := by
          rcases kind3 (unhide HF) hxu with h1 | h1 | h1
          · exact .inl (by rw [h1]; rfl)
          · exact absurd h1 hk
          · exact .inr (by rw [h1]; rfl)
        clear hr hadd hxu hpu ea hu hk
        rcases et with et | et
        all_goals
          rw [et]
          clear et
          go_wp2_with fail
          go_ret
          exact addE_no (unhide Hr) (by decide) (unhide Hb)
      rw [if_neg (by simp [hk])] at hadd
      have et : kindT xu.m.kind = 70 := by rw [hk]; rfl
      rw [et]
      have ha1 := is_dir (.pointer (some ⟨pu.q, 0, none⟩))
      have Hadd := hide hadd
      have Hxu := hide hxu
      have Hpu := hide hpu
      have Hk := hide hk
      have Hu := hide hu
      have HW1 := hide ((unhide H).belowSz (unhide Hb1))
      have hfs1 := (unhide HW1).fs
      obtain ⟨flen, hfl⟩ : ∃ n, F.length = n := ⟨_, rfl⟩
      have Hfl := hide hfl
      rw [hfl] at hfs1 hn
      have hbk1 := unhide Hbk1
      obtain ⟨nm, hnm⟩ : ∃ nm, Vf.lastOf (Pth.partsL x.path) = nm := ⟨_, rfl⟩
      have hlast : ((Pth.partsL x.path).map Value.string)[k1]? = some (.string nm) := by
        rw [← unhide Hk1, unhide Hn1, ← List.length_map (f := Value.string), ← List.getLast?_eq_getElem?, List.getLast?_map, ← hnm]
        unfold Vf.lastOf
        rw [List.getLast?_eq_some_getLast (unhide Hm5)]
        rfl
      obtain ⟨b3, o3, hA1, _, c3⟩ := (unhide Hr1).at_ (k := k1) hlast
      subst hA1
      have Hnm := hide hnm
      have hcn : Vf.child F up nm = none := by
        have h1 := unhide Hat0
        rw [Vf.lastOf_app (unhide Hm5), Vf.at_app, hu, hnm] at h1
        cases hq : Vf.child F up nm with
        | none => rfl
        | some j => simp [Vf.at_, hq] at h1
      have HSK : ∀ w', Below w1.heap.size w1 w' → (Below w1.heap.size w1 w' ∧ w'.cell? ⟨w.heap.size, 1, none⟩ = some (.int .u8 (x.kind : Nat)) ∧ w'.cell? ⟨w.heap.size, 2, none⟩ = some (.int .u16 (x.mode : Nat)) ∧ w'.cell? ⟨w.heap.size, 3, none⟩ = some (.int .u32 (x.uid : Nat)) ∧ w'.cell? ⟨w.heap.size, 4, none⟩ = some (.int .u32 (x.gid : Nat)) ∧ w'.cell? ⟨w.heap.size, 5, none⟩ = some (.slice Ax n cx) ∧ w'.cell? ⟨f, 0, none⟩ = some (.slice A flen c) ∧ w'.cell? ⟨b3, o3 + k1, none⟩ = some (.string nm)) := by
        intro w' hbw
        have h1 := hbk1.belowSz hbw
        have h2 := hfs1.belowSz hbw
        refine ⟨hbw, h1.cell rfl, h1.cell rfl, h1.cell rfl, h1.cell rfl, h1.cell rfl, h2.cell rfl, (hbw.cell (p := ⟨b3, o3 + k1, none⟩) (cell_lt c3)).trans c3⟩
      have v := HSK w1 (Below.refl _ _)
      obtain ⟨-, v1, v2, v3, v4, v5, v6, v7⟩ := v
      have HSK' := hide HSK
      have hbW : Below w1.heap.size w1 (w1.alloc (.cells #[.int .u8 (x.kind : Nat), .int .u16 (x.mode : Nat), .int .u32 (x.uid : Nat), .int .u32 (x.gid : Nat), .int .i64 (n : Nat), .int .i64 (flen : Nat), .pointer (some ⟨pu.q, 0, none⟩), .string nm] 72)).drew := below_drew' ((Below.refl _ _).alloc (Nat.le_refl _) _)
      have hBb : Blk (w1.alloc (.cells #[.int .u8 (x.kind : Nat), .int .u16 (x.mode : Nat), .int .u32 (x.uid : Nat), .int .u32 (x.gid : Nat), .int .i64 (n : Nat), .int .i64 (flen : Nat), .pointer (some ⟨pu.q, 0, none⟩), .string nm] 72)).drew w1.heap.size 72 [.int .u8 (x.kind : Nat), .int .u16 (x.mode : Nat), .int .u32 (x.uid : Nat), .int .u32 (x.gid : Nat), .int .i64 (n : Nat), .int .i64 (flen : Nat), .pointer (some ⟨pu.q, 0, none⟩), .string nm] := Blk.new w1 _ _
      have HbW := hide hbW
      have HBb := hide hBb
      clear hbW hBb
      clear hadd hxu hpu ea hu hk et HSK c3 hlast hnm hbk1 hfs1 hfl
      go_wp2_with fail
      go_region_held3 (fun w' => Below w1.heap.size w1 w' ∧ w'.cell? ⟨w.heap.size, 1, none⟩ = some (.int .u8 (x.kind : Nat)) ∧ w'.cell? ⟨w.heap.size, 2, none⟩ = some (.int .u16 (x.mode : Nat)) ∧ w'.cell? ⟨w.heap.size, 3, none⟩ = some (.int .u32 (x.uid : Nat)) ∧ w'.cell? ⟨w.heap.size, 4, none⟩ = some (.int .u32 (x.gid : Nat)) ∧ w'.cell? ⟨w.heap.size, 5, none⟩ = some (.slice Ax n cx) ∧ w'.cell? ⟨f, 0, none⟩ = some (.slice A flen c) ∧ w'.cell? ⟨b3, o3 + k1, none⟩ = some (.string nm)) (first | exact (unhide HSK') _ (below_drew' (Below.refl _ _)) | exact (unhide HSK') _ (below_drew' ((Below.refl _ _).alloc (Nat.le_refl _) _)) | exact (unhide HSK') _ (unhide HbW)) (fail)
      clear v1 v2 v3 v4 v5 v6 v7
      generalize (w1.alloc (.cells #[.int .u8 (x.kind : Nat), .int .u16 (x.mode : Nat), .int .u32 (x.uid : Nat), .int .u32 (x.gid : Nat), .int .i64 (n : Nat), .int .i64 (flen : Nat), .pointer (some ⟨pu.q, 0, none⟩), .string nm] 72)).drew = W at *
      obtain ⟨-, v1, v2, v3, v4, v5, v6, v7⟩ := (unhide HSK') W (unhide HbW)
      have hB2 := (unhide HBb)
      obtain ⟨y0, y1, y2, y3, y4, y5, y6, y7⟩ : W.cell? ⟨w1.heap.size, 0, none⟩ = some (.int .u8 (x.kind : Nat)) ∧ W.cell? ⟨w1.heap.size, 1, none⟩ = some (.int .u16 (x.mode : Nat)) ∧ W.cell? ⟨w1.heap.size, 2, none⟩ = some (.int .u32 (x.uid : Nat)) ∧ W.cell? ⟨w1.heap.size, 3, none⟩ = some (.int .u32 (x.gid : Nat)) ∧ W.cell? ⟨w1.heap.size, 4, none⟩ = some (.int .i64 (n : Nat)) ∧ W.cell? ⟨w1.heap.size, 5, none⟩ = some (.int .i64 (flen : Nat)) ∧ W.cell? ⟨w1.heap.size, 6, none⟩ = some (.pointer (some ⟨pu.q, 0, none⟩)) ∧ W.cell? ⟨w1.heap.size, 7, none⟩ = some (.string nm) := ⟨hB2.cell rfl, hB2.cell rfl, hB2.cell rfl, hB2.cell rfl, hB2.cell rfl, hB2.cell rfl, hB2.cell rfl, hB2.cell rfl⟩
      clear hB2
      have hmm := @run_makeMap Try.prog
      have hkind := (Vf.may_ok (unhide Hm)).1
      rcases (show x.kind = 1 ∨ x.kind = 2 ∨ x.kind = 3 by omega) with hk | hk | hk
      · have q2 : ((x.kind : Int) == 2) = false := by rw [hk]; rfl
        have q3 : ((x.kind : Int) == 1) = true := by rw [hk]; rfl
        have KC : ∀ w', Below W.heap.size W w' → Calls Try.prog 31 #[.slice Ax n cx] w' (CloneBE n x.data w') := fun w' hb =>
          cloneB_any Ax n cx w.heap.size x.data w' ((unhide Hd).below ((unhide Hb1).trans (((unhide HbW).mono (unhide Hb1).size).trans (hb.mono (Nat.le_trans (unhide Hb1).size (unhide HbW).size))))) (Nat.le_trans (Nat.le_trans (unhide Hb1).size (unhide HbW).size) hb.size) hnn
        have HSC : ∀ w', Below W.heap.size W w' → (Below W.heap.size W w' ∧ w'.cell? ⟨w1.heap.size, 0, none⟩ = some (.int .u8 (x.kind : Nat)) ∧ w'.cell? ⟨w1.heap.size, 1, none⟩ = some (.int .u16 (x.mode : Nat)) ∧ w'.cell? ⟨w1.heap.size, 2, none⟩ = some (.int .u32 (x.uid : Nat)) ∧ w'.cell? ⟨w1.heap.size, 3, none⟩ = some (.int .u32 (x.gid : Nat)) ∧ w'.cell? ⟨w1.heap.size, 4, none⟩ = some (.int .i64 (n : Nat)) ∧ w'.cell? ⟨w1.heap.size, 5, none⟩ = some (.int .i64 (flen : Nat)) ∧ w'.cell? ⟨w1.heap.size, 6, none⟩ = some (.pointer (some ⟨pu.q, 0, none⟩)) ∧ w'.cell? ⟨w1.heap.size, 7, none⟩ = some (.string nm) ∧ w'.cell? ⟨w.heap.size, 5, none⟩ = some (.slice Ax n cx)) := by
          intro w' hb
          have h1 := (unhide HBb).belowSz hb
          have h2 := (unhide HSK') w' ((unhide HbW).trans (hb.mono (unhide HbW).size))
          exact ⟨hb, h1.cell rfl, h1.cell rfl, h1.cell rfl, h1.cell rfl, h1.cell rfl, h1.cell rfl, h1.cell rfl, h1.cell rfl, h2.2.2.2.2.2.1⟩
        have Hkk := hide hk
        have HKC := hide KC
        have HSC' := hide HSC
        clear hk hkind KC HSC
        go_wp2_with fail
        go_region_held3 (fun w' => Below W.heap.size W w' ∧ w'.cell? ⟨w1.heap.size, 0, none⟩ = some (.int .u8 (x.kind : Nat)) ∧ w'.cell? ⟨w1.heap.size, 1, none⟩ = some (.int .u16 (x.mode : Nat)) ∧ w'.cell? ⟨w1.heap.size, 2, none⟩ = some (.int .u32 (x.uid : Nat)) ∧ w'.cell? ⟨w1.heap.size, 3, none⟩ = some (.int .u32 (x.gid : Nat)) ∧ w'.cell? ⟨w1.heap.size, 4, none⟩ = some (.int .i64 (n : Nat)) ∧ w'.cell? ⟨w1.heap.size, 5, none⟩ = some (.int .i64 (flen : Nat)) ∧ w'.cell? ⟨w1.heap.size, 6, none⟩ = some (.pointer (some ⟨pu.q, 0, none⟩)) ∧ w'.cell? ⟨w1.heap.size, 7, none⟩ = some (.string nm) ∧ w'.cell? ⟨w.heap.size, 5, none⟩ = some (.slice Ax n cx)) (first | exact (unhide HSC') _ (below_drew' (Below.refl _ _)) | exact (unhide HSC') _ (unhide hbn) | exact (unhide HSC') _ ((unhide hbn).alloc (unhide hbn).size _)) (first
          | (go_at_call 31; rename Below _ _ _ ∧ _ => hH; refine ((unhide HKC) _ hH.1).mono ?_; rintro e w3 ⟨A5, c5, rfl, ho5, hb5⟩; have hbn := hide (hH.1.trans (hb5.mono hH.1.size)); have Ho5 := hide ho5; have Hlo5 := hide (Nat.le_trans (unhide HbW).size hH.1.size); clear ho5 hb5))
        have HbW3 := hide ((unhide HbW).trans ((unhide hbn).mono (unhide HbW).size))
        go_wp2_with fail
        obtain ⟨np, hnp⟩ : ∃ np : Pl, (⟨w3.heap.size, 0, A5, n, c5⟩ : Pl) = np := ⟨_, rfl⟩
        have hbV : Below w1.heap.size w1 (w3.alloc (.cells #[.int .u8 (x.kind : Nat), .int .u16 (x.mode : Nat), .int .u32 (x.uid : Nat), .int .u32 (x.gid : Nat), .int .i64 (n : Nat), .int .i64 (flen : Nat), .pointer (some ⟨pu.q, 0, none⟩), .string nm, .slice A5 n c5] 83)) := (unhide HbW3).alloc (unhide HbW3).size _
        have hndV : Blk (w3.alloc (.cells #[.int .u8 (x.kind : Nat), .int .u16 (x.mode : Nat), .int .u32 (x.uid : Nat), .int .u32 (x.gid : Nat), .int .i64 (n : Nat), .int .i64 (flen : Nat), .pointer (some ⟨pu.q, 0, none⟩), .string nm, .slice A5 n c5] 83)) np.q (blkT (Vf.ndOf x up).m.kind) (ndC (Vf.ndOf x up) F.length pu.q np) := by
          have e1 : ndC (Vf.ndOf x up) F.length pu.q np = [.int .u8 (x.kind : Nat), .int .u16 (x.mode : Nat), .int .u32 (x.uid : Nat), .int .u32 (x.gid : Nat), .int .i64 (n : Nat), .int .i64 (flen : Nat), .pointer (some ⟨pu.q, 0, none⟩), .string nm, .slice A5 n c5] := by
            unfold ndC lastV
            rw [show (Vf.ndOf x up).m.kind = x.kind from rfl, if_neg (by rw [unhide Hkk]; decide), if_pos (unhide Hkk), unhide Hfl]
            try rw [← hnp]
            simp only [Vf.ndOf, unhide Hdl, unhide Hnm]
            rfl
          have e2 : blkT (Vf.ndOf x up).m.kind = 83 := by rw [show (Vf.ndOf x up).m.kind = x.kind from rfl, unhide Hkk]; rfl
          rw [e1, e2, ← hnp]
          exact Blk.new w3 83 [.int .u8 (x.kind : Nat), .int .u16 (x.mode : Nat), .int .u32 (x.uid : Nat), .int .u32 (x.gid : Nat), .int .i64 (n : Nat), .int .i64 (flen : Nat), .pointer (some ⟨pu.q, 0, none⟩), .string nm, .slice A5 n c5]
        have hbyV : (Vf.ndOf x up).m.kind = 1 → np.n = (Vf.ndOf x up).data.length ∧ np.n ≤ np.c ∧ RdI (w3.alloc (.cells #[.int .u8 (x.kind : Nat), .int .u16 (x.mode : Nat), .int .u32 (x.uid : Nat), .int .u32 (x.gid : Nat), .int .i64 (n : Nat), .int .i64 (flen : Nat), .pointer (some ⟨pu.q, 0, none⟩), .string nm, .slice A5 n c5] 83)) w1.heap.size 5 1 np.A np.n ((Vf.ndOf x up).data.map fun b => Value.int .u8 (b.toNat : Nat)) := by
          intro _
          rw [← hnp]
          refine ⟨(unhide Hdl).symm, own_cap (unhide Ho5), ?_⟩
          have h5 : RdI w3 w1.heap.size 5 1 A5 n (bys x.data) := RdI.of_own (own_base (unhide Ho5) (unhide Hlo5))
          exact h5.keep fun k o _ ho _ => (Below.heap_alloc _ _ _ (Array.getElem?_eq_some_iff.1 ho).1).trans ho
        have hdmV : (Vf.ndOf x up).m.kind = 2 → w1.heap.size ≤ np.g ∧ MapG (w3.alloc (.cells #[.int .u8 (x.kind : Nat), .int .u16 (x.mode : Nat), .int .u32 (x.uid : Nat), .int .u32 (x.gid : Nat), .int .i64 (n : Nat), .int .i64 (flen : Nat), .pointer (some ⟨pu.q, 0, none⟩), .string nm, .slice A5 n c5] 83)) np.g .string [] := by
          intro h
          have : x.kind = 2 := h
          rw [unhide Hkk] at this
          cases this
        have hnpq : w1.heap.size ≤ np.q := by rw [← hnp]; exact (unhide HbW3).size
        have hnpe : np.q = w3.heap.size := by rw [← hnp]
        clear hnp
        generalize (w3.alloc (.cells #[.int .u8 (x.kind : Nat), .int .u16 (x.mode : Nat), .int .u32 (x.uid : Nat), .int .u32 (x.gid : Nat), .int .i64 (n : Nat), .int .i64 (flen : Nat), .pointer (some ⟨pu.q, 0, none⟩), .string nm, .slice A5 n c5] 83)) = V at *
        rw [← hnpe]
        clear hnpe
        have HbV := hide hbV
        have HnV := hide hndV
        have HyV := hide hbyV
        have HdV := hide hdmV
        clear hbV hndV hbyV hdmV
        obtain ⟨-, z1, z2, z3, z4, z5, z6, z7⟩ := (unhide HSK') V (unhide HbV)
        have hmu := ((unhide HW1).map up xu pu (unhide Hxu) (unhide Hpu) (unhide Hk)).2.belowSz (unhide HbV)
        obtain ⟨_, uu, _, hbu⟩ := (unhide HW1).nd up xu pu (unhide Hxu) (unhide Hpu)
        have e8 : lastV xu pu = .map (some pu.g) := by unfold lastV; rw [if_pos (unhide Hk)]
        have z8 : V.cell? ⟨pu.q, 8, none⟩ = some (lastV xu pu) := (hbu.belowSz (unhide HbV)).cell rfl
        rw [e8] at z8
        have z7' : World.cell? { heap := V.heap, tape := V.tape, drawn := V.drawn + 1, os := V.os, output := V.output } ⟨b3, o3 + k1, none⟩ = some (.string nm) := z7
        have z8' : World.cell? { heap := V.heap, tape := V.tape, drawn := V.drawn + 1, os := V.os, output := V.output } ⟨pu.q, 8, none⟩ = some (.map (some pu.g)) := z8
        have hmuD : MapG V.drew pu.g .string (kidsM F L up) := ⟨hmu.there, hmu.keys, hmu.once⟩
        have hnone := kids_no (unhide HF) (L := L) (hcn)
        have HmuD := hide hmuD
        have Hnone := hide hnone
        clear v1 v2 v3 v4 v5 v6 v7 y0 y1 y2 y3 y4 y5 y6 y7 z1 z2 z3 z4 z5 z6 hmu hbu e8 hmuD hnone
        go_still_tail 9, (by kernel_rfl)
        change wpList _ _ _ _ _ V.drew
        refine wpList_updG (x := .string nm) (g := pu.g) rfl _ _ _ rfl Try.underlying86 Try.underlying9 (by simp [Go.MapKept.IsKey]) rfl rfl rfl (unhide HmuD) (unhide Hnone) ?_
        intro V2 hm2 hg2 hs2
        have HbV' : Hid (Below w1.heap.size w1 V.drew) := hide (below_drew' (unhide HbV))
        obtain ⟨f2, r2, s2, f3⟩ := (unhide HW1).addF (unhide Hxu) (unhide Hpu) (unhide Hk) (unhide HbV') hg2
        have u0 : V2.cell? ⟨f, 0, none⟩ = some (.slice A F.length c) := f2.cell rfl
        rw [unhide Hfl] at u0
        have Hr2 := hide r2
        have Hf3 := hide f3
        have Hm2 := hide hm2
        have Hg2 := hide hg2
        have hlo2 : lo ≤ V2.heap.size := by have := (unhide Hb1).size; omega
        clear f2 r2 s2 f3 hm2 hg2 hs2 z7 z8 z7' z8'
        go_wp2_with (at_builtin; refine wpList_app1 nodeTy rfl _ _ rfl lo (.slice A flen c) flen _ rfl (by have := unhide Hr2; rw [unhide Hfl] at this; exact this) #[.iface 80 (.pointer (some ⟨np.q, 0, none⟩))] rfl rfl (by simp [Value.oneCell']) (by omega) hlo2 ?_; intro A4 c4 V3 ho3 hg3 hat3; have hff := (unhide Hf3) V3 (by rw [unhide Hfl]; exact hg3); have t0 : V3.cell? ⟨f, 0, none⟩ = some (.slice A F.length c) := hff.cell rfl; rw [unhide Hfl] at t0; have tf : V3.frozen? ⟨f, 0, none⟩ = false := hff.free 0; have Ho3 := hide ho3; have Hg3 := hide hg3; clear ho3 hg3 hat3 hff)
        go_ret
        have hnd0 : ndV (Vf.ndOf x up) np = .iface 80 (.pointer (some ⟨np.q, 0, none⟩)) := by unfold ndV kindT; rw [show (Vf.ndOf x up).m.kind = x.kind from rfl, unhide Hkk]; rfl
        have hnm0 : (Vf.ndOf x up).name = nm := unhide Hnm
        have hfin := (unhide HW1).addFin (V := V.drew) (V2 := V2) (V3 := V3) (unhide HF) (Vf.ndOf x up) np xu pu (unhide Hxu) (unhide Hpu) (unhide Hk) (by have := (unhide Hb1).size; omega) (unhide HbV') (by rw [hnm0, hnd0]; exact unhide Hm2) (unhide Hg2) A4 c4 (by rw [hnd0, unhide Hfl]; exact unhide Ho3) (by rw [unhide Hfl]; exact unhide Hg3) hnpq (unhide HnV) (unhide HyV) (fun h => ⟨((unhide HdV) h).1, ((unhide HdV) h).2.keep rfl⟩)
        rw [unhide Hfl] at hfin
        unfold AddE
        rw [unhide Hadd]
        exact ⟨rfl, fun _ => ⟨_, A4, c4, hfin.1⟩, ((unhide Hb1).mono hlo).trans hfin.2⟩
      · have q2 : ((x.kind : Int) == 2) = true := by rw [hk]; rfl
        have Hkk := hide hk
        clear hk hkind
        go_wp2_with fail
        obtain ⟨np, hnp⟩ : ∃ np : Pl, (⟨W.heap.size + 1, W.heap.size, none, 0, 0⟩ : Pl) = np := ⟨_, rfl⟩
        have hbV : Below w1.heap.size w1 ((W.alloc (.map #[] 0)).alloc (.cells #[.int .u8 (x.kind : Nat), .int .u16 (x.mode : Nat), .int .u32 (x.uid : Nat), .int .u32 (x.gid : Nat), .int .i64 (n : Nat), .int .i64 (flen : Nat), .pointer (some ⟨pu.q, 0, none⟩), .string nm, .map (some W.heap.size)] 88)) := ((unhide HbW).alloc (unhide HbW).size _).alloc (by have := (unhide HbW).size; simp; omega) _
        have hndV : Blk ((W.alloc (.map #[] 0)).alloc (.cells #[.int .u8 (x.kind : Nat), .int .u16 (x.mode : Nat), .int .u32 (x.uid : Nat), .int .u32 (x.gid : Nat), .int .i64 (n : Nat), .int .i64 (flen : Nat), .pointer (some ⟨pu.q, 0, none⟩), .string nm, .map (some W.heap.size)] 88)) np.q (blkT (Vf.ndOf x up).m.kind) (ndC (Vf.ndOf x up) F.length pu.q np) := by
          have e1 : ndC (Vf.ndOf x up) F.length pu.q np = [.int .u8 (x.kind : Nat), .int .u16 (x.mode : Nat), .int .u32 (x.uid : Nat), .int .u32 (x.gid : Nat), .int .i64 (n : Nat), .int .i64 (flen : Nat), .pointer (some ⟨pu.q, 0, none⟩), .string nm, .map (some W.heap.size)] := by
            unfold ndC lastV
            rw [show (Vf.ndOf x up).m.kind = x.kind from rfl, if_pos (unhide Hkk), unhide Hfl]
            try rw [← hnp]
            simp only [Vf.ndOf, unhide Hdl, unhide Hnm]
            rfl
          have e2 : blkT (Vf.ndOf x up).m.kind = 88 := by rw [show (Vf.ndOf x up).m.kind = x.kind from rfl, unhide Hkk]; rfl
          rw [e1, e2, ← hnp]
          have := Blk.new (W.alloc (.map #[] 0)) 88 [.int .u8 (x.kind : Nat), .int .u16 (x.mode : Nat), .int .u32 (x.uid : Nat), .int .u32 (x.gid : Nat), .int .i64 (n : Nat), .int .i64 (flen : Nat), .pointer (some ⟨pu.q, 0, none⟩), .string nm, .map (some W.heap.size)]
          rw [World.size_alloc] at this
          exact this
        have hbyV : (Vf.ndOf x up).m.kind = 1 → np.n = (Vf.ndOf x up).data.length ∧ np.n ≤ np.c ∧ RdI ((W.alloc (.map #[] 0)).alloc (.cells #[.int .u8 (x.kind : Nat), .int .u16 (x.mode : Nat), .int .u32 (x.uid : Nat), .int .u32 (x.gid : Nat), .int .i64 (n : Nat), .int .i64 (flen : Nat), .pointer (some ⟨pu.q, 0, none⟩), .string nm, .map (some W.heap.size)] 88)) w1.heap.size 5 1 np.A np.n ((Vf.ndOf x up).data.map fun b => Value.int .u8 (b.toNat : Nat)) := by
          intro h
          have : x.kind = 1 := h
          rw [unhide Hkk] at this
          cases this
        have hdmV : (Vf.ndOf x up).m.kind = 2 → w1.heap.size ≤ np.g ∧ MapG ((W.alloc (.map #[] 0)).alloc (.cells #[.int .u8 (x.kind : Nat), .int .u16 (x.mode : Nat), .int .u32 (x.uid : Nat), .int .u32 (x.gid : Nat), .int .i64 (n : Nat), .int .i64 (flen : Nat), .pointer (some ⟨pu.q, 0, none⟩), .string nm, .map (some W.heap.size)] 88)) np.g .string [] := by
          intro _
          rw [← hnp]
          exact ⟨(unhide HbW).size, (MapG.nil W _).belowSz ((Below.refl _ _).alloc (Nat.le_refl _) _)⟩
        have hnpq : w1.heap.size ≤ np.q := by rw [← hnp]; have := (unhide HbW).size; simp; omega
        have hnpe : np.q = W.heap.size + 1 := by rw [← hnp]
        clear hnp
        generalize ((W.alloc (.map #[] 0)).alloc (.cells #[.int .u8 (x.kind : Nat), .int .u16 (x.mode : Nat), .int .u32 (x.uid : Nat), .int .u32 (x.gid : Nat), .int .i64 (n : Nat), .int .i64 (flen : Nat), .pointer (some ⟨pu.q, 0, none⟩), .string nm, .map (some W.heap.size)] 88)) = V at *
        rw [← hnpe]
        clear hnpe
        have HbV := hide hbV
        have HnV := hide hndV
        have HyV := hide hbyV
        have HdV := hide hdmV
        clear hbV hndV hbyV hdmV
        obtain ⟨-, z1, z2, z3, z4, z5, z6, z7⟩ := (unhide HSK') V (unhide HbV)
        have hmu := ((unhide HW1).map up xu pu (unhide Hxu) (unhide Hpu) (unhide Hk)).2.belowSz (unhide HbV)
        obtain ⟨_, uu, _, hbu⟩ := (unhide HW1).nd up xu pu (unhide Hxu) (unhide Hpu)
        have e8 : lastV xu pu = .map (some pu.g) := by unfold lastV; rw [if_pos (unhide Hk)]
        have z8 : V.cell? ⟨pu.q, 8, none⟩ = some (lastV xu pu) := (hbu.belowSz (unhide HbV)).cell rfl
        rw [e8] at z8
        have z7' : World.cell? { heap := V.heap, tape := V.tape, drawn := V.drawn + 1, os := V.os, output := V.output } ⟨b3, o3 + k1, none⟩ = some (.string nm) := z7
        have z8' : World.cell? { heap := V.heap, tape := V.tape, drawn := V.drawn + 1, os := V.os, output := V.output } ⟨pu.q, 8, none⟩ = some (.map (some pu.g)) := z8
        have hmuD : MapG V.drew pu.g .string (kidsM F L up) := ⟨hmu.there, hmu.keys, hmu.once⟩
        have hnone := kids_no (unhide HF) (L := L) (hcn)
        have HmuD := hide hmuD
        have Hnone := hide hnone
        clear v1 v2 v3 v4 v5 v6 v7 y0 y1 y2 y3 y4 y5 y6 y7 z1 z2 z3 z4 z5 z6 hmu hbu e8 hmuD hnone
        go_still_tail 9, (by kernel_rfl)
        change wpList _ _ _ _ _ V.drew
        refine wpList_updG (x := .string nm) (g := pu.g) rfl _ _ _ rfl Try.underlying86 Try.underlying9 (by simp [Go.MapKept.IsKey]) rfl rfl rfl (unhide HmuD) (unhide Hnone) ?_
        intro V2 hm2 hg2 hs2
        have HbV' : Hid (Below w1.heap.size w1 V.drew) := hide (below_drew' (unhide HbV))
        obtain ⟨f2, r2, s2, f3⟩ := (unhide HW1).addF (unhide Hxu) (unhide Hpu) (unhide Hk) (unhide HbV') hg2
        have u0 : V2.cell? ⟨f, 0, none⟩ = some (.slice A F.length c) := f2.cell rfl
        rw [unhide Hfl] at u0
        have Hr2 := hide r2
        have Hf3 := hide f3
        have Hm2 := hide hm2
        have Hg2 := hide hg2
        have hlo2 : lo ≤ V2.heap.size := by have := (unhide Hb1).size; omega
        clear f2 r2 s2 f3 hm2 hg2 hs2 z7 z8 z7' z8'
        go_wp2_with (at_builtin; refine wpList_app1 nodeTy rfl _ _ rfl lo (.slice A flen c) flen _ rfl (by have := unhide Hr2; rw [unhide Hfl] at this; exact this) #[.iface 70 (.pointer (some ⟨np.q, 0, none⟩))] rfl rfl (by simp [Value.oneCell']) (by omega) hlo2 ?_; intro A4 c4 V3 ho3 hg3 hat3; have hff := (unhide Hf3) V3 (by rw [unhide Hfl]; exact hg3); have t0 : V3.cell? ⟨f, 0, none⟩ = some (.slice A F.length c) := hff.cell rfl; rw [unhide Hfl] at t0; have tf : V3.frozen? ⟨f, 0, none⟩ = false := hff.free 0; have Ho3 := hide ho3; have Hg3 := hide hg3; clear ho3 hg3 hat3 hff)
        go_ret
        have hnd0 : ndV (Vf.ndOf x up) np = .iface 70 (.pointer (some ⟨np.q, 0, none⟩)) := by unfold ndV kindT; rw [show (Vf.ndOf x up).m.kind = x.kind from rfl, unhide Hkk]; rfl
        have hnm0 : (Vf.ndOf x up).name = nm := unhide Hnm
        have hfin := (unhide HW1).addFin (V := V.drew) (V2 := V2) (V3 := V3) (unhide HF) (Vf.ndOf x up) np xu pu (unhide Hxu) (unhide Hpu) (unhide Hk) (by have := (unhide Hb1).size; omega) (unhide HbV') (by rw [hnm0, hnd0]; exact unhide Hm2) (unhide Hg2) A4 c4 (by rw [hnd0, unhide Hfl]; exact unhide Ho3) (by rw [unhide Hfl]; exact unhide Hg3) hnpq (unhide HnV) (unhide HyV) (fun h => ⟨((unhide HdV) h).1, ((unhide HdV) h).2.keep rfl⟩)
        rw [unhide Hfl] at hfin
        unfold AddE
        rw [unhide Hadd]
        exact ⟨rfl, fun _ => ⟨_, A4, c4, hfin.1⟩, ((unhide Hb1).mono hlo).trans hfin.2⟩
      · have q2 : ((x.kind : Int) == 2) = false := by rw [hk]; rfl
        have q3 : ((x.kind : Int) == 1) = false := by rw [hk]; rfl
        have v6t : W.cell? ⟨w.heap.size, 6, none⟩ = some (.string x.to) := ((unhide Hbk1).belowSz (unhide HbW)).cell rfl
        have Hkk := hide hk
        clear hk hkind
        go_wp2_with fail
        obtain ⟨np, hnp⟩ : ∃ np : Pl, (⟨W.heap.size, 0, none, 0, 0⟩ : Pl) = np := ⟨_, rfl⟩
        have hbV : Below w1.heap.size w1 (W.alloc (.cells #[.int .u8 (x.kind : Nat), .int .u16 (x.mode : Nat), .int .u32 (x.uid : Nat), .int .u32 (x.gid : Nat), .int .i64 (n : Nat), .int .i64 (flen : Nat), .pointer (some ⟨pu.q, 0, none⟩), .string nm, .string x.to] 124)) := (unhide HbW).alloc (unhide HbW).size _
        have hndV : Blk (W.alloc (.cells #[.int .u8 (x.kind : Nat), .int .u16 (x.mode : Nat), .int .u32 (x.uid : Nat), .int .u32 (x.gid : Nat), .int .i64 (n : Nat), .int .i64 (flen : Nat), .pointer (some ⟨pu.q, 0, none⟩), .string nm, .string x.to] 124)) np.q (blkT (Vf.ndOf x up).m.kind) (ndC (Vf.ndOf x up) F.length pu.q np) := by
          have e1 : ndC (Vf.ndOf x up) F.length pu.q np = [.int .u8 (x.kind : Nat), .int .u16 (x.mode : Nat), .int .u32 (x.uid : Nat), .int .u32 (x.gid : Nat), .int .i64 (n : Nat), .int .i64 (flen : Nat), .pointer (some ⟨pu.q, 0, none⟩), .string nm, .string x.to] := by
            unfold ndC lastV
            rw [show (Vf.ndOf x up).m.kind = x.kind from rfl, if_neg (by rw [unhide Hkk]; decide), if_neg (by rw [unhide Hkk]; decide), unhide Hfl]
            try rw [← hnp]
            simp only [Vf.ndOf, unhide Hdl, unhide Hnm]
            rfl
          have e2 : blkT (Vf.ndOf x up).m.kind = 124 := by rw [show (Vf.ndOf x up).m.kind = x.kind from rfl, unhide Hkk]; rfl
          rw [e1, e2, ← hnp]
          exact Blk.new W 124 [.int .u8 (x.kind : Nat), .int .u16 (x.mode : Nat), .int .u32 (x.uid : Nat), .int .u32 (x.gid : Nat), .int .i64 (n : Nat), .int .i64 (flen : Nat), .pointer (some ⟨pu.q, 0, none⟩), .string nm, .string x.to]
        have hbyV : (Vf.ndOf x up).m.kind = 1 → np.n = (Vf.ndOf x up).data.length ∧ np.n ≤ np.c ∧ RdI (W.alloc (.cells #[.int .u8 (x.kind : Nat), .int .u16 (x.mode : Nat), .int .u32 (x.uid : Nat), .int .u32 (x.gid : Nat), .int .i64 (n : Nat), .int .i64 (flen : Nat), .pointer (some ⟨pu.q, 0, none⟩), .string nm, .string x.to] 124)) w1.heap.size 5 1 np.A np.n ((Vf.ndOf x up).data.map fun b => Value.int .u8 (b.toNat : Nat)) := by
          intro h
          have : x.kind = 1 := h
          rw [unhide Hkk] at this
          cases this
        have hdmV : (Vf.ndOf x up).m.kind = 2 → w1.heap.size ≤ np.g ∧ MapG (W.alloc (.cells #[.int .u8 (x.kind : Nat), .int .u16 (x.mode : Nat), .int .u32 (x.uid : Nat), .int .u32 (x.gid : Nat), .int .i64 (n : Nat), .int .i64 (flen : Nat), .pointer (some ⟨pu.q, 0, none⟩), .string nm, .string x.to] 124)) np.g .string [] := by
          intro h
          have : x.kind = 2 := h
          rw [unhide Hkk] at this
          cases this
        have hnpq : w1.heap.size ≤ np.q := by rw [← hnp]; exact (unhide HbW).size
        have hnpe : np.q = W.heap.size := by rw [← hnp]
        clear hnp
        generalize (W.alloc (.cells #[.int .u8 (x.kind : Nat), .int .u16 (x.mode : Nat), .int .u32 (x.uid : Nat), .int .u32 (x.gid : Nat), .int .i64 (n : Nat), .int .i64 (flen : Nat), .pointer (some ⟨pu.q, 0, none⟩), .string nm, .string x.to] 124)) = V at *
        rw [← hnpe]
        clear hnpe
        have HbV := hide hbV
        have HnV := hide hndV
        have HyV := hide hbyV
        have HdV := hide hdmV
        clear hbV hndV hbyV hdmV
        obtain ⟨-, z1, z2, z3, z4, z5, z6, z7⟩ := (unhide HSK') V (unhide HbV)
        have hmu := ((unhide HW1).map up xu pu (unhide Hxu) (unhide Hpu) (unhide Hk)).2.belowSz (unhide HbV)
        obtain ⟨_, uu, _, hbu⟩ := (unhide HW1).nd up xu pu (unhide Hxu) (unhide Hpu)
        have e8 : lastV xu pu = .map (some pu.g) := by unfold lastV; rw [if_pos (unhide Hk)]
        have z8 : V.cell? ⟨pu.q, 8, none⟩ = some (lastV xu pu) := (hbu.belowSz (unhide HbV)).cell rfl
        rw [e8] at z8
        have z7' : World.cell? { heap := V.heap, tape := V.tape, drawn := V.drawn + 1, os := V.os, output := V.output } ⟨b3, o3 + k1, none⟩ = some (.string nm) := z7
        have z8' : World.cell? { heap := V.heap, tape := V.tape, drawn := V.drawn + 1, os := V.os, output := V.output } ⟨pu.q, 8, none⟩ = some (.map (some pu.g)) := z8
        have hmuD : MapG V.drew pu.g .string (kidsM F L up) := ⟨hmu.there, hmu.keys, hmu.once⟩
        have hnone := kids_no (unhide HF) (L := L) (hcn)
        have HmuD := hide hmuD
        have Hnone := hide hnone
        clear v6t v1 v2 v3 v4 v5 v6 v7 y0 y1 y2 y3 y4 y5 y6 y7 z1 z2 z3 z4 z5 z6 hmu hbu e8 hmuD hnone
        go_still_tail 9, (by kernel_rfl)
        change wpList _ _ _ _ _ V.drew
        refine wpList_updG (x := .string nm) (g := pu.g) rfl _ _ _ rfl Try.underlying86 Try.underlying9 (by simp [Go.MapKept.IsKey]) rfl rfl rfl (unhide HmuD) (unhide Hnone) ?_
        intro V2 hm2 hg2 hs2
        have HbV' : Hid (Below w1.heap.size w1 V.drew) := hide (below_drew' (unhide HbV))
        obtain ⟨f2, r2, s2, f3⟩ := (unhide HW1).addF (unhide Hxu) (unhide Hpu) (unhide Hk) (unhide HbV') hg2
        have u0 : V2.cell? ⟨f, 0, none⟩ = some (.slice A F.length c) := f2.cell rfl
        rw [unhide Hfl] at u0
        have Hr2 := hide r2
        have Hf3 := hide f3
        have Hm2 := hide hm2
        have Hg2 := hide hg2
        have hlo2 : lo ≤ V2.heap.size := by have := (unhide Hb1).size; omega
        clear f2 r2 s2 f3 hm2 hg2 hs2 z7 z8 z7' z8'
        go_wp2_with (at_builtin; refine wpList_app1 nodeTy rfl _ _ rfl lo (.slice A flen c) flen _ rfl (by have := unhide Hr2; rw [unhide Hfl] at this; exact this) #[.iface 121 (.pointer (some ⟨np.q, 0, none⟩))] rfl rfl (by simp [Value.oneCell']) (by omega) hlo2 ?_; intro A4 c4 V3 ho3 hg3 hat3; have hff := (unhide Hf3) V3 (by rw [unhide Hfl]; exact hg3); have t0 : V3.cell? ⟨f, 0, none⟩ = some (.slice A F.length c) := hff.cell rfl; rw [unhide Hfl] at t0; have tf : V3.frozen? ⟨f, 0, none⟩ = false := hff.free 0; have Ho3 := hide ho3; have Hg3 := hide hg3; clear ho3 hg3 hat3 hff)
        go_ret
        have hnd0 : ndV (Vf.ndOf x up) np = .iface 121 (.pointer (some ⟨np.q, 0, none⟩)) := by unfold ndV kindT; rw [show (Vf.ndOf x up).m.kind = x.kind from rfl, unhide Hkk]; rfl
        have hnm0 : (Vf.ndOf x up).name = nm := unhide Hnm
        have hfin := (unhide HW1).addFin (V := V.drew) (V2 := V2) (V3 := V3) (unhide HF) (Vf.ndOf x up) np xu pu (unhide Hxu) (unhide Hpu) (unhide Hk) (by have := (unhide Hb1).size; omega) (unhide HbV') (by rw [hnm0, hnd0]; exact unhide Hm2) (unhide Hg2) A4 c4 (by rw [hnd0, unhide Hfl]; exact unhide Ho3) (by rw [unhide Hfl]; exact unhide Hg3) hnpq (unhide HnV) (unhide HyV) (fun h => ⟨((unhide HdV) h).1, ((unhide HdV) h).2.keep rfl⟩)
        rw [unhide Hfl] at hfin
        unfold AddE
        rw [unhide Hadd]
        exact ⟨rfl, fun _ => ⟨_, A4, c4, hfin.1⟩, ((unhide Hb1).mono hlo).trans hfin.2⟩
end Go.Proofs.Yteiciabhfjakgaa
namespace Go.Proofs.Yteiciabhfjakgaa
set_option linter.unusedVariables false
set_option linter.unusedSimpArgs false
open Go.RowKit

/-- What New answers, plain: the error, the entry's number, the nodes. -/
def Vf.new (es : List Vf.Ent) : Int × Int × List Vf.Nd :=
  if 64 < es.length then (15, -1, []) else if (Vf.adds [Vf.root] 0 es).1 ≠ 0 then ((Vf.adds [Vf.root] 0 es).1, ((Vf.adds [Vf.root] 0 es).2.1 : Nat), []) else (0, 0, (Vf.adds [Vf.root] 0 es).2.2)
/-- An entry as an argument: with where its bytes lie. -/
structure EntA where
  e : Vf.Ent
  A : Option Addr
  n : Nat
  c : Nat
instance : Inhabited EntA := ⟨⟨⟨⟨#[]⟩, 0, 0, 0, 0, [], ⟨#[]⟩⟩, none, 0, 0⟩⟩
def entVals (s : EntA) : List Value := entC s.e s.A s.n s.c
structure EntOk (w : World) (s : EntA) : Prop where
  d : Rd w w.heap.size 1 s.A s.n (bys s.e.data)
  n : s.n ≤ 4294967296
  p : s.e.path.size ≤ 4294967296
  t : s.e.to.size ≤ 4294967296
  m : s.e.mode < 65536
theorem EntOk.below {w w' : World} {s : EntA} (h : EntOk w s) (hb : Below w.heap.size w w') : EntOk w' s := ⟨h.d.belowSz hb, h.n, h.p, h.t, h.m⟩
def NewE (es : List Vf.Ent) (w : World) (e : Ending) (w' : World) : Prop :=
  Below w.heap.size w w' ∧ (((Vf.new es).1 ≠ 0 ∧ e = .returned (.tuple #[.pointer none, .int .i64 (Vf.new es).1, .int .i64 (Vf.new es).2.1])) ∨
    ((Vf.new es).1 = 0 ∧ ∃ f A c L, e = .returned (.tuple #[ptrV f, .int .i64 0, .int .i64 0]) ∧ FsM w' w.heap.size f A c (Vf.new es).2.2 L ∧ Vf.Good (Vf.new es).2.2 ∧ (Vf.new es).2.2.length = es.length + 1 ∧ (Vf.new es).2.1 = 0 ∧ es.length ≤ 64))
/-- The first world: a root alone. -/
theorem FsM.start (w : World) : FsM ((((w.alloc (.map #[] 0)).alloc (.cells #[.int .u8 2, .int .u16 493, .int .u32 0, .int .u32 0, .int .i64 0, .int .i64 0, .pointer (some ⟨w.heap.size + 1, 0, none⟩), .string ⟨#[]⟩, .map (some w.heap.size)] 88)).alloc (.cells #[.iface 70 (.pointer (some ⟨w.heap.size + 1, 0, none⟩))] 68)).alloc (.cells #[.slice (some ⟨w.heap.size + 2, 0, none⟩) 1 1] 104)) w.heap.size (w.heap.size + 3) (some ⟨w.heap.size + 2, 0, none⟩) 1 [Vf.root] [⟨w.heap.size + 1, w.heap.size, none, 0, 0⟩] := by
  have m0 := MapG.nil w .string
  have d1 : Blk ((w.alloc (.map #[] 0)).alloc (.cells #[.int .u8 2, .int .u16 493, .int .u32 0, .int .u32 0, .int .i64 0, .int .i64 0, .pointer (some ⟨w.heap.size + 1, 0, none⟩), .string ⟨#[]⟩, .map (some w.heap.size)] 88)) (w.heap.size + 1) 88 [.int .u8 2, .int .u16 493, .int .u32 0, .int .u32 0, .int .i64 0, .int .i64 0, .pointer (some ⟨w.heap.size + 1, 0, none⟩), .string ⟨#[]⟩, .map (some w.heap.size)] := by
    have := Blk.new (w.alloc (.map #[] 0)) 88 [.int .u8 2, .int .u16 493, .int .u32 0, .int .u32 0, .int .i64 0, .int .i64 0, .pointer (some ⟨w.heap.size + 1, 0, none⟩), .string ⟨#[]⟩, .map (some w.heap.size)]
    rw [World.size_alloc] at this
    exact this
  have m2 := (m0.belowSz ((Below.refl _ _).alloc (Nat.le_refl _) (.cells #[.int .u8 2, .int .u16 493, .int .u32 0, .int .u32 0, .int .i64 0, .int .i64 0, .pointer (some ⟨w.heap.size + 1, 0, none⟩), .string ⟨#[]⟩, .map (some w.heap.size)] 88)))
  generalize hW : (w.alloc (.map #[] 0)).alloc (.cells #[.int .u8 2, .int .u16 493, .int .u32 0, .int .u32 0, .int .i64 0, .int .i64 0, .pointer (some ⟨w.heap.size + 1, 0, none⟩), .string ⟨#[]⟩, .map (some w.heap.size)] 88) = W at *
  have hsz : W.heap.size = w.heap.size + 2 := by rw [← hW]; simp
  have r0 : (W.alloc (.cells #[.iface 70 (.pointer (some ⟨w.heap.size + 1, 0, none⟩))] 68)).ownsRow w.heap.size 68 1 (.slice (some ⟨w.heap.size + 2, 0, none⟩) 1 1) 1 [.iface 70 (.pointer (some ⟨w.heap.size + 1, 0, none⟩))] :=
    ⟨rfl, .inr ⟨w.heap.size + 2, 1, #[.iface 70 (.pointer (some ⟨w.heap.size + 1, 0, none⟩))], rfl, by omega, by rw [← hsz]; exact heap_alloc_new _ _, by omega, by unfold maxLen; omega, rfl, rfl⟩⟩
  have f0 := Blk.new (W.alloc (.cells #[.iface 70 (.pointer (some ⟨w.heap.size + 1, 0, none⟩))] 68)) 104 [.slice (some ⟨w.heap.size + 2, 0, none⟩) 1 1]
  rw [World.size_alloc, hsz] at f0
  have hbb : Below W.heap.size W ((W.alloc (.cells #[.iface 70 (.pointer (some ⟨w.heap.size + 1, 0, none⟩))] 68)).alloc (.cells #[.slice (some ⟨w.heap.size + 2, 0, none⟩) 1 1] 104)) := ((Below.refl _ _).alloc (Nat.le_refl _) _).alloc (by simp) _
  have only : ∀ {i : Nat} {x : Vf.Nd} {p : Pl}, [Vf.root][i]? = some x → [(⟨w.heap.size + 1, w.heap.size, none, 0, 0⟩ : Pl)][i]? = some p → i = 0 ∧ x = Vf.root ∧ p = ⟨w.heap.size + 1, w.heap.size, none, 0, 0⟩ := by
    intro i x p h1 h2
    cases i with
    | zero => exact ⟨rfl, by simpa using h1.symm, by simpa using h2.symm⟩
    | succ i => simp at h1
  refine ⟨rfl, by omega, f0, r0.alloc _, ?_, ?_, ?_, ?_⟩
  · intro i x p h1 h2
    obtain ⟨rfl, rfl, rfl⟩ := only h1 h2
    exact ⟨by simp, _, rfl, d1.belowSz hbb⟩
  · intro i x p h1 h2 h3
    obtain ⟨rfl, rfl, rfl⟩ := only h1 h2
    cases h3
  · intro i x p h1 h2 h3
    obtain ⟨rfl, rfl, rfl⟩ := only h1 h2
    exact ⟨Nat.le_refl _, m2.belowSz hbb⟩
  · intro i j x y p r h1 h2 h3 h4 _ _ _
    rw [(only h1 h3).1, (only h2 h4).1]
theorem adds_step {F : List Vf.Nd} {es : List Vf.Ent} {k : Nat} {x : Vf.Ent} (hx : es[k]? = some x) : Vf.adds F k (es.drop k) = if (Vf.add F x).1 ≠ 0 then ((Vf.add F x).1, k, F) else Vf.adds (Vf.add F x).2 (k + 1) (es.drop (k + 1)) := by
  have hlt := (List.getElem?_eq_some_iff.1 hx).1
  rw [List.drop_eq_getElem_cons hlt, (List.getElem?_eq_some_iff.1 hx).2]
  rfl

set_option maxRecDepth 100000 in
set_option maxHeartbeats 4000000 in
theorem new_any (l : List EntA) (A : Option Addr) (n c : Nat) (w : World) (h : Rd w w.heap.size 7 A n (rowCs entVals l)) (hl : l.length = n) (hok : ∀ s ∈ l, EntOk w s) (hn : n ≤ 4294967296) :
    Calls Try.prog 25 #[.slice A n c] w (NewE (l.map (·.e)) w) := by
  have hlm : (l.map (·.e)).length = n := by simpa using hl
  have hmm := @run_makeMap Try.prog
  have H := hide h
  have Hl := hide hl
  have Hok := hide hok
  have Hlm := hide hlm
  clear h hl hok hlm
  by_cases h64 : 64 < n
  · have g1 : (64 : Int) < (n : Int) := by omega
    have hnew : Vf.new (l.map (·.e)) = (15, -1, []) := by unfold Vf.new; rw [if_pos (by rw [unhide Hlm]; exact h64)]
    have Hnew := hide hnew
    clear h64 hnew
    go_enter Try.func25, Try.ntmps25
    go_wp2_with fail
    go_ret3
    unfold NewE
    rw [unhide Hnew]
    exact ⟨Below.refl _ _, .inl ⟨by decide, rfl⟩⟩
  · have g1 : ¬ (64 : Int) < (n : Int) := by omega
    have hFS := FsM.start w
    have HFS := hide hFS
    clear hFS
    go_enter Try.func25, Try.ntmps25
    go_wp2_with fail
    have hB4 : Below w.heap.size w ((((w.alloc (.map #[] 0)).alloc (.cells #[.int .u8 2, .int .u16 493, .int .u32 0, .int .u32 0, .int .i64 0, .int .i64 0, .pointer (some ⟨w.heap.size + 1, 0, none⟩), .string ⟨#[]⟩, .map (some w.heap.size)] 88)).alloc (.cells #[.iface 70 (.pointer (some ⟨w.heap.size + 1, 0, none⟩))] 68)).alloc (.cells #[.slice (some ⟨w.heap.size + 2, 0, none⟩) 1 1] 104)) :=
      ((((Below.refl _ _).alloc (Nat.le_refl _) _).alloc (by simp) _).alloc (by simp; omega) _).alloc (by simp; omega) _
    have HB4 := hide hB4
    clear hB4
    go_loopg [30] n (fun gk iv wr => ∃ (k : Nat) (F : List Vf.Nd) (L : List Pl) (A' : Option Addr) (c' : Nat), gk = n - k ∧ k ≤ n ∧ iv = .int .i64 (k : Nat) ∧ Vf.adds [Vf.root] 0 (l.map (·.e)) = Vf.adds F k ((l.map (·.e)).drop k) ∧ Vf.Good F ∧ F.length = k + 1 ∧ FsM wr w.heap.size (w.heap.size + 3) A' c' F L ∧ Below w.heap.size w wr)
    case atStart => exact ⟨0, [Vf.root], _, _, _, by omega, Nat.zero_le _, rfl, rfl, Vf.good_root, rfl, unhide HFS, unhide HB4⟩
    case round =>
    obtain ⟨k, F, L, A', c', hgk, hk, rfl, hadds, hF, hFl, hFS, hB⟩ := hrel
    have Hgk := hide hgk
    have Hadds := hide hadds
    have HF := hide hF
    have HFl := hide hFl
    have HFSk := hide hFS
    have HB := hide hB
    clear hgk hadds hF hFl hFS hB
    by_cases hlt : k < n
    · obtain ⟨s, hs⟩ : ∃ s, l[k]? = some s := ⟨_, List.getElem?_eq_getElem (by rw [unhide Hl]; exact hlt)⟩
      obtain ⟨b1, o1, rfl, hb1, c1⟩ := (unhide H).open_ (by
        intro h0
        have := rowCs_len (vals := entVals) (size := 7) (fun _ => rfl) l
        rw [h0, unhide Hl] at this
        simp at this
        omega)
      have hc : ∀ j u, (entVals s)[j]? = some u → wr.cell? ⟨b1, o1 + (k * 7 + j), none⟩ = some u := by
        intro j u hu
        have hj : j < 7 := (List.getElem?_eq_some_iff.1 hu).1
        refine ((unhide HB).cell (p := ⟨b1, _, none⟩) hb1).trans (c1 _ _ ?_)
        rw [rowCs_at (vals := entVals) (size := 7) (fun _ => rfl) l k s hs j hj, hu]
      have x0 := hc 0 _ rfl
      have x1 := hc 1 _ rfl
      have x2 := hc 2 _ rfl
      have x3 := hc 3 _ rfl
      have x4 := hc 4 _ rfl
      have x5 := hc 5 _ rfl
      have x6 := hc 6 _ rfl
      rw [Nat.add_zero] at x0
      simp only [← Nat.add_assoc] at x1 x2 x3 x4 x5 x6
      have ilt : (k : Int) < (n : Int) := by omega
      have Hs := hide hs
      have hsm : s ∈ l := List.mem_of_getElem? hs
      have hes : (l.map (·.e))[k]? = some s.e := by rw [List.getElem?_map, hs]; rfl
      have hstep := adds_step (F := F) hes
      have hok := (unhide Hok) s hsm
      have hbA : Below w.heap.size w (wr.alloc (.cells #[.string s.e.path, .int .u8 (s.e.kind : Nat), .int .u16 (s.e.mode : Nat), .int .u32 (s.e.uid : Nat), .int .u32 (s.e.gid : Nat), .slice s.A s.n s.c, .string s.e.to] 60)) := (unhide HB).alloc (unhide HB).size _
      have hok2 := hok.below hbA
      have KA := add_any F L w.heap.size (w.heap.size + 3) c' A' s.A s.n s.c s.e (wr.alloc (.cells #[.string s.e.path, .int .u8 (s.e.kind : Nat), .int .u16 (s.e.mode : Nat), .int .u32 (s.e.uid : Nat), .int .u32 (s.e.gid : Nat), .slice s.A s.n s.c, .string s.e.to] 60)) (unhide HF) ((unhide HFSk).belowSz ((Below.refl _ _).alloc (Nat.le_refl _) _)) hbA.size (by rw [unhide HFl]; omega) hok2.d hok2.n hok2.p hok2.t hok2.m
      unfold entV ptrV at KA
      have HKA := hide KA
      have HbA := hide hbA
      have Hstep := hide hstep
      clear hc c1 hs hsm hes hstep hok hbA hok2 KA
      go_wp2_with fail
      refine (unhide HKA).mono ?_
      rintro e w2 ⟨rfl, hfs2, hb2⟩
      have Hb2 := hide ((unhide HbA).trans hb2)
      by_cases ha : (Vf.add F s.e).1 = 0
      · obtain ⟨L2, A2, c2, hF2⟩ := hfs2 ha
        have HF2 := hide hF2
        have hg2 := Vf.add_good (unhide HF) ha
        have hst := unhide Hstep
        rw [if_neg (by simp [ha])] at hst
        have hlen2 : (Vf.add F s.e).2.length = k + 1 + 1 := by
          obtain ⟨_, up, _, _, _, he⟩ := Vf.add_ok ha
          rw [he, List.length_append, unhide HFl]
          rfl
        have Hg2 := hide hg2
        have Hst := hide hst
        have Hlen2 := hide hlen2
        rw [ha]
        clear ha hfs2 hb2 hF2 hg2 hst hlen2 x0 x1 x2 x3 x4 x5 x6
        go_wp2_with fail
        go_roundg (n - (k + 1))
        case rel => exact ⟨k + 1, _, L2, A2, c2, rfl, by omega, by go_num, (unhide Hadds).trans (unhide Hst), unhide Hg2, unhide Hlen2, unhide HF2, unhide Hb2⟩
        case measure => rw [unhide Hgk]; omega
      · obtain ⟨er, her⟩ : ∃ v, (Vf.add F s.e).1 = v := ⟨_, rfl⟩
        have q1 : (er != 0) = true := by rw [← her]; simp [ha]
        have hst := unhide Hstep
        rw [if_pos ha] at hst
        have hnew : Vf.new (l.map (·.e)) = (er, ((k : Nat) : Int), []) := by
          unfold Vf.new
          rw [if_neg (by rw [unhide Hlm]; exact h64), (unhide Hadds).trans hst, her]
          rw [her] at ha
          rw [if_pos ha]
        have Hnew := hide hnew
        rw [her] at ha
        have Ha := hide ha
        rw [her]
        clear ha hfs2 hb2 hst hnew her x0 x1 x2 x3 x4 x5 x6
        go_wp2_with fail
        go_ret3
        unfold NewE
        rw [unhide Hnew]
        exact ⟨unhide Hb2, .inl ⟨unhide Ha, rfl⟩⟩
    · have hkn : k = n := by omega
      have ilt : ¬ (k : Int) < (n : Int) := by omega
      go_wp2_with fail
      go_ret3
      have ha := unhide Hadds
      rw [List.drop_of_length_le (by rw [unhide Hlm]; omega)] at ha
      have hnew : Vf.new (l.map (·.e)) = (0, 0, F) := by
        unfold Vf.new
        rw [if_neg (by rw [unhide Hlm]; exact h64), ha]
        rfl
      unfold NewE
      rw [hnew]
      exact ⟨unhide HB, .inr ⟨rfl, _, A', c', L, rfl, unhide HFSk, unhide HF, by rw [unhide HFl, unhide Hlm, hkn], rfl, by rw [unhide Hlm]; omega⟩⟩
end Go.Proofs.Yteiciabhfjakgaa
namespace Go.Proofs.Yteiciabhfjakgaa
set_option linter.unusedVariables false
set_option linter.unusedSimpArgs false
open Go.RowKit Go.ChangeShapes Go.WideShapes Go.Joins Go.Deep

theorem credFields : ∃ fs, Try.prog.underlying 44 = some (.struct fs) ∧ oneCellFields Try.prog fs = true ∧ Try.prog.cellsOf 44 = fs.size ∧ fs.map (·.type) = #[30, 30, 30, 30, 42] :=
  ⟨_, Try.underlying44, by kernel_rfl, by kernel_rfl, by kernel_rfl⟩
theorem entFields : ∃ fs, Try.prog.underlying 60 = some (.struct fs) ∧ oneCellFields Try.prog fs = true ∧ Try.prog.cellsOf 60 = fs.size ∧ fs.map (·.type) = #[9, 5, 29, 30, 30, 36, 9] :=
  ⟨_, Try.underlying60, by kernel_rfl, by kernel_rfl, by kernel_rfl⟩
/-- What holds of an entry that is an argument. -/
structure EntIn (w : World) (s : EntA) : Prop where
  d : Rd w w.heap.size 1 s.A s.n (bys s.e.data)
  nc : s.n ≤ s.c
  c : s.c ≤ maxLen
  p : s.e.path.size ≤ maxLen
  t : s.e.to.size ≤ maxLen
  m : s.e.mode < 65536
  k : s.e.kind < 256
  u : s.e.uid < 4294967296
  g : s.e.gid < 4294967296
section
variable {H : Type} {enc : TypeId × Value → H} {w : World} {base : Nat} {held : Bool}
set_option maxRecDepth 100000 in
theorem open_cred_rd {r : Reach} {b0 : Nat} {v : Value} {d : DataW H} {p : List MemPlace} (hv : Value.okWide Try.prog w r b0 44 v) (h : DataW.Trod enc Try.prog w base (fun _ => true) held 44 v d p) :
    ∃ (c : Vf.Cred) (A : Option Addr) (n k : Nat), v = credV c A n k ∧ Rd w w.heap.size 1 A n (c.groups.map u32v) ∧ n ≤ k ∧ k ≤ maxLen := by
  obtain ⟨cs, rfl, hsz⟩ := okWide_struct Try.underlying44 hv
  obtain ⟨fuel, hf⟩ := h
  obtain ⟨hl, n, hf⟩ := flds_vals _ credFields hf
  have e2 : ∃ c0 c1 c2 c3 c4, cs = #[c0, c1, c2, c3, c4] := by
    obtain ⟨l⟩ := cs
    match l, hl with
    | [c0, c1, c2, c3, c4], _ => exact ⟨c0, c1, c2, c3, c4, rfl⟩
  obtain ⟨c0, c1, c2, c3, c4, rfl⟩ := e2
  obtain ⟨y0, h0⟩ := hf 0 30 c0 rfl rfl
  obtain ⟨y1, h1⟩ := hf 1 30 c1 rfl rfl
  obtain ⟨y2, h2⟩ := hf 2 30 c2 rfl rfl
  obtain ⟨y3, h3⟩ := hf 3 30 c3 rfl rfl
  obtain ⟨y4, h4⟩ := hf 4 42 c4 rfl rfl
  obtain ⟨a0, rfl, b0⟩ := fu32_is Try.underlying30 h0
  obtain ⟨a1, rfl, b1⟩ := fu32_is Try.underlying30 h1
  obtain ⟨a2, rfl, b2⟩ := fu32_is Try.underlying30 h2
  obtain ⟨a3, rfl, b3⟩ := fu32_is Try.underlying30 h3
  obtain ⟨A, m, k, rfl⟩ := fslice_is Try.underlying42 h4
  obtain ⟨zs, r0, hc0, hm0, hw0⟩ := open_nums_rd (d := y4.1) (p := y4.2) Try.underlying42 Try.underlying30 (by kernel_rfl) ⟨n, h4⟩
  have hz : (zs.map Int.toNat).map u32v = zs.map (Value.int .u32) := by
    rw [List.map_map]
    refine List.map_congr_left fun z hz => ?_
    have : 0 ≤ z ∧ z ≤ 4294967295 := by simpa [Lit.wf, IntKind.min, IntKind.max, IntKind.signed, IntKind.bits] using hw0 z hz
    show Value.int .u32 ((z.toNat : Nat) : Int) = Value.int .u32 z
    rw [Int.toNat_of_nonneg this.1]
  exact ⟨⟨a0, a1, a2, a3, zs.map Int.toNat⟩, A, m, k, rfl, by rw [hz]; exact r0, hc0, hm0⟩
set_option maxRecDepth 100000 in
theorem open_two_ints {r : Reach} {b0 : Nat} {v : Value} {d : DataW H} {p : List MemPlace} {t : TypeId} (ht : Try.prog.underlying t = some (.array 2 3)) (hc : Try.prog.cellsOf t = 2) (hv : Value.okWide Try.prog w r b0 t v) (h : DataW.Trod enc Try.prog w base (fun _ => true) held t v d p) :
    ∃ a b : Int, v = .agg #[.int .i64 a, .int .i64 b] ∧ (-9223372036854775808 ≤ a ∧ a ≤ 9223372036854775807) ∧ -9223372036854775808 ≤ b ∧ b ≤ 9223372036854775807 := by
  have e0 : ∃ cs, v = .agg cs ∧ cs.size = Try.prog.cellsOf t := by
    simp only [Value.okWide, ht] at hv
    obtain ⟨cs, h1, h2, _⟩ := hv
    exact ⟨cs, h1, h2⟩
  obtain ⟨cs, rfl, hsz⟩ := e0
  rw [hc] at hsz
  obtain ⟨fuel, hf⟩ := h
  have e2 : ∃ c0 c1, cs = #[c0, c1] := by
    obtain ⟨l⟩ := cs
    match l, hsz with
    | [c0, c1], _ => exact ⟨c0, c1, rfl⟩
  obtain ⟨c0, c1, rfl⟩ := e2
  obtain ⟨xs, m, _, _, _, hxl, hel⟩ := DataW.trod_array ht hf
  have hce : Try.prog.cellsOf 3 = 1 := by kernel_rfl
  have g0 := hel 0 (by omega)
  have g1 := hel 1 (by omega)
  rw [hce] at g0 g1
  have f0 : ∃ y, DataW.trod enc Try.prog w base (fun _ => true) held m 3 [c0] = some y := ⟨_, g0.trans (List.getElem?_eq_getElem (by omega))⟩
  have f1 : ∃ y, DataW.trod enc Try.prog w base (fun _ => true) held m 3 [c1] = some y := ⟨_, g1.trans (List.getElem?_eq_getElem (by omega))⟩
  obtain ⟨y0, f0⟩ := f0
  obtain ⟨y1, f1⟩ := f1
  obtain ⟨a, rfl, ba⟩ := fint_is Try.underlying3 f0
  obtain ⟨b, rfl, bb⟩ := fint_is Try.underlying3 f1
  exact ⟨a, b, rfl, ba, bb⟩
set_option maxRecDepth 100000 in
theorem ent_vals {fuel : Nat} {cs : List Value} {x : DataW H × List MemPlace} (h : DataW.trod enc Try.prog w base (fun _ => true) held fuel 60 cs = some x) : ∃ s : EntA, cs = entVals s ∧ EntIn w s := by
  obtain ⟨hl, n, hf⟩ := flds_vals _ entFields h
  match cs, hl with
  | [c0, c1, c2, c3, c4, c5, c6], _ =>
    obtain ⟨y0, h0⟩ := hf 0 9 c0 rfl rfl
    obtain ⟨y1, h1⟩ := hf 1 5 c1 rfl rfl
    obtain ⟨y2, h2⟩ := hf 2 29 c2 rfl rfl
    obtain ⟨y3, h3⟩ := hf 3 30 c3 rfl rfl
    obtain ⟨y4, h4⟩ := hf 4 30 c4 rfl rfl
    obtain ⟨y5, h5⟩ := hf 5 36 c5 rfl rfl
    obtain ⟨y6, h6⟩ := hf 6 9 c6 rfl rfl
    obtain ⟨a0, rfl, b0⟩ := fstr_is Try.underlying9 h0
    obtain ⟨a1, rfl, b1⟩ := fu8_is Try.underlying5 h1
    obtain ⟨a2, rfl, b2⟩ := fu16_is Try.underlying29 h2
    obtain ⟨a3, rfl, b3⟩ := fu32_is Try.underlying30 h3
    obtain ⟨a4, rfl, b4⟩ := fu32_is Try.underlying30 h4
    obtain ⟨A, m, k, rfl⟩ := fslice_is Try.underlying36 h5
    obtain ⟨a6, rfl, b6⟩ := fstr_is Try.underlying9 h6
    obtain ⟨bs, r0, hc0, hm0⟩ := open_bytes_rd (d := y5.1) (p := y5.2) Try.underlying36 Try.underlying5 (by kernel_rfl) ⟨n, h5⟩
    exact ⟨⟨⟨a0, a1, a2, a3, a4, bs, a6⟩, A, m, k⟩, rfl, ⟨r0, hc0, hm0, b0, b6, b2, b1, b3, b4⟩⟩
theorem open_ents_rd {A : Option Addr} {n c : Nat} {d : DataW H} {p : List MemPlace} (h : DataW.Trod enc Try.prog w base (fun _ => true) held 22 (.slice A n c) d p) :
    ∃ l : List EntA, Rd w w.heap.size 7 A n (rowCs entVals l) ∧ l.length = n ∧ n ≤ c ∧ c ≤ maxLen ∧ ∀ s ∈ l, EntIn w s := by
  obtain ⟨fuel, hf⟩ := h
  exact open_structs_rd (size := 7) Try.underlying22 (by kernel_rfl) (by omega) entVals _ (fun _ => rfl) (fun _ _ _ h => ent_vals h) hf
end
end Go.Proofs.Yteiciabhfjakgaa
namespace Go.Proofs.Yteiciabhfjakgaa
set_option linter.unusedVariables false
set_option linter.unusedSimpArgs false
open Go.RowKit

theorem bys_at' {b : List UInt8} {i : Nat} {x : UInt8} (h : b[i]? = some x) : (bys b)[i]? = some (.int .u8 x.toNat) := by simp [bys, h]

/-- What has been copied from k on. -/
def backTo (b : List UInt8) (k : Nat) : List Value := List.replicate k (.int .u8 0) ++ bys (b.drop k)
theorem backTo_set {b : List UInt8} {k : Nat} {x : UInt8} (h : b[k]? = some x) : (backTo b (k + 1)).set k (.int .u8 x.toNat) = backTo b k := by
  unfold backTo
  rw [List.drop_eq_getElem_cons (i := k) (by have := (List.getElem?_eq_some_iff.1 h).1; exact this)]
  have hx : b[k]'((List.getElem?_eq_some_iff.1 h).1) = x := (List.getElem?_eq_some_iff.1 h).2
  rw [hx, List.replicate_succ', List.append_assoc]
  rw [List.set_append]
  simp [bys]

set_option maxRecDepth 20000 in
set_option maxHeartbeats 1000000 in
theorem copyBytes_any (A : Option Addr) (m c B : Nat) (b : List UInt8) (w : World) (hB : B ≤ w.heap.size) (hb : Rd w B 1 A m (bys b)) (hm : m ≤ 4294967296) :
    Calls Try.prog 32 #[.slice A m c] w fun e w' => ∃ A' c', e = .returned (.slice A' m c') ∧ w'.ownsRow w.heap.size 5 1 (.slice A' m c') m (bys b) ∧ Below w.heap.size w w' := by
  have hbl : b.length = m := by simpa [bys] using hb.len1
  rcases Nat.eq_zero_or_pos m with rfl | hpos
  · have hb0 : b = [] := List.eq_nil_of_length_eq_zero hbl
    subst hb0
    clear hb hbl
    go_enter Try.func32, Try.ntmps32
    go_wp2
    go_ret
    exact ⟨none, 0, rfl, World.ownsRow_nil _ _ _ _, Below.refl _ _⟩
  have hne : decide (m = 0) = false := by simp; omega
  obtain ⟨i, hi, hz0, hz1, hz2⟩ := info_parts byteInfo
  have Hb := hide hb
  have Hbl := hide hbl
  have Hi := hide hi
  have Hz0 := hide hz0
  have Hz1 := hide hz1
  have Hz2 := hide hz2
  clear hb hbl hi hz0 hz1 hz2
  go_enter Try.func32, Try.ntmps32
  go_wp2_with (at_make; refine wpList_make_full _ rfl _ _ 36 rfl w.heap.size 5 i (.int .u8 0) 1 Try.underlying36 (unhide Hi) (unhide Hz0) (unhide Hz1) _ _ _ _ m rfl rfl rfl rfl (by rw [unhide Hz2]; omega) (by unfold maxLen; omega) (Nat.le_refl _) ?_; intro w1 hown hgrow; have hb1 := (Below.refl w.heap.size w).grown hgrow (Nat.le_refl _) (fun k hk => by cases hk); have Hown := hide hown; have Hb1 := hide hb1; clear hown hgrow hb1)
  go_loopw [4] (fun at_ wr => ∃ k : Nat, k ≤ m ∧ at_ = .int .i64 ((k : Int) - 1) ∧ wr.ownsRow w.heap.size 5 1 (.slice (some ⟨w.heap.size, 0, none⟩) m m) m (backTo b k) ∧ Below w.heap.size w wr) (fun at_ _ => (intOf at_ + 1).toNat)
  case atStart =>
    refine ⟨m, Nat.le_refl _, rfl, ?_, unhide Hb1⟩
    have := unhide Hown
    have e : (madeCells (Value.int .u8 0).cells (m * 1)).toList = backTo b m := by
      unfold backTo
      rw [List.drop_eq_nil_of_le (by rw [unhide Hbl]; exact Nat.le_refl _)]
      simp [bys, Value.cells, toList_madeCells_one]
    rwa [e] at this
  case round =>
  clear Hown Hb1
  obtain ⟨k, hk, rfl, hown, hb2⟩ := hrel
  have Hown := hide hown
  have Hb2 := hide hb2
  clear hown hb2
  by_cases hk0 : k = 0
  · subst hk0
    go_wp2
    go_ret
    refine ⟨_, _, rfl, ?_, unhide Hb2⟩
    have := unhide Hown
    simpa [backTo] using this
  · obtain ⟨j, rfl⟩ : ∃ j, k = j + 1 := ⟨k - 1, by omega⟩
    obtain ⟨x, hx⟩ : ∃ x, b[j]? = some x := ⟨_, List.getElem?_eq_getElem (by rw [unhide Hbl]; omega)⟩
    obtain ⟨ab, ao, rfl, hlt, hc⟩ := ((unhide Hb).below ((unhide Hb2).mono hB)).at_ (bys_at' hx)
    have hset := own_set (i := j) (unhide Hown) (.int .u8 x.toNat)
    rw [backTo_set hx] at hset
    have hcl : (backTo b (j + 1))[j]? = some (.int .u8 0) := by simp [backTo, List.getElem?_append]
    have hc2 := own_cell (unhide Hown) hcl
    have hf2 := own_free (unhide Hown) j
    have hge := own_at (unhide Hown)
    have e1 : ((j + 1 : Nat) : Int) - 1 = (j : Int) := by omega
    rw [e1]
    have Hset := hide hset
    clear hset hcl hx
    go_wp2
    go_roundw
    case rel => exact ⟨j, by omega, rfl, unhide Hset, (unhide Hb2).setCell (Nat.le_refl _) _⟩
    case measure => simp [intOf]

end Go.Proofs.Yteiciabhfjakgaa
namespace Go.Proofs.Yteiciabhfjakgaa
set_option linter.unusedVariables false
set_option linter.unusedSimpArgs false
open Go.RowKit

theorem u32Ty : SlTy Try.prog 42 30 1 4 := slTy_mk (z := .int .u32 0) Try.underlying42 (by kernel_rfl) rfl (by omega) (by omega)
theorem entTy : SlTy Try.prog 22 60 7 72 := slTy_mk (z := .agg #[.string ⟨#[]⟩, .int .u8 0, .int .u16 0, .int .u32 0, .int .u32 0, .slice none 0 0, .string ⟨#[]⟩]) Try.underlying22 (by kernel_rfl) rfl (by omega) (by omega)
theorem u32_one (l : List Nat) : ∀ u ∈ l.map u32v, u.oneCell' = true := by
  intro u hu
  obtain ⟨x, _, rfl⟩ := List.mem_map.1 hu
  rfl
theorem credInfo : (Try.prog.info? 44).map (·.size) = some 5 := by kernel_rfl

set_option maxRecDepth 100000 in
set_option maxHeartbeats 1000000 in
theorem copyCred_any (c : Vf.Cred) (A : Option Addr) (n k B : Nat) (w : World) (hg : Rd w B 1 A n (c.groups.map u32v)) (hB : B ≤ w.heap.size) (hn : n ≤ 4294967296) :
    Calls Try.prog 22 #[credV c A n k] w fun e w' => ∃ A' k', e = .returned (credV c A' n k') ∧ Rd w' w'.heap.size 1 A' n (c.groups.map u32v) ∧ Below w.heap.size w w' := by
  have hb0 : Below w.heap.size w ((w.alloc (.cells #[.int .u32 (c.uid : Nat), .int .u32 (c.euid : Nat), .int .u32 (c.suid : Nat), .int .u32 (c.gid : Nat), .slice A n k] 44)).alloc (.cells #[.int .u32 0, .int .u32 0, .int .u32 0, .int .u32 0, .slice none 0 0] 44)) := ((Below.refl _ _).alloc (Nat.le_refl _) _).alloc (by simp) _
  have Hg := hide (hg.below (hb0.mono hB))
  have Hb0 := hide hb0
  have B1 : Blk ((w.alloc (.cells #[.int .u32 (c.uid : Nat), .int .u32 (c.euid : Nat), .int .u32 (c.suid : Nat), .int .u32 (c.gid : Nat), .slice A n k] 44)).alloc (.cells #[.int .u32 0, .int .u32 0, .int .u32 0, .int .u32 0, .slice none 0 0] 44)) w.heap.size 44 [.int .u32 (c.uid : Nat), .int .u32 (c.euid : Nat), .int .u32 (c.suid : Nat), .int .u32 (c.gid : Nat), .slice A n k] := (Blk.new w 44 [.int .u32 (c.uid : Nat), .int .u32 (c.euid : Nat), .int .u32 (c.suid : Nat), .int .u32 (c.gid : Nat), .slice A n k]).alloc _
  have B2 : Blk ((w.alloc (.cells #[.int .u32 (c.uid : Nat), .int .u32 (c.euid : Nat), .int .u32 (c.suid : Nat), .int .u32 (c.gid : Nat), .slice A n k] 44)).alloc (.cells #[.int .u32 0, .int .u32 0, .int .u32 0, .int .u32 0, .slice none 0 0] 44)) (w.heap.size + 1) 44 [.int .u32 0, .int .u32 0, .int .u32 0, .int .u32 0, .slice none 0 0] := by
    have := Blk.new (w.alloc (.cells #[.int .u32 (c.uid : Nat), .int .u32 (c.euid : Nat), .int .u32 (c.suid : Nat), .int .u32 (c.gid : Nat), .slice A n k] 44)) 44 [.int .u32 0, .int .u32 0, .int .u32 0, .int .u32 0, .slice none 0 0]
    rw [World.size_alloc] at this
    exact this
  have HB1 := hide B1
  have HB2 := hide B2
  have hsz0 : w.heap.size ≤ ((w.alloc (.cells #[.int .u32 (c.uid : Nat), .int .u32 (c.euid : Nat), .int .u32 (c.suid : Nat), .int .u32 (c.gid : Nat), .slice A n k] 44)).alloc (.cells #[.int .u32 0, .int .u32 0, .int .u32 0, .int .u32 0, .slice none 0 0] 44)).heap.size := hb0.size
  unfold credV
  clear hg hb0 B1 B2
  go_enter Try.func22, Try.ntmps22
  go_wp2_with (at_builtin; refine wpList_app u32Ty rfl _ _ rfl (w.heap.size + 2) (.slice none 0 0) 0 [] rfl (World.ownsRow_nil _ _ _ _) B A n k _ rfl (unhide Hg) (u32_one _) (by omega) (by simp) ?_; intro A4 k4 w4 ho4 hg4 hat4; have hC1 : Blk w4 w.heap.size 44 [.int .u32 (c.uid : Nat), .int .u32 (c.euid : Nat), .int .u32 (c.suid : Nat), .int .u32 (c.gid : Nat), .slice A n k] := (hg4.block _ (unhide HB1).lt (fun e => by simp [Value.ownBlock] at e)).trans (unhide HB1); have hC2 : Blk w4 (w.heap.size + 1) 44 [.int .u32 0, .int .u32 0, .int .u32 0, .int .u32 0, .slice none 0 0] := (hg4.block _ (unhide HB2).lt (fun e => by simp [Value.ownBlock] at e)).trans (unhide HB2); have hb4 := (unhide Hb0).grown hg4 hsz0 (fun k hk => by simp [Value.ownBlock] at hk); simp only [Nat.zero_add, List.nil_append] at ho4 ⊢; obtain ⟨a0, a1, a2, a3, a4⟩ : w4.cell? ⟨w.heap.size, 0, none⟩ = some (.int .u32 (c.uid : Nat)) ∧ w4.cell? ⟨w.heap.size, 1, none⟩ = some (.int .u32 (c.euid : Nat)) ∧ w4.cell? ⟨w.heap.size, 2, none⟩ = some (.int .u32 (c.suid : Nat)) ∧ w4.cell? ⟨w.heap.size, 3, none⟩ = some (.int .u32 (c.gid : Nat)) ∧ w4.cell? ⟨w.heap.size, 4, none⟩ = some (.slice A n k) := ⟨hC1.cell rfl, hC1.cell rfl, hC1.cell rfl, hC1.cell rfl, hC1.cell rfl⟩; obtain ⟨f0, f1, f2, f3, f4⟩ : w4.frozen? ⟨w.heap.size, 0, none⟩ = false ∧ w4.frozen? ⟨w.heap.size, 1, none⟩ = false ∧ w4.frozen? ⟨w.heap.size, 2, none⟩ = false ∧ w4.frozen? ⟨w.heap.size, 3, none⟩ = false ∧ w4.frozen? ⟨w.heap.size, 4, none⟩ = false := ⟨hC1.free _, hC1.free _, hC1.free _, hC1.free _, hC1.free _⟩; obtain ⟨b0, b1, b2, b3, b4⟩ : w4.cell? ⟨w.heap.size + 1, 0, none⟩ = some (.int .u32 0) ∧ w4.cell? ⟨w.heap.size + 1, 1, none⟩ = some (.int .u32 0) ∧ w4.cell? ⟨w.heap.size + 1, 2, none⟩ = some (.int .u32 0) ∧ w4.cell? ⟨w.heap.size + 1, 3, none⟩ = some (.int .u32 0) ∧ w4.cell? ⟨w.heap.size + 1, 4, none⟩ = some (.slice none 0 0) := ⟨hC2.cell rfl, hC2.cell rfl, hC2.cell rfl, hC2.cell rfl, hC2.cell rfl⟩; obtain ⟨g0, g1, g2, g3, g4⟩ : w4.frozen? ⟨w.heap.size + 1, 0, none⟩ = false ∧ w4.frozen? ⟨w.heap.size + 1, 1, none⟩ = false ∧ w4.frozen? ⟨w.heap.size + 1, 2, none⟩ = false ∧ w4.frozen? ⟨w.heap.size + 1, 3, none⟩ = false ∧ w4.frozen? ⟨w.heap.size + 1, 4, none⟩ = false := ⟨hC2.free _, hC2.free _, hC2.free _, hC2.free _, hC2.free _⟩; have HC1 := hide hC1; have HC2 := hide hC2; have Ho4 := hide ho4; have Hb4 := hide hb4; clear ho4 hg4 hat4 hb4 hC1 hC2)
  have hne : w.heap.size + 1 ≠ w.heap.size := by omega
  have hE := ((((((unhide HC2).other (p := ⟨w.heap.size, 4, none⟩) (by show w.heap.size ≠ w.heap.size + 1; omega) (Value.slice A4 n k4)).set 0 (Value.int .u32 (c.uid : Nat))).set 1 (Value.int .u32 (c.euid : Nat))).set 2 (Value.int .u32 (c.suid : Nat))).set 3 (Value.int .u32 (c.gid : Nat))).set 4 (Value.slice A4 n k4)
  have hbE := ((((((unhide Hb4).setCell (p := ⟨w.heap.size, 4, none⟩) (Nat.le_refl _) (Value.slice A4 n k4)).setCell (p := ⟨w.heap.size + 1, 0, none⟩) (by show w.heap.size ≤ w.heap.size + 1; omega) (Value.int .u32 (c.uid : Nat))).setCell (p := ⟨w.heap.size + 1, 1, none⟩) (by show w.heap.size ≤ w.heap.size + 1; omega) (Value.int .u32 (c.euid : Nat))).setCell (p := ⟨w.heap.size + 1, 2, none⟩) (by show w.heap.size ≤ w.heap.size + 1; omega) (Value.int .u32 (c.suid : Nat))).setCell (p := ⟨w.heap.size + 1, 3, none⟩) (by show w.heap.size ≤ w.heap.size + 1; omega) (Value.int .u32 (c.gid : Nat))).setCell (p := ⟨w.heap.size + 1, 4, none⟩) (by show w.heap.size ≤ w.heap.size + 1; omega) (Value.slice A4 n k4)
  have hown : ∀ W' : World, (∀ g, w.heap.size + 2 ≤ g → W'.heap[g]? = w4.heap[g]?) → W'.ownsRow (w.heap.size + 2) 30 1 (.slice A4 n k4) n (c.groups.map u32v) :=
    fun W' h => own_keepB' (unhide Ho4) (fun g hg => h g ((unhide Ho4).lt g hg).1)
  refine bodyPost_ret (results_cell_row (P := Try.prog) rfl _ _ (w.heap.size + 1) 44 #[.int .u32 (c.uid : Nat), .int .u32 (c.euid : Nat), .int .u32 (c.suid : Nat), .int .u32 (c.gid : Nat), .slice A4 n k4] (0, 0) _ rfl hE Try.underlying44 rfl credInfo) rfl ?_
  exact ⟨A4, k4, rfl, Rd.of_own (hown _ (fun g hg => by rw [heap_setCell_other _ _ _ _ (by show g ≠ w.heap.size + 1; omega), heap_setCell_other _ _ _ _ (by show g ≠ w.heap.size + 1; omega), heap_setCell_other _ _ _ _ (by show g ≠ w.heap.size + 1; omega), heap_setCell_other _ _ _ _ (by show g ≠ w.heap.size + 1; omega), heap_setCell_other _ _ _ _ (by show g ≠ w.heap.size + 1; omega), heap_setCell_other _ _ _ _ (by show g ≠ w.heap.size; omega)])), hbE⟩

/-- How great: what Large says where it says no. -/
def LgE (l : List EntA) (n : Nat) (w : World) (e : Ending) (w' : World) : Prop :=
  ∃ b q, e = .returned (.bool b) ∧ (b = false → n ≤ 262144 ∧ ∀ s ∈ l, s.e.path.size ≤ 262144 ∧ s.n ≤ 262144 ∧ s.e.to.size ≤ 262144) ∧ w' = w.drewN q
set_option maxRecDepth 100000 in
set_option maxHeartbeats 1000000 in
theorem large_any (l : List EntA) (A : Option Addr) (n c B : Nat) (w : World) (h : Rd w B 7 A n (rowCs entVals l)) (hl : l.length = n) (hn : n ≤ maxLen) (hsz : ∀ s ∈ l, s.e.path.size ≤ maxLen ∧ s.n ≤ maxLen ∧ s.e.to.size ≤ maxLen) :
    Calls Try.prog 10 #[.slice A n c] w (LgE l n w) := by
  have H := hide h
  have Hl := hide hl
  have Hsz := hide hsz
  unfold maxLen at hn
  clear h hl hsz
  go_enter Try.func10, Try.ntmps10
  go_wp2_with fail
  go_loopg [3, 4] n (fun gk av iv wr => ∃ (k a q : Nat), gk = n - k ∧ k ≤ n ∧ iv = .int .i64 (k : Nat) ∧ av = .int .i64 (a : Nat) ∧ n ≤ a ∧ (k = 0 ∧ a = n ∨ a ≤ 1835008) ∧ (∀ s ∈ l.take k, min s.e.path.size 524288 ≤ a ∧ min s.n 524288 ≤ a ∧ min s.e.to.size 524288 ≤ a) ∧ wr = w.drewN q)
  case atStart => exact ⟨0, n, 0, by omega, Nat.zero_le _, rfl, rfl, Nat.le_refl _, .inl ⟨rfl, rfl⟩, by simp, rfl⟩
  case round =>
  obtain ⟨k, a, q, hgk, hk, rfl, rfl, hna, hab, hall, rfl⟩ := hrel
  have Hgk := hide hgk
  have Hall := hide hall
  clear hgk hall
  by_cases hgo : k < n ∧ a ≤ 262144
  · obtain ⟨hlt, ha⟩ := hgo
    obtain ⟨s, hs⟩ : ∃ s, l[k]? = some s := ⟨_, List.getElem?_eq_getElem (by rw [unhide Hl]; exact hlt)⟩
    obtain ⟨b1, o1, rfl, hb1, c1⟩ := (unhide H).open_ (by
      intro h0
      have := rowCs_len (vals := entVals) (size := 7) (fun _ => rfl) l
      rw [h0, unhide Hl] at this
      simp at this
      omega)
    have hc : ∀ j u, (entVals s)[j]? = some u → w.cell? ⟨b1, o1 + (k * 7 + j), none⟩ = some u := by
      intro j u hu
      have hj : j < 7 := (List.getElem?_eq_some_iff.1 hu).1
      refine c1 _ _ ?_
      rw [rowCs_at (vals := entVals) (size := 7) (fun _ => rfl) l k s hs j hj, hu]
    have x0 := hc 0 _ rfl
    have x5 := hc 5 _ rfl
    have x6 := hc 6 _ rfl
    rw [Nat.add_zero] at x0
    simp only [← Nat.add_assoc] at x5 x6
    obtain ⟨z0, z5, z6⟩ := (unhide Hsz) s (List.mem_of_getElem? hs)
    unfold maxLen at z0 z5 z6
    obtain ⟨m0, hm0⟩ : ∃ m, min s.e.path.size 524288 = m := ⟨_, rfl⟩
    obtain ⟨m5, hm5⟩ : ∃ m, min s.n 524288 = m := ⟨_, rfl⟩
    obtain ⟨m6, hm6⟩ : ∃ m, min s.e.to.size 524288 = m := ⟨_, rfl⟩
    have r0 : min (s.e.path.size : Int) 524288 = (m0 : Int) := by omega
    have r5 : min (s.n : Int) 524288 = (m5 : Int) := by omega
    have r6 : min (s.e.to.size : Int) 524288 = (m6 : Int) := by omega
    have u0 : m0 ≤ 524288 := by omega
    have u5 : m5 ≤ 524288 := by omega
    have u6 : m6 ≤ 524288 := by omega
    have w1 : IntKind.i64.wrap ((a : Int) + (m0 : Int)) = (a : Int) + (m0 : Int) := IntWalk.i64_in _ (by omega)
    have w2 : IntKind.i64.wrap ((a : Int) + (m0 : Int) + (m5 : Int)) = (a : Int) + (m0 : Int) + (m5 : Int) := IntWalk.i64_in _ (by omega)
    have w3 : IntKind.i64.wrap ((a : Int) + (m0 : Int) + (m5 : Int) + (m6 : Int)) = (a : Int) + (m0 : Int) + (m5 : Int) + (m6 : Int) := IntWalk.i64_in _ (by omega)
    have i1 : (k : Int) < (n : Int) := by omega
    have i0 : (0 : Int) ≤ (k : Int) := by omega
    have i2 : (a : Int) ≤ 262144 := by omega
    have Hs := hide hs
    have Hm := hide (And.intro hm0 (And.intro hm5 hm6))
    clear hc c1 hs hm0 hm5 hm6 z0 z5 z6 hab
    go_wp2_with fail
    go_quiet (fail)
    go_wp2_with fail
    go_roundg (n - (k + 1))
    case rel =>
      refine ⟨k + 1, a + m0 + m5 + m6, q + nq, rfl, by omega, by go_num, by go_num, by omega, .inr (by omega), ?_, ?_⟩
      · intro t ht
        rw [List.take_add_one, unhide Hs] at ht
        obtain ⟨e0, e5, e6⟩ := unhide Hm
        rcases List.mem_append.1 ht with ht | ht
        · have := (unhide Hall) t ht
          omega
        · have : t = s := by simpa using ht
          subst this
          omega
      · simp [World.drewN, Nat.add_assoc]
    case measure => rw [unhide Hgk]; omega
  · have hor : (¬ (k : Int) < (n : Int)) ∨ ((k : Int) < (n : Int) ∧ ¬ (a : Int) ≤ 262144) := by omega
    have hres : (a ≤ 262144) → n ≤ 262144 ∧ ∀ s ∈ l, s.e.path.size ≤ 262144 ∧ s.n ≤ 262144 ∧ s.e.to.size ≤ 262144 := by
      intro ha
      have hkn : k = n := by omega
      refine ⟨by omega, fun s hs => ?_⟩
      have h1 := (unhide Hall) s (by rw [List.take_of_length_le (by rw [unhide Hl]; omega)]; exact hs)
      omega
    have Hres := hide hres
    clear hgo hres hab
    by_cases hbig : 262144 < a
    · have i2 : (262144 : Int) < (a : Int) := by omega
      rcases hor with h1 | ⟨h1, h2⟩
      all_goals
        go_wp2_with fail
        go_ret
        exact ⟨true, q, rfl, fun h => absurd h (by decide), rfl⟩
    · have i2 : ¬ (262144 : Int) < (a : Int) := by omega
      have Hbig := hide hbig
      rcases hor with h1 | ⟨h1, h2⟩
      · clear hbig
        go_wp2_with fail
        go_ret
        exact ⟨false, q, rfl, fun _ => (unhide Hres) (by have := unhide Hbig; omega), rfl⟩
      · exact absurd h2 (by omega)
end Go.Proofs.Yteiciabhfjakgaa
namespace Go.Proofs.Yteiciabhfjakgaa
set_option linter.unusedVariables false
set_option linter.unusedSimpArgs false
open Go.RowKit
section
variable {P : Program} {t e : TypeId} {size bytes : Nat}
/-- The same, the block's number spelt as the walk has it. -/
theorem wpList_app1g (T : SlTy P t e size bytes) {W : World} {ops : Array Oper} {rest : List Oper} {o : Oper} {a : Act} {Q : Exit → Act → World → Prop} (hgd : o.guard = none) (s x : Operand)
    (ho : o.op = .call { callee := .builtin .append, args := #[s, x], argTypes := #[t, t] })
    (base : Nat) (v : Value) (n : Nat) (xs : List Value) (hs : a.eval s = v) (hown : W.ownsRow base e size v n xs)
    (cs : Array Value) (g : Nat) (hx : a.eval x = .slice (some ⟨g, 0, none⟩) 1 1) (hg : g = W.heap.size) (hcs : cs.size = size) (h1 : ∀ u ∈ cs.toList, u.oneCell' = true)
    (hb : (n + 1) * bytes ≤ 140737488355328) (hbase : base ≤ W.heap.size)
    (h : ∀ A' c' w', w'.ownsRow base e size (.slice A' (n + 1) c') (n + 1) (xs ++ cs.toList) → W.grownBy w' v.ownBlock → (∀ k, (Value.slice A' (n + 1) c').ownBlock = some k → v.ownBlock = some k ∨ W.heap.size ≤ k) → wpList P ops Q rest (a.put o.dst (.slice A' (n + 1) c')) w') : wpList P ops Q (o :: rest) a (W.alloc (.cells cs e)) := by
  subst hg
  exact wpList_app1 T hgd s x ho base v n xs hs hown cs hx hcs h1 hb hbase h
end
end Go.Proofs.Yteiciabhfjakgaa
namespace Go.Proofs.Yteiciabhfjakgaa
set_option linter.unusedVariables false
set_option linter.unusedSimpArgs false
open Go.RowKit

/-- Entries in memory made since w: each with bytes of its own. -/
structure CpS (w : World) (es : List Vf.Ent) (A : Option Addr) (c : Nat) (l' : List EntA) (W : World) : Prop where
  map : l'.map (·.e) = es
  row : W.ownsRow w.heap.size 60 7 (.slice A l'.length c) l'.length (rowCs entVals l')
  dat : ∀ s ∈ l', W.ownsRow w.heap.size 5 1 (.slice s.A s.n s.c) s.n (bys s.e.data)
  apart : l'.Pairwise (fun s t => ∀ g, (Value.slice s.A s.n s.c).ownBlock = some g → (Value.slice t.A t.n t.c).ownBlock ≠ some g)
  bel : Below w.heap.size w W
section
variable {w W W' : World} {es : List Vf.Ent} {A : Option Addr} {c : Nat} {l' : List EntA}
theorem CpS.keep (h : CpS w es A c l' W) (hk : ∀ k, w.heap.size ≤ k → k < W.heap.size → W'.heap[k]? = W.heap[k]?) (hb : Below w.heap.size w W') : CpS w es A c l' W' :=
  ⟨h.map, own_keepA h.row hk, fun s hs => own_keepA (h.dat s hs) hk, h.apart, hb⟩
theorem CpS.below (h : CpS w es A c l' W) (hb : Below W.heap.size W W') : CpS w es A c l' W' := h.keep (fun k _ hk => hb.block k hk) (h.bel.trans (hb.mono h.bel.size))
theorem CpS.len (h : CpS w es A c l' W) : l'.length = es.length := by rw [← h.map, List.length_map]
end
theorem row_blkS {w : World} {base n c k size : Nat} {e : TypeId} {A : Option Addr} {xs : List Value} (h : w.ownsRow base e size (.slice A n c) n xs) (hk : (Value.slice A n c).ownBlock = some k) : ∃ cs, w.heap[k]? = some (.cells cs e (0, 0)) := by
  rcases h.2 with ⟨h1, h2⟩ | ⟨g, cap, cur, hv, hbg, hh, hcap⟩
  · rw [h1] at hk; cases hk
  · rw [hv] at hk
    have : g = k := by simpa [Value.ownBlock] using hk
    exact ⟨cur, this ▸ hh⟩
theorem own_tyne {w : World} {base base2 n c n2 c2 size size2 : Nat} {e e2 : TypeId} {A A2 : Option Addr} {xs xs2 : List Value} (h : w.ownsRow base e size (.slice A n c) n xs) (h2 : w.ownsRow base2 e2 size2 (.slice A2 n2 c2) n2 xs2) (hne : e ≠ e2) : (Value.slice A n c).ownBlock = none ∨ (Value.slice A n c).ownBlock ≠ (Value.slice A2 n2 c2).ownBlock := by
  cases hv : (Value.slice A n c).ownBlock with
  | none => exact .inl rfl
  | some k =>
    refine .inr fun e0 => ?_
    obtain ⟨cs, h3⟩ := row_blkS h hv
    obtain ⟨cs2, h4⟩ := row_blkS h2 e0.symm
    rw [h3] at h4
    injection h4 with h4
    injection h4 with _ h5
    exact hne h5
/-- One entry more, its bytes in a row made since. -/
theorem CpS.next {w W0 W W' : World} {es : List Vf.Ent} {A0 A : Option Addr} {c0 c : Nat} {l' : List EntA} (h0 : CpS w es A c l' W0) (h : CpS w es A c l' W) (s : EntA) (hd : W.ownsRow (W0.heap.size + 1) 5 1 (.slice s.A s.n s.c) s.n (bys s.e.data)) (hlo : w.heap.size ≤ W0.heap.size)
    (A' : Option Addr) (c' : Nat) (hr : W'.ownsRow w.heap.size 60 7 (.slice A' (l'.length + 1) c') (l'.length + 1) (rowCs entVals l' ++ entVals s)) (hg : W.grownBy W' (Value.slice A l'.length c).ownBlock) : CpS w (es ++ [s.e]) A' c' (l' ++ [s]) W' := by
  have hne : (5 : TypeId) ≠ 60 := by decide
  refine ⟨by rw [List.map_append, h.map]; rfl, ?_, ?_, ?_, h.bel.grown hg h.bel.size (fun k hk => (h.row.lt k hk).1)⟩
  · rw [List.length_append, rowCs_app]
    have e1 : rowCs entVals [s] = entVals s := by simp [rowCs]
    rw [e1]
    exact hr
  · intro t ht
    rcases List.mem_append.1 ht with ht | ht
    · exact (h.dat t ht).kept hg (own_tyne (h.dat t ht) h.row hne)
    · have e1 : t = s := by simpa using ht
      subst e1
      exact own_base (hd.kept hg (own_tyne hd h.row hne)) (by omega)
  · rw [List.pairwise_append]
    refine ⟨h.apart, by simp, fun t ht u hu g hg2 e => ?_⟩
    have e1 : u = s := by simpa using hu
    subst e1
    have a1 := ((h0.dat t ht).lt g hg2).2
    have a2 := (hd.lt g e).1
    omega
def CpE (es : List Vf.Ent) (w : World) (e : Ending) (w' : World) : Prop := ∃ A c l', e = .returned (.slice A es.length c) ∧ CpS w es A c l' w'
theorem entC_one (s : EntA) : ∀ u ∈ (entVals s), u.oneCell' = true := by
  intro u hu
  simp only [entVals, entC, List.mem_cons, List.not_mem_nil, or_false] at hu
  rcases hu with rfl | rfl | rfl | rfl | rfl | rfl | rfl <;> rfl

set_option maxRecDepth 100000 in
set_option maxHeartbeats 4000000 in
theorem copyEnts_any (l : List EntA) (A : Option Addr) (n c B : Nat) (w : World) (h : Rd w B 7 A n (rowCs entVals l)) (hB : B ≤ w.heap.size) (hl : l.length = n) (hn : n ≤ 4294967296) (hok : ∀ s ∈ l, Rd w B 1 s.A s.n (bys s.e.data) ∧ s.n ≤ 4294967296) :
    Calls Try.prog 26 #[.slice A n c] w (CpE (l.map (·.e)) w) := by
  have H := hide h
  have Hl := hide hl
  have Hok := hide hok
  clear h hl hok
  go_enter Try.func26, Try.ntmps26
  go_wp2_with fail
  go_loopg [3, 4] n (fun gk lv iv wr => ∃ (k : Nat) (A1 : Option Addr) (c1 : Nat) (l1 : List EntA), gk = n - k ∧ k ≤ n ∧ l1.length = k ∧ iv = .int .i64 (k : Nat) ∧ lv = .slice A1 k c1 ∧ CpS w ((l.take k).map (·.e)) A1 c1 l1 wr)
  case atStart => exact ⟨0, none, 0, [], by omega, Nat.zero_le _, rfl, rfl, rfl, rfl, World.ownsRow_nil _ _ _ _, by simp, by simp, Below.refl _ _⟩
  case round =>
  obtain ⟨k, A1, c1, l1, hgk, hk, hl1, rfl, rfl, hS⟩ := hrel
  have Hgk := hide hgk
  have Hl1 := hide hl1
  have HS := hide hS
  have hsz := hS.bel.size
  clear hgk hS hl1
  by_cases hlt : k < n
  · obtain ⟨s, hs⟩ : ∃ s, l[k]? = some s := ⟨_, List.getElem?_eq_getElem (by rw [unhide Hl]; exact hlt)⟩
    obtain ⟨b1, o1, rfl, hb1, cc1⟩ := (unhide H).open_ (by
      intro h0
      have := rowCs_len (vals := entVals) (size := 7) (fun _ => rfl) l
      rw [h0, unhide Hl] at this
      simp at this
      omega)
    have hc : ∀ j u, (entVals s)[j]? = some u → wr.cell? ⟨b1, o1 + (k * 7 + j), none⟩ = some u := by
      intro j u hu
      have hj : j < 7 := (List.getElem?_eq_some_iff.1 hu).1
      refine ((unhide HS).bel.cell (p := ⟨b1, _, none⟩) (Nat.lt_of_lt_of_le hb1 hB)).trans (cc1 _ _ ?_)
      rw [rowCs_at (vals := entVals) (size := 7) (fun _ => rfl) l k s hs j hj, hu]
    have x0 := hc 0 _ rfl
    have x1 := hc 1 _ rfl
    have x2 := hc 2 _ rfl
    have x3 := hc 3 _ rfl
    have x4 := hc 4 _ rfl
    have x5 := hc 5 _ rfl
    have x6 := hc 6 _ rfl
    rw [Nat.add_zero] at x0
    simp only [← Nat.add_assoc] at x1 x2 x3 x4 x5 x6
    obtain ⟨hd, hdn⟩ := (unhide Hok) s (List.mem_of_getElem? hs)
    have hbA : Below wr.heap.size wr (wr.alloc (.cells #[.string s.e.path, .int .u8 (s.e.kind : Nat), .int .u16 (s.e.mode : Nat), .int .u32 (s.e.uid : Nat), .int .u32 (s.e.gid : Nat), .slice s.A s.n s.c, .string s.e.to] 60)) := (Below.refl _ _).alloc (Nat.le_refl _) _
    have hbW := (unhide HS).bel.trans (hbA.mono hsz)
    have KC := hide (copyBytes_any s.A s.n s.c w.heap.size s.e.data (wr.alloc (.cells #[.string s.e.path, .int .u8 (s.e.kind : Nat), .int .u16 (s.e.mode : Nat), .int .u32 (s.e.uid : Nat), .int .u32 (s.e.gid : Nat), .slice s.A s.n s.c, .string s.e.to] 60)) hbW.size ((hd.more hB).below hbW) hdn)
    have ilt : (k : Int) < (n : Int) := by omega
    have Hs := hide hs
    have HbA := hide hbA
    clear hc cc1 hs hd hdn hbA hbW
    go_wp2_with fail
    refine (unhide KC).mono ?_
    rintro e w2 ⟨A2, c2, rfl, ho2, hb2⟩
    have hq : Blk w2 wr.heap.size 60 [.string s.e.path, .int .u8 (s.e.kind : Nat), .int .u16 (s.e.mode : Nat), .int .u32 (s.e.uid : Nat), .int .u32 (s.e.gid : Nat), .slice s.A s.n s.c, .string s.e.to] := (Blk.new wr 60 _).belowSz hb2
    have hq2 := hq.set 5 (.slice A2 s.n c2)
    have hb3 := (unhide HbA).trans (hb2.mono (by simp))
    have hb4 := hb3.setCell (p := ⟨wr.heap.size, 5, none⟩) (Nat.le_refl _) (.slice A2 s.n c2)
    have ho4 : (w2.setCell ⟨wr.heap.size, 5, none⟩ (.slice A2 s.n c2)).ownsRow (wr.heap.size + 1) 5 1 (.slice A2 s.n c2) s.n (bys s.e.data) := by
      rw [World.size_alloc] at ho2
      exact own_keepB' ho2 (fun g hg => heap_setCell_other _ _ _ _ (by have := (ho2.lt g hg).1; show g ≠ wr.heap.size; omega))
    obtain ⟨p0, p1, p2, p3, p4, p5, p6⟩ : w2.cell? ⟨wr.heap.size, 0, none⟩ = some (.string s.e.path) ∧ w2.cell? ⟨wr.heap.size, 1, none⟩ = some (.int .u8 (s.e.kind : Nat)) ∧ w2.cell? ⟨wr.heap.size, 2, none⟩ = some (.int .u16 (s.e.mode : Nat)) ∧ w2.cell? ⟨wr.heap.size, 3, none⟩ = some (.int .u32 (s.e.uid : Nat)) ∧ w2.cell? ⟨wr.heap.size, 4, none⟩ = some (.int .u32 (s.e.gid : Nat)) ∧ w2.cell? ⟨wr.heap.size, 5, none⟩ = some (.slice s.A s.n s.c) ∧ w2.cell? ⟨wr.heap.size, 6, none⟩ = some (.string s.e.to) := ⟨hq.cell rfl, hq.cell rfl, hq.cell rfl, hq.cell rfl, hq.cell rfl, hq.cell rfl, hq.cell rfl⟩
    have pf := hq.free 5
    have HS4 := hide ((unhide HS).below hb4)
    have Ho4 := hide ho4
    have Hb4 := hide hb4
    have hsz4 : wr.heap.size ≤ (w2.setCell ⟨wr.heap.size, 5, none⟩ (.slice A2 s.n c2)).heap.size := hb4.size
    have hszw : w.heap.size ≤ (w2.setCell ⟨wr.heap.size, 5, none⟩ (.slice A2 s.n c2)).heap.size := Nat.le_trans hsz hsz4
    have Hq2 := hide hq2
    have hrow4 := (unhide HS4).row
    rw [unhide Hl1] at hrow4
    have Hrow4 := hide hrow4
    have hent : (l.take (k + 1)).map (·.e) = (l.take k).map (·.e) ++ [s.e] := by
      rw [List.take_add_one, unhide Hs, List.map_append]
      rfl
    have Hent := hide hent
    clear x0 x1 x2 x3 x4 x5 x6 hb2 ho2 hq hq2 hb3 hb4 ho4 KC HbA hrow4 hent
    go_wp2_with (at_builtin; refine wpList_app1g entTy rfl _ _ rfl w.heap.size (.slice A1 k c1) k _ rfl (unhide Hrow4) #[.string s.e.path, .int .u8 (s.e.kind : Nat), .int .u16 (s.e.mode : Nat), .int .u32 (s.e.uid : Nat), .int .u32 (s.e.gid : Nat), .slice A2 s.n c2, .string s.e.to] _ rfl (by simp) rfl (entC_one ⟨s.e, A2, s.n, c2⟩) (by omega) hszw ?_; intro A5 c5 w5 ho5 hg5 hat5; have Ho5 := hide ho5; have Hg5 := hide hg5; clear ho5 hg5 hat5)
    go_roundg (n - (k + 1))
    case rel =>
      have hg5 := unhide Hg5
      refine ⟨k + 1, A5, c5, l1 ++ [⟨s.e, A2, s.n, c2⟩], rfl, by omega, by rw [List.length_append, unhide Hl1]; rfl, by go_num, rfl, ?_⟩
      rw [unhide Hent]
      exact CpS.next (A0 := A1) (c0 := c1) (unhide HS) (unhide HS4) ⟨s.e, A2, s.n, c2⟩ (unhide Ho4) hsz A5 c5 (by rw [unhide Hl1]; exact unhide Ho5) (by rw [unhide Hl1]; exact hg5)
    case measure => rw [unhide Hgk]; omega
  · have ilt : ¬ (k : Int) < (n : Int) := by omega
    have hkn : k = n := by omega
    go_wp2_with fail
    go_ret
    have hS := unhide HS
    rw [List.take_of_length_le (by rw [unhide Hl]; omega)] at hS
    refine ⟨A1, c1, l1, ?_, hS⟩
    rw [List.length_map, unhide Hl]
    first | rfl | rw [hkn]
end Go.Proofs.Yteiciabhfjakgaa
namespace Go.Proofs.Yteiciabhfjakgaa
set_option linter.unusedVariables false
set_option linter.unusedSimpArgs false
open Go.RowKit

theorem own_setG {w : World} {base g n c i size : Nat} {e : TypeId} {xs : List Value} (h : w.ownsRow base e size (.slice (some ⟨g, 0, none⟩) n c) n xs) (u : Value) :
    (w.setCell ⟨g, i, none⟩ u).ownsRow base e size (.slice (some ⟨g, 0, none⟩) n c) n (xs.set i u) := by
  obtain ⟨hl, hn | ⟨g', cap, cur, hv, hb, hg, h1, h2, h3, h4⟩⟩ := h
  · exact absurd hn.1 (by simp)
  · obtain ⟨rfl, rfl⟩ : g = g' ∧ c = cap := by simpa using hv
    refine ⟨by simpa using hl, .inr ⟨g, c, cur.setIfInBounds i u, rfl, hb, heap_setCell_same _ _ _ _ _ _ hg, h1, h2, by simpa using h3, ?_⟩⟩
    simp only [Array.toList_setIfInBounds, List.take_set, h4]
/-- A store into another block leaves a row of the call's own as it was. -/
theorem own_setO {w : World} {base g i n c size : Nat} {A : Option Addr} {e : TypeId} {xs : List Value} (h : w.ownsRow base e size (.slice A n c) n xs) (hne : (Value.slice A n c).ownBlock ≠ some g) (u : Value) : (w.setCell ⟨g, i, none⟩ u).ownsRow base e size (.slice A n c) n xs := by
  obtain ⟨hl, hn | ⟨g', cap, cur, hv, hb, hg, h1, h2, h3, h4⟩⟩ := h
  · exact ⟨hl, .inl hn⟩
  · refine ⟨hl, .inr ⟨g', cap, cur, hv, hb, (heap_setCell_other _ _ _ _ ?_).trans hg, h1, h2, h3, h4⟩⟩
    show g' ≠ g
    rintro rfl
    rw [hv] at hne
    exact hne rfl

/-- Where made stands: the entries from k on are as they were copied, and so are the bytes of those from d on. -/
structure SpS (w : World) (A : Option Addr) (c : Nat) (l' : List EntA) (k d : Nat) (W : World) : Prop where
  bel : Below w.heap.size w W
  row : ∃ xs, W.ownsRow w.heap.size 60 7 (.slice A l'.length c) l'.length xs ∧ ∀ i, k * 7 ≤ i → xs[i]? = (rowCs entVals l')[i]?
  dat : ∀ j s, d ≤ j → l'[j]? = some s → W.ownsRow w.heap.size 5 1 (.slice s.A s.n s.c) s.n (bys s.e.data)
  apart : l'.Pairwise (fun s t => ∀ g, (Value.slice s.A s.n s.c).ownBlock = some g → (Value.slice t.A t.n t.c).ownBlock ≠ some g)
section
variable {w W W' : World} {es : List Vf.Ent} {A : Option Addr} {c k d g : Nat} {l' : List EntA}
theorem SpS.start (h : CpS w es A c l' W) : SpS w A c l' 0 0 W :=
  ⟨h.bel, ⟨_, h.row, fun _ _ => rfl⟩, fun j s _ hs => h.dat s (List.mem_of_getElem? hs), h.apart⟩
theorem SpS.below (h : SpS w A c l' k d W) (hb : Below W.heap.size W W') : SpS w A c l' k d W' := by
  obtain ⟨xs, h1, h2⟩ := h.row
  exact ⟨h.bel.trans (hb.mono h.bel.size), ⟨xs, own_keepA h1 (fun k _ hk => hb.block k hk), h2⟩, fun j s hj hs => own_keepA (h.dat j s hj hs) (fun k _ hk => hb.block k hk), h.apart⟩
theorem SpS.less (h : SpS w A c l' k d W) {k' d' : Nat} (hk : k ≤ k') (hd : d ≤ d') : SpS w A c l' k' d' W := by
  obtain ⟨xs, h1, h2⟩ := h.row
  exact ⟨h.bel, ⟨xs, h1, fun i hi => h2 i (by omega)⟩, fun j s hj hs => h.dat j s (by omega) hs, h.apart⟩
/-- A store into a cell of the entries below k. -/
theorem SpS.setRow (h : SpS w (some ⟨g, 0, none⟩) c l' k d W) (i : Nat) (hi : i < k * 7) (u : Value) : SpS w (some ⟨g, 0, none⟩) c l' k d (W.setCell ⟨g, i, none⟩ u) := by
  obtain ⟨xs, h1, h2⟩ := h.row
  have hg : w.heap.size ≤ g := by
    obtain ⟨hl, hn | ⟨g', cap, cur, hv, hb, hg, _⟩⟩ := h1
    · exact absurd hn.1 (by simp)
    · obtain ⟨rfl, rfl⟩ : g = g' ∧ c = cap := by simpa using hv
      exact hb
  have hne : ∀ j s, d ≤ j → l'[j]? = some s → (Value.slice s.A s.n s.c).ownBlock ≠ some g := by
    intro j s hj hs e
    obtain ⟨c1, e1⟩ := row_blkS (h.dat j s hj hs) e
    obtain ⟨c2, e2⟩ := row_blkS (k := g) h1 rfl
    rw [e1] at e2
    injection e2 with e2
    injection e2 with _ e3
    exact absurd e3 (by decide)
  refine ⟨h.bel.setCell (p := ⟨g, i, none⟩) hg u, ⟨xs.set i u, own_setG h1 u, fun i' hi' => ?_⟩, fun j s hj hs => own_setO (h.dat j s hj hs) (hne j s hj hs) u, h.apart⟩
  rw [List.getElem?_set_ne (by omega)]
  exact h2 i' hi'
theorem SpS.base (h : SpS w (some ⟨g, 0, none⟩) c l' k d W) : w.heap.size ≤ g := by
  obtain ⟨xs, h1, h2⟩ := h.row
  obtain ⟨hl, hn | ⟨g', cap, cur, hv, hb, hg, _⟩⟩ := h1
  · exact absurd hn.1 (by simp)
  · obtain ⟨rfl, rfl⟩ : g = g' ∧ c = cap := by simpa using hv
    exact hb
/-- The cells of an entry that is as it was. -/
theorem SpS.cell (h : SpS w (some ⟨g, 0, none⟩) c l' k d W) {j : Nat} {s : EntA} (hj : k ≤ j) (hs : l'[j]? = some s) {q : Nat} (hq : q < 7) {u : Value} (hu : (entVals s)[q]? = some u) : W.cell? ⟨g, j * 7 + q, none⟩ = some u := by
  obtain ⟨xs, h1, h2⟩ := h.row
  have hx : xs[j * 7 + q]? = some u := by
    rw [h2 (j * 7 + q) (by omega), rowCs_at (vals := entVals) (size := 7) (fun _ => rfl) l' j s hs q hq, hu]
  obtain ⟨b, off, ha, _, hc⟩ := (Rd.of_own h1).open_ (by intro e; rw [e] at hx; cases hx)
  obtain ⟨rfl, rfl⟩ : g = b ∧ 0 = off := by simpa using ha
  simpa using hc _ _ hx
theorem SpS.free (h : SpS w (some ⟨g, 0, none⟩) c l' k d W) (i : Nat) : W.frozen? ⟨g, i, none⟩ = false := by
  obtain ⟨xs, h1, h2⟩ := h.row
  obtain ⟨hl, hn | ⟨g', cap, cur, hv, hb, hg, _⟩⟩ := h1
  · exact absurd hn.1 (by simp)
  · obtain ⟨rfl, rfl⟩ : g = g' ∧ c = cap := by simpa using hv
    exact frozen_of_row _ _ _ _ _ hg
end
/-- Within an entry: its bytes from q on are as they were. -/
structure SpI (w : World) (A : Option Addr) (c : Nat) (l' : List EntA) (k q : Nat) (s : EntA) (W : World) : Prop where
  sp : SpS w A c l' k (k + 1) W
  at_ : l'[k]? = some s
  row : ∃ ys, W.ownsRow w.heap.size 5 1 (.slice s.A s.n s.c) s.n ys ∧ ∀ i, q ≤ i → ys[i]? = (bys s.e.data)[i]?
section
variable {w W W' : World} {A : Option Addr} {c k q g b : Nat} {l' : List EntA} {s : EntA}
theorem SpI.start (h : SpS w A c l' k k W) (hs : l'[k]? = some s) : SpI w A c l' k 0 s W :=
  ⟨h.less (Nat.le_refl _) (Nat.le_succ _), hs, ⟨_, h.dat k s (Nat.le_refl _) hs, fun _ _ => rfl⟩⟩
theorem SpI.cell (h : SpI w A c l' k q s W) (hA : s.A = some ⟨b, 0, none⟩) {u : Value} {i : Nat} (hi : q ≤ i) (hu : (bys s.e.data)[i]? = some u) : W.cell? ⟨b, i, none⟩ = some u := by
  obtain ⟨ys, h1, h2⟩ := h.row
  rw [hA] at h1
  exact own_cell h1 ((h2 i hi).trans hu)
theorem SpI.free (h : SpI w A c l' k q s W) (hA : s.A = some ⟨b, 0, none⟩) (i : Nat) : W.frozen? ⟨b, i, none⟩ = false := by
  obtain ⟨ys, h1, h2⟩ := h.row
  rw [hA] at h1
  exact own_free h1 i
/-- A store into the byte at hand. -/
theorem SpI.set (h : SpI w A c l' k q s W) (hA : s.A = some ⟨b, 0, none⟩) (u : Value) : SpI w A c l' k (q + 1) s (W.setCell ⟨b, q, none⟩ u) := by
  obtain ⟨ys, h1, h2⟩ := h.row
  have h1' := h1
  rw [hA] at h1'
  have hb : w.heap.size ≤ b := (own_at h1').1
  have hown : (Value.slice s.A s.n s.c).ownBlock = some b := by rw [hA]; rfl
  obtain ⟨xs, h3, h4⟩ := h.sp.row
  have hne : (Value.slice A l'.length c).ownBlock ≠ some b := by
    intro e
    obtain ⟨c1, e1⟩ := row_blkS h3 e
    obtain ⟨c2, e2⟩ := row_blkS h1 hown
    rw [e1] at e2
    injection e2 with e2
    injection e2 with _ e3
    exact absurd e3 (by decide)
  have hap : ∀ j t, k + 1 ≤ j → l'[j]? = some t → (Value.slice t.A t.n t.c).ownBlock ≠ some b := by
    intro j t hj ht
    obtain ⟨hkl, hk⟩ := List.getElem?_eq_some_iff.1 h.at_
    obtain ⟨hjl, hjt⟩ := List.getElem?_eq_some_iff.1 ht
    have := List.pairwise_iff_getElem.1 h.sp.apart k j hkl hjl (by omega)
    rw [hk, hjt] at this
    exact this b hown
  refine ⟨⟨h.sp.bel.setCell (p := ⟨b, q, none⟩) hb u, ⟨xs, own_setO h3 hne u, h4⟩, fun j t hj ht => own_setO (h.sp.dat j t hj ht) (hap j t hj ht) u, h.sp.apart⟩, h.at_, ⟨ys.set q u, ?_, fun i hi => ?_⟩⟩
  · rw [hA]
    exact own_set h1' u
  · rw [List.getElem?_set_ne (by omega)]
    exact h2 i (by omega)
end
end Go.Proofs.Yteiciabhfjakgaa
namespace Go.Proofs.Yteiciabhfjakgaa
set_option linter.unusedVariables false
set_option linter.unusedSimpArgs false
open Go.RowKit

theorem as_file (v : Value) (w : World) : (Instr.typeAssert (.iface 80 v) 68 80 true).run Try.prog w = .ok (.tuple #[v, .bool true]) w := by
  simp [Instr.typeAssert, run_underlying Try.underlying80, go_sem, Result.andThen]
theorem zero_file (w : World) : (zeroValue 80).run Try.prog w = .ok (.pointer none) w := by kernel_rfl
theorem link_no_file (v : Value) (w : World) : (Instr.typeAssert (.iface 121 v) 68 80 true).run Try.prog w = .ok (.tuple #[.pointer none, .bool false]) w := by
  simp [Instr.typeAssert, run_underlying Try.underlying80, zero_file, go_sem, Result.andThen]

/-- What Read answers: the bytes, in rows of the call's own. -/
def ReadVE (F : List Vf.Nd) (ino off n : Int) (w : World) (e : Ending) (w' : World) : Prop :=
  ∃ A' c', e = .returned (.tuple #[.slice A' (Vf.readOf F ino off n).1.length c', .int .i64 (Vf.readOf F ino off n).2]) ∧ w'.ownsRow w.heap.size 5 1 (.slice A' (Vf.readOf F ino off n).1.length c') (Vf.readOf F ino off n).1.length (bys (Vf.readOf F ino off n).1) ∧ Below w.heap.size w w'
theorem readVE_nil {F : List Vf.Nd} {ino off n : Int} {w w' : World} {er : Int} (h : Vf.readOf F ino off n = ([], er)) (hb : Below w.heap.size w w') : ReadVE F ino off n w (.returned (.tuple #[.slice none 0 0, .int .i64 er])) w' := by
  unfold ReadVE
  rw [h]
  exact ⟨none, 0, rfl, World.ownsRow_nil _ _ _ _, hb⟩

set_option maxRecDepth 100000 in
set_option maxHeartbeats 4000000 in
theorem read_any (F : List Vf.Nd) (L : List Pl) (lo f c : Nat) (A : Option Addr) (ino off n : Int) (w : World) (hF : Vf.Good F) (h : FsM w lo f A c F L) (hn : F.length ≤ 65) :
    Calls Try.prog 15 #[ptrV f, .int .i64 ino, .int .i64 off, .int .i64 n] w (ReadVE F ino off n w) := by
  have KM := meta_any F L f c w.heap.size A ino w h.toR (Nat.le_refl _) hn hF.kind
  have KN : ∀ w', Below w.heap.size w w' → Calls Try.prog 30 #[.pointer (some ⟨f, 0, none⟩), .int .i64 ino] w' fun e w2 => e = .returned (nodeV F L ino) ∧ w' = w2 :=
    fun w' hb => node_any F L f c _ A ino w' (h.belowSz hb).toR hn
  unfold ptrV metaV at KM
  obtain ⟨⟨⟨mk, mm, mu, mg, ms⟩, me⟩, hm⟩ : ∃ r, Vf.metaOf F ino = r := ⟨_, rfl⟩
  rw [hm] at KM
  dsimp only at KM
  have HKM := hide KM
  have HKN := hide KN
  have HF := hide hF
  have H := hide h
  have Hm := hide hm
  unfold ptrV
  clear KM KN hF h hm
  go_enter Try.func15, Try.ntmps15
  go_wp2_with fail
  refine (unhide HKM).mono ?_
  rintro e w1 ⟨rfl, hb1⟩
  have hb2 := (unhide (hide hb1)).alloc hb1.size (.cells #[.int .u8 (mk : Nat), .int .u16 (mm : Nat), .int .u32 (mu : Nat), .int .u32 (mg : Nat), .int .i64 (ms : Nat)] 32)
  have Hb2 := hide hb2
  clear hb1 hb2
  by_cases hme : me = 0
  · subst hme
    have hre : Vf.readOf F ino off n = if mk = 2 then ([], 9) else if mk = 3 ∨ off < 0 ∨ n < 0 then ([], 1) else (((Vf.nd F ino.toNat).data.drop off.toNat).take n.toNat, 0) := by
      unfold Vf.readOf
      rw [unhide Hm]
      simp
    have q0 : ((0 : Int) != 0) = false := rfl
    obtain ⟨i, hio, x, hx, hmx⟩ : ∃ i : Nat, ino = (i : Int) ∧ ∃ x, F[i]? = some x ∧ (⟨mk, mm, mu, mg, ms⟩ : Vf.Meta) = x.m := by
      have h := unhide Hm
      unfold Vf.metaOf at h
      split at h
      · injection h with _ h2; cases h2
      · next ho =>
        obtain ⟨i, rfl⟩ := Int.eq_ofNat_of_zero_le (show 0 ≤ ino by omega)
        have hi : i < F.length := by simp at ho; omega
        refine ⟨i, rfl, F[i], List.getElem?_eq_getElem hi, ?_⟩
        injection h with h1 _
        rw [Int.toNat_natCast, Vf.nd_eq (List.getElem?_eq_getElem hi)] at h1
        exact h1.symm
    have hmk : x.m.kind = mk := by rw [← hmx]
    obtain ⟨p, hp, _, _⟩ := (unhide H).at_ hx
    have en := nodeV_in (unhide H) hx hp
    rw [← hio] at en
    have hk3 := kind3 (unhide HF) hx
    rw [hmk] at hk3 en
    by_cases h2 : mk = 2
    · have b1 : (((mk : Nat) : Int) == 2) = true := by rw [h2]; rfl
      rw [if_pos h2] at hre
      have Hre := hide hre
      clear hre hmx hx hp en hk3 hmk h2 hio
      go_wp2_with fail
      go_ret2
      exact readVE_nil (unhide Hre) (unhide Hb2)
    · have b1 : (((mk : Nat) : Int) == 2) = false := by rw [beq_eq_false_iff_ne]; omega
      rw [if_neg h2] at hre
      have hHW := ((unhide H).belowSz (unhide Hb2))
      by_cases h3 : mk = 3
      · have et : kindT mk = 121 := by rw [h3]; rfl
        rw [et] at en
        rw [if_pos (.inl h3)] at hre
        have ha := link_no_file (.pointer (some ⟨p.q, 0, none⟩))
        have KN2 := (unhide HKN) _ (unhide Hb2)
        rw [en] at KN2
        have HKN2 := hide KN2
        have Hre := hide hre
        clear hre hmx hx hp en hk3 hmk h2 h3 hio et hHW KN2
        go_wp2_with fail
        refine (unhide HKN2).mono ?_
        rintro e w3 ⟨rfl, rfl⟩
        go_wp2_with fail
        go_ret2
        exact readVE_nil (unhide Hre) (unhide Hb2)
      · have h1 : mk = 1 := by omega
        have et : kindT mk = 80 := by rw [h1]; rfl
        rw [et] at en
        have ha := as_file (.pointer (some ⟨p.q, 0, none⟩))
        have KN2 := (unhide HKN) _ (unhide Hb2)
        rw [en] at KN2
        have HKN2 := hide KN2
        by_cases ho : off < 0 ∨ n < 0
        · rw [if_pos (.inr ho)] at hre
          have Hre := hide hre
          have hon : off < 0 ∨ (¬ off < 0 ∧ n < 0) := by omega
          clear hre hmx hx hp en hk3 hmk h2 h3 hio et hHW KN2 h1 ho
          rcases hon with o1 | ⟨o1, o2⟩
          all_goals
            go_wp2_with fail
            refine (unhide HKN2).mono ?_
            rintro e w3 ⟨rfl, rfl⟩
            go_wp2_with fail
            go_ret2
            exact readVE_nil (unhide Hre) (unhide Hb2)
        · rw [if_neg (by omega)] at hre
          obtain ⟨_, u, _, hbk⟩ := hHW.nd i x p hx hp
          obtain ⟨hpn, hpc, hby⟩ := hHW.byt i x p hx hp (by rw [hmk]; exact h1)
          have c8 := hbk.cell (i := 8) rfl
          have e8 : lastV x p = .slice p.A p.n p.c := by unfold lastV; rw [if_neg (by rw [hmk]; exact h2), if_pos (by rw [hmk]; exact h1)]
          rw [e8] at c8
          have hndx : Vf.nd F ino.toNat = x := by rw [hio, Int.toNat_natCast, Vf.nd_eq hx]
          rw [hndx] at hre
          clear hndx
          have hsz := ((unhide HF).size i x hx).2.2
          obtain ⟨o, rfl⟩ := Int.eq_ofNat_of_zero_le (show 0 ≤ off by omega)
          obtain ⟨m, rfl⟩ := Int.eq_ofNat_of_zero_le (show 0 ≤ n by omega)
          simp only [Int.toNat_natCast] at hre
          obtain ⟨k, hk⟩ : ∃ k, min o p.n = k := ⟨_, rfl⟩
          obtain ⟨j, hj⟩ : ∃ j, min m (p.n - k) = j := ⟨_, rfl⟩
          have hrd := hby.rd
          have hrd2 := ((hrd.from_ (k := k) (by omega) hpc).to_ (k := j) (by omega))
          have hbb : ((List.map (fun b => Value.int .u8 (b.toNat : Nat)) x.data).drop k).take j = bys ((x.data.drop o).take m) := by
            show ((bys x.data).drop k).take j = _
            unfold bys
            rw [← List.map_drop, ← List.map_take]
            congr 1
            apply List.ext_getElem?
            intro t
            simp only [List.getElem?_take, List.getElem?_drop]
            by_cases h9 : t < j
            · rw [if_pos h9, if_pos (by omega), show k = o by omega]
            · rw [if_neg h9]
              split
              · rw [List.getElem?_eq_none (by omega)]
              · rfl
          rw [hbb] at hrd2
          have hdl : ((x.data.drop o).take m).length = j := by
            rw [List.length_take, List.length_drop]
            omega
          have r1 := fun w' => run_from (P := Try.prog) Try.underlying36 (e := 5) (by kernel_rfl) p.A p.n p.c k (by omega) w'
          have r2 := fun w' => run_to (P := Try.prog) Try.underlying36 (e := 5) (by kernel_rfl) (fromA p.A p.c k) (p.n - k) (p.c - k) j (by omega) w'
          have m1 : min (o : Int) (p.n : Int) = (k : Int) := by omega
          have m2 : min (m : Int) ((p.n - k : Nat) : Int) = (j : Int) := by omega
          have KC := fun w' (hb : Below _ (w1.alloc (.cells #[.int .u8 (mk : Nat), .int .u16 (mm : Nat), .int .u32 (mu : Nat), .int .u32 (mg : Nat), .int .i64 (ms : Nat)] 32)) w') => cloneB_any (fromA p.A p.c k) j (p.c - k) _ ((x.data.drop o).take m) w' (hrd2.below hb) hb.size (by omega)
          have HKC := hide KC
          have Hdl := hide hdl
          have Hre := hide hre
          have hon1 : ¬ (o : Int) < 0 := by omega
          have hon2 : ¬ (m : Int) < 0 := by omega
          obtain ⟨A3, hA3⟩ : ∃ A3, fromA p.A p.c k = A3 := ⟨_, rfl⟩
          rw [hA3] at r1 r2 HKC
          clear hre hmx hx hp en hk3 hmk h2 h3 hio et hHW KN2 h1 ho hbk hpn hpc hby e8 hsz hk hj hrd hrd2 hbb hdl KC hA3
          go_wp2_with fail
          refine (unhide HKN2).mono ?_
          rintro e w3 ⟨rfl, rfl⟩
          go_wp2_with fail
          go_quiet (fail)
          go_wp2_with fail
          refine ((unhide HKC) _ (below_drewN' (Below.refl _ _) _)).mono ?_
          rintro e w4 ⟨A5, c5, rfl, ho5, hb5⟩
          have hb6 := (below_drewN' (unhide Hb2) nq).trans (hb5.mono (unhide Hb2).size)
          have ho6 := own_base ho5 (unhide Hb2).size
          have Hb6 := hide hb6
          have Ho6 := hide ho6
          clear hb5 ho5 hb6 ho6
          go_wp2_with fail
          go_ret2
          unfold ReadVE
          rw [unhide Hre]
          dsimp only
          rw [unhide Hdl]
          exact ⟨A5, c5, rfl, unhide Ho6, unhide Hb6⟩
  · have hre : Vf.readOf F ino off n = ([], me) := by
      unfold Vf.readOf
      rw [unhide Hm]
      simp [hme]
    have q0 : (me != 0) = true := by simp [hme]
    have Hre := hide hre
    clear hre hme
    go_wp2_with fail
    go_ret2
    exact readVE_nil (unhide Hre) (unhide Hb2)
end Go.Proofs.Yteiciabhfjakgaa
namespace Go.Proofs.Yteiciabhfjakgaa.Vf
set_option linter.unusedVariables false
set_option linter.unusedSimpArgs false

theorem names_more {F : List Nd} (h : Good F) : ∀ (i k : Nat), i < F.length → i ≤ k → names F k i = names F i i := by
  intro i
  induction i using Nat.strongRecOn with
  | ind i ih =>
    intro k hi hk
    cases i with
    | zero =>
      cases k with
      | zero => rfl
      | succ k => rfl
    | succ j =>
      obtain ⟨k, rfl⟩ : ∃ k', k = k' + 1 := ⟨k - 1, by omega⟩
      obtain ⟨x, hx⟩ : ∃ x, F[j + 1]? = some x := ⟨_, List.getElem?_eq_getElem hi⟩
      have hu := (h.up (j + 1) x hx (by omega)).1
      unfold names
      rw [if_neg (by omega), if_neg (by omega), nd_eq hx, ih x.up hu k (by omega) (by omega), ih x.up hu j (by omega) (by omega)]
def nmsP (F : List Nd) (i : Nat) : List ByteArray := names F i i
theorem nmsP_zero (F : List Nd) : nmsP F 0 = [] := rfl
theorem nmsP_succ {F : List Nd} (h : Good F) {i : Nat} {x : Nd} (hx : F[i]? = some x) (h1 : 1 ≤ i) : nmsP F i = nmsP F x.up ++ [x.name] := by
  have hi := (List.getElem?_eq_some_iff.1 hx).1
  have hu := (h.up i x hx h1).1
  obtain ⟨j, rfl⟩ : ∃ j, i = j + 1 := ⟨i - 1, by omega⟩
  unfold nmsP
  conv => lhs; unfold names
  rw [if_neg (by omega), nd_eq hx, names_more h x.up j (by omega) (by omega)]
theorem pathOf_in {F : List Nd} (h : Good F) {i : Nat} (hi : i < F.length) : pathOf F (i : Nat) = if i = 0 then ⟨#[47]⟩ else slashed (nmsP F i) := by
  unfold pathOf
  rw [if_neg (by simp; omega)]
  simp only [Int.toNat_natCast]
  rw [names_more h i F.length hi (by omega)]
  by_cases h0 : i = 0
  · rw [if_pos h0, if_pos (by omega)]
  · rw [if_neg h0, if_neg (by omega)]
    rfl
theorem pathOf_out {F : List Nd} {ino : Int} (h : ino < 0 ∨ F.length ≤ ino.toNat) : pathOf F ino = ⟨#[]⟩ := by unfold pathOf; rw [if_pos h]
theorem nmsP_ne {F : List Nd} (h : Good F) {i : Nat} (hi : i < F.length) (h1 : 1 ≤ i) : nmsP F i ≠ [] := by
  rw [nmsP_succ h (List.getElem?_eq_getElem hi) h1]
  simp
theorem nmsP_sz {F : List Nd} (h : Good F) : ∀ (i : Nat), i < F.length → (∀ x ∈ nmsP F i, x.size ≤ 32) ∧ (nmsP F i).length ≤ i := by
  intro i
  induction i using Nat.strongRecOn with
  | ind i ih =>
    intro hi
    by_cases h1 : 1 ≤ i
    · obtain ⟨x, hx⟩ : ∃ x, F[i]? = some x := ⟨_, List.getElem?_eq_getElem hi⟩
      have hu := (h.up i x hx h1).1
      obtain ⟨a, b⟩ := ih x.up hu (by omega)
      rw [nmsP_succ h hx h1]
      refine ⟨fun y hy => ?_, ?_⟩
      · rcases List.mem_append.1 hy with hy | hy
        · exact a y hy
        · rw [List.mem_singleton] at hy
          rw [hy]
          exact h.nmsz i x hx
      · rw [List.length_append, List.length_singleton]
        omega
    · obtain rfl : i = 0 := by omega
      rw [nmsP_zero]
      simp
theorem slashed_toList (xs : List ByteArray) : (slashed xs).data.toList = (xs.map fun x => 47 :: x.data.toList).flatten := by
  induction xs with
  | nil => rfl
  | cons x r ih =>
    unfold slashed
    simp [ih]
theorem join_slashed {xs : List ByteArray} (h : xs ≠ []) : (⟨#[47]⟩ : ByteArray) ++ ⟨(Lib.join (xs.map (·.data.toList)) [47]).toArray⟩ = slashed xs := by
  cases xs with
  | nil => exact absurd rfl h
  | cons x r =>
    apply ByteArray.ext
    apply Array.toList_inj.1
    rw [slashed_toList, List.map_cons, Lib.join_cons]
    simp [Lib.joinTail, Function.comp_def]
theorem join_len (xs : List ByteArray) (n : Nat) (h : ∀ x ∈ xs, x.size ≤ n) : (Lib.join (xs.map (·.data.toList)) [47]).length ≤ xs.length * (n + 1) := by
  cases xs with
  | nil => simp [Lib.join_nil]
  | cons x r =>
    rw [List.map_cons, Lib.join_cons]
    have h2 : ∀ (l : List ByteArray), (∀ x ∈ l, x.size ≤ n) → (Lib.joinTail [47] (l.map (·.data.toList))).length ≤ l.length * (n + 1) := by
      intro l
      induction l with
      | nil => intro _; simp [Lib.joinTail]
      | cons y t ih =>
        intro hy
        have := ih (fun z hz => hy z (by simp [hz]))
        have hy1 := hy y (by simp)
        have hy2 : y.data.toList.length = y.size := by simp
        unfold Lib.joinTail at this ⊢
        simp only [List.map_cons, List.flatten_cons, List.length_append, List.length_cons, List.length_nil] at this ⊢
        rw [Nat.succ_mul]
        omega
    have h3 := h2 r (fun z hz => h z (by simp [hz]))
    have h4 := h x (by simp)
    have h5 : x.data.toList.length = x.size := by simp
    rw [List.length_append, List.length_cons, Nat.succ_mul]
    omega
end Go.Proofs.Yteiciabhfjakgaa.Vf
namespace Go.Proofs.Yteiciabhfjakgaa
set_option linter.unusedVariables false
set_option linter.unusedSimpArgs false
open Go.RowKit Go.Lib Go.Sort

theorem below_setCellsR {B : Nat} {a : World} (b : Nat) (hb : B ≤ b) : ∀ (vs : List Value) (o : Nat) {w : World}, Below B a w → Below B a (w.setCells b o vs)
  | [], _, _, h => h
  | v :: r, o, _, h => below_setCellsR b hb r (o + 1) (h.setCell (p := ⟨b, o, none⟩) hb v)
def RevE (A : Option Addr) (n base : Nat) (l : List ByteArray) (w : World) (e : Ending) (w' : World) : Prop :=
  e = .returned (.tuple #[]) ∧ Rd w' w'.heap.size 1 A n (l.reverse.map Value.string) ∧ Below base w w'
theorem rev_any (A : Option Addr) (n c base : Nat) (l : List ByteArray) (w : World) (h : w.ownsRow base 9 1 (.slice A n c) n (l.map Value.string)) (hn : n ≤ 4294967296) :
    Calls Try.prog 34 #[.slice A n c] w (RevE A n base l w) := by
  have hl : l.length = n := by simpa using h.1
  by_cases h0 : n = 0
  · subst h0
    have h1 : l = [] := List.eq_nil_of_length_eq_zero hl
    subst h1
    refine (Try.slices_Reverse_string_empty A c w).mono ?_
    rintro e w' ⟨rfl, rfl⟩
    exact ⟨rfl, ⟨rfl, .inl rfl⟩, Below.refl _ _⟩
  · obtain ⟨g, rfl, hbg, hgl⟩ := own_some h (by omega)
    have hc : ∀ i, i < n → w.cell? ⟨g, 0 + i, none⟩ = some (.string (l.getD i ⟨#[]⟩)) := by
      intro i hi
      rw [Nat.zero_add]
      refine own_cell h ?_
      rw [List.getElem?_map, List.getElem?_eq_getElem (by omega), List.getD_eq_getElem?_getD, List.getElem?_eq_getElem (by omega)]
      rfl
    refine (Try.slices_Reverse_string_cells g 0 n c (fun i => l.getD i ⟨#[]⟩) w (by omega) hc (fun j _ => own_free h _)).mono ?_
    rintro e w' ⟨rfl, q, rfl⟩
    have hs : Lib.strsOf (fun i => l.getD i ⟨#[]⟩) n = l.map fun x => x.data.toList := by
      unfold Lib.strsOf
      apply List.ext_getElem?
      intro i
      rw [List.getElem?_map, List.getElem?_map]
      by_cases hi : i < n
      · rw [List.getElem?_range hi, List.getElem?_eq_getElem (by omega)]
        simp only [Option.map_some, List.getD_eq_getElem?_getD, List.getElem?_eq_getElem (show i < l.length by omega), Option.getD_some]
      · rw [List.getElem?_eq_none (by simp; omega), List.getElem?_eq_none (by omega)]
        rfl
    have hr : (Lib.strsOf (fun i => l.getD i ⟨#[]⟩) n).reverse.map encStr = l.reverse.map Value.string := by
      rw [hs, ← List.map_reverse, List.map_map]
      rfl
    rw [hr]
    have hb : Below base w ((w.drewN q).setCells g 0 (l.reverse.map Value.string)) := below_setCellsR g hbg _ 0 (below_drewN' (Below.refl _ _) q)
    refine ⟨rfl, ⟨by simp; omega, .inr ⟨g, 0, rfl, ?_, fun j u hu => ?_⟩⟩, hb⟩
    · have : ∀ (vs : List Value) (o : Nat) (w : World), (w.setCells g o vs).heap.size = w.heap.size := by
        intro vs
        induction vs with
        | nil => intro o w; rfl
        | cons v r ih => intro o w; rw [World.setCells, ih]; simp
      rw [this]
      exact hgl
    · have hj : j < (l.reverse.map Value.string).length := (List.getElem?_eq_some_iff.1 hu).1
      rw [World.cell?_setCells_in g (l.reverse.map Value.string) 0 (w.drewN q) (fun i hi => ?_) j hj]
      · rw [← hu, List.getElem?_eq_getElem hj]
      · have : (w.drewN q).cell? ⟨g, 0 + i, none⟩ = w.cell? ⟨g, 0 + i, none⟩ := rfl
        rw [this, hc i (by simp at hi; omega)]
        rfl
theorem join_any' (A : Option Addr) (n c : Nat) (l : List ByteArray) (sep : ByteArray) (w : World) (h : Rd w w.heap.size 1 A n (l.map Value.string)) (hc : n ≤ c) (hn : n ≤ 4294967296) (hlen : (Lib.join (l.map (·.data.toList)) sep.data.toList).length ≤ 140737488355328) :
    Calls Try.prog 35 #[.slice A n c, .string sep] w fun e w' => e = .returned (.string ⟨(Lib.join (l.map (·.data.toList)) sep.data.toList).toArray⟩) ∧ Below w.heap.size w w' := by
  have hl : l.length = n := by simpa using h.1
  rcases h.2 with h0 | ⟨b, off, rfl, hb, hcl⟩
  · have h1 : l = [] := by simpa using h0
    subst h1
    simp only [List.length_nil] at hl
    subst hl
    refine (Try.strings_Join_none A c sep w).mono ?_
    rintro e w' ⟨rfl, rfl⟩
    exact ⟨rfl, Below.refl _ _⟩
  · subst hl
    exact Try.strings_Join b off c l sep w (fun j x hx => hcl j _ (by rw [List.getElem?_map, hx]; rfl)) hb (by omega) hc hlen
end Go.Proofs.Yteiciabhfjakgaa
namespace Go.Proofs.Yteiciabhfjakgaa
set_option linter.unusedVariables false
set_option linter.unusedSimpArgs false
open Go.RowKit Go.Lib Go.Sort

theorem meth_dir (w : World) (q : Nat) : (binOp .eql 68 (.iface 70 (.pointer (some ⟨q, 0, none⟩))) .nilIface).run Try.prog w = .ok (.bool false) w := by kernel_rfl
/-- Where the walk upwards stands: at node i, with the names below it. -/
def PaS (w : World) (F : List Vf.Nd) (L : List Pl) (i0 : Nat) (i : Nat) (lv bv : Value) (W : World) : Prop :=
  ∃ (p : Pl) (acc : List ByteArray) (A : Option Addr) (c : Nat), L[i]? = some p ∧ i < F.length ∧ bv = .pointer (some ⟨p.q, 0, none⟩) ∧ lv = .slice A acc.length c ∧ W.ownsRow w.heap.size 9 1 (.slice A acc.length c) acc.length (acc.map Value.string) ∧ Vf.nmsP F i0 = Vf.nmsP F i ++ acc.reverse ∧ acc.length + i ≤ i0 ∧ Below w.heap.size w W

set_option maxRecDepth 100000 in
set_option maxHeartbeats 4000000 in
theorem path_any (F : List Vf.Nd) (L : List Pl) (lo f c : Nat) (A : Option Addr) (ino : Int) (w : World) (hF : Vf.Good F) (h : FsM w lo f A c F L) (hn : F.length ≤ 65) :
    Calls Try.prog 18 #[ptrV f, .int .i64 ino] w fun e w' => e = .returned (.string (Vf.pathOf F ino)) ∧ Below w.heap.size w w' := by
  have KN := node_any F L f c _ A ino w h.toR hn
  have qn : ∀ w', (binOp .eql 68 .nilIface .nilIface).run Try.prog w' = .ok (.bool true) w' := fun w' => by kernel_rfl
  have qi : ∀ w' t v, (binOp .eql 68 (.iface t v) .nilIface).run Try.prog w' = .ok (.bool false) w' := fun w' t v => by kernel_rfl
  unfold ptrV at KN
  have HKN := hide KN
  have HF := hide hF
  have H := hide h
  obtain ⟨r, hr⟩ : ∃ r, Vf.pathOf F ino = r := ⟨_, rfl⟩
  rw [hr]
  have Hr := hide hr
  unfold ptrV
  clear KN hF h hr
  by_cases ho : ino < 0 ∨ F.length ≤ ino.toNat
  · have e1 := nodeV_out (L := L) ho
    rw [e1] at HKN
    have e2 := Vf.pathOf_out ho
    rw [unhide Hr] at e2
    clear e1 ho
    go_enter Try.func18, Try.ntmps18
    go_wp2_with fail
    refine (unhide HKN).mono ?_
    rintro e w1 ⟨rfl, rfl⟩
    go_wp2_with fail
    go_ret
    subst e2
    exact ⟨rfl, Below.refl _ _⟩
  · obtain ⟨i0, rfl⟩ := Int.eq_ofNat_of_zero_le (show 0 ≤ ino by omega)
    have hi : i0 < F.length := by simp at ho; omega
    obtain ⟨x0, hx0⟩ : ∃ x, F[i0]? = some x := ⟨_, List.getElem?_eq_getElem hi⟩
    obtain ⟨p0, hp0, _, _⟩ := (unhide H).at_ hx0
    have e1 := nodeV_in (unhide H) hx0 hp0
    rw [e1] at HKN
    have e2 := Vf.pathOf_in (unhide HF) hi
    rw [unhide Hr] at e2
    have He2 := hide e2
    have hms : ∃ t, kindT x0.m.kind = t ∧ ∀ w', (method 258 t (.pointer (some ⟨p0.q, 0, none⟩)) "hostel/vfs.about").run Try.prog w' = .ok (33, .pointer (some ⟨p0.q, 0, none⟩)) w' := by
      rcases kind3 (unhide HF) hx0 with h1 | h1 | h1
      · exact ⟨_, by rw [h1]; rfl, fun w' => about_file w' p0.q⟩
      · exact ⟨_, by rw [h1]; rfl, fun w' => about_dir w' p0.q⟩
      · exact ⟨_, by rw [h1]; rfl, fun w' => about_link w' p0.q⟩
    obtain ⟨t0, ht0, hm0⟩ := hms
    rw [ht0] at HKN
    have Hp0 := hide hp0
    have Hi0 := hide hi
    have HS0 : Hid (PaS w F L i0 i0 (.slice none 0 0) (.pointer (some ⟨p0.q, 0, none⟩)) w) := hide ⟨p0, [], none, 0, hp0, hi, rfl, rfl, World.ownsRow_nil _ _ _ _, by simp, by simp, Below.refl _ _⟩
    clear e1 e2 ho hx0 hp0 ht0 hi
    go_enter Try.func18, Try.ntmps18
    go_wp2_with fail
    refine (unhide HKN).mono ?_
    rintro e w1 ⟨rfl, rfl⟩
    go_wp2_with fail
    refine (unhide HKN).mono ?_
    rintro e w1 ⟨rfl, rfl⟩
    go_wp2_with fail
    refine (about_any _ _).mono ?_
    rintro e w1 ⟨rfl, rfl⟩
    go_wp2_with fail
    go_loopg [5, 6] i0 (fun gk lv bv wr => PaS w F L i0 gk lv bv wr)
    case atStart => exact unhide HS0
    case round =>
    obtain ⟨p, acc, A1, c1, hp, hi, rfl, rfl, ho1, hnm, hal, hb1⟩ := hrel
    have hi1 := unhide (hide hi)
    obtain ⟨x, hx⟩ : ∃ x, F[gk]? = some x := ⟨_, List.getElem?_eq_getElem hi⟩
    have HW := hide ((unhide H).belowSz hb1)
    obtain ⟨_, u, hu, hbk⟩ := (unhide HW).nd gk x p hx hp
    have c5 : wr.cell? ⟨p.q, 5, none⟩ = some (.int .i64 (gk : Nat)) := hbk.cell rfl
    have c6 : wr.cell? ⟨p.q, 6, none⟩ = some (.pointer (some ⟨u.q, 0, none⟩)) := hbk.cell rfl
    have c7 : wr.cell? ⟨p.q, 7, none⟩ = some (.string x.name) := hbk.cell rfl
    have Ho1 := hide ho1
    have Hnm := hide hnm
    have Hb1 := hide hb1
    have Hbk := hide hbk
    have Hu := hide hu
    have Hi := hide hi
    have Hx := hide hx
    have hsz := hb1.size
    have hal2 : acc.length ≤ 65 := by have := unhide Hi0; omega
    have Hal := hide hal
    by_cases h0 : gk = 0
    · subst h0
      have q0 : (((0 : Nat) : Int) != 0) = false := rfl
      clear hi hi1 hx hu hbk ho1 hnm hb1 hal hp
      have hnm0 := unhide Hnm
      rw [Vf.nmsP_zero, List.nil_append] at hnm0
      obtain ⟨al, hall⟩ : ∃ n, acc.length = n := ⟨_, rfl⟩
      have KRv := rev_any A1 al c1 w.heap.size acc wr (by rw [← hall]; exact unhide Ho1) (by omega)
      rw [hall] at Ho1 hal2 ⊢
      have hcap := own_cap (unhide Ho1)
      have HKRv := hide KRv
      have Hnm0 := hide hnm0
      have Hcap := hide hcap
      have Hall := hide hall
      clear KRv hnm0 hcap hall
      go_wp2_with fail
      refine (unhide HKRv).mono ?_
      rintro e w5 ⟨rfl, hr5, hb5⟩
      have hszs := Vf.nmsP_sz (unhide HF) i0 (unhide Hi0)
      rw [unhide Hnm0] at hszs
      have hjl := Vf.join_len acc.reverse 32 hszs.1
      rw [List.length_reverse, unhide Hall] at hjl
      have KJ := join_any' A1 al c1 acc.reverse ⟨#[47]⟩ w5 hr5 (unhide Hcap) (by omega) (by
        have : (⟨#[47]⟩ : ByteArray).data.toList = [47] := rfl
        rw [this]
        omega)
      obtain ⟨js, hjs⟩ : ∃ js : ByteArray, (⟨(Lib.join (acc.reverse.map (·.data.toList)) (⟨#[47]⟩ : ByteArray).data.toList).toArray⟩ : ByteArray) = js := ⟨_, rfl⟩
      have hjsz : js.size ≤ 4294967296 := by
        rw [← hjs]
        show (Lib.join (acc.reverse.map (·.data.toList)) [47]).toArray.size ≤ _
        rw [List.size_toArray]
        omega
      rw [hjs] at KJ
      have Hjs := hide hjs
      have HKJ := hide KJ
      have Hb5 := hide ((unhide Hb1).trans hb5)
      clear hr5 hb5 hszs hjl KJ hjs
      go_wp2_with fail
      refine (unhide HKJ).mono ?_
      rintro e w6 ⟨rfl, hb6⟩
      have Hb6 := hide ((unhide Hb5).trans (hb6.mono (unhide Hb5).size))
      clear hb6
      have hfin : (⟨#[47]⟩ : ByteArray) ++ js = r := by
        rw [unhide He2, ← unhide Hjs]
        by_cases h0 : i0 = 0
        · rw [if_pos h0]
          have : acc.reverse = [] := by rw [← unhide Hnm0, h0]; rfl
          rw [this]
          rfl
        · rw [if_neg h0, ← unhide Hnm0]
          exact Vf.join_slashed (Vf.nmsP_ne (unhide HF) (unhide Hi0) (by omega))
      have Hfin := hide hfin
      clear hfin
      go_wp2_with fail
      go_ret
      exact ⟨congrArg (fun x => Ending.returned (Value.string x)) (unhide Hfin), unhide Hb6⟩
    · have q0 : (((gk : Nat) : Int) != 0) = true := by simp; omega
      have hnx := Vf.nmsP_succ (unhide HF) hx (by omega)
      have hup := Vf.up_lt (unhide HF) hx
      have hupl := ((unhide HF).up gk x hx (by omega)).1
      obtain ⟨al, hall⟩ : ∃ n, acc.length = n := ⟨_, rfl⟩
      rw [hall] at Ho1 hal2
      rw [hall]
      have Hall := hide hall
      have Hnx := hide hnx
      have Hup := hide hup
      have Hupl := hide hupl
      have hqlt : p.q < w.heap.size := ((unhide H).nd gk x p hx hp).2.choose_spec.2.lt
      have c6w : w.cell? ⟨p.q, 6, none⟩ = some (.pointer (some ⟨u.q, 0, none⟩)) := (hb1.cell (p := ⟨p.q, 6, none⟩) hqlt).symm.trans c6
      clear hi hi1 hx hu hbk ho1 hnm hb1 hal hp h0 hnx hup hupl hall
      go_wp2_with (at_builtin; refine wpList_app1 strTy rfl _ _ rfl w.heap.size (.slice A1 al c1) al _ rfl (unhide Ho1) #[.string x.name] rfl rfl (by simp [Value.oneCell']) (by omega) hsz ?_; intro A4 c4 w4 ho4 hg4 hat4; have hb4 := (unhide Hb1).grown hg4 hsz (fun k hk => ((unhide Ho1).lt k hk).1); have c6b := (hb4.cell (p := ⟨p.q, 6, none⟩) hqlt).trans c6w; have Ho4 := hide ho4; have Hb4 := hide hb4; clear ho4 hg4 hat4 hb4)
      refine (about_any _ _).mono ?_
      rintro e w5 ⟨rfl, rfl⟩
      go_wp2_with fail
      go_roundg x.up
      case rel =>
        refine ⟨u, acc ++ [x.name], A4, c4, unhide Hu, (unhide Hup).1, rfl, by rw [List.length_append, unhide Hall]; rfl, ?_, ?_, ?_, unhide Hb4⟩
        · rw [List.length_append, unhide Hall, List.map_append]
          exact unhide Ho4
        · rw [unhide Hnm, unhide Hnx, List.reverse_append, List.append_assoc]
          rfl
        · rw [List.length_append, List.length_singleton]
          have := unhide Hal
          have := unhide Hupl
          omega
      case measure => exact unhide Hupl
end Go.Proofs.Yteiciabhfjakgaa
namespace Go.Proofs.Yteiciabhfjakgaa
set_option linter.unusedVariables false
set_option linter.unusedSimpArgs false
open Go.RowKit

theorem small_any (c : Vf.Cred) (A : Option Addr) (n k : Nat) (path : ByteArray) (w : World) : Calls Try.prog 20 #[credV c A n k, .string path] w fun e w' => e = .returned (.bool (decide (n ≤ 1024) && decide (path.size ≤ 4096))) ∧ Below w.heap.size w w' := by
  unfold credV
  have Hb := hide ((Below.refl w.heap.size w).alloc (Nat.le_refl _) (.cells #[.int .u32 (c.uid : Nat), .int .u32 (c.euid : Nat), .int .u32 (c.suid : Nat), .int .u32 (c.gid : Nat), .slice A n k] 44))
  by_cases h1 : n ≤ 1024
  · have i1 : (n : Int) ≤ 1024 := by omega
    by_cases h2 : path.size ≤ 4096
    · have i2 : (path.size : Int) ≤ 4096 := by omega
      rw [decide_eq_true h1, decide_eq_true h2]
      clear h1 h2
      go_enter Try.func20, Try.ntmps20
      go_wp2_with fail
      go_ret
      exact ⟨rfl, unhide Hb⟩
    · have i2 : ¬ (path.size : Int) ≤ 4096 := by omega
      rw [decide_eq_true h1, decide_eq_false h2]
      clear h1 h2
      go_enter Try.func20, Try.ntmps20
      go_wp2_with fail
      go_ret
      exact ⟨rfl, unhide Hb⟩
  · have i1 : ¬ (n : Int) ≤ 1024 := by omega
    rw [decide_eq_false h1]
    clear h1
    go_enter Try.func20, Try.ntmps20
    go_wp2_with fail
    go_ret
    exact ⟨rfl, unhide Hb⟩
end Go.Proofs.Yteiciabhfjakgaa
namespace Go.Proofs.Yteiciabhfjakgaa
set_option linter.unusedVariables false
set_option linter.unusedSimpArgs false
open Go.RowKit

theorem Rd.sub {w : World} {B n : Nat} {b1 o1 : Nat} {xs : List Value} (h : Rd w B 1 (some ⟨b1, o1, none⟩) n xs) {off k : Nat} (hk : off + k ≤ n) : Rd w B 1 (some ⟨b1, o1 + off, none⟩) k ((xs.drop off).take k) := by
  have hl := h.len1
  refine ⟨by simp; omega, ?_⟩
  rcases h.2 with h0 | ⟨b, o, e, hb, hc⟩
  · exact .inl (by simp [h0])
  · obtain ⟨rfl, rfl⟩ : b1 = b ∧ o1 = o := by injection e with e; injection e with h1 h2 h3; exact ⟨h1, h2⟩
    refine .inr ⟨b1, o1 + off, rfl, hb, fun j u hu => ?_⟩
    by_cases hj : j < k
    · rw [List.getElem?_take_of_lt hj, List.getElem?_drop] at hu
      rw [Nat.add_assoc]
      exact hc _ _ hu
    · rw [List.getElem?_take_eq_none (by omega)] at hu
      cases hu

theorem conv_any {P : Program} {w : World} {B n c : Nat} {A : Option Addr} {l : List UInt8} {src dst e : TypeId} (h : Rd w B 1 A n (bys l)) (hs : P.underlying src = some (.slice e)) (he : P.underlying e = some (.int .u8)) (hd : P.underlying dst = some .string) :
    (convert src dst (.slice A n c)).run P w = .ok (.string ⟨l.toArray⟩) w := by
  have hl : l.length = n := by simpa [bys] using h.len1
  subst hl
  cases A with
  | none =>
    have h0 : l = [] := by
      rcases h.2 with h0 | ⟨b, o, e1, _⟩
      · simpa [bys] using h0
      · cases e1
    subst h0
    exact run_convert_bytes_nil w src e hs he _ c dst hd
  | some ad =>
    refine run_convert_bytes_back w src dst e ad c l hs he hd fun j hj => ?_
    obtain ⟨b, o, e1, _, hc⟩ := h.at_ (k := j) (u := .int .u8 (l[j].toNat : Nat)) (bys_at (List.getElem?_eq_getElem hj))
    injection e1 with e1
    subst e1
    rw [Addr.add_lit]
    exact hc
theorem Rd.from {w : World} {B n : Nat} {b1 o1 k : Nat} {l : List UInt8} (h : Rd w B 1 (some ⟨b1, o1, none⟩) n (bys l)) (hk : k ≤ n) : Rd w B 1 (some ⟨b1, o1 + k, none⟩) (n - k) (bys (l.drop k)) := by
  have hl : l.length = n := by simpa [bys] using h.len1
  have h1 := h.sub (off := k) (k := n - k) (by omega)
  have e : ((bys l).drop k).take (n - k) = bys (l.drop k) := by
    unfold bys
    rw [← List.map_drop, ← List.map_take, List.take_of_length_le (by simp; omega)]
  rwa [e] at h1
end Go.Proofs.Yteiciabhfjakgaa
namespace Go.Proofs.Yteiciabhfjakgaa
set_option linter.unusedVariables false
set_option linter.unusedSimpArgs false
open Go.RowKit

def aE1 : Vf.Ent := ⟨⟨#[47, 97]⟩, 2, 448, 7, 0, [], ⟨#[]⟩⟩
def aE2 : Vf.Ent := ⟨⟨#[47, 97, 47, 102]⟩, 1, 420, 0, 0, [1, 2, 3], ⟨#[]⟩⟩
def aE3 : Vf.Ent := ⟨⟨#[47, 108]⟩, 3, 0, 0, 0, [], ⟨#[97, 47, 102]⟩⟩
theorem anchor_new : (Vf.new [aE1, aE2, aE3]).1 = 0 := by kernel_rfl
theorem anchor_walk1 : Vf.walk (Vf.new [aE1, aE2, aE3]).2.2 ⟨0, 7, 0, 0, []⟩ 0 ⟨#[108]⟩ true = (2, 0) := by kernel_rfl
theorem anchor_walk2 : (Vf.walk (Vf.new [aE1, aE2, aE3]).2.2 ⟨0, 8, 0, 0, []⟩ 0 ⟨#[108]⟩ true).2 = 5 := by kernel_rfl
theorem anchor_read : Vf.readOf (Vf.new [aE1, aE2, aE3]).2.2 2 1 9 = ([2, 3], 0) := by kernel_rfl
theorem anchor_path : Vf.pathOf (Vf.new [aE1, aE2, aE3]).2.2 2 = ⟨#[47, 97, 47, 102]⟩ := by kernel_rfl
def aL (g : Nat) : List EntA := [⟨aE1, none, 0, 0⟩, ⟨aE2, some ⟨g, 0, none⟩, 3, 3⟩, ⟨aE3, none, 0, 0⟩]
set_option maxRecDepth 100000 in
set_option maxHeartbeats 4000000 in
theorem works_any (w : World) : Calls Try.prog 11 #[] w fun e w' => e = .returned (.bool true) ∧ Below w.heap.size w w' := by
  have hr0 := Rd.rowF (w := w) (cs := #[.int .u8 1, .int .u8 2, .int .u8 3]) (e := 5) (size := 1) (n := 3) (fz := (0, 0)) rfl
  have hr1 := Rd.rowF (w := w.alloc (.cells #[.int .u8 1, .int .u8 2, .int .u8 3] 5)) (cs := (rowCs entVals (aL w.heap.size)).toArray) (e := 60) (size := 7) (n := 3) (fz := (0, 0)) rfl
  have hB0 : Below w.heap.size w ((w.alloc (.cells #[.int .u8 1, .int .u8 2, .int .u8 3] 5)).alloc (.cells (rowCs entVals (aL w.heap.size)).toArray 60)) := ((Below.refl _ _).alloc (Nat.le_refl _) _).alloc (by simp) _
  have KN := new_any (aL w.heap.size) (some ⟨w.heap.size + 1, 0, none⟩) 3 3 ((w.alloc (.cells #[.int .u8 1, .int .u8 2, .int .u8 3] 5)).alloc (.cells (rowCs entVals (aL w.heap.size)).toArray 60)) (by simpa using hr1) rfl (by
    intro s hs
    simp only [aL, List.mem_cons, List.not_mem_nil, or_false] at hs
    rcases hs with rfl | rfl | rfl
    · exact ⟨⟨rfl, .inl rfl⟩, by decide, by decide, by decide, by decide⟩
    · refine ⟨?_, by show 3 ≤ 4294967296; omega, by show aE2.path.size ≤ _; decide, by show aE2.to.size ≤ _; decide, by show aE2.mode < _; decide⟩
      have := (hr0.alloc (by simp) (.cells (rowCs entVals (aL w.heap.size)).toArray 60)).more (B' := w.heap.size + 1 + 1) (by omega)
      simp only [World.size_alloc]
      exact this
    · exact ⟨⟨rfl, .inl rfl⟩, by decide, by decide, by decide, by decide⟩) (by omega)
  have e0 : (aL w.heap.size).map (·.e) = [aE1, aE2, aE3] := rfl
  rw [e0] at KN
  unfold NewE at KN
  have HKN := hide KN
  have HB0 := hide hB0
  clear KN hr0 hr1 hB0 e0
  go_enter Try.func11, Try.ntmps11
  go_wp2_with fail
  refine (unhide HKN).mono ?_
  rintro e w1 ⟨hb1, ⟨h0, _⟩ | ⟨_, f, A, c, L, rfl, hFS, hF, hFl, h01, _⟩⟩
  · exact absurd anchor_new h0
  have a1 := anchor_walk1
  have a2 := anchor_walk2
  have a3 := anchor_read
  have a4 := anchor_path
  obtain ⟨F, hFe⟩ : ∃ F, (Vf.new [aE1, aE2, aE3]).2.2 = F := ⟨_, rfl⟩
  rw [hFe] at hFS hF hFl a1 a2 a3 a4
  have hn : F.length ≤ 65 := by rw [hFl]; decide
  have Hb1 := hide ((unhide HB0).trans (hb1.mono (by simp; omega)))
  have hlo1 : w.heap.size ≤ w1.heap.size := (unhide Hb1).size
  have hFS1 : FsM w1 w.heap.size f A c F L := hFS.base (by simp; omega)
  have K1 := walk_any F L w.heap.size f c A none 0 0 ⟨0, 7, 0, 0, []⟩ 0 ⟨#[108]⟩ true w1 hF hFS1 hn ⟨rfl, .inl rfl⟩ (by unfold maxLen; omega) (by decide)
  rw [a1] at K1
  have K2 : ∀ w2, Below w1.heap.size w1 w2 → _ := fun w2 hb => walk_any F L w.heap.size f c A none 0 0 ⟨0, 8, 0, 0, []⟩ 0 ⟨#[108]⟩ true w2 hF (hFS1.belowSz hb) hn ⟨rfl, .inl rfl⟩ (by unfold maxLen; omega) (by decide)
  obtain ⟨n2, hn2⟩ : ∃ n2, (Vf.walk F ⟨0, 8, 0, 0, []⟩ 0 ⟨#[108]⟩ true).1 = n2 := ⟨_, rfl⟩
  rw [a2, hn2] at K2
  have K3 : ∀ w2, Below w1.heap.size w1 w2 → _ := fun w2 hb => read_any F L w.heap.size f c A 2 1 9 w2 hF (hFS1.belowSz hb) hn
  unfold ReadVE at K3
  rw [a3] at K3
  have K4 : ∀ w2, Below w1.heap.size w1 w2 → _ := fun w2 hb => path_any F L w.heap.size f c A 2 w2 hF (hFS1.belowSz hb) hn
  rw [a4] at K4
  unfold credV ptrV at K1 K2
  unfold ptrV at K3 K4
  unfold ptrV
  have HK1 := hide K1
  have HK2 := hide K2
  have HK3 := hide K3
  have HK4 := hide K4
  clear K1 K2 K3 K4 a1 a2 a3 a4 hFe hFS hF hFl hFS1 hb1 h01
  go_wp2_with fail
  refine (unhide HK1).mono ?_
  rintro e w2 ⟨rfl, hb2⟩
  have Hb2 := hide hb2
  clear hb2
  go_wp2_with fail
  refine ((unhide HK2) _ (unhide Hb2)).mono ?_
  rintro e w3 ⟨rfl, hb3⟩
  have Hb3 := hide ((unhide Hb2).trans (hb3.mono (unhide Hb2).size))
  clear hb3
  go_wp2_with fail
  refine ((unhide HK3) _ (unhide Hb3)).mono ?_
  rintro e w4 ⟨A4, c4, rfl, ho4, hb4⟩
  have Hb4 := hide ((unhide Hb3).trans (hb4.mono (unhide Hb3).size))
  have hr4 := Rd.of_own ho4
  have hcv : (convert 36 9 (.slice A4 2 c4)).run Try.prog w4 = .ok (.string ⟨#[2, 3]⟩) w4 := conv_any hr4 Try.underlying36 Try.underlying5 Try.underlying9
  clear hb4 ho4 hr4
  go_wp2_with fail
  refine ((unhide HK4) _ (unhide Hb4)).mono ?_
  rintro e w5 ⟨rfl, hb5⟩
  have Hb5 := hide ((unhide Hb1).trans (((unhide Hb4).trans (hb5.mono (unhide Hb4).size)).mono hlo1))
  clear hb5
  go_wp2_with fail
  go_ret
  exact ⟨rfl, unhide Hb5⟩
end Go.Proofs.Yteiciabhfjakgaa
namespace Go.Proofs.Yteiciabhfjakgaa.Vf
set_option linter.unusedVariables false
set_option linter.unusedSimpArgs false

def zc : Cred := ⟨0, 0, 0, 0, []⟩
theorem mayX_zero {F : List Nd} {i : Nat} (h : kindAt F i = 2) : mayX zc (nd F i).m = true := by
  obtain ⟨x, hx, hk⟩ := kindAt_lt h
  rw [nd_eq hx]
  simp [mayX, zc, hk]
theorem hop_zero (F : List Nd) (c : Cred) (last : Bool) (s : St) : (∀ x, hop F zc last s = .inl x → x.1 ≠ 5) ∧ (hop F c last s = .inl (5, 0) ∨ hop F c last s = hop F zc last s) := by
  cases hl : s.left with
  | nil =>
    rw [hop_nil hl, hop_nil hl]
    exact ⟨fun x hx => by injection hx with hx; rw [← hx]; show (0 : Int) ≠ 5; decide, .inr rfl⟩
  | cons p r =>
    by_cases hk : kindAt F s.at_ = 2
    · have hz := mayX_zero hk
      constructor
      · intro x hx h5
        unfold hop at hx
        rw [hl] at hx
        simp only at hx
        rw [if_neg (by simp [hk]), if_neg (by simp [hz])] at hx
        split at hx
        · cases hx
        · split at hx
          · injection hx with hx; rw [← hx] at h5; cases h5
          · split at hx
            · cases hx
            · split at hx
              · injection hx with hx; rw [← hx] at h5; cases h5
              · cases hx
      · by_cases hm : mayX c (nd F s.at_).m = false
        · exact .inl (hop_shut hl hk hm)
        · right
          have hm' : mayX c (nd F s.at_).m = true := by simpa using hm
          unfold hop
          rw [hl]
          simp only [hk, hm', hz]
    · rw [hop_no hl hk, hop_no hl hk]
      exact ⟨fun x hx => by injection hx with hx; rw [← hx]; decide, .inr rfl⟩
theorem ends_zero (F : List Nd) (c : Cred) (last : Bool) : ∀ (k : Nat) (s : St), mu s ≤ k → (ends F zc last s).1 ≠ 5 ∧ (ends F c last s = (5, 0) ∨ ends F c last s = ends F zc last s) := by
  intro k
  induction k using Nat.strongRecOn with
  | ind k ih =>
    intro s hk
    obtain ⟨h1, h2⟩ := hop_zero F c last s
    rw [ends_eq F zc last s, ends_eq F c last s]
    cases hz : hop F zc last s with
    | inl x =>
      refine ⟨h1 x hz, ?_⟩
      rcases h2 with h2 | h2
      · rw [h2]; exact .inl rfl
      · rw [h2, hz]; exact .inr rfl
    | inr s' =>
      have hm := hop_mu hz
      obtain ⟨a, b⟩ := ih (mu s') (by omega) s' (Nat.le_refl _)
      refine ⟨a, ?_⟩
      rcases h2 with h2 | h2
      · rw [h2]; exact .inl rfl
      · rw [h2, hz]; exact b
theorem chk_vals (p : ByteArray) : Pth.chk p ≠ 5 := by
  unfold Pth.chk
  repeat' split
  all_goals decide
theorem walk_zero (F : List Nd) (c : Cred) (src : Int) (path : ByteArray) (last : Bool) : (walk F zc src path last).2 ≠ 5 ∧ (walk F c src path last = (0, 5) ∨ walk F c src path last = walk F zc src path last) := by
  unfold walk
  by_cases h1 : src < 0 ∨ kindAt F src.toNat ≠ 2
  · rw [if_pos h1, if_pos h1]
    exact ⟨by decide, .inr rfl⟩
  · rw [if_neg h1, if_neg h1]
    by_cases h2 : Pth.chk path ≠ 0
    · rw [if_pos h2, if_pos h2]
      exact ⟨chk_vals path, .inr rfl⟩
    · rw [if_neg h2, if_neg h2]
      obtain ⟨a, b⟩ := ends_zero F c (last || Pth.tailB path) _ ⟨if Pth.rootB path then 0 else src.toNat, 0, Pth.partsL path⟩ (Nat.le_refl _)
      simp only
      generalize ends F zc (last || Pth.tailB path) ⟨if Pth.rootB path then 0 else src.toNat, 0, Pth.partsL path⟩ = z at *
      generalize ends F c (last || Pth.tailB path) ⟨if Pth.rootB path then 0 else src.toNat, 0, Pth.partsL path⟩ = y at *
      constructor
      · split
        · exact a
        · split
          · show (8 : Int) ≠ 5; decide
          · show (0 : Int) ≠ 5; decide
      · rcases b with b | b
        · rw [b]
          exact .inl rfl
        · rw [b]
          exact .inr rfl
end Go.Proofs.Yteiciabhfjakgaa.Vf
namespace Go.Proofs.Yteiciabhfjakgaa
set_option linter.unusedVariables false
set_option linter.unusedSimpArgs false
open Go.RowKit

/-- Entries that are not too great. -/
def EsFit (es : List Vf.Ent) : Prop := ∀ e ∈ es, e.path.size ≤ 262144 ∧ e.data.length ≤ 262144 ∧ e.to.size ≤ 262144 ∧ e.mode < 65536
theorem CpS.newArgs {w W : World} {es : List Vf.Ent} {A : Option Addr} {c : Nat} {l' : List EntA} (h : CpS w es A c l' W) (hs : EsFit es) : Rd W W.heap.size 7 A l'.length (rowCs entVals l') ∧ ∀ s ∈ l', EntOk W s := by
  refine ⟨Rd.of_own h.row, fun s hm => ?_⟩
  have hd := h.dat s hm
  have he : s.e ∈ es := by rw [← h.map]; exact List.mem_map.2 ⟨s, hm, rfl⟩
  obtain ⟨a, b, d, e⟩ := hs s.e he
  have hlen : s.e.data.length = s.n := by have := hd.1; simpa [bys] using this
  exact ⟨Rd.of_own hd, by omega, by omega, by omega, e⟩
theorem esFit_of {l : List EntA} {w : World} (hin : ∀ s ∈ l, EntIn w s) (h : ∀ s ∈ l, s.e.path.size ≤ 262144 ∧ s.n ≤ 262144 ∧ s.e.to.size ≤ 262144) : EsFit (l.map (·.e)) := by
  intro e he
  obtain ⟨s, hs, rfl⟩ := List.mem_map.1 he
  obtain ⟨a, b, d⟩ := h s hs
  have hlen : s.e.data.length = s.n := by have := (hin s hs).d.len1; simpa [bys] using this
  exact ⟨a, by omega, d, (hin s hs).m⟩

/-- The law's own copies of credentials and way, in the world W. -/
structure WyS (w : World) (c : Vf.Cred) (A : Option Addr) (n k : Nat) (src : Int) (path : ByteArray) (last : Bool) (W : World) : Prop where
  bel : Below w.heap.size w W
  c : Blk W w.heap.size 44 [.int .u32 (c.uid : Nat), .int .u32 (c.euid : Nat), .int .u32 (c.suid : Nat), .int .u32 (c.gid : Nat), .slice A n k]
  y : Blk W (w.heap.size + 1) 46 [.int .i64 src, .string path, .bool last]
section
variable {w W W' : World} {c : Vf.Cred} {A : Option Addr} {n k : Nat} {src : Int} {path : ByteArray} {last : Bool}
theorem WyS.below (h : WyS w c A n k src path last W) (hb : Below W.heap.size W W') : WyS w c A n k src path last W' := ⟨h.bel.trans (hb.mono h.bel.size), h.c.belowSz hb, h.y.belowSz hb⟩
theorem WyS.drewN (h : WyS w c A n k src path last W) (q : Nat) : WyS w c A n k src path last (W.drewN q) := ⟨below_drewN' h.bel q, h.c, h.y⟩
theorem WyS.cells (h : WyS w c A n k src path last W) : (W.cell? ⟨w.heap.size, 0, none⟩ = some (.int .u32 (c.uid : Nat)) ∧ W.cell? ⟨w.heap.size, 1, none⟩ = some (.int .u32 (c.euid : Nat)) ∧ W.cell? ⟨w.heap.size, 2, none⟩ = some (.int .u32 (c.suid : Nat)) ∧ W.cell? ⟨w.heap.size, 3, none⟩ = some (.int .u32 (c.gid : Nat)) ∧ W.cell? ⟨w.heap.size, 4, none⟩ = some (.slice A n k)) ∧ W.cell? ⟨w.heap.size + 1, 0, none⟩ = some (.int .i64 src) ∧ W.cell? ⟨w.heap.size + 1, 1, none⟩ = some (.string path) ∧ W.cell? ⟨w.heap.size + 1, 2, none⟩ = some (.bool last) :=
  ⟨⟨h.c.cell rfl, h.c.cell rfl, h.c.cell rfl, h.c.cell rfl, h.c.cell rfl⟩, h.y.cell rfl, h.y.cell rfl, h.y.cell rfl⟩
theorem WyS.start (w : World) (c : Vf.Cred) (A : Option Addr) (n k : Nat) (src : Int) (path : ByteArray) (last : Bool) :
    WyS w c A n k src path last ((w.alloc (.cells #[.int .u32 (c.uid : Nat), .int .u32 (c.euid : Nat), .int .u32 (c.suid : Nat), .int .u32 (c.gid : Nat), .slice A n k] 44)).alloc (.cells #[.int .i64 src, .string path, .bool last] 46)) := by
  refine ⟨((Below.refl _ _).alloc (Nat.le_refl _) _).alloc (by simp) _, ?_, ?_⟩
  · exact (Blk.new w 44 [.int .u32 (c.uid : Nat), .int .u32 (c.euid : Nat), .int .u32 (c.suid : Nat), .int .u32 (c.gid : Nat), .slice A n k]).alloc _
  · have := Blk.new (w.alloc (.cells #[.int .u32 (c.uid : Nat), .int .u32 (c.euid : Nat), .int .u32 (c.suid : Nat), .int .u32 (c.gid : Nat), .slice A n k] 44)) 46 [.int .i64 src, .string path, .bool last]
    rw [World.size_alloc] at this
    exact this
end

set_option maxRecDepth 100000 in
set_option maxHeartbeats 4000000 in
theorem vfsRights_walk (l : List EntA) (A : Option Addr) (n c : Nat) (cr : Vf.Cred) (Ag : Option Addr) (ng kg : Nat) (src : Int) (path : ByteArray) (last : Bool) (w : World) (h : Rd w w.heap.size 7 A n (rowCs entVals l)) (hl : l.length = n) (hnc : n ≤ c) (hcm : c ≤ maxLen) (hin : ∀ s ∈ l, EntIn w s)
    (hg : Rd w w.heap.size 1 Ag ng (cr.groups.map u32v)) (hgk : ng ≤ kg) (hgm : kg ≤ maxLen) (hp : path.size ≤ maxLen) :
    Calls Try.prog 7 #[.slice A n c, credV cr Ag ng kg, .agg #[.int .i64 src, .string path, .bool last]] w fun e w' => e = .returned (.bool true) ∧ Below w.heap.size w w' := by
  have S0 := hide (WyS.start w cr Ag ng kg src path last)
  have KL := hide (large_any l A n c w.heap.size _ (h.below (unhide S0).bel) hl (Nat.le_trans hnc hcm) (fun s hs => ⟨(hin s hs).p, Nat.le_trans (hin s hs).nc (hin s hs).c, (hin s hs).t⟩))
  have KS := hide (fun w' => small_any cr Ag ng kg path w')
  have KW := hide (fun w' => works_any w')
  obtain ⟨sb, hsb⟩ : ∃ b, (decide (ng ≤ 1024) && decide (path.size ≤ 4096)) = b := ⟨_, rfl⟩
  rw [hsb] at KS
  have Hsb := hide hsb
  have H := hide h
  have Hin := hide hin
  have Hg := hide hg
  have Hl := hide hl
  unfold credV at KS ⊢
  clear hsb h hin hg hl
  go_enter Try.func7, Try.ntmps7
  go_wp2_with fail
  refine (unhide KL).mono ?_
  rintro e w1 ⟨lb, q, rfl, hlb, rfl⟩
  have S1 := hide ((unhide S0).drewN q)
  have Hlb := hide hlb
  clear hlb S0 KL
  generalize ((w.alloc (.cells #[.int .u32 (cr.uid : Nat), .int .u32 (cr.euid : Nat), .int .u32 (cr.suid : Nat), .int .u32 (cr.gid : Nat), .slice Ag ng kg] 44)).alloc (.cells #[.int .i64 src, .string path, .bool last] 46)).drewN q = W1 at *
  obtain ⟨⟨v0, v1, v2, v3, v4⟩, y0, y1, y2⟩ := (unhide S1).cells
  cases lb with
  | true =>
    go_wp2_with fail
    refine ((unhide KW) _).mono ?_
    rintro e w2 ⟨rfl, hb2⟩
    have S2 := hide ((unhide S1).below hb2)
    clear hb2
    go_wp2_with fail
    go_ret
    exact ⟨rfl, (unhide S2).bel⟩
  | false =>
  go_wp2_with fail
  refine ((unhide KS) _).mono ?_
  rintro e w2 ⟨rfl, hb2⟩
  have S2 := hide ((unhide S1).below hb2)
  clear hb2 S1 v0 v1 v2 v3 v4 y0 y1 y2
  cases sb with
  | false =>
    go_wp2_with fail
    refine ((unhide KW) _).mono ?_
    rintro e w3 ⟨rfl, hb3⟩
    have S3 := hide ((unhide S2).below hb3)
    clear hb3
    go_wp2_with fail
    go_ret
    exact ⟨rfl, (unhide S3).bel⟩
  | true =>
  obtain ⟨hn26, hall⟩ := (unhide Hlb) (by first | rfl | trivial)
  have hfit := esFit_of (unhide Hin) hall
  have KC := copyEnts_any l A n c w.heap.size w2 ((unhide H).below (unhide S2).bel) (unhide S2).bel.size (unhide Hl) (by omega) (fun s hs => ⟨((unhide Hin) s hs).d.below (unhide S2).bel, by have := (hall s hs).2.1; omega⟩)
  have HKC := hide KC
  have Hfit := hide hfit
  clear KC hall hfit Hlb
  go_wp2_with fail
  refine (unhide HKC).mono ?_
  rintro e w3 ⟨A3, c3, l3, rfl, hcp⟩
  obtain ⟨hr3, hok3⟩ := hcp.newArgs (unhide Hfit)
  have hlen3 : l3.length = (l.map (·.e)).length := hcp.len
  have KN := new_any l3 A3 (l.map (·.e)).length c3 w3 (by rw [← hlen3]; exact hr3) hlen3 hok3 (by rw [List.length_map, unhide Hl]; omega)
  rw [hcp.map] at KN
  have hes64 : (l.map (·.e)).length = n := by rw [List.length_map, unhide Hl]
  rw [hes64] at KN
  unfold NewE at KN
  rw [hes64] at KN
  obtain ⟨⟨ne, ni, F⟩, hnew⟩ : ∃ r, Vf.new (l.map (·.e)) = r := ⟨_, rfl⟩
  rw [hnew] at KN
  dsimp only at KN
  have S3 := hide ((unhide S2).below hcp.bel)
  have HKN := hide KN
  rw [hes64]
  clear hr3 hok3 KN hlen3 S2 HKC hcp hes64 hnew
  go_wp2_with fail
  refine (unhide HKN).mono ?_
  rintro e w4 ⟨hb4, ⟨h0, rfl⟩ | ⟨h0, f, Af, cf, L, rfl, hFS, hF, hFl, h01, h64⟩⟩
  · have S4 := hide ((unhide S3).below hb4)
    clear hb4 HKN h0
    go_wp2_with fail
    refine ((unhide KW) _).mono ?_
    rintro e w5 ⟨rfl, hb5⟩
    have S5 := hide ((unhide S4).below hb5)
    clear hb5
    go_wp2_with fail
    go_ret
    exact ⟨rfl, (unhide S5).bel⟩
  · have S4 := hide ((unhide S3).below hb4)
    have hn65 : F.length ≤ 65 := by rw [hFl]; omega
    have hpath : path.size ≤ 4096 ∧ ng ≤ 1024 := by
      have := unhide Hsb
      simp only [Bool.and_eq_true, decide_eq_true_eq] at this
      exact ⟨this.2, this.1⟩
    have KCp : ∀ w', Below w4.heap.size w4 w' → Calls Try.prog 22 #[.agg #[.int .u32 (cr.uid : Nat), .int .u32 (cr.euid : Nat), .int .u32 (cr.suid : Nat), .int .u32 (cr.gid : Nat), .slice Ag ng kg]] w' fun e w5 => ∃ A' k', e = .returned (.agg #[.int .u32 (cr.uid : Nat), .int .u32 (cr.euid : Nat), .int .u32 (cr.suid : Nat), .int .u32 (cr.gid : Nat), .slice A' ng k']) ∧ Rd w5 w5.heap.size 1 A' ng (cr.groups.map u32v) ∧ Below w'.heap.size w' w5 :=
      fun w' hb => copyCred_any cr Ag ng kg w.heap.size w' ((unhide Hg).below ((unhide S4).bel.trans (hb.mono (unhide S4).bel.size))) (Nat.le_trans (unhide S4).bel.size hb.size) (by omega)
    have KWk : ∀ w', Below w4.heap.size w4 w' → ∀ (A' : Option Addr) (k' : Nat), Rd w' w'.heap.size 1 A' ng (cr.groups.map u32v) → Calls Try.prog 21 #[.pointer (some ⟨f, 0, none⟩), .agg #[.int .u32 (cr.uid : Nat), .int .u32 (cr.euid : Nat), .int .u32 (cr.suid : Nat), .int .u32 (cr.gid : Nat), .slice A' ng k'], .int .i64 src, .string path, .bool last] w' fun e w5 => e = .returned (.tuple #[.int .i64 ((Vf.walk F cr src path last).1 : Nat), .int .i64 (Vf.walk F cr src path last).2]) ∧ Below w'.heap.size w' w5 :=
      fun w' hb A' k' hr => walk_any F L _ f cf Af A' ng k' cr src path last w' hF (hFS.belowSz hb) hn65 hr (by unfold maxLen; omega) (by omega)
    have KWz : ∀ w', Below w4.heap.size w4 w' → Calls Try.prog 21 #[.pointer (some ⟨f, 0, none⟩), .agg #[.int .u32 0, .int .u32 0, .int .u32 0, .int .u32 0, .slice none 0 0], .int .i64 src, .string path, .bool last] w' fun e w5 => e = .returned (.tuple #[.int .i64 ((Vf.walk F Vf.zc src path last).1 : Nat), .int .i64 (Vf.walk F Vf.zc src path last).2]) ∧ Below w'.heap.size w' w5 :=
      fun w' hb => walk_any F L _ f cf Af none 0 0 Vf.zc src path last w' hF (hFS.belowSz hb) hn65 ⟨rfl, .inl rfl⟩ (by unfold maxLen; omega) (by omega)
    have hlaw := Vf.walk_zero F cr src path last
    obtain ⟨⟨n1, e1⟩, hw1⟩ : ∃ r, Vf.walk F cr src path last = r := ⟨_, rfl⟩
    obtain ⟨⟨m1, x1⟩, hw2⟩ : ∃ r, Vf.walk F Vf.zc src path last = r := ⟨_, rfl⟩
    rw [hw1] at KWk
    rw [hw2] at KWz
    rw [hw1, hw2] at hlaw
    dsimp only at KWk KWz hlaw
    have HSK : ∀ w', Below w4.heap.size w4 w' → (Below w4.heap.size w4 w' ∧ w'.cell? ⟨w.heap.size, 0, none⟩ = some (.int .u32 (cr.uid : Nat)) ∧ w'.cell? ⟨w.heap.size, 1, none⟩ = some (.int .u32 (cr.euid : Nat)) ∧ w'.cell? ⟨w.heap.size, 2, none⟩ = some (.int .u32 (cr.suid : Nat)) ∧ w'.cell? ⟨w.heap.size, 3, none⟩ = some (.int .u32 (cr.gid : Nat)) ∧ w'.cell? ⟨w.heap.size, 4, none⟩ = some (.slice Ag ng kg) ∧ w'.cell? ⟨w.heap.size + 1, 0, none⟩ = some (.int .i64 src) ∧ w'.cell? ⟨w.heap.size + 1, 1, none⟩ = some (.string path) ∧ w'.cell? ⟨w.heap.size + 1, 2, none⟩ = some (.bool last)) := by
      intro w' hb
      obtain ⟨⟨a0, a1, a2, a3, a4⟩, b0, b1, b2⟩ := ((unhide S4).below hb).cells
      exact ⟨hb, a0, a1, a2, a3, a4, b0, b1, b2⟩
    have HKCp := hide KCp
    have HKWk := hide KWk
    have HKWz := hide KWz
    have HSK' := hide HSK
    have Hlaw := hide hlaw
    obtain ⟨-, v0, v1, v2, v3, v4, y0, y1, y2⟩ := HSK w4 (Below.refl _ _)
    unfold ptrV
    clear KCp KWk KWz HSK hlaw hw1 hw2 hFS hF hFl hb4 h0 h01 h64 HKN
    go_wp2_with fail
    go_region_held3 (fun w' => Below w4.heap.size w4 w' ∧ w'.cell? ⟨w.heap.size, 0, none⟩ = some (.int .u32 (cr.uid : Nat)) ∧ w'.cell? ⟨w.heap.size, 1, none⟩ = some (.int .u32 (cr.euid : Nat)) ∧ w'.cell? ⟨w.heap.size, 2, none⟩ = some (.int .u32 (cr.suid : Nat)) ∧ w'.cell? ⟨w.heap.size, 3, none⟩ = some (.int .u32 (cr.gid : Nat)) ∧ w'.cell? ⟨w.heap.size, 4, none⟩ = some (.slice Ag ng kg) ∧ w'.cell? ⟨w.heap.size + 1, 0, none⟩ = some (.int .i64 src) ∧ w'.cell? ⟨w.heap.size + 1, 1, none⟩ = some (.string path) ∧ w'.cell? ⟨w.heap.size + 1, 2, none⟩ = some (.bool last)) (first | exact (unhide HSK') _ (below_drew' (Below.refl _ _)) | exact (unhide HSK') _ (unhide hbn)) (first
      | (go_at_call 22; rename Below _ _ _ ∧ _ => hH; refine ((unhide HKCp) _ hH.1).mono ?_; rintro e w5 ⟨A5, k5, rfl, hr5, hb5⟩; have hbn := hide (hH.1.trans (hb5.mono hH.1.size)); have Hr5 := hide hr5; clear hb5 hr5)
      | (go_at_call 21; rename Below _ _ _ ∧ _ => hH; refine ((unhide HKWk) _ hH.1 _ _ (unhide Hr5)).mono ?_; rintro e w6 ⟨rfl, hb6⟩; have hbn := hide (hH.1.trans (hb6.mono hH.1.size)); clear hb6))
    have S6 := hide ((unhide S4).below (unhide hbn))
    clear v0 v1 v2 v3 v4 y0 y1 y2
    obtain ⟨-, y0, y1, y2⟩ := (unhide S6).cells
    go_wp2_with fail
    refine ((unhide HKWz) _ (unhide hbn)).mono ?_
    rintro e w7 ⟨rfl, hb7⟩
    have S7 := hide ((unhide S6).below hb7)
    clear hb7 y0 y1 y2 HKCp HKWk HKWz HSK'
    obtain ⟨hx5, hl2⟩ := unhide Hlaw
    have q1 : (x1 != 5) = true := by simpa using hx5
    have q2 : (x1 == 5) = false := by simpa using hx5
    have fin : ∀ w8, Below w7.heap.size w7 w8 → Below w.heap.size w w8 := fun w8 hb => ((unhide S7).below hb).bel
    have Hfin := hide fin
    clear hx5 Hlaw fin
    rcases hl2 with hl2 | hl2
    · injection hl2 with a b
      subst a b
      go_wp2_with fail
      refine ((unhide KW) _).mono ?_
      rintro e w8 ⟨rfl, hb8⟩
      have Hb8 := hide ((unhide Hfin) _ hb8)
      clear hb8
      go_wp2_with fail
      go_ret
      exact ⟨rfl, unhide Hb8⟩
    · injection hl2 with a b
      subst a b
      have r1 : (((n1 : Nat) : Int) == ((n1 : Nat) : Int)) = true := beq_self_eq_true _
      have r2 : (e1 == e1) = true := beq_self_eq_true _
      go_wp2_with fail
      refine ((unhide KW) _).mono ?_
      rintro e w8 ⟨rfl, hb8⟩
      have Hb8 := hide ((unhide Hfin) _ hb8)
      clear hb8
      go_wp2_with fail
      go_ret
      exact ⟨rfl, unhide Hb8⟩
end Go.Proofs.Yteiciabhfjakgaa
namespace Go.Proofs.Yteiciabhfjakgaa
set_option linter.unusedVariables false
set_option linter.unusedSimpArgs false
open Go.RowKit

/-- Where a node's bytes lie. -/
structure RPl where
  A : Option Addr
  n : Nat
  c : Nat
def rndV (y : Vf.Nd × RPl) : List Value := [.int .u8 (y.1.m.kind : Nat), .int .u16 (y.1.m.mode : Nat), .int .u32 (y.1.m.uid : Nat), .int .u32 (y.1.m.gid : Nat), .int .i64 (y.1.m.size : Nat), .int .i64 (y.1.up : Nat), .string y.1.name, .slice y.2.A y.2.n y.2.c, .string y.1.to]
structure RFs (w : World) (base g : Nat) (A : Option Addr) (c : Nat) (F : List Vf.Nd) (ls : List RPl) : Prop where
  len : ls.length = F.length
  lo : base ≤ g
  fs : Blk w g 77 [.slice A F.length c]
  row : w.ownsRow base 79 9 (.slice A F.length c) F.length (rowCs rndV (F.zip ls))
  dat : ∀ (i : Nat) (x : Vf.Nd) (p : RPl), F[i]? = some x → ls[i]? = some p → w.ownsRow base 5 1 (.slice p.A p.n p.c) p.n (bys x.data)
section
variable {w w' : World} {base g c : Nat} {A : Option Addr} {F : List Vf.Nd} {ls : List RPl}
theorem RFs.keep (h : RFs w base g A c F ls) (hk : ∀ k, base ≤ k → k < w.heap.size → w'.heap[k]? = w.heap[k]?) : RFs w' base g A c F ls :=
  ⟨h.len, h.lo, (hk g h.lo h.fs.lt).trans h.fs, own_keepA h.row hk, fun i x p h1 h2 => own_keepA (h.dat i x p h1 h2) hk⟩
theorem RFs.belowSz (h : RFs w base g A c F ls) (hb : Below w.heap.size w w') : RFs w' base g A c F ls := h.keep fun k _ hk => hb.block k hk
theorem RFs.at_ (h : RFs w base g A c F ls) {i : Nat} {x : Vf.Nd} (hx : F[i]? = some x) : ∃ p, ls[i]? = some p ∧ (F.zip ls)[i]? = some (x, p) := by
  have hi : i < F.length := (List.getElem?_eq_some_iff.1 hx).1
  have hl : i < ls.length := by rw [h.len]; exact hi
  have hz : (F.zip ls)[i]? = some (x, ls[i]) := by
    rw [List.getElem?_eq_getElem (by rw [List.length_zip]; omega), List.getElem_zip, (List.getElem?_eq_some_iff.1 hx).2]
  exact ⟨ls[i], List.getElem?_eq_getElem hl, hz⟩
/-- A node's cells: the row begins at o1. -/
theorem RFs.cells (h : RFs w base g A c F ls) (h0 : 0 < F.length) : ∃ b1 o1, A = some ⟨b1, o1, none⟩ ∧ b1 < w.heap.size ∧ ∀ (i : Nat) (x : Vf.Nd) (p : RPl), F[i]? = some x → ls[i]? = some p → ∀ j u, (rndV (x, p))[j]? = some u → w.cell? ⟨b1, o1 + (i * 9 + j), none⟩ = some u := by
  have hr := Rd.of_own h.row
  have hlen := rowCs_len (vals := rndV) (size := 9) (fun _ => rfl) (F.zip ls)
  have hzl : (F.zip ls).length = F.length := by rw [List.length_zip, h.len, Nat.min_self]
  obtain ⟨b1, o1, hA, hb, hc⟩ := hr.open_ (by
    intro e
    rw [e, hzl] at hlen
    simp at hlen
    omega)
  refine ⟨b1, o1, hA, hb, fun i x p hx hp j u hu => hc _ _ ?_⟩
  obtain ⟨p', hp', hz⟩ := h.at_ hx
  obtain rfl : p = p' := Option.some.inj (hp.symm.trans hp')
  have hj : j < 9 := (List.getElem?_eq_some_iff.1 hu).1
  rw [rowCs_at (vals := rndV) (size := 9) (fun _ => rfl) (F.zip ls) i (x, p) hz j hj, hu]
end
def numV : Option Nat → Value
  | none => .int .i64 (-1)
  | some i => .int .i64 (i : Nat)
theorem child_from {F : List Vf.Nd} {d k : Nat} {nm : ByteArray} {x : Vf.Nd} (hx : F[k]? = some x) : ((F.drop k).findIdx? (Vf.isKid d nm)).map (· + k) = if Vf.isKid d nm x = true then some k else ((F.drop (k + 1)).findIdx? (Vf.isKid d nm)).map (· + (k + 1)) := by
  rw [List.drop_eq_getElem_cons (List.getElem?_eq_some_iff.1 hx).1, (List.getElem?_eq_some_iff.1 hx).2, List.findIdx?_cons]
  by_cases h : Vf.isKid d nm x = true
  · rw [if_pos h, if_pos h]; simp
  · rw [if_neg h, if_neg h, Option.map_map]
    congr 1
    funext t
    simp only [Function.comp]
    omega
theorem child_end {F : List Vf.Nd} {d k : Nat} {nm : ByteArray} (hk : F.length ≤ k) : ((F.drop k).findIdx? (Vf.isKid d nm)).map (· + k) = none := by
  rw [List.drop_of_length_le hk]
  rfl
theorem str_eq (a b : ByteArray) : (a.toList == b.toList) = decide (a = b) := beq_toList a b

set_option maxRecDepth 100000 in
set_option maxHeartbeats 1000000 in
theorem rchild_any (F : List Vf.Nd) (ls : List RPl) (base g c : Nat) (A : Option Addr) (d : Nat) (nm : ByteArray) (w : World) (h : RFs w base g A c F ls) (hn : F.length ≤ 65) (h0 : 0 < F.length) :
    Calls Try.prog 43 #[.pointer (some ⟨g, 0, none⟩), .int .i64 (d : Nat), .string nm] w fun e w' => e = .returned (numV (Vf.child F d nm)) ∧ w = w' := by
  obtain ⟨b1, o1, rfl, _, hc⟩ := h.cells h0
  have v0 := h.fs.cell (i := 0) rfl
  obtain ⟨n, hfn⟩ : ∃ n, F.length = n := ⟨_, rfl⟩
  rw [hfn] at v0 hn
  obtain ⟨r, hr⟩ : ∃ r, Vf.child F d nm = r := ⟨_, rfl⟩
  rw [hr]
  have Hr := hide hr
  have H := hide h
  have Hc := hide hc
  have Hfn := hide hfn
  have h0n : 1 ≤ n := by omega
  clear hr h hc hfn h0
  go_enter Try.func43, Try.ntmps43
  go_wp2_with fail
  go_loop [7] (fun iv => ∃ k : Nat, 1 ≤ k ∧ k ≤ n ∧ iv = .int .i64 (k : Nat) ∧ ((F.drop k).findIdx? (Vf.isKid d nm)).map (· + k) = r) (fun iv => n - (intOf iv).toNat)
  case atStart => exact ⟨1, by omega, by omega, rfl, unhide Hr⟩
  case round =>
    obtain ⟨k, hk1, hk, rfl, hrk⟩ := hrel
    have Hrk := hide hrk
    clear hrk
    by_cases hlt : k < n
    · obtain ⟨x, hx⟩ : ∃ x, F[k]? = some x := ⟨_, List.getElem?_eq_getElem (by rw [unhide Hfn]; exact hlt)⟩
      obtain ⟨p, hp, _⟩ := (unhide H).at_ hx
      have x5 := (unhide Hc) k x p hx hp 5 _ rfl
      have x6 := (unhide Hc) k x p hx hp 6 _ rfl
      simp only [← Nat.add_assoc] at x5 x6
      have hst := child_from (d := d) (nm := nm) hx
      rw [unhide Hrk] at hst
      have ilt : (k : Int) < (n : Int) := by omega
      have hkid : Vf.isKid d nm x = (decide (x.up = d) && decide (x.name = nm)) := rfl
      have hse := str_eq x.name nm
      by_cases hu : x.up = d
      · have q1 : (((x.up : Nat) : Int) == ((d : Nat) : Int)) = true := by rw [hu]; simp
        rw [decide_eq_true hu] at hkid
        by_cases hnm : x.name = nm
        · rw [decide_eq_true hnm] at hkid hse
          rw [if_pos (by rw [hkid]; rfl)] at hst
          have Hst := hide hst
          clear hst hkid hnm hu hx hp
          go_wp2_with fail
          go_ret
          rw [unhide Hst]
          exact ⟨rfl, rfl⟩
        · rw [decide_eq_false hnm] at hkid hse
          rw [if_neg (by rw [hkid]; simp)] at hst
          have Hst := hide hst
          clear hst hkid hnm hu hx hp
          go_wp2_with fail
          go_round
          case rel => exact ⟨k + 1, by omega, by omega, by go_num, (unhide Hst).symm⟩
          case measure => simp [intOf]; omega
      · have q1 : (((x.up : Nat) : Int) == ((d : Nat) : Int)) = false := by rw [beq_eq_false_iff_ne]; omega
        rw [decide_eq_false hu] at hkid
        rw [if_neg (by rw [hkid]; simp)] at hst
        have Hst := hide hst
        clear hst hkid hu hx hp hse
        go_wp2_with fail
        go_round
        case rel => exact ⟨k + 1, by omega, by omega, by go_num, (unhide Hst).symm⟩
        case measure => simp [intOf]; omega
    · have ilt : ¬ (k : Int) < (n : Int) := by omega
      have hst := child_end (F := F) (d := d) (nm := nm) (k := k) (by rw [unhide Hfn]; omega)
      rw [unhide Hrk] at hst
      have Hst := hide hst
      clear hst
      go_wp2_with fail
      go_ret
      rw [unhide Hst]
      exact ⟨rfl, rfl⟩

set_option maxRecDepth 100000 in
set_option maxHeartbeats 1000000 in
theorem rat_any (F : List Vf.Nd) (ls : List RPl) (base g c : Nat) (A A' : Option Addr) (n' c' B : Nat) (l : List ByteArray) (w : World) (h : RFs w base g A c F ls) (hn : F.length ≤ 65) (h0 : 0 < F.length) (hl : Rd w B 1 A' n' (l.map Value.string)) (hn' : n' ≤ 4294967296) :
    Calls Try.prog 49 #[.pointer (some ⟨g, 0, none⟩), .slice A' n' c'] w fun e w' => e = .returned (numV (Vf.at_ F 0 l)) ∧ w = w' := by
  have hll : l.length = n' := by simpa using hl.len1
  have KC := hide (fun d nm => rchild_any F ls base g c A d nm w h hn h0)
  obtain ⟨r, hr⟩ : ∃ r, Vf.at_ F 0 l = r := ⟨_, rfl⟩
  rw [hr]
  have Hr := hide hr
  have Hl := hide hl
  have Hll := hide hll
  clear hr hl hll h
  go_enter Try.func49, Try.ntmps49
  go_wp2_with fail
  go_loop [5, 6] (fun nv iv => ∃ k : Nat, k ≤ n' ∧ iv = .int .i64 (k : Nat) ∧ nv = numV (Vf.at_ F 0 (l.take k))) (fun _ iv => n' - (intOf iv).toNat)
  case atStart => exact ⟨0, Nat.zero_le _, rfl, rfl⟩
  case round =>
    obtain ⟨k, hk, rfl, rfl⟩ := hrel
    cases hat : Vf.at_ F 0 (l.take k) with
    | none =>
      have hr0 : r = none := by rw [← unhide Hr]; exact Vf.at_stop hat
      have e1 : numV none = .int .i64 (-1) := rfl
      rw [e1]
      clear hat
      by_cases hlt : k < n'
      · have i1 : (k : Int) < (n' : Int) := by omega
        go_wp2_with fail
        go_ret
        subst hr0
        exact ⟨rfl, rfl⟩
      · have i1 : ¬ (k : Int) < (n' : Int) := by omega
        go_wp2_with fail
        go_ret
        subst hr0
        exact ⟨rfl, rfl⟩
    | some i =>
      have e1 : numV (some i) = .int .i64 (i : Nat) := rfl
      rw [e1]
      by_cases hlt : k < n'
      · obtain ⟨nm, hnm⟩ : ∃ nm, l[k]? = some nm := ⟨_, List.getElem?_eq_getElem (by rw [unhide Hll]; exact hlt)⟩
        obtain ⟨b1, o1, rfl, _, c1⟩ := (unhide Hl).at_ (k := k) (u := .string nm) (by simp [hnm])
        have hnx := Vf.at_next hat hnm
        have i1 : (k : Int) < (n' : Int) := by omega
        have i2 : (0 : Int) ≤ (i : Int) := by omega
        have Hnx := hide hnx
        clear hnx hat hnm
        go_wp2_with fail
        refine ((unhide KC) i nm).mono ?_
        rintro e w2 ⟨rfl, rfl⟩
        go_wp2_with fail
        go_round
        case rel => exact ⟨k + 1, by omega, by go_num, by rw [unhide Hnx]⟩
        case measure => simp [intOf]; omega
      · have i1 : ¬ (k : Int) < (n' : Int) := by omega
        have hr0 : r = some i := by rw [← unhide Hr, ← hat, List.take_of_length_le (by have := unhide Hll; omega)]
        clear hat
        go_wp2_with fail
        go_ret
        subst hr0
        exact ⟨rfl, rfl⟩
end Go.Proofs.Yteiciabhfjakgaa
namespace Go.Proofs.Yteiciabhfjakgaa
set_option linter.unusedVariables false
set_option linter.unusedSimpArgs false
open Go.RowKit

theorem take_ext {α : Type} {xs ys : List α} {k : Nat} {x : α} (h : xs.take k = ys.take k) (hx : xs[k]? = some x) (hy : ys[k]? = some x) : xs.take (k + 1) = ys.take (k + 1) := by
  rw [List.take_add_one, List.take_add_one, h, hx, hy]

end Go.Proofs.Yteiciabhfjakgaa
namespace Go.Proofs.Yteiciabhfjakgaa
set_option linter.unusedVariables false
set_option linter.unusedSimpArgs false
open Go.RowKit

theorem pcsAt_len (s : ByteArray) : ∀ (l : List UInt8) (i f : Nat), (Pth.pcsL s l i f).length ≤ l.length + 1 := by
  intro l
  induction l with
  | nil => intro i f; exact Nat.le_refl _
  | cons c r ih =>
    intro i f
    unfold Pth.pcsL
    have h1 := ih (i + 1) (i + 1)
    have h2 := ih (i + 1) f
    split
    · simp only [List.length_cons]; omega
    · simp only [List.length_cons]; omega
theorem pcs_len (s : ByteArray) : (Pth.pcs s).length ≤ s.size + 1 := pcsAt_len s s.data.toList 0 0

set_option maxHeartbeats 1000000 in
theorem rpieces_any (p : ByteArray) (hp : p.size ≤ 4294967296) (w : World) :
    Calls Try.prog 60 #[.string p] w fun e w' => ∃ A c, e = .returned (.slice A (Pth.pcs p).length c) ∧ w'.ownsRow w.heap.size 9 1 (.slice A (Pth.pcs p).length c) (Pth.pcs p).length ((Pth.pcs p).map Value.string) ∧ Below w.heap.size w w' := by
  go_enter Try.func60, Try.ntmps60
  go_wp2
  go_loopw [3, 4, 5] (fun out fr i wr => ∃ (k f : Nat) (A : Option Addr) (c : Nat) (l : List ByteArray), k ≤ p.size + 1 ∧ f ≤ k ∧ l.length ≤ k ∧ i = .int .i64 k ∧ fr = .int .i64 f ∧ out = .slice A l.length c ∧
    wr.ownsRow w.heap.size 9 1 (.slice A l.length c) l.length (l.map Value.string) ∧ Below w.heap.size w wr ∧ (k ≤ p.size → Pth.pcs p = l ++ Pth.pcsAt p k f) ∧ (k = p.size + 1 → Pth.pcs p = l)) (fun _ _ i _ => p.size + 1 - (intOf i).toNat)
  case atStart => exact ⟨0, 0, none, 0, [], by omega, Nat.le_refl _, Nat.le_refl _, rfl, rfl, rfl, World.ownsRow_nil _ _ _ _, Below.refl _ _, fun _ => rfl, fun h => by omega⟩
  case round =>
    obtain ⟨k, f, A, c, l, hk, hfk, hlk, rfl, rfl, rfl, hown, hb, h1, h2⟩ := hrel
    have H1 := hide h1
    have H2 := hide h2
    have hsz := hb.size
    clear h1 h2
    by_cases hlt : k ≤ p.size
    · have he := unhide H1 hlt
      by_cases hend : k = p.size
      · subst hend
        have b1 : ((p.size : Int) == (p.size : Int)) = true := by simp
        have hgo : Pth.pcs p = l ++ [p.extract f p.size] := by rw [he, Pth.pcsAt_end]
        have Hgo := hide hgo
        clear he hgo
        go_wp2_with (at_builtin; refine wpList_app1 strTy rfl _ _ rfl w.heap.size (.slice A l.length c) l.length (l.map Value.string) rfl hown #[.string (p.extract f p.size)] rfl rfl (by simp [Value.oneCell']) (by omega) (by omega) ?_; intro A' c' w1 hown' hgrow hat; have hb1 := hide (hb.grown hgrow hsz (fun k hk => (hown.lt k hk).1)); have Hown' := hide hown'; clear hgrow hat hown')
        go_roundw
        case rel =>
          refine ⟨p.size + 1, p.size + 1, A', c', l ++ [p.extract f p.size], by omega, by omega, by simp; omega, by go_num, by go_num, by simp, ?_, unhide hb1, fun h => by omega, fun _ => unhide Hgo⟩
          simpa using unhide Hown'
        case measure => simp [intOf]
      · have hl2 : k < p.size := by omega
        have b1 : ((k : Int) == (p.size : Int)) = false := by simp; omega
        by_cases hc : p[k] = 47
        · have b2 : (((p[k].toNat : Nat) : Int) == 47) = true := by rw [byte_47]; simpa using hc
          have hgo : Pth.pcs p = (l ++ [p.extract f k]) ++ Pth.pcsAt p (k + 1) (k + 1) := by rw [he, Pth.pcsAt_slash p k f hl2 hc]; simp
          have Hgo := hide hgo
          clear he hgo hc hend
          go_wp2_with (at_builtin; refine wpList_app1 strTy rfl _ _ rfl w.heap.size (.slice A l.length c) l.length (l.map Value.string) rfl hown #[.string (p.extract f k)] rfl rfl (by simp [Value.oneCell']) (by omega) (by omega) ?_; intro A' c' w1 hown' hgrow hat; have hb1 := hide (hb.grown hgrow hsz (fun k hk => (hown.lt k hk).1)); have Hown' := hide hown'; clear hgrow hat hown')
          go_roundw
          case rel =>
            refine ⟨k + 1, k + 1, A', c', l ++ [p.extract f k], by omega, by omega, by simp; omega, by go_num, by go_num, by simp, ?_, unhide hb1, fun _ => unhide Hgo, fun h => by omega⟩
            simpa using unhide Hown'
          case measure => simp [intOf]; omega
        · have b2 : (((p[k].toNat : Nat) : Int) == 47) = false := by rw [byte_47]; simpa using hc
          have hgo : Pth.pcs p = l ++ Pth.pcsAt p (k + 1) f := by rw [he, Pth.pcsAt_skip p k f hl2 hc]
          have Hgo := hide hgo
          clear he hgo hc hend
          go_wp2
          go_roundw
          case rel => exact ⟨k + 1, f, A, c, l, by omega, by omega, by omega, by go_num, rfl, rfl, hown, hb, fun _ => unhide Hgo, fun h => by omega⟩
          case measure => simp [intOf]; omega
    · have he := unhide H2 (by omega)
      have He := hide he
      clear he
      go_wp2
      go_ret
      rw [unhide He]
      exact ⟨A, c, rfl, hown, hb⟩

set_option maxHeartbeats 1000000 in
theorem rcheck_any (p : ByteArray) (hp : p.size ≤ 4294967296) (w : World) :
    Calls Try.prog 59 #[.string p] w fun e w' => e = .returned (.int .i64 (Pth.chk p)) ∧ Below w.heap.size w w' := by
  have he0 := isEmpty_toList p
  by_cases h0 : p.size = 0
  · have hr : Pth.chk p = 3 := by simp [Pth.chk, h0]
    have he : p.toList.isEmpty = true := by rw [he0]; simpa using h0
    rw [hr]
    clear he0 hr h0
    go_enter Try.func59, Try.ntmps59
    go_wp2_with fail
    go_ret
    exact ⟨rfl, Below.refl _ _⟩
  · have he : p.toList.isEmpty = false := by rw [he0]; simpa using h0
    have H0 := hide h0
    clear he0 h0
    go_enter Try.func59, Try.ntmps59
    go_wp2_with fail
    go_loop [3] (fun i => ∃ k : Nat, k ≤ p.size ∧ i = .int .i64 k ∧ (p.data.toList.take k).contains 0 = false) (fun i => p.size - (intOf i).toNat)
    case atStart => exact ⟨0, by omega, rfl, by simp⟩
    case round =>
      obtain ⟨k, hk, rfl, hz⟩ := hrel
      have Hz := hide hz
      clear hz
      by_cases hlt : k < p.size
      · by_cases hc : p[k] = 0
        · have b2 : (((p[k].toNat : Nat) : Int) == 0) = true := by rw [byte_0]; simpa using hc
          have hr : Pth.chk p = 1 := by
            have hm : p.data.toList.contains 0 = true := by
              rw [List.contains_iff_mem, ← hc]
              exact Array.getElem_mem_toList _
            simp only [Pth.chk, unhide H0, hm, if_true, if_false]
          have Hr := hide hr
          clear hr hc
          go_wp2
          go_ret
          exact ⟨by rw [unhide Hr]; rfl, Below.refl _ _⟩
        · have b2 : (((p[k].toNat : Nat) : Int) == 0) = false := by rw [byte_0]; simpa using hc
          have hz : (p.data.toList.take (k + 1)).contains 0 = false := by
            rw [List.take_succ_eq_append_getElem (by simpa using hlt), List.contains_append, unhide Hz]
            simp only [Bool.false_or]
            exact by simpa using fun h => hc h.symm
          have Hz2 := hide hz
          clear hz hc
          go_wp2
          go_round
          case rel => exact ⟨k + 1, by omega, by go_num, unhide Hz2⟩
          case measure => simp [intOf]; omega
      · have hz : p.data.toList.contains 0 = false := by
          have := unhide Hz
          rwa [List.take_of_length_le (by simp; omega)] at this
        by_cases h2 : 200 < p.size
        · have hr : Pth.chk p = 11 := by simp only [Pth.chk, unhide H0, hz, h2, if_true, if_false, Bool.false_eq_true]
          have Hr := hide hr
          clear hr hz
          go_wp2
          go_ret
          exact ⟨by rw [unhide Hr]; rfl, Below.refl _ _⟩
        · have hr : Pth.chk p = if (Pth.pcs p).any Pth.tooLong then 11 else 0 := by simp only [Pth.chk, unhide H0, hz, h2, if_false, Bool.false_eq_true]
          have Hr := hide hr
          have hl := pcs_len p
          clear hr hz
          go_wp2_with (go_at_call 60; refine (rpieces_any p (by omega) _).mono ?_; rintro e w1 ⟨A, c, rfl, hown, hb⟩)
          generalize Pth.pcs p = l at *
          have hrd := Rd.of_own hown
          have Hrd := hide hrd
          clear hrd hown
          go_loop [5] (fun i => ∃ k : Nat, k ≤ l.length ∧ i = .int .i64 k ∧ (l.take k).any Pth.tooLong = false) (fun i => l.length - (intOf i).toNat)
          case atStart => exact ⟨0, by omega, rfl, by simp⟩
          case round =>
            obtain ⟨k, hk, rfl, hz⟩ := hrel
            have Hz := hide hz
            clear hz
            by_cases hlt : k < l.length
            · obtain ⟨x, hx⟩ : ∃ x, l[k]? = some x := ⟨_, List.getElem?_eq_getElem hlt⟩
              obtain ⟨b1, o1, rfl, _, c1⟩ := (unhide Hrd).at_ (k := k) (u := .string x) (by simp [hx])
              by_cases hlong : 32 < x.size
              · have ha : l.any Pth.tooLong = true := List.any_eq_true.2 ⟨x, List.mem_of_getElem? hx, by simpa [Pth.tooLong] using hlong⟩
                have Ha := hide ha
                clear ha hx
                go_wp2
                go_ret
                exact ⟨by rw [unhide Hr, unhide Ha]; rfl, hb⟩
              · have hz : (l.take (k + 1)).any Pth.tooLong = false := by
                  rw [List.take_add_one, hx, List.any_append, unhide Hz]
                  simp [Pth.tooLong, hlong]
                have Hz2 := hide hz
                clear hz hx
                go_wp2
                go_round
                case rel => exact ⟨k + 1, by omega, by go_num, unhide Hz2⟩
                case measure => simp [intOf]; omega
            · have hz : l.any Pth.tooLong = false := by
                have := unhide Hz
                rwa [List.take_of_length_le (by omega)] at this
              have Hz2 := hide hz
              clear hz
              go_wp2
              go_ret
              exact ⟨by rw [unhide Hr, unhide Hz2]; rfl, hb⟩

end Go.Proofs.Yteiciabhfjakgaa
namespace Go.Proofs.Yteiciabhfjakgaa
set_option linter.unusedVariables false
set_option linter.unusedSimpArgs false
open Go.RowKit

theorem isPart_eq (x : ByteArray) : Pth.isPart x = (!(x.toList.isEmpty) && !(x.toList == [46])) := by
  rw [Lib.toList_data]
  cases h : x.data.toList with
  | nil => simp [Pth.isPart, h]
  | cons a r => simp [Pth.isPart, h]

set_option maxHeartbeats 1000000 in
theorem rparts_any (p : ByteArray) (hp : p.size ≤ 4294967296) (w : World) :
    Calls Try.prog 41 #[.string p] w fun e w' => ∃ A c, e = .returned (.tuple #[.slice A (Pth.partsL p).length c, .bool (Pth.rootB p), .int .i64 (Pth.chk p)]) ∧
      w'.ownsRow w.heap.size 9 1 (.slice A (Pth.partsL p).length c) (Pth.partsL p).length ((Pth.partsL p).map Value.string) ∧ Below w.heap.size w w' := by
  by_cases h0 : Pth.chk p = 0
  · have hsz := Pth.chk_size p h0
    have hpos : 0 < p.size := by
      rcases Nat.eq_zero_or_pos p.size with h | h
      · simp [Pth.chk, h] at h0
      · exact h
    have b1 : (Pth.chk p != 0) = false := by simpa using h0
    have hrl : Pth.partsL p = (Pth.pcs p).filter Pth.isPart := by simp [Pth.partsL, h0, Pth.parts]
    have hrb : Pth.rootB p = decide (p[0] = 47) := by
      have := Pth.headB_iff p
      simp only [Pth.rootB, h0, decide_true, Bool.true_and]
      rw [show Lib.hasPrefix p.data.toList [47] = Pth.headB p from rfl, this]
      simp [hpos]
    have Hrl := hide hrl
    have Hrb := hide hrb
    have H0 := hide h0
    have hpl := pcs_len p
    clear hrl hrb h0
    go_enter Try.func41, Try.ntmps41
    go_wp2_with (first
      | (go_at_call 59; refine (rcheck_any p hp _).mono ?_; rintro e w1 ⟨rfl, hb1⟩)
      | (go_at_call 60; refine (rpieces_any p hp _).mono ?_; rintro e w2 ⟨A, c, rfl, hown, hb2⟩))
    have hbl : Below w.heap.size w w2 := hb1.trans (hb2.mono hb1.size)
    have hrd := Rd.of_own hown
    generalize Pth.pcs p = l at *
    have Hrd := hide hrd
    clear hrd hown hb1 hb2
    go_loopw [6, 8] (fun out i wr => ∃ (k : Nat) (A' : Option Addr) (c' : Nat) (o : List ByteArray), k ≤ l.length ∧ i = .int .i64 k ∧ out = .slice A' o.length c' ∧ o = (l.take k).filter Pth.isPart ∧ o.length ≤ k ∧
      wr.ownsRow w2.heap.size 9 1 (.slice A' o.length c') o.length (o.map Value.string) ∧ Below w2.heap.size w2 wr) (fun _ i _ => l.length - (intOf i).toNat)
    case atStart => exact ⟨0, none, 0, [], by omega, rfl, rfl, rfl, Nat.le_refl _, World.ownsRow_nil _ _ _ _, Below.refl _ _⟩
    case round =>
      obtain ⟨k, A', c', o, hk, rfl, rfl, ho, hok, hown, hb⟩ := hrel
      have Ho := hide ho
      have hszr := hb.size
      clear ho
      by_cases hlt : k < l.length
      · obtain ⟨x, hx⟩ : ∃ x, l[k]? = some x := ⟨_, List.getElem?_eq_getElem hlt⟩
        have hrd2 := (unhide Hrd).below hb
        obtain ⟨b1', o1, rfl, hbb, c1⟩ := hrd2.at_ (k := k) (u := .string x) (by simp [hx])
        clear hrd2
        by_cases hpt : Pth.isPart x = true
        · have hpt' := hpt
          rw [isPart_eq, Bool.and_eq_true] at hpt'
          obtain ⟨q1, q2⟩ := hpt'
          have q3 : x.toList.isEmpty = false := by simpa using q1
          have q4 : (x.toList == [46]) = false := by simpa using q2
          have ho2 : o ++ [x] = (l.take (k + 1)).filter Pth.isPart := by rw [List.take_add_one, List.filter_append, ← unhide Ho, hx]; simp [hpt]
          have Ho2 := hide ho2
          clear ho2 hpt hx q1 q2
          go_wp2_with (at_builtin; refine wpList_app1 strTy rfl _ _ rfl w2.heap.size (.slice A' o.length c') o.length (o.map Value.string) rfl hown #[.string x] rfl rfl (by simp [Value.oneCell']) (by omega) (by omega) ?_; intro A2 c2 w3 hown' hgrow hat; have hb1 := hide (hb.grown hgrow hszr (fun k hk => (hown.lt k hk).1)); have Hown' := hide hown'; clear hgrow hat hown')
          go_roundw
          case rel =>
            refine ⟨k + 1, A2, c2, o ++ [x], by omega, by go_num, by simp, unhide Ho2, by simp; omega, ?_, unhide hb1⟩
            simpa using unhide Hown'
          case measure => simp [intOf]; omega
        · have ho2 : o = (l.take (k + 1)).filter Pth.isPart := by rw [List.take_add_one, List.filter_append, ← unhide Ho, hx]; simp [hpt]
          have Ho2 := hide ho2
          have hpt' := hpt
          rw [isPart_eq, Bool.and_eq_true, Classical.not_and_iff_not_or_not] at hpt'
          by_cases q3 : x.toList.isEmpty = true
          · clear ho2 hpt hpt' hx
            go_wp2
            go_roundw
            case rel => exact ⟨k + 1, A', c', o, by omega, by go_num, rfl, unhide Ho2, by omega, hown, hb⟩
            case measure => simp [intOf]; omega
          · rw [Bool.not_eq_true] at q3
            have q4 : (x.toList == [46]) = true := by simpa [q3] using hpt'
            clear ho2 hpt hpt' hx
            go_wp2
            go_roundw
            case rel => exact ⟨k + 1, A', c', o, by omega, by go_num, rfl, unhide Ho2, by omega, hown, hb⟩
            case measure => simp [intOf]; omega
      · have ho3 : o = l.filter Pth.isPart := by
          have := unhide Ho
          rwa [List.take_of_length_le (by omega)] at this
        have Ho3 := hide ho3
        clear ho3
        have hi0 : (0 : Int) < (p.size : Int) := by omega
        go_wp2
        go_quiet (fail)
        go_wp2
        go_ret3
        have e : o = Pth.partsL p := by rw [unhide Hrl]; exact unhide Ho3
        refine ⟨A', c', ?_, ?_, below_drewN' (hbl.trans (hb.mono hbl.size)) _⟩
        · rw [← e, unhide Hrb, unhide H0, ← byte_47]
          rfl
        · rw [← e]
          exact own_base (w := wr.drewN nq) hown hbl.size
  · have b1 : (Pth.chk p != 0) = true := by simpa using h0
    have e1 : Pth.partsL p = [] := by simp [Pth.partsL, h0]
    have e2 : Pth.rootB p = false := by simp [Pth.rootB, h0]
    rw [e1, e2]
    clear e1 e2 h0
    go_enter Try.func41, Try.ntmps41
    go_wp2_with (go_at_call 59; refine (rcheck_any p hp _).mono ?_; rintro e w1 ⟨rfl, hb1⟩)
    go_ret3
    exact ⟨none, 0, rfl, World.ownsRow_nil _ _ _ _, hb1⟩

end Go.Proofs.Yteiciabhfjakgaa
namespace Go.Proofs.Yteiciabhfjakgaa
set_option linter.unusedVariables false
set_option linter.unusedSimpArgs false
open Go.RowKit

set_option maxRecDepth 100000 in
theorem rfdir_any (F : List Vf.Nd) (ls : List RPl) (base g c : Nat) (A : Option Addr) (ino : Int) (w : World) (h : RFs w base g A c F ls) (hn : F.length ≤ 65) (h0 : 0 < F.length) (r : Bool) (hr : r = decide (¬ (ino < 0 ∨ Vf.kindAt F ino.toNat ≠ 2))) :
    Calls Try.prog 40 #[.pointer (some ⟨g, 0, none⟩), .int .i64 ino] w fun e w' => e = .returned (.bool r) ∧ w = w' := by
  obtain ⟨b1, o1, rfl, _, hc⟩ := h.cells h0
  have v0 := h.fs.cell (i := 0) rfl
  obtain ⟨n, hfn⟩ : ∃ n, F.length = n := ⟨_, rfl⟩
  rw [hfn] at v0 hn
  have Hr := hide hr
  by_cases hneg : ino < 0
  · have i1 : ¬ (0 : Int) ≤ ino := by omega
    have hr0 : r = false := by rw [unhide Hr]; exact decide_eq_false (by simp [hneg])
    clear hr hc h
    go_enter Try.func40, Try.ntmps40
    go_wp2_with fail
    go_ret
    subst hr0
    exact ⟨rfl, rfl⟩
  · obtain ⟨i, rfl⟩ := Int.eq_ofNat_of_zero_le (show 0 ≤ ino by omega)
    have i0 : (0 : Int) ≤ (i : Int) := by omega
    by_cases hlt : i < n
    · obtain ⟨x, hx⟩ : ∃ x, F[i]? = some x := ⟨_, List.getElem?_eq_getElem (by rw [hfn]; exact hlt)⟩
      obtain ⟨p, hp, _⟩ := h.at_ hx
      have x0 := hc i x p hx hp 0 _ rfl
      rw [Nat.add_zero] at x0
      have ilt : (i : Int) < (n : Int) := by omega
      have hr0 : r = decide (x.m.kind = 2) := by
        rw [unhide Hr, Int.toNat_natCast, Vf.kindAt_eq hx]
        by_cases h2 : x.m.kind = 2
        · rw [decide_eq_true h2]; exact decide_eq_true (by omega)
        · rw [decide_eq_false h2]; exact decide_eq_false (by omega)
      by_cases h2 : x.m.kind = 2
      · have q2 : ((x.m.kind : Int) == 2) = true := by rw [h2]; rfl
        rw [decide_eq_true h2] at hr0
        clear h2 hx hp hc h hr
        go_enter Try.func40, Try.ntmps40
        go_wp2_with fail
        go_ret
        subst hr0
        exact ⟨rfl, rfl⟩
      · have q2 : ((x.m.kind : Int) == 2) = false := by rw [beq_eq_false_iff_ne]; omega
        rw [decide_eq_false h2] at hr0
        clear h2 hx hp hc h hr
        go_enter Try.func40, Try.ntmps40
        go_wp2_with fail
        go_ret
        subst hr0
        exact ⟨rfl, rfl⟩
    · have ilt : ¬ (i : Int) < (n : Int) := by omega
      have hr0 : r = false := by
        rw [unhide Hr]
        refine decide_eq_false ?_
        rw [Int.toNat_natCast]
        have : Vf.kindAt F i = 0 := by unfold Vf.kindAt; rw [List.getElem?_eq_none (by omega)]
        rw [this]
        omega
      clear hr hc h
      go_enter Try.func40, Try.ntmps40
      go_wp2_with fail
      go_ret
      subst hr0
      exact ⟨rfl, rfl⟩

theorem and2559 (n : Nat) (h : n < 65536) : (bits .and .u16 (n : Int) 2559 != (n : Int)) = !decide (n &&& 2559 = n) := by
  have e : (2559 : Int) = ((2559 : Nat) : Int) := rfl
  rw [e, u16_and_nat n 2559 h (by omega), bne, Bool.not_inj_iff, Bool.eq_iff_iff, beq_iff_eq, decide_eq_true_eq]
  omega

set_option maxRecDepth 100000 in
set_option maxHeartbeats 4000000 in
theorem mayR_any (x : Vf.Ent) (A : Option Addr) (n c : Nat) (w : World) (hd : x.data.length = n) (hn : n ≤ 4294967296) (hps : x.path.size ≤ 4294967296) (hto : x.to.size ≤ 4294967296) (hmd : x.mode < 65536) :
    Calls Try.prog 48 #[entV x A n c] w fun e w' => e = .returned (.int .i64 (Vf.may x)) ∧ Below w.heap.size w w' := by
  have hb0 : Below w.heap.size w (w.alloc (.cells (entC x A n c).toArray 60)) := (Below.refl _ _).alloc (Nat.le_refl _) _
  have hbk : Blk (w.alloc (.cells (entC x A n c).toArray 60)) w.heap.size 60 (entC x A n c) := Blk.new w 60 _
  have KP := hide (rparts_any x.path (by omega) (w.alloc (.cells (entC x A n c).toArray 60)))
  have KT := hide (fun w' => rtail_any x.path (by omega) w')
  have KK := hide (fun w' => rcheck_any x.to (by omega) w')
  have hand := and2559 x.mode hmd
  have hmay : Vf.may x = if ¬ (1 ≤ x.kind ∧ x.kind ≤ 3) ∨ x.mode &&& 2559 ≠ x.mode then 1
    else if Pth.chk x.path ≠ 0 ∨ Pth.rootB x.path = false ∨ (Pth.partsL x.path).isEmpty = true ∨ Pth.tailB x.path = true ∨ (Pth.partsL x.path).any (fun y => decide (y = Vf.dd)) = true then 1
    else if (x.kind ≠ 1 ∧ x.data ≠ []) ∨ (x.kind ≠ 3 ∧ x.to.size ≠ 0) ∨ (x.kind = 3 ∧ Pth.chk x.to ≠ 0) then 1
    else if 65536 < x.data.length then 12 else 0 := rfl
  have hdn : x.data ≠ [] ↔ 0 < n := by rw [← hd, List.length_pos_iff]
  simp only [hdn] at hmay
  rw [hd] at hmay
  have hpl2 := Vf.parts_len x.path
  obtain ⟨ck, hck⟩ : ∃ b, Pth.chk x.path = b := ⟨_, rfl⟩
  obtain ⟨tb, htb⟩ : ∃ b, Pth.rootB x.path = b := ⟨_, rfl⟩
  obtain ⟨pl, hpl⟩ : ∃ l, Pth.partsL x.path = l := ⟨_, rfl⟩
  obtain ⟨tl, htl⟩ : ∃ b, Pth.tailB x.path = b := ⟨_, rfl⟩
  obtain ⟨ct, hct⟩ : ∃ b, Pth.chk x.to = b := ⟨_, rfl⟩
  obtain ⟨np, hnp⟩ : ∃ n, pl.length = n := ⟨_, rfl⟩
  have hpe : pl.isEmpty = true ↔ np = 0 := by rw [← hnp, List.isEmpty_iff_length_eq_zero]
  simp only [hck, htb, hpl, htl, hct, hpe] at hmay
  rw [hck, htb, hpl, hnp] at KP
  rw [htl] at KT
  rw [hct] at KK
  rw [hpl, hnp] at hpl2
  obtain ⟨mv, hmv⟩ : ∃ v, Vf.may x = v := ⟨_, rfl⟩
  rw [hmv] at hmay ⊢
  have Hmay := hide hmay
  have Hb0 := hide hb0
  have Hbk := hide hbk
  have Hnp := hide hnp
  have hemp : x.to.toList.isEmpty = decide (x.to.size = 0) := isEmpty_toList x.to
  unfold entV
  unfold entC at KP
  have hbe : ∀ j v, [Value.string x.path, .int .u8 (x.kind : Nat), .int .u16 (x.mode : Nat), .int .u32 (x.uid : Nat), .int .u32 (x.gid : Nat), .slice A n c, .string x.to][j]? = some v → (w.alloc (.cells (entC x A n c).toArray 60)).cell? ⟨w.heap.size, j, none⟩ = some v := fun j v hj => hbk.cell hj
  have u1 := hbe 1 _ rfl
  have u2 := hbe 2 _ rfl
  clear hmay hd hdn hpl hck htb htl hct hpe hnp hb0 hbk hps hto hmv hbe
  have hkn : x.kind = 1 ∨ x.kind = 2 ∨ x.kind = 3 ∨ ¬ (1 ≤ x.kind ∧ x.kind ≤ 3) := by omega
  have bad : ∀ w' : World, mv = 1 → Below w.heap.size w w' → Ending.returned (Value.int .i64 1) = .returned (.int .i64 mv) ∧ Below w.heap.size w w' := fun w' h hb => ⟨by rw [h], hb⟩
  have Bad := hide bad
  clear bad
  by_cases hk4 : 1 ≤ x.kind ∧ x.kind ≤ 3
  case neg =>
    have q1 : ((x.kind : Int) != 1) = true := by simp; omega
    have q2 : ((x.kind : Int) != 2) = true := by simp; omega
    have q3 : ((x.kind : Int) != 3) = true := by simp; omega
    have hm : mv = 1 := by rw [unhide Hmay, if_pos (.inl hk4)]
    have Hm := hide hm
    clear hm hk4 hkn hemp KP hand
    go_enter Try.func48, Try.ntmps48
    go_wp2_with fail
    go_ret
    exact (unhide Bad) _ (unhide Hm) (unhide Hb0)
  by_cases k3 : x.mode &&& 2559 = x.mode
  case neg =>
    have hm : mv = 1 := by rw [unhide Hmay, if_pos (.inr k3)]
    rw [decide_eq_false k3] at hand
    have Hm := hide hm
    rcases hkn with hk | hk | hk | hk
    · have q1 : ((x.kind : Int) != 1) = false := by rw [hk]; rfl
      clear hm k3 hk4 hk hemp KP
      go_enter Try.func48, Try.ntmps48
      go_wp2_with fail
      go_ret
      exact (unhide Bad) _ (unhide Hm) (unhide Hb0)
    · have q1 : ((x.kind : Int) != 1) = true := by rw [hk]; rfl
      have q2 : ((x.kind : Int) != 2) = false := by rw [hk]; rfl
      clear hm k3 hk4 hk hemp KP
      go_enter Try.func48, Try.ntmps48
      go_wp2_with fail
      go_ret
      exact (unhide Bad) _ (unhide Hm) (unhide Hb0)
    · have q1 : ((x.kind : Int) != 1) = true := by rw [hk]; rfl
      have q2 : ((x.kind : Int) != 2) = true := by rw [hk]; rfl
      have q3 : ((x.kind : Int) != 3) = false := by rw [hk]; rfl
      clear hm k3 hk4 hk hemp KP
      go_enter Try.func48, Try.ntmps48
      go_wp2_with fail
      go_ret
      exact (unhide Bad) _ (unhide Hm) (unhide Hb0)
    · exact absurd hk4 hk
  rw [decide_eq_true k3] at hand
  have hmay2 := unhide Hmay
  rw [if_neg (by rintro (h | h); exact h hk4; exact h k3)] at hmay2
  have Hmay2 := hide hmay2
  clear k3 Hmay hmay2
  rcases hkn with hk | hk | hk | hk
  · have q1 : ((x.kind : Int) != 1) = false := by rw [hk]; rfl
    have q2 : ((x.kind : Int) != 2) = true := by rw [hk]; rfl
    have q3 : ((x.kind : Int) != 3) = true := by rw [hk]; rfl
    have q4 : ((x.kind : Int) == 3) = false := by rw [hk]; rfl
    have Hkk := hide hk
    clear hk hk4
    go_enter Try.func48, Try.ntmps48
    go_wp2_with fail
    refine (unhide KP).mono ?_
    rintro e w1 ⟨A1, c1, rfl, ho1, hb1⟩
    have hbk1 := (unhide Hbk).belowSz hb1
    have hlt1 : w.heap.size < w1.heap.size := hbk1.lt
    obtain ⟨v0, v1, v5, v6⟩ : w1.cell? ⟨w.heap.size, 0, none⟩ = some (.string x.path) ∧ w1.cell? ⟨w.heap.size, 1, none⟩ = some (.int .u8 (x.kind : Nat)) ∧ w1.cell? ⟨w.heap.size, 5, none⟩ = some (.slice A n c) ∧ w1.cell? ⟨w.heap.size, 6, none⟩ = some (.string x.to) := ⟨hbk1.cell rfl, hbk1.cell rfl, hbk1.cell rfl, hbk1.cell rfl⟩
    have Hb1 := hide ((unhide Hb0).trans (hb1.mono (by simp)))
    have Hr1 := hide (Rd.of_own ho1)
    clear hb1 ho1 hbk1 KP u1 u2 hand
    by_cases k4 : ck = 0
    case neg =>
      have hm : mv = 1 := by rw [unhide Hmay2, if_pos (.inl k4)]
      have b4 : (ck != 0) = true := by simp [k4]
      have Hm := hide hm
      clear hm k4 hemp
      go_wp2_with fail
      go_ret
      exact (unhide Bad) _ (unhide Hm) (unhide Hb1)
    subst k4
    have b4 : ((0 : Int) != 0) = false := rfl
    cases tb with
    | false =>
      have hm : mv = 1 := by rw [unhide Hmay2, if_pos (.inr (.inl rfl))]
      have Hm := hide hm
      clear hm hemp
      go_wp2_with fail
      go_ret
      exact (unhide Bad) _ (unhide Hm) (unhide Hb1)
    | true =>
    by_cases k5 : np = 0
    · have hm : mv = 1 := by rw [unhide Hmay2, if_pos (.inr (.inr (.inl k5)))]
      have b5 : ((np : Int) == 0) = true := by rw [k5]; rfl
      have Hm := hide hm
      clear hm hemp k5
      go_wp2_with fail
      go_ret
      exact (unhide Bad) _ (unhide Hm) (unhide Hb1)
    have b5 : ((np : Int) == 0) = false := by rw [beq_eq_false_iff_ne]; omega
    cases tl with
    | true =>
      have hm : mv = 1 := by rw [unhide Hmay2, if_pos (.inr (.inr (.inr (.inl rfl))))]
      have Hm := hide hm
      clear hm hemp k5
      go_wp2_with fail
      refine ((unhide KT) _).mono ?_
      rintro e w2 ⟨rfl, rfl⟩
      go_wp2_with fail
      go_ret
      exact (unhide Bad) _ (unhide Hm) (unhide Hb1)
    | false =>
    have Hk5 := hide k5
    clear k5
    go_wp2_with fail
    refine ((unhide KT) _).mono ?_
    rintro e w2 ⟨rfl, rfl⟩
    go_wp2_with fail
    go_loop [6] (fun iv => ∃ k : Nat, k ≤ np ∧ iv = .int .i64 (k : Nat) ∧ (pl.take k).any (fun y => decide (y = Vf.dd)) = false) (fun iv => np - (intOf iv).toNat)
    case atStart => exact ⟨0, Nat.zero_le _, rfl, rfl⟩
    case round =>
    obtain ⟨k, hk, rfl, hno⟩ := hrel
    have Hno := hide hno
    clear hno
    by_cases hlt : k < np
    · obtain ⟨nm, hnm⟩ : ∃ nm, pl[k]? = some nm := ⟨_, List.getElem?_eq_getElem (by rw [unhide Hnp]; exact hlt)⟩
      obtain ⟨bL, oL, rfl, _, cL⟩ := (unhide Hr1).at_ (k := k) (u := .string nm) (by simp [hnm])
      have i1 : (k : Int) < (np : Int) := by omega
      have hdq : (nm.toList == [46, 46]) = decide (nm = Vf.dd) := by
        have h := beq_toList nm Vf.dd
        rwa [show Vf.dd.toList = [46, 46] by rw [Lib.toList_data]; rfl] at h
      by_cases hdd : nm = Vf.dd
      · rw [decide_eq_true hdd] at hdq
        have hany : pl.any (fun y => decide (y = Vf.dd)) = true := List.any_eq_true.2 ⟨nm, List.mem_of_getElem? hnm, by simpa using hdd⟩
        have hm : mv = 1 := by rw [unhide Hmay2, if_pos (.inr (.inr (.inr (.inr hany))))]
        have Hm := hide hm
        clear hm hemp hdd hnm hany
        go_wp2_with fail
        go_ret
        exact (unhide Bad) _ (unhide Hm) (unhide Hb1)
      · rw [decide_eq_false hdd] at hdq
        have hnx : (pl.take (k + 1)).any (fun y => decide (y = Vf.dd)) = false := by
          rw [List.take_add_one, hnm, List.any_append, unhide Hno]
          simp [hdd]
        have Hnx := hide hnx
        clear hnx hemp hdd hnm
        go_wp2_with fail
        go_round
        case rel => exact ⟨k + 1, by omega, by go_num, unhide Hnx⟩
        case measure => simp [intOf]; omega
    · have i1 : ¬ (k : Int) < (np : Int) := by omega
      have hall : pl.any (fun y => decide (y = Vf.dd)) = false := by
        have := unhide Hno
        rwa [List.take_of_length_le (by rw [unhide Hnp]; omega)] at this
      have hmay3 := unhide Hmay2
      rw [if_neg (by rw [hall]; have := unhide Hk5; simp [this])] at hmay3
      have Hmay3 := hide hmay3
      clear hall hmay3 Hno
      by_cases k8 : x.to.size = 0
      · rw [decide_eq_true k8] at hemp
        have hto2 : x.to.toList = [] := List.isEmpty_iff.1 hemp
        have hn1 : ¬ ((x.kind ≠ 1 ∧ 0 < n) ∨ (x.kind ≠ 3 ∧ x.to.size ≠ 0) ∨ (x.kind = 3 ∧ ct ≠ 0)) := by have := unhide Hkk; omega
        have Hn1 := hide hn1
        clear hn1 k8
        by_cases k9 : 65536 < n
        · have hm : mv = 12 := by rw [unhide Hmay3, if_neg (unhide Hn1), if_pos k9]
          have b9 : (65536 : Int) < (n : Int) := by omega
          have Hm := hide hm
          clear hm k9
          go_wp2_with fail
          go_ret
          exact (have hv := unhide Hm; by subst hv; exact ⟨rfl, (unhide Hb1)⟩)
        · have hm : mv = 0 := by rw [unhide Hmay3, if_neg (unhide Hn1), if_neg k9]
          have b9 : ¬ (65536 : Int) < (n : Int) := by omega
          have Hm := hide hm
          clear hm k9
          go_wp2_with fail
          go_ret
          exact (have hv := unhide Hm; by subst hv; exact ⟨rfl, (unhide Hb1)⟩)
      · rw [decide_eq_false k8] at hemp
        have hto2 : ¬ x.to.toList = [] := fun h => by rw [h] at hemp; cases hemp
        have hm : mv = 1 := by rw [unhide Hmay3, if_pos (.inr (.inl ⟨by have := unhide Hkk; omega, k8⟩))]
        have Hm := hide hm
        clear hm
        go_wp2_with fail
        go_ret
        exact (unhide Bad) _ (unhide Hm) (unhide Hb1)
  · have q1 : ((x.kind : Int) != 1) = true := by rw [hk]; rfl
    have q2 : ((x.kind : Int) != 2) = false := by rw [hk]; rfl
    have q3 : ((x.kind : Int) != 3) = true := by rw [hk]; rfl
    have q4 : ((x.kind : Int) == 3) = false := by rw [hk]; rfl
    have Hkk := hide hk
    clear hk hk4
    go_enter Try.func48, Try.ntmps48
    go_wp2_with fail
    refine (unhide KP).mono ?_
    rintro e w1 ⟨A1, c1, rfl, ho1, hb1⟩
    have hbk1 := (unhide Hbk).belowSz hb1
    have hlt1 : w.heap.size < w1.heap.size := hbk1.lt
    obtain ⟨v0, v1, v5, v6⟩ : w1.cell? ⟨w.heap.size, 0, none⟩ = some (.string x.path) ∧ w1.cell? ⟨w.heap.size, 1, none⟩ = some (.int .u8 (x.kind : Nat)) ∧ w1.cell? ⟨w.heap.size, 5, none⟩ = some (.slice A n c) ∧ w1.cell? ⟨w.heap.size, 6, none⟩ = some (.string x.to) := ⟨hbk1.cell rfl, hbk1.cell rfl, hbk1.cell rfl, hbk1.cell rfl⟩
    have Hb1 := hide ((unhide Hb0).trans (hb1.mono (by simp)))
    have Hr1 := hide (Rd.of_own ho1)
    clear hb1 ho1 hbk1 KP u1 u2 hand
    by_cases k4 : ck = 0
    case neg =>
      have hm : mv = 1 := by rw [unhide Hmay2, if_pos (.inl k4)]
      have b4 : (ck != 0) = true := by simp [k4]
      have Hm := hide hm
      clear hm k4 hemp
      go_wp2_with fail
      go_ret
      exact (unhide Bad) _ (unhide Hm) (unhide Hb1)
    subst k4
    have b4 : ((0 : Int) != 0) = false := rfl
    cases tb with
    | false =>
      have hm : mv = 1 := by rw [unhide Hmay2, if_pos (.inr (.inl rfl))]
      have Hm := hide hm
      clear hm hemp
      go_wp2_with fail
      go_ret
      exact (unhide Bad) _ (unhide Hm) (unhide Hb1)
    | true =>
    by_cases k5 : np = 0
    · have hm : mv = 1 := by rw [unhide Hmay2, if_pos (.inr (.inr (.inl k5)))]
      have b5 : ((np : Int) == 0) = true := by rw [k5]; rfl
      have Hm := hide hm
      clear hm hemp k5
      go_wp2_with fail
      go_ret
      exact (unhide Bad) _ (unhide Hm) (unhide Hb1)
    have b5 : ((np : Int) == 0) = false := by rw [beq_eq_false_iff_ne]; omega
    cases tl with
    | true =>
      have hm : mv = 1 := by rw [unhide Hmay2, if_pos (.inr (.inr (.inr (.inl rfl))))]
      have Hm := hide hm
      clear hm hemp k5
      go_wp2_with fail
      refine ((unhide KT) _).mono ?_
      rintro e w2 ⟨rfl, rfl⟩
      go_wp2_with fail
      go_ret
      exact (unhide Bad) _ (unhide Hm) (unhide Hb1)
    | false =>
    have Hk5 := hide k5
    clear k5
    go_wp2_with fail
    refine ((unhide KT) _).mono ?_
    rintro e w2 ⟨rfl, rfl⟩
    go_wp2_with fail
    go_loop [6] (fun iv => ∃ k : Nat, k ≤ np ∧ iv = .int .i64 (k : Nat) ∧ (pl.take k).any (fun y => decide (y = Vf.dd)) = false) (fun iv => np - (intOf iv).toNat)
    case atStart => exact ⟨0, Nat.zero_le _, rfl, rfl⟩
    case round =>
    obtain ⟨k, hk, rfl, hno⟩ := hrel
    have Hno := hide hno
    clear hno
    by_cases hlt : k < np
    · obtain ⟨nm, hnm⟩ : ∃ nm, pl[k]? = some nm := ⟨_, List.getElem?_eq_getElem (by rw [unhide Hnp]; exact hlt)⟩
      obtain ⟨bL, oL, rfl, _, cL⟩ := (unhide Hr1).at_ (k := k) (u := .string nm) (by simp [hnm])
      have i1 : (k : Int) < (np : Int) := by omega
      have hdq : (nm.toList == [46, 46]) = decide (nm = Vf.dd) := by
        have h := beq_toList nm Vf.dd
        rwa [show Vf.dd.toList = [46, 46] by rw [Lib.toList_data]; rfl] at h
      by_cases hdd : nm = Vf.dd
      · rw [decide_eq_true hdd] at hdq
        have hany : pl.any (fun y => decide (y = Vf.dd)) = true := List.any_eq_true.2 ⟨nm, List.mem_of_getElem? hnm, by simpa using hdd⟩
        have hm : mv = 1 := by rw [unhide Hmay2, if_pos (.inr (.inr (.inr (.inr hany))))]
        have Hm := hide hm
        clear hm hemp hdd hnm hany
        go_wp2_with fail
        go_ret
        exact (unhide Bad) _ (unhide Hm) (unhide Hb1)
      · rw [decide_eq_false hdd] at hdq
        have hnx : (pl.take (k + 1)).any (fun y => decide (y = Vf.dd)) = false := by
          rw [List.take_add_one, hnm, List.any_append, unhide Hno]
          simp [hdd]
        have Hnx := hide hnx
        clear hnx hemp hdd hnm
        go_wp2_with fail
        go_round
        case rel => exact ⟨k + 1, by omega, by go_num, unhide Hnx⟩
        case measure => simp [intOf]; omega
    · have i1 : ¬ (k : Int) < (np : Int) := by omega
      have hall : pl.any (fun y => decide (y = Vf.dd)) = false := by
        have := unhide Hno
        rwa [List.take_of_length_le (by rw [unhide Hnp]; omega)] at this
      have hmay3 := unhide Hmay2
      rw [if_neg (by rw [hall]; have := unhide Hk5; simp [this])] at hmay3
      have Hmay3 := hide hmay3
      clear hall hmay3 Hno
      by_cases k7 : 0 < n
      · have j1 : (0 : Int) < (n : Int) := by omega
        have hm : mv = 1 := by rw [unhide Hmay3, if_pos (.inl ⟨by have := unhide Hkk; omega, k7⟩)]
        have Hm := hide hm
        clear hm
        go_wp2_with fail
        go_ret
        exact (unhide Bad) _ (unhide Hm) (unhide Hb1)
      have j1 : ¬ (0 : Int) < (n : Int) := by omega
      by_cases k8 : x.to.size = 0
      · rw [decide_eq_true k8] at hemp
        have hto2 : x.to.toList = [] := List.isEmpty_iff.1 hemp
        have hn1 : ¬ ((x.kind ≠ 1 ∧ 0 < n) ∨ (x.kind ≠ 3 ∧ x.to.size ≠ 0) ∨ (x.kind = 3 ∧ ct ≠ 0)) := by have := unhide Hkk; omega
        have Hn1 := hide hn1
        clear hn1 k8
        have hm : mv = 0 := by rw [unhide Hmay3, if_neg (unhide Hn1), if_neg (by omega)]
        have b9 : ¬ (65536 : Int) < (n : Int) := by omega
        have Hm := hide hm
        clear hm
        go_wp2_with fail
        go_ret
        exact (have hv := unhide Hm; by subst hv; exact ⟨rfl, unhide Hb1⟩)
      · rw [decide_eq_false k8] at hemp
        have hto2 : ¬ x.to.toList = [] := fun h => by rw [h] at hemp; cases hemp
        have hm : mv = 1 := by rw [unhide Hmay3, if_pos (.inr (.inl ⟨by have := unhide Hkk; omega, k8⟩))]
        have Hm := hide hm
        clear hm
        go_wp2_with fail
        go_ret
        exact (unhide Bad) _ (unhide Hm) (unhide Hb1)
  · have q1 : ((x.kind : Int) != 1) = true := by rw [hk]; rfl
    have q2 : ((x.kind : Int) != 2) = true := by rw [hk]; rfl
    have q3 : ((x.kind : Int) != 3) = false := by rw [hk]; rfl
    have q4 : ((x.kind : Int) == 3) = true := by rw [hk]; rfl
    have Hkk := hide hk
    clear hk hk4
    go_enter Try.func48, Try.ntmps48
    go_wp2_with fail
    refine (unhide KP).mono ?_
    rintro e w1 ⟨A1, c1, rfl, ho1, hb1⟩
    have hbk1 := (unhide Hbk).belowSz hb1
    have hlt1 : w.heap.size < w1.heap.size := hbk1.lt
    obtain ⟨v0, v1, v5, v6⟩ : w1.cell? ⟨w.heap.size, 0, none⟩ = some (.string x.path) ∧ w1.cell? ⟨w.heap.size, 1, none⟩ = some (.int .u8 (x.kind : Nat)) ∧ w1.cell? ⟨w.heap.size, 5, none⟩ = some (.slice A n c) ∧ w1.cell? ⟨w.heap.size, 6, none⟩ = some (.string x.to) := ⟨hbk1.cell rfl, hbk1.cell rfl, hbk1.cell rfl, hbk1.cell rfl⟩
    have Hb1 := hide ((unhide Hb0).trans (hb1.mono (by simp)))
    have Hr1 := hide (Rd.of_own ho1)
    clear hb1 ho1 hbk1 KP u1 u2 hand
    by_cases k4 : ck = 0
    case neg =>
      have hm : mv = 1 := by rw [unhide Hmay2, if_pos (.inl k4)]
      have b4 : (ck != 0) = true := by simp [k4]
      have Hm := hide hm
      clear hm k4 hemp
      go_wp2_with fail
      go_ret
      exact (unhide Bad) _ (unhide Hm) (unhide Hb1)
    subst k4
    have b4 : ((0 : Int) != 0) = false := rfl
    cases tb with
    | false =>
      have hm : mv = 1 := by rw [unhide Hmay2, if_pos (.inr (.inl rfl))]
      have Hm := hide hm
      clear hm hemp
      go_wp2_with fail
      go_ret
      exact (unhide Bad) _ (unhide Hm) (unhide Hb1)
    | true =>
    by_cases k5 : np = 0
    · have hm : mv = 1 := by rw [unhide Hmay2, if_pos (.inr (.inr (.inl k5)))]
      have b5 : ((np : Int) == 0) = true := by rw [k5]; rfl
      have Hm := hide hm
      clear hm hemp k5
      go_wp2_with fail
      go_ret
      exact (unhide Bad) _ (unhide Hm) (unhide Hb1)
    have b5 : ((np : Int) == 0) = false := by rw [beq_eq_false_iff_ne]; omega
    cases tl with
    | true =>
      have hm : mv = 1 := by rw [unhide Hmay2, if_pos (.inr (.inr (.inr (.inl rfl))))]
      have Hm := hide hm
      clear hm hemp k5
      go_wp2_with fail
      refine ((unhide KT) _).mono ?_
      rintro e w2 ⟨rfl, rfl⟩
      go_wp2_with fail
      go_ret
      exact (unhide Bad) _ (unhide Hm) (unhide Hb1)
    | false =>
    have Hk5 := hide k5
    clear k5
    go_wp2_with fail
    refine ((unhide KT) _).mono ?_
    rintro e w2 ⟨rfl, rfl⟩
    go_wp2_with fail
    go_loop [6] (fun iv => ∃ k : Nat, k ≤ np ∧ iv = .int .i64 (k : Nat) ∧ (pl.take k).any (fun y => decide (y = Vf.dd)) = false) (fun iv => np - (intOf iv).toNat)
    case atStart => exact ⟨0, Nat.zero_le _, rfl, rfl⟩
    case round =>
    obtain ⟨k, hk, rfl, hno⟩ := hrel
    have Hno := hide hno
    clear hno
    by_cases hlt : k < np
    · obtain ⟨nm, hnm⟩ : ∃ nm, pl[k]? = some nm := ⟨_, List.getElem?_eq_getElem (by rw [unhide Hnp]; exact hlt)⟩
      obtain ⟨bL, oL, rfl, _, cL⟩ := (unhide Hr1).at_ (k := k) (u := .string nm) (by simp [hnm])
      have i1 : (k : Int) < (np : Int) := by omega
      have hdq : (nm.toList == [46, 46]) = decide (nm = Vf.dd) := by
        have h := beq_toList nm Vf.dd
        rwa [show Vf.dd.toList = [46, 46] by rw [Lib.toList_data]; rfl] at h
      by_cases hdd : nm = Vf.dd
      · rw [decide_eq_true hdd] at hdq
        have hany : pl.any (fun y => decide (y = Vf.dd)) = true := List.any_eq_true.2 ⟨nm, List.mem_of_getElem? hnm, by simpa using hdd⟩
        have hm : mv = 1 := by rw [unhide Hmay2, if_pos (.inr (.inr (.inr (.inr hany))))]
        have Hm := hide hm
        clear hm hemp hdd hnm hany
        go_wp2_with fail
        go_ret
        exact (unhide Bad) _ (unhide Hm) (unhide Hb1)
      · rw [decide_eq_false hdd] at hdq
        have hnx : (pl.take (k + 1)).any (fun y => decide (y = Vf.dd)) = false := by
          rw [List.take_add_one, hnm, List.any_append, unhide Hno]
          simp [hdd]
        have Hnx := hide hnx
        clear hnx hemp hdd hnm
        go_wp2_with fail
        go_round
        case rel => exact ⟨k + 1, by omega, by go_num, unhide Hnx⟩
        case measure => simp [intOf]; omega
    · have i1 : ¬ (k : Int) < (np : Int) := by omega
      have hall : pl.any (fun y => decide (y = Vf.dd)) = false := by
        have := unhide Hno
        rwa [List.take_of_length_le (by rw [unhide Hnp]; omega)] at this
      have hmay3 := unhide Hmay2
      rw [if_neg (by rw [hall]; have := unhide Hk5; simp [this])] at hmay3
      have Hmay3 := hide hmay3
      clear hall hmay3 Hno
      by_cases k7 : 0 < n
      · have j1 : (0 : Int) < (n : Int) := by omega
        have hm : mv = 1 := by rw [unhide Hmay3, if_pos (.inl ⟨by have := unhide Hkk; omega, k7⟩)]
        have Hm := hide hm
        clear hm
        go_wp2_with fail
        go_ret
        exact (unhide Bad) _ (unhide Hm) (unhide Hb1)
      have j1 : ¬ (0 : Int) < (n : Int) := by omega
      clear hemp
      by_cases k8 : ct = 0
      · have hn1 : ¬ ((x.kind ≠ 1 ∧ 0 < n) ∨ (x.kind ≠ 3 ∧ x.to.size ≠ 0) ∨ (x.kind = 3 ∧ ct ≠ 0)) := by have := unhide Hkk; omega
        subst k8
        have q8 : ((0 : Int) != 0) = false := rfl
        have Hn1 := hide hn1
        clear hn1
        go_wp2_with fail
        refine ((unhide KK) _).mono ?_
        rintro e w3 ⟨rfl, hb3⟩
        have v5b := (hb3.cell (p := ⟨w.heap.size, 5, none⟩) hlt1).trans v5
        have Hb3 := hide ((unhide Hb1).trans (hb3.mono (unhide Hb1).size))
        clear hb3
        have hm : mv = 0 := by rw [unhide Hmay3, if_neg (unhide Hn1), if_neg (by omega)]
        have b9 : ¬ (65536 : Int) < (n : Int) := by omega
        have Hm := hide hm
        clear hm
        go_wp2_with fail
        go_ret
        exact (have hv := unhide Hm; by subst hv; exact ⟨rfl, (unhide Hb3)⟩)
      · have q8 : (ct != 0) = true := by simp [k8]
        have hm : mv = 1 := by rw [unhide Hmay3, if_pos (.inr (.inr ⟨unhide Hkk, k8⟩))]
        have Hm := hide hm
        clear hm k8
        go_wp2_with fail
        refine ((unhide KK) _).mono ?_
        rintro e w3 ⟨rfl, hb3⟩
        have Hb3 := hide ((unhide Hb1).trans (hb3.mono (unhide Hb1).size))
        clear hb3
        go_wp2_with fail
        go_ret
        exact (unhide Bad) _ (unhide Hm) (unhide Hb3)
  · exact absurd hk4 hk
end Go.Proofs.Yteiciabhfjakgaa
namespace Go.Proofs.Yteiciabhfjakgaa
set_option linter.unusedVariables false
set_option linter.unusedSimpArgs false
open Go.RowKit

theorem rnodeTy : SlTy Try.prog 75 79 9 88 := slTy_mk (z := .agg #[.int .u8 0, .int .u16 0, .int .u32 0, .int .u32 0, .int .i64 0, .int .i64 0, .string ⟨#[]⟩, .slice none 0 0, .string ⟨#[]⟩]) Try.underlying75 (by kernel_rfl) rfl (by omega) (by omega)
theorem rndV_one (y : Vf.Nd × RPl) : ∀ u ∈ rndV y, u.oneCell' = true := by
  intro u hu
  simp only [rndV, List.mem_cons, List.not_mem_nil, or_false] at hu
  rcases hu with rfl | rfl | rfl | rfl | rfl | rfl | rfl | rfl | rfl <;> rfl
section
variable {w1 V V3 : World} {base g c : Nat} {A : Option Addr} {F : List Vf.Nd} {ls : List RPl}
theorem RFs.gOwn (h : RFs w1 base g A c F ls) : (Value.slice A F.length c).ownBlock ≠ some g := by
  intro e
  obtain ⟨cs, h1⟩ := row_blkS h.row e
  have h2 := h.fs
  unfold Blk at h2
  rw [h1] at h2
  injection h2 with h2
  injection h2 with _ h3
  exact absurd h3 (by decide)
/-- The cell of the file system stands behind the append. -/
theorem RFs.addF (h : RFs w1 base g A c F ls) (hb : Below w1.heap.size w1 V) (hg3 : V.grownBy V3 (Value.slice A F.length c).ownBlock) : Blk V3 g 77 [.slice A F.length c] :=
  (hg3.block g (Nat.lt_of_lt_of_le h.fs.lt hb.size) (fun e => h.gOwn e.symm)).trans ((hb.block g h.fs.lt).trans h.fs)
theorem RFs.addFin (h : RFs w1 base g A c F ls) (x : Vf.Nd) (p : RPl) (hlo : base ≤ w1.heap.size) (hb : Below w1.heap.size w1 V) (hp : V.ownsRow base 5 1 (.slice p.A p.n p.c) p.n (bys x.data)) (A' : Option Addr) (c' : Nat)
    (ho3 : V3.ownsRow base 79 9 (.slice A' (F.length + 1) c') (F.length + 1) (rowCs rndV (F.zip ls) ++ rndV (x, p))) (hg3 : V.grownBy V3 (Value.slice A F.length c).ownBlock) :
    RFs (V3.setCell ⟨g, 0, none⟩ (.slice A' (F.length + 1) c')) base g A' c' (F ++ [x]) (ls ++ [p]) ∧ Below base w1 (V3.setCell ⟨g, 0, none⟩ (.slice A' (F.length + 1) c')) := by
  have hg := h.addF hb hg3
  have hV := h.belowSz hb
  have hset : ∀ k, k ≠ g → (V3.setCell ⟨g, 0, none⟩ (.slice A' (F.length + 1) c')).heap[k]? = V3.heap[k]? := fun k hk => heap_setCell_other _ _ _ _ hk
  have hne : (5 : TypeId) ≠ 79 := by decide
  have hgs : ∀ {n2 c2 size : Nat} {e : TypeId} {A2 : Option Addr} {xs : List Value}, V3.ownsRow base e size (.slice A2 n2 c2) n2 xs → e ≠ 77 → (V3.setCell ⟨g, 0, none⟩ (.slice A' (F.length + 1) c')).ownsRow base e size (.slice A2 n2 c2) n2 xs := by
    intro n2 c2 size e A2 xs ho hE
    refine ⟨ho.1, ho.2.imp id fun ⟨k, cap, cur, e1, e2, e3, r⟩ => ⟨k, cap, cur, e1, e2, (hset k ?_).trans e3, r⟩⟩
    rintro rfl
    unfold Blk at hg
    rw [e3] at hg
    injection hg with hg
    injection hg with _ h3
    exact hE h3
  have hdk : ∀ {n2 c2 : Nat} {A2 : Option Addr} {xs : List Value}, V.ownsRow base 5 1 (.slice A2 n2 c2) n2 xs → (V3.setCell ⟨g, 0, none⟩ (.slice A' (F.length + 1) c')).ownsRow base 5 1 (.slice A2 n2 c2) n2 xs :=
    fun ho => hgs (ho.kept hg3 (own_tyne ho hV.row hne)) (by decide)
  refine ⟨⟨by rw [List.length_append, List.length_append, h.len]; rfl, h.lo, ?_, ?_, ?_⟩, ?_⟩
  · rw [List.length_append]
    exact hg.set 0 _
  · rw [List.length_append, List.zip_append h.len.symm, rowCs_app]
    have e1 : rowCs rndV ([x].zip [p]) = rndV (x, p) := by simp [rowCs]
    rw [e1]
    exact hgs ho3 (by decide)
  · intro i y r h1 h2
    rcases snoc_at h1 with ⟨a1, a2⟩ | ⟨a1, a2⟩
    · rcases snoc_at h2 with ⟨b1, b2⟩ | ⟨b1, b2⟩
      · exact hdk (hV.dat i y r a2 b2)
      · have := h.len; omega
    · rcases snoc_at h2 with ⟨b1, b2⟩ | ⟨b1, b2⟩
      · have := h.len; omega
      · subst a2 b2
        exact hdk hp
  · have b1 : Below base w1 V := hb.mono hlo
    have b3 : Below base w1 V3 := b1.grown hg3 (Nat.le_trans hlo b1.size) (fun k hk => (h.row.lt k hk).1)
    exact b3.setCell h.lo _
end
theorem RFs.start (w : World) (A : Option Addr) (c : Nat) (W : World) (ho : W.ownsRow w.heap.size 79 9 (.slice A 1 c) 1 (rndV (Vf.root, ⟨none, 0, 0⟩))) (hf : Blk W w.heap.size 77 [.slice A 1 c]) : RFs W w.heap.size w.heap.size A c [Vf.root] [⟨none, 0, 0⟩] := by
  refine ⟨rfl, Nat.le_refl _, hf, ?_, ?_⟩
  · have e1 : rowCs rndV ([Vf.root].zip [(⟨none, 0, 0⟩ : RPl)]) = rndV (Vf.root, ⟨none, 0, 0⟩) := by simp [rowCs]
    rw [e1]
    exact ho
  · intro i x p h1 h2
    cases i with
    | zero =>
      have e1 : x = Vf.root := by simpa using h1.symm
      have e2 : p = ⟨none, 0, 0⟩ := by simpa using h2.symm
      subst e1 e2
      exact World.ownsRow_nil _ _ _ _
    | succ i => simp at h1
end Go.Proofs.Yteiciabhfjakgaa
