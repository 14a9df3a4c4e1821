/- One entry more: the walk of add. Conditions: as it says. What an argument that is a struct, or a slice of structs, reads as, where each field is one cell. No conditions. Free of any chapter. A file system of entries: the walk of New. Conditions: as it says. The walk of hostelref00.EqTexts: are two lists of texts the same? Condition: the lists are no longer than the model's greatest length. The law's own helpers of scripts: large and the anchor. Conditions: as the arguments'. The walk of ShebangNil. Conditions: none. What the arguments of the chapter's laws read as: credentials, a way, two numbers, entries. No conditions. The walk of hostelref00.CopyBytes (as Elf8, for any chapter). Conditions: there are fewer than 2^32 bytes. Copies of credentials and of entries; how great entries are. Conditions: as each says. Entries copied into memory of their own: the walk of CopyEntries. Conditions: as it says. The entries that made spoils: what is kept while it does so. No conditions. slices.Reverse of a row of texts of the call's own; strings.Join of texts. Conditions: as each says. A node's path: the walk of Path. Conditions: as it says. small: are credentials and a path within what a statement goes through? No conditions. The anchor of the chapter's laws: the walk of works. No conditions. VfsRights: the law's walk. Conditions: those of the arguments. The reference's file system in memory; the walks of its child, at, dir. Conditions: as each says. The walks of the references for paths: Pieces and Check of hostelref02. Condition: the texts are shorter than 2^32 bytes. The walk of the reference Parts of hostelref02. Condition: the texts are shorter than 2^32 bytes. -/
import Derived.Test.YtfegfmapdekkbaaGreatDoorSbB3
import Derived.StillTailTactics
import Derived.Deep.Slices
import Derived.Lib.SmallJoins
import Derived.Deep.LoopGhost
import Derived.Test.YtfegfmapdekkbaaGreatDoorSbB1
import Derived.Test.YtfegfmapdekkbaaGreatDoorProg
import Derived.WalkSpells
import Derived.WalkLawsBesides
import Derived.BigQuiet
import Derived.Deep.QuietTactic
import Derived.Laws.IdiomArrays
import Derived.Test.YtfegfmapdekkbaaGreatDoorSbB2
import Derived.Laws.Rows
import Derived.Test.YtfegfmapdekkbaaGreatDoorShelf
import Derived.Laws.IdiomCopy
import Derived.Lib.RowBridge
namespace Go.Proofs.YtfegfmapdekkbaaGreatDoor
set_option linter.unusedVariables false
set_option linter.unusedSimpArgs false
open Go.RowKit

theorem nodeTy : SlTy Tryz.prog 60 89 1 16 := slTy_mk (z := .nilIface) Tryz.underlying60 (by kernel_rfl) rfl (by omega) (by omega)
/-- What add answers; where it is none, the file system has one node more. -/
def AddE (F : List Vf.Nd) (L : List Pl) (lo f : Nat) (x : Vf.Ent) (w : World) (e : Ending) (w' : World) : Prop :=
  e = .returned (.int .i64 (Vf.add F x).1) ∧ ((Vf.add F x).1 = 0 → ∃ L' A' c', FsM w' lo f A' c' (Vf.add F x).2 L') ∧ Below lo w w'
theorem addE_no {F : List Vf.Nd} {L : List Pl} {lo f : Nat} {x : Vf.Ent} {w w' : World} {er : Int} (h : (Vf.add F x).1 = er) (h0 : er ≠ 0) (hb : Below lo w w') : AddE F L lo f x w (.returned (.int .i64 er)) w' := by
  unfold AddE
  rw [h]
  exact ⟨rfl, fun h1 => absurd h1 h0, hb⟩
theorem atV_ne {w : World} {lo f c : Nat} {A : Option Addr} {F : List Vf.Nd} {L : List Pl} (hF : Vf.Good F) (h : FsM w lo f A c F L) {l : List ByteArray} {i : Nat} (hi : Vf.at_ F 0 l = some i) : ∃ x p, F[i]? = some x ∧ L[i]? = some p ∧ atV F L (Vf.at_ F 0 l) = .iface (kindT x.m.kind) (.pointer (some ⟨p.q, 0, none⟩)) := by
  have hl := Vf.at_lt hF l 0 i (Vf.good_pos hF) hi
  obtain ⟨x, hx⟩ : ∃ x, F[i]? = some x := ⟨_, List.getElem?_eq_getElem hl⟩
  obtain ⟨p, hp, _, _⟩ := h.at_ hx
  exact ⟨x, p, hx, hp, by rw [hi]; exact h.ndA_eq hx hp⟩

set_option maxRecDepth 100000 in
set_option maxHeartbeats 4000000 in
theorem add_any (F : List Vf.Nd) (L : List Pl) (lo f c : Nat) (A Ax : Option Addr) (n cx : Nat) (x : Vf.Ent) (w : World) (hF : Vf.Good F) (h : FsM w lo f A c F L) (hlo : lo ≤ w.heap.size) (hn : F.length ≤ 64)
    (hd : Rd w w.heap.size 1 Ax n (bys x.data)) (hnn : n ≤ 4294967296) (hps : x.path.size ≤ 4294967296) (hto : x.to.size ≤ 4294967296) (hmd : x.mode < 65536) :
    Calls Tryz.prog 15 #[ptrV f, entV x Ax n cx] w (AddE F L lo f x w) := by
  have hdl : x.data.length = n := by simpa [bys] using hd.len1
  have hb0 : Below w.heap.size w (w.alloc (.cells (entC x Ax n cx).toArray 51)) := (Below.refl _ _).alloc (Nat.le_refl _) _
  have hbk : Blk (w.alloc (.cells (entC x Ax n cx).toArray 51)) w.heap.size 51 (entC x Ax n cx) := Blk.new w 51 _
  have KP := hide (partsV_any x Ax n cx (w.alloc (.cells (entC x Ax n cx).toArray 51)) hdl hnn hps hto hmd)
  have KAt : ∀ w', Below w.heap.size w w' → ∀ (A' : Option Addr) (n' c' : Nat) (l : List ByteArray), Rd w' w'.heap.size 1 A' n' (l.map Value.string) → n' ≤ 4294967296 → Calls Tryz.prog 32 #[.pointer (some ⟨f, 0, none⟩), .slice A' n' c'] w' fun e w2 => e = .returned (atV F L (Vf.at_ F 0 l)) ∧ w' = w2 :=
    fun w' hb A' n' c' l hl hn' => at_any F L lo f c A A' n' c' _ l w' hF (h.belowSz hb) (by omega) hl hn'
  have qn : ∀ w', (binOp .eql 89 .nilIface .nilIface).run Tryz.prog w' = .ok (.bool true) w' := fun w' => by kernel_rfl
  have qi : ∀ w' t v, (binOp .eql 89 (.iface t v) .nilIface).run Tryz.prog w' = .ok (.bool false) w' := fun w' t v => by kernel_rfl
  have qn2 : ∀ w', (binOp .neq 89 .nilIface .nilIface).run Tryz.prog w' = .ok (.bool false) w' := fun w' => by kernel_rfl
  have qi2 : ∀ w' t v, (binOp .neq 89 (.iface t v) .nilIface).run Tryz.prog w' = .ok (.bool true) w' := fun w' t v => by kernel_rfl
  have HF := hide hF
  have H := hide h
  have HKAt := hide KAt
  have Hb0 := hide hb0
  have Hbk := hide hbk
  have Hd := hide hd
  have Hdl := hide hdl
  unfold entV at KP ⊢
  unfold ptrV
  clear hF h KAt hb0 hbk hd hdl hps hto
  unfold entC at KP
  go_enter Tryz.func15, Tryz.ntmps15
  go_wp2_with fail
  refine (unhide KP).mono ?_
  rintro e w1 ⟨A1, n1, c1, rfl, ho1, hb1⟩
  have Hbk1 := hide ((unhide Hbk).belowSz hb1)
  have Hb1 := hide ((unhide Hb0).trans (hb1.mono (by simp)))
  have Ho1 := hide ho1
  clear ho1 hb1 KP Hbk
  by_cases hm : Vf.may x = 0
  case neg =>
    have hr : (Vf.add F x).1 = Vf.may x := by unfold Vf.add; rw [if_pos hm]
    have Hr := hide hr
    have Hm := hide hm
    obtain ⟨me, hme⟩ : ∃ v, Vf.may x = v := ⟨_, rfl⟩
    rw [hme] at Hr Hm hm ⊢
    have q1 : (me != 0) = true := by simp [hm]
    have Hb := hide ((unhide Hb1).mono hlo)
    clear hr hm hme
    go_wp2_with fail
    go_ret
    exact addE_no (unhide Hr) (unhide Hm) (unhide Hb)
  obtain ⟨hn1, ho2⟩ := (unhide Ho1) hm
  obtain ⟨m1, m2, m3, m4, m5, m6, m7, m8, m9, m10, m11⟩ := Vf.may_ok hm
  have hpl := Vf.parts_len x.path
  have hadd : Vf.add F x = if (Vf.at_ F 0 (Pth.partsL x.path)).isSome then ((7 : Int), F) else match Vf.at_ F 0 (Pth.partsL x.path).dropLast with
    | none => ((3 : Int), F)
    | some up => if Vf.kindAt F up ≠ 2 then ((8 : Int), F) else ((0 : Int), F ++ [Vf.ndOf x up]) := by
    unfold Vf.add
    rw [if_neg (by simp [hm])]
    rfl
  rw [hm]
  have q1 : ((0 : Int) != 0) = false := rfl
  have hn0 : 0 < n1 := by rw [hn1]; exact List.length_pos_iff.2 m5
  have hr1 := Rd.of_own ho2
  have HKA := hide ((unhide HKAt) w1 (unhide Hb1) A1 n1 c1 (Pth.partsL x.path) hr1 (by omega))
  have hcp := own_cap ho2
  have rs := fun w' => run_to (P := Tryz.prog) Tryz.underlying27 (e := 9) (by kernel_rfl) A1 n1 c1 (n1 - 1) (by omega) w'
  have hdrop : ((Pth.partsL x.path).map Value.string).take (n1 - 1) = (Pth.partsL x.path).dropLast.map Value.string := by
    rw [hn1, List.dropLast_eq_take, List.map_take]
  have hr2 : Rd w1 w1.heap.size 1 A1 (n1 - 1) ((Pth.partsL x.path).dropLast.map Value.string) := by
    rw [← hdrop]
    exact hr1.to_ (by omega)
  have HKA2 := hide ((unhide HKAt) w1 (unhide Hb1) A1 (n1 - 1) c1 (Pth.partsL x.path).dropLast hr2 (by omega))
  obtain ⟨k1, hk1⟩ : ∃ k1, n1 - 1 = k1 := ⟨_, rfl⟩
  have ei : IntKind.i64.wrap ((n1 : Int) - 1) = (k1 : Int) := by rw [IntWalk.i64_in _ (by omega)]; omega
  have j1 : (k1 : Int) < (n1 : Int) := by omega
  rw [hk1] at rs HKA2
  have Hk1 := hide hk1
  clear hk1
  have Hadd := hide hadd
  have Hm := hide hm
  have Hr1 := hide hr1
  have Hn1 := hide hn1
  have Hm11 := hide m11
  have Hm5 := hide m5
  have hn1b : n1 ≤ 201 := by omega
  obtain ⟨pl, hple⟩ : ∃ l, Pth.partsL x.path = l := ⟨_, rfl⟩
  have Hple := hide hple
  clear ho2 m1 m2 m3 m4 m5 m6 m7 m8 m9 m10 m11 hpl hadd hm hr1 hcp hdrop hr2 Ho1 hn1 hple
  cases ha : Vf.at_ F 0 (Pth.partsL x.path) with
  | some i =>
    obtain ⟨xi, pi, _, _, ea⟩ := atV_ne (unhide HF) (unhide H) ha
    rw [ea] at HKA
    have hr : (Vf.add F x).1 = 7 := by rw [unhide Hadd, ha]; rfl
    have Hr := hide hr
    have Hb := hide ((unhide Hb1).mono hlo)
    clear hr ha ea
    go_wp2_with fail
    refine (unhide HKA).mono ?_
    rintro e w2 ⟨rfl, rfl⟩
    go_wp2_with fail
    go_ret
    exact addE_no (unhide Hr) (by decide) (unhide Hb)
  | none =>
    have hadd := unhide Hadd
    rw [ha] at hadd HKA
    simp only [Option.isSome_none, Bool.false_eq_true, if_false] at hadd
    have ea : atV F L none = .nilIface := rfl
    rw [ea] at HKA
    have Hat0 := hide ha
    clear ha ea Hadd
    go_wp2_with fail
    refine (unhide HKA).mono ?_
    rintro e w2 ⟨rfl, rfl⟩
    go_wp2_with fail
    refine (unhide HKA2).mono ?_
    rintro e w2 ⟨rfl, rfl⟩
    cases hu : Vf.at_ F 0 (Pth.partsL x.path).dropLast with
    | none =>
      have ea : atV F L none = .nilIface := rfl
      rw [ea]
      rw [hu] at hadd
      have hr : (Vf.add F x).1 = 3 := by rw [hadd]
      have Hr := hide hr
      have Hb := hide ((unhide Hb1).mono hlo)
      clear hr hu ea hadd
      go_wp2_with fail
      go_ret
      exact addE_no (unhide Hr) (by decide) (unhide Hb)
    | some up =>
      obtain ⟨xu, pu, hxu, hpu, ea⟩ := atV_ne (unhide HF) (unhide H) hu
      rw [hu] at ea hadd
      rw [ea]
      simp only at hadd
      rw [Vf.kindAt_eq hxu] at hadd
      by_cases hk : xu.m.kind = 2
      case neg =>
        rw [if_pos hk] at hadd
        have hr : (Vf.add F x).1 = 8 := by rw [hadd]
        have Hr := hide hr
        have Hb := hide ((unhide Hb1).mono hlo)
        have ha1 := file_no_dir (.pointer (some ⟨pu.q, 0, none⟩))
        have ha2 := link_no_dir (.pointer (some ⟨pu.q, 0, none⟩))
        have et : kindT xu.m.kind = 92 ∨ kindT xu.m.kind = 95 := by
          rcases kind3 (unhide HF) hxu with h1 | h1 | h1
          · exact .inl (by rw [h1]; rfl)
          · exact absurd h1 hk
          · exact .inr (by rw [h1]; rfl)
        clear hr hadd hxu hpu ea hu hk
        rcases et with et | et
        all_goals
          rw [et]
          clear et
          go_wp2_with fail
          go_ret
          exact addE_no (unhide Hr) (by decide) (unhide Hb)
      rw [if_neg (by simp [hk])] at hadd
      have et : kindT xu.m.kind = 52 := by rw [hk]; rfl
      rw [et]
      have ha1 := is_dir (.pointer (some ⟨pu.q, 0, none⟩))
      have Hadd := hide hadd
      have Hxu := hide hxu
      have Hpu := hide hpu
      have Hk := hide hk
      have Hu := hide hu
      have HW1 := hide ((unhide H).belowSz (unhide Hb1))
      have hfs1 := (unhide HW1).fs
      obtain ⟨flen, hfl⟩ : ∃ n, F.length = n := ⟨_, rfl⟩
      have Hfl := hide hfl
      rw [hfl] at hfs1 hn
      have hbk1 := unhide Hbk1
      obtain ⟨nm, hnm⟩ : ∃ nm, Vf.lastOf (Pth.partsL x.path) = nm := ⟨_, rfl⟩
      have hlast : ((Pth.partsL x.path).map Value.string)[k1]? = some (.string nm) := by
        rw [← unhide Hk1, unhide Hn1, ← List.length_map (f := Value.string), ← List.getLast?_eq_getElem?, List.getLast?_map, ← hnm]
        unfold Vf.lastOf
        rw [List.getLast?_eq_some_getLast (unhide Hm5)]
        rfl
      obtain ⟨b3, o3, hA1, _, c3⟩ := (unhide Hr1).at_ (k := k1) hlast
      subst hA1
      have Hnm := hide hnm
      have hcn : Vf.child F up nm = none := by
        have h1 := unhide Hat0
        rw [Vf.lastOf_app (unhide Hm5), Vf.at_app, hu, hnm] at h1
        cases hq : Vf.child F up nm with
        | none => rfl
        | some j => simp [Vf.at_, hq] at h1
      have HSK : ∀ w', Below w1.heap.size w1 w' → (Below w1.heap.size w1 w' ∧ w'.cell? ⟨w.heap.size, 1, none⟩ = some (.int .u8 (x.kind : Nat)) ∧ w'.cell? ⟨w.heap.size, 2, none⟩ = some (.int .u16 (x.mode : Nat)) ∧ w'.cell? ⟨w.heap.size, 3, none⟩ = some (.int .u32 (x.uid : Nat)) ∧ w'.cell? ⟨w.heap.size, 4, none⟩ = some (.int .u32 (x.gid : Nat)) ∧ w'.cell? ⟨w.heap.size, 5, none⟩ = some (.slice Ax n cx) ∧ w'.cell? ⟨f, 0, none⟩ = some (.slice A flen c) ∧ w'.cell? ⟨b3, o3 + k1, none⟩ = some (.string nm)) := by
        intro w' hbw
        have h1 := hbk1.belowSz hbw
        have h2 := hfs1.belowSz hbw
        refine ⟨hbw, h1.cell rfl, h1.cell rfl, h1.cell rfl, h1.cell rfl, h1.cell rfl, h2.cell rfl, (hbw.cell (p := ⟨b3, o3 + k1, none⟩) (cell_lt c3)).trans c3⟩
      have v := HSK w1 (Below.refl _ _)
      obtain ⟨-, v1, v2, v3, v4, v5, v6, v7⟩ := v
      have HSK' := hide HSK
      have hbW : Below w1.heap.size w1 (w1.alloc (.cells #[.int .u8 (x.kind : Nat), .int .u16 (x.mode : Nat), .int .u32 (x.uid : Nat), .int .u32 (x.gid : Nat), .int .i64 (n : Nat), .int .i64 (flen : Nat), .pointer (some ⟨pu.q, 0, none⟩), .string nm] 56)).drew := below_drew' ((Below.refl _ _).alloc (Nat.le_refl _) _)
      have hBb : Blk (w1.alloc (.cells #[.int .u8 (x.kind : Nat), .int .u16 (x.mode : Nat), .int .u32 (x.uid : Nat), .int .u32 (x.gid : Nat), .int .i64 (n : Nat), .int .i64 (flen : Nat), .pointer (some ⟨pu.q, 0, none⟩), .string nm] 56)).drew w1.heap.size 56 [.int .u8 (x.kind : Nat), .int .u16 (x.mode : Nat), .int .u32 (x.uid : Nat), .int .u32 (x.gid : Nat), .int .i64 (n : Nat), .int .i64 (flen : Nat), .pointer (some ⟨pu.q, 0, none⟩), .string nm] := Blk.new w1 _ _
      have HbW := hide hbW
      have HBb := hide hBb
      clear hbW hBb
      clear hadd hxu hpu ea hu hk et HSK c3 hlast hnm hbk1 hfs1 hfl
      go_wp2_with fail
      go_region_held3 (fun w' => Below w1.heap.size w1 w' ∧ w'.cell? ⟨w.heap.size, 1, none⟩ = some (.int .u8 (x.kind : Nat)) ∧ w'.cell? ⟨w.heap.size, 2, none⟩ = some (.int .u16 (x.mode : Nat)) ∧ w'.cell? ⟨w.heap.size, 3, none⟩ = some (.int .u32 (x.uid : Nat)) ∧ w'.cell? ⟨w.heap.size, 4, none⟩ = some (.int .u32 (x.gid : Nat)) ∧ w'.cell? ⟨w.heap.size, 5, none⟩ = some (.slice Ax n cx) ∧ w'.cell? ⟨f, 0, none⟩ = some (.slice A flen c) ∧ w'.cell? ⟨b3, o3 + k1, none⟩ = some (.string nm)) (first | exact (unhide HSK') _ (below_drew' (Below.refl _ _)) | exact (unhide HSK') _ (below_drew' ((Below.refl _ _).alloc (Nat.le_refl _) _)) | exact (unhide HSK') _ (unhide HbW)) (fail)
      clear v1 v2 v3 v4 v5 v6 v7
      generalize (w1.alloc (.cells #[.int .u8 (x.kind : Nat), .int .u16 (x.mode : Nat), .int .u32 (x.uid : Nat), .int .u32 (x.gid : Nat), .int .i64 (n : Nat), .int .i64 (flen : Nat), .pointer (some ⟨pu.q, 0, none⟩), .string nm] 56)).drew = W at *
      obtain ⟨-, v1, v2, v3, v4, v5, v6, v7⟩ := (unhide HSK') W (unhide HbW)
      have hB2 := (unhide HBb)
      obtain ⟨y0, y1, y2, y3, y4, y5, y6, y7⟩ : W.cell? ⟨w1.heap.size, 0, none⟩ = some (.int .u8 (x.kind : Nat)) ∧ W.cell? ⟨w1.heap.size, 1, none⟩ = some (.int .u16 (x.mode : Nat)) ∧ W.cell? ⟨w1.heap.size, 2, none⟩ = some (.int .u32 (x.uid : Nat)) ∧ W.cell? ⟨w1.heap.size, 3, none⟩ = some (.int .u32 (x.gid : Nat)) ∧ W.cell? ⟨w1.heap.size, 4, none⟩ = some (.int .i64 (n : Nat)) ∧ W.cell? ⟨w1.heap.size, 5, none⟩ = some (.int .i64 (flen : Nat)) ∧ W.cell? ⟨w1.heap.size, 6, none⟩ = some (.pointer (some ⟨pu.q, 0, none⟩)) ∧ W.cell? ⟨w1.heap.size, 7, none⟩ = some (.string nm) := ⟨hB2.cell rfl, hB2.cell rfl, hB2.cell rfl, hB2.cell rfl, hB2.cell rfl, hB2.cell rfl, hB2.cell rfl, hB2.cell rfl⟩
      clear hB2
      have hmm := @run_makeMap Tryz.prog
      have hkind := (Vf.may_ok (unhide Hm)).1
      rcases (show x.kind = 1 ∨ x.kind = 2 ∨ x.kind = 3 by omega) with hk | hk | hk
      · have q2 : ((x.kind : Int) == 2) = false := by rw [hk]; rfl
        have q3 : ((x.kind : Int) == 1) = true := by rw [hk]; rfl
        have KC : ∀ w', Below W.heap.size W w' → Calls Tryz.prog 33 #[.slice Ax n cx] w' (CloneBE n x.data w') := fun w' hb =>
          cloneB_any Ax n cx w.heap.size x.data w' ((unhide Hd).below ((unhide Hb1).trans (((unhide HbW).mono (unhide Hb1).size).trans (hb.mono (Nat.le_trans (unhide Hb1).size (unhide HbW).size))))) (Nat.le_trans (Nat.le_trans (unhide Hb1).size (unhide HbW).size) hb.size) hnn
        have HSC : ∀ w', Below W.heap.size W w' → (Below W.heap.size W w' ∧ w'.cell? ⟨w1.heap.size, 0, none⟩ = some (.int .u8 (x.kind : Nat)) ∧ w'.cell? ⟨w1.heap.size, 1, none⟩ = some (.int .u16 (x.mode : Nat)) ∧ w'.cell? ⟨w1.heap.size, 2, none⟩ = some (.int .u32 (x.uid : Nat)) ∧ w'.cell? ⟨w1.heap.size, 3, none⟩ = some (.int .u32 (x.gid : Nat)) ∧ w'.cell? ⟨w1.heap.size, 4, none⟩ = some (.int .i64 (n : Nat)) ∧ w'.cell? ⟨w1.heap.size, 5, none⟩ = some (.int .i64 (flen : Nat)) ∧ w'.cell? ⟨w1.heap.size, 6, none⟩ = some (.pointer (some ⟨pu.q, 0, none⟩)) ∧ w'.cell? ⟨w1.heap.size, 7, none⟩ = some (.string nm) ∧ w'.cell? ⟨w.heap.size, 5, none⟩ = some (.slice Ax n cx)) := by
          intro w' hb
          have h1 := (unhide HBb).belowSz hb
          have h2 := (unhide HSK') w' ((unhide HbW).trans (hb.mono (unhide HbW).size))
          exact ⟨hb, h1.cell rfl, h1.cell rfl, h1.cell rfl, h1.cell rfl, h1.cell rfl, h1.cell rfl, h1.cell rfl, h1.cell rfl, h2.2.2.2.2.2.1⟩
        have Hkk := hide hk
        have HKC := hide KC
        have HSC' := hide HSC
        clear hk hkind KC HSC
        go_wp2_with fail
        go_region_held3 (fun w' => Below W.heap.size W w' ∧ w'.cell? ⟨w1.heap.size, 0, none⟩ = some (.int .u8 (x.kind : Nat)) ∧ w'.cell? ⟨w1.heap.size, 1, none⟩ = some (.int .u16 (x.mode : Nat)) ∧ w'.cell? ⟨w1.heap.size, 2, none⟩ = some (.int .u32 (x.uid : Nat)) ∧ w'.cell? ⟨w1.heap.size, 3, none⟩ = some (.int .u32 (x.gid : Nat)) ∧ w'.cell? ⟨w1.heap.size, 4, none⟩ = some (.int .i64 (n : Nat)) ∧ w'.cell? ⟨w1.heap.size, 5, none⟩ = some (.int .i64 (flen : Nat)) ∧ w'.cell? ⟨w1.heap.size, 6, none⟩ = some (.pointer (some ⟨pu.q, 0, none⟩)) ∧ w'.cell? ⟨w1.heap.size, 7, none⟩ = some (.string nm) ∧ w'.cell? ⟨w.heap.size, 5, none⟩ = some (.slice Ax n cx)) (first | exact (unhide HSC') _ (below_drew' (Below.refl _ _)) | exact (unhide HSC') _ (unhide hbn) | exact (unhide HSC') _ ((unhide hbn).alloc (unhide hbn).size _)) (first
          | (go_at_call 33; rename Below _ _ _ ∧ _ => hH; refine ((unhide HKC) _ hH.1).mono ?_; rintro e w3 ⟨A5, c5, rfl, ho5, hb5⟩; have hbn := hide (hH.1.trans (hb5.mono hH.1.size)); have Ho5 := hide ho5; have Hlo5 := hide (Nat.le_trans (unhide HbW).size hH.1.size); clear ho5 hb5))
        have HbW3 := hide ((unhide HbW).trans ((unhide hbn).mono (unhide HbW).size))
        go_wp2_with fail
        obtain ⟨np, hnp⟩ : ∃ np : Pl, (⟨w3.heap.size, 0, A5, n, c5⟩ : Pl) = np := ⟨_, rfl⟩
        have hbV : Below w1.heap.size w1 (w3.alloc (.cells #[.int .u8 (x.kind : Nat), .int .u16 (x.mode : Nat), .int .u32 (x.uid : Nat), .int .u32 (x.gid : Nat), .int .i64 (n : Nat), .int .i64 (flen : Nat), .pointer (some ⟨pu.q, 0, none⟩), .string nm, .slice A5 n c5] 94)) := (unhide HbW3).alloc (unhide HbW3).size _
        have hndV : Blk (w3.alloc (.cells #[.int .u8 (x.kind : Nat), .int .u16 (x.mode : Nat), .int .u32 (x.uid : Nat), .int .u32 (x.gid : Nat), .int .i64 (n : Nat), .int .i64 (flen : Nat), .pointer (some ⟨pu.q, 0, none⟩), .string nm, .slice A5 n c5] 94)) np.q (blkT (Vf.ndOf x up).m.kind) (ndC (Vf.ndOf x up) F.length pu.q np) := by
          have e1 : ndC (Vf.ndOf x up) F.length pu.q np = [.int .u8 (x.kind : Nat), .int .u16 (x.mode : Nat), .int .u32 (x.uid : Nat), .int .u32 (x.gid : Nat), .int .i64 (n : Nat), .int .i64 (flen : Nat), .pointer (some ⟨pu.q, 0, none⟩), .string nm, .slice A5 n c5] := by
            unfold ndC lastV
            rw [show (Vf.ndOf x up).m.kind = x.kind from rfl, if_neg (by rw [unhide Hkk]; decide), if_pos (unhide Hkk), unhide Hfl]
            try rw [← hnp]
            simp only [Vf.ndOf, unhide Hdl, unhide Hnm]
            rfl
          have e2 : blkT (Vf.ndOf x up).m.kind = 94 := by rw [show (Vf.ndOf x up).m.kind = x.kind from rfl, unhide Hkk]; rfl
          rw [e1, e2, ← hnp]
          exact Blk.new w3 94 [.int .u8 (x.kind : Nat), .int .u16 (x.mode : Nat), .int .u32 (x.uid : Nat), .int .u32 (x.gid : Nat), .int .i64 (n : Nat), .int .i64 (flen : Nat), .pointer (some ⟨pu.q, 0, none⟩), .string nm, .slice A5 n c5]
        have hbyV : (Vf.ndOf x up).m.kind = 1 → np.n = (Vf.ndOf x up).data.length ∧ np.n ≤ np.c ∧ RdI (w3.alloc (.cells #[.int .u8 (x.kind : Nat), .int .u16 (x.mode : Nat), .int .u32 (x.uid : Nat), .int .u32 (x.gid : Nat), .int .i64 (n : Nat), .int .i64 (flen : Nat), .pointer (some ⟨pu.q, 0, none⟩), .string nm, .slice A5 n c5] 94)) w1.heap.size 5 1 np.A np.n ((Vf.ndOf x up).data.map fun b => Value.int .u8 (b.toNat : Nat)) := by
          intro _
          rw [← hnp]
          refine ⟨(unhide Hdl).symm, own_cap (unhide Ho5), ?_⟩
          have h5 : RdI w3 w1.heap.size 5 1 A5 n (bys x.data) := RdI.of_own (own_base (unhide Ho5) (unhide Hlo5))
          exact h5.keep fun k o _ ho _ => (Below.heap_alloc _ _ _ (Array.getElem?_eq_some_iff.1 ho).1).trans ho
        have hdmV : (Vf.ndOf x up).m.kind = 2 → w1.heap.size ≤ np.g ∧ MapG (w3.alloc (.cells #[.int .u8 (x.kind : Nat), .int .u16 (x.mode : Nat), .int .u32 (x.uid : Nat), .int .u32 (x.gid : Nat), .int .i64 (n : Nat), .int .i64 (flen : Nat), .pointer (some ⟨pu.q, 0, none⟩), .string nm, .slice A5 n c5] 94)) np.g .string [] := by
          intro h
          have : x.kind = 2 := h
          rw [unhide Hkk] at this
          cases this
        have hnpq : w1.heap.size ≤ np.q := by rw [← hnp]; exact (unhide HbW3).size
        have hnpe : np.q = w3.heap.size := by rw [← hnp]
        clear hnp
        generalize (w3.alloc (.cells #[.int .u8 (x.kind : Nat), .int .u16 (x.mode : Nat), .int .u32 (x.uid : Nat), .int .u32 (x.gid : Nat), .int .i64 (n : Nat), .int .i64 (flen : Nat), .pointer (some ⟨pu.q, 0, none⟩), .string nm, .slice A5 n c5] 94)) = V at *
        rw [← hnpe]
        clear hnpe
        have HbV := hide hbV
        have HnV := hide hndV
        have HyV := hide hbyV
        have HdV := hide hdmV
        clear hbV hndV hbyV hdmV
        obtain ⟨-, z1, z2, z3, z4, z5, z6, z7⟩ := (unhide HSK') V (unhide HbV)
        have hmu := ((unhide HW1).map up xu pu (unhide Hxu) (unhide Hpu) (unhide Hk)).2.belowSz (unhide HbV)
        obtain ⟨_, uu, _, hbu⟩ := (unhide HW1).nd up xu pu (unhide Hxu) (unhide Hpu)
        have e8 : lastV xu pu = .map (some pu.g) := by unfold lastV; rw [if_pos (unhide Hk)]
        have z8 : V.cell? ⟨pu.q, 8, none⟩ = some (lastV xu pu) := (hbu.belowSz (unhide HbV)).cell rfl
        rw [e8] at z8
        have z7' : World.cell? { heap := V.heap, tape := V.tape, drawn := V.drawn + 1, os := V.os, output := V.output } ⟨b3, o3 + k1, none⟩ = some (.string nm) := z7
        have z8' : World.cell? { heap := V.heap, tape := V.tape, drawn := V.drawn + 1, os := V.os, output := V.output } ⟨pu.q, 8, none⟩ = some (.map (some pu.g)) := z8
        have hmuD : MapG V.drew pu.g .string (kidsM F L up) := ⟨hmu.there, hmu.keys, hmu.once⟩
        have hnone := kids_no (unhide HF) (L := L) (hcn)
        have HmuD := hide hmuD
        have Hnone := hide hnone
        clear v1 v2 v3 v4 v5 v6 v7 y0 y1 y2 y3 y4 y5 y6 y7 z1 z2 z3 z4 z5 z6 hmu hbu e8 hmuD hnone
        go_still_tail 9, (by kernel_rfl)
        change wpList _ _ _ _ _ V.drew
        refine wpList_updG (x := .string nm) (g := pu.g) rfl _ _ _ rfl Tryz.underlying57 Tryz.underlying9 (by simp [Go.MapKept.IsKey]) rfl rfl rfl (unhide HmuD) (unhide Hnone) ?_
        intro V2 hm2 hg2 hs2
        have HbV' : Hid (Below w1.heap.size w1 V.drew) := hide (below_drew' (unhide HbV))
        obtain ⟨f2, r2, s2, f3⟩ := (unhide HW1).addF (unhide Hxu) (unhide Hpu) (unhide Hk) (unhide HbV') hg2
        have u0 : V2.cell? ⟨f, 0, none⟩ = some (.slice A F.length c) := f2.cell rfl
        rw [unhide Hfl] at u0
        have Hr2 := hide r2
        have Hf3 := hide f3
        have Hm2 := hide hm2
        have Hg2 := hide hg2
        have hlo2 : lo ≤ V2.heap.size := by have := (unhide Hb1).size; omega
        clear f2 r2 s2 f3 hm2 hg2 hs2 z7 z8 z7' z8'
        go_wp2_with (at_builtin; refine wpList_app1 nodeTy rfl _ _ rfl lo (.slice A flen c) flen _ rfl (by have := unhide Hr2; rw [unhide Hfl] at this; exact this) #[.iface 92 (.pointer (some ⟨np.q, 0, none⟩))] rfl rfl (by simp [Value.oneCell']) (by omega) hlo2 ?_; intro A4 c4 V3 ho3 hg3 hat3; have hff := (unhide Hf3) V3 (by rw [unhide Hfl]; exact hg3); have t0 : V3.cell? ⟨f, 0, none⟩ = some (.slice A F.length c) := hff.cell rfl; rw [unhide Hfl] at t0; have tf : V3.frozen? ⟨f, 0, none⟩ = false := hff.free 0; have Ho3 := hide ho3; have Hg3 := hide hg3; clear ho3 hg3 hat3 hff)
        go_ret
        have hnd0 : ndV (Vf.ndOf x up) np = .iface 92 (.pointer (some ⟨np.q, 0, none⟩)) := by unfold ndV kindT; rw [show (Vf.ndOf x up).m.kind = x.kind from rfl, unhide Hkk]; rfl
        have hnm0 : (Vf.ndOf x up).name = nm := unhide Hnm
        have hfin := (unhide HW1).addFin (V := V.drew) (V2 := V2) (V3 := V3) (unhide HF) (Vf.ndOf x up) np xu pu (unhide Hxu) (unhide Hpu) (unhide Hk) (by have := (unhide Hb1).size; omega) (unhide HbV') (by rw [hnm0, hnd0]; exact unhide Hm2) (unhide Hg2) A4 c4 (by rw [hnd0, unhide Hfl]; exact unhide Ho3) (by rw [unhide Hfl]; exact unhide Hg3) hnpq (unhide HnV) (unhide HyV) (fun h => ⟨((unhide HdV) h).1, ((unhide HdV) h).2.keep rfl⟩)
        rw [unhide Hfl] at hfin
        unfold AddE
        rw [unhide Hadd]
        exact ⟨rfl, fun _ => ⟨_, A4, c4, hfin.1⟩, ((unhide Hb1).mono hlo).trans hfin.2⟩
      · have q2 : ((x.kind : Int) == 2) = true := by rw [hk]; rfl
        have Hkk := hide hk
        clear hk hkind
        go_wp2_with fail
        obtain ⟨np, hnp⟩ : ∃ np : Pl, (⟨W.heap.size + 1, W.heap.size, none, 0, 0⟩ : Pl) = np := ⟨_, rfl⟩
        have hbV : Below w1.heap.size w1 ((W.alloc (.map #[] 0)).alloc (.cells #[.int .u8 (x.kind : Nat), .int .u16 (x.mode : Nat), .int .u32 (x.uid : Nat), .int .u32 (x.gid : Nat), .int .i64 (n : Nat), .int .i64 (flen : Nat), .pointer (some ⟨pu.q, 0, none⟩), .string nm, .map (some W.heap.size)] 59)) := ((unhide HbW).alloc (unhide HbW).size _).alloc (by have := (unhide HbW).size; simp; omega) _
        have hndV : Blk ((W.alloc (.map #[] 0)).alloc (.cells #[.int .u8 (x.kind : Nat), .int .u16 (x.mode : Nat), .int .u32 (x.uid : Nat), .int .u32 (x.gid : Nat), .int .i64 (n : Nat), .int .i64 (flen : Nat), .pointer (some ⟨pu.q, 0, none⟩), .string nm, .map (some W.heap.size)] 59)) np.q (blkT (Vf.ndOf x up).m.kind) (ndC (Vf.ndOf x up) F.length pu.q np) := by
          have e1 : ndC (Vf.ndOf x up) F.length pu.q np = [.int .u8 (x.kind : Nat), .int .u16 (x.mode : Nat), .int .u32 (x.uid : Nat), .int .u32 (x.gid : Nat), .int .i64 (n : Nat), .int .i64 (flen : Nat), .pointer (some ⟨pu.q, 0, none⟩), .string nm, .map (some W.heap.size)] := by
            unfold ndC lastV
            rw [show (Vf.ndOf x up).m.kind = x.kind from rfl, if_pos (unhide Hkk), unhide Hfl]
            try rw [← hnp]
            simp only [Vf.ndOf, unhide Hdl, unhide Hnm]
            rfl
          have e2 : blkT (Vf.ndOf x up).m.kind = 59 := by rw [show (Vf.ndOf x up).m.kind = x.kind from rfl, unhide Hkk]; rfl
          rw [e1, e2, ← hnp]
          have := Blk.new (W.alloc (.map #[] 0)) 59 [.int .u8 (x.kind : Nat), .int .u16 (x.mode : Nat), .int .u32 (x.uid : Nat), .int .u32 (x.gid : Nat), .int .i64 (n : Nat), .int .i64 (flen : Nat), .pointer (some ⟨pu.q, 0, none⟩), .string nm, .map (some W.heap.size)]
          rw [World.size_alloc] at this
          exact this
        have hbyV : (Vf.ndOf x up).m.kind = 1 → np.n = (Vf.ndOf x up).data.length ∧ np.n ≤ np.c ∧ RdI ((W.alloc (.map #[] 0)).alloc (.cells #[.int .u8 (x.kind : Nat), .int .u16 (x.mode : Nat), .int .u32 (x.uid : Nat), .int .u32 (x.gid : Nat), .int .i64 (n : Nat), .int .i64 (flen : Nat), .pointer (some ⟨pu.q, 0, none⟩), .string nm, .map (some W.heap.size)] 59)) w1.heap.size 5 1 np.A np.n ((Vf.ndOf x up).data.map fun b => Value.int .u8 (b.toNat : Nat)) := by
          intro h
          have : x.kind = 1 := h
          rw [unhide Hkk] at this
          cases this
        have hdmV : (Vf.ndOf x up).m.kind = 2 → w1.heap.size ≤ np.g ∧ MapG ((W.alloc (.map #[] 0)).alloc (.cells #[.int .u8 (x.kind : Nat), .int .u16 (x.mode : Nat), .int .u32 (x.uid : Nat), .int .u32 (x.gid : Nat), .int .i64 (n : Nat), .int .i64 (flen : Nat), .pointer (some ⟨pu.q, 0, none⟩), .string nm, .map (some W.heap.size)] 59)) np.g .string [] := by
          intro _
          rw [← hnp]
          exact ⟨(unhide HbW).size, (MapG.nil W _).belowSz ((Below.refl _ _).alloc (Nat.le_refl _) _)⟩
        have hnpq : w1.heap.size ≤ np.q := by rw [← hnp]; have := (unhide HbW).size; simp; omega
        have hnpe : np.q = W.heap.size + 1 := by rw [← hnp]
        clear hnp
        generalize ((W.alloc (.map #[] 0)).alloc (.cells #[.int .u8 (x.kind : Nat), .int .u16 (x.mode : Nat), .int .u32 (x.uid : Nat), .int .u32 (x.gid : Nat), .int .i64 (n : Nat), .int .i64 (flen : Nat), .pointer (some ⟨pu.q, 0, none⟩), .string nm, .map (some W.heap.size)] 59)) = V at *
        rw [← hnpe]
        clear hnpe
        have HbV := hide hbV
        have HnV := hide hndV
        have HyV := hide hbyV
        have HdV := hide hdmV
        clear hbV hndV hbyV hdmV
        obtain ⟨-, z1, z2, z3, z4, z5, z6, z7⟩ := (unhide HSK') V (unhide HbV)
        have hmu := ((unhide HW1).map up xu pu (unhide Hxu) (unhide Hpu) (unhide Hk)).2.belowSz (unhide HbV)
        obtain ⟨_, uu, _, hbu⟩ := (unhide HW1).nd up xu pu (unhide Hxu) (unhide Hpu)
        have e8 : lastV xu pu = .map (some pu.g) := by unfold lastV; rw [if_pos (unhide Hk)]
        have z8 : V.cell? ⟨pu.q, 8, none⟩ = some (lastV xu pu) := (hbu.belowSz (unhide HbV)).cell rfl
        rw [e8] at z8
        have z7' : World.cell? { heap := V.heap, tape := V.tape, drawn := V.drawn + 1, os := V.os, output := V.output } ⟨b3, o3 + k1, none⟩ = some (.string nm) := z7
        have z8' : World.cell? { heap := V.heap, tape := V.tape, drawn := V.drawn + 1, os := V.os, output := V.output } ⟨pu.q, 8, none⟩ = some (.map (some pu.g)) := z8
        have hmuD : MapG V.drew pu.g .string (kidsM F L up) := ⟨hmu.there, hmu.keys, hmu.once⟩
        have hnone := kids_no (unhide HF) (L := L) (hcn)
        have HmuD := hide hmuD
        have Hnone := hide hnone
        clear v1 v2 v3 v4 v5 v6 v7 y0 y1 y2 y3 y4 y5 y6 y7 z1 z2 z3 z4 z5 z6 hmu hbu e8 hmuD hnone
        go_still_tail 9, (by kernel_rfl)
        change wpList _ _ _ _ _ V.drew
        refine wpList_updG (x := .string nm) (g := pu.g) rfl _ _ _ rfl Tryz.underlying57 Tryz.underlying9 (by simp [Go.MapKept.IsKey]) rfl rfl rfl (unhide HmuD) (unhide Hnone) ?_
        intro V2 hm2 hg2 hs2
        have HbV' : Hid (Below w1.heap.size w1 V.drew) := hide (below_drew' (unhide HbV))
        obtain ⟨f2, r2, s2, f3⟩ := (unhide HW1).addF (unhide Hxu) (unhide Hpu) (unhide Hk) (unhide HbV') hg2
        have u0 : V2.cell? ⟨f, 0, none⟩ = some (.slice A F.length c) := f2.cell rfl
        rw [unhide Hfl] at u0
        have Hr2 := hide r2
        have Hf3 := hide f3
        have Hm2 := hide hm2
        have Hg2 := hide hg2
        have hlo2 : lo ≤ V2.heap.size := by have := (unhide Hb1).size; omega
        clear f2 r2 s2 f3 hm2 hg2 hs2 z7 z8 z7' z8'
        go_wp2_with (at_builtin; refine wpList_app1 nodeTy rfl _ _ rfl lo (.slice A flen c) flen _ rfl (by have := unhide Hr2; rw [unhide Hfl] at this; exact this) #[.iface 52 (.pointer (some ⟨np.q, 0, none⟩))] rfl rfl (by simp [Value.oneCell']) (by omega) hlo2 ?_; intro A4 c4 V3 ho3 hg3 hat3; have hff := (unhide Hf3) V3 (by rw [unhide Hfl]; exact hg3); have t0 : V3.cell? ⟨f, 0, none⟩ = some (.slice A F.length c) := hff.cell rfl; rw [unhide Hfl] at t0; have tf : V3.frozen? ⟨f, 0, none⟩ = false := hff.free 0; have Ho3 := hide ho3; have Hg3 := hide hg3; clear ho3 hg3 hat3 hff)
        go_ret
        have hnd0 : ndV (Vf.ndOf x up) np = .iface 52 (.pointer (some ⟨np.q, 0, none⟩)) := by unfold ndV kindT; rw [show (Vf.ndOf x up).m.kind = x.kind from rfl, unhide Hkk]; rfl
        have hnm0 : (Vf.ndOf x up).name = nm := unhide Hnm
        have hfin := (unhide HW1).addFin (V := V.drew) (V2 := V2) (V3 := V3) (unhide HF) (Vf.ndOf x up) np xu pu (unhide Hxu) (unhide Hpu) (unhide Hk) (by have := (unhide Hb1).size; omega) (unhide HbV') (by rw [hnm0, hnd0]; exact unhide Hm2) (unhide Hg2) A4 c4 (by rw [hnd0, unhide Hfl]; exact unhide Ho3) (by rw [unhide Hfl]; exact unhide Hg3) hnpq (unhide HnV) (unhide HyV) (fun h => ⟨((unhide HdV) h).1, ((unhide HdV) h).2.keep rfl⟩)
        rw [unhide Hfl] at hfin
        unfold AddE
        rw [unhide Hadd]
        exact ⟨rfl, fun _ => ⟨_, A4, c4, hfin.1⟩, ((unhide Hb1).mono hlo).trans hfin.2⟩
      · have q2 : ((x.kind : Int) == 2) = false := by rw [hk]; rfl
        have q3 : ((x.kind : Int) == 1) = false := by rw [hk]; rfl
        have v6t : W.cell? ⟨w.heap.size, 6, none⟩ = some (.string x.to) := ((unhide Hbk1).belowSz (unhide HbW)).cell rfl
        have Hkk := hide hk
        clear hk hkind
        go_wp2_with fail
        obtain ⟨np, hnp⟩ : ∃ np : Pl, (⟨W.heap.size, 0, none, 0, 0⟩ : Pl) = np := ⟨_, rfl⟩
        have hbV : Below w1.heap.size w1 (W.alloc (.cells #[.int .u8 (x.kind : Nat), .int .u16 (x.mode : Nat), .int .u32 (x.uid : Nat), .int .u32 (x.gid : Nat), .int .i64 (n : Nat), .int .i64 (flen : Nat), .pointer (some ⟨pu.q, 0, none⟩), .string nm, .string x.to] 97)) := (unhide HbW).alloc (unhide HbW).size _
        have hndV : Blk (W.alloc (.cells #[.int .u8 (x.kind : Nat), .int .u16 (x.mode : Nat), .int .u32 (x.uid : Nat), .int .u32 (x.gid : Nat), .int .i64 (n : Nat), .int .i64 (flen : Nat), .pointer (some ⟨pu.q, 0, none⟩), .string nm, .string x.to] 97)) np.q (blkT (Vf.ndOf x up).m.kind) (ndC (Vf.ndOf x up) F.length pu.q np) := by
          have e1 : ndC (Vf.ndOf x up) F.length pu.q np = [.int .u8 (x.kind : Nat), .int .u16 (x.mode : Nat), .int .u32 (x.uid : Nat), .int .u32 (x.gid : Nat), .int .i64 (n : Nat), .int .i64 (flen : Nat), .pointer (some ⟨pu.q, 0, none⟩), .string nm, .string x.to] := by
            unfold ndC lastV
            rw [show (Vf.ndOf x up).m.kind = x.kind from rfl, if_neg (by rw [unhide Hkk]; decide), if_neg (by rw [unhide Hkk]; decide), unhide Hfl]
            try rw [← hnp]
            simp only [Vf.ndOf, unhide Hdl, unhide Hnm]
            rfl
          have e2 : blkT (Vf.ndOf x up).m.kind = 97 := by rw [show (Vf.ndOf x up).m.kind = x.kind from rfl, unhide Hkk]; rfl
          rw [e1, e2, ← hnp]
          exact Blk.new W 97 [.int .u8 (x.kind : Nat), .int .u16 (x.mode : Nat), .int .u32 (x.uid : Nat), .int .u32 (x.gid : Nat), .int .i64 (n : Nat), .int .i64 (flen : Nat), .pointer (some ⟨pu.q, 0, none⟩), .string nm, .string x.to]
        have hbyV : (Vf.ndOf x up).m.kind = 1 → np.n = (Vf.ndOf x up).data.length ∧ np.n ≤ np.c ∧ RdI (W.alloc (.cells #[.int .u8 (x.kind : Nat), .int .u16 (x.mode : Nat), .int .u32 (x.uid : Nat), .int .u32 (x.gid : Nat), .int .i64 (n : Nat), .int .i64 (flen : Nat), .pointer (some ⟨pu.q, 0, none⟩), .string nm, .string x.to] 97)) w1.heap.size 5 1 np.A np.n ((Vf.ndOf x up).data.map fun b => Value.int .u8 (b.toNat : Nat)) := by
          intro h
          have : x.kind = 1 := h
          rw [unhide Hkk] at this
          cases this
        have hdmV : (Vf.ndOf x up).m.kind = 2 → w1.heap.size ≤ np.g ∧ MapG (W.alloc (.cells #[.int .u8 (x.kind : Nat), .int .u16 (x.mode : Nat), .int .u32 (x.uid : Nat), .int .u32 (x.gid : Nat), .int .i64 (n : Nat), .int .i64 (flen : Nat), .pointer (some ⟨pu.q, 0, none⟩), .string nm, .string x.to] 97)) np.g .string [] := by
          intro h
          have : x.kind = 2 := h
          rw [unhide Hkk] at this
          cases this
        have hnpq : w1.heap.size ≤ np.q := by rw [← hnp]; exact (unhide HbW).size
        have hnpe : np.q = W.heap.size := by rw [← hnp]
        clear hnp
        generalize (W.alloc (.cells #[.int .u8 (x.kind : Nat), .int .u16 (x.mode : Nat), .int .u32 (x.uid : Nat), .int .u32 (x.gid : Nat), .int .i64 (n : Nat), .int .i64 (flen : Nat), .pointer (some ⟨pu.q, 0, none⟩), .string nm, .string x.to] 97)) = V at *
        rw [← hnpe]
        clear hnpe
        have HbV := hide hbV
        have HnV := hide hndV
        have HyV := hide hbyV
        have HdV := hide hdmV
        clear hbV hndV hbyV hdmV
        obtain ⟨-, z1, z2, z3, z4, z5, z6, z7⟩ := (unhide HSK') V (unhide HbV)
        have hmu := ((unhide HW1).map up xu pu (unhide Hxu) (unhide Hpu) (unhide Hk)).2.belowSz (unhide HbV)
        obtain ⟨_, uu, _, hbu⟩ := (unhide HW1).nd up xu pu (unhide Hxu) (unhide Hpu)
        have e8 : lastV xu pu = .map (some pu.g) := by unfold lastV; rw [if_pos (unhide Hk)]
        have z8 : V.cell? ⟨pu.q, 8, none⟩ = some (lastV xu pu) := (hbu.belowSz (unhide HbV)).cell rfl
        rw [e8] at z8
        have z7' : World.cell? { heap := V.heap, tape := V.tape, drawn := V.drawn + 1, os := V.os, output := V.output } ⟨b3, o3 + k1, none⟩ = some (.string nm) := z7
        have z8' : World.cell? { heap := V.heap, tape := V.tape, drawn := V.drawn + 1, os := V.os, output := V.output } ⟨pu.q, 8, none⟩ = some (.map (some pu.g)) := z8
        have hmuD : MapG V.drew pu.g .string (kidsM F L up) := ⟨hmu.there, hmu.keys, hmu.once⟩
        have hnone := kids_no (unhide HF) (L := L) (hcn)
        have HmuD := hide hmuD
        have Hnone := hide hnone
        clear v6t v1 v2 v3 v4 v5 v6 v7 y0 y1 y2 y3 y4 y5 y6 y7 z1 z2 z3 z4 z5 z6 hmu hbu e8 hmuD hnone
        go_still_tail 9, (by kernel_rfl)
        change wpList _ _ _ _ _ V.drew
        refine wpList_updG (x := .string nm) (g := pu.g) rfl _ _ _ rfl Tryz.underlying57 Tryz.underlying9 (by simp [Go.MapKept.IsKey]) rfl rfl rfl (unhide HmuD) (unhide Hnone) ?_
        intro V2 hm2 hg2 hs2
        have HbV' : Hid (Below w1.heap.size w1 V.drew) := hide (below_drew' (unhide HbV))
        obtain ⟨f2, r2, s2, f3⟩ := (unhide HW1).addF (unhide Hxu) (unhide Hpu) (unhide Hk) (unhide HbV') hg2
        have u0 : V2.cell? ⟨f, 0, none⟩ = some (.slice A F.length c) := f2.cell rfl
        rw [unhide Hfl] at u0
        have Hr2 := hide r2
        have Hf3 := hide f3
        have Hm2 := hide hm2
        have Hg2 := hide hg2
        have hlo2 : lo ≤ V2.heap.size := by have := (unhide Hb1).size; omega
        clear f2 r2 s2 f3 hm2 hg2 hs2 z7 z8 z7' z8'
        go_wp2_with (at_builtin; refine wpList_app1 nodeTy rfl _ _ rfl lo (.slice A flen c) flen _ rfl (by have := unhide Hr2; rw [unhide Hfl] at this; exact this) #[.iface 95 (.pointer (some ⟨np.q, 0, none⟩))] rfl rfl (by simp [Value.oneCell']) (by omega) hlo2 ?_; intro A4 c4 V3 ho3 hg3 hat3; have hff := (unhide Hf3) V3 (by rw [unhide Hfl]; exact hg3); have t0 : V3.cell? ⟨f, 0, none⟩ = some (.slice A F.length c) := hff.cell rfl; rw [unhide Hfl] at t0; have tf : V3.frozen? ⟨f, 0, none⟩ = false := hff.free 0; have Ho3 := hide ho3; have Hg3 := hide hg3; clear ho3 hg3 hat3 hff)
        go_ret
        have hnd0 : ndV (Vf.ndOf x up) np = .iface 95 (.pointer (some ⟨np.q, 0, none⟩)) := by unfold ndV kindT; rw [show (Vf.ndOf x up).m.kind = x.kind from rfl, unhide Hkk]; rfl
        have hnm0 : (Vf.ndOf x up).name = nm := unhide Hnm
        have hfin := (unhide HW1).addFin (V := V.drew) (V2 := V2) (V3 := V3) (unhide HF) (Vf.ndOf x up) np xu pu (unhide Hxu) (unhide Hpu) (unhide Hk) (by have := (unhide Hb1).size; omega) (unhide HbV') (by rw [hnm0, hnd0]; exact unhide Hm2) (unhide Hg2) A4 c4 (by rw [hnd0, unhide Hfl]; exact unhide Ho3) (by rw [unhide Hfl]; exact unhide Hg3) hnpq (unhide HnV) (unhide HyV) (fun h => ⟨((unhide HdV) h).1, ((unhide HdV) h).2.keep rfl⟩)
        rw [unhide Hfl] at hfin
        unfold AddE
        rw [unhide Hadd]
        exact ⟨rfl, fun _ => ⟨_, A4, c4, hfin.1⟩, ((unhide Hb1).mono hlo).trans hfin.2⟩
end Go.Proofs.YtfegfmapdekkbaaGreatDoor
namespace Go.Proofs.YtfegfmapdekkbaaGreatDoor
set_option linter.unusedVariables false
set_option linter.unusedSimpArgs false
open Go.RowKit Go.ChangeShapes Go.WideShapes Go.Joins Go.Deep

section
variable {H : Type} {enc : TypeId × Value → H} {P : Program} {w : World} {base : Nat} {held : Bool}
theorem flds_one {spare : Nat → Bool} {t : TypeId} {fs : Array Field} {fuel : Nat} {cs : List Value} {x : DataW H × List MemPlace} (ht : P.underlying t = some (.struct fs)) (hone : oneCellFields P fs = true) (hC : P.cellsOf t = fs.size)
    (h : DataW.trod enc P w base spare held fuel t cs = some x) : cs.length = fs.size ∧ ∃ n, ∀ (i : Nat) (f : Field) (v : Value), fs[i]? = some f → cs[i]? = some v → ∃ y, DataW.trod enc P w base spare held n f.type [v] = some y := by
  obtain ⟨xs, n, _, rfl, hl, hlen, hf⟩ := DataW.trod_struct ht h
  refine ⟨hl.trans hC, n, fun i f v hi hv => ?_⟩
  obtain ⟨o, k⟩ := hone_of hone i f hi
  have hi2 : i < fs.size := (Array.getElem?_eq_some_iff.1 hi).1
  have h1 := hf i f hi
  have e : ((cs.drop f.offset).take (P.cellsOf f.type)) = [v] := by
    rw [o, k]
    have hlt : i < cs.length := (List.getElem?_eq_some_iff.1 hv).1
    rw [List.drop_eq_getElem_cons hlt, (List.getElem?_eq_some_iff.1 hv).2]
    rfl
  rw [e] at h1
  exact ⟨_, h1.trans (List.getElem?_eq_getElem (by omega))⟩
/-- The fields of a struct, each one cell, by their types. -/
theorem flds_vals {t : TypeId} (tys : Array TypeId) {fuel : Nat} {cs : List Value} {x : DataW H × List MemPlace}
    (hS : ∃ fs, P.underlying t = some (.struct fs) ∧ oneCellFields P fs = true ∧ P.cellsOf t = fs.size ∧ fs.map (·.type) = tys)
    (h : DataW.trod enc P w base (fun _ => true) held fuel t cs = some x) : cs.length = tys.size ∧ ∃ n, ∀ (i : Nat) (t : TypeId) (v : Value), tys[i]? = some t → cs[i]? = some v → ∃ y, DataW.trod enc P w base (fun _ => true) held n t [v] = some y := by
  obtain ⟨fs, ht, hone, hC, hty⟩ := hS
  obtain ⟨hl, n, hf⟩ := flds_one ht hone hC h
  refine ⟨by rw [← hty]; simpa using hl, n, fun i t v hi hv => ?_⟩
  rw [← hty, Array.getElem?_map] at hi
  cases hq : fs[i]? with
  | none => rw [hq] at hi; cases hi
  | some f =>
    rw [hq] at hi
    obtain ⟨y, hy⟩ := hf i f v hq hv
    have e : f.type = t := by simpa using hi
    rw [e] at hy
    exact ⟨y, hy⟩
theorem fcells_at {a : Addr} {k : Nat} {cs : List Value} (h : w.cells? base a k = some cs) : cs.length = k ∧ ∀ j, j < k → w.cell? (a.add j) = cs[j]? := by
  unfold World.cells? at h
  split at h
  · have hl := mapM_some_length h
    refine ⟨by simpa using hl, fun j hj => ?_⟩
    exact mapM_some_get h j j (by simp [hj])
  · cases h
theorem fslice_is {t e : TypeId} {fuel : Nat} {v : Value} {y : DataW H × List MemPlace} (ht : P.underlying t = some (.slice e)) (hf : DataW.trod enc P w base (fun _ => true) held fuel t [v] = some y) : ∃ A n c, v = .slice A n c := by
  obtain ⟨a, l, c, h⟩ := slice_form ht hf
  simp only [List.cons.injEq, and_true] at h
  exact ⟨a, l, c, h⟩
theorem fu64_is {t : TypeId} {fuel : Nat} {v : Value} {y : DataW H × List MemPlace} (ht : P.underlying t = some (.int .u64)) (hf : DataW.trod enc P w base (fun _ => true) held fuel t [v] = some y) : ∃ n : Nat, v = .int .u64 n ∧ n < 18446744073709551616 := by
  obtain ⟨z, q, -, hw⟩ := DataW.trod_int ht hf
  simp only [List.cons.injEq, and_true] at q
  have b : 0 ≤ z ∧ z ≤ 18446744073709551615 := by simpa [Lit.wf, IntKind.min, IntKind.max, IntKind.signed, IntKind.bits] using hw
  obtain ⟨n, rfl⟩ := Int.eq_ofNat_of_zero_le b.1
  exact ⟨n, q, by omega⟩
theorem fu32_is {t : TypeId} {fuel : Nat} {v : Value} {y : DataW H × List MemPlace} (ht : P.underlying t = some (.int .u32)) (hf : DataW.trod enc P w base (fun _ => true) held fuel t [v] = some y) : ∃ n : Nat, v = .int .u32 n ∧ n < 4294967296 := by
  obtain ⟨z, q, -, hw⟩ := DataW.trod_int ht hf
  simp only [List.cons.injEq, and_true] at q
  have b : 0 ≤ z ∧ z ≤ 4294967295 := by simpa [Lit.wf, IntKind.min, IntKind.max, IntKind.signed, IntKind.bits] using hw
  obtain ⟨n, rfl⟩ := Int.eq_ofNat_of_zero_le b.1
  exact ⟨n, q, by omega⟩
theorem fu16_is {t : TypeId} {fuel : Nat} {v : Value} {y : DataW H × List MemPlace} (ht : P.underlying t = some (.int .u16)) (hf : DataW.trod enc P w base (fun _ => true) held fuel t [v] = some y) : ∃ n : Nat, v = .int .u16 n ∧ n < 65536 := by
  obtain ⟨z, q, -, hw⟩ := DataW.trod_int ht hf
  simp only [List.cons.injEq, and_true] at q
  have b : 0 ≤ z ∧ z ≤ 65535 := by simpa [Lit.wf, IntKind.min, IntKind.max, IntKind.signed, IntKind.bits] using hw
  obtain ⟨n, rfl⟩ := Int.eq_ofNat_of_zero_le b.1
  exact ⟨n, q, by omega⟩
theorem fu8_is {t : TypeId} {fuel : Nat} {v : Value} {y : DataW H × List MemPlace} (ht : P.underlying t = some (.int .u8)) (hf : DataW.trod enc P w base (fun _ => true) held fuel t [v] = some y) : ∃ n : Nat, v = .int .u8 n ∧ n < 256 := by
  obtain ⟨z, q, -, hw⟩ := DataW.trod_int ht hf
  simp only [List.cons.injEq, and_true] at q
  have b : 0 ≤ z ∧ z ≤ 255 := by simpa [Lit.wf, IntKind.min, IntKind.max, IntKind.signed, IntKind.bits] using hw
  obtain ⟨n, rfl⟩ := Int.eq_ofNat_of_zero_le b.1
  exact ⟨n, q, by omega⟩
theorem fint_is {t : TypeId} {fuel : Nat} {v : Value} {y : DataW H × List MemPlace} (ht : P.underlying t = some (.int .i64)) (hf : DataW.trod enc P w base (fun _ => true) held fuel t [v] = some y) : ∃ n : Int, v = .int .i64 n ∧ -9223372036854775808 ≤ n ∧ n ≤ 9223372036854775807 := by
  obtain ⟨z, q, -, hw⟩ := DataW.trod_int ht hf
  simp only [List.cons.injEq, and_true] at q
  have b : -9223372036854775808 ≤ z ∧ z ≤ 9223372036854775807 := by simpa [Lit.wf, IntKind.min, IntKind.max, IntKind.signed, IntKind.bits] using hw
  exact ⟨z, q, b⟩
theorem fstr_is {t : TypeId} {fuel : Nat} {v : Value} {y : DataW H × List MemPlace} (ht : P.underlying t = some .string) (hf : DataW.trod enc P w base (fun _ => true) held fuel t [v] = some y) : ∃ s : ByteArray, v = .string s ∧ s.size ≤ maxLen := by
  obtain ⟨s, q, -, bs⟩ := DataW.trod_string ht hf
  simp only [List.cons.injEq, and_true] at q
  exact ⟨s, q, bs⟩
theorem fbool_is {t : TypeId} {fuel : Nat} {v : Value} {y : DataW H × List MemPlace} (ht : P.underlying t = some .bool) (hf : DataW.trod enc P w base (fun _ => true) held fuel t [v] = some y) : ∃ b : Bool, v = .bool b := by
  obtain ⟨s, q, -⟩ := DataW.trod_bool ht hf
  simp only [List.cons.injEq, and_true] at q
  exact ⟨s, q⟩

/-- The cells of a row of structs. -/
def rowCs {α : Type} (vals : α → List Value) (l : List α) : List Value := l.flatMap vals
theorem rowCs_len {α : Type} {vals : α → List Value} {size : Nat} (hv : ∀ s, (vals s).length = size) (l : List α) : (rowCs vals l).length = l.length * size := by
  induction l with
  | nil => simp [rowCs]
  | cons s r ih => 
    have : (rowCs vals (s :: r)).length = size + (rowCs vals r).length := by simp [rowCs, hv]
    rw [this, ih, List.length_cons, Nat.add_mul]
    omega
theorem rowCs_app {α : Type} (vals : α → List Value) (a b : List α) : rowCs vals (a ++ b) = rowCs vals a ++ rowCs vals b := by simp [rowCs]
theorem rowCs_at {α : Type} {vals : α → List Value} {size : Nat} (hv : ∀ s, (vals s).length = size) (l : List α) (k : Nat) (s : α) (hk : l[k]? = some s) (j : Nat) (hj : j < size) : (rowCs vals l)[k * size + j]? = (vals s)[j]? := by
  have hlt := (List.getElem?_eq_some_iff.1 hk).1
  have e : l = l.take k ++ s :: l.drop (k + 1) := by
    rw [← (List.getElem?_eq_some_iff.1 hk).2, ← List.drop_eq_getElem_cons hlt, List.take_append_drop]
  have hl : (rowCs vals (l.take k)).length = k * size := by rw [rowCs_len hv, List.length_take]; congr 1; omega
  conv => lhs; rw [e]
  rw [rowCs_app, List.getElem?_append_right (by omega), hl, Nat.add_sub_cancel_left]
  show (vals s ++ rowCs vals (l.drop (k + 1)))[j]? = _
  rw [List.getElem?_append_left (by rw [hv]; exact hj)]
/-- A slice of structs as an argument. -/
theorem open_structs_rd {α : Type} [Inhabited α] {A : Option Addr} {n c fuel size : Nat} {t e : TypeId} {x : DataW H × List MemPlace} (ht : P.underlying t = some (.slice e)) (h6 : P.cellsOf e = size) (hpos : 0 < size) (vals : α → List Value) (ok : α → Prop) (hv : ∀ s, (vals s).length = size)
    (hone : ∀ fuel cs x, DataW.trod enc P w base (fun _ => true) held fuel e cs = some x → ∃ s, cs = vals s ∧ ok s)
    (h : DataW.trod enc P w base (fun _ => true) held fuel t [.slice A n c] = some x) :
    ∃ l : List α, Rd w w.heap.size size A n (rowCs vals l) ∧ l.length = n ∧ n ≤ c ∧ c ≤ maxLen ∧ ∀ s ∈ l, ok s := by
  rcases Go.Deep.open_slice ht h with ⟨h1, h2⟩ | ⟨a, len, cap, m, k, D, Pl, h1, hb, hl, hm, hmm, hx, hel⟩
  · simp at h1
    obtain ⟨rfl, rfl, rfl⟩ := h1
    exact ⟨[], Rd.none_ _ _ _ _, rfl, Nat.le_refl _, by unfold maxLen; omega, by simp⟩
  · simp at h1
    obtain ⟨rfl, rfl, rfl⟩ := h1
    simp only [if_true] at hmm
    have each : ∀ i, i < n → ∃ s : α, ok s ∧ ∀ j, j < size → w.cell? (a.add (i * size + j)) = (vals s)[j]? := by
      intro i hi
      obtain ⟨cs, hc, ht⟩ := hel i (by omega)
      rw [h6] at hc
      obtain ⟨s, rfl, hs⟩ := hone _ _ _ ht
      obtain ⟨_, hcell⟩ := fcells_at hc
      refine ⟨s, hs, fun j hj => ?_⟩
      have := hcell j hj
      rw [← this]
      congr 1
      by_cases g1 : i * size = 0 <;> by_cases g2 : j = 0 <;> simp [Addr.add, g1, g2, Nat.add_assoc]
    obtain ⟨S, hS⟩ := Go.Deep.choose_lt each
    refine ⟨(List.range n).map S, ⟨by rw [rowCs_len hv]; simp, ?_⟩, by simp, hl, hm, ?_⟩
    · by_cases h0 : n = 0
      · subst h0; exact .inl rfl
      · obtain ⟨b, off, spot⟩ := a
        have hs0 := (hS 0 (by omega)).2 0 hpos
        have hlt0 : 0 < (vals (S 0)).length := by rw [hv]; exact hpos
        have hs : spot = none := by simpa [Addr.add] using World.cell?_spot (hs0.trans (List.getElem?_eq_getElem hlt0))
        subst hs
        have hc2 : ∀ i, i < n → ∀ j, j < size → w.cell? ⟨b, off + (i * size + j), none⟩ = (vals (S i))[j]? := fun i hi j hj => by
          rw [← Go.WideShapes.add_plain]; exact (hS i hi).2 j hj
        have hblk : b < w.heap.size := cell_lt (a := ⟨b, off + (0 * size + 0), none⟩) ((hc2 0 (by omega) 0 hpos).trans (List.getElem?_eq_getElem hlt0))
        refine .inr ⟨b, off, rfl, hblk, fun j u hu => ?_⟩
        have hj : j < n * size := by
          have := (List.getElem?_eq_some_iff.1 hu).1
          rw [rowCs_len hv] at this
          simpa using this
        have hq : j / size < n := (Nat.div_lt_iff_lt_mul hpos).2 hj
        have hr : j % size < size := Nat.mod_lt _ hpos
        have hjj : j / size * size + j % size = j := by rw [Nat.mul_comm]; exact Nat.div_add_mod j size
        have hat := rowCs_at hv ((List.range n).map S) (j / size) (S (j / size)) (by simp [hq]) (j % size) hr
        rw [hjj] at hat
        have := hc2 (j / size) hq (j % size) hr
        rw [hjj] at this
        rw [this, ← hat, hu]
    · intro s hs
      simp only [List.mem_map, List.mem_range] at hs
      obtain ⟨i, hi, rfl⟩ := hs
      exact (hS i hi).1
end
end Go.Proofs.YtfegfmapdekkbaaGreatDoor
namespace Go.Proofs.YtfegfmapdekkbaaGreatDoor
set_option linter.unusedVariables false
set_option linter.unusedSimpArgs false
open Go.RowKit

/-- What New answers, plain: the error, the entry's number, the nodes. -/
def Vf.new (es : List Vf.Ent) : Int × Int × List Vf.Nd :=
  if 64 < es.length then (15, -1, []) else if (Vf.adds [Vf.root] 0 es).1 ≠ 0 then ((Vf.adds [Vf.root] 0 es).1, ((Vf.adds [Vf.root] 0 es).2.1 : Nat), []) else (0, 0, (Vf.adds [Vf.root] 0 es).2.2)
/-- An entry as an argument: with where its bytes lie. -/
structure EntA where
  e : Vf.Ent
  A : Option Addr
  n : Nat
  c : Nat
instance : Inhabited EntA := ⟨⟨⟨⟨#[]⟩, 0, 0, 0, 0, [], ⟨#[]⟩⟩, none, 0, 0⟩⟩
def entVals (s : EntA) : List Value := entC s.e s.A s.n s.c
structure EntOk (w : World) (s : EntA) : Prop where
  d : Rd w w.heap.size 1 s.A s.n (bys s.e.data)
  n : s.n ≤ 4294967296
  p : s.e.path.size ≤ 4294967296
  t : s.e.to.size ≤ 4294967296
  m : s.e.mode < 65536
theorem EntOk.below {w w' : World} {s : EntA} (h : EntOk w s) (hb : Below w.heap.size w w') : EntOk w' s := ⟨h.d.belowSz hb, h.n, h.p, h.t, h.m⟩
def NewE (es : List Vf.Ent) (w : World) (e : Ending) (w' : World) : Prop :=
  Below w.heap.size w w' ∧ (((Vf.new es).1 ≠ 0 ∧ e = .returned (.tuple #[.pointer none, .int .i64 (Vf.new es).1, .int .i64 (Vf.new es).2.1])) ∨
    ((Vf.new es).1 = 0 ∧ ∃ f A c L, e = .returned (.tuple #[ptrV f, .int .i64 0, .int .i64 0]) ∧ FsM w' w.heap.size f A c (Vf.new es).2.2 L ∧ Vf.Good (Vf.new es).2.2 ∧ (Vf.new es).2.2.length = es.length + 1 ∧ (Vf.new es).2.1 = 0 ∧ es.length ≤ 64))
/-- The first world: a root alone. -/
theorem FsM.start (w : World) : FsM ((((w.alloc (.map #[] 0)).alloc (.cells #[.int .u8 2, .int .u16 493, .int .u32 0, .int .u32 0, .int .i64 0, .int .i64 0, .pointer (some ⟨w.heap.size + 1, 0, none⟩), .string ⟨#[]⟩, .map (some w.heap.size)] 59)).alloc (.cells #[.iface 52 (.pointer (some ⟨w.heap.size + 1, 0, none⟩))] 89)).alloc (.cells #[.slice (some ⟨w.heap.size + 2, 0, none⟩) 1 1] 62)) w.heap.size (w.heap.size + 3) (some ⟨w.heap.size + 2, 0, none⟩) 1 [Vf.root] [⟨w.heap.size + 1, w.heap.size, none, 0, 0⟩] := by
  have m0 := MapG.nil w .string
  have d1 : Blk ((w.alloc (.map #[] 0)).alloc (.cells #[.int .u8 2, .int .u16 493, .int .u32 0, .int .u32 0, .int .i64 0, .int .i64 0, .pointer (some ⟨w.heap.size + 1, 0, none⟩), .string ⟨#[]⟩, .map (some w.heap.size)] 59)) (w.heap.size + 1) 59 [.int .u8 2, .int .u16 493, .int .u32 0, .int .u32 0, .int .i64 0, .int .i64 0, .pointer (some ⟨w.heap.size + 1, 0, none⟩), .string ⟨#[]⟩, .map (some w.heap.size)] := by
    have := Blk.new (w.alloc (.map #[] 0)) 59 [.int .u8 2, .int .u16 493, .int .u32 0, .int .u32 0, .int .i64 0, .int .i64 0, .pointer (some ⟨w.heap.size + 1, 0, none⟩), .string ⟨#[]⟩, .map (some w.heap.size)]
    rw [World.size_alloc] at this
    exact this
  have m2 := (m0.belowSz ((Below.refl _ _).alloc (Nat.le_refl _) (.cells #[.int .u8 2, .int .u16 493, .int .u32 0, .int .u32 0, .int .i64 0, .int .i64 0, .pointer (some ⟨w.heap.size + 1, 0, none⟩), .string ⟨#[]⟩, .map (some w.heap.size)] 59)))
  generalize hW : (w.alloc (.map #[] 0)).alloc (.cells #[.int .u8 2, .int .u16 493, .int .u32 0, .int .u32 0, .int .i64 0, .int .i64 0, .pointer (some ⟨w.heap.size + 1, 0, none⟩), .string ⟨#[]⟩, .map (some w.heap.size)] 59) = W at *
  have hsz : W.heap.size = w.heap.size + 2 := by rw [← hW]; simp
  have r0 : (W.alloc (.cells #[.iface 52 (.pointer (some ⟨w.heap.size + 1, 0, none⟩))] 89)).ownsRow w.heap.size 89 1 (.slice (some ⟨w.heap.size + 2, 0, none⟩) 1 1) 1 [.iface 52 (.pointer (some ⟨w.heap.size + 1, 0, none⟩))] :=
    ⟨rfl, .inr ⟨w.heap.size + 2, 1, #[.iface 52 (.pointer (some ⟨w.heap.size + 1, 0, none⟩))], rfl, by omega, by rw [← hsz]; exact heap_alloc_new _ _, by omega, by unfold maxLen; omega, rfl, rfl⟩⟩
  have f0 := Blk.new (W.alloc (.cells #[.iface 52 (.pointer (some ⟨w.heap.size + 1, 0, none⟩))] 89)) 62 [.slice (some ⟨w.heap.size + 2, 0, none⟩) 1 1]
  rw [World.size_alloc, hsz] at f0
  have hbb : Below W.heap.size W ((W.alloc (.cells #[.iface 52 (.pointer (some ⟨w.heap.size + 1, 0, none⟩))] 89)).alloc (.cells #[.slice (some ⟨w.heap.size + 2, 0, none⟩) 1 1] 62)) := ((Below.refl _ _).alloc (Nat.le_refl _) _).alloc (by simp) _
  have only : ∀ {i : Nat} {x : Vf.Nd} {p : Pl}, [Vf.root][i]? = some x → [(⟨w.heap.size + 1, w.heap.size, none, 0, 0⟩ : Pl)][i]? = some p → i = 0 ∧ x = Vf.root ∧ p = ⟨w.heap.size + 1, w.heap.size, none, 0, 0⟩ := by
    intro i x p h1 h2
    cases i with
    | zero => exact ⟨rfl, by simpa using h1.symm, by simpa using h2.symm⟩
    | succ i => simp at h1
  refine ⟨rfl, by omega, f0, r0.alloc _, ?_, ?_, ?_, ?_⟩
  · intro i x p h1 h2
    obtain ⟨rfl, rfl, rfl⟩ := only h1 h2
    exact ⟨by simp, _, rfl, d1.belowSz hbb⟩
  · intro i x p h1 h2 h3
    obtain ⟨rfl, rfl, rfl⟩ := only h1 h2
    cases h3
  · intro i x p h1 h2 h3
    obtain ⟨rfl, rfl, rfl⟩ := only h1 h2
    exact ⟨Nat.le_refl _, m2.belowSz hbb⟩
  · intro i j x y p r h1 h2 h3 h4 _ _ _
    rw [(only h1 h3).1, (only h2 h4).1]
theorem adds_step {F : List Vf.Nd} {es : List Vf.Ent} {k : Nat} {x : Vf.Ent} (hx : es[k]? = some x) : Vf.adds F k (es.drop k) = if (Vf.add F x).1 ≠ 0 then ((Vf.add F x).1, k, F) else Vf.adds (Vf.add F x).2 (k + 1) (es.drop (k + 1)) := by
  have hlt := (List.getElem?_eq_some_iff.1 hx).1
  rw [List.drop_eq_getElem_cons hlt, (List.getElem?_eq_some_iff.1 hx).2]
  rfl

set_option maxRecDepth 100000 in
set_option maxHeartbeats 4000000 in
theorem new_any (l : List EntA) (A : Option Addr) (n c : Nat) (w : World) (h : Rd w w.heap.size 7 A n (rowCs entVals l)) (hl : l.length = n) (hok : ∀ s ∈ l, EntOk w s) (hn : n ≤ 4294967296) :
    Calls Tryz.prog 7 #[.slice A n c] w (NewE (l.map (·.e)) w) := by
  have hlm : (l.map (·.e)).length = n := by simpa using hl
  have hmm := @run_makeMap Tryz.prog
  have H := hide h
  have Hl := hide hl
  have Hok := hide hok
  have Hlm := hide hlm
  clear h hl hok hlm
  by_cases h64 : 64 < n
  · have g1 : (64 : Int) < (n : Int) := by omega
    have hnew : Vf.new (l.map (·.e)) = (15, -1, []) := by unfold Vf.new; rw [if_pos (by rw [unhide Hlm]; exact h64)]
    have Hnew := hide hnew
    clear h64 hnew
    go_enter Tryz.func7, Tryz.ntmps7
    go_wp2_with fail
    go_ret3
    unfold NewE
    rw [unhide Hnew]
    exact ⟨Below.refl _ _, .inl ⟨by decide, rfl⟩⟩
  · have g1 : ¬ (64 : Int) < (n : Int) := by omega
    have hFS := FsM.start w
    have HFS := hide hFS
    clear hFS
    go_enter Tryz.func7, Tryz.ntmps7
    go_wp2_with fail
    have hB4 : Below w.heap.size w ((((w.alloc (.map #[] 0)).alloc (.cells #[.int .u8 2, .int .u16 493, .int .u32 0, .int .u32 0, .int .i64 0, .int .i64 0, .pointer (some ⟨w.heap.size + 1, 0, none⟩), .string ⟨#[]⟩, .map (some w.heap.size)] 59)).alloc (.cells #[.iface 52 (.pointer (some ⟨w.heap.size + 1, 0, none⟩))] 89)).alloc (.cells #[.slice (some ⟨w.heap.size + 2, 0, none⟩) 1 1] 62)) :=
      ((((Below.refl _ _).alloc (Nat.le_refl _) _).alloc (by simp) _).alloc (by simp; omega) _).alloc (by simp; omega) _
    have HB4 := hide hB4
    clear hB4
    go_loopg [30] n (fun gk iv wr => ∃ (k : Nat) (F : List Vf.Nd) (L : List Pl) (A' : Option Addr) (c' : Nat), gk = n - k ∧ k ≤ n ∧ iv = .int .i64 (k : Nat) ∧ Vf.adds [Vf.root] 0 (l.map (·.e)) = Vf.adds F k ((l.map (·.e)).drop k) ∧ Vf.Good F ∧ F.length = k + 1 ∧ FsM wr w.heap.size (w.heap.size + 3) A' c' F L ∧ Below w.heap.size w wr)
    case atStart => exact ⟨0, [Vf.root], _, _, _, by omega, Nat.zero_le _, rfl, rfl, Vf.good_root, rfl, unhide HFS, unhide HB4⟩
    case round =>
    obtain ⟨k, F, L, A', c', hgk, hk, rfl, hadds, hF, hFl, hFS, hB⟩ := hrel
    have Hgk := hide hgk
    have Hadds := hide hadds
    have HF := hide hF
    have HFl := hide hFl
    have HFSk := hide hFS
    have HB := hide hB
    clear hgk hadds hF hFl hFS hB
    by_cases hlt : k < n
    · obtain ⟨s, hs⟩ : ∃ s, l[k]? = some s := ⟨_, List.getElem?_eq_getElem (by rw [unhide Hl]; exact hlt)⟩
      obtain ⟨b1, o1, rfl, hb1, c1⟩ := (unhide H).open_ (by
        intro h0
        have := rowCs_len (vals := entVals) (size := 7) (fun _ => rfl) l
        rw [h0, unhide Hl] at this
        simp at this
        omega)
      have hc : ∀ j u, (entVals s)[j]? = some u → wr.cell? ⟨b1, o1 + (k * 7 + j), none⟩ = some u := by
        intro j u hu
        have hj : j < 7 := (List.getElem?_eq_some_iff.1 hu).1
        refine ((unhide HB).cell (p := ⟨b1, _, none⟩) hb1).trans (c1 _ _ ?_)
        rw [rowCs_at (vals := entVals) (size := 7) (fun _ => rfl) l k s hs j hj, hu]
      have x0 := hc 0 _ rfl
      have x1 := hc 1 _ rfl
      have x2 := hc 2 _ rfl
      have x3 := hc 3 _ rfl
      have x4 := hc 4 _ rfl
      have x5 := hc 5 _ rfl
      have x6 := hc 6 _ rfl
      rw [Nat.add_zero] at x0
      simp only [← Nat.add_assoc] at x1 x2 x3 x4 x5 x6
      have ilt : (k : Int) < (n : Int) := by omega
      have Hs := hide hs
      have hsm : s ∈ l := List.mem_of_getElem? hs
      have hes : (l.map (·.e))[k]? = some s.e := by rw [List.getElem?_map, hs]; rfl
      have hstep := adds_step (F := F) hes
      have hok := (unhide Hok) s hsm
      have hbA : Below w.heap.size w (wr.alloc (.cells #[.string s.e.path, .int .u8 (s.e.kind : Nat), .int .u16 (s.e.mode : Nat), .int .u32 (s.e.uid : Nat), .int .u32 (s.e.gid : Nat), .slice s.A s.n s.c, .string s.e.to] 51)) := (unhide HB).alloc (unhide HB).size _
      have hok2 := hok.below hbA
      have KA := add_any F L w.heap.size (w.heap.size + 3) c' A' s.A s.n s.c s.e (wr.alloc (.cells #[.string s.e.path, .int .u8 (s.e.kind : Nat), .int .u16 (s.e.mode : Nat), .int .u32 (s.e.uid : Nat), .int .u32 (s.e.gid : Nat), .slice s.A s.n s.c, .string s.e.to] 51)) (unhide HF) ((unhide HFSk).belowSz ((Below.refl _ _).alloc (Nat.le_refl _) _)) hbA.size (by rw [unhide HFl]; omega) hok2.d hok2.n hok2.p hok2.t hok2.m
      unfold entV ptrV at KA
      have HKA := hide KA
      have HbA := hide hbA
      have Hstep := hide hstep
      clear hc c1 hs hsm hes hstep hok hbA hok2 KA
      go_wp2_with fail
      refine (unhide HKA).mono ?_
      rintro e w2 ⟨rfl, hfs2, hb2⟩
      have Hb2 := hide ((unhide HbA).trans hb2)
      by_cases ha : (Vf.add F s.e).1 = 0
      · obtain ⟨L2, A2, c2, hF2⟩ := hfs2 ha
        have HF2 := hide hF2
        have hg2 := Vf.add_good (unhide HF) ha
        have hst := unhide Hstep
        rw [if_neg (by simp [ha])] at hst
        have hlen2 : (Vf.add F s.e).2.length = k + 1 + 1 := by
          obtain ⟨_, up, _, _, _, he⟩ := Vf.add_ok ha
          rw [he, List.length_append, unhide HFl]
          rfl
        have Hg2 := hide hg2
        have Hst := hide hst
        have Hlen2 := hide hlen2
        rw [ha]
        clear ha hfs2 hb2 hF2 hg2 hst hlen2 x0 x1 x2 x3 x4 x5 x6
        go_wp2_with fail
        go_roundg (n - (k + 1))
        case rel => exact ⟨k + 1, _, L2, A2, c2, rfl, by omega, by go_num, (unhide Hadds).trans (unhide Hst), unhide Hg2, unhide Hlen2, unhide HF2, unhide Hb2⟩
        case measure => rw [unhide Hgk]; omega
      · obtain ⟨er, her⟩ : ∃ v, (Vf.add F s.e).1 = v := ⟨_, rfl⟩
        have q1 : (er != 0) = true := by rw [← her]; simp [ha]
        have hst := unhide Hstep
        rw [if_pos ha] at hst
        have hnew : Vf.new (l.map (·.e)) = (er, ((k : Nat) : Int), []) := by
          unfold Vf.new
          rw [if_neg (by rw [unhide Hlm]; exact h64), (unhide Hadds).trans hst, her]
          rw [her] at ha
          rw [if_pos ha]
        have Hnew := hide hnew
        rw [her] at ha
        have Ha := hide ha
        rw [her]
        clear ha hfs2 hb2 hst hnew her x0 x1 x2 x3 x4 x5 x6
        go_wp2_with fail
        go_ret3
        unfold NewE
        rw [unhide Hnew]
        exact ⟨unhide Hb2, .inl ⟨unhide Ha, rfl⟩⟩
    · have hkn : k = n := by omega
      have ilt : ¬ (k : Int) < (n : Int) := by omega
      go_wp2_with fail
      go_ret3
      have ha := unhide Hadds
      rw [List.drop_of_length_le (by rw [unhide Hlm]; omega)] at ha
      have hnew : Vf.new (l.map (·.e)) = (0, 0, F) := by
        unfold Vf.new
        rw [if_neg (by rw [unhide Hlm]; exact h64), ha]
        rfl
      unfold NewE
      rw [hnew]
      exact ⟨unhide HB, .inr ⟨rfl, _, A', c', L, rfl, unhide HFSk, unhide HF, by rw [unhide HFl, unhide Hlm, hkn], rfl, by rw [unhide Hlm]; omega⟩⟩
end Go.Proofs.YtfegfmapdekkbaaGreatDoor
namespace Go.Proofs.YtfegfmapdekkbaaGreatDoor
set_option linter.unusedVariables false
set_option linter.unusedSimpArgs false
open Go.RowKit

theorem take_ext {α : Type} {xs ys : List α} {k : Nat} {x : α} (h : xs.take k = ys.take k) (hx : xs[k]? = some x) (hy : ys[k]? = some x) : xs.take (k + 1) = ys.take (k + 1) := by
  rw [List.take_add_one, List.take_add_one, h, hx, hy]

set_option maxHeartbeats 1000000 in
theorem eqTexts_any (A B : Option Addr) (n m c d K : Nat) (xs ys : List ByteArray) (w : World) (ha : Rd w K 1 A n (xs.map Value.string)) (hb : Rd w K 1 B m (ys.map Value.string)) (hn : n ≤ maxLen) (hm : m ≤ maxLen) :
    Calls Tryz.prog 14 #[.slice A n c, .slice B m d] w fun e w' => e = .returned (.bool (decide (xs = ys))) ∧ ∃ j, w' = w.drewN j := by
  have hxl : xs.length = n := by simpa using ha.len1
  have hyl : ys.length = m := by simpa using hb.len1
  unfold maxLen at hn hm
  have Hxl := hide hxl
  have Hyl := hide hyl
  have Ha := hide ha
  have Hb := hide hb
  clear hxl hyl ha hb
  go_enter Tryz.func14, Tryz.ntmps14
  go_wp2
  go_loopw [5] (fun at_ wr => ∃ k j : Nat, at_ = .int .i64 k ∧ k ≤ n ∧ k ≤ m ∧ xs.take k = ys.take k ∧ wr = w.drewN j) (fun at_ _ => n - (intOf at_).toNat)
  case atStart => exact ⟨0, 0, rfl, Nat.zero_le _, Nat.zero_le _, rfl, rfl⟩
  case round =>
    obtain ⟨k, j, rfl, hkn, hkm, htk, rfl⟩ := hrel
    have Htk := hide htk
    clear htk
    by_cases h1 : k < n
    · have d1 : decide (k < n) = true := by simpa using h1
      have i1 : (k : Int) < (n : Int) := by omega
      by_cases h2 : k < m
      · have d2 : decide (k < m) = true := by simpa using h2
        have i2 : (k : Int) < (m : Int) := by omega
        obtain ⟨x, hx⟩ : ∃ x, xs[k]? = some x := ⟨_, List.getElem?_eq_getElem (by rw [unhide Hxl]; exact h1)⟩
        obtain ⟨y, hy⟩ : ∃ y, ys[k]? = some y := ⟨_, List.getElem?_eq_getElem (by rw [unhide Hyl]; exact h2)⟩
        obtain ⟨b1, o1, rfl, _, c1⟩ := (unhide Ha).at_ (k := k) (u := .string x) (by simp [hx])
        obtain ⟨b2, o2, rfl, _, c2⟩ := (unhide Hb).at_ (k := k) (u := .string y) (by simp [hy])
        have Hx := hide hx
        have Hy := hide hy
        have hbq := beq_toList x y
        clear hx hy
        by_cases he : x = y
        · have q : (x.toList == y.toList) = true := by rw [hbq]; simpa using he
          subst he
          clear hbq
          go_wp2
          go_quiet (fail)
          go_wp2
          go_round
          case rel => exact ⟨k + 1, j + nq, by go_num, by omega, by omega, take_ext (unhide Htk) (unhide Hx) (unhide Hy), rfl⟩
          case measure => simp [intOf]; omega
        · have q : (x.toList == y.toList) = false := by rw [hbq]; simpa using he
          have He := hide he
          clear hbq he
          go_wp2
          go_quiet (fail)
          go_wp2
          go_ret
          refine ⟨ret_bool ?_, _, rfl⟩
          symm
          simp only [decide_eq_false_iff_not]
          rintro rfl
          exact unhide He (Option.some.inj ((unhide Hx).symm.trans (unhide Hy)))
      · have d2 : decide (k < m) = false := by simpa using h2
        go_wp2
        go_quiet (fail)
        go_wp2
        go_ret
        refine ⟨ret_bool ?_, _, rfl⟩
        symm
        simp only [decide_eq_false_iff_not]
        rintro rfl
        have := unhide Hxl
        have := unhide Hyl
        omega
    · have d1 : decide (k < n) = false := by simpa using h1
      go_wp2
      go_quiet (fail)
      go_wp2
      go_ret
      refine ⟨ret_bool ?_, _, rfl⟩
      have hl1 := unhide Hxl
      have hl2 := unhide Hyl
      rw [Bool.eq_iff_iff, beq_iff_eq, decide_eq_true_eq]
      constructor
      · intro e
        have e' := unhide Htk
        rwa [List.take_of_length_le (by omega), List.take_of_length_le (by omega)] at e'
      · rintro rfl
        omega

end Go.Proofs.YtfegfmapdekkbaaGreatDoor
namespace Go.Proofs.YtfegfmapdekkbaaGreatDoor
set_option linter.unusedVariables false
set_option linter.unusedSimpArgs false
open Go.RowKit

def sumM : List ByteArray → Nat
  | [] => 0
  | s :: r => min s.size 131072 + sumM r
theorem sumM_app (a b : List ByteArray) : sumM (a ++ b) = sumM a + sumM b := by
  induction a with
  | nil => simp [sumM]
  | cons s r ih => simp only [List.cons_append, sumM, ih]; omega
theorem sumM_mem {l : List ByteArray} {x : ByteArray} (h : x ∈ l) : min x.size 131072 ≤ sumM l := by
  induction l with
  | nil => cases h
  | cons s r ih =>
    simp only [sumM]
    rcases List.mem_cons.1 h with rfl | h
    · omega
    · have := ih h; omega
theorem sumM_snoc {l : List ByteArray} {k : Nat} {x : ByteArray} (h : l[k]? = some x) : sumM (l.take (k + 1)) = sumM (l.take k) + min x.size 131072 := by
  rw [List.take_add_one, h, sumM_app]
  simp [sumM]

set_option maxRecDepth 100000 in
set_option maxHeartbeats 1000000 in
theorem tlarge_any (A : Option Addr) (n c B : Nat) (l : List ByteArray) (w : World) (hl : Rd w B 1 A n (l.map Value.string)) (hs : ∀ x ∈ l, x.size ≤ maxLen) (hn : n ≤ maxLen) :
    Calls Tryz.prog 5 #[.slice A n c] w fun e w' => ∃ r, e = .returned (.bool r) ∧ w = w' ∧ (r = false → n ≤ 65536 ∧ ∀ x ∈ l, x.size ≤ 65536) := by
  have hln : l.length = n := by simpa using hl.len1
  unfold maxLen at hn
  have Hl := hide hl
  have Hln := hide hln
  have Hs := hide hs
  clear hl hln hs
  go_enter Tryz.func5, Tryz.ntmps5
  go_wp2_with fail
  go_loopg [3, 4] n (fun gk nv i wr => ∃ k m : Nat, gk = n - k ∧ k ≤ n ∧ i = .int .i64 k ∧ nv = .int .i64 m ∧ m = n + sumM (l.take k) ∧ (k = 0 ∨ m ≤ 196608) ∧ w = wr)
  case atStart => exact ⟨0, n, by omega, by omega, rfl, rfl, by simp [sumM], .inl rfl, rfl⟩
  case round =>
  obtain ⟨k, m, hgk, hk, rfl, rfl, hmn, hm0, rfl⟩ := hrel
  have Hgk := hide hgk
  have Hmn := hide hmn
  clear hgk hmn
  have hmb : m ≤ 9223372036854775807 := by
    rcases hm0 with rfl | h
    · have := unhide Hmn; simp [sumM] at this; omega
    · omega
  by_cases hlt : k < n
  case neg =>
    obtain rfl : k = n := by omega
    have htk : l.take k = l := List.take_of_length_le (by have := unhide Hln; omega)
    have hnn := unhide Hmn
    rw [htk] at hnn
    have Hnn := hide hnn
    clear htk hnn hm0
    go_wp2_with fail
    go_ret
    refine ⟨_, rfl, rfl, fun hr => ?_⟩
    have hm : m ≤ 65536 := by
      have h : (m : Int) ≤ 65536 := by simpa using hr
      omega
    have h1 := unhide Hnn
    refine ⟨by omega, fun x hx => ?_⟩
    have h2 := sumM_mem hx
    omega
  by_cases hbig : m ≤ 65536
  case neg =>
    have hb : ((m : Int) ≤ 65536) = False := by simp; omega
    clear hm0
    go_wp2_with fail
    go_ret
    exact ⟨_, rfl, rfl, fun hr => by simp at hr; omega⟩
  obtain ⟨x, hx⟩ : ∃ x, l[k]? = some x := ⟨_, List.getElem?_eq_getElem (by rw [unhide Hln]; exact hlt)⟩
  obtain ⟨b1, o1, rfl, _, c1⟩ := (unhide Hl).at_ (k := k) (u := .string x) (by simp [hx])
  have hxs := (unhide Hs) x (List.mem_of_getElem? hx)
  unfold maxLen at hxs
  have Hsn := hide (sumM_snoc hx)
  clear hx hm0
  by_cases hmin : x.size ≤ 131072
  · have hmin' : (x.size : Int) ≤ 131072 := by omega
    go_wp2_with fail
    go_roundg (n - (k + 1))
    case measure => have := unhide Hgk; omega
    case rel => exact ⟨k + 1, m + x.size, rfl, by omega, by go_num, by go_num, by rw [unhide Hsn, Nat.min_eq_left hmin]; have := unhide Hmn; omega, .inr (by omega), rfl⟩
  · have hmin' : (131072 : Int) < (x.size : Int) := by omega
    go_wp2_with fail
    go_roundg (n - (k + 1))
    case measure => have := unhide Hgk; omega
    case rel => exact ⟨k + 1, m + 131072, rfl, by omega, by go_num, by go_num, by rw [unhide Hsn, Nat.min_eq_right (by omega)]; have := unhide Hmn; omega, .inr (by omega), rfl⟩

def bE1 : Vf.Ent := ⟨⟨#[47, 112]⟩, 1, 493, 0, 0, [127, 69], ⟨#[]⟩⟩
def bE2 : Vf.Ent := ⟨⟨#[47, 115]⟩, 1, 493, 0, 0, [35, 33, 32, 47, 112, 32, 32, 45, 120, 32, 121, 32, 10], ⟨#[]⟩⟩
def bR : List ByteArray := [⟨#[47, 112]⟩, ⟨#[45, 120, 32, 121]⟩, ⟨#[47, 115]⟩, ⟨#[49]⟩]
theorem banc_new : (Vf.new [bE1, bE2]).1 = 0 := by kernel_rfl
theorem banc_chain : Sb.chain (Vf.new [bE1, bE2]).2.2 Vf.zc 4 ⟨#[47, 115]⟩ [⟨#[115]⟩, ⟨#[49]⟩] = (1, ⟨#[47, 112]⟩, bR, 0) := by kernel_rfl
def bL (g : Nat) : List EntA := [⟨bE1, some ⟨g, 0, none⟩, 2, 2⟩, ⟨bE2, some ⟨g + 1, 0, none⟩, 13, 13⟩]
set_option maxRecDepth 100000 in
set_option maxHeartbeats 4000000 in
theorem bworks_any (w : World) : Calls Tryz.prog 6 #[] w fun e w' => e = .returned (.bool true) ∧ Below w.heap.size w w' := by
  have kc := fun (w : World) (C : Array Value) (n c : Nat) => Lib.run_convert_bytes_const (P := Tryz.prog) w 49 5 C n c Tryz.underlying49 Tryz.underlying5
  have kc1 := kc (w.alloc (.cells #[.int .u8 127, .int .u8 69] 5))
  simp only [World.size_alloc] at kc1
  have hr0 := Rd.rowF (w := w) (cs := #[.int .u8 127, .int .u8 69]) (e := 5) (size := 1) (n := 2) (fz := (0, 0)) rfl
  have hr1 := Rd.rowF (w := w.alloc (.cells #[.int .u8 127, .int .u8 69] 5)) (cs := (bys bE2.data).toArray) (e := 5) (size := 1) (n := 13) (fz := (13, 14)) rfl
  have hr2 := Rd.rowF (w := (w.alloc (.cells #[.int .u8 127, .int .u8 69] 5)).alloc (.cells (bys bE2.data).toArray 5 (13, 14))) (cs := (rowCs entVals (bL w.heap.size)).toArray) (e := 51) (size := 7) (n := 2) (fz := (0, 0)) rfl
  have hB0 : Below w.heap.size w (((w.alloc (.cells #[.int .u8 127, .int .u8 69] 5)).alloc (.cells (bys bE2.data).toArray 5 (13, 14))).alloc (.cells (rowCs entVals (bL w.heap.size)).toArray 51)) := (((Below.refl _ _).alloc (Nat.le_refl _) _).alloc (by simp) _).alloc (by simp; omega) _
  have KN := new_any (bL w.heap.size) (some ⟨w.heap.size + 1 + 1, 0, none⟩) 2 2 (((w.alloc (.cells #[.int .u8 127, .int .u8 69] 5)).alloc (.cells (bys bE2.data).toArray 5 (13, 14))).alloc (.cells (rowCs entVals (bL w.heap.size)).toArray 51)) (by simpa using hr2) rfl (by
    intro s hs
    simp only [bL, List.mem_cons, List.not_mem_nil, or_false] at hs
    rcases hs with rfl | rfl
    · refine ⟨?_, by show 2 ≤ 4294967296; omega, by show bE1.path.size ≤ _; decide, by show bE1.to.size ≤ _; decide, by show bE1.mode < _; decide⟩
      have := ((hr0.alloc (by simp) (.cells (bys bE2.data).toArray 5 (13, 14))).alloc (by simp) (.cells (rowCs entVals (bL w.heap.size)).toArray 51)).more (B' := w.heap.size + 1 + 1 + 1) (by omega)
      simp only [World.size_alloc]
      exact this
    · refine ⟨?_, by show 13 ≤ 4294967296; omega, by show bE2.path.size ≤ _; decide, by show bE2.to.size ≤ _; decide, by show bE2.mode < _; decide⟩
      have := (hr1.alloc (by simp) (.cells (rowCs entVals (bL w.heap.size)).toArray 51)).more (B' := w.heap.size + 1 + 1 + 1) (by simp)
      simp only [World.size_alloc] at this ⊢
      exact this) (by omega)
  have e0 : (bL w.heap.size).map (·.e) = [bE1, bE2] := rfl
  rw [e0] at KN
  unfold NewE at KN
  have HKN := hide KN
  have HB0 := hide hB0
  clear KN hr0 hr1 hr2 hB0 e0 kc
  go_enter Tryz.func6, Tryz.ntmps6
  go_wp2_with fail
  refine (unhide HKN).mono ?_
  rintro e w1 ⟨hb1, ⟨h0, _⟩ | ⟨_, f, A, c, L, rfl, hFS, hF, hFl, h01, _⟩⟩
  · exact absurd banc_new h0
  have a1 := banc_chain
  obtain ⟨F, hFe⟩ : ∃ F, (Vf.new [bE1, bE2]).2.2 = F := ⟨_, rfl⟩
  rw [hFe] at hFS hF hFl a1
  have hn : F.length ≤ 65 := by rw [hFl]; decide
  have Hb1 := hide ((unhide HB0).trans (hb1.mono (by simp; omega)))
  have hw1 : Below w1.heap.size w1 (w1.alloc (.cells #[.string ⟨#[115]⟩, .string ⟨#[49]⟩] 9)) := (Below.refl _ _).alloc (Nat.le_refl _) _
  have KC := chain_any F L _ f c A none (some ⟨w1.heap.size, 0, none⟩) 0 0 2 2 Vf.zc ⟨#[47, 115]⟩ [⟨#[115]⟩, ⟨#[49]⟩] _ hF (hFS.belowSz hw1) hn ⟨rfl, .inl rfl⟩ (by unfold maxLen; omega) (by decide) (by rw [World.size_alloc]; exact Rd.rowF (n := 2) rfl) (by omega) (by intro y hy; simp at hy; rcases hy with rfl | rfl <;> decide)
  rw [a1] at KC
  unfold credV ChainE at KC
  dsimp only at KC
  rw [show bR.length = 4 from rfl] at KC
  have HKC := hide KC
  have Hw1 := hide hw1
  unfold ptrV
  clear KC a1 hFe hFS hF hFl hb1 h01 hw1
  go_wp2_with fail
  refine (unhide HKC).mono ?_
  rintro e w2 ⟨A2, c2, rfl, ho2, hb2⟩
  have Hb2 := hide ((unhide Hb1).trans (((unhide Hw1).trans (hb2.mono (by simp))).mono (unhide Hb1).size))
  have hr4 := (Rd.of_own ho2).alloc (Nat.le_refl _) (.cells (bR.map Value.string).toArray 9)
  have hr5 : Rd (w2.alloc (.cells (bR.map Value.string).toArray 9)) (w2.heap.size + 1) 1 (some ⟨w2.heap.size, 0, none⟩) 4 (bR.map Value.string) := Rd.rowF (n := 4) rfl
  have KE := eqTexts_any A2 (some ⟨w2.heap.size, 0, none⟩) 4 4 c2 4 (w2.heap.size + 1) bR bR _ (hr4.more (by omega)) hr5 (by unfold maxLen; omega) (by unfold maxLen; omega)
  rw [decide_eq_true rfl] at KE
  have HKE := hide KE
  clear KE hr4 hr5 ho2 hb2 Hw1 HKC kc1
  go_wp2_with fail
  refine (unhide HKE).mono ?_
  rintro e w3 ⟨rfl, j, rfl⟩
  go_wp2_with fail
  go_ret
  exact ⟨rfl, below_drewN' ((unhide Hb2).alloc (unhide Hb2).size _) _⟩
end Go.Proofs.YtfegfmapdekkbaaGreatDoor
namespace Go.Proofs.YtfegfmapdekkbaaGreatDoor
set_option linter.unusedVariables false
set_option linter.unusedSimpArgs false
open Go.RowKit

/-- The law's own copies of the two structures. -/
structure RnS (w : World) (cr : Vf.Cred) (Ag : Option Addr) (ng kg : Nat) (x : ByteArray) (Al : Option Addr) (nl cl : Nat) (W : World) : Prop where
  bel : Below w.heap.size w W
  c : Blk W w.heap.size 26 [.int .u32 (cr.uid : Nat), .int .u32 (cr.euid : Nat), .int .u32 (cr.suid : Nat), .int .u32 (cr.gid : Nat), .slice Ag ng kg]
  r : Blk W (w.heap.size + 1) 29 [.string x, .slice Al nl cl]
section
variable {w W W' : World} {cr : Vf.Cred} {Ag Al : Option Addr} {ng kg nl cl : Nat} {x : ByteArray}
theorem RnS.below (h : RnS w cr Ag ng kg x Al nl cl W) (hb : Below W.heap.size W W') : RnS w cr Ag ng kg x Al nl cl W' := ⟨h.bel.trans (hb.mono h.bel.size), h.c.belowSz hb, h.r.belowSz hb⟩
theorem RnS.drewN (h : RnS w cr Ag ng kg x Al nl cl W) (j : Nat) : RnS w cr Ag ng kg x Al nl cl (W.drewN j) := ⟨below_drewN' h.bel j, h.c, h.r⟩
theorem RnS.cells (h : RnS w cr Ag ng kg x Al nl cl W) : (W.cell? ⟨w.heap.size, 0, none⟩ = some (.int .u32 (cr.uid : Nat)) ∧ W.cell? ⟨w.heap.size, 1, none⟩ = some (.int .u32 (cr.euid : Nat)) ∧ W.cell? ⟨w.heap.size, 2, none⟩ = some (.int .u32 (cr.suid : Nat)) ∧ W.cell? ⟨w.heap.size, 3, none⟩ = some (.int .u32 (cr.gid : Nat)) ∧ W.cell? ⟨w.heap.size, 4, none⟩ = some (.slice Ag ng kg)) ∧ W.cell? ⟨w.heap.size + 1, 0, none⟩ = some (.string x) ∧ W.cell? ⟨w.heap.size + 1, 1, none⟩ = some (.slice Al nl cl) :=
  ⟨⟨h.c.cell rfl, h.c.cell rfl, h.c.cell rfl, h.c.cell rfl, h.c.cell rfl⟩, h.r.cell rfl, h.r.cell rfl⟩
theorem RnS.start (w : World) (cr : Vf.Cred) (Ag : Option Addr) (ng kg : Nat) (x : ByteArray) (Al : Option Addr) (nl cl : Nat) :
    RnS w cr Ag ng kg x Al nl cl ((w.alloc (.cells #[.int .u32 (cr.uid : Nat), .int .u32 (cr.euid : Nat), .int .u32 (cr.suid : Nat), .int .u32 (cr.gid : Nat), .slice Ag ng kg] 26)).alloc (.cells #[.string x, .slice Al nl cl] 29)) := by
  refine ⟨((Below.refl _ _).alloc (Nat.le_refl _) _).alloc (by simp) _, (Blk.new w 26 [.int .u32 (cr.uid : Nat), .int .u32 (cr.euid : Nat), .int .u32 (cr.suid : Nat), .int .u32 (cr.gid : Nat), .slice Ag ng kg]).alloc _, ?_⟩
  have := Blk.new (w.alloc (.cells #[.int .u32 (cr.uid : Nat), .int .u32 (cr.euid : Nat), .int .u32 (cr.suid : Nat), .int .u32 (cr.gid : Nat), .slice Ag ng kg] 26)) 29 [.string x, .slice Al nl cl]
  rw [World.size_alloc] at this
  exact this
end

end Go.Proofs.YtfegfmapdekkbaaGreatDoor
namespace Go.Proofs.YtfegfmapdekkbaaGreatDoor
set_option linter.unusedVariables false
set_option linter.unusedSimpArgs false
open Go.RowKit Go.ChangeShapes Go.WideShapes Go.Joins Go.Deep

theorem credFields : ∃ fs, Tryz.prog.underlying 26 = some (.struct fs) ∧ oneCellFields Tryz.prog fs = true ∧ Tryz.prog.cellsOf 26 = fs.size ∧ fs.map (·.type) = #[23, 23, 23, 23, 24] :=
  ⟨_, Tryz.underlying26, by kernel_rfl, by kernel_rfl, by kernel_rfl⟩
theorem entFields : ∃ fs, Tryz.prog.underlying 51 = some (.struct fs) ∧ oneCellFields Tryz.prog fs = true ∧ Tryz.prog.cellsOf 51 = fs.size ∧ fs.map (·.type) = #[9, 5, 48, 23, 23, 49, 9] :=
  ⟨_, Tryz.underlying51, by kernel_rfl, by kernel_rfl, by kernel_rfl⟩
/-- What holds of an entry that is an argument. -/
structure EntIn (w : World) (s : EntA) : Prop where
  d : Rd w w.heap.size 1 s.A s.n (bys s.e.data)
  nc : s.n ≤ s.c
  c : s.c ≤ maxLen
  p : s.e.path.size ≤ maxLen
  t : s.e.to.size ≤ maxLen
  m : s.e.mode < 65536
  k : s.e.kind < 256
  u : s.e.uid < 4294967296
  g : s.e.gid < 4294967296
section
variable {H : Type} {enc : TypeId × Value → H} {w : World} {base : Nat} {held : Bool}
set_option maxRecDepth 100000 in
theorem open_cred_rd {r : Reach} {b0 : Nat} {v : Value} {d : DataW H} {p : List MemPlace} (hv : Value.okWide Tryz.prog w r b0 26 v) (h : DataW.Trod enc Tryz.prog w base (fun _ => true) held 26 v d p) :
    ∃ (c : Vf.Cred) (A : Option Addr) (n k : Nat), v = credV c A n k ∧ Rd w w.heap.size 1 A n (c.groups.map u32v) ∧ n ≤ k ∧ k ≤ maxLen := by
  obtain ⟨cs, rfl, hsz⟩ := okWide_struct Tryz.underlying26 hv
  obtain ⟨fuel, hf⟩ := h
  obtain ⟨hl, n, hf⟩ := flds_vals _ credFields hf
  have e2 : ∃ c0 c1 c2 c3 c4, cs = #[c0, c1, c2, c3, c4] := by
    obtain ⟨l⟩ := cs
    match l, hl with
    | [c0, c1, c2, c3, c4], _ => exact ⟨c0, c1, c2, c3, c4, rfl⟩
  obtain ⟨c0, c1, c2, c3, c4, rfl⟩ := e2
  obtain ⟨y0, h0⟩ := hf 0 23 c0 rfl rfl
  obtain ⟨y1, h1⟩ := hf 1 23 c1 rfl rfl
  obtain ⟨y2, h2⟩ := hf 2 23 c2 rfl rfl
  obtain ⟨y3, h3⟩ := hf 3 23 c3 rfl rfl
  obtain ⟨y4, h4⟩ := hf 4 24 c4 rfl rfl
  obtain ⟨a0, rfl, b0⟩ := fu32_is Tryz.underlying23 h0
  obtain ⟨a1, rfl, b1⟩ := fu32_is Tryz.underlying23 h1
  obtain ⟨a2, rfl, b2⟩ := fu32_is Tryz.underlying23 h2
  obtain ⟨a3, rfl, b3⟩ := fu32_is Tryz.underlying23 h3
  obtain ⟨A, m, k, rfl⟩ := fslice_is Tryz.underlying24 h4
  obtain ⟨zs, r0, hc0, hm0, hw0⟩ := open_nums_rd (d := y4.1) (p := y4.2) Tryz.underlying24 Tryz.underlying23 (by kernel_rfl) ⟨n, h4⟩
  have hz : (zs.map Int.toNat).map u32v = zs.map (Value.int .u32) := by
    rw [List.map_map]
    refine List.map_congr_left fun z hz => ?_
    have : 0 ≤ z ∧ z ≤ 4294967295 := by simpa [Lit.wf, IntKind.min, IntKind.max, IntKind.signed, IntKind.bits] using hw0 z hz
    show Value.int .u32 ((z.toNat : Nat) : Int) = Value.int .u32 z
    rw [Int.toNat_of_nonneg this.1]
  exact ⟨⟨a0, a1, a2, a3, zs.map Int.toNat⟩, A, m, k, rfl, by rw [hz]; exact r0, hc0, hm0⟩
set_option maxRecDepth 100000 in
theorem open_two_ints {r : Reach} {b0 : Nat} {v : Value} {d : DataW H} {p : List MemPlace} {t : TypeId} (ht : Tryz.prog.underlying t = some (.array 2 3)) (hc : Tryz.prog.cellsOf t = 2) (hv : Value.okWide Tryz.prog w r b0 t v) (h : DataW.Trod enc Tryz.prog w base (fun _ => true) held t v d p) :
    ∃ a b : Int, v = .agg #[.int .i64 a, .int .i64 b] ∧ (-9223372036854775808 ≤ a ∧ a ≤ 9223372036854775807) ∧ -9223372036854775808 ≤ b ∧ b ≤ 9223372036854775807 := by
  have e0 : ∃ cs, v = .agg cs ∧ cs.size = Tryz.prog.cellsOf t := by
    simp only [Value.okWide, ht] at hv
    obtain ⟨cs, h1, h2, _⟩ := hv
    exact ⟨cs, h1, h2⟩
  obtain ⟨cs, rfl, hsz⟩ := e0
  rw [hc] at hsz
  obtain ⟨fuel, hf⟩ := h
  have e2 : ∃ c0 c1, cs = #[c0, c1] := by
    obtain ⟨l⟩ := cs
    match l, hsz with
    | [c0, c1], _ => exact ⟨c0, c1, rfl⟩
  obtain ⟨c0, c1, rfl⟩ := e2
  obtain ⟨xs, m, _, _, _, hxl, hel⟩ := DataW.trod_array ht hf
  have hce : Tryz.prog.cellsOf 3 = 1 := by kernel_rfl
  have g0 := hel 0 (by omega)
  have g1 := hel 1 (by omega)
  rw [hce] at g0 g1
  have f0 : ∃ y, DataW.trod enc Tryz.prog w base (fun _ => true) held m 3 [c0] = some y := ⟨_, g0.trans (List.getElem?_eq_getElem (by omega))⟩
  have f1 : ∃ y, DataW.trod enc Tryz.prog w base (fun _ => true) held m 3 [c1] = some y := ⟨_, g1.trans (List.getElem?_eq_getElem (by omega))⟩
  obtain ⟨y0, f0⟩ := f0
  obtain ⟨y1, f1⟩ := f1
  obtain ⟨a, rfl, ba⟩ := fint_is Tryz.underlying3 f0
  obtain ⟨b, rfl, bb⟩ := fint_is Tryz.underlying3 f1
  exact ⟨a, b, rfl, ba, bb⟩
set_option maxRecDepth 100000 in
theorem ent_vals {fuel : Nat} {cs : List Value} {x : DataW H × List MemPlace} (h : DataW.trod enc Tryz.prog w base (fun _ => true) held fuel 51 cs = some x) : ∃ s : EntA, cs = entVals s ∧ EntIn w s := by
  obtain ⟨hl, n, hf⟩ := flds_vals _ entFields h
  match cs, hl with
  | [c0, c1, c2, c3, c4, c5, c6], _ =>
    obtain ⟨y0, h0⟩ := hf 0 9 c0 rfl rfl
    obtain ⟨y1, h1⟩ := hf 1 5 c1 rfl rfl
    obtain ⟨y2, h2⟩ := hf 2 48 c2 rfl rfl
    obtain ⟨y3, h3⟩ := hf 3 23 c3 rfl rfl
    obtain ⟨y4, h4⟩ := hf 4 23 c4 rfl rfl
    obtain ⟨y5, h5⟩ := hf 5 49 c5 rfl rfl
    obtain ⟨y6, h6⟩ := hf 6 9 c6 rfl rfl
    obtain ⟨a0, rfl, b0⟩ := fstr_is Tryz.underlying9 h0
    obtain ⟨a1, rfl, b1⟩ := fu8_is Tryz.underlying5 h1
    obtain ⟨a2, rfl, b2⟩ := fu16_is Tryz.underlying48 h2
    obtain ⟨a3, rfl, b3⟩ := fu32_is Tryz.underlying23 h3
    obtain ⟨a4, rfl, b4⟩ := fu32_is Tryz.underlying23 h4
    obtain ⟨A, m, k, rfl⟩ := fslice_is Tryz.underlying49 h5
    obtain ⟨a6, rfl, b6⟩ := fstr_is Tryz.underlying9 h6
    obtain ⟨bs, r0, hc0, hm0⟩ := open_bytes_rd (d := y5.1) (p := y5.2) Tryz.underlying49 Tryz.underlying5 (by kernel_rfl) ⟨n, h5⟩
    exact ⟨⟨⟨a0, a1, a2, a3, a4, bs, a6⟩, A, m, k⟩, rfl, ⟨r0, hc0, hm0, b0, b6, b2, b1, b3, b4⟩⟩
theorem open_ents_rd {A : Option Addr} {n c : Nat} {d : DataW H} {p : List MemPlace} (h : DataW.Trod enc Tryz.prog w base (fun _ => true) held 22 (.slice A n c) d p) :
    ∃ l : List EntA, Rd w w.heap.size 7 A n (rowCs entVals l) ∧ l.length = n ∧ n ≤ c ∧ c ≤ maxLen ∧ ∀ s ∈ l, EntIn w s := by
  obtain ⟨fuel, hf⟩ := h
  exact open_structs_rd (size := 7) Tryz.underlying22 (by kernel_rfl) (by omega) entVals _ (fun _ => rfl) (fun _ _ _ h => ent_vals h) hf
end
end Go.Proofs.YtfegfmapdekkbaaGreatDoor
namespace Go.Proofs.YtfegfmapdekkbaaGreatDoor
set_option linter.unusedVariables false
set_option linter.unusedSimpArgs false
open Go.RowKit

theorem bys_at' {b : List UInt8} {i : Nat} {x : UInt8} (h : b[i]? = some x) : (bys b)[i]? = some (.int .u8 x.toNat) := by simp [bys, h]

/-- What has been copied from k on. -/
def backTo (b : List UInt8) (k : Nat) : List Value := List.replicate k (.int .u8 0) ++ bys (b.drop k)
theorem backTo_set {b : List UInt8} {k : Nat} {x : UInt8} (h : b[k]? = some x) : (backTo b (k + 1)).set k (.int .u8 x.toNat) = backTo b k := by
  unfold backTo
  rw [List.drop_eq_getElem_cons (i := k) (by have := (List.getElem?_eq_some_iff.1 h).1; exact this)]
  have hx : b[k]'((List.getElem?_eq_some_iff.1 h).1) = x := (List.getElem?_eq_some_iff.1 h).2
  rw [hx, List.replicate_succ', List.append_assoc]
  rw [List.set_append]
  simp [bys]

set_option maxRecDepth 20000 in
set_option maxHeartbeats 1000000 in
theorem copyBytes_any (A : Option Addr) (m c B : Nat) (b : List UInt8) (w : World) (hB : B ≤ w.heap.size) (hb : Rd w B 1 A m (bys b)) (hm : m ≤ 4294967296) :
    Calls Tryz.prog 16 #[.slice A m c] w fun e w' => ∃ A' c', e = .returned (.slice A' m c') ∧ w'.ownsRow w.heap.size 5 1 (.slice A' m c') m (bys b) ∧ Below w.heap.size w w' := by
  have hbl : b.length = m := by simpa [bys] using hb.len1
  rcases Nat.eq_zero_or_pos m with rfl | hpos
  · have hb0 : b = [] := List.eq_nil_of_length_eq_zero hbl
    subst hb0
    clear hb hbl
    go_enter Tryz.func16, Tryz.ntmps16
    go_wp2
    go_ret
    exact ⟨none, 0, rfl, World.ownsRow_nil _ _ _ _, Below.refl _ _⟩
  have hne : decide (m = 0) = false := by simp; omega
  obtain ⟨i, hi, hz0, hz1, hz2⟩ := info_parts byteInfo
  have Hb := hide hb
  have Hbl := hide hbl
  have Hi := hide hi
  have Hz0 := hide hz0
  have Hz1 := hide hz1
  have Hz2 := hide hz2
  clear hb hbl hi hz0 hz1 hz2
  go_enter Tryz.func16, Tryz.ntmps16
  go_wp2_with (at_make; refine wpList_make_full _ rfl _ _ 49 rfl w.heap.size 5 i (.int .u8 0) 1 Tryz.underlying49 (unhide Hi) (unhide Hz0) (unhide Hz1) _ _ _ _ m rfl rfl rfl rfl (by rw [unhide Hz2]; omega) (by unfold maxLen; omega) (Nat.le_refl _) ?_; intro w1 hown hgrow; have hb1 := (Below.refl w.heap.size w).grown hgrow (Nat.le_refl _) (fun k hk => by cases hk); have Hown := hide hown; have Hb1 := hide hb1; clear hown hgrow hb1)
  go_loopw [4] (fun at_ wr => ∃ k : Nat, k ≤ m ∧ at_ = .int .i64 ((k : Int) - 1) ∧ wr.ownsRow w.heap.size 5 1 (.slice (some ⟨w.heap.size, 0, none⟩) m m) m (backTo b k) ∧ Below w.heap.size w wr) (fun at_ _ => (intOf at_ + 1).toNat)
  case atStart =>
    refine ⟨m, Nat.le_refl _, rfl, ?_, unhide Hb1⟩
    have := unhide Hown
    have e : (madeCells (Value.int .u8 0).cells (m * 1)).toList = backTo b m := by
      unfold backTo
      rw [List.drop_eq_nil_of_le (by rw [unhide Hbl]; exact Nat.le_refl _)]
      simp [bys, Value.cells, toList_madeCells_one]
    rwa [e] at this
  case round =>
  clear Hown Hb1
  obtain ⟨k, hk, rfl, hown, hb2⟩ := hrel
  have Hown := hide hown
  have Hb2 := hide hb2
  clear hown hb2
  by_cases hk0 : k = 0
  · subst hk0
    go_wp2
    go_ret
    refine ⟨_, _, rfl, ?_, unhide Hb2⟩
    have := unhide Hown
    simpa [backTo] using this
  · obtain ⟨j, rfl⟩ : ∃ j, k = j + 1 := ⟨k - 1, by omega⟩
    obtain ⟨x, hx⟩ : ∃ x, b[j]? = some x := ⟨_, List.getElem?_eq_getElem (by rw [unhide Hbl]; omega)⟩
    obtain ⟨ab, ao, rfl, hlt, hc⟩ := ((unhide Hb).below ((unhide Hb2).mono hB)).at_ (bys_at' hx)
    have hset := own_set (i := j) (unhide Hown) (.int .u8 x.toNat)
    rw [backTo_set hx] at hset
    have hcl : (backTo b (j + 1))[j]? = some (.int .u8 0) := by simp [backTo, List.getElem?_append]
    have hc2 := own_cell (unhide Hown) hcl
    have hf2 := own_free (unhide Hown) j
    have hge := own_at (unhide Hown)
    have e1 : ((j + 1 : Nat) : Int) - 1 = (j : Int) := by omega
    rw [e1]
    have Hset := hide hset
    clear hset hcl hx
    go_wp2
    go_roundw
    case rel => exact ⟨j, by omega, rfl, unhide Hset, (unhide Hb2).setCell (Nat.le_refl _) _⟩
    case measure => simp [intOf]

end Go.Proofs.YtfegfmapdekkbaaGreatDoor
namespace Go.Proofs.YtfegfmapdekkbaaGreatDoor
set_option linter.unusedVariables false
set_option linter.unusedSimpArgs false
open Go.RowKit

theorem u32Ty : SlTy Tryz.prog 24 23 1 4 := slTy_mk (z := .int .u32 0) Tryz.underlying24 (by kernel_rfl) rfl (by omega) (by omega)
theorem entTy : SlTy Tryz.prog 22 51 7 72 := slTy_mk (z := .agg #[.string ⟨#[]⟩, .int .u8 0, .int .u16 0, .int .u32 0, .int .u32 0, .slice none 0 0, .string ⟨#[]⟩]) Tryz.underlying22 (by kernel_rfl) rfl (by omega) (by omega)
theorem u32_one (l : List Nat) : ∀ u ∈ l.map u32v, u.oneCell' = true := by
  intro u hu
  obtain ⟨x, _, rfl⟩ := List.mem_map.1 hu
  rfl
theorem credInfo : (Tryz.prog.info? 26).map (·.size) = some 5 := by kernel_rfl

set_option maxRecDepth 100000 in
set_option maxHeartbeats 1000000 in
theorem copyCred_any (c : Vf.Cred) (A : Option Addr) (n k B : Nat) (w : World) (hg : Rd w B 1 A n (c.groups.map u32v)) (hB : B ≤ w.heap.size) (hn : n ≤ 4294967296) :
    Calls Tryz.prog 12 #[credV c A n k] w fun e w' => ∃ A' k', e = .returned (credV c A' n k') ∧ Rd w' w'.heap.size 1 A' n (c.groups.map u32v) ∧ Below w.heap.size w w' := by
  have hb0 : Below w.heap.size w ((w.alloc (.cells #[.int .u32 (c.uid : Nat), .int .u32 (c.euid : Nat), .int .u32 (c.suid : Nat), .int .u32 (c.gid : Nat), .slice A n k] 26)).alloc (.cells #[.int .u32 0, .int .u32 0, .int .u32 0, .int .u32 0, .slice none 0 0] 26)) := ((Below.refl _ _).alloc (Nat.le_refl _) _).alloc (by simp) _
  have Hg := hide (hg.below (hb0.mono hB))
  have Hb0 := hide hb0
  have B1 : Blk ((w.alloc (.cells #[.int .u32 (c.uid : Nat), .int .u32 (c.euid : Nat), .int .u32 (c.suid : Nat), .int .u32 (c.gid : Nat), .slice A n k] 26)).alloc (.cells #[.int .u32 0, .int .u32 0, .int .u32 0, .int .u32 0, .slice none 0 0] 26)) w.heap.size 26 [.int .u32 (c.uid : Nat), .int .u32 (c.euid : Nat), .int .u32 (c.suid : Nat), .int .u32 (c.gid : Nat), .slice A n k] := (Blk.new w 26 [.int .u32 (c.uid : Nat), .int .u32 (c.euid : Nat), .int .u32 (c.suid : Nat), .int .u32 (c.gid : Nat), .slice A n k]).alloc _
  have B2 : Blk ((w.alloc (.cells #[.int .u32 (c.uid : Nat), .int .u32 (c.euid : Nat), .int .u32 (c.suid : Nat), .int .u32 (c.gid : Nat), .slice A n k] 26)).alloc (.cells #[.int .u32 0, .int .u32 0, .int .u32 0, .int .u32 0, .slice none 0 0] 26)) (w.heap.size + 1) 26 [.int .u32 0, .int .u32 0, .int .u32 0, .int .u32 0, .slice none 0 0] := by
    have := Blk.new (w.alloc (.cells #[.int .u32 (c.uid : Nat), .int .u32 (c.euid : Nat), .int .u32 (c.suid : Nat), .int .u32 (c.gid : Nat), .slice A n k] 26)) 26 [.int .u32 0, .int .u32 0, .int .u32 0, .int .u32 0, .slice none 0 0]
    rw [World.size_alloc] at this
    exact this
  have HB1 := hide B1
  have HB2 := hide B2
  have hsz0 : w.heap.size ≤ ((w.alloc (.cells #[.int .u32 (c.uid : Nat), .int .u32 (c.euid : Nat), .int .u32 (c.suid : Nat), .int .u32 (c.gid : Nat), .slice A n k] 26)).alloc (.cells #[.int .u32 0, .int .u32 0, .int .u32 0, .int .u32 0, .slice none 0 0] 26)).heap.size := hb0.size
  unfold credV
  clear hg hb0 B1 B2
  go_enter Tryz.func12, Tryz.ntmps12
  go_wp2_with (at_builtin; refine wpList_app u32Ty rfl _ _ rfl (w.heap.size + 2) (.slice none 0 0) 0 [] rfl (World.ownsRow_nil _ _ _ _) B A n k _ rfl (unhide Hg) (u32_one _) (by omega) (by simp) ?_; intro A4 k4 w4 ho4 hg4 hat4; have hC1 : Blk w4 w.heap.size 26 [.int .u32 (c.uid : Nat), .int .u32 (c.euid : Nat), .int .u32 (c.suid : Nat), .int .u32 (c.gid : Nat), .slice A n k] := (hg4.block _ (unhide HB1).lt (fun e => by simp [Value.ownBlock] at e)).trans (unhide HB1); have hC2 : Blk w4 (w.heap.size + 1) 26 [.int .u32 0, .int .u32 0, .int .u32 0, .int .u32 0, .slice none 0 0] := (hg4.block _ (unhide HB2).lt (fun e => by simp [Value.ownBlock] at e)).trans (unhide HB2); have hb4 := (unhide Hb0).grown hg4 hsz0 (fun k hk => by simp [Value.ownBlock] at hk); simp only [Nat.zero_add, List.nil_append] at ho4 ⊢; obtain ⟨a0, a1, a2, a3, a4⟩ : w4.cell? ⟨w.heap.size, 0, none⟩ = some (.int .u32 (c.uid : Nat)) ∧ w4.cell? ⟨w.heap.size, 1, none⟩ = some (.int .u32 (c.euid : Nat)) ∧ w4.cell? ⟨w.heap.size, 2, none⟩ = some (.int .u32 (c.suid : Nat)) ∧ w4.cell? ⟨w.heap.size, 3, none⟩ = some (.int .u32 (c.gid : Nat)) ∧ w4.cell? ⟨w.heap.size, 4, none⟩ = some (.slice A n k) := ⟨hC1.cell rfl, hC1.cell rfl, hC1.cell rfl, hC1.cell rfl, hC1.cell rfl⟩; obtain ⟨f0, f1, f2, f3, f4⟩ : w4.frozen? ⟨w.heap.size, 0, none⟩ = false ∧ w4.frozen? ⟨w.heap.size, 1, none⟩ = false ∧ w4.frozen? ⟨w.heap.size, 2, none⟩ = false ∧ w4.frozen? ⟨w.heap.size, 3, none⟩ = false ∧ w4.frozen? ⟨w.heap.size, 4, none⟩ = false := ⟨hC1.free _, hC1.free _, hC1.free _, hC1.free _, hC1.free _⟩; obtain ⟨b0, b1, b2, b3, b4⟩ : w4.cell? ⟨w.heap.size + 1, 0, none⟩ = some (.int .u32 0) ∧ w4.cell? ⟨w.heap.size + 1, 1, none⟩ = some (.int .u32 0) ∧ w4.cell? ⟨w.heap.size + 1, 2, none⟩ = some (.int .u32 0) ∧ w4.cell? ⟨w.heap.size + 1, 3, none⟩ = some (.int .u32 0) ∧ w4.cell? ⟨w.heap.size + 1, 4, none⟩ = some (.slice none 0 0) := ⟨hC2.cell rfl, hC2.cell rfl, hC2.cell rfl, hC2.cell rfl, hC2.cell rfl⟩; obtain ⟨g0, g1, g2, g3, g4⟩ : w4.frozen? ⟨w.heap.size + 1, 0, none⟩ = false ∧ w4.frozen? ⟨w.heap.size + 1, 1, none⟩ = false ∧ w4.frozen? ⟨w.heap.size + 1, 2, none⟩ = false ∧ w4.frozen? ⟨w.heap.size + 1, 3, none⟩ = false ∧ w4.frozen? ⟨w.heap.size + 1, 4, none⟩ = false := ⟨hC2.free _, hC2.free _, hC2.free _, hC2.free _, hC2.free _⟩; have HC1 := hide hC1; have HC2 := hide hC2; have Ho4 := hide ho4; have Hb4 := hide hb4; clear ho4 hg4 hat4 hb4 hC1 hC2)
  have hne : w.heap.size + 1 ≠ w.heap.size := by omega
  have hE := ((((((unhide HC2).other (p := ⟨w.heap.size, 4, none⟩) (by show w.heap.size ≠ w.heap.size + 1; omega) (Value.slice A4 n k4)).set 0 (Value.int .u32 (c.uid : Nat))).set 1 (Value.int .u32 (c.euid : Nat))).set 2 (Value.int .u32 (c.suid : Nat))).set 3 (Value.int .u32 (c.gid : Nat))).set 4 (Value.slice A4 n k4)
  have hbE := ((((((unhide Hb4).setCell (p := ⟨w.heap.size, 4, none⟩) (Nat.le_refl _) (Value.slice A4 n k4)).setCell (p := ⟨w.heap.size + 1, 0, none⟩) (by show w.heap.size ≤ w.heap.size + 1; omega) (Value.int .u32 (c.uid : Nat))).setCell (p := ⟨w.heap.size + 1, 1, none⟩) (by show w.heap.size ≤ w.heap.size + 1; omega) (Value.int .u32 (c.euid : Nat))).setCell (p := ⟨w.heap.size + 1, 2, none⟩) (by show w.heap.size ≤ w.heap.size + 1; omega) (Value.int .u32 (c.suid : Nat))).setCell (p := ⟨w.heap.size + 1, 3, none⟩) (by show w.heap.size ≤ w.heap.size + 1; omega) (Value.int .u32 (c.gid : Nat))).setCell (p := ⟨w.heap.size + 1, 4, none⟩) (by show w.heap.size ≤ w.heap.size + 1; omega) (Value.slice A4 n k4)
  have hown : ∀ W' : World, (∀ g, w.heap.size + 2 ≤ g → W'.heap[g]? = w4.heap[g]?) → W'.ownsRow (w.heap.size + 2) 23 1 (.slice A4 n k4) n (c.groups.map u32v) :=
    fun W' h => own_keepB' (unhide Ho4) (fun g hg => h g ((unhide Ho4).lt g hg).1)
  refine bodyPost_ret (results_cell_row (P := Tryz.prog) rfl _ _ (w.heap.size + 1) 26 #[.int .u32 (c.uid : Nat), .int .u32 (c.euid : Nat), .int .u32 (c.suid : Nat), .int .u32 (c.gid : Nat), .slice A4 n k4] (0, 0) _ rfl hE Tryz.underlying26 rfl credInfo) rfl ?_
  exact ⟨A4, k4, rfl, Rd.of_own (hown _ (fun g hg => by rw [heap_setCell_other _ _ _ _ (by show g ≠ w.heap.size + 1; omega), heap_setCell_other _ _ _ _ (by show g ≠ w.heap.size + 1; omega), heap_setCell_other _ _ _ _ (by show g ≠ w.heap.size + 1; omega), heap_setCell_other _ _ _ _ (by show g ≠ w.heap.size + 1; omega), heap_setCell_other _ _ _ _ (by show g ≠ w.heap.size + 1; omega), heap_setCell_other _ _ _ _ (by show g ≠ w.heap.size; omega)])), hbE⟩

/-- How great: what Large says where it says no. -/
def LgE (l : List EntA) (n : Nat) (w : World) (e : Ending) (w' : World) : Prop :=
  ∃ b q, e = .returned (.bool b) ∧ (b = false → n ≤ 262144 ∧ ∀ s ∈ l, s.e.path.size ≤ 262144 ∧ s.n ≤ 262144 ∧ s.e.to.size ≤ 262144) ∧ w' = w.drewN q
set_option maxRecDepth 100000 in
set_option maxHeartbeats 1000000 in
theorem large_any (l : List EntA) (A : Option Addr) (n c B : Nat) (w : World) (h : Rd w B 7 A n (rowCs entVals l)) (hl : l.length = n) (hn : n ≤ maxLen) (hsz : ∀ s ∈ l, s.e.path.size ≤ maxLen ∧ s.n ≤ maxLen ∧ s.e.to.size ≤ maxLen) :
    Calls Tryz.prog 4 #[.slice A n c] w (LgE l n w) := by
  have H := hide h
  have Hl := hide hl
  have Hsz := hide hsz
  unfold maxLen at hn
  clear h hl hsz
  go_enter Tryz.func4, Tryz.ntmps4
  go_wp2_with fail
  go_loopg [3, 4] n (fun gk av iv wr => ∃ (k a q : Nat), gk = n - k ∧ k ≤ n ∧ iv = .int .i64 (k : Nat) ∧ av = .int .i64 (a : Nat) ∧ n ≤ a ∧ (k = 0 ∧ a = n ∨ a ≤ 1835008) ∧ (∀ s ∈ l.take k, min s.e.path.size 524288 ≤ a ∧ min s.n 524288 ≤ a ∧ min s.e.to.size 524288 ≤ a) ∧ wr = w.drewN q)
  case atStart => exact ⟨0, n, 0, by omega, Nat.zero_le _, rfl, rfl, Nat.le_refl _, .inl ⟨rfl, rfl⟩, by simp, rfl⟩
  case round =>
  obtain ⟨k, a, q, hgk, hk, rfl, rfl, hna, hab, hall, rfl⟩ := hrel
  have Hgk := hide hgk
  have Hall := hide hall
  clear hgk hall
  by_cases hgo : k < n ∧ a ≤ 262144
  · obtain ⟨hlt, ha⟩ := hgo
    obtain ⟨s, hs⟩ : ∃ s, l[k]? = some s := ⟨_, List.getElem?_eq_getElem (by rw [unhide Hl]; exact hlt)⟩
    obtain ⟨b1, o1, rfl, hb1, c1⟩ := (unhide H).open_ (by
      intro h0
      have := rowCs_len (vals := entVals) (size := 7) (fun _ => rfl) l
      rw [h0, unhide Hl] at this
      simp at this
      omega)
    have hc : ∀ j u, (entVals s)[j]? = some u → w.cell? ⟨b1, o1 + (k * 7 + j), none⟩ = some u := by
      intro j u hu
      have hj : j < 7 := (List.getElem?_eq_some_iff.1 hu).1
      refine c1 _ _ ?_
      rw [rowCs_at (vals := entVals) (size := 7) (fun _ => rfl) l k s hs j hj, hu]
    have x0 := hc 0 _ rfl
    have x5 := hc 5 _ rfl
    have x6 := hc 6 _ rfl
    rw [Nat.add_zero] at x0
    simp only [← Nat.add_assoc] at x5 x6
    obtain ⟨z0, z5, z6⟩ := (unhide Hsz) s (List.mem_of_getElem? hs)
    unfold maxLen at z0 z5 z6
    obtain ⟨m0, hm0⟩ : ∃ m, min s.e.path.size 524288 = m := ⟨_, rfl⟩
    obtain ⟨m5, hm5⟩ : ∃ m, min s.n 524288 = m := ⟨_, rfl⟩
    obtain ⟨m6, hm6⟩ : ∃ m, min s.e.to.size 524288 = m := ⟨_, rfl⟩
    have r0 : min (s.e.path.size : Int) 524288 = (m0 : Int) := by omega
    have r5 : min (s.n : Int) 524288 = (m5 : Int) := by omega
    have r6 : min (s.e.to.size : Int) 524288 = (m6 : Int) := by omega
    have u0 : m0 ≤ 524288 := by omega
    have u5 : m5 ≤ 524288 := by omega
    have u6 : m6 ≤ 524288 := by omega
    have w1 : IntKind.i64.wrap ((a : Int) + (m0 : Int)) = (a : Int) + (m0 : Int) := IntWalk.i64_in _ (by omega)
    have w2 : IntKind.i64.wrap ((a : Int) + (m0 : Int) + (m5 : Int)) = (a : Int) + (m0 : Int) + (m5 : Int) := IntWalk.i64_in _ (by omega)
    have w3 : IntKind.i64.wrap ((a : Int) + (m0 : Int) + (m5 : Int) + (m6 : Int)) = (a : Int) + (m0 : Int) + (m5 : Int) + (m6 : Int) := IntWalk.i64_in _ (by omega)
    have i1 : (k : Int) < (n : Int) := by omega
    have i0 : (0 : Int) ≤ (k : Int) := by omega
    have i2 : (a : Int) ≤ 262144 := by omega
    have Hs := hide hs
    have Hm := hide (And.intro hm0 (And.intro hm5 hm6))
    clear hc c1 hs hm0 hm5 hm6 z0 z5 z6 hab
    go_wp2_with fail
    go_quiet (fail)
    go_wp2_with fail
    go_roundg (n - (k + 1))
    case rel =>
      refine ⟨k + 1, a + m0 + m5 + m6, q + nq, rfl, by omega, by go_num, by go_num, by omega, .inr (by omega), ?_, ?_⟩
      · intro t ht
        rw [List.take_add_one, unhide Hs] at ht
        obtain ⟨e0, e5, e6⟩ := unhide Hm
        rcases List.mem_append.1 ht with ht | ht
        · have := (unhide Hall) t ht
          omega
        · have : t = s := by simpa using ht
          subst this
          omega
      · simp [World.drewN, Nat.add_assoc]
    case measure => rw [unhide Hgk]; omega
  · have hor : (¬ (k : Int) < (n : Int)) ∨ ((k : Int) < (n : Int) ∧ ¬ (a : Int) ≤ 262144) := by omega
    have hres : (a ≤ 262144) → n ≤ 262144 ∧ ∀ s ∈ l, s.e.path.size ≤ 262144 ∧ s.n ≤ 262144 ∧ s.e.to.size ≤ 262144 := by
      intro ha
      have hkn : k = n := by omega
      refine ⟨by omega, fun s hs => ?_⟩
      have h1 := (unhide Hall) s (by rw [List.take_of_length_le (by rw [unhide Hl]; omega)]; exact hs)
      omega
    have Hres := hide hres
    clear hgo hres hab
    by_cases hbig : 262144 < a
    · have i2 : (262144 : Int) < (a : Int) := by omega
      rcases hor with h1 | ⟨h1, h2⟩
      all_goals
        go_wp2_with fail
        go_ret
        exact ⟨true, q, rfl, fun h => absurd h (by decide), rfl⟩
    · have i2 : ¬ (262144 : Int) < (a : Int) := by omega
      have Hbig := hide hbig
      rcases hor with h1 | ⟨h1, h2⟩
      · clear hbig
        go_wp2_with fail
        go_ret
        exact ⟨false, q, rfl, fun _ => (unhide Hres) (by have := unhide Hbig; omega), rfl⟩
      · exact absurd h2 (by omega)
end Go.Proofs.YtfegfmapdekkbaaGreatDoor
namespace Go.Proofs.YtfegfmapdekkbaaGreatDoor
set_option linter.unusedVariables false
set_option linter.unusedSimpArgs false
open Go.RowKit

/-- Entries in memory made since w: each with bytes of its own. -/
structure CpS (w : World) (es : List Vf.Ent) (A : Option Addr) (c : Nat) (l' : List EntA) (W : World) : Prop where
  map : l'.map (·.e) = es
  row : W.ownsRow w.heap.size 51 7 (.slice A l'.length c) l'.length (rowCs entVals l')
  dat : ∀ s ∈ l', W.ownsRow w.heap.size 5 1 (.slice s.A s.n s.c) s.n (bys s.e.data)
  apart : l'.Pairwise (fun s t => ∀ g, (Value.slice s.A s.n s.c).ownBlock = some g → (Value.slice t.A t.n t.c).ownBlock ≠ some g)
  bel : Below w.heap.size w W
section
variable {w W W' : World} {es : List Vf.Ent} {A : Option Addr} {c : Nat} {l' : List EntA}
theorem CpS.keep (h : CpS w es A c l' W) (hk : ∀ k, w.heap.size ≤ k → k < W.heap.size → W'.heap[k]? = W.heap[k]?) (hb : Below w.heap.size w W') : CpS w es A c l' W' :=
  ⟨h.map, own_keepA h.row hk, fun s hs => own_keepA (h.dat s hs) hk, h.apart, hb⟩
theorem CpS.below (h : CpS w es A c l' W) (hb : Below W.heap.size W W') : CpS w es A c l' W' := h.keep (fun k _ hk => hb.block k hk) (h.bel.trans (hb.mono h.bel.size))
theorem CpS.len (h : CpS w es A c l' W) : l'.length = es.length := by rw [← h.map, List.length_map]
end
theorem row_blkS {w : World} {base n c k size : Nat} {e : TypeId} {A : Option Addr} {xs : List Value} (h : w.ownsRow base e size (.slice A n c) n xs) (hk : (Value.slice A n c).ownBlock = some k) : ∃ cs, w.heap[k]? = some (.cells cs e (0, 0)) := by
  rcases h.2 with ⟨h1, h2⟩ | ⟨g, cap, cur, hv, hbg, hh, hcap⟩
  · rw [h1] at hk; cases hk
  · rw [hv] at hk
    have : g = k := by simpa [Value.ownBlock] using hk
    exact ⟨cur, this ▸ hh⟩
theorem own_tyne {w : World} {base base2 n c n2 c2 size size2 : Nat} {e e2 : TypeId} {A A2 : Option Addr} {xs xs2 : List Value} (h : w.ownsRow base e size (.slice A n c) n xs) (h2 : w.ownsRow base2 e2 size2 (.slice A2 n2 c2) n2 xs2) (hne : e ≠ e2) : (Value.slice A n c).ownBlock = none ∨ (Value.slice A n c).ownBlock ≠ (Value.slice A2 n2 c2).ownBlock := by
  cases hv : (Value.slice A n c).ownBlock with
  | none => exact .inl rfl
  | some k =>
    refine .inr fun e0 => ?_
    obtain ⟨cs, h3⟩ := row_blkS h hv
    obtain ⟨cs2, h4⟩ := row_blkS h2 e0.symm
    rw [h3] at h4
    injection h4 with h4
    injection h4 with _ h5
    exact hne h5
/-- One entry more, its bytes in a row made since. -/
theorem CpS.next {w W0 W W' : World} {es : List Vf.Ent} {A0 A : Option Addr} {c0 c : Nat} {l' : List EntA} (h0 : CpS w es A c l' W0) (h : CpS w es A c l' W) (s : EntA) (hd : W.ownsRow (W0.heap.size + 1) 5 1 (.slice s.A s.n s.c) s.n (bys s.e.data)) (hlo : w.heap.size ≤ W0.heap.size)
    (A' : Option Addr) (c' : Nat) (hr : W'.ownsRow w.heap.size 51 7 (.slice A' (l'.length + 1) c') (l'.length + 1) (rowCs entVals l' ++ entVals s)) (hg : W.grownBy W' (Value.slice A l'.length c).ownBlock) : CpS w (es ++ [s.e]) A' c' (l' ++ [s]) W' := by
  have hne : (5 : TypeId) ≠ 51 := by decide
  refine ⟨by rw [List.map_append, h.map]; rfl, ?_, ?_, ?_, h.bel.grown hg h.bel.size (fun k hk => (h.row.lt k hk).1)⟩
  · rw [List.length_append, rowCs_app]
    have e1 : rowCs entVals [s] = entVals s := by simp [rowCs]
    rw [e1]
    exact hr
  · intro t ht
    rcases List.mem_append.1 ht with ht | ht
    · exact (h.dat t ht).kept hg (own_tyne (h.dat t ht) h.row hne)
    · have e1 : t = s := by simpa using ht
      subst e1
      exact own_base (hd.kept hg (own_tyne hd h.row hne)) (by omega)
  · rw [List.pairwise_append]
    refine ⟨h.apart, by simp, fun t ht u hu g hg2 e => ?_⟩
    have e1 : u = s := by simpa using hu
    subst e1
    have a1 := ((h0.dat t ht).lt g hg2).2
    have a2 := (hd.lt g e).1
    omega
def CpE (es : List Vf.Ent) (w : World) (e : Ending) (w' : World) : Prop := ∃ A c l', e = .returned (.slice A es.length c) ∧ CpS w es A c l' w'
theorem entC_one (s : EntA) : ∀ u ∈ (entVals s), u.oneCell' = true := by
  intro u hu
  simp only [entVals, entC, List.mem_cons, List.not_mem_nil, or_false] at hu
  rcases hu with rfl | rfl | rfl | rfl | rfl | rfl | rfl <;> rfl

set_option maxRecDepth 100000 in
set_option maxHeartbeats 4000000 in
theorem copyEnts_any (l : List EntA) (A : Option Addr) (n c B : Nat) (w : World) (h : Rd w B 7 A n (rowCs entVals l)) (hB : B ≤ w.heap.size) (hl : l.length = n) (hn : n ≤ 4294967296) (hok : ∀ s ∈ l, Rd w B 1 s.A s.n (bys s.e.data) ∧ s.n ≤ 4294967296) :
    Calls Tryz.prog 8 #[.slice A n c] w (CpE (l.map (·.e)) w) := by
  have H := hide h
  have Hl := hide hl
  have Hok := hide hok
  clear h hl hok
  go_enter Tryz.func8, Tryz.ntmps8
  go_wp2_with fail
  go_loopg [3, 4] n (fun gk lv iv wr => ∃ (k : Nat) (A1 : Option Addr) (c1 : Nat) (l1 : List EntA), gk = n - k ∧ k ≤ n ∧ l1.length = k ∧ iv = .int .i64 (k : Nat) ∧ lv = .slice A1 k c1 ∧ CpS w ((l.take k).map (·.e)) A1 c1 l1 wr)
  case atStart => exact ⟨0, none, 0, [], by omega, Nat.zero_le _, rfl, rfl, rfl, rfl, World.ownsRow_nil _ _ _ _, by simp, by simp, Below.refl _ _⟩
  case round =>
  obtain ⟨k, A1, c1, l1, hgk, hk, hl1, rfl, rfl, hS⟩ := hrel
  have Hgk := hide hgk
  have Hl1 := hide hl1
  have HS := hide hS
  have hsz := hS.bel.size
  clear hgk hS hl1
  by_cases hlt : k < n
  · obtain ⟨s, hs⟩ : ∃ s, l[k]? = some s := ⟨_, List.getElem?_eq_getElem (by rw [unhide Hl]; exact hlt)⟩
    obtain ⟨b1, o1, rfl, hb1, cc1⟩ := (unhide H).open_ (by
      intro h0
      have := rowCs_len (vals := entVals) (size := 7) (fun _ => rfl) l
      rw [h0, unhide Hl] at this
      simp at this
      omega)
    have hc : ∀ j u, (entVals s)[j]? = some u → wr.cell? ⟨b1, o1 + (k * 7 + j), none⟩ = some u := by
      intro j u hu
      have hj : j < 7 := (List.getElem?_eq_some_iff.1 hu).1
      refine ((unhide HS).bel.cell (p := ⟨b1, _, none⟩) (Nat.lt_of_lt_of_le hb1 hB)).trans (cc1 _ _ ?_)
      rw [rowCs_at (vals := entVals) (size := 7) (fun _ => rfl) l k s hs j hj, hu]
    have x0 := hc 0 _ rfl
    have x1 := hc 1 _ rfl
    have x2 := hc 2 _ rfl
    have x3 := hc 3 _ rfl
    have x4 := hc 4 _ rfl
    have x5 := hc 5 _ rfl
    have x6 := hc 6 _ rfl
    rw [Nat.add_zero] at x0
    simp only [← Nat.add_assoc] at x1 x2 x3 x4 x5 x6
    obtain ⟨hd, hdn⟩ := (unhide Hok) s (List.mem_of_getElem? hs)
    have hbA : Below wr.heap.size wr (wr.alloc (.cells #[.string s.e.path, .int .u8 (s.e.kind : Nat), .int .u16 (s.e.mode : Nat), .int .u32 (s.e.uid : Nat), .int .u32 (s.e.gid : Nat), .slice s.A s.n s.c, .string s.e.to] 51)) := (Below.refl _ _).alloc (Nat.le_refl _) _
    have hbW := (unhide HS).bel.trans (hbA.mono hsz)
    have KC := hide (copyBytes_any s.A s.n s.c w.heap.size s.e.data (wr.alloc (.cells #[.string s.e.path, .int .u8 (s.e.kind : Nat), .int .u16 (s.e.mode : Nat), .int .u32 (s.e.uid : Nat), .int .u32 (s.e.gid : Nat), .slice s.A s.n s.c, .string s.e.to] 51)) hbW.size ((hd.more hB).below hbW) hdn)
    have ilt : (k : Int) < (n : Int) := by omega
    have Hs := hide hs
    have HbA := hide hbA
    clear hc cc1 hs hd hdn hbA hbW
    go_wp2_with fail
    refine (unhide KC).mono ?_
    rintro e w2 ⟨A2, c2, rfl, ho2, hb2⟩
    have hq : Blk w2 wr.heap.size 51 [.string s.e.path, .int .u8 (s.e.kind : Nat), .int .u16 (s.e.mode : Nat), .int .u32 (s.e.uid : Nat), .int .u32 (s.e.gid : Nat), .slice s.A s.n s.c, .string s.e.to] := (Blk.new wr 51 _).belowSz hb2
    have hq2 := hq.set 5 (.slice A2 s.n c2)
    have hb3 := (unhide HbA).trans (hb2.mono (by simp))
    have hb4 := hb3.setCell (p := ⟨wr.heap.size, 5, none⟩) (Nat.le_refl _) (.slice A2 s.n c2)
    have ho4 : (w2.setCell ⟨wr.heap.size, 5, none⟩ (.slice A2 s.n c2)).ownsRow (wr.heap.size + 1) 5 1 (.slice A2 s.n c2) s.n (bys s.e.data) := by
      rw [World.size_alloc] at ho2
      exact own_keepB' ho2 (fun g hg => heap_setCell_other _ _ _ _ (by have := (ho2.lt g hg).1; show g ≠ wr.heap.size; omega))
    obtain ⟨p0, p1, p2, p3, p4, p5, p6⟩ : w2.cell? ⟨wr.heap.size, 0, none⟩ = some (.string s.e.path) ∧ w2.cell? ⟨wr.heap.size, 1, none⟩ = some (.int .u8 (s.e.kind : Nat)) ∧ w2.cell? ⟨wr.heap.size, 2, none⟩ = some (.int .u16 (s.e.mode : Nat)) ∧ w2.cell? ⟨wr.heap.size, 3, none⟩ = some (.int .u32 (s.e.uid : Nat)) ∧ w2.cell? ⟨wr.heap.size, 4, none⟩ = some (.int .u32 (s.e.gid : Nat)) ∧ w2.cell? ⟨wr.heap.size, 5, none⟩ = some (.slice s.A s.n s.c) ∧ w2.cell? ⟨wr.heap.size, 6, none⟩ = some (.string s.e.to) := ⟨hq.cell rfl, hq.cell rfl, hq.cell rfl, hq.cell rfl, hq.cell rfl, hq.cell rfl, hq.cell rfl⟩
    have pf := hq.free 5
    have HS4 := hide ((unhide HS).below hb4)
    have Ho4 := hide ho4
    have Hb4 := hide hb4
    have hsz4 : wr.heap.size ≤ (w2.setCell ⟨wr.heap.size, 5, none⟩ (.slice A2 s.n c2)).heap.size := hb4.size
    have hszw : w.heap.size ≤ (w2.setCell ⟨wr.heap.size, 5, none⟩ (.slice A2 s.n c2)).heap.size := Nat.le_trans hsz hsz4
    have Hq2 := hide hq2
    have hrow4 := (unhide HS4).row
    rw [unhide Hl1] at hrow4
    have Hrow4 := hide hrow4
    have hent : (l.take (k + 1)).map (·.e) = (l.take k).map (·.e) ++ [s.e] := by
      rw [List.take_add_one, unhide Hs, List.map_append]
      rfl
    have Hent := hide hent
    clear x0 x1 x2 x3 x4 x5 x6 hb2 ho2 hq hq2 hb3 hb4 ho4 KC HbA hrow4 hent
    go_wp2_with (at_builtin; refine wpList_app1g entTy rfl _ _ rfl w.heap.size (.slice A1 k c1) k _ rfl (unhide Hrow4) #[.string s.e.path, .int .u8 (s.e.kind : Nat), .int .u16 (s.e.mode : Nat), .int .u32 (s.e.uid : Nat), .int .u32 (s.e.gid : Nat), .slice A2 s.n c2, .string s.e.to] _ rfl (by simp) rfl (entC_one ⟨s.e, A2, s.n, c2⟩) (by omega) hszw ?_; intro A5 c5 w5 ho5 hg5 hat5; have Ho5 := hide ho5; have Hg5 := hide hg5; clear ho5 hg5 hat5)
    go_roundg (n - (k + 1))
    case rel =>
      have hg5 := unhide Hg5
      refine ⟨k + 1, A5, c5, l1 ++ [⟨s.e, A2, s.n, c2⟩], rfl, by omega, by rw [List.length_append, unhide Hl1]; rfl, by go_num, rfl, ?_⟩
      rw [unhide Hent]
      exact CpS.next (A0 := A1) (c0 := c1) (unhide HS) (unhide HS4) ⟨s.e, A2, s.n, c2⟩ (unhide Ho4) hsz A5 c5 (by rw [unhide Hl1]; exact unhide Ho5) (by rw [unhide Hl1]; exact hg5)
    case measure => rw [unhide Hgk]; omega
  · have ilt : ¬ (k : Int) < (n : Int) := by omega
    have hkn : k = n := by omega
    go_wp2_with fail
    go_ret
    have hS := unhide HS
    rw [List.take_of_length_le (by rw [unhide Hl]; omega)] at hS
    refine ⟨A1, c1, l1, ?_, hS⟩
    rw [List.length_map, unhide Hl]
    first | rfl | rw [hkn]
end Go.Proofs.YtfegfmapdekkbaaGreatDoor
namespace Go.Proofs.YtfegfmapdekkbaaGreatDoor
set_option linter.unusedVariables false
set_option linter.unusedSimpArgs false
open Go.RowKit

theorem own_setG {w : World} {base g n c i size : Nat} {e : TypeId} {xs : List Value} (h : w.ownsRow base e size (.slice (some ⟨g, 0, none⟩) n c) n xs) (u : Value) :
    (w.setCell ⟨g, i, none⟩ u).ownsRow base e size (.slice (some ⟨g, 0, none⟩) n c) n (xs.set i u) := by
  obtain ⟨hl, hn | ⟨g', cap, cur, hv, hb, hg, h1, h2, h3, h4⟩⟩ := h
  · exact absurd hn.1 (by simp)
  · obtain ⟨rfl, rfl⟩ : g = g' ∧ c = cap := by simpa using hv
    refine ⟨by simpa using hl, .inr ⟨g, c, cur.setIfInBounds i u, rfl, hb, heap_setCell_same _ _ _ _ _ _ hg, h1, h2, by simpa using h3, ?_⟩⟩
    simp only [Array.toList_setIfInBounds, List.take_set, h4]
/-- A store into another block leaves a row of the call's own as it was. -/
theorem own_setO {w : World} {base g i n c size : Nat} {A : Option Addr} {e : TypeId} {xs : List Value} (h : w.ownsRow base e size (.slice A n c) n xs) (hne : (Value.slice A n c).ownBlock ≠ some g) (u : Value) : (w.setCell ⟨g, i, none⟩ u).ownsRow base e size (.slice A n c) n xs := by
  obtain ⟨hl, hn | ⟨g', cap, cur, hv, hb, hg, h1, h2, h3, h4⟩⟩ := h
  · exact ⟨hl, .inl hn⟩
  · refine ⟨hl, .inr ⟨g', cap, cur, hv, hb, (heap_setCell_other _ _ _ _ ?_).trans hg, h1, h2, h3, h4⟩⟩
    show g' ≠ g
    rintro rfl
    rw [hv] at hne
    exact hne rfl

/-- Where made stands: the entries from k on are as they were copied, and so are the bytes of those from d on. -/
structure SpS (w : World) (A : Option Addr) (c : Nat) (l' : List EntA) (k d : Nat) (W : World) : Prop where
  bel : Below w.heap.size w W
  row : ∃ xs, W.ownsRow w.heap.size 51 7 (.slice A l'.length c) l'.length xs ∧ ∀ i, k * 7 ≤ i → xs[i]? = (rowCs entVals l')[i]?
  dat : ∀ j s, d ≤ j → l'[j]? = some s → W.ownsRow w.heap.size 5 1 (.slice s.A s.n s.c) s.n (bys s.e.data)
  apart : l'.Pairwise (fun s t => ∀ g, (Value.slice s.A s.n s.c).ownBlock = some g → (Value.slice t.A t.n t.c).ownBlock ≠ some g)
section
variable {w W W' : World} {es : List Vf.Ent} {A : Option Addr} {c k d g : Nat} {l' : List EntA}
theorem SpS.start (h : CpS w es A c l' W) : SpS w A c l' 0 0 W :=
  ⟨h.bel, ⟨_, h.row, fun _ _ => rfl⟩, fun j s _ hs => h.dat s (List.mem_of_getElem? hs), h.apart⟩
theorem SpS.below (h : SpS w A c l' k d W) (hb : Below W.heap.size W W') : SpS w A c l' k d W' := by
  obtain ⟨xs, h1, h2⟩ := h.row
  exact ⟨h.bel.trans (hb.mono h.bel.size), ⟨xs, own_keepA h1 (fun k _ hk => hb.block k hk), h2⟩, fun j s hj hs => own_keepA (h.dat j s hj hs) (fun k _ hk => hb.block k hk), h.apart⟩
theorem SpS.less (h : SpS w A c l' k d W) {k' d' : Nat} (hk : k ≤ k') (hd : d ≤ d') : SpS w A c l' k' d' W := by
  obtain ⟨xs, h1, h2⟩ := h.row
  exact ⟨h.bel, ⟨xs, h1, fun i hi => h2 i (by omega)⟩, fun j s hj hs => h.dat j s (by omega) hs, h.apart⟩
/-- A store into a cell of the entries below k. -/
theorem SpS.setRow (h : SpS w (some ⟨g, 0, none⟩) c l' k d W) (i : Nat) (hi : i < k * 7) (u : Value) : SpS w (some ⟨g, 0, none⟩) c l' k d (W.setCell ⟨g, i, none⟩ u) := by
  obtain ⟨xs, h1, h2⟩ := h.row
  have hg : w.heap.size ≤ g := by
    obtain ⟨hl, hn | ⟨g', cap, cur, hv, hb, hg, _⟩⟩ := h1
    · exact absurd hn.1 (by simp)
    · obtain ⟨rfl, rfl⟩ : g = g' ∧ c = cap := by simpa using hv
      exact hb
  have hne : ∀ j s, d ≤ j → l'[j]? = some s → (Value.slice s.A s.n s.c).ownBlock ≠ some g := by
    intro j s hj hs e
    obtain ⟨c1, e1⟩ := row_blkS (h.dat j s hj hs) e
    obtain ⟨c2, e2⟩ := row_blkS (k := g) h1 rfl
    rw [e1] at e2
    injection e2 with e2
    injection e2 with _ e3
    exact absurd e3 (by decide)
  refine ⟨h.bel.setCell (p := ⟨g, i, none⟩) hg u, ⟨xs.set i u, own_setG h1 u, fun i' hi' => ?_⟩, fun j s hj hs => own_setO (h.dat j s hj hs) (hne j s hj hs) u, h.apart⟩
  rw [List.getElem?_set_ne (by omega)]
  exact h2 i' hi'
theorem SpS.base (h : SpS w (some ⟨g, 0, none⟩) c l' k d W) : w.heap.size ≤ g := by
  obtain ⟨xs, h1, h2⟩ := h.row
  obtain ⟨hl, hn | ⟨g', cap, cur, hv, hb, hg, _⟩⟩ := h1
  · exact absurd hn.1 (by simp)
  · obtain ⟨rfl, rfl⟩ : g = g' ∧ c = cap := by simpa using hv
    exact hb
/-- The cells of an entry that is as it was. -/
theorem SpS.cell (h : SpS w (some ⟨g, 0, none⟩) c l' k d W) {j : Nat} {s : EntA} (hj : k ≤ j) (hs : l'[j]? = some s) {q : Nat} (hq : q < 7) {u : Value} (hu : (entVals s)[q]? = some u) : W.cell? ⟨g, j * 7 + q, none⟩ = some u := by
  obtain ⟨xs, h1, h2⟩ := h.row
  have hx : xs[j * 7 + q]? = some u := by
    rw [h2 (j * 7 + q) (by omega), rowCs_at (vals := entVals) (size := 7) (fun _ => rfl) l' j s hs q hq, hu]
  obtain ⟨b, off, ha, _, hc⟩ := (Rd.of_own h1).open_ (by intro e; rw [e] at hx; cases hx)
  obtain ⟨rfl, rfl⟩ : g = b ∧ 0 = off := by simpa using ha
  simpa using hc _ _ hx
theorem SpS.free (h : SpS w (some ⟨g, 0, none⟩) c l' k d W) (i : Nat) : W.frozen? ⟨g, i, none⟩ = false := by
  obtain ⟨xs, h1, h2⟩ := h.row
  obtain ⟨hl, hn | ⟨g', cap, cur, hv, hb, hg, _⟩⟩ := h1
  · exact absurd hn.1 (by simp)
  · obtain ⟨rfl, rfl⟩ : g = g' ∧ c = cap := by simpa using hv
    exact frozen_of_row _ _ _ _ _ hg
end
/-- Within an entry: its bytes from q on are as they were. -/
structure SpI (w : World) (A : Option Addr) (c : Nat) (l' : List EntA) (k q : Nat) (s : EntA) (W : World) : Prop where
  sp : SpS w A c l' k (k + 1) W
  at_ : l'[k]? = some s
  row : ∃ ys, W.ownsRow w.heap.size 5 1 (.slice s.A s.n s.c) s.n ys ∧ ∀ i, q ≤ i → ys[i]? = (bys s.e.data)[i]?
section
variable {w W W' : World} {A : Option Addr} {c k q g b : Nat} {l' : List EntA} {s : EntA}
theorem SpI.start (h : SpS w A c l' k k W) (hs : l'[k]? = some s) : SpI w A c l' k 0 s W :=
  ⟨h.less (Nat.le_refl _) (Nat.le_succ _), hs, ⟨_, h.dat k s (Nat.le_refl _) hs, fun _ _ => rfl⟩⟩
theorem SpI.cell (h : SpI w A c l' k q s W) (hA : s.A = some ⟨b, 0, none⟩) {u : Value} {i : Nat} (hi : q ≤ i) (hu : (bys s.e.data)[i]? = some u) : W.cell? ⟨b, i, none⟩ = some u := by
  obtain ⟨ys, h1, h2⟩ := h.row
  rw [hA] at h1
  exact own_cell h1 ((h2 i hi).trans hu)
theorem SpI.free (h : SpI w A c l' k q s W) (hA : s.A = some ⟨b, 0, none⟩) (i : Nat) : W.frozen? ⟨b, i, none⟩ = false := by
  obtain ⟨ys, h1, h2⟩ := h.row
  rw [hA] at h1
  exact own_free h1 i
/-- A store into the byte at hand. -/
theorem SpI.set (h : SpI w A c l' k q s W) (hA : s.A = some ⟨b, 0, none⟩) (u : Value) : SpI w A c l' k (q + 1) s (W.setCell ⟨b, q, none⟩ u) := by
  obtain ⟨ys, h1, h2⟩ := h.row
  have h1' := h1
  rw [hA] at h1'
  have hb : w.heap.size ≤ b := (own_at h1').1
  have hown : (Value.slice s.A s.n s.c).ownBlock = some b := by rw [hA]; rfl
  obtain ⟨xs, h3, h4⟩ := h.sp.row
  have hne : (Value.slice A l'.length c).ownBlock ≠ some b := by
    intro e
    obtain ⟨c1, e1⟩ := row_blkS h3 e
    obtain ⟨c2, e2⟩ := row_blkS h1 hown
    rw [e1] at e2
    injection e2 with e2
    injection e2 with _ e3
    exact absurd e3 (by decide)
  have hap : ∀ j t, k + 1 ≤ j → l'[j]? = some t → (Value.slice t.A t.n t.c).ownBlock ≠ some b := by
    intro j t hj ht
    obtain ⟨hkl, hk⟩ := List.getElem?_eq_some_iff.1 h.at_
    obtain ⟨hjl, hjt⟩ := List.getElem?_eq_some_iff.1 ht
    have := List.pairwise_iff_getElem.1 h.sp.apart k j hkl hjl (by omega)
    rw [hk, hjt] at this
    exact this b hown
  refine ⟨⟨h.sp.bel.setCell (p := ⟨b, q, none⟩) hb u, ⟨xs, own_setO h3 hne u, h4⟩, fun j t hj ht => own_setO (h.sp.dat j t hj ht) (hap j t hj ht) u, h.sp.apart⟩, h.at_, ⟨ys.set q u, ?_, fun i hi => ?_⟩⟩
  · rw [hA]
    exact own_set h1' u
  · rw [List.getElem?_set_ne (by omega)]
    exact h2 i (by omega)
end
end Go.Proofs.YtfegfmapdekkbaaGreatDoor
namespace Go.Proofs.YtfegfmapdekkbaaGreatDoor
set_option linter.unusedVariables false
set_option linter.unusedSimpArgs false
open Go.RowKit Go.Lib Go.Sort

theorem below_setCellsR {B : Nat} {a : World} (b : Nat) (hb : B ≤ b) : ∀ (vs : List Value) (o : Nat) {w : World}, Below B a w → Below B a (w.setCells b o vs)
  | [], _, _, h => h
  | v :: r, o, _, h => below_setCellsR b hb r (o + 1) (h.setCell (p := ⟨b, o, none⟩) hb v)
def RevE (A : Option Addr) (n base : Nat) (l : List ByteArray) (w : World) (e : Ending) (w' : World) : Prop :=
  e = .returned (.tuple #[]) ∧ Rd w' w'.heap.size 1 A n (l.reverse.map Value.string) ∧ Below base w w'
end Go.Proofs.YtfegfmapdekkbaaGreatDoor
namespace Go.Proofs.YtfegfmapdekkbaaGreatDoor
set_option linter.unusedVariables false
set_option linter.unusedSimpArgs false
open Go.RowKit Go.Lib Go.Sort

theorem meth_dir (w : World) (q : Nat) : (binOp .eql 89 (.iface 52 (.pointer (some ⟨q, 0, none⟩))) .nilIface).run Tryz.prog w = .ok (.bool false) w := by kernel_rfl
/-- Where the walk upwards stands: at node i, with the names below it. -/
def PaS (w : World) (F : List Vf.Nd) (L : List Pl) (i0 : Nat) (i : Nat) (lv bv : Value) (W : World) : Prop :=
  ∃ (p : Pl) (acc : List ByteArray) (A : Option Addr) (c : Nat), L[i]? = some p ∧ i < F.length ∧ bv = .pointer (some ⟨p.q, 0, none⟩) ∧ lv = .slice A acc.length c ∧ W.ownsRow w.heap.size 9 1 (.slice A acc.length c) acc.length (acc.map Value.string) ∧ Vf.nmsP F i0 = Vf.nmsP F i ++ acc.reverse ∧ acc.length + i ≤ i0 ∧ Below w.heap.size w W

end Go.Proofs.YtfegfmapdekkbaaGreatDoor
namespace Go.Proofs.YtfegfmapdekkbaaGreatDoor
set_option linter.unusedVariables false
set_option linter.unusedSimpArgs false
open Go.RowKit

end Go.Proofs.YtfegfmapdekkbaaGreatDoor
namespace Go.Proofs.YtfegfmapdekkbaaGreatDoor
set_option linter.unusedVariables false
set_option linter.unusedSimpArgs false
open Go.RowKit

def aE1 : Vf.Ent := ⟨⟨#[47, 97]⟩, 2, 448, 7, 0, [], ⟨#[]⟩⟩
def aE2 : Vf.Ent := ⟨⟨#[47, 97, 47, 102]⟩, 1, 420, 0, 0, [1, 2, 3], ⟨#[]⟩⟩
def aE3 : Vf.Ent := ⟨⟨#[47, 108]⟩, 3, 0, 0, 0, [], ⟨#[97, 47, 102]⟩⟩
theorem anchor_new : (Vf.new [aE1, aE2, aE3]).1 = 0 := by kernel_rfl
theorem anchor_walk1 : Vf.walk (Vf.new [aE1, aE2, aE3]).2.2 ⟨0, 7, 0, 0, []⟩ 0 ⟨#[108]⟩ true = (2, 0) := by kernel_rfl
theorem anchor_walk2 : (Vf.walk (Vf.new [aE1, aE2, aE3]).2.2 ⟨0, 8, 0, 0, []⟩ 0 ⟨#[108]⟩ true).2 = 5 := by kernel_rfl
theorem anchor_read : Vf.readOf (Vf.new [aE1, aE2, aE3]).2.2 2 1 9 = ([2, 3], 0) := by kernel_rfl
theorem anchor_path : Vf.pathOf (Vf.new [aE1, aE2, aE3]).2.2 2 = ⟨#[47, 97, 47, 102]⟩ := by kernel_rfl
def aL (g : Nat) : List EntA := [⟨aE1, none, 0, 0⟩, ⟨aE2, some ⟨g, 0, none⟩, 3, 3⟩, ⟨aE3, none, 0, 0⟩]
end Go.Proofs.YtfegfmapdekkbaaGreatDoor
namespace Go.Proofs.YtfegfmapdekkbaaGreatDoor
set_option linter.unusedVariables false
set_option linter.unusedSimpArgs false
open Go.RowKit

/-- Entries that are not too great. -/
def EsFit (es : List Vf.Ent) : Prop := ∀ e ∈ es, e.path.size ≤ 262144 ∧ e.data.length ≤ 262144 ∧ e.to.size ≤ 262144 ∧ e.mode < 65536
theorem CpS.newArgs {w W : World} {es : List Vf.Ent} {A : Option Addr} {c : Nat} {l' : List EntA} (h : CpS w es A c l' W) (hs : EsFit es) : Rd W W.heap.size 7 A l'.length (rowCs entVals l') ∧ ∀ s ∈ l', EntOk W s := by
  refine ⟨Rd.of_own h.row, fun s hm => ?_⟩
  have hd := h.dat s hm
  have he : s.e ∈ es := by rw [← h.map]; exact List.mem_map.2 ⟨s, hm, rfl⟩
  obtain ⟨a, b, d, e⟩ := hs s.e he
  have hlen : s.e.data.length = s.n := by have := hd.1; simpa [bys] using this
  exact ⟨Rd.of_own hd, by omega, by omega, by omega, e⟩
theorem esFit_of {l : List EntA} {w : World} (hin : ∀ s ∈ l, EntIn w s) (h : ∀ s ∈ l, s.e.path.size ≤ 262144 ∧ s.n ≤ 262144 ∧ s.e.to.size ≤ 262144) : EsFit (l.map (·.e)) := by
  intro e he
  obtain ⟨s, hs, rfl⟩ := List.mem_map.1 he
  obtain ⟨a, b, d⟩ := h s hs
  have hlen : s.e.data.length = s.n := by have := (hin s hs).d.len1; simpa [bys] using this
  exact ⟨a, by omega, d, (hin s hs).m⟩

section
variable {w W W' : World} {c : Vf.Cred} {A : Option Addr} {n k : Nat} {src : Int} {path : ByteArray} {last : Bool}
end

end Go.Proofs.YtfegfmapdekkbaaGreatDoor
namespace Go.Proofs.YtfegfmapdekkbaaGreatDoor
set_option linter.unusedVariables false
set_option linter.unusedSimpArgs false
open Go.RowKit

/-- Where a node's bytes lie. -/
structure RPl where
  A : Option Addr
  n : Nat
  c : Nat
def rndV (y : Vf.Nd × RPl) : List Value := [.int .u8 (y.1.m.kind : Nat), .int .u16 (y.1.m.mode : Nat), .int .u32 (y.1.m.uid : Nat), .int .u32 (y.1.m.gid : Nat), .int .i64 (y.1.m.size : Nat), .int .i64 (y.1.up : Nat), .string y.1.name, .slice y.2.A y.2.n y.2.c, .string y.1.to]
structure RFs (w : World) (base g : Nat) (A : Option Addr) (c : Nat) (F : List Vf.Nd) (ls : List RPl) : Prop where
  len : ls.length = F.length
  lo : base ≤ g
  fs : Blk w g 67 [.slice A F.length c]
  row : w.ownsRow base 69 9 (.slice A F.length c) F.length (rowCs rndV (F.zip ls))
  dat : ∀ (i : Nat) (x : Vf.Nd) (p : RPl), F[i]? = some x → ls[i]? = some p → w.ownsRow base 5 1 (.slice p.A p.n p.c) p.n (bys x.data)
section
variable {w w' : World} {base g c : Nat} {A : Option Addr} {F : List Vf.Nd} {ls : List RPl}
theorem RFs.keep (h : RFs w base g A c F ls) (hk : ∀ k, base ≤ k → k < w.heap.size → w'.heap[k]? = w.heap[k]?) : RFs w' base g A c F ls :=
  ⟨h.len, h.lo, (hk g h.lo h.fs.lt).trans h.fs, own_keepA h.row hk, fun i x p h1 h2 => own_keepA (h.dat i x p h1 h2) hk⟩
theorem RFs.belowSz (h : RFs w base g A c F ls) (hb : Below w.heap.size w w') : RFs w' base g A c F ls := h.keep fun k _ hk => hb.block k hk
theorem RFs.at_ (h : RFs w base g A c F ls) {i : Nat} {x : Vf.Nd} (hx : F[i]? = some x) : ∃ p, ls[i]? = some p ∧ (F.zip ls)[i]? = some (x, p) := by
  have hi : i < F.length := (List.getElem?_eq_some_iff.1 hx).1
  have hl : i < ls.length := by rw [h.len]; exact hi
  have hz : (F.zip ls)[i]? = some (x, ls[i]) := by
    rw [List.getElem?_eq_getElem (by rw [List.length_zip]; omega), List.getElem_zip, (List.getElem?_eq_some_iff.1 hx).2]
  exact ⟨ls[i], List.getElem?_eq_getElem hl, hz⟩
/-- A node's cells: the row begins at o1. -/
theorem RFs.cells (h : RFs w base g A c F ls) (h0 : 0 < F.length) : ∃ b1 o1, A = some ⟨b1, o1, none⟩ ∧ b1 < w.heap.size ∧ ∀ (i : Nat) (x : Vf.Nd) (p : RPl), F[i]? = some x → ls[i]? = some p → ∀ j u, (rndV (x, p))[j]? = some u → w.cell? ⟨b1, o1 + (i * 9 + j), none⟩ = some u := by
  have hr := Rd.of_own h.row
  have hlen := rowCs_len (vals := rndV) (size := 9) (fun _ => rfl) (F.zip ls)
  have hzl : (F.zip ls).length = F.length := by rw [List.length_zip, h.len, Nat.min_self]
  obtain ⟨b1, o1, hA, hb, hc⟩ := hr.open_ (by
    intro e
    rw [e, hzl] at hlen
    simp at hlen
    omega)
  refine ⟨b1, o1, hA, hb, fun i x p hx hp j u hu => hc _ _ ?_⟩
  obtain ⟨p', hp', hz⟩ := h.at_ hx
  obtain rfl : p = p' := Option.some.inj (hp.symm.trans hp')
  have hj : j < 9 := (List.getElem?_eq_some_iff.1 hu).1
  rw [rowCs_at (vals := rndV) (size := 9) (fun _ => rfl) (F.zip ls) i (x, p) hz j hj, hu]
end
def numV : Option Nat → Value
  | none => .int .i64 (-1)
  | some i => .int .i64 (i : Nat)
theorem child_from {F : List Vf.Nd} {d k : Nat} {nm : ByteArray} {x : Vf.Nd} (hx : F[k]? = some x) : ((F.drop k).findIdx? (Vf.isKid d nm)).map (· + k) = if Vf.isKid d nm x = true then some k else ((F.drop (k + 1)).findIdx? (Vf.isKid d nm)).map (· + (k + 1)) := by
  rw [List.drop_eq_getElem_cons (List.getElem?_eq_some_iff.1 hx).1, (List.getElem?_eq_some_iff.1 hx).2, List.findIdx?_cons]
  by_cases h : Vf.isKid d nm x = true
  · rw [if_pos h, if_pos h]; simp
  · rw [if_neg h, if_neg h, Option.map_map]
    congr 1
    funext t
    simp only [Function.comp]
    omega
theorem child_end {F : List Vf.Nd} {d k : Nat} {nm : ByteArray} (hk : F.length ≤ k) : ((F.drop k).findIdx? (Vf.isKid d nm)).map (· + k) = none := by
  rw [List.drop_of_length_le hk]
  rfl
theorem str_eq (a b : ByteArray) : (a.toList == b.toList) = decide (a = b) := beq_toList a b

set_option maxRecDepth 100000 in
set_option maxHeartbeats 1000000 in
theorem rchild_any (F : List Vf.Nd) (ls : List RPl) (base g c : Nat) (A : Option Addr) (d : Nat) (nm : ByteArray) (w : World) (h : RFs w base g A c F ls) (hn : F.length ≤ 65) (h0 : 0 < F.length) :
    Calls Tryz.prog 37 #[.pointer (some ⟨g, 0, none⟩), .int .i64 (d : Nat), .string nm] w fun e w' => e = .returned (numV (Vf.child F d nm)) ∧ w = w' := by
  obtain ⟨b1, o1, rfl, _, hc⟩ := h.cells h0
  have v0 := h.fs.cell (i := 0) rfl
  obtain ⟨n, hfn⟩ : ∃ n, F.length = n := ⟨_, rfl⟩
  rw [hfn] at v0 hn
  obtain ⟨r, hr⟩ : ∃ r, Vf.child F d nm = r := ⟨_, rfl⟩
  rw [hr]
  have Hr := hide hr
  have H := hide h
  have Hc := hide hc
  have Hfn := hide hfn
  have h0n : 1 ≤ n := by omega
  clear hr h hc hfn h0
  go_enter Tryz.func37, Tryz.ntmps37
  go_wp2_with fail
  go_loop [7] (fun iv => ∃ k : Nat, 1 ≤ k ∧ k ≤ n ∧ iv = .int .i64 (k : Nat) ∧ ((F.drop k).findIdx? (Vf.isKid d nm)).map (· + k) = r) (fun iv => n - (intOf iv).toNat)
  case atStart => exact ⟨1, by omega, by omega, rfl, unhide Hr⟩
  case round =>
    obtain ⟨k, hk1, hk, rfl, hrk⟩ := hrel
    have Hrk := hide hrk
    clear hrk
    by_cases hlt : k < n
    · obtain ⟨x, hx⟩ : ∃ x, F[k]? = some x := ⟨_, List.getElem?_eq_getElem (by rw [unhide Hfn]; exact hlt)⟩
      obtain ⟨p, hp, _⟩ := (unhide H).at_ hx
      have x5 := (unhide Hc) k x p hx hp 5 _ rfl
      have x6 := (unhide Hc) k x p hx hp 6 _ rfl
      simp only [← Nat.add_assoc] at x5 x6
      have hst := child_from (d := d) (nm := nm) hx
      rw [unhide Hrk] at hst
      have ilt : (k : Int) < (n : Int) := by omega
      have hkid : Vf.isKid d nm x = (decide (x.up = d) && decide (x.name = nm)) := rfl
      have hse := str_eq x.name nm
      by_cases hu : x.up = d
      · have q1 : (((x.up : Nat) : Int) == ((d : Nat) : Int)) = true := by rw [hu]; simp
        rw [decide_eq_true hu] at hkid
        by_cases hnm : x.name = nm
        · rw [decide_eq_true hnm] at hkid hse
          rw [if_pos (by rw [hkid]; rfl)] at hst
          have Hst := hide hst
          clear hst hkid hnm hu hx hp
          go_wp2_with fail
          go_ret
          rw [unhide Hst]
          exact ⟨rfl, rfl⟩
        · rw [decide_eq_false hnm] at hkid hse
          rw [if_neg (by rw [hkid]; simp)] at hst
          have Hst := hide hst
          clear hst hkid hnm hu hx hp
          go_wp2_with fail
          go_round
          case rel => exact ⟨k + 1, by omega, by omega, by go_num, (unhide Hst).symm⟩
          case measure => simp [intOf]; omega
      · have q1 : (((x.up : Nat) : Int) == ((d : Nat) : Int)) = false := by rw [beq_eq_false_iff_ne]; omega
        rw [decide_eq_false hu] at hkid
        rw [if_neg (by rw [hkid]; simp)] at hst
        have Hst := hide hst
        clear hst hkid hu hx hp hse
        go_wp2_with fail
        go_round
        case rel => exact ⟨k + 1, by omega, by omega, by go_num, (unhide Hst).symm⟩
        case measure => simp [intOf]; omega
    · have ilt : ¬ (k : Int) < (n : Int) := by omega
      have hst := child_end (F := F) (d := d) (nm := nm) (k := k) (by rw [unhide Hfn]; omega)
      rw [unhide Hrk] at hst
      have Hst := hide hst
      clear hst
      go_wp2_with fail
      go_ret
      rw [unhide Hst]
      exact ⟨rfl, rfl⟩

set_option maxRecDepth 100000 in
set_option maxHeartbeats 1000000 in
theorem rat_any (F : List Vf.Nd) (ls : List RPl) (base g c : Nat) (A A' : Option Addr) (n' c' B : Nat) (l : List ByteArray) (w : World) (h : RFs w base g A c F ls) (hn : F.length ≤ 65) (h0 : 0 < F.length) (hl : Rd w B 1 A' n' (l.map Value.string)) (hn' : n' ≤ 4294967296) :
    Calls Tryz.prog 19 #[.pointer (some ⟨g, 0, none⟩), .slice A' n' c'] w fun e w' => e = .returned (numV (Vf.at_ F 0 l)) ∧ w = w' := by
  have hll : l.length = n' := by simpa using hl.len1
  have KC := hide (fun d nm => rchild_any F ls base g c A d nm w h hn h0)
  obtain ⟨r, hr⟩ : ∃ r, Vf.at_ F 0 l = r := ⟨_, rfl⟩
  rw [hr]
  have Hr := hide hr
  have Hl := hide hl
  have Hll := hide hll
  clear hr hl hll h
  go_enter Tryz.func19, Tryz.ntmps19
  go_wp2_with fail
  go_loop [5, 6] (fun nv iv => ∃ k : Nat, k ≤ n' ∧ iv = .int .i64 (k : Nat) ∧ nv = numV (Vf.at_ F 0 (l.take k))) (fun _ iv => n' - (intOf iv).toNat)
  case atStart => exact ⟨0, Nat.zero_le _, rfl, rfl⟩
  case round =>
    obtain ⟨k, hk, rfl, rfl⟩ := hrel
    cases hat : Vf.at_ F 0 (l.take k) with
    | none =>
      have hr0 : r = none := by rw [← unhide Hr]; exact Vf.at_stop hat
      have e1 : numV none = .int .i64 (-1) := rfl
      rw [e1]
      clear hat
      by_cases hlt : k < n'
      · have i1 : (k : Int) < (n' : Int) := by omega
        go_wp2_with fail
        go_ret
        subst hr0
        exact ⟨rfl, rfl⟩
      · have i1 : ¬ (k : Int) < (n' : Int) := by omega
        go_wp2_with fail
        go_ret
        subst hr0
        exact ⟨rfl, rfl⟩
    | some i =>
      have e1 : numV (some i) = .int .i64 (i : Nat) := rfl
      rw [e1]
      by_cases hlt : k < n'
      · obtain ⟨nm, hnm⟩ : ∃ nm, l[k]? = some nm := ⟨_, List.getElem?_eq_getElem (by rw [unhide Hll]; exact hlt)⟩
        obtain ⟨b1, o1, rfl, _, c1⟩ := (unhide Hl).at_ (k := k) (u := .string nm) (by simp [hnm])
        have hnx := Vf.at_next hat hnm
        have i1 : (k : Int) < (n' : Int) := by omega
        have i2 : (0 : Int) ≤ (i : Int) := by omega
        have Hnx := hide hnx
        clear hnx hat hnm
        go_wp2_with fail
        refine ((unhide KC) i nm).mono ?_
        rintro e w2 ⟨rfl, rfl⟩
        go_wp2_with fail
        go_round
        case rel => exact ⟨k + 1, by omega, by go_num, by rw [unhide Hnx]⟩
        case measure => simp [intOf]; omega
      · have i1 : ¬ (k : Int) < (n' : Int) := by omega
        have hr0 : r = some i := by rw [← unhide Hr, ← hat, List.take_of_length_le (by have := unhide Hll; omega)]
        clear hat
        go_wp2_with fail
        go_ret
        subst hr0
        exact ⟨rfl, rfl⟩
end Go.Proofs.YtfegfmapdekkbaaGreatDoor
namespace Go.Proofs.YtfegfmapdekkbaaGreatDoor
set_option linter.unusedVariables false
set_option linter.unusedSimpArgs false
open Go.RowKit

theorem pcsAt_len (s : ByteArray) : ∀ (l : List UInt8) (i f : Nat), (Pth.pcsL s l i f).length ≤ l.length + 1 := by
  intro l
  induction l with
  | nil => intro i f; exact Nat.le_refl _
  | cons c r ih =>
    intro i f
    unfold Pth.pcsL
    have h1 := ih (i + 1) (i + 1)
    have h2 := ih (i + 1) f
    split
    · simp only [List.length_cons]; omega
    · simp only [List.length_cons]; omega
theorem pcs_len (s : ByteArray) : (Pth.pcs s).length ≤ s.size + 1 := pcsAt_len s s.data.toList 0 0

set_option maxHeartbeats 1000000 in
theorem rpieces_any (p : ByteArray) (hp : p.size ≤ 4294967296) (w : World) :
    Calls Tryz.prog 36 #[.string p] w fun e w' => ∃ A c, e = .returned (.slice A (Pth.pcs p).length c) ∧ w'.ownsRow w.heap.size 9 1 (.slice A (Pth.pcs p).length c) (Pth.pcs p).length ((Pth.pcs p).map Value.string) ∧ Below w.heap.size w w' := by
  go_enter Tryz.func36, Tryz.ntmps36
  go_wp2
  go_loopw [3, 4, 5] (fun out fr i wr => ∃ (k f : Nat) (A : Option Addr) (c : Nat) (l : List ByteArray), k ≤ p.size + 1 ∧ f ≤ k ∧ l.length ≤ k ∧ i = .int .i64 k ∧ fr = .int .i64 f ∧ out = .slice A l.length c ∧
    wr.ownsRow w.heap.size 9 1 (.slice A l.length c) l.length (l.map Value.string) ∧ Below w.heap.size w wr ∧ (k ≤ p.size → Pth.pcs p = l ++ Pth.pcsAt p k f) ∧ (k = p.size + 1 → Pth.pcs p = l)) (fun _ _ i _ => p.size + 1 - (intOf i).toNat)
  case atStart => exact ⟨0, 0, none, 0, [], by omega, Nat.le_refl _, Nat.le_refl _, rfl, rfl, rfl, World.ownsRow_nil _ _ _ _, Below.refl _ _, fun _ => rfl, fun h => by omega⟩
  case round =>
    obtain ⟨k, f, A, c, l, hk, hfk, hlk, rfl, rfl, rfl, hown, hb, h1, h2⟩ := hrel
    have H1 := hide h1
    have H2 := hide h2
    have hsz := hb.size
    clear h1 h2
    by_cases hlt : k ≤ p.size
    · have he := unhide H1 hlt
      by_cases hend : k = p.size
      · subst hend
        have b1 : ((p.size : Int) == (p.size : Int)) = true := by simp
        have hgo : Pth.pcs p = l ++ [p.extract f p.size] := by rw [he, Pth.pcsAt_end]
        have Hgo := hide hgo
        clear he hgo
        go_wp2_with (at_builtin; refine wpList_app1 strTy rfl _ _ rfl w.heap.size (.slice A l.length c) l.length (l.map Value.string) rfl hown #[.string (p.extract f p.size)] rfl rfl (by simp [Value.oneCell']) (by omega) (by omega) ?_; intro A' c' w1 hown' hgrow hat; have hb1 := hide (hb.grown hgrow hsz (fun k hk => (hown.lt k hk).1)); have Hown' := hide hown'; clear hgrow hat hown')
        go_roundw
        case rel =>
          refine ⟨p.size + 1, p.size + 1, A', c', l ++ [p.extract f p.size], by omega, by omega, by simp; omega, by go_num, by go_num, by simp, ?_, unhide hb1, fun h => by omega, fun _ => unhide Hgo⟩
          simpa using unhide Hown'
        case measure => simp [intOf]
      · have hl2 : k < p.size := by omega
        have b1 : ((k : Int) == (p.size : Int)) = false := by simp; omega
        by_cases hc : p[k] = 47
        · have b2 : (((p[k].toNat : Nat) : Int) == 47) = true := by rw [byte_47]; simpa using hc
          have hgo : Pth.pcs p = (l ++ [p.extract f k]) ++ Pth.pcsAt p (k + 1) (k + 1) := by rw [he, Pth.pcsAt_slash p k f hl2 hc]; simp
          have Hgo := hide hgo
          clear he hgo hc hend
          go_wp2_with (at_builtin; refine wpList_app1 strTy rfl _ _ rfl w.heap.size (.slice A l.length c) l.length (l.map Value.string) rfl hown #[.string (p.extract f k)] rfl rfl (by simp [Value.oneCell']) (by omega) (by omega) ?_; intro A' c' w1 hown' hgrow hat; have hb1 := hide (hb.grown hgrow hsz (fun k hk => (hown.lt k hk).1)); have Hown' := hide hown'; clear hgrow hat hown')
          go_roundw
          case rel =>
            refine ⟨k + 1, k + 1, A', c', l ++ [p.extract f k], by omega, by omega, by simp; omega, by go_num, by go_num, by simp, ?_, unhide hb1, fun _ => unhide Hgo, fun h => by omega⟩
            simpa using unhide Hown'
          case measure => simp [intOf]; omega
        · have b2 : (((p[k].toNat : Nat) : Int) == 47) = false := by rw [byte_47]; simpa using hc
          have hgo : Pth.pcs p = l ++ Pth.pcsAt p (k + 1) f := by rw [he, Pth.pcsAt_skip p k f hl2 hc]
          have Hgo := hide hgo
          clear he hgo hc hend
          go_wp2
          go_roundw
          case rel => exact ⟨k + 1, f, A, c, l, by omega, by omega, by omega, by go_num, rfl, rfl, hown, hb, fun _ => unhide Hgo, fun h => by omega⟩
          case measure => simp [intOf]; omega
    · have he := unhide H2 (by omega)
      have He := hide he
      clear he
      go_wp2
      go_ret
      rw [unhide He]
      exact ⟨A, c, rfl, hown, hb⟩

set_option maxHeartbeats 1000000 in
theorem rcheck_any (p : ByteArray) (hp : p.size ≤ 4294967296) (w : World) :
    Calls Tryz.prog 35 #[.string p] w fun e w' => e = .returned (.int .i64 (Pth.chk p)) ∧ Below w.heap.size w w' := by
  have he0 := isEmpty_toList p
  by_cases h0 : p.size = 0
  · have hr : Pth.chk p = 3 := by simp [Pth.chk, h0]
    have he : p.toList.isEmpty = true := by rw [he0]; simpa using h0
    rw [hr]
    clear he0 hr h0
    go_enter Tryz.func35, Tryz.ntmps35
    go_wp2_with fail
    go_ret
    exact ⟨rfl, Below.refl _ _⟩
  · have he : p.toList.isEmpty = false := by rw [he0]; simpa using h0
    have H0 := hide h0
    clear he0 h0
    go_enter Tryz.func35, Tryz.ntmps35
    go_wp2_with fail
    go_loop [3] (fun i => ∃ k : Nat, k ≤ p.size ∧ i = .int .i64 k ∧ (p.data.toList.take k).contains 0 = false) (fun i => p.size - (intOf i).toNat)
    case atStart => exact ⟨0, by omega, rfl, by simp⟩
    case round =>
      obtain ⟨k, hk, rfl, hz⟩ := hrel
      have Hz := hide hz
      clear hz
      by_cases hlt : k < p.size
      · by_cases hc : p[k] = 0
        · have b2 : (((p[k].toNat : Nat) : Int) == 0) = true := by rw [byte_0]; simpa using hc
          have hr : Pth.chk p = 1 := by
            have hm : p.data.toList.contains 0 = true := by
              rw [List.contains_iff_mem, ← hc]
              exact Array.getElem_mem_toList _
            simp only [Pth.chk, unhide H0, hm, if_true, if_false]
          have Hr := hide hr
          clear hr hc
          go_wp2
          go_ret
          exact ⟨by rw [unhide Hr]; rfl, Below.refl _ _⟩
        · have b2 : (((p[k].toNat : Nat) : Int) == 0) = false := by rw [byte_0]; simpa using hc
          have hz : (p.data.toList.take (k + 1)).contains 0 = false := by
            rw [List.take_succ_eq_append_getElem (by simpa using hlt), List.contains_append, unhide Hz]
            simp only [Bool.false_or]
            exact by simpa using fun h => hc h.symm
          have Hz2 := hide hz
          clear hz hc
          go_wp2
          go_round
          case rel => exact ⟨k + 1, by omega, by go_num, unhide Hz2⟩
          case measure => simp [intOf]; omega
      · have hz : p.data.toList.contains 0 = false := by
          have := unhide Hz
          rwa [List.take_of_length_le (by simp; omega)] at this
        by_cases h2 : 200 < p.size
        · have hr : Pth.chk p = 11 := by simp only [Pth.chk, unhide H0, hz, h2, if_true, if_false, Bool.false_eq_true]
          have Hr := hide hr
          clear hr hz
          go_wp2
          go_ret
          exact ⟨by rw [unhide Hr]; rfl, Below.refl _ _⟩
        · have hr : Pth.chk p = if (Pth.pcs p).any Pth.tooLong then 11 else 0 := by simp only [Pth.chk, unhide H0, hz, h2, if_false, Bool.false_eq_true]
          have Hr := hide hr
          have hl := pcs_len p
          clear hr hz
          go_wp2_with (go_at_call 36; refine (rpieces_any p (by omega) _).mono ?_; rintro e w1 ⟨A, c, rfl, hown, hb⟩)
          generalize Pth.pcs p = l at *
          have hrd := Rd.of_own hown
          have Hrd := hide hrd
          clear hrd hown
          go_loop [5] (fun i => ∃ k : Nat, k ≤ l.length ∧ i = .int .i64 k ∧ (l.take k).any Pth.tooLong = false) (fun i => l.length - (intOf i).toNat)
          case atStart => exact ⟨0, by omega, rfl, by simp⟩
          case round =>
            obtain ⟨k, hk, rfl, hz⟩ := hrel
            have Hz := hide hz
            clear hz
            by_cases hlt : k < l.length
            · obtain ⟨x, hx⟩ : ∃ x, l[k]? = some x := ⟨_, List.getElem?_eq_getElem hlt⟩
              obtain ⟨b1, o1, rfl, _, c1⟩ := (unhide Hrd).at_ (k := k) (u := .string x) (by simp [hx])
              by_cases hlong : 32 < x.size
              · have ha : l.any Pth.tooLong = true := List.any_eq_true.2 ⟨x, List.mem_of_getElem? hx, by simpa [Pth.tooLong] using hlong⟩
                have Ha := hide ha
                clear ha hx
                go_wp2
                go_ret
                exact ⟨by rw [unhide Hr, unhide Ha]; rfl, hb⟩
              · have hz : (l.take (k + 1)).any Pth.tooLong = false := by
                  rw [List.take_add_one, hx, List.any_append, unhide Hz]
                  simp [Pth.tooLong, hlong]
                have Hz2 := hide hz
                clear hz hx
                go_wp2
                go_round
                case rel => exact ⟨k + 1, by omega, by go_num, unhide Hz2⟩
                case measure => simp [intOf]; omega
            · have hz : l.any Pth.tooLong = false := by
                have := unhide Hz
                rwa [List.take_of_length_le (by omega)] at this
              have Hz2 := hide hz
              clear hz
              go_wp2
              go_ret
              exact ⟨by rw [unhide Hr, unhide Hz2]; rfl, hb⟩

end Go.Proofs.YtfegfmapdekkbaaGreatDoor
namespace Go.Proofs.YtfegfmapdekkbaaGreatDoor
set_option linter.unusedVariables false
set_option linter.unusedSimpArgs false
open Go.RowKit

theorem isPart_eq (x : ByteArray) : Pth.isPart x = (!(x.toList.isEmpty) && !(x.toList == [46])) := by
  rw [Lib.toList_data]
  cases h : x.data.toList with
  | nil => simp [Pth.isPart, h]
  | cons a r => simp [Pth.isPart, h]

set_option maxHeartbeats 1000000 in
theorem rparts_any (p : ByteArray) (hp : p.size ≤ 4294967296) (w : World) :
    Calls Tryz.prog 18 #[.string p] w fun e w' => ∃ A c, e = .returned (.tuple #[.slice A (Pth.partsL p).length c, .bool (Pth.rootB p), .int .i64 (Pth.chk p)]) ∧
      w'.ownsRow w.heap.size 9 1 (.slice A (Pth.partsL p).length c) (Pth.partsL p).length ((Pth.partsL p).map Value.string) ∧ Below w.heap.size w w' := by
  by_cases h0 : Pth.chk p = 0
  · have hsz := Pth.chk_size p h0
    have hpos : 0 < p.size := by
      rcases Nat.eq_zero_or_pos p.size with h | h
      · simp [Pth.chk, h] at h0
      · exact h
    have b1 : (Pth.chk p != 0) = false := by simpa using h0
    have hrl : Pth.partsL p = (Pth.pcs p).filter Pth.isPart := by simp [Pth.partsL, h0, Pth.parts]
    have hrb : Pth.rootB p = decide (p[0] = 47) := by
      have := Pth.headB_iff p
      simp only [Pth.rootB, h0, decide_true, Bool.true_and]
      rw [show Lib.hasPrefix p.data.toList [47] = Pth.headB p from rfl, this]
      simp [hpos]
    have Hrl := hide hrl
    have Hrb := hide hrb
    have H0 := hide h0
    have hpl := pcs_len p
    clear hrl hrb h0
    go_enter Tryz.func18, Tryz.ntmps18
    go_wp2_with (first
      | (go_at_call 35; refine (rcheck_any p hp _).mono ?_; rintro e w1 ⟨rfl, hb1⟩)
      | (go_at_call 36; refine (rpieces_any p hp _).mono ?_; rintro e w2 ⟨A, c, rfl, hown, hb2⟩))
    have hbl : Below w.heap.size w w2 := hb1.trans (hb2.mono hb1.size)
    have hrd := Rd.of_own hown
    generalize Pth.pcs p = l at *
    have Hrd := hide hrd
    clear hrd hown hb1 hb2
    go_loopw [6, 8] (fun out i wr => ∃ (k : Nat) (A' : Option Addr) (c' : Nat) (o : List ByteArray), k ≤ l.length ∧ i = .int .i64 k ∧ out = .slice A' o.length c' ∧ o = (l.take k).filter Pth.isPart ∧ o.length ≤ k ∧
      wr.ownsRow w2.heap.size 9 1 (.slice A' o.length c') o.length (o.map Value.string) ∧ Below w2.heap.size w2 wr) (fun _ i _ => l.length - (intOf i).toNat)
    case atStart => exact ⟨0, none, 0, [], by omega, rfl, rfl, rfl, Nat.le_refl _, World.ownsRow_nil _ _ _ _, Below.refl _ _⟩
    case round =>
      obtain ⟨k, A', c', o, hk, rfl, rfl, ho, hok, hown, hb⟩ := hrel
      have Ho := hide ho
      have hszr := hb.size
      clear ho
      by_cases hlt : k < l.length
      · obtain ⟨x, hx⟩ : ∃ x, l[k]? = some x := ⟨_, List.getElem?_eq_getElem hlt⟩
        have hrd2 := (unhide Hrd).below hb
        obtain ⟨b1', o1, rfl, hbb, c1⟩ := hrd2.at_ (k := k) (u := .string x) (by simp [hx])
        clear hrd2
        by_cases hpt : Pth.isPart x = true
        · have hpt' := hpt
          rw [isPart_eq, Bool.and_eq_true] at hpt'
          obtain ⟨q1, q2⟩ := hpt'
          have q3 : x.toList.isEmpty = false := by simpa using q1
          have q4 : (x.toList == [46]) = false := by simpa using q2
          have ho2 : o ++ [x] = (l.take (k + 1)).filter Pth.isPart := by rw [List.take_add_one, List.filter_append, ← unhide Ho, hx]; simp [hpt]
          have Ho2 := hide ho2
          clear ho2 hpt hx q1 q2
          go_wp2_with (at_builtin; refine wpList_app1 strTy rfl _ _ rfl w2.heap.size (.slice A' o.length c') o.length (o.map Value.string) rfl hown #[.string x] rfl rfl (by simp [Value.oneCell']) (by omega) (by omega) ?_; intro A2 c2 w3 hown' hgrow hat; have hb1 := hide (hb.grown hgrow hszr (fun k hk => (hown.lt k hk).1)); have Hown' := hide hown'; clear hgrow hat hown')
          go_roundw
          case rel =>
            refine ⟨k + 1, A2, c2, o ++ [x], by omega, by go_num, by simp, unhide Ho2, by simp; omega, ?_, unhide hb1⟩
            simpa using unhide Hown'
          case measure => simp [intOf]; omega
        · have ho2 : o = (l.take (k + 1)).filter Pth.isPart := by rw [List.take_add_one, List.filter_append, ← unhide Ho, hx]; simp [hpt]
          have Ho2 := hide ho2
          have hpt' := hpt
          rw [isPart_eq, Bool.and_eq_true, Classical.not_and_iff_not_or_not] at hpt'
          by_cases q3 : x.toList.isEmpty = true
          · clear ho2 hpt hpt' hx
            go_wp2
            go_roundw
            case rel => exact ⟨k + 1, A', c', o, by omega, by go_num, rfl, unhide Ho2, by omega, hown, hb⟩
            case measure => simp [intOf]; omega
          · rw [Bool.not_eq_true] at q3
            have q4 : (x.toList == [46]) = true := by simpa [q3] using hpt'
            clear ho2 hpt hpt' hx
            go_wp2
            go_roundw
            case rel => exact ⟨k + 1, A', c', o, by omega, by go_num, rfl, unhide Ho2, by omega, hown, hb⟩
            case measure => simp [intOf]; omega
      · have ho3 : o = l.filter Pth.isPart := by
          have := unhide Ho
          rwa [List.take_of_length_le (by omega)] at this
        have Ho3 := hide ho3
        clear ho3
        have hi0 : (0 : Int) < (p.size : Int) := by omega
        go_wp2
        go_quiet (fail)
        go_wp2
        go_ret3
        have e : o = Pth.partsL p := by rw [unhide Hrl]; exact unhide Ho3
        refine ⟨A', c', ?_, ?_, below_drewN' (hbl.trans (hb.mono hbl.size)) _⟩
        · rw [← e, unhide Hrb, unhide H0, ← byte_47]
          rfl
        · rw [← e]
          exact own_base (w := wr.drewN nq) hown hbl.size
  · have b1 : (Pth.chk p != 0) = true := by simpa using h0
    have e1 : Pth.partsL p = [] := by simp [Pth.partsL, h0]
    have e2 : Pth.rootB p = false := by simp [Pth.rootB, h0]
    rw [e1, e2]
    clear e1 e2 h0
    go_enter Tryz.func18, Tryz.ntmps18
    go_wp2_with (go_at_call 35; refine (rcheck_any p hp _).mono ?_; rintro e w1 ⟨rfl, hb1⟩)
    go_ret3
    exact ⟨none, 0, rfl, World.ownsRow_nil _ _ _ _, hb1⟩

end Go.Proofs.YtfegfmapdekkbaaGreatDoor
