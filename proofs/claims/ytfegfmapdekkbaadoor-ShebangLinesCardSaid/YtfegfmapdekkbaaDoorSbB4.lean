/- One entry more: the walk of add. Conditions: as it says. What an argument that is a struct, or a slice of structs, reads as, where each field is one cell. No conditions. Free of any chapter. A file system of entries: the walk of New. Conditions: as it says. The walk of hostelref00.EqTexts: are two lists of texts the same? Condition: the lists are no longer than the model's greatest length. The law's own helpers of scripts: large and the anchor. Conditions: as the arguments'. The walk of ShebangParses. Conditions: as the argument's. The walk of ShebangArgs. Conditions: as the arguments'. The walk of ShebangNil. Conditions: none. The law's own helpers of written lines: gap, odd. Conditions: as each says. Rows of bytes that a conversion of a text has laid (they bear a mark behind their last cell): read, kept, appended to. No conditions. The walk of ShebangLines. Conditions: as the arguments'. What the arguments of the chapter's laws read as: credentials, a way, two numbers, entries. No conditions. The walk of hostelref00.CopyBytes (as Elf8, for any chapter). Conditions: there are fewer than 2^32 bytes. Copies of credentials and of entries; how great entries are. Conditions: as each says. Entries copied into memory of their own: the walk of CopyEntries. Conditions: as it says. -/
import Derived.Test.YtfegfmapdekkbaaDoorSbB3
import Derived.StillTailTactics
import Derived.Deep.Slices
import Derived.Lib.SmallJoins
import Derived.Deep.LoopGhost
import Derived.Test.YtfegfmapdekkbaaDoorSbB1
import Derived.Test.YtfegfmapdekkbaaDoorProg
import Derived.WalkSpells
import Derived.WalkLawsBesides
import Derived.BigQuiet
import Derived.Deep.QuietTactic
import Derived.Test.YtfegfmapdekkbaaDoorSbB2
import Derived.Deep.RegionHeld3
import Derived.Laws.IdiomStrings
import Derived.Laws.CopyRow
import Derived.Laws.IdiomArrays
import Derived.Laws.Rows
namespace Go.Proofs.YtfegfmapdekkbaaDoor
set_option linter.unusedVariables false
set_option linter.unusedSimpArgs false
open Go.RowKit

theorem nodeTy : SlTy Tryd.prog 85 93 1 16 := slTy_mk (z := .nilIface) Tryd.underlying85 (by kernel_rfl) rfl (by omega) (by omega)
/-- What add answers; where it is none, the file system has one node more. -/
def AddE (F : List Vf.Nd) (L : List Pl) (lo f : Nat) (x : Vf.Ent) (w : World) (e : Ending) (w' : World) : Prop :=
  e = .returned (.int .i64 (Vf.add F x).1) ∧ ((Vf.add F x).1 = 0 → ∃ L' A' c', FsM w' lo f A' c' (Vf.add F x).2 L') ∧ Below lo w w'
theorem addE_no {F : List Vf.Nd} {L : List Pl} {lo f : Nat} {x : Vf.Ent} {w w' : World} {er : Int} (h : (Vf.add F x).1 = er) (h0 : er ≠ 0) (hb : Below lo w w') : AddE F L lo f x w (.returned (.int .i64 er)) w' := by
  unfold AddE
  rw [h]
  exact ⟨rfl, fun h1 => absurd h1 h0, hb⟩
theorem atV_ne {w : World} {lo f c : Nat} {A : Option Addr} {F : List Vf.Nd} {L : List Pl} (hF : Vf.Good F) (h : FsM w lo f A c F L) {l : List ByteArray} {i : Nat} (hi : Vf.at_ F 0 l = some i) : ∃ x p, F[i]? = some x ∧ L[i]? = some p ∧ atV F L (Vf.at_ F 0 l) = .iface (kindT x.m.kind) (.pointer (some ⟨p.q, 0, none⟩)) := by
  have hl := Vf.at_lt hF l 0 i (Vf.good_pos hF) hi
  obtain ⟨x, hx⟩ : ∃ x, F[i]? = some x := ⟨_, List.getElem?_eq_getElem hl⟩
  obtain ⟨p, hp, _, _⟩ := h.at_ hx
  exact ⟨x, p, hx, hp, by rw [hi]; exact h.ndA_eq hx hp⟩

set_option maxRecDepth 100000 in
set_option maxHeartbeats 4000000 in
theorem add_any (F : List Vf.Nd) (L : List Pl) (lo f c : Nat) (A Ax : Option Addr) (n cx : Nat) (x : Vf.Ent) (w : World) (hF : Vf.Good F) (h : FsM w lo f A c F L) (hlo : lo ≤ w.heap.size) (hn : F.length ≤ 64)
    (hd : Rd w w.heap.size 1 Ax n (bys x.data)) (hnn : n ≤ 4294967296) (hps : x.path.size ≤ 4294967296) (hto : x.to.size ≤ 4294967296) (hmd : x.mode < 65536) :
    Calls Tryd.prog 36 #[ptrV f, entV x Ax n cx] w (AddE F L lo f x w) := by
  have hdl : x.data.length = n := by simpa [bys] using hd.len1
  have hb0 : Below w.heap.size w (w.alloc (.cells (entC x Ax n cx).toArray 69)) := (Below.refl _ _).alloc (Nat.le_refl _) _
  have hbk : Blk (w.alloc (.cells (entC x Ax n cx).toArray 69)) w.heap.size 69 (entC x Ax n cx) := Blk.new w 69 _
  have KP := hide (partsV_any x Ax n cx (w.alloc (.cells (entC x Ax n cx).toArray 69)) hdl hnn hps hto hmd)
  have KAt : ∀ w', Below w.heap.size w w' → ∀ (A' : Option Addr) (n' c' : Nat) (l : List ByteArray), Rd w' w'.heap.size 1 A' n' (l.map Value.string) → n' ≤ 4294967296 → Calls Tryd.prog 60 #[.pointer (some ⟨f, 0, none⟩), .slice A' n' c'] w' fun e w2 => e = .returned (atV F L (Vf.at_ F 0 l)) ∧ w' = w2 :=
    fun w' hb A' n' c' l hl hn' => at_any F L lo f c A A' n' c' _ l w' hF (h.belowSz hb) (by omega) hl hn'
  have qn : ∀ w', (binOp .eql 93 .nilIface .nilIface).run Tryd.prog w' = .ok (.bool true) w' := fun w' => by kernel_rfl
  have qi : ∀ w' t v, (binOp .eql 93 (.iface t v) .nilIface).run Tryd.prog w' = .ok (.bool false) w' := fun w' t v => by kernel_rfl
  have qn2 : ∀ w', (binOp .neq 93 .nilIface .nilIface).run Tryd.prog w' = .ok (.bool false) w' := fun w' => by kernel_rfl
  have qi2 : ∀ w' t v, (binOp .neq 93 (.iface t v) .nilIface).run Tryd.prog w' = .ok (.bool true) w' := fun w' t v => by kernel_rfl
  have HF := hide hF
  have H := hide h
  have HKAt := hide KAt
  have Hb0 := hide hb0
  have Hbk := hide hbk
  have Hd := hide hd
  have Hdl := hide hdl
  unfold entV at KP ⊢
  unfold ptrV
  clear hF h KAt hb0 hbk hd hdl hps hto
  unfold entC at KP
  go_enter Tryd.func36, Tryd.ntmps36
  go_wp2_with fail
  refine (unhide KP).mono ?_
  rintro e w1 ⟨A1, n1, c1, rfl, ho1, hb1⟩
  have Hbk1 := hide ((unhide Hbk).belowSz hb1)
  have Hb1 := hide ((unhide Hb0).trans (hb1.mono (by simp)))
  have Ho1 := hide ho1
  clear ho1 hb1 KP Hbk
  by_cases hm : Vf.may x = 0
  case neg =>
    have hr : (Vf.add F x).1 = Vf.may x := by unfold Vf.add; rw [if_pos hm]
    have Hr := hide hr
    have Hm := hide hm
    obtain ⟨me, hme⟩ : ∃ v, Vf.may x = v := ⟨_, rfl⟩
    rw [hme] at Hr Hm hm ⊢
    have q1 : (me != 0) = true := by simp [hm]
    have Hb := hide ((unhide Hb1).mono hlo)
    clear hr hm hme
    go_wp2_with fail
    go_ret
    exact addE_no (unhide Hr) (unhide Hm) (unhide Hb)
  obtain ⟨hn1, ho2⟩ := (unhide Ho1) hm
  obtain ⟨m1, m2, m3, m4, m5, m6, m7, m8, m9, m10, m11⟩ := Vf.may_ok hm
  have hpl := Vf.parts_len x.path
  have hadd : Vf.add F x = if (Vf.at_ F 0 (Pth.partsL x.path)).isSome then ((7 : Int), F) else match Vf.at_ F 0 (Pth.partsL x.path).dropLast with
    | none => ((3 : Int), F)
    | some up => if Vf.kindAt F up ≠ 2 then ((8 : Int), F) else ((0 : Int), F ++ [Vf.ndOf x up]) := by
    unfold Vf.add
    rw [if_neg (by simp [hm])]
    rfl
  rw [hm]
  have q1 : ((0 : Int) != 0) = false := rfl
  have hn0 : 0 < n1 := by rw [hn1]; exact List.length_pos_iff.2 m5
  have hr1 := Rd.of_own ho2
  have HKA := hide ((unhide HKAt) w1 (unhide Hb1) A1 n1 c1 (Pth.partsL x.path) hr1 (by omega))
  have hcp := own_cap ho2
  have rs := fun w' => run_to (P := Tryd.prog) Tryd.underlying32 (e := 9) (by kernel_rfl) A1 n1 c1 (n1 - 1) (by omega) w'
  have hdrop : ((Pth.partsL x.path).map Value.string).take (n1 - 1) = (Pth.partsL x.path).dropLast.map Value.string := by
    rw [hn1, List.dropLast_eq_take, List.map_take]
  have hr2 : Rd w1 w1.heap.size 1 A1 (n1 - 1) ((Pth.partsL x.path).dropLast.map Value.string) := by
    rw [← hdrop]
    exact hr1.to_ (by omega)
  have HKA2 := hide ((unhide HKAt) w1 (unhide Hb1) A1 (n1 - 1) c1 (Pth.partsL x.path).dropLast hr2 (by omega))
  obtain ⟨k1, hk1⟩ : ∃ k1, n1 - 1 = k1 := ⟨_, rfl⟩
  have ei : IntKind.i64.wrap ((n1 : Int) - 1) = (k1 : Int) := by rw [IntWalk.i64_in _ (by omega)]; omega
  have j1 : (k1 : Int) < (n1 : Int) := by omega
  rw [hk1] at rs HKA2
  have Hk1 := hide hk1
  clear hk1
  have Hadd := hide hadd
  have Hm := hide hm
  have Hr1 := hide hr1
  have Hn1 := hide hn1
  have Hm11 := hide m11
  have Hm5 := hide m5
  have hn1b : n1 ≤ 201 := by omega
  obtain ⟨pl, hple⟩ : ∃ l, Pth.partsL x.path = l := ⟨_, rfl⟩
  have Hple := hide hple
  clear ho2 m1 m2 m3 m4 m5 m6 m7 m8 m9 m10 m11 hpl hadd hm hr1 hcp hdrop hr2 Ho1 hn1 hple
  cases ha : Vf.at_ F 0 (Pth.partsL x.path) with
  | some i =>
    obtain ⟨xi, pi, _, _, ea⟩ := atV_ne (unhide HF) (unhide H) ha
    rw [ea] at HKA
    have hr : (Vf.add F x).1 = 7 := by rw [unhide Hadd, ha]; rfl
    have Hr := hide hr
    have Hb := hide ((unhide Hb1).mono hlo)
    clear hr ha ea
    go_wp2_with fail
    refine (unhide HKA).mono ?_
    rintro e w2 ⟨rfl, rfl⟩
    go_wp2_with fail
    go_ret
    exact addE_no (unhide Hr) (by decide) (unhide Hb)
  | none =>
    have hadd := unhide Hadd
    rw [ha] at hadd HKA
    simp only [Option.isSome_none, Bool.false_eq_true, if_false] at hadd
    have ea : atV F L none = .nilIface := rfl
    rw [ea] at HKA
    have Hat0 := hide ha
    clear ha ea Hadd
    go_wp2_with fail
    refine (unhide HKA).mono ?_
    rintro e w2 ⟨rfl, rfl⟩
    go_wp2_with fail
    refine (unhide HKA2).mono ?_
    rintro e w2 ⟨rfl, rfl⟩
    cases hu : Vf.at_ F 0 (Pth.partsL x.path).dropLast with
    | none =>
      have ea : atV F L none = .nilIface := rfl
      rw [ea]
      rw [hu] at hadd
      have hr : (Vf.add F x).1 = 3 := by rw [hadd]
      have Hr := hide hr
      have Hb := hide ((unhide Hb1).mono hlo)
      clear hr hu ea hadd
      go_wp2_with fail
      go_ret
      exact addE_no (unhide Hr) (by decide) (unhide Hb)
    | some up =>
      obtain ⟨xu, pu, hxu, hpu, ea⟩ := atV_ne (unhide HF) (unhide H) hu
      rw [hu] at ea hadd
      rw [ea]
      simp only at hadd
      rw [Vf.kindAt_eq hxu] at hadd
      by_cases hk : xu.m.kind = 2
      case neg =>
        rw [if_pos hk] at hadd
        have hr : (Vf.add F x).1 = 8 := by rw [hadd]
        have Hr := hide hr
        have Hb := hide ((unhide Hb1).mono hlo)
        have ha1 := file_no_dir (.pointer (some ⟨pu.q, 0, none⟩))
        have ha2 := link_no_dir (.pointer (some ⟨pu.q, 0, none⟩))
        have et : kindT xu.m.kind = 103 ∨ kindT xu.m.kind = 121 := by
          rcases kind3 (unhide HF) hxu with h1 | h1 | h1
          · exact .inl (by rw [h1]; rfl)
          · exact absurd h1 hk
          · exact .inr (by rw [h1]; rfl)
        clear hr hadd hxu hpu ea hu hk
        rcases et with et | et
        all_goals
          rw [et]
          clear et
          go_wp2_with fail
          go_ret
          exact addE_no (unhide Hr) (by decide) (unhide Hb)
      rw [if_neg (by simp [hk])] at hadd
      have et : kindT xu.m.kind = 79 := by rw [hk]; rfl
      rw [et]
      have ha1 := is_dir (.pointer (some ⟨pu.q, 0, none⟩))
      have Hadd := hide hadd
      have Hxu := hide hxu
      have Hpu := hide hpu
      have Hk := hide hk
      have Hu := hide hu
      have HW1 := hide ((unhide H).belowSz (unhide Hb1))
      have hfs1 := (unhide HW1).fs
      obtain ⟨flen, hfl⟩ : ∃ n, F.length = n := ⟨_, rfl⟩
      have Hfl := hide hfl
      rw [hfl] at hfs1 hn
      have hbk1 := unhide Hbk1
      obtain ⟨nm, hnm⟩ : ∃ nm, Vf.lastOf (Pth.partsL x.path) = nm := ⟨_, rfl⟩
      have hlast : ((Pth.partsL x.path).map Value.string)[k1]? = some (.string nm) := by
        rw [← unhide Hk1, unhide Hn1, ← List.length_map (f := Value.string), ← List.getLast?_eq_getElem?, List.getLast?_map, ← hnm]
        unfold Vf.lastOf
        rw [List.getLast?_eq_some_getLast (unhide Hm5)]
        rfl
      obtain ⟨b3, o3, hA1, _, c3⟩ := (unhide Hr1).at_ (k := k1) hlast
      subst hA1
      have Hnm := hide hnm
      have hcn : Vf.child F up nm = none := by
        have h1 := unhide Hat0
        rw [Vf.lastOf_app (unhide Hm5), Vf.at_app, hu, hnm] at h1
        cases hq : Vf.child F up nm with
        | none => rfl
        | some j => simp [Vf.at_, hq] at h1
      have HSK : ∀ w', Below w1.heap.size w1 w' → (Below w1.heap.size w1 w' ∧ w'.cell? ⟨w.heap.size, 1, none⟩ = some (.int .u8 (x.kind : Nat)) ∧ w'.cell? ⟨w.heap.size, 2, none⟩ = some (.int .u16 (x.mode : Nat)) ∧ w'.cell? ⟨w.heap.size, 3, none⟩ = some (.int .u32 (x.uid : Nat)) ∧ w'.cell? ⟨w.heap.size, 4, none⟩ = some (.int .u32 (x.gid : Nat)) ∧ w'.cell? ⟨w.heap.size, 5, none⟩ = some (.slice Ax n cx) ∧ w'.cell? ⟨f, 0, none⟩ = some (.slice A flen c) ∧ w'.cell? ⟨b3, o3 + k1, none⟩ = some (.string nm)) := by
        intro w' hbw
        have h1 := hbk1.belowSz hbw
        have h2 := hfs1.belowSz hbw
        refine ⟨hbw, h1.cell rfl, h1.cell rfl, h1.cell rfl, h1.cell rfl, h1.cell rfl, h2.cell rfl, (hbw.cell (p := ⟨b3, o3 + k1, none⟩) (cell_lt c3)).trans c3⟩
      have v := HSK w1 (Below.refl _ _)
      obtain ⟨-, v1, v2, v3, v4, v5, v6, v7⟩ := v
      have HSK' := hide HSK
      have hbW : Below w1.heap.size w1 (w1.alloc (.cells #[.int .u8 (x.kind : Nat), .int .u16 (x.mode : Nat), .int .u32 (x.uid : Nat), .int .u32 (x.gid : Nat), .int .i64 (n : Nat), .int .i64 (flen : Nat), .pointer (some ⟨pu.q, 0, none⟩), .string nm] 81)).drew := below_drew' ((Below.refl _ _).alloc (Nat.le_refl _) _)
      have hBb : Blk (w1.alloc (.cells #[.int .u8 (x.kind : Nat), .int .u16 (x.mode : Nat), .int .u32 (x.uid : Nat), .int .u32 (x.gid : Nat), .int .i64 (n : Nat), .int .i64 (flen : Nat), .pointer (some ⟨pu.q, 0, none⟩), .string nm] 81)).drew w1.heap.size 81 [.int .u8 (x.kind : Nat), .int .u16 (x.mode : Nat), .int .u32 (x.uid : Nat), .int .u32 (x.gid : Nat), .int .i64 (n : Nat), .int .i64 (flen : Nat), .pointer (some ⟨pu.q, 0, none⟩), .string nm] := Blk.new w1 _ _
      have HbW := hide hbW
      have HBb := hide hBb
      clear hbW hBb
      clear hadd hxu hpu ea hu hk et HSK c3 hlast hnm hbk1 hfs1 hfl
      go_wp2_with fail
      go_region_held3 (fun w' => Below w1.heap.size w1 w' ∧ w'.cell? ⟨w.heap.size, 1, none⟩ = some (.int .u8 (x.kind : Nat)) ∧ w'.cell? ⟨w.heap.size, 2, none⟩ = some (.int .u16 (x.mode : Nat)) ∧ w'.cell? ⟨w.heap.size, 3, none⟩ = some (.int .u32 (x.uid : Nat)) ∧ w'.cell? ⟨w.heap.size, 4, none⟩ = some (.int .u32 (x.gid : Nat)) ∧ w'.cell? ⟨w.heap.size, 5, none⟩ = some (.slice Ax n cx) ∧ w'.cell? ⟨f, 0, none⟩ = some (.slice A flen c) ∧ w'.cell? ⟨b3, o3 + k1, none⟩ = some (.string nm)) (first | exact (unhide HSK') _ (below_drew' (Below.refl _ _)) | exact (unhide HSK') _ (below_drew' ((Below.refl _ _).alloc (Nat.le_refl _) _)) | exact (unhide HSK') _ (unhide HbW)) (fail)
      clear v1 v2 v3 v4 v5 v6 v7
      generalize (w1.alloc (.cells #[.int .u8 (x.kind : Nat), .int .u16 (x.mode : Nat), .int .u32 (x.uid : Nat), .int .u32 (x.gid : Nat), .int .i64 (n : Nat), .int .i64 (flen : Nat), .pointer (some ⟨pu.q, 0, none⟩), .string nm] 81)).drew = W at *
      obtain ⟨-, v1, v2, v3, v4, v5, v6, v7⟩ := (unhide HSK') W (unhide HbW)
      have hB2 := (unhide HBb)
      obtain ⟨y0, y1, y2, y3, y4, y5, y6, y7⟩ : W.cell? ⟨w1.heap.size, 0, none⟩ = some (.int .u8 (x.kind : Nat)) ∧ W.cell? ⟨w1.heap.size, 1, none⟩ = some (.int .u16 (x.mode : Nat)) ∧ W.cell? ⟨w1.heap.size, 2, none⟩ = some (.int .u32 (x.uid : Nat)) ∧ W.cell? ⟨w1.heap.size, 3, none⟩ = some (.int .u32 (x.gid : Nat)) ∧ W.cell? ⟨w1.heap.size, 4, none⟩ = some (.int .i64 (n : Nat)) ∧ W.cell? ⟨w1.heap.size, 5, none⟩ = some (.int .i64 (flen : Nat)) ∧ W.cell? ⟨w1.heap.size, 6, none⟩ = some (.pointer (some ⟨pu.q, 0, none⟩)) ∧ W.cell? ⟨w1.heap.size, 7, none⟩ = some (.string nm) := ⟨hB2.cell rfl, hB2.cell rfl, hB2.cell rfl, hB2.cell rfl, hB2.cell rfl, hB2.cell rfl, hB2.cell rfl, hB2.cell rfl⟩
      clear hB2
      have hmm := @run_makeMap Tryd.prog
      have hkind := (Vf.may_ok (unhide Hm)).1
      rcases (show x.kind = 1 ∨ x.kind = 2 ∨ x.kind = 3 by omega) with hk | hk | hk
      · have q2 : ((x.kind : Int) == 2) = false := by rw [hk]; rfl
        have q3 : ((x.kind : Int) == 1) = true := by rw [hk]; rfl
        have KC : ∀ w', Below W.heap.size W w' → Calls Tryd.prog 45 #[.slice Ax n cx] w' (CloneBE n x.data w') := fun w' hb =>
          cloneB_any Ax n cx w.heap.size x.data w' ((unhide Hd).below ((unhide Hb1).trans (((unhide HbW).mono (unhide Hb1).size).trans (hb.mono (Nat.le_trans (unhide Hb1).size (unhide HbW).size))))) (Nat.le_trans (Nat.le_trans (unhide Hb1).size (unhide HbW).size) hb.size) hnn
        have HSC : ∀ w', Below W.heap.size W w' → (Below W.heap.size W w' ∧ w'.cell? ⟨w1.heap.size, 0, none⟩ = some (.int .u8 (x.kind : Nat)) ∧ w'.cell? ⟨w1.heap.size, 1, none⟩ = some (.int .u16 (x.mode : Nat)) ∧ w'.cell? ⟨w1.heap.size, 2, none⟩ = some (.int .u32 (x.uid : Nat)) ∧ w'.cell? ⟨w1.heap.size, 3, none⟩ = some (.int .u32 (x.gid : Nat)) ∧ w'.cell? ⟨w1.heap.size, 4, none⟩ = some (.int .i64 (n : Nat)) ∧ w'.cell? ⟨w1.heap.size, 5, none⟩ = some (.int .i64 (flen : Nat)) ∧ w'.cell? ⟨w1.heap.size, 6, none⟩ = some (.pointer (some ⟨pu.q, 0, none⟩)) ∧ w'.cell? ⟨w1.heap.size, 7, none⟩ = some (.string nm) ∧ w'.cell? ⟨w.heap.size, 5, none⟩ = some (.slice Ax n cx)) := by
          intro w' hb
          have h1 := (unhide HBb).belowSz hb
          have h2 := (unhide HSK') w' ((unhide HbW).trans (hb.mono (unhide HbW).size))
          exact ⟨hb, h1.cell rfl, h1.cell rfl, h1.cell rfl, h1.cell rfl, h1.cell rfl, h1.cell rfl, h1.cell rfl, h1.cell rfl, h2.2.2.2.2.2.1⟩
        have Hkk := hide hk
        have HKC := hide KC
        have HSC' := hide HSC
        clear hk hkind KC HSC
        go_wp2_with fail
        go_region_held3 (fun w' => Below W.heap.size W w' ∧ w'.cell? ⟨w1.heap.size, 0, none⟩ = some (.int .u8 (x.kind : Nat)) ∧ w'.cell? ⟨w1.heap.size, 1, none⟩ = some (.int .u16 (x.mode : Nat)) ∧ w'.cell? ⟨w1.heap.size, 2, none⟩ = some (.int .u32 (x.uid : Nat)) ∧ w'.cell? ⟨w1.heap.size, 3, none⟩ = some (.int .u32 (x.gid : Nat)) ∧ w'.cell? ⟨w1.heap.size, 4, none⟩ = some (.int .i64 (n : Nat)) ∧ w'.cell? ⟨w1.heap.size, 5, none⟩ = some (.int .i64 (flen : Nat)) ∧ w'.cell? ⟨w1.heap.size, 6, none⟩ = some (.pointer (some ⟨pu.q, 0, none⟩)) ∧ w'.cell? ⟨w1.heap.size, 7, none⟩ = some (.string nm) ∧ w'.cell? ⟨w.heap.size, 5, none⟩ = some (.slice Ax n cx)) (first | exact (unhide HSC') _ (below_drew' (Below.refl _ _)) | exact (unhide HSC') _ (unhide hbn) | exact (unhide HSC') _ ((unhide hbn).alloc (unhide hbn).size _)) (first
          | (go_at_call 45; rename Below _ _ _ ∧ _ => hH; refine ((unhide HKC) _ hH.1).mono ?_; rintro e w3 ⟨A5, c5, rfl, ho5, hb5⟩; have hbn := hide (hH.1.trans (hb5.mono hH.1.size)); have Ho5 := hide ho5; have Hlo5 := hide (Nat.le_trans (unhide HbW).size hH.1.size); clear ho5 hb5))
        have HbW3 := hide ((unhide HbW).trans ((unhide hbn).mono (unhide HbW).size))
        go_wp2_with fail
        obtain ⟨np, hnp⟩ : ∃ np : Pl, (⟨w3.heap.size, 0, A5, n, c5⟩ : Pl) = np := ⟨_, rfl⟩
        have hbV : Below w1.heap.size w1 (w3.alloc (.cells #[.int .u8 (x.kind : Nat), .int .u16 (x.mode : Nat), .int .u32 (x.uid : Nat), .int .u32 (x.gid : Nat), .int .i64 (n : Nat), .int .i64 (flen : Nat), .pointer (some ⟨pu.q, 0, none⟩), .string nm, .slice A5 n c5] 106)) := (unhide HbW3).alloc (unhide HbW3).size _
        have hndV : Blk (w3.alloc (.cells #[.int .u8 (x.kind : Nat), .int .u16 (x.mode : Nat), .int .u32 (x.uid : Nat), .int .u32 (x.gid : Nat), .int .i64 (n : Nat), .int .i64 (flen : Nat), .pointer (some ⟨pu.q, 0, none⟩), .string nm, .slice A5 n c5] 106)) np.q (blkT (Vf.ndOf x up).m.kind) (ndC (Vf.ndOf x up) F.length pu.q np) := by
          have e1 : ndC (Vf.ndOf x up) F.length pu.q np = [.int .u8 (x.kind : Nat), .int .u16 (x.mode : Nat), .int .u32 (x.uid : Nat), .int .u32 (x.gid : Nat), .int .i64 (n : Nat), .int .i64 (flen : Nat), .pointer (some ⟨pu.q, 0, none⟩), .string nm, .slice A5 n c5] := by
            unfold ndC lastV
            rw [show (Vf.ndOf x up).m.kind = x.kind from rfl, if_neg (by rw [unhide Hkk]; decide), if_pos (unhide Hkk), unhide Hfl]
            try rw [← hnp]
            simp only [Vf.ndOf, unhide Hdl, unhide Hnm]
            rfl
          have e2 : blkT (Vf.ndOf x up).m.kind = 106 := by rw [show (Vf.ndOf x up).m.kind = x.kind from rfl, unhide Hkk]; rfl
          rw [e1, e2, ← hnp]
          exact Blk.new w3 106 [.int .u8 (x.kind : Nat), .int .u16 (x.mode : Nat), .int .u32 (x.uid : Nat), .int .u32 (x.gid : Nat), .int .i64 (n : Nat), .int .i64 (flen : Nat), .pointer (some ⟨pu.q, 0, none⟩), .string nm, .slice A5 n c5]
        have hbyV : (Vf.ndOf x up).m.kind = 1 → np.n = (Vf.ndOf x up).data.length ∧ np.n ≤ np.c ∧ RdI (w3.alloc (.cells #[.int .u8 (x.kind : Nat), .int .u16 (x.mode : Nat), .int .u32 (x.uid : Nat), .int .u32 (x.gid : Nat), .int .i64 (n : Nat), .int .i64 (flen : Nat), .pointer (some ⟨pu.q, 0, none⟩), .string nm, .slice A5 n c5] 106)) w1.heap.size 5 1 np.A np.n ((Vf.ndOf x up).data.map fun b => Value.int .u8 (b.toNat : Nat)) := by
          intro _
          rw [← hnp]
          refine ⟨(unhide Hdl).symm, own_cap (unhide Ho5), ?_⟩
          have h5 : RdI w3 w1.heap.size 5 1 A5 n (bys x.data) := RdI.of_own (own_base (unhide Ho5) (unhide Hlo5))
          exact h5.keep fun k o _ ho _ => (Below.heap_alloc _ _ _ (Array.getElem?_eq_some_iff.1 ho).1).trans ho
        have hdmV : (Vf.ndOf x up).m.kind = 2 → w1.heap.size ≤ np.g ∧ MapG (w3.alloc (.cells #[.int .u8 (x.kind : Nat), .int .u16 (x.mode : Nat), .int .u32 (x.uid : Nat), .int .u32 (x.gid : Nat), .int .i64 (n : Nat), .int .i64 (flen : Nat), .pointer (some ⟨pu.q, 0, none⟩), .string nm, .slice A5 n c5] 106)) np.g .string [] := by
          intro h
          have : x.kind = 2 := h
          rw [unhide Hkk] at this
          cases this
        have hnpq : w1.heap.size ≤ np.q := by rw [← hnp]; exact (unhide HbW3).size
        have hnpe : np.q = w3.heap.size := by rw [← hnp]
        clear hnp
        generalize (w3.alloc (.cells #[.int .u8 (x.kind : Nat), .int .u16 (x.mode : Nat), .int .u32 (x.uid : Nat), .int .u32 (x.gid : Nat), .int .i64 (n : Nat), .int .i64 (flen : Nat), .pointer (some ⟨pu.q, 0, none⟩), .string nm, .slice A5 n c5] 106)) = V at *
        rw [← hnpe]
        clear hnpe
        have HbV := hide hbV
        have HnV := hide hndV
        have HyV := hide hbyV
        have HdV := hide hdmV
        clear hbV hndV hbyV hdmV
        obtain ⟨-, z1, z2, z3, z4, z5, z6, z7⟩ := (unhide HSK') V (unhide HbV)
        have hmu := ((unhide HW1).map up xu pu (unhide Hxu) (unhide Hpu) (unhide Hk)).2.belowSz (unhide HbV)
        obtain ⟨_, uu, _, hbu⟩ := (unhide HW1).nd up xu pu (unhide Hxu) (unhide Hpu)
        have e8 : lastV xu pu = .map (some pu.g) := by unfold lastV; rw [if_pos (unhide Hk)]
        have z8 : V.cell? ⟨pu.q, 8, none⟩ = some (lastV xu pu) := (hbu.belowSz (unhide HbV)).cell rfl
        rw [e8] at z8
        have z7' : World.cell? { heap := V.heap, tape := V.tape, drawn := V.drawn + 1, os := V.os, output := V.output } ⟨b3, o3 + k1, none⟩ = some (.string nm) := z7
        have z8' : World.cell? { heap := V.heap, tape := V.tape, drawn := V.drawn + 1, os := V.os, output := V.output } ⟨pu.q, 8, none⟩ = some (.map (some pu.g)) := z8
        have hmuD : MapG V.drew pu.g .string (kidsM F L up) := ⟨hmu.there, hmu.keys, hmu.once⟩
        have hnone := kids_no (unhide HF) (L := L) (hcn)
        have HmuD := hide hmuD
        have Hnone := hide hnone
        clear v1 v2 v3 v4 v5 v6 v7 y0 y1 y2 y3 y4 y5 y6 y7 z1 z2 z3 z4 z5 z6 hmu hbu e8 hmuD hnone
        go_still_tail 9, (by kernel_rfl)
        change wpList _ _ _ _ _ V.drew
        refine wpList_updG (x := .string nm) (g := pu.g) rfl _ _ _ rfl Tryd.underlying82 Tryd.underlying9 (by simp [Go.MapKept.IsKey]) rfl rfl rfl (unhide HmuD) (unhide Hnone) ?_
        intro V2 hm2 hg2 hs2
        have HbV' : Hid (Below w1.heap.size w1 V.drew) := hide (below_drew' (unhide HbV))
        obtain ⟨f2, r2, s2, f3⟩ := (unhide HW1).addF (unhide Hxu) (unhide Hpu) (unhide Hk) (unhide HbV') hg2
        have u0 : V2.cell? ⟨f, 0, none⟩ = some (.slice A F.length c) := f2.cell rfl
        rw [unhide Hfl] at u0
        have Hr2 := hide r2
        have Hf3 := hide f3
        have Hm2 := hide hm2
        have Hg2 := hide hg2
        have hlo2 : lo ≤ V2.heap.size := by have := (unhide Hb1).size; omega
        clear f2 r2 s2 f3 hm2 hg2 hs2 z7 z8 z7' z8'
        go_wp2_with (at_builtin; refine wpList_app1 nodeTy rfl _ _ rfl lo (.slice A flen c) flen _ rfl (by have := unhide Hr2; rw [unhide Hfl] at this; exact this) #[.iface 103 (.pointer (some ⟨np.q, 0, none⟩))] rfl rfl (by simp [Value.oneCell']) (by omega) hlo2 ?_; intro A4 c4 V3 ho3 hg3 hat3; have hff := (unhide Hf3) V3 (by rw [unhide Hfl]; exact hg3); have t0 : V3.cell? ⟨f, 0, none⟩ = some (.slice A F.length c) := hff.cell rfl; rw [unhide Hfl] at t0; have tf : V3.frozen? ⟨f, 0, none⟩ = false := hff.free 0; have Ho3 := hide ho3; have Hg3 := hide hg3; clear ho3 hg3 hat3 hff)
        go_ret
        have hnd0 : ndV (Vf.ndOf x up) np = .iface 103 (.pointer (some ⟨np.q, 0, none⟩)) := by unfold ndV kindT; rw [show (Vf.ndOf x up).m.kind = x.kind from rfl, unhide Hkk]; rfl
        have hnm0 : (Vf.ndOf x up).name = nm := unhide Hnm
        have hfin := (unhide HW1).addFin (V := V.drew) (V2 := V2) (V3 := V3) (unhide HF) (Vf.ndOf x up) np xu pu (unhide Hxu) (unhide Hpu) (unhide Hk) (by have := (unhide Hb1).size; omega) (unhide HbV') (by rw [hnm0, hnd0]; exact unhide Hm2) (unhide Hg2) A4 c4 (by rw [hnd0, unhide Hfl]; exact unhide Ho3) (by rw [unhide Hfl]; exact unhide Hg3) hnpq (unhide HnV) (unhide HyV) (fun h => ⟨((unhide HdV) h).1, ((unhide HdV) h).2.keep rfl⟩)
        rw [unhide Hfl] at hfin
        unfold AddE
        rw [unhide Hadd]
        exact ⟨rfl, fun _ => ⟨_, A4, c4, hfin.1⟩, ((unhide Hb1).mono hlo).trans hfin.2⟩
      · have q2 : ((x.kind : Int) == 2) = true := by rw [hk]; rfl
        have Hkk := hide hk
        clear hk hkind
        go_wp2_with fail
        obtain ⟨np, hnp⟩ : ∃ np : Pl, (⟨W.heap.size + 1, W.heap.size, none, 0, 0⟩ : Pl) = np := ⟨_, rfl⟩
        have hbV : Below w1.heap.size w1 ((W.alloc (.map #[] 0)).alloc (.cells #[.int .u8 (x.kind : Nat), .int .u16 (x.mode : Nat), .int .u32 (x.uid : Nat), .int .u32 (x.gid : Nat), .int .i64 (n : Nat), .int .i64 (flen : Nat), .pointer (some ⟨pu.q, 0, none⟩), .string nm, .map (some W.heap.size)] 84)) := ((unhide HbW).alloc (unhide HbW).size _).alloc (by have := (unhide HbW).size; simp; omega) _
        have hndV : Blk ((W.alloc (.map #[] 0)).alloc (.cells #[.int .u8 (x.kind : Nat), .int .u16 (x.mode : Nat), .int .u32 (x.uid : Nat), .int .u32 (x.gid : Nat), .int .i64 (n : Nat), .int .i64 (flen : Nat), .pointer (some ⟨pu.q, 0, none⟩), .string nm, .map (some W.heap.size)] 84)) np.q (blkT (Vf.ndOf x up).m.kind) (ndC (Vf.ndOf x up) F.length pu.q np) := by
          have e1 : ndC (Vf.ndOf x up) F.length pu.q np = [.int .u8 (x.kind : Nat), .int .u16 (x.mode : Nat), .int .u32 (x.uid : Nat), .int .u32 (x.gid : Nat), .int .i64 (n : Nat), .int .i64 (flen : Nat), .pointer (some ⟨pu.q, 0, none⟩), .string nm, .map (some W.heap.size)] := by
            unfold ndC lastV
            rw [show (Vf.ndOf x up).m.kind = x.kind from rfl, if_pos (unhide Hkk), unhide Hfl]
            try rw [← hnp]
            simp only [Vf.ndOf, unhide Hdl, unhide Hnm]
            rfl
          have e2 : blkT (Vf.ndOf x up).m.kind = 84 := by rw [show (Vf.ndOf x up).m.kind = x.kind from rfl, unhide Hkk]; rfl
          rw [e1, e2, ← hnp]
          have := Blk.new (W.alloc (.map #[] 0)) 84 [.int .u8 (x.kind : Nat), .int .u16 (x.mode : Nat), .int .u32 (x.uid : Nat), .int .u32 (x.gid : Nat), .int .i64 (n : Nat), .int .i64 (flen : Nat), .pointer (some ⟨pu.q, 0, none⟩), .string nm, .map (some W.heap.size)]
          rw [World.size_alloc] at this
          exact this
        have hbyV : (Vf.ndOf x up).m.kind = 1 → np.n = (Vf.ndOf x up).data.length ∧ np.n ≤ np.c ∧ RdI ((W.alloc (.map #[] 0)).alloc (.cells #[.int .u8 (x.kind : Nat), .int .u16 (x.mode : Nat), .int .u32 (x.uid : Nat), .int .u32 (x.gid : Nat), .int .i64 (n : Nat), .int .i64 (flen : Nat), .pointer (some ⟨pu.q, 0, none⟩), .string nm, .map (some W.heap.size)] 84)) w1.heap.size 5 1 np.A np.n ((Vf.ndOf x up).data.map fun b => Value.int .u8 (b.toNat : Nat)) := by
          intro h
          have : x.kind = 1 := h
          rw [unhide Hkk] at this
          cases this
        have hdmV : (Vf.ndOf x up).m.kind = 2 → w1.heap.size ≤ np.g ∧ MapG ((W.alloc (.map #[] 0)).alloc (.cells #[.int .u8 (x.kind : Nat), .int .u16 (x.mode : Nat), .int .u32 (x.uid : Nat), .int .u32 (x.gid : Nat), .int .i64 (n : Nat), .int .i64 (flen : Nat), .pointer (some ⟨pu.q, 0, none⟩), .string nm, .map (some W.heap.size)] 84)) np.g .string [] := by
          intro _
          rw [← hnp]
          exact ⟨(unhide HbW).size, (MapG.nil W _).belowSz ((Below.refl _ _).alloc (Nat.le_refl _) _)⟩
        have hnpq : w1.heap.size ≤ np.q := by rw [← hnp]; have := (unhide HbW).size; simp; omega
        have hnpe : np.q = W.heap.size + 1 := by rw [← hnp]
        clear hnp
        generalize ((W.alloc (.map #[] 0)).alloc (.cells #[.int .u8 (x.kind : Nat), .int .u16 (x.mode : Nat), .int .u32 (x.uid : Nat), .int .u32 (x.gid : Nat), .int .i64 (n : Nat), .int .i64 (flen : Nat), .pointer (some ⟨pu.q, 0, none⟩), .string nm, .map (some W.heap.size)] 84)) = V at *
        rw [← hnpe]
        clear hnpe
        have HbV := hide hbV
        have HnV := hide hndV
        have HyV := hide hbyV
        have HdV := hide hdmV
        clear hbV hndV hbyV hdmV
        obtain ⟨-, z1, z2, z3, z4, z5, z6, z7⟩ := (unhide HSK') V (unhide HbV)
        have hmu := ((unhide HW1).map up xu pu (unhide Hxu) (unhide Hpu) (unhide Hk)).2.belowSz (unhide HbV)
        obtain ⟨_, uu, _, hbu⟩ := (unhide HW1).nd up xu pu (unhide Hxu) (unhide Hpu)
        have e8 : lastV xu pu = .map (some pu.g) := by unfold lastV; rw [if_pos (unhide Hk)]
        have z8 : V.cell? ⟨pu.q, 8, none⟩ = some (lastV xu pu) := (hbu.belowSz (unhide HbV)).cell rfl
        rw [e8] at z8
        have z7' : World.cell? { heap := V.heap, tape := V.tape, drawn := V.drawn + 1, os := V.os, output := V.output } ⟨b3, o3 + k1, none⟩ = some (.string nm) := z7
        have z8' : World.cell? { heap := V.heap, tape := V.tape, drawn := V.drawn + 1, os := V.os, output := V.output } ⟨pu.q, 8, none⟩ = some (.map (some pu.g)) := z8
        have hmuD : MapG V.drew pu.g .string (kidsM F L up) := ⟨hmu.there, hmu.keys, hmu.once⟩
        have hnone := kids_no (unhide HF) (L := L) (hcn)
        have HmuD := hide hmuD
        have Hnone := hide hnone
        clear v1 v2 v3 v4 v5 v6 v7 y0 y1 y2 y3 y4 y5 y6 y7 z1 z2 z3 z4 z5 z6 hmu hbu e8 hmuD hnone
        go_still_tail 9, (by kernel_rfl)
        change wpList _ _ _ _ _ V.drew
        refine wpList_updG (x := .string nm) (g := pu.g) rfl _ _ _ rfl Tryd.underlying82 Tryd.underlying9 (by simp [Go.MapKept.IsKey]) rfl rfl rfl (unhide HmuD) (unhide Hnone) ?_
        intro V2 hm2 hg2 hs2
        have HbV' : Hid (Below w1.heap.size w1 V.drew) := hide (below_drew' (unhide HbV))
        obtain ⟨f2, r2, s2, f3⟩ := (unhide HW1).addF (unhide Hxu) (unhide Hpu) (unhide Hk) (unhide HbV') hg2
        have u0 : V2.cell? ⟨f, 0, none⟩ = some (.slice A F.length c) := f2.cell rfl
        rw [unhide Hfl] at u0
        have Hr2 := hide r2
        have Hf3 := hide f3
        have Hm2 := hide hm2
        have Hg2 := hide hg2
        have hlo2 : lo ≤ V2.heap.size := by have := (unhide Hb1).size; omega
        clear f2 r2 s2 f3 hm2 hg2 hs2 z7 z8 z7' z8'
        go_wp2_with (at_builtin; refine wpList_app1 nodeTy rfl _ _ rfl lo (.slice A flen c) flen _ rfl (by have := unhide Hr2; rw [unhide Hfl] at this; exact this) #[.iface 79 (.pointer (some ⟨np.q, 0, none⟩))] rfl rfl (by simp [Value.oneCell']) (by omega) hlo2 ?_; intro A4 c4 V3 ho3 hg3 hat3; have hff := (unhide Hf3) V3 (by rw [unhide Hfl]; exact hg3); have t0 : V3.cell? ⟨f, 0, none⟩ = some (.slice A F.length c) := hff.cell rfl; rw [unhide Hfl] at t0; have tf : V3.frozen? ⟨f, 0, none⟩ = false := hff.free 0; have Ho3 := hide ho3; have Hg3 := hide hg3; clear ho3 hg3 hat3 hff)
        go_ret
        have hnd0 : ndV (Vf.ndOf x up) np = .iface 79 (.pointer (some ⟨np.q, 0, none⟩)) := by unfold ndV kindT; rw [show (Vf.ndOf x up).m.kind = x.kind from rfl, unhide Hkk]; rfl
        have hnm0 : (Vf.ndOf x up).name = nm := unhide Hnm
        have hfin := (unhide HW1).addFin (V := V.drew) (V2 := V2) (V3 := V3) (unhide HF) (Vf.ndOf x up) np xu pu (unhide Hxu) (unhide Hpu) (unhide Hk) (by have := (unhide Hb1).size; omega) (unhide HbV') (by rw [hnm0, hnd0]; exact unhide Hm2) (unhide Hg2) A4 c4 (by rw [hnd0, unhide Hfl]; exact unhide Ho3) (by rw [unhide Hfl]; exact unhide Hg3) hnpq (unhide HnV) (unhide HyV) (fun h => ⟨((unhide HdV) h).1, ((unhide HdV) h).2.keep rfl⟩)
        rw [unhide Hfl] at hfin
        unfold AddE
        rw [unhide Hadd]
        exact ⟨rfl, fun _ => ⟨_, A4, c4, hfin.1⟩, ((unhide Hb1).mono hlo).trans hfin.2⟩
      · have q2 : ((x.kind : Int) == 2) = false := by rw [hk]; rfl
        have q3 : ((x.kind : Int) == 1) = false := by rw [hk]; rfl
        have v6t : W.cell? ⟨w.heap.size, 6, none⟩ = some (.string x.to) := ((unhide Hbk1).belowSz (unhide HbW)).cell rfl
        have Hkk := hide hk
        clear hk hkind
        go_wp2_with fail
        obtain ⟨np, hnp⟩ : ∃ np : Pl, (⟨W.heap.size, 0, none, 0, 0⟩ : Pl) = np := ⟨_, rfl⟩
        have hbV : Below w1.heap.size w1 (W.alloc (.cells #[.int .u8 (x.kind : Nat), .int .u16 (x.mode : Nat), .int .u32 (x.uid : Nat), .int .u32 (x.gid : Nat), .int .i64 (n : Nat), .int .i64 (flen : Nat), .pointer (some ⟨pu.q, 0, none⟩), .string nm, .string x.to] 123)) := (unhide HbW).alloc (unhide HbW).size _
        have hndV : Blk (W.alloc (.cells #[.int .u8 (x.kind : Nat), .int .u16 (x.mode : Nat), .int .u32 (x.uid : Nat), .int .u32 (x.gid : Nat), .int .i64 (n : Nat), .int .i64 (flen : Nat), .pointer (some ⟨pu.q, 0, none⟩), .string nm, .string x.to] 123)) np.q (blkT (Vf.ndOf x up).m.kind) (ndC (Vf.ndOf x up) F.length pu.q np) := by
          have e1 : ndC (Vf.ndOf x up) F.length pu.q np = [.int .u8 (x.kind : Nat), .int .u16 (x.mode : Nat), .int .u32 (x.uid : Nat), .int .u32 (x.gid : Nat), .int .i64 (n : Nat), .int .i64 (flen : Nat), .pointer (some ⟨pu.q, 0, none⟩), .string nm, .string x.to] := by
            unfold ndC lastV
            rw [show (Vf.ndOf x up).m.kind = x.kind from rfl, if_neg (by rw [unhide Hkk]; decide), if_neg (by rw [unhide Hkk]; decide), unhide Hfl]
            try rw [← hnp]
            simp only [Vf.ndOf, unhide Hdl, unhide Hnm]
            rfl
          have e2 : blkT (Vf.ndOf x up).m.kind = 123 := by rw [show (Vf.ndOf x up).m.kind = x.kind from rfl, unhide Hkk]; rfl
          rw [e1, e2, ← hnp]
          exact Blk.new W 123 [.int .u8 (x.kind : Nat), .int .u16 (x.mode : Nat), .int .u32 (x.uid : Nat), .int .u32 (x.gid : Nat), .int .i64 (n : Nat), .int .i64 (flen : Nat), .pointer (some ⟨pu.q, 0, none⟩), .string nm, .string x.to]
        have hbyV : (Vf.ndOf x up).m.kind = 1 → np.n = (Vf.ndOf x up).data.length ∧ np.n ≤ np.c ∧ RdI (W.alloc (.cells #[.int .u8 (x.kind : Nat), .int .u16 (x.mode : Nat), .int .u32 (x.uid : Nat), .int .u32 (x.gid : Nat), .int .i64 (n : Nat), .int .i64 (flen : Nat), .pointer (some ⟨pu.q, 0, none⟩), .string nm, .string x.to] 123)) w1.heap.size 5 1 np.A np.n ((Vf.ndOf x up).data.map fun b => Value.int .u8 (b.toNat : Nat)) := by
          intro h
          have : x.kind = 1 := h
          rw [unhide Hkk] at this
          cases this
        have hdmV : (Vf.ndOf x up).m.kind = 2 → w1.heap.size ≤ np.g ∧ MapG (W.alloc (.cells #[.int .u8 (x.kind : Nat), .int .u16 (x.mode : Nat), .int .u32 (x.uid : Nat), .int .u32 (x.gid : Nat), .int .i64 (n : Nat), .int .i64 (flen : Nat), .pointer (some ⟨pu.q, 0, none⟩), .string nm, .string x.to] 123)) np.g .string [] := by
          intro h
          have : x.kind = 2 := h
          rw [unhide Hkk] at this
          cases this
        have hnpq : w1.heap.size ≤ np.q := by rw [← hnp]; exact (unhide HbW).size
        have hnpe : np.q = W.heap.size := by rw [← hnp]
        clear hnp
        generalize (W.alloc (.cells #[.int .u8 (x.kind : Nat), .int .u16 (x.mode : Nat), .int .u32 (x.uid : Nat), .int .u32 (x.gid : Nat), .int .i64 (n : Nat), .int .i64 (flen : Nat), .pointer (some ⟨pu.q, 0, none⟩), .string nm, .string x.to] 123)) = V at *
        rw [← hnpe]
        clear hnpe
        have HbV := hide hbV
        have HnV := hide hndV
        have HyV := hide hbyV
        have HdV := hide hdmV
        clear hbV hndV hbyV hdmV
        obtain ⟨-, z1, z2, z3, z4, z5, z6, z7⟩ := (unhide HSK') V (unhide HbV)
        have hmu := ((unhide HW1).map up xu pu (unhide Hxu) (unhide Hpu) (unhide Hk)).2.belowSz (unhide HbV)
        obtain ⟨_, uu, _, hbu⟩ := (unhide HW1).nd up xu pu (unhide Hxu) (unhide Hpu)
        have e8 : lastV xu pu = .map (some pu.g) := by unfold lastV; rw [if_pos (unhide Hk)]
        have z8 : V.cell? ⟨pu.q, 8, none⟩ = some (lastV xu pu) := (hbu.belowSz (unhide HbV)).cell rfl
        rw [e8] at z8
        have z7' : World.cell? { heap := V.heap, tape := V.tape, drawn := V.drawn + 1, os := V.os, output := V.output } ⟨b3, o3 + k1, none⟩ = some (.string nm) := z7
        have z8' : World.cell? { heap := V.heap, tape := V.tape, drawn := V.drawn + 1, os := V.os, output := V.output } ⟨pu.q, 8, none⟩ = some (.map (some pu.g)) := z8
        have hmuD : MapG V.drew pu.g .string (kidsM F L up) := ⟨hmu.there, hmu.keys, hmu.once⟩
        have hnone := kids_no (unhide HF) (L := L) (hcn)
        have HmuD := hide hmuD
        have Hnone := hide hnone
        clear v6t v1 v2 v3 v4 v5 v6 v7 y0 y1 y2 y3 y4 y5 y6 y7 z1 z2 z3 z4 z5 z6 hmu hbu e8 hmuD hnone
        go_still_tail 9, (by kernel_rfl)
        change wpList _ _ _ _ _ V.drew
        refine wpList_updG (x := .string nm) (g := pu.g) rfl _ _ _ rfl Tryd.underlying82 Tryd.underlying9 (by simp [Go.MapKept.IsKey]) rfl rfl rfl (unhide HmuD) (unhide Hnone) ?_
        intro V2 hm2 hg2 hs2
        have HbV' : Hid (Below w1.heap.size w1 V.drew) := hide (below_drew' (unhide HbV))
        obtain ⟨f2, r2, s2, f3⟩ := (unhide HW1).addF (unhide Hxu) (unhide Hpu) (unhide Hk) (unhide HbV') hg2
        have u0 : V2.cell? ⟨f, 0, none⟩ = some (.slice A F.length c) := f2.cell rfl
        rw [unhide Hfl] at u0
        have Hr2 := hide r2
        have Hf3 := hide f3
        have Hm2 := hide hm2
        have Hg2 := hide hg2
        have hlo2 : lo ≤ V2.heap.size := by have := (unhide Hb1).size; omega
        clear f2 r2 s2 f3 hm2 hg2 hs2 z7 z8 z7' z8'
        go_wp2_with (at_builtin; refine wpList_app1 nodeTy rfl _ _ rfl lo (.slice A flen c) flen _ rfl (by have := unhide Hr2; rw [unhide Hfl] at this; exact this) #[.iface 121 (.pointer (some ⟨np.q, 0, none⟩))] rfl rfl (by simp [Value.oneCell']) (by omega) hlo2 ?_; intro A4 c4 V3 ho3 hg3 hat3; have hff := (unhide Hf3) V3 (by rw [unhide Hfl]; exact hg3); have t0 : V3.cell? ⟨f, 0, none⟩ = some (.slice A F.length c) := hff.cell rfl; rw [unhide Hfl] at t0; have tf : V3.frozen? ⟨f, 0, none⟩ = false := hff.free 0; have Ho3 := hide ho3; have Hg3 := hide hg3; clear ho3 hg3 hat3 hff)
        go_ret
        have hnd0 : ndV (Vf.ndOf x up) np = .iface 121 (.pointer (some ⟨np.q, 0, none⟩)) := by unfold ndV kindT; rw [show (Vf.ndOf x up).m.kind = x.kind from rfl, unhide Hkk]; rfl
        have hnm0 : (Vf.ndOf x up).name = nm := unhide Hnm
        have hfin := (unhide HW1).addFin (V := V.drew) (V2 := V2) (V3 := V3) (unhide HF) (Vf.ndOf x up) np xu pu (unhide Hxu) (unhide Hpu) (unhide Hk) (by have := (unhide Hb1).size; omega) (unhide HbV') (by rw [hnm0, hnd0]; exact unhide Hm2) (unhide Hg2) A4 c4 (by rw [hnd0, unhide Hfl]; exact unhide Ho3) (by rw [unhide Hfl]; exact unhide Hg3) hnpq (unhide HnV) (unhide HyV) (fun h => ⟨((unhide HdV) h).1, ((unhide HdV) h).2.keep rfl⟩)
        rw [unhide Hfl] at hfin
        unfold AddE
        rw [unhide Hadd]
        exact ⟨rfl, fun _ => ⟨_, A4, c4, hfin.1⟩, ((unhide Hb1).mono hlo).trans hfin.2⟩
end Go.Proofs.YtfegfmapdekkbaaDoor
namespace Go.Proofs.YtfegfmapdekkbaaDoor
set_option linter.unusedVariables false
set_option linter.unusedSimpArgs false
open Go.RowKit Go.ChangeShapes Go.WideShapes Go.Joins Go.Deep

section
variable {H : Type} {enc : TypeId × Value → H} {P : Program} {w : World} {base : Nat} {held : Bool}
theorem flds_one {spare : Nat → Bool} {t : TypeId} {fs : Array Field} {fuel : Nat} {cs : List Value} {x : DataW H × List MemPlace} (ht : P.underlying t = some (.struct fs)) (hone : oneCellFields P fs = true) (hC : P.cellsOf t = fs.size)
    (h : DataW.trod enc P w base spare held fuel t cs = some x) : cs.length = fs.size ∧ ∃ n, ∀ (i : Nat) (f : Field) (v : Value), fs[i]? = some f → cs[i]? = some v → ∃ y, DataW.trod enc P w base spare held n f.type [v] = some y := by
  obtain ⟨xs, n, _, rfl, hl, hlen, hf⟩ := DataW.trod_struct ht h
  refine ⟨hl.trans hC, n, fun i f v hi hv => ?_⟩
  obtain ⟨o, k⟩ := hone_of hone i f hi
  have hi2 : i < fs.size := (Array.getElem?_eq_some_iff.1 hi).1
  have h1 := hf i f hi
  have e : ((cs.drop f.offset).take (P.cellsOf f.type)) = [v] := by
    rw [o, k]
    have hlt : i < cs.length := (List.getElem?_eq_some_iff.1 hv).1
    rw [List.drop_eq_getElem_cons hlt, (List.getElem?_eq_some_iff.1 hv).2]
    rfl
  rw [e] at h1
  exact ⟨_, h1.trans (List.getElem?_eq_getElem (by omega))⟩
/-- The fields of a struct, each one cell, by their types. -/
theorem flds_vals {t : TypeId} (tys : Array TypeId) {fuel : Nat} {cs : List Value} {x : DataW H × List MemPlace}
    (hS : ∃ fs, P.underlying t = some (.struct fs) ∧ oneCellFields P fs = true ∧ P.cellsOf t = fs.size ∧ fs.map (·.type) = tys)
    (h : DataW.trod enc P w base (fun _ => true) held fuel t cs = some x) : cs.length = tys.size ∧ ∃ n, ∀ (i : Nat) (t : TypeId) (v : Value), tys[i]? = some t → cs[i]? = some v → ∃ y, DataW.trod enc P w base (fun _ => true) held n t [v] = some y := by
  obtain ⟨fs, ht, hone, hC, hty⟩ := hS
  obtain ⟨hl, n, hf⟩ := flds_one ht hone hC h
  refine ⟨by rw [← hty]; simpa using hl, n, fun i t v hi hv => ?_⟩
  rw [← hty, Array.getElem?_map] at hi
  cases hq : fs[i]? with
  | none => rw [hq] at hi; cases hi
  | some f =>
    rw [hq] at hi
    obtain ⟨y, hy⟩ := hf i f v hq hv
    have e : f.type = t := by simpa using hi
    rw [e] at hy
    exact ⟨y, hy⟩
theorem fcells_at {a : Addr} {k : Nat} {cs : List Value} (h : w.cells? base a k = some cs) : cs.length = k ∧ ∀ j, j < k → w.cell? (a.add j) = cs[j]? := by
  unfold World.cells? at h
  split at h
  · have hl := mapM_some_length h
    refine ⟨by simpa using hl, fun j hj => ?_⟩
    exact mapM_some_get h j j (by simp [hj])
  · cases h
theorem fslice_is {t e : TypeId} {fuel : Nat} {v : Value} {y : DataW H × List MemPlace} (ht : P.underlying t = some (.slice e)) (hf : DataW.trod enc P w base (fun _ => true) held fuel t [v] = some y) : ∃ A n c, v = .slice A n c := by
  obtain ⟨a, l, c, h⟩ := slice_form ht hf
  simp only [List.cons.injEq, and_true] at h
  exact ⟨a, l, c, h⟩
theorem fu64_is {t : TypeId} {fuel : Nat} {v : Value} {y : DataW H × List MemPlace} (ht : P.underlying t = some (.int .u64)) (hf : DataW.trod enc P w base (fun _ => true) held fuel t [v] = some y) : ∃ n : Nat, v = .int .u64 n ∧ n < 18446744073709551616 := by
  obtain ⟨z, q, -, hw⟩ := DataW.trod_int ht hf
  simp only [List.cons.injEq, and_true] at q
  have b : 0 ≤ z ∧ z ≤ 18446744073709551615 := by simpa [Lit.wf, IntKind.min, IntKind.max, IntKind.signed, IntKind.bits] using hw
  obtain ⟨n, rfl⟩ := Int.eq_ofNat_of_zero_le b.1
  exact ⟨n, q, by omega⟩
theorem fu32_is {t : TypeId} {fuel : Nat} {v : Value} {y : DataW H × List MemPlace} (ht : P.underlying t = some (.int .u32)) (hf : DataW.trod enc P w base (fun _ => true) held fuel t [v] = some y) : ∃ n : Nat, v = .int .u32 n ∧ n < 4294967296 := by
  obtain ⟨z, q, -, hw⟩ := DataW.trod_int ht hf
  simp only [List.cons.injEq, and_true] at q
  have b : 0 ≤ z ∧ z ≤ 4294967295 := by simpa [Lit.wf, IntKind.min, IntKind.max, IntKind.signed, IntKind.bits] using hw
  obtain ⟨n, rfl⟩ := Int.eq_ofNat_of_zero_le b.1
  exact ⟨n, q, by omega⟩
theorem fu16_is {t : TypeId} {fuel : Nat} {v : Value} {y : DataW H × List MemPlace} (ht : P.underlying t = some (.int .u16)) (hf : DataW.trod enc P w base (fun _ => true) held fuel t [v] = some y) : ∃ n : Nat, v = .int .u16 n ∧ n < 65536 := by
  obtain ⟨z, q, -, hw⟩ := DataW.trod_int ht hf
  simp only [List.cons.injEq, and_true] at q
  have b : 0 ≤ z ∧ z ≤ 65535 := by simpa [Lit.wf, IntKind.min, IntKind.max, IntKind.signed, IntKind.bits] using hw
  obtain ⟨n, rfl⟩ := Int.eq_ofNat_of_zero_le b.1
  exact ⟨n, q, by omega⟩
theorem fu8_is {t : TypeId} {fuel : Nat} {v : Value} {y : DataW H × List MemPlace} (ht : P.underlying t = some (.int .u8)) (hf : DataW.trod enc P w base (fun _ => true) held fuel t [v] = some y) : ∃ n : Nat, v = .int .u8 n ∧ n < 256 := by
  obtain ⟨z, q, -, hw⟩ := DataW.trod_int ht hf
  simp only [List.cons.injEq, and_true] at q
  have b : 0 ≤ z ∧ z ≤ 255 := by simpa [Lit.wf, IntKind.min, IntKind.max, IntKind.signed, IntKind.bits] using hw
  obtain ⟨n, rfl⟩ := Int.eq_ofNat_of_zero_le b.1
  exact ⟨n, q, by omega⟩
theorem fint_is {t : TypeId} {fuel : Nat} {v : Value} {y : DataW H × List MemPlace} (ht : P.underlying t = some (.int .i64)) (hf : DataW.trod enc P w base (fun _ => true) held fuel t [v] = some y) : ∃ n : Int, v = .int .i64 n ∧ -9223372036854775808 ≤ n ∧ n ≤ 9223372036854775807 := by
  obtain ⟨z, q, -, hw⟩ := DataW.trod_int ht hf
  simp only [List.cons.injEq, and_true] at q
  have b : -9223372036854775808 ≤ z ∧ z ≤ 9223372036854775807 := by simpa [Lit.wf, IntKind.min, IntKind.max, IntKind.signed, IntKind.bits] using hw
  exact ⟨z, q, b⟩
theorem fstr_is {t : TypeId} {fuel : Nat} {v : Value} {y : DataW H × List MemPlace} (ht : P.underlying t = some .string) (hf : DataW.trod enc P w base (fun _ => true) held fuel t [v] = some y) : ∃ s : ByteArray, v = .string s ∧ s.size ≤ maxLen := by
  obtain ⟨s, q, -, bs⟩ := DataW.trod_string ht hf
  simp only [List.cons.injEq, and_true] at q
  exact ⟨s, q, bs⟩
theorem fbool_is {t : TypeId} {fuel : Nat} {v : Value} {y : DataW H × List MemPlace} (ht : P.underlying t = some .bool) (hf : DataW.trod enc P w base (fun _ => true) held fuel t [v] = some y) : ∃ b : Bool, v = .bool b := by
  obtain ⟨s, q, -⟩ := DataW.trod_bool ht hf
  simp only [List.cons.injEq, and_true] at q
  exact ⟨s, q⟩

/-- The cells of a row of structs. -/
def rowCs {α : Type} (vals : α → List Value) (l : List α) : List Value := l.flatMap vals
theorem rowCs_len {α : Type} {vals : α → List Value} {size : Nat} (hv : ∀ s, (vals s).length = size) (l : List α) : (rowCs vals l).length = l.length * size := by
  induction l with
  | nil => simp [rowCs]
  | cons s r ih => 
    have : (rowCs vals (s :: r)).length = size + (rowCs vals r).length := by simp [rowCs, hv]
    rw [this, ih, List.length_cons, Nat.add_mul]
    omega
theorem rowCs_app {α : Type} (vals : α → List Value) (a b : List α) : rowCs vals (a ++ b) = rowCs vals a ++ rowCs vals b := by simp [rowCs]
theorem rowCs_at {α : Type} {vals : α → List Value} {size : Nat} (hv : ∀ s, (vals s).length = size) (l : List α) (k : Nat) (s : α) (hk : l[k]? = some s) (j : Nat) (hj : j < size) : (rowCs vals l)[k * size + j]? = (vals s)[j]? := by
  have hlt := (List.getElem?_eq_some_iff.1 hk).1
  have e : l = l.take k ++ s :: l.drop (k + 1) := by
    rw [← (List.getElem?_eq_some_iff.1 hk).2, ← List.drop_eq_getElem_cons hlt, List.take_append_drop]
  have hl : (rowCs vals (l.take k)).length = k * size := by rw [rowCs_len hv, List.length_take]; congr 1; omega
  conv => lhs; rw [e]
  rw [rowCs_app, List.getElem?_append_right (by omega), hl, Nat.add_sub_cancel_left]
  show (vals s ++ rowCs vals (l.drop (k + 1)))[j]? = _
  rw [List.getElem?_append_left (by rw [hv]; exact hj)]
/-- A slice of structs as an argument. -/
theorem open_structs_rd {α : Type} [Inhabited α] {A : Option Addr} {n c fuel size : Nat} {t e : TypeId} {x : DataW H × List MemPlace} (ht : P.underlying t = some (.slice e)) (h6 : P.cellsOf e = size) (hpos : 0 < size) (vals : α → List Value) (ok : α → Prop) (hv : ∀ s, (vals s).length = size)
    (hone : ∀ fuel cs x, DataW.trod enc P w base (fun _ => true) held fuel e cs = some x → ∃ s, cs = vals s ∧ ok s)
    (h : DataW.trod enc P w base (fun _ => true) held fuel t [.slice A n c] = some x) :
    ∃ l : List α, Rd w w.heap.size size A n (rowCs vals l) ∧ l.length = n ∧ n ≤ c ∧ c ≤ maxLen ∧ ∀ s ∈ l, ok s := by
  rcases Go.Deep.open_slice ht h with ⟨h1, h2⟩ | ⟨a, len, cap, m, k, D, Pl, h1, hb, hl, hm, hmm, hx, hel⟩
  · simp at h1
    obtain ⟨rfl, rfl, rfl⟩ := h1
    exact ⟨[], Rd.none_ _ _ _ _, rfl, Nat.le_refl _, by unfold maxLen; omega, by simp⟩
  · simp at h1
    obtain ⟨rfl, rfl, rfl⟩ := h1
    simp only [if_true] at hmm
    have each : ∀ i, i < n → ∃ s : α, ok s ∧ ∀ j, j < size → w.cell? (a.add (i * size + j)) = (vals s)[j]? := by
      intro i hi
      obtain ⟨cs, hc, ht⟩ := hel i (by omega)
      rw [h6] at hc
      obtain ⟨s, rfl, hs⟩ := hone _ _ _ ht
      obtain ⟨_, hcell⟩ := fcells_at hc
      refine ⟨s, hs, fun j hj => ?_⟩
      have := hcell j hj
      rw [← this]
      congr 1
      by_cases g1 : i * size = 0 <;> by_cases g2 : j = 0 <;> simp [Addr.add, g1, g2, Nat.add_assoc]
    obtain ⟨S, hS⟩ := Go.Deep.choose_lt each
    refine ⟨(List.range n).map S, ⟨by rw [rowCs_len hv]; simp, ?_⟩, by simp, hl, hm, ?_⟩
    · by_cases h0 : n = 0
      · subst h0; exact .inl rfl
      · obtain ⟨b, off, spot⟩ := a
        have hs0 := (hS 0 (by omega)).2 0 hpos
        have hlt0 : 0 < (vals (S 0)).length := by rw [hv]; exact hpos
        have hs : spot = none := by simpa [Addr.add] using World.cell?_spot (hs0.trans (List.getElem?_eq_getElem hlt0))
        subst hs
        have hc2 : ∀ i, i < n → ∀ j, j < size → w.cell? ⟨b, off + (i * size + j), none⟩ = (vals (S i))[j]? := fun i hi j hj => by
          rw [← Go.WideShapes.add_plain]; exact (hS i hi).2 j hj
        have hblk : b < w.heap.size := cell_lt (a := ⟨b, off + (0 * size + 0), none⟩) ((hc2 0 (by omega) 0 hpos).trans (List.getElem?_eq_getElem hlt0))
        refine .inr ⟨b, off, rfl, hblk, fun j u hu => ?_⟩
        have hj : j < n * size := by
          have := (List.getElem?_eq_some_iff.1 hu).1
          rw [rowCs_len hv] at this
          simpa using this
        have hq : j / size < n := (Nat.div_lt_iff_lt_mul hpos).2 hj
        have hr : j % size < size := Nat.mod_lt _ hpos
        have hjj : j / size * size + j % size = j := by rw [Nat.mul_comm]; exact Nat.div_add_mod j size
        have hat := rowCs_at hv ((List.range n).map S) (j / size) (S (j / size)) (by simp [hq]) (j % size) hr
        rw [hjj] at hat
        have := hc2 (j / size) hq (j % size) hr
        rw [hjj] at this
        rw [this, ← hat, hu]
    · intro s hs
      simp only [List.mem_map, List.mem_range] at hs
      obtain ⟨i, hi, rfl⟩ := hs
      exact (hS i hi).1
end
end Go.Proofs.YtfegfmapdekkbaaDoor
namespace Go.Proofs.YtfegfmapdekkbaaDoor
set_option linter.unusedVariables false
set_option linter.unusedSimpArgs false
open Go.RowKit

/-- What New answers, plain: the error, the entry's number, the nodes. -/
def Vf.new (es : List Vf.Ent) : Int × Int × List Vf.Nd :=
  if 64 < es.length then (15, -1, []) else if (Vf.adds [Vf.root] 0 es).1 ≠ 0 then ((Vf.adds [Vf.root] 0 es).1, ((Vf.adds [Vf.root] 0 es).2.1 : Nat), []) else (0, 0, (Vf.adds [Vf.root] 0 es).2.2)
/-- An entry as an argument: with where its bytes lie. -/
structure EntA where
  e : Vf.Ent
  A : Option Addr
  n : Nat
  c : Nat
instance : Inhabited EntA := ⟨⟨⟨⟨#[]⟩, 0, 0, 0, 0, [], ⟨#[]⟩⟩, none, 0, 0⟩⟩
def entVals (s : EntA) : List Value := entC s.e s.A s.n s.c
structure EntOk (w : World) (s : EntA) : Prop where
  d : Rd w w.heap.size 1 s.A s.n (bys s.e.data)
  n : s.n ≤ 4294967296
  p : s.e.path.size ≤ 4294967296
  t : s.e.to.size ≤ 4294967296
  m : s.e.mode < 65536
theorem EntOk.below {w w' : World} {s : EntA} (h : EntOk w s) (hb : Below w.heap.size w w') : EntOk w' s := ⟨h.d.belowSz hb, h.n, h.p, h.t, h.m⟩
def NewE (es : List Vf.Ent) (w : World) (e : Ending) (w' : World) : Prop :=
  Below w.heap.size w w' ∧ (((Vf.new es).1 ≠ 0 ∧ e = .returned (.tuple #[.pointer none, .int .i64 (Vf.new es).1, .int .i64 (Vf.new es).2.1])) ∨
    ((Vf.new es).1 = 0 ∧ ∃ f A c L, e = .returned (.tuple #[ptrV f, .int .i64 0, .int .i64 0]) ∧ FsM w' w.heap.size f A c (Vf.new es).2.2 L ∧ Vf.Good (Vf.new es).2.2 ∧ (Vf.new es).2.2.length = es.length + 1 ∧ (Vf.new es).2.1 = 0 ∧ es.length ≤ 64))
/-- The first world: a root alone. -/
theorem FsM.start (w : World) : FsM ((((w.alloc (.map #[] 0)).alloc (.cells #[.int .u8 2, .int .u16 493, .int .u32 0, .int .u32 0, .int .i64 0, .int .i64 0, .pointer (some ⟨w.heap.size + 1, 0, none⟩), .string ⟨#[]⟩, .map (some w.heap.size)] 84)).alloc (.cells #[.iface 79 (.pointer (some ⟨w.heap.size + 1, 0, none⟩))] 93)).alloc (.cells #[.slice (some ⟨w.heap.size + 2, 0, none⟩) 1 1] 87)) w.heap.size (w.heap.size + 3) (some ⟨w.heap.size + 2, 0, none⟩) 1 [Vf.root] [⟨w.heap.size + 1, w.heap.size, none, 0, 0⟩] := by
  have m0 := MapG.nil w .string
  have d1 : Blk ((w.alloc (.map #[] 0)).alloc (.cells #[.int .u8 2, .int .u16 493, .int .u32 0, .int .u32 0, .int .i64 0, .int .i64 0, .pointer (some ⟨w.heap.size + 1, 0, none⟩), .string ⟨#[]⟩, .map (some w.heap.size)] 84)) (w.heap.size + 1) 84 [.int .u8 2, .int .u16 493, .int .u32 0, .int .u32 0, .int .i64 0, .int .i64 0, .pointer (some ⟨w.heap.size + 1, 0, none⟩), .string ⟨#[]⟩, .map (some w.heap.size)] := by
    have := Blk.new (w.alloc (.map #[] 0)) 84 [.int .u8 2, .int .u16 493, .int .u32 0, .int .u32 0, .int .i64 0, .int .i64 0, .pointer (some ⟨w.heap.size + 1, 0, none⟩), .string ⟨#[]⟩, .map (some w.heap.size)]
    rw [World.size_alloc] at this
    exact this
  have m2 := (m0.belowSz ((Below.refl _ _).alloc (Nat.le_refl _) (.cells #[.int .u8 2, .int .u16 493, .int .u32 0, .int .u32 0, .int .i64 0, .int .i64 0, .pointer (some ⟨w.heap.size + 1, 0, none⟩), .string ⟨#[]⟩, .map (some w.heap.size)] 84)))
  generalize hW : (w.alloc (.map #[] 0)).alloc (.cells #[.int .u8 2, .int .u16 493, .int .u32 0, .int .u32 0, .int .i64 0, .int .i64 0, .pointer (some ⟨w.heap.size + 1, 0, none⟩), .string ⟨#[]⟩, .map (some w.heap.size)] 84) = W at *
  have hsz : W.heap.size = w.heap.size + 2 := by rw [← hW]; simp
  have r0 : (W.alloc (.cells #[.iface 79 (.pointer (some ⟨w.heap.size + 1, 0, none⟩))] 93)).ownsRow w.heap.size 93 1 (.slice (some ⟨w.heap.size + 2, 0, none⟩) 1 1) 1 [.iface 79 (.pointer (some ⟨w.heap.size + 1, 0, none⟩))] :=
    ⟨rfl, .inr ⟨w.heap.size + 2, 1, #[.iface 79 (.pointer (some ⟨w.heap.size + 1, 0, none⟩))], rfl, by omega, by rw [← hsz]; exact heap_alloc_new _ _, by omega, by unfold maxLen; omega, rfl, rfl⟩⟩
  have f0 := Blk.new (W.alloc (.cells #[.iface 79 (.pointer (some ⟨w.heap.size + 1, 0, none⟩))] 93)) 87 [.slice (some ⟨w.heap.size + 2, 0, none⟩) 1 1]
  rw [World.size_alloc, hsz] at f0
  have hbb : Below W.heap.size W ((W.alloc (.cells #[.iface 79 (.pointer (some ⟨w.heap.size + 1, 0, none⟩))] 93)).alloc (.cells #[.slice (some ⟨w.heap.size + 2, 0, none⟩) 1 1] 87)) := ((Below.refl _ _).alloc (Nat.le_refl _) _).alloc (by simp) _
  have only : ∀ {i : Nat} {x : Vf.Nd} {p : Pl}, [Vf.root][i]? = some x → [(⟨w.heap.size + 1, w.heap.size, none, 0, 0⟩ : Pl)][i]? = some p → i = 0 ∧ x = Vf.root ∧ p = ⟨w.heap.size + 1, w.heap.size, none, 0, 0⟩ := by
    intro i x p h1 h2
    cases i with
    | zero => exact ⟨rfl, by simpa using h1.symm, by simpa using h2.symm⟩
    | succ i => simp at h1
  refine ⟨rfl, by omega, f0, r0.alloc _, ?_, ?_, ?_, ?_⟩
  · intro i x p h1 h2
    obtain ⟨rfl, rfl, rfl⟩ := only h1 h2
    exact ⟨by simp, _, rfl, d1.belowSz hbb⟩
  · intro i x p h1 h2 h3
    obtain ⟨rfl, rfl, rfl⟩ := only h1 h2
    cases h3
  · intro i x p h1 h2 h3
    obtain ⟨rfl, rfl, rfl⟩ := only h1 h2
    exact ⟨Nat.le_refl _, m2.belowSz hbb⟩
  · intro i j x y p r h1 h2 h3 h4 _ _ _
    rw [(only h1 h3).1, (only h2 h4).1]
theorem adds_step {F : List Vf.Nd} {es : List Vf.Ent} {k : Nat} {x : Vf.Ent} (hx : es[k]? = some x) : Vf.adds F k (es.drop k) = if (Vf.add F x).1 ≠ 0 then ((Vf.add F x).1, k, F) else Vf.adds (Vf.add F x).2 (k + 1) (es.drop (k + 1)) := by
  have hlt := (List.getElem?_eq_some_iff.1 hx).1
  rw [List.drop_eq_getElem_cons hlt, (List.getElem?_eq_some_iff.1 hx).2]
  rfl

set_option maxRecDepth 100000 in
set_option maxHeartbeats 4000000 in
theorem new_any (l : List EntA) (A : Option Addr) (n c : Nat) (w : World) (h : Rd w w.heap.size 7 A n (rowCs entVals l)) (hl : l.length = n) (hok : ∀ s ∈ l, EntOk w s) (hn : n ≤ 4294967296) :
    Calls Tryd.prog 19 #[.slice A n c] w (NewE (l.map (·.e)) w) := by
  have hlm : (l.map (·.e)).length = n := by simpa using hl
  have hmm := @run_makeMap Tryd.prog
  have H := hide h
  have Hl := hide hl
  have Hok := hide hok
  have Hlm := hide hlm
  clear h hl hok hlm
  by_cases h64 : 64 < n
  · have g1 : (64 : Int) < (n : Int) := by omega
    have hnew : Vf.new (l.map (·.e)) = (15, -1, []) := by unfold Vf.new; rw [if_pos (by rw [unhide Hlm]; exact h64)]
    have Hnew := hide hnew
    clear h64 hnew
    go_enter Tryd.func19, Tryd.ntmps19
    go_wp2_with fail
    go_ret3
    unfold NewE
    rw [unhide Hnew]
    exact ⟨Below.refl _ _, .inl ⟨by decide, rfl⟩⟩
  · have g1 : ¬ (64 : Int) < (n : Int) := by omega
    have hFS := FsM.start w
    have HFS := hide hFS
    clear hFS
    go_enter Tryd.func19, Tryd.ntmps19
    go_wp2_with fail
    have hB4 : Below w.heap.size w ((((w.alloc (.map #[] 0)).alloc (.cells #[.int .u8 2, .int .u16 493, .int .u32 0, .int .u32 0, .int .i64 0, .int .i64 0, .pointer (some ⟨w.heap.size + 1, 0, none⟩), .string ⟨#[]⟩, .map (some w.heap.size)] 84)).alloc (.cells #[.iface 79 (.pointer (some ⟨w.heap.size + 1, 0, none⟩))] 93)).alloc (.cells #[.slice (some ⟨w.heap.size + 2, 0, none⟩) 1 1] 87)) :=
      ((((Below.refl _ _).alloc (Nat.le_refl _) _).alloc (by simp) _).alloc (by simp; omega) _).alloc (by simp; omega) _
    have HB4 := hide hB4
    clear hB4
    go_loopg [30] n (fun gk iv wr => ∃ (k : Nat) (F : List Vf.Nd) (L : List Pl) (A' : Option Addr) (c' : Nat), gk = n - k ∧ k ≤ n ∧ iv = .int .i64 (k : Nat) ∧ Vf.adds [Vf.root] 0 (l.map (·.e)) = Vf.adds F k ((l.map (·.e)).drop k) ∧ Vf.Good F ∧ F.length = k + 1 ∧ FsM wr w.heap.size (w.heap.size + 3) A' c' F L ∧ Below w.heap.size w wr)
    case atStart => exact ⟨0, [Vf.root], _, _, _, by omega, Nat.zero_le _, rfl, rfl, Vf.good_root, rfl, unhide HFS, unhide HB4⟩
    case round =>
    obtain ⟨k, F, L, A', c', hgk, hk, rfl, hadds, hF, hFl, hFS, hB⟩ := hrel
    have Hgk := hide hgk
    have Hadds := hide hadds
    have HF := hide hF
    have HFl := hide hFl
    have HFSk := hide hFS
    have HB := hide hB
    clear hgk hadds hF hFl hFS hB
    by_cases hlt : k < n
    · obtain ⟨s, hs⟩ : ∃ s, l[k]? = some s := ⟨_, List.getElem?_eq_getElem (by rw [unhide Hl]; exact hlt)⟩
      obtain ⟨b1, o1, rfl, hb1, c1⟩ := (unhide H).open_ (by
        intro h0
        have := rowCs_len (vals := entVals) (size := 7) (fun _ => rfl) l
        rw [h0, unhide Hl] at this
        simp at this
        omega)
      have hc : ∀ j u, (entVals s)[j]? = some u → wr.cell? ⟨b1, o1 + (k * 7 + j), none⟩ = some u := by
        intro j u hu
        have hj : j < 7 := (List.getElem?_eq_some_iff.1 hu).1
        refine ((unhide HB).cell (p := ⟨b1, _, none⟩) hb1).trans (c1 _ _ ?_)
        rw [rowCs_at (vals := entVals) (size := 7) (fun _ => rfl) l k s hs j hj, hu]
      have x0 := hc 0 _ rfl
      have x1 := hc 1 _ rfl
      have x2 := hc 2 _ rfl
      have x3 := hc 3 _ rfl
      have x4 := hc 4 _ rfl
      have x5 := hc 5 _ rfl
      have x6 := hc 6 _ rfl
      rw [Nat.add_zero] at x0
      simp only [← Nat.add_assoc] at x1 x2 x3 x4 x5 x6
      have ilt : (k : Int) < (n : Int) := by omega
      have Hs := hide hs
      have hsm : s ∈ l := List.mem_of_getElem? hs
      have hes : (l.map (·.e))[k]? = some s.e := by rw [List.getElem?_map, hs]; rfl
      have hstep := adds_step (F := F) hes
      have hok := (unhide Hok) s hsm
      have hbA : Below w.heap.size w (wr.alloc (.cells #[.string s.e.path, .int .u8 (s.e.kind : Nat), .int .u16 (s.e.mode : Nat), .int .u32 (s.e.uid : Nat), .int .u32 (s.e.gid : Nat), .slice s.A s.n s.c, .string s.e.to] 69)) := (unhide HB).alloc (unhide HB).size _
      have hok2 := hok.below hbA
      have KA := add_any F L w.heap.size (w.heap.size + 3) c' A' s.A s.n s.c s.e (wr.alloc (.cells #[.string s.e.path, .int .u8 (s.e.kind : Nat), .int .u16 (s.e.mode : Nat), .int .u32 (s.e.uid : Nat), .int .u32 (s.e.gid : Nat), .slice s.A s.n s.c, .string s.e.to] 69)) (unhide HF) ((unhide HFSk).belowSz ((Below.refl _ _).alloc (Nat.le_refl _) _)) hbA.size (by rw [unhide HFl]; omega) hok2.d hok2.n hok2.p hok2.t hok2.m
      unfold entV ptrV at KA
      have HKA := hide KA
      have HbA := hide hbA
      have Hstep := hide hstep
      clear hc c1 hs hsm hes hstep hok hbA hok2 KA
      go_wp2_with fail
      refine (unhide HKA).mono ?_
      rintro e w2 ⟨rfl, hfs2, hb2⟩
      have Hb2 := hide ((unhide HbA).trans hb2)
      by_cases ha : (Vf.add F s.e).1 = 0
      · obtain ⟨L2, A2, c2, hF2⟩ := hfs2 ha
        have HF2 := hide hF2
        have hg2 := Vf.add_good (unhide HF) ha
        have hst := unhide Hstep
        rw [if_neg (by simp [ha])] at hst
        have hlen2 : (Vf.add F s.e).2.length = k + 1 + 1 := by
          obtain ⟨_, up, _, _, _, he⟩ := Vf.add_ok ha
          rw [he, List.length_append, unhide HFl]
          rfl
        have Hg2 := hide hg2
        have Hst := hide hst
        have Hlen2 := hide hlen2
        rw [ha]
        clear ha hfs2 hb2 hF2 hg2 hst hlen2 x0 x1 x2 x3 x4 x5 x6
        go_wp2_with fail
        go_roundg (n - (k + 1))
        case rel => exact ⟨k + 1, _, L2, A2, c2, rfl, by omega, by go_num, (unhide Hadds).trans (unhide Hst), unhide Hg2, unhide Hlen2, unhide HF2, unhide Hb2⟩
        case measure => rw [unhide Hgk]; omega
      · obtain ⟨er, her⟩ : ∃ v, (Vf.add F s.e).1 = v := ⟨_, rfl⟩
        have q1 : (er != 0) = true := by rw [← her]; simp [ha]
        have hst := unhide Hstep
        rw [if_pos ha] at hst
        have hnew : Vf.new (l.map (·.e)) = (er, ((k : Nat) : Int), []) := by
          unfold Vf.new
          rw [if_neg (by rw [unhide Hlm]; exact h64), (unhide Hadds).trans hst, her]
          rw [her] at ha
          rw [if_pos ha]
        have Hnew := hide hnew
        rw [her] at ha
        have Ha := hide ha
        rw [her]
        clear ha hfs2 hb2 hst hnew her x0 x1 x2 x3 x4 x5 x6
        go_wp2_with fail
        go_ret3
        unfold NewE
        rw [unhide Hnew]
        exact ⟨unhide Hb2, .inl ⟨unhide Ha, rfl⟩⟩
    · have hkn : k = n := by omega
      have ilt : ¬ (k : Int) < (n : Int) := by omega
      go_wp2_with fail
      go_ret3
      have ha := unhide Hadds
      rw [List.drop_of_length_le (by rw [unhide Hlm]; omega)] at ha
      have hnew : Vf.new (l.map (·.e)) = (0, 0, F) := by
        unfold Vf.new
        rw [if_neg (by rw [unhide Hlm]; exact h64), ha]
        rfl
      unfold NewE
      rw [hnew]
      exact ⟨unhide HB, .inr ⟨rfl, _, A', c', L, rfl, unhide HFSk, unhide HF, by rw [unhide HFl, unhide Hlm, hkn], rfl, by rw [unhide Hlm]; omega⟩⟩
end Go.Proofs.YtfegfmapdekkbaaDoor
namespace Go.Proofs.YtfegfmapdekkbaaDoor
set_option linter.unusedVariables false
set_option linter.unusedSimpArgs false
open Go.RowKit

theorem take_ext {α : Type} {xs ys : List α} {k : Nat} {x : α} (h : xs.take k = ys.take k) (hx : xs[k]? = some x) (hy : ys[k]? = some x) : xs.take (k + 1) = ys.take (k + 1) := by
  rw [List.take_add_one, List.take_add_one, h, hx, hy]

set_option maxHeartbeats 1000000 in
theorem eqTexts_any (A B : Option Addr) (n m c d K : Nat) (xs ys : List ByteArray) (w : World) (ha : Rd w K 1 A n (xs.map Value.string)) (hb : Rd w K 1 B m (ys.map Value.string)) (hn : n ≤ maxLen) (hm : m ≤ maxLen) :
    Calls Tryd.prog 16 #[.slice A n c, .slice B m d] w fun e w' => e = .returned (.bool (decide (xs = ys))) ∧ ∃ j, w' = w.drewN j := by
  have hxl : xs.length = n := by simpa using ha.len1
  have hyl : ys.length = m := by simpa using hb.len1
  unfold maxLen at hn hm
  have Hxl := hide hxl
  have Hyl := hide hyl
  have Ha := hide ha
  have Hb := hide hb
  clear hxl hyl ha hb
  go_enter Tryd.func16, Tryd.ntmps16
  go_wp2
  go_loopw [5] (fun at_ wr => ∃ k j : Nat, at_ = .int .i64 k ∧ k ≤ n ∧ k ≤ m ∧ xs.take k = ys.take k ∧ wr = w.drewN j) (fun at_ _ => n - (intOf at_).toNat)
  case atStart => exact ⟨0, 0, rfl, Nat.zero_le _, Nat.zero_le _, rfl, rfl⟩
  case round =>
    obtain ⟨k, j, rfl, hkn, hkm, htk, rfl⟩ := hrel
    have Htk := hide htk
    clear htk
    by_cases h1 : k < n
    · have d1 : decide (k < n) = true := by simpa using h1
      have i1 : (k : Int) < (n : Int) := by omega
      by_cases h2 : k < m
      · have d2 : decide (k < m) = true := by simpa using h2
        have i2 : (k : Int) < (m : Int) := by omega
        obtain ⟨x, hx⟩ : ∃ x, xs[k]? = some x := ⟨_, List.getElem?_eq_getElem (by rw [unhide Hxl]; exact h1)⟩
        obtain ⟨y, hy⟩ : ∃ y, ys[k]? = some y := ⟨_, List.getElem?_eq_getElem (by rw [unhide Hyl]; exact h2)⟩
        obtain ⟨b1, o1, rfl, _, c1⟩ := (unhide Ha).at_ (k := k) (u := .string x) (by simp [hx])
        obtain ⟨b2, o2, rfl, _, c2⟩ := (unhide Hb).at_ (k := k) (u := .string y) (by simp [hy])
        have Hx := hide hx
        have Hy := hide hy
        have hbq := beq_toList x y
        clear hx hy
        by_cases he : x = y
        · have q : (x.toList == y.toList) = true := by rw [hbq]; simpa using he
          subst he
          clear hbq
          go_wp2
          go_quiet (fail)
          go_wp2
          go_round
          case rel => exact ⟨k + 1, j + nq, by go_num, by omega, by omega, take_ext (unhide Htk) (unhide Hx) (unhide Hy), rfl⟩
          case measure => simp [intOf]; omega
        · have q : (x.toList == y.toList) = false := by rw [hbq]; simpa using he
          have He := hide he
          clear hbq he
          go_wp2
          go_quiet (fail)
          go_wp2
          go_ret
          refine ⟨ret_bool ?_, _, rfl⟩
          symm
          simp only [decide_eq_false_iff_not]
          rintro rfl
          exact unhide He (Option.some.inj ((unhide Hx).symm.trans (unhide Hy)))
      · have d2 : decide (k < m) = false := by simpa using h2
        go_wp2
        go_quiet (fail)
        go_wp2
        go_ret
        refine ⟨ret_bool ?_, _, rfl⟩
        symm
        simp only [decide_eq_false_iff_not]
        rintro rfl
        have := unhide Hxl
        have := unhide Hyl
        omega
    · have d1 : decide (k < n) = false := by simpa using h1
      go_wp2
      go_quiet (fail)
      go_wp2
      go_ret
      refine ⟨ret_bool ?_, _, rfl⟩
      have hl1 := unhide Hxl
      have hl2 := unhide Hyl
      rw [Bool.eq_iff_iff, beq_iff_eq, decide_eq_true_eq]
      constructor
      · intro e
        have e' := unhide Htk
        rwa [List.take_of_length_le (by omega), List.take_of_length_le (by omega)] at e'
      · rintro rfl
        omega

end Go.Proofs.YtfegfmapdekkbaaDoor
namespace Go.Proofs.YtfegfmapdekkbaaDoor
set_option linter.unusedVariables false
set_option linter.unusedSimpArgs false
open Go.RowKit

def sumM : List ByteArray → Nat
  | [] => 0
  | s :: r => min s.size 131072 + sumM r
theorem sumM_app (a b : List ByteArray) : sumM (a ++ b) = sumM a + sumM b := by
  induction a with
  | nil => simp [sumM]
  | cons s r ih => simp only [List.cons_append, sumM, ih]; omega
theorem sumM_mem {l : List ByteArray} {x : ByteArray} (h : x ∈ l) : min x.size 131072 ≤ sumM l := by
  induction l with
  | nil => cases h
  | cons s r ih =>
    simp only [sumM]
    rcases List.mem_cons.1 h with rfl | h
    · omega
    · have := ih h; omega
theorem sumM_snoc {l : List ByteArray} {k : Nat} {x : ByteArray} (h : l[k]? = some x) : sumM (l.take (k + 1)) = sumM (l.take k) + min x.size 131072 := by
  rw [List.take_add_one, h, sumM_app]
  simp [sumM]

set_option maxRecDepth 100000 in
set_option maxHeartbeats 1000000 in
theorem tlarge_any (A : Option Addr) (n c B : Nat) (l : List ByteArray) (w : World) (hl : Rd w B 1 A n (l.map Value.string)) (hs : ∀ x ∈ l, x.size ≤ maxLen) (hn : n ≤ maxLen) :
    Calls Tryd.prog 13 #[.slice A n c] w fun e w' => ∃ r, e = .returned (.bool r) ∧ w = w' ∧ (r = false → n ≤ 65536 ∧ ∀ x ∈ l, x.size ≤ 65536) := by
  have hln : l.length = n := by simpa using hl.len1
  unfold maxLen at hn
  have Hl := hide hl
  have Hln := hide hln
  have Hs := hide hs
  clear hl hln hs
  go_enter Tryd.func13, Tryd.ntmps13
  go_wp2_with fail
  go_loopg [3, 4] n (fun gk nv i wr => ∃ k m : Nat, gk = n - k ∧ k ≤ n ∧ i = .int .i64 k ∧ nv = .int .i64 m ∧ m = n + sumM (l.take k) ∧ (k = 0 ∨ m ≤ 196608) ∧ w = wr)
  case atStart => exact ⟨0, n, by omega, by omega, rfl, rfl, by simp [sumM], .inl rfl, rfl⟩
  case round =>
  obtain ⟨k, m, hgk, hk, rfl, rfl, hmn, hm0, rfl⟩ := hrel
  have Hgk := hide hgk
  have Hmn := hide hmn
  clear hgk hmn
  have hmb : m ≤ 9223372036854775807 := by
    rcases hm0 with rfl | h
    · have := unhide Hmn; simp [sumM] at this; omega
    · omega
  by_cases hlt : k < n
  case neg =>
    obtain rfl : k = n := by omega
    have htk : l.take k = l := List.take_of_length_le (by have := unhide Hln; omega)
    have hnn := unhide Hmn
    rw [htk] at hnn
    have Hnn := hide hnn
    clear htk hnn hm0
    go_wp2_with fail
    go_ret
    refine ⟨_, rfl, rfl, fun hr => ?_⟩
    have hm : m ≤ 65536 := by
      have h : (m : Int) ≤ 65536 := by simpa using hr
      omega
    have h1 := unhide Hnn
    refine ⟨by omega, fun x hx => ?_⟩
    have h2 := sumM_mem hx
    omega
  by_cases hbig : m ≤ 65536
  case neg =>
    have hb : ((m : Int) ≤ 65536) = False := by simp; omega
    clear hm0
    go_wp2_with fail
    go_ret
    exact ⟨_, rfl, rfl, fun hr => by simp at hr; omega⟩
  obtain ⟨x, hx⟩ : ∃ x, l[k]? = some x := ⟨_, List.getElem?_eq_getElem (by rw [unhide Hln]; exact hlt)⟩
  obtain ⟨b1, o1, rfl, _, c1⟩ := (unhide Hl).at_ (k := k) (u := .string x) (by simp [hx])
  have hxs := (unhide Hs) x (List.mem_of_getElem? hx)
  unfold maxLen at hxs
  have Hsn := hide (sumM_snoc hx)
  clear hx hm0
  by_cases hmin : x.size ≤ 131072
  · have hmin' : (x.size : Int) ≤ 131072 := by omega
    go_wp2_with fail
    go_roundg (n - (k + 1))
    case measure => have := unhide Hgk; omega
    case rel => exact ⟨k + 1, m + x.size, rfl, by omega, by go_num, by go_num, by rw [unhide Hsn, Nat.min_eq_left hmin]; have := unhide Hmn; omega, .inr (by omega), rfl⟩
  · have hmin' : (131072 : Int) < (x.size : Int) := by omega
    go_wp2_with fail
    go_roundg (n - (k + 1))
    case measure => have := unhide Hgk; omega
    case rel => exact ⟨k + 1, m + 131072, rfl, by omega, by go_num, by go_num, by rw [unhide Hsn, Nat.min_eq_right (by omega)]; have := unhide Hmn; omega, .inr (by omega), rfl⟩

def bE1 : Vf.Ent := ⟨⟨#[47, 112]⟩, 1, 493, 0, 0, [127, 69], ⟨#[]⟩⟩
def bE2 : Vf.Ent := ⟨⟨#[47, 115]⟩, 1, 493, 0, 0, [35, 33, 32, 47, 112, 32, 32, 45, 120, 32, 121, 32, 10], ⟨#[]⟩⟩
def bR : List ByteArray := [⟨#[47, 112]⟩, ⟨#[45, 120, 32, 121]⟩, ⟨#[47, 115]⟩, ⟨#[49]⟩]
theorem banc_new : (Vf.new [bE1, bE2]).1 = 0 := by kernel_rfl
theorem banc_chain : Sb.chain (Vf.new [bE1, bE2]).2.2 Vf.zc 4 ⟨#[47, 115]⟩ [⟨#[115]⟩, ⟨#[49]⟩] = (1, ⟨#[47, 112]⟩, bR, 0) := by kernel_rfl
def bL (g : Nat) : List EntA := [⟨bE1, some ⟨g, 0, none⟩, 2, 2⟩, ⟨bE2, some ⟨g + 1, 0, none⟩, 13, 13⟩]
set_option maxRecDepth 100000 in
set_option maxHeartbeats 4000000 in
theorem bworks_any (w : World) : Calls Tryd.prog 8 #[] w fun e w' => e = .returned (.bool true) ∧ Below w.heap.size w w' := by
  have kc := fun (w : World) (C : Array Value) (n c : Nat) => Lib.run_convert_bytes_const (P := Tryd.prog) w 22 5 C n c Tryd.underlying22 Tryd.underlying5
  have kc1 := kc (w.alloc (.cells #[.int .u8 127, .int .u8 69] 5))
  simp only [World.size_alloc] at kc1
  have hr0 := Rd.rowF (w := w) (cs := #[.int .u8 127, .int .u8 69]) (e := 5) (size := 1) (n := 2) (fz := (0, 0)) rfl
  have hr1 := Rd.rowF (w := w.alloc (.cells #[.int .u8 127, .int .u8 69] 5)) (cs := (bys bE2.data).toArray) (e := 5) (size := 1) (n := 13) (fz := (13, 14)) rfl
  have hr2 := Rd.rowF (w := (w.alloc (.cells #[.int .u8 127, .int .u8 69] 5)).alloc (.cells (bys bE2.data).toArray 5 (13, 14))) (cs := (rowCs entVals (bL w.heap.size)).toArray) (e := 69) (size := 7) (n := 2) (fz := (0, 0)) rfl
  have hB0 : Below w.heap.size w (((w.alloc (.cells #[.int .u8 127, .int .u8 69] 5)).alloc (.cells (bys bE2.data).toArray 5 (13, 14))).alloc (.cells (rowCs entVals (bL w.heap.size)).toArray 69)) := (((Below.refl _ _).alloc (Nat.le_refl _) _).alloc (by simp) _).alloc (by simp; omega) _
  have KN := new_any (bL w.heap.size) (some ⟨w.heap.size + 1 + 1, 0, none⟩) 2 2 (((w.alloc (.cells #[.int .u8 127, .int .u8 69] 5)).alloc (.cells (bys bE2.data).toArray 5 (13, 14))).alloc (.cells (rowCs entVals (bL w.heap.size)).toArray 69)) (by simpa using hr2) rfl (by
    intro s hs
    simp only [bL, List.mem_cons, List.not_mem_nil, or_false] at hs
    rcases hs with rfl | rfl
    · refine ⟨?_, by show 2 ≤ 4294967296; omega, by show bE1.path.size ≤ _; decide, by show bE1.to.size ≤ _; decide, by show bE1.mode < _; decide⟩
      have := ((hr0.alloc (by simp) (.cells (bys bE2.data).toArray 5 (13, 14))).alloc (by simp) (.cells (rowCs entVals (bL w.heap.size)).toArray 69)).more (B' := w.heap.size + 1 + 1 + 1) (by omega)
      simp only [World.size_alloc]
      exact this
    · refine ⟨?_, by show 13 ≤ 4294967296; omega, by show bE2.path.size ≤ _; decide, by show bE2.to.size ≤ _; decide, by show bE2.mode < _; decide⟩
      have := (hr1.alloc (by simp) (.cells (rowCs entVals (bL w.heap.size)).toArray 69)).more (B' := w.heap.size + 1 + 1 + 1) (by simp)
      simp only [World.size_alloc] at this ⊢
      exact this) (by omega)
  have e0 : (bL w.heap.size).map (·.e) = [bE1, bE2] := rfl
  rw [e0] at KN
  unfold NewE at KN
  have HKN := hide KN
  have HB0 := hide hB0
  clear KN hr0 hr1 hr2 hB0 e0 kc
  go_enter Tryd.func8, Tryd.ntmps8
  go_wp2_with fail
  refine (unhide HKN).mono ?_
  rintro e w1 ⟨hb1, ⟨h0, _⟩ | ⟨_, f, A, c, L, rfl, hFS, hF, hFl, h01, _⟩⟩
  · exact absurd banc_new h0
  have a1 := banc_chain
  obtain ⟨F, hFe⟩ : ∃ F, (Vf.new [bE1, bE2]).2.2 = F := ⟨_, rfl⟩
  rw [hFe] at hFS hF hFl a1
  have hn : F.length ≤ 65 := by rw [hFl]; decide
  have Hb1 := hide ((unhide HB0).trans (hb1.mono (by simp; omega)))
  have hw1 : Below w1.heap.size w1 (w1.alloc (.cells #[.string ⟨#[115]⟩, .string ⟨#[49]⟩] 9)) := (Below.refl _ _).alloc (Nat.le_refl _) _
  have KC := chain_any F L _ f c A none (some ⟨w1.heap.size, 0, none⟩) 0 0 2 2 Vf.zc ⟨#[47, 115]⟩ [⟨#[115]⟩, ⟨#[49]⟩] _ hF (hFS.belowSz hw1) hn ⟨rfl, .inl rfl⟩ (by unfold maxLen; omega) (by decide) (by rw [World.size_alloc]; exact Rd.rowF (n := 2) rfl) (by omega) (by intro y hy; simp at hy; rcases hy with rfl | rfl <;> decide)
  rw [a1] at KC
  unfold credV ChainE at KC
  dsimp only at KC
  rw [show bR.length = 4 from rfl] at KC
  have HKC := hide KC
  have Hw1 := hide hw1
  unfold ptrV
  clear KC a1 hFe hFS hF hFl hb1 h01 hw1
  go_wp2_with fail
  refine (unhide HKC).mono ?_
  rintro e w2 ⟨A2, c2, rfl, ho2, hb2⟩
  have Hb2 := hide ((unhide Hb1).trans (((unhide Hw1).trans (hb2.mono (by simp))).mono (unhide Hb1).size))
  have hr4 := (Rd.of_own ho2).alloc (Nat.le_refl _) (.cells (bR.map Value.string).toArray 9)
  have hr5 : Rd (w2.alloc (.cells (bR.map Value.string).toArray 9)) (w2.heap.size + 1) 1 (some ⟨w2.heap.size, 0, none⟩) 4 (bR.map Value.string) := Rd.rowF (n := 4) rfl
  have KE := eqTexts_any A2 (some ⟨w2.heap.size, 0, none⟩) 4 4 c2 4 (w2.heap.size + 1) bR bR _ (hr4.more (by omega)) hr5 (by unfold maxLen; omega) (by unfold maxLen; omega)
  rw [decide_eq_true rfl] at KE
  have HKE := hide KE
  clear KE hr4 hr5 ho2 hb2 Hw1 HKC kc1
  go_wp2_with fail
  refine (unhide HKE).mono ?_
  rintro e w3 ⟨rfl, j, rfl⟩
  go_wp2_with fail
  go_ret
  exact ⟨rfl, below_drewN' ((unhide Hb2).alloc (unhide Hb2).size _) _⟩
end Go.Proofs.YtfegfmapdekkbaaDoor
namespace Go.Proofs.YtfegfmapdekkbaaDoor
set_option linter.unusedVariables false
set_option linter.unusedSimpArgs false
open Go.RowKit

set_option maxRecDepth 100000 in
set_option maxHeartbeats 4000000 in
theorem shebangParses_walk (A : Option Addr) (n c : Nat) (b : List UInt8) (w : World) (hb : Rd w w.heap.size 1 A n (bys b)) (hnc : n ≤ c) (hcm : n ≤ maxLen) :
    Calls Tryd.prog 3 #[.slice A n c] w fun e w' => e = .returned (.bool true) ∧ Below w.heap.size w w' := by
  have KW := hide (fun w' => bworks_any w')
  have hcm' : n ≤ 9223372036854775807 := hcm
  by_cases hn : n ≤ 131072
  case neg =>
    have q1 : (131072 : Int) < (n : Int) := by omega
    clear hb hn hcm
    go_enter Tryd.func3, Tryd.ntmps3
    go_wp2_with fail
    refine ((unhide KW) _).mono ?_
    rintro e w2 ⟨rfl, hb2⟩
    go_wp2_with fail
    go_ret
    exact ⟨rfl, hb2⟩
  have q1 : ¬ (131072 : Int) < (n : Int) := by omega
  have K1 := hide (roomy_any A n c w.heap.size b w (Nat.le_refl _) hb (by omega))
  have Hb := hide hb
  obtain ⟨⟨p1, p2, p3, p4⟩, hp⟩ : ∃ r, Sb.parse b = r := ⟨_, rfl⟩
  have Hp := hide hp
  clear hb hcm hp
  go_enter Tryd.func3, Tryd.ntmps3
  go_wp2_with fail
  refine (unhide K1).mono ?_
  rintro e w1 ⟨g, rfl, ho1, hb1⟩
  have hr1 : Rd w1 w1.heap.size 1 (some ⟨g, 0, none⟩) n (bys b) := by
    have h := (Rd.of_own ho1).to_ (k := n) (by omega)
    have hl : b.length = n := by simpa [bys] using (unhide Hb).len1
    have e1 : (bys (b ++ spare)).take n = bys b := by unfold bys; rw [List.map_append, List.take_left' (by simpa using hl)]
    rw [e1] at h
    exact h
  have K2 := parse_any (some ⟨g, 0, none⟩) n (n + 7) w1.heap.size b w1 hr1 (Nat.le_refl _) (by omega) (by omega)
  rw [unhide Hp] at K2
  unfold ParseE at K2
  dsimp only at K2
  have HK2 := hide K2
  have Ho1 := hide ho1
  have Hb1 := hide hb1
  clear K2 ho1 hb1 hr1 K1
  go_wp2_with fail
  refine (unhide HK2).mono ?_
  rintro e w2 ⟨rfl, hb2⟩
  have Hb2 := hide ((unhide Hb1).trans (hb2.mono (unhide Hb1).size))
  have Ho2 := hide (own_below (unhide Ho1) hb2)
  have K3 := rparse_any A n c w2.heap.size b w2 (((unhide Hb).below (unhide Hb2)).more (unhide Hb2).size) (by omega) hnc
  rw [unhide Hp] at K3
  unfold ParseE at K3
  dsimp only at K3
  have HK3 := hide K3
  clear K3 hb2 HK2 Ho1 Hb1
  go_wp2_with fail
  refine (unhide HK3).mono ?_
  rintro e w3 ⟨rfl, hb3⟩
  have Hb3 := hide ((unhide Hb2).trans (hb3.mono (unhide Hb2).size))
  have Ho3 := hide (own_below (unhide Ho2) hb3)
  clear hb3 HK3 Ho2 Hb2
  obtain ⟨s1, hs1⟩ : ∃ s, Sb.ba p1 = s := ⟨_, rfl⟩
  obtain ⟨s2, hs2⟩ : ∃ s, Sb.ba p2 = s := ⟨_, rfl⟩
  rw [hs1, hs2]
  clear hs1 hs2 Hp
  go_wp2_with fail
  refine (kept_yes g A n c w3.heap.size b w3 (Rd.of_own (unhide Ho3)) (((unhide Hb).below (unhide Hb3)).more (unhide Hb3).size) (by omega)).mono ?_
  rintro e w4 ⟨rfl, j, rfl⟩
  go_wp2_with fail
  refine ((unhide KW) _).mono ?_
  rintro e w5 ⟨rfl, hb5⟩
  go_wp2_with fail
  go_ret
  exact ⟨rfl, (below_drewN' (unhide Hb3) j).trans (hb5.mono (unhide Hb3).size)⟩
end Go.Proofs.YtfegfmapdekkbaaDoor
namespace Go.Proofs.YtfegfmapdekkbaaDoor
set_option linter.unusedVariables false
set_option linter.unusedSimpArgs false
open Go.RowKit

/-- What the two own copies of a structure hold. -/
def lineC (i a p : ByteArray) : List Value := [.string i, .string a, .string p]
set_option maxRecDepth 100000 in
set_option maxHeartbeats 4000000 in
theorem shebangArgs_walk (si sa sp : ByteArray) (A : Option Addr) (n c : Nat) (l : List ByteArray) (w : World) (h1 : si.size ≤ maxLen) (h2 : sa.size ≤ maxLen) (h3 : sp.size ≤ maxLen) (hl : Rd w w.heap.size 1 A n (l.map Value.string)) (hls : ∀ x ∈ l, x.size ≤ maxLen) (hnc : n ≤ c) (hcm : n ≤ maxLen) :
    Calls Tryd.prog 4 #[.agg #[.string si, .string sa, .string sp], .slice A n c] w fun e w' => e = .returned (.bool true) ∧ Below w.heap.size w w' := by
  have KW := hide (fun w' => bworks_any w')
  have hb0 : Below w.heap.size w (w.alloc (.cells #[.string si, .string sa, .string sp] 31)) := (Below.refl _ _).alloc (Nat.le_refl _) _
  have hc0 : Blk (w.alloc (.cells #[.string si, .string sa, .string sp] 31)) w.heap.size 31 (lineC si sa sp) := Blk.new w 31 _
  have KL := hide (tlarge_any A n c w.heap.size l _ (hl.below hb0) hls (by unfold maxLen at *; omega))
  have hg1 : (si.size : Int) ≤ 9223372036854775807 := by unfold maxLen at h1; omega
  have Hb0 := hide hb0
  have Hc0 := hide hc0
  have Hl := hide hl
  have Hcm := hide hcm
  have Hsz := hide (And.intro h1 (And.intro h2 h3))
  obtain ⟨v0, v1, v2⟩ := And.intro (hc0.cell (i := 0) rfl) (And.intro (hc0.cell (i := 1) rfl) (hc0.cell (i := 2) rfl))
  clear hb0 hc0 hl hcm h1 h2 h3 hg1
  go_enter Tryd.func4, Tryd.ntmps4
  go_wp2_with fail
  refine (unhide KL).mono ?_
  rintro e w1 ⟨r, rfl, rfl, hr⟩
  cases r with
  | true =>
    clear hr
    go_wp2_with fail
    refine ((unhide KW) _).mono ?_
    rintro e w2 ⟨rfl, hb2⟩
    go_wp2_with fail
    go_ret
    exact ⟨rfl, (unhide Hb0).trans (hb2.mono (unhide Hb0).size)⟩
  | false =>
  obtain ⟨hn, -⟩ := hr rfl
  clear hr
  go_wp2_with fail
  · refine ((unhide KW) _).mono ?_
    rintro e w2 ⟨rfl, hb2⟩
    go_wp2_with fail
    go_ret
    exact ⟨rfl, (unhide Hb0).trans (hb2.mono (unhide Hb0).size)⟩
  have KC := hide (copyTexts_any A n c w.heap.size l _ (unhide Hb0).size ((unhide Hl).below (unhide Hb0)) (by omega))
  refine (unhide KC).mono ?_
  rintro e w2 ⟨A2, c2, rfl, ho2, hb2⟩
  have Hb2 := hide ((unhide Hb0).trans (hb2.mono (unhide Hb0).size))
  have Ho2 := hide (own_base ho2 (unhide Hb0).size)
  have hc2 := (unhide Hc0).belowSz hb2
  have Hc2 := hide hc2
  have hn2 : n ≤ c2 := own_cap ho2
  have KA := hide (argv_any A2 n c2 w2.heap.size si sa sp l w2 (Rd.of_own ho2) (Nat.le_refl _) hn2 (by omega))
  have hal := Sb.argv_len si sa sp l
  have hln : l.length = n := by simpa using (unhide Hl).len1
  obtain ⟨L, hL⟩ : ∃ L, Sb.argv si sa sp l = L := ⟨_, rfl⟩
  obtain ⟨m, hm⟩ : ∃ m, L.length = m := ⟨_, rfl⟩
  have ka := unhide KA
  rw [hL] at ka hal
  unfold TxB at ka
  rw [hm] at ka hal
  rw [hln] at hal
  have HKA := hide ka
  have HL := hide hL
  have Hm := hide hm
  clear KA KC ka hL hm hln hb2 ho2 v0 v1 v2 hc2
  obtain ⟨v0, v1, v2⟩ := And.intro ((unhide Hc2).cell (i := 0) rfl) (And.intro ((unhide Hc2).cell (i := 1) rfl) ((unhide Hc2).cell (i := 2) rfl))
  go_wp2_with fail
  refine (unhide HKA).mono ?_
  rintro e w3 ⟨A3, c3, rfl, ho3, hb3⟩
  have Hb23 := hide hb3
  have Ho3 := hide ho3
  have hc3 := (unhide Hc2).belowSz hb3
  have Hc3 := hide hc3
  have hl3 := ((unhide Hl).below (unhide Hb2)).below (hb3.mono (unhide Hb2).size)
  have hsz23 := hb3.size
  have hsz02 := (unhide Hb2).size
  have KR := hide (rargv_any A n c w3.heap.size si sa sp l w3 (hl3.more (by omega)) (Nat.le_refl _) hnc (by omega))
  have kr := unhide KR
  rw [unhide HL] at kr
  unfold TxB at kr
  rw [unhide Hm] at kr
  have HKR := hide kr
  clear kr KR HKA ho3 hb3 v0 v1 v2 hl3 hc3
  obtain ⟨v0, v1, v2⟩ := And.intro ((unhide Hc3).cell (i := 0) rfl) (And.intro ((unhide Hc3).cell (i := 1) rfl) ((unhide Hc3).cell (i := 2) rfl))
  go_wp2_with fail
  refine (unhide HKR).mono ?_
  rintro e w4 ⟨A4, c4, rfl, ho4, hb4⟩
  have hb24 := (unhide Hb23).trans (hb4.mono hsz23)
  have ho34 := own_below (unhide Ho3) hb4
  have KE := eqTexts_any A3 A4 m m c3 c4 w4.heap.size L L w4 (Rd.of_own ho34) (Rd.of_own ho4) (by unfold maxLen; omega) (by unfold maxLen; omega)
  rw [decide_eq_true rfl] at KE
  have HKE := hide KE
  have Hb24 := hide hb24
  have Ho34 := hide ho34
  clear KE hb24 ho34 ho4 hb4 HKR Ho3 Hb23 Hc3 v0 v1 v2
  go_wp2_with fail
  refine (unhide HKE).mono ?_
  rintro e w5 ⟨rfl, j5, rfl⟩
  have hb25 := below_drewN' (unhide Hb24) j5
  have ho35 := own_drewN (unhide Ho34) j5
  generalize w4.drewN j5 = w5 at *
  have Hb25 := hide hb25
  have Ho35 := hide ho35
  have hsz5 := hb25.size
  clear hb25 ho35 HKE Ho34 Hb24
  go_wp2_with (at_builtin; refine wpList_app1g strTy rfl _ _ rfl w2.heap.size _ m (L.map Value.string) rfl (unhide Ho35) #[.string ⟨#[33]⟩] _ rfl (by simp) rfl (by simp [Value.oneCell']) (by omega) hsz5 ?_; intro A6 c6 w6 ho6 hg6 hk6; have Hb26 := hide ((unhide Hb25).grown hg6 hsz5 (fun k hk => ((unhide Ho35).lt k hk).1) : Below w2.heap.size w2 w6); have Ho6 := hide ho6; clear ho6 hg6 hk6)
  obtain ⟨xs6, hxs6⟩ : ∃ xs, L.map Value.string ++ #[Value.string ⟨#[33]⟩].toList = xs := ⟨_, rfl⟩
  have ho6 := unhide Ho6
  rw [hxs6] at ho6
  obtain ⟨g6, rfl, hg6, hg6'⟩ := own_some ho6 (by omega)
  have Ho6' := hide ho6
  clear ho6 hxs6 Ho6 Ho35 Hb25
  go_loopg [7] (m + 1) (fun gk iv wr => ∃ (k : Nat) (xs : List Value), gk = m + 1 - k ∧ k ≤ m + 1 ∧ iv = .int .i64 k ∧ wr.ownsRow w2.heap.size 9 1 (.slice (some ⟨g6, 0, none⟩) (m + 1) c6) (m + 1) xs ∧ Below w2.heap.size w2 wr)
  case atStart => exact ⟨0, xs6, by omega, by omega, rfl, unhide Ho6', unhide Hb26⟩
  case round =>
  obtain ⟨k, xs, hgk, hk, rfl, ho, hb⟩ := hrel
  have Hgk := hide hgk
  have Ho := hide ho
  have Hb := hide hb
  have hxl := ho.1
  clear hgk ho hb Ho6' Hb26
  by_cases hlt : k < m + 1
  case neg =>
    obtain rfl : k = m + 1 := by omega
    have hl7 := ((unhide Hl).below (unhide Hb2)).below ((unhide Hb).mono hsz02)
    have hsz27 := (unhide Hb).size
    have KE := hide (eqTexts_any A2 A n n c2 c wr.heap.size l l wr (((Rd.of_own (unhide Ho2)).below (unhide Hb)).more hsz27) (hl7.more (by omega)) (by unfold maxLen; omega) (by unfold maxLen; omega))
    have ke := unhide KE
    rw [decide_eq_true rfl] at ke
    have HKE := hide ke
    clear ke KE hl7 hxl
    go_wp2_with fail
    refine (unhide HKE).mono ?_
    rintro e w8 ⟨rfl, j8, rfl⟩
    go_wp2_with fail
    refine ((unhide KW) _).mono ?_
    rintro e w9 ⟨rfl, hb9⟩
    go_wp2_with fail
    go_ret
    have h28 := below_drewN' (unhide Hb) j8
    exact ⟨rfl, (unhide Hb2).trans ((h28.trans (hb9.mono h28.size)).mono hsz02)⟩
  have hc7 := own_cell (unhide Ho) (i := k) (u := xs[k]'(by omega)) (List.getElem?_eq_getElem (by omega))
  have hf7 := own_free (unhide Ho) k
  have hset := own_set (i := k) (unhide Ho) (.string ⟨#[33]⟩)
  have Hset := hide hset
  clear hset
  go_wp2_with fail
  go_roundg (m + 1 - (k + 1))
  case measure => have := unhide Hgk; omega
  case rel => exact ⟨k + 1, _, rfl, by omega, by go_num, unhide Hset, (unhide Hb).setCell (p := ⟨g6, k, none⟩) hg6 _⟩
end Go.Proofs.YtfegfmapdekkbaaDoor
namespace Go.Proofs.YtfegfmapdekkbaaDoor
set_option linter.unusedVariables false
set_option linter.unusedSimpArgs false
open Go.RowKit

/-- The law's own copies of the two structures. -/
structure RnS (w : World) (cr : Vf.Cred) (Ag : Option Addr) (ng kg : Nat) (x : ByteArray) (Al : Option Addr) (nl cl : Nat) (W : World) : Prop where
  bel : Below w.heap.size w W
  c : Blk W w.heap.size 42 [.int .u32 (cr.uid : Nat), .int .u32 (cr.euid : Nat), .int .u32 (cr.suid : Nat), .int .u32 (cr.gid : Nat), .slice Ag ng kg]
  r : Blk W (w.heap.size + 1) 44 [.string x, .slice Al nl cl]
section
variable {w W W' : World} {cr : Vf.Cred} {Ag Al : Option Addr} {ng kg nl cl : Nat} {x : ByteArray}
theorem RnS.below (h : RnS w cr Ag ng kg x Al nl cl W) (hb : Below W.heap.size W W') : RnS w cr Ag ng kg x Al nl cl W' := ⟨h.bel.trans (hb.mono h.bel.size), h.c.belowSz hb, h.r.belowSz hb⟩
theorem RnS.drewN (h : RnS w cr Ag ng kg x Al nl cl W) (j : Nat) : RnS w cr Ag ng kg x Al nl cl (W.drewN j) := ⟨below_drewN' h.bel j, h.c, h.r⟩
theorem RnS.cells (h : RnS w cr Ag ng kg x Al nl cl W) : (W.cell? ⟨w.heap.size, 0, none⟩ = some (.int .u32 (cr.uid : Nat)) ∧ W.cell? ⟨w.heap.size, 1, none⟩ = some (.int .u32 (cr.euid : Nat)) ∧ W.cell? ⟨w.heap.size, 2, none⟩ = some (.int .u32 (cr.suid : Nat)) ∧ W.cell? ⟨w.heap.size, 3, none⟩ = some (.int .u32 (cr.gid : Nat)) ∧ W.cell? ⟨w.heap.size, 4, none⟩ = some (.slice Ag ng kg)) ∧ W.cell? ⟨w.heap.size + 1, 0, none⟩ = some (.string x) ∧ W.cell? ⟨w.heap.size + 1, 1, none⟩ = some (.slice Al nl cl) :=
  ⟨⟨h.c.cell rfl, h.c.cell rfl, h.c.cell rfl, h.c.cell rfl, h.c.cell rfl⟩, h.r.cell rfl, h.r.cell rfl⟩
theorem RnS.start (w : World) (cr : Vf.Cred) (Ag : Option Addr) (ng kg : Nat) (x : ByteArray) (Al : Option Addr) (nl cl : Nat) :
    RnS w cr Ag ng kg x Al nl cl ((w.alloc (.cells #[.int .u32 (cr.uid : Nat), .int .u32 (cr.euid : Nat), .int .u32 (cr.suid : Nat), .int .u32 (cr.gid : Nat), .slice Ag ng kg] 42)).alloc (.cells #[.string x, .slice Al nl cl] 44)) := by
  refine ⟨((Below.refl _ _).alloc (Nat.le_refl _) _).alloc (by simp) _, (Blk.new w 42 [.int .u32 (cr.uid : Nat), .int .u32 (cr.euid : Nat), .int .u32 (cr.suid : Nat), .int .u32 (cr.gid : Nat), .slice Ag ng kg]).alloc _, ?_⟩
  have := Blk.new (w.alloc (.cells #[.int .u32 (cr.uid : Nat), .int .u32 (cr.euid : Nat), .int .u32 (cr.suid : Nat), .int .u32 (cr.gid : Nat), .slice Ag ng kg] 42)) 44 [.string x, .slice Al nl cl]
  rw [World.size_alloc] at this
  exact this
end

set_option maxRecDepth 100000 in
set_option maxHeartbeats 1000000 in
theorem shebangNil_walk (cr : Vf.Cred) (Ag : Option Addr) (ng kg : Nat) (x : ByteArray) (Al : Option Addr) (nl cl : Nat) (l : List ByteArray) (w : World) (hg : Rd w w.heap.size 1 Ag ng (cr.groups.map u32v)) (hgk : ng ≤ kg) (hgm : kg ≤ maxLen) (hx : x.size ≤ maxLen) (hl : Rd w w.heap.size 1 Al nl (l.map Value.string)) (hlc : nl ≤ cl) (hlm : cl ≤ maxLen) (hls : ∀ y ∈ l, y.size ≤ maxLen) :
    Calls Tryd.prog 7 #[credV cr Ag ng kg, .agg #[.string x, .slice Al nl cl]] w fun e w' => e = .returned (.bool true) ∧ Below w.heap.size w w' := by
  clear hg hgk hgm hx hl hlc hlm hls
  have S0 := hide (RnS.start w cr Ag ng kg x Al nl cl)
  have KW := hide (fun w' => bworks_any w')
  have KN := fun w' => chain_none cr Ag ng kg x Al nl cl w'
  unfold credV at KN
  have HKN := hide KN
  unfold credV
  clear KN
  obtain ⟨⟨v0, v1, v2, v3, v4⟩, y0, y1⟩ := (unhide S0).cells
  go_enter Tryd.func7, Tryd.ntmps7
  go_wp2_with fail
  refine ((unhide HKN) _).mono ?_
  rintro e w1 ⟨rfl, hb1⟩
  have S1 := hide ((unhide S0).below hb1)
  clear hb1 v0 v1 v2 v3 v4 y0 y1
  go_wp2_with fail
  refine ((unhide KW) _).mono ?_
  rintro e w2 ⟨rfl, hb2⟩
  have S2 := hide ((unhide S1).below hb2)
  clear hb2
  go_wp2_with fail
  go_ret
  exact ⟨rfl, (unhide S2).bel⟩
end Go.Proofs.YtfegfmapdekkbaaDoor
namespace Go.Proofs.YtfegfmapdekkbaaDoor
set_option linter.unusedVariables false
set_option linter.unusedSimpArgs false
open Go.RowKit

namespace Sb
def gapL : Nat → List UInt8
  | 0 => []
  | k + 1 => gapL k ++ [if k % 2 = 0 then 32 else 9]
theorem gapL_len (k : Nat) : (gapL k).length = k := by
  induction k with
  | zero => rfl
  | succ k ih => simp [gapL, ih]
theorem gapL_bl (k : Nat) : ∀ x ∈ gapL k, isBl x = true := by
  induction k with
  | zero => intro x hx; cases hx
  | succ k ih =>
    intro x hx
    simp only [gapL, List.mem_append, List.mem_singleton] at hx
    rcases hx with hx | hx
    · exact ih x hx
    · subst hx
      split <;> decide
theorem ba_app (a b : List UInt8) : ba a ++ ba b = ba (a ++ b) := by
  unfold ba
  apply ByteArray.ext
  simp
/-- How many blanks a number says. -/
def gapN (z : Int) : Nat := ((z.tmod 20 + 20) % 20).toNat
/-- Is a byte at a place odd? -/
def oddAt (within : Bool) (l : List UInt8) (k : Nat) (c : UInt8) : Bool := decide (c = 10) || (isBl c && (within || (decide (k = 0) || decide (k = l.length - 1))))
def odd (within : Bool) (l : List UInt8) : Bool := (List.range l.length).any fun k => match l[k]? with
  | some c => oddAt within l k c
  | none => false
theorem odd_take {within : Bool} {l : List UInt8} (h : ∀ k c, l[k]? = some c → oddAt within l k c = false) : odd within l = false := by
  unfold odd
  rw [List.any_eq_false]
  intro k hk
  cases hc : l[k]? with
  | none => simp
  | some c => simp [h k c hc]
theorem odd_of {within : Bool} {l : List UInt8} {k : Nat} {c : UInt8} (hc : l[k]? = some c) (h : oddAt within l k c = true) : odd within l = true := by
  unfold odd
  rw [List.any_eq_true]
  exact ⟨k, List.mem_range.2 (List.getElem?_eq_some_iff.1 hc).1, by rw [hc]; exact h⟩
theorem odd_plain {within : Bool} {l : List UInt8} (h : odd within l = false) : Plain within l := by
  have h1 : ∀ k c, l[k]? = some c → oddAt within l k c = false := by
    intro k c hc
    cases h2 : oddAt within l k c with
    | false => rfl
    | true => rw [odd_of hc h2] at h; cases h
  refine ⟨fun x hx e => ?_, fun hw x hx => ?_, fun x hx => ?_, fun x hx => ?_⟩
  · obtain ⟨k, hk⟩ := List.getElem?_of_mem hx
    have := h1 k x hk
    subst e
    simp [oddAt] at this
  · obtain ⟨k, hk⟩ := List.getElem?_of_mem hx
    have := h1 k x hk
    subst hw
    simp [oddAt] at this
    exact this.2
  · have hk : l[0]? = some x := by rw [← List.head?_eq_getElem?]; exact hx
    have := h1 0 x hk
    simp [oddAt] at this
    exact this.2
  · have hk : l[l.length - 1]? = some x := by rw [← List.getLast?_eq_getElem?]; exact hx
    have := h1 _ x hk
    simp [oddAt] at this
    exact this.2
end Sb

set_option maxRecDepth 100000 in
set_option maxHeartbeats 1000000 in
theorem gap_any (z : Int) (w : World) (h1 : -9223372036854775808 ≤ z) (h2 : z ≤ 9223372036854775807) : Calls Tryd.prog 27 #[.int .i64 z] w fun e w' => e = .returned (.string (Sb.ba (Sb.gapL (Sb.gapN z)))) ∧ w = w' := by
  obtain ⟨m, hm⟩ : ∃ m, Sb.gapN z = m := ⟨_, rfl⟩
  rw [hm]
  unfold Sb.gapN at hm
  have t1 := Int.lt_tmod_of_pos z (show (0 : Int) < 20 by omega)
  have t2 := Int.tmod_lt_of_pos z (show (0 : Int) < 20 by omega)
  obtain ⟨r, hr⟩ : ∃ r, z.tmod 20 = r := ⟨_, rfl⟩
  rw [hr] at hm t1 t2
  have hm2 : (r + 20) % 20 = (m : Int) := by omega
  have hm3 : m ≤ 19 := by omega
  clear hm
  have e1 : IntKind.i64.wrap (r + 20) = r + 20 := by rw [IntKind.wrap_i64]; omega
  have e2 : (r + 20).tmod 20 = (m : Int) := by rw [Int.tmod_eq_emod_of_nonneg (by omega)]; exact hm2
  go_enter Tryd.func27, Tryd.ntmps27
  go_wp2_with fail
  go_loopg [3, 4] m (fun gk sv iv wr => ∃ k : Nat, gk = m - k ∧ k ≤ m ∧ iv = .int .i64 k ∧ sv = .string (Sb.ba (Sb.gapL k)) ∧ w = wr)
  case atStart => exact ⟨0, by omega, by omega, rfl, rfl, rfl⟩
  case round =>
  obtain ⟨k, hgk, hk, rfl, rfl, rfl⟩ := hrel
  have Hgk := hide hgk
  clear hgk
  have hsz : (Sb.ba (Sb.gapL k)).size ≤ 19 := by rw [Sb.ba_size, Sb.gapL_len]; omega
  have hst : Sb.ba (Sb.gapL (k + 1)) = Sb.ba (Sb.gapL k) ++ Sb.ba [if k % 2 = 0 then 32 else 9] := by rw [Sb.ba_app]; rfl
  obtain ⟨g, hg⟩ : ∃ g, Sb.ba (Sb.gapL k) = g := ⟨_, rfl⟩
  rw [hg] at hst hsz ⊢
  have Hg := hide hg
  have Hst := hide hst
  clear hg hst
  by_cases hlt : k < m
  case neg =>
    obtain rfl : k = m := by omega
    have Hm2 := hide hm2
    go_wp2_with fail
    go_ret
    exact ⟨ret_val (show Value.string g = _ by rw [unhide Hg]), rfl⟩
  have ilt : (k : Int) < (m : Int) := by omega
  by_cases hp : k % 2 = 0
  · have p1 : (((k : Int) % 2) == 0) = true := by rw [beq_iff_eq]; omega
    have hst := unhide Hst
    rw [if_pos hp] at hst
    have Hst2 := hide hst
    clear hp hst Hst
    go_wp2_with fail
    go_roundg (m - (k + 1))
    case measure => have := unhide Hgk; omega
    case rel => exact ⟨k + 1, rfl, by omega, by go_num, by rw [unhide Hst2]; rfl, rfl⟩
  · have p1 : (((k : Int) % 2) == 0) = false := by rw [beq_eq_false_iff_ne]; omega
    have hst := unhide Hst
    rw [if_neg hp] at hst
    have Hst2 := hide hst
    clear hp hst Hst
    go_wp2_with fail
    go_roundg (m - (k + 1))
    case measure => have := unhide Hgk; omega
    case rel => exact ⟨k + 1, rfl, by omega, by go_num, by rw [unhide Hst2]; rfl, rfl⟩

theorem byte_32 (c : UInt8) : (((c.toNat : Nat) : Int) == 32) = decide (c = 32) := byte_eq c 32
theorem byte_9 (c : UInt8) : (((c.toNat : Nat) : Int) == 9) = decide (c = 9) := byte_eq c 9
theorem byte_10 (c : UInt8) : (((c.toNat : Nat) : Int) == 10) = decide (c = 10) := byte_eq c 10
set_option maxRecDepth 100000 in
set_option maxHeartbeats 4000000 in
theorem odd_any (s : ByteArray) (within : Bool) (w : World) (hs : s.size ≤ 4294967296) : Calls Tryd.prog 26 #[.string s, .bool within] w fun e w' => e = .returned (.bool (Sb.odd within s.data.toList)) ∧ w = w' := by
  obtain ⟨n, hn⟩ : ∃ n, s.size = n := ⟨_, rfl⟩
  have hll : s.data.toList.length = n := by rw [← hn]; rfl
  obtain ⟨R, hR⟩ : ∃ R, Sb.odd within s.data.toList = R := ⟨_, rfl⟩
  rw [hR]
  have HR := hide hR
  have Hll := hide hll
  clear hR hll
  go_enter Tryd.func26, Tryd.ntmps26
  go_wp2_with fail
  go_loopg [5] n (fun gk iv wr => ∃ k : Nat, gk = n - k ∧ k ≤ n ∧ iv = .int .i64 k ∧ (∀ j c, j < k → s.data.toList[j]? = some c → Sb.oddAt within s.data.toList j c = false) ∧ w = wr)
  case atStart => exact ⟨0, by omega, by omega, rfl, fun j c h => absurd h (by omega), rfl⟩
  case round =>
  obtain ⟨k, hgk, hk, rfl, hno, rfl⟩ := hrel
  have Hgk := hide hgk
  have Hno := hide hno
  clear hgk hno
  by_cases hlt : k < s.size
  case neg =>
    have h0 : R = false := by
      rw [← unhide HR]
      exact Sb.odd_take fun j c hc => (unhide Hno) j c (by have h1 := (List.getElem?_eq_some_iff.1 hc).1; have h2 := unhide Hll; omega) hc
    subst h0
    have ige : ¬ (k : Int) < (s.size : Int) := by omega
    go_wp2_with fail
    go_ret
    exact ⟨rfl, rfl⟩
  have hc : s.data.toList[k]? = some s[k] := by rw [List.getElem?_eq_getElem (by rw [unhide Hll]; omega)]; rfl
  have hyes : Sb.oddAt within s.data.toList k s[k] = true → R = true := fun h => by rw [← unhide HR]; exact Sb.odd_of hc h
  have hnext : Sb.oddAt within s.data.toList k s[k] = false → ∀ j c, j < k + 1 → s.data.toList[j]? = some c → Sb.oddAt within s.data.toList j c = false := fun h j c hj hc2 => by
    by_cases e : j = k
    · subst e
      rw [hc] at hc2
      injection hc2 with hc2
      rw [← hc2]
      exact h
    · exact (unhide Hno) j c (by omega) hc2
  have a0 := byte_32 s[k]
  have a1 := byte_9 s[k]
  have a2 := byte_10 s[k]
  have hd : Sb.oddAt within s.data.toList k s[k] = (decide (s[k] = 10) || ((decide (s[k] = 32) || decide (s[k] = 9)) && (within || (decide (k = 0) || decide (k = n - 1))))) := by
    unfold Sb.oddAt
    rw [unhide Hll]
    congr 2
    rw [Bool.eq_iff_iff, Sb.bl_iff]
    simp
  have a3 : ((k : Int) == 0) = decide (k = 0) := by rw [Bool.eq_iff_iff]; simp
  have a4 : ((k : Int) == (s.size : Int) - 1) = decide (k = n - 1) := by rw [Bool.eq_iff_iff]; simp; omega
  obtain ⟨b0, h0⟩ : ∃ b, decide (s[k] = 32) = b := ⟨_, rfl⟩
  obtain ⟨b1, h1⟩ : ∃ b, decide (s[k] = 9) = b := ⟨_, rfl⟩
  obtain ⟨b2, h2⟩ : ∃ b, decide (s[k] = 10) = b := ⟨_, rfl⟩
  obtain ⟨b3, h3⟩ : ∃ b, decide (k = 0) = b := ⟨_, rfl⟩
  obtain ⟨b4, h4⟩ : ∃ b, decide (k = n - 1) = b := ⟨_, rfl⟩
  rw [h0] at a0 hd
  rw [h1] at a1 hd
  rw [h2] at a2 hd
  rw [h3] at a3 hd
  rw [h4] at a4 hd
  rw [hd] at hyes hnext
  have x01 : ¬ (b0 = true ∧ b1 = true) := by rintro ⟨rfl, rfl⟩; simp at h0 h1; rw [h0] at h1; exact absurd h1 (by decide)
  have x02 : ¬ (b0 = true ∧ b2 = true) := by rintro ⟨rfl, rfl⟩; simp at h0 h2; rw [h0] at h2; exact absurd h2 (by decide)
  have x12 : ¬ (b1 = true ∧ b2 = true) := by rintro ⟨rfl, rfl⟩; simp at h1 h2; rw [h1] at h2; exact absurd h2 (by decide)
  have Hyes := hide hyes
  have Hnext := hide hnext
  have ilt : (k : Int) < (s.size : Int) := by omega
  have g1 : IntKind.i64.wrap ((s.size : Int) - 1) = (s.size : Int) - 1 := by rw [IntKind.wrap_i64]; omega
  have hyes2 : ∀ (h : (b2 || ((b0 || b1) && (within || (b3 || b4)))) = true), R = true := unhide Hyes
  clear h0 h1 h2 h3 h4 hd hc hyes hnext hyes2
  cases b0 <;> cases b1 <;> cases b2 <;> (try exact absurd ⟨rfl, rfl⟩ x01) <;> (try exact absurd ⟨rfl, rfl⟩ x02) <;> (try exact absurd ⟨rfl, rfl⟩ x12)
  all_goals clear x01 x02 x12
  · have Hn := hide ((unhide Hnext) rfl)
    clear Hnext Hyes
    go_wp2_with fail
    go_roundg (n - (k + 1))
    case measure => have := unhide Hgk; omega
    case rel => exact ⟨k + 1, rfl, by omega, by go_num, unhide Hn, rfl⟩
  · have hR := (unhide Hyes) rfl
    subst hR
    clear Hnext Hyes
    go_wp2_with fail
    go_ret
    exact ⟨rfl, rfl⟩
  all_goals
    cases within with
    | true =>
      have hR := (unhide Hyes) rfl
      subst hR
      clear Hnext Hyes
      go_wp2_with fail
      go_ret
      exact ⟨rfl, rfl⟩
    | false =>
    cases b3 with
    | true =>
      have hR := (unhide Hyes) rfl
      subst hR
      clear Hnext Hyes
      go_wp2_with fail
      go_ret
      exact ⟨rfl, rfl⟩
    | false =>
    cases b4 with
    | true =>
      have hR := (unhide Hyes) rfl
      subst hR
      clear Hnext Hyes
      go_wp2_with fail
      go_ret
      exact ⟨rfl, rfl⟩
    | false =>
      have Hn := hide ((unhide Hnext) rfl)
      clear Hnext Hyes
      go_wp2_with fail
      go_roundg (n - (k + 1))
      case measure => have := unhide Hgk; omega
      case rel => exact ⟨k + 1, rfl, by omega, by go_num, unhide Hn, rfl⟩
end Go.Proofs.YtfegfmapdekkbaaDoor
namespace Go.Proofs.YtfegfmapdekkbaaDoor
set_option linter.unusedVariables false
set_option linter.unusedSimpArgs false
open Go.RowKit

/-- A row of bytes from block 'base' on, marked or not. -/
def OwnM (w : World) (base : Nat) (A : Option Addr) (n c : Nat) (xs : List UInt8) : Prop :=
  xs.length = n ∧ ∃ (g : Nat) (cur : Array Value) (fr : Nat × Nat), A = some ⟨g, 0, none⟩ ∧ base ≤ g ∧ w.heap[g]? = some (.cells cur 5 fr) ∧ (fr = (0, 0) ∨ cur.size ≤ fr.1) ∧ n ≤ c ∧ c ≤ maxLen ∧ cur.size = c ∧ cur.toList.take n = bys xs
section
variable {w w' : World} {base B n c : Nat} {A : Option Addr} {xs : List UInt8}
theorem OwnM.rd (h : OwnM w base A n c xs) : Rd w w.heap.size 1 A n (bys xs) := by
  obtain ⟨hl, g, cur, fr, rfl, hb, hg, _, hn, _, hc, ht⟩ := h
  refine ⟨by simp [bys]; omega, .inr ⟨g, 0, rfl, lt_of_block hg, fun j u hu => ?_⟩⟩
  have hj : j < n := by have := (List.getElem?_eq_some_iff.1 hu).1; simp [bys] at this; omega
  rw [cell_of_row w g (0 + j) cur _ fr hg, Nat.zero_add]
  rw [← ht, List.getElem?_take_of_lt hj] at hu
  simpa using hu
theorem OwnM.below (h : OwnM w base A n c xs) (hb : Below w.heap.size w w') : OwnM w' base A n c xs := by
  obtain ⟨hl, g, cur, fr, rfl, h1, hg, r⟩ := h
  exact ⟨hl, g, cur, fr, rfl, h1, (hb.block g (lt_of_block hg)).trans hg, r⟩
theorem OwnM.low (h : OwnM w base A n c xs) (hb : B ≤ base) : OwnM w B A n c xs := by
  obtain ⟨hl, g, cur, fr, rfl, h1, r⟩ := h
  exact ⟨hl, g, cur, fr, rfl, Nat.le_trans hb h1, r⟩
theorem OwnM.keep (h : OwnM w base A n c xs) {k : Nat} (hk : ∀ g, g < w.heap.size → g ≠ k → w'.heap[g]? = w.heap[g]?) (hne : ∀ o, A ≠ some ⟨k, o, none⟩) : OwnM w' base A n c xs := by
  obtain ⟨hl, g, cur, fr, rfl, h1, hg, r⟩ := h
  exact ⟨hl, g, cur, fr, rfl, h1, (hk g (lt_of_block hg) (fun e => hne 0 (by rw [e]))).trans hg, r⟩
theorem OwnM.at_ (h : OwnM w base A n c xs) : ∃ g, A = some ⟨g, 0, none⟩ ∧ base ≤ g ∧ g < w.heap.size ∧ n ≤ c := by
  obtain ⟨hl, g, cur, fr, rfl, h1, hg, _, hn, _⟩ := h
  exact ⟨g, rfl, h1, lt_of_block hg, hn⟩
theorem OwnM.of_own (h : w.ownsRow base 5 1 (.slice A n c) n (bys xs)) (hA : A ≠ none) : OwnM w base A n c xs := by
  have hl : xs.length = n := by have := h.1; simp [bys] at this; omega
  rcases h.2 with ⟨h1, _⟩ | ⟨g, cap, cur, h1, h2, h3, h4, h5, h6, h7⟩
  · injection h1 with e1
    exact absurd e1 hA
  · injection h1 with e1 _ e3
    subst e1 e3
    exact ⟨hl, g, cur, (0, 0), rfl, h2, h3, .inl rfl, h4, h5, by simpa using h6, by simpa using h7⟩
theorem OwnM.conv (w : World) (s : ByteArray) (hs : s.size ≤ maxLen) : OwnM (w.drew.alloc (.cells (bytesRow s (grownCap w s.size 0 5)) 5 ((bytesRow s (grownCap w s.size 0 5)).size, (bytesRow s (grownCap w s.size 0 5)).size + 1))) w.heap.size (some ⟨w.heap.size, 0, none⟩) s.size (grownCap w s.size 0 5) s.data.toList := by
  have hge := grownCap_ge w s.size 0 5
  refine ⟨rfl, w.heap.size, _, _, rfl, Nat.le_refl _, heap_alloc_new w.drew _, .inr (Nat.le_refl _), hge, grownCap_le_maxLen w s.size 0 5 hs, ?_, ?_⟩
  · simp [bytesRow]
    omega
  · unfold bytesRow
    rw [Array.toList_append, List.take_append_of_le_length (by simp), List.take_of_length_le (by simp)]
    simp [bys]
end
/-- 'run_storeCells_at' for a row whose mark lies behind its cells. -/
theorem run_storeCells_atM (P : Program) (g o : Nat) (t : TypeId) (fz : Nat × Nat) : ∀ (vs : List Value) (i : Nat) (cur : Array Value) (w : World), w.heap[g]? = some (.cells cur t fz) → (fz = (0, 0) ∨ cur.size ≤ fz.1) → o + i + vs.length ≤ cur.size → (∀ v ∈ vs, v.oneCell' = true) →
    (storeCells ⟨g, o, none⟩ vs i).run P w = .ok () (w.setRow g (cur.toList.take (o + i) ++ vs ++ cur.toList.drop (o + i + vs.length)).toArray)
  | [], i, cur, w, hg, _, _, _ => by
    simp only [storeCells, List.append_nil, List.length_nil, Nat.add_zero, List.take_append_drop, Array.toArray_toList]
    rw [setRow_self w g cur t fz hg]
    rfl
  | v :: rest, i, cur, w, hg, hfz, hl, h1 => by
    have hi : o + i < cur.size := by simp at hl; omega
    have hadd : (⟨g, o, none⟩ : Addr).add i = ⟨g, o + i, none⟩ := by unfold Addr.add; split <;> simp_all
    have hcell : w.cell? ⟨g, o + i, none⟩ = some cur[o + i] := by simp [World.cell?, hg, hi]
    have hfro : w.frozen? ⟨g, o + i, none⟩ = false := by
      obtain ⟨lo, hi'⟩ := fz
      simp only [World.frozen?, hg, Bool.and_eq_false_iff, decide_eq_false_iff_not]
      rcases hfz with h | h
      · injection h with h2 h3
        right
        omega
      · left
        simp only at h
        omega
    have hst : (store ((⟨g, o, none⟩ : Addr).add i) v).run P w = .ok () (w.setRow g (cur.setIfInBounds (o + i) v)) := by
      rw [hadd, run_store P w _ v _ (h1 v (by simp)), hcell]
      simp [hfro, setCell_eq_setRow w g (o + i) cur t fz v hg]
    have ih := run_storeCells_atM P g o t fz rest (i + 1) (cur.setIfInBounds (o + i) v) (w.setRow g (cur.setIfInBounds (o + i) v)) (setRow_heap w g cur _ t _ hg) (by simpa using hfz) (by simp at hl ⊢; omega) (fun x hx => h1 x (by simp [hx]))
    simp only [storeCells, Sem.run_bind, hst, Result.andThen_ok, ih, setRow_setRow]
    congr 3
    have e := list_seg_step cur.toList (o + i) v rest (by simp at hl ⊢; omega)
    simpa [Array.toList_setIfInBounds, Nat.add_assoc] using e

set_option maxRecDepth 20000 in
theorem run_appM (w : World) (base : Nat) (ty : TypeId) (A : Option Addr) (n c : Nat) (xs : List UInt8) (h : OwnM w base A n c xs) (B2 b2 o2 m c2 : Nat) (ys : List UInt8) (hr : Rd w B2 1 (some ⟨b2, o2, none⟩) m (bys ys)) (hb : n + m ≤ 140737488355328) (hbase : base ≤ w.heap.size) :
    ∃ A' c' w', (Builtin.append_ #[22, 22] ty #[.slice A n c, .slice (some ⟨b2, o2, none⟩) m c2]).run Tryd.prog w = .ok (.slice A' (n + m) c') w' ∧ OwnM w' base A' (n + m) c' (xs ++ ys) ∧ w.grownBy w' (Value.slice A n c).ownBlock ∧ (A' = A ∨ A' = some ⟨w.heap.size, 0, none⟩) := by
  obtain ⟨i, hi, hz, hsize, hby⟩ := info_parts byteInfo
  have ht := Tryd.underlying22
  obtain ⟨hl, g, cur, fr, rfl, hbg, hg, hfr, hnc, hcm, hcs, htake⟩ := h
  have hml : (bys ys).length = m := hr.len1
  have hxl : (bys xs).length = n := by simp [bys]; exact hl
  have hnews : ∀ j u, (bys ys)[j]? = some u → w.cell? ((⟨b2, o2, none⟩ : Addr).add j) = some u := by
    intro j u hu
    obtain ⟨b, o, e, _, hc⟩ := hr.at_ hu
    injection e with e
    injection e with e1 e2
    subst e1 e2
    rw [Addr.add_lit]
    exact hc
  by_cases hroom : n + m ≤ c
  · have hf := run_firstCells_some (P := Tryd.prog) w 1 m ⟨b2, o2, none⟩ m c2 (bys ys) (by omega) hnews
    have hst := run_storeCells_atM Tryd.prog g n 5 fr (bys ys) 0 cur w hg hfr (by omega) (bys_one _)
    simp only [Nat.add_zero, hml] at hst
    have hsz : (cur.toList.take n ++ bys ys ++ cur.toList.drop (n + m)).toArray.size = cur.size := by
      simp only [List.size_toArray, List.length_append, List.length_take, List.length_drop, Array.length_toList, hml]
      omega
    refine ⟨some ⟨g, 0, none⟩, c, w.setRow g (cur.toList.take n ++ bys ys ++ cur.toList.drop (n + m)).toArray, ?_, ⟨by simp; simp [bys] at hml; omega, g, _, fr, rfl, hbg, setRow_heap w g cur _ _ fr hg, ?_, hroom, hcm, ?_, ?_⟩, ⟨rfl, rfl, rfl, by simp, fun k _ hk => setRow_other w g k _ (fun e => hk (by simp [Value.ownBlock, e]))⟩, .inl rfl⟩
    · simp [Builtin.append_, run_underlying ht, sizeOf, typeInfo, hi, hsize, Builtin.lenOf, hroom, hf, Addr.add_lit, hst]
    · refine hfr.imp id fun h => ?_
      rw [hsz]
      exact h
    · rw [hsz]
      exact hcs
    · have h1 : (bys xs ++ bys ys).length = n + m := by rw [List.length_append, hxl, hml]
      rw [htake, bys_app, ← h1]
      exact List.take_left
  · have holds : ∀ j u, (bys xs)[j]? = some u → w.cell? ((⟨g, 0, none⟩ : Addr).add j) = some u := by
      intro j u hu
      rw [Addr.add_lit]
      have hj : j < n := by have := (List.getElem?_eq_some_iff.1 hu).1; omega
      rw [cell_of_row w g (0 + j) cur _ fr hg, Nat.zero_add]
      rw [← htake, List.getElem?_take_of_lt hj] at hu
      simpa using hu
    have hr2 := run_append_grow (P := Tryd.prog) w 22 ty 5 i (.int .u8 0) ht hi hz ⟨g, 0, none⟩ n c (bys xs) (by rw [hsize]; omega) holds ⟨b2, o2, none⟩ m c2 (bys ys) (by rw [hsize]; omega) hnews (by omega) (by omega) (by rw [hby]; exact growslice_fits (by omega) (by omega))
    have hge := grownCap_ge w (n + m) c 5
    have hcm2 := grownCap_le_maxLen w (n + m) c 5 (by unfold maxLen; omega)
    refine ⟨_, _, _, hr2, ⟨by simp; simp [bys] at hml; omega, w.heap.size, _, (0, 0), rfl, hbase, heap_alloc_new w.drew _, .inl rfl, hge, hcm2, ?_, ?_⟩, ⟨rfl, rfl, rfl, by simp, fun j hj _ => Below.heap_alloc _ _ _ hj⟩, .inr rfl⟩
    · have hz1 : (Value.int IntKind.u8 0).cells.size = 1 := rfl
      simp only [Array.size_append, List.size_toArray, size_zeroCells, hz1, hxl, hml]
      omega
    · have h1 : (bys xs ++ bys ys).length = n + m := by rw [List.length_append, hxl, hml]
      rw [Array.toList_append, Array.toList_append, bys_app, ← h1]
      exact List.take_left
/-- append(b, x...), b a row that may be marked, x a slice that is there. -/
theorem wpList_appM {w : World} {ops : Array Oper} {rest : List Oper} {o : Oper} {a : Act} {Q : Exit → Act → World → Prop} (hgd : o.guard = none) (s x : Operand)
    (ho : o.op = .call { callee := .builtin .append, args := #[s, x], argTypes := #[22, 22] })
    (base : Nat) (A : Option Addr) (n c : Nat) (xs : List UInt8) (hs : a.eval s = .slice A n c) (h : OwnM w base A n c xs) (B2 b2 o2 m c2 : Nat) (ys : List UInt8) (hx : a.eval x = .slice (some ⟨b2, o2, none⟩) m c2) (hr : Rd w B2 1 (some ⟨b2, o2, none⟩) m (bys ys)) (hb : n + m ≤ 140737488355328) (hbase : base ≤ w.heap.size)
    (hK : ∀ A' c' w', OwnM w' base A' (n + m) c' (xs ++ ys) → w.grownBy w' (Value.slice A n c).ownBlock → (A' = A ∨ A' = some ⟨w.heap.size, 0, none⟩) → wpList Tryd.prog ops Q rest (a.put o.dst (.slice A' (n + m) c')) w') : wpList Tryd.prog ops Q (o :: rest) a w := by
  refine wpList_plain hgd fun K hk => ?_
  obtain ⟨A', c', w', hrun, h2, h3, h4⟩ := run_appM w base o.type A n c xs h B2 b2 o2 m c2 ys hr hb hbase
  unfold Oper.wp execOp
  simp only [ho, resolve, invoke, builtin, Sem.run_bind, Sem.run_pure, Result.andThen_ok, List.map_toArray, List.map_cons, List.map_nil, hs, hx, hrun]
  exact hk _ _ (hK A' c' w' h2 h3 h4)
end Go.Proofs.YtfegfmapdekkbaaDoor
namespace Go.Proofs.YtfegfmapdekkbaaDoor
set_option linter.unusedVariables false
set_option linter.unusedSimpArgs false
open Go.RowKit

set_option maxRecDepth 20000 in
theorem run_appM_none (w : World) (ty : TypeId) (A A2 : Option Addr) (n c c2 : Nat) (hnc : n ≤ c) :
    (Builtin.append_ #[22, 22] ty #[.slice A n c, .slice A2 0 c2]).run Tryd.prog w = .ok (.slice A n c) w := by
  obtain ⟨i, hi, hz, hsize, hby⟩ := info_parts byteInfo
  have ht := Tryd.underlying22
  cases A2 with
  | none => exact run_append_nothing w 22 22 ty 5 i ht hi A n c hnc _ (Src.ofNil w ht c2)
  | some a => exact run_append_nothing w 22 22 ty 5 i ht hi A n c hnc _ (Src.ofSlice w ht a 0 c2 [] (by simp) (by simp) (by simp))
/-- append(b, x...), b a row that may be marked, x any bytes that are read. -/
theorem wpList_appMr {w : World} {ops : Array Oper} {rest : List Oper} {o : Oper} {a : Act} {Q : Exit → Act → World → Prop} (hgd : o.guard = none) (s x : Operand)
    (ho : o.op = .call { callee := .builtin .append, args := #[s, x], argTypes := #[22, 22] })
    (base : Nat) (A : Option Addr) (n c : Nat) (xs : List UInt8) (hs : a.eval s = .slice A n c) (h : OwnM w base A n c xs) (B2 : Nat) (A2 : Option Addr) (m c2 : Nat) (ys : List UInt8) (hx : a.eval x = .slice A2 m c2) (hr : Rd w B2 1 A2 m (bys ys)) (hb : n + m ≤ 140737488355328) (hbase : base ≤ w.heap.size)
    (hK : ∀ A' c' w', OwnM w' base A' (n + m) c' (xs ++ ys) → Below base w w' → wpList Tryd.prog ops Q rest (a.put o.dst (.slice A' (n + m) c')) w') : wpList Tryd.prog ops Q (o :: rest) a w := by
  by_cases hm : m = 0
  · subst hm
    have hy : ys = [] := by have := hr.len1; simpa [bys] using this
    subst hy
    refine wpList_plain hgd fun K hk => ?_
    have hrun := run_appM_none w o.type A A2 n c c2 (by obtain ⟨_, _, _, _, _, _, _, _, h2, _⟩ := h; exact h2)
    unfold Oper.wp execOp
    simp only [ho, resolve, invoke, builtin, Sem.run_bind, Sem.run_pure, Result.andThen_ok, List.map_toArray, List.map_cons, List.map_nil, hs, hx, hrun]
    exact hk _ _ (hK A c w (by simpa using h) (Below.refl _ _))
  · obtain ⟨b2, o2, rfl, _, _⟩ := hr.open_ (by intro e; have := hr.len1; rw [e] at this; simp at this; omega)
    obtain ⟨g, hA, hg, hg2, _⟩ := h.at_
    exact wpList_appM hgd s x ho base A n c xs hs h B2 b2 o2 m c2 ys hx hr hb hbase fun A' c' w' h1 h2 _ => hK A' c' w' h1 ((Below.refl _ _).grown h2 hbase (fun k hk => by simp [hA, Value.ownBlock] at hk; omega))

theorem unflipw {P : Program} {f : FuncId} {args : Array Value} {w : World} {r : Ending} (h : Calls P f args w fun e w' => e = r ∧ w = w') : Calls P f args w fun e w' => e = r ∧ w' = w :=
  h.mono fun _ _ ⟨a, b⟩ => ⟨a, b.symm⟩
theorem nil_size {s : ByteArray} (h : s.data.toList = []) : s.size = 0 := by
  have : s.data.toList.length = 0 := by rw [h]; rfl
  simpa using this
theorem Sb.ba_data (s : ByteArray) : Sb.ba s.data.toList = s := by unfold Sb.ba; simp
theorem str_app_list (a b : ByteArray) : (a ++ b).data.toList = a.data.toList ++ b.data.toList := by simp

set_option maxRecDepth 100000 in
set_option maxHeartbeats 8000000 in
theorem shebangLines_walk (si sa sp : ByteArray) (b0 b1 b2 : Int) (A : Option Addr) (n c : Nat) (bs : List UInt8) (w : World) (h1 : si.size ≤ maxLen) (h2 : sa.size ≤ maxLen) (h3 : sp.size ≤ maxLen)
    (hb0 : -9223372036854775808 ≤ b0 ∧ b0 ≤ 9223372036854775807) (hb1 : -9223372036854775808 ≤ b1 ∧ b1 ≤ 9223372036854775807) (hb2 : -9223372036854775808 ≤ b2 ∧ b2 ≤ 9223372036854775807)
    (hb : Rd w w.heap.size 1 A n (bys bs)) (hnc : n ≤ c) (hnm : n ≤ maxLen) :
    Calls Tryd.prog 6 #[.agg #[.string si, .string sa, .string sp], .agg #[.int .i64 b0, .int .i64 b1, .int .i64 b2], .slice A n c] w fun e w' => e = .returned (.bool true) ∧ Below w.heap.size w w' := by
  have KW := hide (fun w' => bworks_any w')
  have hbl0 : Below w.heap.size w ((w.alloc (.cells #[.string si, .string sa, .string sp] 31)).alloc (.cells #[.int .i64 b0, .int .i64 b1, .int .i64 b2] 63)) := ((Below.refl _ _).alloc (Nat.le_refl _) _).alloc (by simp) _
  have Hbl0 := hide hbl0
  have Hb := hide hb
  clear hbl0 hb h3
  unfold maxLen at h1 h2 hnm
  by_cases q1 : si.size ≤ 200
  case neg =>
    have q1' : (200 : Int) < (si.size : Int) := by omega
    clear q1
    go_enter Tryd.func6, Tryd.ntmps6
    go_wp2_with fail
    refine ((unhide KW) _).mono ?_
    rintro e w2 ⟨rfl, hb2⟩
    go_wp2_with fail
    go_ret
    exact ⟨rfl, (unhide Hbl0).trans (hb2.mono (unhide Hbl0).size)⟩
  have q1' : ¬ (200 : Int) < (si.size : Int) := by omega
  by_cases q2 : sa.size ≤ 200
  case neg =>
    have q2' : (200 : Int) < (sa.size : Int) := by omega
    clear q2
    go_enter Tryd.func6, Tryd.ntmps6
    go_wp2_with fail
    refine ((unhide KW) _).mono ?_
    rintro e w2 ⟨rfl, hb2⟩
    go_wp2_with fail
    go_ret
    exact ⟨rfl, (unhide Hbl0).trans (hb2.mono (unhide Hbl0).size)⟩
  have q2' : ¬ (200 : Int) < (sa.size : Int) := by omega
  by_cases q3 : n ≤ 4096
  case neg =>
    have q3' : (4096 : Int) < (n : Int) := by omega
    clear q3
    go_enter Tryd.func6, Tryd.ntmps6
    go_wp2_with fail
    refine ((unhide KW) _).mono ?_
    rintro e w2 ⟨rfl, hb2⟩
    go_wp2_with fail
    go_ret
    exact ⟨rfl, (unhide Hbl0).trans (hb2.mono (unhide Hbl0).size)⟩
  have q3' : ¬ (4096 : Int) < (n : Int) := by omega
  by_cases q4 : si.size = 0
  · have q4' : si.toList.isEmpty = true := by rw [isEmpty_toList]; simp [q4]
    clear q4
    go_enter Tryd.func6, Tryd.ntmps6
    go_wp2_with fail
    refine ((unhide KW) _).mono ?_
    rintro e w2 ⟨rfl, hb2⟩
    go_wp2_with fail
    go_ret
    exact ⟨rfl, (unhide Hbl0).trans (hb2.mono (unhide Hbl0).size)⟩
  have q4' : si.toList.isEmpty = false := by rw [isEmpty_toList]; simp [q4]
  have KO1 := fun w' => odd_any si true w' (by omega)
  have KO2 := fun w' => odd_any sa false w' (by omega)
  have hpl1 := fun h => Sb.odd_plain (within := true) (l := si.data.toList) h
  have hpl2 := fun h => Sb.odd_plain (within := false) (l := sa.data.toList) h
  obtain ⟨o1, ho1⟩ : ∃ b, Sb.odd true si.data.toList = b := ⟨_, rfl⟩
  obtain ⟨o2, ho2⟩ : ∃ b, Sb.odd false sa.data.toList = b := ⟨_, rfl⟩
  rw [ho1] at KO1 hpl1
  rw [ho2] at KO2 hpl2
  have HO1 := hide KO1
  have HO2 := hide KO2
  have Hpl1 := hide hpl1
  have Hpl2 := hide hpl2
  clear KO1 KO2 hpl1 hpl2 ho1 ho2
  cases o1 with
  | true =>
    go_enter Tryd.func6, Tryd.ntmps6
    go_wp2_with fail
    refine ((unhide HO1) _).mono ?_
    rintro e w1 ⟨rfl, rfl⟩
    go_wp2_with fail
    refine ((unhide KW) _).mono ?_
    rintro e w2 ⟨rfl, hb2⟩
    go_wp2_with fail
    go_ret
    exact ⟨rfl, (unhide Hbl0).trans (hb2.mono (unhide Hbl0).size)⟩
  | false =>
  cases o2 with
  | true =>
    go_enter Tryd.func6, Tryd.ntmps6
    go_wp2_with fail
    refine ((unhide HO1) _).mono ?_
    rintro e w1 ⟨rfl, rfl⟩
    go_wp2_with fail
    refine ((unhide HO2) _).mono ?_
    rintro e w1 ⟨rfl, rfl⟩
    go_wp2_with fail
    refine ((unhide KW) _).mono ?_
    rintro e w2 ⟨rfl, hb2⟩
    go_wp2_with fail
    go_ret
    exact ⟨rfl, (unhide Hbl0).trans (hb2.mono (unhide Hbl0).size)⟩
  | false =>
  have KG0 := fun w' => unflipw (gap_any b0 w' hb0.1 hb0.2)
  have KG1 := fun w' => unflipw (gap_any b1 w' hb1.1 hb1.2)
  have KG2 := fun w' => unflipw (gap_any b2 w' hb2.1 hb2.2)
  have hz0 : (Sb.ba (Sb.gapL (Sb.gapN b0))).size ≤ 19 := by rw [Sb.ba_size, Sb.gapL_len]; unfold Sb.gapN; omega
  have hz1 : (Sb.ba (Sb.gapL (Sb.gapN b1))).size ≤ 19 := by rw [Sb.ba_size, Sb.gapL_len]; unfold Sb.gapN; omega
  have hz2 : (Sb.ba (Sb.gapL (Sb.gapN b2))).size ≤ 19 := by rw [Sb.ba_size, Sb.gapL_len]; unfold Sb.gapN; omega
  have hg0 : ∀ x ∈ (Sb.ba (Sb.gapL (Sb.gapN b0))).data.toList, Sb.isBl x = true := by unfold Sb.ba; simpa using Sb.gapL_bl (Sb.gapN b0)
  have hg1 : ∀ x ∈ (Sb.ba (Sb.gapL (Sb.gapN b1))).data.toList, Sb.isBl x = true := by unfold Sb.ba; simpa using Sb.gapL_bl (Sb.gapN b1)
  have hg2 : ∀ x ∈ (Sb.ba (Sb.gapL (Sb.gapN b2))).data.toList, Sb.isBl x = true := by unfold Sb.ba; simpa using Sb.gapL_bl (Sb.gapN b2)
  obtain ⟨g0, e0⟩ : ∃ g, Sb.ba (Sb.gapL (Sb.gapN b0)) = g := ⟨_, rfl⟩
  obtain ⟨g1, e1⟩ : ∃ g, Sb.ba (Sb.gapL (Sb.gapN b1)) = g := ⟨_, rfl⟩
  obtain ⟨g2, e2⟩ : ∃ g, Sb.ba (Sb.gapL (Sb.gapN b2)) = g := ⟨_, rfl⟩
  rw [e0] at KG0 hz0 hg0
  rw [e1] at KG1 hz1 hg1
  rw [e2] at KG2 hz2 hg2
  have HG0 := hide KG0
  have HG1 := hide KG1
  have HG2 := hide KG2
  have Hg0 := hide hg0
  have Hg1 := hide hg1
  have Hg2 := hide hg2
  clear KG0 KG1 KG2 hg0 hg1 hg2 e0 e1 e2 hb0 hb1 hb2
  by_cases q5 : sa.size = 0
  · have q5' : sa.toList.isEmpty = true := by rw [isEmpty_toList]; simp [q5]
    go_enter Tryd.func6, Tryd.ntmps6
    go_wp2_with fail
    refine ((unhide HO1) _).mono ?_
    rintro e w1 ⟨rfl, rfl⟩
    go_wp2_with fail
    refine ((unhide HO2) _).mono ?_
    rintro e w1 ⟨rfl, rfl⟩
    go_wp2_with fail
    go_quiet ((go_at_call 27; (first | (with_reducible exact Calls.quiet_of_same ((unhide HG0) _)) | (with_reducible exact Calls.quiet_of_same ((unhide HG1) _)))))
    have hB1 : Blk (((w.alloc (.cells #[.string si, .string sa, .string sp] 31)).alloc (.cells #[.int .i64 b0, .int .i64 b1, .int .i64 b2] 63)).drewN nq) w.heap.size 31 [.string si, .string sa, .string sp] := ((Blk.new w 31 [.string si, .string sa, .string sp]).alloc _).drewN nq
    have hB2 : Blk (((w.alloc (.cells #[.string si, .string sa, .string sp] 31)).alloc (.cells #[.int .i64 b0, .int .i64 b1, .int .i64 b2] 63)).drewN nq) (w.heap.size + 1) 63 [.int .i64 b0, .int .i64 b1, .int .i64 b2] := by
      have := Blk.new (w.alloc (.cells #[.string si, .string sa, .string sp] 31)) 63 [.int .i64 b0, .int .i64 b1, .int .i64 b2]
      rw [World.size_alloc] at this
      exact this.drewN nq
    have hbw := below_drewN' (unhide Hbl0) nq
    generalize ((w.alloc (.cells #[.string si, .string sa, .string sp] 31)).alloc (.cells #[.int .i64 b0, .int .i64 b1, .int .i64 b2] 63)).drewN nq = W at *
    obtain ⟨S1, hS1⟩ : ∃ S, (⟨#[35, 33]⟩ : ByteArray) ++ g0 ++ si ++ g1 = S := ⟨_, rfl⟩
    rw [hS1]
    have hs1 : S1.data.toList = [35, 33] ++ g0.data.toList ++ si.data.toList ++ g1.data.toList := by rw [← hS1]; simp
    have hz1' : S1.size = 2 + g0.size + si.size + g1.size := by rw [← hS1]; simp [ByteArray.size_append]; rfl
    have Hs1 := hide hs1
    have HB1 := hide hB1
    have HB2 := hide hB2
    have Hbw := hide hbw
    obtain ⟨v0, v1, v2⟩ := And.intro (hB1.cell (i := 0) rfl) (And.intro (hB1.cell (i := 1) rfl) (hB1.cell (i := 2) rfl))
    obtain ⟨u0, u1, u2⟩ := And.intro (hB2.cell (i := 0) rfl) (And.intro (hB2.cell (i := 1) rfl) (hB2.cell (i := 2) rfl))
    clear hS1 hs1 hB1 hB2 hbw HO1 HO2 HG0 HG1
    have hsA : sa.data.toList = [] := List.eq_nil_of_length_eq_zero (by simpa using q5)
    have hS : S1.data.toList ++ [10] = [35, 33] ++ Sb.written si.data.toList sa.data.toList g0.data.toList g1.data.toList g2.data.toList ++ [10] := by rw [unhide Hs1]; unfold Sb.written; rw [if_pos hsA]; simp
    have hm : (Sb.written si.data.toList sa.data.toList g0.data.toList g1.data.toList g2.data.toList).length = S1.size - 2 := by
      have := congrArg List.length hS
      simp at this
      have h2 : S1.data.size = S1.size := rfl
      omega
    have Hm := hide hm
    have HS := hide hS
    have hmz : 2 ≤ S1.size ∧ S1.size ≤ 600 := by omega
    obtain ⟨S, hSS⟩ : ∃ S, S1 = S := ⟨_, rfl⟩
    subst hSS
    clear hsA hS hm Hs1 hz1'
    obtain ⟨T, hT⟩ : ∃ T, S1 ++ (⟨#[10]⟩ : ByteArray) = T := ⟨_, rfl⟩
    have hTl : T.data.toList ++ bs = [35, 33] ++ Sb.written si.data.toList sa.data.toList g0.data.toList g1.data.toList g2.data.toList ++ 10 :: bs := by rw [← hT, str_app_list]; show S1.data.toList ++ [10] ++ bs = _; rw [unhide HS]; simp
    have hTz : T.size ≤ 601 := by rw [← hT]; simp [ByteArray.size_append]; show S1.size + 1 ≤ 601; omega
    have hpw := Sb.parse_written (t := bs) (fun h => q4 (nil_size h)) ((unhide Hpl1) trivial) ((unhide Hpl2) trivial) (unhide Hg0) (unhide Hg1) (unhide Hg2)
    rw [← hTl, unhide Hm] at hpw
    have hcv := run_bytes_of_string (P := Tryd.prog) W 9 22 5 T Tryd.underlying9 Tryd.underlying22 Tryd.underlying5
    have hmk := OwnM.conv W T (by unfold maxLen; omega)
    have hbc : Below W.heap.size W (W.drew.alloc (.cells (bytesRow T (grownCap W T.size 0 5)) 5 ((bytesRow T (grownCap W T.size 0 5)).size, (bytesRow T (grownCap W T.size 0 5)).size + 1))) := (below_drew' (Below.refl _ _)).alloc (Nat.le_refl _) _
    generalize (W.drew.alloc (.cells (bytesRow T (grownCap W T.size 0 5)) 5 ((bytesRow T (grownCap W T.size 0 5)).size, (bytesRow T (grownCap W T.size 0 5)).size + 1))) = w5 at *
    generalize grownCap W T.size 0 5 = cc at *
    have hbw5 := (unhide Hbw).trans (hbc.mono (unhide Hbw).size)
    have hr5 := ((unhide Hb).below hbw5)
    have Hmk := hide hmk
    have Hbc := hide hbc
    have Hr5 := hide hr5
    have Hpw := hide hpw
    have hsz5 := hbc.size
    obtain ⟨tz, htz⟩ : ∃ z, T.size = z := ⟨_, rfl⟩
    have hn2 : IntKind.i64.wrap ((S1.size : Int) - 2) = (S1.size : Int) - 2 := by rw [IntKind.wrap_i64]; omega
    rw [htz] at hTz
    have Htz := hide htz
    have mk2 := unhide Hmk
    rw [htz] at mk2 hcv
    have Hmk2 := hide mk2
    clear hmk hbc hbw5 hr5 hpw hTl Hmk htz mk2 HS
    go_wp2_with (at_builtin; refine wpList_appMr rfl _ _ rfl W.heap.size (some ⟨W.heap.size, 0, none⟩) tz cc T.data.toList rfl (unhide Hmk2) w.heap.size A n c bs rfl (unhide Hr5) (by omega) hsz5 ?_; intro A6 c6 w6 hm6 hb6; have Hm6 := hide hm6; have Hb6 := hide ((unhide Hbc).trans hb6); clear hm6 hb6)
    have hr6 := (unhide Hm6).rd
    have hlc6 : tz + n ≤ c6 := by obtain ⟨_, _, _, _, h2⟩ := (unhide Hm6).at_; exact h2
    have KP := parse_any A6 (tz + n) c6 w6.heap.size (T.data.toList ++ bs) w6 hr6 (Nat.le_refl _) (by omega) hlc6
    rw [unhide Hpw] at KP
    have Hbw6 := hide ((unhide Hbw).trans ((unhide Hb6).mono (unhide Hbw).size))
    have HB6 := hide ((unhide HB1).belowSz (unhide Hb6))
    have hr6' := 0
    by_cases q9 : 127 < S1.size - 2
    · rw [if_pos q9] at KP
      unfold ParseE at KP
      dsimp only at KP
      have HKP := hide KP
      have q9' : (127 : Int) < (S1.size : Int) - 2 := by omega
      clear KP hr6 q9 hr6' v0 v1 v2
      refine (unhide HKP).mono ?_
      rintro e w7 ⟨rfl, hb7⟩
      have Hbw7 := hide ((unhide Hbw6).trans (hb7.mono (unhide Hbw6).size))
      clear hb7 HKP
      go_wp2_with fail
      refine ((unhide KW) _).mono ?_
      rintro e w8 ⟨rfl, hb8⟩
      go_wp2_with fail
      go_ret
      exact ⟨rfl, (unhide Hbw7).trans (hb8.mono (unhide Hbw7).size)⟩
    · rw [if_neg q9] at KP
      unfold ParseE at KP
      dsimp only at KP
      rw [Sb.ba_data, Sb.ba_data] at KP
      have HKP := hide KP
      have q9' : ¬ (127 : Int) < (S1.size : Int) - 2 := by omega
      clear KP hr6 q9 hr6' v0 v1 v2
      refine (unhide HKP).mono ?_
      rintro e w7 ⟨rfl, hb7⟩
      have Hbw7 := hide ((unhide Hbw6).trans (hb7.mono (unhide Hbw6).size))
      have hB7 := (unhide HB6).belowSz hb7
      obtain ⟨v0, v1, v2⟩ := And.intro (hB7.cell (i := 0) rfl) (And.intro (hB7.cell (i := 1) rfl) (hB7.cell (i := 2) rfl))
      clear hb7 HKP hB7
      go_wp2_with fail
      refine ((unhide KW) _).mono ?_
      rintro e w8 ⟨rfl, hb8⟩
      go_wp2_with fail
      go_ret
      exact ⟨rfl, (unhide Hbw7).trans (hb8.mono (unhide Hbw7).size)⟩
  · have q5' : sa.toList.isEmpty = false := by rw [isEmpty_toList]; simp [q5]
    go_enter Tryd.func6, Tryd.ntmps6
    go_wp2_with fail
    refine ((unhide HO1) _).mono ?_
    rintro e w1 ⟨rfl, rfl⟩
    go_wp2_with fail
    refine ((unhide HO2) _).mono ?_
    rintro e w1 ⟨rfl, rfl⟩
    go_wp2_with fail
    go_quiet ((go_at_call 27; (first | (with_reducible exact Calls.quiet_of_same ((unhide HG0) _)) | (with_reducible exact Calls.quiet_of_same ((unhide HG1) _)))))
    have hB1 : Blk (((w.alloc (.cells #[.string si, .string sa, .string sp] 31)).alloc (.cells #[.int .i64 b0, .int .i64 b1, .int .i64 b2] 63)).drewN nq) w.heap.size 31 [.string si, .string sa, .string sp] := ((Blk.new w 31 [.string si, .string sa, .string sp]).alloc _).drewN nq
    have hB2 : Blk (((w.alloc (.cells #[.string si, .string sa, .string sp] 31)).alloc (.cells #[.int .i64 b0, .int .i64 b1, .int .i64 b2] 63)).drewN nq) (w.heap.size + 1) 63 [.int .i64 b0, .int .i64 b1, .int .i64 b2] := by
      have := Blk.new (w.alloc (.cells #[.string si, .string sa, .string sp] 31)) 63 [.int .i64 b0, .int .i64 b1, .int .i64 b2]
      rw [World.size_alloc] at this
      exact this.drewN nq
    have hbw := below_drewN' (unhide Hbl0) nq
    generalize ((w.alloc (.cells #[.string si, .string sa, .string sp] 31)).alloc (.cells #[.int .i64 b0, .int .i64 b1, .int .i64 b2] 63)).drewN nq = W at *
    obtain ⟨S1, hS1⟩ : ∃ S, (⟨#[35, 33]⟩ : ByteArray) ++ g0 ++ si ++ g1 = S := ⟨_, rfl⟩
    rw [hS1]
    have hs1 : S1.data.toList = [35, 33] ++ g0.data.toList ++ si.data.toList ++ g1.data.toList := by rw [← hS1]; simp
    have hz1' : S1.size = 2 + g0.size + si.size + g1.size := by rw [← hS1]; simp [ByteArray.size_append]; rfl
    have Hs1 := hide hs1
    have HB1 := hide hB1
    have HB2 := hide hB2
    have Hbw := hide hbw
    obtain ⟨v0, v1, v2⟩ := And.intro (hB1.cell (i := 0) rfl) (And.intro (hB1.cell (i := 1) rfl) (hB1.cell (i := 2) rfl))
    obtain ⟨u0, u1, u2⟩ := And.intro (hB2.cell (i := 0) rfl) (And.intro (hB2.cell (i := 1) rfl) (hB2.cell (i := 2) rfl))
    clear hS1 hs1 hB1 hB2 hbw HO1 HO2 HG0 HG1
    go_wp2_with fail
    go_quiet ((go_at_call 27; exact Calls.quiet_of_same ((unhide HG2) _)))
    have hsA : sa.data.toList ≠ [] := fun h => q5 (nil_size h)
    obtain ⟨S2, hS2⟩ : ∃ S, S1 ++ (⟨#[32]⟩ : ByteArray) ++ sa ++ g2 = S := ⟨_, rfl⟩
    rw [hS2]
    have hs2 : S2.data.toList = S1.data.toList ++ [32] ++ sa.data.toList ++ g2.data.toList := by rw [← hS2]; simp
    have hz2' : S2.size = S1.size + 1 + sa.size + g2.size := by rw [← hS2]; simp [ByteArray.size_append]; rfl
    have hS : S2.data.toList ++ [10] = [35, 33] ++ Sb.written si.data.toList sa.data.toList g0.data.toList g1.data.toList g2.data.toList ++ [10] := by rw [hs2, unhide Hs1]; unfold Sb.written; rw [if_neg hsA]; simp
    have hm : (Sb.written si.data.toList sa.data.toList g0.data.toList g1.data.toList g2.data.toList).length = S2.size - 2 := by
      have := congrArg List.length hS
      simp at this
      have h2 : S2.data.size = S2.size := rfl
      omega
    have Hm := hide hm
    have HS := hide hS
    have hmz : 2 ≤ S2.size ∧ S2.size ≤ 600 := by omega
    have hB1 := (unhide HB1).drewN nq
    have hbw := below_drewN' (unhide Hbw) nq
    clear hsA hS hm Hs1 hz1' hz2' hs2 hS2 HB1 Hbw HB2 v0 v1 v2 u0 u1 u2
    generalize W.drewN nq = W2 at *
    obtain ⟨W, hWW⟩ : ∃ W', W2 = W' := ⟨_, rfl⟩
    subst hWW
    obtain ⟨S, hSS⟩ : ∃ S, S2 = S := ⟨_, rfl⟩
    subst hSS
    have HB1 := hide hB1
    have Hbw := hide hbw
    obtain ⟨v0, v1, v2⟩ := And.intro (hB1.cell (i := 0) rfl) (And.intro (hB1.cell (i := 1) rfl) (hB1.cell (i := 2) rfl))
    clear hB1 hbw
    obtain ⟨T, hT⟩ : ∃ T, S2 ++ (⟨#[10]⟩ : ByteArray) = T := ⟨_, rfl⟩
    have hTl : T.data.toList ++ bs = [35, 33] ++ Sb.written si.data.toList sa.data.toList g0.data.toList g1.data.toList g2.data.toList ++ 10 :: bs := by rw [← hT, str_app_list]; show S2.data.toList ++ [10] ++ bs = _; rw [unhide HS]; simp
    have hTz : T.size ≤ 601 := by rw [← hT]; simp [ByteArray.size_append]; show S2.size + 1 ≤ 601; omega
    have hpw := Sb.parse_written (t := bs) (fun h => q4 (nil_size h)) ((unhide Hpl1) trivial) ((unhide Hpl2) trivial) (unhide Hg0) (unhide Hg1) (unhide Hg2)
    rw [← hTl, unhide Hm] at hpw
    have hcv := run_bytes_of_string (P := Tryd.prog) W2 9 22 5 T Tryd.underlying9 Tryd.underlying22 Tryd.underlying5
    have hmk := OwnM.conv W2 T (by unfold maxLen; omega)
    have hbc : Below W2.heap.size W2 (W2.drew.alloc (.cells (bytesRow T (grownCap W2 T.size 0 5)) 5 ((bytesRow T (grownCap W2 T.size 0 5)).size, (bytesRow T (grownCap W2 T.size 0 5)).size + 1))) := (below_drew' (Below.refl _ _)).alloc (Nat.le_refl _) _
    generalize (W2.drew.alloc (.cells (bytesRow T (grownCap W2 T.size 0 5)) 5 ((bytesRow T (grownCap W2 T.size 0 5)).size, (bytesRow T (grownCap W2 T.size 0 5)).size + 1))) = w5 at *
    generalize grownCap W2 T.size 0 5 = cc at *
    have hbw5 := (unhide Hbw).trans (hbc.mono (unhide Hbw).size)
    have hr5 := ((unhide Hb).below hbw5)
    have Hmk := hide hmk
    have Hbc := hide hbc
    have Hr5 := hide hr5
    have Hpw := hide hpw
    have hsz5 := hbc.size
    obtain ⟨tz, htz⟩ : ∃ z, T.size = z := ⟨_, rfl⟩
    have hn2 : IntKind.i64.wrap ((S2.size : Int) - 2) = (S2.size : Int) - 2 := by rw [IntKind.wrap_i64]; omega
    rw [htz] at hTz
    have Htz := hide htz
    have mk2 := unhide Hmk
    rw [htz] at mk2 hcv
    have Hmk2 := hide mk2
    clear hmk hbc hbw5 hr5 hpw hTl Hmk htz mk2 HS
    go_wp2_with (at_builtin; refine wpList_appMr rfl _ _ rfl W2.heap.size (some ⟨W2.heap.size, 0, none⟩) tz cc T.data.toList rfl (unhide Hmk2) w.heap.size A n c bs rfl (unhide Hr5) (by omega) hsz5 ?_; intro A6 c6 w6 hm6 hb6; have Hm6 := hide hm6; have Hb6 := hide ((unhide Hbc).trans hb6); clear hm6 hb6)
    have hr6 := (unhide Hm6).rd
    have hlc6 : tz + n ≤ c6 := by obtain ⟨_, _, _, _, h2⟩ := (unhide Hm6).at_; exact h2
    have KP := parse_any A6 (tz + n) c6 w6.heap.size (T.data.toList ++ bs) w6 hr6 (Nat.le_refl _) (by omega) hlc6
    rw [unhide Hpw] at KP
    have Hbw6 := hide ((unhide Hbw).trans ((unhide Hb6).mono (unhide Hbw).size))
    have HB6 := hide ((unhide HB1).belowSz (unhide Hb6))
    have hr6' := 0
    by_cases q9 : 127 < S2.size - 2
    · rw [if_pos q9] at KP
      unfold ParseE at KP
      dsimp only at KP
      have HKP := hide KP
      have q9' : (127 : Int) < (S2.size : Int) - 2 := by omega
      clear KP hr6 q9 hr6' v0 v1 v2
      refine (unhide HKP).mono ?_
      rintro e w7 ⟨rfl, hb7⟩
      have Hbw7 := hide ((unhide Hbw6).trans (hb7.mono (unhide Hbw6).size))
      clear hb7 HKP
      go_wp2_with fail
      refine ((unhide KW) _).mono ?_
      rintro e w8 ⟨rfl, hb8⟩
      go_wp2_with fail
      go_ret
      exact ⟨rfl, (unhide Hbw7).trans (hb8.mono (unhide Hbw7).size)⟩
    · rw [if_neg q9] at KP
      unfold ParseE at KP
      dsimp only at KP
      rw [Sb.ba_data, Sb.ba_data] at KP
      have HKP := hide KP
      have q9' : ¬ (127 : Int) < (S2.size : Int) - 2 := by omega
      clear KP hr6 q9 hr6' v0 v1 v2
      refine (unhide HKP).mono ?_
      rintro e w7 ⟨rfl, hb7⟩
      have Hbw7 := hide ((unhide Hbw6).trans (hb7.mono (unhide Hbw6).size))
      have hB7 := (unhide HB6).belowSz hb7
      obtain ⟨v0, v1, v2⟩ := And.intro (hB7.cell (i := 0) rfl) (And.intro (hB7.cell (i := 1) rfl) (hB7.cell (i := 2) rfl))
      clear hb7 HKP hB7
      go_wp2_with fail
      refine ((unhide KW) _).mono ?_
      rintro e w8 ⟨rfl, hb8⟩
      go_wp2_with fail
      go_ret
      exact ⟨rfl, (unhide Hbw7).trans (hb8.mono (unhide Hbw7).size)⟩
end Go.Proofs.YtfegfmapdekkbaaDoor
namespace Go.Proofs.YtfegfmapdekkbaaDoor
set_option linter.unusedVariables false
set_option linter.unusedSimpArgs false
open Go.RowKit Go.ChangeShapes Go.WideShapes Go.Joins Go.Deep

theorem credFields : ∃ fs, Tryd.prog.underlying 42 = some (.struct fs) ∧ oneCellFields Tryd.prog fs = true ∧ Tryd.prog.cellsOf 42 = fs.size ∧ fs.map (·.type) = #[39, 39, 39, 39, 40] :=
  ⟨_, Tryd.underlying42, by kernel_rfl, by kernel_rfl, by kernel_rfl⟩
theorem entFields : ∃ fs, Tryd.prog.underlying 69 = some (.struct fs) ∧ oneCellFields Tryd.prog fs = true ∧ Tryd.prog.cellsOf 69 = fs.size ∧ fs.map (·.type) = #[9, 5, 54, 39, 39, 22, 9] :=
  ⟨_, Tryd.underlying69, by kernel_rfl, by kernel_rfl, by kernel_rfl⟩
/-- What holds of an entry that is an argument. -/
structure EntIn (w : World) (s : EntA) : Prop where
  d : Rd w w.heap.size 1 s.A s.n (bys s.e.data)
  nc : s.n ≤ s.c
  c : s.c ≤ maxLen
  p : s.e.path.size ≤ maxLen
  t : s.e.to.size ≤ maxLen
  m : s.e.mode < 65536
  k : s.e.kind < 256
  u : s.e.uid < 4294967296
  g : s.e.gid < 4294967296
section
variable {H : Type} {enc : TypeId × Value → H} {w : World} {base : Nat} {held : Bool}
set_option maxRecDepth 100000 in
theorem open_cred_rd {r : Reach} {b0 : Nat} {v : Value} {d : DataW H} {p : List MemPlace} (hv : Value.okWide Tryd.prog w r b0 42 v) (h : DataW.Trod enc Tryd.prog w base (fun _ => true) held 42 v d p) :
    ∃ (c : Vf.Cred) (A : Option Addr) (n k : Nat), v = credV c A n k ∧ Rd w w.heap.size 1 A n (c.groups.map u32v) ∧ n ≤ k ∧ k ≤ maxLen := by
  obtain ⟨cs, rfl, hsz⟩ := okWide_struct Tryd.underlying42 hv
  obtain ⟨fuel, hf⟩ := h
  obtain ⟨hl, n, hf⟩ := flds_vals _ credFields hf
  have e2 : ∃ c0 c1 c2 c3 c4, cs = #[c0, c1, c2, c3, c4] := by
    obtain ⟨l⟩ := cs
    match l, hl with
    | [c0, c1, c2, c3, c4], _ => exact ⟨c0, c1, c2, c3, c4, rfl⟩
  obtain ⟨c0, c1, c2, c3, c4, rfl⟩ := e2
  obtain ⟨y0, h0⟩ := hf 0 39 c0 rfl rfl
  obtain ⟨y1, h1⟩ := hf 1 39 c1 rfl rfl
  obtain ⟨y2, h2⟩ := hf 2 39 c2 rfl rfl
  obtain ⟨y3, h3⟩ := hf 3 39 c3 rfl rfl
  obtain ⟨y4, h4⟩ := hf 4 40 c4 rfl rfl
  obtain ⟨a0, rfl, b0⟩ := fu32_is Tryd.underlying39 h0
  obtain ⟨a1, rfl, b1⟩ := fu32_is Tryd.underlying39 h1
  obtain ⟨a2, rfl, b2⟩ := fu32_is Tryd.underlying39 h2
  obtain ⟨a3, rfl, b3⟩ := fu32_is Tryd.underlying39 h3
  obtain ⟨A, m, k, rfl⟩ := fslice_is Tryd.underlying40 h4
  obtain ⟨zs, r0, hc0, hm0, hw0⟩ := open_nums_rd (d := y4.1) (p := y4.2) Tryd.underlying40 Tryd.underlying39 (by kernel_rfl) ⟨n, h4⟩
  have hz : (zs.map Int.toNat).map u32v = zs.map (Value.int .u32) := by
    rw [List.map_map]
    refine List.map_congr_left fun z hz => ?_
    have : 0 ≤ z ∧ z ≤ 4294967295 := by simpa [Lit.wf, IntKind.min, IntKind.max, IntKind.signed, IntKind.bits] using hw0 z hz
    show Value.int .u32 ((z.toNat : Nat) : Int) = Value.int .u32 z
    rw [Int.toNat_of_nonneg this.1]
  exact ⟨⟨a0, a1, a2, a3, zs.map Int.toNat⟩, A, m, k, rfl, by rw [hz]; exact r0, hc0, hm0⟩
set_option maxRecDepth 100000 in
theorem open_two_ints {r : Reach} {b0 : Nat} {v : Value} {d : DataW H} {p : List MemPlace} {t : TypeId} (ht : Tryd.prog.underlying t = some (.array 2 3)) (hc : Tryd.prog.cellsOf t = 2) (hv : Value.okWide Tryd.prog w r b0 t v) (h : DataW.Trod enc Tryd.prog w base (fun _ => true) held t v d p) :
    ∃ a b : Int, v = .agg #[.int .i64 a, .int .i64 b] ∧ (-9223372036854775808 ≤ a ∧ a ≤ 9223372036854775807) ∧ -9223372036854775808 ≤ b ∧ b ≤ 9223372036854775807 := by
  have e0 : ∃ cs, v = .agg cs ∧ cs.size = Tryd.prog.cellsOf t := by
    simp only [Value.okWide, ht] at hv
    obtain ⟨cs, h1, h2, _⟩ := hv
    exact ⟨cs, h1, h2⟩
  obtain ⟨cs, rfl, hsz⟩ := e0
  rw [hc] at hsz
  obtain ⟨fuel, hf⟩ := h
  have e2 : ∃ c0 c1, cs = #[c0, c1] := by
    obtain ⟨l⟩ := cs
    match l, hsz with
    | [c0, c1], _ => exact ⟨c0, c1, rfl⟩
  obtain ⟨c0, c1, rfl⟩ := e2
  obtain ⟨xs, m, _, _, _, hxl, hel⟩ := DataW.trod_array ht hf
  have hce : Tryd.prog.cellsOf 3 = 1 := by kernel_rfl
  have g0 := hel 0 (by omega)
  have g1 := hel 1 (by omega)
  rw [hce] at g0 g1
  have f0 : ∃ y, DataW.trod enc Tryd.prog w base (fun _ => true) held m 3 [c0] = some y := ⟨_, g0.trans (List.getElem?_eq_getElem (by omega))⟩
  have f1 : ∃ y, DataW.trod enc Tryd.prog w base (fun _ => true) held m 3 [c1] = some y := ⟨_, g1.trans (List.getElem?_eq_getElem (by omega))⟩
  obtain ⟨y0, f0⟩ := f0
  obtain ⟨y1, f1⟩ := f1
  obtain ⟨a, rfl, ba⟩ := fint_is Tryd.underlying3 f0
  obtain ⟨b, rfl, bb⟩ := fint_is Tryd.underlying3 f1
  exact ⟨a, b, rfl, ba, bb⟩
set_option maxRecDepth 100000 in
theorem ent_vals {fuel : Nat} {cs : List Value} {x : DataW H × List MemPlace} (h : DataW.trod enc Tryd.prog w base (fun _ => true) held fuel 69 cs = some x) : ∃ s : EntA, cs = entVals s ∧ EntIn w s := by
  obtain ⟨hl, n, hf⟩ := flds_vals _ entFields h
  match cs, hl with
  | [c0, c1, c2, c3, c4, c5, c6], _ =>
    obtain ⟨y0, h0⟩ := hf 0 9 c0 rfl rfl
    obtain ⟨y1, h1⟩ := hf 1 5 c1 rfl rfl
    obtain ⟨y2, h2⟩ := hf 2 54 c2 rfl rfl
    obtain ⟨y3, h3⟩ := hf 3 39 c3 rfl rfl
    obtain ⟨y4, h4⟩ := hf 4 39 c4 rfl rfl
    obtain ⟨y5, h5⟩ := hf 5 22 c5 rfl rfl
    obtain ⟨y6, h6⟩ := hf 6 9 c6 rfl rfl
    obtain ⟨a0, rfl, b0⟩ := fstr_is Tryd.underlying9 h0
    obtain ⟨a1, rfl, b1⟩ := fu8_is Tryd.underlying5 h1
    obtain ⟨a2, rfl, b2⟩ := fu16_is Tryd.underlying54 h2
    obtain ⟨a3, rfl, b3⟩ := fu32_is Tryd.underlying39 h3
    obtain ⟨a4, rfl, b4⟩ := fu32_is Tryd.underlying39 h4
    obtain ⟨A, m, k, rfl⟩ := fslice_is Tryd.underlying22 h5
    obtain ⟨a6, rfl, b6⟩ := fstr_is Tryd.underlying9 h6
    obtain ⟨bs, r0, hc0, hm0⟩ := open_bytes_rd (d := y5.1) (p := y5.2) Tryd.underlying22 Tryd.underlying5 (by kernel_rfl) ⟨n, h5⟩
    exact ⟨⟨⟨a0, a1, a2, a3, a4, bs, a6⟩, A, m, k⟩, rfl, ⟨r0, hc0, hm0, b0, b6, b2, b1, b3, b4⟩⟩
theorem open_ents_rd {A : Option Addr} {n c : Nat} {d : DataW H} {p : List MemPlace} (h : DataW.Trod enc Tryd.prog w base (fun _ => true) held 38 (.slice A n c) d p) :
    ∃ l : List EntA, Rd w w.heap.size 7 A n (rowCs entVals l) ∧ l.length = n ∧ n ≤ c ∧ c ≤ maxLen ∧ ∀ s ∈ l, EntIn w s := by
  obtain ⟨fuel, hf⟩ := h
  exact open_structs_rd (size := 7) Tryd.underlying38 (by kernel_rfl) (by omega) entVals _ (fun _ => rfl) (fun _ _ _ h => ent_vals h) hf
end
end Go.Proofs.YtfegfmapdekkbaaDoor
namespace Go.Proofs.YtfegfmapdekkbaaDoor
set_option linter.unusedVariables false
set_option linter.unusedSimpArgs false
open Go.RowKit

theorem bys_at' {b : List UInt8} {i : Nat} {x : UInt8} (h : b[i]? = some x) : (bys b)[i]? = some (.int .u8 x.toNat) := by simp [bys, h]

/-- What has been copied from k on. -/
def backTo (b : List UInt8) (k : Nat) : List Value := List.replicate k (.int .u8 0) ++ bys (b.drop k)
theorem backTo_set {b : List UInt8} {k : Nat} {x : UInt8} (h : b[k]? = some x) : (backTo b (k + 1)).set k (.int .u8 x.toNat) = backTo b k := by
  unfold backTo
  rw [List.drop_eq_getElem_cons (i := k) (by have := (List.getElem?_eq_some_iff.1 h).1; exact this)]
  have hx : b[k]'((List.getElem?_eq_some_iff.1 h).1) = x := (List.getElem?_eq_some_iff.1 h).2
  rw [hx, List.replicate_succ', List.append_assoc]
  rw [List.set_append]
  simp [bys]

set_option maxRecDepth 20000 in
set_option maxHeartbeats 1000000 in
theorem copyBytes_any (A : Option Addr) (m c B : Nat) (b : List UInt8) (w : World) (hB : B ≤ w.heap.size) (hb : Rd w B 1 A m (bys b)) (hm : m ≤ 4294967296) :
    Calls Tryd.prog 37 #[.slice A m c] w fun e w' => ∃ A' c', e = .returned (.slice A' m c') ∧ w'.ownsRow w.heap.size 5 1 (.slice A' m c') m (bys b) ∧ Below w.heap.size w w' := by
  have hbl : b.length = m := by simpa [bys] using hb.len1
  rcases Nat.eq_zero_or_pos m with rfl | hpos
  · have hb0 : b = [] := List.eq_nil_of_length_eq_zero hbl
    subst hb0
    clear hb hbl
    go_enter Tryd.func37, Tryd.ntmps37
    go_wp2
    go_ret
    exact ⟨none, 0, rfl, World.ownsRow_nil _ _ _ _, Below.refl _ _⟩
  have hne : decide (m = 0) = false := by simp; omega
  obtain ⟨i, hi, hz0, hz1, hz2⟩ := info_parts byteInfo
  have Hb := hide hb
  have Hbl := hide hbl
  have Hi := hide hi
  have Hz0 := hide hz0
  have Hz1 := hide hz1
  have Hz2 := hide hz2
  clear hb hbl hi hz0 hz1 hz2
  go_enter Tryd.func37, Tryd.ntmps37
  go_wp2_with (at_make; refine wpList_make_full _ rfl _ _ 22 rfl w.heap.size 5 i (.int .u8 0) 1 Tryd.underlying22 (unhide Hi) (unhide Hz0) (unhide Hz1) _ _ _ _ m rfl rfl rfl rfl (by rw [unhide Hz2]; omega) (by unfold maxLen; omega) (Nat.le_refl _) ?_; intro w1 hown hgrow; have hb1 := (Below.refl w.heap.size w).grown hgrow (Nat.le_refl _) (fun k hk => by cases hk); have Hown := hide hown; have Hb1 := hide hb1; clear hown hgrow hb1)
  go_loopw [4] (fun at_ wr => ∃ k : Nat, k ≤ m ∧ at_ = .int .i64 ((k : Int) - 1) ∧ wr.ownsRow w.heap.size 5 1 (.slice (some ⟨w.heap.size, 0, none⟩) m m) m (backTo b k) ∧ Below w.heap.size w wr) (fun at_ _ => (intOf at_ + 1).toNat)
  case atStart =>
    refine ⟨m, Nat.le_refl _, rfl, ?_, unhide Hb1⟩
    have := unhide Hown
    have e : (madeCells (Value.int .u8 0).cells (m * 1)).toList = backTo b m := by
      unfold backTo
      rw [List.drop_eq_nil_of_le (by rw [unhide Hbl]; exact Nat.le_refl _)]
      simp [bys, Value.cells, toList_madeCells_one]
    rwa [e] at this
  case round =>
  clear Hown Hb1
  obtain ⟨k, hk, rfl, hown, hb2⟩ := hrel
  have Hown := hide hown
  have Hb2 := hide hb2
  clear hown hb2
  by_cases hk0 : k = 0
  · subst hk0
    go_wp2
    go_ret
    refine ⟨_, _, rfl, ?_, unhide Hb2⟩
    have := unhide Hown
    simpa [backTo] using this
  · obtain ⟨j, rfl⟩ : ∃ j, k = j + 1 := ⟨k - 1, by omega⟩
    obtain ⟨x, hx⟩ : ∃ x, b[j]? = some x := ⟨_, List.getElem?_eq_getElem (by rw [unhide Hbl]; omega)⟩
    obtain ⟨ab, ao, rfl, hlt, hc⟩ := ((unhide Hb).below ((unhide Hb2).mono hB)).at_ (bys_at' hx)
    have hset := own_set (i := j) (unhide Hown) (.int .u8 x.toNat)
    rw [backTo_set hx] at hset
    have hcl : (backTo b (j + 1))[j]? = some (.int .u8 0) := by simp [backTo, List.getElem?_append]
    have hc2 := own_cell (unhide Hown) hcl
    have hf2 := own_free (unhide Hown) j
    have hge := own_at (unhide Hown)
    have e1 : ((j + 1 : Nat) : Int) - 1 = (j : Int) := by omega
    rw [e1]
    have Hset := hide hset
    clear hset hcl hx
    go_wp2
    go_roundw
    case rel => exact ⟨j, by omega, rfl, unhide Hset, (unhide Hb2).setCell (Nat.le_refl _) _⟩
    case measure => simp [intOf]

end Go.Proofs.YtfegfmapdekkbaaDoor
namespace Go.Proofs.YtfegfmapdekkbaaDoor
set_option linter.unusedVariables false
set_option linter.unusedSimpArgs false
open Go.RowKit

theorem u32Ty : SlTy Tryd.prog 40 39 1 4 := slTy_mk (z := .int .u32 0) Tryd.underlying40 (by kernel_rfl) rfl (by omega) (by omega)
theorem entTy : SlTy Tryd.prog 38 69 7 72 := slTy_mk (z := .agg #[.string ⟨#[]⟩, .int .u8 0, .int .u16 0, .int .u32 0, .int .u32 0, .slice none 0 0, .string ⟨#[]⟩]) Tryd.underlying38 (by kernel_rfl) rfl (by omega) (by omega)
theorem u32_one (l : List Nat) : ∀ u ∈ l.map u32v, u.oneCell' = true := by
  intro u hu
  obtain ⟨x, _, rfl⟩ := List.mem_map.1 hu
  rfl
theorem credInfo : (Tryd.prog.info? 42).map (·.size) = some 5 := by kernel_rfl

/-- How great: what Large says where it says no. -/
def LgE (l : List EntA) (n : Nat) (w : World) (e : Ending) (w' : World) : Prop :=
  ∃ b q, e = .returned (.bool b) ∧ (b = false → n ≤ 262144 ∧ ∀ s ∈ l, s.e.path.size ≤ 262144 ∧ s.n ≤ 262144 ∧ s.e.to.size ≤ 262144) ∧ w' = w.drewN q
set_option maxRecDepth 100000 in
set_option maxHeartbeats 1000000 in
theorem large_any (l : List EntA) (A : Option Addr) (n c B : Nat) (w : World) (h : Rd w B 7 A n (rowCs entVals l)) (hl : l.length = n) (hn : n ≤ maxLen) (hsz : ∀ s ∈ l, s.e.path.size ≤ maxLen ∧ s.n ≤ maxLen ∧ s.e.to.size ≤ maxLen) :
    Calls Tryd.prog 18 #[.slice A n c] w (LgE l n w) := by
  have H := hide h
  have Hl := hide hl
  have Hsz := hide hsz
  unfold maxLen at hn
  clear h hl hsz
  go_enter Tryd.func18, Tryd.ntmps18
  go_wp2_with fail
  go_loopg [3, 4] n (fun gk av iv wr => ∃ (k a q : Nat), gk = n - k ∧ k ≤ n ∧ iv = .int .i64 (k : Nat) ∧ av = .int .i64 (a : Nat) ∧ n ≤ a ∧ (k = 0 ∧ a = n ∨ a ≤ 1835008) ∧ (∀ s ∈ l.take k, min s.e.path.size 524288 ≤ a ∧ min s.n 524288 ≤ a ∧ min s.e.to.size 524288 ≤ a) ∧ wr = w.drewN q)
  case atStart => exact ⟨0, n, 0, by omega, Nat.zero_le _, rfl, rfl, Nat.le_refl _, .inl ⟨rfl, rfl⟩, by simp, rfl⟩
  case round =>
  obtain ⟨k, a, q, hgk, hk, rfl, rfl, hna, hab, hall, rfl⟩ := hrel
  have Hgk := hide hgk
  have Hall := hide hall
  clear hgk hall
  by_cases hgo : k < n ∧ a ≤ 262144
  · obtain ⟨hlt, ha⟩ := hgo
    obtain ⟨s, hs⟩ : ∃ s, l[k]? = some s := ⟨_, List.getElem?_eq_getElem (by rw [unhide Hl]; exact hlt)⟩
    obtain ⟨b1, o1, rfl, hb1, c1⟩ := (unhide H).open_ (by
      intro h0
      have := rowCs_len (vals := entVals) (size := 7) (fun _ => rfl) l
      rw [h0, unhide Hl] at this
      simp at this
      omega)
    have hc : ∀ j u, (entVals s)[j]? = some u → w.cell? ⟨b1, o1 + (k * 7 + j), none⟩ = some u := by
      intro j u hu
      have hj : j < 7 := (List.getElem?_eq_some_iff.1 hu).1
      refine c1 _ _ ?_
      rw [rowCs_at (vals := entVals) (size := 7) (fun _ => rfl) l k s hs j hj, hu]
    have x0 := hc 0 _ rfl
    have x5 := hc 5 _ rfl
    have x6 := hc 6 _ rfl
    rw [Nat.add_zero] at x0
    simp only [← Nat.add_assoc] at x5 x6
    obtain ⟨z0, z5, z6⟩ := (unhide Hsz) s (List.mem_of_getElem? hs)
    unfold maxLen at z0 z5 z6
    obtain ⟨m0, hm0⟩ : ∃ m, min s.e.path.size 524288 = m := ⟨_, rfl⟩
    obtain ⟨m5, hm5⟩ : ∃ m, min s.n 524288 = m := ⟨_, rfl⟩
    obtain ⟨m6, hm6⟩ : ∃ m, min s.e.to.size 524288 = m := ⟨_, rfl⟩
    have r0 : min (s.e.path.size : Int) 524288 = (m0 : Int) := by omega
    have r5 : min (s.n : Int) 524288 = (m5 : Int) := by omega
    have r6 : min (s.e.to.size : Int) 524288 = (m6 : Int) := by omega
    have u0 : m0 ≤ 524288 := by omega
    have u5 : m5 ≤ 524288 := by omega
    have u6 : m6 ≤ 524288 := by omega
    have w1 : IntKind.i64.wrap ((a : Int) + (m0 : Int)) = (a : Int) + (m0 : Int) := IntWalk.i64_in _ (by omega)
    have w2 : IntKind.i64.wrap ((a : Int) + (m0 : Int) + (m5 : Int)) = (a : Int) + (m0 : Int) + (m5 : Int) := IntWalk.i64_in _ (by omega)
    have w3 : IntKind.i64.wrap ((a : Int) + (m0 : Int) + (m5 : Int) + (m6 : Int)) = (a : Int) + (m0 : Int) + (m5 : Int) + (m6 : Int) := IntWalk.i64_in _ (by omega)
    have i1 : (k : Int) < (n : Int) := by omega
    have i0 : (0 : Int) ≤ (k : Int) := by omega
    have i2 : (a : Int) ≤ 262144 := by omega
    have Hs := hide hs
    have Hm := hide (And.intro hm0 (And.intro hm5 hm6))
    clear hc c1 hs hm0 hm5 hm6 z0 z5 z6 hab
    go_wp2_with fail
    go_quiet (fail)
    go_wp2_with fail
    go_roundg (n - (k + 1))
    case rel =>
      refine ⟨k + 1, a + m0 + m5 + m6, q + nq, rfl, by omega, by go_num, by go_num, by omega, .inr (by omega), ?_, ?_⟩
      · intro t ht
        rw [List.take_add_one, unhide Hs] at ht
        obtain ⟨e0, e5, e6⟩ := unhide Hm
        rcases List.mem_append.1 ht with ht | ht
        · have := (unhide Hall) t ht
          omega
        · have : t = s := by simpa using ht
          subst this
          omega
      · simp [World.drewN, Nat.add_assoc]
    case measure => rw [unhide Hgk]; omega
  · have hor : (¬ (k : Int) < (n : Int)) ∨ ((k : Int) < (n : Int) ∧ ¬ (a : Int) ≤ 262144) := by omega
    have hres : (a ≤ 262144) → n ≤ 262144 ∧ ∀ s ∈ l, s.e.path.size ≤ 262144 ∧ s.n ≤ 262144 ∧ s.e.to.size ≤ 262144 := by
      intro ha
      have hkn : k = n := by omega
      refine ⟨by omega, fun s hs => ?_⟩
      have h1 := (unhide Hall) s (by rw [List.take_of_length_le (by rw [unhide Hl]; omega)]; exact hs)
      omega
    have Hres := hide hres
    clear hgo hres hab
    by_cases hbig : 262144 < a
    · have i2 : (262144 : Int) < (a : Int) := by omega
      rcases hor with h1 | ⟨h1, h2⟩
      all_goals
        go_wp2_with fail
        go_ret
        exact ⟨true, q, rfl, fun h => absurd h (by decide), rfl⟩
    · have i2 : ¬ (262144 : Int) < (a : Int) := by omega
      have Hbig := hide hbig
      rcases hor with h1 | ⟨h1, h2⟩
      · clear hbig
        go_wp2_with fail
        go_ret
        exact ⟨false, q, rfl, fun _ => (unhide Hres) (by have := unhide Hbig; omega), rfl⟩
      · exact absurd h2 (by omega)
end Go.Proofs.YtfegfmapdekkbaaDoor
namespace Go.Proofs.YtfegfmapdekkbaaDoor
set_option linter.unusedVariables false
set_option linter.unusedSimpArgs false
open Go.RowKit

/-- Entries in memory made since w: each with bytes of its own. -/
structure CpS (w : World) (es : List Vf.Ent) (A : Option Addr) (c : Nat) (l' : List EntA) (W : World) : Prop where
  map : l'.map (·.e) = es
  row : W.ownsRow w.heap.size 69 7 (.slice A l'.length c) l'.length (rowCs entVals l')
  dat : ∀ s ∈ l', W.ownsRow w.heap.size 5 1 (.slice s.A s.n s.c) s.n (bys s.e.data)
  apart : l'.Pairwise (fun s t => ∀ g, (Value.slice s.A s.n s.c).ownBlock = some g → (Value.slice t.A t.n t.c).ownBlock ≠ some g)
  bel : Below w.heap.size w W
section
variable {w W W' : World} {es : List Vf.Ent} {A : Option Addr} {c : Nat} {l' : List EntA}
theorem CpS.keep (h : CpS w es A c l' W) (hk : ∀ k, w.heap.size ≤ k → k < W.heap.size → W'.heap[k]? = W.heap[k]?) (hb : Below w.heap.size w W') : CpS w es A c l' W' :=
  ⟨h.map, own_keepA h.row hk, fun s hs => own_keepA (h.dat s hs) hk, h.apart, hb⟩
theorem CpS.below (h : CpS w es A c l' W) (hb : Below W.heap.size W W') : CpS w es A c l' W' := h.keep (fun k _ hk => hb.block k hk) (h.bel.trans (hb.mono h.bel.size))
theorem CpS.len (h : CpS w es A c l' W) : l'.length = es.length := by rw [← h.map, List.length_map]
end
theorem row_blkS {w : World} {base n c k size : Nat} {e : TypeId} {A : Option Addr} {xs : List Value} (h : w.ownsRow base e size (.slice A n c) n xs) (hk : (Value.slice A n c).ownBlock = some k) : ∃ cs, w.heap[k]? = some (.cells cs e (0, 0)) := by
  rcases h.2 with ⟨h1, h2⟩ | ⟨g, cap, cur, hv, hbg, hh, hcap⟩
  · rw [h1] at hk; cases hk
  · rw [hv] at hk
    have : g = k := by simpa [Value.ownBlock] using hk
    exact ⟨cur, this ▸ hh⟩
theorem own_tyne {w : World} {base base2 n c n2 c2 size size2 : Nat} {e e2 : TypeId} {A A2 : Option Addr} {xs xs2 : List Value} (h : w.ownsRow base e size (.slice A n c) n xs) (h2 : w.ownsRow base2 e2 size2 (.slice A2 n2 c2) n2 xs2) (hne : e ≠ e2) : (Value.slice A n c).ownBlock = none ∨ (Value.slice A n c).ownBlock ≠ (Value.slice A2 n2 c2).ownBlock := by
  cases hv : (Value.slice A n c).ownBlock with
  | none => exact .inl rfl
  | some k =>
    refine .inr fun e0 => ?_
    obtain ⟨cs, h3⟩ := row_blkS h hv
    obtain ⟨cs2, h4⟩ := row_blkS h2 e0.symm
    rw [h3] at h4
    injection h4 with h4
    injection h4 with _ h5
    exact hne h5
/-- One entry more, its bytes in a row made since. -/
theorem CpS.next {w W0 W W' : World} {es : List Vf.Ent} {A0 A : Option Addr} {c0 c : Nat} {l' : List EntA} (h0 : CpS w es A c l' W0) (h : CpS w es A c l' W) (s : EntA) (hd : W.ownsRow (W0.heap.size + 1) 5 1 (.slice s.A s.n s.c) s.n (bys s.e.data)) (hlo : w.heap.size ≤ W0.heap.size)
    (A' : Option Addr) (c' : Nat) (hr : W'.ownsRow w.heap.size 69 7 (.slice A' (l'.length + 1) c') (l'.length + 1) (rowCs entVals l' ++ entVals s)) (hg : W.grownBy W' (Value.slice A l'.length c).ownBlock) : CpS w (es ++ [s.e]) A' c' (l' ++ [s]) W' := by
  have hne : (5 : TypeId) ≠ 69 := by decide
  refine ⟨by rw [List.map_append, h.map]; rfl, ?_, ?_, ?_, h.bel.grown hg h.bel.size (fun k hk => (h.row.lt k hk).1)⟩
  · rw [List.length_append, rowCs_app]
    have e1 : rowCs entVals [s] = entVals s := by simp [rowCs]
    rw [e1]
    exact hr
  · intro t ht
    rcases List.mem_append.1 ht with ht | ht
    · exact (h.dat t ht).kept hg (own_tyne (h.dat t ht) h.row hne)
    · have e1 : t = s := by simpa using ht
      subst e1
      exact own_base (hd.kept hg (own_tyne hd h.row hne)) (by omega)
  · rw [List.pairwise_append]
    refine ⟨h.apart, by simp, fun t ht u hu g hg2 e => ?_⟩
    have e1 : u = s := by simpa using hu
    subst e1
    have a1 := ((h0.dat t ht).lt g hg2).2
    have a2 := (hd.lt g e).1
    omega
def CpE (es : List Vf.Ent) (w : World) (e : Ending) (w' : World) : Prop := ∃ A c l', e = .returned (.slice A es.length c) ∧ CpS w es A c l' w'
theorem entC_one (s : EntA) : ∀ u ∈ (entVals s), u.oneCell' = true := by
  intro u hu
  simp only [entVals, entC, List.mem_cons, List.not_mem_nil, or_false] at hu
  rcases hu with rfl | rfl | rfl | rfl | rfl | rfl | rfl <;> rfl

set_option maxRecDepth 100000 in
set_option maxHeartbeats 4000000 in
theorem copyEnts_any (l : List EntA) (A : Option Addr) (n c B : Nat) (w : World) (h : Rd w B 7 A n (rowCs entVals l)) (hB : B ≤ w.heap.size) (hl : l.length = n) (hn : n ≤ 4294967296) (hok : ∀ s ∈ l, Rd w B 1 s.A s.n (bys s.e.data) ∧ s.n ≤ 4294967296) :
    Calls Tryd.prog 20 #[.slice A n c] w (CpE (l.map (·.e)) w) := by
  have H := hide h
  have Hl := hide hl
  have Hok := hide hok
  clear h hl hok
  go_enter Tryd.func20, Tryd.ntmps20
  go_wp2_with fail
  go_loopg [3, 4] n (fun gk lv iv wr => ∃ (k : Nat) (A1 : Option Addr) (c1 : Nat) (l1 : List EntA), gk = n - k ∧ k ≤ n ∧ l1.length = k ∧ iv = .int .i64 (k : Nat) ∧ lv = .slice A1 k c1 ∧ CpS w ((l.take k).map (·.e)) A1 c1 l1 wr)
  case atStart => exact ⟨0, none, 0, [], by omega, Nat.zero_le _, rfl, rfl, rfl, rfl, World.ownsRow_nil _ _ _ _, by simp, by simp, Below.refl _ _⟩
  case round =>
  obtain ⟨k, A1, c1, l1, hgk, hk, hl1, rfl, rfl, hS⟩ := hrel
  have Hgk := hide hgk
  have Hl1 := hide hl1
  have HS := hide hS
  have hsz := hS.bel.size
  clear hgk hS hl1
  by_cases hlt : k < n
  · obtain ⟨s, hs⟩ : ∃ s, l[k]? = some s := ⟨_, List.getElem?_eq_getElem (by rw [unhide Hl]; exact hlt)⟩
    obtain ⟨b1, o1, rfl, hb1, cc1⟩ := (unhide H).open_ (by
      intro h0
      have := rowCs_len (vals := entVals) (size := 7) (fun _ => rfl) l
      rw [h0, unhide Hl] at this
      simp at this
      omega)
    have hc : ∀ j u, (entVals s)[j]? = some u → wr.cell? ⟨b1, o1 + (k * 7 + j), none⟩ = some u := by
      intro j u hu
      have hj : j < 7 := (List.getElem?_eq_some_iff.1 hu).1
      refine ((unhide HS).bel.cell (p := ⟨b1, _, none⟩) (Nat.lt_of_lt_of_le hb1 hB)).trans (cc1 _ _ ?_)
      rw [rowCs_at (vals := entVals) (size := 7) (fun _ => rfl) l k s hs j hj, hu]
    have x0 := hc 0 _ rfl
    have x1 := hc 1 _ rfl
    have x2 := hc 2 _ rfl
    have x3 := hc 3 _ rfl
    have x4 := hc 4 _ rfl
    have x5 := hc 5 _ rfl
    have x6 := hc 6 _ rfl
    rw [Nat.add_zero] at x0
    simp only [← Nat.add_assoc] at x1 x2 x3 x4 x5 x6
    obtain ⟨hd, hdn⟩ := (unhide Hok) s (List.mem_of_getElem? hs)
    have hbA : Below wr.heap.size wr (wr.alloc (.cells #[.string s.e.path, .int .u8 (s.e.kind : Nat), .int .u16 (s.e.mode : Nat), .int .u32 (s.e.uid : Nat), .int .u32 (s.e.gid : Nat), .slice s.A s.n s.c, .string s.e.to] 69)) := (Below.refl _ _).alloc (Nat.le_refl _) _
    have hbW := (unhide HS).bel.trans (hbA.mono hsz)
    have KC := hide (copyBytes_any s.A s.n s.c w.heap.size s.e.data (wr.alloc (.cells #[.string s.e.path, .int .u8 (s.e.kind : Nat), .int .u16 (s.e.mode : Nat), .int .u32 (s.e.uid : Nat), .int .u32 (s.e.gid : Nat), .slice s.A s.n s.c, .string s.e.to] 69)) hbW.size ((hd.more hB).below hbW) hdn)
    have ilt : (k : Int) < (n : Int) := by omega
    have Hs := hide hs
    have HbA := hide hbA
    clear hc cc1 hs hd hdn hbA hbW
    go_wp2_with fail
    refine (unhide KC).mono ?_
    rintro e w2 ⟨A2, c2, rfl, ho2, hb2⟩
    have hq : Blk w2 wr.heap.size 69 [.string s.e.path, .int .u8 (s.e.kind : Nat), .int .u16 (s.e.mode : Nat), .int .u32 (s.e.uid : Nat), .int .u32 (s.e.gid : Nat), .slice s.A s.n s.c, .string s.e.to] := (Blk.new wr 69 _).belowSz hb2
    have hq2 := hq.set 5 (.slice A2 s.n c2)
    have hb3 := (unhide HbA).trans (hb2.mono (by simp))
    have hb4 := hb3.setCell (p := ⟨wr.heap.size, 5, none⟩) (Nat.le_refl _) (.slice A2 s.n c2)
    have ho4 : (w2.setCell ⟨wr.heap.size, 5, none⟩ (.slice A2 s.n c2)).ownsRow (wr.heap.size + 1) 5 1 (.slice A2 s.n c2) s.n (bys s.e.data) := by
      rw [World.size_alloc] at ho2
      exact own_keepB' ho2 (fun g hg => heap_setCell_other _ _ _ _ (by have := (ho2.lt g hg).1; show g ≠ wr.heap.size; omega))
    obtain ⟨p0, p1, p2, p3, p4, p5, p6⟩ : w2.cell? ⟨wr.heap.size, 0, none⟩ = some (.string s.e.path) ∧ w2.cell? ⟨wr.heap.size, 1, none⟩ = some (.int .u8 (s.e.kind : Nat)) ∧ w2.cell? ⟨wr.heap.size, 2, none⟩ = some (.int .u16 (s.e.mode : Nat)) ∧ w2.cell? ⟨wr.heap.size, 3, none⟩ = some (.int .u32 (s.e.uid : Nat)) ∧ w2.cell? ⟨wr.heap.size, 4, none⟩ = some (.int .u32 (s.e.gid : Nat)) ∧ w2.cell? ⟨wr.heap.size, 5, none⟩ = some (.slice s.A s.n s.c) ∧ w2.cell? ⟨wr.heap.size, 6, none⟩ = some (.string s.e.to) := ⟨hq.cell rfl, hq.cell rfl, hq.cell rfl, hq.cell rfl, hq.cell rfl, hq.cell rfl, hq.cell rfl⟩
    have pf := hq.free 5
    have HS4 := hide ((unhide HS).below hb4)
    have Ho4 := hide ho4
    have Hb4 := hide hb4
    have hsz4 : wr.heap.size ≤ (w2.setCell ⟨wr.heap.size, 5, none⟩ (.slice A2 s.n c2)).heap.size := hb4.size
    have hszw : w.heap.size ≤ (w2.setCell ⟨wr.heap.size, 5, none⟩ (.slice A2 s.n c2)).heap.size := Nat.le_trans hsz hsz4
    have Hq2 := hide hq2
    have hrow4 := (unhide HS4).row
    rw [unhide Hl1] at hrow4
    have Hrow4 := hide hrow4
    have hent : (l.take (k + 1)).map (·.e) = (l.take k).map (·.e) ++ [s.e] := by
      rw [List.take_add_one, unhide Hs, List.map_append]
      rfl
    have Hent := hide hent
    clear x0 x1 x2 x3 x4 x5 x6 hb2 ho2 hq hq2 hb3 hb4 ho4 KC HbA hrow4 hent
    go_wp2_with (at_builtin; refine wpList_app1g entTy rfl _ _ rfl w.heap.size (.slice A1 k c1) k _ rfl (unhide Hrow4) #[.string s.e.path, .int .u8 (s.e.kind : Nat), .int .u16 (s.e.mode : Nat), .int .u32 (s.e.uid : Nat), .int .u32 (s.e.gid : Nat), .slice A2 s.n c2, .string s.e.to] _ rfl (by simp) rfl (entC_one ⟨s.e, A2, s.n, c2⟩) (by omega) hszw ?_; intro A5 c5 w5 ho5 hg5 hat5; have Ho5 := hide ho5; have Hg5 := hide hg5; clear ho5 hg5 hat5)
    go_roundg (n - (k + 1))
    case rel =>
      have hg5 := unhide Hg5
      refine ⟨k + 1, A5, c5, l1 ++ [⟨s.e, A2, s.n, c2⟩], rfl, by omega, by rw [List.length_append, unhide Hl1]; rfl, by go_num, rfl, ?_⟩
      rw [unhide Hent]
      exact CpS.next (A0 := A1) (c0 := c1) (unhide HS) (unhide HS4) ⟨s.e, A2, s.n, c2⟩ (unhide Ho4) hsz A5 c5 (by rw [unhide Hl1]; exact unhide Ho5) (by rw [unhide Hl1]; exact hg5)
    case measure => rw [unhide Hgk]; omega
  · have ilt : ¬ (k : Int) < (n : Int) := by omega
    have hkn : k = n := by omega
    go_wp2_with fail
    go_ret
    have hS := unhide HS
    rw [List.take_of_length_le (by rw [unhide Hl]; omega)] at hS
    refine ⟨A1, c1, l1, ?_, hS⟩
    rw [List.length_map, unhide Hl]
    first | rfl | rw [hkn]
end Go.Proofs.YtfegfmapdekkbaaDoor
