/- The reference's dir, and which entries it takes: the walks of dir, may. Conditions: as each says. The reference's New: what holds of its memory. No conditions beyond those named. The reference's New: the walk. Conditions: as it says. What made answers; the answers of the two News in one form. Conditions: as each says. The walk of ShebangSteps. Conditions: as the arguments'. The reference's Meta: the walk. Conditions: as it says. The reference's Read: the walk. Conditions: as it says. The reference's Walk: the walk. Conditions: as it says. hostelref21.Chain. Conditions: those of the file system and of the groups; there are fewer than 2^31 texts; each text and the path has fewer than 2^32 bytes. The walk of ShebangChains. Conditions: as the arguments'. -/
import Derived.Test.YtfegfmapdekkbaaGreatDoorSbB4
import Derived.Test.YtfegfmapdekkbaaGreatDoorSbB3
import Derived.Deep.RegionHeld3
import Derived.Test.YtfegfmapdekkbaaGreatDoorSbB2
namespace Go.Proofs.YtfegfmapdekkbaaGreatDoor
set_option linter.unusedVariables false
set_option linter.unusedSimpArgs false
open Go.RowKit

set_option maxRecDepth 100000 in
theorem rfdir_any (F : List Vf.Nd) (ls : List RPl) (base g c : Nat) (A : Option Addr) (ino : Int) (w : World) (h : RFs w base g A c F ls) (hn : F.length ≤ 65) (h0 : 0 < F.length) (r : Bool) (hr : r = decide (¬ (ino < 0 ∨ Vf.kindAt F ino.toNat ≠ 2))) :
    Calls Tryz.prog 50 #[.pointer (some ⟨g, 0, none⟩), .int .i64 ino] w fun e w' => e = .returned (.bool r) ∧ w = w' := by
  obtain ⟨b1, o1, rfl, _, hc⟩ := h.cells h0
  have v0 := h.fs.cell (i := 0) rfl
  obtain ⟨n, hfn⟩ : ∃ n, F.length = n := ⟨_, rfl⟩
  rw [hfn] at v0 hn
  have Hr := hide hr
  by_cases hneg : ino < 0
  · have i1 : ¬ (0 : Int) ≤ ino := by omega
    have hr0 : r = false := by rw [unhide Hr]; exact decide_eq_false (by simp [hneg])
    clear hr hc h
    go_enter Tryz.func50, Tryz.ntmps50
    go_wp2_with fail
    go_ret
    subst hr0
    exact ⟨rfl, rfl⟩
  · obtain ⟨i, rfl⟩ := Int.eq_ofNat_of_zero_le (show 0 ≤ ino by omega)
    have i0 : (0 : Int) ≤ (i : Int) := by omega
    by_cases hlt : i < n
    · obtain ⟨x, hx⟩ : ∃ x, F[i]? = some x := ⟨_, List.getElem?_eq_getElem (by rw [hfn]; exact hlt)⟩
      obtain ⟨p, hp, _⟩ := h.at_ hx
      have x0 := hc i x p hx hp 0 _ rfl
      rw [Nat.add_zero] at x0
      have ilt : (i : Int) < (n : Int) := by omega
      have hr0 : r = decide (x.m.kind = 2) := by
        rw [unhide Hr, Int.toNat_natCast, Vf.kindAt_eq hx]
        by_cases h2 : x.m.kind = 2
        · rw [decide_eq_true h2]; exact decide_eq_true (by omega)
        · rw [decide_eq_false h2]; exact decide_eq_false (by omega)
      by_cases h2 : x.m.kind = 2
      · have q2 : ((x.m.kind : Int) == 2) = true := by rw [h2]; rfl
        rw [decide_eq_true h2] at hr0
        clear h2 hx hp hc h hr
        go_enter Tryz.func50, Tryz.ntmps50
        go_wp2_with fail
        go_ret
        subst hr0
        exact ⟨rfl, rfl⟩
      · have q2 : ((x.m.kind : Int) == 2) = false := by rw [beq_eq_false_iff_ne]; omega
        rw [decide_eq_false h2] at hr0
        clear h2 hx hp hc h hr
        go_enter Tryz.func50, Tryz.ntmps50
        go_wp2_with fail
        go_ret
        subst hr0
        exact ⟨rfl, rfl⟩
    · have ilt : ¬ (i : Int) < (n : Int) := by omega
      have hr0 : r = false := by
        rw [unhide Hr]
        refine decide_eq_false ?_
        rw [Int.toNat_natCast]
        have : Vf.kindAt F i = 0 := by unfold Vf.kindAt; rw [List.getElem?_eq_none (by omega)]
        rw [this]
        omega
      clear hr hc h
      go_enter Tryz.func50, Tryz.ntmps50
      go_wp2_with fail
      go_ret
      subst hr0
      exact ⟨rfl, rfl⟩

theorem and2559 (n : Nat) (h : n < 65536) : (bits .and .u16 (n : Int) 2559 != (n : Int)) = !decide (n &&& 2559 = n) := by
  have e : (2559 : Int) = ((2559 : Nat) : Int) := rfl
  rw [e, u16_and_nat n 2559 h (by omega), bne, Bool.not_inj_iff, Bool.eq_iff_iff, beq_iff_eq, decide_eq_true_eq]
  omega

set_option maxRecDepth 100000 in
set_option maxHeartbeats 4000000 in
theorem mayR_any (x : Vf.Ent) (A : Option Addr) (n c : Nat) (w : World) (hd : x.data.length = n) (hn : n ≤ 4294967296) (hps : x.path.size ≤ 4294967296) (hto : x.to.size ≤ 4294967296) (hmd : x.mode < 65536) :
    Calls Tryz.prog 17 #[entV x A n c] w fun e w' => e = .returned (.int .i64 (Vf.may x)) ∧ Below w.heap.size w w' := by
  have hb0 : Below w.heap.size w (w.alloc (.cells (entC x A n c).toArray 51)) := (Below.refl _ _).alloc (Nat.le_refl _) _
  have hbk : Blk (w.alloc (.cells (entC x A n c).toArray 51)) w.heap.size 51 (entC x A n c) := Blk.new w 51 _
  have KP := hide (rparts_any x.path (by omega) (w.alloc (.cells (entC x A n c).toArray 51)))
  have KT := hide (fun w' => rtail_any x.path (by omega) w')
  have KK := hide (fun w' => rcheck_any x.to (by omega) w')
  have hand := and2559 x.mode hmd
  have hmay : Vf.may x = if ¬ (1 ≤ x.kind ∧ x.kind ≤ 3) ∨ x.mode &&& 2559 ≠ x.mode then 1
    else if Pth.chk x.path ≠ 0 ∨ Pth.rootB x.path = false ∨ (Pth.partsL x.path).isEmpty = true ∨ Pth.tailB x.path = true ∨ (Pth.partsL x.path).any (fun y => decide (y = Vf.dd)) = true then 1
    else if (x.kind ≠ 1 ∧ x.data ≠ []) ∨ (x.kind ≠ 3 ∧ x.to.size ≠ 0) ∨ (x.kind = 3 ∧ Pth.chk x.to ≠ 0) then 1
    else if 65536 < x.data.length then 12 else 0 := rfl
  have hdn : x.data ≠ [] ↔ 0 < n := by rw [← hd, List.length_pos_iff]
  simp only [hdn] at hmay
  rw [hd] at hmay
  have hpl2 := Vf.parts_len x.path
  obtain ⟨ck, hck⟩ : ∃ b, Pth.chk x.path = b := ⟨_, rfl⟩
  obtain ⟨tb, htb⟩ : ∃ b, Pth.rootB x.path = b := ⟨_, rfl⟩
  obtain ⟨pl, hpl⟩ : ∃ l, Pth.partsL x.path = l := ⟨_, rfl⟩
  obtain ⟨tl, htl⟩ : ∃ b, Pth.tailB x.path = b := ⟨_, rfl⟩
  obtain ⟨ct, hct⟩ : ∃ b, Pth.chk x.to = b := ⟨_, rfl⟩
  obtain ⟨np, hnp⟩ : ∃ n, pl.length = n := ⟨_, rfl⟩
  have hpe : pl.isEmpty = true ↔ np = 0 := by rw [← hnp, List.isEmpty_iff_length_eq_zero]
  simp only [hck, htb, hpl, htl, hct, hpe] at hmay
  rw [hck, htb, hpl, hnp] at KP
  rw [htl] at KT
  rw [hct] at KK
  rw [hpl, hnp] at hpl2
  obtain ⟨mv, hmv⟩ : ∃ v, Vf.may x = v := ⟨_, rfl⟩
  rw [hmv] at hmay ⊢
  have Hmay := hide hmay
  have Hb0 := hide hb0
  have Hbk := hide hbk
  have Hnp := hide hnp
  have hemp : x.to.toList.isEmpty = decide (x.to.size = 0) := isEmpty_toList x.to
  unfold entV
  unfold entC at KP
  have hbe : ∀ j v, [Value.string x.path, .int .u8 (x.kind : Nat), .int .u16 (x.mode : Nat), .int .u32 (x.uid : Nat), .int .u32 (x.gid : Nat), .slice A n c, .string x.to][j]? = some v → (w.alloc (.cells (entC x A n c).toArray 51)).cell? ⟨w.heap.size, j, none⟩ = some v := fun j v hj => hbk.cell hj
  have u1 := hbe 1 _ rfl
  have u2 := hbe 2 _ rfl
  clear hmay hd hdn hpl hck htb htl hct hpe hnp hb0 hbk hps hto hmv hbe
  have hkn : x.kind = 1 ∨ x.kind = 2 ∨ x.kind = 3 ∨ ¬ (1 ≤ x.kind ∧ x.kind ≤ 3) := by omega
  have bad : ∀ w' : World, mv = 1 → Below w.heap.size w w' → Ending.returned (Value.int .i64 1) = .returned (.int .i64 mv) ∧ Below w.heap.size w w' := fun w' h hb => ⟨by rw [h], hb⟩
  have Bad := hide bad
  clear bad
  by_cases hk4 : 1 ≤ x.kind ∧ x.kind ≤ 3
  case neg =>
    have q1 : ((x.kind : Int) != 1) = true := by simp; omega
    have q2 : ((x.kind : Int) != 2) = true := by simp; omega
    have q3 : ((x.kind : Int) != 3) = true := by simp; omega
    have hm : mv = 1 := by rw [unhide Hmay, if_pos (.inl hk4)]
    have Hm := hide hm
    clear hm hk4 hkn hemp KP hand
    go_enter Tryz.func17, Tryz.ntmps17
    go_wp2_with fail
    go_ret
    exact (unhide Bad) _ (unhide Hm) (unhide Hb0)
  by_cases k3 : x.mode &&& 2559 = x.mode
  case neg =>
    have hm : mv = 1 := by rw [unhide Hmay, if_pos (.inr k3)]
    rw [decide_eq_false k3] at hand
    have Hm := hide hm
    rcases hkn with hk | hk | hk | hk
    · have q1 : ((x.kind : Int) != 1) = false := by rw [hk]; rfl
      clear hm k3 hk4 hk hemp KP
      go_enter Tryz.func17, Tryz.ntmps17
      go_wp2_with fail
      go_ret
      exact (unhide Bad) _ (unhide Hm) (unhide Hb0)
    · have q1 : ((x.kind : Int) != 1) = true := by rw [hk]; rfl
      have q2 : ((x.kind : Int) != 2) = false := by rw [hk]; rfl
      clear hm k3 hk4 hk hemp KP
      go_enter Tryz.func17, Tryz.ntmps17
      go_wp2_with fail
      go_ret
      exact (unhide Bad) _ (unhide Hm) (unhide Hb0)
    · have q1 : ((x.kind : Int) != 1) = true := by rw [hk]; rfl
      have q2 : ((x.kind : Int) != 2) = true := by rw [hk]; rfl
      have q3 : ((x.kind : Int) != 3) = false := by rw [hk]; rfl
      clear hm k3 hk4 hk hemp KP
      go_enter Tryz.func17, Tryz.ntmps17
      go_wp2_with fail
      go_ret
      exact (unhide Bad) _ (unhide Hm) (unhide Hb0)
    · exact absurd hk4 hk
  rw [decide_eq_true k3] at hand
  have hmay2 := unhide Hmay
  rw [if_neg (by rintro (h | h); exact h hk4; exact h k3)] at hmay2
  have Hmay2 := hide hmay2
  clear k3 Hmay hmay2
  rcases hkn with hk | hk | hk | hk
  · have q1 : ((x.kind : Int) != 1) = false := by rw [hk]; rfl
    have q2 : ((x.kind : Int) != 2) = true := by rw [hk]; rfl
    have q3 : ((x.kind : Int) != 3) = true := by rw [hk]; rfl
    have q4 : ((x.kind : Int) == 3) = false := by rw [hk]; rfl
    have Hkk := hide hk
    clear hk hk4
    go_enter Tryz.func17, Tryz.ntmps17
    go_wp2_with fail
    refine (unhide KP).mono ?_
    rintro e w1 ⟨A1, c1, rfl, ho1, hb1⟩
    have hbk1 := (unhide Hbk).belowSz hb1
    have hlt1 : w.heap.size < w1.heap.size := hbk1.lt
    obtain ⟨v0, v1, v5, v6⟩ : w1.cell? ⟨w.heap.size, 0, none⟩ = some (.string x.path) ∧ w1.cell? ⟨w.heap.size, 1, none⟩ = some (.int .u8 (x.kind : Nat)) ∧ w1.cell? ⟨w.heap.size, 5, none⟩ = some (.slice A n c) ∧ w1.cell? ⟨w.heap.size, 6, none⟩ = some (.string x.to) := ⟨hbk1.cell rfl, hbk1.cell rfl, hbk1.cell rfl, hbk1.cell rfl⟩
    have Hb1 := hide ((unhide Hb0).trans (hb1.mono (by simp)))
    have Hr1 := hide (Rd.of_own ho1)
    clear hb1 ho1 hbk1 KP u1 u2 hand
    by_cases k4 : ck = 0
    case neg =>
      have hm : mv = 1 := by rw [unhide Hmay2, if_pos (.inl k4)]
      have b4 : (ck != 0) = true := by simp [k4]
      have Hm := hide hm
      clear hm k4 hemp
      go_wp2_with fail
      go_ret
      exact (unhide Bad) _ (unhide Hm) (unhide Hb1)
    subst k4
    have b4 : ((0 : Int) != 0) = false := rfl
    cases tb with
    | false =>
      have hm : mv = 1 := by rw [unhide Hmay2, if_pos (.inr (.inl rfl))]
      have Hm := hide hm
      clear hm hemp
      go_wp2_with fail
      go_ret
      exact (unhide Bad) _ (unhide Hm) (unhide Hb1)
    | true =>
    by_cases k5 : np = 0
    · have hm : mv = 1 := by rw [unhide Hmay2, if_pos (.inr (.inr (.inl k5)))]
      have b5 : ((np : Int) == 0) = true := by rw [k5]; rfl
      have Hm := hide hm
      clear hm hemp k5
      go_wp2_with fail
      go_ret
      exact (unhide Bad) _ (unhide Hm) (unhide Hb1)
    have b5 : ((np : Int) == 0) = false := by rw [beq_eq_false_iff_ne]; omega
    cases tl with
    | true =>
      have hm : mv = 1 := by rw [unhide Hmay2, if_pos (.inr (.inr (.inr (.inl rfl))))]
      have Hm := hide hm
      clear hm hemp k5
      go_wp2_with fail
      refine ((unhide KT) _).mono ?_
      rintro e w2 ⟨rfl, rfl⟩
      go_wp2_with fail
      go_ret
      exact (unhide Bad) _ (unhide Hm) (unhide Hb1)
    | false =>
    have Hk5 := hide k5
    clear k5
    go_wp2_with fail
    refine ((unhide KT) _).mono ?_
    rintro e w2 ⟨rfl, rfl⟩
    go_wp2_with fail
    go_loop [6] (fun iv => ∃ k : Nat, k ≤ np ∧ iv = .int .i64 (k : Nat) ∧ (pl.take k).any (fun y => decide (y = Vf.dd)) = false) (fun iv => np - (intOf iv).toNat)
    case atStart => exact ⟨0, Nat.zero_le _, rfl, rfl⟩
    case round =>
    obtain ⟨k, hk, rfl, hno⟩ := hrel
    have Hno := hide hno
    clear hno
    by_cases hlt : k < np
    · obtain ⟨nm, hnm⟩ : ∃ nm, pl[k]? = some nm := ⟨_, List.getElem?_eq_getElem (by rw [unhide Hnp]; exact hlt)⟩
      obtain ⟨bL, oL, rfl, _, cL⟩ := (unhide Hr1).at_ (k := k) (u := .string nm) (by simp [hnm])
      have i1 : (k : Int) < (np : Int) := by omega
      have hdq : (nm.toList == [46, 46]) = decide (nm = Vf.dd) := by
        have h := beq_toList nm Vf.dd
        rwa [show Vf.dd.toList = [46, 46] by rw [Lib.toList_data]; rfl] at h
      by_cases hdd : nm = Vf.dd
      · rw [decide_eq_true hdd] at hdq
        have hany : pl.any (fun y => decide (y = Vf.dd)) = true := List.any_eq_true.2 ⟨nm, List.mem_of_getElem? hnm, by simpa using hdd⟩
        have hm : mv = 1 := by rw [unhide Hmay2, if_pos (.inr (.inr (.inr (.inr hany))))]
        have Hm := hide hm
        clear hm hemp hdd hnm hany
        go_wp2_with fail
        go_ret
        exact (unhide Bad) _ (unhide Hm) (unhide Hb1)
      · rw [decide_eq_false hdd] at hdq
        have hnx : (pl.take (k + 1)).any (fun y => decide (y = Vf.dd)) = false := by
          rw [List.take_add_one, hnm, List.any_append, unhide Hno]
          simp [hdd]
        have Hnx := hide hnx
        clear hnx hemp hdd hnm
        go_wp2_with fail
        go_round
        case rel => exact ⟨k + 1, by omega, by go_num, unhide Hnx⟩
        case measure => simp [intOf]; omega
    · have i1 : ¬ (k : Int) < (np : Int) := by omega
      have hall : pl.any (fun y => decide (y = Vf.dd)) = false := by
        have := unhide Hno
        rwa [List.take_of_length_le (by rw [unhide Hnp]; omega)] at this
      have hmay3 := unhide Hmay2
      rw [if_neg (by rw [hall]; have := unhide Hk5; simp [this])] at hmay3
      have Hmay3 := hide hmay3
      clear hall hmay3 Hno
      by_cases k8 : x.to.size = 0
      · rw [decide_eq_true k8] at hemp
        have hto2 : x.to.toList = [] := List.isEmpty_iff.1 hemp
        have hn1 : ¬ ((x.kind ≠ 1 ∧ 0 < n) ∨ (x.kind ≠ 3 ∧ x.to.size ≠ 0) ∨ (x.kind = 3 ∧ ct ≠ 0)) := by have := unhide Hkk; omega
        have Hn1 := hide hn1
        clear hn1 k8
        by_cases k9 : 65536 < n
        · have hm : mv = 12 := by rw [unhide Hmay3, if_neg (unhide Hn1), if_pos k9]
          have b9 : (65536 : Int) < (n : Int) := by omega
          have Hm := hide hm
          clear hm k9
          go_wp2_with fail
          go_ret
          exact (have hv := unhide Hm; by subst hv; exact ⟨rfl, (unhide Hb1)⟩)
        · have hm : mv = 0 := by rw [unhide Hmay3, if_neg (unhide Hn1), if_neg k9]
          have b9 : ¬ (65536 : Int) < (n : Int) := by omega
          have Hm := hide hm
          clear hm k9
          go_wp2_with fail
          go_ret
          exact (have hv := unhide Hm; by subst hv; exact ⟨rfl, (unhide Hb1)⟩)
      · rw [decide_eq_false k8] at hemp
        have hto2 : ¬ x.to.toList = [] := fun h => by rw [h] at hemp; cases hemp
        have hm : mv = 1 := by rw [unhide Hmay3, if_pos (.inr (.inl ⟨by have := unhide Hkk; omega, k8⟩))]
        have Hm := hide hm
        clear hm
        go_wp2_with fail
        go_ret
        exact (unhide Bad) _ (unhide Hm) (unhide Hb1)
  · have q1 : ((x.kind : Int) != 1) = true := by rw [hk]; rfl
    have q2 : ((x.kind : Int) != 2) = false := by rw [hk]; rfl
    have q3 : ((x.kind : Int) != 3) = true := by rw [hk]; rfl
    have q4 : ((x.kind : Int) == 3) = false := by rw [hk]; rfl
    have Hkk := hide hk
    clear hk hk4
    go_enter Tryz.func17, Tryz.ntmps17
    go_wp2_with fail
    refine (unhide KP).mono ?_
    rintro e w1 ⟨A1, c1, rfl, ho1, hb1⟩
    have hbk1 := (unhide Hbk).belowSz hb1
    have hlt1 : w.heap.size < w1.heap.size := hbk1.lt
    obtain ⟨v0, v1, v5, v6⟩ : w1.cell? ⟨w.heap.size, 0, none⟩ = some (.string x.path) ∧ w1.cell? ⟨w.heap.size, 1, none⟩ = some (.int .u8 (x.kind : Nat)) ∧ w1.cell? ⟨w.heap.size, 5, none⟩ = some (.slice A n c) ∧ w1.cell? ⟨w.heap.size, 6, none⟩ = some (.string x.to) := ⟨hbk1.cell rfl, hbk1.cell rfl, hbk1.cell rfl, hbk1.cell rfl⟩
    have Hb1 := hide ((unhide Hb0).trans (hb1.mono (by simp)))
    have Hr1 := hide (Rd.of_own ho1)
    clear hb1 ho1 hbk1 KP u1 u2 hand
    by_cases k4 : ck = 0
    case neg =>
      have hm : mv = 1 := by rw [unhide Hmay2, if_pos (.inl k4)]
      have b4 : (ck != 0) = true := by simp [k4]
      have Hm := hide hm
      clear hm k4 hemp
      go_wp2_with fail
      go_ret
      exact (unhide Bad) _ (unhide Hm) (unhide Hb1)
    subst k4
    have b4 : ((0 : Int) != 0) = false := rfl
    cases tb with
    | false =>
      have hm : mv = 1 := by rw [unhide Hmay2, if_pos (.inr (.inl rfl))]
      have Hm := hide hm
      clear hm hemp
      go_wp2_with fail
      go_ret
      exact (unhide Bad) _ (unhide Hm) (unhide Hb1)
    | true =>
    by_cases k5 : np = 0
    · have hm : mv = 1 := by rw [unhide Hmay2, if_pos (.inr (.inr (.inl k5)))]
      have b5 : ((np : Int) == 0) = true := by rw [k5]; rfl
      have Hm := hide hm
      clear hm hemp k5
      go_wp2_with fail
      go_ret
      exact (unhide Bad) _ (unhide Hm) (unhide Hb1)
    have b5 : ((np : Int) == 0) = false := by rw [beq_eq_false_iff_ne]; omega
    cases tl with
    | true =>
      have hm : mv = 1 := by rw [unhide Hmay2, if_pos (.inr (.inr (.inr (.inl rfl))))]
      have Hm := hide hm
      clear hm hemp k5
      go_wp2_with fail
      refine ((unhide KT) _).mono ?_
      rintro e w2 ⟨rfl, rfl⟩
      go_wp2_with fail
      go_ret
      exact (unhide Bad) _ (unhide Hm) (unhide Hb1)
    | false =>
    have Hk5 := hide k5
    clear k5
    go_wp2_with fail
    refine ((unhide KT) _).mono ?_
    rintro e w2 ⟨rfl, rfl⟩
    go_wp2_with fail
    go_loop [6] (fun iv => ∃ k : Nat, k ≤ np ∧ iv = .int .i64 (k : Nat) ∧ (pl.take k).any (fun y => decide (y = Vf.dd)) = false) (fun iv => np - (intOf iv).toNat)
    case atStart => exact ⟨0, Nat.zero_le _, rfl, rfl⟩
    case round =>
    obtain ⟨k, hk, rfl, hno⟩ := hrel
    have Hno := hide hno
    clear hno
    by_cases hlt : k < np
    · obtain ⟨nm, hnm⟩ : ∃ nm, pl[k]? = some nm := ⟨_, List.getElem?_eq_getElem (by rw [unhide Hnp]; exact hlt)⟩
      obtain ⟨bL, oL, rfl, _, cL⟩ := (unhide Hr1).at_ (k := k) (u := .string nm) (by simp [hnm])
      have i1 : (k : Int) < (np : Int) := by omega
      have hdq : (nm.toList == [46, 46]) = decide (nm = Vf.dd) := by
        have h := beq_toList nm Vf.dd
        rwa [show Vf.dd.toList = [46, 46] by rw [Lib.toList_data]; rfl] at h
      by_cases hdd : nm = Vf.dd
      · rw [decide_eq_true hdd] at hdq
        have hany : pl.any (fun y => decide (y = Vf.dd)) = true := List.any_eq_true.2 ⟨nm, List.mem_of_getElem? hnm, by simpa using hdd⟩
        have hm : mv = 1 := by rw [unhide Hmay2, if_pos (.inr (.inr (.inr (.inr hany))))]
        have Hm := hide hm
        clear hm hemp hdd hnm hany
        go_wp2_with fail
        go_ret
        exact (unhide Bad) _ (unhide Hm) (unhide Hb1)
      · rw [decide_eq_false hdd] at hdq
        have hnx : (pl.take (k + 1)).any (fun y => decide (y = Vf.dd)) = false := by
          rw [List.take_add_one, hnm, List.any_append, unhide Hno]
          simp [hdd]
        have Hnx := hide hnx
        clear hnx hemp hdd hnm
        go_wp2_with fail
        go_round
        case rel => exact ⟨k + 1, by omega, by go_num, unhide Hnx⟩
        case measure => simp [intOf]; omega
    · have i1 : ¬ (k : Int) < (np : Int) := by omega
      have hall : pl.any (fun y => decide (y = Vf.dd)) = false := by
        have := unhide Hno
        rwa [List.take_of_length_le (by rw [unhide Hnp]; omega)] at this
      have hmay3 := unhide Hmay2
      rw [if_neg (by rw [hall]; have := unhide Hk5; simp [this])] at hmay3
      have Hmay3 := hide hmay3
      clear hall hmay3 Hno
      by_cases k7 : 0 < n
      · have j1 : (0 : Int) < (n : Int) := by omega
        have hm : mv = 1 := by rw [unhide Hmay3, if_pos (.inl ⟨by have := unhide Hkk; omega, k7⟩)]
        have Hm := hide hm
        clear hm
        go_wp2_with fail
        go_ret
        exact (unhide Bad) _ (unhide Hm) (unhide Hb1)
      have j1 : ¬ (0 : Int) < (n : Int) := by omega
      by_cases k8 : x.to.size = 0
      · rw [decide_eq_true k8] at hemp
        have hto2 : x.to.toList = [] := List.isEmpty_iff.1 hemp
        have hn1 : ¬ ((x.kind ≠ 1 ∧ 0 < n) ∨ (x.kind ≠ 3 ∧ x.to.size ≠ 0) ∨ (x.kind = 3 ∧ ct ≠ 0)) := by have := unhide Hkk; omega
        have Hn1 := hide hn1
        clear hn1 k8
        have hm : mv = 0 := by rw [unhide Hmay3, if_neg (unhide Hn1), if_neg (by omega)]
        have b9 : ¬ (65536 : Int) < (n : Int) := by omega
        have Hm := hide hm
        clear hm
        go_wp2_with fail
        go_ret
        exact (have hv := unhide Hm; by subst hv; exact ⟨rfl, unhide Hb1⟩)
      · rw [decide_eq_false k8] at hemp
        have hto2 : ¬ x.to.toList = [] := fun h => by rw [h] at hemp; cases hemp
        have hm : mv = 1 := by rw [unhide Hmay3, if_pos (.inr (.inl ⟨by have := unhide Hkk; omega, k8⟩))]
        have Hm := hide hm
        clear hm
        go_wp2_with fail
        go_ret
        exact (unhide Bad) _ (unhide Hm) (unhide Hb1)
  · have q1 : ((x.kind : Int) != 1) = true := by rw [hk]; rfl
    have q2 : ((x.kind : Int) != 2) = true := by rw [hk]; rfl
    have q3 : ((x.kind : Int) != 3) = false := by rw [hk]; rfl
    have q4 : ((x.kind : Int) == 3) = true := by rw [hk]; rfl
    have Hkk := hide hk
    clear hk hk4
    go_enter Tryz.func17, Tryz.ntmps17
    go_wp2_with fail
    refine (unhide KP).mono ?_
    rintro e w1 ⟨A1, c1, rfl, ho1, hb1⟩
    have hbk1 := (unhide Hbk).belowSz hb1
    have hlt1 : w.heap.size < w1.heap.size := hbk1.lt
    obtain ⟨v0, v1, v5, v6⟩ : w1.cell? ⟨w.heap.size, 0, none⟩ = some (.string x.path) ∧ w1.cell? ⟨w.heap.size, 1, none⟩ = some (.int .u8 (x.kind : Nat)) ∧ w1.cell? ⟨w.heap.size, 5, none⟩ = some (.slice A n c) ∧ w1.cell? ⟨w.heap.size, 6, none⟩ = some (.string x.to) := ⟨hbk1.cell rfl, hbk1.cell rfl, hbk1.cell rfl, hbk1.cell rfl⟩
    have Hb1 := hide ((unhide Hb0).trans (hb1.mono (by simp)))
    have Hr1 := hide (Rd.of_own ho1)
    clear hb1 ho1 hbk1 KP u1 u2 hand
    by_cases k4 : ck = 0
    case neg =>
      have hm : mv = 1 := by rw [unhide Hmay2, if_pos (.inl k4)]
      have b4 : (ck != 0) = true := by simp [k4]
      have Hm := hide hm
      clear hm k4 hemp
      go_wp2_with fail
      go_ret
      exact (unhide Bad) _ (unhide Hm) (unhide Hb1)
    subst k4
    have b4 : ((0 : Int) != 0) = false := rfl
    cases tb with
    | false =>
      have hm : mv = 1 := by rw [unhide Hmay2, if_pos (.inr (.inl rfl))]
      have Hm := hide hm
      clear hm hemp
      go_wp2_with fail
      go_ret
      exact (unhide Bad) _ (unhide Hm) (unhide Hb1)
    | true =>
    by_cases k5 : np = 0
    · have hm : mv = 1 := by rw [unhide Hmay2, if_pos (.inr (.inr (.inl k5)))]
      have b5 : ((np : Int) == 0) = true := by rw [k5]; rfl
      have Hm := hide hm
      clear hm hemp k5
      go_wp2_with fail
      go_ret
      exact (unhide Bad) _ (unhide Hm) (unhide Hb1)
    have b5 : ((np : Int) == 0) = false := by rw [beq_eq_false_iff_ne]; omega
    cases tl with
    | true =>
      have hm : mv = 1 := by rw [unhide Hmay2, if_pos (.inr (.inr (.inr (.inl rfl))))]
      have Hm := hide hm
      clear hm hemp k5
      go_wp2_with fail
      refine ((unhide KT) _).mono ?_
      rintro e w2 ⟨rfl, rfl⟩
      go_wp2_with fail
      go_ret
      exact (unhide Bad) _ (unhide Hm) (unhide Hb1)
    | false =>
    have Hk5 := hide k5
    clear k5
    go_wp2_with fail
    refine ((unhide KT) _).mono ?_
    rintro e w2 ⟨rfl, rfl⟩
    go_wp2_with fail
    go_loop [6] (fun iv => ∃ k : Nat, k ≤ np ∧ iv = .int .i64 (k : Nat) ∧ (pl.take k).any (fun y => decide (y = Vf.dd)) = false) (fun iv => np - (intOf iv).toNat)
    case atStart => exact ⟨0, Nat.zero_le _, rfl, rfl⟩
    case round =>
    obtain ⟨k, hk, rfl, hno⟩ := hrel
    have Hno := hide hno
    clear hno
    by_cases hlt : k < np
    · obtain ⟨nm, hnm⟩ : ∃ nm, pl[k]? = some nm := ⟨_, List.getElem?_eq_getElem (by rw [unhide Hnp]; exact hlt)⟩
      obtain ⟨bL, oL, rfl, _, cL⟩ := (unhide Hr1).at_ (k := k) (u := .string nm) (by simp [hnm])
      have i1 : (k : Int) < (np : Int) := by omega
      have hdq : (nm.toList == [46, 46]) = decide (nm = Vf.dd) := by
        have h := beq_toList nm Vf.dd
        rwa [show Vf.dd.toList = [46, 46] by rw [Lib.toList_data]; rfl] at h
      by_cases hdd : nm = Vf.dd
      · rw [decide_eq_true hdd] at hdq
        have hany : pl.any (fun y => decide (y = Vf.dd)) = true := List.any_eq_true.2 ⟨nm, List.mem_of_getElem? hnm, by simpa using hdd⟩
        have hm : mv = 1 := by rw [unhide Hmay2, if_pos (.inr (.inr (.inr (.inr hany))))]
        have Hm := hide hm
        clear hm hemp hdd hnm hany
        go_wp2_with fail
        go_ret
        exact (unhide Bad) _ (unhide Hm) (unhide Hb1)
      · rw [decide_eq_false hdd] at hdq
        have hnx : (pl.take (k + 1)).any (fun y => decide (y = Vf.dd)) = false := by
          rw [List.take_add_one, hnm, List.any_append, unhide Hno]
          simp [hdd]
        have Hnx := hide hnx
        clear hnx hemp hdd hnm
        go_wp2_with fail
        go_round
        case rel => exact ⟨k + 1, by omega, by go_num, unhide Hnx⟩
        case measure => simp [intOf]; omega
    · have i1 : ¬ (k : Int) < (np : Int) := by omega
      have hall : pl.any (fun y => decide (y = Vf.dd)) = false := by
        have := unhide Hno
        rwa [List.take_of_length_le (by rw [unhide Hnp]; omega)] at this
      have hmay3 := unhide Hmay2
      rw [if_neg (by rw [hall]; have := unhide Hk5; simp [this])] at hmay3
      have Hmay3 := hide hmay3
      clear hall hmay3 Hno
      by_cases k7 : 0 < n
      · have j1 : (0 : Int) < (n : Int) := by omega
        have hm : mv = 1 := by rw [unhide Hmay3, if_pos (.inl ⟨by have := unhide Hkk; omega, k7⟩)]
        have Hm := hide hm
        clear hm
        go_wp2_with fail
        go_ret
        exact (unhide Bad) _ (unhide Hm) (unhide Hb1)
      have j1 : ¬ (0 : Int) < (n : Int) := by omega
      clear hemp
      by_cases k8 : ct = 0
      · have hn1 : ¬ ((x.kind ≠ 1 ∧ 0 < n) ∨ (x.kind ≠ 3 ∧ x.to.size ≠ 0) ∨ (x.kind = 3 ∧ ct ≠ 0)) := by have := unhide Hkk; omega
        subst k8
        have q8 : ((0 : Int) != 0) = false := rfl
        have Hn1 := hide hn1
        clear hn1
        go_wp2_with fail
        refine ((unhide KK) _).mono ?_
        rintro e w3 ⟨rfl, hb3⟩
        have v5b := (hb3.cell (p := ⟨w.heap.size, 5, none⟩) hlt1).trans v5
        have Hb3 := hide ((unhide Hb1).trans (hb3.mono (unhide Hb1).size))
        clear hb3
        have hm : mv = 0 := by rw [unhide Hmay3, if_neg (unhide Hn1), if_neg (by omega)]
        have b9 : ¬ (65536 : Int) < (n : Int) := by omega
        have Hm := hide hm
        clear hm
        go_wp2_with fail
        go_ret
        exact (have hv := unhide Hm; by subst hv; exact ⟨rfl, (unhide Hb3)⟩)
      · have q8 : (ct != 0) = true := by simp [k8]
        have hm : mv = 1 := by rw [unhide Hmay3, if_pos (.inr (.inr ⟨unhide Hkk, k8⟩))]
        have Hm := hide hm
        clear hm k8
        go_wp2_with fail
        refine ((unhide KK) _).mono ?_
        rintro e w3 ⟨rfl, hb3⟩
        have Hb3 := hide ((unhide Hb1).trans (hb3.mono (unhide Hb1).size))
        clear hb3
        go_wp2_with fail
        go_ret
        exact (unhide Bad) _ (unhide Hm) (unhide Hb3)
  · exact absurd hk4 hk
end Go.Proofs.YtfegfmapdekkbaaGreatDoor
namespace Go.Proofs.YtfegfmapdekkbaaGreatDoor
set_option linter.unusedVariables false
set_option linter.unusedSimpArgs false
open Go.RowKit

theorem rnodeTy : SlTy Tryz.prog 65 69 9 88 := slTy_mk (z := .agg #[.int .u8 0, .int .u16 0, .int .u32 0, .int .u32 0, .int .i64 0, .int .i64 0, .string ⟨#[]⟩, .slice none 0 0, .string ⟨#[]⟩]) Tryz.underlying65 (by kernel_rfl) rfl (by omega) (by omega)
theorem rndV_one (y : Vf.Nd × RPl) : ∀ u ∈ rndV y, u.oneCell' = true := by
  intro u hu
  simp only [rndV, List.mem_cons, List.not_mem_nil, or_false] at hu
  rcases hu with rfl | rfl | rfl | rfl | rfl | rfl | rfl | rfl | rfl <;> rfl
section
variable {w1 V V3 : World} {base g c : Nat} {A : Option Addr} {F : List Vf.Nd} {ls : List RPl}
theorem RFs.gOwn (h : RFs w1 base g A c F ls) : (Value.slice A F.length c).ownBlock ≠ some g := by
  intro e
  obtain ⟨cs, h1⟩ := row_blkS h.row e
  have h2 := h.fs
  unfold Blk at h2
  rw [h1] at h2
  injection h2 with h2
  injection h2 with _ h3
  exact absurd h3 (by decide)
/-- The cell of the file system stands behind the append. -/
theorem RFs.addF (h : RFs w1 base g A c F ls) (hb : Below w1.heap.size w1 V) (hg3 : V.grownBy V3 (Value.slice A F.length c).ownBlock) : Blk V3 g 67 [.slice A F.length c] :=
  (hg3.block g (Nat.lt_of_lt_of_le h.fs.lt hb.size) (fun e => h.gOwn e.symm)).trans ((hb.block g h.fs.lt).trans h.fs)
theorem RFs.addFin (h : RFs w1 base g A c F ls) (x : Vf.Nd) (p : RPl) (hlo : base ≤ w1.heap.size) (hb : Below w1.heap.size w1 V) (hp : V.ownsRow base 5 1 (.slice p.A p.n p.c) p.n (bys x.data)) (A' : Option Addr) (c' : Nat)
    (ho3 : V3.ownsRow base 69 9 (.slice A' (F.length + 1) c') (F.length + 1) (rowCs rndV (F.zip ls) ++ rndV (x, p))) (hg3 : V.grownBy V3 (Value.slice A F.length c).ownBlock) :
    RFs (V3.setCell ⟨g, 0, none⟩ (.slice A' (F.length + 1) c')) base g A' c' (F ++ [x]) (ls ++ [p]) ∧ Below base w1 (V3.setCell ⟨g, 0, none⟩ (.slice A' (F.length + 1) c')) := by
  have hg := h.addF hb hg3
  have hV := h.belowSz hb
  have hset : ∀ k, k ≠ g → (V3.setCell ⟨g, 0, none⟩ (.slice A' (F.length + 1) c')).heap[k]? = V3.heap[k]? := fun k hk => heap_setCell_other _ _ _ _ hk
  have hne : (5 : TypeId) ≠ 69 := by decide
  have hgs : ∀ {n2 c2 size : Nat} {e : TypeId} {A2 : Option Addr} {xs : List Value}, V3.ownsRow base e size (.slice A2 n2 c2) n2 xs → e ≠ 67 → (V3.setCell ⟨g, 0, none⟩ (.slice A' (F.length + 1) c')).ownsRow base e size (.slice A2 n2 c2) n2 xs := by
    intro n2 c2 size e A2 xs ho hE
    refine ⟨ho.1, ho.2.imp id fun ⟨k, cap, cur, e1, e2, e3, r⟩ => ⟨k, cap, cur, e1, e2, (hset k ?_).trans e3, r⟩⟩
    rintro rfl
    unfold Blk at hg
    rw [e3] at hg
    injection hg with hg
    injection hg with _ h3
    exact hE h3
  have hdk : ∀ {n2 c2 : Nat} {A2 : Option Addr} {xs : List Value}, V.ownsRow base 5 1 (.slice A2 n2 c2) n2 xs → (V3.setCell ⟨g, 0, none⟩ (.slice A' (F.length + 1) c')).ownsRow base 5 1 (.slice A2 n2 c2) n2 xs :=
    fun ho => hgs (ho.kept hg3 (own_tyne ho hV.row hne)) (by decide)
  refine ⟨⟨by rw [List.length_append, List.length_append, h.len]; rfl, h.lo, ?_, ?_, ?_⟩, ?_⟩
  · rw [List.length_append]
    exact hg.set 0 _
  · rw [List.length_append, List.zip_append h.len.symm, rowCs_app]
    have e1 : rowCs rndV ([x].zip [p]) = rndV (x, p) := by simp [rowCs]
    rw [e1]
    exact hgs ho3 (by decide)
  · intro i y r h1 h2
    rcases snoc_at h1 with ⟨a1, a2⟩ | ⟨a1, a2⟩
    · rcases snoc_at h2 with ⟨b1, b2⟩ | ⟨b1, b2⟩
      · exact hdk (hV.dat i y r a2 b2)
      · have := h.len; omega
    · rcases snoc_at h2 with ⟨b1, b2⟩ | ⟨b1, b2⟩
      · have := h.len; omega
      · subst a2 b2
        exact hdk hp
  · have b1 : Below base w1 V := hb.mono hlo
    have b3 : Below base w1 V3 := b1.grown hg3 (Nat.le_trans hlo b1.size) (fun k hk => (h.row.lt k hk).1)
    exact b3.setCell h.lo _
end
theorem RFs.start (w : World) (A : Option Addr) (c : Nat) (W : World) (ho : W.ownsRow w.heap.size 69 9 (.slice A 1 c) 1 (rndV (Vf.root, ⟨none, 0, 0⟩))) (hf : Blk W w.heap.size 67 [.slice A 1 c]) : RFs W w.heap.size w.heap.size A c [Vf.root] [⟨none, 0, 0⟩] := by
  refine ⟨rfl, Nat.le_refl _, hf, ?_, ?_⟩
  · have e1 : rowCs rndV ([Vf.root].zip [(⟨none, 0, 0⟩ : RPl)]) = rndV (Vf.root, ⟨none, 0, 0⟩) := by simp [rowCs]
    rw [e1]
    exact ho
  · intro i x p h1 h2
    cases i with
    | zero =>
      have e1 : x = Vf.root := by simpa using h1.symm
      have e2 : p = ⟨none, 0, 0⟩ := by simpa using h2.symm
      subst e1 e2
      exact World.ownsRow_nil _ _ _ _
    | succ i => simp at h1
end Go.Proofs.YtfegfmapdekkbaaGreatDoor
namespace Go.Proofs.YtfegfmapdekkbaaGreatDoor
set_option linter.unusedVariables false
set_option linter.unusedSimpArgs false
open Go.RowKit

def NewRE (es : List Vf.Ent) (w : World) (e : Ending) (w' : World) : Prop :=
  Below w.heap.size w w' ∧ (((Vf.new es).1 ≠ 0 ∧ e = .returned (.tuple #[.pointer none, .int .i64 (Vf.new es).1, .int .i64 (Vf.new es).2.1])) ∨
    ((Vf.new es).1 = 0 ∧ ∃ g A c ls, e = .returned (.tuple #[.pointer (some ⟨g, 0, none⟩), .int .i64 0, .int .i64 0]) ∧ RFs w' w.heap.size g A c (Vf.new es).2.2 ls ∧ Vf.Good (Vf.new es).2.2 ∧ (Vf.new es).2.2.length = es.length + 1 ∧ (Vf.new es).2.1 = 0 ∧ es.length ≤ 64))
theorem wp_app1g {P : Program} {t e : TypeId} {size bytes : Nat} (T : SlTy P t e size bytes) {W : World} {o : Oper} {a : Act} {K : Act → World → Prop} {Q : Exit → Act → World → Prop} (s x : Operand)
    (ho : o.op = .call { callee := .builtin .append, args := #[s, x], argTypes := #[t, t] })
    (base : Nat) (v : Value) (n : Nat) (xs : List Value) (hs : a.eval s = v) (hown : W.ownsRow base e size v n xs)
    (cs : Array Value) (g : Nat) (hx : a.eval x = .slice (some ⟨g, 0, none⟩) 1 1) (hg : g = W.heap.size) (hcs : cs.size = size) (h1 : ∀ u ∈ cs.toList, u.oneCell' = true)
    (hb : (n + 1) * bytes ≤ 140737488355328) (hbase : base ≤ W.heap.size)
    (h : ∀ A' c' w', w'.ownsRow base e size (.slice A' (n + 1) c') (n + 1) (xs ++ cs.toList) → W.grownBy w' v.ownBlock → K (a.put o.dst (.slice A' (n + 1) c')) w') : o.wp P a (W.alloc (.cells cs e)) K Q := by
  subst hg
  refine wp_app T s x ho base v n xs hs (hown.alloc _) (W.heap.size + 1) (some ⟨W.heap.size, 0, none⟩) 1 1 cs.toList hx (Rd.row hcs) h1 hb (by simp; omega) fun v' w' h2 h3 h4 => ?_
  obtain ⟨A', c', rfl⟩ := own_form h2
  exact h A' c' w' h2 (grown_trans (World.grownBy_alloc W _ _) h3)
theorem takeQ {P : Program} {md : Region.Mode} {ops : Array Oper} {Q : Exit → Act → World → Prop} {S : World → Prop} {i : Nat} {oi : Oper} {v : Value} {d : Option Tmp} {fuel : Nat} {listed : Array Bool} {a : Act} {w : World} (hi : ops[i]? = some oi) (hd : oi.dst = d)
    (hs : Region.noSelect ops = true) (hf : Region.free md ops listed i = true) (hr : (Region.ready md ops listed).contains i = true)
    (hQ : ∀ c a w, Q (.panic c) (a.put d v) w → Q (.panic c) a w) (hy : YieldsIf P ops S oi v a) (hS : S w)
    (h : wpAnyH P md ops Q S fuel (listed.setIfInBounds i true) (a.put d v) w) : wpAnyH P md ops Q S (fuel + 1) listed a w := by
  subst hd
  exact wpAnyH_take hi hs hf hr hQ hy hS h
theorem numV_some (i : Nat) : numV (some i) = .int .i64 (i : Nat) := rfl
theorem numV_none : numV none = .int .i64 (-1) := rfl

set_option maxRecDepth 100000 in
set_option maxHeartbeats 8000000 in
theorem rnew_any (l : List EntA) (A : Option Addr) (n c B : Nat) (w : World) (h : Rd w B 7 A n (rowCs entVals l)) (hB : B ≤ w.heap.size) (hl : l.length = n) (hok : ∀ s ∈ l, EntOk w s) (hn : n ≤ 4294967296) :
    Calls Tryz.prog 9 #[.slice A n c] w (NewRE (l.map (·.e)) w) := by
  have hlm : (l.map (·.e)).length = n := by simpa using hl
  have H := hide h
  have Hl := hide hl
  have Hok := hide hok
  have Hlm := hide hlm
  clear h hl hok hlm
  by_cases h64 : 64 < n
  · have g1 : (64 : Int) < (n : Int) := by omega
    have hnew : Vf.new (l.map (·.e)) = (15, -1, []) := by unfold Vf.new; rw [if_pos (by rw [unhide Hlm]; exact h64)]
    have Hnew := hide hnew
    clear h64 hnew
    go_enter Tryz.func9, Tryz.ntmps9
    go_wp2_with fail
    go_ret3
    unfold NewRE
    rw [unhide Hnew]
    exact ⟨Below.refl _ _, .inl ⟨by decide, rfl⟩⟩
  · have g1 : ¬ (64 : Int) < (n : Int) := by omega
    have hbF : Blk (w.alloc (.cells #[.slice none 0 0] 67)) w.heap.size 67 [.slice none 0 0] := Blk.new w _ _
    have HbF := hide hbF
    clear hbF
    go_enter Tryz.func9, Tryz.ntmps9
    go_wp2_with (at_builtin; refine wpList_app1g rnodeTy rfl _ _ rfl w.heap.size (.slice none 0 0) 0 [] rfl (World.ownsRow_nil _ _ _ _) (rndV (Vf.root, ⟨none, 0, 0⟩)).toArray _ rfl (by simp) rfl (rndV_one _) (by omega) (by simp) ?_; intro A4 c4 w4 ho4 hg4 hat4; have hf4 : Blk w4 w.heap.size 67 [.slice none 0 0] := (hg4.block _ (unhide HbF).lt (fun e => by simp [Value.ownBlock] at e)).trans (unhide HbF); have hb4 : Below w.heap.size w w4 := ((Below.refl w.heap.size w).alloc (Nat.le_refl _) (.cells #[.slice none 0 0] 67)).grown hg4 (by simp) (fun k hk => by simp [Value.ownBlock] at hk); simp only [Nat.zero_add, List.nil_append] at ho4 ⊢; have t0 : w4.cell? ⟨w.heap.size, 0, none⟩ = some (.slice none 0 0) := hf4.cell rfl; have tf : w4.frozen? ⟨w.heap.size, 0, none⟩ = false := hf4.free 0; have Ho4 := hide ho4; have Hf4 := hide hf4; have Hb4 := hide hb4; clear ho4 hg4 hat4 hf4 hb4)
    have hRF0 : RFs (w4.setCell ⟨w.heap.size, 0, none⟩ (.slice A4 1 c4)) w.heap.size w.heap.size A4 c4 [Vf.root] [⟨none, 0, 0⟩] := by
      refine RFs.start w A4 c4 _ ?_ ((unhide Hf4).set 0 _)
      have ho := unhide Ho4
      refine ⟨ho.1, ho.2.imp id fun ⟨k, cap, cur, e1, e2, e3, r⟩ => ⟨k, cap, cur, e1, e2, (heap_setCell_other _ _ _ _ ?_).trans e3, r⟩⟩
      show k ≠ w.heap.size
      rintro rfl
      have hg := unhide Hf4
      unfold Blk at hg
      rw [e3] at hg
      injection hg with hg
      injection hg with _ h3
      exact absurd h3 (by decide)
    have HRF0 := hide hRF0
    have HB0 := hide ((unhide Hb4).setCell (p := ⟨w.heap.size, 0, none⟩) (Nat.le_refl _) (.slice A4 1 c4))
    clear hRF0 t0 tf
    go_loopg [6] n (fun gk iv wr => ∃ (k : Nat) (F : List Vf.Nd) (ls : List RPl) (A' : Option Addr) (c' : Nat), gk = n - k ∧ k ≤ n ∧ iv = .int .i64 (k : Nat) ∧ Vf.adds [Vf.root] 0 (l.map (·.e)) = Vf.adds F k ((l.map (·.e)).drop k) ∧ Vf.Good F ∧ F.length = k + 1 ∧ RFs wr w.heap.size w.heap.size A' c' F ls ∧ Below w.heap.size w wr)
    case atStart => exact ⟨0, [Vf.root], _, _, _, by omega, Nat.zero_le _, rfl, rfl, Vf.good_root, rfl, unhide HRF0, unhide HB0⟩
    case round =>
    obtain ⟨k, F, ls, A', c', hgk, hk, rfl, hadds, hF, hFl, hFS, hB2⟩ := hrel
    have Hgk := hide hgk
    have Hadds := hide hadds
    have HF := hide hF
    have HFl := hide hFl
    have HFS := hide hFS
    have HB := hide hB2
    clear hgk hadds hF hFl hFS hB2
    by_cases hlt : k < n
    case neg =>
      have hkn : k = n := by omega
      have ilt : ¬ (k : Int) < (n : Int) := by omega
      go_wp2_with fail
      go_ret3
      have ha := unhide Hadds
      rw [List.drop_of_length_le (by rw [unhide Hlm]; omega)] at ha
      have hnew : Vf.new (l.map (·.e)) = (0, 0, F) := by
        unfold Vf.new
        rw [if_neg (by rw [unhide Hlm]; exact h64), ha]
        rfl
      unfold NewRE
      rw [hnew]
      exact ⟨unhide HB, .inr ⟨rfl, _, A', c', ls, rfl, unhide HFS, unhide HF, by rw [unhide HFl, unhide Hlm, hkn], rfl, by rw [unhide Hlm]; omega⟩⟩
    obtain ⟨s, hs⟩ : ∃ s, l[k]? = some s := ⟨_, List.getElem?_eq_getElem (by rw [unhide Hl]; exact hlt)⟩
    obtain ⟨b1, o1, rfl, hb1, c1⟩ := (unhide H).open_ (by
      intro h0
      have := rowCs_len (vals := entVals) (size := 7) (fun _ => rfl) l
      rw [h0, unhide Hl] at this
      simp at this
      omega)
    have hc : ∀ j u, (entVals s)[j]? = some u → wr.cell? ⟨b1, o1 + (k * 7 + j), none⟩ = some u := by
      intro j u hu
      have hj : j < 7 := (List.getElem?_eq_some_iff.1 hu).1
      refine ((unhide HB).cell (p := ⟨b1, _, none⟩) (Nat.lt_of_lt_of_le hb1 hB)).trans (c1 _ _ ?_)
      rw [rowCs_at (vals := entVals) (size := 7) (fun _ => rfl) l k s hs j hj, hu]
    have x0 := hc 0 _ rfl
    have x1 := hc 1 _ rfl
    have x2 := hc 2 _ rfl
    have x3 := hc 3 _ rfl
    have x4 := hc 4 _ rfl
    have x5 := hc 5 _ rfl
    have x6 := hc 6 _ rfl
    rw [Nat.add_zero] at x0
    simp only [← Nat.add_assoc] at x1 x2 x3 x4 x5 x6
    have ilt : (k : Int) < (n : Int) := by omega
    have hes : (l.map (·.e))[k]? = some s.e := by rw [List.getElem?_map, hs]; rfl
    have hstep := adds_step (F := F) hes
    have hbA : Below wr.heap.size wr (wr.alloc (.cells (entVals s).toArray 51)) := (Below.refl _ _).alloc (Nat.le_refl _) _
    have hbE : Blk (wr.alloc (.cells (entVals s).toArray 51)) wr.heap.size 51 (entVals s) := Blk.new wr _ _
    have hok := (unhide Hok) s (List.mem_of_getElem? hs)
    have hdl : s.e.data.length = s.n := by simpa [bys] using hok.d.len1
    have KM := mayR_any s.e s.A s.n s.c (wr.alloc (.cells (entVals s).toArray 51)) hdl hok.n hok.p hok.t hok.m
    have KP := fun w' => rparts_any s.e.path hok.p w'
    have fail_ : ∀ (er : Int) (w' : World), (Vf.add F s.e).1 = er → er ≠ 0 → Below w.heap.size w w' → NewRE (l.map (·.e)) w (.returned (.tuple #[.pointer none, .int .i64 er, .int .i64 (k : Nat)])) w' := by
      intro er w' he h0 hb
      have hst := hstep
      rw [he, if_pos h0] at hst
      have hnew : Vf.new (l.map (·.e)) = (er, ((k : Nat) : Int), []) := by
        unfold Vf.new
        rw [if_neg (by rw [unhide Hlm]; exact h64), (unhide Hadds).trans hst]
        rw [if_pos h0]
      unfold NewRE
      rw [hnew]
      exact ⟨hb, .inl ⟨h0, rfl⟩⟩
    unfold entV at KM
    simp only [entVals, entC] at KM hbE hbA
    have HKM := hide KM
    have HKP := hide KP
    have Hfail := hide fail_
    have Hstep := hide hstep
    have HbA := hide hbA
    have HbE := hide hbE
    have Hok1 := hide hok
    have Hdl := hide hdl
    clear hc c1 hs hes hstep hok KM KP fail_ hbA hbE hdl
    go_wp2_with fail
    refine (unhide HKM).mono ?_
    rintro e w2 ⟨rfl, hb2⟩
    have Hb2 := hide ((unhide HbA).trans (hb2.mono (unhide HbA).size))
    have HbE2 := hide ((unhide HbE).belowSz hb2)
    clear x0 x1 x2 x3 x4 x5 x6 hb2 HbE HbA HKM
    by_cases hm : Vf.may s.e = 0
    case neg =>
      have hr : (Vf.add F s.e).1 = Vf.may s.e := by unfold Vf.add; rw [if_pos hm]
      have Hr := hide hr
      obtain ⟨me, hme⟩ : ∃ v, Vf.may s.e = v := ⟨_, rfl⟩
      rw [hme] at Hr hm ⊢
      have Hm := hide hm
      have q1 : (me != 0) = true := by simp [hm]
      have HbF := hide ((unhide HB).trans ((unhide Hb2).mono (unhide HB).size))
      clear hr hm hme
      go_wp2_with fail
      go_ret3
      exact (unhide Hfail) _ _ (unhide Hr) (unhide Hm) (unhide HbF)
    obtain ⟨m1, m2, m3, m4, m5, m6, m7, m8, m9, m10, m11⟩ := Vf.may_ok hm
    have hpl := Vf.parts_len s.e.path
    have hadd : Vf.add F s.e = if (Vf.at_ F 0 (Pth.partsL s.e.path)).isSome then ((7 : Int), F) else match Vf.at_ F 0 (Pth.partsL s.e.path).dropLast with
      | none => ((3 : Int), F)
      | some up => if Vf.kindAt F up ≠ 2 then ((8 : Int), F) else ((0 : Int), F ++ [Vf.ndOf s.e up]) := by
      unfold Vf.add
      rw [if_neg (by simp [hm])]
      rfl
    rw [hm]
    have q1 : ((0 : Int) != 0) = false := rfl
    have y0 := (unhide HbE2).cell (i := 0) rfl
    have Hadd := hide hadd
    have Hm5 := hide m5
    obtain ⟨pl, hple⟩ : ∃ l, Pth.partsL s.e.path = l := ⟨_, rfl⟩
    have KP2 := (unhide HKP) w2
    rw [hple] at KP2 hpl Hadd Hm5
    obtain ⟨n1, hn1⟩ : ∃ n, pl.length = n := ⟨_, rfl⟩
    rw [hn1] at KP2 hpl
    have hn0 : 0 < n1 := by rw [← hn1]; exact List.length_pos_iff.2 (unhide Hm5)
    have HKP2 := hide KP2
    have Hple := hide hple
    have Hn1 := hide hn1
    clear m1 m2 m3 m4 m5 m6 m7 m8 m9 m10 m11 hadd hm hple hn1 KP2 HKP
    go_wp2_with fail
    refine (unhide HKP2).mono ?_
    rintro e w3 ⟨A1, cp, rfl, ho3, hb3⟩
    have Hb3 := hide ((unhide Hb2).trans (hb3.mono (unhide Hb2).size))
    have HbE3 := hide ((unhide HbE2).belowSz hb3)
    have hr3 := Rd.of_own ho3
    have hcp := own_cap ho3
    have rs := fun w' => run_to (P := Tryz.prog) Tryz.underlying27 (e := 9) (by kernel_rfl) A1 n1 cp (n1 - 1) (by omega) w'
    have hdrop : (pl.map Value.string).take (n1 - 1) = pl.dropLast.map Value.string := by
      rw [← unhide Hn1, List.dropLast_eq_take, List.map_take]
    have hr2 : Rd w3 w3.heap.size 1 A1 (n1 - 1) (pl.dropLast.map Value.string) := by
      rw [← hdrop]
      exact hr3.to_ (by omega)
    have hFl65 : F.length ≤ 65 := by rw [unhide HFl]; omega
    have hFl0 : 0 < F.length := by rw [unhide HFl]; omega
    have hFS3 := (unhide HFS).belowSz (unhide Hb3)
    have KA1 := rat_any F ls _ _ c' A' A1 n1 cp _ pl w3 hFS3 hFl65 hFl0 hr3 (by omega)
    have KA2 := rat_any F ls _ _ c' A' A1 (n1 - 1) cp _ pl.dropLast w3 hFS3 hFl65 hFl0 hr2 (by omega)
    obtain ⟨k1, hk1⟩ : ∃ k1, n1 - 1 = k1 := ⟨_, rfl⟩
    have ei : IntKind.i64.wrap ((n1 : Int) - 1) = (k1 : Int) := by rw [IntWalk.i64_in _ (by omega)]; omega
    have j1 : (k1 : Int) < (n1 : Int) := by omega
    rw [hk1] at rs KA2
    have Hk1 := hide hk1
    have HKA1 := hide KA1
    have HKA2 := hide KA2
    have Hr3 := hide hr3
    have Ho3 := hide ho3
    have HFS3 := hide hFS3
    have HBw3 := hide ((unhide HB).trans ((unhide Hb3).mono (unhide HB).size))
    clear ho3 hb3 hr3 hcp hdrop hr2 KA1 KA2 hk1 hFS3 HKP2 y0
    cases ha : Vf.at_ F 0 pl with
    | some i =>
      rw [ha, numV_some] at HKA1
      have hr : (Vf.add F s.e).1 = 7 := by rw [unhide Hadd, ha]; rfl
      have Hr := hide hr
      have i0 : (0 : Int) ≤ (i : Int) := by omega
      clear hr ha
      go_wp2_with fail
      refine (unhide HKA1).mono ?_
      rintro e w4 ⟨rfl, rfl⟩
      go_wp2_with fail
      go_ret3
      exact (unhide Hfail) _ _ (unhide Hr) (by decide) (unhide HBw3)
    | none =>
    have hadd := unhide Hadd
    rw [ha] at hadd
    rw [ha, numV_none] at HKA1
    simp only [Option.isSome_none, Bool.false_eq_true, if_false] at hadd
    clear ha Hadd
    go_wp2_with fail
    refine (unhide HKA1).mono ?_
    rintro e w4 ⟨rfl, rfl⟩
    go_wp2_with fail
    refine (unhide HKA2).mono ?_
    rintro e w4 ⟨rfl, rfl⟩
    cases hu : Vf.at_ F 0 pl.dropLast with
    | none =>
      rw [hu] at hadd
      rw [numV_none]
      have hr : (Vf.add F s.e).1 = 3 := by rw [hadd]
      have Hr := hide hr
      clear hr hu hadd
      go_wp2_with fail
      go_ret3
      exact (unhide Hfail) _ _ (unhide Hr) (by decide) (unhide HBw3)
    | some up =>
    rw [hu] at hadd
    rw [numV_some]
    simp only at hadd
    have hupl := Vf.at_lt (unhide HF) _ _ _ (Vf.good_pos (unhide HF)) hu
    obtain ⟨xu, hxu⟩ : ∃ x, F[up]? = some x := ⟨_, List.getElem?_eq_getElem hupl⟩
    obtain ⟨pu, hpu, _⟩ := (unhide HFS3).at_ hxu
    rw [Vf.kindAt_eq hxu] at hadd
    obtain ⟨b2, o2, hA2, _, hcl⟩ := (unhide HFS3).cells hFl0
    have z0 := hcl up xu pu hxu hpu 0 _ rfl
    rw [Nat.add_zero] at z0
    have u0 : w3.cell? ⟨w.heap.size, 0, none⟩ = some (.slice A' F.length c') := (unhide HFS3).fs.cell rfl
    obtain ⟨flen, hfl⟩ : ∃ n, F.length = n := ⟨_, rfl⟩
    rw [hfl] at u0 hupl
    have Hfl := hide hfl
    have i0 : ¬ (up : Int) < 0 := by omega
    have i3 : (up : Int) < (flen : Int) := by omega
    subst hA2
    by_cases hk2 : xu.m.kind = 2
    case neg =>
      have q2 : ((xu.m.kind : Int) != 2) = true := by simp; omega
      rw [if_pos hk2] at hadd
      have hr : (Vf.add F s.e).1 = 8 := by rw [hadd]
      have Hr := hide hr
      clear hr hu hadd hxu hpu hcl hk2
      go_wp2_with fail
      go_ret3
      exact (unhide Hfail) _ _ (unhide Hr) (by decide) (unhide HBw3)
    have q2 : ((xu.m.kind : Int) != 2) = false := by rw [hk2]; rfl
    rw [if_neg (by simp [hk2])] at hadd
    have Hadd := hide hadd
    clear hu hadd hxu hpu hcl hk2
    obtain ⟨nm, hnm⟩ : ∃ nm, Vf.lastOf pl = nm := ⟨_, rfl⟩
    have hlast : (pl.map Value.string)[k1]? = some (.string nm) := by
      rw [← unhide Hk1, ← unhide Hn1, ← List.length_map (f := Value.string), ← List.getLast?_eq_getElem?, List.getLast?_map, ← hnm]
      unfold Vf.lastOf
      rw [List.getLast?_eq_some_getLast (unhide Hm5)]
      rfl
    obtain ⟨g3, hA1, _, _⟩ := own_some (unhide Ho3) hn0
    subst hA1
    have c3 := own_cell (unhide Ho3) hlast
    have HFS3' := unhide HFS3
    have hEB := unhide HbE3
    have hOwn3 := unhide Ho3
    have KC : ∀ w', Below w3.heap.size w3 w' → Calls Tryz.prog 16 #[.slice s.A s.n s.c] w' fun e w5 => ∃ A5 c5, e = .returned (.slice A5 s.n c5) ∧ w5.ownsRow w'.heap.size 5 1 (.slice A5 s.n c5) s.n (bys s.e.data) ∧ Below w'.heap.size w' w5 :=
      fun w' hb => copyBytes_any s.A s.n s.c w.heap.size s.e.data w' (Nat.le_trans (unhide HBw3).size hb.size) ((unhide Hok1).d.below ((unhide HBw3).trans (hb.mono (unhide HBw3).size))) (unhide Hok1).n
    have HSC : ∀ w', Below w3.heap.size w3 w' → (w'.cell? ⟨wr.heap.size, 1, none⟩ = some (.int .u8 (s.e.kind : Nat)) ∧ w'.cell? ⟨wr.heap.size, 2, none⟩ = some (.int .u16 (s.e.mode : Nat)) ∧ w'.cell? ⟨wr.heap.size, 3, none⟩ = some (.int .u32 (s.e.uid : Nat)) ∧ w'.cell? ⟨wr.heap.size, 4, none⟩ = some (.int .u32 (s.e.gid : Nat)) ∧ w'.cell? ⟨wr.heap.size, 5, none⟩ = some (.slice s.A s.n s.c) ∧ w'.cell? ⟨wr.heap.size, 6, none⟩ = some (.string s.e.to) ∧ w'.cell? ⟨g3, k1, none⟩ = some (.string nm)) := by
      intro w' hb
      have h1 := hEB.belowSz hb
      have h2 := (HFS3'.belowSz hb).fs
      unfold Blk at h2
      rw [unhide Hfl] at h2
      have h2' : Blk w' w.heap.size 67 [.slice (some ⟨b2, o2, none⟩) flen c'] := h2
      exact ⟨h1.cell rfl, h1.cell rfl, h1.cell rfl, h1.cell rfl, h1.cell rfl, h1.cell rfl, (hb.cell (p := ⟨g3, k1, none⟩) (cell_lt c3)).trans c3⟩
    have HSG : ∀ V V3, Below w3.heap.size w3 V → World.grownBy V V3 (Value.slice (some ⟨b2, o2, none⟩) flen c').ownBlock → (V3.cell? ⟨wr.heap.size, 1, none⟩ = some (.int .u8 (s.e.kind : Nat)) ∧ V3.cell? ⟨wr.heap.size, 2, none⟩ = some (.int .u16 (s.e.mode : Nat)) ∧ V3.cell? ⟨wr.heap.size, 3, none⟩ = some (.int .u32 (s.e.uid : Nat)) ∧ V3.cell? ⟨wr.heap.size, 4, none⟩ = some (.int .u32 (s.e.gid : Nat)) ∧ V3.cell? ⟨wr.heap.size, 5, none⟩ = some (.slice s.A s.n s.c) ∧ V3.cell? ⟨wr.heap.size, 6, none⟩ = some (.string s.e.to) ∧ V3.cell? ⟨g3, k1, none⟩ = some (.string nm)) := by
      intro V V3 hb hg
      have hrow := (HFS3'.belowSz hb).row
      rw [unhide Hfl] at hrow
      have h1 := hEB.belowSz hb
      have hne1 : (Value.slice (some ⟨b2, o2, none⟩) flen c').ownBlock ≠ some wr.heap.size := by
        intro e
        obtain ⟨cs, h3⟩ := row_blkS hrow e
        unfold Blk at h1
        rw [h1] at h3
        injection h3 with h3
        injection h3 with _ h4
        exact absurd h4 (by decide)
      have h1' : Blk V3 wr.heap.size 51 [.string s.e.path, .int .u8 (s.e.kind : Nat), .int .u16 (s.e.mode : Nat), .int .u32 (s.e.uid : Nat), .int .u32 (s.e.gid : Nat), .slice s.A s.n s.c, .string s.e.to] := (hg.block _ h1.lt (fun e => hne1 e.symm)).trans h1
      have h2 := HFS3'.addF (V3 := V3) hb (by rw [unhide Hfl]; exact hg)
      unfold Blk at h2
      rw [unhide Hfl] at h2
      have h2' : Blk V3 w.heap.size 67 [.slice (some ⟨b2, o2, none⟩) flen c'] := h2
      have h5 := (own_below hOwn3 hb).kept hg (own_tyne (own_below hOwn3 hb) hrow (by decide))
      exact ⟨h1'.cell rfl, h1'.cell rfl, h1'.cell rfl, h1'.cell rfl, h1'.cell rfl, h1'.cell rfl, own_cell h5 hlast⟩
    have HF3 : ∀ V V3, Below w3.heap.size w3 V → World.grownBy V V3 (Value.slice (some ⟨b2, o2, none⟩) flen c').ownBlock → V3.cell? ⟨w.heap.size, 0, none⟩ = some (.slice (some ⟨b2, o2, none⟩) flen c') ∧ V3.frozen? ⟨w.heap.size, 0, none⟩ = false := by
      intro V V3 hb hg
      have h2 := HFS3'.addF (V3 := V3) hb (by rw [unhide Hfl]; exact hg)
      unfold Blk at h2
      rw [unhide Hfl] at h2
      have h2' : Blk V3 w.heap.size 67 [.slice (some ⟨b2, o2, none⟩) flen c'] := h2
      exact ⟨h2'.cell rfl, h2'.free 0⟩
    have hrow3 : ∀ V, Below w3.heap.size w3 V → V.ownsRow w.heap.size 69 9 (.slice (some ⟨b2, o2, none⟩) flen c') flen (rowCs rndV (F.zip ls)) := by
      intro V hb
      have hrow := (HFS3'.belowSz hb).row
      rw [unhide Hfl] at hrow
      exact hrow
    have hgw : w.heap.size ≠ wr.heap.size := by
      intro e
      have h1 := (HFS3').fs
      have h2 := hEB
      unfold Blk at h1 h2
      rw [← e] at h2
      rw [h1] at h2
      injection h2 with h2
      injection h2 with _ h3
      exact absurd h3 (by decide)
    have hg3 : g3 ≠ w.heap.size := by
      rintro rfl
      have h1 := (HFS3').fs
      obtain ⟨cs, h2⟩ := row_blkS hOwn3 (k := w.heap.size) rfl
      unfold Blk at h1
      rw [h1] at h2
      injection h2 with h2
      injection h2 with _ h3
      exact absurd h3 (by decide)
    have HSS : ∀ (V3 : World) (u : Value), (V3.cell? ⟨wr.heap.size, 1, none⟩ = some (.int .u8 (s.e.kind : Nat)) ∧ V3.cell? ⟨wr.heap.size, 2, none⟩ = some (.int .u16 (s.e.mode : Nat)) ∧ V3.cell? ⟨wr.heap.size, 3, none⟩ = some (.int .u32 (s.e.uid : Nat)) ∧ V3.cell? ⟨wr.heap.size, 4, none⟩ = some (.int .u32 (s.e.gid : Nat)) ∧ V3.cell? ⟨wr.heap.size, 5, none⟩ = some (.slice s.A s.n s.c) ∧ V3.cell? ⟨wr.heap.size, 6, none⟩ = some (.string s.e.to) ∧ V3.cell? ⟨g3, k1, none⟩ = some (.string nm)) → ((V3.setCell ⟨w.heap.size, 0, none⟩ u).cell? ⟨wr.heap.size, 1, none⟩ = some (.int .u8 (s.e.kind : Nat)) ∧ (V3.setCell ⟨w.heap.size, 0, none⟩ u).cell? ⟨wr.heap.size, 2, none⟩ = some (.int .u16 (s.e.mode : Nat)) ∧ (V3.setCell ⟨w.heap.size, 0, none⟩ u).cell? ⟨wr.heap.size, 3, none⟩ = some (.int .u32 (s.e.uid : Nat)) ∧ (V3.setCell ⟨w.heap.size, 0, none⟩ u).cell? ⟨wr.heap.size, 4, none⟩ = some (.int .u32 (s.e.gid : Nat)) ∧ (V3.setCell ⟨w.heap.size, 0, none⟩ u).cell? ⟨wr.heap.size, 5, none⟩ = some (.slice s.A s.n s.c) ∧ (V3.setCell ⟨w.heap.size, 0, none⟩ u).cell? ⟨wr.heap.size, 6, none⟩ = some (.string s.e.to) ∧ (V3.setCell ⟨w.heap.size, 0, none⟩ u).cell? ⟨g3, k1, none⟩ = some (.string nm)) := by
      intro V3 u ⟨a1, a2, a3, a4, a5, a6, a7⟩
      have key : ∀ (b o : Nat), b ≠ w.heap.size → (V3.setCell ⟨w.heap.size, 0, none⟩ u).cell? ⟨b, o, none⟩ = V3.cell? ⟨b, o, none⟩ := fun b o hb => World.cell?_setCell_other _ _ _ _ (fun e => hb (by injection e with e1; first | exact e1 | exact e1.symm))
      exact ⟨(key _ _ hgw.symm).trans a1, (key _ _ hgw.symm).trans a2, (key _ _ hgw.symm).trans a3, (key _ _ hgw.symm).trans a4, (key _ _ hgw.symm).trans a5, (key _ _ hgw.symm).trans a6, (key _ _ hg3).trans a7⟩
    have HSS' := hide HSS
    have HKC := hide KC
    have HSC' := hide HSC
    have HSG' := hide HSG
    have HF3' := hide HF3
    have Hrow3 := hide hrow3
    have Hnm := hide hnm
    have hlo3 : w.heap.size ≤ w3.heap.size := (unhide HBw3).size
    have hfl64 : flen ≤ 64 := by rw [← unhide Hfl, unhide HFl]; omega
    obtain ⟨v1, v2, v3, v4, v5, v6, v7⟩ := HSC w3 (Below.refl _ _)
    have v8 : w3.drew.cell? ⟨w.heap.size, 0, none⟩ = some (.slice (some ⟨b2, o2, none⟩) flen c') := u0
    clear hlast c3 HFS3' hEB hOwn3 KC HSC HSG HF3 HSS hgw hg3 hrow3 hnm hFl65 hFl0
    go_wp2_with fail
    clear u0 z0
    refine wp_region_noPanic ?_
    refine wp_region_held_drew (S := fun w' => w'.cell? ⟨wr.heap.size, 1, none⟩ = some (.int .u8 (s.e.kind : Nat)) ∧ w'.cell? ⟨wr.heap.size, 2, none⟩ = some (.int .u16 (s.e.mode : Nat)) ∧ w'.cell? ⟨wr.heap.size, 3, none⟩ = some (.int .u32 (s.e.uid : Nat)) ∧ w'.cell? ⟨wr.heap.size, 4, none⟩ = some (.int .u32 (s.e.gid : Nat)) ∧ w'.cell? ⟨wr.heap.size, 5, none⟩ = some (.slice s.A s.n s.c) ∧ w'.cell? ⟨wr.heap.size, 6, none⟩ = some (.string s.e.to) ∧ w'.cell? ⟨g3, k1, none⟩ = some (.string nm)) (by kernel_rfl) ((unhide HSC') _ (below_drew' (Below.refl _ _))) (fun HS0 => ?_)
    refine takeQ (i := 0) (d := some 78) (v := ?_) rfl rfl (by kernel_rfl) (by kernel_rfl) (by kernel_rfl) (fun _ _ _ h => h) (Or.inl ⟨by rfl, ?y0⟩) HS0 ?_
    case y0 => (intro w' hSw; (try dsimp only at hSw); go_simp; (try with_reducible rfl))
    try simp only [Act.put, List.setIfInBounds_toArray, List.set_cons_zero, List.set_cons_succ]
    refine takeQ (i := 1) (d := some 79) (v := ?_) rfl rfl (by kernel_rfl) (by kernel_rfl) (by kernel_rfl) (fun _ _ _ h => h) (Or.inl ⟨by rfl, ?y1⟩) HS0 ?_
    case y1 => (intro w' hSw; (try dsimp only at hSw); go_simp; (try with_reducible rfl))
    try simp only [Act.put, List.setIfInBounds_toArray, List.set_cons_zero, List.set_cons_succ]
    refine takeQ (i := 2) (d := some 80) (v := ?_) rfl rfl (by kernel_rfl) (by kernel_rfl) (by kernel_rfl) (fun _ _ _ h => h) (Or.inl ⟨by rfl, ?y2⟩) HS0 ?_
    case y2 => (intro w' hSw; (try dsimp only at hSw); go_simp; (try with_reducible rfl))
    try simp only [Act.put, List.setIfInBounds_toArray, List.set_cons_zero, List.set_cons_succ]
    refine takeQ (i := 3) (d := some 81) (v := ?_) rfl rfl (by kernel_rfl) (by kernel_rfl) (by kernel_rfl) (fun _ _ _ h => h) (Or.inl ⟨by rfl, ?y3⟩) HS0 ?_
    case y3 => (intro w' hSw; (try dsimp only at hSw); go_simp; (try with_reducible rfl))
    try simp only [Act.put, List.setIfInBounds_toArray, List.set_cons_zero, List.set_cons_succ]
    refine takeQ (i := 5) (d := some 83) (v := ?_) rfl rfl (by kernel_rfl) (by kernel_rfl) (by kernel_rfl) (fun _ _ _ h => h) (Or.inl ⟨by rfl, ?y5⟩) HS0 ?_
    case y5 => (intro w' hSw; (try dsimp only at hSw); go_simp; (try with_reducible rfl))
    try simp only [Act.put, List.setIfInBounds_toArray, List.set_cons_zero, List.set_cons_succ]
    refine takeQ (i := 6) (d := some 84) (v := ?_) rfl rfl (by kernel_rfl) (by kernel_rfl) (by kernel_rfl) (fun _ _ _ h => h) (Or.inl ⟨by rfl, ?y6⟩) HS0 ?_
    case y6 => (intro w' hSw; (try dsimp only at hSw); go_simp; (try with_reducible rfl))
    try simp only [Act.put, List.setIfInBounds_toArray, List.set_cons_zero, List.set_cons_succ]
    refine takeQ (i := 7) (d := some 85) (v := ?_) rfl rfl (by kernel_rfl) (by kernel_rfl) (by kernel_rfl) (fun _ _ _ h => h) (Or.inl ⟨by rfl, ?y7⟩) HS0 ?_
    case y7 => (intro w' hSw; (try dsimp only at hSw); go_simp; (try with_reducible rfl))
    try simp only [Act.put, List.setIfInBounds_toArray, List.set_cons_zero, List.set_cons_succ]
    refine takeQ (i := 8) (d := some 86) (v := ?_) rfl rfl (by kernel_rfl) (by kernel_rfl) (by kernel_rfl) (fun _ _ _ h => h) (Or.inl ⟨by rfl, ?y8⟩) HS0 ?_
    case y8 => (intro w' hSw; (try dsimp only at hSw); go_simp; (try with_reducible rfl))
    try simp only [Act.put, List.setIfInBounds_toArray, List.set_cons_zero, List.set_cons_succ]
    refine takeQ (i := 9) (d := some 87) (v := ?_) rfl rfl (by kernel_rfl) (by kernel_rfl) (by kernel_rfl) (fun _ _ _ h => h) (Or.inl ⟨by rfl, ?y9⟩) HS0 ?_
    case y9 => (intro w' hSw; (try dsimp only at hSw); go_simp; (try with_reducible rfl))
    try simp only [Act.put, List.setIfInBounds_toArray, List.set_cons_zero, List.set_cons_succ]
    refine takeQ (i := 10) (d := some 88) (v := ?_) rfl rfl (by kernel_rfl) (by kernel_rfl) (by kernel_rfl) (fun _ _ _ h => h) (Or.inl ⟨by rfl, ?y10⟩) HS0 ?_
    case y10 => (intro w' hSw; (try dsimp only at hSw); go_simp; (try with_reducible rfl))
    try simp only [Act.put, List.setIfInBounds_toArray, List.set_cons_zero, List.set_cons_succ]
    refine takeQ (i := 11) (d := some 89) (v := ?_) rfl rfl (by kernel_rfl) (by kernel_rfl) (by kernel_rfl) (fun _ _ _ h => h) (Or.inl ⟨by rfl, ?y11⟩) HS0 ?_
    case y11 => (intro w' hSw; (try dsimp only at hSw); go_simp; (try with_reducible rfl))
    try simp only [Act.put, List.setIfInBounds_toArray, List.set_cons_zero, List.set_cons_succ]
    refine takeQ (i := 12) (d := some 90) (v := ?_) rfl rfl (by kernel_rfl) (by kernel_rfl) (by kernel_rfl) (fun _ _ _ h => h) (Or.inl ⟨by rfl, ?y12⟩) HS0 ?_
    case y12 => (intro w' hSw; (try dsimp only at hSw); go_simp; (try with_reducible rfl))
    try simp only [Act.put, List.setIfInBounds_toArray, List.set_cons_zero, List.set_cons_succ]
    refine takeQ (i := 13) (d := some 91) (v := ?_) rfl rfl (by kernel_rfl) (by kernel_rfl) (by kernel_rfl) (fun _ _ _ h => h) (Or.inl ⟨by rfl, ?y13⟩) HS0 ?_
    case y13 => (intro w' hSw; (try dsimp only at hSw); go_simp; (try with_reducible rfl))
    try simp only [Act.put, List.setIfInBounds_toArray, List.set_cons_zero, List.set_cons_succ]
    refine takeQ (i := 14) (d := some 92) (v := ?_) rfl rfl (by kernel_rfl) (by kernel_rfl) (by kernel_rfl) (fun _ _ _ h => h) (Or.inl ⟨by rfl, ?y14⟩) HS0 ?_
    case y14 => (intro w' hSw; (try dsimp only at hSw); go_simp; (try with_reducible rfl))
    try simp only [Act.put, List.setIfInBounds_toArray, List.set_cons_zero, List.set_cons_succ]
    refine takeQ (i := 15) (d := some 93) (v := ?_) rfl rfl (by kernel_rfl) (by kernel_rfl) (by kernel_rfl) (fun _ _ _ h => h) (Or.inl ⟨by rfl, ?y15⟩) HS0 ?_
    case y15 => (intro w' hSw; (try dsimp only at hSw); go_simp; (try with_reducible rfl))
    try simp only [Act.put, List.setIfInBounds_toArray, List.set_cons_zero, List.set_cons_succ]
    refine takeQ (i := 16) (d := some 94) (v := ?_) rfl rfl (by kernel_rfl) (by kernel_rfl) (by kernel_rfl) (fun _ _ _ h => h) (Or.inl ⟨by rfl, ?y16⟩) HS0 ?_
    case y16 => (intro w' hSw; (try dsimp only at hSw); go_simp; (try with_reducible rfl))
    try simp only [Act.put, List.setIfInBounds_toArray, List.set_cons_zero, List.set_cons_succ]
    refine takeQ (i := 17) (d := some 95) (v := ?_) rfl rfl (by kernel_rfl) (by kernel_rfl) (by kernel_rfl) (fun _ _ _ h => h) (Or.inl ⟨by rfl, ?y17⟩) HS0 ?_
    case y17 => (intro w' hSw; (try dsimp only at hSw); go_simp; (try with_reducible rfl))
    try simp only [Act.put, List.setIfInBounds_toArray, List.set_cons_zero, List.set_cons_succ]
    refine takeQ (i := 18) (d := some 96) (v := ?_) rfl rfl (by kernel_rfl) (by kernel_rfl) (by kernel_rfl) (fun _ _ _ h => h) (Or.inl ⟨by rfl, ?y18⟩) HS0 ?_
    case y18 => (intro w' hSw; (try dsimp only at hSw); go_simp; (try with_reducible rfl))
    try simp only [Act.put, List.setIfInBounds_toArray, List.set_cons_zero, List.set_cons_succ]
    refine takeQ (i := 19) (d := some 97) (v := ?_) rfl rfl (by kernel_rfl) (by kernel_rfl) (by kernel_rfl) (fun _ _ _ h => h) (Or.inl ⟨by rfl, ?y19⟩) HS0 ?_
    case y19 => (intro w' hSw; (try dsimp only at hSw); go_simp; (try with_reducible rfl))
    try simp only [Act.put, List.setIfInBounds_toArray, List.set_cons_zero, List.set_cons_succ]
    refine takeQ (i := 20) (d := some 98) (v := ?_) rfl rfl (by kernel_rfl) (by kernel_rfl) (by kernel_rfl) (fun _ _ _ h => h) (Or.inl ⟨by rfl, ?y20⟩) HS0 ?_
    case y20 => (intro w' hSw; (try dsimp only at hSw); go_simp; (try with_reducible rfl))
    try simp only [Act.put, List.setIfInBounds_toArray, List.set_cons_zero, List.set_cons_succ]
    refine takeQ (i := 21) (d := some 99) (v := ?_) rfl rfl (by kernel_rfl) (by kernel_rfl) (by kernel_rfl) (fun _ _ _ h => h) (Or.inl ⟨by rfl, ?y21⟩) HS0 ?_
    case y21 => (intro w' hSw; (try dsimp only at hSw); go_simp; (try with_reducible rfl))
    try simp only [Act.put, List.setIfInBounds_toArray, List.set_cons_zero, List.set_cons_succ]
    refine takeQ (i := 22) (d := some 100) (v := ?_) rfl rfl (by kernel_rfl) (by kernel_rfl) (by kernel_rfl) (fun _ _ _ h => h) (Or.inl ⟨by rfl, ?y22⟩) HS0 ?_
    case y22 => (intro w' hSw; (try dsimp only at hSw); go_simp; (try with_reducible rfl))
    try simp only [Act.put, List.setIfInBounds_toArray, List.set_cons_zero, List.set_cons_succ]
    refine takeQ (i := 23) (d := some 101) (v := ?_) rfl rfl (by kernel_rfl) (by kernel_rfl) (by kernel_rfl) (fun _ _ _ h => h) (Or.inl ⟨by rfl, ?y23⟩) HS0 ?_
    case y23 => (intro w' hSw; (try dsimp only at hSw); go_simp; (try with_reducible rfl))
    try simp only [Act.put, List.setIfInBounds_toArray, List.set_cons_zero, List.set_cons_succ]
    refine takeQ (i := 24) (d := some 102) (v := ?_) rfl rfl (by kernel_rfl) (by kernel_rfl) (by kernel_rfl) (fun _ _ _ h => h) (Or.inl ⟨by rfl, ?y24⟩) HS0 ?_
    case y24 => (intro w' hSw; (try dsimp only at hSw); go_simp; (try with_reducible rfl))
    try simp only [Act.put, List.setIfInBounds_toArray, List.set_cons_zero, List.set_cons_succ]
    refine takeQ (i := 25) (d := some 103) (v := ?_) rfl rfl (by kernel_rfl) (by kernel_rfl) (by kernel_rfl) (fun _ _ _ h => h) (Or.inl ⟨by rfl, ?y25⟩) HS0 ?_
    case y25 => (intro w' hSw; (try dsimp only at hSw); go_simp; (try with_reducible rfl))
    try simp only [Act.put, List.setIfInBounds_toArray, List.set_cons_zero, List.set_cons_succ]
    refine takeQ (i := 27) (d := some 105) (v := ?_) rfl rfl (by kernel_rfl) (by kernel_rfl) (by kernel_rfl) (fun _ _ _ h => h) (Or.inl ⟨by rfl, ?y27⟩) HS0 ?_
    case y27 => (intro w' hSw; (try dsimp only at hSw); go_simp; (try with_reducible rfl))
    try simp only [Act.put, List.setIfInBounds_toArray, List.set_cons_zero, List.set_cons_succ]
    refine takeQ (i := 28) (d := some 106) (v := ?_) rfl rfl (by kernel_rfl) (by kernel_rfl) (by kernel_rfl) (fun _ _ _ h => h) (Or.inl ⟨by rfl, ?y28⟩) HS0 ?_
    case y28 => (intro w' hSw; (try dsimp only at hSw); go_simp; (try with_reducible rfl))
    try simp only [Act.put, List.setIfInBounds_toArray, List.set_cons_zero, List.set_cons_succ]
    refine wpAnyH_ready (rs := [4, 26]) (by kernel_rfl) (by simp) ?_
    refine AllReadyH.cons (i := 4) rfl (fun K hK => ?way4) (AllReadyH.cons (i := 26) rfl (fun K hK => ?way26) AllReadyH.nil)
    case way4 =>
      rw [if_pos (by rfl)]
      go_simp
      refine hK.out _ _ (by (first | exact (unhide HSC') _ (below_drew' (Below.refl _ _)) | exact (unhide HSG') _ _ (unhide hbn) (unhide hgr) | exact (unhide HSC') _ (unhide hbn) | exact (unhide HSC') _ ((unhide hbn).alloc (unhide hbn).size _) | exact (unhide HSS') _ _ ((unhide HSG') _ _ (unhide hbn) (unhide hgr)))) (fun hHeld => ?_)
      clear hK K HS0
      have HS0 := hHeld
      clear hHeld
      try simp only [Act.put, List.setIfInBounds_toArray, List.set_cons_zero, List.set_cons_succ]
      refine wpAnyH_ready (rs := [26]) (by kernel_rfl) (by simp) ?_
      refine AllReadyH.cons (i := 26) rfl (fun K hK => ?_) AllReadyH.nil
      rw [if_pos (by rfl)]
      go_simp
      go_at_call 16
      refine ((unhide HKC) _ (below_drew' (Below.refl _ _))).mono ?_
      rintro e w5 ⟨A5, c5, rfl, ho5, hb5⟩
      have hbn := hide ((below_drew' (Below.refl w3.heap.size w3)).trans hb5)
      have v8b := ((unhide HF3') _ _ (unhide hbn) (World.grownBy.refl w5 _)).1
      have v8c : ∀ o, (w5.alloc o).cell? ⟨w.heap.size, 0, none⟩ = some (.slice (some ⟨b2, o2, none⟩) flen c') := fun o => (World.cell?_alloc_some w5 _ o (by rw [v8b]; rfl)).trans v8b
      have Ho5 := hide ho5
      clear ho5 hb5
      refine hK.out _ _ (by (first | exact (unhide HSC') _ (below_drew' (Below.refl _ _)) | exact (unhide HSG') _ _ (unhide hbn) (unhide hgr) | exact (unhide HSC') _ (unhide hbn) | exact (unhide HSC') _ ((unhide hbn).alloc (unhide hbn).size _) | exact (unhide HSS') _ _ ((unhide HSG') _ _ (unhide hbn) (unhide hgr)))) (fun hHeld => ?_)
      clear hK K HS0
      have HS0 := hHeld
      clear hHeld
      try simp only [Act.put, List.setIfInBounds_toArray, List.set_cons_zero, List.set_cons_succ]
      refine takeQ (i := 29) (d := some 107) (v := ?_) rfl rfl (by kernel_rfl) (by kernel_rfl) (by kernel_rfl) (fun _ _ _ h => h) (Or.inl ⟨by rfl, ?y29⟩) HS0 ?_
      case y29 => (intro w' hSw; (try dsimp only at hSw); go_simp; (try with_reducible rfl))
      try simp only [Act.put, List.setIfInBounds_toArray, List.set_cons_zero, List.set_cons_succ]
      refine wpAnyH_ready (rs := [30]) (by kernel_rfl) (by simp) ?_
      refine AllReadyH.cons (i := 30) rfl (fun K hK => ?_) AllReadyH.nil
      rw [if_pos (by rfl)]
      go_simp
      refine hK.out _ _ (by (first | exact (unhide HSC') _ (below_drew' (Below.refl _ _)) | exact (unhide HSG') _ _ (unhide hbn) (unhide hgr) | exact (unhide HSC') _ (unhide hbn) | exact (unhide HSC') _ ((unhide hbn).alloc (unhide hbn).size _) | exact (unhide HSS') _ _ ((unhide HSG') _ _ (unhide hbn) (unhide hgr)))) (fun hHeld => ?_)
      clear hK K HS0
      have HS0 := hHeld
      clear hHeld
      try simp only [Act.put, List.setIfInBounds_toArray, List.set_cons_zero, List.set_cons_succ]
      refine wpAnyH_ready (rs := [31]) (by kernel_rfl) (by simp) ?_
      refine AllReadyH.cons (i := 31) rfl (fun K hK => ?_) AllReadyH.nil
      rw [if_pos (by rfl)]
      refine wp_app1g rnodeTy _ _ rfl w.heap.size (.slice (some ⟨b2, o2, none⟩) flen c') flen _ rfl ((unhide Hrow3) _ (unhide hbn)) #[.int .u8 (s.e.kind : Nat), .int .u16 (s.e.mode : Nat), .int .u32 (s.e.uid : Nat), .int .u32 (s.e.gid : Nat), .int .i64 (s.n : Nat), .int .i64 (up : Nat), .string nm, .slice A5 s.n c5, .string s.e.to] _ rfl (by simp) rfl (by simp [Value.oneCell']) (by omega) (Nat.le_trans hlo3 (unhide hbn).size) ?_; intro A6 c6 w6 ho6 hg6; have hgr := hide hg6; obtain ⟨t6, f6⟩ := (unhide HF3') _ _ (unhide hbn) hg6; have Ho6 := hide ho6; clear ho6 hg6
      refine hK.out _ _ (by (first | exact (unhide HSC') _ (below_drew' (Below.refl _ _)) | exact (unhide HSG') _ _ (unhide hbn) (unhide hgr) | exact (unhide HSC') _ (unhide hbn) | exact (unhide HSC') _ ((unhide hbn).alloc (unhide hbn).size _) | exact (unhide HSS') _ _ ((unhide HSG') _ _ (unhide hbn) (unhide hgr)))) (fun hHeld => ?_)
      clear hK K HS0
      have HS0 := hHeld
      clear hHeld
      try simp only [Act.put, List.setIfInBounds_toArray, List.set_cons_zero, List.set_cons_succ]
      refine takeQ (i := 32) (d := some 110) (v := ?_) rfl rfl (by kernel_rfl) (by kernel_rfl) (by kernel_rfl) (fun _ _ _ h => h) (Or.inl ⟨by rfl, ?y32⟩) HS0 ?_
      case y32 => (intro w' hSw; (try dsimp only at hSw); go_simp; (try with_reducible rfl))
      try simp only [Act.put, List.setIfInBounds_toArray, List.set_cons_zero, List.set_cons_succ]
      refine takeQ (i := 33) (d := some 111) (v := ?_) rfl rfl (by kernel_rfl) (by kernel_rfl) (by kernel_rfl) (fun _ _ _ h => h) (Or.inl ⟨by rfl, ?y33⟩) HS0 ?_
      case y33 => (intro w' hSw; (try dsimp only at hSw); go_simp; (try with_reducible rfl))
      try simp only [Act.put, List.setIfInBounds_toArray, List.set_cons_zero, List.set_cons_succ]
      refine wpAnyH_ready (rs := [34]) (by kernel_rfl) (by simp) ?_
      refine AllReadyH.cons (i := 34) rfl (fun K hK => ?_) AllReadyH.nil
      rw [if_pos (by rfl)]
      go_simp
      refine hK.out _ _ (by (first | exact (unhide HSC') _ (below_drew' (Below.refl _ _)) | exact (unhide HSG') _ _ (unhide hbn) (unhide hgr) | exact (unhide HSC') _ (unhide hbn) | exact (unhide HSC') _ ((unhide hbn).alloc (unhide hbn).size _) | exact (unhide HSS') _ _ ((unhide HSG') _ _ (unhide hbn) (unhide hgr)))) (fun hHeld => ?_)
      clear hK K HS0
      have HS0 := hHeld
      clear hHeld
      try simp only [Act.put, List.setIfInBounds_toArray, List.set_cons_zero, List.set_cons_succ]
      refine wpAnyH_done (by kernel_rfl) ?_ _
      refine NoPanic.normal ?_
      have hre : rndV (Vf.ndOf s.e up, ⟨A5, s.n, c5⟩) = [.int .u8 (s.e.kind : Nat), .int .u16 (s.e.mode : Nat), .int .u32 (s.e.uid : Nat), .int .u32 (s.e.gid : Nat), .int .i64 (s.n : Nat), .int .i64 (up : Nat), .string nm, .slice A5 s.n c5, .string s.e.to] := by
        unfold rndV
        simp only [Vf.ndOf, unhide Hdl, unhide Hple, unhide Hnm]
      have hfin := (unhide HFS3).addFin (V := w5) (V3 := w6) (Vf.ndOf s.e up) ⟨A5, s.n, c5⟩ hlo3 (unhide hbn) (own_base (unhide Ho5) hlo3) A6 c6 (by rw [hre, unhide Hfl]; exact unhide Ho6) (by rw [unhide Hfl]; exact unhide hgr)
      rw [unhide Hfl] at hfin
      have hg2 := Vf.add_good (unhide HF) (e := s.e) (by rw [unhide Hadd])
      rw [unhide Hadd] at hg2
      have hst := unhide Hstep
      rw [unhide Hadd, if_neg (by simp)] at hst
      have Hst := hide ((unhide Hadds).trans hst)
      have Hg2 := hide hg2
      have Hfin := hide hfin
      clear hre hfin hg2 hst v1 v2 v3 v4 v5 v6 v7 v8
      go_wp2_with fail
      go_roundg (n - (k + 1))
      case rel => exact ⟨k + 1, _, _, A6, c6, rfl, by omega, by go_num, unhide Hst, unhide Hg2, by rw [List.length_append, unhide HFl]; rfl, (unhide Hfin).1, (unhide HBw3).trans ((unhide Hfin).2)⟩
      case measure => rw [unhide Hgk]; omega
    case way26 =>
      rw [if_pos (by rfl)]
      go_simp
      go_at_call 16
      refine ((unhide HKC) _ (below_drew' (Below.refl _ _))).mono ?_
      rintro e w5 ⟨A5, c5, rfl, ho5, hb5⟩
      have hbn := hide ((below_drew' (Below.refl w3.heap.size w3)).trans hb5)
      have v8b := ((unhide HF3') _ _ (unhide hbn) (World.grownBy.refl w5 _)).1
      have v8c : ∀ o, (w5.alloc o).cell? ⟨w.heap.size, 0, none⟩ = some (.slice (some ⟨b2, o2, none⟩) flen c') := fun o => (World.cell?_alloc_some w5 _ o (by rw [v8b]; rfl)).trans v8b
      have Ho5 := hide ho5
      clear ho5 hb5
      refine hK.out _ _ (by (first | exact (unhide HSC') _ (below_drew' (Below.refl _ _)) | exact (unhide HSG') _ _ (unhide hbn) (unhide hgr) | exact (unhide HSC') _ (unhide hbn) | exact (unhide HSC') _ ((unhide hbn).alloc (unhide hbn).size _) | exact (unhide HSS') _ _ ((unhide HSG') _ _ (unhide hbn) (unhide hgr)))) (fun hHeld => ?_)
      clear hK K HS0
      have HS0 := hHeld
      clear hHeld
      try simp only [Act.put, List.setIfInBounds_toArray, List.set_cons_zero, List.set_cons_succ]
      refine takeQ (i := 29) (d := some 107) (v := ?_) rfl rfl (by kernel_rfl) (by kernel_rfl) (by kernel_rfl) (fun _ _ _ h => h) (Or.inl ⟨by rfl, ?y29⟩) HS0 ?_
      case y29 => (intro w' hSw; (try dsimp only at hSw); go_simp; (try with_reducible rfl))
      try simp only [Act.put, List.setIfInBounds_toArray, List.set_cons_zero, List.set_cons_succ]
      refine wpAnyH_ready (rs := [4, 30]) (by kernel_rfl) (by simp) ?_
      refine AllReadyH.cons (i := 4) rfl (fun K hK => ?way4) (AllReadyH.cons (i := 30) rfl (fun K hK => ?way30) AllReadyH.nil)
      case way4 =>
        rw [if_pos (by rfl)]
        go_simp
        refine hK.out _ _ (by (first | exact (unhide HSC') _ (below_drew' (Below.refl _ _)) | exact (unhide HSG') _ _ (unhide hbn) (unhide hgr) | exact (unhide HSC') _ (unhide hbn) | exact (unhide HSC') _ ((unhide hbn).alloc (unhide hbn).size _) | exact (unhide HSS') _ _ ((unhide HSG') _ _ (unhide hbn) (unhide hgr)))) (fun hHeld => ?_)
        clear hK K HS0
        have HS0 := hHeld
        clear hHeld
        try simp only [Act.put, List.setIfInBounds_toArray, List.set_cons_zero, List.set_cons_succ]
        refine wpAnyH_ready (rs := [30]) (by kernel_rfl) (by simp) ?_
        refine AllReadyH.cons (i := 30) rfl (fun K hK => ?_) AllReadyH.nil
        rw [if_pos (by rfl)]
        go_simp
        refine hK.out _ _ (by (first | exact (unhide HSC') _ (below_drew' (Below.refl _ _)) | exact (unhide HSG') _ _ (unhide hbn) (unhide hgr) | exact (unhide HSC') _ (unhide hbn) | exact (unhide HSC') _ ((unhide hbn).alloc (unhide hbn).size _) | exact (unhide HSS') _ _ ((unhide HSG') _ _ (unhide hbn) (unhide hgr)))) (fun hHeld => ?_)
        clear hK K HS0
        have HS0 := hHeld
        clear hHeld
        try simp only [Act.put, List.setIfInBounds_toArray, List.set_cons_zero, List.set_cons_succ]
        refine wpAnyH_ready (rs := [31]) (by kernel_rfl) (by simp) ?_
        refine AllReadyH.cons (i := 31) rfl (fun K hK => ?_) AllReadyH.nil
        rw [if_pos (by rfl)]
        refine wp_app1g rnodeTy _ _ rfl w.heap.size (.slice (some ⟨b2, o2, none⟩) flen c') flen _ rfl ((unhide Hrow3) _ (unhide hbn)) #[.int .u8 (s.e.kind : Nat), .int .u16 (s.e.mode : Nat), .int .u32 (s.e.uid : Nat), .int .u32 (s.e.gid : Nat), .int .i64 (s.n : Nat), .int .i64 (up : Nat), .string nm, .slice A5 s.n c5, .string s.e.to] _ rfl (by simp) rfl (by simp [Value.oneCell']) (by omega) (Nat.le_trans hlo3 (unhide hbn).size) ?_; intro A6 c6 w6 ho6 hg6; have hgr := hide hg6; obtain ⟨t6, f6⟩ := (unhide HF3') _ _ (unhide hbn) hg6; have Ho6 := hide ho6; clear ho6 hg6
        refine hK.out _ _ (by (first | exact (unhide HSC') _ (below_drew' (Below.refl _ _)) | exact (unhide HSG') _ _ (unhide hbn) (unhide hgr) | exact (unhide HSC') _ (unhide hbn) | exact (unhide HSC') _ ((unhide hbn).alloc (unhide hbn).size _) | exact (unhide HSS') _ _ ((unhide HSG') _ _ (unhide hbn) (unhide hgr)))) (fun hHeld => ?_)
        clear hK K HS0
        have HS0 := hHeld
        clear hHeld
        try simp only [Act.put, List.setIfInBounds_toArray, List.set_cons_zero, List.set_cons_succ]
        refine takeQ (i := 32) (d := some 110) (v := ?_) rfl rfl (by kernel_rfl) (by kernel_rfl) (by kernel_rfl) (fun _ _ _ h => h) (Or.inl ⟨by rfl, ?y32⟩) HS0 ?_
        case y32 => (intro w' hSw; (try dsimp only at hSw); go_simp; (try with_reducible rfl))
        try simp only [Act.put, List.setIfInBounds_toArray, List.set_cons_zero, List.set_cons_succ]
        refine takeQ (i := 33) (d := some 111) (v := ?_) rfl rfl (by kernel_rfl) (by kernel_rfl) (by kernel_rfl) (fun _ _ _ h => h) (Or.inl ⟨by rfl, ?y33⟩) HS0 ?_
        case y33 => (intro w' hSw; (try dsimp only at hSw); go_simp; (try with_reducible rfl))
        try simp only [Act.put, List.setIfInBounds_toArray, List.set_cons_zero, List.set_cons_succ]
        refine wpAnyH_ready (rs := [34]) (by kernel_rfl) (by simp) ?_
        refine AllReadyH.cons (i := 34) rfl (fun K hK => ?_) AllReadyH.nil
        rw [if_pos (by rfl)]
        go_simp
        refine hK.out _ _ (by (first | exact (unhide HSC') _ (below_drew' (Below.refl _ _)) | exact (unhide HSG') _ _ (unhide hbn) (unhide hgr) | exact (unhide HSC') _ (unhide hbn) | exact (unhide HSC') _ ((unhide hbn).alloc (unhide hbn).size _) | exact (unhide HSS') _ _ ((unhide HSG') _ _ (unhide hbn) (unhide hgr)))) (fun hHeld => ?_)
        clear hK K HS0
        have HS0 := hHeld
        clear hHeld
        try simp only [Act.put, List.setIfInBounds_toArray, List.set_cons_zero, List.set_cons_succ]
        refine wpAnyH_done (by kernel_rfl) ?_ _
        refine NoPanic.normal ?_
        have hre : rndV (Vf.ndOf s.e up, ⟨A5, s.n, c5⟩) = [.int .u8 (s.e.kind : Nat), .int .u16 (s.e.mode : Nat), .int .u32 (s.e.uid : Nat), .int .u32 (s.e.gid : Nat), .int .i64 (s.n : Nat), .int .i64 (up : Nat), .string nm, .slice A5 s.n c5, .string s.e.to] := by
          unfold rndV
          simp only [Vf.ndOf, unhide Hdl, unhide Hple, unhide Hnm]
        have hfin := (unhide HFS3).addFin (V := w5) (V3 := w6) (Vf.ndOf s.e up) ⟨A5, s.n, c5⟩ hlo3 (unhide hbn) (own_base (unhide Ho5) hlo3) A6 c6 (by rw [hre, unhide Hfl]; exact unhide Ho6) (by rw [unhide Hfl]; exact unhide hgr)
        rw [unhide Hfl] at hfin
        have hg2 := Vf.add_good (unhide HF) (e := s.e) (by rw [unhide Hadd])
        rw [unhide Hadd] at hg2
        have hst := unhide Hstep
        rw [unhide Hadd, if_neg (by simp)] at hst
        have Hst := hide ((unhide Hadds).trans hst)
        have Hg2 := hide hg2
        have Hfin := hide hfin
        clear hre hfin hg2 hst v1 v2 v3 v4 v5 v6 v7 v8
        go_wp2_with fail
        go_roundg (n - (k + 1))
        case rel => exact ⟨k + 1, _, _, A6, c6, rfl, by omega, by go_num, unhide Hst, unhide Hg2, by rw [List.length_append, unhide HFl]; rfl, (unhide Hfin).1, (unhide HBw3).trans ((unhide Hfin).2)⟩
        case measure => rw [unhide Hgk]; omega
      case way30 =>
        rw [if_pos (by rfl)]
        go_simp
        refine hK.out _ _ (by (first | exact (unhide HSC') _ (below_drew' (Below.refl _ _)) | exact (unhide HSG') _ _ (unhide hbn) (unhide hgr) | exact (unhide HSC') _ (unhide hbn) | exact (unhide HSC') _ ((unhide hbn).alloc (unhide hbn).size _) | exact (unhide HSS') _ _ ((unhide HSG') _ _ (unhide hbn) (unhide hgr)))) (fun hHeld => ?_)
        clear hK K HS0
        have HS0 := hHeld
        clear hHeld
        try simp only [Act.put, List.setIfInBounds_toArray, List.set_cons_zero, List.set_cons_succ]
        refine wpAnyH_ready (rs := [4]) (by kernel_rfl) (by simp) ?_
        refine AllReadyH.cons (i := 4) rfl (fun K hK => ?_) AllReadyH.nil
        rw [if_pos (by rfl)]
        go_simp
        refine hK.out _ _ (by (first | exact (unhide HSC') _ (below_drew' (Below.refl _ _)) | exact (unhide HSG') _ _ (unhide hbn) (unhide hgr) | exact (unhide HSC') _ (unhide hbn) | exact (unhide HSC') _ ((unhide hbn).alloc (unhide hbn).size _) | exact (unhide HSS') _ _ ((unhide HSG') _ _ (unhide hbn) (unhide hgr)))) (fun hHeld => ?_)
        clear hK K HS0
        have HS0 := hHeld
        clear hHeld
        try simp only [Act.put, List.setIfInBounds_toArray, List.set_cons_zero, List.set_cons_succ]
        refine wpAnyH_ready (rs := [31]) (by kernel_rfl) (by simp) ?_
        refine AllReadyH.cons (i := 31) rfl (fun K hK => ?_) AllReadyH.nil
        rw [if_pos (by rfl)]
        refine wp_app1g rnodeTy _ _ rfl w.heap.size (.slice (some ⟨b2, o2, none⟩) flen c') flen _ rfl ((unhide Hrow3) _ (unhide hbn)) #[.int .u8 (s.e.kind : Nat), .int .u16 (s.e.mode : Nat), .int .u32 (s.e.uid : Nat), .int .u32 (s.e.gid : Nat), .int .i64 (s.n : Nat), .int .i64 (up : Nat), .string nm, .slice A5 s.n c5, .string s.e.to] _ rfl (by simp) rfl (by simp [Value.oneCell']) (by omega) (Nat.le_trans hlo3 (unhide hbn).size) ?_; intro A6 c6 w6 ho6 hg6; have hgr := hide hg6; obtain ⟨t6, f6⟩ := (unhide HF3') _ _ (unhide hbn) hg6; have Ho6 := hide ho6; clear ho6 hg6
        refine hK.out _ _ (by (first | exact (unhide HSC') _ (below_drew' (Below.refl _ _)) | exact (unhide HSG') _ _ (unhide hbn) (unhide hgr) | exact (unhide HSC') _ (unhide hbn) | exact (unhide HSC') _ ((unhide hbn).alloc (unhide hbn).size _) | exact (unhide HSS') _ _ ((unhide HSG') _ _ (unhide hbn) (unhide hgr)))) (fun hHeld => ?_)
        clear hK K HS0
        have HS0 := hHeld
        clear hHeld
        try simp only [Act.put, List.setIfInBounds_toArray, List.set_cons_zero, List.set_cons_succ]
        refine takeQ (i := 32) (d := some 110) (v := ?_) rfl rfl (by kernel_rfl) (by kernel_rfl) (by kernel_rfl) (fun _ _ _ h => h) (Or.inl ⟨by rfl, ?y32⟩) HS0 ?_
        case y32 => (intro w' hSw; (try dsimp only at hSw); go_simp; (try with_reducible rfl))
        try simp only [Act.put, List.setIfInBounds_toArray, List.set_cons_zero, List.set_cons_succ]
        refine takeQ (i := 33) (d := some 111) (v := ?_) rfl rfl (by kernel_rfl) (by kernel_rfl) (by kernel_rfl) (fun _ _ _ h => h) (Or.inl ⟨by rfl, ?y33⟩) HS0 ?_
        case y33 => (intro w' hSw; (try dsimp only at hSw); go_simp; (try with_reducible rfl))
        try simp only [Act.put, List.setIfInBounds_toArray, List.set_cons_zero, List.set_cons_succ]
        refine wpAnyH_ready (rs := [34]) (by kernel_rfl) (by simp) ?_
        refine AllReadyH.cons (i := 34) rfl (fun K hK => ?_) AllReadyH.nil
        rw [if_pos (by rfl)]
        go_simp
        refine hK.out _ _ (by (first | exact (unhide HSC') _ (below_drew' (Below.refl _ _)) | exact (unhide HSG') _ _ (unhide hbn) (unhide hgr) | exact (unhide HSC') _ (unhide hbn) | exact (unhide HSC') _ ((unhide hbn).alloc (unhide hbn).size _) | exact (unhide HSS') _ _ ((unhide HSG') _ _ (unhide hbn) (unhide hgr)))) (fun hHeld => ?_)
        clear hK K HS0
        have HS0 := hHeld
        clear hHeld
        try simp only [Act.put, List.setIfInBounds_toArray, List.set_cons_zero, List.set_cons_succ]
        refine wpAnyH_done (by kernel_rfl) ?_ _
        refine NoPanic.normal ?_
        have hre : rndV (Vf.ndOf s.e up, ⟨A5, s.n, c5⟩) = [.int .u8 (s.e.kind : Nat), .int .u16 (s.e.mode : Nat), .int .u32 (s.e.uid : Nat), .int .u32 (s.e.gid : Nat), .int .i64 (s.n : Nat), .int .i64 (up : Nat), .string nm, .slice A5 s.n c5, .string s.e.to] := by
          unfold rndV
          simp only [Vf.ndOf, unhide Hdl, unhide Hple, unhide Hnm]
        have hfin := (unhide HFS3).addFin (V := w5) (V3 := w6) (Vf.ndOf s.e up) ⟨A5, s.n, c5⟩ hlo3 (unhide hbn) (own_base (unhide Ho5) hlo3) A6 c6 (by rw [hre, unhide Hfl]; exact unhide Ho6) (by rw [unhide Hfl]; exact unhide hgr)
        rw [unhide Hfl] at hfin
        have hg2 := Vf.add_good (unhide HF) (e := s.e) (by rw [unhide Hadd])
        rw [unhide Hadd] at hg2
        have hst := unhide Hstep
        rw [unhide Hadd, if_neg (by simp)] at hst
        have Hst := hide ((unhide Hadds).trans hst)
        have Hg2 := hide hg2
        have Hfin := hide hfin
        clear hre hfin hg2 hst v1 v2 v3 v4 v5 v6 v7 v8
        go_wp2_with fail
        go_roundg (n - (k + 1))
        case rel => exact ⟨k + 1, _, _, A6, c6, rfl, by omega, by go_num, unhide Hst, unhide Hg2, by rw [List.length_append, unhide HFl]; rfl, (unhide Hfin).1, (unhide HBw3).trans ((unhide Hfin).2)⟩
        case measure => rw [unhide Hgk]; omega
end Go.Proofs.YtfegfmapdekkbaaGreatDoor
namespace Go.Proofs.YtfegfmapdekkbaaGreatDoor
set_option linter.unusedVariables false
set_option linter.unusedSimpArgs false
open Go.RowKit

/-- The program's file system, if there is one. -/
def FsO (lo : Nat) (ne : Int) (F : List Vf.Nd) (n : Nat) (fo : Option Addr) (w : World) : Prop :=
  (ne ≠ 0 ∧ fo = none) ∨ (ne = 0 ∧ ∃ f A c L, fo = some ⟨f, 0, none⟩ ∧ FsM w lo f A c F L ∧ Vf.Good F ∧ F.length = n + 1 ∧ n ≤ 64)
/-- The reference's. -/
def RFsO (lo : Nat) (ne : Int) (F : List Vf.Nd) (n : Nat) (go : Option Addr) (w : World) : Prop :=
  (ne ≠ 0 ∧ go = none) ∨ (ne = 0 ∧ ∃ g A c ls, go = some ⟨g, 0, none⟩ ∧ RFs w lo g A c F ls ∧ Vf.Good F ∧ F.length = n + 1 ∧ n ≤ 64)
theorem FsO.keep {lo n : Nat} {ne : Int} {F : List Vf.Nd} {fo : Option Addr} {w w' : World} (h : FsO lo ne F n fo w) (hk : ∀ k, lo ≤ k → k < w.heap.size → w'.heap[k]? = w.heap[k]?) : FsO lo ne F n fo w' := by
  rcases h with h | ⟨h0, f, A, c, L, e, hf, r⟩
  · exact .inl h
  · exact .inr ⟨h0, f, A, c, L, e, hf.keep hk, r⟩
theorem RFsO.keep {lo n : Nat} {ne : Int} {F : List Vf.Nd} {go : Option Addr} {w w' : World} (h : RFsO lo ne F n go w) (hk : ∀ k, lo ≤ k → k < w.heap.size → w'.heap[k]? = w.heap[k]?) : RFsO lo ne F n go w' := by
  rcases h with h | ⟨h0, f, A, c, L, e, hf, r⟩
  · exact .inl h
  · exact .inr ⟨h0, f, A, c, L, e, hf.keep hk, r⟩
/-- Both News in one form. -/
theorem newE_one {es : List Vf.Ent} {w w' : World} {e : Ending} {ne ni : Int} {F : List Vf.Nd} (h : NewE es w e w') (hn : Vf.new es = (ne, ni, F)) :
    Below w.heap.size w w' ∧ ∃ fo, e = .returned (.tuple #[.pointer fo, .int .i64 ne, .int .i64 ni]) ∧ FsO w.heap.size ne F es.length fo w' := by
  unfold NewE at h
  rw [hn] at h
  obtain ⟨hb, ⟨h0, rfl⟩ | ⟨h0, f, A, c, L, rfl, hf, hg, hl, h1, h2⟩⟩ := h
  · exact ⟨hb, none, rfl, .inl ⟨h0, rfl⟩⟩
  · dsimp only at h0 h1
    subst h0
    subst h1
    exact ⟨hb, some ⟨f, 0, none⟩, rfl, .inr ⟨rfl, f, A, c, L, rfl, hf, hg, hl, h2⟩⟩
theorem newRE_one {es : List Vf.Ent} {w w' : World} {e : Ending} {ne ni : Int} {F : List Vf.Nd} (h : NewRE es w e w') (hn : Vf.new es = (ne, ni, F)) :
    Below w.heap.size w w' ∧ ∃ go, e = .returned (.tuple #[.pointer go, .int .i64 ne, .int .i64 ni]) ∧ RFsO w.heap.size ne F es.length go w' := by
  unfold NewRE at h
  rw [hn] at h
  obtain ⟨hb, ⟨h0, rfl⟩ | ⟨h0, f, A, c, L, rfl, hf, hg, hl, h1, h2⟩⟩ := h
  · exact ⟨hb, none, rfl, .inl ⟨h0, rfl⟩⟩
  · dsimp only at h0 h1
    subst h0
    subst h1
    exact ⟨hb, some ⟨f, 0, none⟩, rfl, .inr ⟨rfl, f, A, c, L, rfl, hf, hg, hl, h2⟩⟩
/-- What made answers. -/
def MadeE (es : List Vf.Ent) (w : World) (e : Ending) (w' : World) : Prop :=
  Below w.heap.size w w' ∧ ∃ fo go lo hi, e = .returned (.tuple #[.pointer fo, .pointer go, .bool true]) ∧ w.heap.size ≤ lo ∧ w.heap.size ≤ hi ∧ FsO lo (Vf.new es).1 (Vf.new es).2.2 es.length fo w' ∧ RFsO hi (Vf.new es).1 (Vf.new es).2.2 es.length go w'
end Go.Proofs.YtfegfmapdekkbaaGreatDoor
namespace Go.Proofs.YtfegfmapdekkbaaGreatDoor
set_option linter.unusedVariables false
set_option linter.unusedSimpArgs false
open Go.RowKit

/-- What the law compares, in plain words. -/
structure StpP (F : List Vf.Nd) (cr : Vf.Cred) (x : ByteArray) (argv : List ByteArray) (R : Nat × ByteArray × List ByteArray × Int) (ino : Nat) (xe : Int) (m : Vf.Meta) (d i a : List UInt8) (is : Bool) (y : Int) (R2 : Nat × ByteArray × List ByteArray × Int) : Prop where
  bad : xe ≠ 0 → R = (0, ⟨#[]⟩, [], xe)
  acc : xe = 0 → m.kind ≠ 1 → R = (0, ⟨#[]⟩, [], 5)
  par : xe = 0 → m.kind = 1 → y ≠ 0 → R.2.2.2 ≠ 0
  no : xe = 0 → m.kind = 1 → R.2.2.2 ≠ 5 → y = 0 → is = false → (R.2.2.2 ≠ 0 → R.2.2.2 = Cl.envCk argv) ∧ (R.2.2.2 = 0 → R = (ino, x, argv, 0))
  yes : xe = 0 → m.kind = 1 → R.2.2.2 ≠ 5 → y = 0 → is = true → R.2.2.2 ≠ 10 → R = R2
theorem stpP (F : List Vf.Nd) (cr : Vf.Cred) (x : ByteArray) (argv : List ByteArray) {ino : Nat} {xe : Int} {m : Vf.Meta} {i a : List UInt8} {is : Bool} {y : Int}
    (hw : Vf.walk F cr 0 x true = (ino, xe)) (hm : (Vf.metaOf F (ino : Nat)).1 = m) (hp : Sb.parse (Vf.nd F ino).data = (i, a, is, y)) :
    StpP F cr x argv (Sb.chain F cr 4 x argv) ino xe m (Vf.nd F ino).data i a is y (Sb.chain F cr 4 (Sb.ba i) (Sb.argv (Sb.ba i) (Sb.ba a) x argv)) := by
  have hpr : Sb.prog F cr x = if xe ≠ 0 then (0, xe) else if m.kind = 1 ∧ Vf.mayX cr m = true then (ino, 0) else (0, 5) := by unfold Sb.prog; rw [hw]; dsimp only; rw [hm]
  have hok : xe = 0 → (Sb.chain F cr 4 x argv).2.2.2 ≠ 5 → Sb.prog F cr x = (ino, 0) := by
    intro h1 h2
    rw [if_neg (fun h => h h1)] at hpr
    split at hpr
    · exact hpr
    · exfalso
      rw [Sb.chain_bad (by rw [hpr]; decide)] at h2
      rw [hpr] at h2
      exact h2 rfl
  have e1 : Sb.prog F cr x = (ino, 0) → (Sb.parse (Vf.nd F (Sb.prog F cr x).1).data) = (i, a, is, y) := fun h => by rw [h]; exact hp
  refine ⟨fun h => ?_, fun h hk => ?_, fun h hk hy => ?_, fun h hk h5 hy his => ?_, fun h hk h5 hy his h10 => ?_⟩
  · rw [if_pos h] at hpr
    rw [Sb.chain_bad (by rw [hpr]; exact h), hpr]
  · rw [if_neg (fun h2 => h2 h), if_neg (fun h2 => hk h2.1)] at hpr
    rw [Sb.chain_bad (by rw [hpr]; decide), hpr]
  · by_cases h5 : (Sb.chain F cr 4 x argv).2.2.2 = 5
    · rw [h5]; decide
    · have hq := hok h h5
      rw [Sb.chain_par (by rw [hq]) (by rw [e1 hq]; exact hy), e1 hq]
      exact hy
  · have hq := hok h h5
    rw [Sb.chain_prog (by rw [hq]) (by rw [e1 hq]; exact hy) (by rw [e1 hq]; exact his)]
    split
    · next hv => exact ⟨fun _ => rfl, fun h0 => absurd h0 hv⟩
    · rw [hq]
      exact ⟨fun h0 => absurd rfl h0, fun _ => rfl⟩
  · have hq := hok h h5
    have hs := Sb.chain_succ (F := F) (c := cr) (path := x) (by rw [hq]) (by rw [e1 hq]; exact hy) (by rw [e1 hq]; exact his) 3 argv
    rw [e1 hq] at hs
    dsimp only at hs
    rw [hs] at h10 ⊢
    exact (Sb.chain_mono F cr 3 _ _ h10).symm
theorem nd_size {F : List Vf.Nd} (h : Vf.Good F) {ino : Nat} (hk : (Vf.metaOf F (ino : Nat)).1.kind = 1) : (Vf.metaOf F (ino : Nat)).1.size = (Vf.nd F ino).data.length := by
  unfold Vf.metaOf at *
  split at hk
  · cases hk
  · next h0 =>
    rw [if_neg h0]
    show (Vf.nd F ino).m.size = _
    unfold Vf.nd
    cases hx : F[ino]? with
    | none => have := List.getElem?_eq_none_iff.1 hx; exact absurd (.inr (by simpa using this)) h0
    | some y => exact (h.size _ y hx).1

theorem own_maxLen {w : World} {base : Nat} {e : TypeId} {size n c : Nat} {A : Option Addr} {xs : List Value} (h : w.ownsRow base e size (.slice A n c) n xs) : n ≤ maxLen := by
  rcases h.2 with ⟨_, h0⟩ | ⟨g, cap, cur, hv, _, _, h1, h2, _⟩
  · omega
  · omega
end Go.Proofs.YtfegfmapdekkbaaGreatDoor
namespace Go.Proofs.YtfegfmapdekkbaaGreatDoor
set_option linter.unusedVariables false
set_option linter.unusedSimpArgs false
open Go.RowKit

set_option maxRecDepth 100000 in
set_option maxHeartbeats 4000000 in
theorem rmeta_any (F : List Vf.Nd) (ls : List RPl) (base g c : Nat) (A : Option Addr) (ino : Int) (w : World) (h : RFs w base g A c F ls) (hn : F.length ≤ 65) (h0 : 0 < F.length) :
    Calls Tryz.prog 25 #[.pointer (some ⟨g, 0, none⟩), .int .i64 ino] w fun e w' => e = .returned (.tuple #[metaV (Vf.metaOf F ino).1, .int .i64 (Vf.metaOf F ino).2]) ∧ Below w.heap.size w w' := by
  have hb0 : Below w.heap.size w (w.alloc (.cells #[.int .u8 0, .int .u16 0, .int .u32 0, .int .u32 0, .int .i64 0] 54)) := (Below.refl _ _).alloc (Nat.le_refl _) _
  have h1 := h.belowSz hb0
  obtain ⟨b1, o1, hA, _, hc⟩ := h1.cells h0
  have v0 := h1.fs.cell (i := 0) rfl
  obtain ⟨n, hfn⟩ : ∃ n, F.length = n := ⟨_, rfl⟩
  rw [hfn] at v0 hn
  subst hA
  have HB := hide hb0
  obtain ⟨⟨rm, re⟩, hr⟩ : ∃ r, Vf.metaOf F ino = r := ⟨_, rfl⟩
  rw [hr]
  dsimp only
  have Hr := hide hr
  have H1 := hide h1
  clear hr h hb0 h0 h1
  by_cases hneg : ino < 0
  · obtain ⟨rfl, rfl⟩ := Prod.mk.inj ((unhide Hr).symm.trans (show Vf.metaOf F ino = (Vf.zeroMeta, 3) by unfold Vf.metaOf; rw [if_pos (.inl hneg)]))
    clear hc
    go_enter Tryz.func25, Tryz.ntmps25
    go_wp2_with fail
    refine bodyPost_ret (results_cell_tmp (P := Tryz.prog) rfl _ _ w.heap.size 54 #[.int .u8 0, .int .u16 0, .int .u32 0, .int .u32 0, .int .i64 0] (0, 0) _ rfl (heap_alloc_new _ _) Tryz.underlying54 rfl metaInfo) rfl ?_
    exact ⟨rfl, unhide HB⟩
  · obtain ⟨i, rfl⟩ := Int.eq_ofNat_of_zero_le (show 0 ≤ ino by omega)
    have i0 : ¬ (i : Int) < 0 := by omega
    by_cases hlt : i < n
    · obtain ⟨x, hx⟩ : ∃ x, F[i]? = some x := ⟨_, List.getElem?_eq_getElem (by rw [hfn]; exact hlt)⟩
      obtain ⟨p, hp, _⟩ := (unhide H1).at_ hx
      have e0 := hc i x p hx hp 0 _ rfl
      have e1 := hc i x p hx hp 1 _ rfl
      have e2 := hc i x p hx hp 2 _ rfl
      have e3 := hc i x p hx hp 3 _ rfl
      have e4 := hc i x p hx hp 4 _ rfl
      rw [Nat.add_zero] at e0
      simp only [← Nat.add_assoc] at e1 e2 e3 e4
      have i1 : (i : Int) < (n : Int) := by omega
      have i2 : ¬ (n : Int) ≤ (i : Int) := by omega
      obtain ⟨rfl, rfl⟩ := Prod.mk.inj ((unhide Hr).symm.trans (show Vf.metaOf F (i : Nat) = (x.m, 0) by unfold Vf.metaOf; rw [if_neg (by rw [hfn]; simp; omega), Int.toNat_natCast, Vf.nd_eq hx]))
      clear hc hx hp
      go_enter Tryz.func25, Tryz.ntmps25
      go_wp2_with fail
      refine bodyPost_ret (results_cell_tmp (P := Tryz.prog) rfl _ _ w.heap.size 54 #[.int .u8 (x.m.kind : Nat), .int .u16 (x.m.mode : Nat), .int .u32 (x.m.uid : Nat), .int .u32 (x.m.gid : Nat), .int .i64 (x.m.size : Nat)] (0, 0) _ rfl (heap_alloc_new _ _) Tryz.underlying54 rfl metaInfo) rfl ?_
      exact ⟨rfl, (Below.refl w.heap.size w).alloc (Nat.le_refl _) _⟩
    · have i1 : ¬ (i : Int) < (n : Int) := by omega
      have i2 : (n : Int) ≤ (i : Int) := by omega
      obtain ⟨rfl, rfl⟩ := Prod.mk.inj ((unhide Hr).symm.trans (show Vf.metaOf F (i : Nat) = (Vf.zeroMeta, 3) by unfold Vf.metaOf; rw [if_pos (.inr (by rw [hfn]; simp; omega))]))
      clear hc
      go_enter Tryz.func25, Tryz.ntmps25
      go_wp2_with fail
      refine bodyPost_ret (results_cell_tmp (P := Tryz.prog) rfl _ _ w.heap.size 54 #[.int .u8 0, .int .u16 0, .int .u32 0, .int .u32 0, .int .i64 0] (0, 0) _ rfl (heap_alloc_new _ _) Tryz.underlying54 rfl metaInfo) rfl ?_
      exact ⟨rfl, unhide HB⟩
end Go.Proofs.YtfegfmapdekkbaaGreatDoor
namespace Go.Proofs.YtfegfmapdekkbaaGreatDoor
set_option linter.unusedVariables false
set_option linter.unusedSimpArgs false
open Go.RowKit

set_option maxRecDepth 100000 in
set_option maxHeartbeats 4000000 in
theorem rread_any (F : List Vf.Nd) (ls : List RPl) (base g c : Nat) (A : Option Addr) (ino off n : Int) (w : World) (hF : Vf.Good F) (h : RFs w base g A c F ls) (hn : F.length ≤ 65) (hbs : base ≤ w.heap.size) :
    Calls Tryz.prog 27 #[.pointer (some ⟨g, 0, none⟩), .int .i64 ino, .int .i64 off, .int .i64 n] w (ReadVE F ino off n w) := by
  have h0 := Vf.good_pos hF
  have KM := rmeta_any F ls base g c A ino w h hn h0
  unfold metaV at KM
  obtain ⟨⟨⟨mk, mm, mu, mg, ms⟩, me⟩, hm⟩ : ∃ r, Vf.metaOf F ino = r := ⟨_, rfl⟩
  rw [hm] at KM
  dsimp only at KM
  have HKM := hide KM
  have HF := hide hF
  have H := hide h
  have Hm := hide hm
  clear KM hF h hm
  go_enter Tryz.func27, Tryz.ntmps27
  go_wp2_with fail
  refine (unhide HKM).mono ?_
  rintro e w1 ⟨rfl, hb1⟩
  have hb2 := (unhide (hide hb1)).alloc hb1.size (.cells #[.int .u8 (mk : Nat), .int .u16 (mm : Nat), .int .u32 (mu : Nat), .int .u32 (mg : Nat), .int .i64 (ms : Nat)] 54)
  have Hb2 := hide hb2
  clear hb1 hb2
  by_cases hme : me = 0
  case neg =>
    have hre : Vf.readOf F ino off n = ([], me) := by
      unfold Vf.readOf
      rw [unhide Hm]
      simp [hme]
    have q0 : (me != 0) = true := by simp [hme]
    have Hre := hide hre
    clear hre hme
    go_wp2_with fail
    go_ret2
    exact readVE_nil (unhide Hre) (unhide Hb2)
  subst hme
  have hre : Vf.readOf F ino off n = if mk = 2 then ([], 9) else if mk = 3 ∨ off < 0 ∨ n < 0 then ([], 1) else (((Vf.nd F ino.toNat).data.drop off.toNat).take n.toNat, 0) := by
    unfold Vf.readOf
    rw [unhide Hm]
    simp
  have q0 : ((0 : Int) != 0) = false := rfl
  obtain ⟨i, hio, x, hx, hmx⟩ : ∃ i : Nat, ino = (i : Int) ∧ ∃ x, F[i]? = some x ∧ (⟨mk, mm, mu, mg, ms⟩ : Vf.Meta) = x.m := by
    have h := unhide Hm
    unfold Vf.metaOf at h
    split at h
    · injection h with _ h2; cases h2
    · next ho =>
      obtain ⟨i, rfl⟩ := Int.eq_ofNat_of_zero_le (show 0 ≤ ino by omega)
      have hi : i < F.length := by simp at ho; omega
      refine ⟨i, rfl, F[i], List.getElem?_eq_getElem hi, ?_⟩
      injection h with h1 _
      rw [Int.toNat_natCast, Vf.nd_eq (List.getElem?_eq_getElem hi)] at h1
      exact h1.symm
  subst hio
  by_cases h2 : mk = 2
  · have b1 : (((mk : Nat) : Int) == 2) = true := by rw [h2]; rfl
    rw [if_pos h2] at hre
    have Hre := hide hre
    clear hre hmx hx h2
    go_wp2_with fail
    go_ret2
    exact readVE_nil (unhide Hre) (unhide Hb2)
  have b1 : (((mk : Nat) : Int) == 2) = false := by rw [beq_eq_false_iff_ne]; omega
  rw [if_neg h2] at hre
  by_cases h3 : mk = 3 ∨ off < 0 ∨ n < 0
  · rw [if_pos h3] at hre
    have Hre := hide hre
    have hon : (((mk : Nat) : Int) == 3) = true ∨ ((((mk : Nat) : Int) == 3) = false ∧ off < 0) ∨ ((((mk : Nat) : Int) == 3) = false ∧ ¬ off < 0 ∧ n < 0) := by
      by_cases a : mk = 3
      · exact .inl (by rw [a]; rfl)
      · have b : (((mk : Nat) : Int) == 3) = false := by rw [beq_eq_false_iff_ne]; omega
        by_cases a2 : off < 0
        · exact .inr (.inl ⟨b, a2⟩)
        · exact .inr (.inr ⟨b, a2, by omega⟩)
    clear hre hmx hx h2 h3
    rcases hon with o1 | ⟨o1, o2⟩ | ⟨o1, o2, o3⟩
    all_goals
      go_wp2_with fail
      go_ret2
      exact readVE_nil (unhide Hre) (unhide Hb2)
  rw [if_neg h3] at hre
  have b3 : (((mk : Nat) : Int) == 3) = false := by rw [beq_eq_false_iff_ne]; omega
  have hon1 : ¬ off < 0 := by omega
  have hon2 : ¬ n < 0 := by omega
  obtain ⟨p, hp, _⟩ := (unhide H).at_ hx
  have hHW := ((unhide H).belowSz (unhide Hb2))
  obtain ⟨bb, ob, hA, _, hc⟩ := hHW.cells h0
  have v0 := hHW.fs.cell (i := 0) rfl
  have hdat := hHW.dat i x p hx hp
  have e7 := hc i x p hx hp 7 _ rfl
  simp only [← Nat.add_assoc] at e7
  obtain ⟨fl, hfn⟩ : ∃ n, F.length = n := ⟨_, rfl⟩
  rw [hfn] at v0
  have hil : i < fl := by rw [← hfn]; exact (List.getElem?_eq_some_iff.1 hx).1
  have j0 : ¬ (i : Int) < 0 := by omega
  have j1 : (i : Int) < (fl : Int) := by omega
  subst hA
  rw [Int.toNat_natCast, Vf.nd_eq hx] at hre
  have hsz := ((unhide HF).size i x hx).2.2
  obtain ⟨o, rfl⟩ := Int.eq_ofNat_of_zero_le (show 0 ≤ off by omega)
  obtain ⟨m, rfl⟩ := Int.eq_ofNat_of_zero_le (show 0 ≤ n by omega)
  simp only [Int.toNat_natCast] at hre
  have hrd := Rd.of_own hdat
  have hpc := own_cap hdat
  have hpn : x.data.length = p.n := by simpa [bys] using hrd.len1
  by_cases hop : p.n ≤ o
  · have g1 : (p.n : Int) ≤ (o : Int) := by omega
    rw [List.drop_of_length_le (by omega), List.take_nil] at hre
    have Hre := hide hre
    clear hre hmx hx hp h2 h3 hHW hc hdat hrd hpc hpn hsz hop hfn hil
    go_wp2_with fail
    go_ret2
    exact readVE_nil (unhide Hre) (unhide Hb2)
  have g1 : ¬ (p.n : Int) ≤ (o : Int) := by omega
  obtain ⟨q, hq⟩ : ∃ q, p.n - o = q := ⟨_, rfl⟩
  obtain ⟨cq, hcq⟩ : ∃ q, p.c - o = q := ⟨_, rfl⟩
  have r1 := fun w' => run_from (P := Tryz.prog) Tryz.underlying49 (e := 5) (by kernel_rfl) p.A p.n p.c o (by omega) w'
  have hrd2 := hrd.from_ (k := o) (by omega) hpc
  obtain ⟨A3, hA3⟩ : ∃ A3, fromA p.A p.c o = A3 := ⟨_, rfl⟩
  rw [hq, hcq, hA3] at r1
  rw [hq, hA3] at hrd2
  have hbd : (bys x.data).drop o = bys (x.data.drop o) := by unfold bys; rw [← List.map_drop]
  rw [hbd] at hrd2
  by_cases hmq : m < q
  · have g2 : (m : Int) < (q : Int) := by omega
    have r2 := fun w' => run_to (P := Tryz.prog) Tryz.underlying49 (e := 5) (by kernel_rfl) A3 q cq m (by omega) w'
    have hrd3 := hrd2.to_ (k := m) (by omega)
    have hbt : (bys (x.data.drop o)).take m = bys ((x.data.drop o).take m) := by unfold bys; rw [← List.map_take]
    rw [hbt] at hrd3
    have hdl : ((x.data.drop o).take m).length = m := by rw [List.length_take, List.length_drop]; omega
    have KC := copyBytes_any A3 m cq _ ((x.data.drop o).take m) _ (Nat.le_refl _) hrd3 (by omega)
    have HKC := hide KC
    have Hdl := hide hdl
    have Hre := hide hre
    clear hre hmx hx hp h2 h3 hHW hc hdat hrd hpc hpn hsz hop hfn hil hq hcq hA3 hrd2 hbd hmq hrd3 hbt hdl KC
    go_wp2_with fail
    refine (unhide HKC).mono ?_
    rintro e w4 ⟨A5, c5, rfl, ho5, hb5⟩
    have hb6 := (unhide Hb2).trans (hb5.mono (unhide Hb2).size)
    have ho6 := own_base ho5 (unhide Hb2).size
    have Hb6 := hide hb6
    have Ho6 := hide ho6
    clear hb5 ho5 hb6 ho6
    go_wp2_with fail
    go_ret2
    unfold ReadVE
    rw [unhide Hre]
    dsimp only
    rw [unhide Hdl]
    exact ⟨A5, c5, rfl, unhide Ho6, unhide Hb6⟩
  · have g2 : ¬ (m : Int) < (q : Int) := by omega
    have hdl : (x.data.drop o).length = q := by rw [List.length_drop]; omega
    rw [List.take_of_length_le (by omega)] at hre
    have KC := copyBytes_any A3 q cq _ (x.data.drop o) _ (Nat.le_refl _) hrd2 (by omega)
    have HKC := hide KC
    have Hdl := hide hdl
    have Hre := hide hre
    clear hre hmx hx hp h2 h3 hHW hc hdat hrd hpc hpn hsz hop hfn hil hq hcq hA3 hrd2 hbd hmq hdl KC
    go_wp2_with fail
    refine (unhide HKC).mono ?_
    rintro e w4 ⟨A5, c5, rfl, ho5, hb5⟩
    have hb6 := (unhide Hb2).trans (hb5.mono (unhide Hb2).size)
    have ho6 := own_base ho5 (unhide Hb2).size
    have Hb6 := hide hb6
    have Ho6 := hide ho6
    clear hb5 ho5 hb6 ho6
    go_wp2_with fail
    go_ret2
    unfold ReadVE
    rw [unhide Hre]
    dsimp only
    rw [unhide Hdl]
    exact ⟨A5, c5, rfl, unhide Ho6, unhide Hb6⟩
end Go.Proofs.YtfegfmapdekkbaaGreatDoor
namespace Go.Proofs.YtfegfmapdekkbaaGreatDoor
set_option linter.unusedVariables false
set_option linter.unusedSimpArgs false
open Go.RowKit

set_option maxRecDepth 100000 in
set_option maxHeartbeats 8000000 in
theorem rwalk_any (F : List Vf.Nd) (ls : List RPl) (base g c : Nat) (A Ag : Option Addr) (ng kg : Nat) (cr : Vf.Cred) (src : Int) (path : ByteArray) (last : Bool) (w : World) (hF : Vf.Good F) (h : RFs w base g A c F ls) (hn : F.length ≤ 65)
    (hg : Rd w w.heap.size 1 Ag ng (cr.groups.map u32v)) (hng : ng ≤ maxLen) (hps : path.size ≤ 4294967296) :
    Calls Tryz.prog 24 #[.pointer (some ⟨g, 0, none⟩), credV cr Ag ng kg, .int .i64 src, .string path, .bool last] w fun e w' => e = .returned (.tuple #[.int .i64 ((Vf.walk F cr src path last).1 : Nat), .int .i64 (Vf.walk F cr src path last).2]) ∧ Below w.heap.size w w' := by
  have h0 := Vf.good_pos hF
  have hb0 : Below w.heap.size w (w.alloc (.cells #[.int .u32 (cr.uid : Nat), .int .u32 (cr.euid : Nat), .int .u32 (cr.suid : Nat), .int .u32 (cr.gid : Nat), .slice Ag ng kg] 26)) := (Below.refl _ _).alloc (Nat.le_refl _) _
  have hcb : Blk (w.alloc (.cells #[.int .u32 (cr.uid : Nat), .int .u32 (cr.euid : Nat), .int .u32 (cr.suid : Nat), .int .u32 (cr.gid : Nat), .slice Ag ng kg] 26)) w.heap.size 26 [.int .u32 (cr.uid : Nat), .int .u32 (cr.euid : Nat), .int .u32 (cr.suid : Nat), .int .u32 (cr.gid : Nat), .slice Ag ng kg] := Blk.new w 26 _
  have KMay : ∀ (i : Nat) (x : Vf.Nd), F[i]? = some x → ∀ w', Below w.heap.size w w' → Calls Tryz.prog 26 #[.agg #[.int .u32 (cr.uid : Nat), .int .u32 (cr.euid : Nat), .int .u32 (cr.suid : Nat), .int .u32 (cr.gid : Nat), .slice Ag ng kg], .agg #[.int .u8 (x.m.kind : Nat), .int .u16 (x.m.mode : Nat), .int .u32 (x.m.uid : Nat), .int .u32 (x.m.gid : Nat), .int .i64 (x.m.size : Nat)], .int .u8 1] w' fun e w2 => e = .returned (.bool (Vf.mayX cr x.m)) ∧ Below w'.heap.size w' w2 :=
    fun i x hx w' hb => rmay_any cr x.m Ag ng kg w.heap.size w' (hg.below hb) hb.size hng (hF.mode i x hx)
  have KDir : ∀ w', Below w.heap.size w w' → ∀ (i : Int) (r : Bool), r = decide (¬ (i < 0 ∨ Vf.kindAt F i.toNat ≠ 2)) → Calls Tryz.prog 50 #[.pointer (some ⟨g, 0, none⟩), .int .i64 i] w' fun e w2 => e = .returned (.bool r) ∧ w' = w2 :=
    fun w' hb i r hr => rfdir_any F ls base g c A i w' (h.belowSz hb) hn h0 r hr
  have KCh : ∀ w', Below w.heap.size w w' → ∀ (d : Nat) (nm : ByteArray), Calls Tryz.prog 37 #[.pointer (some ⟨g, 0, none⟩), .int .i64 (d : Nat), .string nm] w' fun e w2 => e = .returned (numV (Vf.child F d nm)) ∧ w' = w2 :=
    fun w' hb d nm => rchild_any F ls base g c A d nm w' (h.belowSz hb) hn h0
  obtain ⟨⟨rn0, re0⟩, hr⟩ : ∃ r, Vf.walk F cr src path last = r := ⟨_, rfl⟩
  rw [hr]
  dsimp only
  have HKM := hide KMay
  have HKD := hide KDir
  have HKC := hide KCh
  have HF := hide hF
  have H := hide h
  have Hr := hide hr
  have Hb0 := hide hb0
  have Hcb := hide hcb
  have Hg := hide hg
  have Hn := hide hn
  have H0 := hide h0
  unfold credV
  clear hF h hr hb0 hcb hg KMay KDir KCh hn h0
  go_enter Tryz.func24, Tryz.ntmps24
  go_wp2_with fail
  by_cases hs : src < 0 ∨ Vf.kindAt F src.toNat ≠ 2
  · obtain ⟨rfl, rfl⟩ : rn0 = 0 ∧ re0 = 1 := by
      have := unhide Hr
      unfold Vf.walk at this
      rw [if_pos hs] at this
      injection this with a b
      exact ⟨a.symm, b.symm⟩
    refine ((unhide HKD) _ (unhide Hb0) src false (by simp [hs])).mono ?_
    rintro e w1 ⟨rfl, rfl⟩
    clear hs
    go_wp2_with fail
    go_ret2
    exact ⟨rfl, unhide Hb0⟩
  · refine ((unhide HKD) _ (unhide Hb0) src true (by simp [hs])).mono ?_
    rintro e w1 ⟨rfl, rfl⟩
    obtain ⟨i, rfl⟩ := Int.eq_ofNat_of_zero_le (show 0 ≤ src by omega)
    have hk : Vf.kindAt F i = 2 := by
      simp only [not_or, Decidable.not_not, Int.toNat_natCast] at hs
      exact hs.2
    obtain ⟨x, hx, hxk⟩ := Vf.kindAt_lt hk
    have KP := hide (rparts_any path (by omega) (w.alloc (.cells #[.int .u32 (cr.uid : Nat), .int .u32 (cr.euid : Nat), .int .u32 (cr.suid : Nat), .int .u32 (cr.gid : Nat), .slice Ag ng kg] 26)))
    obtain ⟨ck, hck⟩ : ∃ b, Pth.chk path = b := ⟨_, rfl⟩
    obtain ⟨tb, htb⟩ : ∃ b, Pth.rootB path = b := ⟨_, rfl⟩
    obtain ⟨pl, hpl⟩ : ∃ l, Pth.partsL path = l := ⟨_, rfl⟩
    obtain ⟨tl, htl⟩ : ∃ b, Pth.tailB path = b := ⟨_, rfl⟩
    have hpl2 := Vf.parts_len path
    have hwk := unhide Hr
    unfold Vf.walk at hwk
    rw [if_neg hs] at hwk
    simp only [Int.toNat_natCast] at hwk
    rw [hck, htb, hpl, htl] at hwk
    rw [hck, htb, hpl] at KP
    rw [hpl] at hpl2
    have Hwk := hide hwk
    have Hx := hide hx
    have Hpl2 := hide hpl2
    have KT := hide (fun w' => rtail_any path (by omega) w')
    rw [htl] at KT
    have Hil := hide (List.getElem?_eq_some_iff.1 hx).1
    clear hs hk hx hxk hck htb hpl htl hwk hpl2 Hr
    go_wp2_with fail
    refine (unhide KP).mono ?_
    rintro e w2 ⟨A2, c2, rfl, ho2, hb2⟩
    have hcb2 := (unhide Hcb).belowSz hb2
    have Hb2 := hide ((unhide Hb0).trans (hb2.mono (by simp)))
    have Hr2 := hide (Rd.of_own ho2)
    have Hc2 := hide (own_cap ho2)
    have Hcb2 := hide hcb2
    clear ho2 hb2 hcb2
    by_cases hck : ck = 0
    case neg =>
      obtain ⟨rfl, rfl⟩ : rn0 = 0 ∧ re0 = ck := by
        have := unhide Hwk
        rw [if_pos hck] at this
        injection this with a b
        exact ⟨a.symm, b.symm⟩
      have i1 : (re0 != 0) = true := by simp [hck]
      clear hck
      go_wp2_with fail
      go_ret2
      exact ⟨rfl, unhide Hb2⟩
    subst hck
    have hwk := unhide Hwk
    rw [if_neg (by simp)] at hwk
    have q0 : ((0 : Int) != 0) = false := rfl
    obtain ⟨i1, hi1⟩ : ∃ i1, (if tb = true then 0 else i) = i1 := ⟨_, rfl⟩
    rw [hi1] at hwk
    have hil1 : i1 < F.length := by
      rw [← hi1]
      split
      · exact unhide H0
      · exact unhide Hil
    obtain ⟨lt, hlt⟩ : ∃ b, (last || tl) = b := ⟨_, rfl⟩
    rw [hlt] at hwk
    obtain ⟨⟨re, rn⟩, hen⟩ : ∃ r, Vf.ends F cr lt ⟨i1, 0, pl⟩ = r := ⟨_, rfl⟩
    obtain ⟨M, hMe⟩ : ∃ M, Vf.mu ⟨i1, 0, pl⟩ = M := ⟨_, rfl⟩
    have hM : M ≤ 1817 := by rw [← hMe]; unfold Vf.mu; have := unhide Hpl2; simp only; omega
    rw [hen] at hwk
    dsimp only at hwk
    have herr : ∀ e', re = e' → e' ≠ 0 → rn0 = 0 ∧ re0 = e' := by
      intro e' h1 h2
      rw [h1, if_pos h2] at hwk
      injection hwk with a b
      exact ⟨a.symm, b.symm⟩
    have Herr := hide herr
    have S0 : AlS w F [] cr Ag ng kg lt (re, rn) M ⟨i1, 0, pl⟩ A2 c2 w2 :=
      ⟨unhide Hb2, unhide Hcb2, (unhide Hr2), hil1, Nat.zero_le _, Nat.le_of_eq hMe, hen, unhide Hc2⟩
    have HS0 := hide S0
    have Hwk2 := hide hwk
    have HMe := hide hMe
    have Hlt := hide hlt
    have Hi1 := hide hi1
    obtain ⟨nl, hnl⟩ : ∃ n, pl.length = n := ⟨_, rfl⟩
    rw [hnl]
    have Hnl := hide hnl
    clear hwk herr S0 hMe hlt hil1 hen hi1 hnl Hwk
    cases tb
    all_goals
      go_wp2_with fail
      refine ((unhide KT) _).mono ?_
      rintro e w3 ⟨rfl, rfl⟩
      go_wp2_with fail
      go_loopg [12, 15, 17] M (fun gk lv av kv wr => ∃ (s : Vf.St) (A1 : Option Addr) (c1 : Nat), gk = Vf.mu s ∧ lv = .slice A1 s.left.length c1 ∧ av = .int .i64 (s.at_ : Nat) ∧ kv = .int .i64 (s.links : Nat) ∧ AlS w F [] cr Ag ng kg lt (re, rn) M s A1 c1 wr)
      case atStart => exact ⟨⟨i1, 0, pl⟩, A2, c2, (unhide HMe).symm, by rw [← unhide Hnl], by rw [← unhide Hi1]; rfl, rfl, unhide HS0⟩
      case round =>
      obtain ⟨s, A1, c1, hgk, rfl, rfl, rfl, hS⟩ := hrel
      have HS := hide hS
      have hat := hS.at_
      have hlen := hS.len
      obtain ⟨x, hx⟩ : ∃ x, F[s.at_]? = some x := ⟨_, List.getElem?_eq_getElem hat⟩
      obtain ⟨p, hp, _⟩ := (unhide H).at_ hx
      have HW := hide ((unhide H).belowSz hS.b)
      have Hx := hide hx
      have Hp := hide hp
      have Hgk := hide hgk
      have HbS := hide hS.b
      cases hleft : s.left with
      | nil =>
        obtain ⟨rfl, rfl⟩ : re = 0 ∧ rn = s.at_ := by
          have := hS.stop (Vf.hop_nil hleft)
          injection this with a b
          exact ⟨a, b⟩
        simp only [List.length_nil]
        have hwk := unhide Hwk2
        rw [if_neg (by simp), Vf.kindAt_eq hx] at hwk
        have hdr : ∀ r : Bool, r = decide (x.m.kind = 2) → r = decide (¬ (((s.at_ : Nat) : Int) < 0 ∨ Vf.kindAt F ((s.at_ : Nat) : Int).toNat ≠ 2)) := by
          intro r hr
          rw [hr, Int.toNat_natCast, Vf.kindAt_eq hx]
          by_cases h2 : x.m.kind = 2
          · rw [decide_eq_true h2]; exact (decide_eq_true (by omega)).symm
          · rw [decide_eq_false h2]; exact (decide_eq_false (by omega)).symm
        have Hdr := hide hdr
        clear hdr
        cases tl with
        | false =>
          rw [if_neg (by simp)] at hwk
          obtain ⟨rfl, rfl⟩ : rn0 = s.at_ ∧ re0 = 0 := by
            injection hwk with a b
            exact ⟨a.symm, b.symm⟩
          clear hS hx hp hgk hlen hat hleft hwk
          go_wp2_with fail
          go_ret2
          exact ⟨rfl, unhide HbS⟩
        | true =>
          by_cases h2 : x.m.kind = 2
          · rw [if_neg (by simp [h2])] at hwk
            obtain ⟨rfl, rfl⟩ : rn0 = s.at_ ∧ re0 = 0 := by
              injection hwk with a b
              exact ⟨a.symm, b.symm⟩
            have hd := (unhide Hdr) true (decide_eq_true h2).symm
            have Hd := hide hd
            clear hS hx hp hgk hlen hat hleft hwk h2 hd
            go_wp2_with fail
            refine ((unhide HKD) _ (unhide HbS) _ true (unhide Hd)).mono ?_
            rintro e w4 ⟨rfl, rfl⟩
            go_wp2_with fail
            go_ret2
            exact ⟨rfl, unhide HbS⟩
          · rw [if_pos (by simp [h2])] at hwk
            obtain ⟨rfl, rfl⟩ : rn0 = 0 ∧ re0 = 8 := by
              injection hwk with a b
              exact ⟨a.symm, b.symm⟩
            have hd := (unhide Hdr) false (decide_eq_false h2).symm
            have Hd := hide hd
            clear hS hx hp hgk hlen hat hleft hwk h2 hd
            go_wp2_with fail
            refine ((unhide HKD) _ (unhide HbS) _ false (unhide Hd)).mono ?_
            rintro e w4 ⟨rfl, rfl⟩
            go_wp2_with fail
            go_ret2
            exact ⟨rfl, unhide HbS⟩
      | cons pn rest =>
        have hl1 : s.left.length = rest.length + 1 := by rw [hleft]; rfl
        have Hleft := hide hleft
        obtain ⟨m, hm⟩ : ∃ m, rest.length = m := ⟨_, rfl⟩
        have Hm := hide hm
        have hmM : m < M := by omega
        simp only [List.length_cons]
        rw [hm]
        have g1 : (0 : Int) < (m : Int) + 1 := by omega
        have gl : ((m + 1 : Nat) : Int) = (m : Int) + 1 := by omega
        have hdr : ∀ r : Bool, r = decide (x.m.kind = 2) → r = decide (¬ (((s.at_ : Nat) : Int) < 0 ∨ Vf.kindAt F ((s.at_ : Nat) : Int).toNat ≠ 2)) := by
          intro r hr
          rw [hr, Int.toNat_natCast, Vf.kindAt_eq hx]
          by_cases h2 : x.m.kind = 2
          · rw [decide_eq_true h2]; exact (decide_eq_true (by omega)).symm
          · rw [decide_eq_false h2]; exact (decide_eq_false (by omega)).symm
        by_cases hk2 : x.m.kind = 2
        case neg =>
          have hka : Vf.kindAt F s.at_ ≠ 2 := by rw [Vf.kindAt_eq hx]; exact hk2
          have h8 : re = 8 := by
            have := hS.stop (Vf.hop_no hleft hka)
            injection this with a b
          obtain ⟨rfl, rfl⟩ := (unhide Herr) 8 h8 (by decide)
          have Hd := hide (hdr false (decide_eq_false hk2).symm)
          clear hS hx hp hgk hlen hat hleft hk2 hka h8 hdr hm hl1
          go_wp2_with fail
          refine ((unhide HKD) _ (unhide HbS) _ false (unhide Hd)).mono ?_
          rintro e w4 ⟨rfl, rfl⟩
          go_wp2_with fail
          go_ret2
          exact ⟨rfl, unhide HbS⟩
        have Hd := hide (hdr true (decide_eq_true hk2).symm)
        have hka : Vf.kindAt F s.at_ = 2 := (Vf.kindAt_eq hx).trans hk2
        have hnd : Vf.nd F s.at_ = x := Vf.nd_eq hx
        obtain ⟨b1, o1, hA, _, hcl⟩ := (unhide HW).cells (unhide H0)
        have v0 := (unhide HW).fs.cell (i := 0) rfl
        obtain ⟨n, hfn⟩ : ∃ n, F.length = n := ⟨_, rfl⟩
        rw [hfn] at v0 hat
        have ilt : ((s.at_ : Nat) : Int) < (n : Int) := by omega
        have ige : ¬ ((s.at_ : Nat) : Int) < 0 := by omega
        have hcb := hS.cb
        have hfsb := (unhide HW)
        have KM := (unhide HKM) s.at_ x hx
        obtain ⟨bm, hbm⟩ : ∃ b, Vf.mayX cr x.m = b := ⟨_, rfl⟩
        rw [hbm] at KM
        have Hbm := hide hbm
        have HSK : ∀ w', Below wr.heap.size wr w' → (Below wr.heap.size wr w' ∧ w'.cell? ⟨w.heap.size, 0, none⟩ = some (.int .u32 (cr.uid : Nat)) ∧ w'.cell? ⟨w.heap.size, 1, none⟩ = some (.int .u32 (cr.euid : Nat)) ∧ w'.cell? ⟨w.heap.size, 2, none⟩ = some (.int .u32 (cr.suid : Nat)) ∧ w'.cell? ⟨w.heap.size, 3, none⟩ = some (.int .u32 (cr.gid : Nat)) ∧ w'.cell? ⟨w.heap.size, 4, none⟩ = some (.slice Ag ng kg) ∧ w'.cell? ⟨g, 0, none⟩ = some (.slice A n c) ∧ w'.cell? ⟨b1, o1 + s.at_ * 9, none⟩ = some (.int .u8 (x.m.kind : Nat)) ∧ w'.cell? ⟨b1, o1 + s.at_ * 9 + 1, none⟩ = some (.int .u16 (x.m.mode : Nat)) ∧ w'.cell? ⟨b1, o1 + s.at_ * 9 + 2, none⟩ = some (.int .u32 (x.m.uid : Nat)) ∧ w'.cell? ⟨b1, o1 + s.at_ * 9 + 3, none⟩ = some (.int .u32 (x.m.gid : Nat)) ∧ w'.cell? ⟨b1, o1 + s.at_ * 9 + 4, none⟩ = some (.int .i64 (x.m.size : Nat))) := by
          intro w' hbw
          have h1 := hcb.belowSz hbw
          have h2 := (hfsb.belowSz hbw).fs
          rw [hfn] at h2
          have h3 : ∀ j u, (rndV (x, p))[j]? = some u → w'.cell? ⟨b1, o1 + (s.at_ * 9 + j), none⟩ = some u := fun j u hu => (hbw.cell (p := ⟨b1, _, none⟩) (cell_lt (hcl s.at_ x p hx hp j u hu))).trans (hcl s.at_ x p hx hp j u hu)
          have e0 := h3 0 _ rfl
          have e1 := h3 1 _ rfl
          have e2 := h3 2 _ rfl
          have e3 := h3 3 _ rfl
          have e4 := h3 4 _ rfl
          rw [Nat.add_zero] at e0
          simp only [← Nat.add_assoc] at e1 e2 e3 e4
          exact ⟨hbw, h1.cell rfl, h1.cell rfl, h1.cell rfl, h1.cell rfl, h1.cell rfl, h2.cell rfl, e0, e1, e2, e3, e4⟩
        obtain ⟨-, a0, a1, a2, a3, a4, v1, d0, d1, d2, d3, d4⟩ := HSK wr (Below.refl _ _)
        have hbW := hS.b
        have HKM2 := hide (fun w' (hbw : Below wr.heap.size wr w') => KM w' (hbW.trans (hbw.mono hbW.size)))
        have Hka := hide hka
        have Hnd := hide hnd
        have HSK' := hide HSK
        have Hk2 := hide hk2
        have Hcl := hide hcl
        have Hfn := hide hfn
        subst hA
        clear hS hx hp hgk hlen hleft hcb KM hbm HSK hka hnd hk2 hm hl1 hdr hcl hfn v0 hfsb hbW
        go_wp2_with fail
        refine ((unhide HKD) _ (unhide HbS) _ true (unhide Hd)).mono ?_
        rintro e w4 ⟨rfl, rfl⟩
        go_wp2_with fail
        go_region_held3 (fun w' => Below wr.heap.size wr w' ∧ w'.cell? ⟨w.heap.size, 0, none⟩ = some (.int .u32 (cr.uid : Nat)) ∧ w'.cell? ⟨w.heap.size, 1, none⟩ = some (.int .u32 (cr.euid : Nat)) ∧ w'.cell? ⟨w.heap.size, 2, none⟩ = some (.int .u32 (cr.suid : Nat)) ∧ w'.cell? ⟨w.heap.size, 3, none⟩ = some (.int .u32 (cr.gid : Nat)) ∧ w'.cell? ⟨w.heap.size, 4, none⟩ = some (.slice Ag ng kg) ∧ w'.cell? ⟨g, 0, none⟩ = some (.slice (some ⟨b1, o1, none⟩) n c) ∧ w'.cell? ⟨b1, o1 + s.at_ * 9, none⟩ = some (.int .u8 (x.m.kind : Nat)) ∧ w'.cell? ⟨b1, o1 + s.at_ * 9 + 1, none⟩ = some (.int .u16 (x.m.mode : Nat)) ∧ w'.cell? ⟨b1, o1 + s.at_ * 9 + 2, none⟩ = some (.int .u32 (x.m.uid : Nat)) ∧ w'.cell? ⟨b1, o1 + s.at_ * 9 + 3, none⟩ = some (.int .u32 (x.m.gid : Nat)) ∧ w'.cell? ⟨b1, o1 + s.at_ * 9 + 4, none⟩ = some (.int .i64 (x.m.size : Nat))) (first | exact (unhide HSK') _ (below_drew' (Below.refl _ _)) | exact (unhide HSK') _ (unhide hbn)) (first
          | (go_at_call 26; rename Below _ _ _ ∧ _ => hH; refine ((unhide HKM2) _ hH.1).mono ?_; rintro e w5 ⟨rfl, hb5⟩; have hbn := hide (hH.1.trans (hb5.mono hH.1.size))))
        have HS2 := hide ((unhide HS).below (unhide hbn))
        have Hb5 := hide ((unhide HS2).b)
        clear a0 a1 a2 a3 a4 v1 d0 d1 d2 d3 d4
        cases bm with
        | false =>
          have h5 : re = 5 := by
            have := (unhide HS).stop (Vf.hop_shut (unhide Hleft) (unhide Hka) (by rw [unhide Hnd]; exact unhide Hbm))
            injection this with a b
          obtain ⟨rfl, rfl⟩ := (unhide Herr) 5 h5 (by decide)
          clear h5
          go_wp2_with fail
          go_ret2
          exact ⟨rfl, unhide Hb5⟩
        | true =>
          have hrd := (unhide HS2).rd
          rw [unhide Hleft, List.length_cons, unhide Hm, List.map_cons] at hrd
          have hcp := (unhide HS2).cap
          rw [unhide Hleft, List.length_cons, unhide Hm] at hcp
          have hsl := fun w' => run_tail (P := Tryz.prog) (e := 9) Tryz.underlying27 (by kernel_rfl) A1 m c1 w'
          have hrt := hrd.tail hcp
          obtain ⟨bL, oL, hA1, _, cL⟩ := hrd.at_ (k := 0) (u := .string pn) rfl
          obtain ⟨A2', hA2⟩ : ∃ A2, tailA A1 c1 = A2 := ⟨_, rfl⟩
          rw [hA2] at hsl hrt
          rw [Nat.add_zero] at cL
          subst hA1
          have Hrt := hide hrt
          have Hcp := hide hcp
          have hw5 := (unhide HSK') w5 (unhide hbn)
          have v5 := hw5.2.2.2.2.2.2.1
          clear hrd hA2 hrt hcp hw5
          have hdq : (pn.toList == [46, 46]) = decide (pn = Vf.dd) := by
            have h := beq_toList pn Vf.dd
            rwa [show Vf.dd.toList = [46, 46] by rw [Lib.toList_data]; rfl] at h
          by_cases hd : pn = Vf.dd
          · rw [decide_eq_true hd] at hdq
            obtain ⟨hul, hud⟩ := Vf.up_lt (unhide HF) (unhide Hx)
            have e5 := (unhide Hcl) s.at_ x p (unhide Hx) (unhide Hp) 5 _ rfl
            simp only [← Nat.add_assoc] at e5
            have c6 := ((unhide hbn).cell (p := ⟨b1, _, none⟩) (cell_lt e5)).trans e5
            have hnx := (unhide HS).next (Vf.hop_up (unhide Hleft) (unhide Hka) (by rw [unhide Hnd]; exact unhide Hbm) hd)
            rw [unhide Hnd] at hnx
            have HN : Hid (AlS w F [] cr Ag ng kg lt (re, rn) M ⟨x.up, s.links, rest⟩ A2' (c1 - 1) w5) :=
              hide ⟨(unhide HS2).b, (unhide HS2).cb, by rw [unhide Hm]; exact unhide Hrt, hul, (unhide HS2).lk, Nat.le_trans (Nat.le_of_lt hnx.2) (unhide HS2).mu, hnx.1, by rw [unhide Hm]; have := unhide Hcp; omega⟩
            have Hnx := hide hnx.2
            clear hd hul hud hnx e5
            go_wp2_with fail
            go_roundg (Vf.mu ⟨x.up, s.links, rest⟩)
            case rel => exact ⟨⟨x.up, s.links, rest⟩, A2', c1 - 1, rfl, by rw [unhide Hm], rfl, rfl, unhide HN⟩
            case measure => rw [unhide Hgk]; exact unhide Hnx
          · rw [decide_eq_false hd] at hdq
            have hml : Vf.mayX cr (Vf.nd F s.at_).m = true := by rw [unhide Hnd]; exact unhide Hbm
            have KC := (unhide HKC) w5 (unhide Hb5) s.at_ pn
            cases hc : Vf.child F s.at_ pn with
            | none =>
              rw [hc, numV_none] at KC
              have h3 : re = 3 := by
                have := (unhide HS).stop (Vf.hop_none (unhide Hleft) (unhide Hka) hml hd hc)
                injection this with a b
              obtain ⟨rfl, rfl⟩ := (unhide Herr) 3 h3 (by decide)
              have HKC2 := hide KC
              clear h3 hd hc hml KC
              go_wp2_with fail
              refine (unhide HKC2).mono ?_
              rintro e w6 ⟨rfl, rfl⟩
              go_wp2_with fail
              go_ret2
              exact ⟨rfl, unhide Hb5⟩
            | some j =>
              rw [hc, numV_some] at KC
              have hjl := (Vf.child_dir (unhide HF) hc).2.2
              obtain ⟨xj, hxj⟩ : ∃ x, F[j]? = some x := ⟨_, List.getElem?_eq_getElem hjl⟩
              obtain ⟨pj, hpj, _⟩ := (unhide H).at_ hxj
              have ej0 := (unhide Hcl) j xj pj hxj hpj 0 _ rfl
              have ej8 := (unhide Hcl) j xj pj hxj hpj 8 _ rfl
              rw [Nat.add_zero] at ej0
              simp only [← Nat.add_assoc] at ej8
              have f0 := ((unhide hbn).cell (p := ⟨b1, _, none⟩) (cell_lt ej0)).trans ej0
              have f8 := ((unhide hbn).cell (p := ⟨b1, _, none⟩) (cell_lt ej8)).trans ej8
              have HKC2 := hide KC
              have HIn : Hid (Vf.kindAt F j ≠ 3 ∨ (rest = [] ∧ lt = false) → AlS w F [] cr Ag ng kg lt (re, rn) M ⟨j, s.links, rest⟩ A2' (c1 - 1) w5 ∧ Vf.mu ⟨j, s.links, rest⟩ < Vf.mu s) := hide (fun h3 => by
                have hnx := (unhide HS).next (Vf.hop_in (unhide Hleft) (unhide Hka) hml hd hc h3)
                exact ⟨⟨(unhide HS2).b, (unhide HS2).cb, by rw [unhide Hm]; exact unhide Hrt, hjl, (unhide HS2).lk, Nat.le_trans (Nat.le_of_lt hnx.2) (unhide HS2).mu, hnx.1, by rw [unhide Hm]; have := unhide Hcp; omega⟩, hnx.2⟩)
              have hjn : j < n := by rw [← unhide Hfn]; exact hjl
              have j0 : ¬ (j : Int) < 0 := by omega
              have j1 : (j : Int) < (n : Int) := by omega
              by_cases hk3 : xj.m.kind = 3
              · have q3 : ((xj.m.kind : Int) != 3) = false := by rw [hk3]; rfl
                have hk3' : Vf.kindAt F j = 3 := (Vf.kindAt_eq hxj).trans hk3
                have hndj : Vf.nd F j = xj := Vf.nd_eq hxj
                have hto : xj.to.size ≤ 200 := Pth.chk_size _ ((unhide HF).to j xj hxj hk3)
                by_cases hin : rest = [] ∧ lt = false
                · have h3 := (unhide HIn) (.inr hin)
                  have HN := hide h3.1
                  have Hnx := hide h3.2
                  have hm0 : m = 0 := by rw [← unhide Hm, hin.1]; rfl
                  have hq0 : ((m : Int) == 0) = true := by rw [hm0]; rfl
                  obtain ⟨hla, htl⟩ : last = false ∧ tl = false := by
                    have := unhide Hlt
                    rw [hin.2] at this
                    exact Bool.or_eq_false_iff.1 this
                  clear h3 hk3 hc hjl hxj hpj hml hd ej0 ej8 hk3' hndj hto hin hm0 KC
                  subst hla
                  subst htl
                  go_wp2_with fail
                  refine (unhide HKC2).mono ?_
                  rintro e w6 ⟨rfl, rfl⟩
                  go_wp2_with fail
                  go_roundg (Vf.mu ⟨j, s.links, rest⟩)
                  case rel => exact ⟨⟨j, s.links, rest⟩, A2', c1 - 1, rfl, by rw [unhide Hm], rfl, rfl, unhide HN⟩
                  case measure => rw [unhide Hgk]; exact unhide Hnx
                · have hno : ¬ (Vf.kindAt F j ≠ 3 ∨ (rest = [] ∧ lt = false)) := by
                    rintro (h | h)
                    · exact h hk3'
                    · exact hin h
                  have hpick : ((m : Int) == 0) = false ∨ (((m : Int) == 0) = true ∧ last = true) ∨ (((m : Int) == 0) = true ∧ last = false ∧ tl = true) := by
                    by_cases hm0 : m = 0
                    · have e0 : ((m : Int) == 0) = true := by rw [hm0]; rfl
                      have hl := unhide Hlt
                      have hr0 : rest = [] := List.eq_nil_of_length_eq_zero ((unhide Hm).trans hm0)
                      have hlt2 : lt = true := by
                        cases lt with
                        | true => rfl
                        | false => exact absurd ⟨hr0, rfl⟩ hin
                      cases last with
                      | true => exact .inr (.inl ⟨e0, rfl⟩)
                      | false =>
                        rw [hlt2] at hl
                        cases tl with
                        | true => exact .inr (.inr ⟨e0, rfl, rfl⟩)
                        | false => cases hl
                    · exact .inl (by rw [beq_eq_false_iff_ne]; omega)
                  have hlk8 := (unhide HS2).lk
                  have i0 : (0 : Int) ≤ (s.links : Int) := by omega
                  have iw : IntKind.i64.wrap ((s.links : Int) + 1) = (s.links : Int) + 1 := IntWalk.i64_in _ (by omega)
                  by_cases h8 : 8 ≤ s.links
                  · have h10 : re = 10 := by
                      have := (unhide HS).stop (Vf.hop_loop (unhide Hleft) (unhide Hka) hml hd hc hno h8)
                      injection this with a b
                    obtain ⟨rfl, rfl⟩ := (unhide Herr) 10 h10 (by decide)
                    have g8 : (8 : Int) < (s.links : Int) + 1 := by omega
                    clear hk3 hc hjl hxj hpj hml hd ej0 ej8 hk3' hndj hto hin hno hlk8 h8 h10 KC
                    rcases hpick with hq0 | ⟨hq0, rfl⟩ | ⟨hq0, rfl, rfl⟩
                    all_goals
                      go_wp2_with fail
                      refine (unhide HKC2).mono ?_
                      rintro e w6 ⟨rfl, rfl⟩
                      go_wp2_with fail
                      go_ret2
                      exact ⟨rfl, unhide Hb5⟩
                  · have hnx := (unhide HS).next (Vf.hop_link (unhide Hleft) (unhide Hka) hml hd hc hno h8)
                    rw [hndj] at hnx
                    have g8 : ¬ (8 : Int) < (s.links : Int) + 1 := by omega
                    have KP := hide (rparts_any xj.to (by omega) w5)
                    have hpl := Vf.parts_len xj.to
                    have Hnx := hide hnx
                    have h8' : s.links + 1 ≤ 8 := by omega
                    have hm2 : m ≤ 1817 := by omega
                    obtain ⟨tb2, htb⟩ : ∃ b, Pth.rootB xj.to = b := ⟨_, rfl⟩
                    obtain ⟨pl2, hpll⟩ : ∃ l, Pth.partsL xj.to = l := ⟨_, rfl⟩
                    rw [htb, hpll] at KP
                    rw [hpll] at hpl
                    obtain ⟨np, hnp⟩ : ∃ n, pl2.length = n := ⟨_, rfl⟩
                    rw [hnp] at KP hpl
                    rw [htb, hpll] at Hnx
                    have Hnp := hide hnp
                    clear hk3 hc hjl hxj hpj hml hd ej0 ej8 hk3' hndj hto hin hno hlk8 h8 hnx htb hpll hnp KC
                    have HN : ∀ (B : Nat) (A4 : Option Addr) (c4 : Nat) (w4 : World), w4.ownsRow B 9 1 (.slice A4 (np + m) c4) (np + m) (pl2.map Value.string ++ rest.map Value.string) → Below w5.heap.size w5 w4 → AlS w F [] cr Ag ng kg lt (re, rn) M ⟨if tb2 = true then 0 else s.at_, s.links + 1, pl2 ++ rest⟩ A4 c4 w4 := by
                      intro B A4 c4 w4 ho4 hb4
                      have hS4 := (unhide HS2).below hb4
                      have hlen4 : (pl2 ++ rest).length = np + m := by rw [List.length_append, unhide Hnp, unhide Hm]
                      refine ⟨hS4.b, hS4.cb, ?_, ?_, h8', Nat.le_trans (Nat.le_of_lt (unhide Hnx).2) (unhide HS2).mu, (unhide Hnx).1, ?_⟩
                      · show Rd w4 w4.heap.size 1 A4 (pl2 ++ rest).length ((pl2 ++ rest).map Value.string)
                        rw [hlen4, List.map_append]
                        exact Rd.of_own ho4
                      · show (if tb2 = true then 0 else s.at_) < F.length
                        split
                        · exact Vf.good_pos (unhide HF)
                        · exact (unhide HS2).at_
                      · show (pl2 ++ rest).length ≤ c4
                        rw [hlen4]
                        exact own_cap ho4
                    have hlen4 : (pl2 ++ rest).length = np + m := by rw [List.length_append, unhide Hnp, unhide Hm]
                    have Hlen4 := hide hlen4
                    replace HN := hide HN
                    clear hlen4
                    rcases hpick with hq0 | ⟨hq0, rfl⟩ | ⟨hq0, rfl, rfl⟩
                    all_goals
                      go_wp2_with fail
                      refine (unhide HKC2).mono ?_
                      rintro e w6 ⟨rfl, rfl⟩
                      go_wp2_with fail
                      refine (unhide KP).mono ?_
                      rintro e w3 ⟨A3, c3, rfl, ho3, hb3⟩
                      have Hrd3 := hide (Rd.of_own ho3)
                      have Hb3 := hide hb3
                      have Hr3 := hide ((unhide Hrt).belowSz hb3)
                      clear ho3 hb3
                      cases tb2 with
                      | false =>
                        go_wp2_with (at_builtin; first | (refine wpList_app strTy rfl _ _ rfl w3.heap.size (.slice none 0 0) 0 [] rfl (World.ownsRow_nil _ _ _ _) w3.heap.size A3 np c3 _ rfl (unhide Hrd3) (strs_one _) (by omega) (Nat.le_refl _) ?_; intro A4 c4 w4 ho4 hg4 hat4; simp only [Nat.zero_add, List.nil_append] at ho4; have hb4 := (Below.refl w3.heap.size w3).grown hg4 (Nat.le_refl _) (fun k hk => by simp [Value.ownBlock] at hk); have Ho4 := hide ho4; have Hb4 := hide hb4; have Hr4 := hide ((unhide Hr3).belowSz hb4); simp only [Nat.zero_add]; clear ho4 hg4 hat4 hb4) | (refine wpList_app strTy rfl _ _ rfl w3.heap.size (.slice A4 np c4) np _ rfl (unhide Ho4) w4.heap.size A2' m (c1 - 1) _ rfl (unhide Hr4) (strs_one _) (by omega) (unhide Hb4).size ?_; intro A5 c5 w7 ho5 hg5 hat5; have hb6 := (unhide Hb4).grown hg5 (unhide Hb4).size (fun k hk => ((unhide Ho4).lt k hk).1); have Ho5 := hide ho5; have Hb6 := hide hb6; clear ho5 hg5 hat5 hb6))
                        have hN4 := (unhide HN) _ A5 c5 w7 (unhide Ho5) ((unhide Hb3).trans ((unhide Hb6).mono (unhide Hb3).size))
                        simp only [Bool.false_eq_true, if_false] at hN4
                        go_roundg (Vf.mu ⟨s.at_, s.links + 1, pl2 ++ rest⟩)
                        case rel => exact ⟨⟨s.at_, s.links + 1, pl2 ++ rest⟩, A5, c5, rfl, by rw [unhide Hlen4], rfl, rfl, hN4⟩
                        case measure => rw [unhide Hgk]; exact (unhide Hnx).2
                      | true =>
                        go_wp2_with (at_builtin; first | (refine wpList_app strTy rfl _ _ rfl w3.heap.size (.slice none 0 0) 0 [] rfl (World.ownsRow_nil _ _ _ _) w3.heap.size A3 np c3 _ rfl (unhide Hrd3) (strs_one _) (by omega) (Nat.le_refl _) ?_; intro A4 c4 w4 ho4 hg4 hat4; simp only [Nat.zero_add, List.nil_append] at ho4; have hb4 := (Below.refl w3.heap.size w3).grown hg4 (Nat.le_refl _) (fun k hk => by simp [Value.ownBlock] at hk); have Ho4 := hide ho4; have Hb4 := hide hb4; have Hr4 := hide ((unhide Hr3).belowSz hb4); simp only [Nat.zero_add]; clear ho4 hg4 hat4 hb4) | (refine wpList_app strTy rfl _ _ rfl w3.heap.size (.slice A4 np c4) np _ rfl (unhide Ho4) w4.heap.size A2' m (c1 - 1) _ rfl (unhide Hr4) (strs_one _) (by omega) (unhide Hb4).size ?_; intro A5 c5 w7 ho5 hg5 hat5; have hb6 := (unhide Hb4).grown hg5 (unhide Hb4).size (fun k hk => ((unhide Ho4).lt k hk).1); have Ho5 := hide ho5; have Hb6 := hide hb6; clear ho5 hg5 hat5 hb6))
                        have hN4 := (unhide HN) _ A5 c5 w7 (unhide Ho5) ((unhide Hb3).trans ((unhide Hb6).mono (unhide Hb3).size))
                        simp only [if_true] at hN4
                        go_roundg (Vf.mu ⟨0, s.links + 1, pl2 ++ rest⟩)
                        case rel => exact ⟨⟨0, s.links + 1, pl2 ++ rest⟩, A5, c5, rfl, by rw [unhide Hlen4], rfl, rfl, hN4⟩
                        case measure => rw [unhide Hgk]; exact (unhide Hnx).2
              · have q3 : ((xj.m.kind : Int) != 3) = true := by simp; omega
                have h3 := (unhide HIn) (.inl (by rw [Vf.kindAt_eq hxj]; exact hk3))
                have HN := hide h3.1
                have Hnx := hide h3.2
                clear h3 hk3 hc hjl hxj hpj hml hd ej0 ej8 KC
                go_wp2_with fail
                refine (unhide HKC2).mono ?_
                rintro e w6 ⟨rfl, rfl⟩
                go_wp2_with fail
                go_roundg (Vf.mu ⟨j, s.links, rest⟩)
                case rel => exact ⟨⟨j, s.links, rest⟩, A2', c1 - 1, rfl, by rw [unhide Hm], rfl, rfl, unhide HN⟩
                case measure => rw [unhide Hgk]; exact unhide Hnx
end Go.Proofs.YtfegfmapdekkbaaGreatDoor
namespace Go.Proofs.YtfegfmapdekkbaaGreatDoor
set_option linter.unusedVariables false
set_option linter.unusedSimpArgs false
open Go.RowKit

theorem rchain_none (cr : Vf.Cred) (A : Option Addr) (n k : Nat) (x : ByteArray) (Aa : Option Addr) (m cc : Nat) (w : World) :
    Calls Tryz.prog 13 #[.pointer none, credV cr A n k, .string x, .slice Aa m cc] w fun e w' => e = .returned (.tuple #[.int .i64 0, .string ⟨#[]⟩, .slice none 0 0, .int .i64 2]) ∧ Below w.heap.size w w' := by
  unfold credV
  go_enter Tryz.func13, Tryz.ntmps13
  go_wp2_with fail
  refine bodyPost_ret (res_tmp4 rfl _ _ _) rfl ?_
  exact ⟨rfl, (Below.refl _ _).alloc (Nat.le_refl _) _⟩
theorem nd_size' {F : List Vf.Nd} (h : Vf.Good F) {ino : Nat} (hk : (Vf.metaOf F (ino : Nat)).1.kind = 1) : (Vf.metaOf F (ino : Nat)).1.size = (Vf.nd F ino).data.length := by
  unfold Vf.metaOf at *
  split at hk
  · cases hk
  · next h0 =>
    rw [if_neg h0]
    show (Vf.nd F ino).m.size = _
    unfold Vf.nd
    cases hx : F[ino]? with
    | none => have := List.getElem?_eq_none_iff.1 hx; exact absurd (.inr (by simpa using this)) h0
    | some y => exact (h.size _ y hx).1

set_option maxRecDepth 100000 in
set_option maxHeartbeats 8000000 in
theorem rchain_any (F : List Vf.Nd) (ls : List RPl) (base g cg : Nat) (Ag A Aa : Option Addr) (n k m cc : Nat) (cr : Vf.Cred) (x : ByteArray) (argv : List ByteArray) (w : World) (hF : Vf.Good F) (hFS : RFs w base g Ag cg F ls) (hn : F.length ≤ 65) (hbs : base ≤ w.heap.size)
    (hg : Rd w w.heap.size 1 A n (cr.groups.map u32v)) (hng : n ≤ maxLen) (hx : x.size ≤ 4294967296) (hl : Rd w w.heap.size 1 Aa m (argv.map Value.string)) (hm : m ≤ 2147483648) (hs : ∀ y ∈ argv, y.size ≤ maxLen) :
    Calls Tryz.prog 13 #[.pointer (some ⟨g, 0, none⟩), credV cr A n k, .string x, .slice Aa m cc] w (ChainE (Sb.chain F cr 4 x argv) w) := by
  have hb0 : Below w.heap.size w (w.alloc (.cells #[.int .u32 (cr.uid : Nat), .int .u32 (cr.euid : Nat), .int .u32 (cr.suid : Nat), .int .u32 (cr.gid : Nat), .slice A n k] 26)) := (Below.refl _ _).alloc (Nat.le_refl _) _
  have hc0 : Blk (w.alloc (.cells #[.int .u32 (cr.uid : Nat), .int .u32 (cr.euid : Nat), .int .u32 (cr.suid : Nat), .int .u32 (cr.gid : Nat), .slice A n k] 26)) w.heap.size 26 [.int .u32 (cr.uid : Nat), .int .u32 (cr.euid : Nat), .int .u32 (cr.suid : Nat), .int .u32 (cr.gid : Nat), .slice A n k] := Blk.new w 26 _
  have hll : argv.length = m := by simpa using hl.len1
  have h0F := Vf.good_pos hF
  have KW : ∀ w', Below w.heap.size w w' → ∀ y : ByteArray, y.size ≤ 4294967296 → Calls Tryz.prog 24 #[.pointer (some ⟨g, 0, none⟩), .agg #[.int .u32 (cr.uid : Nat), .int .u32 (cr.euid : Nat), .int .u32 (cr.suid : Nat), .int .u32 (cr.gid : Nat), .slice A n k], .int .i64 0, .string y, .bool true] w' fun e w5 => e = .returned (.tuple #[.int .i64 ((Vf.walk F cr 0 y true).1 : Nat), .int .i64 (Vf.walk F cr 0 y true).2]) ∧ Below w'.heap.size w' w5 :=
    fun w' hb y hy => rwalk_any F ls base g cg Ag A n k cr 0 y true w' hF (hFS.belowSz hb) hn ((hg.below hb).more hb.size) hng hy
  have KM : ∀ w', Below w.heap.size w w' → ∀ ino : Int, Calls Tryz.prog 25 #[.pointer (some ⟨g, 0, none⟩), .int .i64 ino] w' fun e w5 => e = .returned (.tuple #[metaV (Vf.metaOf F ino).1, .int .i64 (Vf.metaOf F ino).2]) ∧ Below w'.heap.size w' w5 :=
    fun w' hb ino => rmeta_any F ls base g cg Ag ino w' (hFS.belowSz hb) hn h0F
  have KY : ∀ w', Below w.heap.size w w' → ∀ m : Vf.Meta, m.mode < 65536 → Calls Tryz.prog 26 #[.agg #[.int .u32 (cr.uid : Nat), .int .u32 (cr.euid : Nat), .int .u32 (cr.suid : Nat), .int .u32 (cr.gid : Nat), .slice A n k], metaV m, .int .u8 1] w' fun e w5 => e = .returned (.bool (Vf.mayX cr m)) ∧ Below w'.heap.size w' w5 :=
    fun w' hb m hm => rmay_any cr m A n k w.heap.size w' (hg.below hb) hb.size hng hm
  have KR : ∀ w', Below w.heap.size w w' → ∀ ino n : Int, Calls Tryz.prog 27 #[.pointer (some ⟨g, 0, none⟩), .int .i64 ino, .int .i64 0, .int .i64 n] w' (ReadVE F ino 0 n w') :=
    fun w' hb ino n => rread_any F ls base g cg Ag ino 0 n w' hF (hFS.belowSz hb) hn (Nat.le_trans hbs hb.size)
  have hmd := fun ino => meta_mode hF ino
  have hnd := fun (ino : Nat) hk => nd_size' hF (ino := ino) hk
  have hrf := fun (ino : Nat) (n : Nat) h => read_file (F := F) (i := ino) h n
  have hdl : ∀ ino : Nat, (Vf.nd F ino).data.length ≤ 65536 := by
    intro ino
    unfold Vf.nd
    cases hx : F[ino]? with
    | none => decide
    | some y => exact (hF.size _ y hx).2.2
  obtain ⟨R, hR⟩ : ∃ R, Sb.chain F cr 4 x argv = R := ⟨_, rfl⟩
  rw [hR]
  have KCp := copyTexts_any Aa m cc w.heap.size argv _ hb0.size (hl.below hb0) (by omega)
  have HW := hide KW
  have HM := hide KM
  have HY := hide KY
  have HRd := hide KR
  have Hmd := hide hmd
  have Hnd := hide hnd
  have Hrf := hide hrf
  have Hdl := hide hdl
  have HR := hide hR
  have Hll := hide hll
  have Hs := hide hs
  have Hb0 := hide hb0
  have Hc0 := hide hc0
  have HCp := hide KCp
  unfold credV
  clear KW KM KY KR hmd hnd hrf hdl hF hFS hg hl hll hs hb0 hc0 hR KCp h0F
  go_enter Tryz.func13, Tryz.ntmps13
  go_wp2_with fail
  refine (unhide HCp).mono ?_
  rintro e w1 ⟨A1, c1, rfl, ho1, hb1⟩
  have Hc1 := hide ((unhide Hc0).belowSz hb1)
  have Hb1 := hide ((unhide Hb0).trans (hb1.mono (unhide Hb0).size))
  have Ho1 := hide (own_base ho1 (unhide Hb0).size)
  clear hb1 ho1 HCp
  go_wp2_with fail
  go_loopg [8, 9, 10, 11, 12, 13, 14] 5 (fun gk av bv nv ev pv ov sv wr => ∃ (j : Nat) (y : ByteArray) (l : List ByteArray) (A1 : Option Addr) (c1 : Nat), gk = 5 - j ∧ j ≤ 4 ∧ av = .int .i64 0 ∧ bv = .string ⟨#[]⟩ ∧ nv = .slice none 0 0 ∧ ev = .int .i64 0 ∧ pv = .string y ∧ ov = .slice A1 l.length c1 ∧ sv = .int .i64 j ∧ wr.ownsRow w.heap.size 9 1 (.slice A1 l.length c1) l.length (l.map Value.string) ∧ Below w.heap.size w wr ∧ Blk wr w.heap.size 26 [.int .u32 (cr.uid : Nat), .int .u32 (cr.euid : Nat), .int .u32 (cr.suid : Nat), .int .u32 (cr.gid : Nat), .slice A n k] ∧ l.length ≤ m + 3 * j ∧ y.size ≤ 4294967296 ∧ (∀ z ∈ l, z.size ≤ maxLen) ∧ Sb.chain F cr (4 - j) y l = R)
  case atStart =>
    refine ⟨0, x, argv, A1, c1, rfl, by omega, rfl, rfl, rfl, rfl, rfl, by rw [unhide Hll], rfl, ?_, unhide Hb1, unhide Hc1, by rw [unhide Hll]; omega, hx, unhide Hs, unhide HR⟩
    rw [unhide Hll]
    exact unhide Ho1
  case round =>
  obtain ⟨j, y, l, A1, c1, hgk, hj, rfl, rfl, rfl, rfl, rfl, rfl, rfl, hown, hb, hc, hlm, hy, hsz, hch⟩ := hrel
  have Hgk := hide hgk
  have Hown := hide hown
  have Hb := hide hb
  have Hc := hide hc
  have Hsz := hide hsz
  have Hch := hide hch
  have KW1 := (unhide HW) wr hb y hy
  obtain ⟨v0, v1, v2, v3, v4⟩ := And.intro (hc.cell (i := 0) rfl) (And.intro (hc.cell (i := 1) rfl) (And.intro (hc.cell (i := 2) rfl) (And.intro (hc.cell (i := 3) rfl) (hc.cell (i := 4) rfl))))
  obtain ⟨⟨n1, e1⟩, hw1⟩ : ∃ r, Vf.walk F cr 0 y true = r := ⟨_, rfl⟩
  have KM1 := fun w' hb => (unhide HM) w' hb (n1 : Nat)
  have hmd1 := (unhide Hmd) (n1 : Nat)
  have hnd1 := (unhide Hnd) n1
  have hrf1 := (unhide Hrf) n1
  have hdl1 := (unhide Hdl) n1
  obtain ⟨⟨⟨mk, mm, mu, mg, ms⟩, me⟩, hme⟩ : ∃ r, Vf.metaOf F (n1 : Nat) = r := ⟨_, rfl⟩
  obtain ⟨yb, hyb⟩ : ∃ b, Vf.mayX cr ⟨mk, mm, mu, mg, ms⟩ = b := ⟨_, rfl⟩
  have hprog : Sb.prog F cr y = if e1 ≠ 0 then (0, e1) else if mk = 1 ∧ yb = true then (n1, 0) else (0, 5) := by unfold Sb.prog; rw [hw1]; dsimp only; rw [hme]; dsimp only; rw [hyb]
  rw [hw1] at KW1
  rw [hme] at KM1 hmd1 hnd1
  dsimp only at KW1 KM1 hmd1 hnd1
  have hrf2 := fun n h => hrf1 n (by rw [hme]; exact h)
  have KY1 := fun w' hb => (unhide HY) w' hb ⟨mk, mm, mu, mg, ms⟩ hmd1
  rw [hyb] at KY1
  unfold metaV at KM1 KY1
  dsimp only at KM1 KY1 hrf2
  have KR1 := fun w' hb n => (unhide HRd) w' hb (n1 : Nat) n
  obtain ⟨D, hD⟩ : ∃ D, (Vf.nd F n1).data = D := ⟨_, rfl⟩
  simp only [hD] at hrf2 hnd1 hdl1
  have HK1 := hide KW1
  have HM1 := hide KM1
  have HY1 := hide KY1
  have HR1 := hide KR1
  have Hnd1 := hide hnd1
  have Hrf1 := hide hrf2
  have Hprog := hide hprog
  have HD := hide hD
  clear hgk hown hb hc hsz hch KW1 KM1 KY1 KR1 hmd1 hnd1 hrf1 hrf2 hprog hD hw1 hme hyb
  go_wp2_with fail
  refine (unhide HK1).mono ?_
  rintro e w2 ⟨rfl, hb2⟩
  have Hb2 := hide ((unhide Hb).trans (hb2.mono (unhide Hb).size))
  have Hc2 := hide ((unhide Hc).belowSz hb2)
  have Ho2 := hide (own_below (unhide Hown) hb2)
  clear hb2 v0 v1 v2 v3 v4 Hb Hc Hown HK1
  by_cases he : e1 = 0
  case neg =>
    have b1 : (e1 != 0) = true := by simpa using he
    have hr := unhide Hch
    have hp := unhide Hprog
    rw [if_pos he] at hp
    rw [Sb.chain_bad (by rw [hp]; exact he), hp] at hr
    subst hr
    clear he hp Hprog
    go_wp2_with fail
    refine bodyPost_ret (res_tmp4 rfl _ _ _) rfl ?_
    exact chainE_nil (unhide Hb2)
  subst he
  have b1 : ((0 : Int) != 0) = false := rfl
  go_wp2_with fail
  refine ((unhide HM1) _ (unhide Hb2)).mono ?_
  rintro e w3 ⟨rfl, hb3⟩
  have hb3' := hb3.alloc hb3.size (.cells #[.int .u8 (mk : Nat), .int .u16 (mm : Nat), .int .u32 (mu : Nat), .int .u32 (mg : Nat), .int .i64 (ms : Nat)] 54)
  have Hm3 := hide (Blk.new w3 54 [.int .u8 (mk : Nat), .int .u16 (mm : Nat), .int .u32 (mu : Nat), .int .u32 (mg : Nat), .int .i64 (ms : Nat)])
  have Hb3 := hide ((unhide Hb2).trans (hb3'.mono (unhide Hb2).size))
  have Hc3 := hide ((unhide Hc2).belowSz hb3')
  have Ho3 := hide (own_below (unhide Ho2) hb3')
  clear hb3 hb3' Hb2 Hc2 Ho2 HM1
  obtain ⟨z0, z1, z2, z3, z4⟩ := And.intro ((unhide Hm3).cell (i := 0) rfl) (And.intro ((unhide Hm3).cell (i := 1) rfl) (And.intro ((unhide Hm3).cell (i := 2) rfl) (And.intro ((unhide Hm3).cell (i := 3) rfl) ((unhide Hm3).cell (i := 4) rfl))))
  obtain ⟨v0, v1, v2, v3, v4⟩ := And.intro ((unhide Hc3).cell (i := 0) rfl) (And.intro ((unhide Hc3).cell (i := 1) rfl) (And.intro ((unhide Hc3).cell (i := 2) rfl) (And.intro ((unhide Hc3).cell (i := 3) rfl) ((unhide Hc3).cell (i := 4) rfl))))
  by_cases hk : mk = 1
  case neg =>
    have b3 : (((mk : Nat) : Int) != 1) = true := by simp; omega
    have hr := unhide Hch
    have hp := unhide Hprog
    rw [if_neg (by simp), if_neg (fun h => hk h.1)] at hp
    rw [Sb.chain_bad (by rw [hp]; decide), hp] at hr
    subst hr
    clear hk hp Hprog
    go_wp2_with fail
    refine bodyPost_ret (res_tmp4 rfl _ _ _) rfl ?_
    exact chainE_nil (unhide Hb3)
  have b3 : (((mk : Nat) : Int) != 1) = false := by rw [hk]; rfl
  have hms : ms = D.length := (unhide Hnd1) hk
  subst hms
  have Ky := hide ((unhide HY1) _ (unhide Hb3))
  have Hk := hide hk
  clear hk
  go_wp2_with fail
  refine (unhide Ky).mono ?_
  rintro e w4 ⟨rfl, hb4⟩
  have Hb4 := hide ((unhide Hb3).trans (hb4.mono (unhide Hb3).size))
  have Hc4 := hide ((unhide Hc3).belowSz hb4)
  have Ho4 := hide (own_below (unhide Ho3) hb4)
  have hm4 := (unhide Hm3).belowSz hb4
  clear hb4 HY1 Ky z0 z1 z2 z3 z4 v0 v1 v2 v3 v4 Hb3 Hc3 Ho3
  have z4 := hm4.cell (i := 4) rfl
  clear hm4 Hm3
  cases yb with
  | false =>
    have hr := unhide Hch
    have hp := unhide Hprog
    rw [if_neg (by simp), if_neg (fun h => by cases h.2)] at hp
    rw [Sb.chain_bad (by rw [hp]; decide), hp] at hr
    subst hr
    clear hp Hprog
    go_wp2_with fail
    refine bodyPost_ret (res_tmp4 rfl _ _ _) rfl ?_
    exact chainE_nil (unhide Hb4)
  | true =>
  have hp := unhide Hprog
  rw [if_neg (by simp), if_pos ⟨unhide Hk, rfl⟩] at hp
  have Kr := (unhide HR1) _ (unhide Hb4) (D.length : Nat)
  unfold ReadVE at Kr
  rw [(unhide Hrf1) D.length (unhide Hk), List.take_of_length_le (Nat.le_refl _)] at Kr
  dsimp only at Kr
  have HKr := hide Kr
  have Hp := hide hp
  clear Kr hp HR1 Hrf1 Hnd1 Hprog
  go_wp2_with fail
  refine (unhide HKr).mono ?_
  rintro e w5 ⟨A5, c5, rfl, ho5, hb5⟩
  have Hb5 := hide ((unhide Hb4).trans (hb5.mono (unhide Hb4).size))
  have Hc5 := hide ((unhide Hc4).belowSz hb5)
  have Ho5 := hide (own_below (unhide Ho4) hb5)
  have hc5 : D.length ≤ c5 := by
    rcases ho5.2 with ⟨e1, e2⟩ | ⟨g, cap, cur, e1, _, _, e4, _⟩
    · omega
    · injection e1 with _ _ e1
      omega
  have K2 := rparse_any A5 D.length c5 w5.heap.size D w5 (Rd.of_own ho5) (by omega) hc5
  have hpl := Sb.parse_len D
  have hpar := fun h2 k out => Sb.chain_par (F := F) (c := cr) (path := y) (by rw [unhide Hp]) h2 k out
  have hprg := fun h2 h3 k out => Sb.chain_prog (F := F) (c := cr) (path := y) (by rw [unhide Hp]) h2 h3 k out
  have hzer := fun h2 h3 out => Sb.chain_zero (F := F) (c := cr) (path := y) (by rw [unhide Hp]) h2 h3 out
  have hsuc := fun h2 h3 k out => Sb.chain_succ (F := F) (c := cr) (path := y) (by rw [unhide Hp]) h2 h3 k out
  rw [unhide Hp] at hpar hprg hzer hsuc
  dsimp only at hpar hprg hzer hsuc
  rw [unhide HD] at hpar hprg hzer hsuc
  obtain ⟨⟨i, a, is, pe⟩, hpa⟩ : ∃ r, Sb.parse D = r := ⟨_, rfl⟩
  rw [hpa] at K2 hpl hpar hprg hzer hsuc
  dsimp only at hpl hpar hprg hzer hsuc
  have hi : (Sb.ba i).size ≤ 65536 := by rw [Sb.ba_size]; omega
  have ha : (Sb.ba a).size ≤ 65536 := by rw [Sb.ba_size]; omega
  obtain ⟨si, hsi⟩ : ∃ s, Sb.ba i = s := ⟨_, rfl⟩
  obtain ⟨sa, hsa⟩ : ∃ s, Sb.ba a = s := ⟨_, rfl⟩
  unfold ParseE at K2
  dsimp only at K2
  rw [hsi] at K2 hi hsuc
  rw [hsa] at K2 ha hsuc
  have HK2 := hide K2
  have Hpar2 := hide hpar
  have Hprg2 := hide hprg
  have Hzer2 := hide hzer
  have Hsuc2 := hide hsuc
  clear K2 hpl hpar hprg hzer hsuc hpa hsi hsa hb5 ho5 HKr Hb4 Hc4 Ho4 z4
  go_wp2_with fail
  refine (unhide HK2).mono ?_
  rintro e w3 ⟨rfl, hb3⟩
  have Hb3 := hide ((unhide Hb5).trans (hb3.mono (unhide Hb5).size))
  have Hc3 := hide ((unhide Hc5).belowSz hb3)
  have Ho3 := hide (own_below (unhide Ho5) hb3)
  clear hb3 Hb5 Hc5 Ho5 HK2
  by_cases hpe : pe = 0
  case neg =>
    have b2 : (pe != 0) = true := by simpa using hpe
    have hr := unhide Hch
    rw [(unhide Hpar2) hpe] at hr
    subst hr
    clear hpe Hpar2 Hprg2 Hzer2 Hsuc2 Hch
    go_wp2_with fail
    refine bodyPost_ret (res_tmp4 rfl _ _ _) rfl ?_
    exact chainE_nil (unhide Hb3)
  subst hpe
  cases is with
  | false =>
    have KE := hide (renvCheck_any A1 l.length c1 w3.heap.size l w3 (Rd.of_own (unhide Ho3)) (unhide Hsz) (by unfold maxLen; omega))
    have hr := unhide Hch
    rw [(unhide Hprg2) rfl rfl] at hr
    obtain ⟨v, hv⟩ : ∃ v, Cl.envCk l = v := ⟨_, rfl⟩
    rw [hv] at hr
    have ke := unhide KE
    rw [hv] at ke
    have KE2 := hide ke
    have Hr := hide hr
    clear hv hr ke KE Hpar2 Hprg2 Hzer2 Hsuc2 Hch
    go_wp2_with fail
    refine (unhide KE2).mono ?_
    rintro e w4 ⟨rfl, rfl⟩
    by_cases hv0 : v = 0
    case neg =>
      have b3 : (v != 0) = true := by simpa using hv0
      have hr := unhide Hr
      rw [if_pos hv0] at hr
      subst hr
      clear hv0 Hr KE2
      go_wp2_with fail
      refine bodyPost_ret (res_tmp4 rfl _ _ _) rfl ?_
      exact chainE_nil (unhide Hb3)
    subst hv0
    have hr := unhide Hr
    rw [if_neg (by simp)] at hr
    subst hr
    clear Hr KE2
    go_wp2_with fail
    refine bodyPost_ret (res_tmp4 rfl _ _ _) rfl ?_
    exact ⟨A1, c1, rfl, unhide Ho3, unhide Hb3⟩
  | true =>
    by_cases hj4 : j = 4
    · subst hj4
      have hr := unhide Hch
      rw [(unhide Hzer2) rfl rfl] at hr
      subst hr
      clear Hpar2 Hprg2 Hzer2 Hsuc2 Hch
      go_wp2_with fail
      refine bodyPost_ret (res_tmp4 rfl _ _ _) rfl ?_
      exact chainE_nil (unhide Hb3)
    · have b4 : (((j : Nat) : Int) == 4) = false := by rw [beq_eq_false_iff_ne]; omega
      have hr := unhide Hch
      rw [show 4 - j = (4 - (j + 1)) + 1 by omega, (unhide Hsuc2) rfl rfl] at hr
      have KA := hide (rargv_any A1 l.length c1 w3.heap.size si sa y l w3 (Rd.of_own (unhide Ho3)) (Nat.le_refl _) (by
        rcases (unhide Ho3).2 with ⟨e1, e2⟩ | ⟨g, cap, cur, e1, _, _, e4, _⟩
        · omega
        · injection e1 with _ _ e1
          omega) (by omega))
      have hal := Sb.argv_len si sa y l
      have ham := fun z => Sb.argv_mem (i := si) (a := sa) (x := y) (y := z) (l := l)
      obtain ⟨l2, hl2⟩ : ∃ r, Sb.argv si sa y l = r := ⟨_, rfl⟩
      have ka := unhide KA
      rw [hl2] at ka hr hal ham
      have KA2 := hide ka
      have Hr := hide hr
      have Ham := hide ham
      have hj5 : j + 1 ≤ 4 := by omega
      clear hr ham hl2 ka KA Hpar2 Hprg2 Hzer2 Hsuc2 Hch hj4
      go_wp2_with fail
      refine (unhide KA2).mono ?_
      rintro e w5 ⟨A5, c5, rfl, ho5, hb5⟩
      have Hb5 := hide ((unhide Hb3).trans (hb5.mono (unhide Hb3).size))
      have Hc5 := hide ((unhide Hc3).belowSz hb5)
      have Ho5 := hide (own_base ho5 (unhide Hb3).size)
      clear hb5 ho5 KA2
      go_wp2_with fail
      go_roundg (5 - (j + 1))
      case measure => have := unhide Hgk; omega
      case rel =>
        refine ⟨j + 1, si, l2, A5, c5, rfl, by omega, rfl, rfl, rfl, rfl, rfl, rfl, by go_num, unhide Ho5, unhide Hb5, unhide Hc5, by omega, by omega, ?_, unhide Hr⟩
        intro z hz
        rcases (unhide Ham) z hz with rfl | rfl | rfl | h
        · unfold maxLen; omega
        · unfold maxLen; omega
        · unfold maxLen; omega
        · exact (unhide Hsz) z h
end Go.Proofs.YtfegfmapdekkbaaGreatDoor
namespace Go.Proofs.YtfegfmapdekkbaaGreatDoor
set_option linter.unusedVariables false
set_option linter.unusedSimpArgs false
open Go.RowKit

theorem Sb.chain_len (F : List Vf.Nd) (c : Vf.Cred) : ∀ (k : Nat) (path : ByteArray) (out : List ByteArray), (Sb.chain F c k path out).2.2.1.length ≤ out.length + 3 * k := by
  intro k
  induction k with
  | zero =>
    intro path out
    by_cases h1 : (Sb.prog F c path).2 = 0
    · by_cases h2 : (Sb.parse (Vf.nd F (Sb.prog F c path).1).data).2.2.2 = 0
      · cases h3 : (Sb.parse (Vf.nd F (Sb.prog F c path).1).data).2.2.1 with
        | false => rw [Sb.chain_prog h1 h2 h3]; split <;> simp
        | true => rw [Sb.chain_zero h1 h2 h3]; simp
      · rw [Sb.chain_par h1 h2]; simp
    · rw [Sb.chain_bad h1]; simp
  | succ k ih =>
    intro path out
    by_cases h1 : (Sb.prog F c path).2 = 0
    · by_cases h2 : (Sb.parse (Vf.nd F (Sb.prog F c path).1).data).2.2.2 = 0
      · cases h3 : (Sb.parse (Vf.nd F (Sb.prog F c path).1).data).2.2.1 with
        | false => rw [Sb.chain_prog h1 h2 h3]; split <;> simp
        | true =>
          rw [Sb.chain_succ h1 h2 h3]
          refine Nat.le_trans (ih _ _) ?_
          have := Sb.argv_len (Sb.ba (Sb.parse (Vf.nd F (Sb.prog F c path).1).data).1) (Sb.ba (Sb.parse (Vf.nd F (Sb.prog F c path).1).data).2.1) path out
          omega
      · rw [Sb.chain_par h1 h2]; simp
    · rw [Sb.chain_bad h1]; simp

set_option maxRecDepth 100000 in
set_option maxHeartbeats 8000000 in
theorem shebangChains_walk (l : List EntA) (A : Option Addr) (n c : Nat) (cr : Vf.Cred) (Ag : Option Addr) (ng kg : Nat) (x : ByteArray) (Al : Option Addr) (nl cl : Nat) (ps : List ByteArray) (w : World) (h : Rd w w.heap.size 7 A n (rowCs entVals l)) (hl : l.length = n) (hnc : n ≤ c) (hcm : c ≤ maxLen) (hin : ∀ s ∈ l, EntIn w s)
    (hg : Rd w w.heap.size 1 Ag ng (cr.groups.map u32v)) (hgk : ng ≤ kg) (hgm : kg ≤ maxLen) (hx : x.size ≤ maxLen) (hp : Rd w w.heap.size 1 Al nl (ps.map Value.string)) (hpc : nl ≤ cl) (hpm : cl ≤ maxLen) (hps : ∀ y ∈ ps, y.size ≤ maxLen) :
    Calls Tryz.prog 3 #[.slice A n c, credV cr Ag ng kg, .agg #[.string x, .slice Al nl cl]] w fun e w' => e = .returned (.bool true) ∧ Below w.heap.size w w' := by
  have S0 := hide (RnS.start w cr Ag ng kg x Al nl cl)
  have KL := hide (large_any l A n c w.heap.size _ (h.below (unhide S0).bel) hl (Nat.le_trans hnc hcm) (fun s hs => ⟨(hin s hs).p, Nat.le_trans (hin s hs).nc (hin s hs).c, (hin s hs).t⟩))
  have KA := hide (fun w' (hb : Below w.heap.size w w') => tlarge_any Al nl cl w.heap.size ps w' (hp.below hb) hps (Nat.le_trans hpc hpm))
  have KW := hide (fun w' => bworks_any w')
  have H := hide h
  have Hin := hide hin
  have Hg := hide hg
  have Hl := hide hl
  have Hp := hide hp
  have Hps := hide hps
  unfold maxLen at hx hgm hpm hcm
  unfold credV
  clear h hin hg hl hp hps
  obtain ⟨⟨v0, v1, v2, v3, v4⟩, y0, y1⟩ := (unhide S0).cells
  go_enter Tryz.func3, Tryz.ntmps3
  go_wp2_with fail
  refine (unhide KL).mono ?_
  rintro e w1 ⟨lb, q, rfl, hlb, rfl⟩
  have S1 := hide ((unhide S0).drewN q)
  have Hlb := hide hlb
  clear hlb S0 KL v0 v1 v2 v3 v4 y0 y1
  generalize ((w.alloc (.cells #[.int .u32 (cr.uid : Nat), .int .u32 (cr.euid : Nat), .int .u32 (cr.suid : Nat), .int .u32 (cr.gid : Nat), .slice Ag ng kg] 26)).alloc (.cells #[.string x, .slice Al nl cl] 29)).drewN q = W1 at *
  obtain ⟨⟨v0, v1, v2, v3, v4⟩, y0, y1⟩ := (unhide S1).cells
  cases lb with
  | true =>
    go_wp2_with fail
    refine ((unhide KW) _).mono ?_
    rintro e w2 ⟨rfl, hb2⟩
    have S2 := hide ((unhide S1).below hb2)
    clear hb2
    go_wp2_with fail
    go_ret
    exact ⟨rfl, (unhide S2).bel⟩
  | false =>
  have Ka := hide ((unhide KA) _ (unhide S1).bel)
  go_wp2_with fail
  refine (unhide Ka).mono ?_
  rintro e w2 ⟨ab, rfl, rfl, hab⟩
  have Hab := hide hab
  clear hab KA Ka
  cases ab with
  | true =>
    go_wp2_with fail
    refine ((unhide KW) _).mono ?_
    rintro e w3 ⟨rfl, hb3⟩
    have S3 := hide ((unhide S1).below hb3)
    clear hb3
    go_wp2_with fail
    go_ret
    exact ⟨rfl, (unhide S3).bel⟩
  | false =>
  by_cases hgr : ng ≤ 1024
  case neg =>
    have q1 : (1024 : Int) < (ng : Int) := by omega
    clear hgr
    go_wp2_with fail
    refine ((unhide KW) _).mono ?_
    rintro e w2 ⟨rfl, hb2⟩
    have S2 := hide ((unhide S1).below hb2)
    clear hb2
    go_wp2_with fail
    go_ret
    exact ⟨rfl, (unhide S2).bel⟩
  have q1 : ¬ (1024 : Int) < (ng : Int) := by omega
  by_cases hxr : x.size ≤ 4096
  case neg =>
    have q2 : (4096 : Int) < (x.size : Int) := by omega
    clear hxr
    go_wp2_with fail
    refine ((unhide KW) _).mono ?_
    rintro e w2 ⟨rfl, hb2⟩
    have S2 := hide ((unhide S1).below hb2)
    clear hb2
    go_wp2_with fail
    go_ret
    exact ⟨rfl, (unhide S2).bel⟩
  have q2 : ¬ (4096 : Int) < (x.size : Int) := by omega
  obtain ⟨hn26, hall⟩ := (unhide Hlb) (by first | rfl | trivial)
  obtain ⟨hnl2, hpss⟩ := (unhide Hab) rfl
  have hfit := esFit_of (unhide Hin) hall
  have KC := copyEnts_any l A n c w.heap.size W1 ((unhide H).below (unhide S1).bel) (unhide S1).bel.size (unhide Hl) (by omega) (fun s hs => ⟨((unhide Hin) s hs).d.below (unhide S1).bel, by have := (hall s hs).2.1; omega⟩)
  have Hok := hide (show ∀ w', Below w.heap.size w w' → ∀ s ∈ l, EntOk w' s from fun w' hb s hs => ⟨((unhide Hin) s hs).d.belowSz hb, by have := (hall s hs).2.1; omega, by have := (hall s hs).1; omega, by have := (hall s hs).2.2; omega, ((unhide Hin) s hs).m⟩)
  have HKC := hide KC
  have Hfit := hide hfit
  clear KC hall hfit Hlb Hab hpss Hin v0 v1 v2 v3 v4 y0 y1
  obtain ⟨⟨v0, v1, v2, v3, v4⟩, y0, y1⟩ := (unhide S1).cells
  go_wp2_with fail
  refine (unhide HKC).mono ?_
  rintro e w3 ⟨A3, c3, l3, rfl, hcp⟩
  obtain ⟨hr3, hok3⟩ := hcp.newArgs (unhide Hfit)
  have hlen3 : l3.length = (l.map (·.e)).length := hcp.len
  have hes64 : (l.map (·.e)).length = n := by rw [List.length_map, unhide Hl]
  have KN := new_any l3 A3 (l.map (·.e)).length c3 w3 (by rw [← hlen3]; exact hr3) hlen3 hok3 (by rw [hes64]; omega)
  rw [hcp.map, hes64] at KN
  obtain ⟨⟨ne, ni, F⟩, hnew⟩ : ∃ r, Vf.new (l.map (·.e)) = r := ⟨_, rfl⟩
  have S3 := hide ((unhide S1).below hcp.bel)
  have HKN := hide KN
  have Hnew := hide hnew
  have Hes := hide hes64
  rw [hes64]
  clear hr3 hok3 KN hlen3 S1 HKC hcp hes64 hnew v0 v1 v2 v3 v4 y0 y1
  go_wp2_with fail
  refine (unhide HKN).mono ?_
  intro e w4 hN
  obtain ⟨hb4, fo, rfl, hF⟩ := newE_one hN (unhide Hnew)
  have S4 := hide ((unhide S3).below hb4)
  have KR := rnew_any l A n c w.heap.size w4 ((unhide H).below (unhide S4).bel) (unhide S4).bel.size (unhide Hl) ((unhide Hok) w4 (unhide S4).bel) (by omega)
  have HF := hide hF
  have HKR := hide KR
  clear hN hF hb4 KR HKN S3
  go_wp2_with fail
  refine (unhide HKR).mono ?_
  intro e w5 hN
  obtain ⟨hb5, go, rfl, hG⟩ := newRE_one hN (unhide Hnew)
  have S5 := hide ((unhide S4).below hb5)
  have hF5 := (unhide HF).keep (w' := w5) (fun k _ hk => hb5.block k hk)
  have hsz5 := (unhide S5).bel.size
  have hgr0 : ∀ w', Below w5.heap.size w5 w' → Rd w' w'.heap.size 1 Ag ng (cr.groups.map u32v) := fun w' hb => ((unhide Hg).below ((unhide S5).bel.trans (hb.mono hsz5))).more (Nat.le_trans hsz5 hb.size)
  have hpr0 : ∀ w', Below w5.heap.size w5 w' → Rd w' w'.heap.size 1 Al nl (ps.map Value.string) := fun w' hb => ((unhide Hp).below ((unhide S5).bel.trans (hb.mono hsz5))).more (Nat.le_trans hsz5 hb.size)
  have hlen : ps.length = nl := by simpa using (unhide Hp).len1
  have key : ((fo = none ∧ go = none) ∨ ∃ f g, fo = some ⟨f, 0, none⟩ ∧ go = some ⟨g, 0, none⟩) ∧ ∃ R : Nat × ByteArray × List ByteArray × Int, R.2.2.1.length ≤ nl + 12 ∧
      (∀ w', Below w5.heap.size w5 w' → ∀ (A' : Option Addr) (k' : Nat), Rd w' w'.heap.size 1 A' ng (cr.groups.map u32v) → ∀ (B' : Option Addr) (d' : Nat), Rd w' w'.heap.size 1 B' nl (ps.map Value.string) → Calls Tryz.prog 11 #[.pointer fo, credV cr A' ng k', .string x, .slice B' nl d'] w' (ChainE R w')) ∧
      (∀ w', Below w5.heap.size w5 w' → Calls Tryz.prog 13 #[.pointer go, credV cr Ag ng kg, .string x, .slice Al nl cl] w' (ChainE R w')) := by
    rcases hF5 with ⟨a, rfl⟩ | ⟨a, f, Af, cf, L, rfl, hFS, hFg, hFl, hF64⟩
    · rcases hG with ⟨a2, rfl⟩ | ⟨a2, _⟩
      · exact ⟨.inl ⟨rfl, rfl⟩, (0, ⟨#[]⟩, [], 2), by simp, fun w' _ A' k' _ B' d' _ => (chain_none cr A' ng k' x B' nl d' w').mono (fun e w2 h => by obtain ⟨rfl, hb⟩ := h; exact chainE_nil hb), fun w' _ => (rchain_none cr Ag ng kg x Al nl cl w').mono (fun e w2 h => by obtain ⟨rfl, hb⟩ := h; exact chainE_nil hb)⟩
      · exact absurd a2 a
    · rcases hG with ⟨a2, rfl⟩ | ⟨a2, g, Ag2, cg2, ls, rfl, hGS, hG, _, _⟩
      · exact absurd a a2
      · have hn65 : F.length ≤ 65 := by rw [hFl]; omega
        have hw4 : w4.heap.size ≤ w5.heap.size := hb5.size
        exact ⟨.inr ⟨f, g, rfl, rfl⟩, Sb.chain F cr 4 x ps, by rw [← hlen]; exact Sb.chain_len F cr 4 x ps,
          fun w' hb A' k' hr B' d' hr2 => chain_any F L _ f cf Af A' B' ng k' nl d' cr x ps w' hFg (hFS.belowSz hb) hn65 hr (by unfold maxLen; omega) (by omega) hr2 (by omega) (unhide Hps),
          fun w' hb => rchain_any F ls _ g cg2 Ag2 Ag Al ng kg nl cl cr x ps w' hG (hGS.belowSz hb) hn65 (Nat.le_trans hw4 hb.size) (hgr0 w' hb) (by unfold maxLen; omega) (by omega) (hpr0 w' hb) (by omega) (unhide Hps)⟩
  obtain ⟨hfg, ⟨r1, r2, r3, r4⟩, hr3n, KF, KRF⟩ := key
  have KCp : ∀ w', Below w5.heap.size w5 w' → Calls Tryz.prog 12 #[.agg #[.int .u32 (cr.uid : Nat), .int .u32 (cr.euid : Nat), .int .u32 (cr.suid : Nat), .int .u32 (cr.gid : Nat), .slice Ag ng kg]] w' fun e w5 => ∃ A' k', e = .returned (.agg #[.int .u32 (cr.uid : Nat), .int .u32 (cr.euid : Nat), .int .u32 (cr.suid : Nat), .int .u32 (cr.gid : Nat), .slice A' ng k']) ∧ Rd w5 w5.heap.size 1 A' ng (cr.groups.map u32v) ∧ Below w'.heap.size w' w5 :=
    fun w' hb => copyCred_any cr Ag ng kg w'.heap.size w' (hgr0 w' hb) (Nat.le_refl _) (by omega)
  have KT := copyTexts_any Al nl cl w5.heap.size ps w5 (Nat.le_refl _) (hpr0 w5 (Below.refl _ _)) (by omega)
  unfold credV ChainE at KF KRF
  dsimp only at KF KRF
  have HKF := hide KF
  have HKRF := hide KRF
  have HKCp := hide KCp
  have HKT := hide KT
  have Hpr := hide hpr0
  clear KF KRF KCp KT hF5 hG hN hb5 HKR HF hgr0 hpr0 S4 hlen
  obtain ⟨⟨v0, v1, v2, v3, v4⟩, y0, y1⟩ := (unhide S5).cells
  rcases hfg with ⟨rfl, rfl⟩ | ⟨f, g, rfl, rfl⟩
  all_goals
    go_wp2_with fail
    refine (unhide HKT).mono ?_
    rintro e w6 ⟨A6, c6, rfl, ho6, hb6⟩
    have S6 := hide ((unhide S5).below hb6)
    have Hb56 := hide hb6
    have Hr6 := hide (Rd.of_own ho6)
    clear ho6 hb6 v0 v1 v2 v3 v4 y0 y1
    have HSK : ∀ w', Below w6.heap.size w6 w' → (Below w6.heap.size w6 w' ∧ w'.cell? ⟨w.heap.size, 0, none⟩ = some (.int .u32 (cr.uid : Nat)) ∧ w'.cell? ⟨w.heap.size, 1, none⟩ = some (.int .u32 (cr.euid : Nat)) ∧ w'.cell? ⟨w.heap.size, 2, none⟩ = some (.int .u32 (cr.suid : Nat)) ∧ w'.cell? ⟨w.heap.size, 3, none⟩ = some (.int .u32 (cr.gid : Nat)) ∧ w'.cell? ⟨w.heap.size, 4, none⟩ = some (.slice Ag ng kg) ∧ w'.cell? ⟨w.heap.size + 1, 0, none⟩ = some (.string x) ∧ w'.cell? ⟨w.heap.size + 1, 1, none⟩ = some (.slice Al nl cl)) := by
      intro w' hb
      obtain ⟨⟨a0, a1, a2, a3, a4⟩, b0, b1⟩ := ((unhide S6).below hb).cells
      exact ⟨hb, a0, a1, a2, a3, a4, b0, b1⟩
    have HSK' := hide HSK
    obtain ⟨-, v0, v1, v2, v3, v4, y0, y1⟩ := HSK w6 (Below.refl _ _)
    clear HSK
    go_wp2_with fail
    go_region_held3 (fun w' => Below w6.heap.size w6 w' ∧ w'.cell? ⟨w.heap.size, 0, none⟩ = some (.int .u32 (cr.uid : Nat)) ∧ w'.cell? ⟨w.heap.size, 1, none⟩ = some (.int .u32 (cr.euid : Nat)) ∧ w'.cell? ⟨w.heap.size, 2, none⟩ = some (.int .u32 (cr.suid : Nat)) ∧ w'.cell? ⟨w.heap.size, 3, none⟩ = some (.int .u32 (cr.gid : Nat)) ∧ w'.cell? ⟨w.heap.size, 4, none⟩ = some (.slice Ag ng kg) ∧ w'.cell? ⟨w.heap.size + 1, 0, none⟩ = some (.string x) ∧ w'.cell? ⟨w.heap.size + 1, 1, none⟩ = some (.slice Al nl cl)) (first | exact (unhide HSK') _ (below_drew' (Below.refl _ _)) | exact (unhide HSK') _ (unhide hbn2) | exact (unhide HSK') _ (unhide hbn)) (first
      | (go_at_call 12; rename Below _ _ _ ∧ _ => hH; refine ((unhide HKCp) _ ((unhide Hb56).trans (hH.1.mono (unhide Hb56).size))).mono ?_; rintro e w7 ⟨A7, k7, rfl, hr7, hb7⟩; have hbn := hide (hH.1.trans (hb7.mono hH.1.size)); have Hr7 := hide hr7; clear hb7 hr7)
      | (go_at_call 11; rename Below _ _ _ ∧ _ => hH; refine ((unhide HKF) _ ((unhide Hb56).trans (hH.1.mono (unhide Hb56).size)) _ _ (unhide Hr7) _ _ ((unhide Hr6).belowSz hH.1)).mono ?_; rintro e w8 ⟨A8, c8, rfl, ho8, hb8⟩; have hbn2 := hide (hH.1.trans (hb8.mono hH.1.size)); have Ho8 := hide (own_base ho8 hH.1.size); clear hb8 ho8))
    have S8 := hide ((unhide S6).below (unhide hbn2))
    have Hb68 := hide (unhide hbn2)
    have Hb58 := hide ((unhide Hb56).trans ((unhide hbn2).mono (unhide Hb56).size))
    clear v0 v1 v2 v3 v4 y0 y1 hbn HSK' Hr7
    obtain ⟨⟨v0, v1, v2, v3, v4⟩, y0, y1⟩ := (unhide S8).cells
    go_wp2_with fail
    refine ((unhide HKRF) _ (unhide Hb58)).mono ?_
    rintro e w9 ⟨A9, c9, rfl, ho9, hb9⟩
    have S9 := hide ((unhide S8).below hb9)
    have Hb69 := hide ((unhide Hb68).trans (hb9.mono (unhide Hb68).size))
    have Ho89 := hide (own_below (unhide Ho8) hb9)
    have hml := own_maxLen (unhide Ho8)
    have Ke := hide (eqTexts_any A8 A9 r3.length r3.length c8 c9 w9.heap.size r3 r3 w9 (Rd.of_own (unhide Ho89)) (Rd.of_own ho9) hml hml)
    have ke := unhide Ke
    rw [decide_eq_true rfl] at ke
    have HKe := hide ke
    clear hb9 ho9 ke Ke v0 v1 v2 v3 v4 y0 y1 Ho8
    go_wp2_with fail
    refine (unhide HKe).mono ?_
    rintro e w10 ⟨rfl, j, rfl⟩
    have S10 := hide ((unhide S9).drewN j)
    have Hb610 := hide (below_drewN' (unhide Hb69) j)
    have Ho10 := hide (own_drewN (unhide Ho89) j)
    clear HKe Ho89 Hb69 S9
    generalize w9.drewN j = w10 at *
    obtain ⟨m, hm⟩ : ∃ m, r3.length = m := ⟨_, rfl⟩
    have ho10 := unhide Ho10
    have hr3m : m ≤ nl + 12 := by rw [← hm]; exact hr3n
    rw [hm] at ho10 ⊢
    have Ho10' := hide ho10
    have hsz10 := (unhide Hb610).size
    clear ho10 Ho10 hm hr3n hml
    go_wp2_with (at_builtin; refine wpList_app1g strTy rfl _ _ rfl w6.heap.size _ m (r3.map Value.string) rfl (unhide Ho10') #[.string ⟨#[33]⟩] _ rfl (by simp) rfl (by simp [Value.oneCell']) (by omega) hsz10 ?_; intro Aa ca wa hoa hga hka; have Hb6a := hide ((unhide Hb610).grown hga hsz10 (fun k hk => ((unhide Ho10').lt k hk).1) : Below w6.heap.size w6 wa); have Hoa := hide hoa; clear hoa hga hka)
    obtain ⟨xsa, hxsa⟩ : ∃ xs, r3.map Value.string ++ #[Value.string ⟨#[33]⟩].toList = xs := ⟨_, rfl⟩
    have hoa := unhide Hoa
    rw [hxsa] at hoa
    obtain ⟨ga, rfl, hga, hga'⟩ := own_some hoa (by omega)
    have Hoa' := hide hoa
    clear hoa hxsa Hoa Ho10'
    go_loopg [22] (m + 1) (fun gk iv wr => ∃ (k : Nat) (xs : List Value), gk = m + 1 - k ∧ k ≤ m + 1 ∧ iv = .int .i64 k ∧ wr.ownsRow w6.heap.size 9 1 (.slice (some ⟨ga, 0, none⟩) (m + 1) ca) (m + 1) xs ∧ Below w6.heap.size w6 wr)
    case atStart => exact ⟨0, xsa, by omega, by omega, rfl, unhide Hoa', unhide Hb6a⟩
    case round =>
    obtain ⟨k, xs, hgk, hk, rfl, ho, hb⟩ := hrel
    have Hgk := hide hgk
    have Ho := hide ho
    have Hb := hide hb
    have hxl := ho.1
    clear hgk ho hb Hoa' Hb6a
    by_cases hlt : k < m + 1
    case neg =>
      obtain rfl : k = m + 1 := by omega
      have Sr := hide ((unhide S6).below (unhide Hb))
      have hb5r := (unhide Hb56).trans ((unhide Hb).mono (unhide Hb56).size)
      have Ke := hide (eqTexts_any A6 Al nl nl c6 cl wr.heap.size ps ps wr ((unhide Hr6).belowSz (unhide Hb)) ((unhide Hpr) wr hb5r) (by unfold maxLen; omega) (by unfold maxLen; omega))
      have ke := unhide Ke
      rw [decide_eq_true rfl] at ke
      have HKe := hide ke
      clear ke Ke hb5r hxl
      obtain ⟨-, y0, y1⟩ := (unhide Sr).cells
      go_wp2_with fail
      refine (unhide HKe).mono ?_
      rintro e wx ⟨rfl, jx, rfl⟩
      have Sx := hide ((unhide Sr).drewN jx)
      go_wp2_with fail
      refine ((unhide KW) _).mono ?_
      rintro e ww ⟨rfl, hbw⟩
      have SW := hide ((unhide Sx).below hbw)
      clear hbw
      go_wp2_with fail
      go_ret
      exact ⟨rfl, (unhide SW).bel⟩
    have hc7 := own_cell (unhide Ho) (i := k) (u := xs[k]'(by omega)) (List.getElem?_eq_getElem (by omega))
    have hf7 := own_free (unhide Ho) k
    have hset := own_set (i := k) (unhide Ho) (.string ⟨#[33]⟩)
    have Hset := hide hset
    clear hset
    go_wp2_with fail
    go_roundg (m + 1 - (k + 1))
    case measure => have := unhide Hgk; omega
    case rel => exact ⟨k + 1, _, rfl, by omega, by go_num, unhide Hset, (unhide Hb).setCell (p := ⟨ga, k, none⟩) hga _⟩
end Go.Proofs.YtfegfmapdekkbaaGreatDoor
