/- The arguments of the laws of search: three texts; a place and paths. No conditions. Ahead of it: The reference's Walk: the walk. Conditions: as it says. The reference's Meta: the walk. Conditions: as it says. The walk of hostelref15.Find. Conditions: those of the file system and of the groups; the texts have fewer than 2^32 bytes. The law's own helpers of search: large (twice) and the anchor. Conditions: as the arguments'. The walk of SearchPaths. Conditions: as the arguments'. The walks of SearchNil and SearchSecure. Conditions: as the arguments'. The entries that made spoils: what is kept while it does so. No conditions. slices.Reverse of a row of texts of the call's own; strings.Join of texts. Conditions: as each says. A node's path: the walk of Path. Conditions: as it says. small: are credentials and a path within what a statement goes through? No conditions. string(b) of bytes that are read; parts of what is read. No conditions. The anchor of the chapter's laws: the walk of works. No conditions. VfsRights: the law's walk. Conditions: those of the arguments. What made answers; the answers of the two News in one form. Conditions: as each says. The walk of the question's large; the reference's Find without a file system; the walk of SearchFinds. Conditions: as the arguments'. The walk of SearchFinds. Conditions: as the arguments'. The walk of SearchFirst. Conditions: as the arguments'. -/
import Derived.Test.YtchmdpkjipaafaaDoorSeB4
import Derived.Test.YtchmdpkjipaafaaDoorSeB3
import Derived.Test.YtchmdpkjipaafaaDoorSeB1
import Derived.Test.YtchmdpkjipaafaaDoorShelf
import Derived.Laws.IdiomCopy
import Derived.Lib.RowBridge
import Derived.Test.YtchmdpkjipaafaaDoorSeB2
import Derived.Laws.BytesArg
import Derived.Laws.IdiomStrings
namespace Go.Proofs.YtchmdpkjipaafaaDoor
set_option linter.unusedVariables false
set_option linter.unusedSimpArgs false
open Go.RowKit

set_option maxRecDepth 100000 in
set_option maxHeartbeats 8000000 in
theorem rwalk_any (F : List Vf.Nd) (ls : List RPl) (base g c : Nat) (A Ag : Option Addr) (ng kg : Nat) (cr : Vf.Cred) (src : Int) (path : ByteArray) (last : Bool) (w : World) (hF : Vf.Good F) (h : RFs w base g A c F ls) (hn : F.length ≤ 65)
    (hg : Rd w w.heap.size 1 Ag ng (cr.groups.map u32v)) (hng : ng ≤ maxLen) (hps : path.size ≤ 4294967296) :
    Calls Tryd.prog 40 #[.pointer (some ⟨g, 0, none⟩), credV cr Ag ng kg, .int .i64 src, .string path, .bool last] w fun e w' => e = .returned (.tuple #[.int .i64 ((Vf.walk F cr src path last).1 : Nat), .int .i64 (Vf.walk F cr src path last).2]) ∧ Below w.heap.size w w' := by
  have h0 := Vf.good_pos hF
  have hb0 : Below w.heap.size w (w.alloc (.cells #[.int .u32 (cr.uid : Nat), .int .u32 (cr.euid : Nat), .int .u32 (cr.suid : Nat), .int .u32 (cr.gid : Nat), .slice Ag ng kg] 34)) := (Below.refl _ _).alloc (Nat.le_refl _) _
  have hcb : Blk (w.alloc (.cells #[.int .u32 (cr.uid : Nat), .int .u32 (cr.euid : Nat), .int .u32 (cr.suid : Nat), .int .u32 (cr.gid : Nat), .slice Ag ng kg] 34)) w.heap.size 34 [.int .u32 (cr.uid : Nat), .int .u32 (cr.euid : Nat), .int .u32 (cr.suid : Nat), .int .u32 (cr.gid : Nat), .slice Ag ng kg] := Blk.new w 34 _
  have KMay : ∀ (i : Nat) (x : Vf.Nd), F[i]? = some x → ∀ w', Below w.heap.size w w' → Calls Tryd.prog 26 #[.agg #[.int .u32 (cr.uid : Nat), .int .u32 (cr.euid : Nat), .int .u32 (cr.suid : Nat), .int .u32 (cr.gid : Nat), .slice Ag ng kg], .agg #[.int .u8 (x.m.kind : Nat), .int .u16 (x.m.mode : Nat), .int .u32 (x.m.uid : Nat), .int .u32 (x.m.gid : Nat), .int .i64 (x.m.size : Nat)], .int .u8 1] w' fun e w2 => e = .returned (.bool (Vf.mayX cr x.m)) ∧ Below w'.heap.size w' w2 :=
    fun i x hx w' hb => rmay_any cr x.m Ag ng kg w.heap.size w' (hg.below hb) hb.size hng (hF.mode i x hx)
  have KDir : ∀ w', Below w.heap.size w w' → ∀ (i : Int) (r : Bool), r = decide (¬ (i < 0 ∨ Vf.kindAt F i.toNat ≠ 2)) → Calls Tryd.prog 59 #[.pointer (some ⟨g, 0, none⟩), .int .i64 i] w' fun e w2 => e = .returned (.bool r) ∧ w' = w2 :=
    fun w' hb i r hr => rfdir_any F ls base g c A i w' (h.belowSz hb) hn h0 r hr
  have KCh : ∀ w', Below w.heap.size w w' → ∀ (d : Nat) (nm : ByteArray), Calls Tryd.prog 57 #[.pointer (some ⟨g, 0, none⟩), .int .i64 (d : Nat), .string nm] w' fun e w2 => e = .returned (numV (Vf.child F d nm)) ∧ w' = w2 :=
    fun w' hb d nm => rchild_any F ls base g c A d nm w' (h.belowSz hb) hn h0
  obtain ⟨⟨rn0, re0⟩, hr⟩ : ∃ r, Vf.walk F cr src path last = r := ⟨_, rfl⟩
  rw [hr]
  dsimp only
  have HKM := hide KMay
  have HKD := hide KDir
  have HKC := hide KCh
  have HF := hide hF
  have H := hide h
  have Hr := hide hr
  have Hb0 := hide hb0
  have Hcb := hide hcb
  have Hg := hide hg
  have Hn := hide hn
  have H0 := hide h0
  unfold credV
  clear hF h hr hb0 hcb hg KMay KDir KCh hn h0
  go_enter Tryd.func40, Tryd.ntmps40
  go_wp2_with fail
  by_cases hs : src < 0 ∨ Vf.kindAt F src.toNat ≠ 2
  · obtain ⟨rfl, rfl⟩ : rn0 = 0 ∧ re0 = 1 := by
      have := unhide Hr
      unfold Vf.walk at this
      rw [if_pos hs] at this
      injection this with a b
      exact ⟨a.symm, b.symm⟩
    refine ((unhide HKD) _ (unhide Hb0) src false (by simp [hs])).mono ?_
    rintro e w1 ⟨rfl, rfl⟩
    clear hs
    go_wp2_with fail
    go_ret2
    exact ⟨rfl, unhide Hb0⟩
  · refine ((unhide HKD) _ (unhide Hb0) src true (by simp [hs])).mono ?_
    rintro e w1 ⟨rfl, rfl⟩
    obtain ⟨i, rfl⟩ := Int.eq_ofNat_of_zero_le (show 0 ≤ src by omega)
    have hk : Vf.kindAt F i = 2 := by
      simp only [not_or, Decidable.not_not, Int.toNat_natCast] at hs
      exact hs.2
    obtain ⟨x, hx, hxk⟩ := Vf.kindAt_lt hk
    have KP := hide (rparts_any path (by omega) (w.alloc (.cells #[.int .u32 (cr.uid : Nat), .int .u32 (cr.euid : Nat), .int .u32 (cr.suid : Nat), .int .u32 (cr.gid : Nat), .slice Ag ng kg] 34)))
    obtain ⟨ck, hck⟩ : ∃ b, Pth.chk path = b := ⟨_, rfl⟩
    obtain ⟨tb, htb⟩ : ∃ b, Pth.rootB path = b := ⟨_, rfl⟩
    obtain ⟨pl, hpl⟩ : ∃ l, Pth.partsL path = l := ⟨_, rfl⟩
    obtain ⟨tl, htl⟩ : ∃ b, Pth.tailB path = b := ⟨_, rfl⟩
    have hpl2 := Vf.parts_len path
    have hwk := unhide Hr
    unfold Vf.walk at hwk
    rw [if_neg hs] at hwk
    simp only [Int.toNat_natCast] at hwk
    rw [hck, htb, hpl, htl] at hwk
    rw [hck, htb, hpl] at KP
    rw [hpl] at hpl2
    have Hwk := hide hwk
    have Hx := hide hx
    have Hpl2 := hide hpl2
    have KT := hide (fun w' => rtail_any path (by omega) w')
    rw [htl] at KT
    have Hil := hide (List.getElem?_eq_some_iff.1 hx).1
    clear hs hk hx hxk hck htb hpl htl hwk hpl2 Hr
    go_wp2_with fail
    refine (unhide KP).mono ?_
    rintro e w2 ⟨A2, c2, rfl, ho2, hb2⟩
    have hcb2 := (unhide Hcb).belowSz hb2
    have Hb2 := hide ((unhide Hb0).trans (hb2.mono (by simp)))
    have Hr2 := hide (Rd.of_own ho2)
    have Hc2 := hide (own_cap ho2)
    have Hcb2 := hide hcb2
    clear ho2 hb2 hcb2
    by_cases hck : ck = 0
    case neg =>
      obtain ⟨rfl, rfl⟩ : rn0 = 0 ∧ re0 = ck := by
        have := unhide Hwk
        rw [if_pos hck] at this
        injection this with a b
        exact ⟨a.symm, b.symm⟩
      have i1 : (re0 != 0) = true := by simp [hck]
      clear hck
      go_wp2_with fail
      go_ret2
      exact ⟨rfl, unhide Hb2⟩
    subst hck
    have hwk := unhide Hwk
    rw [if_neg (by simp)] at hwk
    have q0 : ((0 : Int) != 0) = false := rfl
    obtain ⟨i1, hi1⟩ : ∃ i1, (if tb = true then 0 else i) = i1 := ⟨_, rfl⟩
    rw [hi1] at hwk
    have hil1 : i1 < F.length := by
      rw [← hi1]
      split
      · exact unhide H0
      · exact unhide Hil
    obtain ⟨lt, hlt⟩ : ∃ b, (last || tl) = b := ⟨_, rfl⟩
    rw [hlt] at hwk
    obtain ⟨⟨re, rn⟩, hen⟩ : ∃ r, Vf.ends F cr lt ⟨i1, 0, pl⟩ = r := ⟨_, rfl⟩
    obtain ⟨M, hMe⟩ : ∃ M, Vf.mu ⟨i1, 0, pl⟩ = M := ⟨_, rfl⟩
    have hM : M ≤ 1817 := by rw [← hMe]; unfold Vf.mu; have := unhide Hpl2; simp only; omega
    rw [hen] at hwk
    dsimp only at hwk
    have herr : ∀ e', re = e' → e' ≠ 0 → rn0 = 0 ∧ re0 = e' := by
      intro e' h1 h2
      rw [h1, if_pos h2] at hwk
      injection hwk with a b
      exact ⟨a.symm, b.symm⟩
    have Herr := hide herr
    have S0 : AlS w F [] cr Ag ng kg lt (re, rn) M ⟨i1, 0, pl⟩ A2 c2 w2 :=
      ⟨unhide Hb2, unhide Hcb2, (unhide Hr2), hil1, Nat.zero_le _, Nat.le_of_eq hMe, hen, unhide Hc2⟩
    have HS0 := hide S0
    have Hwk2 := hide hwk
    have HMe := hide hMe
    have Hlt := hide hlt
    have Hi1 := hide hi1
    obtain ⟨nl, hnl⟩ : ∃ n, pl.length = n := ⟨_, rfl⟩
    rw [hnl]
    have Hnl := hide hnl
    clear hwk herr S0 hMe hlt hil1 hen hi1 hnl Hwk
    cases tb
    all_goals
      go_wp2_with fail
      refine ((unhide KT) _).mono ?_
      rintro e w3 ⟨rfl, rfl⟩
      go_wp2_with fail
      go_loopg [12, 15, 17] M (fun gk lv av kv wr => ∃ (s : Vf.St) (A1 : Option Addr) (c1 : Nat), gk = Vf.mu s ∧ lv = .slice A1 s.left.length c1 ∧ av = .int .i64 (s.at_ : Nat) ∧ kv = .int .i64 (s.links : Nat) ∧ AlS w F [] cr Ag ng kg lt (re, rn) M s A1 c1 wr)
      case atStart => exact ⟨⟨i1, 0, pl⟩, A2, c2, (unhide HMe).symm, by rw [← unhide Hnl], by rw [← unhide Hi1]; rfl, rfl, unhide HS0⟩
      case round =>
      obtain ⟨s, A1, c1, hgk, rfl, rfl, rfl, hS⟩ := hrel
      have HS := hide hS
      have hat := hS.at_
      have hlen := hS.len
      obtain ⟨x, hx⟩ : ∃ x, F[s.at_]? = some x := ⟨_, List.getElem?_eq_getElem hat⟩
      obtain ⟨p, hp, _⟩ := (unhide H).at_ hx
      have HW := hide ((unhide H).belowSz hS.b)
      have Hx := hide hx
      have Hp := hide hp
      have Hgk := hide hgk
      have HbS := hide hS.b
      cases hleft : s.left with
      | nil =>
        obtain ⟨rfl, rfl⟩ : re = 0 ∧ rn = s.at_ := by
          have := hS.stop (Vf.hop_nil hleft)
          injection this with a b
          exact ⟨a, b⟩
        simp only [List.length_nil]
        have hwk := unhide Hwk2
        rw [if_neg (by simp), Vf.kindAt_eq hx] at hwk
        have hdr : ∀ r : Bool, r = decide (x.m.kind = 2) → r = decide (¬ (((s.at_ : Nat) : Int) < 0 ∨ Vf.kindAt F ((s.at_ : Nat) : Int).toNat ≠ 2)) := by
          intro r hr
          rw [hr, Int.toNat_natCast, Vf.kindAt_eq hx]
          by_cases h2 : x.m.kind = 2
          · rw [decide_eq_true h2]; exact (decide_eq_true (by omega)).symm
          · rw [decide_eq_false h2]; exact (decide_eq_false (by omega)).symm
        have Hdr := hide hdr
        clear hdr
        cases tl with
        | false =>
          rw [if_neg (by simp)] at hwk
          obtain ⟨rfl, rfl⟩ : rn0 = s.at_ ∧ re0 = 0 := by
            injection hwk with a b
            exact ⟨a.symm, b.symm⟩
          clear hS hx hp hgk hlen hat hleft hwk
          go_wp2_with fail
          go_ret2
          exact ⟨rfl, unhide HbS⟩
        | true =>
          by_cases h2 : x.m.kind = 2
          · rw [if_neg (by simp [h2])] at hwk
            obtain ⟨rfl, rfl⟩ : rn0 = s.at_ ∧ re0 = 0 := by
              injection hwk with a b
              exact ⟨a.symm, b.symm⟩
            have hd := (unhide Hdr) true (decide_eq_true h2).symm
            have Hd := hide hd
            clear hS hx hp hgk hlen hat hleft hwk h2 hd
            go_wp2_with fail
            refine ((unhide HKD) _ (unhide HbS) _ true (unhide Hd)).mono ?_
            rintro e w4 ⟨rfl, rfl⟩
            go_wp2_with fail
            go_ret2
            exact ⟨rfl, unhide HbS⟩
          · rw [if_pos (by simp [h2])] at hwk
            obtain ⟨rfl, rfl⟩ : rn0 = 0 ∧ re0 = 8 := by
              injection hwk with a b
              exact ⟨a.symm, b.symm⟩
            have hd := (unhide Hdr) false (decide_eq_false h2).symm
            have Hd := hide hd
            clear hS hx hp hgk hlen hat hleft hwk h2 hd
            go_wp2_with fail
            refine ((unhide HKD) _ (unhide HbS) _ false (unhide Hd)).mono ?_
            rintro e w4 ⟨rfl, rfl⟩
            go_wp2_with fail
            go_ret2
            exact ⟨rfl, unhide HbS⟩
      | cons pn rest =>
        have hl1 : s.left.length = rest.length + 1 := by rw [hleft]; rfl
        have Hleft := hide hleft
        obtain ⟨m, hm⟩ : ∃ m, rest.length = m := ⟨_, rfl⟩
        have Hm := hide hm
        have hmM : m < M := by omega
        simp only [List.length_cons]
        rw [hm]
        have g1 : (0 : Int) < (m : Int) + 1 := by omega
        have gl : ((m + 1 : Nat) : Int) = (m : Int) + 1 := by omega
        have hdr : ∀ r : Bool, r = decide (x.m.kind = 2) → r = decide (¬ (((s.at_ : Nat) : Int) < 0 ∨ Vf.kindAt F ((s.at_ : Nat) : Int).toNat ≠ 2)) := by
          intro r hr
          rw [hr, Int.toNat_natCast, Vf.kindAt_eq hx]
          by_cases h2 : x.m.kind = 2
          · rw [decide_eq_true h2]; exact (decide_eq_true (by omega)).symm
          · rw [decide_eq_false h2]; exact (decide_eq_false (by omega)).symm
        by_cases hk2 : x.m.kind = 2
        case neg =>
          have hka : Vf.kindAt F s.at_ ≠ 2 := by rw [Vf.kindAt_eq hx]; exact hk2
          have h8 : re = 8 := by
            have := hS.stop (Vf.hop_no hleft hka)
            injection this with a b
          obtain ⟨rfl, rfl⟩ := (unhide Herr) 8 h8 (by decide)
          have Hd := hide (hdr false (decide_eq_false hk2).symm)
          clear hS hx hp hgk hlen hat hleft hk2 hka h8 hdr hm hl1
          go_wp2_with fail
          refine ((unhide HKD) _ (unhide HbS) _ false (unhide Hd)).mono ?_
          rintro e w4 ⟨rfl, rfl⟩
          go_wp2_with fail
          go_ret2
          exact ⟨rfl, unhide HbS⟩
        have Hd := hide (hdr true (decide_eq_true hk2).symm)
        have hka : Vf.kindAt F s.at_ = 2 := (Vf.kindAt_eq hx).trans hk2
        have hnd : Vf.nd F s.at_ = x := Vf.nd_eq hx
        obtain ⟨b1, o1, hA, _, hcl⟩ := (unhide HW).cells (unhide H0)
        have v0 := (unhide HW).fs.cell (i := 0) rfl
        obtain ⟨n, hfn⟩ : ∃ n, F.length = n := ⟨_, rfl⟩
        rw [hfn] at v0 hat
        have ilt : ((s.at_ : Nat) : Int) < (n : Int) := by omega
        have ige : ¬ ((s.at_ : Nat) : Int) < 0 := by omega
        have hcb := hS.cb
        have hfsb := (unhide HW)
        have KM := (unhide HKM) s.at_ x hx
        obtain ⟨bm, hbm⟩ : ∃ b, Vf.mayX cr x.m = b := ⟨_, rfl⟩
        rw [hbm] at KM
        have Hbm := hide hbm
        have HSK : ∀ w', Below wr.heap.size wr w' → (Below wr.heap.size wr w' ∧ w'.cell? ⟨w.heap.size, 0, none⟩ = some (.int .u32 (cr.uid : Nat)) ∧ w'.cell? ⟨w.heap.size, 1, none⟩ = some (.int .u32 (cr.euid : Nat)) ∧ w'.cell? ⟨w.heap.size, 2, none⟩ = some (.int .u32 (cr.suid : Nat)) ∧ w'.cell? ⟨w.heap.size, 3, none⟩ = some (.int .u32 (cr.gid : Nat)) ∧ w'.cell? ⟨w.heap.size, 4, none⟩ = some (.slice Ag ng kg) ∧ w'.cell? ⟨g, 0, none⟩ = some (.slice A n c) ∧ w'.cell? ⟨b1, o1 + s.at_ * 9, none⟩ = some (.int .u8 (x.m.kind : Nat)) ∧ w'.cell? ⟨b1, o1 + s.at_ * 9 + 1, none⟩ = some (.int .u16 (x.m.mode : Nat)) ∧ w'.cell? ⟨b1, o1 + s.at_ * 9 + 2, none⟩ = some (.int .u32 (x.m.uid : Nat)) ∧ w'.cell? ⟨b1, o1 + s.at_ * 9 + 3, none⟩ = some (.int .u32 (x.m.gid : Nat)) ∧ w'.cell? ⟨b1, o1 + s.at_ * 9 + 4, none⟩ = some (.int .i64 (x.m.size : Nat))) := by
          intro w' hbw
          have h1 := hcb.belowSz hbw
          have h2 := (hfsb.belowSz hbw).fs
          rw [hfn] at h2
          have h3 : ∀ j u, (rndV (x, p))[j]? = some u → w'.cell? ⟨b1, o1 + (s.at_ * 9 + j), none⟩ = some u := fun j u hu => (hbw.cell (p := ⟨b1, _, none⟩) (cell_lt (hcl s.at_ x p hx hp j u hu))).trans (hcl s.at_ x p hx hp j u hu)
          have e0 := h3 0 _ rfl
          have e1 := h3 1 _ rfl
          have e2 := h3 2 _ rfl
          have e3 := h3 3 _ rfl
          have e4 := h3 4 _ rfl
          rw [Nat.add_zero] at e0
          simp only [← Nat.add_assoc] at e1 e2 e3 e4
          exact ⟨hbw, h1.cell rfl, h1.cell rfl, h1.cell rfl, h1.cell rfl, h1.cell rfl, h2.cell rfl, e0, e1, e2, e3, e4⟩
        obtain ⟨-, a0, a1, a2, a3, a4, v1, d0, d1, d2, d3, d4⟩ := HSK wr (Below.refl _ _)
        have hbW := hS.b
        have HKM2 := hide (fun w' (hbw : Below wr.heap.size wr w') => KM w' (hbW.trans (hbw.mono hbW.size)))
        have Hka := hide hka
        have Hnd := hide hnd
        have HSK' := hide HSK
        have Hk2 := hide hk2
        have Hcl := hide hcl
        have Hfn := hide hfn
        subst hA
        clear hS hx hp hgk hlen hleft hcb KM hbm HSK hka hnd hk2 hm hl1 hdr hcl hfn v0 hfsb hbW
        go_wp2_with fail
        refine ((unhide HKD) _ (unhide HbS) _ true (unhide Hd)).mono ?_
        rintro e w4 ⟨rfl, rfl⟩
        go_wp2_with fail
        go_region_held3 (fun w' => Below wr.heap.size wr w' ∧ w'.cell? ⟨w.heap.size, 0, none⟩ = some (.int .u32 (cr.uid : Nat)) ∧ w'.cell? ⟨w.heap.size, 1, none⟩ = some (.int .u32 (cr.euid : Nat)) ∧ w'.cell? ⟨w.heap.size, 2, none⟩ = some (.int .u32 (cr.suid : Nat)) ∧ w'.cell? ⟨w.heap.size, 3, none⟩ = some (.int .u32 (cr.gid : Nat)) ∧ w'.cell? ⟨w.heap.size, 4, none⟩ = some (.slice Ag ng kg) ∧ w'.cell? ⟨g, 0, none⟩ = some (.slice (some ⟨b1, o1, none⟩) n c) ∧ w'.cell? ⟨b1, o1 + s.at_ * 9, none⟩ = some (.int .u8 (x.m.kind : Nat)) ∧ w'.cell? ⟨b1, o1 + s.at_ * 9 + 1, none⟩ = some (.int .u16 (x.m.mode : Nat)) ∧ w'.cell? ⟨b1, o1 + s.at_ * 9 + 2, none⟩ = some (.int .u32 (x.m.uid : Nat)) ∧ w'.cell? ⟨b1, o1 + s.at_ * 9 + 3, none⟩ = some (.int .u32 (x.m.gid : Nat)) ∧ w'.cell? ⟨b1, o1 + s.at_ * 9 + 4, none⟩ = some (.int .i64 (x.m.size : Nat))) (first | exact (unhide HSK') _ (below_drew' (Below.refl _ _)) | exact (unhide HSK') _ (unhide hbn)) (first
          | (go_at_call 26; rename Below _ _ _ ∧ _ => hH; refine ((unhide HKM2) _ hH.1).mono ?_; rintro e w5 ⟨rfl, hb5⟩; have hbn := hide (hH.1.trans (hb5.mono hH.1.size))))
        have HS2 := hide ((unhide HS).below (unhide hbn))
        have Hb5 := hide ((unhide HS2).b)
        clear a0 a1 a2 a3 a4 v1 d0 d1 d2 d3 d4
        cases bm with
        | false =>
          have h5 : re = 5 := by
            have := (unhide HS).stop (Vf.hop_shut (unhide Hleft) (unhide Hka) (by rw [unhide Hnd]; exact unhide Hbm))
            injection this with a b
          obtain ⟨rfl, rfl⟩ := (unhide Herr) 5 h5 (by decide)
          clear h5
          go_wp2_with fail
          go_ret2
          exact ⟨rfl, unhide Hb5⟩
        | true =>
          have hrd := (unhide HS2).rd
          rw [unhide Hleft, List.length_cons, unhide Hm, List.map_cons] at hrd
          have hcp := (unhide HS2).cap
          rw [unhide Hleft, List.length_cons, unhide Hm] at hcp
          have hsl := fun w' => run_tail (P := Tryd.prog) (e := 9) Tryd.underlying25 (by kernel_rfl) A1 m c1 w'
          have hrt := hrd.tail hcp
          obtain ⟨bL, oL, hA1, _, cL⟩ := hrd.at_ (k := 0) (u := .string pn) rfl
          obtain ⟨A2', hA2⟩ : ∃ A2, tailA A1 c1 = A2 := ⟨_, rfl⟩
          rw [hA2] at hsl hrt
          rw [Nat.add_zero] at cL
          subst hA1
          have Hrt := hide hrt
          have Hcp := hide hcp
          have hw5 := (unhide HSK') w5 (unhide hbn)
          have v5 := hw5.2.2.2.2.2.2.1
          clear hrd hA2 hrt hcp hw5
          have hdq : (pn.toList == [46, 46]) = decide (pn = Vf.dd) := by
            have h := beq_toList pn Vf.dd
            rwa [show Vf.dd.toList = [46, 46] by rw [Lib.toList_data]; rfl] at h
          by_cases hd : pn = Vf.dd
          · rw [decide_eq_true hd] at hdq
            obtain ⟨hul, hud⟩ := Vf.up_lt (unhide HF) (unhide Hx)
            have e5 := (unhide Hcl) s.at_ x p (unhide Hx) (unhide Hp) 5 _ rfl
            simp only [← Nat.add_assoc] at e5
            have c6 := ((unhide hbn).cell (p := ⟨b1, _, none⟩) (cell_lt e5)).trans e5
            have hnx := (unhide HS).next (Vf.hop_up (unhide Hleft) (unhide Hka) (by rw [unhide Hnd]; exact unhide Hbm) hd)
            rw [unhide Hnd] at hnx
            have HN : Hid (AlS w F [] cr Ag ng kg lt (re, rn) M ⟨x.up, s.links, rest⟩ A2' (c1 - 1) w5) :=
              hide ⟨(unhide HS2).b, (unhide HS2).cb, by rw [unhide Hm]; exact unhide Hrt, hul, (unhide HS2).lk, Nat.le_trans (Nat.le_of_lt hnx.2) (unhide HS2).mu, hnx.1, by rw [unhide Hm]; have := unhide Hcp; omega⟩
            have Hnx := hide hnx.2
            clear hd hul hud hnx e5
            go_wp2_with fail
            go_roundg (Vf.mu ⟨x.up, s.links, rest⟩)
            case rel => exact ⟨⟨x.up, s.links, rest⟩, A2', c1 - 1, rfl, by rw [unhide Hm], rfl, rfl, unhide HN⟩
            case measure => rw [unhide Hgk]; exact unhide Hnx
          · rw [decide_eq_false hd] at hdq
            have hml : Vf.mayX cr (Vf.nd F s.at_).m = true := by rw [unhide Hnd]; exact unhide Hbm
            have KC := (unhide HKC) w5 (unhide Hb5) s.at_ pn
            cases hc : Vf.child F s.at_ pn with
            | none =>
              rw [hc, numV_none] at KC
              have h3 : re = 3 := by
                have := (unhide HS).stop (Vf.hop_none (unhide Hleft) (unhide Hka) hml hd hc)
                injection this with a b
              obtain ⟨rfl, rfl⟩ := (unhide Herr) 3 h3 (by decide)
              have HKC2 := hide KC
              clear h3 hd hc hml KC
              go_wp2_with fail
              refine (unhide HKC2).mono ?_
              rintro e w6 ⟨rfl, rfl⟩
              go_wp2_with fail
              go_ret2
              exact ⟨rfl, unhide Hb5⟩
            | some j =>
              rw [hc, numV_some] at KC
              have hjl := (Vf.child_dir (unhide HF) hc).2.2
              obtain ⟨xj, hxj⟩ : ∃ x, F[j]? = some x := ⟨_, List.getElem?_eq_getElem hjl⟩
              obtain ⟨pj, hpj, _⟩ := (unhide H).at_ hxj
              have ej0 := (unhide Hcl) j xj pj hxj hpj 0 _ rfl
              have ej8 := (unhide Hcl) j xj pj hxj hpj 8 _ rfl
              rw [Nat.add_zero] at ej0
              simp only [← Nat.add_assoc] at ej8
              have f0 := ((unhide hbn).cell (p := ⟨b1, _, none⟩) (cell_lt ej0)).trans ej0
              have f8 := ((unhide hbn).cell (p := ⟨b1, _, none⟩) (cell_lt ej8)).trans ej8
              have HKC2 := hide KC
              have HIn : Hid (Vf.kindAt F j ≠ 3 ∨ (rest = [] ∧ lt = false) → AlS w F [] cr Ag ng kg lt (re, rn) M ⟨j, s.links, rest⟩ A2' (c1 - 1) w5 ∧ Vf.mu ⟨j, s.links, rest⟩ < Vf.mu s) := hide (fun h3 => by
                have hnx := (unhide HS).next (Vf.hop_in (unhide Hleft) (unhide Hka) hml hd hc h3)
                exact ⟨⟨(unhide HS2).b, (unhide HS2).cb, by rw [unhide Hm]; exact unhide Hrt, hjl, (unhide HS2).lk, Nat.le_trans (Nat.le_of_lt hnx.2) (unhide HS2).mu, hnx.1, by rw [unhide Hm]; have := unhide Hcp; omega⟩, hnx.2⟩)
              have hjn : j < n := by rw [← unhide Hfn]; exact hjl
              have j0 : ¬ (j : Int) < 0 := by omega
              have j1 : (j : Int) < (n : Int) := by omega
              by_cases hk3 : xj.m.kind = 3
              · have q3 : ((xj.m.kind : Int) != 3) = false := by rw [hk3]; rfl
                have hk3' : Vf.kindAt F j = 3 := (Vf.kindAt_eq hxj).trans hk3
                have hndj : Vf.nd F j = xj := Vf.nd_eq hxj
                have hto : xj.to.size ≤ 200 := Pth.chk_size _ ((unhide HF).to j xj hxj hk3)
                by_cases hin : rest = [] ∧ lt = false
                · have h3 := (unhide HIn) (.inr hin)
                  have HN := hide h3.1
                  have Hnx := hide h3.2
                  have hm0 : m = 0 := by rw [← unhide Hm, hin.1]; rfl
                  have hq0 : ((m : Int) == 0) = true := by rw [hm0]; rfl
                  obtain ⟨hla, htl⟩ : last = false ∧ tl = false := by
                    have := unhide Hlt
                    rw [hin.2] at this
                    exact Bool.or_eq_false_iff.1 this
                  clear h3 hk3 hc hjl hxj hpj hml hd ej0 ej8 hk3' hndj hto hin hm0 KC
                  subst hla
                  subst htl
                  go_wp2_with fail
                  refine (unhide HKC2).mono ?_
                  rintro e w6 ⟨rfl, rfl⟩
                  go_wp2_with fail
                  go_roundg (Vf.mu ⟨j, s.links, rest⟩)
                  case rel => exact ⟨⟨j, s.links, rest⟩, A2', c1 - 1, rfl, by rw [unhide Hm], rfl, rfl, unhide HN⟩
                  case measure => rw [unhide Hgk]; exact unhide Hnx
                · have hno : ¬ (Vf.kindAt F j ≠ 3 ∨ (rest = [] ∧ lt = false)) := by
                    rintro (h | h)
                    · exact h hk3'
                    · exact hin h
                  have hpick : ((m : Int) == 0) = false ∨ (((m : Int) == 0) = true ∧ last = true) ∨ (((m : Int) == 0) = true ∧ last = false ∧ tl = true) := by
                    by_cases hm0 : m = 0
                    · have e0 : ((m : Int) == 0) = true := by rw [hm0]; rfl
                      have hl := unhide Hlt
                      have hr0 : rest = [] := List.eq_nil_of_length_eq_zero ((unhide Hm).trans hm0)
                      have hlt2 : lt = true := by
                        cases lt with
                        | true => rfl
                        | false => exact absurd ⟨hr0, rfl⟩ hin
                      cases last with
                      | true => exact .inr (.inl ⟨e0, rfl⟩)
                      | false =>
                        rw [hlt2] at hl
                        cases tl with
                        | true => exact .inr (.inr ⟨e0, rfl, rfl⟩)
                        | false => cases hl
                    · exact .inl (by rw [beq_eq_false_iff_ne]; omega)
                  have hlk8 := (unhide HS2).lk
                  have i0 : (0 : Int) ≤ (s.links : Int) := by omega
                  have iw : IntKind.i64.wrap ((s.links : Int) + 1) = (s.links : Int) + 1 := IntWalk.i64_in _ (by omega)
                  by_cases h8 : 8 ≤ s.links
                  · have h10 : re = 10 := by
                      have := (unhide HS).stop (Vf.hop_loop (unhide Hleft) (unhide Hka) hml hd hc hno h8)
                      injection this with a b
                    obtain ⟨rfl, rfl⟩ := (unhide Herr) 10 h10 (by decide)
                    have g8 : (8 : Int) < (s.links : Int) + 1 := by omega
                    clear hk3 hc hjl hxj hpj hml hd ej0 ej8 hk3' hndj hto hin hno hlk8 h8 h10 KC
                    rcases hpick with hq0 | ⟨hq0, rfl⟩ | ⟨hq0, rfl, rfl⟩
                    all_goals
                      go_wp2_with fail
                      refine (unhide HKC2).mono ?_
                      rintro e w6 ⟨rfl, rfl⟩
                      go_wp2_with fail
                      go_ret2
                      exact ⟨rfl, unhide Hb5⟩
                  · have hnx := (unhide HS).next (Vf.hop_link (unhide Hleft) (unhide Hka) hml hd hc hno h8)
                    rw [hndj] at hnx
                    have g8 : ¬ (8 : Int) < (s.links : Int) + 1 := by omega
                    have KP := hide (rparts_any xj.to (by omega) w5)
                    have hpl := Vf.parts_len xj.to
                    have Hnx := hide hnx
                    have h8' : s.links + 1 ≤ 8 := by omega
                    have hm2 : m ≤ 1817 := by omega
                    obtain ⟨tb2, htb⟩ : ∃ b, Pth.rootB xj.to = b := ⟨_, rfl⟩
                    obtain ⟨pl2, hpll⟩ : ∃ l, Pth.partsL xj.to = l := ⟨_, rfl⟩
                    rw [htb, hpll] at KP
                    rw [hpll] at hpl
                    obtain ⟨np, hnp⟩ : ∃ n, pl2.length = n := ⟨_, rfl⟩
                    rw [hnp] at KP hpl
                    rw [htb, hpll] at Hnx
                    have Hnp := hide hnp
                    clear hk3 hc hjl hxj hpj hml hd ej0 ej8 hk3' hndj hto hin hno hlk8 h8 hnx htb hpll hnp KC
                    have HN : ∀ (B : Nat) (A4 : Option Addr) (c4 : Nat) (w4 : World), w4.ownsRow B 9 1 (.slice A4 (np + m) c4) (np + m) (pl2.map Value.string ++ rest.map Value.string) → Below w5.heap.size w5 w4 → AlS w F [] cr Ag ng kg lt (re, rn) M ⟨if tb2 = true then 0 else s.at_, s.links + 1, pl2 ++ rest⟩ A4 c4 w4 := by
                      intro B A4 c4 w4 ho4 hb4
                      have hS4 := (unhide HS2).below hb4
                      have hlen4 : (pl2 ++ rest).length = np + m := by rw [List.length_append, unhide Hnp, unhide Hm]
                      refine ⟨hS4.b, hS4.cb, ?_, ?_, h8', Nat.le_trans (Nat.le_of_lt (unhide Hnx).2) (unhide HS2).mu, (unhide Hnx).1, ?_⟩
                      · show Rd w4 w4.heap.size 1 A4 (pl2 ++ rest).length ((pl2 ++ rest).map Value.string)
                        rw [hlen4, List.map_append]
                        exact Rd.of_own ho4
                      · show (if tb2 = true then 0 else s.at_) < F.length
                        split
                        · exact Vf.good_pos (unhide HF)
                        · exact (unhide HS2).at_
                      · show (pl2 ++ rest).length ≤ c4
                        rw [hlen4]
                        exact own_cap ho4
                    have hlen4 : (pl2 ++ rest).length = np + m := by rw [List.length_append, unhide Hnp, unhide Hm]
                    have Hlen4 := hide hlen4
                    replace HN := hide HN
                    clear hlen4
                    rcases hpick with hq0 | ⟨hq0, rfl⟩ | ⟨hq0, rfl, rfl⟩
                    all_goals
                      go_wp2_with fail
                      refine (unhide HKC2).mono ?_
                      rintro e w6 ⟨rfl, rfl⟩
                      go_wp2_with fail
                      refine (unhide KP).mono ?_
                      rintro e w3 ⟨A3, c3, rfl, ho3, hb3⟩
                      have Hrd3 := hide (Rd.of_own ho3)
                      have Hb3 := hide hb3
                      have Hr3 := hide ((unhide Hrt).belowSz hb3)
                      clear ho3 hb3
                      cases tb2 with
                      | false =>
                        go_wp2_with (at_builtin; first | (refine wpList_app strTy rfl _ _ rfl w3.heap.size (.slice none 0 0) 0 [] rfl (World.ownsRow_nil _ _ _ _) w3.heap.size A3 np c3 _ rfl (unhide Hrd3) (strs_one _) (by omega) (Nat.le_refl _) ?_; intro A4 c4 w4 ho4 hg4 hat4; simp only [Nat.zero_add, List.nil_append] at ho4; have hb4 := (Below.refl w3.heap.size w3).grown hg4 (Nat.le_refl _) (fun k hk => by simp [Value.ownBlock] at hk); have Ho4 := hide ho4; have Hb4 := hide hb4; have Hr4 := hide ((unhide Hr3).belowSz hb4); simp only [Nat.zero_add]; clear ho4 hg4 hat4 hb4) | (refine wpList_app strTy rfl _ _ rfl w3.heap.size (.slice A4 np c4) np _ rfl (unhide Ho4) w4.heap.size A2' m (c1 - 1) _ rfl (unhide Hr4) (strs_one _) (by omega) (unhide Hb4).size ?_; intro A5 c5 w7 ho5 hg5 hat5; have hb6 := (unhide Hb4).grown hg5 (unhide Hb4).size (fun k hk => ((unhide Ho4).lt k hk).1); have Ho5 := hide ho5; have Hb6 := hide hb6; clear ho5 hg5 hat5 hb6))
                        have hN4 := (unhide HN) _ A5 c5 w7 (unhide Ho5) ((unhide Hb3).trans ((unhide Hb6).mono (unhide Hb3).size))
                        simp only [Bool.false_eq_true, if_false] at hN4
                        go_roundg (Vf.mu ⟨s.at_, s.links + 1, pl2 ++ rest⟩)
                        case rel => exact ⟨⟨s.at_, s.links + 1, pl2 ++ rest⟩, A5, c5, rfl, by rw [unhide Hlen4], rfl, rfl, hN4⟩
                        case measure => rw [unhide Hgk]; exact (unhide Hnx).2
                      | true =>
                        go_wp2_with (at_builtin; first | (refine wpList_app strTy rfl _ _ rfl w3.heap.size (.slice none 0 0) 0 [] rfl (World.ownsRow_nil _ _ _ _) w3.heap.size A3 np c3 _ rfl (unhide Hrd3) (strs_one _) (by omega) (Nat.le_refl _) ?_; intro A4 c4 w4 ho4 hg4 hat4; simp only [Nat.zero_add, List.nil_append] at ho4; have hb4 := (Below.refl w3.heap.size w3).grown hg4 (Nat.le_refl _) (fun k hk => by simp [Value.ownBlock] at hk); have Ho4 := hide ho4; have Hb4 := hide hb4; have Hr4 := hide ((unhide Hr3).belowSz hb4); simp only [Nat.zero_add]; clear ho4 hg4 hat4 hb4) | (refine wpList_app strTy rfl _ _ rfl w3.heap.size (.slice A4 np c4) np _ rfl (unhide Ho4) w4.heap.size A2' m (c1 - 1) _ rfl (unhide Hr4) (strs_one _) (by omega) (unhide Hb4).size ?_; intro A5 c5 w7 ho5 hg5 hat5; have hb6 := (unhide Hb4).grown hg5 (unhide Hb4).size (fun k hk => ((unhide Ho4).lt k hk).1); have Ho5 := hide ho5; have Hb6 := hide hb6; clear ho5 hg5 hat5 hb6))
                        have hN4 := (unhide HN) _ A5 c5 w7 (unhide Ho5) ((unhide Hb3).trans ((unhide Hb6).mono (unhide Hb3).size))
                        simp only [if_true] at hN4
                        go_roundg (Vf.mu ⟨0, s.links + 1, pl2 ++ rest⟩)
                        case rel => exact ⟨⟨0, s.links + 1, pl2 ++ rest⟩, A5, c5, rfl, by rw [unhide Hlen4], rfl, rfl, hN4⟩
                        case measure => rw [unhide Hgk]; exact (unhide Hnx).2
              · have q3 : ((xj.m.kind : Int) != 3) = true := by simp; omega
                have h3 := (unhide HIn) (.inl (by rw [Vf.kindAt_eq hxj]; exact hk3))
                have HN := hide h3.1
                have Hnx := hide h3.2
                clear h3 hk3 hc hjl hxj hpj hml hd ej0 ej8 KC
                go_wp2_with fail
                refine (unhide HKC2).mono ?_
                rintro e w6 ⟨rfl, rfl⟩
                go_wp2_with fail
                go_roundg (Vf.mu ⟨j, s.links, rest⟩)
                case rel => exact ⟨⟨j, s.links, rest⟩, A2', c1 - 1, rfl, by rw [unhide Hm], rfl, rfl, unhide HN⟩
                case measure => rw [unhide Hgk]; exact unhide Hnx
end Go.Proofs.YtchmdpkjipaafaaDoor
namespace Go.Proofs.YtchmdpkjipaafaaDoor
set_option linter.unusedVariables false
set_option linter.unusedSimpArgs false
open Go.RowKit

set_option maxRecDepth 100000 in
set_option maxHeartbeats 4000000 in
theorem rmeta_any (F : List Vf.Nd) (ls : List RPl) (base g c : Nat) (A : Option Addr) (ino : Int) (w : World) (h : RFs w base g A c F ls) (hn : F.length ≤ 65) (h0 : 0 < F.length) :
    Calls Tryd.prog 41 #[.pointer (some ⟨g, 0, none⟩), .int .i64 ino] w fun e w' => e = .returned (.tuple #[metaV (Vf.metaOf F ino).1, .int .i64 (Vf.metaOf F ino).2]) ∧ Below w.heap.size w w' := by
  have hb0 : Below w.heap.size w (w.alloc (.cells #[.int .u8 0, .int .u16 0, .int .u32 0, .int .u32 0, .int .i64 0] 56)) := (Below.refl _ _).alloc (Nat.le_refl _) _
  have h1 := h.belowSz hb0
  obtain ⟨b1, o1, hA, _, hc⟩ := h1.cells h0
  have v0 := h1.fs.cell (i := 0) rfl
  obtain ⟨n, hfn⟩ : ∃ n, F.length = n := ⟨_, rfl⟩
  rw [hfn] at v0 hn
  subst hA
  have HB := hide hb0
  obtain ⟨⟨rm, re⟩, hr⟩ : ∃ r, Vf.metaOf F ino = r := ⟨_, rfl⟩
  rw [hr]
  dsimp only
  have Hr := hide hr
  have H1 := hide h1
  clear hr h hb0 h0 h1
  by_cases hneg : ino < 0
  · obtain ⟨rfl, rfl⟩ := Prod.mk.inj ((unhide Hr).symm.trans (show Vf.metaOf F ino = (Vf.zeroMeta, 3) by unfold Vf.metaOf; rw [if_pos (.inl hneg)]))
    clear hc
    go_enter Tryd.func41, Tryd.ntmps41
    go_wp2_with fail
    refine bodyPost_ret (results_cell_tmp (P := Tryd.prog) rfl _ _ w.heap.size 56 #[.int .u8 0, .int .u16 0, .int .u32 0, .int .u32 0, .int .i64 0] (0, 0) _ rfl (heap_alloc_new _ _) Tryd.underlying56 rfl metaInfo) rfl ?_
    exact ⟨rfl, unhide HB⟩
  · obtain ⟨i, rfl⟩ := Int.eq_ofNat_of_zero_le (show 0 ≤ ino by omega)
    have i0 : ¬ (i : Int) < 0 := by omega
    by_cases hlt : i < n
    · obtain ⟨x, hx⟩ : ∃ x, F[i]? = some x := ⟨_, List.getElem?_eq_getElem (by rw [hfn]; exact hlt)⟩
      obtain ⟨p, hp, _⟩ := (unhide H1).at_ hx
      have e0 := hc i x p hx hp 0 _ rfl
      have e1 := hc i x p hx hp 1 _ rfl
      have e2 := hc i x p hx hp 2 _ rfl
      have e3 := hc i x p hx hp 3 _ rfl
      have e4 := hc i x p hx hp 4 _ rfl
      rw [Nat.add_zero] at e0
      simp only [← Nat.add_assoc] at e1 e2 e3 e4
      have i1 : (i : Int) < (n : Int) := by omega
      have i2 : ¬ (n : Int) ≤ (i : Int) := by omega
      obtain ⟨rfl, rfl⟩ := Prod.mk.inj ((unhide Hr).symm.trans (show Vf.metaOf F (i : Nat) = (x.m, 0) by unfold Vf.metaOf; rw [if_neg (by rw [hfn]; simp; omega), Int.toNat_natCast, Vf.nd_eq hx]))
      clear hc hx hp
      go_enter Tryd.func41, Tryd.ntmps41
      go_wp2_with fail
      refine bodyPost_ret (results_cell_tmp (P := Tryd.prog) rfl _ _ w.heap.size 56 #[.int .u8 (x.m.kind : Nat), .int .u16 (x.m.mode : Nat), .int .u32 (x.m.uid : Nat), .int .u32 (x.m.gid : Nat), .int .i64 (x.m.size : Nat)] (0, 0) _ rfl (heap_alloc_new _ _) Tryd.underlying56 rfl metaInfo) rfl ?_
      exact ⟨rfl, (Below.refl w.heap.size w).alloc (Nat.le_refl _) _⟩
    · have i1 : ¬ (i : Int) < (n : Int) := by omega
      have i2 : (n : Int) ≤ (i : Int) := by omega
      obtain ⟨rfl, rfl⟩ := Prod.mk.inj ((unhide Hr).symm.trans (show Vf.metaOf F (i : Nat) = (Vf.zeroMeta, 3) by unfold Vf.metaOf; rw [if_pos (.inr (by rw [hfn]; simp; omega))]))
      clear hc
      go_enter Tryd.func41, Tryd.ntmps41
      go_wp2_with fail
      refine bodyPost_ret (results_cell_tmp (P := Tryd.prog) rfl _ _ w.heap.size 56 #[.int .u8 0, .int .u16 0, .int .u32 0, .int .u32 0, .int .i64 0] (0, 0) _ rfl (heap_alloc_new _ _) Tryd.underlying56 rfl metaInfo) rfl ?_
      exact ⟨rfl, unhide HB⟩
end Go.Proofs.YtchmdpkjipaafaaDoor
namespace Go.Proofs.YtchmdpkjipaafaaDoor
set_option linter.unusedVariables false
set_option linter.unusedSimpArgs false
open Go.RowKit

set_option maxRecDepth 100000 in
set_option maxHeartbeats 4000000 in
theorem rfind_any (F : List Vf.Nd) (ls : List RPl) (base g cg : Nat) (Ag A Al : Option Addr) (n k nl cl : Nat) (cr : Vf.Cred) (cwd : Int) (l : List ByteArray) (w : World) (hF : Vf.Good F) (hFS : RFs w base g Ag cg F ls) (hn : F.length ≤ 65)
    (hg : Rd w w.heap.size 1 A n (cr.groups.map u32v)) (hng : n ≤ maxLen) (hl : Rd w w.heap.size 1 Al nl (l.map Value.string)) (hs : ∀ x ∈ l, x.size ≤ 4294967296) (hnl : nl ≤ 4294967296) :
    Calls Tryd.prog 23 #[.pointer (some ⟨g, 0, none⟩), credV cr A n k, .int .i64 cwd, .slice Al nl cl] w fun e w' =>
      e = .returned (.tuple #[.int .i64 ((Se.find F cr cwd l).1 : Nat), .string (Se.find F cr cwd l).2.1, .int .i64 (Se.find F cr cwd l).2.2]) ∧ Below w.heap.size w w' := by
  have hb0 : Below w.heap.size w (w.alloc (.cells #[.int .u32 (cr.uid : Nat), .int .u32 (cr.euid : Nat), .int .u32 (cr.suid : Nat), .int .u32 (cr.gid : Nat), .slice A n k] 34)) := (Below.refl _ _).alloc (Nat.le_refl _) _
  have hc0 : Blk (w.alloc (.cells #[.int .u32 (cr.uid : Nat), .int .u32 (cr.euid : Nat), .int .u32 (cr.suid : Nat), .int .u32 (cr.gid : Nat), .slice A n k] 34)) w.heap.size 34 [.int .u32 (cr.uid : Nat), .int .u32 (cr.euid : Nat), .int .u32 (cr.suid : Nat), .int .u32 (cr.gid : Nat), .slice A n k] := Blk.new w 34 _
  have KW : ∀ w', Below w.heap.size w w' → ∀ x : ByteArray, x.size ≤ 4294967296 → Calls Tryd.prog 40 #[.pointer (some ⟨g, 0, none⟩), .agg #[.int .u32 (cr.uid : Nat), .int .u32 (cr.euid : Nat), .int .u32 (cr.suid : Nat), .int .u32 (cr.gid : Nat), .slice A n k], .int .i64 cwd, .string x, .bool true] w' fun e w5 => e = .returned (.tuple #[.int .i64 ((Vf.walk F cr cwd x true).1 : Nat), .int .i64 (Vf.walk F cr cwd x true).2]) ∧ Below w'.heap.size w' w5 :=
    fun w' hb x hx => rwalk_any F ls base g cg Ag A n k cr cwd x true w' hF (hFS.belowSz hb) hn ((hg.below hb).more hb.size) hng hx
  have KM : ∀ w', Below w.heap.size w w' → ∀ ino : Int, Calls Tryd.prog 41 #[.pointer (some ⟨g, 0, none⟩), .int .i64 ino] w' fun e w5 => e = .returned (.tuple #[metaV (Vf.metaOf F ino).1, .int .i64 (Vf.metaOf F ino).2]) ∧ Below w'.heap.size w' w5 :=
    fun w' hb ino => rmeta_any F ls base g cg Ag ino w' (hFS.belowSz hb) hn (Vf.good_pos hF)
  have KY : ∀ w', Below w.heap.size w w' → ∀ m : Vf.Meta, m.mode < 65536 → Calls Tryd.prog 26 #[credV cr A n k, metaV m, .int .u8 4] w' fun e w5 => e = .returned (.bool (Vf.mayR cr m)) ∧ Below w'.heap.size w' w5 :=
    fun w' hb m hm => rmay4_any cr m A n k w.heap.size w' (hg.below hb) hb.size hng hm
  have hmd := fun ino => meta_mode hF ino
  have hlen : l.length = nl := by simpa using hl.len1
  have hnone : l.any (Se.good F cr cwd) = false → Se.find F cr cwd l = (0, ⟨#[]⟩, 19) := Se.find_none
  have hfirst : ∀ (j : Nat) (x : ByteArray), l[j]? = some x → (l.take j).any (Se.good F cr cwd) = false → Se.good F cr cwd x = true → Se.find F cr cwd l = ((Vf.walk F cr cwd x true).1, x, 0) := fun j x => Se.find_first
  obtain ⟨⟨r1, r2, r3⟩, hr⟩ : ∃ r, Se.find F cr cwd l = r := ⟨_, rfl⟩
  rw [hr] at hnone hfirst ⊢
  unfold credV metaV at KY
  unfold metaV at KM
  have HW := hide KW
  have HM := hide KM
  have HY := hide KY
  have Hmd := hide hmd
  have Hnone := hide hnone
  have Hfirst := hide hfirst
  have Hl := hide hl
  have Hlen := hide hlen
  have Hs := hide hs
  have Hb0 := hide hb0
  have Hc0 := hide hc0
  unfold credV
  clear KW KM KY hmd hF hFS hg hl hs hlen hnone hfirst hr hb0 hc0
  go_enter Tryd.func23, Tryd.ntmps23
  go_wp2_with fail
  go_loopg [11] nl (fun gk iv wr => ∃ j : Nat, gk = nl - j ∧ j ≤ nl ∧ iv = .int .i64 j ∧ (l.take j).any (Se.good F cr cwd) = false ∧ Below w.heap.size w wr ∧ Blk wr w.heap.size 34 [.int .u32 (cr.uid : Nat), .int .u32 (cr.euid : Nat), .int .u32 (cr.suid : Nat), .int .u32 (cr.gid : Nat), .slice A n k])
  case atStart => exact ⟨0, by omega, Nat.zero_le _, rfl, by simp, unhide Hb0, unhide Hc0⟩
  case round =>
  obtain ⟨j, hgk, hj, rfl, hno, hb, hc⟩ := hrel
  have Hgk := hide hgk
  have Hno := hide hno
  have Hb := hide hb
  have Hc := hide hc
  clear hgk hno hb hc
  by_cases hlt : j < nl
  case neg =>
    have hno := unhide Hno
    rw [List.take_of_length_le (by have := unhide Hlen; omega)] at hno
    have hr := (unhide Hnone) hno
    injection hr with e1 e2
    injection e2 with e2 e3
    subst e1 e2 e3
    have ige : ¬ (j : Int) < (nl : Int) := by omega
    clear hno
    go_wp2_with fail
    go_ret3
    exact ⟨rfl, unhide Hb⟩
  obtain ⟨x, hx⟩ : ∃ x, l[j]? = some x := ⟨_, List.getElem?_eq_getElem (by rw [unhide Hlen]; exact hlt)⟩
  have hxs := (unhide Hs) x (List.mem_of_getElem? hx)
  obtain ⟨b1, o1, rfl, hb1, c1⟩ := ((unhide Hl).below (unhide Hb)).at_ (k := j) (u := .string x) (by simp [hx])
  have ilt : (j : Int) < (nl : Int) := by omega
  have ige : ¬ (j : Int) < 0 := by omega
  have hstep : Se.good F cr cwd x = false → (l.take (j + 1)).any (Se.good F cr cwd) = false := fun h => by
    rw [List.take_add_one, hx, List.any_append, unhide Hno]
    simp [h]
  have hfnd := (unhide Hfirst) j x hx (unhide Hno)
  obtain ⟨gd, hgd⟩ : ∃ b, Se.good F cr cwd x = b := ⟨_, rfl⟩
  rw [hgd] at hstep hfnd
  unfold Se.good at hgd
  have KW1 := fun w' hb => (unhide HW) w' hb x hxs
  obtain ⟨⟨n1, e1⟩, hw1⟩ : ∃ r, Vf.walk F cr cwd x true = r := ⟨_, rfl⟩
  rw [hw1] at KW1 hgd hfnd
  dsimp only at KW1 hgd hfnd
  have KM1 := fun w' hb => (unhide HM) w' hb (n1 : Nat)
  have hmd1 := (unhide Hmd) (n1 : Nat)
  obtain ⟨⟨⟨mk, mm, mu, mg, ms⟩, me⟩, hm⟩ : ∃ r, Vf.metaOf F (n1 : Nat) = r := ⟨_, rfl⟩
  rw [hm] at KM1 hmd1 hgd
  dsimp only at hgd hmd1 KM1
  have KY1 := fun w' hb => (unhide HY) w' hb ⟨mk, mm, mu, mg, ms⟩ hmd1
  obtain ⟨yb, hyb⟩ : ∃ b, Vf.mayR cr ⟨mk, mm, mu, mg, ms⟩ = b := ⟨_, rfl⟩
  rw [hyb] at KY1 hgd
  dsimp only at KY1
  have HW1 := hide KW1
  have HM1 := hide KM1
  have HY1 := hide KY1
  have Hgd := hide hgd
  have Hstep := hide hstep
  have Hfnd := hide hfnd
  have HSK : ∀ w', Below wr.heap.size wr w' → (Below wr.heap.size wr w' ∧ w'.cell? ⟨w.heap.size, 0, none⟩ = some (.int .u32 (cr.uid : Nat)) ∧ w'.cell? ⟨w.heap.size, 1, none⟩ = some (.int .u32 (cr.euid : Nat)) ∧ w'.cell? ⟨w.heap.size, 2, none⟩ = some (.int .u32 (cr.suid : Nat)) ∧ w'.cell? ⟨w.heap.size, 3, none⟩ = some (.int .u32 (cr.gid : Nat)) ∧ w'.cell? ⟨w.heap.size, 4, none⟩ = some (.slice A n k) ∧ w'.cell? ⟨b1, o1 + j, none⟩ = some (.string x)) := by
    intro w' hb
    have hc' := (unhide Hc).belowSz hb
    exact ⟨hb, hc'.cell rfl, hc'.cell rfl, hc'.cell rfl, hc'.cell rfl, hc'.cell rfl, ((hb.mono (unhide Hb).size).cell (p := ⟨b1, _, none⟩) hb1).trans c1⟩
  have HSK' := hide HSK
  have Hx := hide hx
  obtain ⟨-, v0, v1, v2, v3, v4, -⟩ := HSK wr (Below.refl _ _)
  clear KW1 KM1 KY1 hgd hstep hfnd hw1 hm hyb hmd1 hx HSK
  go_wp2_with fail
  go_region_held3 (fun w' => Below wr.heap.size wr w' ∧ w'.cell? ⟨w.heap.size, 0, none⟩ = some (.int .u32 (cr.uid : Nat)) ∧ w'.cell? ⟨w.heap.size, 1, none⟩ = some (.int .u32 (cr.euid : Nat)) ∧ w'.cell? ⟨w.heap.size, 2, none⟩ = some (.int .u32 (cr.suid : Nat)) ∧ w'.cell? ⟨w.heap.size, 3, none⟩ = some (.int .u32 (cr.gid : Nat)) ∧ w'.cell? ⟨w.heap.size, 4, none⟩ = some (.slice A n k) ∧ w'.cell? ⟨b1, o1 + j, none⟩ = some (.string x)) (first | exact (unhide HSK') _ (below_drew' (Below.refl _ _)) | exact (unhide HSK') _ (unhide hbn)) (first
    | (go_at_call 40; rename Below _ _ _ ∧ _ => hH; refine ((unhide HW1) _ ((unhide Hb).trans (hH.1.mono (unhide Hb).size))).mono ?_; rintro e w5 ⟨rfl, hb5⟩; have hbn := hide (hH.1.trans (hb5.mono hH.1.size)); clear hb5))
  have Hb5 := hide ((unhide Hb).trans ((unhide hbn).mono (unhide Hb).size))
  have Hc5 := hide ((unhide Hc).belowSz (unhide hbn))
  clear v0 v1 v2 v3 v4 HSK' hbn c1
  by_cases he : e1 = 0
  case neg =>
    have b1' : (e1 != 0) = true := by simpa using he
    have hg0 : gd = false := by rw [← unhide Hgd, decide_eq_false he]; rfl
    have Hno2 := hide ((unhide Hstep) hg0)
    clear he hg0
    go_wp2_with fail
    go_roundg (nl - (j + 1))
    case measure => have := unhide Hgk; omega
    case rel => exact ⟨j + 1, rfl, by omega, by go_num, unhide Hno2, unhide Hb5, unhide Hc5⟩
  subst he
  have b1' : ((0 : Int) != 0) = false := rfl
  go_wp2_with fail
  refine ((unhide HM1) _ (unhide Hb5)).mono ?_
  rintro e w6 ⟨rfl, hb6⟩
  have hb6' := hb6.alloc hb6.size (.cells #[.int .u8 (mk : Nat), .int .u16 (mm : Nat), .int .u32 (mu : Nat), .int .u32 (mg : Nat), .int .i64 (ms : Nat)] 56)
  have Hm6 := hide (Blk.new w6 56 [.int .u8 (mk : Nat), .int .u16 (mm : Nat), .int .u32 (mu : Nat), .int .u32 (mg : Nat), .int .i64 (ms : Nat)])
  have Hb6 := hide ((unhide Hb5).trans (hb6'.mono (unhide Hb5).size))
  have Hc6 := hide ((unhide Hc5).belowSz hb6')
  clear hb6 hb6'
  by_cases hk : mk = 1
  case neg =>
    have b2 : (((mk : Nat) : Int) == 1) = false := by rw [beq_eq_false_iff_ne]; omega
    have hg0 : gd = false := by rw [← unhide Hgd, decide_eq_false hk]; simp
    have Hno2 := hide ((unhide Hstep) hg0)
    clear hg0 hk
    go_wp2_with fail
    go_roundg (nl - (j + 1))
    case measure => have := unhide Hgk; omega
    case rel => exact ⟨j + 1, rfl, by omega, by go_num, unhide Hno2, unhide Hb6, unhide Hc6⟩
  have b2 : (((mk : Nat) : Int) == 1) = true := by rw [hk]; rfl
  have hg1 : gd = yb := by rw [← unhide Hgd, decide_eq_true hk]; simp
  have Ky := hide ((unhide HY1) _ (unhide Hb6))
  obtain ⟨v0, v1, v2, v3, v4⟩ := And.intro ((unhide Hc6).cell (i := 0) rfl) (And.intro ((unhide Hc6).cell (i := 1) rfl) (And.intro ((unhide Hc6).cell (i := 2) rfl) (And.intro ((unhide Hc6).cell (i := 3) rfl) ((unhide Hc6).cell (i := 4) rfl))))
  subst hg1
  clear hk
  go_wp2_with fail
  refine (unhide Ky).mono ?_
  rintro e w7 ⟨rfl, hb7⟩
  have Hb7 := hide ((unhide Hb6).trans (hb7.mono (unhide Hb6).size))
  have Hc7 := hide ((unhide Hc6).belowSz hb7)
  have c7 : w7.cell? ⟨b1, o1 + j, none⟩ = some (.string x) := by
    obtain ⟨b1', o1', e1, _, c1⟩ := ((unhide Hl).below (unhide Hb7)).at_ (k := j) (u := .string x) (by simp [unhide Hx])
    obtain ⟨rfl, rfl⟩ : b1 = b1' ∧ o1 = o1' := by simpa using e1
    exact c1
  clear hb7 v0 v1 v2 v3 v4 Ky
  cases gd with
  | false =>
    have Hno2 := hide ((unhide Hstep) rfl)
    go_wp2_with fail
    go_roundg (nl - (j + 1))
    case measure => have := unhide Hgk; omega
    case rel => exact ⟨j + 1, rfl, by omega, by go_num, unhide Hno2, unhide Hb7, unhide Hc7⟩
  | true =>
    have hr := (unhide Hfnd) rfl
    injection hr with e1 e2
    injection e2 with e2 e3
    subst e1 e2 e3
    go_wp2_with fail
    go_quiet (fail)
    go_wp2_with fail
    go_ret3
    exact ⟨rfl, below_drewN' (unhide Hb7) _⟩
end Go.Proofs.YtchmdpkjipaafaaDoor
namespace Go.Proofs.YtchmdpkjipaafaaDoor
set_option linter.unusedVariables false
set_option linter.unusedSimpArgs false
open Go.RowKit

/-- What large answers of the three texts. -/
def NlE (a b c : ByteArray) (w : World) (e : Ending) (w' : World) : Prop := ∃ r, e = .returned (.bool r) ∧ (r = false → a.size ≤ 4096 ∧ b.size ≤ 4096 ∧ c.size ≤ 4096) ∧ Below w.heap.size w w'
set_option maxRecDepth 100000 in
set_option maxHeartbeats 1000000 in
theorem nlarge_any (a b c : ByteArray) (w : World) : Calls Tryd.prog 8 #[.agg #[.string a, .string b, .string c]] w (NlE a b c w) := by
  have hb0 : Below w.heap.size w (w.alloc (.cells #[.string a, .string b, .string c] 23)) := (Below.refl _ _).alloc (Nat.le_refl _) _
  have Hb0 := hide hb0
  clear hb0
  by_cases h1 : a.size ≤ 4096
  · have q1 : ¬ (4096 : Int) < (a.size : Int) := by omega
    by_cases h2 : b.size ≤ 4096
    · have q2 : ¬ (4096 : Int) < (b.size : Int) := by omega
      by_cases h3 : c.size ≤ 4096
      · have q3 : ¬ (4096 : Int) < (c.size : Int) := by omega
        have H := hide (And.intro h1 (And.intro h2 h3))
        clear h1 h2 h3
        go_enter Tryd.func8, Tryd.ntmps8
        go_wp2_with fail
        go_ret
        exact ⟨_, rfl, fun _ => unhide H, unhide Hb0⟩
      · have q3 : (4096 : Int) < (c.size : Int) := by omega
        clear h1 h2 h3
        go_enter Tryd.func8, Tryd.ntmps8
        go_wp2_with fail
        go_ret
        exact ⟨true, by first | rfl | simp [q3], fun h => (by cases h), unhide Hb0⟩
    · have q2 : (4096 : Int) < (b.size : Int) := by omega
      clear h1 h2
      go_enter Tryd.func8, Tryd.ntmps8
      go_wp2_with fail
      go_ret
      exact ⟨true, by first | rfl | simp [q2], fun h => (by cases h), unhide Hb0⟩
  · have q1 : (4096 : Int) < (a.size : Int) := by omega
    clear h1
    go_enter Tryd.func8, Tryd.ntmps8
    go_wp2_with fail
    go_ret
    exact ⟨true, by first | rfl | simp [q1], fun h => (by cases h), unhide Hb0⟩

def sE1 : Vf.Ent := ⟨⟨#[47, 108, 105, 98]⟩, 2, 493, 0, 0, [], ⟨#[]⟩⟩
def sE2 : Vf.Ent := ⟨⟨#[47, 108, 105, 98, 47, 120]⟩, 1, 420, 0, 0, [], ⟨#[]⟩⟩
def sP : List ByteArray := [⟨#[47, 97, 47, 120]⟩, ⟨#[47, 108, 105, 98, 47, 120]⟩, ⟨#[47, 117, 115, 114, 47, 108, 105, 98, 47, 120]⟩]
theorem sanc_new : (Vf.new [sE1, sE2]).1 = 0 := by kernel_rfl
theorem sanc_paths : Se.paths ⟨#[120]⟩ ⟨#[47, 97]⟩ ⟨#[]⟩ false = sP := by kernel_rfl
theorem sanc_find : Se.find (Vf.new [sE1, sE2]).2.2 Vf.zc 0 sP = (2, ⟨#[47, 108, 105, 98, 47, 120]⟩, 0) := by kernel_rfl
theorem sanc_dirs : (Se.dirs ⟨#[47, 97, 58]⟩ ⟨#[47, 98]⟩ true).length = 4 := by kernel_rfl
def sL : List EntA := [⟨sE1, none, 0, 0⟩, ⟨sE2, none, 0, 0⟩]
set_option maxRecDepth 100000 in
set_option maxHeartbeats 4000000 in
theorem sworks_any (w : World) : Calls Tryd.prog 9 #[] w fun e w' => e = .returned (.bool true) ∧ Below w.heap.size w w' := by
  have hr1 := Rd.rowF (w := w) (cs := (rowCs entVals sL).toArray) (e := 64) (size := 7) (n := 2) (fz := (0, 0)) rfl
  have hB0 : Below w.heap.size w (w.alloc (.cells (rowCs entVals sL).toArray 64)) := (Below.refl _ _).alloc (Nat.le_refl _) _
  have KN := new_any sL (some ⟨w.heap.size, 0, none⟩) 2 2 (w.alloc (.cells (rowCs entVals sL).toArray 64)) (by simpa using hr1) rfl (by
    intro s hs
    simp only [sL, List.mem_cons, List.not_mem_nil, or_false] at hs
    rcases hs with rfl | rfl
    · exact ⟨⟨rfl, .inl rfl⟩, by decide, by decide, by decide, by decide⟩
    · exact ⟨⟨rfl, .inl rfl⟩, by decide, by decide, by decide, by decide⟩) (by omega)
  have e0 : sL.map (·.e) = [sE1, sE2] := rfl
  rw [e0] at KN
  unfold NewE at KN
  have HKN := hide KN
  have HB0 := hide hB0
  clear KN hr1 hB0 e0
  go_enter Tryd.func9, Tryd.ntmps9
  go_wp2_with fail
  refine (unhide HKN).mono ?_
  rintro e w1 ⟨hb1, ⟨h0, _⟩ | ⟨_, f, A, c, L, rfl, hFS, hF, hFl, h01, _⟩⟩
  · exact absurd sanc_new h0
  have a1 := sanc_find
  obtain ⟨F, hFe⟩ : ∃ F, (Vf.new [sE1, sE2]).2.2 = F := ⟨_, rfl⟩
  rw [hFe] at hFS hF hFl a1
  have hn : F.length ≤ 65 := by rw [hFl]; decide
  have Hb1 := hide ((unhide HB0).trans (hb1.mono (by simp)))
  have hlo1 : w.heap.size ≤ w1.heap.size := (unhide Hb1).size
  have KP := paths_any ⟨#[120]⟩ ⟨#[47, 97]⟩ ⟨#[]⟩ false w1 (by decide) (by decide) (by decide)
  rw [sanc_paths] at KP
  unfold TxE at KP
  have KF : ∀ w2, Below w1.heap.size w1 w2 → ∀ (Al : Option Addr) (cl : Nat), Rd w2 w2.heap.size 1 Al 3 (sP.map Value.string) → _ := fun w2 hb Al cl hr => find_any F L _ f c A none Al 0 0 3 cl Vf.zc 0 sP w2 hF (hFS.belowSz hb) hn ⟨rfl, .inl rfl⟩ (by unfold maxLen; omega) hr (by decide) (by omega)
  rw [a1] at KF
  have KD := fun w2 => dirs_any ⟨#[47, 97, 58]⟩ ⟨#[47, 98]⟩ true w2 (by decide) (by decide)
  unfold TxE at KD
  rw [sanc_dirs] at KD
  unfold credV at KF
  have HKP := hide KP
  have HKF := hide KF
  have HKD := hide KD
  unfold ptrV
  clear KP KF KD a1 hFe hFS hF hFl hb1 h01
  go_wp2_with fail
  refine (unhide HKP).mono ?_
  rintro e w2 ⟨A2, c2, rfl, ho2, hb2⟩
  have Hb2 := hide hb2
  have KF2 := (unhide HKF) w2 hb2 A2 c2 (Rd.of_own ho2)
  have HKF2 := hide KF2
  clear hb2 ho2 KF2 HKF
  go_wp2_with fail
  refine (unhide HKF2).mono ?_
  rintro e w3 ⟨rfl, hb3⟩
  have Hb3 := hide ((unhide Hb2).trans (hb3.mono (unhide Hb2).size))
  clear hb3
  go_wp2_with fail
  refine ((unhide HKD) _).mono ?_
  rintro e w4 ⟨A4, c4, rfl, ho4, hb4⟩
  have Hb4 := hide ((unhide Hb1).trans (((unhide Hb3).trans (hb4.mono (unhide Hb3).size)).mono hlo1))
  clear hb4 ho4
  go_wp2_with fail
  go_ret
  exact ⟨rfl, unhide Hb4⟩
end Go.Proofs.YtchmdpkjipaafaaDoor
namespace Go.Proofs.YtchmdpkjipaafaaDoor
set_option linter.unusedVariables false
set_option linter.unusedSimpArgs false
open Go.RowKit

theorem eqSame_any (A B : Option Addr) (n c d : Nat) (l : List ByteArray) (w : World) (ha : Rd w w.heap.size 1 A n (l.map Value.string)) (hb : Rd w w.heap.size 1 B n (l.map Value.string)) (hn : n ≤ maxLen) :
    Calls Tryd.prog 12 #[.slice A n c, .slice B n d] w fun e w' => e = .returned (.bool true) ∧ ∃ j, w' = w.drewN j := by
  have h := eqTexts_any A B n n c d w.heap.size l l w ha hb hn hn
  rwa [decide_eq_true rfl] at h
theorem own_setN {w : World} {base g i n c size : Nat} {A : Option Addr} {e : TypeId} {xs : List Value} (h : w.ownsRow base e size (.slice A n c) n xs) (hne : (Value.slice A n c).ownBlock ≠ some g) (u : Value) : (w.setCell ⟨g, i, none⟩ u).ownsRow base e size (.slice A n c) n xs := by
  obtain ⟨hl, hn | ⟨g', cap, cur, hv, hb, hg, h1, h2, h3, h4⟩⟩ := h
  · exact ⟨hl, .inl hn⟩
  · refine ⟨hl, .inr ⟨g', cap, cur, hv, hb, (heap_setCell_other _ _ _ _ ?_).trans hg, h1, h2, h3, h4⟩⟩
    show g' ≠ g
    rintro rfl
    rw [hv] at hne
    exact hne rfl
/-- The law's own copy of the three texts. -/
structure NmS (w : World) (a b c : ByteArray) (W : World) : Prop where
  bel : Below w.heap.size w W
  t : Blk W w.heap.size 23 [.string a, .string b, .string c]
section
variable {w W W' : World} {a b c : ByteArray}
theorem NmS.below (h : NmS w a b c W) (hb : Below W.heap.size W W') : NmS w a b c W' := ⟨h.bel.trans (hb.mono h.bel.size), h.t.belowSz hb⟩
theorem NmS.drewN (h : NmS w a b c W) (q : Nat) : NmS w a b c (W.drewN q) := ⟨below_drewN' h.bel q, h.t⟩
theorem NmS.set (h : NmS w a b c W) {g : Nat} (hg : w.heap.size < g) (i : Nat) (v : Value) : NmS w a b c (W.setCell ⟨g, i, none⟩ v) := ⟨h.bel.setCell (p := ⟨g, i, none⟩) (by show w.heap.size ≤ g; omega) v, h.t.other (by show g ≠ w.heap.size; omega) v⟩
theorem NmS.cells (h : NmS w a b c W) : W.cell? ⟨w.heap.size, 0, none⟩ = some (.string a) ∧ W.cell? ⟨w.heap.size, 1, none⟩ = some (.string b) ∧ W.cell? ⟨w.heap.size, 2, none⟩ = some (.string c) := ⟨h.t.cell rfl, h.t.cell rfl, h.t.cell rfl⟩
theorem NmS.start (w : World) (a b c : ByteArray) : NmS w a b c (w.alloc (.cells #[.string a, .string b, .string c] 23)) :=
  ⟨(Below.refl _ _).alloc (Nat.le_refl _) _, Blk.new w 23 [.string a, .string b, .string c]⟩
end
theorem paths_len {name run lib : ByteArray} {sec : Bool} (hr : run.size ≤ 4294967296) (hlb : lib.size ≤ 4294967296) : 1 ≤ (Se.paths name run lib sec).length ∧ (Se.paths name run lib sec).length ≤ 8589934600 := by
  unfold Se.paths
  split
  · exact ⟨Nat.le_refl _, by show 1 ≤ _; omega⟩
  · rw [List.length_map]
    have := dirs_len (sec := sec) hr hlb
    omega

set_option maxRecDepth 100000 in
set_option maxHeartbeats 4000000 in
theorem searchPaths_walk (a b c : ByteArray) (sec : Bool) (w : World) :
    Calls Tryd.prog 3 #[.agg #[.string a, .string b, .string c], .bool sec] w fun e w' => e = .returned (.bool true) ∧ Below w.heap.size w w' := by
  have S0 := hide (NmS.start w a b c)
  have KL := hide (fun w' => nlarge_any a b c w')
  have KW := hide (fun w' => sworks_any w')
  go_enter Tryd.func3, Tryd.ntmps3
  obtain ⟨x0, x1, x2⟩ := (unhide S0).cells
  go_wp2_with fail
  refine ((unhide KL) _).mono ?_
  rintro e w1 ⟨lb, rfl, hlb, hb1⟩
  have S1 := hide ((unhide S0).below hb1)
  have Hlb := hide hlb
  clear hlb hb1 x0 x1 x2 S0
  cases lb with
  | true =>
    go_wp2_with fail
    refine ((unhide KW) _).mono ?_
    rintro e w2 ⟨rfl, hb2⟩
    have S2 := hide ((unhide S1).below hb2)
    clear hb2
    go_wp2_with fail
    go_ret
    exact ⟨rfl, (unhide S2).bel⟩
  | false =>
  obtain ⟨ha, hb, hc⟩ := (unhide Hlb) rfl
  have KD : ∀ w', Calls Tryd.prog 10 #[.string b, .string c, .bool sec] w' (TxE (Se.dirs b c sec) w') := fun w' => dirs_any b c sec w' (by omega) (by omega)
  have KP : ∀ w', Calls Tryd.prog 11 #[.string a, .string b, .string c, .bool sec] w' (TxE (Se.paths a b c sec) w') := fun w' => paths_any a b c sec w' (by omega) (by omega) (by omega)
  have KRD : ∀ w', Calls Tryd.prog 13 #[.string b, .string c, .bool sec] w' (TxE (Se.dirs b c sec) w') := fun w' => rdirs_any b c sec w' (by omega) (by omega)
  have KRP : ∀ w', Calls Tryd.prog 14 #[.string a, .string b, .string c, .bool sec] w' (TxE (Se.paths a b c sec) w') := fun w' => rpaths_any a b c sec w' (by omega) (by omega) (by omega)
  have hdl := dirs_len (run := b) (lib := c) (sec := sec) (by omega) (by omega)
  have hpl := paths_len (name := a) (run := b) (lib := c) (sec := sec) (by omega) (by omega)
  obtain ⟨D, hD⟩ : ∃ D, Se.dirs b c sec = D := ⟨_, rfl⟩
  obtain ⟨P, hP⟩ : ∃ P, Se.paths a b c sec = P := ⟨_, rfl⟩
  rw [hD] at hdl
  rw [hP] at hpl
  simp only [hD] at KD KRD
  simp only [hP] at KP KRP
  obtain ⟨nd, hnd⟩ : ∃ n, D.length = n := ⟨_, rfl⟩
  obtain ⟨np, hnp⟩ : ∃ n, P.length = n := ⟨_, rfl⟩
  unfold TxE at KD KP KRD KRP
  simp only [hnd] at KD KRD hdl
  simp only [hnp] at KP KRP hpl
  have HKD := hide KD
  have HKP := hide KP
  have HKRD := hide KRD
  have HKRP := hide KRP
  have KE : ∀ (l : List ByteArray) (n : Nat), n ≤ maxLen → ∀ (w' : World) (A B : Option Addr) (c d : Nat), Rd w' w'.heap.size 1 A n (l.map Value.string) → Rd w' w'.heap.size 1 B n (l.map Value.string) → Calls Tryd.prog 12 #[.slice A n c, .slice B n d] w' fun e w2 => e = .returned (.bool true) ∧ ∃ j, w2 = w'.drewN j :=
    fun l n hn w' A B c d h1 h2 => eqSame_any A B n c d l w' h1 h2 hn
  have HKED := hide (KE D nd (by unfold maxLen; omega))
  have HKEP := hide (KE P np (by unfold maxLen; omega))
  clear KD KP KRD KRP KE hD hP hnd hnp ha hb hc Hlb KL
  obtain ⟨x0, x1, x2⟩ := (unhide S1).cells
  go_wp2_with fail
  refine ((unhide HKD) _).mono ?_
  rintro e w2 ⟨A2, c2, rfl, ho2, hb2⟩
  have S2 := hide ((unhide S1).below hb2)
  obtain ⟨g2, rfl, hg2, hg2l⟩ := own_some ho2 (by omega)
  have Ho2 := hide ho2
  have hsz1 := (unhide S1).t.lt
  clear ho2 hb2 x0 x1 x2
  obtain ⟨x0, x1, x2⟩ := (unhide S2).cells
  go_wp2_with fail
  refine ((unhide HKP) _).mono ?_
  rintro e w3 ⟨A3, c3, rfl, ho3, hb3⟩
  have S3 := hide ((unhide S2).below hb3)
  obtain ⟨g3, rfl, hg3, hg3l⟩ := own_some ho3 (by omega)
  have Ho2' := hide (own_below (unhide Ho2) hb3)
  have Ho3 := hide ho3
  clear ho3 hb3 x0 x1 x2 Ho2
  obtain ⟨x0, x1, x2⟩ := (unhide S3).cells
  go_wp2_with fail
  refine ((unhide HKRD) _).mono ?_
  rintro e w4 ⟨A4, c4, rfl, ho4, hb4⟩
  have S4 := hide ((unhide S3).below hb4)
  have Ho2 := hide (own_below (unhide Ho2') hb4)
  have Ho3' := hide (own_below (unhide Ho3) hb4)
  have KE4 := hide ((unhide HKED) w4 _ _ c2 c4 (Rd.of_own (unhide Ho2)) (Rd.of_own ho4))
  clear ho4 hb4 x0 x1 x2 Ho2' Ho3
  go_wp2_with fail
  refine (unhide KE4).mono ?_
  rintro e w5 ⟨rfl, j, rfl⟩
  have S5 := hide ((unhide S4).drewN j)
  have Ho2' := hide (own_drewN (unhide Ho2) j)
  have Ho3 := hide (own_drewN (unhide Ho3') j)
  clear KE4 Ho2 Ho3' S4
  generalize w4.drewN j = w5 at *
  obtain ⟨x0, x1, x2⟩ := (unhide S5).cells
  go_wp2_with fail
  refine ((unhide HKRP) _).mono ?_
  rintro e w6 ⟨A6, c6, rfl, ho6, hb6⟩
  have S6 := hide ((unhide S5).below hb6)
  have Ho2 := hide (own_below (unhide Ho2') hb6)
  have Ho3' := hide (own_below (unhide Ho3) hb6)
  have KE6 := hide ((unhide HKEP) w6 _ _ c3 c6 (Rd.of_own (unhide Ho3')) (Rd.of_own ho6))
  clear ho6 hb6 x0 x1 x2 Ho2' Ho3
  go_wp2_with fail
  refine (unhide KE6).mono ?_
  rintro e w7 ⟨rfl, j2, rfl⟩
  have S7 := hide ((unhide S6).drewN j2)
  have Ho2' := hide (own_drewN (unhide Ho2) j2)
  have Ho3 := hide (own_drewN (unhide Ho3') j2)
  clear KE6 Ho2 Ho3' S6
  generalize w6.drewN j2 = w7 at *
  go_wp2_with fail
  go_loopg [7] nd (fun gk iv wr => ∃ (k : Nat) (xs : List Value), gk = nd - k ∧ k ≤ nd ∧ iv = .int .i64 k ∧ NmS w a b c wr ∧ wr.ownsRow w1.heap.size 9 1 (.slice (some ⟨g2, 0, none⟩) nd c2) nd xs ∧ ∃ ys, wr.ownsRow w2.heap.size 9 1 (.slice (some ⟨g3, 0, none⟩) np c3) np ys)
  case atStart => exact ⟨0, _, by omega, Nat.zero_le _, rfl, unhide S7, unhide Ho2', _, unhide Ho3⟩
  case round =>
  obtain ⟨k, xs, hgk, hk, rfl, hS, hxo, ys, hyo⟩ := hrel
  have Hgk := hide hgk
  have HS := hide hS
  have Hxo := hide hxo
  have Hyo := hide hyo
  clear hgk hS hxo hyo
  by_cases hlt : k < nd
  · have hxl : xs.length = nd := by have := (unhide Hxo).1; simpa using this
    obtain ⟨x, hx⟩ : ∃ x, xs[k]? = some x := ⟨_, List.getElem?_eq_getElem (by omega)⟩
    have hcell : wr.cell? ⟨g2, k, none⟩ = some x := own_cell (unhide Hxo) hx
    have hfr : wr.frozen? ⟨g2, k, none⟩ = false := own_free (unhide Hxo) k
    have Hx2 := hide (own_set (i := k) (unhide Hxo) (.string ⟨#[33]⟩))
    have HS2 := hide ((unhide HS).set (g := g2) (by omega) k (.string ⟨#[33]⟩))
    have Hy2 := hide (own_setN (i := k) (unhide Hyo) (g := g2) (by intro e; simp only [Value.ownBlock, Option.some.injEq] at e; omega) (.string ⟨#[33]⟩))
    have ilt : (k : Int) < (nd : Int) := by omega
    have ige : ¬ (k : Int) < 0 := by omega
    clear hxl hx
    go_wp2_with fail
    go_roundg (nd - (k + 1))
    case measure => have := unhide Hgk; omega
    case rel => exact ⟨k + 1, _, rfl, by omega, by go_num, unhide HS2, unhide Hx2, _, unhide Hy2⟩
  have ilt : ¬ (k : Int) < (nd : Int) := by omega
  clear hlt
  go_wp2_with fail
  go_loopg [8] np (fun gk iv wr => ∃ (k : Nat) (ys : List Value), gk = np - k ∧ k ≤ np ∧ iv = .int .i64 k ∧ NmS w a b c wr ∧ wr.ownsRow w2.heap.size 9 1 (.slice (some ⟨g3, 0, none⟩) np c3) np ys)
  case atStart => exact ⟨0, _, by omega, Nat.zero_le _, rfl, unhide HS, unhide Hyo⟩
  case round =>
  obtain ⟨k2, zs, hgk, hk2, rfl, hS, hyo⟩ := hrel
  have Hgk2 := hide hgk
  have HS2 := hide hS
  have Hzo := hide hyo
  clear hgk hS hyo
  by_cases hlt2 : k2 < np
  · have hxl : zs.length = np := by have := (unhide Hzo).1; simpa using this
    obtain ⟨x, hx⟩ : ∃ x, zs[k2]? = some x := ⟨_, List.getElem?_eq_getElem (by omega)⟩
    have hcell := own_cell (unhide Hzo) hx
    have hfr := own_free (unhide Hzo) k2
    have Hz2 := hide (own_set (i := k2) (unhide Hzo) (.string ⟨#[33]⟩))
    have HS3 := hide ((unhide HS2).set (g := g3) (by omega) k2 (.string ⟨#[33]⟩))
    have ilt2 : (k2 : Int) < (np : Int) := by omega
    have ige2 : ¬ (k2 : Int) < 0 := by omega
    clear hxl hx
    go_wp2_with fail
    go_roundg (np - (k2 + 1))
    case measure => have := unhide Hgk2; omega
    case rel => exact ⟨k2 + 1, _, rfl, by omega, by go_num, unhide HS3, unhide Hz2⟩
  have ilt2 : ¬ (k2 : Int) < (np : Int) := by omega
  clear hlt2
  generalize wr = W8 at *
  have HSK : ∀ w', Below W8.heap.size W8 w' → (Below W8.heap.size W8 w' ∧ w'.cell? ⟨w.heap.size, 1, none⟩ = some (.string b) ∧ w'.cell? ⟨w.heap.size, 2, none⟩ = some (.string c)) := fun w' hb => by
    obtain ⟨_, h1, h2⟩ := ((unhide HS2).below hb).cells
    exact ⟨hb, h1, h2⟩
  have HSK' := hide HSK
  obtain ⟨-, x1, x2⟩ := HSK W8 (Below.refl _ _)
  clear HSK
  go_wp2_with fail
  go_region_held3 (fun w' => Below W8.heap.size W8 w' ∧ w'.cell? ⟨w.heap.size, 1, none⟩ = some (.string b) ∧ w'.cell? ⟨w.heap.size, 2, none⟩ = some (.string c)) (first | exact (unhide HSK') _ (below_drew' (Below.refl _ _)) | exact (unhide HSK') _ (unhide hbn)) (first
    | (go_at_call 10; rename Below _ _ _ ∧ _ => hH; refine ((unhide HKD) _).mono ?_; rintro e w9 ⟨A9, c9, rfl, ho9, hb9⟩; have hbn := hide (hH.1.trans (hb9.mono hH.1.size)); have HoD := hide (Rd.of_own ho9); (try have HoR := hide ((unhide HoR).belowSz hb9)); clear ho9 hb9)
    | (go_at_call 13; rename Below _ _ _ ∧ _ => hH; refine ((unhide HKRD) _).mono ?_; rintro e w10 ⟨A10, c10, rfl, ho10, hb10⟩; have hbn := hide (hH.1.trans (hb10.mono hH.1.size)); have HoR := hide (Rd.of_own ho10); (try have HoD := hide ((unhide HoD).belowSz hb10)); clear ho10 hb10)
    | (go_at_call 12; rename Below _ _ _ ∧ _ => hH; refine ((unhide HKED) _ _ _ _ _ (unhide HoD) (unhide HoR)).mono ?_; rintro e w11 ⟨rfl, j11, rfl⟩; have hbn := hide (below_drewN' hH.1 j11))
    | (go_at_call 9; rename Below _ _ _ ∧ _ => hH; refine ((unhide KW) _).mono ?_; rintro e w12 ⟨rfl, hb12⟩; have hbn := hide (hH.1.trans (hb12.mono hH.1.size)); clear hb12))
  all_goals
    have Hfin := hide ((unhide HS2).below (unhide hbn)).bel
    go_wp2_with fail
    go_ret
    exact ⟨rfl, unhide Hfin⟩
end Go.Proofs.YtchmdpkjipaafaaDoor
namespace Go.Proofs.YtchmdpkjipaafaaDoor
set_option linter.unusedVariables false
set_option linter.unusedSimpArgs false
open Go.RowKit

set_option maxRecDepth 100000 in
set_option maxHeartbeats 1000000 in
theorem find_nil (cr : Vf.Cred) (A Al : Option Addr) (n k nl cl : Nat) (cwd : Int) (w : World) :
    Calls Tryd.prog 21 #[.pointer none, credV cr A n k, .int .i64 cwd, .slice Al nl cl] w fun e w' => e = .returned (.tuple #[.int .i64 0, .string ⟨#[]⟩, .int .i64 2]) ∧ Below w.heap.size w w' := by
  have hb : Below w.heap.size w ((((w.alloc (.cells #[.pointer none] 38)).alloc (.cells #[.int .u32 (cr.uid : Nat), .int .u32 (cr.euid : Nat), .int .u32 (cr.suid : Nat), .int .u32 (cr.gid : Nat), .slice A n k] 34)).alloc (.cells #[.int .i64 cwd] 3)).alloc (.cells #[.int .i64 0] 3)) :=
    ((((Below.refl _ _).alloc (Nat.le_refl _) _).alloc (by simp) _).alloc (by simp; omega) _).alloc (by simp; omega) _
  have hi : Blk ((((w.alloc (.cells #[.pointer none] 38)).alloc (.cells #[.int .u32 (cr.uid : Nat), .int .u32 (cr.euid : Nat), .int .u32 (cr.suid : Nat), .int .u32 (cr.gid : Nat), .slice A n k] 34)).alloc (.cells #[.int .i64 cwd] 3)).alloc (.cells #[.int .i64 0] 3)) (w.heap.size + 3) 3 [.int .i64 0] := by
    have := Blk.new (((w.alloc (.cells #[.pointer none] 38)).alloc (.cells #[.int .u32 (cr.uid : Nat), .int .u32 (cr.euid : Nat), .int .u32 (cr.suid : Nat), .int .u32 (cr.gid : Nat), .slice A n k] 34)).alloc (.cells #[.int .i64 cwd] 3)) 3 [.int .i64 0]
    rw [World.size_alloc, World.size_alloc, World.size_alloc] at this
    exact this
  have Hb2 := hide hb
  have v0 := hi.cell (i := 0) rfl
  have Hv0 := hide v0
  unfold credV
  clear hb hi v0
  go_enter Tryd.func21, Tryd.ntmps21
  go_wp2_with fail
  (try simp only [Exit.inBlock, Exit.then])
  refine bodyPost_ret (results_cell_int3 rfl _ _ ⟨w.heap.size + 3, 0, none⟩ 0 rfl (unhide Hv0)) rfl ?_
  exact ⟨rfl, unhide Hb2⟩

/-- The law's own copies of credentials and question. -/
structure AkS (w : World) (c : Vf.Cred) (A : Option Addr) (n k : Nat) (cwd : Int) (Al : Option Addr) (nl cl : Nat) (W : World) : Prop where
  bel : Below w.heap.size w W
  c : Blk W w.heap.size 34 [.int .u32 (c.uid : Nat), .int .u32 (c.euid : Nat), .int .u32 (c.suid : Nat), .int .u32 (c.gid : Nat), .slice A n k]
  y : Blk W (w.heap.size + 1) 36 [.int .i64 cwd, .slice Al nl cl]
section
variable {w W W' : World} {c : Vf.Cred} {A Al : Option Addr} {n k nl cl : Nat} {cwd : Int}
theorem AkS.below (h : AkS w c A n k cwd Al nl cl W) (hb : Below W.heap.size W W') : AkS w c A n k cwd Al nl cl W' := ⟨h.bel.trans (hb.mono h.bel.size), h.c.belowSz hb, h.y.belowSz hb⟩
theorem AkS.drewN (h : AkS w c A n k cwd Al nl cl W) (q : Nat) : AkS w c A n k cwd Al nl cl (W.drewN q) := ⟨below_drewN' h.bel q, h.c, h.y⟩
theorem AkS.cells (h : AkS w c A n k cwd Al nl cl W) : (W.cell? ⟨w.heap.size, 0, none⟩ = some (.int .u32 (c.uid : Nat)) ∧ W.cell? ⟨w.heap.size, 1, none⟩ = some (.int .u32 (c.euid : Nat)) ∧ W.cell? ⟨w.heap.size, 2, none⟩ = some (.int .u32 (c.suid : Nat)) ∧ W.cell? ⟨w.heap.size, 3, none⟩ = some (.int .u32 (c.gid : Nat)) ∧ W.cell? ⟨w.heap.size, 4, none⟩ = some (.slice A n k)) ∧ W.cell? ⟨w.heap.size + 1, 0, none⟩ = some (.int .i64 cwd) ∧ W.cell? ⟨w.heap.size + 1, 1, none⟩ = some (.slice Al nl cl) :=
  ⟨⟨h.c.cell rfl, h.c.cell rfl, h.c.cell rfl, h.c.cell rfl, h.c.cell rfl⟩, h.y.cell rfl, h.y.cell rfl⟩
theorem AkS.start (w : World) (c : Vf.Cred) (A : Option Addr) (n k : Nat) (cwd : Int) (Al : Option Addr) (nl cl : Nat) :
    AkS w c A n k cwd Al nl cl ((w.alloc (.cells #[.int .u32 (c.uid : Nat), .int .u32 (c.euid : Nat), .int .u32 (c.suid : Nat), .int .u32 (c.gid : Nat), .slice A n k] 34)).alloc (.cells #[.int .i64 cwd, .slice Al nl cl] 36)) := by
  refine ⟨((Below.refl _ _).alloc (Nat.le_refl _) _).alloc (by simp) _, ?_, ?_⟩
  · exact (Blk.new w 34 [.int .u32 (c.uid : Nat), .int .u32 (c.euid : Nat), .int .u32 (c.suid : Nat), .int .u32 (c.gid : Nat), .slice A n k]).alloc _
  · have := Blk.new (w.alloc (.cells #[.int .u32 (c.uid : Nat), .int .u32 (c.euid : Nat), .int .u32 (c.suid : Nat), .int .u32 (c.gid : Nat), .slice A n k] 34)) 36 [.int .i64 cwd, .slice Al nl cl]
    rw [World.size_alloc] at this
    exact this
end

set_option maxRecDepth 100000 in
set_option maxHeartbeats 1000000 in
theorem searchNil_walk (cr : Vf.Cred) (A : Option Addr) (n k : Nat) (cwd : Int) (Al : Option Addr) (nl cl : Nat) (w : World) :
    Calls Tryd.prog 7 #[credV cr A n k, .agg #[.int .i64 cwd, .slice Al nl cl]] w fun e w' => e = .returned (.bool true) ∧ Below w.heap.size w w' := by
  have S0 := hide (AkS.start w cr A n k cwd Al nl cl)
  have KF := hide (fun w' => find_nil cr A Al n k nl cl cwd w')
  have KW := hide (fun w' => sworks_any w')
  obtain ⟨⟨v0, v1, v2, v3, v4⟩, y0, y1⟩ := (unhide S0).cells
  unfold credV at KF ⊢
  go_enter Tryd.func7, Tryd.ntmps7
  go_wp2_with fail
  refine ((unhide KF) _).mono ?_
  rintro e w1 ⟨rfl, hb1⟩
  have S1 := hide ((unhide S0).below hb1)
  clear hb1 v0 v1 v2 v3 v4 y0 y1
  go_wp2_with fail
  refine ((unhide KW) _).mono ?_
  rintro e w2 ⟨rfl, hb2⟩
  have S2 := hide ((unhide S1).below hb2)
  clear hb2
  go_wp2_with fail
  go_ret
  exact ⟨rfl, (unhide S2).bel⟩

set_option maxRecDepth 100000 in
set_option maxHeartbeats 4000000 in
theorem searchSecure_walk (a b c d : ByteArray) (w : World) (hd : d.size ≤ maxLen) :
    Calls Tryd.prog 6 #[.agg #[.string a, .string b, .string c], .string d] w fun e w' => e = .returned (.bool true) ∧ Below w.heap.size w w' := by
  have S0 := hide (NmS.start w a b c)
  have KL := hide (fun w' => nlarge_any a b c w')
  have KW := hide (fun w' => sworks_any w')
  go_enter Tryd.func6, Tryd.ntmps6
  obtain ⟨x0, x1, x2⟩ := (unhide S0).cells
  go_wp2_with fail
  refine ((unhide KL) _).mono ?_
  rintro e w1 ⟨lb, rfl, hlb, hb1⟩
  have S1 := hide ((unhide S0).below hb1)
  have Hlb := hide hlb
  clear hlb hb1 x0 x1 x2 S0
  cases lb with
  | true =>
    go_wp2_with fail
    refine ((unhide KW) _).mono ?_
    rintro e w2 ⟨rfl, hb2⟩
    have S2 := hide ((unhide S1).below hb2)
    clear hb2
    go_wp2_with fail
    go_ret
    exact ⟨rfl, (unhide S2).bel⟩
  | false =>
  obtain ⟨ha, hb, hc⟩ := (unhide Hlb) rfl
  by_cases hd2 : d.size ≤ 4096
  case neg =>
    have q1 : (4096 : Int) < (d.size : Int) := by omega
    clear hd2 ha hb hc Hlb
    go_wp2_with fail
    refine ((unhide KW) _).mono ?_
    rintro e w2 ⟨rfl, hb2⟩
    have S2 := hide ((unhide S1).below hb2)
    clear hb2
    go_wp2_with fail
    go_ret
    exact ⟨rfl, (unhide S2).bel⟩
  have q1 : ¬ (4096 : Int) < (d.size : Int) := by omega
  have KP1 : ∀ w', Calls Tryd.prog 11 #[.string a, .string b, .string c, .bool true] w' (TxE (Se.paths a b c true) w') := fun w' => paths_any a b c true w' (by omega) (by omega) (by omega)
  have KP2 : ∀ w', Calls Tryd.prog 11 #[.string a, .string b, .string d, .bool true] w' (TxE (Se.paths a b c true) w') := fun w' => by rw [Se.paths_secure a b c d]; exact paths_any a b d true w' (by omega) (by omega) (by omega)
  have KP3 : ∀ w', Calls Tryd.prog 11 #[.string a, .string b, .string ⟨#[]⟩, .bool false] w' (TxE (Se.paths a b c true) w') := fun w' => by rw [Se.paths_empty a b c]; exact paths_any a b ⟨#[]⟩ false w' (by omega) (by omega) (by decide)
  have KP4 : ∀ w', Calls Tryd.prog 11 #[.string a, .string b, .string c, .bool false] w' (TxE (Se.paths a b c false) w') := fun w' => paths_any a b c false w' (by omega) (by omega) (by omega)
  have hsub := Se.paths_sub a b c
  have hpl := paths_len (name := a) (run := b) (lib := c) (sec := true) (by omega) (by omega)
  have hql := paths_len (name := a) (run := b) (lib := c) (sec := false) (by omega) (by omega)
  obtain ⟨P, hP⟩ : ∃ P, Se.paths a b c true = P := ⟨_, rfl⟩
  obtain ⟨Q, hQ⟩ : ∃ P, Se.paths a b c false = P := ⟨_, rfl⟩
  rw [hP] at hpl hsub
  rw [hQ] at hql hsub
  simp only [hP] at KP1 KP2 KP3
  simp only [hQ] at KP4
  obtain ⟨np, hnp⟩ : ∃ n, P.length = n := ⟨_, rfl⟩
  obtain ⟨mq, hmq⟩ : ∃ n, Q.length = n := ⟨_, rfl⟩
  unfold TxE at KP1 KP2 KP3 KP4
  simp only [hnp] at KP1 KP2 KP3 hpl
  simp only [hmq] at KP4 hql
  have H1 := hide KP1
  have H2 := hide KP2
  have H3 := hide KP3
  have H4 := hide KP4
  have HE := hide (fun (w' : World) (A B : Option Addr) (c d : Nat) (h1 : Rd w' w'.heap.size 1 A np (P.map Value.string)) (h2 : Rd w' w'.heap.size 1 B np (P.map Value.string)) => eqSame_any A B np c d P w' h1 h2 (by unfold maxLen; omega))
  have Hsub := hide hsub
  have Hnp := hide hnp
  have Hnq := hide hmq
  clear KP1 KP2 KP3 KP4 hP hQ hnp hmq ha hb hc Hlb KL hsub hd2
  obtain ⟨x0, x1, x2⟩ := (unhide S1).cells
  go_wp2_with fail
  refine ((unhide H1) _).mono ?_
  rintro e w2 ⟨A2, c2, rfl, ho2, hb2⟩
  have S2 := hide ((unhide S1).below hb2)
  have R2 := hide (Rd.of_own ho2)
  clear ho2 hb2 x0 x1 x2
  obtain ⟨x0, x1, x2⟩ := (unhide S2).cells
  go_wp2_with fail
  refine ((unhide H2) _).mono ?_
  rintro e w3 ⟨A3, c3, rfl, ho3, hb3⟩
  have S3 := hide ((unhide S2).below hb3)
  have R2' := hide ((unhide R2).belowSz hb3)
  have R3 := hide (Rd.of_own ho3)
  clear ho3 hb3 x0 x1 x2 R2
  obtain ⟨x0, x1, x2⟩ := (unhide S3).cells
  go_wp2_with fail
  refine ((unhide H3) _).mono ?_
  rintro e w4 ⟨A4, c4, rfl, ho4, hb4⟩
  have S4 := hide ((unhide S3).below hb4)
  have R2 := hide ((unhide R2').belowSz hb4)
  have R3' := hide ((unhide R3).belowSz hb4)
  have R4 := hide (Rd.of_own ho4)
  clear ho4 hb4 x0 x1 x2 R2' R3
  obtain ⟨x0, x1, x2⟩ := (unhide S4).cells
  go_wp2_with fail
  refine ((unhide H4) _).mono ?_
  rintro e w5 ⟨A5, c5, rfl, ho5, hb5⟩
  have S5 := hide ((unhide S4).below hb5)
  have R2' := hide ((unhide R2).belowSz hb5)
  have R3 := hide ((unhide R3').belowSz hb5)
  have R4' := hide ((unhide R4).belowSz hb5)
  have R5 := hide (Rd.of_own ho5)
  clear ho5 hb5 x0 x1 x2 R2 R3' R4
  go_wp2_with fail
  go_loopg [9, 10] mq (fun gk kv iv wr => ∃ i k j : Nat, gk = mq - i ∧ i ≤ mq ∧ k ≤ np ∧ iv = .int .i64 i ∧ kv = .int .i64 k ∧ (P.drop k).Sublist (Q.drop i) ∧ wr = w5.drewN j)
  case atStart => exact ⟨0, 0, 0, by omega, Nat.zero_le _, Nat.zero_le _, rfl, rfl, unhide Hsub, rfl⟩
  case round =>
  obtain ⟨i, k, j, hgk, hi, hk, rfl, rfl, hs, rfl⟩ := hrel
  have Hgk := hide hgk
  have Hs := hide hs
  clear hgk hs
  by_cases hgo : i < mq ∧ k < np
  · obtain ⟨hin, hkn⟩ := hgo
    obtain ⟨x, hx⟩ : ∃ x, P[k]? = some x := ⟨_, List.getElem?_eq_getElem (by rw [unhide Hnp]; exact hkn)⟩
    obtain ⟨y, hy⟩ : ∃ y, Q[i]? = some y := ⟨_, List.getElem?_eq_getElem (by rw [unhide Hnq]; exact hin)⟩
    obtain ⟨b1, o1, rfl, _, c1⟩ := (unhide R2').at_ (k := k) (u := .string x) (by simp [hx])
    obtain ⟨b5, o5, rfl, _, cc5⟩ := (unhide R5).at_ (k := i) (u := .string y) (by simp [hy])
    have i1 : (i : Int) < (mq : Int) := by omega
    have i2 : (k : Int) < (np : Int) := by omega
    have i3 : ¬ (i : Int) < 0 := by omega
    have i4 : ¬ (k : Int) < 0 := by omega
    by_cases hxy : y = x
    · subst hxy
      have Hs2 := hide (Se.sub_hit (unhide Hs) hx hy)
      have r0 : (y.toList == y.toList) = true := beq_self_eq_true _
      clear hx hy
      go_wp2_with fail
      go_quiet (fail)
      go_wp2_with fail
      go_roundg (mq - (i + 1))
      case measure => have := unhide Hgk; omega
      case rel => exact ⟨i + 1, k + 1, _, rfl, by omega, by omega, by go_num, by go_num, unhide Hs2, rfl⟩
    · have Hs2 := hide (Se.sub_miss (unhide Hs) hx hy hxy)
      have r0 : (y.toList == x.toList) = false := by
        rw [beq_eq_false_iff_ne]
        intro e
        rw [Lib.toList_data, Lib.toList_data] at e
        exact hxy (ByteArray.ext (Array.toList_inj.1 e))
      clear hx hy hxy
      go_wp2_with fail
      go_quiet (fail)
      go_wp2_with fail
      go_roundg (mq - (i + 1))
      case measure => have := unhide Hgk; omega
      case rel => exact ⟨i + 1, k, _, rfl, by omega, by omega, by go_num, rfl, unhide Hs2, rfl⟩
  · have hkn : k = np := by
      by_cases h : i < mq
      · omega
      · obtain rfl : i = mq := by omega
        have h1 := unhide Hs
        rw [← unhide Hnq] at h1
        have h2 := Se.sub_end h1
        have := unhide Hnp
        omega
    subst hkn
    have KE1 := hide ((unhide HE) _ _ _ c2 c3 ((unhide R2').drewN j) ((unhide R3).drewN j))
    have i2 : ¬ (k : Int) < (k : Int) := by omega
    have hgo2 : i < mq ∨ ¬ i < mq := by omega
    clear hgo Hs
    rcases hgo2 with hgo2 | hgo2
    all_goals
      first
        | have i1 : (i : Int) < (mq : Int) := by omega
        | have i1 : ¬ (i : Int) < (mq : Int) := by omega
      have r5 : ((k : Int) == (k : Int)) = true := beq_self_eq_true _
      go_wp2_with fail
      refine (unhide KE1).mono ?_
      rintro e w6 ⟨rfl, j2, rfl⟩
      have KE2 := hide ((unhide HE) _ _ _ c2 c4 ((unhide R2').drewN (j + j2)) ((unhide R4').drewN (j + j2)))
      go_wp2_with fail
      refine (unhide KE2).mono ?_
      rintro e w7 ⟨rfl, j3, rfl⟩
      have S7 := hide ((unhide S5).drewN (j + j2 + j3))
      go_wp2_with fail
      refine ((unhide KW) _).mono ?_
      rintro e w8 ⟨rfl, hb8⟩
      have S8 := hide ((unhide S7).below hb8)
      clear hb8
      go_wp2_with fail
      go_ret
      exact ⟨rfl, (unhide S8).bel⟩
end Go.Proofs.YtchmdpkjipaafaaDoor
namespace Go.Proofs.YtchmdpkjipaafaaDoor
set_option linter.unusedVariables false
set_option linter.unusedSimpArgs false
open Go.RowKit

theorem own_setG {w : World} {base g n c i size : Nat} {e : TypeId} {xs : List Value} (h : w.ownsRow base e size (.slice (some ⟨g, 0, none⟩) n c) n xs) (u : Value) :
    (w.setCell ⟨g, i, none⟩ u).ownsRow base e size (.slice (some ⟨g, 0, none⟩) n c) n (xs.set i u) := by
  obtain ⟨hl, hn | ⟨g', cap, cur, hv, hb, hg, h1, h2, h3, h4⟩⟩ := h
  · exact absurd hn.1 (by simp)
  · obtain ⟨rfl, rfl⟩ : g = g' ∧ c = cap := by simpa using hv
    refine ⟨by simpa using hl, .inr ⟨g, c, cur.setIfInBounds i u, rfl, hb, heap_setCell_same _ _ _ _ _ _ hg, h1, h2, by simpa using h3, ?_⟩⟩
    simp only [Array.toList_setIfInBounds, List.take_set, h4]
/-- A store into another block leaves a row of the call's own as it was. -/
theorem own_setO {w : World} {base g i n c size : Nat} {A : Option Addr} {e : TypeId} {xs : List Value} (h : w.ownsRow base e size (.slice A n c) n xs) (hne : (Value.slice A n c).ownBlock ≠ some g) (u : Value) : (w.setCell ⟨g, i, none⟩ u).ownsRow base e size (.slice A n c) n xs := by
  obtain ⟨hl, hn | ⟨g', cap, cur, hv, hb, hg, h1, h2, h3, h4⟩⟩ := h
  · exact ⟨hl, .inl hn⟩
  · refine ⟨hl, .inr ⟨g', cap, cur, hv, hb, (heap_setCell_other _ _ _ _ ?_).trans hg, h1, h2, h3, h4⟩⟩
    show g' ≠ g
    rintro rfl
    rw [hv] at hne
    exact hne rfl

/-- Where made stands: the entries from k on are as they were copied, and so are the bytes of those from d on. -/
structure SpS (w : World) (A : Option Addr) (c : Nat) (l' : List EntA) (k d : Nat) (W : World) : Prop where
  bel : Below w.heap.size w W
  row : ∃ xs, W.ownsRow w.heap.size 64 7 (.slice A l'.length c) l'.length xs ∧ ∀ i, k * 7 ≤ i → xs[i]? = (rowCs entVals l')[i]?
  dat : ∀ j s, d ≤ j → l'[j]? = some s → W.ownsRow w.heap.size 5 1 (.slice s.A s.n s.c) s.n (bys s.e.data)
  apart : l'.Pairwise (fun s t => ∀ g, (Value.slice s.A s.n s.c).ownBlock = some g → (Value.slice t.A t.n t.c).ownBlock ≠ some g)
section
variable {w W W' : World} {es : List Vf.Ent} {A : Option Addr} {c k d g : Nat} {l' : List EntA}
theorem SpS.start (h : CpS w es A c l' W) : SpS w A c l' 0 0 W :=
  ⟨h.bel, ⟨_, h.row, fun _ _ => rfl⟩, fun j s _ hs => h.dat s (List.mem_of_getElem? hs), h.apart⟩
theorem SpS.below (h : SpS w A c l' k d W) (hb : Below W.heap.size W W') : SpS w A c l' k d W' := by
  obtain ⟨xs, h1, h2⟩ := h.row
  exact ⟨h.bel.trans (hb.mono h.bel.size), ⟨xs, own_keepA h1 (fun k _ hk => hb.block k hk), h2⟩, fun j s hj hs => own_keepA (h.dat j s hj hs) (fun k _ hk => hb.block k hk), h.apart⟩
theorem SpS.less (h : SpS w A c l' k d W) {k' d' : Nat} (hk : k ≤ k') (hd : d ≤ d') : SpS w A c l' k' d' W := by
  obtain ⟨xs, h1, h2⟩ := h.row
  exact ⟨h.bel, ⟨xs, h1, fun i hi => h2 i (by omega)⟩, fun j s hj hs => h.dat j s (by omega) hs, h.apart⟩
/-- A store into a cell of the entries below k. -/
theorem SpS.setRow (h : SpS w (some ⟨g, 0, none⟩) c l' k d W) (i : Nat) (hi : i < k * 7) (u : Value) : SpS w (some ⟨g, 0, none⟩) c l' k d (W.setCell ⟨g, i, none⟩ u) := by
  obtain ⟨xs, h1, h2⟩ := h.row
  have hg : w.heap.size ≤ g := by
    obtain ⟨hl, hn | ⟨g', cap, cur, hv, hb, hg, _⟩⟩ := h1
    · exact absurd hn.1 (by simp)
    · obtain ⟨rfl, rfl⟩ : g = g' ∧ c = cap := by simpa using hv
      exact hb
  have hne : ∀ j s, d ≤ j → l'[j]? = some s → (Value.slice s.A s.n s.c).ownBlock ≠ some g := by
    intro j s hj hs e
    obtain ⟨c1, e1⟩ := row_blkS (h.dat j s hj hs) e
    obtain ⟨c2, e2⟩ := row_blkS (k := g) h1 rfl
    rw [e1] at e2
    injection e2 with e2
    injection e2 with _ e3
    exact absurd e3 (by decide)
  refine ⟨h.bel.setCell (p := ⟨g, i, none⟩) hg u, ⟨xs.set i u, own_setG h1 u, fun i' hi' => ?_⟩, fun j s hj hs => own_setO (h.dat j s hj hs) (hne j s hj hs) u, h.apart⟩
  rw [List.getElem?_set_ne (by omega)]
  exact h2 i' hi'
theorem SpS.base (h : SpS w (some ⟨g, 0, none⟩) c l' k d W) : w.heap.size ≤ g := by
  obtain ⟨xs, h1, h2⟩ := h.row
  obtain ⟨hl, hn | ⟨g', cap, cur, hv, hb, hg, _⟩⟩ := h1
  · exact absurd hn.1 (by simp)
  · obtain ⟨rfl, rfl⟩ : g = g' ∧ c = cap := by simpa using hv
    exact hb
/-- The cells of an entry that is as it was. -/
theorem SpS.cell (h : SpS w (some ⟨g, 0, none⟩) c l' k d W) {j : Nat} {s : EntA} (hj : k ≤ j) (hs : l'[j]? = some s) {q : Nat} (hq : q < 7) {u : Value} (hu : (entVals s)[q]? = some u) : W.cell? ⟨g, j * 7 + q, none⟩ = some u := by
  obtain ⟨xs, h1, h2⟩ := h.row
  have hx : xs[j * 7 + q]? = some u := by
    rw [h2 (j * 7 + q) (by omega), rowCs_at (vals := entVals) (size := 7) (fun _ => rfl) l' j s hs q hq, hu]
  obtain ⟨b, off, ha, _, hc⟩ := (Rd.of_own h1).open_ (by intro e; rw [e] at hx; cases hx)
  obtain ⟨rfl, rfl⟩ : g = b ∧ 0 = off := by simpa using ha
  simpa using hc _ _ hx
theorem SpS.free (h : SpS w (some ⟨g, 0, none⟩) c l' k d W) (i : Nat) : W.frozen? ⟨g, i, none⟩ = false := by
  obtain ⟨xs, h1, h2⟩ := h.row
  obtain ⟨hl, hn | ⟨g', cap, cur, hv, hb, hg, _⟩⟩ := h1
  · exact absurd hn.1 (by simp)
  · obtain ⟨rfl, rfl⟩ : g = g' ∧ c = cap := by simpa using hv
    exact frozen_of_row _ _ _ _ _ hg
end
/-- Within an entry: its bytes from q on are as they were. -/
structure SpI (w : World) (A : Option Addr) (c : Nat) (l' : List EntA) (k q : Nat) (s : EntA) (W : World) : Prop where
  sp : SpS w A c l' k (k + 1) W
  at_ : l'[k]? = some s
  row : ∃ ys, W.ownsRow w.heap.size 5 1 (.slice s.A s.n s.c) s.n ys ∧ ∀ i, q ≤ i → ys[i]? = (bys s.e.data)[i]?
section
variable {w W W' : World} {A : Option Addr} {c k q g b : Nat} {l' : List EntA} {s : EntA}
theorem SpI.start (h : SpS w A c l' k k W) (hs : l'[k]? = some s) : SpI w A c l' k 0 s W :=
  ⟨h.less (Nat.le_refl _) (Nat.le_succ _), hs, ⟨_, h.dat k s (Nat.le_refl _) hs, fun _ _ => rfl⟩⟩
theorem SpI.cell (h : SpI w A c l' k q s W) (hA : s.A = some ⟨b, 0, none⟩) {u : Value} {i : Nat} (hi : q ≤ i) (hu : (bys s.e.data)[i]? = some u) : W.cell? ⟨b, i, none⟩ = some u := by
  obtain ⟨ys, h1, h2⟩ := h.row
  rw [hA] at h1
  exact own_cell h1 ((h2 i hi).trans hu)
theorem SpI.free (h : SpI w A c l' k q s W) (hA : s.A = some ⟨b, 0, none⟩) (i : Nat) : W.frozen? ⟨b, i, none⟩ = false := by
  obtain ⟨ys, h1, h2⟩ := h.row
  rw [hA] at h1
  exact own_free h1 i
/-- A store into the byte at hand. -/
theorem SpI.set (h : SpI w A c l' k q s W) (hA : s.A = some ⟨b, 0, none⟩) (u : Value) : SpI w A c l' k (q + 1) s (W.setCell ⟨b, q, none⟩ u) := by
  obtain ⟨ys, h1, h2⟩ := h.row
  have h1' := h1
  rw [hA] at h1'
  have hb : w.heap.size ≤ b := (own_at h1').1
  have hown : (Value.slice s.A s.n s.c).ownBlock = some b := by rw [hA]; rfl
  obtain ⟨xs, h3, h4⟩ := h.sp.row
  have hne : (Value.slice A l'.length c).ownBlock ≠ some b := by
    intro e
    obtain ⟨c1, e1⟩ := row_blkS h3 e
    obtain ⟨c2, e2⟩ := row_blkS h1 hown
    rw [e1] at e2
    injection e2 with e2
    injection e2 with _ e3
    exact absurd e3 (by decide)
  have hap : ∀ j t, k + 1 ≤ j → l'[j]? = some t → (Value.slice t.A t.n t.c).ownBlock ≠ some b := by
    intro j t hj ht
    obtain ⟨hkl, hk⟩ := List.getElem?_eq_some_iff.1 h.at_
    obtain ⟨hjl, hjt⟩ := List.getElem?_eq_some_iff.1 ht
    have := List.pairwise_iff_getElem.1 h.sp.apart k j hkl hjl (by omega)
    rw [hk, hjt] at this
    exact this b hown
  refine ⟨⟨h.sp.bel.setCell (p := ⟨b, q, none⟩) hb u, ⟨xs, own_setO h3 hne u, h4⟩, fun j t hj ht => own_setO (h.sp.dat j t hj ht) (hap j t hj ht) u, h.sp.apart⟩, h.at_, ⟨ys.set q u, ?_, fun i hi => ?_⟩⟩
  · rw [hA]
    exact own_set h1' u
  · rw [List.getElem?_set_ne (by omega)]
    exact h2 i (by omega)
end
end Go.Proofs.YtchmdpkjipaafaaDoor
namespace Go.Proofs.YtchmdpkjipaafaaDoor
set_option linter.unusedVariables false
set_option linter.unusedSimpArgs false
open Go.RowKit Go.Lib Go.Sort

theorem below_setCellsR {B : Nat} {a : World} (b : Nat) (hb : B ≤ b) : ∀ (vs : List Value) (o : Nat) {w : World}, Below B a w → Below B a (w.setCells b o vs)
  | [], _, _, h => h
  | v :: r, o, _, h => below_setCellsR b hb r (o + 1) (h.setCell (p := ⟨b, o, none⟩) hb v)
def RevE (A : Option Addr) (n base : Nat) (l : List ByteArray) (w : World) (e : Ending) (w' : World) : Prop :=
  e = .returned (.tuple #[]) ∧ Rd w' w'.heap.size 1 A n (l.reverse.map Value.string) ∧ Below base w w'
end Go.Proofs.YtchmdpkjipaafaaDoor
namespace Go.Proofs.YtchmdpkjipaafaaDoor
set_option linter.unusedVariables false
set_option linter.unusedSimpArgs false
open Go.RowKit Go.Lib Go.Sort

theorem meth_dir (w : World) (q : Nat) : (binOp .eql 91 (.iface 68 (.pointer (some ⟨q, 0, none⟩))) .nilIface).run Tryd.prog w = .ok (.bool false) w := by kernel_rfl
/-- Where the walk upwards stands: at node i, with the names below it. -/
def PaS (w : World) (F : List Vf.Nd) (L : List Pl) (i0 : Nat) (i : Nat) (lv bv : Value) (W : World) : Prop :=
  ∃ (p : Pl) (acc : List ByteArray) (A : Option Addr) (c : Nat), L[i]? = some p ∧ i < F.length ∧ bv = .pointer (some ⟨p.q, 0, none⟩) ∧ lv = .slice A acc.length c ∧ W.ownsRow w.heap.size 9 1 (.slice A acc.length c) acc.length (acc.map Value.string) ∧ Vf.nmsP F i0 = Vf.nmsP F i ++ acc.reverse ∧ acc.length + i ≤ i0 ∧ Below w.heap.size w W

end Go.Proofs.YtchmdpkjipaafaaDoor
namespace Go.Proofs.YtchmdpkjipaafaaDoor
set_option linter.unusedVariables false
set_option linter.unusedSimpArgs false
open Go.RowKit

end Go.Proofs.YtchmdpkjipaafaaDoor
namespace Go.Proofs.YtchmdpkjipaafaaDoor
set_option linter.unusedVariables false
set_option linter.unusedSimpArgs false
open Go.RowKit

theorem Rd.sub {w : World} {B n : Nat} {b1 o1 : Nat} {xs : List Value} (h : Rd w B 1 (some ⟨b1, o1, none⟩) n xs) {off k : Nat} (hk : off + k ≤ n) : Rd w B 1 (some ⟨b1, o1 + off, none⟩) k ((xs.drop off).take k) := by
  have hl := h.len1
  refine ⟨by simp; omega, ?_⟩
  rcases h.2 with h0 | ⟨b, o, e, hb, hc⟩
  · exact .inl (by simp [h0])
  · obtain ⟨rfl, rfl⟩ : b1 = b ∧ o1 = o := by injection e with e; injection e with h1 h2 h3; exact ⟨h1, h2⟩
    refine .inr ⟨b1, o1 + off, rfl, hb, fun j u hu => ?_⟩
    by_cases hj : j < k
    · rw [List.getElem?_take_of_lt hj, List.getElem?_drop] at hu
      rw [Nat.add_assoc]
      exact hc _ _ hu
    · rw [List.getElem?_take_eq_none (by omega)] at hu
      cases hu

theorem conv_any {P : Program} {w : World} {B n c : Nat} {A : Option Addr} {l : List UInt8} {src dst e : TypeId} (h : Rd w B 1 A n (bys l)) (hs : P.underlying src = some (.slice e)) (he : P.underlying e = some (.int .u8)) (hd : P.underlying dst = some .string) :
    (convert src dst (.slice A n c)).run P w = .ok (.string ⟨l.toArray⟩) w := by
  have hl : l.length = n := by simpa [bys] using h.len1
  subst hl
  cases A with
  | none =>
    have h0 : l = [] := by
      rcases h.2 with h0 | ⟨b, o, e1, _⟩
      · simpa [bys] using h0
      · cases e1
    subst h0
    exact run_convert_bytes_nil w src e hs he _ c dst hd
  | some ad =>
    refine run_convert_bytes_back w src dst e ad c l hs he hd fun j hj => ?_
    obtain ⟨b, o, e1, _, hc⟩ := h.at_ (k := j) (u := .int .u8 (l[j].toNat : Nat)) (bys_at (List.getElem?_eq_getElem hj))
    injection e1 with e1
    subst e1
    rw [Addr.add_lit]
    exact hc
theorem Rd.from {w : World} {B n : Nat} {b1 o1 k : Nat} {l : List UInt8} (h : Rd w B 1 (some ⟨b1, o1, none⟩) n (bys l)) (hk : k ≤ n) : Rd w B 1 (some ⟨b1, o1 + k, none⟩) (n - k) (bys (l.drop k)) := by
  have hl : l.length = n := by simpa [bys] using h.len1
  have h1 := h.sub (off := k) (k := n - k) (by omega)
  have e : ((bys l).drop k).take (n - k) = bys (l.drop k) := by
    unfold bys
    rw [← List.map_drop, ← List.map_take, List.take_of_length_le (by simp; omega)]
  rwa [e] at h1
end Go.Proofs.YtchmdpkjipaafaaDoor
namespace Go.Proofs.YtchmdpkjipaafaaDoor
set_option linter.unusedVariables false
set_option linter.unusedSimpArgs false
open Go.RowKit

def aE1 : Vf.Ent := ⟨⟨#[47, 97]⟩, 2, 448, 7, 0, [], ⟨#[]⟩⟩
def aE2 : Vf.Ent := ⟨⟨#[47, 97, 47, 102]⟩, 1, 420, 0, 0, [1, 2, 3], ⟨#[]⟩⟩
def aE3 : Vf.Ent := ⟨⟨#[47, 108]⟩, 3, 0, 0, 0, [], ⟨#[97, 47, 102]⟩⟩
theorem anchor_new : (Vf.new [aE1, aE2, aE3]).1 = 0 := by kernel_rfl
theorem anchor_walk1 : Vf.walk (Vf.new [aE1, aE2, aE3]).2.2 ⟨0, 7, 0, 0, []⟩ 0 ⟨#[108]⟩ true = (2, 0) := by kernel_rfl
theorem anchor_walk2 : (Vf.walk (Vf.new [aE1, aE2, aE3]).2.2 ⟨0, 8, 0, 0, []⟩ 0 ⟨#[108]⟩ true).2 = 5 := by kernel_rfl
theorem anchor_read : Vf.readOf (Vf.new [aE1, aE2, aE3]).2.2 2 1 9 = ([2, 3], 0) := by kernel_rfl
theorem anchor_path : Vf.pathOf (Vf.new [aE1, aE2, aE3]).2.2 2 = ⟨#[47, 97, 47, 102]⟩ := by kernel_rfl
def aL (g : Nat) : List EntA := [⟨aE1, none, 0, 0⟩, ⟨aE2, some ⟨g, 0, none⟩, 3, 3⟩, ⟨aE3, none, 0, 0⟩]
end Go.Proofs.YtchmdpkjipaafaaDoor
namespace Go.Proofs.YtchmdpkjipaafaaDoor
set_option linter.unusedVariables false
set_option linter.unusedSimpArgs false
open Go.RowKit

/-- Entries that are not too great. -/
def EsFit (es : List Vf.Ent) : Prop := ∀ e ∈ es, e.path.size ≤ 262144 ∧ e.data.length ≤ 262144 ∧ e.to.size ≤ 262144 ∧ e.mode < 65536
theorem CpS.newArgs {w W : World} {es : List Vf.Ent} {A : Option Addr} {c : Nat} {l' : List EntA} (h : CpS w es A c l' W) (hs : EsFit es) : Rd W W.heap.size 7 A l'.length (rowCs entVals l') ∧ ∀ s ∈ l', EntOk W s := by
  refine ⟨Rd.of_own h.row, fun s hm => ?_⟩
  have hd := h.dat s hm
  have he : s.e ∈ es := by rw [← h.map]; exact List.mem_map.2 ⟨s, hm, rfl⟩
  obtain ⟨a, b, d, e⟩ := hs s.e he
  have hlen : s.e.data.length = s.n := by have := hd.1; simpa [bys] using this
  exact ⟨Rd.of_own hd, by omega, by omega, by omega, e⟩
theorem esFit_of {l : List EntA} {w : World} (hin : ∀ s ∈ l, EntIn w s) (h : ∀ s ∈ l, s.e.path.size ≤ 262144 ∧ s.n ≤ 262144 ∧ s.e.to.size ≤ 262144) : EsFit (l.map (·.e)) := by
  intro e he
  obtain ⟨s, hs, rfl⟩ := List.mem_map.1 he
  obtain ⟨a, b, d⟩ := h s hs
  have hlen : s.e.data.length = s.n := by have := (hin s hs).d.len1; simpa [bys] using this
  exact ⟨a, by omega, d, (hin s hs).m⟩

section
variable {w W W' : World} {c : Vf.Cred} {A : Option Addr} {n k : Nat} {src : Int} {path : ByteArray} {last : Bool}
end

end Go.Proofs.YtchmdpkjipaafaaDoor
namespace Go.Proofs.YtchmdpkjipaafaaDoor
set_option linter.unusedVariables false
set_option linter.unusedSimpArgs false
open Go.RowKit

/-- The program's file system, if there is one. -/
def FsO (lo : Nat) (ne : Int) (F : List Vf.Nd) (n : Nat) (fo : Option Addr) (w : World) : Prop :=
  (ne ≠ 0 ∧ fo = none) ∨ (ne = 0 ∧ ∃ f A c L, fo = some ⟨f, 0, none⟩ ∧ FsM w lo f A c F L ∧ Vf.Good F ∧ F.length = n + 1 ∧ n ≤ 64)
/-- The reference's. -/
def RFsO (lo : Nat) (ne : Int) (F : List Vf.Nd) (n : Nat) (go : Option Addr) (w : World) : Prop :=
  (ne ≠ 0 ∧ go = none) ∨ (ne = 0 ∧ ∃ g A c ls, go = some ⟨g, 0, none⟩ ∧ RFs w lo g A c F ls ∧ Vf.Good F ∧ F.length = n + 1 ∧ n ≤ 64)
theorem FsO.keep {lo n : Nat} {ne : Int} {F : List Vf.Nd} {fo : Option Addr} {w w' : World} (h : FsO lo ne F n fo w) (hk : ∀ k, lo ≤ k → k < w.heap.size → w'.heap[k]? = w.heap[k]?) : FsO lo ne F n fo w' := by
  rcases h with h | ⟨h0, f, A, c, L, e, hf, r⟩
  · exact .inl h
  · exact .inr ⟨h0, f, A, c, L, e, hf.keep hk, r⟩
theorem RFsO.keep {lo n : Nat} {ne : Int} {F : List Vf.Nd} {go : Option Addr} {w w' : World} (h : RFsO lo ne F n go w) (hk : ∀ k, lo ≤ k → k < w.heap.size → w'.heap[k]? = w.heap[k]?) : RFsO lo ne F n go w' := by
  rcases h with h | ⟨h0, f, A, c, L, e, hf, r⟩
  · exact .inl h
  · exact .inr ⟨h0, f, A, c, L, e, hf.keep hk, r⟩
/-- Both News in one form. -/
theorem newE_one {es : List Vf.Ent} {w w' : World} {e : Ending} {ne ni : Int} {F : List Vf.Nd} (h : NewE es w e w') (hn : Vf.new es = (ne, ni, F)) :
    Below w.heap.size w w' ∧ ∃ fo, e = .returned (.tuple #[.pointer fo, .int .i64 ne, .int .i64 ni]) ∧ FsO w.heap.size ne F es.length fo w' := by
  unfold NewE at h
  rw [hn] at h
  obtain ⟨hb, ⟨h0, rfl⟩ | ⟨h0, f, A, c, L, rfl, hf, hg, hl, h1, h2⟩⟩ := h
  · exact ⟨hb, none, rfl, .inl ⟨h0, rfl⟩⟩
  · dsimp only at h0 h1
    subst h0
    subst h1
    exact ⟨hb, some ⟨f, 0, none⟩, rfl, .inr ⟨rfl, f, A, c, L, rfl, hf, hg, hl, h2⟩⟩
theorem newRE_one {es : List Vf.Ent} {w w' : World} {e : Ending} {ne ni : Int} {F : List Vf.Nd} (h : NewRE es w e w') (hn : Vf.new es = (ne, ni, F)) :
    Below w.heap.size w w' ∧ ∃ go, e = .returned (.tuple #[.pointer go, .int .i64 ne, .int .i64 ni]) ∧ RFsO w.heap.size ne F es.length go w' := by
  unfold NewRE at h
  rw [hn] at h
  obtain ⟨hb, ⟨h0, rfl⟩ | ⟨h0, f, A, c, L, rfl, hf, hg, hl, h1, h2⟩⟩ := h
  · exact ⟨hb, none, rfl, .inl ⟨h0, rfl⟩⟩
  · dsimp only at h0 h1
    subst h0
    subst h1
    exact ⟨hb, some ⟨f, 0, none⟩, rfl, .inr ⟨rfl, f, A, c, L, rfl, hf, hg, hl, h2⟩⟩
/-- What made answers. -/
def MadeE (es : List Vf.Ent) (w : World) (e : Ending) (w' : World) : Prop :=
  Below w.heap.size w w' ∧ ∃ fo go lo hi, e = .returned (.tuple #[.pointer fo, .pointer go, .bool true]) ∧ w.heap.size ≤ lo ∧ w.heap.size ≤ hi ∧ FsO lo (Vf.new es).1 (Vf.new es).2.2 es.length fo w' ∧ RFsO hi (Vf.new es).1 (Vf.new es).2.2 es.length go w'
end Go.Proofs.YtchmdpkjipaafaaDoor
namespace Go.Proofs.YtchmdpkjipaafaaDoor
set_option linter.unusedVariables false
set_option linter.unusedSimpArgs false
open Go.RowKit

def sumA : List ByteArray → Nat
  | [] => 0
  | s :: r => min s.size 16384 + sumA r
theorem sumA_app (a b : List ByteArray) : sumA (a ++ b) = sumA a + sumA b := by
  induction a with
  | nil => simp [sumA]
  | cons s r ih => simp only [List.cons_append, sumA, ih]; omega
theorem sumA_mem {l : List ByteArray} {x : ByteArray} (h : x ∈ l) : min x.size 16384 ≤ sumA l := by
  induction l with
  | nil => cases h
  | cons s r ih =>
    simp only [sumA]
    rcases List.mem_cons.1 h with rfl | h
    · omega
    · have := ih h; omega
theorem sumA_snoc {l : List ByteArray} {k : Nat} {x : ByteArray} (h : l[k]? = some x) : sumA (l.take (k + 1)) = sumA (l.take k) + min x.size 16384 := by
  rw [List.take_add_one, h, sumA_app]
  simp [sumA]
/-- What large answers of the paths. -/
def AlE (l : List ByteArray) (nl : Nat) (w : World) (e : Ending) (w' : World) : Prop := ∃ r, e = .returned (.bool r) ∧ (r = false → nl ≤ 8192 ∧ ∀ x ∈ l, x.size ≤ 8192) ∧ Below w.heap.size w w'
set_option maxRecDepth 100000 in
set_option maxHeartbeats 1000000 in
theorem alarge_any (cwd : Int) (A : Option Addr) (n c B : Nat) (l : List ByteArray) (w : World) (hl : Rd w B 1 A n (l.map Value.string)) (hB : B ≤ w.heap.size) (hs : ∀ x ∈ l, x.size ≤ maxLen) (hn : n ≤ maxLen) :
    Calls Tryd.prog 16 #[.agg #[.int .i64 cwd, .slice A n c]] w (AlE l n w) := by
  have hb0 : Below w.heap.size w (w.alloc (.cells #[.int .i64 cwd, .slice A n c] 36)) := (Below.refl _ _).alloc (Nat.le_refl _) _
  have hk0 : Blk (w.alloc (.cells #[.int .i64 cwd, .slice A n c] 36)) w.heap.size 36 [.int .i64 cwd, .slice A n c] := Blk.new w 36 _
  have hl0 := hl.below (hb0.mono hB)
  have v1 := hk0.cell (i := 1) rfl
  have hln : l.length = n := by simpa using hl.len1
  unfold maxLen at hn
  have Hl := hide hl0
  have Hln := hide hln
  have Hs := hide hs
  have Hb0 := hide hb0
  clear hl hl0 hln hs hb0 hk0
  go_enter Tryd.func16, Tryd.ntmps16
  go_wp2_with fail
  generalize w.alloc (.cells #[.int .i64 cwd, .slice A n c] 36) = W0 at *
  go_loopg [3, 4] n (fun gk nv i wr => ∃ k m : Nat, gk = n - k ∧ k ≤ n ∧ i = .int .i64 k ∧ nv = .int .i64 m ∧ m = n + sumA (l.take k) ∧ (k = 0 ∨ m ≤ 24576) ∧ W0 = wr)
  case atStart => exact ⟨0, n, by omega, by omega, rfl, rfl, by simp [sumA], .inl rfl, rfl⟩
  case round =>
  obtain ⟨k, m, hgk, hk, rfl, rfl, hmn, hm0, rfl⟩ := hrel
  have Hgk := hide hgk
  have Hmn := hide hmn
  clear hgk hmn
  have hmb : m ≤ 9223372036854775807 := by
    rcases hm0 with rfl | h
    · have := unhide Hmn; simp [sumA] at this; omega
    · omega
  by_cases hlt : k < n
  case neg =>
    obtain rfl : k = n := by omega
    have htk : l.take k = l := List.take_of_length_le (by have := unhide Hln; omega)
    have hnn := unhide Hmn
    rw [htk] at hnn
    have Hnn := hide hnn
    clear htk hnn hm0
    go_wp2_with fail
    go_ret
    refine ⟨_, rfl, fun hr => ?_, unhide Hb0⟩
    have hm : m ≤ 8192 := by
      have h : (m : Int) ≤ 8192 := by simpa using hr
      omega
    have h1 := unhide Hnn
    refine ⟨by omega, fun x hx => ?_⟩
    have h2 := sumA_mem hx
    omega
  by_cases hbig : m ≤ 8192
  case neg =>
    have hb : ((m : Int) ≤ 8192) = False := by simp; omega
    clear hm0
    go_wp2_with fail
    go_ret
    exact ⟨_, rfl, fun hr => by simp at hr; omega, unhide Hb0⟩
  obtain ⟨x, hx⟩ : ∃ x, l[k]? = some x := ⟨_, List.getElem?_eq_getElem (by rw [unhide Hln]; exact hlt)⟩
  obtain ⟨b1, o1, rfl, _, c1⟩ := (unhide Hl).at_ (k := k) (u := .string x) (by simp [hx])
  have hxs := (unhide Hs) x (List.mem_of_getElem? hx)
  unfold maxLen at hxs
  have Hsn := hide (sumA_snoc hx)
  clear hx hm0
  by_cases hmin : x.size ≤ 16384
  · have hmin' : (x.size : Int) ≤ 16384 := by omega
    go_wp2_with fail
    go_roundg (n - (k + 1))
    case measure => have := unhide Hgk; omega
    case rel => exact ⟨k + 1, m + x.size, rfl, by omega, by go_num, by go_num, by rw [unhide Hsn, Nat.min_eq_left hmin]; have := unhide Hmn; omega, .inr (by omega), rfl⟩
  · have hmin' : (16384 : Int) < (x.size : Int) := by omega
    go_wp2_with fail
    go_roundg (n - (k + 1))
    case measure => have := unhide Hgk; omega
    case rel => exact ⟨k + 1, m + 16384, rfl, by omega, by go_num, by go_num, by rw [unhide Hsn, Nat.min_eq_right (by omega)]; have := unhide Hmn; omega, .inr (by omega), rfl⟩

set_option maxRecDepth 100000 in
set_option maxHeartbeats 1000000 in
theorem rfind_nil (cr : Vf.Cred) (A Al : Option Addr) (n k nl cl : Nat) (cwd : Int) (w : World) :
    Calls Tryd.prog 23 #[.pointer none, credV cr A n k, .int .i64 cwd, .slice Al nl cl] w fun e w' => e = .returned (.tuple #[.int .i64 0, .string ⟨#[]⟩, .int .i64 2]) ∧ Below w.heap.size w w' := by
  have Hb := hide ((Below.refl w.heap.size w).alloc (Nat.le_refl _) (.cells #[.int .u32 (cr.uid : Nat), .int .u32 (cr.euid : Nat), .int .u32 (cr.suid : Nat), .int .u32 (cr.gid : Nat), .slice A n k] 34))
  unfold credV
  go_enter Tryd.func23, Tryd.ntmps23
  go_wp2_with fail
  go_ret3
  exact ⟨rfl, unhide Hb⟩
end Go.Proofs.YtchmdpkjipaafaaDoor
namespace Go.Proofs.YtchmdpkjipaafaaDoor
set_option linter.unusedVariables false
set_option linter.unusedSimpArgs false
open Go.RowKit

set_option maxRecDepth 100000 in
set_option maxHeartbeats 4000000 in
theorem searchFinds_walk (l : List EntA) (A : Option Addr) (n c : Nat) (cr : Vf.Cred) (Ag : Option Addr) (ng kg : Nat) (cwd : Int) (Al : Option Addr) (nl cl : Nat) (ps : List ByteArray) (w : World) (h : Rd w w.heap.size 7 A n (rowCs entVals l)) (hl : l.length = n) (hnc : n ≤ c) (hcm : c ≤ maxLen) (hin : ∀ s ∈ l, EntIn w s)
    (hg : Rd w w.heap.size 1 Ag ng (cr.groups.map u32v)) (hgk : ng ≤ kg) (hgm : kg ≤ maxLen) (hp : Rd w w.heap.size 1 Al nl (ps.map Value.string)) (hps : ∀ x ∈ ps, x.size ≤ maxLen) (hnl : nl ≤ maxLen) :
    Calls Tryd.prog 4 #[.slice A n c, credV cr Ag ng kg, .agg #[.int .i64 cwd, .slice Al nl cl]] w fun e w' => e = .returned (.bool true) ∧ Below w.heap.size w w' := by
  have S0 := hide (AkS.start w cr Ag ng kg cwd Al nl cl)
  have KL := hide (large_any l A n c w.heap.size _ (h.below (unhide S0).bel) hl (Nat.le_trans hnc hcm) (fun s hs => ⟨(hin s hs).p, Nat.le_trans (hin s hs).nc (hin s hs).c, (hin s hs).t⟩))
  have KA := hide (fun w' (hb : Below w.heap.size w w') => alarge_any cwd Al nl cl w.heap.size ps w' (hp.below hb) hb.size hps hnl)
  have KW := hide (fun w' => sworks_any w')
  have H := hide h
  have Hin := hide hin
  have Hg := hide hg
  have Hl := hide hl
  have Hp := hide hp
  unfold credV
  clear h hin hg hl hp hps
  go_enter Tryd.func4, Tryd.ntmps4
  go_wp2_with fail
  refine (unhide KL).mono ?_
  rintro e w1 ⟨lb, q, rfl, hlb, rfl⟩
  have S1 := hide ((unhide S0).drewN q)
  have Hlb := hide hlb
  clear hlb S0 KL
  generalize ((w.alloc (.cells #[.int .u32 (cr.uid : Nat), .int .u32 (cr.euid : Nat), .int .u32 (cr.suid : Nat), .int .u32 (cr.gid : Nat), .slice Ag ng kg] 34)).alloc (.cells #[.int .i64 cwd, .slice Al nl cl] 36)).drewN q = W1 at *
  obtain ⟨⟨v0, v1, v2, v3, v4⟩, y0, y1⟩ := (unhide S1).cells
  cases lb with
  | true =>
    go_wp2_with fail
    refine ((unhide KW) _).mono ?_
    rintro e w2 ⟨rfl, hb2⟩
    have S2 := hide ((unhide S1).below hb2)
    clear hb2
    go_wp2_with fail
    go_ret
    exact ⟨rfl, (unhide S2).bel⟩
  | false =>
  by_cases hgr : ng ≤ 1024
  case neg =>
    have q1 : (1024 : Int) < (ng : Int) := by omega
    clear hgr
    go_wp2_with fail
    refine ((unhide KW) _).mono ?_
    rintro e w2 ⟨rfl, hb2⟩
    have S2 := hide ((unhide S1).below hb2)
    clear hb2
    go_wp2_with fail
    go_ret
    exact ⟨rfl, (unhide S2).bel⟩
  have q1 : ¬ (1024 : Int) < (ng : Int) := by omega
  go_wp2_with fail
  refine ((unhide KA) _ (unhide S1).bel).mono ?_
  rintro e w2 ⟨ab, rfl, hab, hb2⟩
  have S2 := hide ((unhide S1).below hb2)
  have Hab := hide hab
  clear hb2 hab S1 v0 v1 v2 v3 v4 y0 y1 KA
  cases ab with
  | true =>
    go_wp2_with fail
    refine ((unhide KW) _).mono ?_
    rintro e w3 ⟨rfl, hb3⟩
    have S3 := hide ((unhide S2).below hb3)
    clear hb3
    go_wp2_with fail
    go_ret
    exact ⟨rfl, (unhide S3).bel⟩
  | false =>
  obtain ⟨hn26, hall⟩ := (unhide Hlb) (by first | rfl | trivial)
  obtain ⟨hnl2, hpss⟩ := (unhide Hab) rfl
  have hfit := esFit_of (unhide Hin) hall
  have KC := copyEnts_any l A n c w.heap.size w2 ((unhide H).below (unhide S2).bel) (unhide S2).bel.size (unhide Hl) (by omega) (fun s hs => ⟨((unhide Hin) s hs).d.below (unhide S2).bel, by have := (hall s hs).2.1; omega⟩)
  have Hok := hide (show ∀ w', Below w.heap.size w w' → ∀ s ∈ l, EntOk w' s from fun w' hb s hs => ⟨((unhide Hin) s hs).d.belowSz hb, by have := (hall s hs).2.1; omega, by have := (hall s hs).1; omega, by have := (hall s hs).2.2; omega, ((unhide Hin) s hs).m⟩)
  have HKC := hide KC
  have Hfit := hide hfit
  have Hpss := hide hpss
  clear KC hall hfit Hlb Hab hpss Hin
  go_wp2_with fail
  refine (unhide HKC).mono ?_
  rintro e w3 ⟨A3, c3, l3, rfl, hcp⟩
  obtain ⟨hr3, hok3⟩ := hcp.newArgs (unhide Hfit)
  have hlen3 : l3.length = (l.map (·.e)).length := hcp.len
  have hes64 : (l.map (·.e)).length = n := by rw [List.length_map, unhide Hl]
  have KN := new_any l3 A3 (l.map (·.e)).length c3 w3 (by rw [← hlen3]; exact hr3) hlen3 hok3 (by rw [hes64]; omega)
  rw [hcp.map, hes64] at KN
  obtain ⟨⟨ne, ni, F⟩, hnew⟩ : ∃ r, Vf.new (l.map (·.e)) = r := ⟨_, rfl⟩
  have S3 := hide ((unhide S2).below hcp.bel)
  have HKN := hide KN
  have Hnew := hide hnew
  have Hes := hide hes64
  rw [hes64]
  clear hr3 hok3 KN hlen3 S2 HKC hcp hes64 hnew
  go_wp2_with fail
  refine (unhide HKN).mono ?_
  intro e w4 hN
  obtain ⟨hb4, fo, rfl, hF⟩ := newE_one hN (unhide Hnew)
  have S4 := hide ((unhide S3).below hb4)
  have KR := rnew_any l A n c w.heap.size w4 ((unhide H).below (unhide S4).bel) (unhide S4).bel.size (unhide Hl) ((unhide Hok) w4 (unhide S4).bel) (by omega)
  have HF := hide hF
  have HKR := hide KR
  clear hN hF hb4 KR HKN S3
  go_wp2_with fail
  refine (unhide HKR).mono ?_
  intro e w5 hN
  obtain ⟨hb5, go, rfl, hG⟩ := newRE_one hN (unhide Hnew)
  have S5 := hide ((unhide S4).below hb5)
  have hF5 := (unhide HF).keep (w' := w5) (fun k _ hk => hb5.block k hk)
  have hgr0 : ∀ w', Below w5.heap.size w5 w' → Rd w' w'.heap.size 1 Ag ng (cr.groups.map u32v) := fun w' hb => ((unhide Hg).below ((unhide S5).bel.trans (hb.mono (unhide S5).bel.size))).more (Nat.le_trans (unhide S5).bel.size hb.size)
  have hpr0 : ∀ w', Below w5.heap.size w5 w' → Rd w' w'.heap.size 1 Al nl (ps.map Value.string) := fun w' hb => ((unhide Hp).below ((unhide S5).bel.trans (hb.mono (unhide S5).bel.size))).more (Nat.le_trans (unhide S5).bel.size hb.size)
  have key : ((fo = none ∧ go = none) ∨ ∃ f g, fo = some ⟨f, 0, none⟩ ∧ go = some ⟨g, 0, none⟩) ∧ ∃ (r1 : Int) (r2 : ByteArray) (r3 : Int),
      (∀ w', Below w5.heap.size w5 w' → ∀ (A' : Option Addr) (k' : Nat), Rd w' w'.heap.size 1 A' ng (cr.groups.map u32v) → ∀ (B' : Option Addr) (d' : Nat), Rd w' w'.heap.size 1 B' nl (ps.map Value.string) → Calls Tryd.prog 21 #[.pointer fo, credV cr A' ng k', .int .i64 cwd, .slice B' nl d'] w' fun e w2 => e = .returned (.tuple #[.int .i64 r1, .string r2, .int .i64 r3]) ∧ Below w'.heap.size w' w2) ∧
      (∀ w', Below w5.heap.size w5 w' → Calls Tryd.prog 23 #[.pointer go, credV cr Ag ng kg, .int .i64 cwd, .slice Al nl cl] w' fun e w2 => e = .returned (.tuple #[.int .i64 r1, .string r2, .int .i64 r3]) ∧ Below w'.heap.size w' w2) := by
    rcases hF5 with ⟨a, rfl⟩ | ⟨a, f, Af, cf, L, rfl, hFS, hFg, hFl, hF64⟩
    · rcases hG with ⟨a2, rfl⟩ | ⟨a2, _⟩
      · exact ⟨.inl ⟨rfl, rfl⟩, 0, ⟨#[]⟩, 2, fun w' _ A' k' _ B' d' _ => find_nil cr A' B' ng k' nl d' cwd w', fun w' _ => rfind_nil cr Ag Al ng kg nl cl cwd w'⟩
      · exact absurd a2 a
    · rcases hG with ⟨a2, rfl⟩ | ⟨a2, g, Ag2, cg2, ls, rfl, hGS, hG, _, _⟩
      · exact absurd a a2
      · have hn65 : F.length ≤ 65 := by rw [hFl]; omega
        exact ⟨.inr ⟨f, g, rfl, rfl⟩, ((Se.find F cr cwd ps).1 : Nat), (Se.find F cr cwd ps).2.1, (Se.find F cr cwd ps).2.2,
          fun w' hb A' k' hr B' d' hr2 => find_any F L _ f cf Af A' B' ng k' nl d' cr cwd ps w' hFg (hFS.belowSz hb) hn65 hr (by unfold maxLen; omega) hr2 (fun x hx => by have := (unhide Hpss) x hx; omega) (by omega),
          fun w' hb => rfind_any F ls _ g cg2 Ag2 Ag Al ng kg nl cl cr cwd ps w' hG (hGS.belowSz hb) hn65 (hgr0 w' hb) (by unfold maxLen; omega) (hpr0 w' hb) (fun x hx => by have := (unhide Hpss) x hx; omega) (by omega)⟩
  obtain ⟨hfg, r1, r2, r3, KF, KRF⟩ := key
  have KCp : ∀ w', Below w5.heap.size w5 w' → Calls Tryd.prog 22 #[.agg #[.int .u32 (cr.uid : Nat), .int .u32 (cr.euid : Nat), .int .u32 (cr.suid : Nat), .int .u32 (cr.gid : Nat), .slice Ag ng kg]] w' fun e w5 => ∃ A' k', e = .returned (.agg #[.int .u32 (cr.uid : Nat), .int .u32 (cr.euid : Nat), .int .u32 (cr.suid : Nat), .int .u32 (cr.gid : Nat), .slice A' ng k']) ∧ Rd w5 w5.heap.size 1 A' ng (cr.groups.map u32v) ∧ Below w'.heap.size w' w5 :=
    fun w' hb => copyCred_any cr Ag ng kg w'.heap.size w' (hgr0 w' hb) (Nat.le_refl _) (by omega)
  have KT := copyTexts_any Al nl cl w5.heap.size ps w5 (Nat.le_refl _) (hpr0 w5 (Below.refl _ _)) (by omega)
  have KE := fun w' (hb : Below w5.heap.size w5 w') (B : Option Addr) (d : Nat) (hr : Rd w' w'.heap.size 1 B nl (ps.map Value.string)) => eqSame_any B Al nl d cl ps w' hr (hpr0 w' hb) hnl
  unfold credV at KF KRF
  have HKF := hide KF
  have HKRF := hide KRF
  have HKCp := hide KCp
  have HKT := hide KT
  have HKE := hide KE
  have r1e : (r1 == r1) = true := beq_self_eq_true _
  have r3e : (r3 == r3) = true := beq_self_eq_true _
  clear KF KRF KCp KT KE hF5 hG hN hb5 HKR HF hgr0 hpr0 S4
  obtain ⟨⟨v0, v1, v2, v3, v4⟩, y0, y1⟩ := (unhide S5).cells
  rcases hfg with ⟨rfl, rfl⟩ | ⟨f, g, rfl, rfl⟩
  all_goals
    go_wp2_with fail
    refine (unhide HKT).mono ?_
    rintro e w6 ⟨A6, c6, rfl, ho6, hb6⟩
    have S6 := hide ((unhide S5).below hb6)
    have Hb56 := hide hb6
    have Hr6 := hide (Rd.of_own ho6)
    clear ho6 hb6 v0 v1 v2 v3 v4 y0 y1
    have HSK : ∀ w', Below w6.heap.size w6 w' → (Below w6.heap.size w6 w' ∧ w'.cell? ⟨w.heap.size, 0, none⟩ = some (.int .u32 (cr.uid : Nat)) ∧ w'.cell? ⟨w.heap.size, 1, none⟩ = some (.int .u32 (cr.euid : Nat)) ∧ w'.cell? ⟨w.heap.size, 2, none⟩ = some (.int .u32 (cr.suid : Nat)) ∧ w'.cell? ⟨w.heap.size, 3, none⟩ = some (.int .u32 (cr.gid : Nat)) ∧ w'.cell? ⟨w.heap.size, 4, none⟩ = some (.slice Ag ng kg) ∧ w'.cell? ⟨w.heap.size + 1, 0, none⟩ = some (.int .i64 cwd) ∧ w'.cell? ⟨w.heap.size + 1, 1, none⟩ = some (.slice Al nl cl)) := by
      intro w' hb
      obtain ⟨⟨a0, a1, a2, a3, a4⟩, b0, b1⟩ := ((unhide S6).below hb).cells
      exact ⟨hb, a0, a1, a2, a3, a4, b0, b1⟩
    have HSK' := hide HSK
    obtain ⟨-, v0, v1, v2, v3, v4, y0, y1⟩ := HSK w6 (Below.refl _ _)
    clear HSK
    go_wp2_with fail
    go_region_held3 (fun w' => Below w6.heap.size w6 w' ∧ w'.cell? ⟨w.heap.size, 0, none⟩ = some (.int .u32 (cr.uid : Nat)) ∧ w'.cell? ⟨w.heap.size, 1, none⟩ = some (.int .u32 (cr.euid : Nat)) ∧ w'.cell? ⟨w.heap.size, 2, none⟩ = some (.int .u32 (cr.suid : Nat)) ∧ w'.cell? ⟨w.heap.size, 3, none⟩ = some (.int .u32 (cr.gid : Nat)) ∧ w'.cell? ⟨w.heap.size, 4, none⟩ = some (.slice Ag ng kg) ∧ w'.cell? ⟨w.heap.size + 1, 0, none⟩ = some (.int .i64 cwd) ∧ w'.cell? ⟨w.heap.size + 1, 1, none⟩ = some (.slice Al nl cl)) (first | exact (unhide HSK') _ (below_drew' (Below.refl _ _)) | exact (unhide HSK') _ (unhide hbn)) (first
      | (go_at_call 22; rename Below _ _ _ ∧ _ => hH; refine ((unhide HKCp) _ ((unhide Hb56).trans (hH.1.mono (unhide Hb56).size))).mono ?_; rintro e w7 ⟨A7, k7, rfl, hr7, hb7⟩; have hbn := hide (hH.1.trans (hb7.mono hH.1.size)); have Hr7 := hide hr7; clear hb7 hr7)
      | (go_at_call 21; rename Below _ _ _ ∧ _ => hH; refine ((unhide HKF) _ ((unhide Hb56).trans (hH.1.mono (unhide Hb56).size)) _ _ (unhide Hr7) _ _ ((unhide Hr6).belowSz hH.1)).mono ?_; rintro e w8 ⟨rfl, hb8⟩; have hbn := hide (hH.1.trans (hb8.mono hH.1.size)); clear hb8))
    have S8 := hide ((unhide S6).below (unhide hbn))
    have Hb58 := hide ((unhide Hb56).trans ((unhide hbn).mono (unhide Hb56).size))
    have Hr8 := hide ((unhide Hr6).belowSz (unhide hbn))
    clear v0 v1 v2 v3 v4 y0 y1
    obtain ⟨⟨v0, v1, v2, v3, v4⟩, y0, y1⟩ := (unhide S8).cells
    go_wp2_with fail
    refine ((unhide HKRF) _ (unhide Hb58)).mono ?_
    rintro e w9 ⟨rfl, hb9⟩
    have S9 := hide ((unhide S8).below hb9)
    have Hb59 := hide ((unhide Hb58).trans (hb9.mono (unhide Hb58).size))
    have KE9 := hide ((unhide HKE) _ (unhide Hb59) A6 c6 ((unhide Hr8).belowSz hb9))
    clear hb9 v0 v1 v2 v3 v4 y0 y1
    obtain ⟨-, y0, y1⟩ := (unhide S9).cells
    go_wp2_with fail
    refine (unhide KE9).mono ?_
    rintro e w10 ⟨rfl, j, rfl⟩
    have S10 := hide ((unhide S9).drewN j)
    clear KE9 y0 y1
    go_wp2_with fail
    refine ((unhide KW) _).mono ?_
    rintro e w11 ⟨rfl, hb11⟩
    have S11 := hide ((unhide S10).below hb11)
    clear hb11
    go_wp2_with fail
    go_ret
    exact ⟨rfl, (unhide S11).bel⟩
end Go.Proofs.YtchmdpkjipaafaaDoor
namespace Go.Proofs.YtchmdpkjipaafaaDoor
set_option linter.unusedVariables false
set_option linter.unusedSimpArgs false
open Go.RowKit

set_option maxRecDepth 100000 in
set_option maxHeartbeats 4000000 in
theorem searchFirst_walk (l : List EntA) (A : Option Addr) (n c : Nat) (cr : Vf.Cred) (Ag : Option Addr) (ng kg : Nat) (cwd : Int) (Al : Option Addr) (nl cl : Nat) (ps : List ByteArray) (w : World) (h : Rd w w.heap.size 7 A n (rowCs entVals l)) (hl : l.length = n) (hnc : n ≤ c) (hcm : c ≤ maxLen) (hin : ∀ s ∈ l, EntIn w s)
    (hg : Rd w w.heap.size 1 Ag ng (cr.groups.map u32v)) (hgk : ng ≤ kg) (hgm : kg ≤ maxLen) (hp : Rd w w.heap.size 1 Al nl (ps.map Value.string)) (hps : ∀ x ∈ ps, x.size ≤ maxLen) (hnl : nl ≤ maxLen) :
    Calls Tryd.prog 5 #[.slice A n c, credV cr Ag ng kg, .agg #[.int .i64 cwd, .slice Al nl cl]] w fun e w' => e = .returned (.bool true) ∧ Below w.heap.size w w' := by
  have S0 := hide (AkS.start w cr Ag ng kg cwd Al nl cl)
  have KL := hide (large_any l A n c w.heap.size _ (h.below (unhide S0).bel) hl (Nat.le_trans hnc hcm) (fun s hs => ⟨(hin s hs).p, Nat.le_trans (hin s hs).nc (hin s hs).c, (hin s hs).t⟩))
  have KA := hide (fun w' (hb : Below w.heap.size w w') => alarge_any cwd Al nl cl w.heap.size ps w' (hp.below hb) hb.size hps hnl)
  have KW := hide (fun w' => sworks_any w')
  have H := hide h
  have Hin := hide hin
  have Hg := hide hg
  have Hl := hide hl
  have Hp := hide hp
  unfold credV
  clear h hin hg hl hp hps
  go_enter Tryd.func5, Tryd.ntmps5
  go_wp2_with fail
  refine (unhide KL).mono ?_
  rintro e w1 ⟨lb, q, rfl, hlb, rfl⟩
  have S1 := hide ((unhide S0).drewN q)
  have Hlb := hide hlb
  clear hlb S0 KL
  generalize ((w.alloc (.cells #[.int .u32 (cr.uid : Nat), .int .u32 (cr.euid : Nat), .int .u32 (cr.suid : Nat), .int .u32 (cr.gid : Nat), .slice Ag ng kg] 34)).alloc (.cells #[.int .i64 cwd, .slice Al nl cl] 36)).drewN q = W1 at *
  obtain ⟨⟨v0, v1, v2, v3, v4⟩, y0, y1⟩ := (unhide S1).cells
  cases lb with
  | true =>
    go_wp2_with fail
    refine ((unhide KW) _).mono ?_
    rintro e w2 ⟨rfl, hb2⟩
    have S2 := hide ((unhide S1).below hb2)
    clear hb2
    go_wp2_with fail
    go_ret
    exact ⟨rfl, (unhide S2).bel⟩
  | false =>
  by_cases hgr : ng ≤ 1024
  case neg =>
    have q1 : (1024 : Int) < (ng : Int) := by omega
    clear hgr
    go_wp2_with fail
    refine ((unhide KW) _).mono ?_
    rintro e w2 ⟨rfl, hb2⟩
    have S2 := hide ((unhide S1).below hb2)
    clear hb2
    go_wp2_with fail
    go_ret
    exact ⟨rfl, (unhide S2).bel⟩
  have q1 : ¬ (1024 : Int) < (ng : Int) := by omega
  go_wp2_with fail
  refine ((unhide KA) _ (unhide S1).bel).mono ?_
  rintro e w2 ⟨ab, rfl, hab, hb2⟩
  have S2 := hide ((unhide S1).below hb2)
  have Hab := hide hab
  clear hb2 hab S1 v0 v1 v2 v3 v4 y0 y1 KA
  cases ab with
  | true =>
    go_wp2_with fail
    refine ((unhide KW) _).mono ?_
    rintro e w3 ⟨rfl, hb3⟩
    have S3 := hide ((unhide S2).below hb3)
    clear hb3
    go_wp2_with fail
    go_ret
    exact ⟨rfl, (unhide S3).bel⟩
  | false =>
  obtain ⟨hn26, hall⟩ := (unhide Hlb) (by first | rfl | trivial)
  obtain ⟨hnl2, hpss⟩ := (unhide Hab) rfl
  have hfit := esFit_of (unhide Hin) hall
  have KC := copyEnts_any l A n c w.heap.size w2 ((unhide H).below (unhide S2).bel) (unhide S2).bel.size (unhide Hl) (by omega) (fun s hs => ⟨((unhide Hin) s hs).d.below (unhide S2).bel, by have := (hall s hs).2.1; omega⟩)
  have Hok := hide (show ∀ w', Below w.heap.size w w' → ∀ s ∈ l, EntOk w' s from fun w' hb s hs => ⟨((unhide Hin) s hs).d.belowSz hb, by have := (hall s hs).2.1; omega, by have := (hall s hs).1; omega, by have := (hall s hs).2.2; omega, ((unhide Hin) s hs).m⟩)
  have HKC := hide KC
  have Hfit := hide hfit
  have Hpss := hide hpss
  clear KC hall hfit Hlb Hab hpss Hin
  go_wp2_with fail
  refine (unhide HKC).mono ?_
  rintro e w3 ⟨A3, c3, l3, rfl, hcp⟩
  obtain ⟨hr3, hok3⟩ := hcp.newArgs (unhide Hfit)
  have hlen3 : l3.length = (l.map (·.e)).length := hcp.len
  have hes64 : (l.map (·.e)).length = n := by rw [List.length_map, unhide Hl]
  have KN := new_any l3 A3 (l.map (·.e)).length c3 w3 (by rw [← hlen3]; exact hr3) hlen3 hok3 (by rw [hes64]; omega)
  rw [hcp.map, hes64] at KN
  obtain ⟨⟨ne, ni, F⟩, hnew⟩ : ∃ r, Vf.new (l.map (·.e)) = r := ⟨_, rfl⟩
  have S3 := hide ((unhide S2).below hcp.bel)
  have HKN := hide KN
  have Hnew := hide hnew
  have Hes := hide hes64
  rw [hes64]
  clear hr3 hok3 KN hlen3 S2 HKC hcp hes64 hnew
  go_wp2_with fail
  refine (unhide HKN).mono ?_
  intro e w4 hN
  obtain ⟨hb4, fo, rfl, hF⟩ := newE_one hN (unhide Hnew)
  have S4 := hide ((unhide S3).below hb4)
  have hsz4 := (unhide S4).bel.size
  clear hN HKN S3 hb4
  rcases hF with ⟨a, rfl⟩ | ⟨a, f, Af, cf, L, rfl, hFS, hF, hFl, hF64⟩
  · clear a
    go_wp2_with fail
    refine ((unhide KW) _).mono ?_
    rintro e w5 ⟨rfl, hb5⟩
    have S5 := hide ((unhide S4).below hb5)
    clear hb5
    go_wp2_with fail
    go_ret
    exact ⟨rfl, (unhide S5).bel⟩
  have hn65 : F.length ≤ 65 := by rw [hFl]; omega
  have hgr0 : ∀ w', Below w4.heap.size w4 w' → Rd w' w'.heap.size 1 Ag ng (cr.groups.map u32v) := fun w' hb => ((unhide Hg).below ((unhide S4).bel.trans (hb.mono hsz4))).more (Nat.le_trans hsz4 hb.size)
  have hpr0 : ∀ w', Below w4.heap.size w4 w' → Rd w' w'.heap.size 1 Al nl (ps.map Value.string) := fun w' hb => ((unhide Hp).below ((unhide S4).bel.trans (hb.mono hsz4))).more (Nat.le_trans hsz4 hb.size)
  have KF := find_any F L _ f cf Af Ag Al ng kg nl cl cr cwd ps w4 hF hFS hn65 (hgr0 _ (Below.refl _ _)) (by unfold maxLen; omega) (hpr0 _ (Below.refl _ _)) (fun x hx => by have := (unhide Hpss) x hx; omega) (by omega)
  have KWk : ∀ w', Below w4.heap.size w4 w' → ∀ x : ByteArray, x.size ≤ 4294967296 → Calls Tryd.prog 24 #[ptrV f, credV cr Ag ng kg, .int .i64 cwd, .string x, .bool true] w' fun e w5 => e = .returned (.tuple #[.int .i64 ((Vf.walk F cr cwd x true).1 : Nat), .int .i64 (Vf.walk F cr cwd x true).2]) ∧ Below w'.heap.size w' w5 :=
    fun w' hb x hx => walk_any F L _ f cf Af Ag ng kg cr cwd x true w' hF (hFS.belowSz hb) hn65 (hgr0 w' hb) (by unfold maxLen; omega) hx
  have KM : ∀ w', Below w4.heap.size w4 w' → ∀ ino : Int, Calls Tryd.prog 25 #[ptrV f, .int .i64 ino] w' fun e w5 => e = .returned (.tuple #[metaV (Vf.metaOf F ino).1, .int .i64 (Vf.metaOf F ino).2]) ∧ Below w'.heap.size w' w5 :=
    fun w' hb ino => meta_any F L f cf _ Af ino w' (hFS.belowSz hb).toR (Nat.le_refl _) hn65 hF.kind
  have KY : ∀ w', Below w4.heap.size w4 w' → ∀ m : Vf.Meta, m.mode < 65536 → Calls Tryd.prog 26 #[credV cr Ag ng kg, metaV m, .int .u8 4] w' fun e w5 => e = .returned (.bool (Vf.mayR cr m)) ∧ Below w'.heap.size w' w5 :=
    fun w' hb m hm => rmay4_any cr m Ag ng kg w'.heap.size w' (hgr0 w' hb) (Nat.le_refl _) (by unfold maxLen; omega) hm
  have hmd := fun ino => meta_mode hF ino
  have hlen : ps.length = nl := by simpa using (unhide Hp).len1
  have hnone : ps.any (Se.good F cr cwd) = false → Se.find F cr cwd ps = (0, ⟨#[]⟩, 19) := Se.find_none
  have hfirst : ∀ (j : Nat) (x : ByteArray), ps[j]? = some x → (ps.take j).any (Se.good F cr cwd) = false → Se.good F cr cwd x = true → Se.find F cr cwd ps = ((Vf.walk F cr cwd x true).1, x, 0) := fun j x => Se.find_first
  obtain ⟨⟨r1, r2, r3⟩, hr⟩ : ∃ r, Se.find F cr cwd ps = r := ⟨_, rfl⟩
  rw [hr] at hnone hfirst KF
  dsimp only at KF
  unfold ptrV at KWk KM
  unfold credV at KF KWk KY
  unfold metaV at KM KY
  have HKF := hide KF
  have HW := hide KWk
  have HM := hide KM
  have HY := hide KY
  have Hmd := hide hmd
  have Hlen := hide hlen
  have Hnone := hide hnone
  have Hfirst := hide hfirst
  have Hpr := hide hpr0
  clear KF KWk KM KY hmd hlen hnone hfirst hr hgr0 hpr0 hFS hF hFl hF64 a hn65
  obtain ⟨⟨v0, v1, v2, v3, v4⟩, y0, y1⟩ := (unhide S4).cells
  go_wp2_with fail
  refine (unhide HKF).mono ?_
  rintro e w5 ⟨rfl, hb5⟩
  have S5 := hide ((unhide S4).below hb5)
  have Hb45 := hide hb5
  clear hb5 v0 v1 v2 v3 v4 y0 y1
  go_wp2_with fail
  go_loopg [13] nl (fun gk iv wr => ∃ j : Nat, gk = nl - j ∧ j ≤ nl ∧ iv = .int .i64 j ∧ (ps.take j).any (Se.good F cr cwd) = false ∧ AkS w cr Ag ng kg cwd Al nl cl wr ∧ Below w4.heap.size w4 wr)
  case atStart => exact ⟨0, by omega, Nat.zero_le _, rfl, by simp, unhide S5, unhide Hb45⟩
  case round =>
  obtain ⟨j, hgk, hj, rfl, hno, hS, hb⟩ := hrel
  have Hgk := hide hgk
  have Hno := hide hno
  have HS := hide hS
  have Hb := hide hb
  clear hgk hno hS hb
  obtain ⟨⟨v0, v1, v2, v3, v4⟩, y0, y1⟩ := (unhide HS).cells
  by_cases hlt : j < nl
  case neg =>
    have hno := unhide Hno
    rw [List.take_of_length_le (by have := unhide Hlen; omega)] at hno
    have hr := (unhide Hnone) hno
    injection hr with e1 e2
    injection e2 with e2 e3
    subst e1 e2 e3
    have ige : ¬ (j : Int) < (nl : Int) := by omega
    clear hno
    go_wp2_with fail
    refine ((unhide KW) _).mono ?_
    rintro e w6 ⟨rfl, hb6⟩
    have S6 := hide ((unhide HS).below hb6)
    clear hb6
    go_wp2_with fail
    go_ret
    exact ⟨rfl, (unhide S6).bel⟩
  obtain ⟨x, hx⟩ : ∃ x, ps[j]? = some x := ⟨_, List.getElem?_eq_getElem (by rw [unhide Hlen]; exact hlt)⟩
  have hxs : x.size ≤ 4294967296 := by have := (unhide Hpss) x (List.mem_of_getElem? hx); omega
  have hat : ∀ w', Below wr.heap.size wr w' → ∃ b1 o1, Al = some ⟨b1, o1, none⟩ ∧ w'.cell? ⟨b1, o1 + j, none⟩ = some (.string x) := fun w' hb => by
    obtain ⟨b1, o1, h1, _, h2⟩ := ((unhide Hpr) w' ((unhide Hb).trans (hb.mono (unhide Hb).size))).at_ (k := j) (u := .string x) (by simp [hx])
    exact ⟨b1, o1, h1, h2⟩
  obtain ⟨b1, o1, rfl, c1⟩ := hat wr (Below.refl _ _)
  have hat2 : ∀ w', Below wr.heap.size wr w' → w'.cell? ⟨b1, o1 + j, none⟩ = some (.string x) := fun w' hb => by
    obtain ⟨b2, o2, h1, h2⟩ := hat w' hb
    obtain ⟨rfl, rfl⟩ : b1 = b2 ∧ o1 = o2 := by simpa using h1
    exact h2
  have ilt : (j : Int) < (nl : Int) := by omega
  have ige : ¬ (j : Int) < 0 := by omega
  have hstep : Se.good F cr cwd x = false → (ps.take (j + 1)).any (Se.good F cr cwd) = false := fun h => by
    rw [List.take_add_one, hx, List.any_append, unhide Hno]
    simp [h]
  have hfnd := (unhide Hfirst) j x hx (unhide Hno)
  obtain ⟨gd, hgd⟩ : ∃ b, Se.good F cr cwd x = b := ⟨_, rfl⟩
  rw [hgd] at hstep hfnd
  unfold Se.good at hgd
  have KW1 := fun w' hb => (unhide HW) w' hb x hxs
  obtain ⟨⟨n1, e1⟩, hw1⟩ : ∃ r, Vf.walk F cr cwd x true = r := ⟨_, rfl⟩
  rw [hw1] at KW1 hgd hfnd
  dsimp only at KW1 hgd hfnd
  have KM1 := fun w' hb => (unhide HM) w' hb (n1 : Nat)
  have hmd1 := (unhide Hmd) (n1 : Nat)
  obtain ⟨⟨⟨mk, mm, mu, mg, ms⟩, me⟩, hm⟩ : ∃ r, Vf.metaOf F (n1 : Nat) = r := ⟨_, rfl⟩
  rw [hm] at KM1 hmd1 hgd
  dsimp only at hgd hmd1 KM1
  have KY1 := fun w' hb => (unhide HY) w' hb ⟨mk, mm, mu, mg, ms⟩ hmd1
  obtain ⟨yb, hyb⟩ : ∃ b, Vf.mayR cr ⟨mk, mm, mu, mg, ms⟩ = b := ⟨_, rfl⟩
  rw [hyb] at KY1 hgd
  dsimp only at KY1
  have HW1 := hide KW1
  have HM1 := hide KM1
  have HY1 := hide KY1
  have Hgd := hide hgd
  have Hstep := hide hstep
  have Hfnd := hide hfnd
  have Hat := hide hat2
  have HSK : ∀ w', Below wr.heap.size wr w' → (Below wr.heap.size wr w' ∧ w'.cell? ⟨w.heap.size, 0, none⟩ = some (.int .u32 (cr.uid : Nat)) ∧ w'.cell? ⟨w.heap.size, 1, none⟩ = some (.int .u32 (cr.euid : Nat)) ∧ w'.cell? ⟨w.heap.size, 2, none⟩ = some (.int .u32 (cr.suid : Nat)) ∧ w'.cell? ⟨w.heap.size, 3, none⟩ = some (.int .u32 (cr.gid : Nat)) ∧ w'.cell? ⟨w.heap.size, 4, none⟩ = some (.slice Ag ng kg) ∧ w'.cell? ⟨w.heap.size + 1, 0, none⟩ = some (.int .i64 cwd) ∧ w'.cell? ⟨w.heap.size + 1, 1, none⟩ = some (.slice (some ⟨b1, o1, none⟩) nl cl) ∧ w'.cell? ⟨b1, o1 + j, none⟩ = some (.string x)) := by
    intro w' hb
    obtain ⟨⟨a0, a1, a2, a3, a4⟩, b0, b1⟩ := ((unhide HS).below hb).cells
    exact ⟨hb, a0, a1, a2, a3, a4, b0, b1, hat2 w' hb⟩
  have HSK' := hide HSK
  clear KW1 KM1 KY1 hgd hstep hfnd hw1 hm hyb hmd1 hx HSK hat hat2 Hfirst
  go_wp2_with fail
  go_region_held3 (fun w' => Below wr.heap.size wr w' ∧ w'.cell? ⟨w.heap.size, 0, none⟩ = some (.int .u32 (cr.uid : Nat)) ∧ w'.cell? ⟨w.heap.size, 1, none⟩ = some (.int .u32 (cr.euid : Nat)) ∧ w'.cell? ⟨w.heap.size, 2, none⟩ = some (.int .u32 (cr.suid : Nat)) ∧ w'.cell? ⟨w.heap.size, 3, none⟩ = some (.int .u32 (cr.gid : Nat)) ∧ w'.cell? ⟨w.heap.size, 4, none⟩ = some (.slice Ag ng kg) ∧ w'.cell? ⟨w.heap.size + 1, 0, none⟩ = some (.int .i64 cwd) ∧ w'.cell? ⟨w.heap.size + 1, 1, none⟩ = some (.slice (some ⟨b1, o1, none⟩) nl cl) ∧ w'.cell? ⟨b1, o1 + j, none⟩ = some (.string x)) (first | exact (unhide HSK') _ (below_drew' (Below.refl _ _)) | exact (unhide HSK') _ (unhide hbn)) (first
    | (go_at_call 24; rename Below _ _ _ ∧ _ => hH; refine ((unhide HW1) _ ((unhide Hb).trans (hH.1.mono (unhide Hb).size))).mono ?_; rintro e w5 ⟨rfl, hb5⟩; have hbn := hide (hH.1.trans (hb5.mono hH.1.size)); clear hb5))
  have S6 := hide ((unhide HS).below (unhide hbn))
  have Hb6 := hide ((unhide Hb).trans ((unhide hbn).mono (unhide Hb).size))
  have Hn6 := hide (unhide hbn)
  clear v0 v1 v2 v3 v4 y0 y1 HSK' hbn c1
  go_wp2_with fail
  refine ((unhide HM1) _ (unhide Hb6)).mono ?_
  rintro e w7 ⟨rfl, hb7⟩
  have hb7' := hb7.alloc hb7.size (.cells #[.int .u8 (mk : Nat), .int .u16 (mm : Nat), .int .u32 (mu : Nat), .int .u32 (mg : Nat), .int .i64 (ms : Nat)] 56)
  have Hm7 := hide (Blk.new w7 56 [.int .u8 (mk : Nat), .int .u16 (mm : Nat), .int .u32 (mu : Nat), .int .u32 (mg : Nat), .int .i64 (ms : Nat)])
  have Hb7 := hide ((unhide Hb6).trans (hb7'.mono (unhide Hb6).size))
  have Hn7 := hide ((unhide Hn6).trans (hb7'.mono (unhide Hn6).size))
  have S7 := hide ((unhide S6).below hb7')
  clear hb7 hb7' Hn6
  by_cases he : e1 = 0
  case neg =>
    have b1' : (e1 == 0) = false := by simpa using he
    have hg0 : gd = false := by rw [← unhide Hgd, decide_eq_false he]; rfl
    have Hno2 := hide ((unhide Hstep) hg0)
    clear he hg0
    go_wp2_with fail
    go_roundg (nl - (j + 1))
    case measure => have := unhide Hgk; omega
    case rel => exact ⟨j + 1, rfl, by omega, by go_num, unhide Hno2, unhide S7, unhide Hb7⟩
  subst he
  have b1' : ((0 : Int) == 0) = true := rfl
  by_cases hk : mk = 1
  case neg =>
    have b2 : (((mk : Nat) : Int) == 1) = false := by rw [beq_eq_false_iff_ne]; omega
    have hg0 : gd = false := by rw [← unhide Hgd, decide_eq_false hk]; simp
    have Hno2 := hide ((unhide Hstep) hg0)
    clear hg0 hk
    go_wp2_with fail
    go_roundg (nl - (j + 1))
    case measure => have := unhide Hgk; omega
    case rel => exact ⟨j + 1, rfl, by omega, by go_num, unhide Hno2, unhide S7, unhide Hb7⟩
  have b2 : (((mk : Nat) : Int) == 1) = true := by rw [hk]; rfl
  have hg1 : gd = yb := by rw [← unhide Hgd, decide_eq_true hk]; simp
  have Ky := hide ((unhide HY1) _ (unhide Hb7))
  obtain ⟨⟨v0, v1, v2, v3, v4⟩, -, -⟩ := (unhide S7).cells
  subst hg1
  clear hk
  go_wp2_with fail
  refine (unhide Ky).mono ?_
  rintro e w8 ⟨rfl, hb8⟩
  have S8 := hide ((unhide S7).below hb8)
  have Hb8 := hide ((unhide Hb7).trans (hb8.mono (unhide Hb7).size))
  have c8 := (unhide Hat) _ ((unhide Hn7).trans (hb8.mono (unhide Hn7).size))
  clear hb8 v0 v1 v2 v3 v4 Ky
  cases gd with
  | false =>
    have Hno2 := hide ((unhide Hstep) rfl)
    go_wp2_with fail
    go_roundg (nl - (j + 1))
    case measure => have := unhide Hgk; omega
    case rel => exact ⟨j + 1, rfl, by omega, by go_num, unhide Hno2, unhide S8, unhide Hb8⟩
  | true =>
    have hr := (unhide Hfnd) rfl
    injection hr with e1 e2
    injection e2 with e2 e3
    subst e1 e2 e3
    obtain ⟨-, y0, y1⟩ := (unhide S8).cells
    have q5 : (((r1 : Nat) : Int) == ((r1 : Nat) : Int)) = true := beq_self_eq_true _
    go_wp2_with fail
    refine ((unhide KW) _).mono ?_
    rintro e w9 ⟨rfl, hb9⟩
    have S9 := hide ((unhide S8).below hb9)
    clear hb9
    go_wp2_with fail
    go_ret
    exact ⟨rfl, (unhide S9).bel⟩
end Go.Proofs.YtchmdpkjipaafaaDoor
namespace Go.Proofs.YtchmdpkjipaafaaDoor
set_option linter.unusedVariables false
set_option linter.unusedSimpArgs false
open Go.RowKit Go.ChangeShapes Go.WideShapes Go.Joins Go.Deep

theorem nameFields : ∃ fs, Tryd.prog.underlying 23 = some (.struct fs) ∧ oneCellFields Tryd.prog fs = true ∧ Tryd.prog.cellsOf 23 = fs.size ∧ fs.map (·.type) = #[9, 9, 9] :=
  ⟨_, Tryd.underlying23, by kernel_rfl, by kernel_rfl, by kernel_rfl⟩
theorem askFields : ∃ fs, Tryd.prog.underlying 36 = some (.struct fs) ∧ oneCellFields Tryd.prog fs = true ∧ Tryd.prog.cellsOf 36 = fs.size ∧ fs.map (·.type) = #[3, 25] :=
  ⟨_, Tryd.underlying36, by kernel_rfl, by kernel_rfl, by kernel_rfl⟩
section
variable {H : Type} {enc : TypeId × Value → H} {w : World} {base : Nat} {held : Bool}
set_option maxRecDepth 100000 in
theorem open_name_rd {r : Reach} {b0 : Nat} {v : Value} {d : DataW H} {p : List MemPlace} (hv : Value.okWide Tryd.prog w r b0 23 v) (h : DataW.Trod enc Tryd.prog w base (fun _ => true) held 23 v d p) :
    ∃ a b c : ByteArray, v = .agg #[.string a, .string b, .string c] := by
  obtain ⟨cs, rfl, hsz⟩ := okWide_struct Tryd.underlying23 hv
  obtain ⟨fuel, hf⟩ := h
  obtain ⟨hl, n, hf⟩ := flds_vals _ nameFields hf
  have e2 : ∃ c0 c1 c2, cs = #[c0, c1, c2] := by
    obtain ⟨l⟩ := cs
    match l, hl with
    | [c0, c1, c2], _ => exact ⟨c0, c1, c2, rfl⟩
  obtain ⟨c0, c1, c2, rfl⟩ := e2
  obtain ⟨y0, h0⟩ := hf 0 9 c0 rfl rfl
  obtain ⟨y1, h1⟩ := hf 1 9 c1 rfl rfl
  obtain ⟨y2, h2⟩ := hf 2 9 c2 rfl rfl
  obtain ⟨s, rfl, bs⟩ := fstr_is Tryd.underlying9 h0
  obtain ⟨s', rfl, bs'⟩ := fstr_is Tryd.underlying9 h1
  obtain ⟨s'', rfl, bs''⟩ := fstr_is Tryd.underlying9 h2
  exact ⟨s, s', s'', rfl⟩
set_option maxRecDepth 100000 in
theorem open_ask_rd {r : Reach} {b0 : Nat} {v : Value} {d : DataW H} {p : List MemPlace} (hv : Value.okWide Tryd.prog w r b0 36 v) (h : DataW.Trod enc Tryd.prog w base (fun _ => true) held 36 v d p) :
    ∃ (cwd : Int) (A : Option Addr) (n c : Nat) (l : List ByteArray), v = .agg #[.int .i64 cwd, .slice A n c] ∧ Rd w w.heap.size 1 A n (l.map Value.string) ∧ n ≤ c ∧ c ≤ maxLen ∧ ∀ x ∈ l, x.size ≤ maxLen := by
  obtain ⟨cs, rfl, hsz⟩ := okWide_struct Tryd.underlying36 hv
  obtain ⟨fuel, hf⟩ := h
  obtain ⟨hl, n, hf⟩ := flds_vals _ askFields hf
  have e2 : ∃ c0 c1, cs = #[c0, c1] := by
    obtain ⟨l⟩ := cs
    match l, hl with
    | [c0, c1], _ => exact ⟨c0, c1, rfl⟩
  obtain ⟨c0, c1, rfl⟩ := e2
  obtain ⟨y0, h0⟩ := hf 0 3 c0 rfl rfl
  obtain ⟨y1, h1⟩ := hf 1 25 c1 rfl rfl
  obtain ⟨a, rfl, ba⟩ := fint_is Tryd.underlying3 h0
  obtain ⟨A, m, c, rfl⟩ := fslice_is Tryd.underlying25 h1
  obtain ⟨x, w1, wc, wm, we⟩ := open_strs_rd (d := y1.1) (p := y1.2) Tryd.underlying25 Tryd.underlying9 (by kernel_rfl) ⟨n, h1⟩
  exact ⟨a, A, m, c, x, rfl, w1, wc, wm, we⟩
end
end Go.Proofs.YtchmdpkjipaafaaDoor
