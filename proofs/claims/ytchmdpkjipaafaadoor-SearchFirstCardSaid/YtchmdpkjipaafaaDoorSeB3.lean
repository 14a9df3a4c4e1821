/- Part by part: the walk of along. Conditions: as it says. Where a path leads: the walk of Walk. Conditions: as it says. The walk of slices.Clone of bytes. Conditions: no more than 2^32 bytes. Free of any chapter. The bytes of a file: the walk of Read. Conditions: as it says. The walk of search.Find. Conditions: those of the file system and of the groups; the texts have fewer than 2^32 bytes. What an argument that is a struct, or a slice of structs, reads as, where each field is one cell. No conditions. Free of any chapter. Which entries may be: the walk of parts. Conditions: as it says. A file system that gets one node more: what holds of its memory. No conditions beyond those named. A file system that gets one node more: put together behind the walk's last store. No conditions beyond those named. One entry more: the walk of add. Conditions: as it says. A file system of entries: the walk of New. Conditions: as it says. What the arguments of the chapter's laws read as: credentials, a way, two numbers, entries. No conditions. -/
import Derived.Test.YtchmdpkjipaafaaDoorSeB2
import Derived.Test.YtchmdpkjipaafaaDoorSeB1
import Derived.Deep.RegionHeld3
import Derived.Lib.SliceRun
import Derived.Deep.Slices
import Derived.Lib.SmallJoins
import Derived.StillTailTactics
import Derived.Deep.LoopGhost
import Derived.Laws.IdiomArrays
namespace Go.Proofs.YtchmdpkjipaafaaDoor
set_option linter.unusedVariables false
set_option linter.unusedSimpArgs false
open Go.RowKit

theorem as_link (v : Value) (w : World) : (Instr.typeAssert (.iface 110 v) 91 110 true).run Tryd.prog w = .ok (.tuple #[v, .bool true]) w := by
  simp [Instr.typeAssert, run_underlying Tryd.underlying110, go_sem, Result.andThen]
theorem zero_link (w : World) : (zeroValue 110).run Tryd.prog w = .ok (.pointer none) w := by kernel_rfl
theorem file_no_link (v : Value) (w : World) : (Instr.typeAssert (.iface 107 v) 91 110 true).run Tryd.prog w = .ok (.tuple #[.pointer none, .bool false]) w := by
  simp [Instr.typeAssert, run_underlying Tryd.underlying110, zero_link, go_sem, Result.andThen]
theorem dir_no_link (v : Value) (w : World) : (Instr.typeAssert (.iface 68 v) 91 110 true).run Tryd.prog w = .ok (.tuple #[.pointer none, .bool false]) w := by
  simp [Instr.typeAssert, run_underlying Tryd.underlying110, zero_link, go_sem, Result.andThen]

theorem strs_one (l : List ByteArray) : ∀ u ∈ l.map Value.string, u.oneCell' = true := by
  intro u hu
  obtain ⟨x, _, rfl⟩ := List.mem_map.1 hu
  rfl
/-- along's first answer. -/
def alV (F : List Vf.Nd) (L : List Pl) (r : Int × Nat) : Value := if r.1 = 0 then ndA F L r.2 else .nilIface
/-- Where the walk stands: the state's three slots, in the world W. -/
structure AlS (w : World) (F : List Vf.Nd) (L : List Pl) (cr : Vf.Cred) (Ag : Option Addr) (ng kg : Nat) (last : Bool) (r : Int × Nat) (M : Nat) (s : Vf.St) (A : Option Addr) (c1 : Nat) (W : World) : Prop where
  b : Below w.heap.size w W
  cb : Blk W w.heap.size 34 [.int .u32 (cr.uid : Nat), .int .u32 (cr.euid : Nat), .int .u32 (cr.suid : Nat), .int .u32 (cr.gid : Nat), .slice Ag ng kg]
  rd : Rd W W.heap.size 1 A s.left.length (s.left.map Value.string)
  at_ : s.at_ < F.length
  lk : s.links ≤ 8
  mu : Vf.mu s ≤ M
  r : Vf.ends F cr last s = r
  cap : s.left.length ≤ c1
theorem AlS.below {w : World} {F : List Vf.Nd} {L : List Pl} {cr : Vf.Cred} {Ag : Option Addr} {ng kg : Nat} {last : Bool} {r : Int × Nat} {M : Nat} {s : Vf.St} {A : Option Addr} {c1 : Nat} {W W' : World} (h : AlS w F L cr Ag ng kg last r M s A c1 W) (hb : Below W.heap.size W W') : AlS w F L cr Ag ng kg last r M s A c1 W' :=
  ⟨h.b.trans (hb.mono h.b.size), h.cb.belowSz hb, h.rd.belowSz hb, h.at_, h.lk, h.mu, h.r, h.cap⟩
theorem AlS.len {w : World} {F : List Vf.Nd} {L : List Pl} {cr : Vf.Cred} {Ag : Option Addr} {ng kg : Nat} {last : Bool} {r : Int × Nat} {M : Nat} {s : Vf.St} {A : Option Addr} {c1 : Nat} {W : World} (h : AlS w F L cr Ag ng kg last r M s A c1 W) : s.left.length ≤ M := by
  have := h.mu
  unfold Vf.mu at this
  omega
/-- An end. -/
theorem AlS.stop {w : World} {F : List Vf.Nd} {L : List Pl} {cr : Vf.Cred} {Ag : Option Addr} {ng kg : Nat} {last : Bool} {r x : Int × Nat} {M : Nat} {s : Vf.St} {A : Option Addr} {c1 : Nat} {W : World} (h : AlS w F L cr Ag ng kg last r M s A c1 W) (hh : Vf.hop F cr last s = .inl x) : r = x := by
  rw [← h.r, Vf.ends_eq, hh]
theorem AlS.next {w : World} {F : List Vf.Nd} {L : List Pl} {cr : Vf.Cred} {Ag : Option Addr} {ng kg : Nat} {last : Bool} {r : Int × Nat} {M : Nat} {s s' : Vf.St} {A : Option Addr} {c1 : Nat} {W : World} (h : AlS w F L cr Ag ng kg last r M s A c1 W) (hh : Vf.hop F cr last s = .inr s') : Vf.ends F cr last s' = r ∧ Vf.mu s' < Vf.mu s := by
  refine ⟨?_, Vf.hop_mu hh⟩
  rw [← h.r, Vf.ends_eq F cr last s, hh]
set_option maxRecDepth 100000 in
set_option maxHeartbeats 4000000 in
theorem along_any (F : List Vf.Nd) (L : List Pl) (lo f c : Nat) (A Ag A' : Option Addr) (ng kg c' : Nat) (cr : Vf.Cred) (i0 : Nat) (x0 : Vf.Nd) (p0 : Pl) (l : List ByteArray) (last : Bool) (w : World) (hF : Vf.Good F) (h : FsM w lo f A c F L) (hn : F.length ≤ 65)
    (hx0 : F[i0]? = some x0) (hp0 : L[i0]? = some p0) (hk0 : x0.m.kind = 2) (hl : Rd w w.heap.size 1 A' l.length (l.map Value.string)) (hll : l.length ≤ 201) (hcap : l.length ≤ c') (hg : Rd w w.heap.size 1 Ag ng (cr.groups.map u32v)) (hng : ng ≤ maxLen) :
    Calls Tryd.prog 46 #[ptrV f, credV cr Ag ng kg, ptrV p0.q, .slice A' l.length c', .bool last] w fun e w' => e = .returned (.tuple #[alV F L (Vf.ends F cr last ⟨i0, 0, l⟩), .int .i64 (Vf.ends F cr last ⟨i0, 0, l⟩).1]) ∧ Below w.heap.size w w' := by
  have KMay : ∀ (i : Nat) (x : Vf.Nd), F[i]? = some x → ∀ w', Below w.heap.size w w' → Calls Tryd.prog 39 #[.agg #[.int .u32 (cr.uid : Nat), .int .u32 (cr.euid : Nat), .int .u32 (cr.suid : Nat), .int .u32 (cr.gid : Nat), .slice Ag ng kg], .agg #[.int .u8 (x.m.kind : Nat), .int .u16 (x.m.mode : Nat), .int .u32 (x.m.uid : Nat), .int .u32 (x.m.gid : Nat), .int .i64 (x.m.size : Nat)], .int .u8 1] w' fun e w2 => e = .returned (.bool (Vf.mayX cr x.m)) ∧ Below w'.heap.size w' w2 :=
    fun i x hx w' hb => may_any cr x.m Ag ng kg w.heap.size w' (hg.below hb) hb.size hng (hF.mode i x hx)
  obtain ⟨pr, hpr, _, _⟩ := h.at_ hF.r
  have hrk := Vf.root_dir hF
  rw [Vf.kindAt_eq hF.r] at hrk
  have KRoot : ∀ w', Below w.heap.size w w' → Calls Tryd.prog 44 #[.pointer (some ⟨f, 0, none⟩)] w' fun e w2 => e = .returned (.pointer (some ⟨pr.q, 0, none⟩)) ∧ w' = w2 :=
    fun w' hb => root_any F L f c w'.heap.size A w' (h.belowSz hb).toR hn _ pr hF.r hpr hrk
  have e00 : ndA F L 0 = .iface 68 (.pointer (some ⟨pr.q, 0, none⟩)) := by
    rw [h.ndA_eq hF.r hpr]
    rfl
  have He00 := hide e00
  have S0 : AlS w F L cr Ag ng kg last (Vf.ends F cr last ⟨i0, 0, l⟩) (Vf.mu ⟨i0, 0, l⟩) ⟨i0, 0, l⟩ A' c' (w.alloc (.cells #[.int .u32 (cr.uid : Nat), .int .u32 (cr.euid : Nat), .int .u32 (cr.suid : Nat), .int .u32 (cr.gid : Nat), .slice Ag ng kg] 34)) :=
    ⟨(Below.refl _ _).alloc (Nat.le_refl _) _, Blk.new w 34 [.int .u32 (cr.uid : Nat), .int .u32 (cr.euid : Nat), .int .u32 (cr.suid : Nat), .int .u32 (cr.gid : Nat), .slice Ag ng kg], (hl.below ((Below.refl _ _).alloc (Nat.le_refl _) _)).more (by simp), (List.getElem?_eq_some_iff.1 hx0).1, Nat.zero_le _, Nat.le_refl _, rfl, hcap⟩
  have hM : Vf.mu ⟨i0, 0, l⟩ ≤ 1817 := by unfold Vf.mu; simp only; omega
  have e0 : ndA F L i0 = .iface 68 (.pointer (some ⟨p0.q, 0, none⟩)) := by
    rw [h.ndA_eq hx0 hp0]
    unfold kindT
    rw [if_pos hk0]
  obtain ⟨r, hr⟩ : ∃ r, Vf.ends F cr last ⟨i0, 0, l⟩ = r := ⟨_, rfl⟩
  obtain ⟨M, hMe⟩ : ∃ M, Vf.mu ⟨i0, 0, l⟩ = M := ⟨_, rfl⟩
  obtain ⟨re, rn⟩ := r
  rw [hr] at S0 ⊢
  rw [hMe] at S0 hM
  dsimp only
  have HS0 := hide S0
  have HF := hide hF
  have H := hide h
  have HKM := hide KMay
  have HKR := hide KRoot
  have He0 := hide e0.symm
  have HMe := hide hMe
  obtain ⟨av, hav⟩ : ∃ v, alV F L (re, rn) = v := ⟨_, rfl⟩
  have Hav := hide hav
  rw [hav]
  obtain ⟨nl, hnl⟩ : ∃ n, l.length = n := ⟨_, rfl⟩
  have Hnl := hide hnl
  rw [hnl]
  unfold credV ptrV
  clear hr hMe S0 hF h KMay KRoot e00 hrk hpr hx0 hp0 hk0 hl hg e0 hav hnl
  go_enter Tryd.func46, Tryd.ntmps46
  go_wp2_with fail
  go_loopg [3, 12, 13] M (fun gk lv nv kv wr => ∃ (s : Vf.St) (A1 : Option Addr) (c1 : Nat), gk = Vf.mu s ∧ lv = .slice A1 s.left.length c1 ∧ nv = ndA F L s.at_ ∧ kv = .int .i64 (s.links : Nat) ∧ AlS w F L cr Ag ng kg last (re, rn) M s A1 c1 wr)
  case atStart => exact ⟨⟨i0, 0, l⟩, A', c', (unhide HMe).symm, by rw [← unhide Hnl], (unhide He0), rfl, unhide HS0⟩
  case round =>
  obtain ⟨s, A1, c1, hgk, rfl, rfl, rfl, hS⟩ := hrel
  have HS := hide hS
  have hat := hS.at_
  have hlen := hS.len
  obtain ⟨x, hx⟩ : ∃ x, F[s.at_]? = some x := ⟨_, List.getElem?_eq_getElem hat⟩
  obtain ⟨p, hp, _, _⟩ := (unhide H).at_ hx
  have e1 := (unhide H).ndA_eq hx hp
  have Hx := hide hx
  have Hp := hide hp
  have Hgk := hide hgk
  cases hleft : s.left with
  | nil =>
    obtain ⟨rfl, rfl⟩ : re = 0 ∧ rn = s.at_ := by
      have := hS.stop (Vf.hop_nil hleft)
      injection this with a b
      exact ⟨a, b⟩
    have hz : alV F L (0, s.at_) = ndA F L s.at_ := by unfold alV; rw [if_pos rfl]
    rw [hz] at Hav
    rw [unhide Hav]
    simp only [List.length_nil]
    have Hb := hide hS.b
    clear hS hz hx hp e1 hgk hlen hat hleft
    go_wp2_with fail
    go_ret2
    exact ⟨rfl, unhide Hb⟩
  | cons pn rest =>
    have hl1 : s.left.length = rest.length + 1 := by rw [hleft]; rfl
    have Hleft := hide hleft
    obtain ⟨m, hm⟩ : ∃ m, rest.length = m := ⟨_, rfl⟩
    have Hm := hide hm
    have hmM : m < M := by omega
    simp only [List.length_cons]
    rw [hm]
    have g1 : (0 : Int) < (m : Int) + 1 := by omega
    have gl : ((m + 1 : Nat) : Int) = (m : Int) + 1 := by omega
    by_cases hk2 : x.m.kind = 2
    · have et : kindT x.m.kind = 68 := by rw [hk2]; rfl
      rw [et] at e1
      rw [e1]
      have ha := is_dir (.pointer (some ⟨p.q, 0, none⟩))
      have hka : Vf.kindAt F s.at_ = 2 := (Vf.kindAt_eq hx).trans hk2
      have hnd : Vf.nd F s.at_ = x := Vf.nd_eq hx
      have HW := hide ((unhide H).belowSz hS.b)
      obtain ⟨_, u, hu, hb⟩ := (unhide HW).nd s.at_ x p hx hp
      have hcb := hS.cb
      have KM := (unhide HKM) s.at_ x hx
      obtain ⟨bm, hbm⟩ : ∃ b, Vf.mayX cr x.m = b := ⟨_, rfl⟩
      rw [hbm] at KM
      have Hbm := hide hbm
      have HSK : ∀ w', Below wr.heap.size wr w' → (Below wr.heap.size wr w' ∧ w'.cell? ⟨w.heap.size, 0, none⟩ = some (.int .u32 (cr.uid : Nat)) ∧ w'.cell? ⟨w.heap.size, 1, none⟩ = some (.int .u32 (cr.euid : Nat)) ∧ w'.cell? ⟨w.heap.size, 2, none⟩ = some (.int .u32 (cr.suid : Nat)) ∧ w'.cell? ⟨w.heap.size, 3, none⟩ = some (.int .u32 (cr.gid : Nat)) ∧ w'.cell? ⟨w.heap.size, 4, none⟩ = some (.slice Ag ng kg) ∧ w'.cell? ⟨p.q, 0, none⟩ = some (.int .u8 (x.m.kind : Nat)) ∧ w'.cell? ⟨p.q, 1, none⟩ = some (.int .u16 (x.m.mode : Nat)) ∧ w'.cell? ⟨p.q, 2, none⟩ = some (.int .u32 (x.m.uid : Nat)) ∧ w'.cell? ⟨p.q, 3, none⟩ = some (.int .u32 (x.m.gid : Nat)) ∧ w'.cell? ⟨p.q, 4, none⟩ = some (.int .i64 (x.m.size : Nat))) := by
        intro w' hbw
        have h1 := hcb.belowSz hbw
        have h2 := ndCells (hb.belowSz hbw)
        exact ⟨hbw, h1.cell rfl, h1.cell rfl, h1.cell rfl, h1.cell rfl, h1.cell rfl, h2⟩
      obtain ⟨-, a0, a1, a2, a3, a4, b0, b1, b2, b3, b4⟩ := HSK wr (Below.refl _ _)
      have hbW := hS.b
      have HKM2 := hide (fun w' (hbw : Below wr.heap.size wr w') => KM w' (hbW.trans (hbw.mono hbW.size)))
      have HbW := hide hbW
      have Hka := hide hka
      have Hnd := hide hnd
      have HSK' := hide HSK
      have HeS := hide ((unhide H).ndA_eq hx hp |>.trans (by rw [hk2]; rfl : _ = Value.iface 68 (.pointer (some ⟨p.q, 0, none⟩))))
      have Hk2 := hide hk2
      have Hu := hide hu
      have Hb := hide hb
      clear hS hx hp hgk hlen hat hleft hu hb hcb KM hbm HSK hbW hka hnd e1 et hk2 hm hl1 hll hn
      go_wp2_with fail
      go_region_held3 (fun w' => Below wr.heap.size wr w' ∧ w'.cell? ⟨w.heap.size, 0, none⟩ = some (.int .u32 (cr.uid : Nat)) ∧ w'.cell? ⟨w.heap.size, 1, none⟩ = some (.int .u32 (cr.euid : Nat)) ∧ w'.cell? ⟨w.heap.size, 2, none⟩ = some (.int .u32 (cr.suid : Nat)) ∧ w'.cell? ⟨w.heap.size, 3, none⟩ = some (.int .u32 (cr.gid : Nat)) ∧ w'.cell? ⟨w.heap.size, 4, none⟩ = some (.slice Ag ng kg) ∧ w'.cell? ⟨p.q, 0, none⟩ = some (.int .u8 (x.m.kind : Nat)) ∧ w'.cell? ⟨p.q, 1, none⟩ = some (.int .u16 (x.m.mode : Nat)) ∧ w'.cell? ⟨p.q, 2, none⟩ = some (.int .u32 (x.m.uid : Nat)) ∧ w'.cell? ⟨p.q, 3, none⟩ = some (.int .u32 (x.m.gid : Nat)) ∧ w'.cell? ⟨p.q, 4, none⟩ = some (.int .i64 (x.m.size : Nat))) (first | exact (unhide HSK') _ (below_drew' (Below.refl _ _)) | exact (unhide HSK') _ (unhide hbn)) (first
        | (go_at_call 39; rename Below _ _ _ ∧ _ => hH; refine ((unhide HKM2) _ hH.1).mono ?_; rintro e w2 ⟨rfl, hb2⟩; have hbn := hide (hH.1.trans (hb2.mono hH.1.size))))
      have HS2 := hide ((unhide HS).below (unhide hbn))
      have HW2 := hide ((unhide HW).belowSz (unhide hbn))
      have Hb2 := hide ((unhide Hb).belowSz (unhide hbn))
      clear a0 a1 a2 a3 a4 b0 b1 b2 b3 b4
      cases bm with
      | false =>
        obtain ⟨rfl, rfl⟩ : re = 5 ∧ rn = 0 := by
          have := (unhide HS).stop (Vf.hop_shut (unhide Hleft) (unhide Hka) (by rw [unhide Hnd]; exact unhide Hbm))
          injection this with a b
          exact ⟨a, b⟩
        have Hb3 := hide (unhide HS2).b
        have hz : alV F L (5, 0) = .nilIface := rfl
        rw [hz] at Hav
        have hv := unhide Hav
        subst hv
        clear hz
        go_wp2_with fail
        go_ret2
        exact ⟨rfl, unhide Hb3⟩
      | true =>
        have hrd := (unhide HS2).rd
        rw [unhide Hleft, List.length_cons, unhide Hm, List.map_cons] at hrd
        have hcp := (unhide HS2).cap
        rw [unhide Hleft, List.length_cons, unhide Hm] at hcp
        have hsl := fun w' => run_tail (P := Tryd.prog) (e := 9) Tryd.underlying25 (by kernel_rfl) A1 m c1 w'
        have hrt := hrd.tail hcp
        obtain ⟨bL, oL, hA1, _, cL⟩ := hrd.at_ (k := 0) (u := .string pn) rfl
        obtain ⟨A2, hA2⟩ : ∃ A2, tailA A1 c1 = A2 := ⟨_, rfl⟩
        rw [hA2] at hsl hrt
        rw [Nat.add_zero] at cL
        subst hA1
        have Hrt := hide hrt
        have Hcp := hide hcp
        clear hrd hA2 hrt hcp
        have hdq : (pn.toList == [46, 46]) = decide (pn = Vf.dd) := by
          have h := beq_toList pn Vf.dd
          rwa [show Vf.dd.toList = [46, 46] by rw [Lib.toList_data]; rfl] at h
        have hml : ∀ (s' : Vf.St), Vf.hop F cr last s = .inr s' → Vf.mu s' < Vf.mu s := fun s' h => Vf.hop_mu h
        by_cases hd : pn = Vf.dd
        · rw [decide_eq_true hd] at hdq
          obtain ⟨hul, hud⟩ := Vf.up_lt (unhide HF) (unhide Hx)
          obtain ⟨xu, hxu, hxk⟩ := Vf.kindAt_lt hud
          have eu := (unhide H).ndA_eq hxu (unhide Hu)
          rw [hxk] at eu
          have c6 : w2.cell? ⟨p.q, 6, none⟩ = some (.pointer (some ⟨u.q, 0, none⟩)) := (unhide Hb2).cell rfl
          have hnx := (unhide HS).next (Vf.hop_up (unhide Hleft) (unhide Hka) (by rw [unhide Hnd]; exact unhide Hbm) hd)
          rw [unhide Hnd] at hnx
          have HN : Hid (AlS w F L cr Ag ng kg last (re, rn) M ⟨x.up, s.links, rest⟩ A2 (c1 - 1) w2) :=
            hide ⟨(unhide HS2).b, (unhide HS2).cb, by rw [unhide Hm]; exact unhide Hrt, hul, (unhide HS2).lk, Nat.le_trans (Nat.le_of_lt hnx.2) (unhide HS2).mu, hnx.1, by rw [unhide Hm]; have := unhide Hcp; omega⟩
          have Hnx := hide hnx.2
          have Heu := hide eu
          clear hd hul hud hxu hxk eu hnx hml
          go_wp2_with fail
          go_roundg (Vf.mu ⟨x.up, s.links, rest⟩)
          case rel => exact ⟨⟨x.up, s.links, rest⟩, A2, c1 - 1, rfl, by rw [unhide Hm], (unhide Heu).symm, rfl, unhide HN⟩
          case measure => rw [unhide Hgk]; exact unhide Hnx
        · rw [decide_eq_false hd] at hdq
          have c8 : w2.cell? ⟨p.q, 8, none⟩ = some (lastV x p) := (unhide Hb2).cell rfl
          have e8 : lastV x p = .map (some p.g) := by unfold lastV; rw [if_pos (unhide Hk2)]
          rw [e8] at c8
          have hml : Vf.mayX cr (Vf.nd F s.at_).m = true := by rw [unhide Hnd]; exact unhide Hbm
          cases hc : Vf.child F s.at_ pn with
          | none =>
            have hlk := look_no (unhide HF) (unhide HW2) (unhide Hx) (unhide Hp) (unhide Hk2) hc
            obtain ⟨rfl, rfl⟩ : re = 3 ∧ rn = 0 := by
              have := (unhide HS).stop (Vf.hop_none (unhide Hleft) (unhide Hka) hml hd hc)
              injection this with a b
              exact ⟨a, b⟩
            have Hb3 := hide (unhide HS2).b
            have hz : alV F L (3, 0) = .nilIface := rfl
            rw [hz] at Hav
            have hv := unhide Hav
            subst hv
            clear hz e8 hd hc hml
            go_wp2_with fail
            go_ret2
            exact ⟨rfl, unhide Hb3⟩
          | some j =>
            obtain ⟨xj, pj, hxj, hpj, hlk⟩ := look_yes (unhide HF) (unhide HW2) (unhide Hx) (unhide Hp) (unhide Hk2) hc
            have hjl := (List.getElem?_eq_some_iff.1 hxj).1
            have ej : ndV xj pj = .iface (kindT xj.m.kind) (.pointer (some ⟨pj.q, 0, none⟩)) := rfl
            have ejA := (unhide H).ndA_eq hxj hpj
            have Hxj := hide hxj
            have Hpj := hide hpj
            have HeA := hide ejA
            rw [ej] at hlk
            have HIn : Hid (Vf.kindAt F j ≠ 3 ∨ (rest = [] ∧ last = false) → AlS w F L cr Ag ng kg last (re, rn) M ⟨j, s.links, rest⟩ A2 (c1 - 1) w2 ∧ Vf.mu ⟨j, s.links, rest⟩ < Vf.mu s) := hide (fun h3 => by
              have hnx := (unhide HS).next (Vf.hop_in (unhide Hleft) (unhide Hka) hml hd hc h3)
              exact ⟨⟨(unhide HS2).b, (unhide HS2).cb, by rw [unhide Hm]; exact unhide Hrt, hjl, (unhide HS2).lk, Nat.le_trans (Nat.le_of_lt hnx.2) (unhide HS2).mu, hnx.1, by rw [unhide Hm]; have := unhide Hcp; omega⟩, hnx.2⟩)
            have Hd := hide hd
            have Hml := hide hml
            have Hc := hide hc
            have Hjl := hide hjl
            by_cases hk3 : xj.m.kind = 3
            · have et : kindT xj.m.kind = 110 := by rw [hk3]; rfl
              rw [et] at hlk
              have Het := hide et
              have ha1 := as_link (.pointer (some ⟨pj.q, 0, none⟩))
              obtain ⟨_, uj, _, hbj⟩ := (unhide HW2).nd j xj pj hxj hpj
              have cto : w2.cell? ⟨pj.q, 8, none⟩ = some (lastV xj pj) := hbj.cell rfl
              have e9 : lastV xj pj = .string xj.to := by unfold lastV; rw [if_neg (by omega), if_neg (by omega)]
              rw [e9] at cto
              have hk3' : Vf.kindAt F j = 3 := (Vf.kindAt_eq hxj).trans hk3
              have hndj : Vf.nd F j = xj := Vf.nd_eq hxj
              have hto : xj.to.size ≤ 200 := Pth.chk_size _ ((unhide HF).to j xj hxj hk3)
              by_cases hin : rest = [] ∧ last = false
              · have h3 := (unhide HIn) (.inr hin)
                have HN := hide h3.1
                have Hnx := hide h3.2
                have hm0 : m = 0 := by rw [← unhide Hm, hin.1]; rfl
                have hq0 : ((m : Int) == 0) = true := by rw [hm0]; rfl
                have hla : last = false := hin.2
                clear et h3 hk3 hc hjl ejA hxj hpj hml hd e8 ej hbj e9 hk3' hndj hto hin hm0
                subst hla
                go_wp2_with fail
                go_roundg (Vf.mu ⟨j, s.links, rest⟩)
                case rel => exact ⟨⟨j, s.links, rest⟩, A2, c1 - 1, rfl, by rw [unhide Hm], by rw [unhide HeA, unhide Het], rfl, unhide HN⟩
                case measure => rw [unhide Hgk]; exact unhide Hnx
              · have hno : ¬ (Vf.kindAt F j ≠ 3 ∨ (rest = [] ∧ last = false)) := by
                  rintro (h | h)
                  · exact h hk3'
                  · exact hin h
                have hpick : ((m : Int) == 0) = false ∨ ((m : Int) == 0) = true ∧ last = true := by
                  by_cases hm0 : m = 0
                  · refine .inr ⟨by rw [hm0]; rfl, ?_⟩
                    cases hla : last with
                    | true => rfl
                    | false => exact absurd ⟨List.eq_nil_of_length_eq_zero ((unhide Hm).trans hm0), hla⟩ hin
                  · exact .inl (by rw [beq_eq_false_iff_ne]; omega)
                have hlk8 := (unhide HS2).lk
                have i0 : (0 : Int) ≤ (s.links : Int) := by omega
                have iw : IntKind.i64.wrap ((s.links : Int) + 1) = (s.links : Int) + 1 := IntWalk.i64_in _ (by omega)
                by_cases h8 : 8 ≤ s.links
                · obtain ⟨rfl, rfl⟩ : re = 10 ∧ rn = 0 := by
                    have := (unhide HS).stop (Vf.hop_loop (unhide Hleft) (unhide Hka) hml hd hc hno h8)
                    injection this with a b
                    exact ⟨a, b⟩
                  have Hb3 := hide (unhide HS2).b
                  have hz : alV F L (10, 0) = .nilIface := rfl
                  rw [hz] at Hav
                  have hv := unhide Hav
                  subst hv
                  have g8 : (8 : Int) < (s.links : Int) + 1 := by omega
                  clear et hk3 hc hjl ejA hxj hpj hml hd e8 ej hbj e9 hk3' hndj hto hin hno hz hlk8 h8
                  rcases hpick with hq0 | ⟨hq0, rfl⟩
                  all_goals
                    go_wp2_with fail
                    go_ret2
                    exact ⟨rfl, unhide Hb3⟩
                · have hnx := (unhide HS).next (Vf.hop_link (unhide Hleft) (unhide Hka) hml hd hc hno h8)
                  rw [hndj] at hnx
                  have g8 : ¬ (8 : Int) < (s.links : Int) + 1 := by omega
                  have KP := hide (parts_any xj.to (by unfold maxLen; omega) w2)
                  have hpl := Vf.parts_len xj.to
                  have Hnx := hide hnx
                  have h8' : s.links + 1 ≤ 8 := by omega
                  have hm2 : m ≤ 1817 := by omega
                  obtain ⟨tb, htb⟩ : ∃ b, Pth.rootB xj.to = b := ⟨_, rfl⟩
                  obtain ⟨pl, hpll⟩ : ∃ l, Pth.partsL xj.to = l := ⟨_, rfl⟩
                  rw [htb, hpll] at KP
                  rw [hpll] at hpl
                  obtain ⟨np, hnp⟩ : ∃ n, pl.length = n := ⟨_, rfl⟩
                  rw [hnp] at KP hpl
                  rw [htb, hpll] at Hnx
                  have Hnp := hide hnp
                  clear et hk3 hc hjl ejA hxj hpj hml hd e8 ej hbj e9 hk3' hndj hto hin hno hlk8 h8 hnx htb hpll hnp
                  have HN : ∀ (A4 : Option Addr) (c4 : Nat) (w4 : World), w4.ownsRow w2.heap.size 9 1 (.slice A4 (np + m) c4) (np + m) (pl.map Value.string ++ rest.map Value.string) → Below w2.heap.size w2 w4 → AlS w F L cr Ag ng kg last (re, rn) M ⟨if tb = true then 0 else s.at_, s.links + 1, pl ++ rest⟩ A4 c4 w4 := by
                    intro A4 c4 w4 ho4 hb4
                    have hS4 := (unhide HS2).below hb4
                    have hlen4 : (pl ++ rest).length = np + m := by rw [List.length_append, unhide Hnp, unhide Hm]
                    refine ⟨hS4.b, hS4.cb, ?_, ?_, h8', Nat.le_trans (Nat.le_of_lt (unhide Hnx).2) (unhide HS2).mu, (unhide Hnx).1, ?_⟩
                    · show Rd w4 w4.heap.size 1 A4 (pl ++ rest).length ((pl ++ rest).map Value.string)
                      rw [hlen4, List.map_append]
                      exact Rd.of_own ho4
                    · show (if tb = true then 0 else s.at_) < F.length
                      split
                      · exact Vf.good_pos (unhide HF)
                      · exact (unhide HS2).at_
                    · show (pl ++ rest).length ≤ c4
                      rw [hlen4]
                      exact own_cap ho4
                  have hlen4 : (pl ++ rest).length = np + m := by rw [List.length_append, unhide Hnp, unhide Hm]
                  have Hlen4 := hide hlen4
                  replace HN := hide HN
                  clear hlen4
                  rcases hpick with hq0 | ⟨hq0, rfl⟩
                  all_goals
                    go_wp2_with fail
                    refine (unhide KP).mono ?_
                    rintro e w3 ⟨A3, c3, rfl, ho3, hb3⟩
                    have Ho3 := hide ho3
                    have Hb3 := hide hb3
                    have Hr3 := hide ((unhide Hrt).belowSz hb3)
                    have hsz3 := hb3.size
                    have Hb23 := hide hb3
                    have HS3 := hide ((unhide HS2).below hb3)
                    have hlo3 := fun k hk => (ho3.lt k hk).1
                    have Hlo3 := hide hlo3
                    clear ho3 hb3 hlo3
                    cases tb with
                    | false =>
                      go_wp2_with (at_builtin; refine wpList_app strTy rfl _ _ rfl w2.heap.size (.slice A3 np c3) np _ rfl (unhide Ho3) w3.heap.size A2 m (c1 - 1) _ rfl (unhide Hr3) (strs_one _) (by omega) hsz3 ?_; intro A4 c4 w4 ho4 hg4 hat4; have hb4 := (Below.refl w2.heap.size w3).grown hg4 hsz3 (unhide Hlo3); have Ho4 := hide ho4; have Hb4 := hide hb4; clear ho4 hg4 hat4 hb4)
                      have hN4 := (unhide HN) A4 c4 w4 (unhide Ho4) ((unhide Hb23).trans ((unhide Hb4).mono (Nat.le_refl _)))
                      go_roundg (Vf.mu ⟨s.at_, s.links + 1, pl ++ rest⟩)
                      case rel => exact ⟨⟨s.at_, s.links + 1, pl ++ rest⟩, A4, c4, rfl, by rw [unhide Hlen4], (unhide HeS).symm, rfl, hN4⟩
                      case measure => rw [unhide Hgk]; exact (unhide Hnx).2
                    | true =>
                      go_wp2_with (at_builtin; refine wpList_app strTy rfl _ _ rfl w2.heap.size (.slice A3 np c3) np _ rfl (unhide Ho3) w3.heap.size A2 m (c1 - 1) _ rfl (unhide Hr3) (strs_one _) (by omega) hsz3 ?_; intro A4 c4 w4 ho4 hg4 hat4; have hb4 := (Below.refl w2.heap.size w3).grown hg4 hsz3 (unhide Hlo3); have Ho4 := hide ho4; have Hb4 := hide hb4; clear ho4 hg4 hat4 hb4)
                      have hN4 := (unhide HN) A4 c4 w4 (unhide Ho4) ((unhide Hb23).trans ((unhide Hb4).mono (Nat.le_refl _)))
                      refine ((unhide HKR) w4 hN4.b).mono ?_
                      rintro e w5 ⟨rfl, rfl⟩
                      go_wp2_with fail
                      go_roundg (Vf.mu ⟨0, s.links + 1, pl ++ rest⟩)
                      case rel => exact ⟨⟨0, s.links + 1, pl ++ rest⟩, A4, c4, rfl, by rw [unhide Hlen4], (unhide He00).symm, rfl, hN4⟩
                      case measure => rw [unhide Hgk]; exact (unhide Hnx).2
            · have h3 := (unhide HIn) (.inl (by rw [Vf.kindAt_eq hxj]; exact hk3))
              have HN := hide h3.1
              have Hnx := hide h3.2
              have et : kindT xj.m.kind = 107 ∨ kindT xj.m.kind = 68 := by
                rcases kind3 (unhide HF) hxj with h1 | h1 | h1
                · exact .inl (by rw [h1]; rfl)
                · exact .inr (by rw [h1]; rfl)
                · exact absurd h1 hk3
              have ha1 := file_no_link (.pointer (some ⟨pj.q, 0, none⟩))
              have ha2 := dir_no_link (.pointer (some ⟨pj.q, 0, none⟩))
              rcases et with et | et
              all_goals
                rw [et] at hlk
                have Het := hide et
                clear et h3 hk3 hc hjl ejA hxj hpj hml hd e8 ej
                go_wp2_with fail
                go_roundg (Vf.mu ⟨j, s.links, rest⟩)
                case rel => exact ⟨⟨j, s.links, rest⟩, A2, c1 - 1, rfl, by rw [unhide Hm], by rw [unhide HeA, unhide Het], rfl, unhide HN⟩
                case measure => rw [unhide Hgk]; exact unhide Hnx
    · have hka : Vf.kindAt F s.at_ ≠ 2 := by rw [Vf.kindAt_eq hx]; exact hk2
      obtain ⟨rfl, rfl⟩ : re = 8 ∧ rn = 0 := by
        have := hS.stop (Vf.hop_no hleft hka)
        injection this with a b
        exact ⟨a, b⟩
      have hz : alV F L (8, 0) = .nilIface := rfl
      rw [hz] at Hav
      have hv := unhide Hav
      subst hv
      rw [e1]
      have Hb := hide hS.b
      have et : kindT x.m.kind = 107 ∨ kindT x.m.kind = 110 := by
        rcases kind3 (unhide HF) hx with h1 | h1 | h1
        · exact .inl (by rw [h1]; rfl)
        · exact absurd h1 hk2
        · exact .inr (by rw [h1]; rfl)
      have ha := file_no_dir (.pointer (some ⟨p.q, 0, none⟩))
      have ha2 := link_no_dir (.pointer (some ⟨p.q, 0, none⟩))
      rcases et with et | et
      all_goals
        rw [et]
        clear et hS hz hx hp e1 hgk hlen hat hleft hk2 hka hm hl1 hll hn
        go_wp2_with fail
        go_ret2
        exact ⟨rfl, unhide Hb⟩
end Go.Proofs.YtchmdpkjipaafaaDoor
namespace Go.Proofs.YtchmdpkjipaafaaDoor
set_option linter.unusedVariables false
set_option linter.unusedSimpArgs false
open Go.RowKit

theorem hop_lt {F : List Vf.Nd} (h : Vf.Good F) {c : Vf.Cred} {last : Bool} {s : Vf.St} (hs : s.at_ < F.length) : (∀ x, Vf.hop F c last s = .inl x → x.2 < F.length) ∧ ∀ s', Vf.hop F c last s = .inr s' → s'.at_ < F.length := by
  have h0 := Vf.good_pos h
  unfold Vf.hop
  constructor
  · intro x hx
    split at hx
    · cases hx; exact hs
    · repeat' (first | (split at hx) | (cases hx; exact h0) | cases hx)
  · intro s' hx
    split at hx
    · cases hx
    · split at hx
      · cases hx
      split at hx
      · cases hx
      split at hx
      · cases hx
        obtain ⟨x, hx⟩ : ∃ x, F[s.at_]? = some x := ⟨_, List.getElem?_eq_getElem hs⟩
        show (Vf.nd F s.at_).up < F.length
        rw [Vf.nd_eq hx]
        exact (Vf.up_lt h hx).1
      split at hx
      · cases hx
      · next n hn =>
        split at hx
        · cases hx
          exact (Vf.child_dir h hn).2.2
        split at hx
        · cases hx
        · cases hx
          show (if Pth.rootB (Vf.nd F n).to = true then 0 else s.at_) < F.length
          split
          · exact h0
          · exact hs
theorem go_lt {F : List Vf.Nd} (h : Vf.Good F) {c : Vf.Cred} {last : Bool} : ∀ (k : Nat) (s : Vf.St), s.at_ < F.length → (Vf.go F c last k s).2 < F.length := by
  intro k
  induction k with
  | zero => intro s _; exact Vf.good_pos h
  | succ k ih =>
    intro s hs
    unfold Vf.go
    cases hh : Vf.hop F c last s with
    | inl x => exact (hop_lt h hs).1 x hh
    | inr s' => exact ih s' ((hop_lt h hs).2 s' hh)
theorem ends_lt {F : List Vf.Nd} (h : Vf.Good F) {c : Vf.Cred} {last : Bool} {s : Vf.St} (hs : s.at_ < F.length) : (Vf.ends F c last s).2 < F.length := go_lt h _ s hs
/-- What node answers, kind by kind. -/
theorem nodeV_in {w : World} {lo f c : Nat} {A : Option Addr} {F : List Vf.Nd} {L : List Pl} (h : FsM w lo f A c F L) {i : Nat} {x : Vf.Nd} {p : Pl} (hx : F[i]? = some x) (hp : L[i]? = some p) : nodeV F L (i : Nat) = .iface (kindT x.m.kind) (.pointer (some ⟨p.q, 0, none⟩)) := by
  have := h.ndA_eq hx hp
  unfold ndA at this
  unfold nodeV
  have hl := (List.getElem?_eq_some_iff.1 hx).1
  rw [if_neg (by simp; omega)]
  simp only [Int.toNat_natCast]
  exact this
theorem nodeV_out {F : List Vf.Nd} {L : List Pl} {ino : Int} (h : ino < 0 ∨ F.length ≤ ino.toNat) : nodeV F L ino = .nilIface := by unfold nodeV; rw [if_pos h]
theorem nodeV_no {w : World} {lo f c : Nat} {A : Option Addr} {F : List Vf.Nd} {L : List Pl} (hF : Vf.Good F) (h : FsM w lo f A c F L) {ino : Int} (hs : ino < 0 ∨ Vf.kindAt F ino.toNat ≠ 2) : nodeV F L ino = .nilIface ∨ (∃ v, nodeV F L ino = .iface 107 v) ∨ (∃ v, nodeV F L ino = .iface 110 v) := by
  by_cases ho : ino < 0 ∨ F.length ≤ ino.toNat
  · exact .inl (nodeV_out ho)
  · obtain ⟨i, rfl⟩ := Int.eq_ofNat_of_zero_le (show 0 ≤ ino by omega)
    have hi : i < F.length := by simp at ho; omega
    obtain ⟨x, hx⟩ : ∃ x, F[i]? = some x := ⟨_, List.getElem?_eq_getElem hi⟩
    obtain ⟨p, hp, _, _⟩ := h.at_ hx
    have e := nodeV_in h hx hp
    have hk : x.m.kind ≠ 2 := by
      rcases hs with h1 | h1
      · omega
      · rw [Int.toNat_natCast, Vf.kindAt_eq hx] at h1
        exact h1
    rcases kind3 hF hx with h1 | h1 | h1
    · exact .inr (.inl ⟨_, by rw [e, h1]; rfl⟩)
    · exact absurd h1 hk
    · exact .inr (.inr ⟨_, by rw [e, h1]; rfl⟩)

set_option maxRecDepth 100000 in
set_option maxHeartbeats 4000000 in
theorem walk_any (F : List Vf.Nd) (L : List Pl) (lo f c : Nat) (A Ag : Option Addr) (ng kg : Nat) (cr : Vf.Cred) (src : Int) (path : ByteArray) (last : Bool) (w : World) (hF : Vf.Good F) (h : FsM w lo f A c F L) (hn : F.length ≤ 65)
    (hg : Rd w w.heap.size 1 Ag ng (cr.groups.map u32v)) (hng : ng ≤ maxLen) (hps : path.size ≤ 4294967296) :
    Calls Tryd.prog 24 #[ptrV f, credV cr Ag ng kg, .int .i64 src, .string path, .bool last] w fun e w' => e = .returned (.tuple #[.int .i64 ((Vf.walk F cr src path last).1 : Nat), .int .i64 (Vf.walk F cr src path last).2]) ∧ Below w.heap.size w w' := by
  have hb0 : Below w.heap.size w (w.alloc (.cells #[.int .u32 (cr.uid : Nat), .int .u32 (cr.euid : Nat), .int .u32 (cr.suid : Nat), .int .u32 (cr.gid : Nat), .slice Ag ng kg] 34)) := (Below.refl _ _).alloc (Nat.le_refl _) _
  have KN := node_any F L f c _ A src _ (h.belowSz hb0).toR hn
  have hcb : Blk (w.alloc (.cells #[.int .u32 (cr.uid : Nat), .int .u32 (cr.euid : Nat), .int .u32 (cr.suid : Nat), .int .u32 (cr.gid : Nat), .slice Ag ng kg] 34)) w.heap.size 34 [.int .u32 (cr.uid : Nat), .int .u32 (cr.euid : Nat), .int .u32 (cr.suid : Nat), .int .u32 (cr.gid : Nat), .slice Ag ng kg] := Blk.new w 34 _
  obtain ⟨⟨rn, re⟩, hr⟩ : ∃ r, Vf.walk F cr src path last = r := ⟨_, rfl⟩
  rw [hr]
  dsimp only
  unfold ptrV at KN
  have HKN := hide KN
  have HF := hide hF
  have H := hide h
  have Hr := hide hr
  have Hb0 := hide hb0
  have Hcb := hide hcb
  have Hg := hide hg
  unfold credV ptrV
  clear KN hF h hr hb0 hcb hg
  go_enter Tryd.func24, Tryd.ntmps24
  go_wp2_with fail
  refine (unhide HKN).mono ?_
  rintro e w1 ⟨rfl, rfl⟩
  by_cases hs : src < 0 ∨ Vf.kindAt F src.toNat ≠ 2
  · obtain ⟨rfl, rfl⟩ : rn = 0 ∧ re = 1 := by
      have := unhide Hr
      unfold Vf.walk at this
      rw [if_pos hs] at this
      injection this with a b
      exact ⟨a.symm, b.symm⟩
    have ha1 := nil_no_dir
    have ha2 := file_no_dir
    have ha3 := link_no_dir
    rcases nodeV_no (unhide HF) (unhide H) hs with e | ⟨v, e⟩ | ⟨v, e⟩
    all_goals
      rw [e]
      clear e hs
      go_wp2_with fail
      go_ret2
      exact ⟨rfl, unhide Hb0⟩
  · obtain ⟨i, rfl⟩ := Int.eq_ofNat_of_zero_le (show 0 ≤ src by omega)
    have hk : Vf.kindAt F i = 2 := by
      simp only [not_or, Decidable.not_not, Int.toNat_natCast] at hs
      exact hs.2
    obtain ⟨x, hx, hxk⟩ := Vf.kindAt_lt hk
    obtain ⟨p, hp, _, _⟩ := (unhide H).at_ hx
    have e := nodeV_in (unhide H) hx hp
    rw [hxk] at e
    have et : kindT 2 = 68 := rfl
    rw [et] at e
    rw [e]
    have ha := is_dir (.pointer (some ⟨p.q, 0, none⟩))
    have KP := hide (parts_any path (by unfold maxLen; omega) (w.alloc (.cells #[.int .u32 (cr.uid : Nat), .int .u32 (cr.euid : Nat), .int .u32 (cr.suid : Nat), .int .u32 (cr.gid : Nat), .slice Ag ng kg] 34)))
    obtain ⟨ck, hck⟩ : ∃ b, Pth.chk path = b := ⟨_, rfl⟩
    obtain ⟨tb, htb⟩ : ∃ b, Pth.rootB path = b := ⟨_, rfl⟩
    obtain ⟨pl, hpl⟩ : ∃ l, Pth.partsL path = l := ⟨_, rfl⟩
    obtain ⟨tl, htl⟩ : ∃ b, Pth.tailB path = b := ⟨_, rfl⟩
    have hpl2 := Vf.parts_len path
    have hwk := unhide Hr
    unfold Vf.walk at hwk
    rw [if_neg hs] at hwk
    simp only [Int.toNat_natCast] at hwk
    rw [hck, htb, hpl, htl] at hwk
    rw [hck, htb, hpl] at KP
    rw [hpl] at hpl2
    have Hwk := hide hwk
    have Hx := hide hx
    have Hp := hide hp
    have Hxk := hide hxk
    have Hpl2 := hide hpl2
    have KT := hide (fun w' => tail_any path (by omega) w')
    rw [htl] at KT
    clear e et hs hk hx hp hxk hck htb hpl htl hwk hpl2 HKN
    go_wp2_with fail
    refine (unhide KP).mono ?_
    rintro e w2 ⟨A2, c2, rfl, ho2, hb2⟩
    have HW2 := hide (((unhide H).belowSz (unhide Hb0)).belowSz hb2)
    have hcb2 := (unhide Hcb).belowSz hb2
    obtain ⟨a0, a1, a2, a3, a4⟩ : w2.cell? ⟨w.heap.size, 0, none⟩ = some (.int .u32 (cr.uid : Nat)) ∧ w2.cell? ⟨w.heap.size, 1, none⟩ = some (.int .u32 (cr.euid : Nat)) ∧ w2.cell? ⟨w.heap.size, 2, none⟩ = some (.int .u32 (cr.suid : Nat)) ∧ w2.cell? ⟨w.heap.size, 3, none⟩ = some (.int .u32 (cr.gid : Nat)) ∧ w2.cell? ⟨w.heap.size, 4, none⟩ = some (.slice Ag ng kg) := ⟨hcb2.cell rfl, hcb2.cell rfl, hcb2.cell rfl, hcb2.cell rfl, hcb2.cell rfl⟩
    have Hb2 := hide ((unhide Hb0).trans (hb2.mono (by simp)))
    have Hg2 := hide (((unhide Hg).below (unhide Hb2)).more (unhide Hb2).size)
    have Ho2 := hide ho2
    have Hr2 := hide (Rd.of_own ho2)
    have Hc2 := hide (own_cap ho2)
    clear ho2 hb2 hcb2
    by_cases hck : ck = 0
    · subst hck
      have hwk := unhide Hwk
      rw [if_neg (by simp)] at hwk
      have i1 : ((0 : Int) != 0) = false := rfl
      obtain ⟨i1, hi1⟩ : ∃ i1, (if tb = true then 0 else i) = i1 := ⟨_, rfl⟩
      rw [hi1] at hwk
      have hx1 : ∃ x1 p1, F[i1]? = some x1 ∧ L[i1]? = some p1 ∧ x1.m.kind = 2 ∧ (tb = false → p1 = p) := by
        cases tb with
        | false =>
          simp only [Bool.false_eq_true, if_false] at hi1
          subst hi1
          exact ⟨x, p, unhide Hx, unhide Hp, unhide Hxk, fun _ => rfl⟩
        | true =>
          simp only [if_true] at hi1
          subst hi1
          obtain ⟨pr, hpr, _, _⟩ := (unhide H).at_ (unhide HF).r
          exact ⟨_, pr, (unhide HF).r, hpr, rfl, fun h => by cases h⟩
      obtain ⟨x1, p1, hx1, hp1, hk1, hpp⟩ := hx1
      have Hx1 := hide hx1
      have Hp1 := hide hp1
      have Hk1 := hide hk1
      have KR : Hid (tb = true → Calls Tryd.prog 44 #[.pointer (some ⟨f, 0, none⟩)] w2 fun e w3 => e = .returned (.pointer (some ⟨p1.q, 0, none⟩)) ∧ w2 = w3) := by
        refine hide (fun ht => ?_)
        rw [if_pos ht] at hi1
        subst hi1
        exact root_any F L f c w2.heap.size A w2 (unhide HW2).toR hn x1 p1 hx1 hp1 hk1
      have KA := hide (along_any F L lo f c A Ag A2 ng kg c2 cr i1 x1 p1 pl (last || tl) w2 (unhide HF) (unhide HW2) hn hx1 hp1 hk1 (unhide Hr2) (unhide Hpl2) (unhide Hc2) (unhide Hg2) hng)
      unfold credV ptrV at KA
      obtain ⟨⟨ee, en⟩, hen⟩ : ∃ r, Vf.ends F cr (last || tl) ⟨i1, 0, pl⟩ = r := ⟨_, rfl⟩
      have henl := ends_lt (unhide HF) (c := cr) (last := last || tl) (s := ⟨i1, 0, pl⟩) (List.getElem?_eq_some_iff.1 hx1).1
      rw [hen] at KA hwk henl
      dsimp only at KA hwk henl
      have Henl := hide henl
      have Hwk2 := hide hwk
      clear hwk hen henl hi1 hx1 hp1 hk1 Hwk
      cases tb with
      | false =>
        obtain rfl := hpp rfl
        clear hpp
        go_wp2_with fail
        refine ((unhide KT) _).mono ?_
        rintro e w3 ⟨rfl, rfl⟩
        cases last
        all_goals
          simp only [Bool.true_or, Bool.false_or] at KA
          go_wp2_with fail
          refine (unhide KA).mono ?_
          rintro e w4 ⟨rfl, hb4⟩
          have Hb4 := hide ((unhide Hb2).trans (hb4.mono (unhide Hb2).size))
          have HW4 := hide ((unhide HW2).belowSz hb4)
          clear a0 a1 a2 a3 a4 hb4
          by_cases he : ee = 0
          · subst he
            have hwk := unhide Hwk2
            rw [if_neg (by simp)] at hwk
            have q1 : ((0 : Int) != 0) = false := rfl
            have ea : alV F L (0, en) = ndA F L en := by unfold alV; rw [if_pos rfl]
            obtain ⟨xe, hxe⟩ : ∃ x, F[en]? = some x := ⟨_, List.getElem?_eq_getElem (unhide Henl)⟩
            obtain ⟨pe, hpe, _, _⟩ := (unhide H).at_ hxe
            rw [ea, (unhide H).ndA_eq hxe hpe]
            rw [Vf.kindAt_eq hxe] at hwk
            obtain ⟨_, ue, _, hbe⟩ := (unhide HW4).nd en xe pe hxe hpe
            have y5 : w4.cell? ⟨pe.q, 5, none⟩ = some (.int .i64 (en : Nat)) := hbe.cell rfl
            have ha1 := is_dir (.pointer (some ⟨pe.q, 0, none⟩))
            have ha2 := file_no_dir (.pointer (some ⟨pe.q, 0, none⟩))
            have ha3 := link_no_dir (.pointer (some ⟨pe.q, 0, none⟩))
            have hm1 := fun w' => about_dir w' pe.q
            have hm2 := fun w' => about_file w' pe.q
            have hm3 := fun w' => about_link w' pe.q
            rcases kind3 (unhide HF) hxe with hk | hk | hk
            · have et : kindT xe.m.kind = 107 := by rw [hk]; rfl
              rw [et]
              rw [hk] at hwk
              cases tl with
              | false =>
                obtain ⟨rfl, rfl⟩ : rn = en ∧ re = 0 := by
                  rw [if_neg (by simp)] at hwk
                  injection hwk with a b
                  exact ⟨a.symm, b.symm⟩
                clear et hk hwk ea hxe hpe hbe
                go_wp2_with fail
                refine (about_any _ _).mono ?_
                rintro e w5 ⟨rfl, rfl⟩
                go_wp2_with fail
                go_ret2
                exact ⟨rfl, unhide Hb4⟩
              | true =>
                obtain ⟨rfl, rfl⟩ : rn = 0 ∧ re = 8 := by
                  rw [if_pos (by simp)] at hwk
                  injection hwk with a b
                  exact ⟨a.symm, b.symm⟩
                clear et hk hwk ea hxe hpe hbe
                go_wp2_with fail
                go_ret2
                exact ⟨rfl, unhide Hb4⟩
            · have et : kindT xe.m.kind = 68 := by rw [hk]; rfl
              rw [et]
              obtain ⟨rfl, rfl⟩ : rn = en ∧ re = 0 := by
                rw [if_neg (by simp [hk])] at hwk
                injection hwk with a b
                exact ⟨a.symm, b.symm⟩
              clear et hk hwk ea hxe hpe hbe
              cases tl
              all_goals
                go_wp2_with fail
                refine (about_any _ _).mono ?_
                rintro e w5 ⟨rfl, rfl⟩
                go_wp2_with fail
                go_ret2
                exact ⟨rfl, unhide Hb4⟩
            · have et : kindT xe.m.kind = 110 := by rw [hk]; rfl
              rw [et]
              rw [hk] at hwk
              cases tl with
              | false =>
                obtain ⟨rfl, rfl⟩ : rn = en ∧ re = 0 := by
                  rw [if_neg (by simp)] at hwk
                  injection hwk with a b
                  exact ⟨a.symm, b.symm⟩
                clear et hk hwk ea hxe hpe hbe
                go_wp2_with fail
                refine (about_any _ _).mono ?_
                rintro e w5 ⟨rfl, rfl⟩
                go_wp2_with fail
                go_ret2
                exact ⟨rfl, unhide Hb4⟩
              | true =>
                obtain ⟨rfl, rfl⟩ : rn = 0 ∧ re = 8 := by
                  rw [if_pos (by simp)] at hwk
                  injection hwk with a b
                  exact ⟨a.symm, b.symm⟩
                clear et hk hwk ea hxe hpe hbe
                go_wp2_with fail
                go_ret2
                exact ⟨rfl, unhide Hb4⟩
          · obtain ⟨rfl, rfl⟩ : rn = 0 ∧ re = ee := by
              have := unhide Hwk2
              rw [if_pos he] at this
              injection this with a b
              exact ⟨a.symm, b.symm⟩
            have q1 : (re != 0) = true := by simp [he]
            clear he
            go_wp2_with fail
            go_ret2
            exact ⟨rfl, unhide Hb4⟩
      | true =>
        clear hpp
        go_wp2_with fail
        refine ((unhide KR) (by first | rfl | trivial)).mono ?_
        rintro e w3 ⟨rfl, rfl⟩
        go_wp2_with fail
        refine ((unhide KT) _).mono ?_
        rintro e w3 ⟨rfl, rfl⟩
        cases last
        all_goals
          simp only [Bool.true_or, Bool.false_or] at KA
          go_wp2_with fail
          refine (unhide KA).mono ?_
          rintro e w4 ⟨rfl, hb4⟩
          have Hb4 := hide ((unhide Hb2).trans (hb4.mono (unhide Hb2).size))
          have HW4 := hide ((unhide HW2).belowSz hb4)
          clear a0 a1 a2 a3 a4 hb4
          by_cases he : ee = 0
          · subst he
            have hwk := unhide Hwk2
            rw [if_neg (by simp)] at hwk
            have q1 : ((0 : Int) != 0) = false := rfl
            have ea : alV F L (0, en) = ndA F L en := by unfold alV; rw [if_pos rfl]
            obtain ⟨xe, hxe⟩ : ∃ x, F[en]? = some x := ⟨_, List.getElem?_eq_getElem (unhide Henl)⟩
            obtain ⟨pe, hpe, _, _⟩ := (unhide H).at_ hxe
            rw [ea, (unhide H).ndA_eq hxe hpe]
            rw [Vf.kindAt_eq hxe] at hwk
            obtain ⟨_, ue, _, hbe⟩ := (unhide HW4).nd en xe pe hxe hpe
            have y5 : w4.cell? ⟨pe.q, 5, none⟩ = some (.int .i64 (en : Nat)) := hbe.cell rfl
            have ha1 := is_dir (.pointer (some ⟨pe.q, 0, none⟩))
            have ha2 := file_no_dir (.pointer (some ⟨pe.q, 0, none⟩))
            have ha3 := link_no_dir (.pointer (some ⟨pe.q, 0, none⟩))
            have hm1 := fun w' => about_dir w' pe.q
            have hm2 := fun w' => about_file w' pe.q
            have hm3 := fun w' => about_link w' pe.q
            rcases kind3 (unhide HF) hxe with hk | hk | hk
            · have et : kindT xe.m.kind = 107 := by rw [hk]; rfl
              rw [et]
              rw [hk] at hwk
              cases tl with
              | false =>
                obtain ⟨rfl, rfl⟩ : rn = en ∧ re = 0 := by
                  rw [if_neg (by simp)] at hwk
                  injection hwk with a b
                  exact ⟨a.symm, b.symm⟩
                clear et hk hwk ea hxe hpe hbe
                go_wp2_with fail
                refine (about_any _ _).mono ?_
                rintro e w5 ⟨rfl, rfl⟩
                go_wp2_with fail
                go_ret2
                exact ⟨rfl, unhide Hb4⟩
              | true =>
                obtain ⟨rfl, rfl⟩ : rn = 0 ∧ re = 8 := by
                  rw [if_pos (by simp)] at hwk
                  injection hwk with a b
                  exact ⟨a.symm, b.symm⟩
                clear et hk hwk ea hxe hpe hbe
                go_wp2_with fail
                go_ret2
                exact ⟨rfl, unhide Hb4⟩
            · have et : kindT xe.m.kind = 68 := by rw [hk]; rfl
              rw [et]
              obtain ⟨rfl, rfl⟩ : rn = en ∧ re = 0 := by
                rw [if_neg (by simp [hk])] at hwk
                injection hwk with a b
                exact ⟨a.symm, b.symm⟩
              clear et hk hwk ea hxe hpe hbe
              cases tl
              all_goals
                go_wp2_with fail
                refine (about_any _ _).mono ?_
                rintro e w5 ⟨rfl, rfl⟩
                go_wp2_with fail
                go_ret2
                exact ⟨rfl, unhide Hb4⟩
            · have et : kindT xe.m.kind = 110 := by rw [hk]; rfl
              rw [et]
              rw [hk] at hwk
              cases tl with
              | false =>
                obtain ⟨rfl, rfl⟩ : rn = en ∧ re = 0 := by
                  rw [if_neg (by simp)] at hwk
                  injection hwk with a b
                  exact ⟨a.symm, b.symm⟩
                clear et hk hwk ea hxe hpe hbe
                go_wp2_with fail
                refine (about_any _ _).mono ?_
                rintro e w5 ⟨rfl, rfl⟩
                go_wp2_with fail
                go_ret2
                exact ⟨rfl, unhide Hb4⟩
              | true =>
                obtain ⟨rfl, rfl⟩ : rn = 0 ∧ re = 8 := by
                  rw [if_pos (by simp)] at hwk
                  injection hwk with a b
                  exact ⟨a.symm, b.symm⟩
                clear et hk hwk ea hxe hpe hbe
                go_wp2_with fail
                go_ret2
                exact ⟨rfl, unhide Hb4⟩
          · obtain ⟨rfl, rfl⟩ : rn = 0 ∧ re = ee := by
              have := unhide Hwk2
              rw [if_pos he] at this
              injection this with a b
              exact ⟨a.symm, b.symm⟩
            have q1 : (re != 0) = true := by simp [he]
            clear he
            go_wp2_with fail
            go_ret2
            exact ⟨rfl, unhide Hb4⟩
    · obtain ⟨rfl, rfl⟩ : rn = 0 ∧ re = ck := by
        have := unhide Hwk
        rw [if_pos hck] at this
        injection this with a b
        exact ⟨a.symm, b.symm⟩
      have i1 : (re != 0) = true := by simp [hck]
      clear hck
      go_wp2_with fail
      go_ret2
      exact ⟨rfl, unhide Hb2⟩
end Go.Proofs.YtchmdpkjipaafaaDoor
namespace Go.Proofs.YtchmdpkjipaafaaDoor
set_option linter.unusedVariables false
set_option linter.unusedSimpArgs false
open Go.RowKit

def CloneBE (n : Nat) (xs : List UInt8) (w : World) (e : Ending) (w' : World) : Prop :=
  ∃ A' c', e = .returned (.slice A' n c') ∧ w'.ownsRow w.heap.size 5 1 (.slice A' n c') n (bys xs) ∧ Below w.heap.size w w'
set_option maxRecDepth 100000 in
set_option maxHeartbeats 1000000 in
theorem cloneB_any (A : Option Addr) (n c B : Nat) (xs : List UInt8) (w : World) (h : Rd w B 1 A n (bys xs)) (hB : B ≤ w.heap.size) (hn : n ≤ 4294967296) :
    Calls Tryd.prog 54 #[.slice A n c] w (CloneBE n xs w) := by
  have hl : xs.length = n := by simpa [bys] using h.len1
  have q : ∀ (w : World) (a : Option Addr) (n c n' c' : Nat), (binOp .eql 62 (.slice a n c) (.slice none n' c')).run Tryd.prog w = .ok (.bool a.isNone) w := fun w a n c n' c' => Lib.run_eql_slice_nil w _ _ a n c n' c' Tryd.underlying62
  have H := hide h
  clear h
  cases A with
  | none =>
    have h0 : bys xs = [] := by
      rcases (unhide H).2 with h0 | ⟨b, off, h1, _⟩
      · exact h0
      · cases h1
    have hx : xs = [] := by simpa [bys] using h0
    subst hx
    simp only [List.length_nil] at hl
    subst hl
    have q1 : (none : Option Addr).isNone = true := rfl
    clear h0 H
    go_enter Tryd.func54, Tryd.ntmps54
    go_wp2_with fail
    go_ret
    exact ⟨none, 0, rfl, World.ownsRow_nil _ _ _ _, Below.refl _ _⟩
  | some a =>
    have q1 : (some a : Option Addr).isNone = false := rfl
    have hm := World.ownsRow_made (e := 5) (size := 1) w #[] 0 (Nat.le_refl _) (Nat.zero_le _) rfl
    have Hm := hide hm
    have hb1 : Below w.heap.size w (w.alloc (.cells #[] 5)) := (Below.refl _ _).alloc (Nat.le_refl _) _
    have Hb1 := hide hb1
    have Hr := hide ((unhide H).below (hb1.mono hB))
    clear hm hb1 hl
    go_enter Tryd.func54, Tryd.ntmps54
    go_wp2_with (at_builtin; refine wpList_app byteTy rfl _ _ rfl w.heap.size (.slice (some ⟨w.heap.size, 0, none⟩) 0 0) 0 [] rfl (unhide Hm) B (some a) n c _ rfl (unhide Hr) (bys_one _) (by omega) (unhide Hb1).size ?_; intro A4 c4 w4 ho4 hg4 hat4; have hb4 := (unhide Hb1).grown hg4 (unhide Hb1).size (fun k hk => by simp [Value.ownBlock] at hk; omega); simp only [Nat.zero_add, List.nil_append] at ho4 ⊢; have Ho4 := hide ho4; have Hb4 := hide hb4; clear ho4 hg4 hat4 hb4)
    go_ret
    exact ⟨A4, c4, rfl, unhide Ho4, unhide Hb4⟩
end Go.Proofs.YtchmdpkjipaafaaDoor
namespace Go.Proofs.YtchmdpkjipaafaaDoor
set_option linter.unusedVariables false
set_option linter.unusedSimpArgs false
open Go.RowKit

theorem as_file (v : Value) (w : World) : (Instr.typeAssert (.iface 107 v) 91 107 true).run Tryd.prog w = .ok (.tuple #[v, .bool true]) w := by
  simp [Instr.typeAssert, run_underlying Tryd.underlying107, go_sem, Result.andThen]
theorem zero_file (w : World) : (zeroValue 107).run Tryd.prog w = .ok (.pointer none) w := by kernel_rfl
theorem link_no_file (v : Value) (w : World) : (Instr.typeAssert (.iface 110 v) 91 107 true).run Tryd.prog w = .ok (.tuple #[.pointer none, .bool false]) w := by
  simp [Instr.typeAssert, run_underlying Tryd.underlying107, zero_file, go_sem, Result.andThen]

/-- What Read answers: the bytes, in rows of the call's own. -/
def ReadVE (F : List Vf.Nd) (ino off n : Int) (w : World) (e : Ending) (w' : World) : Prop :=
  ∃ A' c', e = .returned (.tuple #[.slice A' (Vf.readOf F ino off n).1.length c', .int .i64 (Vf.readOf F ino off n).2]) ∧ w'.ownsRow w.heap.size 5 1 (.slice A' (Vf.readOf F ino off n).1.length c') (Vf.readOf F ino off n).1.length (bys (Vf.readOf F ino off n).1) ∧ Below w.heap.size w w'
theorem readVE_nil {F : List Vf.Nd} {ino off n : Int} {w w' : World} {er : Int} (h : Vf.readOf F ino off n = ([], er)) (hb : Below w.heap.size w w') : ReadVE F ino off n w (.returned (.tuple #[.slice none 0 0, .int .i64 er])) w' := by
  unfold ReadVE
  rw [h]
  exact ⟨none, 0, rfl, World.ownsRow_nil _ _ _ _, hb⟩

end Go.Proofs.YtchmdpkjipaafaaDoor
namespace Go.Proofs.YtchmdpkjipaafaaDoor
set_option linter.unusedVariables false
set_option linter.unusedSimpArgs false
open Go.RowKit

/-- Find's own variables in the world W. -/
structure FdS (w : World) (f : Nat) (cr : Vf.Cred) (A : Option Addr) (n k : Nat) (cwd v : Int) (W : World) : Prop where
  bel : Below w.heap.size w W
  f : Blk W w.heap.size 38 [.pointer (some ⟨f, 0, none⟩)]
  c : Blk W (w.heap.size + 1) 34 [.int .u32 (cr.uid : Nat), .int .u32 (cr.euid : Nat), .int .u32 (cr.suid : Nat), .int .u32 (cr.gid : Nat), .slice A n k]
  d : Blk W (w.heap.size + 2) 3 [.int .i64 cwd]
  i : Blk W (w.heap.size + 3) 3 [.int .i64 v]
section
variable {w W W' : World} {f : Nat} {cr : Vf.Cred} {A : Option Addr} {n k : Nat} {cwd v : Int}
theorem FdS.below (h : FdS w f cr A n k cwd v W) (hb : Below W.heap.size W W') : FdS w f cr A n k cwd v W' := ⟨h.bel.trans (hb.mono h.bel.size), h.f.belowSz hb, h.c.belowSz hb, h.d.belowSz hb, h.i.belowSz hb⟩
theorem FdS.cells (h : FdS w f cr A n k cwd v W) : W.cell? ⟨w.heap.size, 0, none⟩ = some (.pointer (some ⟨f, 0, none⟩)) ∧ (W.cell? ⟨w.heap.size + 1, 0, none⟩ = some (.int .u32 (cr.uid : Nat)) ∧ W.cell? ⟨w.heap.size + 1, 1, none⟩ = some (.int .u32 (cr.euid : Nat)) ∧ W.cell? ⟨w.heap.size + 1, 2, none⟩ = some (.int .u32 (cr.suid : Nat)) ∧ W.cell? ⟨w.heap.size + 1, 3, none⟩ = some (.int .u32 (cr.gid : Nat)) ∧ W.cell? ⟨w.heap.size + 1, 4, none⟩ = some (.slice A n k)) ∧ W.cell? ⟨w.heap.size + 2, 0, none⟩ = some (.int .i64 cwd) ∧ W.cell? ⟨w.heap.size + 3, 0, none⟩ = some (.int .i64 v) ∧ W.frozen? ⟨w.heap.size + 3, 0, none⟩ = false :=
  ⟨h.f.cell rfl, ⟨h.c.cell rfl, h.c.cell rfl, h.c.cell rfl, h.c.cell rfl, h.c.cell rfl⟩, h.d.cell rfl, h.i.cell rfl, h.i.free _⟩
theorem FdS.set (h : FdS w f cr A n k cwd v W) (v' : Int) : FdS w f cr A n k cwd v' (W.setCell ⟨w.heap.size + 3, 0, none⟩ (.int .i64 v')) :=
  ⟨h.bel.setCell (p := ⟨w.heap.size + 3, 0, none⟩) (by show w.heap.size ≤ w.heap.size + 3; omega) _, h.f.other (by show w.heap.size + 3 ≠ w.heap.size; omega) _, h.c.other (by show w.heap.size + 3 ≠ w.heap.size + 1; omega) _, h.d.other (by show w.heap.size + 3 ≠ w.heap.size + 2; omega) _, h.i.set 0 _⟩
theorem FdS.start (w : World) (f : Nat) (cr : Vf.Cred) (A : Option Addr) (n k : Nat) (cwd : Int) :
    FdS w f cr A n k cwd 0 ((((w.alloc (.cells #[.pointer (some ⟨f, 0, none⟩)] 38)).alloc (.cells #[.int .u32 (cr.uid : Nat), .int .u32 (cr.euid : Nat), .int .u32 (cr.suid : Nat), .int .u32 (cr.gid : Nat), .slice A n k] 34)).alloc (.cells #[.int .i64 cwd] 3)).alloc (.cells #[.int .i64 0] 3)) := by
  refine ⟨((((Below.refl _ _).alloc (Nat.le_refl _) _).alloc (by simp) _).alloc (by simp; omega) _).alloc (by simp; omega) _, ?_, ?_, ?_, ?_⟩
  · exact (((Blk.new w 38 [.pointer (some ⟨f, 0, none⟩)]).alloc _).alloc _).alloc _
  · have := ((Blk.new (w.alloc (.cells #[.pointer (some ⟨f, 0, none⟩)] 38)) 34 [.int .u32 (cr.uid : Nat), .int .u32 (cr.euid : Nat), .int .u32 (cr.suid : Nat), .int .u32 (cr.gid : Nat), .slice A n k]).alloc (.cells #[.int .i64 cwd] 3)).alloc (.cells #[.int .i64 0] 3)
    rw [World.size_alloc] at this
    exact this
  · have := (Blk.new ((w.alloc (.cells #[.pointer (some ⟨f, 0, none⟩)] 38)).alloc (.cells #[.int .u32 (cr.uid : Nat), .int .u32 (cr.euid : Nat), .int .u32 (cr.suid : Nat), .int .u32 (cr.gid : Nat), .slice A n k] 34)) 3 [.int .i64 cwd]).alloc (.cells #[.int .i64 0] 3)
    rw [World.size_alloc, World.size_alloc] at this
    exact this
  · have := Blk.new (((w.alloc (.cells #[.pointer (some ⟨f, 0, none⟩)] 38)).alloc (.cells #[.int .u32 (cr.uid : Nat), .int .u32 (cr.euid : Nat), .int .u32 (cr.suid : Nat), .int .u32 (cr.gid : Nat), .slice A n k] 34)).alloc (.cells #[.int .i64 cwd] 3)) 3 [.int .i64 0]
    rw [World.size_alloc, World.size_alloc, World.size_alloc] at this
    exact this
end
theorem meta_mode {F : List Vf.Nd} (h : Vf.Good F) (ino : Int) : (Vf.metaOf F ino).1.mode < 65536 := by
  unfold Vf.metaOf
  split
  · decide
  · show (Vf.nd F ino.toNat).m.mode < 65536
    unfold Vf.nd
    cases hx : F[ino.toNat]? with
    | none => decide
    | some x => exact h.mode _ x hx

set_option maxRecDepth 100000 in
set_option maxHeartbeats 4000000 in
theorem find1_any (F : List Vf.Nd) (L : List Pl) (lo f cf : Nat) (Af A : Option Addr) (n k : Nat) (cr : Vf.Cred) (cwd v : Int) (w : World) (hF : Vf.Good F) (hFS : FsM w lo f Af cf F L) (hn : F.length ≤ 65)
    (hg : Rd w w.heap.size 1 A n (cr.groups.map u32v)) (hng : n ≤ maxLen) (x : ByteArray) (hx : x.size ≤ 4294967296) (W : World) (S : FdS w f cr A n k cwd v W) :
    Calls Tryd.prog 38 #[.string x, .pointer (some ⟨w.heap.size, 0, none⟩), .pointer (some ⟨w.heap.size + 1, 0, none⟩), .pointer (some ⟨w.heap.size + 2, 0, none⟩), .pointer (some ⟨w.heap.size + 3, 0, none⟩)] W fun e w2 =>
      e = .returned (.bool (Se.good F cr cwd x)) ∧ ∃ v', FdS w f cr A n k cwd v' w2 ∧ (Se.good F cr cwd x = true → v' = ((Vf.walk F cr cwd x true).1 : Nat)) := by
  have KW := walk_any F L lo f cf Af A n k cr cwd x true W hF (hFS.belowSz S.bel) hn ((hg.below S.bel).more S.bel.size) hng hx
  have KM : ∀ w', Below W.heap.size W w' → ∀ ino : Int, Calls Tryd.prog 25 #[.pointer (some ⟨f, 0, none⟩), .int .i64 ino] w' fun e w5 => e = .returned (.tuple #[metaV (Vf.metaOf F ino).1, .int .i64 (Vf.metaOf F ino).2]) ∧ Below w'.heap.size w' w5 :=
    fun w' hb ino => meta_any F L f cf _ Af ino w' ((hFS.belowSz S.bel).belowSz hb).toR (Nat.le_refl _) hn hF.kind
  have KY : ∀ w', Below w.heap.size w w' → ∀ m : Vf.Meta, m.mode < 65536 → Calls Tryd.prog 39 #[credV cr A n k, metaV m, .int .u8 4] w' fun e w5 => e = .returned (.bool (Vf.mayR cr m)) ∧ Below w'.heap.size w' w5 :=
    fun w' hb m hm => may4_any cr m A n k w.heap.size w' (hg.below hb) hb.size hng hm
  have hmd := fun ino => meta_mode hF ino
  unfold ptrV credV at KW
  obtain ⟨gd, hgd⟩ : ∃ b, Se.good F cr cwd x = b := ⟨_, rfl⟩
  rw [hgd]
  unfold Se.good at hgd
  obtain ⟨⟨n1, e1⟩, hw1⟩ : ∃ r, Vf.walk F cr cwd x true = r := ⟨_, rfl⟩
  rw [hw1] at KW hgd ⊢
  have KM1 := fun w' hb => KM w' hb (n1 : Nat)
  have hmd1 := hmd (n1 : Nat)
  obtain ⟨⟨⟨mk, mm, mu, mg, ms⟩, me⟩, hm⟩ : ∃ r, Vf.metaOf F (n1 : Nat) = r := ⟨_, rfl⟩
  rw [hm] at KM1 hmd1
  dsimp only at KW hgd hmd1 KM1 ⊢
  rw [hm] at hgd
  dsimp only at hgd
  have KY1 := fun w' hb => KY w' hb ⟨mk, mm, mu, mg, ms⟩ hmd1
  unfold credV at KY1
  unfold metaV at KM1 KY1
  obtain ⟨yb, hyb⟩ : ∃ b, Vf.mayR cr ⟨mk, mm, mu, mg, ms⟩ = b := ⟨_, rfl⟩
  rw [hyb] at KY1 hgd
  dsimp only at KY1 KM1
  have HS := hide S
  have HW := hide KW
  have HM := hide KM1
  have HY := hide KY1
  have Hgd := hide hgd
  obtain ⟨x0, ⟨c0, c1, c2, c3, c4⟩, d0, i0, i1⟩ := S.cells
  clear KW KM KY KM1 KY1 hmd hmd1 hgd hw1 hm hyb hFS hF hg S
  go_enter Tryd.func38, Tryd.ntmps38
  go_wp2_with fail
  refine (unhide HW).mono ?_
  rintro e w2 ⟨rfl, hb2⟩
  have HS2 := hide ((unhide HS).below hb2)
  have Hb2 := hide hb2
  clear x0 c0 c1 c2 c3 c4 d0 i0 i1 hb2 HS HW
  obtain ⟨x0, ⟨c0, c1, c2, c3, c4⟩, d0, i0, i1⟩ := (unhide HS2).cells
  by_cases he : e1 = 0
  case neg =>
    have b1 : (e1 != 0) = true := by simpa using he
    have hg0 : gd = false := by rw [← unhide Hgd, decide_eq_false he]; rfl
    clear Hgd
    subst hg0
    clear he
    go_wp2_with fail
    go_ret
    exact ⟨rfl, _, unhide HS2, fun h => by cases h⟩
  subst he
  have b1 : ((0 : Int) != 0) = false := rfl
  go_wp2_with fail
  refine ((unhide HM) _ (unhide Hb2)).mono ?_
  rintro e w3 ⟨rfl, hb3⟩
  have hb3' := hb3.alloc hb3.size (.cells #[.int .u8 (mk : Nat), .int .u16 (mm : Nat), .int .u32 (mu : Nat), .int .u32 (mg : Nat), .int .i64 (ms : Nat)] 56)
  have hs3 := (unhide HS2).below hb3'
  have hm3 : Blk _ w3.heap.size 56 [.int .u8 (mk : Nat), .int .u16 (mm : Nat), .int .u32 (mu : Nat), .int .u32 (mg : Nat), .int .i64 (ms : Nat)] := Blk.new w3 56 [.int .u8 (mk : Nat), .int .u16 (mm : Nat), .int .u32 (mu : Nat), .int .u32 (mg : Nat), .int .i64 (ms : Nat)]
  have hne : w.heap.size + 3 ≠ w3.heap.size := by
    have h1 := (unhide HS2).i.lt
    have h2 := hb3.size
    omega
  have hs4 := hs3.set (n1 : Nat)
  have hm4 := hm3.other (p := ⟨w.heap.size + 3, 0, none⟩) hne (Value.int .i64 (n1 : Nat))
  have Hb3 := hide ((unhide Hb2).trans (hb3'.mono (unhide Hb2).size))
  have HS3 := hide hs3
  have HS4 := hide hs4
  have HM4 := hide hm4
  clear x0 c0 c1 c2 c3 c4 d0 i0 i1 hb3 hb3' hs3 hs4 hm3 hm4
  obtain ⟨x0, ⟨c0, c1, c2, c3, c4⟩, d0, i0, i1⟩ := (unhide HS3).cells
  by_cases hk : mk = 1
  case neg =>
    have b2 : (((mk : Nat) : Int) == 1) = false := by rw [beq_eq_false_iff_ne]; omega
    have hg0 : gd = false := by rw [← unhide Hgd, decide_eq_false hk]; rfl
    clear Hgd
    subst hg0
    go_wp2_with fail
    go_ret
    exact ⟨rfl, _, unhide HS4, fun h => by cases h⟩
  have b2 : (((mk : Nat) : Int) == 1) = true := by rw [hk]; rfl
  have hg1 : gd = yb := by rw [← unhide Hgd, decide_eq_true hk]; simp
  have KY1 := (unhide HY) _ (unhide HS4).bel
  have HY1 := hide KY1
  have hm4' := unhide HM4
  obtain ⟨z0, z1, z2, z3, z4⟩ := And.intro (hm4'.cell (i := 0) rfl) (And.intro (hm4'.cell (i := 1) rfl) (And.intro (hm4'.cell (i := 2) rfl) (And.intro (hm4'.cell (i := 3) rfl) (hm4'.cell (i := 4) rfl))))
  obtain ⟨-, ⟨u0, u1, u2, u3, u4⟩, -, -, -⟩ := (unhide HS4).cells
  clear KY1 hm4' Hgd HY
  subst hg1
  clear hk
  go_wp2_with fail
  refine (unhide HY1).mono ?_
  rintro e w5 ⟨rfl, hb5⟩
  have HS5 := hide ((unhide HS4).below hb5)
  clear hb5 HY1
  go_wp2_with fail
  go_ret
  exact ⟨rfl, _, unhide HS5, fun _ => rfl⟩

theorem run_loadVar_int (w : World) (a : Addr) (z : Int) (h : w.cell? a = some (.int .i64 z)) : (loadVar 3 a).run Tryd.prog w = .ok (.int .i64 z) w := by
  have hu : Tryd.prog.underlying 3 = some (.int .i64) := Tryd.underlying3
  simp [loadVar, run_underlying hu, h]
theorem results_cell_int3 {fn : Func} {p q r : Tmp} (h : fn.results = #[.cell p 3, .tmp q, .tmp r]) (tmps : Array Value) (w : World) (a : Addr) (z : Int)
    (hp : tmps.getD p undef = .pointer (some a)) (hc : w.cell? a = some (.int .i64 z)) :
    (results fn tmps).run Tryd.prog w = .ok (.tuple #[.int .i64 z, tmps.getD q undef, tmps.getD r undef]) w := by
  have hp' : tmps[p]?.getD undef = .pointer (some a) := by simpa using hp
  simp [results, h, hp', asAddr, run_loadVar_int w a z hc]
/-- What IndexFunc answers of a function that keeps to I, and to T where it says yes. -/
def IdxS (n : Nat) (I : Nat → World → Prop) (T : Nat → World → Prop) (e : Ending) (w' : World) : Prop :=
  (e = .returned (.int .i64 (-1)) ∧ I n w') ∨ ∃ k : Nat, e = .returned (.int .i64 k) ∧ k < n ∧ T k w'
set_option maxHeartbeats 1000000 in
theorem idxs_any (fn : FuncId) (p1 p2 p3 p4 : Value) (hcf : ∀ (args : Array Value) (w : World), (callFunc fn args).run Tryd.prog w = .ok (.enter fn args) w)
    (A : Option Addr) (n c B : Nat) (l : List ByteArray) (w : World) (I T : Nat → World → Prop)
    (hfn : ∀ (k : Nat) (x : ByteArray) (w' : World), l[k]? = some x → I k w' → Calls Tryd.prog fn #[.string x, p1, p2, p3, p4] w' fun e w2 => (e = .returned (.bool true) ∧ T k w2) ∨ (e = .returned (.bool false) ∧ I (k + 1) w2))
    (hrd : ∀ (k : Nat) (w' : World), I k w' → Rd w' B 1 A n (l.map Value.string)) (h0 : I 0 w) (hn : n ≤ maxLen) :
    Calls Tryd.prog 37 #[.slice A n c, .func (.func fn) #[] #[p1, p2, p3, p4]] w (IdxS n I T) := by
  have hln : l.length = n := by have := (hrd 0 w h0).len1; simpa using this
  unfold maxLen at hn
  have Hrd := hide hrd
  have Hln := hide hln
  have Hfn := hide hfn
  have H0 := hide h0
  clear hln hfn hrd h0
  go_enter Tryd.func37, Tryd.ntmps37
  go_wp2_with fail
  go_loopg [8] n (fun gk i wr => ∃ k : Nat, gk = n - k ∧ k ≤ n ∧ i = .int .i64 k ∧ I k wr)
  case atStart => exact ⟨0, by omega, Nat.zero_le _, rfl, unhide H0⟩
  case round =>
    obtain ⟨k, hgk, hk, rfl, hI⟩ := hrel
    have Hgk := hide hgk
    have HI := hide hI
    clear hgk hI
    by_cases hlt : k < n
    · obtain ⟨x, hx⟩ : ∃ x, l[k]? = some x := ⟨_, List.getElem?_eq_getElem (by rw [unhide Hln]; exact hlt)⟩
      obtain ⟨b1, o1, rfl, _, c1⟩ := ((unhide Hrd) k wr (unhide HI)).at_ (k := k) (u := .string x) (by simp [hx])
      have Hc := hide ((unhide Hfn) k x wr hx (unhide HI))
      have ilt : (k : Int) < (n : Int) := by omega
      clear hx
      go_wp2_with fail
      refine (unhide Hc).mono ?_
      rintro e w1 (⟨rfl, hT⟩ | ⟨rfl, hI1⟩)
      · have HT := hide hT
        clear hT
        go_wp2_with fail
        go_ret
        exact .inr ⟨k, rfl, hlt, unhide HT⟩
      · have HI1 := hide hI1
        clear hI1
        go_wp2_with fail
        go_roundg (n - (k + 1))
        case measure => have := unhide Hgk; omega
        case rel => exact ⟨k + 1, rfl, by omega, by go_num, unhide HI1⟩
    · obtain rfl : k = n := by omega
      have ige : ¬ (k : Int) < (k : Int) := by omega
      clear hlt
      go_wp2_with fail
      go_ret
      exact .inl ⟨rfl, unhide HI⟩
theorem callFunc_find1 (args : Array Value) (w : World) : (callFunc 38 args).run Tryd.prog w = .ok (.enter 38 args) w := by kernel_rfl

set_option maxRecDepth 100000 in
set_option maxHeartbeats 4000000 in
theorem find_any (F : List Vf.Nd) (L : List Pl) (lo f cf : Nat) (Af A Al : Option Addr) (n k nl cl : Nat) (cr : Vf.Cred) (cwd : Int) (l : List ByteArray) (w : World) (hF : Vf.Good F) (hFS : FsM w lo f Af cf F L) (hn : F.length ≤ 65)
    (hg : Rd w w.heap.size 1 A n (cr.groups.map u32v)) (hng : n ≤ maxLen) (hl : Rd w w.heap.size 1 Al nl (l.map Value.string)) (hs : ∀ x ∈ l, x.size ≤ 4294967296) (hnl : nl ≤ 4294967296) :
    Calls Tryd.prog 21 #[.pointer (some ⟨f, 0, none⟩), credV cr A n k, .int .i64 cwd, .slice Al nl cl] w fun e w' =>
      e = .returned (.tuple #[.int .i64 ((Se.find F cr cwd l).1 : Nat), .string (Se.find F cr cwd l).2.1, .int .i64 (Se.find F cr cwd l).2.2]) ∧ Below w.heap.size w w' := by
  have S0 := hide (FdS.start w f cr A n k cwd)
  have KI := hide (idxs_any 38 (.pointer (some ⟨w.heap.size, 0, none⟩)) (.pointer (some ⟨w.heap.size + 1, 0, none⟩)) (.pointer (some ⟨w.heap.size + 2, 0, none⟩)) (.pointer (some ⟨w.heap.size + 3, 0, none⟩)) callFunc_find1 Al nl cl w.heap.size l _
    (fun j W => (l.take j).any (Se.good F cr cwd) = false ∧ ∃ v, FdS w f cr A n k cwd v W)
    (fun j W => ∃ x, l[j]? = some x ∧ (l.take j).any (Se.good F cr cwd) = false ∧ Se.good F cr cwd x = true ∧ FdS w f cr A n k cwd ((Vf.walk F cr cwd x true).1 : Nat) W)
    (fun j x W hx hI => by
      obtain ⟨hno, v, hS⟩ := hI
      refine (find1_any F L lo f cf Af A n k cr cwd v w hF hFS hn hg hng x (hs x (List.mem_of_getElem? hx)) W hS).mono ?_
      rintro e w2 ⟨rfl, v', hS', hv'⟩
      cases hgd : Se.good F cr cwd x with
      | true =>
        have := hv' hgd
        subst this
        exact .inl ⟨rfl, x, hx, hno, hgd, hS'⟩
      | false =>
        refine .inr ⟨rfl, ?_, v', hS'⟩
        rw [List.take_add_one, hx, List.any_append, hno]
        simp [hgd])
    (fun j W hI => by obtain ⟨_, v, hS⟩ := hI; exact hl.below hS.bel)
    ⟨by simp, 0, unhide S0⟩ (by unfold maxLen; omega))
  have hlen : l.length = nl := by simpa using hl.len1
  have hnone : l.any (Se.good F cr cwd) = false → Se.find F cr cwd l = (0, ⟨#[]⟩, 19) := Se.find_none
  have hfirst : ∀ (j : Nat) (x : ByteArray), l[j]? = some x → (l.take j).any (Se.good F cr cwd) = false → Se.good F cr cwd x = true → Se.find F cr cwd l = ((Vf.walk F cr cwd x true).1, x, 0) := fun j x => Se.find_first
  obtain ⟨⟨r1, r2, r3⟩, hr⟩ : ∃ r, Se.find F cr cwd l = r := ⟨_, rfl⟩
  rw [hr] at hnone hfirst ⊢
  have Hnone := hide hnone
  have Hfirst := hide hfirst
  have Hl := hide hl
  have Hlen := hide hlen
  unfold credV
  clear hF hFS hg hl hs hlen hnone hfirst hr
  go_enter Tryd.func21, Tryd.ntmps21
  obtain ⟨x0, -, -, -, -⟩ := (unhide S0).cells
  go_wp2_with fail
  refine (unhide KI).mono ?_
  rintro e w1 (⟨rfl, hno, v, hS⟩ | ⟨j, rfl, hj, x, hx, hno, hgd, hS⟩)
  · rw [List.take_of_length_le (by have := unhide Hlen; omega)] at hno
    have hr := (unhide Hnone) hno
    injection hr with e1 e2
    injection e2 with e2 e3
    subst e1 e2 e3
    have hs2 := hS.set 0
    obtain ⟨-, -, -, i0, i1⟩ := hS.cells
    have HS2 := hide hs2
    have v0 := hs2.cells.2.2.2.1
    clear hS hs2 hno KI
    go_wp2_with fail
    (try simp only [Exit.inBlock, Exit.then])
    refine bodyPost_ret (results_cell_int3 rfl _ _ ⟨w.heap.size + 3, 0, none⟩ 0 rfl v0) rfl ?_
    exact ⟨rfl, (unhide HS2).bel⟩
  · have hr := (unhide Hfirst) j x hx hno hgd
    injection hr with e1 e2
    injection e2 with e2 e3
    subst e1 e2 e3
    obtain ⟨b1, o1, rfl, hb1, c1⟩ := ((unhide Hl).below hS.bel).at_ (k := j) (u := .string r2) (by simp [hx])
    have hs2 := hS.set ((Vf.walk F cr cwd r2 true).1 : Nat)
    obtain ⟨-, -, -, i0, i1⟩ := hS.cells
    have HS2 := hide hs2
    have v0 := hs2.cells.2.2.2.1
    have ilt : (j : Int) < (nl : Int) := by omega
    have ige : ¬ (j : Int) < 0 := by omega
    clear hS hs2 hno KI hx hgd
    go_wp2_with fail
    go_region
    go_wp2_with fail
    (try simp only [Exit.inBlock, Exit.then])
    refine bodyPost_ret (results_cell_int3 rfl _ _ ⟨w.heap.size + 3, 0, none⟩ ((Vf.walk F cr cwd r2 true).1 : Nat) rfl v0) rfl ?_
    exact ⟨rfl, below_drew' (unhide HS2).bel⟩
end Go.Proofs.YtchmdpkjipaafaaDoor
namespace Go.Proofs.YtchmdpkjipaafaaDoor
set_option linter.unusedVariables false
set_option linter.unusedSimpArgs false
open Go.RowKit Go.ChangeShapes Go.WideShapes Go.Joins Go.Deep

section
variable {H : Type} {enc : TypeId × Value → H} {P : Program} {w : World} {base : Nat} {held : Bool}
theorem flds_one {spare : Nat → Bool} {t : TypeId} {fs : Array Field} {fuel : Nat} {cs : List Value} {x : DataW H × List MemPlace} (ht : P.underlying t = some (.struct fs)) (hone : oneCellFields P fs = true) (hC : P.cellsOf t = fs.size)
    (h : DataW.trod enc P w base spare held fuel t cs = some x) : cs.length = fs.size ∧ ∃ n, ∀ (i : Nat) (f : Field) (v : Value), fs[i]? = some f → cs[i]? = some v → ∃ y, DataW.trod enc P w base spare held n f.type [v] = some y := by
  obtain ⟨xs, n, _, rfl, hl, hlen, hf⟩ := DataW.trod_struct ht h
  refine ⟨hl.trans hC, n, fun i f v hi hv => ?_⟩
  obtain ⟨o, k⟩ := hone_of hone i f hi
  have hi2 : i < fs.size := (Array.getElem?_eq_some_iff.1 hi).1
  have h1 := hf i f hi
  have e : ((cs.drop f.offset).take (P.cellsOf f.type)) = [v] := by
    rw [o, k]
    have hlt : i < cs.length := (List.getElem?_eq_some_iff.1 hv).1
    rw [List.drop_eq_getElem_cons hlt, (List.getElem?_eq_some_iff.1 hv).2]
    rfl
  rw [e] at h1
  exact ⟨_, h1.trans (List.getElem?_eq_getElem (by omega))⟩
/-- The fields of a struct, each one cell, by their types. -/
theorem flds_vals {t : TypeId} (tys : Array TypeId) {fuel : Nat} {cs : List Value} {x : DataW H × List MemPlace}
    (hS : ∃ fs, P.underlying t = some (.struct fs) ∧ oneCellFields P fs = true ∧ P.cellsOf t = fs.size ∧ fs.map (·.type) = tys)
    (h : DataW.trod enc P w base (fun _ => true) held fuel t cs = some x) : cs.length = tys.size ∧ ∃ n, ∀ (i : Nat) (t : TypeId) (v : Value), tys[i]? = some t → cs[i]? = some v → ∃ y, DataW.trod enc P w base (fun _ => true) held n t [v] = some y := by
  obtain ⟨fs, ht, hone, hC, hty⟩ := hS
  obtain ⟨hl, n, hf⟩ := flds_one ht hone hC h
  refine ⟨by rw [← hty]; simpa using hl, n, fun i t v hi hv => ?_⟩
  rw [← hty, Array.getElem?_map] at hi
  cases hq : fs[i]? with
  | none => rw [hq] at hi; cases hi
  | some f =>
    rw [hq] at hi
    obtain ⟨y, hy⟩ := hf i f v hq hv
    have e : f.type = t := by simpa using hi
    rw [e] at hy
    exact ⟨y, hy⟩
theorem fcells_at {a : Addr} {k : Nat} {cs : List Value} (h : w.cells? base a k = some cs) : cs.length = k ∧ ∀ j, j < k → w.cell? (a.add j) = cs[j]? := by
  unfold World.cells? at h
  split at h
  · have hl := mapM_some_length h
    refine ⟨by simpa using hl, fun j hj => ?_⟩
    exact mapM_some_get h j j (by simp [hj])
  · cases h
theorem fslice_is {t e : TypeId} {fuel : Nat} {v : Value} {y : DataW H × List MemPlace} (ht : P.underlying t = some (.slice e)) (hf : DataW.trod enc P w base (fun _ => true) held fuel t [v] = some y) : ∃ A n c, v = .slice A n c := by
  obtain ⟨a, l, c, h⟩ := slice_form ht hf
  simp only [List.cons.injEq, and_true] at h
  exact ⟨a, l, c, h⟩
theorem fu64_is {t : TypeId} {fuel : Nat} {v : Value} {y : DataW H × List MemPlace} (ht : P.underlying t = some (.int .u64)) (hf : DataW.trod enc P w base (fun _ => true) held fuel t [v] = some y) : ∃ n : Nat, v = .int .u64 n ∧ n < 18446744073709551616 := by
  obtain ⟨z, q, -, hw⟩ := DataW.trod_int ht hf
  simp only [List.cons.injEq, and_true] at q
  have b : 0 ≤ z ∧ z ≤ 18446744073709551615 := by simpa [Lit.wf, IntKind.min, IntKind.max, IntKind.signed, IntKind.bits] using hw
  obtain ⟨n, rfl⟩ := Int.eq_ofNat_of_zero_le b.1
  exact ⟨n, q, by omega⟩
theorem fu32_is {t : TypeId} {fuel : Nat} {v : Value} {y : DataW H × List MemPlace} (ht : P.underlying t = some (.int .u32)) (hf : DataW.trod enc P w base (fun _ => true) held fuel t [v] = some y) : ∃ n : Nat, v = .int .u32 n ∧ n < 4294967296 := by
  obtain ⟨z, q, -, hw⟩ := DataW.trod_int ht hf
  simp only [List.cons.injEq, and_true] at q
  have b : 0 ≤ z ∧ z ≤ 4294967295 := by simpa [Lit.wf, IntKind.min, IntKind.max, IntKind.signed, IntKind.bits] using hw
  obtain ⟨n, rfl⟩ := Int.eq_ofNat_of_zero_le b.1
  exact ⟨n, q, by omega⟩
theorem fu16_is {t : TypeId} {fuel : Nat} {v : Value} {y : DataW H × List MemPlace} (ht : P.underlying t = some (.int .u16)) (hf : DataW.trod enc P w base (fun _ => true) held fuel t [v] = some y) : ∃ n : Nat, v = .int .u16 n ∧ n < 65536 := by
  obtain ⟨z, q, -, hw⟩ := DataW.trod_int ht hf
  simp only [List.cons.injEq, and_true] at q
  have b : 0 ≤ z ∧ z ≤ 65535 := by simpa [Lit.wf, IntKind.min, IntKind.max, IntKind.signed, IntKind.bits] using hw
  obtain ⟨n, rfl⟩ := Int.eq_ofNat_of_zero_le b.1
  exact ⟨n, q, by omega⟩
theorem fu8_is {t : TypeId} {fuel : Nat} {v : Value} {y : DataW H × List MemPlace} (ht : P.underlying t = some (.int .u8)) (hf : DataW.trod enc P w base (fun _ => true) held fuel t [v] = some y) : ∃ n : Nat, v = .int .u8 n ∧ n < 256 := by
  obtain ⟨z, q, -, hw⟩ := DataW.trod_int ht hf
  simp only [List.cons.injEq, and_true] at q
  have b : 0 ≤ z ∧ z ≤ 255 := by simpa [Lit.wf, IntKind.min, IntKind.max, IntKind.signed, IntKind.bits] using hw
  obtain ⟨n, rfl⟩ := Int.eq_ofNat_of_zero_le b.1
  exact ⟨n, q, by omega⟩
theorem fint_is {t : TypeId} {fuel : Nat} {v : Value} {y : DataW H × List MemPlace} (ht : P.underlying t = some (.int .i64)) (hf : DataW.trod enc P w base (fun _ => true) held fuel t [v] = some y) : ∃ n : Int, v = .int .i64 n ∧ -9223372036854775808 ≤ n ∧ n ≤ 9223372036854775807 := by
  obtain ⟨z, q, -, hw⟩ := DataW.trod_int ht hf
  simp only [List.cons.injEq, and_true] at q
  have b : -9223372036854775808 ≤ z ∧ z ≤ 9223372036854775807 := by simpa [Lit.wf, IntKind.min, IntKind.max, IntKind.signed, IntKind.bits] using hw
  exact ⟨z, q, b⟩
theorem fstr_is {t : TypeId} {fuel : Nat} {v : Value} {y : DataW H × List MemPlace} (ht : P.underlying t = some .string) (hf : DataW.trod enc P w base (fun _ => true) held fuel t [v] = some y) : ∃ s : ByteArray, v = .string s ∧ s.size ≤ maxLen := by
  obtain ⟨s, q, -, bs⟩ := DataW.trod_string ht hf
  simp only [List.cons.injEq, and_true] at q
  exact ⟨s, q, bs⟩
theorem fbool_is {t : TypeId} {fuel : Nat} {v : Value} {y : DataW H × List MemPlace} (ht : P.underlying t = some .bool) (hf : DataW.trod enc P w base (fun _ => true) held fuel t [v] = some y) : ∃ b : Bool, v = .bool b := by
  obtain ⟨s, q, -⟩ := DataW.trod_bool ht hf
  simp only [List.cons.injEq, and_true] at q
  exact ⟨s, q⟩

/-- The cells of a row of structs. -/
def rowCs {α : Type} (vals : α → List Value) (l : List α) : List Value := l.flatMap vals
theorem rowCs_len {α : Type} {vals : α → List Value} {size : Nat} (hv : ∀ s, (vals s).length = size) (l : List α) : (rowCs vals l).length = l.length * size := by
  induction l with
  | nil => simp [rowCs]
  | cons s r ih => 
    have : (rowCs vals (s :: r)).length = size + (rowCs vals r).length := by simp [rowCs, hv]
    rw [this, ih, List.length_cons, Nat.add_mul]
    omega
theorem rowCs_app {α : Type} (vals : α → List Value) (a b : List α) : rowCs vals (a ++ b) = rowCs vals a ++ rowCs vals b := by simp [rowCs]
theorem rowCs_at {α : Type} {vals : α → List Value} {size : Nat} (hv : ∀ s, (vals s).length = size) (l : List α) (k : Nat) (s : α) (hk : l[k]? = some s) (j : Nat) (hj : j < size) : (rowCs vals l)[k * size + j]? = (vals s)[j]? := by
  have hlt := (List.getElem?_eq_some_iff.1 hk).1
  have e : l = l.take k ++ s :: l.drop (k + 1) := by
    rw [← (List.getElem?_eq_some_iff.1 hk).2, ← List.drop_eq_getElem_cons hlt, List.take_append_drop]
  have hl : (rowCs vals (l.take k)).length = k * size := by rw [rowCs_len hv, List.length_take]; congr 1; omega
  conv => lhs; rw [e]
  rw [rowCs_app, List.getElem?_append_right (by omega), hl, Nat.add_sub_cancel_left]
  show (vals s ++ rowCs vals (l.drop (k + 1)))[j]? = _
  rw [List.getElem?_append_left (by rw [hv]; exact hj)]
/-- A slice of structs as an argument. -/
theorem open_structs_rd {α : Type} [Inhabited α] {A : Option Addr} {n c fuel size : Nat} {t e : TypeId} {x : DataW H × List MemPlace} (ht : P.underlying t = some (.slice e)) (h6 : P.cellsOf e = size) (hpos : 0 < size) (vals : α → List Value) (ok : α → Prop) (hv : ∀ s, (vals s).length = size)
    (hone : ∀ fuel cs x, DataW.trod enc P w base (fun _ => true) held fuel e cs = some x → ∃ s, cs = vals s ∧ ok s)
    (h : DataW.trod enc P w base (fun _ => true) held fuel t [.slice A n c] = some x) :
    ∃ l : List α, Rd w w.heap.size size A n (rowCs vals l) ∧ l.length = n ∧ n ≤ c ∧ c ≤ maxLen ∧ ∀ s ∈ l, ok s := by
  rcases Go.Deep.open_slice ht h with ⟨h1, h2⟩ | ⟨a, len, cap, m, k, D, Pl, h1, hb, hl, hm, hmm, hx, hel⟩
  · simp at h1
    obtain ⟨rfl, rfl, rfl⟩ := h1
    exact ⟨[], Rd.none_ _ _ _ _, rfl, Nat.le_refl _, by unfold maxLen; omega, by simp⟩
  · simp at h1
    obtain ⟨rfl, rfl, rfl⟩ := h1
    simp only [if_true] at hmm
    have each : ∀ i, i < n → ∃ s : α, ok s ∧ ∀ j, j < size → w.cell? (a.add (i * size + j)) = (vals s)[j]? := by
      intro i hi
      obtain ⟨cs, hc, ht⟩ := hel i (by omega)
      rw [h6] at hc
      obtain ⟨s, rfl, hs⟩ := hone _ _ _ ht
      obtain ⟨_, hcell⟩ := fcells_at hc
      refine ⟨s, hs, fun j hj => ?_⟩
      have := hcell j hj
      rw [← this]
      congr 1
      by_cases g1 : i * size = 0 <;> by_cases g2 : j = 0 <;> simp [Addr.add, g1, g2, Nat.add_assoc]
    obtain ⟨S, hS⟩ := Go.Deep.choose_lt each
    refine ⟨(List.range n).map S, ⟨by rw [rowCs_len hv]; simp, ?_⟩, by simp, hl, hm, ?_⟩
    · by_cases h0 : n = 0
      · subst h0; exact .inl rfl
      · obtain ⟨b, off, spot⟩ := a
        have hs0 := (hS 0 (by omega)).2 0 hpos
        have hlt0 : 0 < (vals (S 0)).length := by rw [hv]; exact hpos
        have hs : spot = none := by simpa [Addr.add] using World.cell?_spot (hs0.trans (List.getElem?_eq_getElem hlt0))
        subst hs
        have hc2 : ∀ i, i < n → ∀ j, j < size → w.cell? ⟨b, off + (i * size + j), none⟩ = (vals (S i))[j]? := fun i hi j hj => by
          rw [← Go.WideShapes.add_plain]; exact (hS i hi).2 j hj
        have hblk : b < w.heap.size := cell_lt (a := ⟨b, off + (0 * size + 0), none⟩) ((hc2 0 (by omega) 0 hpos).trans (List.getElem?_eq_getElem hlt0))
        refine .inr ⟨b, off, rfl, hblk, fun j u hu => ?_⟩
        have hj : j < n * size := by
          have := (List.getElem?_eq_some_iff.1 hu).1
          rw [rowCs_len hv] at this
          simpa using this
        have hq : j / size < n := (Nat.div_lt_iff_lt_mul hpos).2 hj
        have hr : j % size < size := Nat.mod_lt _ hpos
        have hjj : j / size * size + j % size = j := by rw [Nat.mul_comm]; exact Nat.div_add_mod j size
        have hat := rowCs_at hv ((List.range n).map S) (j / size) (S (j / size)) (by simp [hq]) (j % size) hr
        rw [hjj] at hat
        have := hc2 (j / size) hq (j % size) hr
        rw [hjj] at this
        rw [this, ← hat, hu]
    · intro s hs
      simp only [List.mem_map, List.mem_range] at hs
      obtain ⟨i, hi, rfl⟩ := hs
      exact (hS i hi).1
end
end Go.Proofs.YtchmdpkjipaafaaDoor
namespace Go.Proofs.YtchmdpkjipaafaaDoor
set_option linter.unusedVariables false
set_option linter.unusedSimpArgs false
open Go.RowKit

theorem andn2559 (n : Nat) (h : n < 65536) : (bits .andNot .u16 (n : Int) 2559 != 0) = !decide (n &&& 2559 = n) := by
  have e : (2559 : Int) = ((2559 : Nat) : Int) := rfl
  rw [e, u16_andNot_nat n 2559 h (by omega)]
  have h1 : n &&& 62976 = 0 ↔ n &&& 2559 = n := by
    have hn : n &&& 65535 = n := by
      have := Nat.and_two_pow_sub_one_eq_mod n 16
      simp only [Nat.reducePow, Nat.reduceSub] at this
      rw [this]
      omega
    constructor
    · intro h0
      have h2 : n &&& (2559 ||| 62976) = (n &&& 2559) ||| (n &&& 62976) := Nat.and_or_distrib_left ..
      rw [h0, Nat.or_zero] at h2
      rw [← h2]
      exact hn
    · intro h0
      rw [← h0, Nat.and_assoc]
      exact Nat.and_zero n
  rw [bne, Bool.not_inj_iff, Bool.eq_iff_iff, beq_iff_eq, decide_eq_true_eq, ← h1]
  have e2 : 65535 - 2559 = 62976 := rfl
  rw [e2]
  omega

def entC (e : Vf.Ent) (A : Option Addr) (n c : Nat) : List Value := [.string e.path, .int .u8 (e.kind : Nat), .int .u16 (e.mode : Nat), .int .u32 (e.uid : Nat), .int .u32 (e.gid : Nat), .slice A n c, .string e.to]
def entV (e : Vf.Ent) (A : Option Addr) (n c : Nat) : Value := .agg #[.string e.path, .int .u8 (e.kind : Nat), .int .u16 (e.mode : Nat), .int .u32 (e.uid : Nat), .int .u32 (e.gid : Nat), .slice A n c, .string e.to]
/-- What parts answers. -/
def PtVE (x : Vf.Ent) (w : World) (e : Ending) (w' : World) : Prop :=
  ∃ A n c, e = .returned (.tuple #[.slice A n c, .int .i64 (Vf.may x)]) ∧ (Vf.may x = 0 → n = (Pth.partsL x.path).length ∧ w'.ownsRow w.heap.size 9 1 (.slice A n c) n ((Pth.partsL x.path).map Value.string)) ∧ Below w.heap.size w w'
theorem ptVE_no {x : Vf.Ent} {w w' : World} {er : Int} (h : Vf.may x = er) (h0 : er ≠ 0) (hb : Below w.heap.size w w') : PtVE x w (.returned (.tuple #[.slice none 0 0, .int .i64 er])) w' := by
  unfold PtVE
  rw [h]
  exact ⟨none, 0, 0, rfl, fun h1 => absurd h1 h0, hb⟩
theorem contains_dd (A : Option Addr) (n c B : Nat) (l : List ByteArray) (w : World) (hl : Rd w B 1 A n (l.map Value.string)) (hn : n ≤ maxLen) :
    Calls Tryd.prog 67 #[.slice A n c, .string ⟨#[46, 46]⟩] w fun e w' => e = .returned (.bool (l.any fun x => decide (x = Vf.dd))) ∧ w = w' := by
  have hll : l.length = n := by simpa using hl.len1
  unfold maxLen at hn
  rcases hl.2 with h0 | ⟨b, off, rfl, hb, hc⟩
  · have h1 : l = [] := by simpa using h0
    subst h1
    simp only [List.length_nil] at hll
    subst hll
    refine (flipw (Tryd.slices_Contains_string_empty A c ⟨#[46, 46]⟩ w)).mono ?_
    rintro e w' ⟨rfl, rfl⟩
    exact ⟨rfl, rfl⟩
  · refine (flipw (Tryd.slices_Contains_string b off n c l ⟨#[46, 46]⟩ w (by omega) (by omega) (fun j hj => ?_))).mono ?_
    · have := hc j (.string l[j]) (by rw [List.getElem?_map, List.getElem?_eq_getElem hj]; rfl)
      rw [this, List.getD_eq_getElem?_getD, List.getElem?_eq_getElem hj]
      rfl
    · rintro e w' ⟨rfl, rfl⟩
      refine ⟨ret_bool ?_, rfl⟩
      rw [List.take_of_length_le (by omega), Bool.eq_iff_iff, List.any_eq_true]
      refine (Lib.containsS_iff l ⟨#[46, 46]⟩).trans ⟨fun h => ⟨_, h, by simp [Vf.dd]⟩, fun ⟨x, hx, h⟩ => ?_⟩
      rw [decide_eq_true_eq] at h
      rw [h] at hx
      exact hx

set_option maxRecDepth 100000 in
set_option maxHeartbeats 4000000 in
theorem partsV_any (x : Vf.Ent) (A : Option Addr) (n c : Nat) (w : World) (hd : x.data.length = n) (hn : n ≤ 4294967296) (hps : x.path.size ≤ 4294967296) (hto : x.to.size ≤ 4294967296) (hmd : x.mode < 65536) :
    Calls Tryd.prog 52 #[entV x A n c] w (PtVE x w) := by
  have hb0 : Below w.heap.size w (w.alloc (.cells (entC x A n c).toArray 64)) := (Below.refl _ _).alloc (Nat.le_refl _) _
  have hbk : Blk (w.alloc (.cells (entC x A n c).toArray 64)) w.heap.size 64 (entC x A n c) := Blk.new w 64 _
  have KP := hide (parts_any x.path (by unfold maxLen; omega) (w.alloc (.cells (entC x A n c).toArray 64)))
  have KT := hide (fun w' => tail_any x.path (by omega) w')
  have KK := hide (fun w' => check_any x.to (by unfold maxLen; omega) w')
  have hand := andn2559 x.mode hmd
  have hmay : Vf.may x = if ¬ (1 ≤ x.kind ∧ x.kind ≤ 3) ∨ x.mode &&& 2559 ≠ x.mode then 1
    else if Pth.chk x.path ≠ 0 ∨ Pth.rootB x.path = false ∨ (Pth.partsL x.path).isEmpty = true ∨ Pth.tailB x.path = true ∨ (Pth.partsL x.path).any (fun y => decide (y = Vf.dd)) = true then 1
    else if (x.kind ≠ 1 ∧ x.data ≠ []) ∨ (x.kind ≠ 3 ∧ x.to.size ≠ 0) ∨ (x.kind = 3 ∧ Pth.chk x.to ≠ 0) then 1
    else if 65536 < x.data.length then 12 else 0 := rfl
  have hdn : x.data ≠ [] ↔ 0 < n := by rw [← hd, List.length_pos_iff]
  simp only [hdn] at hmay
  rw [hd] at hmay
  have hpl2 := Vf.parts_len x.path
  obtain ⟨ck, hck⟩ : ∃ b, Pth.chk x.path = b := ⟨_, rfl⟩
  obtain ⟨tb, htb⟩ : ∃ b, Pth.rootB x.path = b := ⟨_, rfl⟩
  obtain ⟨pl, hpl⟩ : ∃ l, Pth.partsL x.path = l := ⟨_, rfl⟩
  obtain ⟨tl, htl⟩ : ∃ b, Pth.tailB x.path = b := ⟨_, rfl⟩
  obtain ⟨ct, hct⟩ : ∃ b, Pth.chk x.to = b := ⟨_, rfl⟩
  obtain ⟨dd, hdd⟩ : ∃ b, (pl.any fun y => decide (y = Vf.dd)) = b := ⟨_, rfl⟩
  obtain ⟨np, hnp⟩ : ∃ n, pl.length = n := ⟨_, rfl⟩
  have hpe : pl.isEmpty = true ↔ np = 0 := by rw [← hnp, List.isEmpty_iff_length_eq_zero]
  simp only [hck, htb, hpl, htl, hct, hdd, hpe] at hmay
  rw [hck, htb, hpl, hnp] at KP
  rw [htl] at KT
  rw [hct] at KK
  rw [hpl, hnp] at hpl2
  have Hmay := hide hmay
  have Hb0 := hide hb0
  have Hbk := hide hbk
  have Hpl := hide hpl
  have Hnp := hide hnp
  have Hdd := hide hdd
  have hemp : x.to.toList.isEmpty = decide (x.to.size = 0) := isEmpty_toList x.to
  unfold entV
  unfold entC at KP
  clear hmay hd hdn hpl hck htb htl hct hdd hpe hnp hb0 hbk hps hto
  go_enter Tryd.func52, Tryd.ntmps52
  go_wp2_with fail
  refine (unhide KP).mono ?_
  rintro e w1 ⟨A1, c1, rfl, ho1, hb1⟩
  have hbk1 := (unhide Hbk).belowSz hb1
  obtain ⟨v0, v1, v2, v3, v4, v5, v6⟩ : w1.cell? ⟨w.heap.size, 0, none⟩ = some (.string x.path) ∧ w1.cell? ⟨w.heap.size, 1, none⟩ = some (.int .u8 (x.kind : Nat)) ∧ w1.cell? ⟨w.heap.size, 2, none⟩ = some (.int .u16 (x.mode : Nat)) ∧ w1.cell? ⟨w.heap.size, 3, none⟩ = some (.int .u32 (x.uid : Nat)) ∧ w1.cell? ⟨w.heap.size, 4, none⟩ = some (.int .u32 (x.gid : Nat)) ∧ w1.cell? ⟨w.heap.size, 5, none⟩ = some (.slice A n c) ∧ w1.cell? ⟨w.heap.size, 6, none⟩ = some (.string x.to) := ⟨hbk1.cell rfl, hbk1.cell rfl, hbk1.cell rfl, hbk1.cell rfl, hbk1.cell rfl, hbk1.cell rfl, hbk1.cell rfl⟩
  have Hb1 := hide ((unhide Hb0).trans (hb1.mono (by simp)))
  have KC := contains_dd A1 np c1 w1.heap.size pl w1 (Rd.of_own ho1) (by unfold maxLen; omega)
  rw [unhide Hdd] at KC
  have hlt1 : w.heap.size < w1.heap.size := hbk1.lt
  have Ho1 := hide ho1
  have HKC := hide KC
  clear hb1 ho1 hbk1 KC KP Hbk
  by_cases k1 : (x.kind : Int) < 1
  · have hm : Vf.may x = 1 := by rw [unhide Hmay, if_pos (.inl (by omega))]
    have Hm := hide hm
    clear hm hand hemp
    go_wp2_with fail
    go_ret2
    exact ptVE_no (unhide Hm) (by decide) (unhide Hb1)
  by_cases k2 : (3 : Int) < (x.kind : Int)
  · have hm : Vf.may x = 1 := by rw [unhide Hmay, if_pos (.inl (by omega))]
    have Hm := hide hm
    clear hm hand hemp
    go_wp2_with fail
    go_ret2
    exact ptVE_no (unhide Hm) (by decide) (unhide Hb1)
  by_cases k3 : x.mode &&& 2559 = x.mode
  case neg =>
    have hm : Vf.may x = 1 := by rw [unhide Hmay, if_pos (.inr k3)]
    rw [decide_eq_false k3] at hand
    have Hm := hide hm
    clear hm k3 hemp
    go_wp2_with fail
    go_ret2
    exact ptVE_no (unhide Hm) (by decide) (unhide Hb1)
  rw [decide_eq_true k3] at hand
  have hmay2 := unhide Hmay
  rw [if_neg (by rintro (h | h); exact h (by omega); exact h k3)] at hmay2
  clear k3 Hmay
  by_cases k4 : ck = 0
  case neg =>
    have hm : Vf.may x = 1 := by rw [hmay2, if_pos (.inl k4)]
    have b4 : (ck != 0) = true := by simp [k4]
    have Hm := hide hm
    clear hm k4 hemp hmay2
    go_wp2_with fail
    go_ret2
    exact ptVE_no (unhide Hm) (by decide) (unhide Hb1)
  subst k4
  have b4 : ((0 : Int) != 0) = false := rfl
  cases tb with
  | false =>
    have hm : Vf.may x = 1 := by rw [hmay2, if_pos (.inr (.inl rfl))]
    have Hm := hide hm
    clear hm hemp hmay2
    go_wp2_with fail
    go_ret2
    exact ptVE_no (unhide Hm) (by decide) (unhide Hb1)
  | true =>
  by_cases k5 : np = 0
  · have hm : Vf.may x = 1 := by rw [hmay2, if_pos (.inr (.inr (.inl k5)))]
    have b5 : ((np : Int) == 0) = true := by rw [k5]; rfl
    have Hm := hide hm
    clear hm hemp hmay2 k5
    go_wp2_with fail
    go_ret2
    exact ptVE_no (unhide Hm) (by decide) (unhide Hb1)
  have b5 : ((np : Int) == 0) = false := by rw [beq_eq_false_iff_ne]; omega
  cases tl with
  | true =>
    have hm : Vf.may x = 1 := by rw [hmay2, if_pos (.inr (.inr (.inr (.inl rfl))))]
    have Hm := hide hm
    clear hm hemp hmay2 k5
    go_wp2_with (go_at_call 45; refine ((unhide KT) _).mono ?_; rintro e w2 ⟨rfl, rfl⟩)
    go_ret2
    exact ptVE_no (unhide Hm) (by decide) (unhide Hb1)
  | false =>
  cases dd with
  | true =>
    have hm : Vf.may x = 1 := by rw [hmay2, if_pos (.inr (.inr (.inr (.inr rfl))))]
    have Hm := hide hm
    clear hm hemp hmay2 k5
    go_wp2_with (first | (go_at_call 45; refine ((unhide KT) _).mono ?_; rintro e w2 ⟨rfl, rfl⟩) | (go_at_call 67; refine (unhide HKC).mono ?_; rintro e w2 ⟨rfl, rfl⟩))
    go_ret2
    exact ptVE_no (unhide Hm) (by decide) (unhide Hb1)
  | false =>
  rw [if_neg (by simp [k5])] at hmay2
  have Hmay2 := hide hmay2
  clear hmay2 k5
  by_cases k6 : x.kind ≠ 1 ∧ 0 < n
  · have hm : Vf.may x = 1 := by rw [unhide Hmay2, if_pos (.inl k6)]
    have b6 : ((x.kind : Int) != 1) = true := by simp; omega
    have b7 : (0 : Int) < (n : Int) := by omega
    have Hm := hide hm
    clear hm hemp k6
    go_wp2_with (first | (go_at_call 45; refine ((unhide KT) _).mono ?_; rintro e w2 ⟨rfl, rfl⟩) | (go_at_call 67; refine (unhide HKC).mono ?_; rintro e w2 ⟨rfl, rfl⟩))
    go_ret2
    exact ptVE_no (unhide Hm) (by decide) (unhide Hb1)
  have i0 : ¬ (0 : Int) < (n : Int) ∨ x.kind = 1 := by omega
  rcases (show x.kind = 1 ∨ x.kind = 2 ∨ x.kind = 3 by omega) with hk | hk | hk
  · have q1 : ((x.kind : Int) != 1) = false := by rw [hk]; rfl
    have q3 : ((x.kind : Int) != 3) = true := by rw [hk]; rfl
    have q4 : ((x.kind : Int) == 3) = false := by rw [hk]; rfl
    clear i0
    by_cases k8 : x.to.size = 0
    · rw [decide_eq_true k8] at hemp
      have hto2 : x.to.toList = [] := List.isEmpty_iff.1 hemp
      have hn1 : ¬ ((x.kind ≠ 1 ∧ 0 < n) ∨ (x.kind ≠ 3 ∧ x.to.size ≠ 0) ∨ (x.kind = 3 ∧ ct ≠ 0)) := by omega
      have Hn1 := hide hn1
      clear hn1 k8 k6 hk
      by_cases k9 : 65536 < n
      · have hm : Vf.may x = 12 := by rw [unhide Hmay2, if_neg (unhide Hn1), if_pos k9]
        have b9 : (65536 : Int) < (n : Int) := by omega
        have Hm := hide hm
        clear hm k9
        go_wp2_with (first | (go_at_call 45; refine ((unhide KT) _).mono ?_; rintro e w2 ⟨rfl, rfl⟩) | (go_at_call 67; refine (unhide HKC).mono ?_; rintro e w2 ⟨rfl, rfl⟩))
        go_ret2
        exact ptVE_no (unhide Hm) (by decide) (unhide Hb1)
      · have hm : Vf.may x = 0 := by rw [unhide Hmay2, if_neg (unhide Hn1), if_neg k9]
        have b9 : ¬ (65536 : Int) < (n : Int) := by omega
        have Hm := hide hm
        clear hm k9
        go_wp2_with (first | (go_at_call 45; refine ((unhide KT) _).mono ?_; rintro e w2 ⟨rfl, rfl⟩) | (go_at_call 67; refine (unhide HKC).mono ?_; rintro e w2 ⟨rfl, rfl⟩))
        go_ret2
        unfold PtVE
        rw [unhide Hm, unhide Hpl, unhide Hnp]
        exact ⟨A1, np, c1, rfl, fun _ => ⟨rfl, own_base (unhide Ho1) (by simp)⟩, (unhide Hb1)⟩
    · rw [decide_eq_false k8] at hemp
      have hto2 : ¬ x.to.toList = [] := fun h => by rw [h] at hemp; cases hemp
      have hm : Vf.may x = 1 := by rw [unhide Hmay2, if_pos (.inr (.inl ⟨by omega, k8⟩))]
      have Hm := hide hm
      clear hm k8 k6 hk
      go_wp2_with (first | (go_at_call 45; refine ((unhide KT) _).mono ?_; rintro e w2 ⟨rfl, rfl⟩) | (go_at_call 67; refine (unhide HKC).mono ?_; rintro e w2 ⟨rfl, rfl⟩))
      go_ret2
      exact ptVE_no (unhide Hm) (by decide) (unhide Hb1)
  · have q1 : ((x.kind : Int) != 1) = true := by rw [hk]; rfl
    have q3 : ((x.kind : Int) != 3) = true := by rw [hk]; rfl
    have q4 : ((x.kind : Int) == 3) = false := by rw [hk]; rfl
    have i1 : ¬ (0 : Int) < (n : Int) := by omega
    clear i0
    by_cases k8 : x.to.size = 0
    · rw [decide_eq_true k8] at hemp
      have hto2 : x.to.toList = [] := List.isEmpty_iff.1 hemp
      have hn1 : ¬ ((x.kind ≠ 1 ∧ 0 < n) ∨ (x.kind ≠ 3 ∧ x.to.size ≠ 0) ∨ (x.kind = 3 ∧ ct ≠ 0)) := by omega
      have Hn1 := hide hn1
      clear hn1 k8 k6 hk
      by_cases k9 : 65536 < n
      · exact absurd k9 (by omega)
      · have hm : Vf.may x = 0 := by rw [unhide Hmay2, if_neg (unhide Hn1), if_neg k9]
        have b9 : ¬ (65536 : Int) < (n : Int) := by omega
        have Hm := hide hm
        clear hm k9
        go_wp2_with (first | (go_at_call 45; refine ((unhide KT) _).mono ?_; rintro e w2 ⟨rfl, rfl⟩) | (go_at_call 67; refine (unhide HKC).mono ?_; rintro e w2 ⟨rfl, rfl⟩))
        go_ret2
        unfold PtVE
        rw [unhide Hm, unhide Hpl, unhide Hnp]
        exact ⟨A1, np, c1, rfl, fun _ => ⟨rfl, own_base (unhide Ho1) (by simp)⟩, (unhide Hb1)⟩
    · rw [decide_eq_false k8] at hemp
      have hto2 : ¬ x.to.toList = [] := fun h => by rw [h] at hemp; cases hemp
      have hm : Vf.may x = 1 := by rw [unhide Hmay2, if_pos (.inr (.inl ⟨by omega, k8⟩))]
      have Hm := hide hm
      clear hm k8 k6 hk
      go_wp2_with (first | (go_at_call 45; refine ((unhide KT) _).mono ?_; rintro e w2 ⟨rfl, rfl⟩) | (go_at_call 67; refine (unhide HKC).mono ?_; rintro e w2 ⟨rfl, rfl⟩))
      go_ret2
      exact ptVE_no (unhide Hm) (by decide) (unhide Hb1)
  · have q1 : ((x.kind : Int) != 1) = true := by rw [hk]; rfl
    have q3 : ((x.kind : Int) != 3) = false := by rw [hk]; rfl
    have q4 : ((x.kind : Int) == 3) = true := by rw [hk]; rfl
    have i1 : ¬ (0 : Int) < (n : Int) := by omega
    clear i0 hemp
    by_cases k8 : ct = 0
    · have hn1 : ¬ ((x.kind ≠ 1 ∧ 0 < n) ∨ (x.kind ≠ 3 ∧ x.to.size ≠ 0) ∨ (x.kind = 3 ∧ ct ≠ 0)) := by omega
      subst k8
      have q8 : ((0 : Int) != 0) = false := rfl
      have Hn1 := hide hn1
      clear hn1 k6 hk
      by_cases k9 : 65536 < n
      · exact absurd k9 (by omega)
      · have hm : Vf.may x = 0 := by rw [unhide Hmay2, if_neg (unhide Hn1), if_neg k9]
        have b9 : ¬ (65536 : Int) < (n : Int) := by omega
        have Hm := hide hm
        clear hm k9
        go_wp2_with (first | (go_at_call 45; refine ((unhide KT) _).mono ?_; rintro e w2 ⟨rfl, rfl⟩) | (go_at_call 67; refine (unhide HKC).mono ?_; rintro e w2 ⟨rfl, rfl⟩) | (go_at_call 60; refine ((unhide KK) _).mono ?_; rintro e w2 ⟨rfl, hb3⟩; have v5b := (hb3.cell (p := ⟨w.heap.size, 5, none⟩) hlt1).trans v5; have Hb3 := hide hb3; clear hb3))
        go_ret2
        unfold PtVE
        rw [unhide Hm, unhide Hpl, unhide Hnp]
        exact ⟨A1, np, c1, rfl, fun _ => ⟨rfl, own_base (own_below (unhide Ho1) (unhide Hb3)) (by simp)⟩, ((unhide Hb1).trans ((unhide Hb3).mono (unhide Hb1).size))⟩
    · have q8 : (ct != 0) = true := by simp [k8]
      have hm : Vf.may x = 1 := by rw [unhide Hmay2, if_pos (.inr (.inr ⟨hk, k8⟩))]
      have Hm := hide hm
      clear hm k8 k6 hk
      go_wp2_with (first | (go_at_call 45; refine ((unhide KT) _).mono ?_; rintro e w2 ⟨rfl, rfl⟩) | (go_at_call 67; refine (unhide HKC).mono ?_; rintro e w2 ⟨rfl, rfl⟩) | (go_at_call 60; refine ((unhide KK) _).mono ?_; rintro e w2 ⟨rfl, hb3⟩; have v5b := (hb3.cell (p := ⟨w.heap.size, 5, none⟩) hlt1).trans v5; have Hb3 := hide hb3; clear hb3))
      go_ret2
      exact ptVE_no (unhide Hm) (by decide) ((unhide Hb1).trans ((unhide Hb3).mono (unhide Hb1).size))
end Go.Proofs.YtchmdpkjipaafaaDoor
namespace Go.Proofs.YtchmdpkjipaafaaDoor
set_option linter.unusedVariables false
set_option linter.unusedSimpArgs false
open Go.RowKit

theorem kids_snoc {F : List Vf.Nd} {L : List Pl} (hl : L.length = F.length) (h0 : 0 < F.length) (x : Vf.Nd) (p : Pl) (d : Nat) :
    kidsM (F ++ [x]) (L ++ [p]) d = kidsM F L d ++ (if x.up = d then [(.string x.name, ndV x p)] else []) := by
  unfold kidsM
  rw [List.zip_append hl.symm, List.drop_append_of_le_length (by rw [List.length_zip]; omega), List.filterMap_append]
  congr 1
  by_cases h : x.up = d
  · simp [h]
  · simp [h]
theorem kids_new {F : List Vf.Nd} {L : List Pl} (hF : Vf.Good F) : kidsM F L F.length = [] := by
  apply List.eq_nil_iff_forall_not_mem.2
  intro e he
  obtain ⟨i, x, p, h1, hz, hu, rfl⟩ := kids_mem.1 he
  have hx := (zip_at hz).1
  have := (hF.up i x hx h1).1
  have := (List.getElem?_eq_some_iff.1 hx).1
  omega
theorem snoc_at {α : Type} {l : List α} {a y : α} {i : Nat} (h : (l ++ [a])[i]? = some y) : (i < l.length ∧ l[i]? = some y) ∨ (i = l.length ∧ y = a) := by
  by_cases hi : i < l.length
  · rw [List.getElem?_append_left hi] at h
    exact .inl ⟨hi, h⟩
  · rw [List.getElem?_append_right (by omega)] at h
    have h0 : i - l.length = 0 := by
      have := (List.getElem?_eq_some_iff.1 h).1
      simp at this
      omega
    rw [h0] at h
    exact .inr ⟨by omega, by simpa using h.symm⟩
/-- The row's own block. -/
theorem row_blk {w : World} {base n c k : Nat} {e : TypeId} {A : Option Addr} {xs : List Value} (h : w.ownsRow base e 1 (.slice A n c) n xs) (hk : (Value.slice A n c).ownBlock = some k) : ∃ cs, w.heap[k]? = some (.cells cs e (0, 0)) := by
  rcases h.2 with ⟨h1, h2⟩ | ⟨g, cap, cur, hv, hbg, hh, hcap⟩
  · rw [h1] at hk; cases hk
  · rw [hv] at hk
    have : g = k := by simpa [Value.ownBlock] using hk
    exact ⟨cur, this ▸ hh⟩
section
variable {w w' : World} {lo f c : Nat} {A : Option Addr} {F : List Vf.Nd} {L : List Pl}
theorem FsM.addNd (h : FsM w lo f A c F L) (hF : Vf.Good F) (x : Vf.Nd) (p : Pl) (xu : Vf.Nd) (pu : Pl) (hxu : F[x.up]? = some xu) (hpu : L[x.up]? = some pu) (hku : xu.m.kind = 2) (A' : Option Addr) (c' : Nat)
    (hrow : w'.ownsRow lo 91 1 (.slice A' (F.length + 1) c') (F.length + 1) ((F.zip L).map (fun y => ndV y.1 y.2) ++ [ndV x p]))
    (hfs : Blk w' f 76 [.slice A' (F.length + 1) c'])
    (hmap : MapG w' pu.g .string (kidsM F L x.up ++ [(.string x.name, ndV x p)]))
    (hk : ∀ k, lo ≤ k → k < w.heap.size → k ≠ f → k ≠ pu.g → (Value.slice A F.length c).ownBlock ≠ some k → w'.heap[k]? = w.heap[k]?)
    (hq : lo ≤ p.q) (hnd : Blk w' p.q (blkT x.m.kind) (ndC x F.length pu.q p))
    (hby : x.m.kind = 1 → p.n = x.data.length ∧ p.n ≤ p.c ∧ RdI w' lo 5 1 p.A p.n (x.data.map fun b => Value.int .u8 (b.toNat : Nat)))
    (hdm : x.m.kind = 2 → lo ≤ p.g ∧ w.heap.size ≤ p.g ∧ MapG w' p.g .string []) : FsM w' lo f A' c' (F ++ [x]) (L ++ [p]) := by
  have hpos := Vf.good_pos hF
  have hul : x.up < F.length := (List.getElem?_eq_some_iff.1 hxu).1
  have hgu := (h.map x.up xu pu hxu hpu hku).2
  obtain ⟨esu, clku, hmu, _⟩ := hgu.there
  have hcells : ∀ k cs t fz, lo ≤ k → w.heap[k]? = some (.cells cs t fz) → t ≠ 76 → t ≠ 91 → w'.heap[k]? = w.heap[k]? := by
    intro k cs t fz hlo hb h1 h2
    refine hk k hlo (Array.getElem?_eq_some_iff.1 hb).1 ?_ ?_ ?_
    · rintro rfl
      have := h.fs
      unfold Blk at this
      rw [hb] at this
      injection this with this
      injection this with _ h3
      exact h1 h3
    · rintro rfl
      rw [hb] at hmu
      cases hmu
    · intro e
      obtain ⟨cs2, h3⟩ := row_blk h.row e
      rw [hb] at h3
      injection h3 with h3
      injection h3 with _ h4
      exact h2 h4
  have hbt : ∀ k, blkT k ≠ 76 ∧ blkT k ≠ 91 := by
    intro k
    unfold blkT
    split
    · exact ⟨by decide, by decide⟩
    · split
      · exact ⟨by decide, by decide⟩
      · exact ⟨by decide, by decide⟩
  have hL : ∀ {i : Nat} {y : Vf.Nd} {r : Pl}, (F ++ [x])[i]? = some y → (L ++ [p])[i]? = some r → (i < F.length ∧ F[i]? = some y ∧ L[i]? = some r) ∨ (i = F.length ∧ y = x ∧ r = p) := by
    intro i y r h1 h2
    have hll := h.len
    rcases snoc_at h1 with ⟨a1, a2⟩ | ⟨a1, a2⟩
    · rcases snoc_at h2 with ⟨b1, b2⟩ | ⟨b1, b2⟩
      · exact .inl ⟨a1, a2, b2⟩
      · omega
    · rcases snoc_at h2 with ⟨b1, b2⟩ | ⟨b1, b2⟩
      · omega
      · exact .inr ⟨a1, a2, b2⟩
  have hup : ∀ {j : Nat} {r : Pl}, L[j]? = some r → (L ++ [p])[j]? = some r := fun hr => by
    rw [List.getElem?_append_left (List.getElem?_eq_some_iff.1 hr).1]
    exact hr
  refine ⟨?_, h.lf, ?_, ?_, ?_, ?_, ?_, ?_⟩
  · rw [List.length_append, List.length_append, h.len]; rfl
  · rw [List.length_append]; exact hfs
  · rw [List.length_append, List.zip_append h.len.symm, List.map_append]; exact hrow
  · intro i y r h1 h2
    rcases hL h1 h2 with ⟨hi, h1, h2⟩ | ⟨rfl, rfl, rfl⟩
    · obtain ⟨a, u, b, d⟩ := h.nd i y r h1 h2
      refine ⟨a, u, hup b, ?_⟩
      unfold Blk
      rw [hcells r.q _ _ _ a d (hbt _).1 (hbt _).2]
      exact d
    · exact ⟨hq, pu, hup hpu, hnd⟩
  · intro i y r h1 h2 h3
    rcases hL h1 h2 with ⟨hi, h1, h2⟩ | ⟨rfl, rfl, rfl⟩
    · obtain ⟨a, b, d⟩ := h.byt i y r h1 h2 h3
      refine ⟨a, b, d.keep fun k o hlo ho ⟨cs, fz, e⟩ => ?_⟩
      subst e
      rw [hcells k _ _ _ hlo ho (by decide) (by decide)]
      exact ho
    · exact hby h3
  · intro i y r h1 h2 h3
    rcases hL h1 h2 with ⟨hi, h1, h2⟩ | ⟨rfl, rfl, rfl⟩
    · obtain ⟨a, b⟩ := h.map i y r h1 h2 h3
      refine ⟨a, ?_⟩
      rw [kids_snoc h.len hpos]
      by_cases hiu : x.up = i
      · subst hiu
        have e1 : r = pu := Option.some.inj (h2.symm.trans hpu)
        subst e1
        rw [if_pos rfl]
        exact hmap
      · rw [if_neg hiu, List.append_nil]
        obtain ⟨es, clk, hm, _⟩ := b.there
        refine b.keep (hk r.g a b.lt ?_ ?_ ?_)
        · rintro rfl
          have := h.fs
          unfold Blk at this
          rw [hm] at this
          cases this
        · intro e
          exact hiu (h.one i x.up y xu r pu h1 hxu h2 hpu h3 hku e).symm
        · intro e
          obtain ⟨cs2, h4⟩ := row_blk h.row e
          rw [hm] at h4
          cases h4
    · obtain ⟨a, _, b⟩ := hdm h3
      refine ⟨a, ?_⟩
      rw [kids_snoc h.len hpos, kids_new hF, if_neg (by omega)]
      exact b
  · intro i j y z r s h1 h2 h3 h4 h5 h6 e
    rcases hL h1 h3 with ⟨hi, a1, a3⟩ | ⟨ei, ey, er⟩
    · rcases hL h2 h4 with ⟨hj, a2, a4⟩ | ⟨ej, ez, es⟩
      · exact h.one i j y z r s a1 a2 a3 a4 h5 h6 e
      · have := (h.map i y r a1 a3 h5).2.lt
        subst ez es
        have := (hdm h6).2.1
        omega
    · rcases hL h2 h4 with ⟨hj, a2, a4⟩ | ⟨ej, ez, es⟩
      · have := (h.map j z s a2 a4 h6).2.lt
        subst ey er
        have := (hdm h5).2.1
        omega
      · omega
end
/-- 'm[x] = v' of a new key at the operation. -/
theorem wpList_updG {P : Program} {t kt e : TypeId} {d : TypeDesc} {w : World} {g : Nat} {m : List (Value × Value)} {x v : Value} {ops : Array Oper} {rest : List Oper} {o : Oper} {a : Act} {Q : Exit → Act → World → Prop} (hgd : o.guard = none) (mo xo vo : Operand) (ho : o.op = .mapUpdate t mo xo vo)
    (ht : P.underlying t = some (.map kt e)) (hk : P.underlying kt = some d) (hik : Go.MapKept.IsKey d x) (hmo : a.eval mo = .map (some g)) (hxo : a.eval xo = x) (hvo : a.eval vo = v) (h : MapG w g d m) (hx : ∀ p ∈ m, p.1 ≠ x)
    (hK : ∀ w', MapG w' g d (m ++ [(x, v)]) → w.grownBy w' (some g) → w'.heap.size = w.heap.size → wpList P ops Q rest (a.put o.dst undef) w') : wpList P ops Q (o :: rest) a w := by
  obtain ⟨w', hrun, h1, h2, h3⟩ := run_putG (v := v) ht hk hik h hx
  refine wpList_plain hgd fun K hK' => ?_
  unfold Oper.wp
  simp [execOp, ho, hmo, hxo, hvo, hrun, Result.andThen]
  exact hK' _ _ (hK w' h1 h2 h3)
end Go.Proofs.YtchmdpkjipaafaaDoor
namespace Go.Proofs.YtchmdpkjipaafaaDoor
set_option linter.unusedVariables false
set_option linter.unusedSimpArgs false
open Go.RowKit
theorem own_keepB' {W W' : World} {base n : Nat} {e : TypeId} {u : Value} {xs : List Value} (h : W.ownsRow base e 1 u n xs) (hk : ∀ g, u.ownBlock = some g → W'.heap[g]? = W.heap[g]?) : W'.ownsRow base e 1 u n xs :=
  ⟨h.1, h.2.imp id fun ⟨g, cap, cur, e1, e2, e3, r⟩ => ⟨g, cap, cur, e1, e2, (hk g (by rw [e1]; rfl)).trans e3, r⟩⟩
section
variable {w1 V V2 V3 : World} {lo f c : Nat} {A : Option Addr} {F : List Vf.Nd} {L : List Pl}
theorem FsM.fOwn (h : FsM w1 lo f A c F L) : (Value.slice A F.length c).ownBlock ≠ some f := by
  intro e
  obtain ⟨cs, h1⟩ := row_blk h.row e
  have h2 := h.fs
  unfold Blk at h2
  rw [h1] at h2
  injection h2 with h2
  injection h2 with _ h3
  exact absurd h3 (by decide)
theorem FsM.fMap (h : FsM w1 lo f A c F L) {g : Nat} {m : List (Value × Value)} (hm : MapG w1 g .string m) : f ≠ g := by
  rintro rfl
  obtain ⟨es, clk, h1, _⟩ := hm.there
  have h2 := h.fs
  unfold Blk at h2
  rw [h1] at h2
  cases h2
theorem FsM.ownMap (h : FsM w1 lo f A c F L) {g : Nat} {m : List (Value × Value)} (hm : MapG w1 g .string m) : (Value.slice A F.length c).ownBlock ≠ some g := by
  intro e
  obtain ⟨cs, h1⟩ := row_blk h.row e
  obtain ⟨es, clk, h2, _⟩ := hm.there
  rw [h1] at h2
  cases h2
/-- f's block stands behind the map's update, and behind the append. -/
theorem FsM.addF (h : FsM w1 lo f A c F L) {xu : Vf.Nd} {pu : Pl} {up : Nat} (hxu : F[up]? = some xu) (hpu : L[up]? = some pu) (hku : xu.m.kind = 2) (hb : Below w1.heap.size w1 V) (hg2 : V.grownBy V2 (some pu.g)) :
    Blk V2 f 76 [.slice A F.length c] ∧ V2.ownsRow lo 91 1 (.slice A F.length c) F.length ((F.zip L).map fun y => ndV y.1 y.2) ∧ w1.heap.size ≤ V2.heap.size ∧ ∀ V3 : World, V2.grownBy V3 (Value.slice A F.length c).ownBlock → Blk V3 f 76 [.slice A F.length c] := by
  have hm := (h.map up xu pu hxu hpu hku).2
  have hkp : ∀ k, k < w1.heap.size → k ≠ pu.g → V2.heap[k]? = w1.heap[k]? := fun k hk hne => (hg2.block k (Nat.lt_of_lt_of_le hk hb.size) (fun e => hne (by injection e))).trans (hb.block k hk)
  have h2 : Blk V2 f 76 [.slice A F.length c] := (hkp f h.fs.lt (h.fMap hm)).trans h.fs
  refine ⟨h2, ?_, Nat.le_trans hb.size hg2.size, fun V3 hg3 => (hg3.block f h2.lt (fun e => h.fOwn e.symm)).trans h2⟩
  refine own_keepB' h.row (fun g hg => hkp g (h.row.lt g hg).2 ?_)
  rintro rfl
  exact h.ownMap hm hg
theorem FsM.addFin (h : FsM w1 lo f A c F L) (hF : Vf.Good F) (x : Vf.Nd) (p : Pl) (xu : Vf.Nd) (pu : Pl) (hxu : F[x.up]? = some xu) (hpu : L[x.up]? = some pu) (hku : xu.m.kind = 2) (hlo : lo ≤ w1.heap.size)
    (hb : Below w1.heap.size w1 V) (hm2 : MapG V2 pu.g .string (kidsM F L x.up ++ [(.string x.name, ndV x p)])) (hg2 : V.grownBy V2 (some pu.g)) (A' : Option Addr) (c' : Nat)
    (ho3 : V3.ownsRow lo 91 1 (.slice A' (F.length + 1) c') (F.length + 1) ((F.zip L).map (fun y => ndV y.1 y.2) ++ [ndV x p])) (hg3 : V2.grownBy V3 (Value.slice A F.length c).ownBlock)
    (hq : w1.heap.size ≤ p.q) (hnd : Blk V p.q (blkT x.m.kind) (ndC x F.length pu.q p))
    (hby : x.m.kind = 1 → p.n = x.data.length ∧ p.n ≤ p.c ∧ RdI V w1.heap.size 5 1 p.A p.n (x.data.map fun b => Value.int .u8 (b.toNat : Nat)))
    (hdm : x.m.kind = 2 → w1.heap.size ≤ p.g ∧ MapG V p.g .string []) :
    FsM (V3.setCell ⟨f, 0, none⟩ (.slice A' (F.length + 1) c')) lo f A' c' (F ++ [x]) (L ++ [p]) ∧ Below lo w1 (V3.setCell ⟨f, 0, none⟩ (.slice A' (F.length + 1) c')) := by
  have hm := (h.map x.up xu pu hxu hpu hku).2
  obtain ⟨hf2, hr2, hs2, hf3'⟩ := h.addF hxu hpu hku hb hg2
  have hf3 := hf3' V3 hg3
  have hgl := hm.lt
  have hfl := h.fs.lt
  have hol : ∀ k, (Value.slice A F.length c).ownBlock = some k → lo ≤ k ∧ k < w1.heap.size := fun k hk => h.row.lt k hk
  have hset : ∀ k, k ≠ f → (V3.setCell ⟨f, 0, none⟩ (.slice A' (F.length + 1) c')).heap[k]? = V3.heap[k]? := fun k hk => heap_setCell_other _ _ _ _ hk
  have hV : ∀ k, k < V.heap.size → k ≠ f → k ≠ pu.g → (Value.slice A F.length c).ownBlock ≠ some k → (V3.setCell ⟨f, 0, none⟩ (.slice A' (F.length + 1) c')).heap[k]? = V.heap[k]? := fun k hk h1 h2 h3 =>
    (hset k h1).trans ((hg3.block k (Nat.lt_of_lt_of_le hk hg2.size) (fun e => h3 e.symm)).trans (hg2.block k hk (fun e => h2 (by injection e))))
  have hVn : ∀ k, w1.heap.size ≤ k → k < V.heap.size → (V3.setCell ⟨f, 0, none⟩ (.slice A' (F.length + 1) c')).heap[k]? = V.heap[k]? := fun k hk hl =>
    hV k hl (by omega) (by omega) (fun e => by have := hol k e; omega)
  refine ⟨h.addNd hF x p xu pu hxu hpu hku A' c' ?_ ?_ ?_ ?_ ?_ ?_ ?_ ?_, ?_⟩
  · refine own_keepB' ho3 (fun g hg => hset g ?_)
    rintro rfl
    obtain ⟨cs, h1⟩ := row_blk ho3 hg
    unfold Blk at hf3
    rw [h1] at hf3
    injection hf3 with hf3
    injection hf3 with _ h3
    exact absurd h3 (by decide)
  · exact hf3.set 0 _
  · refine hm2.keep ((hset _ (fun e => h.fMap hm e.symm)).trans (hg3.block _ hm2.lt (fun e => h.ownMap hm e.symm)))
  · intro k h1 h2 h3 h4 h5
    exact (hV k (Nat.lt_of_lt_of_le h2 hb.size) h3 h4 h5).trans (hb.block k h2)
  · exact Nat.le_trans hlo hq
  · exact (hVn _ hq hnd.lt).trans hnd
  · intro h1
    obtain ⟨a, b, d1, d2⟩ := hby h1
    refine ⟨a, b, d1, d2.imp id fun ⟨bb, off, cs, fz, e, h4, h5, h6⟩ => ⟨bb, off, cs, fz, e, Nat.le_trans hlo h4, ?_, h6⟩⟩
    exact (hVn _ h4 (Array.getElem?_eq_some_iff.1 h5).1).trans h5
  · intro h1
    obtain ⟨a, b⟩ := hdm h1
    exact ⟨Nat.le_trans hlo a, a, b.keep (hVn _ a b.lt)⟩
  · have b1 : Below lo w1 V := hb.mono hlo
    have b2 : Below lo w1 V2 := b1.grown hg2 (Nat.le_trans hlo b1.size) (fun k hk => by injection hk with hk; rw [← hk]; exact (h.map x.up xu pu hxu hpu hku).1)
    have b3 : Below lo w1 V3 := b2.grown hg3 (Nat.le_trans hlo b2.size) (fun k hk => (hol k hk).1)
    exact b3.setCell h.lf _
end
end Go.Proofs.YtchmdpkjipaafaaDoor
namespace Go.Proofs.YtchmdpkjipaafaaDoor
set_option linter.unusedVariables false
set_option linter.unusedSimpArgs false
open Go.RowKit

theorem nodeTy : SlTy Tryd.prog 74 91 1 16 := slTy_mk (z := .nilIface) Tryd.underlying74 (by kernel_rfl) rfl (by omega) (by omega)
/-- What add answers; where it is none, the file system has one node more. -/
def AddE (F : List Vf.Nd) (L : List Pl) (lo f : Nat) (x : Vf.Ent) (w : World) (e : Ending) (w' : World) : Prop :=
  e = .returned (.int .i64 (Vf.add F x).1) ∧ ((Vf.add F x).1 = 0 → ∃ L' A' c', FsM w' lo f A' c' (Vf.add F x).2 L') ∧ Below lo w w'
theorem addE_no {F : List Vf.Nd} {L : List Pl} {lo f : Nat} {x : Vf.Ent} {w w' : World} {er : Int} (h : (Vf.add F x).1 = er) (h0 : er ≠ 0) (hb : Below lo w w') : AddE F L lo f x w (.returned (.int .i64 er)) w' := by
  unfold AddE
  rw [h]
  exact ⟨rfl, fun h1 => absurd h1 h0, hb⟩
theorem atV_ne {w : World} {lo f c : Nat} {A : Option Addr} {F : List Vf.Nd} {L : List Pl} (hF : Vf.Good F) (h : FsM w lo f A c F L) {l : List ByteArray} {i : Nat} (hi : Vf.at_ F 0 l = some i) : ∃ x p, F[i]? = some x ∧ L[i]? = some p ∧ atV F L (Vf.at_ F 0 l) = .iface (kindT x.m.kind) (.pointer (some ⟨p.q, 0, none⟩)) := by
  have hl := Vf.at_lt hF l 0 i (Vf.good_pos hF) hi
  obtain ⟨x, hx⟩ : ∃ x, F[i]? = some x := ⟨_, List.getElem?_eq_getElem hl⟩
  obtain ⟨p, hp, _, _⟩ := h.at_ hx
  exact ⟨x, p, hx, hp, by rw [hi]; exact h.ndA_eq hx hp⟩

set_option maxRecDepth 100000 in
set_option maxHeartbeats 4000000 in
theorem add_any (F : List Vf.Nd) (L : List Pl) (lo f c : Nat) (A Ax : Option Addr) (n cx : Nat) (x : Vf.Ent) (w : World) (hF : Vf.Good F) (h : FsM w lo f A c F L) (hlo : lo ≤ w.heap.size) (hn : F.length ≤ 64)
    (hd : Rd w w.heap.size 1 Ax n (bys x.data)) (hnn : n ≤ 4294967296) (hps : x.path.size ≤ 4294967296) (hto : x.to.size ≤ 4294967296) (hmd : x.mode < 65536) :
    Calls Tryd.prog 32 #[ptrV f, entV x Ax n cx] w (AddE F L lo f x w) := by
  have hdl : x.data.length = n := by simpa [bys] using hd.len1
  have hb0 : Below w.heap.size w (w.alloc (.cells (entC x Ax n cx).toArray 64)) := (Below.refl _ _).alloc (Nat.le_refl _) _
  have hbk : Blk (w.alloc (.cells (entC x Ax n cx).toArray 64)) w.heap.size 64 (entC x Ax n cx) := Blk.new w 64 _
  have KP := hide (partsV_any x Ax n cx (w.alloc (.cells (entC x Ax n cx).toArray 64)) hdl hnn hps hto hmd)
  have KAt : ∀ w', Below w.heap.size w w' → ∀ (A' : Option Addr) (n' c' : Nat) (l : List ByteArray), Rd w' w'.heap.size 1 A' n' (l.map Value.string) → n' ≤ 4294967296 → Calls Tryd.prog 53 #[.pointer (some ⟨f, 0, none⟩), .slice A' n' c'] w' fun e w2 => e = .returned (atV F L (Vf.at_ F 0 l)) ∧ w' = w2 :=
    fun w' hb A' n' c' l hl hn' => at_any F L lo f c A A' n' c' _ l w' hF (h.belowSz hb) (by omega) hl hn'
  have qn : ∀ w', (binOp .eql 91 .nilIface .nilIface).run Tryd.prog w' = .ok (.bool true) w' := fun w' => by kernel_rfl
  have qi : ∀ w' t v, (binOp .eql 91 (.iface t v) .nilIface).run Tryd.prog w' = .ok (.bool false) w' := fun w' t v => by kernel_rfl
  have qn2 : ∀ w', (binOp .neq 91 .nilIface .nilIface).run Tryd.prog w' = .ok (.bool false) w' := fun w' => by kernel_rfl
  have qi2 : ∀ w' t v, (binOp .neq 91 (.iface t v) .nilIface).run Tryd.prog w' = .ok (.bool true) w' := fun w' t v => by kernel_rfl
  have HF := hide hF
  have H := hide h
  have HKAt := hide KAt
  have Hb0 := hide hb0
  have Hbk := hide hbk
  have Hd := hide hd
  have Hdl := hide hdl
  unfold entV at KP ⊢
  unfold ptrV
  clear hF h KAt hb0 hbk hd hdl hps hto
  unfold entC at KP
  go_enter Tryd.func32, Tryd.ntmps32
  go_wp2_with fail
  refine (unhide KP).mono ?_
  rintro e w1 ⟨A1, n1, c1, rfl, ho1, hb1⟩
  have Hbk1 := hide ((unhide Hbk).belowSz hb1)
  have Hb1 := hide ((unhide Hb0).trans (hb1.mono (by simp)))
  have Ho1 := hide ho1
  clear ho1 hb1 KP Hbk
  by_cases hm : Vf.may x = 0
  case neg =>
    have hr : (Vf.add F x).1 = Vf.may x := by unfold Vf.add; rw [if_pos hm]
    have Hr := hide hr
    have Hm := hide hm
    obtain ⟨me, hme⟩ : ∃ v, Vf.may x = v := ⟨_, rfl⟩
    rw [hme] at Hr Hm hm ⊢
    have q1 : (me != 0) = true := by simp [hm]
    have Hb := hide ((unhide Hb1).mono hlo)
    clear hr hm hme
    go_wp2_with fail
    go_ret
    exact addE_no (unhide Hr) (unhide Hm) (unhide Hb)
  obtain ⟨hn1, ho2⟩ := (unhide Ho1) hm
  obtain ⟨m1, m2, m3, m4, m5, m6, m7, m8, m9, m10, m11⟩ := Vf.may_ok hm
  have hpl := Vf.parts_len x.path
  have hadd : Vf.add F x = if (Vf.at_ F 0 (Pth.partsL x.path)).isSome then ((7 : Int), F) else match Vf.at_ F 0 (Pth.partsL x.path).dropLast with
    | none => ((3 : Int), F)
    | some up => if Vf.kindAt F up ≠ 2 then ((8 : Int), F) else ((0 : Int), F ++ [Vf.ndOf x up]) := by
    unfold Vf.add
    rw [if_neg (by simp [hm])]
    rfl
  rw [hm]
  have q1 : ((0 : Int) != 0) = false := rfl
  have hn0 : 0 < n1 := by rw [hn1]; exact List.length_pos_iff.2 m5
  have hr1 := Rd.of_own ho2
  have HKA := hide ((unhide HKAt) w1 (unhide Hb1) A1 n1 c1 (Pth.partsL x.path) hr1 (by omega))
  have hcp := own_cap ho2
  have rs := fun w' => run_to (P := Tryd.prog) Tryd.underlying25 (e := 9) (by kernel_rfl) A1 n1 c1 (n1 - 1) (by omega) w'
  have hdrop : ((Pth.partsL x.path).map Value.string).take (n1 - 1) = (Pth.partsL x.path).dropLast.map Value.string := by
    rw [hn1, List.dropLast_eq_take, List.map_take]
  have hr2 : Rd w1 w1.heap.size 1 A1 (n1 - 1) ((Pth.partsL x.path).dropLast.map Value.string) := by
    rw [← hdrop]
    exact hr1.to_ (by omega)
  have HKA2 := hide ((unhide HKAt) w1 (unhide Hb1) A1 (n1 - 1) c1 (Pth.partsL x.path).dropLast hr2 (by omega))
  obtain ⟨k1, hk1⟩ : ∃ k1, n1 - 1 = k1 := ⟨_, rfl⟩
  have ei : IntKind.i64.wrap ((n1 : Int) - 1) = (k1 : Int) := by rw [IntWalk.i64_in _ (by omega)]; omega
  have j1 : (k1 : Int) < (n1 : Int) := by omega
  rw [hk1] at rs HKA2
  have Hk1 := hide hk1
  clear hk1
  have Hadd := hide hadd
  have Hm := hide hm
  have Hr1 := hide hr1
  have Hn1 := hide hn1
  have Hm11 := hide m11
  have Hm5 := hide m5
  have hn1b : n1 ≤ 201 := by omega
  obtain ⟨pl, hple⟩ : ∃ l, Pth.partsL x.path = l := ⟨_, rfl⟩
  have Hple := hide hple
  clear ho2 m1 m2 m3 m4 m5 m6 m7 m8 m9 m10 m11 hpl hadd hm hr1 hcp hdrop hr2 Ho1 hn1 hple
  cases ha : Vf.at_ F 0 (Pth.partsL x.path) with
  | some i =>
    obtain ⟨xi, pi, _, _, ea⟩ := atV_ne (unhide HF) (unhide H) ha
    rw [ea] at HKA
    have hr : (Vf.add F x).1 = 7 := by rw [unhide Hadd, ha]; rfl
    have Hr := hide hr
    have Hb := hide ((unhide Hb1).mono hlo)
    clear hr ha ea
    go_wp2_with fail
    refine (unhide HKA).mono ?_
    rintro e w2 ⟨rfl, rfl⟩
    go_wp2_with fail
    go_ret
    exact addE_no (unhide Hr) (by decide) (unhide Hb)
  | none =>
    have hadd := unhide Hadd
    rw [ha] at hadd HKA
    simp only [Option.isSome_none, Bool.false_eq_true, if_false] at hadd
    have ea : atV F L none = .nilIface := rfl
    rw [ea] at HKA
    have Hat0 := hide ha
    clear ha ea Hadd
    go_wp2_with fail
    refine (unhide HKA).mono ?_
    rintro e w2 ⟨rfl, rfl⟩
    go_wp2_with fail
    refine (unhide HKA2).mono ?_
    rintro e w2 ⟨rfl, rfl⟩
    cases hu : Vf.at_ F 0 (Pth.partsL x.path).dropLast with
    | none =>
      have ea : atV F L none = .nilIface := rfl
      rw [ea]
      rw [hu] at hadd
      have hr : (Vf.add F x).1 = 3 := by rw [hadd]
      have Hr := hide hr
      have Hb := hide ((unhide Hb1).mono hlo)
      clear hr hu ea hadd
      go_wp2_with fail
      go_ret
      exact addE_no (unhide Hr) (by decide) (unhide Hb)
    | some up =>
      obtain ⟨xu, pu, hxu, hpu, ea⟩ := atV_ne (unhide HF) (unhide H) hu
      rw [hu] at ea hadd
      rw [ea]
      simp only at hadd
      rw [Vf.kindAt_eq hxu] at hadd
      by_cases hk : xu.m.kind = 2
      case neg =>
        rw [if_pos hk] at hadd
        have hr : (Vf.add F x).1 = 8 := by rw [hadd]
        have Hr := hide hr
        have Hb := hide ((unhide Hb1).mono hlo)
        have ha1 := file_no_dir (.pointer (some ⟨pu.q, 0, none⟩))
        have ha2 := link_no_dir (.pointer (some ⟨pu.q, 0, none⟩))
        have et : kindT xu.m.kind = 107 ∨ kindT xu.m.kind = 110 := by
          rcases kind3 (unhide HF) hxu with h1 | h1 | h1
          · exact .inl (by rw [h1]; rfl)
          · exact absurd h1 hk
          · exact .inr (by rw [h1]; rfl)
        clear hr hadd hxu hpu ea hu hk
        rcases et with et | et
        all_goals
          rw [et]
          clear et
          go_wp2_with fail
          go_ret
          exact addE_no (unhide Hr) (by decide) (unhide Hb)
      rw [if_neg (by simp [hk])] at hadd
      have et : kindT xu.m.kind = 68 := by rw [hk]; rfl
      rw [et]
      have ha1 := is_dir (.pointer (some ⟨pu.q, 0, none⟩))
      have Hadd := hide hadd
      have Hxu := hide hxu
      have Hpu := hide hpu
      have Hk := hide hk
      have Hu := hide hu
      have HW1 := hide ((unhide H).belowSz (unhide Hb1))
      have hfs1 := (unhide HW1).fs
      obtain ⟨flen, hfl⟩ : ∃ n, F.length = n := ⟨_, rfl⟩
      have Hfl := hide hfl
      rw [hfl] at hfs1 hn
      have hbk1 := unhide Hbk1
      obtain ⟨nm, hnm⟩ : ∃ nm, Vf.lastOf (Pth.partsL x.path) = nm := ⟨_, rfl⟩
      have hlast : ((Pth.partsL x.path).map Value.string)[k1]? = some (.string nm) := by
        rw [← unhide Hk1, unhide Hn1, ← List.length_map (f := Value.string), ← List.getLast?_eq_getElem?, List.getLast?_map, ← hnm]
        unfold Vf.lastOf
        rw [List.getLast?_eq_some_getLast (unhide Hm5)]
        rfl
      obtain ⟨b3, o3, hA1, _, c3⟩ := (unhide Hr1).at_ (k := k1) hlast
      subst hA1
      have Hnm := hide hnm
      have hcn : Vf.child F up nm = none := by
        have h1 := unhide Hat0
        rw [Vf.lastOf_app (unhide Hm5), Vf.at_app, hu, hnm] at h1
        cases hq : Vf.child F up nm with
        | none => rfl
        | some j => simp [Vf.at_, hq] at h1
      have HSK : ∀ w', Below w1.heap.size w1 w' → (Below w1.heap.size w1 w' ∧ w'.cell? ⟨w.heap.size, 1, none⟩ = some (.int .u8 (x.kind : Nat)) ∧ w'.cell? ⟨w.heap.size, 2, none⟩ = some (.int .u16 (x.mode : Nat)) ∧ w'.cell? ⟨w.heap.size, 3, none⟩ = some (.int .u32 (x.uid : Nat)) ∧ w'.cell? ⟨w.heap.size, 4, none⟩ = some (.int .u32 (x.gid : Nat)) ∧ w'.cell? ⟨w.heap.size, 5, none⟩ = some (.slice Ax n cx) ∧ w'.cell? ⟨f, 0, none⟩ = some (.slice A flen c) ∧ w'.cell? ⟨b3, o3 + k1, none⟩ = some (.string nm)) := by
        intro w' hbw
        have h1 := hbk1.belowSz hbw
        have h2 := hfs1.belowSz hbw
        refine ⟨hbw, h1.cell rfl, h1.cell rfl, h1.cell rfl, h1.cell rfl, h1.cell rfl, h2.cell rfl, (hbw.cell (p := ⟨b3, o3 + k1, none⟩) (cell_lt c3)).trans c3⟩
      have v := HSK w1 (Below.refl _ _)
      obtain ⟨-, v1, v2, v3, v4, v5, v6, v7⟩ := v
      have HSK' := hide HSK
      have hbW : Below w1.heap.size w1 (w1.alloc (.cells #[.int .u8 (x.kind : Nat), .int .u16 (x.mode : Nat), .int .u32 (x.uid : Nat), .int .u32 (x.gid : Nat), .int .i64 (n : Nat), .int .i64 (flen : Nat), .pointer (some ⟨pu.q, 0, none⟩), .string nm] 70)).drew := below_drew' ((Below.refl _ _).alloc (Nat.le_refl _) _)
      have hBb : Blk (w1.alloc (.cells #[.int .u8 (x.kind : Nat), .int .u16 (x.mode : Nat), .int .u32 (x.uid : Nat), .int .u32 (x.gid : Nat), .int .i64 (n : Nat), .int .i64 (flen : Nat), .pointer (some ⟨pu.q, 0, none⟩), .string nm] 70)).drew w1.heap.size 70 [.int .u8 (x.kind : Nat), .int .u16 (x.mode : Nat), .int .u32 (x.uid : Nat), .int .u32 (x.gid : Nat), .int .i64 (n : Nat), .int .i64 (flen : Nat), .pointer (some ⟨pu.q, 0, none⟩), .string nm] := Blk.new w1 _ _
      have HbW := hide hbW
      have HBb := hide hBb
      clear hbW hBb
      clear hadd hxu hpu ea hu hk et HSK c3 hlast hnm hbk1 hfs1 hfl
      go_wp2_with fail
      go_region_held3 (fun w' => Below w1.heap.size w1 w' ∧ w'.cell? ⟨w.heap.size, 1, none⟩ = some (.int .u8 (x.kind : Nat)) ∧ w'.cell? ⟨w.heap.size, 2, none⟩ = some (.int .u16 (x.mode : Nat)) ∧ w'.cell? ⟨w.heap.size, 3, none⟩ = some (.int .u32 (x.uid : Nat)) ∧ w'.cell? ⟨w.heap.size, 4, none⟩ = some (.int .u32 (x.gid : Nat)) ∧ w'.cell? ⟨w.heap.size, 5, none⟩ = some (.slice Ax n cx) ∧ w'.cell? ⟨f, 0, none⟩ = some (.slice A flen c) ∧ w'.cell? ⟨b3, o3 + k1, none⟩ = some (.string nm)) (first | exact (unhide HSK') _ (below_drew' (Below.refl _ _)) | exact (unhide HSK') _ (below_drew' ((Below.refl _ _).alloc (Nat.le_refl _) _)) | exact (unhide HSK') _ (unhide HbW)) (fail)
      clear v1 v2 v3 v4 v5 v6 v7
      generalize (w1.alloc (.cells #[.int .u8 (x.kind : Nat), .int .u16 (x.mode : Nat), .int .u32 (x.uid : Nat), .int .u32 (x.gid : Nat), .int .i64 (n : Nat), .int .i64 (flen : Nat), .pointer (some ⟨pu.q, 0, none⟩), .string nm] 70)).drew = W at *
      obtain ⟨-, v1, v2, v3, v4, v5, v6, v7⟩ := (unhide HSK') W (unhide HbW)
      have hB2 := (unhide HBb)
      obtain ⟨y0, y1, y2, y3, y4, y5, y6, y7⟩ : W.cell? ⟨w1.heap.size, 0, none⟩ = some (.int .u8 (x.kind : Nat)) ∧ W.cell? ⟨w1.heap.size, 1, none⟩ = some (.int .u16 (x.mode : Nat)) ∧ W.cell? ⟨w1.heap.size, 2, none⟩ = some (.int .u32 (x.uid : Nat)) ∧ W.cell? ⟨w1.heap.size, 3, none⟩ = some (.int .u32 (x.gid : Nat)) ∧ W.cell? ⟨w1.heap.size, 4, none⟩ = some (.int .i64 (n : Nat)) ∧ W.cell? ⟨w1.heap.size, 5, none⟩ = some (.int .i64 (flen : Nat)) ∧ W.cell? ⟨w1.heap.size, 6, none⟩ = some (.pointer (some ⟨pu.q, 0, none⟩)) ∧ W.cell? ⟨w1.heap.size, 7, none⟩ = some (.string nm) := ⟨hB2.cell rfl, hB2.cell rfl, hB2.cell rfl, hB2.cell rfl, hB2.cell rfl, hB2.cell rfl, hB2.cell rfl, hB2.cell rfl⟩
      clear hB2
      have hmm := @run_makeMap Tryd.prog
      have hkind := (Vf.may_ok (unhide Hm)).1
      rcases (show x.kind = 1 ∨ x.kind = 2 ∨ x.kind = 3 by omega) with hk | hk | hk
      · have q2 : ((x.kind : Int) == 2) = false := by rw [hk]; rfl
        have q3 : ((x.kind : Int) == 1) = true := by rw [hk]; rfl
        have KC : ∀ w', Below W.heap.size W w' → Calls Tryd.prog 54 #[.slice Ax n cx] w' (CloneBE n x.data w') := fun w' hb =>
          cloneB_any Ax n cx w.heap.size x.data w' ((unhide Hd).below ((unhide Hb1).trans (((unhide HbW).mono (unhide Hb1).size).trans (hb.mono (Nat.le_trans (unhide Hb1).size (unhide HbW).size))))) (Nat.le_trans (Nat.le_trans (unhide Hb1).size (unhide HbW).size) hb.size) hnn
        have HSC : ∀ w', Below W.heap.size W w' → (Below W.heap.size W w' ∧ w'.cell? ⟨w1.heap.size, 0, none⟩ = some (.int .u8 (x.kind : Nat)) ∧ w'.cell? ⟨w1.heap.size, 1, none⟩ = some (.int .u16 (x.mode : Nat)) ∧ w'.cell? ⟨w1.heap.size, 2, none⟩ = some (.int .u32 (x.uid : Nat)) ∧ w'.cell? ⟨w1.heap.size, 3, none⟩ = some (.int .u32 (x.gid : Nat)) ∧ w'.cell? ⟨w1.heap.size, 4, none⟩ = some (.int .i64 (n : Nat)) ∧ w'.cell? ⟨w1.heap.size, 5, none⟩ = some (.int .i64 (flen : Nat)) ∧ w'.cell? ⟨w1.heap.size, 6, none⟩ = some (.pointer (some ⟨pu.q, 0, none⟩)) ∧ w'.cell? ⟨w1.heap.size, 7, none⟩ = some (.string nm) ∧ w'.cell? ⟨w.heap.size, 5, none⟩ = some (.slice Ax n cx)) := by
          intro w' hb
          have h1 := (unhide HBb).belowSz hb
          have h2 := (unhide HSK') w' ((unhide HbW).trans (hb.mono (unhide HbW).size))
          exact ⟨hb, h1.cell rfl, h1.cell rfl, h1.cell rfl, h1.cell rfl, h1.cell rfl, h1.cell rfl, h1.cell rfl, h1.cell rfl, h2.2.2.2.2.2.1⟩
        have Hkk := hide hk
        have HKC := hide KC
        have HSC' := hide HSC
        clear hk hkind KC HSC
        go_wp2_with fail
        go_region_held3 (fun w' => Below W.heap.size W w' ∧ w'.cell? ⟨w1.heap.size, 0, none⟩ = some (.int .u8 (x.kind : Nat)) ∧ w'.cell? ⟨w1.heap.size, 1, none⟩ = some (.int .u16 (x.mode : Nat)) ∧ w'.cell? ⟨w1.heap.size, 2, none⟩ = some (.int .u32 (x.uid : Nat)) ∧ w'.cell? ⟨w1.heap.size, 3, none⟩ = some (.int .u32 (x.gid : Nat)) ∧ w'.cell? ⟨w1.heap.size, 4, none⟩ = some (.int .i64 (n : Nat)) ∧ w'.cell? ⟨w1.heap.size, 5, none⟩ = some (.int .i64 (flen : Nat)) ∧ w'.cell? ⟨w1.heap.size, 6, none⟩ = some (.pointer (some ⟨pu.q, 0, none⟩)) ∧ w'.cell? ⟨w1.heap.size, 7, none⟩ = some (.string nm) ∧ w'.cell? ⟨w.heap.size, 5, none⟩ = some (.slice Ax n cx)) (first | exact (unhide HSC') _ (below_drew' (Below.refl _ _)) | exact (unhide HSC') _ (unhide hbn) | exact (unhide HSC') _ ((unhide hbn).alloc (unhide hbn).size _)) (first
          | (go_at_call 54; rename Below _ _ _ ∧ _ => hH; refine ((unhide HKC) _ hH.1).mono ?_; rintro e w3 ⟨A5, c5, rfl, ho5, hb5⟩; have hbn := hide (hH.1.trans (hb5.mono hH.1.size)); have Ho5 := hide ho5; have Hlo5 := hide (Nat.le_trans (unhide HbW).size hH.1.size); clear ho5 hb5))
        have HbW3 := hide ((unhide HbW).trans ((unhide hbn).mono (unhide HbW).size))
        go_wp2_with fail
        obtain ⟨np, hnp⟩ : ∃ np : Pl, (⟨w3.heap.size, 0, A5, n, c5⟩ : Pl) = np := ⟨_, rfl⟩
        have hbV : Below w1.heap.size w1 (w3.alloc (.cells #[.int .u8 (x.kind : Nat), .int .u16 (x.mode : Nat), .int .u32 (x.uid : Nat), .int .u32 (x.gid : Nat), .int .i64 (n : Nat), .int .i64 (flen : Nat), .pointer (some ⟨pu.q, 0, none⟩), .string nm, .slice A5 n c5] 109)) := (unhide HbW3).alloc (unhide HbW3).size _
        have hndV : Blk (w3.alloc (.cells #[.int .u8 (x.kind : Nat), .int .u16 (x.mode : Nat), .int .u32 (x.uid : Nat), .int .u32 (x.gid : Nat), .int .i64 (n : Nat), .int .i64 (flen : Nat), .pointer (some ⟨pu.q, 0, none⟩), .string nm, .slice A5 n c5] 109)) np.q (blkT (Vf.ndOf x up).m.kind) (ndC (Vf.ndOf x up) F.length pu.q np) := by
          have e1 : ndC (Vf.ndOf x up) F.length pu.q np = [.int .u8 (x.kind : Nat), .int .u16 (x.mode : Nat), .int .u32 (x.uid : Nat), .int .u32 (x.gid : Nat), .int .i64 (n : Nat), .int .i64 (flen : Nat), .pointer (some ⟨pu.q, 0, none⟩), .string nm, .slice A5 n c5] := by
            unfold ndC lastV
            rw [show (Vf.ndOf x up).m.kind = x.kind from rfl, if_neg (by rw [unhide Hkk]; decide), if_pos (unhide Hkk), unhide Hfl]
            try rw [← hnp]
            simp only [Vf.ndOf, unhide Hdl, unhide Hnm]
            rfl
          have e2 : blkT (Vf.ndOf x up).m.kind = 109 := by rw [show (Vf.ndOf x up).m.kind = x.kind from rfl, unhide Hkk]; rfl
          rw [e1, e2, ← hnp]
          exact Blk.new w3 109 [.int .u8 (x.kind : Nat), .int .u16 (x.mode : Nat), .int .u32 (x.uid : Nat), .int .u32 (x.gid : Nat), .int .i64 (n : Nat), .int .i64 (flen : Nat), .pointer (some ⟨pu.q, 0, none⟩), .string nm, .slice A5 n c5]
        have hbyV : (Vf.ndOf x up).m.kind = 1 → np.n = (Vf.ndOf x up).data.length ∧ np.n ≤ np.c ∧ RdI (w3.alloc (.cells #[.int .u8 (x.kind : Nat), .int .u16 (x.mode : Nat), .int .u32 (x.uid : Nat), .int .u32 (x.gid : Nat), .int .i64 (n : Nat), .int .i64 (flen : Nat), .pointer (some ⟨pu.q, 0, none⟩), .string nm, .slice A5 n c5] 109)) w1.heap.size 5 1 np.A np.n ((Vf.ndOf x up).data.map fun b => Value.int .u8 (b.toNat : Nat)) := by
          intro _
          rw [← hnp]
          refine ⟨(unhide Hdl).symm, own_cap (unhide Ho5), ?_⟩
          have h5 : RdI w3 w1.heap.size 5 1 A5 n (bys x.data) := RdI.of_own (own_base (unhide Ho5) (unhide Hlo5))
          exact h5.keep fun k o _ ho _ => (Below.heap_alloc _ _ _ (Array.getElem?_eq_some_iff.1 ho).1).trans ho
        have hdmV : (Vf.ndOf x up).m.kind = 2 → w1.heap.size ≤ np.g ∧ MapG (w3.alloc (.cells #[.int .u8 (x.kind : Nat), .int .u16 (x.mode : Nat), .int .u32 (x.uid : Nat), .int .u32 (x.gid : Nat), .int .i64 (n : Nat), .int .i64 (flen : Nat), .pointer (some ⟨pu.q, 0, none⟩), .string nm, .slice A5 n c5] 109)) np.g .string [] := by
          intro h
          have : x.kind = 2 := h
          rw [unhide Hkk] at this
          cases this
        have hnpq : w1.heap.size ≤ np.q := by rw [← hnp]; exact (unhide HbW3).size
        have hnpe : np.q = w3.heap.size := by rw [← hnp]
        clear hnp
        generalize (w3.alloc (.cells #[.int .u8 (x.kind : Nat), .int .u16 (x.mode : Nat), .int .u32 (x.uid : Nat), .int .u32 (x.gid : Nat), .int .i64 (n : Nat), .int .i64 (flen : Nat), .pointer (some ⟨pu.q, 0, none⟩), .string nm, .slice A5 n c5] 109)) = V at *
        rw [← hnpe]
        clear hnpe
        have HbV := hide hbV
        have HnV := hide hndV
        have HyV := hide hbyV
        have HdV := hide hdmV
        clear hbV hndV hbyV hdmV
        obtain ⟨-, z1, z2, z3, z4, z5, z6, z7⟩ := (unhide HSK') V (unhide HbV)
        have hmu := ((unhide HW1).map up xu pu (unhide Hxu) (unhide Hpu) (unhide Hk)).2.belowSz (unhide HbV)
        obtain ⟨_, uu, _, hbu⟩ := (unhide HW1).nd up xu pu (unhide Hxu) (unhide Hpu)
        have e8 : lastV xu pu = .map (some pu.g) := by unfold lastV; rw [if_pos (unhide Hk)]
        have z8 : V.cell? ⟨pu.q, 8, none⟩ = some (lastV xu pu) := (hbu.belowSz (unhide HbV)).cell rfl
        rw [e8] at z8
        have z7' : World.cell? { heap := V.heap, tape := V.tape, drawn := V.drawn + 1, os := V.os, output := V.output } ⟨b3, o3 + k1, none⟩ = some (.string nm) := z7
        have z8' : World.cell? { heap := V.heap, tape := V.tape, drawn := V.drawn + 1, os := V.os, output := V.output } ⟨pu.q, 8, none⟩ = some (.map (some pu.g)) := z8
        have hmuD : MapG V.drew pu.g .string (kidsM F L up) := ⟨hmu.there, hmu.keys, hmu.once⟩
        have hnone := kids_no (unhide HF) (L := L) (hcn)
        have HmuD := hide hmuD
        have Hnone := hide hnone
        clear v1 v2 v3 v4 v5 v6 v7 y0 y1 y2 y3 y4 y5 y6 y7 z1 z2 z3 z4 z5 z6 hmu hbu e8 hmuD hnone
        go_still_tail 9, (by kernel_rfl)
        change wpList _ _ _ _ _ V.drew
        refine wpList_updG (x := .string nm) (g := pu.g) rfl _ _ _ rfl Tryd.underlying71 Tryd.underlying9 (by simp [Go.MapKept.IsKey]) rfl rfl rfl (unhide HmuD) (unhide Hnone) ?_
        intro V2 hm2 hg2 hs2
        have HbV' : Hid (Below w1.heap.size w1 V.drew) := hide (below_drew' (unhide HbV))
        obtain ⟨f2, r2, s2, f3⟩ := (unhide HW1).addF (unhide Hxu) (unhide Hpu) (unhide Hk) (unhide HbV') hg2
        have u0 : V2.cell? ⟨f, 0, none⟩ = some (.slice A F.length c) := f2.cell rfl
        rw [unhide Hfl] at u0
        have Hr2 := hide r2
        have Hf3 := hide f3
        have Hm2 := hide hm2
        have Hg2 := hide hg2
        have hlo2 : lo ≤ V2.heap.size := by have := (unhide Hb1).size; omega
        clear f2 r2 s2 f3 hm2 hg2 hs2 z7 z8 z7' z8'
        go_wp2_with (at_builtin; refine wpList_app1 nodeTy rfl _ _ rfl lo (.slice A flen c) flen _ rfl (by have := unhide Hr2; rw [unhide Hfl] at this; exact this) #[.iface 107 (.pointer (some ⟨np.q, 0, none⟩))] rfl rfl (by simp [Value.oneCell']) (by omega) hlo2 ?_; intro A4 c4 V3 ho3 hg3 hat3; have hff := (unhide Hf3) V3 (by rw [unhide Hfl]; exact hg3); have t0 : V3.cell? ⟨f, 0, none⟩ = some (.slice A F.length c) := hff.cell rfl; rw [unhide Hfl] at t0; have tf : V3.frozen? ⟨f, 0, none⟩ = false := hff.free 0; have Ho3 := hide ho3; have Hg3 := hide hg3; clear ho3 hg3 hat3 hff)
        go_ret
        have hnd0 : ndV (Vf.ndOf x up) np = .iface 107 (.pointer (some ⟨np.q, 0, none⟩)) := by unfold ndV kindT; rw [show (Vf.ndOf x up).m.kind = x.kind from rfl, unhide Hkk]; rfl
        have hnm0 : (Vf.ndOf x up).name = nm := unhide Hnm
        have hfin := (unhide HW1).addFin (V := V.drew) (V2 := V2) (V3 := V3) (unhide HF) (Vf.ndOf x up) np xu pu (unhide Hxu) (unhide Hpu) (unhide Hk) (by have := (unhide Hb1).size; omega) (unhide HbV') (by rw [hnm0, hnd0]; exact unhide Hm2) (unhide Hg2) A4 c4 (by rw [hnd0, unhide Hfl]; exact unhide Ho3) (by rw [unhide Hfl]; exact unhide Hg3) hnpq (unhide HnV) (unhide HyV) (fun h => ⟨((unhide HdV) h).1, ((unhide HdV) h).2.keep rfl⟩)
        rw [unhide Hfl] at hfin
        unfold AddE
        rw [unhide Hadd]
        exact ⟨rfl, fun _ => ⟨_, A4, c4, hfin.1⟩, ((unhide Hb1).mono hlo).trans hfin.2⟩
      · have q2 : ((x.kind : Int) == 2) = true := by rw [hk]; rfl
        have Hkk := hide hk
        clear hk hkind
        go_wp2_with fail
        obtain ⟨np, hnp⟩ : ∃ np : Pl, (⟨W.heap.size + 1, W.heap.size, none, 0, 0⟩ : Pl) = np := ⟨_, rfl⟩
        have hbV : Below w1.heap.size w1 ((W.alloc (.map #[] 0)).alloc (.cells #[.int .u8 (x.kind : Nat), .int .u16 (x.mode : Nat), .int .u32 (x.uid : Nat), .int .u32 (x.gid : Nat), .int .i64 (n : Nat), .int .i64 (flen : Nat), .pointer (some ⟨pu.q, 0, none⟩), .string nm, .map (some W.heap.size)] 73)) := ((unhide HbW).alloc (unhide HbW).size _).alloc (by have := (unhide HbW).size; simp; omega) _
        have hndV : Blk ((W.alloc (.map #[] 0)).alloc (.cells #[.int .u8 (x.kind : Nat), .int .u16 (x.mode : Nat), .int .u32 (x.uid : Nat), .int .u32 (x.gid : Nat), .int .i64 (n : Nat), .int .i64 (flen : Nat), .pointer (some ⟨pu.q, 0, none⟩), .string nm, .map (some W.heap.size)] 73)) np.q (blkT (Vf.ndOf x up).m.kind) (ndC (Vf.ndOf x up) F.length pu.q np) := by
          have e1 : ndC (Vf.ndOf x up) F.length pu.q np = [.int .u8 (x.kind : Nat), .int .u16 (x.mode : Nat), .int .u32 (x.uid : Nat), .int .u32 (x.gid : Nat), .int .i64 (n : Nat), .int .i64 (flen : Nat), .pointer (some ⟨pu.q, 0, none⟩), .string nm, .map (some W.heap.size)] := by
            unfold ndC lastV
            rw [show (Vf.ndOf x up).m.kind = x.kind from rfl, if_pos (unhide Hkk), unhide Hfl]
            try rw [← hnp]
            simp only [Vf.ndOf, unhide Hdl, unhide Hnm]
            rfl
          have e2 : blkT (Vf.ndOf x up).m.kind = 73 := by rw [show (Vf.ndOf x up).m.kind = x.kind from rfl, unhide Hkk]; rfl
          rw [e1, e2, ← hnp]
          have := Blk.new (W.alloc (.map #[] 0)) 73 [.int .u8 (x.kind : Nat), .int .u16 (x.mode : Nat), .int .u32 (x.uid : Nat), .int .u32 (x.gid : Nat), .int .i64 (n : Nat), .int .i64 (flen : Nat), .pointer (some ⟨pu.q, 0, none⟩), .string nm, .map (some W.heap.size)]
          rw [World.size_alloc] at this
          exact this
        have hbyV : (Vf.ndOf x up).m.kind = 1 → np.n = (Vf.ndOf x up).data.length ∧ np.n ≤ np.c ∧ RdI ((W.alloc (.map #[] 0)).alloc (.cells #[.int .u8 (x.kind : Nat), .int .u16 (x.mode : Nat), .int .u32 (x.uid : Nat), .int .u32 (x.gid : Nat), .int .i64 (n : Nat), .int .i64 (flen : Nat), .pointer (some ⟨pu.q, 0, none⟩), .string nm, .map (some W.heap.size)] 73)) w1.heap.size 5 1 np.A np.n ((Vf.ndOf x up).data.map fun b => Value.int .u8 (b.toNat : Nat)) := by
          intro h
          have : x.kind = 1 := h
          rw [unhide Hkk] at this
          cases this
        have hdmV : (Vf.ndOf x up).m.kind = 2 → w1.heap.size ≤ np.g ∧ MapG ((W.alloc (.map #[] 0)).alloc (.cells #[.int .u8 (x.kind : Nat), .int .u16 (x.mode : Nat), .int .u32 (x.uid : Nat), .int .u32 (x.gid : Nat), .int .i64 (n : Nat), .int .i64 (flen : Nat), .pointer (some ⟨pu.q, 0, none⟩), .string nm, .map (some W.heap.size)] 73)) np.g .string [] := by
          intro _
          rw [← hnp]
          exact ⟨(unhide HbW).size, (MapG.nil W _).belowSz ((Below.refl _ _).alloc (Nat.le_refl _) _)⟩
        have hnpq : w1.heap.size ≤ np.q := by rw [← hnp]; have := (unhide HbW).size; simp; omega
        have hnpe : np.q = W.heap.size + 1 := by rw [← hnp]
        clear hnp
        generalize ((W.alloc (.map #[] 0)).alloc (.cells #[.int .u8 (x.kind : Nat), .int .u16 (x.mode : Nat), .int .u32 (x.uid : Nat), .int .u32 (x.gid : Nat), .int .i64 (n : Nat), .int .i64 (flen : Nat), .pointer (some ⟨pu.q, 0, none⟩), .string nm, .map (some W.heap.size)] 73)) = V at *
        rw [← hnpe]
        clear hnpe
        have HbV := hide hbV
        have HnV := hide hndV
        have HyV := hide hbyV
        have HdV := hide hdmV
        clear hbV hndV hbyV hdmV
        obtain ⟨-, z1, z2, z3, z4, z5, z6, z7⟩ := (unhide HSK') V (unhide HbV)
        have hmu := ((unhide HW1).map up xu pu (unhide Hxu) (unhide Hpu) (unhide Hk)).2.belowSz (unhide HbV)
        obtain ⟨_, uu, _, hbu⟩ := (unhide HW1).nd up xu pu (unhide Hxu) (unhide Hpu)
        have e8 : lastV xu pu = .map (some pu.g) := by unfold lastV; rw [if_pos (unhide Hk)]
        have z8 : V.cell? ⟨pu.q, 8, none⟩ = some (lastV xu pu) := (hbu.belowSz (unhide HbV)).cell rfl
        rw [e8] at z8
        have z7' : World.cell? { heap := V.heap, tape := V.tape, drawn := V.drawn + 1, os := V.os, output := V.output } ⟨b3, o3 + k1, none⟩ = some (.string nm) := z7
        have z8' : World.cell? { heap := V.heap, tape := V.tape, drawn := V.drawn + 1, os := V.os, output := V.output } ⟨pu.q, 8, none⟩ = some (.map (some pu.g)) := z8
        have hmuD : MapG V.drew pu.g .string (kidsM F L up) := ⟨hmu.there, hmu.keys, hmu.once⟩
        have hnone := kids_no (unhide HF) (L := L) (hcn)
        have HmuD := hide hmuD
        have Hnone := hide hnone
        clear v1 v2 v3 v4 v5 v6 v7 y0 y1 y2 y3 y4 y5 y6 y7 z1 z2 z3 z4 z5 z6 hmu hbu e8 hmuD hnone
        go_still_tail 9, (by kernel_rfl)
        change wpList _ _ _ _ _ V.drew
        refine wpList_updG (x := .string nm) (g := pu.g) rfl _ _ _ rfl Tryd.underlying71 Tryd.underlying9 (by simp [Go.MapKept.IsKey]) rfl rfl rfl (unhide HmuD) (unhide Hnone) ?_
        intro V2 hm2 hg2 hs2
        have HbV' : Hid (Below w1.heap.size w1 V.drew) := hide (below_drew' (unhide HbV))
        obtain ⟨f2, r2, s2, f3⟩ := (unhide HW1).addF (unhide Hxu) (unhide Hpu) (unhide Hk) (unhide HbV') hg2
        have u0 : V2.cell? ⟨f, 0, none⟩ = some (.slice A F.length c) := f2.cell rfl
        rw [unhide Hfl] at u0
        have Hr2 := hide r2
        have Hf3 := hide f3
        have Hm2 := hide hm2
        have Hg2 := hide hg2
        have hlo2 : lo ≤ V2.heap.size := by have := (unhide Hb1).size; omega
        clear f2 r2 s2 f3 hm2 hg2 hs2 z7 z8 z7' z8'
        go_wp2_with (at_builtin; refine wpList_app1 nodeTy rfl _ _ rfl lo (.slice A flen c) flen _ rfl (by have := unhide Hr2; rw [unhide Hfl] at this; exact this) #[.iface 68 (.pointer (some ⟨np.q, 0, none⟩))] rfl rfl (by simp [Value.oneCell']) (by omega) hlo2 ?_; intro A4 c4 V3 ho3 hg3 hat3; have hff := (unhide Hf3) V3 (by rw [unhide Hfl]; exact hg3); have t0 : V3.cell? ⟨f, 0, none⟩ = some (.slice A F.length c) := hff.cell rfl; rw [unhide Hfl] at t0; have tf : V3.frozen? ⟨f, 0, none⟩ = false := hff.free 0; have Ho3 := hide ho3; have Hg3 := hide hg3; clear ho3 hg3 hat3 hff)
        go_ret
        have hnd0 : ndV (Vf.ndOf x up) np = .iface 68 (.pointer (some ⟨np.q, 0, none⟩)) := by unfold ndV kindT; rw [show (Vf.ndOf x up).m.kind = x.kind from rfl, unhide Hkk]; rfl
        have hnm0 : (Vf.ndOf x up).name = nm := unhide Hnm
        have hfin := (unhide HW1).addFin (V := V.drew) (V2 := V2) (V3 := V3) (unhide HF) (Vf.ndOf x up) np xu pu (unhide Hxu) (unhide Hpu) (unhide Hk) (by have := (unhide Hb1).size; omega) (unhide HbV') (by rw [hnm0, hnd0]; exact unhide Hm2) (unhide Hg2) A4 c4 (by rw [hnd0, unhide Hfl]; exact unhide Ho3) (by rw [unhide Hfl]; exact unhide Hg3) hnpq (unhide HnV) (unhide HyV) (fun h => ⟨((unhide HdV) h).1, ((unhide HdV) h).2.keep rfl⟩)
        rw [unhide Hfl] at hfin
        unfold AddE
        rw [unhide Hadd]
        exact ⟨rfl, fun _ => ⟨_, A4, c4, hfin.1⟩, ((unhide Hb1).mono hlo).trans hfin.2⟩
      · have q2 : ((x.kind : Int) == 2) = false := by rw [hk]; rfl
        have q3 : ((x.kind : Int) == 1) = false := by rw [hk]; rfl
        have v6t : W.cell? ⟨w.heap.size, 6, none⟩ = some (.string x.to) := ((unhide Hbk1).belowSz (unhide HbW)).cell rfl
        have Hkk := hide hk
        clear hk hkind
        go_wp2_with fail
        obtain ⟨np, hnp⟩ : ∃ np : Pl, (⟨W.heap.size, 0, none, 0, 0⟩ : Pl) = np := ⟨_, rfl⟩
        have hbV : Below w1.heap.size w1 (W.alloc (.cells #[.int .u8 (x.kind : Nat), .int .u16 (x.mode : Nat), .int .u32 (x.uid : Nat), .int .u32 (x.gid : Nat), .int .i64 (n : Nat), .int .i64 (flen : Nat), .pointer (some ⟨pu.q, 0, none⟩), .string nm, .string x.to] 112)) := (unhide HbW).alloc (unhide HbW).size _
        have hndV : Blk (W.alloc (.cells #[.int .u8 (x.kind : Nat), .int .u16 (x.mode : Nat), .int .u32 (x.uid : Nat), .int .u32 (x.gid : Nat), .int .i64 (n : Nat), .int .i64 (flen : Nat), .pointer (some ⟨pu.q, 0, none⟩), .string nm, .string x.to] 112)) np.q (blkT (Vf.ndOf x up).m.kind) (ndC (Vf.ndOf x up) F.length pu.q np) := by
          have e1 : ndC (Vf.ndOf x up) F.length pu.q np = [.int .u8 (x.kind : Nat), .int .u16 (x.mode : Nat), .int .u32 (x.uid : Nat), .int .u32 (x.gid : Nat), .int .i64 (n : Nat), .int .i64 (flen : Nat), .pointer (some ⟨pu.q, 0, none⟩), .string nm, .string x.to] := by
            unfold ndC lastV
            rw [show (Vf.ndOf x up).m.kind = x.kind from rfl, if_neg (by rw [unhide Hkk]; decide), if_neg (by rw [unhide Hkk]; decide), unhide Hfl]
            try rw [← hnp]
            simp only [Vf.ndOf, unhide Hdl, unhide Hnm]
            rfl
          have e2 : blkT (Vf.ndOf x up).m.kind = 112 := by rw [show (Vf.ndOf x up).m.kind = x.kind from rfl, unhide Hkk]; rfl
          rw [e1, e2, ← hnp]
          exact Blk.new W 112 [.int .u8 (x.kind : Nat), .int .u16 (x.mode : Nat), .int .u32 (x.uid : Nat), .int .u32 (x.gid : Nat), .int .i64 (n : Nat), .int .i64 (flen : Nat), .pointer (some ⟨pu.q, 0, none⟩), .string nm, .string x.to]
        have hbyV : (Vf.ndOf x up).m.kind = 1 → np.n = (Vf.ndOf x up).data.length ∧ np.n ≤ np.c ∧ RdI (W.alloc (.cells #[.int .u8 (x.kind : Nat), .int .u16 (x.mode : Nat), .int .u32 (x.uid : Nat), .int .u32 (x.gid : Nat), .int .i64 (n : Nat), .int .i64 (flen : Nat), .pointer (some ⟨pu.q, 0, none⟩), .string nm, .string x.to] 112)) w1.heap.size 5 1 np.A np.n ((Vf.ndOf x up).data.map fun b => Value.int .u8 (b.toNat : Nat)) := by
          intro h
          have : x.kind = 1 := h
          rw [unhide Hkk] at this
          cases this
        have hdmV : (Vf.ndOf x up).m.kind = 2 → w1.heap.size ≤ np.g ∧ MapG (W.alloc (.cells #[.int .u8 (x.kind : Nat), .int .u16 (x.mode : Nat), .int .u32 (x.uid : Nat), .int .u32 (x.gid : Nat), .int .i64 (n : Nat), .int .i64 (flen : Nat), .pointer (some ⟨pu.q, 0, none⟩), .string nm, .string x.to] 112)) np.g .string [] := by
          intro h
          have : x.kind = 2 := h
          rw [unhide Hkk] at this
          cases this
        have hnpq : w1.heap.size ≤ np.q := by rw [← hnp]; exact (unhide HbW).size
        have hnpe : np.q = W.heap.size := by rw [← hnp]
        clear hnp
        generalize (W.alloc (.cells #[.int .u8 (x.kind : Nat), .int .u16 (x.mode : Nat), .int .u32 (x.uid : Nat), .int .u32 (x.gid : Nat), .int .i64 (n : Nat), .int .i64 (flen : Nat), .pointer (some ⟨pu.q, 0, none⟩), .string nm, .string x.to] 112)) = V at *
        rw [← hnpe]
        clear hnpe
        have HbV := hide hbV
        have HnV := hide hndV
        have HyV := hide hbyV
        have HdV := hide hdmV
        clear hbV hndV hbyV hdmV
        obtain ⟨-, z1, z2, z3, z4, z5, z6, z7⟩ := (unhide HSK') V (unhide HbV)
        have hmu := ((unhide HW1).map up xu pu (unhide Hxu) (unhide Hpu) (unhide Hk)).2.belowSz (unhide HbV)
        obtain ⟨_, uu, _, hbu⟩ := (unhide HW1).nd up xu pu (unhide Hxu) (unhide Hpu)
        have e8 : lastV xu pu = .map (some pu.g) := by unfold lastV; rw [if_pos (unhide Hk)]
        have z8 : V.cell? ⟨pu.q, 8, none⟩ = some (lastV xu pu) := (hbu.belowSz (unhide HbV)).cell rfl
        rw [e8] at z8
        have z7' : World.cell? { heap := V.heap, tape := V.tape, drawn := V.drawn + 1, os := V.os, output := V.output } ⟨b3, o3 + k1, none⟩ = some (.string nm) := z7
        have z8' : World.cell? { heap := V.heap, tape := V.tape, drawn := V.drawn + 1, os := V.os, output := V.output } ⟨pu.q, 8, none⟩ = some (.map (some pu.g)) := z8
        have hmuD : MapG V.drew pu.g .string (kidsM F L up) := ⟨hmu.there, hmu.keys, hmu.once⟩
        have hnone := kids_no (unhide HF) (L := L) (hcn)
        have HmuD := hide hmuD
        have Hnone := hide hnone
        clear v6t v1 v2 v3 v4 v5 v6 v7 y0 y1 y2 y3 y4 y5 y6 y7 z1 z2 z3 z4 z5 z6 hmu hbu e8 hmuD hnone
        go_still_tail 9, (by kernel_rfl)
        change wpList _ _ _ _ _ V.drew
        refine wpList_updG (x := .string nm) (g := pu.g) rfl _ _ _ rfl Tryd.underlying71 Tryd.underlying9 (by simp [Go.MapKept.IsKey]) rfl rfl rfl (unhide HmuD) (unhide Hnone) ?_
        intro V2 hm2 hg2 hs2
        have HbV' : Hid (Below w1.heap.size w1 V.drew) := hide (below_drew' (unhide HbV))
        obtain ⟨f2, r2, s2, f3⟩ := (unhide HW1).addF (unhide Hxu) (unhide Hpu) (unhide Hk) (unhide HbV') hg2
        have u0 : V2.cell? ⟨f, 0, none⟩ = some (.slice A F.length c) := f2.cell rfl
        rw [unhide Hfl] at u0
        have Hr2 := hide r2
        have Hf3 := hide f3
        have Hm2 := hide hm2
        have Hg2 := hide hg2
        have hlo2 : lo ≤ V2.heap.size := by have := (unhide Hb1).size; omega
        clear f2 r2 s2 f3 hm2 hg2 hs2 z7 z8 z7' z8'
        go_wp2_with (at_builtin; refine wpList_app1 nodeTy rfl _ _ rfl lo (.slice A flen c) flen _ rfl (by have := unhide Hr2; rw [unhide Hfl] at this; exact this) #[.iface 110 (.pointer (some ⟨np.q, 0, none⟩))] rfl rfl (by simp [Value.oneCell']) (by omega) hlo2 ?_; intro A4 c4 V3 ho3 hg3 hat3; have hff := (unhide Hf3) V3 (by rw [unhide Hfl]; exact hg3); have t0 : V3.cell? ⟨f, 0, none⟩ = some (.slice A F.length c) := hff.cell rfl; rw [unhide Hfl] at t0; have tf : V3.frozen? ⟨f, 0, none⟩ = false := hff.free 0; have Ho3 := hide ho3; have Hg3 := hide hg3; clear ho3 hg3 hat3 hff)
        go_ret
        have hnd0 : ndV (Vf.ndOf x up) np = .iface 110 (.pointer (some ⟨np.q, 0, none⟩)) := by unfold ndV kindT; rw [show (Vf.ndOf x up).m.kind = x.kind from rfl, unhide Hkk]; rfl
        have hnm0 : (Vf.ndOf x up).name = nm := unhide Hnm
        have hfin := (unhide HW1).addFin (V := V.drew) (V2 := V2) (V3 := V3) (unhide HF) (Vf.ndOf x up) np xu pu (unhide Hxu) (unhide Hpu) (unhide Hk) (by have := (unhide Hb1).size; omega) (unhide HbV') (by rw [hnm0, hnd0]; exact unhide Hm2) (unhide Hg2) A4 c4 (by rw [hnd0, unhide Hfl]; exact unhide Ho3) (by rw [unhide Hfl]; exact unhide Hg3) hnpq (unhide HnV) (unhide HyV) (fun h => ⟨((unhide HdV) h).1, ((unhide HdV) h).2.keep rfl⟩)
        rw [unhide Hfl] at hfin
        unfold AddE
        rw [unhide Hadd]
        exact ⟨rfl, fun _ => ⟨_, A4, c4, hfin.1⟩, ((unhide Hb1).mono hlo).trans hfin.2⟩
end Go.Proofs.YtchmdpkjipaafaaDoor
namespace Go.Proofs.YtchmdpkjipaafaaDoor
set_option linter.unusedVariables false
set_option linter.unusedSimpArgs false
open Go.RowKit

/-- What New answers, plain: the error, the entry's number, the nodes. -/
def Vf.new (es : List Vf.Ent) : Int × Int × List Vf.Nd :=
  if 64 < es.length then (15, -1, []) else if (Vf.adds [Vf.root] 0 es).1 ≠ 0 then ((Vf.adds [Vf.root] 0 es).1, ((Vf.adds [Vf.root] 0 es).2.1 : Nat), []) else (0, 0, (Vf.adds [Vf.root] 0 es).2.2)
/-- An entry as an argument: with where its bytes lie. -/
structure EntA where
  e : Vf.Ent
  A : Option Addr
  n : Nat
  c : Nat
instance : Inhabited EntA := ⟨⟨⟨⟨#[]⟩, 0, 0, 0, 0, [], ⟨#[]⟩⟩, none, 0, 0⟩⟩
def entVals (s : EntA) : List Value := entC s.e s.A s.n s.c
structure EntOk (w : World) (s : EntA) : Prop where
  d : Rd w w.heap.size 1 s.A s.n (bys s.e.data)
  n : s.n ≤ 4294967296
  p : s.e.path.size ≤ 4294967296
  t : s.e.to.size ≤ 4294967296
  m : s.e.mode < 65536
theorem EntOk.below {w w' : World} {s : EntA} (h : EntOk w s) (hb : Below w.heap.size w w') : EntOk w' s := ⟨h.d.belowSz hb, h.n, h.p, h.t, h.m⟩
def NewE (es : List Vf.Ent) (w : World) (e : Ending) (w' : World) : Prop :=
  Below w.heap.size w w' ∧ (((Vf.new es).1 ≠ 0 ∧ e = .returned (.tuple #[.pointer none, .int .i64 (Vf.new es).1, .int .i64 (Vf.new es).2.1])) ∨
    ((Vf.new es).1 = 0 ∧ ∃ f A c L, e = .returned (.tuple #[ptrV f, .int .i64 0, .int .i64 0]) ∧ FsM w' w.heap.size f A c (Vf.new es).2.2 L ∧ Vf.Good (Vf.new es).2.2 ∧ (Vf.new es).2.2.length = es.length + 1 ∧ (Vf.new es).2.1 = 0 ∧ es.length ≤ 64))
/-- The first world: a root alone. -/
theorem FsM.start (w : World) : FsM ((((w.alloc (.map #[] 0)).alloc (.cells #[.int .u8 2, .int .u16 493, .int .u32 0, .int .u32 0, .int .i64 0, .int .i64 0, .pointer (some ⟨w.heap.size + 1, 0, none⟩), .string ⟨#[]⟩, .map (some w.heap.size)] 73)).alloc (.cells #[.iface 68 (.pointer (some ⟨w.heap.size + 1, 0, none⟩))] 91)).alloc (.cells #[.slice (some ⟨w.heap.size + 2, 0, none⟩) 1 1] 76)) w.heap.size (w.heap.size + 3) (some ⟨w.heap.size + 2, 0, none⟩) 1 [Vf.root] [⟨w.heap.size + 1, w.heap.size, none, 0, 0⟩] := by
  have m0 := MapG.nil w .string
  have d1 : Blk ((w.alloc (.map #[] 0)).alloc (.cells #[.int .u8 2, .int .u16 493, .int .u32 0, .int .u32 0, .int .i64 0, .int .i64 0, .pointer (some ⟨w.heap.size + 1, 0, none⟩), .string ⟨#[]⟩, .map (some w.heap.size)] 73)) (w.heap.size + 1) 73 [.int .u8 2, .int .u16 493, .int .u32 0, .int .u32 0, .int .i64 0, .int .i64 0, .pointer (some ⟨w.heap.size + 1, 0, none⟩), .string ⟨#[]⟩, .map (some w.heap.size)] := by
    have := Blk.new (w.alloc (.map #[] 0)) 73 [.int .u8 2, .int .u16 493, .int .u32 0, .int .u32 0, .int .i64 0, .int .i64 0, .pointer (some ⟨w.heap.size + 1, 0, none⟩), .string ⟨#[]⟩, .map (some w.heap.size)]
    rw [World.size_alloc] at this
    exact this
  have m2 := (m0.belowSz ((Below.refl _ _).alloc (Nat.le_refl _) (.cells #[.int .u8 2, .int .u16 493, .int .u32 0, .int .u32 0, .int .i64 0, .int .i64 0, .pointer (some ⟨w.heap.size + 1, 0, none⟩), .string ⟨#[]⟩, .map (some w.heap.size)] 73)))
  generalize hW : (w.alloc (.map #[] 0)).alloc (.cells #[.int .u8 2, .int .u16 493, .int .u32 0, .int .u32 0, .int .i64 0, .int .i64 0, .pointer (some ⟨w.heap.size + 1, 0, none⟩), .string ⟨#[]⟩, .map (some w.heap.size)] 73) = W at *
  have hsz : W.heap.size = w.heap.size + 2 := by rw [← hW]; simp
  have r0 : (W.alloc (.cells #[.iface 68 (.pointer (some ⟨w.heap.size + 1, 0, none⟩))] 91)).ownsRow w.heap.size 91 1 (.slice (some ⟨w.heap.size + 2, 0, none⟩) 1 1) 1 [.iface 68 (.pointer (some ⟨w.heap.size + 1, 0, none⟩))] :=
    ⟨rfl, .inr ⟨w.heap.size + 2, 1, #[.iface 68 (.pointer (some ⟨w.heap.size + 1, 0, none⟩))], rfl, by omega, by rw [← hsz]; exact heap_alloc_new _ _, by omega, by unfold maxLen; omega, rfl, rfl⟩⟩
  have f0 := Blk.new (W.alloc (.cells #[.iface 68 (.pointer (some ⟨w.heap.size + 1, 0, none⟩))] 91)) 76 [.slice (some ⟨w.heap.size + 2, 0, none⟩) 1 1]
  rw [World.size_alloc, hsz] at f0
  have hbb : Below W.heap.size W ((W.alloc (.cells #[.iface 68 (.pointer (some ⟨w.heap.size + 1, 0, none⟩))] 91)).alloc (.cells #[.slice (some ⟨w.heap.size + 2, 0, none⟩) 1 1] 76)) := ((Below.refl _ _).alloc (Nat.le_refl _) _).alloc (by simp) _
  have only : ∀ {i : Nat} {x : Vf.Nd} {p : Pl}, [Vf.root][i]? = some x → [(⟨w.heap.size + 1, w.heap.size, none, 0, 0⟩ : Pl)][i]? = some p → i = 0 ∧ x = Vf.root ∧ p = ⟨w.heap.size + 1, w.heap.size, none, 0, 0⟩ := by
    intro i x p h1 h2
    cases i with
    | zero => exact ⟨rfl, by simpa using h1.symm, by simpa using h2.symm⟩
    | succ i => simp at h1
  refine ⟨rfl, by omega, f0, r0.alloc _, ?_, ?_, ?_, ?_⟩
  · intro i x p h1 h2
    obtain ⟨rfl, rfl, rfl⟩ := only h1 h2
    exact ⟨by simp, _, rfl, d1.belowSz hbb⟩
  · intro i x p h1 h2 h3
    obtain ⟨rfl, rfl, rfl⟩ := only h1 h2
    cases h3
  · intro i x p h1 h2 h3
    obtain ⟨rfl, rfl, rfl⟩ := only h1 h2
    exact ⟨Nat.le_refl _, m2.belowSz hbb⟩
  · intro i j x y p r h1 h2 h3 h4 _ _ _
    rw [(only h1 h3).1, (only h2 h4).1]
theorem adds_step {F : List Vf.Nd} {es : List Vf.Ent} {k : Nat} {x : Vf.Ent} (hx : es[k]? = some x) : Vf.adds F k (es.drop k) = if (Vf.add F x).1 ≠ 0 then ((Vf.add F x).1, k, F) else Vf.adds (Vf.add F x).2 (k + 1) (es.drop (k + 1)) := by
  have hlt := (List.getElem?_eq_some_iff.1 hx).1
  rw [List.drop_eq_getElem_cons hlt, (List.getElem?_eq_some_iff.1 hx).2]
  rfl

set_option maxRecDepth 100000 in
set_option maxHeartbeats 4000000 in
theorem new_any (l : List EntA) (A : Option Addr) (n c : Nat) (w : World) (h : Rd w w.heap.size 7 A n (rowCs entVals l)) (hl : l.length = n) (hok : ∀ s ∈ l, EntOk w s) (hn : n ≤ 4294967296) :
    Calls Tryd.prog 17 #[.slice A n c] w (NewE (l.map (·.e)) w) := by
  have hlm : (l.map (·.e)).length = n := by simpa using hl
  have hmm := @run_makeMap Tryd.prog
  have H := hide h
  have Hl := hide hl
  have Hok := hide hok
  have Hlm := hide hlm
  clear h hl hok hlm
  by_cases h64 : 64 < n
  · have g1 : (64 : Int) < (n : Int) := by omega
    have hnew : Vf.new (l.map (·.e)) = (15, -1, []) := by unfold Vf.new; rw [if_pos (by rw [unhide Hlm]; exact h64)]
    have Hnew := hide hnew
    clear h64 hnew
    go_enter Tryd.func17, Tryd.ntmps17
    go_wp2_with fail
    go_ret3
    unfold NewE
    rw [unhide Hnew]
    exact ⟨Below.refl _ _, .inl ⟨by decide, rfl⟩⟩
  · have g1 : ¬ (64 : Int) < (n : Int) := by omega
    have hFS := FsM.start w
    have HFS := hide hFS
    clear hFS
    go_enter Tryd.func17, Tryd.ntmps17
    go_wp2_with fail
    have hB4 : Below w.heap.size w ((((w.alloc (.map #[] 0)).alloc (.cells #[.int .u8 2, .int .u16 493, .int .u32 0, .int .u32 0, .int .i64 0, .int .i64 0, .pointer (some ⟨w.heap.size + 1, 0, none⟩), .string ⟨#[]⟩, .map (some w.heap.size)] 73)).alloc (.cells #[.iface 68 (.pointer (some ⟨w.heap.size + 1, 0, none⟩))] 91)).alloc (.cells #[.slice (some ⟨w.heap.size + 2, 0, none⟩) 1 1] 76)) :=
      ((((Below.refl _ _).alloc (Nat.le_refl _) _).alloc (by simp) _).alloc (by simp; omega) _).alloc (by simp; omega) _
    have HB4 := hide hB4
    clear hB4
    go_loopg [30] n (fun gk iv wr => ∃ (k : Nat) (F : List Vf.Nd) (L : List Pl) (A' : Option Addr) (c' : Nat), gk = n - k ∧ k ≤ n ∧ iv = .int .i64 (k : Nat) ∧ Vf.adds [Vf.root] 0 (l.map (·.e)) = Vf.adds F k ((l.map (·.e)).drop k) ∧ Vf.Good F ∧ F.length = k + 1 ∧ FsM wr w.heap.size (w.heap.size + 3) A' c' F L ∧ Below w.heap.size w wr)
    case atStart => exact ⟨0, [Vf.root], _, _, _, by omega, Nat.zero_le _, rfl, rfl, Vf.good_root, rfl, unhide HFS, unhide HB4⟩
    case round =>
    obtain ⟨k, F, L, A', c', hgk, hk, rfl, hadds, hF, hFl, hFS, hB⟩ := hrel
    have Hgk := hide hgk
    have Hadds := hide hadds
    have HF := hide hF
    have HFl := hide hFl
    have HFSk := hide hFS
    have HB := hide hB
    clear hgk hadds hF hFl hFS hB
    by_cases hlt : k < n
    · obtain ⟨s, hs⟩ : ∃ s, l[k]? = some s := ⟨_, List.getElem?_eq_getElem (by rw [unhide Hl]; exact hlt)⟩
      obtain ⟨b1, o1, rfl, hb1, c1⟩ := (unhide H).open_ (by
        intro h0
        have := rowCs_len (vals := entVals) (size := 7) (fun _ => rfl) l
        rw [h0, unhide Hl] at this
        simp at this
        omega)
      have hc : ∀ j u, (entVals s)[j]? = some u → wr.cell? ⟨b1, o1 + (k * 7 + j), none⟩ = some u := by
        intro j u hu
        have hj : j < 7 := (List.getElem?_eq_some_iff.1 hu).1
        refine ((unhide HB).cell (p := ⟨b1, _, none⟩) hb1).trans (c1 _ _ ?_)
        rw [rowCs_at (vals := entVals) (size := 7) (fun _ => rfl) l k s hs j hj, hu]
      have x0 := hc 0 _ rfl
      have x1 := hc 1 _ rfl
      have x2 := hc 2 _ rfl
      have x3 := hc 3 _ rfl
      have x4 := hc 4 _ rfl
      have x5 := hc 5 _ rfl
      have x6 := hc 6 _ rfl
      rw [Nat.add_zero] at x0
      simp only [← Nat.add_assoc] at x1 x2 x3 x4 x5 x6
      have ilt : (k : Int) < (n : Int) := by omega
      have Hs := hide hs
      have hsm : s ∈ l := List.mem_of_getElem? hs
      have hes : (l.map (·.e))[k]? = some s.e := by rw [List.getElem?_map, hs]; rfl
      have hstep := adds_step (F := F) hes
      have hok := (unhide Hok) s hsm
      have hbA : Below w.heap.size w (wr.alloc (.cells #[.string s.e.path, .int .u8 (s.e.kind : Nat), .int .u16 (s.e.mode : Nat), .int .u32 (s.e.uid : Nat), .int .u32 (s.e.gid : Nat), .slice s.A s.n s.c, .string s.e.to] 64)) := (unhide HB).alloc (unhide HB).size _
      have hok2 := hok.below hbA
      have KA := add_any F L w.heap.size (w.heap.size + 3) c' A' s.A s.n s.c s.e (wr.alloc (.cells #[.string s.e.path, .int .u8 (s.e.kind : Nat), .int .u16 (s.e.mode : Nat), .int .u32 (s.e.uid : Nat), .int .u32 (s.e.gid : Nat), .slice s.A s.n s.c, .string s.e.to] 64)) (unhide HF) ((unhide HFSk).belowSz ((Below.refl _ _).alloc (Nat.le_refl _) _)) hbA.size (by rw [unhide HFl]; omega) hok2.d hok2.n hok2.p hok2.t hok2.m
      unfold entV ptrV at KA
      have HKA := hide KA
      have HbA := hide hbA
      have Hstep := hide hstep
      clear hc c1 hs hsm hes hstep hok hbA hok2 KA
      go_wp2_with fail
      refine (unhide HKA).mono ?_
      rintro e w2 ⟨rfl, hfs2, hb2⟩
      have Hb2 := hide ((unhide HbA).trans hb2)
      by_cases ha : (Vf.add F s.e).1 = 0
      · obtain ⟨L2, A2, c2, hF2⟩ := hfs2 ha
        have HF2 := hide hF2
        have hg2 := Vf.add_good (unhide HF) ha
        have hst := unhide Hstep
        rw [if_neg (by simp [ha])] at hst
        have hlen2 : (Vf.add F s.e).2.length = k + 1 + 1 := by
          obtain ⟨_, up, _, _, _, he⟩ := Vf.add_ok ha
          rw [he, List.length_append, unhide HFl]
          rfl
        have Hg2 := hide hg2
        have Hst := hide hst
        have Hlen2 := hide hlen2
        rw [ha]
        clear ha hfs2 hb2 hF2 hg2 hst hlen2 x0 x1 x2 x3 x4 x5 x6
        go_wp2_with fail
        go_roundg (n - (k + 1))
        case rel => exact ⟨k + 1, _, L2, A2, c2, rfl, by omega, by go_num, (unhide Hadds).trans (unhide Hst), unhide Hg2, unhide Hlen2, unhide HF2, unhide Hb2⟩
        case measure => rw [unhide Hgk]; omega
      · obtain ⟨er, her⟩ : ∃ v, (Vf.add F s.e).1 = v := ⟨_, rfl⟩
        have q1 : (er != 0) = true := by rw [← her]; simp [ha]
        have hst := unhide Hstep
        rw [if_pos ha] at hst
        have hnew : Vf.new (l.map (·.e)) = (er, ((k : Nat) : Int), []) := by
          unfold Vf.new
          rw [if_neg (by rw [unhide Hlm]; exact h64), (unhide Hadds).trans hst, her]
          rw [her] at ha
          rw [if_pos ha]
        have Hnew := hide hnew
        rw [her] at ha
        have Ha := hide ha
        rw [her]
        clear ha hfs2 hb2 hst hnew her x0 x1 x2 x3 x4 x5 x6
        go_wp2_with fail
        go_ret3
        unfold NewE
        rw [unhide Hnew]
        exact ⟨unhide Hb2, .inl ⟨unhide Ha, rfl⟩⟩
    · have hkn : k = n := by omega
      have ilt : ¬ (k : Int) < (n : Int) := by omega
      go_wp2_with fail
      go_ret3
      have ha := unhide Hadds
      rw [List.drop_of_length_le (by rw [unhide Hlm]; omega)] at ha
      have hnew : Vf.new (l.map (·.e)) = (0, 0, F) := by
        unfold Vf.new
        rw [if_neg (by rw [unhide Hlm]; exact h64), ha]
        rfl
      unfold NewE
      rw [hnew]
      exact ⟨unhide HB, .inr ⟨rfl, _, A', c', L, rfl, unhide HFSk, unhide HF, by rw [unhide HFl, unhide Hlm, hkn], rfl, by rw [unhide Hlm]; omega⟩⟩
end Go.Proofs.YtchmdpkjipaafaaDoor
namespace Go.Proofs.YtchmdpkjipaafaaDoor
set_option linter.unusedVariables false
set_option linter.unusedSimpArgs false
open Go.RowKit Go.ChangeShapes Go.WideShapes Go.Joins Go.Deep

theorem credFields : ∃ fs, Tryd.prog.underlying 34 = some (.struct fs) ∧ oneCellFields Tryd.prog fs = true ∧ Tryd.prog.cellsOf 34 = fs.size ∧ fs.map (·.type) = #[31, 31, 31, 31, 32] :=
  ⟨_, Tryd.underlying34, by kernel_rfl, by kernel_rfl, by kernel_rfl⟩
theorem entFields : ∃ fs, Tryd.prog.underlying 64 = some (.struct fs) ∧ oneCellFields Tryd.prog fs = true ∧ Tryd.prog.cellsOf 64 = fs.size ∧ fs.map (·.type) = #[9, 5, 54, 31, 31, 62, 9] :=
  ⟨_, Tryd.underlying64, by kernel_rfl, by kernel_rfl, by kernel_rfl⟩
/-- What holds of an entry that is an argument. -/
structure EntIn (w : World) (s : EntA) : Prop where
  d : Rd w w.heap.size 1 s.A s.n (bys s.e.data)
  nc : s.n ≤ s.c
  c : s.c ≤ maxLen
  p : s.e.path.size ≤ maxLen
  t : s.e.to.size ≤ maxLen
  m : s.e.mode < 65536
  k : s.e.kind < 256
  u : s.e.uid < 4294967296
  g : s.e.gid < 4294967296
section
variable {H : Type} {enc : TypeId × Value → H} {w : World} {base : Nat} {held : Bool}
set_option maxRecDepth 100000 in
theorem open_cred_rd {r : Reach} {b0 : Nat} {v : Value} {d : DataW H} {p : List MemPlace} (hv : Value.okWide Tryd.prog w r b0 34 v) (h : DataW.Trod enc Tryd.prog w base (fun _ => true) held 34 v d p) :
    ∃ (c : Vf.Cred) (A : Option Addr) (n k : Nat), v = credV c A n k ∧ Rd w w.heap.size 1 A n (c.groups.map u32v) ∧ n ≤ k ∧ k ≤ maxLen := by
  obtain ⟨cs, rfl, hsz⟩ := okWide_struct Tryd.underlying34 hv
  obtain ⟨fuel, hf⟩ := h
  obtain ⟨hl, n, hf⟩ := flds_vals _ credFields hf
  have e2 : ∃ c0 c1 c2 c3 c4, cs = #[c0, c1, c2, c3, c4] := by
    obtain ⟨l⟩ := cs
    match l, hl with
    | [c0, c1, c2, c3, c4], _ => exact ⟨c0, c1, c2, c3, c4, rfl⟩
  obtain ⟨c0, c1, c2, c3, c4, rfl⟩ := e2
  obtain ⟨y0, h0⟩ := hf 0 31 c0 rfl rfl
  obtain ⟨y1, h1⟩ := hf 1 31 c1 rfl rfl
  obtain ⟨y2, h2⟩ := hf 2 31 c2 rfl rfl
  obtain ⟨y3, h3⟩ := hf 3 31 c3 rfl rfl
  obtain ⟨y4, h4⟩ := hf 4 32 c4 rfl rfl
  obtain ⟨a0, rfl, b0⟩ := fu32_is Tryd.underlying31 h0
  obtain ⟨a1, rfl, b1⟩ := fu32_is Tryd.underlying31 h1
  obtain ⟨a2, rfl, b2⟩ := fu32_is Tryd.underlying31 h2
  obtain ⟨a3, rfl, b3⟩ := fu32_is Tryd.underlying31 h3
  obtain ⟨A, m, k, rfl⟩ := fslice_is Tryd.underlying32 h4
  obtain ⟨zs, r0, hc0, hm0, hw0⟩ := open_nums_rd (d := y4.1) (p := y4.2) Tryd.underlying32 Tryd.underlying31 (by kernel_rfl) ⟨n, h4⟩
  have hz : (zs.map Int.toNat).map u32v = zs.map (Value.int .u32) := by
    rw [List.map_map]
    refine List.map_congr_left fun z hz => ?_
    have : 0 ≤ z ∧ z ≤ 4294967295 := by simpa [Lit.wf, IntKind.min, IntKind.max, IntKind.signed, IntKind.bits] using hw0 z hz
    show Value.int .u32 ((z.toNat : Nat) : Int) = Value.int .u32 z
    rw [Int.toNat_of_nonneg this.1]
  exact ⟨⟨a0, a1, a2, a3, zs.map Int.toNat⟩, A, m, k, rfl, by rw [hz]; exact r0, hc0, hm0⟩
set_option maxRecDepth 100000 in
theorem open_two_ints {r : Reach} {b0 : Nat} {v : Value} {d : DataW H} {p : List MemPlace} {t : TypeId} (ht : Tryd.prog.underlying t = some (.array 2 3)) (hc : Tryd.prog.cellsOf t = 2) (hv : Value.okWide Tryd.prog w r b0 t v) (h : DataW.Trod enc Tryd.prog w base (fun _ => true) held t v d p) :
    ∃ a b : Int, v = .agg #[.int .i64 a, .int .i64 b] ∧ (-9223372036854775808 ≤ a ∧ a ≤ 9223372036854775807) ∧ -9223372036854775808 ≤ b ∧ b ≤ 9223372036854775807 := by
  have e0 : ∃ cs, v = .agg cs ∧ cs.size = Tryd.prog.cellsOf t := by
    simp only [Value.okWide, ht] at hv
    obtain ⟨cs, h1, h2, _⟩ := hv
    exact ⟨cs, h1, h2⟩
  obtain ⟨cs, rfl, hsz⟩ := e0
  rw [hc] at hsz
  obtain ⟨fuel, hf⟩ := h
  have e2 : ∃ c0 c1, cs = #[c0, c1] := by
    obtain ⟨l⟩ := cs
    match l, hsz with
    | [c0, c1], _ => exact ⟨c0, c1, rfl⟩
  obtain ⟨c0, c1, rfl⟩ := e2
  obtain ⟨xs, m, _, _, _, hxl, hel⟩ := DataW.trod_array ht hf
  have hce : Tryd.prog.cellsOf 3 = 1 := by kernel_rfl
  have g0 := hel 0 (by omega)
  have g1 := hel 1 (by omega)
  rw [hce] at g0 g1
  have f0 : ∃ y, DataW.trod enc Tryd.prog w base (fun _ => true) held m 3 [c0] = some y := ⟨_, g0.trans (List.getElem?_eq_getElem (by omega))⟩
  have f1 : ∃ y, DataW.trod enc Tryd.prog w base (fun _ => true) held m 3 [c1] = some y := ⟨_, g1.trans (List.getElem?_eq_getElem (by omega))⟩
  obtain ⟨y0, f0⟩ := f0
  obtain ⟨y1, f1⟩ := f1
  obtain ⟨a, rfl, ba⟩ := fint_is Tryd.underlying3 f0
  obtain ⟨b, rfl, bb⟩ := fint_is Tryd.underlying3 f1
  exact ⟨a, b, rfl, ba, bb⟩
set_option maxRecDepth 100000 in
theorem ent_vals {fuel : Nat} {cs : List Value} {x : DataW H × List MemPlace} (h : DataW.trod enc Tryd.prog w base (fun _ => true) held fuel 64 cs = some x) : ∃ s : EntA, cs = entVals s ∧ EntIn w s := by
  obtain ⟨hl, n, hf⟩ := flds_vals _ entFields h
  match cs, hl with
  | [c0, c1, c2, c3, c4, c5, c6], _ =>
    obtain ⟨y0, h0⟩ := hf 0 9 c0 rfl rfl
    obtain ⟨y1, h1⟩ := hf 1 5 c1 rfl rfl
    obtain ⟨y2, h2⟩ := hf 2 54 c2 rfl rfl
    obtain ⟨y3, h3⟩ := hf 3 31 c3 rfl rfl
    obtain ⟨y4, h4⟩ := hf 4 31 c4 rfl rfl
    obtain ⟨y5, h5⟩ := hf 5 62 c5 rfl rfl
    obtain ⟨y6, h6⟩ := hf 6 9 c6 rfl rfl
    obtain ⟨a0, rfl, b0⟩ := fstr_is Tryd.underlying9 h0
    obtain ⟨a1, rfl, b1⟩ := fu8_is Tryd.underlying5 h1
    obtain ⟨a2, rfl, b2⟩ := fu16_is Tryd.underlying54 h2
    obtain ⟨a3, rfl, b3⟩ := fu32_is Tryd.underlying31 h3
    obtain ⟨a4, rfl, b4⟩ := fu32_is Tryd.underlying31 h4
    obtain ⟨A, m, k, rfl⟩ := fslice_is Tryd.underlying62 h5
    obtain ⟨a6, rfl, b6⟩ := fstr_is Tryd.underlying9 h6
    obtain ⟨bs, r0, hc0, hm0⟩ := open_bytes_rd (d := y5.1) (p := y5.2) Tryd.underlying62 Tryd.underlying5 (by kernel_rfl) ⟨n, h5⟩
    exact ⟨⟨⟨a0, a1, a2, a3, a4, bs, a6⟩, A, m, k⟩, rfl, ⟨r0, hc0, hm0, b0, b6, b2, b1, b3, b4⟩⟩
theorem open_ents_rd {A : Option Addr} {n c : Nat} {d : DataW H} {p : List MemPlace} (h : DataW.Trod enc Tryd.prog w base (fun _ => true) held 30 (.slice A n c) d p) :
    ∃ l : List EntA, Rd w w.heap.size 7 A n (rowCs entVals l) ∧ l.length = n ∧ n ≤ c ∧ c ≤ maxLen ∧ ∀ s ∈ l, EntIn w s := by
  obtain ⟨fuel, hf⟩ := h
  exact open_structs_rd (size := 7) Tryd.underlying30 (by kernel_rfl) (by omega) entVals _ (fun _ => rfl) (fun _ _ _ h => ent_vals h) hf
end
end Go.Proofs.YtchmdpkjipaafaaDoor
