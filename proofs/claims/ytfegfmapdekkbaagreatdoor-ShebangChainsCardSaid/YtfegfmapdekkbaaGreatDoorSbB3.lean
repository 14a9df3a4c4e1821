/- Part by part: the walk of along. Conditions: as it says. The walks of paths.Join, Base, Dir, Tail and of the references' answers to these. Condition: the texts are shorter than 2^62 bytes. Where a path leads: the walk of Walk. Conditions: as it says. The walk of slices.Clone of bytes. Conditions: no more than 2^32 bytes. Free of any chapter. The bytes of a file: the walk of Read. Conditions: as it says. shebang.program. Conditions: those of the file system and of the groups; the path has fewer than 2^32 bytes. Scripts: plain laws of the statements. No program in sight. No conditions. shebang.Chain. Conditions: those of the file system and of the groups; there are fewer than 2^31 texts; each text and the path has fewer than 2^32 bytes. Which entries may be: the walk of parts. Conditions: as it says. A file system that gets one node more: what holds of its memory. No conditions beyond those named. A file system that gets one node more: put together behind the walk's last store. No conditions beyond those named. What an argument that is a slice of bytes, of integers or of strings reads as: a list, cell by cell. No conditions. -/
import Derived.Test.YtfegfmapdekkbaaGreatDoorSbB2
import Derived.Deep.RegionHeld3
import Derived.Lib.SliceRun
import Derived.Test.YtfegfmapdekkbaaGreatDoorSbB1
import Derived.Deep.LoopGhost
import Derived.Scope
import Derived.ScopeJumps
import Derived.ChangeSlices
import Derived.SliceStrings
import Derived.OpenShut
namespace Go.Proofs.YtfegfmapdekkbaaGreatDoor
set_option linter.unusedVariables false
set_option linter.unusedSimpArgs false
open Go.RowKit

theorem as_link (v : Value) (w : World) : (Instr.typeAssert (.iface 95 v) 89 95 true).run Tryz.prog w = .ok (.tuple #[v, .bool true]) w := by
  simp [Instr.typeAssert, run_underlying Tryz.underlying95, go_sem, Result.andThen]
theorem zero_link (w : World) : (zeroValue 95).run Tryz.prog w = .ok (.pointer none) w := by kernel_rfl
theorem file_no_link (v : Value) (w : World) : (Instr.typeAssert (.iface 92 v) 89 95 true).run Tryz.prog w = .ok (.tuple #[.pointer none, .bool false]) w := by
  simp [Instr.typeAssert, run_underlying Tryz.underlying95, zero_link, go_sem, Result.andThen]
theorem dir_no_link (v : Value) (w : World) : (Instr.typeAssert (.iface 52 v) 89 95 true).run Tryz.prog w = .ok (.tuple #[.pointer none, .bool false]) w := by
  simp [Instr.typeAssert, run_underlying Tryz.underlying95, zero_link, go_sem, Result.andThen]

theorem strs_one (l : List ByteArray) : ∀ u ∈ l.map Value.string, u.oneCell' = true := by
  intro u hu
  obtain ⟨x, _, rfl⟩ := List.mem_map.1 hu
  rfl
/-- along's first answer. -/
def alV (F : List Vf.Nd) (L : List Pl) (r : Int × Nat) : Value := if r.1 = 0 then ndA F L r.2 else .nilIface
/-- Where the walk stands: the state's three slots, in the world W. -/
structure AlS (w : World) (F : List Vf.Nd) (L : List Pl) (cr : Vf.Cred) (Ag : Option Addr) (ng kg : Nat) (last : Bool) (r : Int × Nat) (M : Nat) (s : Vf.St) (A : Option Addr) (c1 : Nat) (W : World) : Prop where
  b : Below w.heap.size w W
  cb : Blk W w.heap.size 26 [.int .u32 (cr.uid : Nat), .int .u32 (cr.euid : Nat), .int .u32 (cr.suid : Nat), .int .u32 (cr.gid : Nat), .slice Ag ng kg]
  rd : Rd W W.heap.size 1 A s.left.length (s.left.map Value.string)
  at_ : s.at_ < F.length
  lk : s.links ≤ 8
  mu : Vf.mu s ≤ M
  r : Vf.ends F cr last s = r
  cap : s.left.length ≤ c1
theorem AlS.below {w : World} {F : List Vf.Nd} {L : List Pl} {cr : Vf.Cred} {Ag : Option Addr} {ng kg : Nat} {last : Bool} {r : Int × Nat} {M : Nat} {s : Vf.St} {A : Option Addr} {c1 : Nat} {W W' : World} (h : AlS w F L cr Ag ng kg last r M s A c1 W) (hb : Below W.heap.size W W') : AlS w F L cr Ag ng kg last r M s A c1 W' :=
  ⟨h.b.trans (hb.mono h.b.size), h.cb.belowSz hb, h.rd.belowSz hb, h.at_, h.lk, h.mu, h.r, h.cap⟩
theorem AlS.len {w : World} {F : List Vf.Nd} {L : List Pl} {cr : Vf.Cred} {Ag : Option Addr} {ng kg : Nat} {last : Bool} {r : Int × Nat} {M : Nat} {s : Vf.St} {A : Option Addr} {c1 : Nat} {W : World} (h : AlS w F L cr Ag ng kg last r M s A c1 W) : s.left.length ≤ M := by
  have := h.mu
  unfold Vf.mu at this
  omega
/-- An end. -/
theorem AlS.stop {w : World} {F : List Vf.Nd} {L : List Pl} {cr : Vf.Cred} {Ag : Option Addr} {ng kg : Nat} {last : Bool} {r x : Int × Nat} {M : Nat} {s : Vf.St} {A : Option Addr} {c1 : Nat} {W : World} (h : AlS w F L cr Ag ng kg last r M s A c1 W) (hh : Vf.hop F cr last s = .inl x) : r = x := by
  rw [← h.r, Vf.ends_eq, hh]
theorem AlS.next {w : World} {F : List Vf.Nd} {L : List Pl} {cr : Vf.Cred} {Ag : Option Addr} {ng kg : Nat} {last : Bool} {r : Int × Nat} {M : Nat} {s s' : Vf.St} {A : Option Addr} {c1 : Nat} {W : World} (h : AlS w F L cr Ag ng kg last r M s A c1 W) (hh : Vf.hop F cr last s = .inr s') : Vf.ends F cr last s' = r ∧ Vf.mu s' < Vf.mu s := by
  refine ⟨?_, Vf.hop_mu hh⟩
  rw [← h.r, Vf.ends_eq F cr last s, hh]
set_option maxRecDepth 100000 in
set_option maxHeartbeats 4000000 in
theorem along_any (F : List Vf.Nd) (L : List Pl) (lo f c : Nat) (A Ag A' : Option Addr) (ng kg c' : Nat) (cr : Vf.Cred) (i0 : Nat) (x0 : Vf.Nd) (p0 : Pl) (l : List ByteArray) (last : Bool) (w : World) (hF : Vf.Good F) (h : FsM w lo f A c F L) (hn : F.length ≤ 65)
    (hx0 : F[i0]? = some x0) (hp0 : L[i0]? = some p0) (hk0 : x0.m.kind = 2) (hl : Rd w w.heap.size 1 A' l.length (l.map Value.string)) (hll : l.length ≤ 201) (hcap : l.length ≤ c') (hg : Rd w w.heap.size 1 Ag ng (cr.groups.map u32v)) (hng : ng ≤ maxLen) :
    Calls Tryz.prog 61 #[ptrV f, credV cr Ag ng kg, ptrV p0.q, .slice A' l.length c', .bool last] w fun e w' => e = .returned (.tuple #[alV F L (Vf.ends F cr last ⟨i0, 0, l⟩), .int .i64 (Vf.ends F cr last ⟨i0, 0, l⟩).1]) ∧ Below w.heap.size w w' := by
  have KMay : ∀ (i : Nat) (x : Vf.Nd), F[i]? = some x → ∀ w', Below w.heap.size w w' → Calls Tryz.prog 40 #[.agg #[.int .u32 (cr.uid : Nat), .int .u32 (cr.euid : Nat), .int .u32 (cr.suid : Nat), .int .u32 (cr.gid : Nat), .slice Ag ng kg], .agg #[.int .u8 (x.m.kind : Nat), .int .u16 (x.m.mode : Nat), .int .u32 (x.m.uid : Nat), .int .u32 (x.m.gid : Nat), .int .i64 (x.m.size : Nat)], .int .u8 1] w' fun e w2 => e = .returned (.bool (Vf.mayX cr x.m)) ∧ Below w'.heap.size w' w2 :=
    fun i x hx w' hb => may_any cr x.m Ag ng kg w.heap.size w' (hg.below hb) hb.size hng (hF.mode i x hx)
  obtain ⟨pr, hpr, _, _⟩ := h.at_ hF.r
  have hrk := Vf.root_dir hF
  rw [Vf.kindAt_eq hF.r] at hrk
  have KRoot : ∀ w', Below w.heap.size w w' → Calls Tryz.prog 60 #[.pointer (some ⟨f, 0, none⟩)] w' fun e w2 => e = .returned (.pointer (some ⟨pr.q, 0, none⟩)) ∧ w' = w2 :=
    fun w' hb => root_any F L f c w'.heap.size A w' (h.belowSz hb).toR hn _ pr hF.r hpr hrk
  have e00 : ndA F L 0 = .iface 52 (.pointer (some ⟨pr.q, 0, none⟩)) := by
    rw [h.ndA_eq hF.r hpr]
    rfl
  have He00 := hide e00
  have S0 : AlS w F L cr Ag ng kg last (Vf.ends F cr last ⟨i0, 0, l⟩) (Vf.mu ⟨i0, 0, l⟩) ⟨i0, 0, l⟩ A' c' (w.alloc (.cells #[.int .u32 (cr.uid : Nat), .int .u32 (cr.euid : Nat), .int .u32 (cr.suid : Nat), .int .u32 (cr.gid : Nat), .slice Ag ng kg] 26)) :=
    ⟨(Below.refl _ _).alloc (Nat.le_refl _) _, Blk.new w 26 [.int .u32 (cr.uid : Nat), .int .u32 (cr.euid : Nat), .int .u32 (cr.suid : Nat), .int .u32 (cr.gid : Nat), .slice Ag ng kg], (hl.below ((Below.refl _ _).alloc (Nat.le_refl _) _)).more (by simp), (List.getElem?_eq_some_iff.1 hx0).1, Nat.zero_le _, Nat.le_refl _, rfl, hcap⟩
  have hM : Vf.mu ⟨i0, 0, l⟩ ≤ 1817 := by unfold Vf.mu; simp only; omega
  have e0 : ndA F L i0 = .iface 52 (.pointer (some ⟨p0.q, 0, none⟩)) := by
    rw [h.ndA_eq hx0 hp0]
    unfold kindT
    rw [if_pos hk0]
  obtain ⟨r, hr⟩ : ∃ r, Vf.ends F cr last ⟨i0, 0, l⟩ = r := ⟨_, rfl⟩
  obtain ⟨M, hMe⟩ : ∃ M, Vf.mu ⟨i0, 0, l⟩ = M := ⟨_, rfl⟩
  obtain ⟨re, rn⟩ := r
  rw [hr] at S0 ⊢
  rw [hMe] at S0 hM
  dsimp only
  have HS0 := hide S0
  have HF := hide hF
  have H := hide h
  have HKM := hide KMay
  have HKR := hide KRoot
  have He0 := hide e0.symm
  have HMe := hide hMe
  obtain ⟨av, hav⟩ : ∃ v, alV F L (re, rn) = v := ⟨_, rfl⟩
  have Hav := hide hav
  rw [hav]
  obtain ⟨nl, hnl⟩ : ∃ n, l.length = n := ⟨_, rfl⟩
  have Hnl := hide hnl
  rw [hnl]
  unfold credV ptrV
  clear hr hMe S0 hF h KMay KRoot e00 hrk hpr hx0 hp0 hk0 hl hg e0 hav hnl
  go_enter Tryz.func61, Tryz.ntmps61
  go_wp2_with fail
  go_loopg [3, 12, 13] M (fun gk lv nv kv wr => ∃ (s : Vf.St) (A1 : Option Addr) (c1 : Nat), gk = Vf.mu s ∧ lv = .slice A1 s.left.length c1 ∧ nv = ndA F L s.at_ ∧ kv = .int .i64 (s.links : Nat) ∧ AlS w F L cr Ag ng kg last (re, rn) M s A1 c1 wr)
  case atStart => exact ⟨⟨i0, 0, l⟩, A', c', (unhide HMe).symm, by rw [← unhide Hnl], (unhide He0), rfl, unhide HS0⟩
  case round =>
  obtain ⟨s, A1, c1, hgk, rfl, rfl, rfl, hS⟩ := hrel
  have HS := hide hS
  have hat := hS.at_
  have hlen := hS.len
  obtain ⟨x, hx⟩ : ∃ x, F[s.at_]? = some x := ⟨_, List.getElem?_eq_getElem hat⟩
  obtain ⟨p, hp, _, _⟩ := (unhide H).at_ hx
  have e1 := (unhide H).ndA_eq hx hp
  have Hx := hide hx
  have Hp := hide hp
  have Hgk := hide hgk
  cases hleft : s.left with
  | nil =>
    obtain ⟨rfl, rfl⟩ : re = 0 ∧ rn = s.at_ := by
      have := hS.stop (Vf.hop_nil hleft)
      injection this with a b
      exact ⟨a, b⟩
    have hz : alV F L (0, s.at_) = ndA F L s.at_ := by unfold alV; rw [if_pos rfl]
    rw [hz] at Hav
    rw [unhide Hav]
    simp only [List.length_nil]
    have Hb := hide hS.b
    clear hS hz hx hp e1 hgk hlen hat hleft
    go_wp2_with fail
    go_ret2
    exact ⟨rfl, unhide Hb⟩
  | cons pn rest =>
    have hl1 : s.left.length = rest.length + 1 := by rw [hleft]; rfl
    have Hleft := hide hleft
    obtain ⟨m, hm⟩ : ∃ m, rest.length = m := ⟨_, rfl⟩
    have Hm := hide hm
    have hmM : m < M := by omega
    simp only [List.length_cons]
    rw [hm]
    have g1 : (0 : Int) < (m : Int) + 1 := by omega
    have gl : ((m + 1 : Nat) : Int) = (m : Int) + 1 := by omega
    by_cases hk2 : x.m.kind = 2
    · have et : kindT x.m.kind = 52 := by rw [hk2]; rfl
      rw [et] at e1
      rw [e1]
      have ha := is_dir (.pointer (some ⟨p.q, 0, none⟩))
      have hka : Vf.kindAt F s.at_ = 2 := (Vf.kindAt_eq hx).trans hk2
      have hnd : Vf.nd F s.at_ = x := Vf.nd_eq hx
      have HW := hide ((unhide H).belowSz hS.b)
      obtain ⟨_, u, hu, hb⟩ := (unhide HW).nd s.at_ x p hx hp
      have hcb := hS.cb
      have KM := (unhide HKM) s.at_ x hx
      obtain ⟨bm, hbm⟩ : ∃ b, Vf.mayX cr x.m = b := ⟨_, rfl⟩
      rw [hbm] at KM
      have Hbm := hide hbm
      have HSK : ∀ w', Below wr.heap.size wr w' → (Below wr.heap.size wr w' ∧ w'.cell? ⟨w.heap.size, 0, none⟩ = some (.int .u32 (cr.uid : Nat)) ∧ w'.cell? ⟨w.heap.size, 1, none⟩ = some (.int .u32 (cr.euid : Nat)) ∧ w'.cell? ⟨w.heap.size, 2, none⟩ = some (.int .u32 (cr.suid : Nat)) ∧ w'.cell? ⟨w.heap.size, 3, none⟩ = some (.int .u32 (cr.gid : Nat)) ∧ w'.cell? ⟨w.heap.size, 4, none⟩ = some (.slice Ag ng kg) ∧ w'.cell? ⟨p.q, 0, none⟩ = some (.int .u8 (x.m.kind : Nat)) ∧ w'.cell? ⟨p.q, 1, none⟩ = some (.int .u16 (x.m.mode : Nat)) ∧ w'.cell? ⟨p.q, 2, none⟩ = some (.int .u32 (x.m.uid : Nat)) ∧ w'.cell? ⟨p.q, 3, none⟩ = some (.int .u32 (x.m.gid : Nat)) ∧ w'.cell? ⟨p.q, 4, none⟩ = some (.int .i64 (x.m.size : Nat))) := by
        intro w' hbw
        have h1 := hcb.belowSz hbw
        have h2 := ndCells (hb.belowSz hbw)
        exact ⟨hbw, h1.cell rfl, h1.cell rfl, h1.cell rfl, h1.cell rfl, h1.cell rfl, h2⟩
      obtain ⟨-, a0, a1, a2, a3, a4, b0, b1, b2, b3, b4⟩ := HSK wr (Below.refl _ _)
      have hbW := hS.b
      have HKM2 := hide (fun w' (hbw : Below wr.heap.size wr w') => KM w' (hbW.trans (hbw.mono hbW.size)))
      have HbW := hide hbW
      have Hka := hide hka
      have Hnd := hide hnd
      have HSK' := hide HSK
      have HeS := hide ((unhide H).ndA_eq hx hp |>.trans (by rw [hk2]; rfl : _ = Value.iface 52 (.pointer (some ⟨p.q, 0, none⟩))))
      have Hk2 := hide hk2
      have Hu := hide hu
      have Hb := hide hb
      clear hS hx hp hgk hlen hat hleft hu hb hcb KM hbm HSK hbW hka hnd e1 et hk2 hm hl1 hll hn
      go_wp2_with fail
      go_region_held3 (fun w' => Below wr.heap.size wr w' ∧ w'.cell? ⟨w.heap.size, 0, none⟩ = some (.int .u32 (cr.uid : Nat)) ∧ w'.cell? ⟨w.heap.size, 1, none⟩ = some (.int .u32 (cr.euid : Nat)) ∧ w'.cell? ⟨w.heap.size, 2, none⟩ = some (.int .u32 (cr.suid : Nat)) ∧ w'.cell? ⟨w.heap.size, 3, none⟩ = some (.int .u32 (cr.gid : Nat)) ∧ w'.cell? ⟨w.heap.size, 4, none⟩ = some (.slice Ag ng kg) ∧ w'.cell? ⟨p.q, 0, none⟩ = some (.int .u8 (x.m.kind : Nat)) ∧ w'.cell? ⟨p.q, 1, none⟩ = some (.int .u16 (x.m.mode : Nat)) ∧ w'.cell? ⟨p.q, 2, none⟩ = some (.int .u32 (x.m.uid : Nat)) ∧ w'.cell? ⟨p.q, 3, none⟩ = some (.int .u32 (x.m.gid : Nat)) ∧ w'.cell? ⟨p.q, 4, none⟩ = some (.int .i64 (x.m.size : Nat))) (first | exact (unhide HSK') _ (below_drew' (Below.refl _ _)) | exact (unhide HSK') _ (unhide hbn)) (first
        | (go_at_call 40; rename Below _ _ _ ∧ _ => hH; refine ((unhide HKM2) _ hH.1).mono ?_; rintro e w2 ⟨rfl, hb2⟩; have hbn := hide (hH.1.trans (hb2.mono hH.1.size))))
      have HS2 := hide ((unhide HS).below (unhide hbn))
      have HW2 := hide ((unhide HW).belowSz (unhide hbn))
      have Hb2 := hide ((unhide Hb).belowSz (unhide hbn))
      clear a0 a1 a2 a3 a4 b0 b1 b2 b3 b4
      cases bm with
      | false =>
        obtain ⟨rfl, rfl⟩ : re = 5 ∧ rn = 0 := by
          have := (unhide HS).stop (Vf.hop_shut (unhide Hleft) (unhide Hka) (by rw [unhide Hnd]; exact unhide Hbm))
          injection this with a b
          exact ⟨a, b⟩
        have Hb3 := hide (unhide HS2).b
        have hz : alV F L (5, 0) = .nilIface := rfl
        rw [hz] at Hav
        have hv := unhide Hav
        subst hv
        clear hz
        go_wp2_with fail
        go_ret2
        exact ⟨rfl, unhide Hb3⟩
      | true =>
        have hrd := (unhide HS2).rd
        rw [unhide Hleft, List.length_cons, unhide Hm, List.map_cons] at hrd
        have hcp := (unhide HS2).cap
        rw [unhide Hleft, List.length_cons, unhide Hm] at hcp
        have hsl := fun w' => run_tail (P := Tryz.prog) (e := 9) Tryz.underlying27 (by kernel_rfl) A1 m c1 w'
        have hrt := hrd.tail hcp
        obtain ⟨bL, oL, hA1, _, cL⟩ := hrd.at_ (k := 0) (u := .string pn) rfl
        obtain ⟨A2, hA2⟩ : ∃ A2, tailA A1 c1 = A2 := ⟨_, rfl⟩
        rw [hA2] at hsl hrt
        rw [Nat.add_zero] at cL
        subst hA1
        have Hrt := hide hrt
        have Hcp := hide hcp
        clear hrd hA2 hrt hcp
        have hdq : (pn.toList == [46, 46]) = decide (pn = Vf.dd) := by
          have h := beq_toList pn Vf.dd
          rwa [show Vf.dd.toList = [46, 46] by rw [Lib.toList_data]; rfl] at h
        have hml : ∀ (s' : Vf.St), Vf.hop F cr last s = .inr s' → Vf.mu s' < Vf.mu s := fun s' h => Vf.hop_mu h
        by_cases hd : pn = Vf.dd
        · rw [decide_eq_true hd] at hdq
          obtain ⟨hul, hud⟩ := Vf.up_lt (unhide HF) (unhide Hx)
          obtain ⟨xu, hxu, hxk⟩ := Vf.kindAt_lt hud
          have eu := (unhide H).ndA_eq hxu (unhide Hu)
          rw [hxk] at eu
          have c6 : w2.cell? ⟨p.q, 6, none⟩ = some (.pointer (some ⟨u.q, 0, none⟩)) := (unhide Hb2).cell rfl
          have hnx := (unhide HS).next (Vf.hop_up (unhide Hleft) (unhide Hka) (by rw [unhide Hnd]; exact unhide Hbm) hd)
          rw [unhide Hnd] at hnx
          have HN : Hid (AlS w F L cr Ag ng kg last (re, rn) M ⟨x.up, s.links, rest⟩ A2 (c1 - 1) w2) :=
            hide ⟨(unhide HS2).b, (unhide HS2).cb, by rw [unhide Hm]; exact unhide Hrt, hul, (unhide HS2).lk, Nat.le_trans (Nat.le_of_lt hnx.2) (unhide HS2).mu, hnx.1, by rw [unhide Hm]; have := unhide Hcp; omega⟩
          have Hnx := hide hnx.2
          have Heu := hide eu
          clear hd hul hud hxu hxk eu hnx hml
          go_wp2_with fail
          go_roundg (Vf.mu ⟨x.up, s.links, rest⟩)
          case rel => exact ⟨⟨x.up, s.links, rest⟩, A2, c1 - 1, rfl, by rw [unhide Hm], (unhide Heu).symm, rfl, unhide HN⟩
          case measure => rw [unhide Hgk]; exact unhide Hnx
        · rw [decide_eq_false hd] at hdq
          have c8 : w2.cell? ⟨p.q, 8, none⟩ = some (lastV x p) := (unhide Hb2).cell rfl
          have e8 : lastV x p = .map (some p.g) := by unfold lastV; rw [if_pos (unhide Hk2)]
          rw [e8] at c8
          have hml : Vf.mayX cr (Vf.nd F s.at_).m = true := by rw [unhide Hnd]; exact unhide Hbm
          cases hc : Vf.child F s.at_ pn with
          | none =>
            have hlk := look_no (unhide HF) (unhide HW2) (unhide Hx) (unhide Hp) (unhide Hk2) hc
            obtain ⟨rfl, rfl⟩ : re = 3 ∧ rn = 0 := by
              have := (unhide HS).stop (Vf.hop_none (unhide Hleft) (unhide Hka) hml hd hc)
              injection this with a b
              exact ⟨a, b⟩
            have Hb3 := hide (unhide HS2).b
            have hz : alV F L (3, 0) = .nilIface := rfl
            rw [hz] at Hav
            have hv := unhide Hav
            subst hv
            clear hz e8 hd hc hml
            go_wp2_with fail
            go_ret2
            exact ⟨rfl, unhide Hb3⟩
          | some j =>
            obtain ⟨xj, pj, hxj, hpj, hlk⟩ := look_yes (unhide HF) (unhide HW2) (unhide Hx) (unhide Hp) (unhide Hk2) hc
            have hjl := (List.getElem?_eq_some_iff.1 hxj).1
            have ej : ndV xj pj = .iface (kindT xj.m.kind) (.pointer (some ⟨pj.q, 0, none⟩)) := rfl
            have ejA := (unhide H).ndA_eq hxj hpj
            have Hxj := hide hxj
            have Hpj := hide hpj
            have HeA := hide ejA
            rw [ej] at hlk
            have HIn : Hid (Vf.kindAt F j ≠ 3 ∨ (rest = [] ∧ last = false) → AlS w F L cr Ag ng kg last (re, rn) M ⟨j, s.links, rest⟩ A2 (c1 - 1) w2 ∧ Vf.mu ⟨j, s.links, rest⟩ < Vf.mu s) := hide (fun h3 => by
              have hnx := (unhide HS).next (Vf.hop_in (unhide Hleft) (unhide Hka) hml hd hc h3)
              exact ⟨⟨(unhide HS2).b, (unhide HS2).cb, by rw [unhide Hm]; exact unhide Hrt, hjl, (unhide HS2).lk, Nat.le_trans (Nat.le_of_lt hnx.2) (unhide HS2).mu, hnx.1, by rw [unhide Hm]; have := unhide Hcp; omega⟩, hnx.2⟩)
            have Hd := hide hd
            have Hml := hide hml
            have Hc := hide hc
            have Hjl := hide hjl
            by_cases hk3 : xj.m.kind = 3
            · have et : kindT xj.m.kind = 95 := by rw [hk3]; rfl
              rw [et] at hlk
              have Het := hide et
              have ha1 := as_link (.pointer (some ⟨pj.q, 0, none⟩))
              obtain ⟨_, uj, _, hbj⟩ := (unhide HW2).nd j xj pj hxj hpj
              have cto : w2.cell? ⟨pj.q, 8, none⟩ = some (lastV xj pj) := hbj.cell rfl
              have e9 : lastV xj pj = .string xj.to := by unfold lastV; rw [if_neg (by omega), if_neg (by omega)]
              rw [e9] at cto
              have hk3' : Vf.kindAt F j = 3 := (Vf.kindAt_eq hxj).trans hk3
              have hndj : Vf.nd F j = xj := Vf.nd_eq hxj
              have hto : xj.to.size ≤ 200 := Pth.chk_size _ ((unhide HF).to j xj hxj hk3)
              by_cases hin : rest = [] ∧ last = false
              · have h3 := (unhide HIn) (.inr hin)
                have HN := hide h3.1
                have Hnx := hide h3.2
                have hm0 : m = 0 := by rw [← unhide Hm, hin.1]; rfl
                have hq0 : ((m : Int) == 0) = true := by rw [hm0]; rfl
                have hla : last = false := hin.2
                clear et h3 hk3 hc hjl ejA hxj hpj hml hd e8 ej hbj e9 hk3' hndj hto hin hm0
                subst hla
                go_wp2_with fail
                go_roundg (Vf.mu ⟨j, s.links, rest⟩)
                case rel => exact ⟨⟨j, s.links, rest⟩, A2, c1 - 1, rfl, by rw [unhide Hm], by rw [unhide HeA, unhide Het], rfl, unhide HN⟩
                case measure => rw [unhide Hgk]; exact unhide Hnx
              · have hno : ¬ (Vf.kindAt F j ≠ 3 ∨ (rest = [] ∧ last = false)) := by
                  rintro (h | h)
                  · exact h hk3'
                  · exact hin h
                have hpick : ((m : Int) == 0) = false ∨ ((m : Int) == 0) = true ∧ last = true := by
                  by_cases hm0 : m = 0
                  · refine .inr ⟨by rw [hm0]; rfl, ?_⟩
                    cases hla : last with
                    | true => rfl
                    | false => exact absurd ⟨List.eq_nil_of_length_eq_zero ((unhide Hm).trans hm0), hla⟩ hin
                  · exact .inl (by rw [beq_eq_false_iff_ne]; omega)
                have hlk8 := (unhide HS2).lk
                have i0 : (0 : Int) ≤ (s.links : Int) := by omega
                have iw : IntKind.i64.wrap ((s.links : Int) + 1) = (s.links : Int) + 1 := IntWalk.i64_in _ (by omega)
                by_cases h8 : 8 ≤ s.links
                · obtain ⟨rfl, rfl⟩ : re = 10 ∧ rn = 0 := by
                    have := (unhide HS).stop (Vf.hop_loop (unhide Hleft) (unhide Hka) hml hd hc hno h8)
                    injection this with a b
                    exact ⟨a, b⟩
                  have Hb3 := hide (unhide HS2).b
                  have hz : alV F L (10, 0) = .nilIface := rfl
                  rw [hz] at Hav
                  have hv := unhide Hav
                  subst hv
                  have g8 : (8 : Int) < (s.links : Int) + 1 := by omega
                  clear et hk3 hc hjl ejA hxj hpj hml hd e8 ej hbj e9 hk3' hndj hto hin hno hz hlk8 h8
                  rcases hpick with hq0 | ⟨hq0, rfl⟩
                  all_goals
                    go_wp2_with fail
                    go_ret2
                    exact ⟨rfl, unhide Hb3⟩
                · have hnx := (unhide HS).next (Vf.hop_link (unhide Hleft) (unhide Hka) hml hd hc hno h8)
                  rw [hndj] at hnx
                  have g8 : ¬ (8 : Int) < (s.links : Int) + 1 := by omega
                  have KP := hide (parts_any xj.to (by unfold maxLen; omega) w2)
                  have hpl := Vf.parts_len xj.to
                  have Hnx := hide hnx
                  have h8' : s.links + 1 ≤ 8 := by omega
                  have hm2 : m ≤ 1817 := by omega
                  obtain ⟨tb, htb⟩ : ∃ b, Pth.rootB xj.to = b := ⟨_, rfl⟩
                  obtain ⟨pl, hpll⟩ : ∃ l, Pth.partsL xj.to = l := ⟨_, rfl⟩
                  rw [htb, hpll] at KP
                  rw [hpll] at hpl
                  obtain ⟨np, hnp⟩ : ∃ n, pl.length = n := ⟨_, rfl⟩
                  rw [hnp] at KP hpl
                  rw [htb, hpll] at Hnx
                  have Hnp := hide hnp
                  clear et hk3 hc hjl ejA hxj hpj hml hd e8 ej hbj e9 hk3' hndj hto hin hno hlk8 h8 hnx htb hpll hnp
                  have HN : ∀ (A4 : Option Addr) (c4 : Nat) (w4 : World), w4.ownsRow w2.heap.size 9 1 (.slice A4 (np + m) c4) (np + m) (pl.map Value.string ++ rest.map Value.string) → Below w2.heap.size w2 w4 → AlS w F L cr Ag ng kg last (re, rn) M ⟨if tb = true then 0 else s.at_, s.links + 1, pl ++ rest⟩ A4 c4 w4 := by
                    intro A4 c4 w4 ho4 hb4
                    have hS4 := (unhide HS2).below hb4
                    have hlen4 : (pl ++ rest).length = np + m := by rw [List.length_append, unhide Hnp, unhide Hm]
                    refine ⟨hS4.b, hS4.cb, ?_, ?_, h8', Nat.le_trans (Nat.le_of_lt (unhide Hnx).2) (unhide HS2).mu, (unhide Hnx).1, ?_⟩
                    · show Rd w4 w4.heap.size 1 A4 (pl ++ rest).length ((pl ++ rest).map Value.string)
                      rw [hlen4, List.map_append]
                      exact Rd.of_own ho4
                    · show (if tb = true then 0 else s.at_) < F.length
                      split
                      · exact Vf.good_pos (unhide HF)
                      · exact (unhide HS2).at_
                    · show (pl ++ rest).length ≤ c4
                      rw [hlen4]
                      exact own_cap ho4
                  have hlen4 : (pl ++ rest).length = np + m := by rw [List.length_append, unhide Hnp, unhide Hm]
                  have Hlen4 := hide hlen4
                  replace HN := hide HN
                  clear hlen4
                  rcases hpick with hq0 | ⟨hq0, rfl⟩
                  all_goals
                    go_wp2_with fail
                    refine (unhide KP).mono ?_
                    rintro e w3 ⟨A3, c3, rfl, ho3, hb3⟩
                    have Ho3 := hide ho3
                    have Hb3 := hide hb3
                    have Hr3 := hide ((unhide Hrt).belowSz hb3)
                    have hsz3 := hb3.size
                    have Hb23 := hide hb3
                    have HS3 := hide ((unhide HS2).below hb3)
                    have hlo3 := fun k hk => (ho3.lt k hk).1
                    have Hlo3 := hide hlo3
                    clear ho3 hb3 hlo3
                    cases tb with
                    | false =>
                      go_wp2_with (at_builtin; refine wpList_app strTy rfl _ _ rfl w2.heap.size (.slice A3 np c3) np _ rfl (unhide Ho3) w3.heap.size A2 m (c1 - 1) _ rfl (unhide Hr3) (strs_one _) (by omega) hsz3 ?_; intro A4 c4 w4 ho4 hg4 hat4; have hb4 := (Below.refl w2.heap.size w3).grown hg4 hsz3 (unhide Hlo3); have Ho4 := hide ho4; have Hb4 := hide hb4; clear ho4 hg4 hat4 hb4)
                      have hN4 := (unhide HN) A4 c4 w4 (unhide Ho4) ((unhide Hb23).trans ((unhide Hb4).mono (Nat.le_refl _)))
                      go_roundg (Vf.mu ⟨s.at_, s.links + 1, pl ++ rest⟩)
                      case rel => exact ⟨⟨s.at_, s.links + 1, pl ++ rest⟩, A4, c4, rfl, by rw [unhide Hlen4], (unhide HeS).symm, rfl, hN4⟩
                      case measure => rw [unhide Hgk]; exact (unhide Hnx).2
                    | true =>
                      go_wp2_with (at_builtin; refine wpList_app strTy rfl _ _ rfl w2.heap.size (.slice A3 np c3) np _ rfl (unhide Ho3) w3.heap.size A2 m (c1 - 1) _ rfl (unhide Hr3) (strs_one _) (by omega) hsz3 ?_; intro A4 c4 w4 ho4 hg4 hat4; have hb4 := (Below.refl w2.heap.size w3).grown hg4 hsz3 (unhide Hlo3); have Ho4 := hide ho4; have Hb4 := hide hb4; clear ho4 hg4 hat4 hb4)
                      have hN4 := (unhide HN) A4 c4 w4 (unhide Ho4) ((unhide Hb23).trans ((unhide Hb4).mono (Nat.le_refl _)))
                      refine ((unhide HKR) w4 hN4.b).mono ?_
                      rintro e w5 ⟨rfl, rfl⟩
                      go_wp2_with fail
                      go_roundg (Vf.mu ⟨0, s.links + 1, pl ++ rest⟩)
                      case rel => exact ⟨⟨0, s.links + 1, pl ++ rest⟩, A4, c4, rfl, by rw [unhide Hlen4], (unhide He00).symm, rfl, hN4⟩
                      case measure => rw [unhide Hgk]; exact (unhide Hnx).2
            · have h3 := (unhide HIn) (.inl (by rw [Vf.kindAt_eq hxj]; exact hk3))
              have HN := hide h3.1
              have Hnx := hide h3.2
              have et : kindT xj.m.kind = 92 ∨ kindT xj.m.kind = 52 := by
                rcases kind3 (unhide HF) hxj with h1 | h1 | h1
                · exact .inl (by rw [h1]; rfl)
                · exact .inr (by rw [h1]; rfl)
                · exact absurd h1 hk3
              have ha1 := file_no_link (.pointer (some ⟨pj.q, 0, none⟩))
              have ha2 := dir_no_link (.pointer (some ⟨pj.q, 0, none⟩))
              rcases et with et | et
              all_goals
                rw [et] at hlk
                have Het := hide et
                clear et h3 hk3 hc hjl ejA hxj hpj hml hd e8 ej
                go_wp2_with fail
                go_roundg (Vf.mu ⟨j, s.links, rest⟩)
                case rel => exact ⟨⟨j, s.links, rest⟩, A2, c1 - 1, rfl, by rw [unhide Hm], by rw [unhide HeA, unhide Het], rfl, unhide HN⟩
                case measure => rw [unhide Hgk]; exact unhide Hnx
    · have hka : Vf.kindAt F s.at_ ≠ 2 := by rw [Vf.kindAt_eq hx]; exact hk2
      obtain ⟨rfl, rfl⟩ : re = 8 ∧ rn = 0 := by
        have := hS.stop (Vf.hop_no hleft hka)
        injection this with a b
        exact ⟨a, b⟩
      have hz : alV F L (8, 0) = .nilIface := rfl
      rw [hz] at Hav
      have hv := unhide Hav
      subst hv
      rw [e1]
      have Hb := hide hS.b
      have et : kindT x.m.kind = 92 ∨ kindT x.m.kind = 95 := by
        rcases kind3 (unhide HF) hx with h1 | h1 | h1
        · exact .inl (by rw [h1]; rfl)
        · exact absurd h1 hk2
        · exact .inr (by rw [h1]; rfl)
      have ha := file_no_dir (.pointer (some ⟨p.q, 0, none⟩))
      have ha2 := link_no_dir (.pointer (some ⟨p.q, 0, none⟩))
      rcases et with et | et
      all_goals
        rw [et]
        clear et hS hz hx hp e1 hgk hlen hat hleft hk2 hka hm hl1 hll hn
        go_wp2_with fail
        go_ret2
        exact ⟨rfl, unhide Hb⟩
end Go.Proofs.YtfegfmapdekkbaaGreatDoor
namespace Go.Proofs.YtfegfmapdekkbaaGreatDoor
set_option linter.unusedVariables false
set_option linter.unusedSimpArgs false
open Go.RowKit

theorem tail_any (p : ByteArray) (hp : p.size ≤ 4611686018427387903) (w : World) :
    Calls Tryz.prog 56 #[.string p] w fun e w' => e = .returned (.bool (Pth.tailB p)) ∧ w = w' := by
  go_enter Tryz.func56, Tryz.ntmps56
  go_wp2_with (go_at_call 80; refine (flipw (Tryz.strings_HasSuffix _ _ _ (by omega))).mono ?_; rintro e w1 ⟨rfl, rfl⟩)
  go_ret
  exact ⟨rfl, rfl⟩

theorem rtail_any (p : ByteArray) (hp : p.size ≤ 4611686018427387903) (w : World) :
    Calls Tryz.prog 34 #[.string p] w fun e w' => e = .returned (.bool (Pth.tailB p)) ∧ w = w' := by
  by_cases h0 : p.size = 0
  · have h1 : ¬ (0 < p.size) := by omega
    rw [Pth.tailB_empty p h0]
    have H0 := hide h0
    clear h0
    go_enter Tryz.func34, Tryz.ntmps34
    go_wp2
    go_ret
    exact ⟨rfl, rfl⟩
  · rw [Pth.tailB_iff p (by omega)]
    have h1 : 0 < p.size := by omega
    go_enter Tryz.func34, Tryz.ntmps34
    go_wp2
    go_ret
    exact ⟨by rw [← byte_47]; rfl, rfl⟩

end Go.Proofs.YtfegfmapdekkbaaGreatDoor
namespace Go.Proofs.YtfegfmapdekkbaaGreatDoor
set_option linter.unusedVariables false
set_option linter.unusedSimpArgs false
open Go.RowKit

theorem hop_lt {F : List Vf.Nd} (h : Vf.Good F) {c : Vf.Cred} {last : Bool} {s : Vf.St} (hs : s.at_ < F.length) : (∀ x, Vf.hop F c last s = .inl x → x.2 < F.length) ∧ ∀ s', Vf.hop F c last s = .inr s' → s'.at_ < F.length := by
  have h0 := Vf.good_pos h
  unfold Vf.hop
  constructor
  · intro x hx
    split at hx
    · cases hx; exact hs
    · repeat' (first | (split at hx) | (cases hx; exact h0) | cases hx)
  · intro s' hx
    split at hx
    · cases hx
    · split at hx
      · cases hx
      split at hx
      · cases hx
      split at hx
      · cases hx
        obtain ⟨x, hx⟩ : ∃ x, F[s.at_]? = some x := ⟨_, List.getElem?_eq_getElem hs⟩
        show (Vf.nd F s.at_).up < F.length
        rw [Vf.nd_eq hx]
        exact (Vf.up_lt h hx).1
      split at hx
      · cases hx
      · next n hn =>
        split at hx
        · cases hx
          exact (Vf.child_dir h hn).2.2
        split at hx
        · cases hx
        · cases hx
          show (if Pth.rootB (Vf.nd F n).to = true then 0 else s.at_) < F.length
          split
          · exact h0
          · exact hs
theorem go_lt {F : List Vf.Nd} (h : Vf.Good F) {c : Vf.Cred} {last : Bool} : ∀ (k : Nat) (s : Vf.St), s.at_ < F.length → (Vf.go F c last k s).2 < F.length := by
  intro k
  induction k with
  | zero => intro s _; exact Vf.good_pos h
  | succ k ih =>
    intro s hs
    unfold Vf.go
    cases hh : Vf.hop F c last s with
    | inl x => exact (hop_lt h hs).1 x hh
    | inr s' => exact ih s' ((hop_lt h hs).2 s' hh)
theorem ends_lt {F : List Vf.Nd} (h : Vf.Good F) {c : Vf.Cred} {last : Bool} {s : Vf.St} (hs : s.at_ < F.length) : (Vf.ends F c last s).2 < F.length := go_lt h _ s hs
/-- What node answers, kind by kind. -/
theorem nodeV_in {w : World} {lo f c : Nat} {A : Option Addr} {F : List Vf.Nd} {L : List Pl} (h : FsM w lo f A c F L) {i : Nat} {x : Vf.Nd} {p : Pl} (hx : F[i]? = some x) (hp : L[i]? = some p) : nodeV F L (i : Nat) = .iface (kindT x.m.kind) (.pointer (some ⟨p.q, 0, none⟩)) := by
  have := h.ndA_eq hx hp
  unfold ndA at this
  unfold nodeV
  have hl := (List.getElem?_eq_some_iff.1 hx).1
  rw [if_neg (by simp; omega)]
  simp only [Int.toNat_natCast]
  exact this
theorem nodeV_out {F : List Vf.Nd} {L : List Pl} {ino : Int} (h : ino < 0 ∨ F.length ≤ ino.toNat) : nodeV F L ino = .nilIface := by unfold nodeV; rw [if_pos h]
theorem nodeV_no {w : World} {lo f c : Nat} {A : Option Addr} {F : List Vf.Nd} {L : List Pl} (hF : Vf.Good F) (h : FsM w lo f A c F L) {ino : Int} (hs : ino < 0 ∨ Vf.kindAt F ino.toNat ≠ 2) : nodeV F L ino = .nilIface ∨ (∃ v, nodeV F L ino = .iface 92 v) ∨ (∃ v, nodeV F L ino = .iface 95 v) := by
  by_cases ho : ino < 0 ∨ F.length ≤ ino.toNat
  · exact .inl (nodeV_out ho)
  · obtain ⟨i, rfl⟩ := Int.eq_ofNat_of_zero_le (show 0 ≤ ino by omega)
    have hi : i < F.length := by simp at ho; omega
    obtain ⟨x, hx⟩ : ∃ x, F[i]? = some x := ⟨_, List.getElem?_eq_getElem hi⟩
    obtain ⟨p, hp, _, _⟩ := h.at_ hx
    have e := nodeV_in h hx hp
    have hk : x.m.kind ≠ 2 := by
      rcases hs with h1 | h1
      · omega
      · rw [Int.toNat_natCast, Vf.kindAt_eq hx] at h1
        exact h1
    rcases kind3 hF hx with h1 | h1 | h1
    · exact .inr (.inl ⟨_, by rw [e, h1]; rfl⟩)
    · exact absurd h1 hk
    · exact .inr (.inr ⟨_, by rw [e, h1]; rfl⟩)

set_option maxRecDepth 100000 in
set_option maxHeartbeats 4000000 in
theorem walk_any (F : List Vf.Nd) (L : List Pl) (lo f c : Nat) (A Ag : Option Addr) (ng kg : Nat) (cr : Vf.Cred) (src : Int) (path : ByteArray) (last : Bool) (w : World) (hF : Vf.Good F) (h : FsM w lo f A c F L) (hn : F.length ≤ 65)
    (hg : Rd w w.heap.size 1 Ag ng (cr.groups.map u32v)) (hng : ng ≤ maxLen) (hps : path.size ≤ 4294967296) :
    Calls Tryz.prog 38 #[ptrV f, credV cr Ag ng kg, .int .i64 src, .string path, .bool last] w fun e w' => e = .returned (.tuple #[.int .i64 ((Vf.walk F cr src path last).1 : Nat), .int .i64 (Vf.walk F cr src path last).2]) ∧ Below w.heap.size w w' := by
  have hb0 : Below w.heap.size w (w.alloc (.cells #[.int .u32 (cr.uid : Nat), .int .u32 (cr.euid : Nat), .int .u32 (cr.suid : Nat), .int .u32 (cr.gid : Nat), .slice Ag ng kg] 26)) := (Below.refl _ _).alloc (Nat.le_refl _) _
  have KN := node_any F L f c _ A src _ (h.belowSz hb0).toR hn
  have hcb : Blk (w.alloc (.cells #[.int .u32 (cr.uid : Nat), .int .u32 (cr.euid : Nat), .int .u32 (cr.suid : Nat), .int .u32 (cr.gid : Nat), .slice Ag ng kg] 26)) w.heap.size 26 [.int .u32 (cr.uid : Nat), .int .u32 (cr.euid : Nat), .int .u32 (cr.suid : Nat), .int .u32 (cr.gid : Nat), .slice Ag ng kg] := Blk.new w 26 _
  obtain ⟨⟨rn, re⟩, hr⟩ : ∃ r, Vf.walk F cr src path last = r := ⟨_, rfl⟩
  rw [hr]
  dsimp only
  unfold ptrV at KN
  have HKN := hide KN
  have HF := hide hF
  have H := hide h
  have Hr := hide hr
  have Hb0 := hide hb0
  have Hcb := hide hcb
  have Hg := hide hg
  unfold credV ptrV
  clear KN hF h hr hb0 hcb hg
  go_enter Tryz.func38, Tryz.ntmps38
  go_wp2_with fail
  refine (unhide HKN).mono ?_
  rintro e w1 ⟨rfl, rfl⟩
  by_cases hs : src < 0 ∨ Vf.kindAt F src.toNat ≠ 2
  · obtain ⟨rfl, rfl⟩ : rn = 0 ∧ re = 1 := by
      have := unhide Hr
      unfold Vf.walk at this
      rw [if_pos hs] at this
      injection this with a b
      exact ⟨a.symm, b.symm⟩
    have ha1 := nil_no_dir
    have ha2 := file_no_dir
    have ha3 := link_no_dir
    rcases nodeV_no (unhide HF) (unhide H) hs with e | ⟨v, e⟩ | ⟨v, e⟩
    all_goals
      rw [e]
      clear e hs
      go_wp2_with fail
      go_ret2
      exact ⟨rfl, unhide Hb0⟩
  · obtain ⟨i, rfl⟩ := Int.eq_ofNat_of_zero_le (show 0 ≤ src by omega)
    have hk : Vf.kindAt F i = 2 := by
      simp only [not_or, Decidable.not_not, Int.toNat_natCast] at hs
      exact hs.2
    obtain ⟨x, hx, hxk⟩ := Vf.kindAt_lt hk
    obtain ⟨p, hp, _, _⟩ := (unhide H).at_ hx
    have e := nodeV_in (unhide H) hx hp
    rw [hxk] at e
    have et : kindT 2 = 52 := rfl
    rw [et] at e
    rw [e]
    have ha := is_dir (.pointer (some ⟨p.q, 0, none⟩))
    have KP := hide (parts_any path (by unfold maxLen; omega) (w.alloc (.cells #[.int .u32 (cr.uid : Nat), .int .u32 (cr.euid : Nat), .int .u32 (cr.suid : Nat), .int .u32 (cr.gid : Nat), .slice Ag ng kg] 26)))
    obtain ⟨ck, hck⟩ : ∃ b, Pth.chk path = b := ⟨_, rfl⟩
    obtain ⟨tb, htb⟩ : ∃ b, Pth.rootB path = b := ⟨_, rfl⟩
    obtain ⟨pl, hpl⟩ : ∃ l, Pth.partsL path = l := ⟨_, rfl⟩
    obtain ⟨tl, htl⟩ : ∃ b, Pth.tailB path = b := ⟨_, rfl⟩
    have hpl2 := Vf.parts_len path
    have hwk := unhide Hr
    unfold Vf.walk at hwk
    rw [if_neg hs] at hwk
    simp only [Int.toNat_natCast] at hwk
    rw [hck, htb, hpl, htl] at hwk
    rw [hck, htb, hpl] at KP
    rw [hpl] at hpl2
    have Hwk := hide hwk
    have Hx := hide hx
    have Hp := hide hp
    have Hxk := hide hxk
    have Hpl2 := hide hpl2
    have KT := hide (fun w' => tail_any path (by omega) w')
    rw [htl] at KT
    clear e et hs hk hx hp hxk hck htb hpl htl hwk hpl2 HKN
    go_wp2_with fail
    refine (unhide KP).mono ?_
    rintro e w2 ⟨A2, c2, rfl, ho2, hb2⟩
    have HW2 := hide (((unhide H).belowSz (unhide Hb0)).belowSz hb2)
    have hcb2 := (unhide Hcb).belowSz hb2
    obtain ⟨a0, a1, a2, a3, a4⟩ : w2.cell? ⟨w.heap.size, 0, none⟩ = some (.int .u32 (cr.uid : Nat)) ∧ w2.cell? ⟨w.heap.size, 1, none⟩ = some (.int .u32 (cr.euid : Nat)) ∧ w2.cell? ⟨w.heap.size, 2, none⟩ = some (.int .u32 (cr.suid : Nat)) ∧ w2.cell? ⟨w.heap.size, 3, none⟩ = some (.int .u32 (cr.gid : Nat)) ∧ w2.cell? ⟨w.heap.size, 4, none⟩ = some (.slice Ag ng kg) := ⟨hcb2.cell rfl, hcb2.cell rfl, hcb2.cell rfl, hcb2.cell rfl, hcb2.cell rfl⟩
    have Hb2 := hide ((unhide Hb0).trans (hb2.mono (by simp)))
    have Hg2 := hide (((unhide Hg).below (unhide Hb2)).more (unhide Hb2).size)
    have Ho2 := hide ho2
    have Hr2 := hide (Rd.of_own ho2)
    have Hc2 := hide (own_cap ho2)
    clear ho2 hb2 hcb2
    by_cases hck : ck = 0
    · subst hck
      have hwk := unhide Hwk
      rw [if_neg (by simp)] at hwk
      have i1 : ((0 : Int) != 0) = false := rfl
      obtain ⟨i1, hi1⟩ : ∃ i1, (if tb = true then 0 else i) = i1 := ⟨_, rfl⟩
      rw [hi1] at hwk
      have hx1 : ∃ x1 p1, F[i1]? = some x1 ∧ L[i1]? = some p1 ∧ x1.m.kind = 2 ∧ (tb = false → p1 = p) := by
        cases tb with
        | false =>
          simp only [Bool.false_eq_true, if_false] at hi1
          subst hi1
          exact ⟨x, p, unhide Hx, unhide Hp, unhide Hxk, fun _ => rfl⟩
        | true =>
          simp only [if_true] at hi1
          subst hi1
          obtain ⟨pr, hpr, _, _⟩ := (unhide H).at_ (unhide HF).r
          exact ⟨_, pr, (unhide HF).r, hpr, rfl, fun h => by cases h⟩
      obtain ⟨x1, p1, hx1, hp1, hk1, hpp⟩ := hx1
      have Hx1 := hide hx1
      have Hp1 := hide hp1
      have Hk1 := hide hk1
      have KR : Hid (tb = true → Calls Tryz.prog 60 #[.pointer (some ⟨f, 0, none⟩)] w2 fun e w3 => e = .returned (.pointer (some ⟨p1.q, 0, none⟩)) ∧ w2 = w3) := by
        refine hide (fun ht => ?_)
        rw [if_pos ht] at hi1
        subst hi1
        exact root_any F L f c w2.heap.size A w2 (unhide HW2).toR hn x1 p1 hx1 hp1 hk1
      have KA := hide (along_any F L lo f c A Ag A2 ng kg c2 cr i1 x1 p1 pl (last || tl) w2 (unhide HF) (unhide HW2) hn hx1 hp1 hk1 (unhide Hr2) (unhide Hpl2) (unhide Hc2) (unhide Hg2) hng)
      unfold credV ptrV at KA
      obtain ⟨⟨ee, en⟩, hen⟩ : ∃ r, Vf.ends F cr (last || tl) ⟨i1, 0, pl⟩ = r := ⟨_, rfl⟩
      have henl := ends_lt (unhide HF) (c := cr) (last := last || tl) (s := ⟨i1, 0, pl⟩) (List.getElem?_eq_some_iff.1 hx1).1
      rw [hen] at KA hwk henl
      dsimp only at KA hwk henl
      have Henl := hide henl
      have Hwk2 := hide hwk
      clear hwk hen henl hi1 hx1 hp1 hk1 Hwk
      cases tb with
      | false =>
        obtain rfl := hpp rfl
        clear hpp
        go_wp2_with fail
        refine ((unhide KT) _).mono ?_
        rintro e w3 ⟨rfl, rfl⟩
        cases last
        all_goals
          simp only [Bool.true_or, Bool.false_or] at KA
          go_wp2_with fail
          refine (unhide KA).mono ?_
          rintro e w4 ⟨rfl, hb4⟩
          have Hb4 := hide ((unhide Hb2).trans (hb4.mono (unhide Hb2).size))
          have HW4 := hide ((unhide HW2).belowSz hb4)
          clear a0 a1 a2 a3 a4 hb4
          by_cases he : ee = 0
          · subst he
            have hwk := unhide Hwk2
            rw [if_neg (by simp)] at hwk
            have q1 : ((0 : Int) != 0) = false := rfl
            have ea : alV F L (0, en) = ndA F L en := by unfold alV; rw [if_pos rfl]
            obtain ⟨xe, hxe⟩ : ∃ x, F[en]? = some x := ⟨_, List.getElem?_eq_getElem (unhide Henl)⟩
            obtain ⟨pe, hpe, _, _⟩ := (unhide H).at_ hxe
            rw [ea, (unhide H).ndA_eq hxe hpe]
            rw [Vf.kindAt_eq hxe] at hwk
            obtain ⟨_, ue, _, hbe⟩ := (unhide HW4).nd en xe pe hxe hpe
            have y5 : w4.cell? ⟨pe.q, 5, none⟩ = some (.int .i64 (en : Nat)) := hbe.cell rfl
            have ha1 := is_dir (.pointer (some ⟨pe.q, 0, none⟩))
            have ha2 := file_no_dir (.pointer (some ⟨pe.q, 0, none⟩))
            have ha3 := link_no_dir (.pointer (some ⟨pe.q, 0, none⟩))
            have hm1 := fun w' => about_dir w' pe.q
            have hm2 := fun w' => about_file w' pe.q
            have hm3 := fun w' => about_link w' pe.q
            rcases kind3 (unhide HF) hxe with hk | hk | hk
            · have et : kindT xe.m.kind = 92 := by rw [hk]; rfl
              rw [et]
              rw [hk] at hwk
              cases tl with
              | false =>
                obtain ⟨rfl, rfl⟩ : rn = en ∧ re = 0 := by
                  rw [if_neg (by simp)] at hwk
                  injection hwk with a b
                  exact ⟨a.symm, b.symm⟩
                clear et hk hwk ea hxe hpe hbe
                go_wp2_with fail
                refine (about_any _ _).mono ?_
                rintro e w5 ⟨rfl, rfl⟩
                go_wp2_with fail
                go_ret2
                exact ⟨rfl, unhide Hb4⟩
              | true =>
                obtain ⟨rfl, rfl⟩ : rn = 0 ∧ re = 8 := by
                  rw [if_pos (by simp)] at hwk
                  injection hwk with a b
                  exact ⟨a.symm, b.symm⟩
                clear et hk hwk ea hxe hpe hbe
                go_wp2_with fail
                go_ret2
                exact ⟨rfl, unhide Hb4⟩
            · have et : kindT xe.m.kind = 52 := by rw [hk]; rfl
              rw [et]
              obtain ⟨rfl, rfl⟩ : rn = en ∧ re = 0 := by
                rw [if_neg (by simp [hk])] at hwk
                injection hwk with a b
                exact ⟨a.symm, b.symm⟩
              clear et hk hwk ea hxe hpe hbe
              cases tl
              all_goals
                go_wp2_with fail
                refine (about_any _ _).mono ?_
                rintro e w5 ⟨rfl, rfl⟩
                go_wp2_with fail
                go_ret2
                exact ⟨rfl, unhide Hb4⟩
            · have et : kindT xe.m.kind = 95 := by rw [hk]; rfl
              rw [et]
              rw [hk] at hwk
              cases tl with
              | false =>
                obtain ⟨rfl, rfl⟩ : rn = en ∧ re = 0 := by
                  rw [if_neg (by simp)] at hwk
                  injection hwk with a b
                  exact ⟨a.symm, b.symm⟩
                clear et hk hwk ea hxe hpe hbe
                go_wp2_with fail
                refine (about_any _ _).mono ?_
                rintro e w5 ⟨rfl, rfl⟩
                go_wp2_with fail
                go_ret2
                exact ⟨rfl, unhide Hb4⟩
              | true =>
                obtain ⟨rfl, rfl⟩ : rn = 0 ∧ re = 8 := by
                  rw [if_pos (by simp)] at hwk
                  injection hwk with a b
                  exact ⟨a.symm, b.symm⟩
                clear et hk hwk ea hxe hpe hbe
                go_wp2_with fail
                go_ret2
                exact ⟨rfl, unhide Hb4⟩
          · obtain ⟨rfl, rfl⟩ : rn = 0 ∧ re = ee := by
              have := unhide Hwk2
              rw [if_pos he] at this
              injection this with a b
              exact ⟨a.symm, b.symm⟩
            have q1 : (re != 0) = true := by simp [he]
            clear he
            go_wp2_with fail
            go_ret2
            exact ⟨rfl, unhide Hb4⟩
      | true =>
        clear hpp
        go_wp2_with fail
        refine ((unhide KR) (by first | rfl | trivial)).mono ?_
        rintro e w3 ⟨rfl, rfl⟩
        go_wp2_with fail
        refine ((unhide KT) _).mono ?_
        rintro e w3 ⟨rfl, rfl⟩
        cases last
        all_goals
          simp only [Bool.true_or, Bool.false_or] at KA
          go_wp2_with fail
          refine (unhide KA).mono ?_
          rintro e w4 ⟨rfl, hb4⟩
          have Hb4 := hide ((unhide Hb2).trans (hb4.mono (unhide Hb2).size))
          have HW4 := hide ((unhide HW2).belowSz hb4)
          clear a0 a1 a2 a3 a4 hb4
          by_cases he : ee = 0
          · subst he
            have hwk := unhide Hwk2
            rw [if_neg (by simp)] at hwk
            have q1 : ((0 : Int) != 0) = false := rfl
            have ea : alV F L (0, en) = ndA F L en := by unfold alV; rw [if_pos rfl]
            obtain ⟨xe, hxe⟩ : ∃ x, F[en]? = some x := ⟨_, List.getElem?_eq_getElem (unhide Henl)⟩
            obtain ⟨pe, hpe, _, _⟩ := (unhide H).at_ hxe
            rw [ea, (unhide H).ndA_eq hxe hpe]
            rw [Vf.kindAt_eq hxe] at hwk
            obtain ⟨_, ue, _, hbe⟩ := (unhide HW4).nd en xe pe hxe hpe
            have y5 : w4.cell? ⟨pe.q, 5, none⟩ = some (.int .i64 (en : Nat)) := hbe.cell rfl
            have ha1 := is_dir (.pointer (some ⟨pe.q, 0, none⟩))
            have ha2 := file_no_dir (.pointer (some ⟨pe.q, 0, none⟩))
            have ha3 := link_no_dir (.pointer (some ⟨pe.q, 0, none⟩))
            have hm1 := fun w' => about_dir w' pe.q
            have hm2 := fun w' => about_file w' pe.q
            have hm3 := fun w' => about_link w' pe.q
            rcases kind3 (unhide HF) hxe with hk | hk | hk
            · have et : kindT xe.m.kind = 92 := by rw [hk]; rfl
              rw [et]
              rw [hk] at hwk
              cases tl with
              | false =>
                obtain ⟨rfl, rfl⟩ : rn = en ∧ re = 0 := by
                  rw [if_neg (by simp)] at hwk
                  injection hwk with a b
                  exact ⟨a.symm, b.symm⟩
                clear et hk hwk ea hxe hpe hbe
                go_wp2_with fail
                refine (about_any _ _).mono ?_
                rintro e w5 ⟨rfl, rfl⟩
                go_wp2_with fail
                go_ret2
                exact ⟨rfl, unhide Hb4⟩
              | true =>
                obtain ⟨rfl, rfl⟩ : rn = 0 ∧ re = 8 := by
                  rw [if_pos (by simp)] at hwk
                  injection hwk with a b
                  exact ⟨a.symm, b.symm⟩
                clear et hk hwk ea hxe hpe hbe
                go_wp2_with fail
                go_ret2
                exact ⟨rfl, unhide Hb4⟩
            · have et : kindT xe.m.kind = 52 := by rw [hk]; rfl
              rw [et]
              obtain ⟨rfl, rfl⟩ : rn = en ∧ re = 0 := by
                rw [if_neg (by simp [hk])] at hwk
                injection hwk with a b
                exact ⟨a.symm, b.symm⟩
              clear et hk hwk ea hxe hpe hbe
              cases tl
              all_goals
                go_wp2_with fail
                refine (about_any _ _).mono ?_
                rintro e w5 ⟨rfl, rfl⟩
                go_wp2_with fail
                go_ret2
                exact ⟨rfl, unhide Hb4⟩
            · have et : kindT xe.m.kind = 95 := by rw [hk]; rfl
              rw [et]
              rw [hk] at hwk
              cases tl with
              | false =>
                obtain ⟨rfl, rfl⟩ : rn = en ∧ re = 0 := by
                  rw [if_neg (by simp)] at hwk
                  injection hwk with a b
                  exact ⟨a.symm, b.symm⟩
                clear et hk hwk ea hxe hpe hbe
                go_wp2_with fail
                refine (about_any _ _).mono ?_
                rintro e w5 ⟨rfl, rfl⟩
                go_wp2_with fail
                go_ret2
                exact ⟨rfl, unhide Hb4⟩
              | true =>
                obtain ⟨rfl, rfl⟩ : rn = 0 ∧ re = 8 := by
                  rw [if_pos (by simp)] at hwk
                  injection hwk with a b
                  exact ⟨a.symm, b.symm⟩
                clear et hk hwk ea hxe hpe hbe
                go_wp2_with fail
                go_ret2
                exact ⟨rfl, unhide Hb4⟩
          · obtain ⟨rfl, rfl⟩ : rn = 0 ∧ re = ee := by
              have := unhide Hwk2
              rw [if_pos he] at this
              injection this with a b
              exact ⟨a.symm, b.symm⟩
            have q1 : (re != 0) = true := by simp [he]
            clear he
            go_wp2_with fail
            go_ret2
            exact ⟨rfl, unhide Hb4⟩
    · obtain ⟨rfl, rfl⟩ : rn = 0 ∧ re = ck := by
        have := unhide Hwk
        rw [if_pos hck] at this
        injection this with a b
        exact ⟨a.symm, b.symm⟩
      have i1 : (re != 0) = true := by simp [hck]
      clear hck
      go_wp2_with fail
      go_ret2
      exact ⟨rfl, unhide Hb2⟩
end Go.Proofs.YtfegfmapdekkbaaGreatDoor
namespace Go.Proofs.YtfegfmapdekkbaaGreatDoor
set_option linter.unusedVariables false
set_option linter.unusedSimpArgs false
open Go.RowKit

def CloneBE (n : Nat) (xs : List UInt8) (w : World) (e : Ending) (w' : World) : Prop :=
  ∃ A' c', e = .returned (.slice A' n c') ∧ w'.ownsRow w.heap.size 5 1 (.slice A' n c') n (bys xs) ∧ Below w.heap.size w w'
set_option maxRecDepth 100000 in
set_option maxHeartbeats 1000000 in
theorem cloneB_any (A : Option Addr) (n c B : Nat) (xs : List UInt8) (w : World) (h : Rd w B 1 A n (bys xs)) (hB : B ≤ w.heap.size) (hn : n ≤ 4294967296) :
    Calls Tryz.prog 33 #[.slice A n c] w (CloneBE n xs w) := by
  have hl : xs.length = n := by simpa [bys] using h.len1
  have q : ∀ (w : World) (a : Option Addr) (n c n' c' : Nat), (binOp .eql 49 (.slice a n c) (.slice none n' c')).run Tryz.prog w = .ok (.bool a.isNone) w := fun w a n c n' c' => Lib.run_eql_slice_nil w _ _ a n c n' c' Tryz.underlying49
  have H := hide h
  clear h
  cases A with
  | none =>
    have h0 : bys xs = [] := by
      rcases (unhide H).2 with h0 | ⟨b, off, h1, _⟩
      · exact h0
      · cases h1
    have hx : xs = [] := by simpa [bys] using h0
    subst hx
    simp only [List.length_nil] at hl
    subst hl
    have q1 : (none : Option Addr).isNone = true := rfl
    clear h0 H
    go_enter Tryz.func33, Tryz.ntmps33
    go_wp2_with fail
    go_ret
    exact ⟨none, 0, rfl, World.ownsRow_nil _ _ _ _, Below.refl _ _⟩
  | some a =>
    have q1 : (some a : Option Addr).isNone = false := rfl
    have hm := World.ownsRow_made (e := 5) (size := 1) w #[] 0 (Nat.le_refl _) (Nat.zero_le _) rfl
    have Hm := hide hm
    have hb1 : Below w.heap.size w (w.alloc (.cells #[] 5)) := (Below.refl _ _).alloc (Nat.le_refl _) _
    have Hb1 := hide hb1
    have Hr := hide ((unhide H).below (hb1.mono hB))
    clear hm hb1 hl
    go_enter Tryz.func33, Tryz.ntmps33
    go_wp2_with (at_builtin; refine wpList_app byteTy rfl _ _ rfl w.heap.size (.slice (some ⟨w.heap.size, 0, none⟩) 0 0) 0 [] rfl (unhide Hm) B (some a) n c _ rfl (unhide Hr) (bys_one _) (by omega) (unhide Hb1).size ?_; intro A4 c4 w4 ho4 hg4 hat4; have hb4 := (unhide Hb1).grown hg4 (unhide Hb1).size (fun k hk => by simp [Value.ownBlock] at hk; omega); simp only [Nat.zero_add, List.nil_append] at ho4 ⊢; have Ho4 := hide ho4; have Hb4 := hide hb4; clear ho4 hg4 hat4 hb4)
    go_ret
    exact ⟨A4, c4, rfl, unhide Ho4, unhide Hb4⟩
end Go.Proofs.YtfegfmapdekkbaaGreatDoor
namespace Go.Proofs.YtfegfmapdekkbaaGreatDoor
set_option linter.unusedVariables false
set_option linter.unusedSimpArgs false
open Go.RowKit

theorem as_file (v : Value) (w : World) : (Instr.typeAssert (.iface 92 v) 89 92 true).run Tryz.prog w = .ok (.tuple #[v, .bool true]) w := by
  simp [Instr.typeAssert, run_underlying Tryz.underlying92, go_sem, Result.andThen]
theorem zero_file (w : World) : (zeroValue 92).run Tryz.prog w = .ok (.pointer none) w := by kernel_rfl
theorem link_no_file (v : Value) (w : World) : (Instr.typeAssert (.iface 95 v) 89 92 true).run Tryz.prog w = .ok (.tuple #[.pointer none, .bool false]) w := by
  simp [Instr.typeAssert, run_underlying Tryz.underlying92, zero_file, go_sem, Result.andThen]

/-- What Read answers: the bytes, in rows of the call's own. -/
def ReadVE (F : List Vf.Nd) (ino off n : Int) (w : World) (e : Ending) (w' : World) : Prop :=
  ∃ A' c', e = .returned (.tuple #[.slice A' (Vf.readOf F ino off n).1.length c', .int .i64 (Vf.readOf F ino off n).2]) ∧ w'.ownsRow w.heap.size 5 1 (.slice A' (Vf.readOf F ino off n).1.length c') (Vf.readOf F ino off n).1.length (bys (Vf.readOf F ino off n).1) ∧ Below w.heap.size w w'
theorem readVE_nil {F : List Vf.Nd} {ino off n : Int} {w w' : World} {er : Int} (h : Vf.readOf F ino off n = ([], er)) (hb : Below w.heap.size w w') : ReadVE F ino off n w (.returned (.tuple #[.slice none 0 0, .int .i64 er])) w' := by
  unfold ReadVE
  rw [h]
  exact ⟨none, 0, rfl, World.ownsRow_nil _ _ _ _, hb⟩

set_option maxRecDepth 100000 in
set_option maxHeartbeats 4000000 in
theorem read_any (F : List Vf.Nd) (L : List Pl) (lo f c : Nat) (A : Option Addr) (ino off n : Int) (w : World) (hF : Vf.Good F) (h : FsM w lo f A c F L) (hn : F.length ≤ 65) :
    Calls Tryz.prog 41 #[ptrV f, .int .i64 ino, .int .i64 off, .int .i64 n] w (ReadVE F ino off n w) := by
  have KM := meta_any F L f c w.heap.size A ino w h.toR (Nat.le_refl _) hn hF.kind
  have KN : ∀ w', Below w.heap.size w w' → Calls Tryz.prog 59 #[.pointer (some ⟨f, 0, none⟩), .int .i64 ino] w' fun e w2 => e = .returned (nodeV F L ino) ∧ w' = w2 :=
    fun w' hb => node_any F L f c _ A ino w' (h.belowSz hb).toR hn
  unfold ptrV metaV at KM
  obtain ⟨⟨⟨mk, mm, mu, mg, ms⟩, me⟩, hm⟩ : ∃ r, Vf.metaOf F ino = r := ⟨_, rfl⟩
  rw [hm] at KM
  dsimp only at KM
  have HKM := hide KM
  have HKN := hide KN
  have HF := hide hF
  have H := hide h
  have Hm := hide hm
  unfold ptrV
  clear KM KN hF h hm
  go_enter Tryz.func41, Tryz.ntmps41
  go_wp2_with fail
  refine (unhide HKM).mono ?_
  rintro e w1 ⟨rfl, hb1⟩
  have hb2 := (unhide (hide hb1)).alloc hb1.size (.cells #[.int .u8 (mk : Nat), .int .u16 (mm : Nat), .int .u32 (mu : Nat), .int .u32 (mg : Nat), .int .i64 (ms : Nat)] 54)
  have Hb2 := hide hb2
  clear hb1 hb2
  by_cases hme : me = 0
  · subst hme
    have hre : Vf.readOf F ino off n = if mk = 2 then ([], 9) else if mk = 3 ∨ off < 0 ∨ n < 0 then ([], 1) else (((Vf.nd F ino.toNat).data.drop off.toNat).take n.toNat, 0) := by
      unfold Vf.readOf
      rw [unhide Hm]
      simp
    have q0 : ((0 : Int) != 0) = false := rfl
    obtain ⟨i, hio, x, hx, hmx⟩ : ∃ i : Nat, ino = (i : Int) ∧ ∃ x, F[i]? = some x ∧ (⟨mk, mm, mu, mg, ms⟩ : Vf.Meta) = x.m := by
      have h := unhide Hm
      unfold Vf.metaOf at h
      split at h
      · injection h with _ h2; cases h2
      · next ho =>
        obtain ⟨i, rfl⟩ := Int.eq_ofNat_of_zero_le (show 0 ≤ ino by omega)
        have hi : i < F.length := by simp at ho; omega
        refine ⟨i, rfl, F[i], List.getElem?_eq_getElem hi, ?_⟩
        injection h with h1 _
        rw [Int.toNat_natCast, Vf.nd_eq (List.getElem?_eq_getElem hi)] at h1
        exact h1.symm
    have hmk : x.m.kind = mk := by rw [← hmx]
    obtain ⟨p, hp, _, _⟩ := (unhide H).at_ hx
    have en := nodeV_in (unhide H) hx hp
    rw [← hio] at en
    have hk3 := kind3 (unhide HF) hx
    rw [hmk] at hk3 en
    by_cases h2 : mk = 2
    · have b1 : (((mk : Nat) : Int) == 2) = true := by rw [h2]; rfl
      rw [if_pos h2] at hre
      have Hre := hide hre
      clear hre hmx hx hp en hk3 hmk h2 hio
      go_wp2_with fail
      go_ret2
      exact readVE_nil (unhide Hre) (unhide Hb2)
    · have b1 : (((mk : Nat) : Int) == 2) = false := by rw [beq_eq_false_iff_ne]; omega
      rw [if_neg h2] at hre
      have hHW := ((unhide H).belowSz (unhide Hb2))
      by_cases h3 : mk = 3
      · have et : kindT mk = 95 := by rw [h3]; rfl
        rw [et] at en
        rw [if_pos (.inl h3)] at hre
        have ha := link_no_file (.pointer (some ⟨p.q, 0, none⟩))
        have KN2 := (unhide HKN) _ (unhide Hb2)
        rw [en] at KN2
        have HKN2 := hide KN2
        have Hre := hide hre
        clear hre hmx hx hp en hk3 hmk h2 h3 hio et hHW KN2
        go_wp2_with fail
        refine (unhide HKN2).mono ?_
        rintro e w3 ⟨rfl, rfl⟩
        go_wp2_with fail
        go_ret2
        exact readVE_nil (unhide Hre) (unhide Hb2)
      · have h1 : mk = 1 := by omega
        have et : kindT mk = 92 := by rw [h1]; rfl
        rw [et] at en
        have ha := as_file (.pointer (some ⟨p.q, 0, none⟩))
        have KN2 := (unhide HKN) _ (unhide Hb2)
        rw [en] at KN2
        have HKN2 := hide KN2
        by_cases ho : off < 0 ∨ n < 0
        · rw [if_pos (.inr ho)] at hre
          have Hre := hide hre
          have hon : off < 0 ∨ (¬ off < 0 ∧ n < 0) := by omega
          clear hre hmx hx hp en hk3 hmk h2 h3 hio et hHW KN2 h1 ho
          rcases hon with o1 | ⟨o1, o2⟩
          all_goals
            go_wp2_with fail
            refine (unhide HKN2).mono ?_
            rintro e w3 ⟨rfl, rfl⟩
            go_wp2_with fail
            go_ret2
            exact readVE_nil (unhide Hre) (unhide Hb2)
        · rw [if_neg (by omega)] at hre
          obtain ⟨_, u, _, hbk⟩ := hHW.nd i x p hx hp
          obtain ⟨hpn, hpc, hby⟩ := hHW.byt i x p hx hp (by rw [hmk]; exact h1)
          have c8 := hbk.cell (i := 8) rfl
          have e8 : lastV x p = .slice p.A p.n p.c := by unfold lastV; rw [if_neg (by rw [hmk]; exact h2), if_pos (by rw [hmk]; exact h1)]
          rw [e8] at c8
          have hndx : Vf.nd F ino.toNat = x := by rw [hio, Int.toNat_natCast, Vf.nd_eq hx]
          rw [hndx] at hre
          clear hndx
          have hsz := ((unhide HF).size i x hx).2.2
          obtain ⟨o, rfl⟩ := Int.eq_ofNat_of_zero_le (show 0 ≤ off by omega)
          obtain ⟨m, rfl⟩ := Int.eq_ofNat_of_zero_le (show 0 ≤ n by omega)
          simp only [Int.toNat_natCast] at hre
          obtain ⟨k, hk⟩ : ∃ k, min o p.n = k := ⟨_, rfl⟩
          obtain ⟨j, hj⟩ : ∃ j, min m (p.n - k) = j := ⟨_, rfl⟩
          have hrd := hby.rd
          have hrd2 := ((hrd.from_ (k := k) (by omega) hpc).to_ (k := j) (by omega))
          have hbb : ((List.map (fun b => Value.int .u8 (b.toNat : Nat)) x.data).drop k).take j = bys ((x.data.drop o).take m) := by
            show ((bys x.data).drop k).take j = _
            unfold bys
            rw [← List.map_drop, ← List.map_take]
            congr 1
            apply List.ext_getElem?
            intro t
            simp only [List.getElem?_take, List.getElem?_drop]
            by_cases h9 : t < j
            · rw [if_pos h9, if_pos (by omega), show k = o by omega]
            · rw [if_neg h9]
              split
              · rw [List.getElem?_eq_none (by omega)]
              · rfl
          rw [hbb] at hrd2
          have hdl : ((x.data.drop o).take m).length = j := by
            rw [List.length_take, List.length_drop]
            omega
          have r1 := fun w' => run_from (P := Tryz.prog) Tryz.underlying49 (e := 5) (by kernel_rfl) p.A p.n p.c k (by omega) w'
          have r2 := fun w' => run_to (P := Tryz.prog) Tryz.underlying49 (e := 5) (by kernel_rfl) (fromA p.A p.c k) (p.n - k) (p.c - k) j (by omega) w'
          have m1 : min (o : Int) (p.n : Int) = (k : Int) := by omega
          have m2 : min (m : Int) ((p.n - k : Nat) : Int) = (j : Int) := by omega
          have KC := fun w' (hb : Below _ (w1.alloc (.cells #[.int .u8 (mk : Nat), .int .u16 (mm : Nat), .int .u32 (mu : Nat), .int .u32 (mg : Nat), .int .i64 (ms : Nat)] 54)) w') => cloneB_any (fromA p.A p.c k) j (p.c - k) _ ((x.data.drop o).take m) w' (hrd2.below hb) hb.size (by omega)
          have HKC := hide KC
          have Hdl := hide hdl
          have Hre := hide hre
          have hon1 : ¬ (o : Int) < 0 := by omega
          have hon2 : ¬ (m : Int) < 0 := by omega
          obtain ⟨A3, hA3⟩ : ∃ A3, fromA p.A p.c k = A3 := ⟨_, rfl⟩
          rw [hA3] at r1 r2 HKC
          clear hre hmx hx hp en hk3 hmk h2 h3 hio et hHW KN2 h1 ho hbk hpn hpc hby e8 hsz hk hj hrd hrd2 hbb hdl KC hA3
          go_wp2_with fail
          refine (unhide HKN2).mono ?_
          rintro e w3 ⟨rfl, rfl⟩
          go_wp2_with fail
          go_quiet (fail)
          go_wp2_with fail
          refine ((unhide HKC) _ (below_drewN' (Below.refl _ _) _)).mono ?_
          rintro e w4 ⟨A5, c5, rfl, ho5, hb5⟩
          have hb6 := (below_drewN' (unhide Hb2) nq).trans (hb5.mono (unhide Hb2).size)
          have ho6 := own_base ho5 (unhide Hb2).size
          have Hb6 := hide hb6
          have Ho6 := hide ho6
          clear hb5 ho5 hb6 ho6
          go_wp2_with fail
          go_ret2
          unfold ReadVE
          rw [unhide Hre]
          dsimp only
          rw [unhide Hdl]
          exact ⟨A5, c5, rfl, unhide Ho6, unhide Hb6⟩
  · have hre : Vf.readOf F ino off n = ([], me) := by
      unfold Vf.readOf
      rw [unhide Hm]
      simp [hme]
    have q0 : (me != 0) = true := by simp [hme]
    have Hre := hide hre
    clear hre hme
    go_wp2_with fail
    go_ret2
    exact readVE_nil (unhide Hre) (unhide Hb2)
end Go.Proofs.YtfegfmapdekkbaaGreatDoor
namespace Go.Proofs.YtfegfmapdekkbaaGreatDoor
set_option linter.unusedVariables false
set_option linter.unusedSimpArgs false
open Go.RowKit

/-- What program answers: the node, the first bytes of the file, the error. -/
def ProgE (r : Nat × Int) (d : List UInt8) (w : World) (e : Ending) (w' : World) : Prop :=
  ∃ A' c', e = .returned (.tuple #[.int .i64 (r.1 : Nat), .slice A' d.length c', .int .i64 r.2]) ∧ w'.ownsRow w.heap.size 5 1 (.slice A' d.length c') d.length (bys d) ∧ Below w.heap.size w w'
theorem progE_nil {er : Int} {w w' : World} (hb : Below w.heap.size w w') : ProgE (0, er) [] w (.returned (.tuple #[.int .i64 0, .slice none 0 0, .int .i64 er])) w' :=
  ⟨none, 0, rfl, World.ownsRow_nil _ _ _ _, hb⟩
theorem meta_mode {F : List Vf.Nd} (h : Vf.Good F) (ino : Int) : (Vf.metaOf F ino).1.mode < 65536 := by
  unfold Vf.metaOf
  split
  · decide
  · show (Vf.nd F ino.toNat).m.mode < 65536
    unfold Vf.nd
    cases hx : F[ino.toNat]? with
    | none => decide
    | some x => exact h.mode _ x hx
def progD (F : List Vf.Nd) (c : Vf.Cred) (path : ByteArray) (k : Nat) : List UInt8 := if (Sb.prog F c path).2 = 0 then (Vf.nd F (Sb.prog F c path).1).data.take k else []
theorem meta_file {F : List Vf.Nd} {i : Nat} (h : (Vf.metaOf F (i : Nat)).1.kind = 1) : (Vf.metaOf F (i : Nat)).2 = 0 := by
  unfold Vf.metaOf at *
  split at h
  · rename_i h0; cases h
  · rename_i h0; rw [if_neg h0]
theorem read_file {F : List Vf.Nd} {i : Nat} (h : (Vf.metaOf F (i : Nat)).1.kind = 1) (n : Nat) : Vf.readOf F (i : Nat) 0 (n : Nat) = ((Vf.nd F i).data.take n, 0) := by
  unfold Vf.readOf
  rw [meta_file h, h]
  simp

set_option maxRecDepth 100000 in
set_option maxHeartbeats 4000000 in
theorem program_any (F : List Vf.Nd) (L : List Pl) (lo f cf : Nat) (Af A : Option Addr) (n k : Nat) (cr : Vf.Cred) (x : ByteArray) (w : World) (hF : Vf.Good F) (hFS : FsM w lo f Af cf F L) (hn : F.length ≤ 65)
    (hg : Rd w w.heap.size 1 A n (cr.groups.map u32v)) (hng : n ≤ maxLen) (hx : x.size ≤ 4294967296) :
    Calls Tryz.prog 20 #[.pointer (some ⟨f, 0, none⟩), credV cr A n k, .string x] w (ProgE (Sb.prog F cr x) (progD F cr x 130) w) := by
  have hb0 : Below w.heap.size w (w.alloc (.cells #[.int .u32 (cr.uid : Nat), .int .u32 (cr.euid : Nat), .int .u32 (cr.suid : Nat), .int .u32 (cr.gid : Nat), .slice A n k] 26)) := (Below.refl _ _).alloc (Nat.le_refl _) _
  have hc0 : Blk (w.alloc (.cells #[.int .u32 (cr.uid : Nat), .int .u32 (cr.euid : Nat), .int .u32 (cr.suid : Nat), .int .u32 (cr.gid : Nat), .slice A n k] 26)) w.heap.size 26 [.int .u32 (cr.uid : Nat), .int .u32 (cr.euid : Nat), .int .u32 (cr.suid : Nat), .int .u32 (cr.gid : Nat), .slice A n k] := Blk.new w 26 _
  have KW := walk_any F L lo f cf Af A n k cr 0 x true _ hF (hFS.belowSz hb0) hn ((hg.below hb0).more hb0.size) hng hx
  have KM : ∀ w', Below w.heap.size w w' → ∀ ino : Int, Calls Tryz.prog 39 #[.pointer (some ⟨f, 0, none⟩), .int .i64 ino] w' fun e w5 => e = .returned (.tuple #[metaV (Vf.metaOf F ino).1, .int .i64 (Vf.metaOf F ino).2]) ∧ Below w'.heap.size w' w5 :=
    fun w' hb ino => meta_any F L f cf _ Af ino w' (hFS.belowSz hb).toR (Nat.le_refl _) hn hF.kind
  have KY : ∀ w', Below w.heap.size w w' → ∀ m : Vf.Meta, m.mode < 65536 → Calls Tryz.prog 40 #[credV cr A n k, metaV m, .int .u8 1] w' fun e w5 => e = .returned (.bool (Vf.mayX cr m)) ∧ Below w'.heap.size w' w5 :=
    fun w' hb m hm => may_any cr m A n k w.heap.size w' (hg.below hb) hb.size hng hm
  have KR : ∀ w', Below w.heap.size w w' → ∀ ino : Int, Calls Tryz.prog 41 #[.pointer (some ⟨f, 0, none⟩), .int .i64 ino, .int .i64 0, .int .i64 130] w' (ReadVE F ino 0 130 w') :=
    fun w' hb ino => read_any F L lo f cf Af ino 0 130 w' hF (hFS.belowSz hb) hn
  have hmd := fun ino => meta_mode hF ino
  have hmf := fun i => meta_file (F := F) (i := i)
  have hrf := fun i h => read_file (F := F) (i := i) h 130
  unfold ptrV credV at KW
  obtain ⟨⟨p, q⟩, hpq⟩ : ∃ r, Sb.prog F cr x = r := ⟨_, rfl⟩
  obtain ⟨D, hD⟩ : ∃ D, progD F cr x 130 = D := ⟨_, rfl⟩
  rw [hpq, hD]
  unfold progD at hD
  rw [hpq] at hD
  unfold Sb.prog at hpq
  obtain ⟨⟨n1, e1⟩, hw1⟩ : ∃ r, Vf.walk F cr 0 x true = r := ⟨_, rfl⟩
  rw [hw1] at KW hpq
  have KM1 := fun w' hb => KM w' hb (n1 : Nat)
  have KR1 := fun w' hb => KR w' hb (n1 : Nat)
  have hmd1 := hmd (n1 : Nat)
  have hmf1 := hmf n1
  have hrf1 := hrf n1
  obtain ⟨⟨⟨mk, mm, mu, mg, ms⟩, me⟩, hm⟩ : ∃ r, Vf.metaOf F (n1 : Nat) = r := ⟨_, rfl⟩
  rw [hm] at KM1 hmd1 hmf1 hrf1
  dsimp only at KW hpq hmd1 KM1 hmf1 hrf1 hD ⊢
  rw [hm] at hpq
  dsimp only at hpq
  have KY1 := fun w' hb => KY w' hb ⟨mk, mm, mu, mg, ms⟩ hmd1
  unfold credV at KY1
  unfold metaV at KM1 KY1
  obtain ⟨yb, hyb⟩ : ∃ b, Vf.mayX cr ⟨mk, mm, mu, mg, ms⟩ = b := ⟨_, rfl⟩
  rw [hyb] at KY1 hpq
  dsimp only at KY1 KM1
  have HW := hide KW
  have HM := hide KM1
  have HY := hide KY1
  have HR := hide KR1
  have Hpq := hide hpq
  have HD := hide hD
  have Hmf := hide hmf1
  have Hrf := hide hrf1
  have Hb0 := hide hb0
  have Hc0 := hide hc0
  unfold credV
  clear KW KM KM1 KY KY1 KR KR1 hmd hmd1 hmf hmf1 hrf hrf1 hpq hD hw1 hm hyb hFS hF hg hb0 hc0
  go_enter Tryz.func20, Tryz.ntmps20
  go_wp2_with fail
  refine (unhide HW).mono ?_
  rintro e w2 ⟨rfl, hb2⟩
  have Hb2 := hide ((unhide Hb0).trans (hb2.mono (unhide Hb0).size))
  have Hc2 := hide ((unhide Hc0).belowSz hb2)
  clear hb2 HW Hb0 Hc0
  by_cases he : e1 = 0
  case neg =>
    have b1 : (e1 != 0) = true := by simpa using he
    have hp := unhide Hpq
    rw [if_pos he] at hp
    injection hp with h1 h2
    subst h1 h2
    have hd := unhide HD
    rw [if_neg he] at hd
    subst hd
    clear he
    go_wp2_with fail
    go_ret3
    exact progE_nil (unhide Hb2)
  subst he
  have b1 : ((0 : Int) != 0) = false := rfl
  go_wp2_with fail
  refine ((unhide HM) _ (unhide Hb2)).mono ?_
  rintro e w3 ⟨rfl, hb3⟩
  have hb3' := hb3.alloc hb3.size (.cells #[.int .u8 (mk : Nat), .int .u16 (mm : Nat), .int .u32 (mu : Nat), .int .u32 (mg : Nat), .int .i64 (ms : Nat)] 54)
  have hm3 : Blk _ w3.heap.size 54 [.int .u8 (mk : Nat), .int .u16 (mm : Nat), .int .u32 (mu : Nat), .int .u32 (mg : Nat), .int .i64 (ms : Nat)] := Blk.new w3 54 [.int .u8 (mk : Nat), .int .u16 (mm : Nat), .int .u32 (mu : Nat), .int .u32 (mg : Nat), .int .i64 (ms : Nat)]
  have Hb3 := hide ((unhide Hb2).trans (hb3'.mono (unhide Hb2).size))
  have Hc3 := hide ((unhide Hc2).belowSz hb3')
  have Hm3 := hide hm3
  clear hb3 hb3' hm3
  by_cases hme : me = 0
  case neg =>
    have b2 : (me != 0) = true := by simpa using hme
    have hk : mk ≠ 1 := fun h => hme ((unhide Hmf) h)
    have hp := unhide Hpq
    rw [if_neg (by simp), if_neg (fun h => hk h.1)] at hp
    injection hp with h1 h2
    subst h1 h2
    have hd := unhide HD
    rw [if_neg (by decide)] at hd
    subst hd
    clear hme hk
    go_wp2_with fail
    go_ret3
    exact progE_nil (unhide Hb3)
  subst hme
  have b2 : ((0 : Int) != 0) = false := rfl
  obtain ⟨z0, z1, z2, z3, z4⟩ := And.intro ((unhide Hm3).cell (i := 0) rfl) (And.intro ((unhide Hm3).cell (i := 1) rfl) (And.intro ((unhide Hm3).cell (i := 2) rfl) (And.intro ((unhide Hm3).cell (i := 3) rfl) ((unhide Hm3).cell (i := 4) rfl))))
  obtain ⟨v0, v1, v2, v3, v4⟩ := And.intro ((unhide Hc3).cell (i := 0) rfl) (And.intro ((unhide Hc3).cell (i := 1) rfl) (And.intro ((unhide Hc3).cell (i := 2) rfl) (And.intro ((unhide Hc3).cell (i := 3) rfl) ((unhide Hc3).cell (i := 4) rfl))))
  by_cases hk : mk = 1
  case neg =>
    have b3 : (((mk : Nat) : Int) != 1) = true := by simp; omega
    have hp := unhide Hpq
    rw [if_neg (by simp), if_neg (fun h => hk h.1)] at hp
    injection hp with h1 h2
    subst h1 h2
    have hd := unhide HD
    rw [if_neg (by decide)] at hd
    subst hd
    clear hk
    go_wp2_with fail
    go_ret3
    exact progE_nil (unhide Hb3)
  have b3 : (((mk : Nat) : Int) != 1) = false := by rw [hk]; rfl
  have HY1 := hide ((unhide HY) _ (unhide Hb3))
  have Hk := hide hk
  clear hk
  go_wp2_with fail
  refine (unhide HY1).mono ?_
  rintro e w4 ⟨rfl, hb4⟩
  have Hb4 := hide ((unhide Hb3).trans (hb4.mono (unhide Hb3).size))
  clear hb4 HY HY1 z0 z1 z2 z3 z4 v0 v1 v2 v3 v4
  cases yb with
  | false =>
    have hp := unhide Hpq
    rw [if_neg (by simp), if_neg (fun h => by cases h.2)] at hp
    injection hp with h1 h2
    subst h1 h2
    have hd := unhide HD
    rw [if_neg (by decide)] at hd
    subst hd
    go_wp2_with fail
    go_ret3
    exact progE_nil (unhide Hb4)
  | true =>
    have hp := unhide Hpq
    rw [if_neg (by simp), if_pos ⟨unhide Hk, rfl⟩] at hp
    injection hp with h1 h2
    subst h1 h2
    have hd := unhide HD
    rw [if_pos rfl] at hd
    have HR1 := hide ((unhide HR) _ (unhide Hb4))
    have hrf := (unhide Hrf) (unhide Hk)
    rw [hd] at hrf
    have Hrf1 := hide hrf
    clear hd hrf HR
    go_wp2_with fail
    refine (unhide HR1).mono ?_
    rintro e w5 ⟨A5, c5, rfl, ho5, hb5⟩
    rw [show Vf.readOf F (n1 : Nat) 0 130 = (D, 0) from unhide Hrf1] at ho5 ⊢
    have Ho5 := hide (own_base ho5 (unhide Hb4).size)
    have Hb5 := hide ((unhide Hb4).trans (hb5.mono (unhide Hb4).size))
    clear ho5 hb5 HR1
    go_wp2_with fail
    go_ret3
    exact ⟨A5, c5, rfl, unhide Ho5, unhide Hb5⟩
end Go.Proofs.YtfegfmapdekkbaaGreatDoor
namespace Go.Proofs.YtfegfmapdekkbaaGreatDoor.Sb
set_option linter.unusedVariables false
set_option linter.unusedSimpArgs false

section
variable {F : List Vf.Nd} {c : Vf.Cred} {path : ByteArray}
theorem chain_bad (h : (prog F c path).2 ≠ 0) (k : Nat) (out : List ByteArray) : chain F c k path out = (0, ⟨#[]⟩, [], (prog F c path).2) := by
  unfold chain; rw [if_pos h]
theorem chain_par (h : (prog F c path).2 = 0) (h2 : (parse (Vf.nd F (prog F c path).1).data).2.2.2 ≠ 0) (k : Nat) (out : List ByteArray) : chain F c k path out = (0, ⟨#[]⟩, [], (parse (Vf.nd F (prog F c path).1).data).2.2.2) := by
  unfold chain; rw [if_neg (fun h0 => h0 h), if_pos h2]
theorem chain_prog (h : (prog F c path).2 = 0) (h2 : (parse (Vf.nd F (prog F c path).1).data).2.2.2 = 0) (h3 : (parse (Vf.nd F (prog F c path).1).data).2.2.1 = false) (k : Nat) (out : List ByteArray) :
    chain F c k path out = if Cl.envCk out ≠ 0 then (0, ⟨#[]⟩, [], Cl.envCk out) else ((prog F c path).1, path, out, 0) := by
  unfold chain; rw [if_neg (fun h0 => h0 h), if_neg (fun h0 => h0 h2), if_pos h3]
theorem chain_zero (h : (prog F c path).2 = 0) (h2 : (parse (Vf.nd F (prog F c path).1).data).2.2.2 = 0) (h3 : (parse (Vf.nd F (prog F c path).1).data).2.2.1 = true) (out : List ByteArray) :
    chain F c 0 path out = (0, ⟨#[]⟩, [], 10) := by
  unfold chain; rw [if_neg (fun h0 => h0 h), if_neg (fun h0 => h0 h2), if_neg (by rw [h3]; decide)]
theorem chain_succ (h : (prog F c path).2 = 0) (h2 : (parse (Vf.nd F (prog F c path).1).data).2.2.2 = 0) (h3 : (parse (Vf.nd F (prog F c path).1).data).2.2.1 = true) (k : Nat) (out : List ByteArray) :
    chain F c (k + 1) path out = chain F c k (ba (parse (Vf.nd F (prog F c path).1).data).1) (argv (ba (parse (Vf.nd F (prog F c path).1).data).1) (ba (parse (Vf.nd F (prog F c path).1).data).2.1) path out) := by
  conv => lhs; unfold chain
  rw [if_neg (fun h0 => h0 h), if_neg (fun h0 => h0 h2), if_neg (by rw [h3]; decide)]
end
theorem chain_mono (F : List Vf.Nd) (c : Vf.Cred) : ∀ (k : Nat) (path : ByteArray) (out : List ByteArray), (chain F c k path out).2.2.2 ≠ 10 → chain F c (k + 1) path out = chain F c k path out := by
  intro k
  induction k with
  | zero =>
    intro path out h
    by_cases h1 : (prog F c path).2 = 0
    · by_cases h2 : (parse (Vf.nd F (prog F c path).1).data).2.2.2 = 0
      · cases h3 : (parse (Vf.nd F (prog F c path).1).data).2.2.1 with
        | false => rw [chain_prog h1 h2 h3, chain_prog h1 h2 h3]
        | true => rw [chain_zero h1 h2 h3] at h; exact absurd rfl h
      · rw [chain_par h1 h2, chain_par h1 h2]
    · rw [chain_bad h1, chain_bad h1]
  | succ k ih =>
    intro path out h
    by_cases h1 : (prog F c path).2 = 0
    · by_cases h2 : (parse (Vf.nd F (prog F c path).1).data).2.2.2 = 0
      · cases h3 : (parse (Vf.nd F (prog F c path).1).data).2.2.1 with
        | false => rw [chain_prog h1 h2 h3, chain_prog h1 h2 h3]
        | true =>
          rw [chain_succ h1 h2 h3] at h
          rw [chain_succ h1 h2 h3, chain_succ h1 h2 h3]
          exact ih _ _ h
      · rw [chain_par h1 h2, chain_par h1 h2]
    · rw [chain_bad h1, chain_bad h1]
theorem parse_err (b : List UInt8) : (parse b).2.2.2 = 0 ∨ (parse b).2.2.2 = 13 := by
  unfold parse ofLine
  split
  · split
    · exact .inr rfl
    · exact .inl rfl
  · exact .inl rfl
theorem prog_err (F : List Vf.Nd) (c : Vf.Cred) (path : ByteArray) (h : (Vf.walk F c 0 path true).2 = 0) : (prog F c path).2 = 0 ∨ (prog F c path).2 = 5 := by
  unfold prog
  rw [if_neg (fun h0 => h0 h)]
  split
  · exact .inl rfl
  · exact .inr rfl
theorem prog_ok {F : List Vf.Nd} {c : Vf.Cred} {path : ByteArray} (h : (prog F c path).2 = 0) : (prog F c path).1 = (Vf.walk F c 0 path true).1 := by
  unfold prog at *
  split at h
  · rename_i h2; exact absurd h h2
  · rename_i h2
    rw [if_neg h2]
    split at h
    · rename_i h3; rw [if_pos h3]
    · exact absurd h (by decide)

/-! A line that is written. -/
theorem dw_app {p : UInt8 → Bool} {g r : List UInt8} (h : ∀ x ∈ g, p x = true) : (g ++ r).dropWhile p = r.dropWhile p := by
  induction g with
  | nil => rfl
  | cons x g ih => rw [List.cons_append, List.dropWhile_cons_of_pos (h x (by simp))]; exact ih (fun y hy => h y (by simp [hy]))
theorem tw_app {p : UInt8 → Bool} {g r : List UInt8} (h : ∀ x ∈ g, p x = true) : (g ++ r).takeWhile p = g ++ r.takeWhile p := by
  induction g with
  | nil => rfl
  | cons x g ih => rw [List.cons_append, List.takeWhile_cons_of_pos (h x (by simp)), ih (fun y hy => h y (by simp [hy]))]; rfl
theorem rd_app {p : UInt8 → Bool} {g r : List UInt8} (h : ∀ x ∈ g, p x = true) : rd p (r ++ g) = rd p r := by
  unfold rd
  rw [List.reverse_append, dw_app (fun x hx => h x (by simpa using hx))]
theorem rd_last {p : UInt8 → Bool} {r : List UInt8} (hr : ∀ x, r.getLast? = some x → p x = false) : rd p r = r := by
  unfold rd
  cases h : r.reverse with
  | nil => rw [List.reverse_eq_nil_iff] at h; subst h; rfl
  | cons x q =>
    have hx : r.getLast? = some x := by rw [← List.head?_reverse, h]; rfl
    rw [List.dropWhile_cons_of_neg (by rw [hr x hx]; decide), ← h, List.reverse_reverse]
theorem bl_nl {x : UInt8} (h : isBl x = true) : nl x = true := by
  unfold isBl blanks at h
  unfold nl
  have : x = 32 ∨ x = 9 := by simpa using h
  rcases this with rfl | rfl <;> decide
theorem bl_iff (x : UInt8) : isBl x = true ↔ x = 32 ∨ x = 9 := by unfold isBl blanks; simp
/-- What a text is that is not odd. -/
structure Plain (within : Bool) (l : List UInt8) : Prop where
  nl : ∀ x ∈ l, x ≠ 10
  bl : within = true → ∀ x ∈ l, isBl x = false
  fst : ∀ x, l.head? = some x → isBl x = false
  lst : ∀ x, l.getLast? = some x → isBl x = false
/-- The line that is written. -/
def written (I A g0 g1 g2 : List UInt8) : List UInt8 := g0 ++ I ++ g1 ++ (if A = [] then [] else [32] ++ A ++ g2)
theorem line_written {I A g0 g1 g2 t : List UInt8} (hI : Plain true I) (hA : Plain false A) (h0 : ∀ x ∈ g0, isBl x = true) (h1 : ∀ x ∈ g1, isBl x = true) (h2 : ∀ x ∈ g2, isBl x = true) :
    line (written I A g0 g1 g2 ++ 10 :: t) = written I A g0 g1 g2 := by
  unfold line
  rw [tw_app, List.takeWhile_cons_of_neg (by decide), List.append_nil]
  intro x hx
  unfold written at hx
  have hn : ∀ y, y ≠ 10 → nl y = true := fun y hy => by unfold nl; simpa using hy
  rw [List.mem_append, List.mem_append, List.mem_append] at hx
  rcases hx with ((hx | hx) | hx) | hx
  · exact bl_nl (h0 x hx)
  · exact hn x (hI.nl x hx)
  · exact bl_nl (h1 x hx)
  · split at hx
    · simp at hx
    · rw [List.mem_append, List.mem_append] at hx
      rcases hx with (hx | hx) | hx
      · rw [List.mem_singleton] at hx; subst hx; decide
      · exact hn x (hA.nl x hx)
      · exact bl_nl (h2 x hx)
theorem trim_written {I A g0 g1 g2 : List UInt8} (hne : I ≠ []) (hI : Plain true I) (hA : Plain false A) (h0 : ∀ x ∈ g0, isBl x = true) (h1 : ∀ x ∈ g1, isBl x = true) (h2 : ∀ x ∈ g2, isBl x = true) :
    trim (written I A g0 g1 g2) = I ++ (if A = [] then [] else g1 ++ [32] ++ A) := by
  rw [trim_eq]
  unfold written
  obtain ⟨x, r, rfl⟩ : ∃ x r, I = x :: r := by cases I with
    | nil => exact absurd rfl hne
    | cons x r => exact ⟨x, r, rfl⟩
  have hx : ¬ isBl x = true := by rw [hI.fst x rfl]; decide
  rw [List.append_assoc, List.append_assoc, dw_app h0, List.cons_append, List.dropWhile_cons_of_neg hx]
  split
  · rw [List.append_nil, List.append_nil, ← List.cons_append, rd_app h1]
    exact rd_last hI.lst
  · rename_i hne2
    rw [← List.cons_append, show x :: r ++ (g1 ++ ([32] ++ A ++ g2)) = (x :: r ++ (g1 ++ [32] ++ A)) ++ g2 by simp, rd_app h2]
    refine rd_last (fun y hy => hA.lst y ?_)
    rw [← List.append_assoc, List.getLast?_append, Option.or_of_isSome (by rw [List.getLast?_eq_some_getLast hne2]; rfl)] at hy
    exact hy
theorem tw_none {p : UInt8 → Bool} {r : List UInt8} (h : ∀ x, r.head? = some x → p x = false) : r.takeWhile p = [] ∧ r.dropWhile p = r := by
  cases r with
  | nil => exact ⟨rfl, rfl⟩
  | cons x r => exact ⟨List.takeWhile_cons_of_neg (by rw [h x rfl]; decide), List.dropWhile_cons_of_neg (by rw [h x rfl]; decide)⟩
theorem trim_plain {A : List UInt8} (h : Plain false A) : trim A = A := by
  rw [trim_eq, (tw_none h.fst).2]
  exact rd_last h.lst
theorem parse_written {I A g0 g1 g2 t : List UInt8} (hne : I ≠ []) (hI : Plain true I) (hA : Plain false A) (h0 : ∀ x ∈ g0, isBl x = true) (h1 : ∀ x ∈ g1, isBl x = true) (h2 : ∀ x ∈ g2, isBl x = true) :
    parse ([35, 33] ++ written I A g0 g1 g2 ++ 10 :: t) = if 127 < (written I A g0 g1 g2).length then ([], [], false, 13) else (I, A, true, 0) := by
  have e0 : ([35, 33] ++ written I A g0 g1 g2 ++ 10 :: t : List UInt8) = 35 :: 33 :: (written I A g0 g1 g2 ++ 10 :: t) := rfl
  have e1 : Lib.hasPrefix (35 :: 33 :: (written I A g0 g1 g2 ++ 10 :: t) : List UInt8) [35, 33] = true := by simp [Lib.hasPrefix, List.isPrefixOf]
  have e2 : (35 :: 33 :: (written I A g0 g1 g2 ++ 10 :: t) : List UInt8).drop 2 = written I A g0 g1 g2 ++ 10 :: t := rfl
  unfold parse
  rw [e0, if_pos e1, e2, line_written hI hA h0 h1 h2]
  unfold ofLine
  rw [trim_written hne hI hA h0 h1 h2]
  have hne2 : I ++ (if A = [] then [] else g1 ++ [32] ++ A) ≠ [] := by simp [hne]
  have hIp : ∀ x ∈ I, (!isBl x) = true := fun x hx => by rw [hI.bl rfl x hx]; rfl
  by_cases hl : 127 < (written I A g0 g1 g2).length
  · rw [if_pos (.inl hl), if_pos hl]
  · rw [if_neg (by rintro (h | h); exact hl h; exact hne2 h), if_neg hl, tw_app hIp, dw_app hIp]
    by_cases hA0 : A = []
    · subst hA0
      simp
      rfl
    · rw [if_neg hA0]
      have hh : ∀ x, (g1 ++ [32] ++ A).head? = some x → (!isBl x) = false := by
        intro x hx
        cases g1 with
        | nil => simp at hx; subst hx; decide
        | cons y g => simp at hx; subst hx; rw [h1 _ (by simp)]; rfl
      obtain ⟨e1, e2⟩ := tw_none hh
      rw [e1, e2, List.append_nil, trim_eq, dw_app (g := g1 ++ [32]) (fun x hx => by
        rw [List.mem_append] at hx
        rcases hx with hx | hx
        · exact h1 x hx
        · rw [List.mem_singleton] at hx; subst hx; decide), ← trim_eq, trim_plain hA]
end Go.Proofs.YtfegfmapdekkbaaGreatDoor.Sb
namespace Go.Proofs.YtfegfmapdekkbaaGreatDoor
set_option linter.unusedVariables false
set_option linter.unusedSimpArgs false
open Go.RowKit

namespace Sb
theorem ofLine_len (r : List UInt8) : (ofLine r).1.length ≤ r.length ∧ (ofLine r).2.1.length ≤ r.length := by
  have ht : ∀ l : List UInt8, (trim l).length ≤ l.length := by
    intro l
    rw [trim_eq]
    unfold rd
    rw [List.length_reverse]
    have h1 := (List.dropWhile_suffix (p := isBl) (l := (l.dropWhile isBl).reverse)).length_le
    have h2 := (List.dropWhile_suffix (p := isBl) (l := l)).length_le
    rw [List.length_reverse] at h1
    omega
  unfold ofLine
  split
  · simp
  · refine ⟨Nat.le_trans (List.takeWhile_prefix _).length_le (ht r), Nat.le_trans (ht _) (Nat.le_trans (List.dropWhile_suffix _).length_le (ht r))⟩
theorem parse_len (b : List UInt8) : (parse b).1.length ≤ b.length ∧ (parse b).2.1.length ≤ b.length := by
  unfold parse
  split
  · obtain ⟨h1, h2⟩ := ofLine_len (line (b.drop 2))
    have h3 : (line (b.drop 2)).length ≤ (b.drop 2).length := (List.takeWhile_prefix _).length_le
    rw [List.length_drop] at h3
    omega
  · simp
theorem ba_size (l : List UInt8) : (ba l).size = l.length := by unfold ba; simp [ByteArray.size]
theorem argv_len (i a x : ByteArray) (l : List ByteArray) : (argv i a x l).length ≤ l.length + 3 := by
  unfold argv
  rw [List.length_append, List.length_drop]
  split <;> simp <;> omega
theorem argv_mem {i a x y : ByteArray} {l : List ByteArray} (h : y ∈ argv i a x l) : y = i ∨ y = a ∨ y = x ∨ y ∈ l := by
  unfold argv at h
  rw [List.mem_append] at h
  rcases h with h | h
  · split at h <;> simp at h
    · rcases h with h | h <;> simp [h]
    · rcases h with h | h | h <;> simp [h]
  · exact .inr (.inr (.inr (List.mem_of_mem_drop h)))
end Sb

/-- What Chain answers: the node, the path, the arguments in new memory, the error. -/
def ChainE (r : Nat × ByteArray × List ByteArray × Int) (w : World) (e : Ending) (w' : World) : Prop :=
  ∃ A' c', e = .returned (.tuple #[.int .i64 (r.1 : Nat), .string r.2.1, .slice A' r.2.2.1.length c', .int .i64 r.2.2.2]) ∧ w'.ownsRow w.heap.size 9 1 (.slice A' r.2.2.1.length c') r.2.2.1.length (r.2.2.1.map Value.string) ∧ Below w.heap.size w w'
theorem chainE_nil {er : Int} {w w' : World} (hb : Below w.heap.size w w') : ChainE (0, ⟨#[]⟩, [], er) w (.returned (.tuple #[.int .i64 0, .string ⟨#[]⟩, .slice none 0 0, .int .i64 er])) w' :=
  ⟨none, 0, rfl, World.ownsRow_nil _ _ _ _, hb⟩
theorem prog_data {F : List Vf.Nd} {c : Vf.Cred} {x : ByteArray} (h : (Sb.prog F c x).2 = 0) : Sb.parse (progD F c x 130) = Sb.parse (Vf.nd F (Sb.prog F c x).1).data := by
  unfold progD
  rw [if_pos h, Sb.parse_take]
theorem progD_len (F : List Vf.Nd) (c : Vf.Cred) (x : ByteArray) : (progD F c x 130).length ≤ 130 := by
  unfold progD
  split
  · exact List.length_take_le _ _
  · simp

theorem chain_none (cr : Vf.Cred) (A : Option Addr) (n k : Nat) (x : ByteArray) (Aa : Option Addr) (m cc : Nat) (w : World) :
    Calls Tryz.prog 11 #[.pointer none, credV cr A n k, .string x, .slice Aa m cc] w fun e w' => e = .returned (.tuple #[.int .i64 0, .string ⟨#[]⟩, .slice none 0 0, .int .i64 2]) ∧ Below w.heap.size w w' := by
  unfold credV
  go_enter Tryz.func11, Tryz.ntmps11
  go_wp2_with fail
  refine wp_scope_straight ?_
  go_wp2_with fail
  simp only [Exit.noGoto, Exit.inBlock, Exit.then]
  refine bodyPost_ret (res_tmp4 rfl _ _ _) rfl ?_
  exact ⟨rfl, (Below.refl _ _).alloc (Nat.le_refl _) _⟩

set_option maxRecDepth 100000 in
set_option maxHeartbeats 4000000 in
theorem chain_any (F : List Vf.Nd) (L : List Pl) (lo f cf : Nat) (Af A Aa : Option Addr) (n k m cc : Nat) (cr : Vf.Cred) (x : ByteArray) (argv : List ByteArray) (w : World) (hF : Vf.Good F) (hFS : FsM w lo f Af cf F L) (hn : F.length ≤ 65)
    (hg : Rd w w.heap.size 1 A n (cr.groups.map u32v)) (hng : n ≤ maxLen) (hx : x.size ≤ 4294967296) (hl : Rd w w.heap.size 1 Aa m (argv.map Value.string)) (hm : m ≤ 2147483648) (hs : ∀ y ∈ argv, y.size ≤ maxLen) :
    Calls Tryz.prog 11 #[.pointer (some ⟨f, 0, none⟩), credV cr A n k, .string x, .slice Aa m cc] w (ChainE (Sb.chain F cr 4 x argv) w) := by
  have hb0 : Below w.heap.size w (w.alloc (.cells #[.int .u32 (cr.uid : Nat), .int .u32 (cr.euid : Nat), .int .u32 (cr.suid : Nat), .int .u32 (cr.gid : Nat), .slice A n k] 26)) := (Below.refl _ _).alloc (Nat.le_refl _) _
  have hc0 : Blk (w.alloc (.cells #[.int .u32 (cr.uid : Nat), .int .u32 (cr.euid : Nat), .int .u32 (cr.suid : Nat), .int .u32 (cr.gid : Nat), .slice A n k] 26)) w.heap.size 26 [.int .u32 (cr.uid : Nat), .int .u32 (cr.euid : Nat), .int .u32 (cr.suid : Nat), .int .u32 (cr.gid : Nat), .slice A n k] := Blk.new w 26 _
  have hll : argv.length = m := by simpa using hl.len1
  have KP : ∀ w', Below w.heap.size w w' → ∀ y : ByteArray, y.size ≤ 4294967296 → Calls Tryz.prog 20 #[.pointer (some ⟨f, 0, none⟩), .agg #[.int .u32 (cr.uid : Nat), .int .u32 (cr.euid : Nat), .int .u32 (cr.suid : Nat), .int .u32 (cr.gid : Nat), .slice A n k], .string y] w' (ProgE (Sb.prog F cr y) (progD F cr y 130) w') :=
    fun w' hb y hy => program_any F L lo f cf Af A n k cr y w' hF (hFS.belowSz hb) hn ((hg.below hb).more hb.size) hng hy
  obtain ⟨R, hR⟩ : ∃ R, Sb.chain F cr 4 x argv = R := ⟨_, rfl⟩
  rw [hR]
  have o1 := (own_litS (w := (w.alloc (.cells #[.int .u32 (cr.uid : Nat), .int .u32 (cr.euid : Nat), .int .u32 (cr.suid : Nat), .int .u32 (cr.gid : Nat), .slice A n k] 26))) (cs := #[]) (e := 9) (n := 0) rfl (by omega))
  rw [World.size_alloc] at o1
  have O1 := hide o1
  have HP := hide KP
  have HR := hide hR
  have Hl := hide hl
  have Hll := hide hll
  have Hs := hide hs
  have Hb0 := hide hb0
  have Hc0 := hide hc0
  unfold credV
  clear KP hF hFS hg hl hll hs hb0 hc0 hR o1
  go_enter Tryz.func11, Tryz.ntmps11
  go_wp2_with fail
  refine wp_scope_straight ?_
  go_wp2_with (at_builtin; refine wpList_app strTy rfl _ _ rfl (w.heap.size + 1) _ 0 [] rfl (unhide O1) w.heap.size Aa m cc (argv.map Value.string) rfl (((unhide Hl).below (unhide Hb0)).alloc (unhide Hb0).size _) (sb_one _) (by omega) (by simp) ?_; rw [Nat.zero_add]; intro A1 c1 w1 ho1 hg1 hk1; have Hg1 := hide hg1; have Ho1 := hide ho1; clear ho1 hg1 hk1)
  have Hc1 : Hid (Blk w1 w.heap.size 26 [.int .u32 (cr.uid : Nat), .int .u32 (cr.euid : Nat), .int .u32 (cr.suid : Nat), .int .u32 (cr.gid : Nat), .slice A n k]) := hide (((unhide Hg1).block w.heap.size (by simp; omega) (fun h => by have := ((unhide O1).lt _ h.symm).1; omega)).trans ((unhide Hc0).alloc _))
  have Hb1 : Hid (Below w.heap.size w w1) := hide (((unhide Hb0).alloc (unhide Hb0).size _).grown (unhide Hg1) (by simp; omega) (fun k hk => by have := ((unhide O1).lt k hk).1; omega))
  refine wp_label ?_
  go_wp2_with fail
  go_loopg [2, 8, 9, 10, 11, 12] 5 (fun gk pv av bv ov ev sv wr => ∃ (j : Nat) (y : ByteArray) (l : List ByteArray) (A1 : Option Addr) (c1 : Nat), gk = 5 - j ∧ j ≤ 4 ∧ pv = .string y ∧ av = .int .i64 0 ∧ bv = .string ⟨#[]⟩ ∧ ov = .slice A1 l.length c1 ∧ ev = .int .i64 0 ∧ sv = .int .i64 j ∧ wr.ownsRow w.heap.size 9 1 (.slice A1 l.length c1) l.length (l.map Value.string) ∧ Below w.heap.size w wr ∧ Blk wr w.heap.size 26 [.int .u32 (cr.uid : Nat), .int .u32 (cr.euid : Nat), .int .u32 (cr.suid : Nat), .int .u32 (cr.gid : Nat), .slice A n k] ∧ l.length ≤ m + 3 * j ∧ y.size ≤ 4294967296 ∧ (∀ z ∈ l, z.size ≤ maxLen) ∧ Sb.chain F cr (4 - j) y l = R)
  case atStart =>
    refine ⟨0, x, argv, A1, c1, rfl, by omega, rfl, rfl, rfl, by rw [unhide Hll], rfl, rfl, ?_, unhide Hb1, unhide Hc1, by rw [unhide Hll]; omega, hx, unhide Hs, unhide HR⟩
    rw [unhide Hll]
    exact own_base (by simpa using unhide Ho1) (by omega)
  case round =>
  obtain ⟨j, y, l, A1, c1, hgk, hj, rfl, rfl, rfl, rfl, rfl, rfl, hown, hb, hc, hlm, hy, hsz, hch⟩ := hrel
  have Hgk := hide hgk
  have Hown := hide hown
  have Hb := hide hb
  have Hc := hide hc
  have Hsz := hide hsz
  have Hch := hide hch
  have HP1 := (unhide HP) wr hb y hy
  obtain ⟨v0, v1, v2, v3, v4⟩ := And.intro (hc.cell (i := 0) rfl) (And.intro (hc.cell (i := 1) rfl) (And.intro (hc.cell (i := 2) rfl) (And.intro (hc.cell (i := 3) rfl) (hc.cell (i := 4) rfl))))
  have hpd := prog_data (F := F) (c := cr) (x := y)
  have hdl := progD_len F cr y
  have hbad := fun h k out => Sb.chain_bad (F := F) (c := cr) (path := y) h k out
  have hpar := fun h h2 k out => Sb.chain_par (F := F) (c := cr) (path := y) h h2 k out
  have hprg := fun h h2 h3 k out => Sb.chain_prog (F := F) (c := cr) (path := y) h h2 h3 k out
  have hzer := fun h h2 h3 out => Sb.chain_zero (F := F) (c := cr) (path := y) h h2 h3 out
  have hsuc := fun h h2 h3 k out => Sb.chain_succ (F := F) (c := cr) (path := y) h h2 h3 k out
  obtain ⟨D, hD⟩ : ∃ D, progD F cr y 130 = D := ⟨_, rfl⟩
  rw [hD] at HP1 hpd hdl
  obtain ⟨⟨p, q⟩, hpq⟩ : ∃ r, Sb.prog F cr y = r := ⟨_, rfl⟩
  rw [hpq] at HP1 hpd hbad hpar hprg hzer hsuc
  dsimp only at hpd hbad hpar hprg hzer hsuc
  have K1 := hide HP1
  have Hpd := hide hpd
  have Hbad := hide hbad
  have Hpar := hide hpar
  have Hprg := hide hprg
  have Hzer := hide hzer
  have Hsuc := hide hsuc
  clear hgk hown hb hc hsz hch HP1 hpd hbad hpar hprg hzer hsuc hD hpq
  go_wp2_with fail
  refine (unhide K1).mono ?_
  rintro e w2 ⟨A2, c2, rfl, ho2, hb2⟩
  have hd2 : D.length ≤ c2 := by
    rcases ho2.2 with ⟨e1, e2⟩ | ⟨g, cap, cur, e1, _, _, e4, _⟩
    · omega
    · injection e1 with _ _ e1
      omega
  have Hr2 := hide (Rd.of_own ho2)
  have Hb2 := hide ((unhide Hb).trans (hb2.mono (unhide Hb).size))
  have Hc2 := hide ((unhide Hc).belowSz hb2)
  have Ho2 := hide (own_below (unhide Hown) hb2)
  clear hb2 ho2 v0 v1 v2 v3 v4 Hb Hc Hown K1
  by_cases hq : q = 0
  case neg =>
    have b1 : (q != 0) = true := by simpa using hq
    have hr := unhide Hch
    rw [(unhide Hbad) hq] at hr
    subst hr
    clear hq Hbad Hpar Hprg Hzer Hsuc Hpd Hch
    go_wp2_with fail
    simp only [Exit.noGoto, Exit.inBlock, Exit.then]
    refine bodyPost_ret (res_tmp4 rfl _ _ _) rfl ?_
    exact chainE_nil (unhide Hb2)
  subst hq
  have b1 : ((0 : Int) != 0) = false := rfl
  have K2 := parse_any A2 D.length c2 w2.heap.size D w2 (unhide Hr2) (Nat.le_refl _) (by omega) hd2
  have hpl := Sb.parse_len D
  rw [(unhide Hpd) rfl] at K2 hpl
  have hpar := (unhide Hpar) rfl
  have hprg := (unhide Hprg) rfl
  have hzer := (unhide Hzer) rfl
  have hsuc := (unhide Hsuc) rfl
  obtain ⟨⟨i, a, is, pe⟩, hp⟩ : ∃ r, Sb.parse (Vf.nd F p).data = r := ⟨_, rfl⟩
  rw [hp] at K2 hpl hpar hprg hzer hsuc
  dsimp only at hpl hpar hprg hzer hsuc
  have hi : (Sb.ba i).size ≤ 130 := by rw [Sb.ba_size]; omega
  have ha : (Sb.ba a).size ≤ 130 := by rw [Sb.ba_size]; omega
  obtain ⟨si, hsi⟩ : ∃ s, Sb.ba i = s := ⟨_, rfl⟩
  obtain ⟨sa, hsa⟩ : ∃ s, Sb.ba a = s := ⟨_, rfl⟩
  unfold ParseE at K2
  dsimp only at K2
  rw [hsi] at K2 hi hsuc
  rw [hsa] at K2 ha hsuc
  have HK2 := hide K2
  have Hpar2 := hide hpar
  have Hprg2 := hide hprg
  have Hzer2 := hide hzer
  have Hsuc2 := hide hsuc
  clear K2 hpl hpar hprg hzer hsuc hp hsi hsa Hpd Hbad Hpar Hprg Hzer Hsuc
  go_wp2_with fail
  refine (unhide HK2).mono ?_
  rintro e w3 ⟨rfl, hb3⟩
  have Hb3 := hide ((unhide Hb2).trans (hb3.mono (unhide Hb2).size))
  have Hc3 := hide ((unhide Hc2).belowSz hb3)
  have Ho3 := hide (own_below (unhide Ho2) hb3)
  clear hb3 Hb2 Hc2 Ho2 HK2 Hr2
  by_cases hpe : pe = 0
  case neg =>
    have b2 : (pe != 0) = true := by simpa using hpe
    have hr := unhide Hch
    rw [(unhide Hpar2) hpe] at hr
    subst hr
    clear hpe Hpar2 Hprg2 Hzer2 Hsuc2 Hch
    go_wp2_with fail
    simp only [Exit.noGoto, Exit.inBlock, Exit.then]
    refine bodyPost_ret (res_tmp4 rfl _ _ _) rfl ?_
    exact chainE_nil (unhide Hb3)
  subst hpe
  cases is with
  | false =>
    have KE := hide (envCheck_any A1 l.length c1 w3.heap.size l w3 (Rd.of_own (unhide Ho3)) (unhide Hsz) (by unfold maxLen; omega))
    have hr := unhide Hch
    rw [(unhide Hprg2) rfl rfl] at hr
    obtain ⟨v, hv⟩ : ∃ v, Cl.envCk l = v := ⟨_, rfl⟩
    rw [hv] at hr
    have ke := unhide KE
    rw [hv] at ke
    have KE2 := hide ke
    have Hr := hide hr
    clear hv hr ke KE Hpar2 Hprg2 Hzer2 Hsuc2 Hch
    go_wp2_with fail
    refine (unhide KE2).mono ?_
    rintro e w4 ⟨rfl, rfl⟩
    by_cases hv0 : v = 0
    case neg =>
      have b3 : (v != 0) = true := by simpa using hv0
      have hr := unhide Hr
      rw [if_pos hv0] at hr
      subst hr
      clear hv0 Hr KE2
      go_wp2_with fail
      simp only [Exit.noGoto, Exit.inBlock, Exit.then]
      refine bodyPost_ret (res_tmp4 rfl _ _ _) rfl ?_
      exact chainE_nil (unhide Hb3)
    subst hv0
    have hr := unhide Hr
    rw [if_neg (by simp)] at hr
    subst hr
    clear Hr KE2
    go_wp2_with fail
    simp only [Exit.noGoto, Exit.inBlock, Exit.then]
    refine bodyPost_ret (res_tmp4 rfl _ _ _) rfl ?_
    exact ⟨A1, c1, rfl, unhide Ho3, unhide Hb3⟩
  | true =>
    by_cases hj4 : j = 4
    · subst hj4
      have hr := unhide Hch
      rw [(unhide Hzer2) rfl rfl] at hr
      subst hr
      clear Hpar2 Hprg2 Hzer2 Hsuc2 Hch
      go_wp2_with fail
      simp only [Exit.noGoto, Exit.inBlock, Exit.then]
      refine bodyPost_ret (res_tmp4 rfl _ _ _) rfl ?_
      exact chainE_nil (unhide Hb3)
    · have b4 : (((j : Nat) : Int) == 4) = false := by rw [beq_eq_false_iff_ne]; omega
      have hr := unhide Hch
      rw [show 4 - j = (4 - (j + 1)) + 1 by omega, (unhide Hsuc2) rfl rfl] at hr
      have KA := hide (argv_any A1 l.length c1 w3.heap.size si sa y l w3 (Rd.of_own (unhide Ho3)) (Nat.le_refl _) (by
        rcases (unhide Ho3).2 with ⟨e1, e2⟩ | ⟨g, cap, cur, e1, _, _, e4, _⟩
        · omega
        · injection e1 with _ _ e1
          omega) (by omega))
      have hal := Sb.argv_len si sa y l
      have ham := fun z => Sb.argv_mem (i := si) (a := sa) (x := y) (y := z) (l := l)
      obtain ⟨l2, hl2⟩ : ∃ r, Sb.argv si sa y l = r := ⟨_, rfl⟩
      have ka := unhide KA
      rw [hl2] at ka hr hal ham
      have KA2 := hide ka
      have Hr := hide hr
      have Ham := hide ham
      have hj5 : j + 1 ≤ 4 := by omega
      clear hr ham hl2 ka KA Hpar2 Hprg2 Hzer2 Hsuc2 Hch hj4
      go_wp2_with fail
      refine (unhide KA2).mono ?_
      rintro e w5 ⟨A5, c5, rfl, ho5, hb5⟩
      have Hb5 := hide ((unhide Hb3).trans (hb5.mono (unhide Hb3).size))
      have Hc5 := hide ((unhide Hc3).belowSz hb5)
      have Ho5 := hide (own_base ho5 (unhide Hb3).size)
      clear hb5 ho5 KA2
      go_wp2_with fail
      go_roundg (5 - (j + 1))
      case measure => have := unhide Hgk; omega
      case rel =>
        refine ⟨j + 1, si, l2, A5, c5, rfl, by omega, rfl, rfl, rfl, rfl, rfl, by go_num, unhide Ho5, unhide Hb5, unhide Hc5, by omega, by omega, ?_, unhide Hr⟩
        intro z hz
        rcases (unhide Ham) z hz with rfl | rfl | rfl | h
        · unfold maxLen; omega
        · unfold maxLen; omega
        · unfold maxLen; omega
        · exact (unhide Hsz) z h
end Go.Proofs.YtfegfmapdekkbaaGreatDoor
namespace Go.Proofs.YtfegfmapdekkbaaGreatDoor
set_option linter.unusedVariables false
set_option linter.unusedSimpArgs false
open Go.RowKit

theorem andn2559 (n : Nat) (h : n < 65536) : (bits .andNot .u16 (n : Int) 2559 != 0) = !decide (n &&& 2559 = n) := by
  have e : (2559 : Int) = ((2559 : Nat) : Int) := rfl
  rw [e, u16_andNot_nat n 2559 h (by omega)]
  have h1 : n &&& 62976 = 0 ↔ n &&& 2559 = n := by
    have hn : n &&& 65535 = n := by
      have := Nat.and_two_pow_sub_one_eq_mod n 16
      simp only [Nat.reducePow, Nat.reduceSub] at this
      rw [this]
      omega
    constructor
    · intro h0
      have h2 : n &&& (2559 ||| 62976) = (n &&& 2559) ||| (n &&& 62976) := Nat.and_or_distrib_left ..
      rw [h0, Nat.or_zero] at h2
      rw [← h2]
      exact hn
    · intro h0
      rw [← h0, Nat.and_assoc]
      exact Nat.and_zero n
  rw [bne, Bool.not_inj_iff, Bool.eq_iff_iff, beq_iff_eq, decide_eq_true_eq, ← h1]
  have e2 : 65535 - 2559 = 62976 := rfl
  rw [e2]
  omega

def entC (e : Vf.Ent) (A : Option Addr) (n c : Nat) : List Value := [.string e.path, .int .u8 (e.kind : Nat), .int .u16 (e.mode : Nat), .int .u32 (e.uid : Nat), .int .u32 (e.gid : Nat), .slice A n c, .string e.to]
def entV (e : Vf.Ent) (A : Option Addr) (n c : Nat) : Value := .agg #[.string e.path, .int .u8 (e.kind : Nat), .int .u16 (e.mode : Nat), .int .u32 (e.uid : Nat), .int .u32 (e.gid : Nat), .slice A n c, .string e.to]
/-- What parts answers. -/
def PtVE (x : Vf.Ent) (w : World) (e : Ending) (w' : World) : Prop :=
  ∃ A n c, e = .returned (.tuple #[.slice A n c, .int .i64 (Vf.may x)]) ∧ (Vf.may x = 0 → n = (Pth.partsL x.path).length ∧ w'.ownsRow w.heap.size 9 1 (.slice A n c) n ((Pth.partsL x.path).map Value.string)) ∧ Below w.heap.size w w'
theorem ptVE_no {x : Vf.Ent} {w w' : World} {er : Int} (h : Vf.may x = er) (h0 : er ≠ 0) (hb : Below w.heap.size w w') : PtVE x w (.returned (.tuple #[.slice none 0 0, .int .i64 er])) w' := by
  unfold PtVE
  rw [h]
  exact ⟨none, 0, 0, rfl, fun h1 => absurd h1 h0, hb⟩
theorem contains_dd (A : Option Addr) (n c B : Nat) (l : List ByteArray) (w : World) (hl : Rd w B 1 A n (l.map Value.string)) (hn : n ≤ maxLen) :
    Calls Tryz.prog 57 #[.slice A n c, .string ⟨#[46, 46]⟩] w fun e w' => e = .returned (.bool (l.any fun x => decide (x = Vf.dd))) ∧ w = w' := by
  have hll : l.length = n := by simpa using hl.len1
  unfold maxLen at hn
  rcases hl.2 with h0 | ⟨b, off, rfl, hb, hc⟩
  · have h1 : l = [] := by simpa using h0
    subst h1
    simp only [List.length_nil] at hll
    subst hll
    refine (flipw (Tryz.slices_Contains_string_empty A c ⟨#[46, 46]⟩ w)).mono ?_
    rintro e w' ⟨rfl, rfl⟩
    exact ⟨rfl, rfl⟩
  · refine (flipw (Tryz.slices_Contains_string b off n c l ⟨#[46, 46]⟩ w (by omega) (by omega) (fun j hj => ?_))).mono ?_
    · have := hc j (.string l[j]) (by rw [List.getElem?_map, List.getElem?_eq_getElem hj]; rfl)
      rw [this, List.getD_eq_getElem?_getD, List.getElem?_eq_getElem hj]
      rfl
    · rintro e w' ⟨rfl, rfl⟩
      refine ⟨ret_bool ?_, rfl⟩
      rw [List.take_of_length_le (by omega), Bool.eq_iff_iff, List.any_eq_true]
      refine (Lib.containsS_iff l ⟨#[46, 46]⟩).trans ⟨fun h => ⟨_, h, by simp [Vf.dd]⟩, fun ⟨x, hx, h⟩ => ?_⟩
      rw [decide_eq_true_eq] at h
      rw [h] at hx
      exact hx

set_option maxRecDepth 100000 in
set_option maxHeartbeats 4000000 in
theorem partsV_any (x : Vf.Ent) (A : Option Addr) (n c : Nat) (w : World) (hd : x.data.length = n) (hn : n ≤ 4294967296) (hps : x.path.size ≤ 4294967296) (hto : x.to.size ≤ 4294967296) (hmd : x.mode < 65536) :
    Calls Tryz.prog 31 #[entV x A n c] w (PtVE x w) := by
  have hb0 : Below w.heap.size w (w.alloc (.cells (entC x A n c).toArray 51)) := (Below.refl _ _).alloc (Nat.le_refl _) _
  have hbk : Blk (w.alloc (.cells (entC x A n c).toArray 51)) w.heap.size 51 (entC x A n c) := Blk.new w 51 _
  have KP := hide (parts_any x.path (by unfold maxLen; omega) (w.alloc (.cells (entC x A n c).toArray 51)))
  have KT := hide (fun w' => tail_any x.path (by omega) w')
  have KK := hide (fun w' => check_any x.to (by unfold maxLen; omega) w')
  have hand := andn2559 x.mode hmd
  have hmay : Vf.may x = if ¬ (1 ≤ x.kind ∧ x.kind ≤ 3) ∨ x.mode &&& 2559 ≠ x.mode then 1
    else if Pth.chk x.path ≠ 0 ∨ Pth.rootB x.path = false ∨ (Pth.partsL x.path).isEmpty = true ∨ Pth.tailB x.path = true ∨ (Pth.partsL x.path).any (fun y => decide (y = Vf.dd)) = true then 1
    else if (x.kind ≠ 1 ∧ x.data ≠ []) ∨ (x.kind ≠ 3 ∧ x.to.size ≠ 0) ∨ (x.kind = 3 ∧ Pth.chk x.to ≠ 0) then 1
    else if 65536 < x.data.length then 12 else 0 := rfl
  have hdn : x.data ≠ [] ↔ 0 < n := by rw [← hd, List.length_pos_iff]
  simp only [hdn] at hmay
  rw [hd] at hmay
  have hpl2 := Vf.parts_len x.path
  obtain ⟨ck, hck⟩ : ∃ b, Pth.chk x.path = b := ⟨_, rfl⟩
  obtain ⟨tb, htb⟩ : ∃ b, Pth.rootB x.path = b := ⟨_, rfl⟩
  obtain ⟨pl, hpl⟩ : ∃ l, Pth.partsL x.path = l := ⟨_, rfl⟩
  obtain ⟨tl, htl⟩ : ∃ b, Pth.tailB x.path = b := ⟨_, rfl⟩
  obtain ⟨ct, hct⟩ : ∃ b, Pth.chk x.to = b := ⟨_, rfl⟩
  obtain ⟨dd, hdd⟩ : ∃ b, (pl.any fun y => decide (y = Vf.dd)) = b := ⟨_, rfl⟩
  obtain ⟨np, hnp⟩ : ∃ n, pl.length = n := ⟨_, rfl⟩
  have hpe : pl.isEmpty = true ↔ np = 0 := by rw [← hnp, List.isEmpty_iff_length_eq_zero]
  simp only [hck, htb, hpl, htl, hct, hdd, hpe] at hmay
  rw [hck, htb, hpl, hnp] at KP
  rw [htl] at KT
  rw [hct] at KK
  rw [hpl, hnp] at hpl2
  have Hmay := hide hmay
  have Hb0 := hide hb0
  have Hbk := hide hbk
  have Hpl := hide hpl
  have Hnp := hide hnp
  have Hdd := hide hdd
  have hemp : x.to.toList.isEmpty = decide (x.to.size = 0) := isEmpty_toList x.to
  unfold entV
  unfold entC at KP
  clear hmay hd hdn hpl hck htb htl hct hdd hpe hnp hb0 hbk hps hto
  go_enter Tryz.func31, Tryz.ntmps31
  go_wp2_with fail
  refine (unhide KP).mono ?_
  rintro e w1 ⟨A1, c1, rfl, ho1, hb1⟩
  have hbk1 := (unhide Hbk).belowSz hb1
  obtain ⟨v0, v1, v2, v3, v4, v5, v6⟩ : w1.cell? ⟨w.heap.size, 0, none⟩ = some (.string x.path) ∧ w1.cell? ⟨w.heap.size, 1, none⟩ = some (.int .u8 (x.kind : Nat)) ∧ w1.cell? ⟨w.heap.size, 2, none⟩ = some (.int .u16 (x.mode : Nat)) ∧ w1.cell? ⟨w.heap.size, 3, none⟩ = some (.int .u32 (x.uid : Nat)) ∧ w1.cell? ⟨w.heap.size, 4, none⟩ = some (.int .u32 (x.gid : Nat)) ∧ w1.cell? ⟨w.heap.size, 5, none⟩ = some (.slice A n c) ∧ w1.cell? ⟨w.heap.size, 6, none⟩ = some (.string x.to) := ⟨hbk1.cell rfl, hbk1.cell rfl, hbk1.cell rfl, hbk1.cell rfl, hbk1.cell rfl, hbk1.cell rfl, hbk1.cell rfl⟩
  have Hb1 := hide ((unhide Hb0).trans (hb1.mono (by simp)))
  have KC := contains_dd A1 np c1 w1.heap.size pl w1 (Rd.of_own ho1) (by unfold maxLen; omega)
  rw [unhide Hdd] at KC
  have hlt1 : w.heap.size < w1.heap.size := hbk1.lt
  have Ho1 := hide ho1
  have HKC := hide KC
  clear hb1 ho1 hbk1 KC KP Hbk
  by_cases k1 : (x.kind : Int) < 1
  · have hm : Vf.may x = 1 := by rw [unhide Hmay, if_pos (.inl (by omega))]
    have Hm := hide hm
    clear hm hand hemp
    go_wp2_with fail
    go_ret2
    exact ptVE_no (unhide Hm) (by decide) (unhide Hb1)
  by_cases k2 : (3 : Int) < (x.kind : Int)
  · have hm : Vf.may x = 1 := by rw [unhide Hmay, if_pos (.inl (by omega))]
    have Hm := hide hm
    clear hm hand hemp
    go_wp2_with fail
    go_ret2
    exact ptVE_no (unhide Hm) (by decide) (unhide Hb1)
  by_cases k3 : x.mode &&& 2559 = x.mode
  case neg =>
    have hm : Vf.may x = 1 := by rw [unhide Hmay, if_pos (.inr k3)]
    rw [decide_eq_false k3] at hand
    have Hm := hide hm
    clear hm k3 hemp
    go_wp2_with fail
    go_ret2
    exact ptVE_no (unhide Hm) (by decide) (unhide Hb1)
  rw [decide_eq_true k3] at hand
  have hmay2 := unhide Hmay
  rw [if_neg (by rintro (h | h); exact h (by omega); exact h k3)] at hmay2
  clear k3 Hmay
  by_cases k4 : ck = 0
  case neg =>
    have hm : Vf.may x = 1 := by rw [hmay2, if_pos (.inl k4)]
    have b4 : (ck != 0) = true := by simp [k4]
    have Hm := hide hm
    clear hm k4 hemp hmay2
    go_wp2_with fail
    go_ret2
    exact ptVE_no (unhide Hm) (by decide) (unhide Hb1)
  subst k4
  have b4 : ((0 : Int) != 0) = false := rfl
  cases tb with
  | false =>
    have hm : Vf.may x = 1 := by rw [hmay2, if_pos (.inr (.inl rfl))]
    have Hm := hide hm
    clear hm hemp hmay2
    go_wp2_with fail
    go_ret2
    exact ptVE_no (unhide Hm) (by decide) (unhide Hb1)
  | true =>
  by_cases k5 : np = 0
  · have hm : Vf.may x = 1 := by rw [hmay2, if_pos (.inr (.inr (.inl k5)))]
    have b5 : ((np : Int) == 0) = true := by rw [k5]; rfl
    have Hm := hide hm
    clear hm hemp hmay2 k5
    go_wp2_with fail
    go_ret2
    exact ptVE_no (unhide Hm) (by decide) (unhide Hb1)
  have b5 : ((np : Int) == 0) = false := by rw [beq_eq_false_iff_ne]; omega
  cases tl with
  | true =>
    have hm : Vf.may x = 1 := by rw [hmay2, if_pos (.inr (.inr (.inr (.inl rfl))))]
    have Hm := hide hm
    clear hm hemp hmay2 k5
    go_wp2_with (go_at_call 56; refine ((unhide KT) _).mono ?_; rintro e w2 ⟨rfl, rfl⟩)
    go_ret2
    exact ptVE_no (unhide Hm) (by decide) (unhide Hb1)
  | false =>
  cases dd with
  | true =>
    have hm : Vf.may x = 1 := by rw [hmay2, if_pos (.inr (.inr (.inr (.inr rfl))))]
    have Hm := hide hm
    clear hm hemp hmay2 k5
    go_wp2_with (first | (go_at_call 56; refine ((unhide KT) _).mono ?_; rintro e w2 ⟨rfl, rfl⟩) | (go_at_call 57; refine (unhide HKC).mono ?_; rintro e w2 ⟨rfl, rfl⟩))
    go_ret2
    exact ptVE_no (unhide Hm) (by decide) (unhide Hb1)
  | false =>
  rw [if_neg (by simp [k5])] at hmay2
  have Hmay2 := hide hmay2
  clear hmay2 k5
  by_cases k6 : x.kind ≠ 1 ∧ 0 < n
  · have hm : Vf.may x = 1 := by rw [unhide Hmay2, if_pos (.inl k6)]
    have b6 : ((x.kind : Int) != 1) = true := by simp; omega
    have b7 : (0 : Int) < (n : Int) := by omega
    have Hm := hide hm
    clear hm hemp k6
    go_wp2_with (first | (go_at_call 56; refine ((unhide KT) _).mono ?_; rintro e w2 ⟨rfl, rfl⟩) | (go_at_call 57; refine (unhide HKC).mono ?_; rintro e w2 ⟨rfl, rfl⟩))
    go_ret2
    exact ptVE_no (unhide Hm) (by decide) (unhide Hb1)
  have i0 : ¬ (0 : Int) < (n : Int) ∨ x.kind = 1 := by omega
  rcases (show x.kind = 1 ∨ x.kind = 2 ∨ x.kind = 3 by omega) with hk | hk | hk
  · have q1 : ((x.kind : Int) != 1) = false := by rw [hk]; rfl
    have q3 : ((x.kind : Int) != 3) = true := by rw [hk]; rfl
    have q4 : ((x.kind : Int) == 3) = false := by rw [hk]; rfl
    clear i0
    by_cases k8 : x.to.size = 0
    · rw [decide_eq_true k8] at hemp
      have hto2 : x.to.toList = [] := List.isEmpty_iff.1 hemp
      have hn1 : ¬ ((x.kind ≠ 1 ∧ 0 < n) ∨ (x.kind ≠ 3 ∧ x.to.size ≠ 0) ∨ (x.kind = 3 ∧ ct ≠ 0)) := by omega
      have Hn1 := hide hn1
      clear hn1 k8 k6 hk
      by_cases k9 : 65536 < n
      · have hm : Vf.may x = 12 := by rw [unhide Hmay2, if_neg (unhide Hn1), if_pos k9]
        have b9 : (65536 : Int) < (n : Int) := by omega
        have Hm := hide hm
        clear hm k9
        go_wp2_with (first | (go_at_call 56; refine ((unhide KT) _).mono ?_; rintro e w2 ⟨rfl, rfl⟩) | (go_at_call 57; refine (unhide HKC).mono ?_; rintro e w2 ⟨rfl, rfl⟩))
        go_ret2
        exact ptVE_no (unhide Hm) (by decide) (unhide Hb1)
      · have hm : Vf.may x = 0 := by rw [unhide Hmay2, if_neg (unhide Hn1), if_neg k9]
        have b9 : ¬ (65536 : Int) < (n : Int) := by omega
        have Hm := hide hm
        clear hm k9
        go_wp2_with (first | (go_at_call 56; refine ((unhide KT) _).mono ?_; rintro e w2 ⟨rfl, rfl⟩) | (go_at_call 57; refine (unhide HKC).mono ?_; rintro e w2 ⟨rfl, rfl⟩))
        go_ret2
        unfold PtVE
        rw [unhide Hm, unhide Hpl, unhide Hnp]
        exact ⟨A1, np, c1, rfl, fun _ => ⟨rfl, own_base (unhide Ho1) (by simp)⟩, (unhide Hb1)⟩
    · rw [decide_eq_false k8] at hemp
      have hto2 : ¬ x.to.toList = [] := fun h => by rw [h] at hemp; cases hemp
      have hm : Vf.may x = 1 := by rw [unhide Hmay2, if_pos (.inr (.inl ⟨by omega, k8⟩))]
      have Hm := hide hm
      clear hm k8 k6 hk
      go_wp2_with (first | (go_at_call 56; refine ((unhide KT) _).mono ?_; rintro e w2 ⟨rfl, rfl⟩) | (go_at_call 57; refine (unhide HKC).mono ?_; rintro e w2 ⟨rfl, rfl⟩))
      go_ret2
      exact ptVE_no (unhide Hm) (by decide) (unhide Hb1)
  · have q1 : ((x.kind : Int) != 1) = true := by rw [hk]; rfl
    have q3 : ((x.kind : Int) != 3) = true := by rw [hk]; rfl
    have q4 : ((x.kind : Int) == 3) = false := by rw [hk]; rfl
    have i1 : ¬ (0 : Int) < (n : Int) := by omega
    clear i0
    by_cases k8 : x.to.size = 0
    · rw [decide_eq_true k8] at hemp
      have hto2 : x.to.toList = [] := List.isEmpty_iff.1 hemp
      have hn1 : ¬ ((x.kind ≠ 1 ∧ 0 < n) ∨ (x.kind ≠ 3 ∧ x.to.size ≠ 0) ∨ (x.kind = 3 ∧ ct ≠ 0)) := by omega
      have Hn1 := hide hn1
      clear hn1 k8 k6 hk
      by_cases k9 : 65536 < n
      · exact absurd k9 (by omega)
      · have hm : Vf.may x = 0 := by rw [unhide Hmay2, if_neg (unhide Hn1), if_neg k9]
        have b9 : ¬ (65536 : Int) < (n : Int) := by omega
        have Hm := hide hm
        clear hm k9
        go_wp2_with (first | (go_at_call 56; refine ((unhide KT) _).mono ?_; rintro e w2 ⟨rfl, rfl⟩) | (go_at_call 57; refine (unhide HKC).mono ?_; rintro e w2 ⟨rfl, rfl⟩))
        go_ret2
        unfold PtVE
        rw [unhide Hm, unhide Hpl, unhide Hnp]
        exact ⟨A1, np, c1, rfl, fun _ => ⟨rfl, own_base (unhide Ho1) (by simp)⟩, (unhide Hb1)⟩
    · rw [decide_eq_false k8] at hemp
      have hto2 : ¬ x.to.toList = [] := fun h => by rw [h] at hemp; cases hemp
      have hm : Vf.may x = 1 := by rw [unhide Hmay2, if_pos (.inr (.inl ⟨by omega, k8⟩))]
      have Hm := hide hm
      clear hm k8 k6 hk
      go_wp2_with (first | (go_at_call 56; refine ((unhide KT) _).mono ?_; rintro e w2 ⟨rfl, rfl⟩) | (go_at_call 57; refine (unhide HKC).mono ?_; rintro e w2 ⟨rfl, rfl⟩))
      go_ret2
      exact ptVE_no (unhide Hm) (by decide) (unhide Hb1)
  · have q1 : ((x.kind : Int) != 1) = true := by rw [hk]; rfl
    have q3 : ((x.kind : Int) != 3) = false := by rw [hk]; rfl
    have q4 : ((x.kind : Int) == 3) = true := by rw [hk]; rfl
    have i1 : ¬ (0 : Int) < (n : Int) := by omega
    clear i0 hemp
    by_cases k8 : ct = 0
    · have hn1 : ¬ ((x.kind ≠ 1 ∧ 0 < n) ∨ (x.kind ≠ 3 ∧ x.to.size ≠ 0) ∨ (x.kind = 3 ∧ ct ≠ 0)) := by omega
      subst k8
      have q8 : ((0 : Int) != 0) = false := rfl
      have Hn1 := hide hn1
      clear hn1 k6 hk
      by_cases k9 : 65536 < n
      · exact absurd k9 (by omega)
      · have hm : Vf.may x = 0 := by rw [unhide Hmay2, if_neg (unhide Hn1), if_neg k9]
        have b9 : ¬ (65536 : Int) < (n : Int) := by omega
        have Hm := hide hm
        clear hm k9
        go_wp2_with (first | (go_at_call 56; refine ((unhide KT) _).mono ?_; rintro e w2 ⟨rfl, rfl⟩) | (go_at_call 57; refine (unhide HKC).mono ?_; rintro e w2 ⟨rfl, rfl⟩) | (go_at_call 58; refine ((unhide KK) _).mono ?_; rintro e w2 ⟨rfl, hb3⟩; have v5b := (hb3.cell (p := ⟨w.heap.size, 5, none⟩) hlt1).trans v5; have Hb3 := hide hb3; clear hb3))
        go_ret2
        unfold PtVE
        rw [unhide Hm, unhide Hpl, unhide Hnp]
        exact ⟨A1, np, c1, rfl, fun _ => ⟨rfl, own_base (own_below (unhide Ho1) (unhide Hb3)) (by simp)⟩, ((unhide Hb1).trans ((unhide Hb3).mono (unhide Hb1).size))⟩
    · have q8 : (ct != 0) = true := by simp [k8]
      have hm : Vf.may x = 1 := by rw [unhide Hmay2, if_pos (.inr (.inr ⟨hk, k8⟩))]
      have Hm := hide hm
      clear hm k8 k6 hk
      go_wp2_with (first | (go_at_call 56; refine ((unhide KT) _).mono ?_; rintro e w2 ⟨rfl, rfl⟩) | (go_at_call 57; refine (unhide HKC).mono ?_; rintro e w2 ⟨rfl, rfl⟩) | (go_at_call 58; refine ((unhide KK) _).mono ?_; rintro e w2 ⟨rfl, hb3⟩; have v5b := (hb3.cell (p := ⟨w.heap.size, 5, none⟩) hlt1).trans v5; have Hb3 := hide hb3; clear hb3))
      go_ret2
      exact ptVE_no (unhide Hm) (by decide) ((unhide Hb1).trans ((unhide Hb3).mono (unhide Hb1).size))
end Go.Proofs.YtfegfmapdekkbaaGreatDoor
namespace Go.Proofs.YtfegfmapdekkbaaGreatDoor
set_option linter.unusedVariables false
set_option linter.unusedSimpArgs false
open Go.RowKit

theorem kids_snoc {F : List Vf.Nd} {L : List Pl} (hl : L.length = F.length) (h0 : 0 < F.length) (x : Vf.Nd) (p : Pl) (d : Nat) :
    kidsM (F ++ [x]) (L ++ [p]) d = kidsM F L d ++ (if x.up = d then [(.string x.name, ndV x p)] else []) := by
  unfold kidsM
  rw [List.zip_append hl.symm, List.drop_append_of_le_length (by rw [List.length_zip]; omega), List.filterMap_append]
  congr 1
  by_cases h : x.up = d
  · simp [h]
  · simp [h]
theorem kids_new {F : List Vf.Nd} {L : List Pl} (hF : Vf.Good F) : kidsM F L F.length = [] := by
  apply List.eq_nil_iff_forall_not_mem.2
  intro e he
  obtain ⟨i, x, p, h1, hz, hu, rfl⟩ := kids_mem.1 he
  have hx := (zip_at hz).1
  have := (hF.up i x hx h1).1
  have := (List.getElem?_eq_some_iff.1 hx).1
  omega
theorem snoc_at {α : Type} {l : List α} {a y : α} {i : Nat} (h : (l ++ [a])[i]? = some y) : (i < l.length ∧ l[i]? = some y) ∨ (i = l.length ∧ y = a) := by
  by_cases hi : i < l.length
  · rw [List.getElem?_append_left hi] at h
    exact .inl ⟨hi, h⟩
  · rw [List.getElem?_append_right (by omega)] at h
    have h0 : i - l.length = 0 := by
      have := (List.getElem?_eq_some_iff.1 h).1
      simp at this
      omega
    rw [h0] at h
    exact .inr ⟨by omega, by simpa using h.symm⟩
/-- The row's own block. -/
theorem row_blk {w : World} {base n c k : Nat} {e : TypeId} {A : Option Addr} {xs : List Value} (h : w.ownsRow base e 1 (.slice A n c) n xs) (hk : (Value.slice A n c).ownBlock = some k) : ∃ cs, w.heap[k]? = some (.cells cs e (0, 0)) := by
  rcases h.2 with ⟨h1, h2⟩ | ⟨g, cap, cur, hv, hbg, hh, hcap⟩
  · rw [h1] at hk; cases hk
  · rw [hv] at hk
    have : g = k := by simpa [Value.ownBlock] using hk
    exact ⟨cur, this ▸ hh⟩
section
variable {w w' : World} {lo f c : Nat} {A : Option Addr} {F : List Vf.Nd} {L : List Pl}
theorem FsM.addNd (h : FsM w lo f A c F L) (hF : Vf.Good F) (x : Vf.Nd) (p : Pl) (xu : Vf.Nd) (pu : Pl) (hxu : F[x.up]? = some xu) (hpu : L[x.up]? = some pu) (hku : xu.m.kind = 2) (A' : Option Addr) (c' : Nat)
    (hrow : w'.ownsRow lo 89 1 (.slice A' (F.length + 1) c') (F.length + 1) ((F.zip L).map (fun y => ndV y.1 y.2) ++ [ndV x p]))
    (hfs : Blk w' f 62 [.slice A' (F.length + 1) c'])
    (hmap : MapG w' pu.g .string (kidsM F L x.up ++ [(.string x.name, ndV x p)]))
    (hk : ∀ k, lo ≤ k → k < w.heap.size → k ≠ f → k ≠ pu.g → (Value.slice A F.length c).ownBlock ≠ some k → w'.heap[k]? = w.heap[k]?)
    (hq : lo ≤ p.q) (hnd : Blk w' p.q (blkT x.m.kind) (ndC x F.length pu.q p))
    (hby : x.m.kind = 1 → p.n = x.data.length ∧ p.n ≤ p.c ∧ RdI w' lo 5 1 p.A p.n (x.data.map fun b => Value.int .u8 (b.toNat : Nat)))
    (hdm : x.m.kind = 2 → lo ≤ p.g ∧ w.heap.size ≤ p.g ∧ MapG w' p.g .string []) : FsM w' lo f A' c' (F ++ [x]) (L ++ [p]) := by
  have hpos := Vf.good_pos hF
  have hul : x.up < F.length := (List.getElem?_eq_some_iff.1 hxu).1
  have hgu := (h.map x.up xu pu hxu hpu hku).2
  obtain ⟨esu, clku, hmu, _⟩ := hgu.there
  have hcells : ∀ k cs t fz, lo ≤ k → w.heap[k]? = some (.cells cs t fz) → t ≠ 62 → t ≠ 89 → w'.heap[k]? = w.heap[k]? := by
    intro k cs t fz hlo hb h1 h2
    refine hk k hlo (Array.getElem?_eq_some_iff.1 hb).1 ?_ ?_ ?_
    · rintro rfl
      have := h.fs
      unfold Blk at this
      rw [hb] at this
      injection this with this
      injection this with _ h3
      exact h1 h3
    · rintro rfl
      rw [hb] at hmu
      cases hmu
    · intro e
      obtain ⟨cs2, h3⟩ := row_blk h.row e
      rw [hb] at h3
      injection h3 with h3
      injection h3 with _ h4
      exact h2 h4
  have hbt : ∀ k, blkT k ≠ 62 ∧ blkT k ≠ 89 := by
    intro k
    unfold blkT
    split
    · exact ⟨by decide, by decide⟩
    · split
      · exact ⟨by decide, by decide⟩
      · exact ⟨by decide, by decide⟩
  have hL : ∀ {i : Nat} {y : Vf.Nd} {r : Pl}, (F ++ [x])[i]? = some y → (L ++ [p])[i]? = some r → (i < F.length ∧ F[i]? = some y ∧ L[i]? = some r) ∨ (i = F.length ∧ y = x ∧ r = p) := by
    intro i y r h1 h2
    have hll := h.len
    rcases snoc_at h1 with ⟨a1, a2⟩ | ⟨a1, a2⟩
    · rcases snoc_at h2 with ⟨b1, b2⟩ | ⟨b1, b2⟩
      · exact .inl ⟨a1, a2, b2⟩
      · omega
    · rcases snoc_at h2 with ⟨b1, b2⟩ | ⟨b1, b2⟩
      · omega
      · exact .inr ⟨a1, a2, b2⟩
  have hup : ∀ {j : Nat} {r : Pl}, L[j]? = some r → (L ++ [p])[j]? = some r := fun hr => by
    rw [List.getElem?_append_left (List.getElem?_eq_some_iff.1 hr).1]
    exact hr
  refine ⟨?_, h.lf, ?_, ?_, ?_, ?_, ?_, ?_⟩
  · rw [List.length_append, List.length_append, h.len]; rfl
  · rw [List.length_append]; exact hfs
  · rw [List.length_append, List.zip_append h.len.symm, List.map_append]; exact hrow
  · intro i y r h1 h2
    rcases hL h1 h2 with ⟨hi, h1, h2⟩ | ⟨rfl, rfl, rfl⟩
    · obtain ⟨a, u, b, d⟩ := h.nd i y r h1 h2
      refine ⟨a, u, hup b, ?_⟩
      unfold Blk
      rw [hcells r.q _ _ _ a d (hbt _).1 (hbt _).2]
      exact d
    · exact ⟨hq, pu, hup hpu, hnd⟩
  · intro i y r h1 h2 h3
    rcases hL h1 h2 with ⟨hi, h1, h2⟩ | ⟨rfl, rfl, rfl⟩
    · obtain ⟨a, b, d⟩ := h.byt i y r h1 h2 h3
      refine ⟨a, b, d.keep fun k o hlo ho ⟨cs, fz, e⟩ => ?_⟩
      subst e
      rw [hcells k _ _ _ hlo ho (by decide) (by decide)]
      exact ho
    · exact hby h3
  · intro i y r h1 h2 h3
    rcases hL h1 h2 with ⟨hi, h1, h2⟩ | ⟨rfl, rfl, rfl⟩
    · obtain ⟨a, b⟩ := h.map i y r h1 h2 h3
      refine ⟨a, ?_⟩
      rw [kids_snoc h.len hpos]
      by_cases hiu : x.up = i
      · subst hiu
        have e1 : r = pu := Option.some.inj (h2.symm.trans hpu)
        subst e1
        rw [if_pos rfl]
        exact hmap
      · rw [if_neg hiu, List.append_nil]
        obtain ⟨es, clk, hm, _⟩ := b.there
        refine b.keep (hk r.g a b.lt ?_ ?_ ?_)
        · rintro rfl
          have := h.fs
          unfold Blk at this
          rw [hm] at this
          cases this
        · intro e
          exact hiu (h.one i x.up y xu r pu h1 hxu h2 hpu h3 hku e).symm
        · intro e
          obtain ⟨cs2, h4⟩ := row_blk h.row e
          rw [hm] at h4
          cases h4
    · obtain ⟨a, _, b⟩ := hdm h3
      refine ⟨a, ?_⟩
      rw [kids_snoc h.len hpos, kids_new hF, if_neg (by omega)]
      exact b
  · intro i j y z r s h1 h2 h3 h4 h5 h6 e
    rcases hL h1 h3 with ⟨hi, a1, a3⟩ | ⟨ei, ey, er⟩
    · rcases hL h2 h4 with ⟨hj, a2, a4⟩ | ⟨ej, ez, es⟩
      · exact h.one i j y z r s a1 a2 a3 a4 h5 h6 e
      · have := (h.map i y r a1 a3 h5).2.lt
        subst ez es
        have := (hdm h6).2.1
        omega
    · rcases hL h2 h4 with ⟨hj, a2, a4⟩ | ⟨ej, ez, es⟩
      · have := (h.map j z s a2 a4 h6).2.lt
        subst ey er
        have := (hdm h5).2.1
        omega
      · omega
end
/-- 'm[x] = v' of a new key at the operation. -/
theorem wpList_updG {P : Program} {t kt e : TypeId} {d : TypeDesc} {w : World} {g : Nat} {m : List (Value × Value)} {x v : Value} {ops : Array Oper} {rest : List Oper} {o : Oper} {a : Act} {Q : Exit → Act → World → Prop} (hgd : o.guard = none) (mo xo vo : Operand) (ho : o.op = .mapUpdate t mo xo vo)
    (ht : P.underlying t = some (.map kt e)) (hk : P.underlying kt = some d) (hik : Go.MapKept.IsKey d x) (hmo : a.eval mo = .map (some g)) (hxo : a.eval xo = x) (hvo : a.eval vo = v) (h : MapG w g d m) (hx : ∀ p ∈ m, p.1 ≠ x)
    (hK : ∀ w', MapG w' g d (m ++ [(x, v)]) → w.grownBy w' (some g) → w'.heap.size = w.heap.size → wpList P ops Q rest (a.put o.dst undef) w') : wpList P ops Q (o :: rest) a w := by
  obtain ⟨w', hrun, h1, h2, h3⟩ := run_putG (v := v) ht hk hik h hx
  refine wpList_plain hgd fun K hK' => ?_
  unfold Oper.wp
  simp [execOp, ho, hmo, hxo, hvo, hrun, Result.andThen]
  exact hK' _ _ (hK w' h1 h2 h3)
end Go.Proofs.YtfegfmapdekkbaaGreatDoor
namespace Go.Proofs.YtfegfmapdekkbaaGreatDoor
set_option linter.unusedVariables false
set_option linter.unusedSimpArgs false
open Go.RowKit
theorem own_keepB' {W W' : World} {base n : Nat} {e : TypeId} {u : Value} {xs : List Value} (h : W.ownsRow base e 1 u n xs) (hk : ∀ g, u.ownBlock = some g → W'.heap[g]? = W.heap[g]?) : W'.ownsRow base e 1 u n xs :=
  ⟨h.1, h.2.imp id fun ⟨g, cap, cur, e1, e2, e3, r⟩ => ⟨g, cap, cur, e1, e2, (hk g (by rw [e1]; rfl)).trans e3, r⟩⟩
section
variable {w1 V V2 V3 : World} {lo f c : Nat} {A : Option Addr} {F : List Vf.Nd} {L : List Pl}
theorem FsM.fOwn (h : FsM w1 lo f A c F L) : (Value.slice A F.length c).ownBlock ≠ some f := by
  intro e
  obtain ⟨cs, h1⟩ := row_blk h.row e
  have h2 := h.fs
  unfold Blk at h2
  rw [h1] at h2
  injection h2 with h2
  injection h2 with _ h3
  exact absurd h3 (by decide)
theorem FsM.fMap (h : FsM w1 lo f A c F L) {g : Nat} {m : List (Value × Value)} (hm : MapG w1 g .string m) : f ≠ g := by
  rintro rfl
  obtain ⟨es, clk, h1, _⟩ := hm.there
  have h2 := h.fs
  unfold Blk at h2
  rw [h1] at h2
  cases h2
theorem FsM.ownMap (h : FsM w1 lo f A c F L) {g : Nat} {m : List (Value × Value)} (hm : MapG w1 g .string m) : (Value.slice A F.length c).ownBlock ≠ some g := by
  intro e
  obtain ⟨cs, h1⟩ := row_blk h.row e
  obtain ⟨es, clk, h2, _⟩ := hm.there
  rw [h1] at h2
  cases h2
/-- f's block stands behind the map's update, and behind the append. -/
theorem FsM.addF (h : FsM w1 lo f A c F L) {xu : Vf.Nd} {pu : Pl} {up : Nat} (hxu : F[up]? = some xu) (hpu : L[up]? = some pu) (hku : xu.m.kind = 2) (hb : Below w1.heap.size w1 V) (hg2 : V.grownBy V2 (some pu.g)) :
    Blk V2 f 62 [.slice A F.length c] ∧ V2.ownsRow lo 89 1 (.slice A F.length c) F.length ((F.zip L).map fun y => ndV y.1 y.2) ∧ w1.heap.size ≤ V2.heap.size ∧ ∀ V3 : World, V2.grownBy V3 (Value.slice A F.length c).ownBlock → Blk V3 f 62 [.slice A F.length c] := by
  have hm := (h.map up xu pu hxu hpu hku).2
  have hkp : ∀ k, k < w1.heap.size → k ≠ pu.g → V2.heap[k]? = w1.heap[k]? := fun k hk hne => (hg2.block k (Nat.lt_of_lt_of_le hk hb.size) (fun e => hne (by injection e))).trans (hb.block k hk)
  have h2 : Blk V2 f 62 [.slice A F.length c] := (hkp f h.fs.lt (h.fMap hm)).trans h.fs
  refine ⟨h2, ?_, Nat.le_trans hb.size hg2.size, fun V3 hg3 => (hg3.block f h2.lt (fun e => h.fOwn e.symm)).trans h2⟩
  refine own_keepB' h.row (fun g hg => hkp g (h.row.lt g hg).2 ?_)
  rintro rfl
  exact h.ownMap hm hg
theorem FsM.addFin (h : FsM w1 lo f A c F L) (hF : Vf.Good F) (x : Vf.Nd) (p : Pl) (xu : Vf.Nd) (pu : Pl) (hxu : F[x.up]? = some xu) (hpu : L[x.up]? = some pu) (hku : xu.m.kind = 2) (hlo : lo ≤ w1.heap.size)
    (hb : Below w1.heap.size w1 V) (hm2 : MapG V2 pu.g .string (kidsM F L x.up ++ [(.string x.name, ndV x p)])) (hg2 : V.grownBy V2 (some pu.g)) (A' : Option Addr) (c' : Nat)
    (ho3 : V3.ownsRow lo 89 1 (.slice A' (F.length + 1) c') (F.length + 1) ((F.zip L).map (fun y => ndV y.1 y.2) ++ [ndV x p])) (hg3 : V2.grownBy V3 (Value.slice A F.length c).ownBlock)
    (hq : w1.heap.size ≤ p.q) (hnd : Blk V p.q (blkT x.m.kind) (ndC x F.length pu.q p))
    (hby : x.m.kind = 1 → p.n = x.data.length ∧ p.n ≤ p.c ∧ RdI V w1.heap.size 5 1 p.A p.n (x.data.map fun b => Value.int .u8 (b.toNat : Nat)))
    (hdm : x.m.kind = 2 → w1.heap.size ≤ p.g ∧ MapG V p.g .string []) :
    FsM (V3.setCell ⟨f, 0, none⟩ (.slice A' (F.length + 1) c')) lo f A' c' (F ++ [x]) (L ++ [p]) ∧ Below lo w1 (V3.setCell ⟨f, 0, none⟩ (.slice A' (F.length + 1) c')) := by
  have hm := (h.map x.up xu pu hxu hpu hku).2
  obtain ⟨hf2, hr2, hs2, hf3'⟩ := h.addF hxu hpu hku hb hg2
  have hf3 := hf3' V3 hg3
  have hgl := hm.lt
  have hfl := h.fs.lt
  have hol : ∀ k, (Value.slice A F.length c).ownBlock = some k → lo ≤ k ∧ k < w1.heap.size := fun k hk => h.row.lt k hk
  have hset : ∀ k, k ≠ f → (V3.setCell ⟨f, 0, none⟩ (.slice A' (F.length + 1) c')).heap[k]? = V3.heap[k]? := fun k hk => heap_setCell_other _ _ _ _ hk
  have hV : ∀ k, k < V.heap.size → k ≠ f → k ≠ pu.g → (Value.slice A F.length c).ownBlock ≠ some k → (V3.setCell ⟨f, 0, none⟩ (.slice A' (F.length + 1) c')).heap[k]? = V.heap[k]? := fun k hk h1 h2 h3 =>
    (hset k h1).trans ((hg3.block k (Nat.lt_of_lt_of_le hk hg2.size) (fun e => h3 e.symm)).trans (hg2.block k hk (fun e => h2 (by injection e))))
  have hVn : ∀ k, w1.heap.size ≤ k → k < V.heap.size → (V3.setCell ⟨f, 0, none⟩ (.slice A' (F.length + 1) c')).heap[k]? = V.heap[k]? := fun k hk hl =>
    hV k hl (by omega) (by omega) (fun e => by have := hol k e; omega)
  refine ⟨h.addNd hF x p xu pu hxu hpu hku A' c' ?_ ?_ ?_ ?_ ?_ ?_ ?_ ?_, ?_⟩
  · refine own_keepB' ho3 (fun g hg => hset g ?_)
    rintro rfl
    obtain ⟨cs, h1⟩ := row_blk ho3 hg
    unfold Blk at hf3
    rw [h1] at hf3
    injection hf3 with hf3
    injection hf3 with _ h3
    exact absurd h3 (by decide)
  · exact hf3.set 0 _
  · refine hm2.keep ((hset _ (fun e => h.fMap hm e.symm)).trans (hg3.block _ hm2.lt (fun e => h.ownMap hm e.symm)))
  · intro k h1 h2 h3 h4 h5
    exact (hV k (Nat.lt_of_lt_of_le h2 hb.size) h3 h4 h5).trans (hb.block k h2)
  · exact Nat.le_trans hlo hq
  · exact (hVn _ hq hnd.lt).trans hnd
  · intro h1
    obtain ⟨a, b, d1, d2⟩ := hby h1
    refine ⟨a, b, d1, d2.imp id fun ⟨bb, off, cs, fz, e, h4, h5, h6⟩ => ⟨bb, off, cs, fz, e, Nat.le_trans hlo h4, ?_, h6⟩⟩
    exact (hVn _ h4 (Array.getElem?_eq_some_iff.1 h5).1).trans h5
  · intro h1
    obtain ⟨a, b⟩ := hdm h1
    exact ⟨Nat.le_trans hlo a, a, b.keep (hVn _ a b.lt)⟩
  · have b1 : Below lo w1 V := hb.mono hlo
    have b2 : Below lo w1 V2 := b1.grown hg2 (Nat.le_trans hlo b1.size) (fun k hk => by injection hk with hk; rw [← hk]; exact (h.map x.up xu pu hxu hpu hku).1)
    have b3 : Below lo w1 V3 := b2.grown hg3 (Nat.le_trans hlo b2.size) (fun k hk => (hol k hk).1)
    exact b3.setCell h.lf _
end
end Go.Proofs.YtfegfmapdekkbaaGreatDoor
namespace Go.Proofs.YtfegfmapdekkbaaGreatDoor
set_option linter.unusedVariables false
set_option linter.unusedSimpArgs false
open Go.RowKit Go.ChangeShapes Go.WideShapes

theorem cell_lt {w : World} {a : Addr} {v : Value} (h : w.cell? a = some v) : a.block < w.heap.size := by
  unfold World.cell? at h
  split at h
  · rename_i hb
    exact (Array.getElem?_eq_some_iff.1 hb).1
  · cases h

section
variable {H : Type} {enc : TypeId × Value → H} {P : Program} {w : World} {base : Nat} {held : Bool} {t e : TypeId} {A : Option Addr} {n c : Nat} {d : DataW H} {p : List MemPlace}

theorem open_nums_rd {k : IntKind} (ht : P.underlying t = some (.slice e)) (he : P.underlying e = some (.int k)) (hc : P.cellsOf e = 1)
    (h : DataW.Trod enc P w base (fun _ => true) held t (.slice A n c) d p) :
    ∃ zs : List Int, Rd w w.heap.size 1 A n (zs.map (Value.int k)) ∧ n ≤ c ∧ c ≤ maxLen ∧ ∀ z ∈ zs, (Lit.int k z).wf = true := by
  obtain ⟨fuel, hf⟩ := h
  rcases open_ints ht he hc hf with ⟨h1, h2⟩ | ⟨a, len, cap, zs, h1, hb, hl, hm, hz, hx, hcell, hwz⟩
  · simp [Value.cells] at h1
    obtain ⟨rfl, rfl, rfl⟩ := h1
    exact ⟨[], Rd.none_ _ _ _ _, Nat.le_refl _, by unfold maxLen; omega, by simp⟩
  · simp [Value.cells] at h1
    obtain ⟨rfl, rfl, rfl⟩ := h1
    simp only [if_true] at hz
    refine ⟨zs.take n, ⟨by simp [hz]; omega, ?_⟩, hl, hm, fun z hz => hwz z (List.mem_of_mem_take hz)⟩
    by_cases h0 : n = 0
    · subst h0; exact .inl rfl
    · obtain ⟨b, off, rfl, hc2⟩ := ints_at hcell (by omega)
      have hblk := cell_lt (hc2 0 (by omega))
      refine .inr ⟨b, off, rfl, hblk, fun j u hu => ?_⟩
      simp only [List.getElem?_map, Option.map_eq_some_iff] at hu
      obtain ⟨z, hz1, rfl⟩ := hu
      have hj : j < n := by
        have := (List.getElem?_eq_some_iff.1 hz1).1
        simp at this
        omega
      rw [List.getElem?_take_of_lt hj] at hz1
      rw [hc2 j (by omega), List.getD_eq_getElem?_getD, hz1]
      rfl

theorem u8_of {z : Int} (h : (Lit.int .u8 z).wf = true) : ((UInt8.ofNat z.toNat).toNat : Int) = z := by
  have hb : 0 ≤ z ∧ z ≤ 255 := by
    simpa [Lit.wf, IntKind.min, IntKind.max, IntKind.signed, IntKind.bits] using h
  simp
  omega

theorem open_bytes_rd (ht : P.underlying t = some (.slice e)) (he : P.underlying e = some (.int .u8)) (hc : P.cellsOf e = 1)
    (h : DataW.Trod enc P w base (fun _ => true) held t (.slice A n c) d p) :
    ∃ b : List UInt8, Rd w w.heap.size 1 A n (b.map fun c => .int .u8 c.toNat) ∧ n ≤ c ∧ c ≤ maxLen := by
  obtain ⟨zs, h1, h2, h3, h4⟩ := open_nums_rd ht he hc h
  refine ⟨zs.map fun z => UInt8.ofNat z.toNat, ?_, h2, h3⟩
  have e1 : (zs.map fun z => UInt8.ofNat z.toNat).map (fun c : UInt8 => Value.int .u8 c.toNat) = zs.map (Value.int .u8) := by
    rw [List.map_map]
    refine List.map_congr_left fun z hz => ?_
    show Value.int .u8 ((UInt8.ofNat z.toNat).toNat : Int) = _
    rw [u8_of (h4 z hz)]
  rw [e1]
  exact h1

theorem open_ints_rd (ht : P.underlying t = some (.slice e)) (he : P.underlying e = some (.int .i64)) (hc : P.cellsOf e = 1)
    (h : DataW.Trod enc P w base (fun _ => true) held t (.slice A n c) d p) :
    ∃ zs : List Int, Rd w w.heap.size 1 A n (zs.map (Value.int .i64)) ∧ n ≤ c ∧ c ≤ maxLen ∧ ∀ z ∈ zs, -9223372036854775808 ≤ z ∧ z ≤ 9223372036854775807 := by
  obtain ⟨zs, h1, h2, h3, h4⟩ := open_nums_rd ht he hc h
  refine ⟨zs, h1, h2, h3, fun z hz => ?_⟩
  have := h4 z hz
  simpa [Lit.wf, IntKind.min, IntKind.max, IntKind.signed, IntKind.bits] using this

theorem open_strs_rd (ht : P.underlying t = some (.slice e)) (he : P.underlying e = some .string) (hc : P.cellsOf e = 1)
    (h : DataW.Trod enc P w base (fun _ => true) held t (.slice A n c) d p) :
    ∃ ss : List ByteArray, Rd w w.heap.size 1 A n (ss.map Value.string) ∧ n ≤ c ∧ c ≤ maxLen ∧ ∀ s ∈ ss, s.size ≤ maxLen := by
  obtain ⟨fuel, hf⟩ := h
  rcases open_strings ht he hc hf with ⟨h1, h2⟩ | ⟨a, len, cap, zs, h1, hb, hl, hm, hz, hx, hcell, hwz⟩
  · simp [Value.cells] at h1
    obtain ⟨rfl, rfl, rfl⟩ := h1
    exact ⟨[], Rd.none_ _ _ _ _, Nat.le_refl _, by unfold maxLen; omega, by simp⟩
  · simp [Value.cells] at h1
    obtain ⟨rfl, rfl, rfl⟩ := h1
    simp only [if_true] at hz
    refine ⟨zs.take n, ⟨by simp [hz]; omega, ?_⟩, hl, hm, fun z hz => hwz z (List.mem_of_mem_take hz)⟩
    by_cases h0 : n = 0
    · subst h0; exact .inl rfl
    · obtain ⟨b, off, spot⟩ := a
      have hs : spot = none := by simpa [Addr.add] using World.cell?_spot (hcell 0 (by omega))
      subst hs
      have hc2 : ∀ i, i < zs.length → w.cell? ⟨b, off + i, none⟩ = some (.string (zs.getD i ByteArray.empty)) := fun j hj => by
        rw [← Go.WideShapes.add_plain]; exact hcell j hj
      have hblk := cell_lt (hc2 0 (by omega))
      refine .inr ⟨b, off, rfl, hblk, fun j u hu => ?_⟩
      simp only [List.getElem?_map, Option.map_eq_some_iff] at hu
      obtain ⟨z, hz1, rfl⟩ := hu
      have hj : j < n := by
        have := (List.getElem?_eq_some_iff.1 hz1).1
        simp at this
        omega
      rw [List.getElem?_take_of_lt hj] at hz1
      rw [hc2 j (by omega), List.getD_eq_getElem?_getD, hz1]
      rfl
end
end Go.Proofs.YtfegfmapdekkbaaGreatDoor
