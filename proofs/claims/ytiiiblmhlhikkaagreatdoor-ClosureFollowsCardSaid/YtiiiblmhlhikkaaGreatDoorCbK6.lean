/- Texts of the claim LawCloManyCard (Vfs12, Elf4, Elf5, Elf6, Elf6p, Elf7, Dy13): what the functions that the statement reaches compute, and plain laws of it. Conditions: those that each theorem states. -/
import Derived.Test.YtiiiblmhlhikkaaGreatDoorCbK4
import Derived.Test.YtiiiblmhlhikkaaGreatDoorCbK5
import Derived.Test.YtiiiblmhlhikkaaGreatDoorCbK2
import Derived.Maps.OwnOps
import Derived.Maps.OwnSet
import Derived.Recover
import Derived.Test.YtiiiblmhlhikkaaGreatDoorCbK3
set_option linter.unusedVariables false
set_option linter.unusedSimpArgs false
namespace Go.Proofs.YtiiiblmhlhikkaaGreatDoor
open Go.RowKit
theorem as_file (v : Value) (w : World) : (Instr.typeAssert (.iface 126 v) 123 126 true).run Tryz.prog w = .ok (.tuple #[v, .bool true]) w := by
 simp [Instr.typeAssert, run_underlying Tryz.underlying126, go_sem, Result.andThen]
theorem zero_file (w : World) : (zeroValue 126).run Tryz.prog w = .ok (.pointer none) w := by kernel_rfl
theorem link_no_file (v : Value) (w : World) : (Instr.typeAssert (.iface 129 v) 123 126 true).run Tryz.prog w = .ok (.tuple #[.pointer none, .bool false]) w := by
 simp [Instr.typeAssert, run_underlying Tryz.underlying126, zero_file, go_sem, Result.andThen]
def ReadVE (F : List Vf.Nd) (ino off n : Int) (w : World) (e : Ending) (w' : World) : Prop :=
 ∃ A' c', e = .returned (.tuple #[.slice A' (Vf.readOf F ino off n).1.length c', .int .i64 (Vf.readOf F ino off n).2]) /\ w'.ownsRow w.heap.size 5 1 (.slice A' (Vf.readOf F ino off n).1.length c') (Vf.readOf F ino off n).1.length (bys (Vf.readOf F ino off n).1) /\ Below w.heap.size w w'
theorem xJ7 {F : List Vf.Nd} {ino off n : Int} {w w' : World} {er : Int} (h : Vf.readOf F ino off n = ([], er)) (hb : Below w.heap.size w w') : ReadVE F ino off n w (.returned (.tuple #[.slice none 0 0, .int .i64 er])) w' := by
 unfold ReadVE
 rw [h]
 exact ⟨none, 0, rfl, World.ownsRow_nil _ _ _ _, hb⟩
set_option maxRecDepth 100000 in
set_option maxHeartbeats 4000000 in
theorem read_any (F : List Vf.Nd) (L : List Pl) (lo f c : Nat) (A : Option Addr) (ino off n : Int) (w : World) (hF : Vf.Good F) (h : FsM w lo f A c F L) (hn : F.length <= 65) :
  Calls Tryz.prog 49 #[ptrV f, .int .i64 ino, .int .i64 off, .int .i64 n] w (ReadVE F ino off n w) := by
 have KM := meta_any F L f c w.heap.size A ino w h.toR (Nat.le_refl _) hn hF.kind
 have KN : ∀ w', Below w.heap.size w w' -> Calls Tryz.prog 61 #[.pointer (some ⟨f, 0, none⟩), .int .i64 ino] w' fun e w2 => e = .returned (nodeV F L ino) /\ w' = w2 :=
  fun w' hb => uJs F L f c _ A ino w' (h.belowSz hb).toR hn
 unfold ptrV metaV at KM
 obtain ⟨⟨⟨mk, mm, mu, mg, ms⟩, me⟩, hm⟩ : ∃ r, Vf.metaOf F ino = r := ⟨_, rfl⟩
 rw [hm] at KM
 dsimp only at KM
 have HKM := zJ2 KM
 have HKN := zJ2 KN
 have HF := zJ2 hF
 have H := zJ2 h
 have Hm := zJ2 hm
 unfold ptrV
 clear KM KN hF h hm
 go_enter Tryz.func49, Tryz.ntmps49
 go_wp2_with fail
 refine (zJ1 HKM).mono ?_
 rintro e w1 ⟨rfl, hb1⟩
 have hb2 := (zJ1 (zJ2 hb1)).alloc hb1.size (.cells #[.int .u8 (mk : Nat), .int .u16 (mm : Nat), .int .u32 (mu : Nat), .int .u32 (mg : Nat), .int .i64 (ms : Nat)] 70)
 have Hb2 := zJ2 hb2
 clear hb1 hb2
 by_cases hme : me = 0
 ·subst hme
  have hre : Vf.readOf F ino off n = if mk = 2 then ([], 9) else if mk = 3 \/ off < 0 \/ n < 0 then ([], 1) else (((Vf.nd F ino.toNat).data.drop off.toNat).take n.toNat, 0) := by
   unfold Vf.readOf
   rw [zJ1 Hm]
   simp
  have q0 : ((0 : Int) != 0) = false := rfl
  obtain ⟨i, hio, x, hx, hmx⟩ : ∃ i : Nat, ino = (i : Int) /\ ∃ x, F[i]? = some x /\ (⟨mk, mm, mu, mg, ms⟩ : Vf.Meta) = x.m := by
   have h := zJ1 Hm
   unfold Vf.metaOf at h
   split at h
   ·injection h with _ h2; cases h2
   ·next ho =>
    obtain ⟨i, rfl⟩ := Int.eq_ofNat_of_zero_le (show 0 <= ino by omega)
    have hi : i < F.length := by simp at ho; omega
    refine ⟨i, rfl, F[i], List.getElem?_eq_getElem hi, ?_⟩
    injection h with h1 _
    rw [Int.toNat_natCast, Vf.nd_eq (List.getElem?_eq_getElem hi)] at h1
    exact h1.symm
  have hmk : x.m.kind = mk := by rw [<- hmx]
  obtain ⟨p, hp, _, _⟩ := (zJ1 H).at_ hx
  have en := uJt (zJ1 H) hx hp
  rw [<- hio] at en
  have hk3 := kind3 (zJ1 HF) hx
  rw [hmk] at hk3 en
  by_cases h2 : mk = 2
  ·have b1 : (((mk : Nat) : Int) == 2) = true := by rw [h2]; rfl
   rw [if_pos h2] at hre
   have Hre := zJ2 hre
   clear hre hmx hx hp en hk3 hmk h2 hio
   go_wp2_with fail
   go_ret2
   exact xJ7 (zJ1 Hre) (zJ1 Hb2)
  ·have b1 : (((mk : Nat) : Int) == 2) = false := by rw [beq_eq_false_iff_ne]; omega
   rw [if_neg h2] at hre
   have hHW := ((zJ1 H).belowSz (zJ1 Hb2))
   by_cases h3 : mk = 3
   ·have et : kindT mk = 129 := by rw [h3]; rfl
    rw [et] at en
    rw [if_pos (.inl h3)] at hre
    have ha := link_no_file (.pointer (some ⟨p.q, 0, none⟩))
    have KN2 := (zJ1 HKN) _ (zJ1 Hb2)
    rw [en] at KN2
    have HKN2 := zJ2 KN2
    have Hre := zJ2 hre
    clear hre hmx hx hp en hk3 hmk h2 h3 hio et hHW KN2
    go_wp2_with fail
    refine (zJ1 HKN2).mono ?_
    rintro e w3 ⟨rfl, rfl⟩
    go_wp2_with fail
    go_ret2
    exact xJ7 (zJ1 Hre) (zJ1 Hb2)
   ·have h1 : mk = 1 := by omega
    have et : kindT mk = 126 := by rw [h1]; rfl
    rw [et] at en
    have ha := as_file (.pointer (some ⟨p.q, 0, none⟩))
    have KN2 := (zJ1 HKN) _ (zJ1 Hb2)
    rw [en] at KN2
    have HKN2 := zJ2 KN2
    by_cases ho : off < 0 \/ n < 0
    ·rw [if_pos (.inr ho)] at hre
     have Hre := zJ2 hre
     have hon : off < 0 \/ (¬ off < 0 /\ n < 0) := by omega
     clear hre hmx hx hp en hk3 hmk h2 h3 hio et hHW KN2 h1 ho
     rcases hon with o1 | ⟨o1, o2⟩
     all_goals
      go_wp2_with fail
      refine (zJ1 HKN2).mono ?_
      rintro e w3 ⟨rfl, rfl⟩
      go_wp2_with fail
      go_ret2
      exact xJ7 (zJ1 Hre) (zJ1 Hb2)
    ·rw [if_neg (by omega)] at hre
     obtain ⟨_, u, _, hbk⟩ := hHW.nd i x p hx hp
     obtain ⟨hpn, hpc, hby⟩ := hHW.byt i x p hx hp (by rw [hmk]; exact h1)
     have c8 := hbk.cell (i := 8) rfl
     have e8 : lastV x p = .slice p.A p.n p.c := by unfold lastV; rw [if_neg (by rw [hmk]; exact h2), if_pos (by rw [hmk]; exact h1)]
     rw [e8] at c8
     have hndx : Vf.nd F ino.toNat = x := by rw [hio, Int.toNat_natCast, Vf.nd_eq hx]
     rw [hndx] at hre
     clear hndx
     have hsz := ((zJ1 HF).size i x hx).2.2
     obtain ⟨o, rfl⟩ := Int.eq_ofNat_of_zero_le (show 0 <= off by omega)
     obtain ⟨m, rfl⟩ := Int.eq_ofNat_of_zero_le (show 0 <= n by omega)
     simp only [Int.toNat_natCast] at hre
     obtain ⟨k, hk⟩ : ∃ k, min o p.n = k := ⟨_, rfl⟩
     obtain ⟨j, hj⟩ : ∃ j, min m (p.n - k) = j := ⟨_, rfl⟩
     have hrd := hby.rd
     have hrd2 := ((hrd.from_ (k := k) (by omega) hpc).to_ (k := j) (by omega))
     have hbb : ((List.map (fun b => Value.int .u8 (b.toNat : Nat)) x.data).drop k).take j = bys ((x.data.drop o).take m) := by
      show ((bys x.data).drop k).take j = _
      unfold bys
      rw [<- List.map_drop, <- List.map_take]
      congr 1
      apply List.ext_getElem?
      intro t
      simp only [List.getElem?_take, List.getElem?_drop]
      by_cases h9 : t < j
      ·rw [if_pos h9, if_pos (by omega), show k = o by omega]
      ·rw [if_neg h9]
       split
       ·rw [List.getElem?_eq_none (by omega)]
       ·rfl
     rw [hbb] at hrd2
     have hdl : ((x.data.drop o).take m).length = j := by
      rw [List.length_take, List.length_drop]
      omega
     have r1 := fun w' => run_from (P := Tryz.prog) Tryz.underlying64 (e := 5) (by kernel_rfl) p.A p.n p.c k (by omega) w'
     have r2 := fun w' => run_to (P := Tryz.prog) Tryz.underlying64 (e := 5) (by kernel_rfl) (fromA p.A p.c k) (p.n - k) (p.c - k) j (by omega) w'
     have m1 : min (o : Int) (p.n : Int) = (k : Int) := by omega
     have m2 : min (m : Int) ((p.n - k : Nat) : Int) = (j : Int) := by omega
     have KC := fun w' (hb : Below _ (w1.alloc (.cells #[.int .u8 (mk : Nat), .int .u16 (mm : Nat), .int .u32 (mu : Nat), .int .u32 (mg : Nat), .int .i64 (ms : Nat)] 70)) w') => uJb (fromA p.A p.c k) j (p.c - k) _ ((x.data.drop o).take m) w' (hrd2.below hb) hb.size (by omega)
     have HKC := zJ2 KC
     have Hdl := zJ2 hdl
     have Hre := zJ2 hre
     have hon1 : ¬ (o : Int) < 0 := by omega
     have hon2 : ¬ (m : Int) < 0 := by omega
     obtain ⟨A3, hA3⟩ : ∃ A3, fromA p.A p.c k = A3 := ⟨_, rfl⟩
     rw [hA3] at r1 r2 HKC
     clear hre hmx hx hp en hk3 hmk h2 h3 hio et hHW KN2 h1 ho hbk hpn hpc hby e8 hsz hk hj hrd hrd2 hbb hdl KC hA3
     go_wp2_with fail
     refine (zJ1 HKN2).mono ?_
     rintro e w3 ⟨rfl, rfl⟩
     go_wp2_with fail
     go_quiet (fail)
     go_wp2_with fail
     refine ((zJ1 HKC) _ (below_drewN' (Below.refl _ _) _)).mono ?_
     rintro e w4 ⟨A5, c5, rfl, ho5, hb5⟩
     have hb6 := (below_drewN' (zJ1 Hb2) nq).trans (hb5.mono (zJ1 Hb2).size)
     have ho6 := zJd ho5 (zJ1 Hb2).size
     have Hb6 := zJ2 hb6
     have Ho6 := zJ2 ho6
     clear hb5 ho5 hb6 ho6
     go_wp2_with fail
     go_ret2
     unfold ReadVE
     rw [zJ1 Hre]
     dsimp only
     rw [zJ1 Hdl]
     exact ⟨A5, c5, rfl, zJ1 Ho6, zJ1 Hb6⟩
 ·have hre : Vf.readOf F ino off n = ([], me) := by
   unfold Vf.readOf
   rw [zJ1 Hm]
   simp [hme]
  have q0 : (me != 0) = true := by simp [hme]
  have Hre := zJ2 hre
  clear hre hme
  go_wp2_with fail
  go_ret2
  exact xJ7 (zJ1 Hre) (zJ1 Hb2)
theorem w64_eq (a b : Nat) (ha : a < 18446744073709551616) (hb : b < 18446744073709551616) : IntKind.u64.wrap ((a : Int) - (b : Int)) = ((El.w64 a b : Nat) : Int) := by
 rw [IntKind.wrap_u64]
 unfold El.w64
 omega
theorem loads_mem {l : List El.Sg} (h : ∀ s ∈ l, SgFit s) : ∀ s ∈ El.loads l, SgFit s := fun s hs => h s (List.mem_filter.1 hs).1
theorem loads_len (l : List El.Sg) : (El.loads l).length <= l.length := List.length_filter_le _ _
theorem xJb {α : Type} {p : α -> Bool} {l : List α} {k : Nat} {x : α} (h : (l.take k).find? p = none) (hx : l[k]? = some x) (hp : p x = false) : (l.take (k + 1)).find? p = none := by
 rw [List.take_add_one, hx, List.find?_append, h]
 simp [hp]
theorem find_hit {α : Type} {p : α -> Bool} {l : List α} {k : Nat} {x : α} (h : (l.take k).find? p = none) (hx : l[k]? = some x) (hp : p x = true) : l.find? p = some x := by
 have hk : k < l.length := (List.getElem?_eq_some_iff.1 hx).1
 have e : l = l.take k ++ x :: l.drop (k + 1) := by
  have e2 := List.drop_eq_getElem_cons hk
  have e3 : l[k] = x := (List.getElem?_eq_some_iff.1 hx).2
  rw [e3] at e2
  rw [<- e2, List.take_append_drop]
 rw [e, List.find?_append, h]
 simp [hp]
set_option maxHeartbeats 2000000 in
theorem filled_any (A : Option Addr) (n c B : Nat) (h : El.Hd) (s : El.Sg) (w : World) (hB : B <= w.heap.size) (hl : Rd w B 6 A n (segCells h.segs)) (hn : n <= 4294967296) (hf : ∀ x ∈ h.segs, SgFit x) (hs : SgFit s) :
  Calls Tryz.prog 137 #[.agg #[.int .u16 h.type, .int .u64 h.entry, .int .u64 h.phoff, .slice A n c], .agg #[.int .u32 s.kind, .int .u8 s.flags, .int .u64 s.off, .int .u64 s.addr, .int .u64 s.fsz, .int .u64 s.msz]] w fun e w' =>
   e = .returned (.bool (El.filled h s)) /\ Below w.heap.size w w' := by
 have hln : h.segs.length = n := by have := hl.1; rw [zJw] at this; omega
 have hll := loads_len h.segs
 have hlf := loads_mem hf
 have hfd : El.filled h s = match (El.loads h.segs).find? (El.holds s) with
  | some l => El.w64 s.off l.off == s.addr - l.addr
  | none => false := rfl
 have hload := fun (w' : World) (hb : Below w.heap.size w w') => loads_any A n c B h.segs h.type h.entry h.phoff w' (Nat.le_trans hB hb.size) (hl.below (hb.mono hB)) hn
 generalize El.loads h.segs = L at *
 generalize h.segs = SS at *
 obtain ⟨sk, sfl, so, sa, sf, sm⟩ := s
 obtain ⟨i1, i2, i3, i4, i5, i6⟩ := hs
 simp only at *
 have Hload := zJ2 hload
 have Hlf := zJ2 hlf
 have Hfd := zJ2 hfd
 clear hl hload hlf hfd hf
 go_enter Tryz.func137, Tryz.ntmps137
 go_wp2_with (go_at_call 172; refine ((zJ1 Hload) _ (((Below.refl _ _).alloc (Nat.le_refl _) _).alloc (by simp) _)).mono ?_; rintro e w1 ⟨A2, c2, rfl, hown, hb1⟩)
 have hb0 : Below w.heap.size w w1 := (((Below.refl _ _).alloc (Nat.le_refl _) _).alloc (by simp) _).trans (hb1.mono (by simp only [World.size_alloc]; omega))
 have hrd := Rd.of_own hown
 have Hrd := zJ2 hrd
 have hnb := (hb1.block (w.heap.size + 1) (by simp only [World.size_alloc]; omega)).trans (heap_alloc2_new _ _ _)
 have hnbl := lt_of_block hnb
 have Hnb := zJ2 hnb
 clear hrd hown hnb hb1
 have hb0s := hb0.size
 go_loopw [10] (fun i wr => ∃ k : Nat, k <= L.length /\ i = .int .i64 k /\ (L.take k).find? (El.holds ⟨sk, sfl, so, sa, sf, sm⟩) = none /\ Below w1.heap.size w1 wr) (fun i _ => L.length - (intOf i).toNat)
 case atStart => exact ⟨0, Nat.zero_le _, rfl, rfl, Below.refl _ _⟩
 case round =>
  obtain ⟨k, hk, rfl, hno, hb⟩ := hrel
  have Hno := zJ2 hno
  clear hno
  by_cases hlt : k < L.length
  ·obtain ⟨l, hlk⟩ : ∃ l, L[k]? = some l := ⟨_, List.getElem?_eq_getElem hlt⟩
   obtain ⟨b1, o1, rfl, hbb, c0, c1, c2', c3, c4, c5⟩ := wJb ((zJ1 Hrd).below hb) hlk
   obtain ⟨lk, lfl, lo, la, lf, lm⟩ := l
   obtain ⟨j1, j2, j3, j4, j5, j6⟩ := (zJ1 Hlf) _ (List.mem_of_getElem? hlk)
   simp only at j1 j2 j3 j4 j5 j6 c0 c1 c2' c3 c4 c5
   have hn2 := (hb.block _ hnbl).trans (zJ1 Hnb)
   have s2 := cell_of_row _ _ 2 _ _ _ hn2
   have s3 := cell_of_row _ _ 3 _ _ _ hn2
   have s4 := cell_of_row _ _ 4 _ _ _ hn2
   simp only [List.getElem?_toArray, List.getElem?_cons_zero, List.getElem?_cons_succ] at s2 s3 s4
   have hsr : w.heap.size + 1 < wr.heap.size := Nat.lt_of_lt_of_le hnbl hb.size
   have hbr : b1 < wr.heap.size := Nat.lt_of_lt_of_le hbb hb.size
   have hsz := hb.size
   have Hlk := zJ2 hlk
   have Hb := zJ2 hb
   clear hn2 hlk hb
   by_cases h1 : la <= sa
   ·have i1 : ((la : Nat) : Int) <= ((sa : Nat) : Int) := by omega
    by_cases h2 : sa - la + sf <= lf
    ·have i2 : decide (((sa : Nat) : Int) - ((la : Nat) : Int) + ((sf : Nat) : Int) <= ((lf : Nat) : Int)) = true := by simp; omega
     have hhit : El.filled h ⟨sk, sfl, so, sa, sf, sm⟩ = (El.w64 so lo == sa - la) := by
      rw [zJ1 Hfd, find_hit (zJ1 Hno) (zJ1 Hlk) (by simp [El.holds, h1, h2])]
     have Hhit := zJ2 hhit
     clear hhit h2
     go_wp2_with (go_at_call 84; refine (zJf _ _ _ _ (by omega) (by omega) (by omega) (by omega) (by omega)).mono ?_; rintro e w1 ⟨rfl, rfl⟩)
     go_ret
     refine ⟨?_, hb0.trans (((zJ1 Hb).alloc hsz _).mono hb0s)⟩
     rw [zJ1 Hhit]
     refine yJb ?_
     rw [w64_eq _ _ i3 j3, Bool.eq_iff_iff, beq_iff_eq, beq_iff_eq]
     omega
    ·have i2 : decide (((sa : Nat) : Int) - ((la : Nat) : Int) + ((sf : Nat) : Int) <= ((lf : Nat) : Int)) = false := by simp; omega
     have hno2 := xJb (zJ1 Hno) (zJ1 Hlk) (by simp [El.holds, h2])
     have Hno2 := zJ2 hno2
     clear hno2 h2
     go_wp2_with (go_at_call 84; refine (zJf _ _ _ _ (by omega) (by omega) (by omega) (by omega) (by omega)).mono ?_; rintro e w1 ⟨rfl, rfl⟩)
     go_roundw
     case rel => exact ⟨k + 1, by omega, by go_num, zJ1 Hno2, (zJ1 Hb).alloc hsz _⟩
     case measure => simp [intOf]; omega
   ·have i1 : decide (la <= sa) = false := by simp; omega
    have i1' : ¬ ((la : Nat) : Int) <= ((sa : Nat) : Int) := by omega
    have hno2 := xJb (zJ1 Hno) (zJ1 Hlk) (by simp [El.holds, h1])
    have Hno2 := zJ2 hno2
    clear hno2 h1
    go_wp2
    go_roundw
    case rel => exact ⟨k + 1, by omega, by go_num, zJ1 Hno2, (zJ1 Hb).alloc hsz _⟩
    case measure => simp [intOf]; omega
  ·have hno2 : L.find? (El.holds ⟨sk, sfl, so, sa, sf, sm⟩) = none := by
    have := zJ1 Hno
    rwa [List.take_of_length_le (by omega)] at this
   have hfin : El.filled h ⟨sk, sfl, so, sa, sf, sm⟩ = false := by rw [zJ1 Hfd, hno2]
   have Hfin := zJ2 hfin
   clear hfin hno2
   go_wp2
   go_ret
   exact ⟨by rw [zJ1 Hfin]; rfl, hb0.trans (hb.mono hb0s)⟩
end Go.Proofs.YtiiiblmhlhikkaaGreatDoor
namespace Go.Proofs.YtiiiblmhlhikkaaGreatDoor
open Go.RowKit Go.Maps
def CM (D : DataW Unit) (l : List El.Sg) : Prop := IsMap D /\ ∀ q : Nat, D.atKey (.int .u32 q) (.lit (.int .i64 0)) = .lit (.int .i64 (El.countK l q))
theorem CM.nil : CM (.map []) [] := ⟨isMap_empty, fun q => rfl⟩
theorem CM.step {D : DataW Unit} {l : List El.Sg} (h : CM D l) (s : El.Sg) : CM (D.put (.int .u32 s.kind) (.lit (.int .i64 ((El.countK l s.kind : Nat) + 1)))) (l ++ [s]) := by
 refine ⟨h.1.put _ _, fun q => ?_⟩
 by_cases e : q = s.kind
 ·subst e
  rw [atKey_put_same h.1 (by simp [WideAt.IsKeyLit])]
  simp [El.countK]
 ·rw [atKey_put_other (by simp only [ne_eq, Lit.int.injEq, true_and]; omega), h.2 q]
  have e2 : (s.kind == q) = false := by simp; exact fun h => e h.symm
  simp [El.countK, List.filter_append, List.filter_cons, e2]
theorem CM.read {D : DataW Unit} {l : List El.Sg} (h : CM D l) {q : Nat} {c : Int} (hat : D.atKey (.int .u32 q) (.lit (.int .i64 0)) = .lit (.int .i64 c)) : c = (El.countK l q : Nat) := by
 rw [h.2 q] at hat
 injection hat with h1
 injection h1 with _ h2
 exact h2.symm
theorem count_le (l : List El.Sg) (q : Nat) : El.countK l q <= l.length := List.length_filter_le _ _
theorem zJ5 : Keyed Tryz.prog 23 := int_keyed Tryz.underlying23
theorem wf_u32 {n : Nat} (h : n < 4294967296) : (Lit.int .u32 (n : Int)).wf = true := WalkArith.wf_u32 (by omega)
theorem wf_i64 {n : Int} (h0 : 0 <= n) (h : n <= 4294967297) : (Lit.int .i64 n).wf = true := WalkArith.wf_i64 (by omega)
theorem xJ9 (n : Nat) (h : n < 256) : bits .and .u8 (n : Int) 1 = ((n % 2 : Nat) : Int) := by
 have e : (1 : Int) = ((1 : Nat) : Int) := rfl
 rw [e, u8_and_nat n 1 h (by omega), nat_mask1]
theorem zJ7 {w wr w1 : World} {A : Option Addr} {n c : Nat} {ty en ph : Int} {S : Obj} (hg : (wr.alloc S).grownBy w1 (some (w.heap.size + 1)))
  (hb : wr.heap[w.heap.size]? = some (.cells #[.int .u16 ty, .int .u64 en, .int .u64 ph, .slice A n c] 49)) (hsz : w.heap.size + 1 < wr.heap.size) :
  w1.heap[w.heap.size]? = some (.cells #[.int .u16 ty, .int .u64 en, .int .u64 ph, .slice A n c] 49) /\ w1.heap[wr.heap.size]? = some S /\ w.heap.size < w1.heap.size /\ wr.heap.size < w1.heap.size /\ w.heap.size + 1 < w1.heap.size := by
 have hs := hg.size
 simp only [World.size_alloc] at hs
 refine ⟨?_, ?_, by omega, by omega, by omega⟩
 ·exact (hg.block w.heap.size (by simp; omega) (by simp)).trans ((Below.heap_alloc _ _ _ (by omega)).trans hb)
 ·exact (hg.block wr.heap.size (by simp) (by simp; omega)).trans (heap_alloc_new _ _)
theorem zJ6 {w : World} {g : Nat} {a b c d : Value} {t : TypeId} (h : w.heap[g]? = some (.cells #[a, b, c, d] t)) : w.cell? ⟨g, 0, none⟩ = some a /\ w.cell? ⟨g, 1, none⟩ = some b /\ w.cell? ⟨g, 2, none⟩ = some c /\ w.cell? ⟨g, 3, none⟩ = some d :=
 ⟨cell_of_row _ _ 0 _ _ _ h, cell_of_row _ _ 1 _ _ _ h, cell_of_row _ _ 2 _ _ _ h, cell_of_row _ _ 3 _ _ _ h⟩
theorem zJa {w : World} {g : Nat} {a b c d e f : Value} {t : TypeId} (h : w.heap[g]? = some (.cells #[a, b, c, d, e, f] t)) : w.cell? ⟨g, 0, none⟩ = some a /\ w.cell? ⟨g, 1, none⟩ = some b /\ w.cell? ⟨g, 2, none⟩ = some c /\ w.cell? ⟨g, 3, none⟩ = some d /\ w.cell? ⟨g, 4, none⟩ = some e /\ w.cell? ⟨g, 5, none⟩ = some f :=
 ⟨cell_of_row _ _ 0 _ _ _ h, cell_of_row _ _ 1 _ _ _ h, cell_of_row _ _ 2 _ _ _ h, cell_of_row _ _ 3 _ _ _ h, cell_of_row _ _ 4 _ _ _ h, cell_of_row _ _ 5 _ _ _ h⟩
theorem zJ8 {w wr w1 : World} {S : Obj} (hb : Below w.heap.size w wr) (hg : (wr.alloc S).grownBy w1 (some (w.heap.size + 1))) : Below w.heap.size w w1 :=
 (hb.alloc hb.size _).grown hg (by have := hb.size; simp; omega) (fun k hk => by injection hk with hk; omega)
theorem yJc {P : Program} {k : TypeId} {R : Value -> Option (DataW Unit × List MemPlace)} {b n : Nat} {D : DataW Unit} {w w' : World} (h : w.ownsMap P k R b n D) (hb : Below w.heap.size w w') : w'.ownsMap P k R b n D :=
 h.kept (row := none) ⟨hb.os, hb.tape, hb.output, hb.size, fun i hi _ => hb.block i hi⟩ (by simp)
def Or3 (c : Bool) (a b : Ending) : Ending := if c then a else b
theorem cnt_pos {c : Int} {n : Nat} (e : c = (n : Nat)) : decide (0 < n) = decide ((0 : Int) < c) := by rw [e, decide_eq_decide]; omega
theorem cnt_lt {c : Int} {n : Nat} (e : c = (n : Nat)) : decide (n < 2) = decide (c < 2) := by rw [e, decide_eq_decide]; omega
theorem map_made2 (w : World) (o : Obj) : ((w.alloc o).alloc (.map #[] 0)).ownsMap Tryz.prog 23 (plainElem (H := Unit) Tryz.prog 3) (w.heap.size + 1) 0 (.map []) := by
 have := World.ownsMap_made (w.alloc o) Tryz.prog 23 (plainElem (H := Unit) Tryz.prog 3)
 simpa using this
theorem yJk {h : El.Hd} {s : El.Sg} (hs : s ∈ h.segs) (hn : El.segWhole h s = false) : El.wholeOk h = false := by
 unfold El.wholeOk
 rw [show h.segs.all (El.segWhole h) = false from by
  rw [Bool.eq_false_iff]
  intro ha
  have := List.all_eq_true.1 ha s hs
  rw [hn] at this
  cases this]
 rfl
set_option maxRecDepth 100000 in
set_option maxHeartbeats 8000000 in
theorem whole_any (A : Option Addr) (n c B : Nat) (h : El.Hd) (w : World) (hB : B <= w.heap.size) (hl : Rd w B 6 A n (segCells h.segs)) (hn : n <= 4294967296) (hf : ∀ x ∈ h.segs, SgFit x) (hty : h.type < 65536) (hen : h.entry < 18446744073709551616) :
  Calls Tryz.prog 87 #[.agg #[.int .u16 h.type, .int .u64 h.entry, .int .u64 h.phoff, .slice A n c]] w fun e w' =>
   e = Or3 (El.wholeOk h) (.returned (.tuple #[])) (wrongs 25) /\ Below w.heap.size w w' := by
 have hln : h.segs.length = n := by have := hl.1; rw [zJw] at this; omega
 have hmm := @run_makeMap Tryz.prog
 have hfil := fun (s : El.Sg) (hs : SgFit s) (w' : World) (hb : Below w.heap.size w w') => filled_any A n c B h s w' (Nat.le_trans hB hb.size) (hl.below (hb.mono hB)) hn hf hs
 have Hl := zJ2 hl
 have Hf := zJ2 hf
 have Hfil := zJ2 hfil
 have Hln := zJ2 hln
 clear hl hf hfil hln
 have e0 : El.enters h = ((h.type == 3 && h.entry == 0) || h.segs.any (El.entersBy h)) := rfl
 have E0 := zJ2 e0
 clear e0
 generalize hee : (h.type == 3 && h.entry == 0) = ee at *
 have Hee := zJ2 hee
 have t1 : (((h.type : Nat) : Int) == 3) = (h.type == 3) := by rw [Bool.eq_iff_iff, beq_iff_eq, beq_iff_eq]; omega
 have t2 : (((h.entry : Nat) : Int) == 0) = (h.entry == 0) := by rw [Bool.eq_iff_iff, beq_iff_eq, beq_iff_eq]; omega
 have cases3 : ((((h.type : Nat) : Int) == 3) = true /\ (((h.entry : Nat) : Int) == 0) = ee) \/ ((((h.type : Nat) : Int) == 3) = false /\ ee = false) := by
  rw [t1, t2, <- hee]
  cases h.type == 3
  ·exact .inr ⟨rfl, rfl⟩
  ·exact .inl ⟨rfl, by simp⟩
 clear t1 t2 hee
 rcases cases3 with ⟨t1, t2⟩ | ⟨t1, rfl⟩
 ·go_enter Tryz.func87, Tryz.ntmps87
  go_wp2
  go_loopw [3, 18] (fun e3 i wr => ∃ (k : Nat) (D : DataW Unit), k <= n /\ i = .int .i64 k /\ e3 = .bool (ee || (h.segs.take k).any (El.entersBy h)) /\ (h.segs.take k).all (El.segWhole h) = true /\ CM D (h.segs.take k) /\ wr.ownsMap Tryz.prog 23 (plainElem Tryz.prog 3) (w.heap.size + 1) k D /\ Below w.heap.size w wr /\ wr.heap[w.heap.size]? = some (.cells #[.int .u16 h.type, .int .u64 h.entry, .int .u64 h.phoff, .slice A n c] 49) /\ w.heap.size + 1 < wr.heap.size) (fun _ i _ => n - (intOf i).toNat)
  case atStart => exact ⟨0, .map [], Nat.zero_le _, rfl, by simp, rfl, CM.nil, map_made2 _ _, ((Below.refl _ _).alloc (Nat.le_refl _) _).alloc (by simp) _, (Below.heap_alloc _ _ _ (by simp)).trans (heap_alloc_new _ _), by simp⟩
  case round =>
  obtain ⟨k, D, hk, rfl, rfl, hall, hcm, hown, hb, hbox, hsz⟩ := hrel
  have Hall := zJ2 hall
  have Hcm := zJ2 hcm
  have Hb := zJ2 hb
  have Hbox := zJ2 hbox
  clear hall hcm hbox
  rcases Nat.lt_or_ge k n with hlt | hge
  case inr =>
   obtain rfl : k = n := by omega
   have htk : h.segs.take k = h.segs := List.take_of_length_le (by rw [zJ1 Hln]; exact Nat.le_refl _)
   rw [htk]
   have hall := zJ1 Hall
   rw [htk] at hall
   have hcm := zJ1 Hcm
   rw [htk] at hcm
   have hent : El.enters h = (ee || h.segs.any (El.entersBy h)) := zJ1 E0
   rw [<- hent]
   obtain ⟨c1, r1, a1, _⟩ := hown.lookup_int zJ5 Tryz.underlying250 Tryz.underlying3 (zJc _) (key := .int .u32 1) (kl := .int .u32 ((1 : Nat) : Int)) (keyOf_int_mk Tryz.underlying23 (by decide))
   have e1 := hcm.read a1
   obtain ⟨c2, r2, a2, _⟩ := hown.lookup_int zJ5 Tryz.underlying250 Tryz.underlying3 (zJc _) (key := .int .u32 2) (kl := .int .u32 ((2 : Nat) : Int)) (keyOf_int_mk Tryz.underlying23 (by decide))
   have e2 := hcm.read a2
   obtain ⟨c3, r3, a3, _⟩ := hown.lookup_int zJ5 Tryz.underlying250 Tryz.underlying3 (zJc _) (key := .int .u32 3) (kl := .int .u32 ((3 : Nat) : Int)) (keyOf_int_mk Tryz.underlying23 (by decide))
   have e3 := hcm.read a3
   obtain ⟨c6, r6, a6, _⟩ := hown.lookup_int zJ5 Tryz.underlying250 Tryz.underlying3 (zJc _) (key := .int .u32 6) (kl := .int .u32 ((6 : Nat) : Int)) (keyOf_int_mk Tryz.underlying23 (by decide))
   have e6 := hcm.read a6
   have hwo : El.wholeOk h = (decide (0 < c1) && decide (c2 < 2) && decide (c3 < 2) && decide (c6 < 2) && El.enters h) := by
    unfold El.wholeOk
    rw [hall, Bool.true_and, cnt_pos e1, cnt_lt e2, cnt_lt e3, cnt_lt e6]
   have Hwo := zJ2 hwo
   clear hwo hent hall hcm a1 a2 a3 a6 e1 e2 e3 e6 hown hge htk
   generalize El.enters h = eb at *
   by_cases d1 : 0 < c1
   case neg =>
    have d1' : decide (0 < c1) = false := by simp; omega
    go_wp2_with (first
     | (go_at_call_of 83 (Value.bool true); refine (zJ4 _ _).mono ?_; rintro e w3 ⟨rfl, rfl⟩)
     | (go_at_call_of 83 (Value.bool false); refine (zJ9 _ _).mono ?_; rintro e w3 ⟨rfl, rfl⟩))
    all_goals exact ⟨rfl, by first | rfl | (rw [zJ1 Hwo]; simp [Or3, *]), hb⟩
   by_cases d2 : c2 < 2
   case neg =>
    have d2' : decide (c2 < 2) = false := by simp; omega
    go_wp2_with (first
     | (go_at_call_of 83 (Value.bool true); refine (zJ4 _ _).mono ?_; rintro e w3 ⟨rfl, rfl⟩)
     | (go_at_call_of 83 (Value.bool false); refine (zJ9 _ _).mono ?_; rintro e w3 ⟨rfl, rfl⟩))
    all_goals exact ⟨rfl, by first | rfl | (rw [zJ1 Hwo]; simp [Or3, *]), hb⟩
   by_cases d3 : c3 < 2
   case neg =>
    have d3' : decide (c3 < 2) = false := by simp; omega
    go_wp2_with (first
     | (go_at_call_of 83 (Value.bool true); refine (zJ4 _ _).mono ?_; rintro e w3 ⟨rfl, rfl⟩)
     | (go_at_call_of 83 (Value.bool false); refine (zJ9 _ _).mono ?_; rintro e w3 ⟨rfl, rfl⟩))
    all_goals exact ⟨rfl, by first | rfl | (rw [zJ1 Hwo]; simp [Or3, *]), hb⟩
   by_cases d6 : c6 < 2
   case neg =>
    have d6' : decide (c6 < 2) = false := by simp; omega
    go_wp2_with (first
     | (go_at_call_of 83 (Value.bool true); refine (zJ4 _ _).mono ?_; rintro e w3 ⟨rfl, rfl⟩)
     | (go_at_call_of 83 (Value.bool false); refine (zJ9 _ _).mono ?_; rintro e w3 ⟨rfl, rfl⟩))
    all_goals exact ⟨rfl, by first | rfl | (rw [zJ1 Hwo]; simp [Or3, *]), hb⟩
   cases eb
   case false =>
    go_wp2_with (first
     | (go_at_call_of 83 (Value.bool true); refine (zJ4 _ _).mono ?_; rintro e w3 ⟨rfl, rfl⟩)
     | (go_at_call_of 83 (Value.bool false); refine (zJ9 _ _).mono ?_; rintro e w3 ⟨rfl, rfl⟩))
    all_goals exact ⟨rfl, by first | rfl | (rw [zJ1 Hwo]; simp [Or3, *]), hb⟩
   case true =>
    go_wp2_with (first
     | (go_at_call_of 83 (Value.bool true); refine (zJ4 _ _).mono ?_; rintro e w3 ⟨rfl, rfl⟩)
     | (go_at_call_of 83 (Value.bool false); refine (zJ9 _ _).mono ?_; rintro e w3 ⟨rfl, rfl⟩))
    go_end0
    exact ⟨by first | rfl | (rw [zJ1 Hwo]; simp [Or3, *]), hb⟩
  obtain ⟨s, hs⟩ : ∃ s, h.segs[k]? = some s := ⟨_, List.getElem?_eq_getElem (by rw [zJ1 Hln]; exact hlt)⟩
  obtain ⟨b1', o1, rfl, hbb, c0, c1, c2', c3, c4, c5⟩ := wJb ((zJ1 Hl).below (hb.mono hB)) hs
  have hfit := (zJ1 Hf) _ (List.mem_of_getElem? hs)
  have hcl := count_le (h.segs.take k) s.kind
  have hcl2 : (h.segs.take k).length <= k := List.length_take_le _ _
  have hcm2 := CM.step (zJ1 Hcm) s
  have Hcm2 : Hid (CM (D.put (.int .u32 (s.kind : Nat)) (.lit (.int .i64 ((El.countK (h.segs.take k) s.kind : Nat) + 1)))) (h.segs.take (k + 1))) := by rw [List.take_add_one, hs]; exact zJ2 hcm2
  obtain ⟨sk, sfl, so, sa, sf, sm⟩ := s
  have Hfit := zJ2 hfit
  obtain ⟨i1, i2, i3, i4, i5, i6⟩ := hfit
  simp only at i1 i2 i3 i4 i5 i6 c0 c1 c2' c3 c4 c5 hcl
  have hsz1 : w.heap.size + 1 < wr.heap.size := hsz
  have hkey : keyOf Tryz.prog 23 (.int .u32 ((sk : Nat) : Int)) = some (.int .u32 ((sk : Nat) : Int)) := keyOf_int_mk Tryz.underlying23 (wf_u32 i1)
  have hwf : (Lit.int .i64 (((El.countK (h.segs.take k) sk : Nat) : Int) + 1)).wf = true := wf_i64 (by omega) (by omega)
  have Hkey := zJ2 hkey
  have Hwf := zJ2 hwf
  have Hs := zJ2 hs
  clear hkey hwf hs hcm2 hb
  by_cases hk1 : sk = 1
  ·rcases Bool.eq_false_or_eq_true (ee || (h.segs.take k).any (El.entersBy h)) with heb | heb
   ·have heb2 := heb
    have b1 : (((sk : Nat) : Int) == 1) = true := by simp; omega
    have hsw : El.segWhole h ⟨sk, sfl, so, sa, sf, sm⟩ = true := by simp [El.segWhole, hk1]
    have hall2 : (h.segs.take (k + 1)).all (El.segWhole h) = true := by rw [List.take_add_one, zJ1 Hs, List.all_append, zJ1 Hall]; simp [hsw]
    have Hall2 := zJ2 hall2
    have hany2 : (ee || (h.segs.take (k + 1)).any (El.entersBy h)) = true := by rw [List.take_add_one, List.any_append, <- Bool.or_assoc, heb]; rfl
    have Hany2 := zJ2 hany2
    clear hall2 hany2 hsw heb2 hk1
    rw [heb]
    clear heb
    go_wp2_with (first
     | (at_lookup; refine wpList_lookup_own_int _ rfl _ _ 250 rfl 23 3 .i64 zJ5 Tryz.underlying250 Tryz.underlying3 (zJc _) (w.heap.size + 1) k _ rfl (hown.alloc _) _ _ rfl (zJ1 Hkey) ?_; intro c hat hwc; obtain rfl := (zJ1 Hcm).read hat; clear hat hwc)
     | (at_mapUpdate; refine wpList_mapUpdate_own _ rfl _ _ _ 250 rfl 23 3 zJ5 Tryz.underlying250 _ (w.heap.size + 1) k _ rfl (hown.alloc _) (by unfold maxLen; omega) _ _ _ rfl rfl (zJ1 Hkey) _ [] (plainElem_int Tryz.underlying3 (zJ1 Hwf)) ?_; intro w1 hown1 hgrow1; have g1 := zJ7 hgrow1 (zJ1 Hbox) hsz1; obtain ⟨g1a, g1b, g1c⟩ := g1; obtain ⟨q0, q1, q2, q3⟩ := zJ6 g1a; obtain ⟨p0, p1, p2, p3, p4, p5⟩ := zJa g1b; have G1a := zJ2 g1a; have Hown1 := zJ2 hown1; have Hbl := zJ2 (zJ8 (zJ1 Hb) hgrow1); clear g1a g1b hown1 hgrow1 hown)
     | (go_at_call_of 83 (Value.bool true); refine (zJ4 _ _).mono ?_; rintro e w3 ⟨rfl, rfl⟩)
     | (go_at_call_of 83 (Value.bool false); refine (zJ9 _ _).mono ?_; rintro e w3 ⟨rfl, rfl⟩))
    go_roundw
    case rel =>
     refine ⟨k + 1, _, by omega, by go_num, by rw [zJ1 Hany2], zJ1 Hall2, (zJ1 Hcm2), zJ1 Hown1, zJ1 Hbl, zJ1 G1a, by omega⟩
    case measure => simp [intOf]; omega
   ·have Heb := zJ2 heb
    rw [heb]
    clear heb
    by_cases hfl : sfl % 2 = 1
    ·have hfb : bits .and .u8 ((sfl : Nat) : Int) 1 = 1 := by rw [xJ9 _ i2, hfl]; rfl
     by_cases hlt2 : El.w64 h.entry sa < sm
     ·have hw := w64_eq h.entry sa hen i4
      have b1 : (((sk : Nat) : Int) == 1) = true := by simp; omega
      have hlt3 : (IntKind.u64.wrap (((h.entry : Nat) : Int) - ((sa : Nat) : Int))) < ((sm : Nat) : Int) := by rw [hw]; omega
      have hsw : El.segWhole h ⟨sk, sfl, so, sa, sf, sm⟩ = true := by simp [El.segWhole, hk1]
      have hent : El.entersBy h ⟨sk, sfl, so, sa, sf, sm⟩ = true := by simp [El.entersBy, El.isLoad, hk1, hfl, hlt2]
      have hall2 : (h.segs.take (k + 1)).all (El.segWhole h) = true := by rw [List.take_add_one, zJ1 Hs, List.all_append, zJ1 Hall]; simp [hsw]
      have Hall2 := zJ2 hall2
      clear hall2
      have hany2 : (h.segs.take (k + 1)).any (El.entersBy h) = ((h.segs.take k).any (El.entersBy h) || El.entersBy h ⟨sk, sfl, so, sa, sf, sm⟩) := by rw [List.take_add_one, zJ1 Hs, List.any_append]; simp
      rw [hent] at hany2
      have Hany2 := zJ2 hany2
      clear hany2 hent hsw
      clear hk1 hfl hlt2 hw
      go_wp2_with (first
       | (at_lookup; refine wpList_lookup_own_int _ rfl _ _ 250 rfl 23 3 .i64 zJ5 Tryz.underlying250 Tryz.underlying3 (zJc _) (w.heap.size + 1) k _ rfl (hown.alloc _) _ _ rfl (zJ1 Hkey) ?_; intro c hat hwc; obtain rfl := (zJ1 Hcm).read hat; clear hat hwc)
       | (at_mapUpdate; refine wpList_mapUpdate_own _ rfl _ _ _ 250 rfl 23 3 zJ5 Tryz.underlying250 _ (w.heap.size + 1) k _ rfl (hown.alloc _) (by unfold maxLen; omega) _ _ _ rfl rfl (zJ1 Hkey) _ [] (plainElem_int Tryz.underlying3 (zJ1 Hwf)) ?_; intro w1 hown1 hgrow1; have g1 := zJ7 hgrow1 (zJ1 Hbox) hsz1; obtain ⟨g1a, g1b, g1c⟩ := g1; obtain ⟨q0, q1, q2, q3⟩ := zJ6 g1a; obtain ⟨p0, p1, p2, p3, p4, p5⟩ := zJa g1b; have G1a := zJ2 g1a; have Hown1 := zJ2 hown1; have Hbl := zJ2 (zJ8 (zJ1 Hb) hgrow1); clear g1a g1b hown1 hgrow1 hown)
       | (go_at_call_of 83 (Value.bool true); refine (zJ4 _ _).mono ?_; rintro e w3 ⟨rfl, rfl⟩)
       | (go_at_call_of 83 (Value.bool false); refine (zJ9 _ _).mono ?_; rintro e w3 ⟨rfl, rfl⟩))
      go_roundw
      case rel =>
       refine ⟨k + 1, _, by omega, by go_num, by rw [zJ1 Hany2]; simp, zJ1 Hall2, (zJ1 Hcm2), zJ1 Hown1, zJ1 Hbl, zJ1 G1a, by omega⟩
      case measure => simp [intOf]; omega
     ·have hw := w64_eq h.entry sa hen i4
      have b1 : (((sk : Nat) : Int) == 1) = true := by simp; omega
      have hlt3 : decide ((IntKind.u64.wrap (((h.entry : Nat) : Int) - ((sa : Nat) : Int))) < ((sm : Nat) : Int)) = false := by rw [hw]; simp; omega
      have hsw : El.segWhole h ⟨sk, sfl, so, sa, sf, sm⟩ = true := by simp [El.segWhole, hk1]
      have hent : El.entersBy h ⟨sk, sfl, so, sa, sf, sm⟩ = false := by simp [El.entersBy, El.isLoad, hk1, hfl, hlt2]
      have hall2 : (h.segs.take (k + 1)).all (El.segWhole h) = true := by rw [List.take_add_one, zJ1 Hs, List.all_append, zJ1 Hall]; simp [hsw]
      have Hall2 := zJ2 hall2
      clear hall2
      have hany2 : (h.segs.take (k + 1)).any (El.entersBy h) = ((h.segs.take k).any (El.entersBy h) || El.entersBy h ⟨sk, sfl, so, sa, sf, sm⟩) := by rw [List.take_add_one, zJ1 Hs, List.any_append]; simp
      rw [hent] at hany2
      have Hany2 := zJ2 hany2
      clear hany2 hent hsw
      clear hk1 hfl hlt2 hw
      go_wp2_with (first
       | (at_lookup; refine wpList_lookup_own_int _ rfl _ _ 250 rfl 23 3 .i64 zJ5 Tryz.underlying250 Tryz.underlying3 (zJc _) (w.heap.size + 1) k _ rfl (hown.alloc _) _ _ rfl (zJ1 Hkey) ?_; intro c hat hwc; obtain rfl := (zJ1 Hcm).read hat; clear hat hwc)
       | (at_mapUpdate; refine wpList_mapUpdate_own _ rfl _ _ _ 250 rfl 23 3 zJ5 Tryz.underlying250 _ (w.heap.size + 1) k _ rfl (hown.alloc _) (by unfold maxLen; omega) _ _ _ rfl rfl (zJ1 Hkey) _ [] (plainElem_int Tryz.underlying3 (zJ1 Hwf)) ?_; intro w1 hown1 hgrow1; have g1 := zJ7 hgrow1 (zJ1 Hbox) hsz1; obtain ⟨g1a, g1b, g1c⟩ := g1; obtain ⟨q0, q1, q2, q3⟩ := zJ6 g1a; obtain ⟨p0, p1, p2, p3, p4, p5⟩ := zJa g1b; have G1a := zJ2 g1a; have Hown1 := zJ2 hown1; have Hbl := zJ2 (zJ8 (zJ1 Hb) hgrow1); clear g1a g1b hown1 hgrow1 hown)
       | (go_at_call_of 83 (Value.bool true); refine (zJ4 _ _).mono ?_; rintro e w3 ⟨rfl, rfl⟩)
       | (go_at_call_of 83 (Value.bool false); refine (zJ9 _ _).mono ?_; rintro e w3 ⟨rfl, rfl⟩))
      go_roundw
      case rel =>
       refine ⟨k + 1, _, by omega, by go_num, by rw [zJ1 Hany2, Bool.or_false, zJ1 Heb], zJ1 Hall2, (zJ1 Hcm2), zJ1 Hown1, zJ1 Hbl, zJ1 G1a, by omega⟩
      case measure => simp [intOf]; omega
    ·have hfl0 : sfl % 2 = 0 := by omega
     have hfb : bits .and .u8 ((sfl : Nat) : Int) 1 = 0 := by rw [xJ9 _ i2, hfl0]; rfl
     have b1 : (((sk : Nat) : Int) == 1) = true := by simp; omega
     have hsw : El.segWhole h ⟨sk, sfl, so, sa, sf, sm⟩ = true := by simp [El.segWhole, hk1]
     have hent : El.entersBy h ⟨sk, sfl, so, sa, sf, sm⟩ = false := by simp [El.entersBy, El.isLoad, hk1, hfl0]
     have hall2 : (h.segs.take (k + 1)).all (El.segWhole h) = true := by rw [List.take_add_one, zJ1 Hs, List.all_append, zJ1 Hall]; simp [hsw]
     have Hall2 := zJ2 hall2
     clear hall2
     have hany2 : (h.segs.take (k + 1)).any (El.entersBy h) = ((h.segs.take k).any (El.entersBy h) || El.entersBy h ⟨sk, sfl, so, sa, sf, sm⟩) := by rw [List.take_add_one, zJ1 Hs, List.any_append]; simp
     rw [hent] at hany2
     have Hany2 := zJ2 hany2
     clear hany2 hent hsw
     clear hk1 hfl hfl0
     go_wp2_with (first
      | (at_lookup; refine wpList_lookup_own_int _ rfl _ _ 250 rfl 23 3 .i64 zJ5 Tryz.underlying250 Tryz.underlying3 (zJc _) (w.heap.size + 1) k _ rfl (hown.alloc _) _ _ rfl (zJ1 Hkey) ?_; intro c hat hwc; obtain rfl := (zJ1 Hcm).read hat; clear hat hwc)
      | (at_mapUpdate; refine wpList_mapUpdate_own _ rfl _ _ _ 250 rfl 23 3 zJ5 Tryz.underlying250 _ (w.heap.size + 1) k _ rfl (hown.alloc _) (by unfold maxLen; omega) _ _ _ rfl rfl (zJ1 Hkey) _ [] (plainElem_int Tryz.underlying3 (zJ1 Hwf)) ?_; intro w1 hown1 hgrow1; have g1 := zJ7 hgrow1 (zJ1 Hbox) hsz1; obtain ⟨g1a, g1b, g1c⟩ := g1; obtain ⟨q0, q1, q2, q3⟩ := zJ6 g1a; obtain ⟨p0, p1, p2, p3, p4, p5⟩ := zJa g1b; have G1a := zJ2 g1a; have Hown1 := zJ2 hown1; have Hbl := zJ2 (zJ8 (zJ1 Hb) hgrow1); clear g1a g1b hown1 hgrow1 hown)
      | (go_at_call_of 83 (Value.bool true); refine (zJ4 _ _).mono ?_; rintro e w3 ⟨rfl, rfl⟩)
      | (go_at_call_of 83 (Value.bool false); refine (zJ9 _ _).mono ?_; rintro e w3 ⟨rfl, rfl⟩))
     go_roundw
     case rel =>
      refine ⟨k + 1, _, by omega, by go_num, by rw [zJ1 Hany2, Bool.or_false, zJ1 Heb], zJ1 Hall2, (zJ1 Hcm2), zJ1 Hown1, zJ1 Hbl, zJ1 G1a, by omega⟩
     case measure => simp [intOf]; omega
  ·have Hk1 := zJ2 hk1
   generalize heb : (ee || (h.segs.take k).any (El.entersBy h)) = eb at *
   have Heb := zJ2 heb
   clear heb
   by_cases hk2 : sk = 2
   ·by_cases hfd : El.filled h ⟨sk, sfl, so, sa, sf, sm⟩ = true
    ·have Hfd := zJ2 hfd
     have b1 : (((sk : Nat) : Int) == 1) = false := by simp; omega
     have b2 : (((sk : Nat) : Int) == 2) = true := by simp; omega
     have hsw : El.segWhole h ⟨sk, sfl, so, sa, sf, sm⟩ = true := by subst hk2; simp [El.segWhole, hfd]
     have hent : El.entersBy h ⟨sk, sfl, so, sa, sf, sm⟩ = false := by simp [El.entersBy, El.isLoad, hk1]
     have hall2 : (h.segs.take (k + 1)).all (El.segWhole h) = true := by rw [List.take_add_one, zJ1 Hs, List.all_append, zJ1 Hall]; simp [hsw]
     have Hall2 := zJ2 hall2
     clear hall2
     have hany2 : (h.segs.take (k + 1)).any (El.entersBy h) = ((h.segs.take k).any (El.entersBy h) || El.entersBy h ⟨sk, sfl, so, sa, sf, sm⟩) := by rw [List.take_add_one, zJ1 Hs, List.any_append]; simp
     rw [hent] at hany2
     have Hany2 := zJ2 hany2
     clear hany2 hent hsw
     clear hk1 hk2 hfd
     go_wp2_with (first
      | (at_lookup; refine wpList_lookup_own_int _ rfl _ _ 250 rfl 23 3 .i64 zJ5 Tryz.underlying250 Tryz.underlying3 (zJc _) (w.heap.size + 1) k _ rfl (hown.alloc _) _ _ rfl (zJ1 Hkey) ?_; intro c hat hwc; obtain rfl := (zJ1 Hcm).read hat; clear hat hwc)
      | (at_mapUpdate; refine wpList_mapUpdate_own _ rfl _ _ _ 250 rfl 23 3 zJ5 Tryz.underlying250 _ (w.heap.size + 1) k _ rfl (hown.alloc _) (by unfold maxLen; omega) _ _ _ rfl rfl (zJ1 Hkey) _ [] (plainElem_int Tryz.underlying3 (zJ1 Hwf)) ?_; intro w1 hown1 hgrow1; have g1 := zJ7 hgrow1 (zJ1 Hbox) hsz1; obtain ⟨g1a, g1b, g1c⟩ := g1; obtain ⟨q0, q1, q2, q3⟩ := zJ6 g1a; obtain ⟨p0, p1, p2, p3, p4, p5⟩ := zJa g1b; have G1a := zJ2 g1a; have Hown1 := zJ2 hown1; have Hbl := zJ2 (zJ8 (zJ1 Hb) hgrow1); clear g1a g1b hown1 hgrow1 hown)
      | (go_at_call_of 83 (Value.bool true); refine (zJ4 _ _).mono ?_; rintro e w3 ⟨rfl, rfl⟩)
      | (go_at_call_of 83 (Value.bool false); refine (zJ9 _ _).mono ?_; rintro e w3 ⟨rfl, rfl⟩)
      | (go_at_call 137; refine ((zJ1 Hfil) ⟨sk, sfl, so, sa, sf, sm⟩ (zJ1 Hfit) _ (zJ1 Hbl)).mono ?_; rintro e w2 ⟨rfl, hb2⟩; rw [zJ1 Hfd]; have Hb2 := zJ2 hb2; have hq := (hb2.block _ g1c.1).trans (zJ1 G1a); have HQ := zJ2 hq; have hz2 := hb2.size; clear hb2 hq))
     go_roundw
     case rel =>
      refine ⟨k + 1, _, by omega, by go_num, by rw [zJ1 Hany2, Bool.or_false, zJ1 Heb], zJ1 Hall2, (zJ1 Hcm2), yJc (zJ1 Hown1) (zJ1 Hb2), (zJ1 Hbl).trans ((zJ1 Hb2).mono (zJ1 Hbl).size), zJ1 HQ, by omega⟩
     case measure => simp [intOf]; omega
    ·rw [Bool.not_eq_true] at hfd
     have Hfd := zJ2 hfd
     have b1 : (((sk : Nat) : Int) == 1) = false := by simp; omega
     have b2 : (((sk : Nat) : Int) == 2) = true := by simp; omega
     have hbad : El.wholeOk h = false := yJk (List.mem_of_getElem? (zJ1 Hs)) (by subst hk2; simp [El.segWhole, hfd])
     have Hbad := zJ2 hbad
     clear hbad
     clear hk1 hk2 hfd
     go_wp2_with (first
      | (at_lookup; refine wpList_lookup_own_int _ rfl _ _ 250 rfl 23 3 .i64 zJ5 Tryz.underlying250 Tryz.underlying3 (zJc _) (w.heap.size + 1) k _ rfl (hown.alloc _) _ _ rfl (zJ1 Hkey) ?_; intro c hat hwc; obtain rfl := (zJ1 Hcm).read hat; clear hat hwc)
      | (at_mapUpdate; refine wpList_mapUpdate_own _ rfl _ _ _ 250 rfl 23 3 zJ5 Tryz.underlying250 _ (w.heap.size + 1) k _ rfl (hown.alloc _) (by unfold maxLen; omega) _ _ _ rfl rfl (zJ1 Hkey) _ [] (plainElem_int Tryz.underlying3 (zJ1 Hwf)) ?_; intro w1 hown1 hgrow1; have g1 := zJ7 hgrow1 (zJ1 Hbox) hsz1; obtain ⟨g1a, g1b, g1c⟩ := g1; obtain ⟨q0, q1, q2, q3⟩ := zJ6 g1a; obtain ⟨p0, p1, p2, p3, p4, p5⟩ := zJa g1b; have G1a := zJ2 g1a; have Hown1 := zJ2 hown1; have Hbl := zJ2 (zJ8 (zJ1 Hb) hgrow1); clear g1a g1b hown1 hgrow1 hown)
      | (go_at_call_of 83 (Value.bool true); refine (zJ4 _ _).mono ?_; rintro e w3 ⟨rfl, rfl⟩)
      | (go_at_call_of 83 (Value.bool false); refine (zJ9 _ _).mono ?_; rintro e w3 ⟨rfl, rfl⟩)
      | (go_at_call 137; refine ((zJ1 Hfil) ⟨sk, sfl, so, sa, sf, sm⟩ (zJ1 Hfit) _ (zJ1 Hbl)).mono ?_; rintro e w2 ⟨rfl, hb2⟩; rw [zJ1 Hfd]; have Hb2 := zJ2 hb2; have hq := (hb2.block _ g1c.1).trans (zJ1 G1a); have HQ := zJ2 hq; have hz2 := hb2.size; clear hb2 hq))
     exact ⟨rfl, by rw [zJ1 Hbad]; rfl, (zJ1 Hbl).trans ((zJ1 Hb2).mono (zJ1 Hbl).size)⟩
   by_cases hk6 : sk = 6
   ·by_cases hfd : El.filled h ⟨sk, sfl, so, sa, sf, sm⟩ = true
    ·have Hfd := zJ2 hfd
     have b1 : (((sk : Nat) : Int) == 1) = false := by simp; omega
     have b2 : (((sk : Nat) : Int) == 2) = false := by simp; omega
     have b6 : (((sk : Nat) : Int) == 6) = true := by simp; omega
     have hsw : El.segWhole h ⟨sk, sfl, so, sa, sf, sm⟩ = true := by subst hk6; simp [El.segWhole, hfd]
     have hent : El.entersBy h ⟨sk, sfl, so, sa, sf, sm⟩ = false := by simp [El.entersBy, El.isLoad, hk1]
     have hall2 : (h.segs.take (k + 1)).all (El.segWhole h) = true := by rw [List.take_add_one, zJ1 Hs, List.all_append, zJ1 Hall]; simp [hsw]
     have Hall2 := zJ2 hall2
     clear hall2
     have hany2 : (h.segs.take (k + 1)).any (El.entersBy h) = ((h.segs.take k).any (El.entersBy h) || El.entersBy h ⟨sk, sfl, so, sa, sf, sm⟩) := by rw [List.take_add_one, zJ1 Hs, List.any_append]; simp
     rw [hent] at hany2
     have Hany2 := zJ2 hany2
     clear hany2 hent hsw
     clear hk1 hk6 hfd hk2
     go_wp2_with (first
      | (at_lookup; refine wpList_lookup_own_int _ rfl _ _ 250 rfl 23 3 .i64 zJ5 Tryz.underlying250 Tryz.underlying3 (zJc _) (w.heap.size + 1) k _ rfl (hown.alloc _) _ _ rfl (zJ1 Hkey) ?_; intro c hat hwc; obtain rfl := (zJ1 Hcm).read hat; clear hat hwc)
      | (at_mapUpdate; refine wpList_mapUpdate_own _ rfl _ _ _ 250 rfl 23 3 zJ5 Tryz.underlying250 _ (w.heap.size + 1) k _ rfl (hown.alloc _) (by unfold maxLen; omega) _ _ _ rfl rfl (zJ1 Hkey) _ [] (plainElem_int Tryz.underlying3 (zJ1 Hwf)) ?_; intro w1 hown1 hgrow1; have g1 := zJ7 hgrow1 (zJ1 Hbox) hsz1; obtain ⟨g1a, g1b, g1c⟩ := g1; obtain ⟨q0, q1, q2, q3⟩ := zJ6 g1a; obtain ⟨p0, p1, p2, p3, p4, p5⟩ := zJa g1b; have G1a := zJ2 g1a; have Hown1 := zJ2 hown1; have Hbl := zJ2 (zJ8 (zJ1 Hb) hgrow1); clear g1a g1b hown1 hgrow1 hown)
      | (go_at_call_of 83 (Value.bool true); refine (zJ4 _ _).mono ?_; rintro e w3 ⟨rfl, rfl⟩)
      | (go_at_call_of 83 (Value.bool false); refine (zJ9 _ _).mono ?_; rintro e w3 ⟨rfl, rfl⟩)
      | (go_at_call 137; refine ((zJ1 Hfil) ⟨sk, sfl, so, sa, sf, sm⟩ (zJ1 Hfit) _ (zJ1 Hbl)).mono ?_; rintro e w2 ⟨rfl, hb2⟩; rw [zJ1 Hfd]; have Hb2 := zJ2 hb2; have hq := (hb2.block _ g1c.1).trans (zJ1 G1a); have HQ := zJ2 hq; have hz2 := hb2.size; clear hb2 hq))
     go_roundw
     case rel =>
      refine ⟨k + 1, _, by omega, by go_num, by rw [zJ1 Hany2, Bool.or_false, zJ1 Heb], zJ1 Hall2, (zJ1 Hcm2), yJc (zJ1 Hown1) (zJ1 Hb2), (zJ1 Hbl).trans ((zJ1 Hb2).mono (zJ1 Hbl).size), zJ1 HQ, by omega⟩
     case measure => simp [intOf]; omega
    ·rw [Bool.not_eq_true] at hfd
     have Hfd := zJ2 hfd
     have b1 : (((sk : Nat) : Int) == 1) = false := by simp; omega
     have b2 : (((sk : Nat) : Int) == 2) = false := by simp; omega
     have b6 : (((sk : Nat) : Int) == 6) = true := by simp; omega
     have hbad : El.wholeOk h = false := yJk (List.mem_of_getElem? (zJ1 Hs)) (by subst hk6; simp [El.segWhole, hfd])
     have Hbad := zJ2 hbad
     clear hbad
     clear hk1 hk6 hfd hk2
     go_wp2_with (first
      | (at_lookup; refine wpList_lookup_own_int _ rfl _ _ 250 rfl 23 3 .i64 zJ5 Tryz.underlying250 Tryz.underlying3 (zJc _) (w.heap.size + 1) k _ rfl (hown.alloc _) _ _ rfl (zJ1 Hkey) ?_; intro c hat hwc; obtain rfl := (zJ1 Hcm).read hat; clear hat hwc)
      | (at_mapUpdate; refine wpList_mapUpdate_own _ rfl _ _ _ 250 rfl 23 3 zJ5 Tryz.underlying250 _ (w.heap.size + 1) k _ rfl (hown.alloc _) (by unfold maxLen; omega) _ _ _ rfl rfl (zJ1 Hkey) _ [] (plainElem_int Tryz.underlying3 (zJ1 Hwf)) ?_; intro w1 hown1 hgrow1; have g1 := zJ7 hgrow1 (zJ1 Hbox) hsz1; obtain ⟨g1a, g1b, g1c⟩ := g1; obtain ⟨q0, q1, q2, q3⟩ := zJ6 g1a; obtain ⟨p0, p1, p2, p3, p4, p5⟩ := zJa g1b; have G1a := zJ2 g1a; have Hown1 := zJ2 hown1; have Hbl := zJ2 (zJ8 (zJ1 Hb) hgrow1); clear g1a g1b hown1 hgrow1 hown)
      | (go_at_call_of 83 (Value.bool true); refine (zJ4 _ _).mono ?_; rintro e w3 ⟨rfl, rfl⟩)
      | (go_at_call_of 83 (Value.bool false); refine (zJ9 _ _).mono ?_; rintro e w3 ⟨rfl, rfl⟩)
      | (go_at_call 137; refine ((zJ1 Hfil) ⟨sk, sfl, so, sa, sf, sm⟩ (zJ1 Hfit) _ (zJ1 Hbl)).mono ?_; rintro e w2 ⟨rfl, hb2⟩; rw [zJ1 Hfd]; have Hb2 := zJ2 hb2; have hq := (hb2.block _ g1c.1).trans (zJ1 G1a); have HQ := zJ2 hq; have hz2 := hb2.size; clear hb2 hq))
     exact ⟨rfl, by rw [zJ1 Hbad]; rfl, (zJ1 Hbl).trans ((zJ1 Hb2).mono (zJ1 Hbl).size)⟩
   by_cases hk3 : sk = 3
   ·by_cases hf1 : 0 < sf
    ·by_cases hf2 : sf <= 201
     ·have f1 : decide (0 < sf) = true := by simp; omega
      have f2 : decide (((sf : Nat) : Int) <= 201) = true := by simp; omega
      clear i3 i4 i6
      have b1 : (((sk : Nat) : Int) == 1) = false := by simp; omega
      have b2 : (((sk : Nat) : Int) == 2) = false := by simp; omega
      have b6 : (((sk : Nat) : Int) == 6) = false := by simp; omega
      have b3 : (((sk : Nat) : Int) == 3) = true := by simp; omega
      have hsw : El.segWhole h ⟨sk, sfl, so, sa, sf, sm⟩ = true := by simp [El.segWhole, hk3, hf1, hf2]
      have hent : El.entersBy h ⟨sk, sfl, so, sa, sf, sm⟩ = false := by simp [El.entersBy, El.isLoad, hk1]
      have hall2 : (h.segs.take (k + 1)).all (El.segWhole h) = true := by rw [List.take_add_one, zJ1 Hs, List.all_append, zJ1 Hall]; simp [hsw]
      have Hall2 := zJ2 hall2
      clear hall2
      have hany2 : (h.segs.take (k + 1)).any (El.entersBy h) = ((h.segs.take k).any (El.entersBy h) || El.entersBy h ⟨sk, sfl, so, sa, sf, sm⟩) := by rw [List.take_add_one, zJ1 Hs, List.any_append]; simp
      rw [hent] at hany2
      have Hany2 := zJ2 hany2
      clear hany2 hent hsw
      clear hk1 hk2 hk6 hk3 hf1 hf2
      go_wp2_with (first
       | (at_lookup; refine wpList_lookup_own_int _ rfl _ _ 250 rfl 23 3 .i64 zJ5 Tryz.underlying250 Tryz.underlying3 (zJc _) (w.heap.size + 1) k _ rfl (hown.alloc _) _ _ rfl (zJ1 Hkey) ?_; intro c hat hwc; obtain rfl := (zJ1 Hcm).read hat; clear hat hwc)
       | (at_mapUpdate; refine wpList_mapUpdate_own _ rfl _ _ _ 250 rfl 23 3 zJ5 Tryz.underlying250 _ (w.heap.size + 1) k _ rfl (hown.alloc _) (by unfold maxLen; omega) _ _ _ rfl rfl (zJ1 Hkey) _ [] (plainElem_int Tryz.underlying3 (zJ1 Hwf)) ?_; intro w1 hown1 hgrow1; have g1 := zJ7 hgrow1 (zJ1 Hbox) hsz1; obtain ⟨g1a, g1b, g1c⟩ := g1; obtain ⟨q0, q1, q2, q3⟩ := zJ6 g1a; obtain ⟨p0, p1, p2, p3, p4, p5⟩ := zJa g1b; have G1a := zJ2 g1a; have Hown1 := zJ2 hown1; have Hbl := zJ2 (zJ8 (zJ1 Hb) hgrow1); clear g1a g1b hown1 hgrow1 hown)
       | (go_at_call_of 83 (Value.bool true); refine (zJ4 _ _).mono ?_; rintro e w3 ⟨rfl, rfl⟩)
       | (go_at_call_of 83 (Value.bool false); refine (zJ9 _ _).mono ?_; rintro e w3 ⟨rfl, rfl⟩))
      go_roundw
      case rel =>
       refine ⟨k + 1, _, by omega, by go_num, by rw [zJ1 Hany2, Bool.or_false, zJ1 Heb], zJ1 Hall2, (zJ1 Hcm2), zJ1 Hown1, zJ1 Hbl, zJ1 G1a, by omega⟩
      case measure => simp [intOf]; omega
     ·have f1 : decide (0 < sf) = true := by simp; omega
      clear i3 i4 i6
      have f2 : decide (((sf : Nat) : Int) <= 201) = false := by simp; omega
      have b1 : (((sk : Nat) : Int) == 1) = false := by simp; omega
      have b2 : (((sk : Nat) : Int) == 2) = false := by simp; omega
      have b6 : (((sk : Nat) : Int) == 6) = false := by simp; omega
      have b3 : (((sk : Nat) : Int) == 3) = true := by simp; omega
      have hbad : El.wholeOk h = false := yJk (List.mem_of_getElem? (zJ1 Hs)) (by simp [El.segWhole, hk3, hf2])
      have Hbad := zJ2 hbad
      clear hbad
      clear hk1 hk2 hk6 hk3 hf1 hf2
      go_wp2_with (first
       | (at_lookup; refine wpList_lookup_own_int _ rfl _ _ 250 rfl 23 3 .i64 zJ5 Tryz.underlying250 Tryz.underlying3 (zJc _) (w.heap.size + 1) k _ rfl (hown.alloc _) _ _ rfl (zJ1 Hkey) ?_; intro c hat hwc; obtain rfl := (zJ1 Hcm).read hat; clear hat hwc)
       | (at_mapUpdate; refine wpList_mapUpdate_own _ rfl _ _ _ 250 rfl 23 3 zJ5 Tryz.underlying250 _ (w.heap.size + 1) k _ rfl (hown.alloc _) (by unfold maxLen; omega) _ _ _ rfl rfl (zJ1 Hkey) _ [] (plainElem_int Tryz.underlying3 (zJ1 Hwf)) ?_; intro w1 hown1 hgrow1; have g1 := zJ7 hgrow1 (zJ1 Hbox) hsz1; obtain ⟨g1a, g1b, g1c⟩ := g1; obtain ⟨q0, q1, q2, q3⟩ := zJ6 g1a; obtain ⟨p0, p1, p2, p3, p4, p5⟩ := zJa g1b; have G1a := zJ2 g1a; have Hown1 := zJ2 hown1; have Hbl := zJ2 (zJ8 (zJ1 Hb) hgrow1); clear g1a g1b hown1 hgrow1 hown)
       | (go_at_call_of 83 (Value.bool true); refine (zJ4 _ _).mono ?_; rintro e w3 ⟨rfl, rfl⟩)
       | (go_at_call_of 83 (Value.bool false); refine (zJ9 _ _).mono ?_; rintro e w3 ⟨rfl, rfl⟩))
      exact ⟨rfl, by rw [zJ1 Hbad]; rfl, zJ1 Hbl⟩
    ·have f1 : ¬ (0 : Int) < ((sf : Nat) : Int) := by omega
     have f1' : decide (0 < sf) = false := by simp; omega
     have b1 : (((sk : Nat) : Int) == 1) = false := by simp; omega
     have b2 : (((sk : Nat) : Int) == 2) = false := by simp; omega
     have b6 : (((sk : Nat) : Int) == 6) = false := by simp; omega
     have b3 : (((sk : Nat) : Int) == 3) = true := by simp; omega
     have hbad : El.wholeOk h = false := yJk (List.mem_of_getElem? (zJ1 Hs)) (by simp [El.segWhole, hk3, hf1])
     have Hbad := zJ2 hbad
     clear hbad
     clear hk1 hk2 hk6 hk3 hf1
     go_wp2_with (first
      | (at_lookup; refine wpList_lookup_own_int _ rfl _ _ 250 rfl 23 3 .i64 zJ5 Tryz.underlying250 Tryz.underlying3 (zJc _) (w.heap.size + 1) k _ rfl (hown.alloc _) _ _ rfl (zJ1 Hkey) ?_; intro c hat hwc; obtain rfl := (zJ1 Hcm).read hat; clear hat hwc)
      | (at_mapUpdate; refine wpList_mapUpdate_own _ rfl _ _ _ 250 rfl 23 3 zJ5 Tryz.underlying250 _ (w.heap.size + 1) k _ rfl (hown.alloc _) (by unfold maxLen; omega) _ _ _ rfl rfl (zJ1 Hkey) _ [] (plainElem_int Tryz.underlying3 (zJ1 Hwf)) ?_; intro w1 hown1 hgrow1; have g1 := zJ7 hgrow1 (zJ1 Hbox) hsz1; obtain ⟨g1a, g1b, g1c⟩ := g1; obtain ⟨q0, q1, q2, q3⟩ := zJ6 g1a; obtain ⟨p0, p1, p2, p3, p4, p5⟩ := zJa g1b; have G1a := zJ2 g1a; have Hown1 := zJ2 hown1; have Hbl := zJ2 (zJ8 (zJ1 Hb) hgrow1); clear g1a g1b hown1 hgrow1 hown)
      | (go_at_call_of 83 (Value.bool true); refine (zJ4 _ _).mono ?_; rintro e w3 ⟨rfl, rfl⟩)
      | (go_at_call_of 83 (Value.bool false); refine (zJ9 _ _).mono ?_; rintro e w3 ⟨rfl, rfl⟩))
     exact ⟨rfl, by rw [zJ1 Hbad]; rfl, zJ1 Hbl⟩
   have b1 : (((sk : Nat) : Int) == 1) = false := by simp; omega
   have b2 : (((sk : Nat) : Int) == 2) = false := by simp; omega
   have b6 : (((sk : Nat) : Int) == 6) = false := by simp; omega
   have b3 : (((sk : Nat) : Int) == 3) = false := by simp; omega
   have hsw : El.segWhole h ⟨sk, sfl, so, sa, sf, sm⟩ = true := by simp [El.segWhole, hk2, hk6, hk3]
   have hent : El.entersBy h ⟨sk, sfl, so, sa, sf, sm⟩ = false := by simp [El.entersBy, El.isLoad, hk1]
   have hall2 : (h.segs.take (k + 1)).all (El.segWhole h) = true := by rw [List.take_add_one, zJ1 Hs, List.all_append, zJ1 Hall]; simp [hsw]
   have Hall2 := zJ2 hall2
   clear hall2
   have hany2 : (h.segs.take (k + 1)).any (El.entersBy h) = ((h.segs.take k).any (El.entersBy h) || El.entersBy h ⟨sk, sfl, so, sa, sf, sm⟩) := by rw [List.take_add_one, zJ1 Hs, List.any_append]; simp
   rw [hent] at hany2
   have Hany2 := zJ2 hany2
   clear hany2 hent hsw
   clear hk1 hk2 hk6 hk3
   go_wp2_with (first
    | (at_lookup; refine wpList_lookup_own_int _ rfl _ _ 250 rfl 23 3 .i64 zJ5 Tryz.underlying250 Tryz.underlying3 (zJc _) (w.heap.size + 1) k _ rfl (hown.alloc _) _ _ rfl (zJ1 Hkey) ?_; intro c hat hwc; obtain rfl := (zJ1 Hcm).read hat; clear hat hwc)
    | (at_mapUpdate; refine wpList_mapUpdate_own _ rfl _ _ _ 250 rfl 23 3 zJ5 Tryz.underlying250 _ (w.heap.size + 1) k _ rfl (hown.alloc _) (by unfold maxLen; omega) _ _ _ rfl rfl (zJ1 Hkey) _ [] (plainElem_int Tryz.underlying3 (zJ1 Hwf)) ?_; intro w1 hown1 hgrow1; have g1 := zJ7 hgrow1 (zJ1 Hbox) hsz1; obtain ⟨g1a, g1b, g1c⟩ := g1; obtain ⟨q0, q1, q2, q3⟩ := zJ6 g1a; obtain ⟨p0, p1, p2, p3, p4, p5⟩ := zJa g1b; have G1a := zJ2 g1a; have Hown1 := zJ2 hown1; have Hbl := zJ2 (zJ8 (zJ1 Hb) hgrow1); clear g1a g1b hown1 hgrow1 hown)
    | (go_at_call_of 83 (Value.bool true); refine (zJ4 _ _).mono ?_; rintro e w3 ⟨rfl, rfl⟩)
    | (go_at_call_of 83 (Value.bool false); refine (zJ9 _ _).mono ?_; rintro e w3 ⟨rfl, rfl⟩))
   go_roundw
   case rel =>
    refine ⟨k + 1, _, by omega, by go_num, by rw [zJ1 Hany2, Bool.or_false, zJ1 Heb], zJ1 Hall2, (zJ1 Hcm2), zJ1 Hown1, zJ1 Hbl, zJ1 G1a, by omega⟩
   case measure => simp [intOf]; omega
 ·go_enter Tryz.func87, Tryz.ntmps87
  go_wp2
  go_loopw [3, 18] (fun e3 i wr => ∃ (k : Nat) (D : DataW Unit), k <= n /\ i = .int .i64 k /\ e3 = .bool (false || (h.segs.take k).any (El.entersBy h)) /\ (h.segs.take k).all (El.segWhole h) = true /\ CM D (h.segs.take k) /\ wr.ownsMap Tryz.prog 23 (plainElem Tryz.prog 3) (w.heap.size + 1) k D /\ Below w.heap.size w wr /\ wr.heap[w.heap.size]? = some (.cells #[.int .u16 h.type, .int .u64 h.entry, .int .u64 h.phoff, .slice A n c] 49) /\ w.heap.size + 1 < wr.heap.size) (fun _ i _ => n - (intOf i).toNat)
  case atStart => exact ⟨0, .map [], Nat.zero_le _, rfl, by simp, rfl, CM.nil, map_made2 _ _, ((Below.refl _ _).alloc (Nat.le_refl _) _).alloc (by simp) _, (Below.heap_alloc _ _ _ (by simp)).trans (heap_alloc_new _ _), by simp⟩
  case round =>
  obtain ⟨k, D, hk, rfl, rfl, hall, hcm, hown, hb, hbox, hsz⟩ := hrel
  have Hall := zJ2 hall
  have Hcm := zJ2 hcm
  have Hb := zJ2 hb
  have Hbox := zJ2 hbox
  clear hall hcm hbox
  rcases Nat.lt_or_ge k n with hlt | hge
  case inr =>
   obtain rfl : k = n := by omega
   have htk : h.segs.take k = h.segs := List.take_of_length_le (by rw [zJ1 Hln]; exact Nat.le_refl _)
   rw [htk]
   have hall := zJ1 Hall
   rw [htk] at hall
   have hcm := zJ1 Hcm
   rw [htk] at hcm
   have hent : El.enters h = (false || h.segs.any (El.entersBy h)) := zJ1 E0
   rw [<- hent]
   obtain ⟨c1, r1, a1, _⟩ := hown.lookup_int zJ5 Tryz.underlying250 Tryz.underlying3 (zJc _) (key := .int .u32 1) (kl := .int .u32 ((1 : Nat) : Int)) (keyOf_int_mk Tryz.underlying23 (by decide))
   have e1 := hcm.read a1
   obtain ⟨c2, r2, a2, _⟩ := hown.lookup_int zJ5 Tryz.underlying250 Tryz.underlying3 (zJc _) (key := .int .u32 2) (kl := .int .u32 ((2 : Nat) : Int)) (keyOf_int_mk Tryz.underlying23 (by decide))
   have e2 := hcm.read a2
   obtain ⟨c3, r3, a3, _⟩ := hown.lookup_int zJ5 Tryz.underlying250 Tryz.underlying3 (zJc _) (key := .int .u32 3) (kl := .int .u32 ((3 : Nat) : Int)) (keyOf_int_mk Tryz.underlying23 (by decide))
   have e3 := hcm.read a3
   obtain ⟨c6, r6, a6, _⟩ := hown.lookup_int zJ5 Tryz.underlying250 Tryz.underlying3 (zJc _) (key := .int .u32 6) (kl := .int .u32 ((6 : Nat) : Int)) (keyOf_int_mk Tryz.underlying23 (by decide))
   have e6 := hcm.read a6
   have hwo : El.wholeOk h = (decide (0 < c1) && decide (c2 < 2) && decide (c3 < 2) && decide (c6 < 2) && El.enters h) := by
    unfold El.wholeOk
    rw [hall, Bool.true_and, cnt_pos e1, cnt_lt e2, cnt_lt e3, cnt_lt e6]
   have Hwo := zJ2 hwo
   clear hwo hent hall hcm a1 a2 a3 a6 e1 e2 e3 e6 hown hge htk
   generalize El.enters h = eb at *
   by_cases d1 : 0 < c1
   case neg =>
    have d1' : decide (0 < c1) = false := by simp; omega
    go_wp2_with (first
     | (go_at_call_of 83 (Value.bool true); refine (zJ4 _ _).mono ?_; rintro e w3 ⟨rfl, rfl⟩)
     | (go_at_call_of 83 (Value.bool false); refine (zJ9 _ _).mono ?_; rintro e w3 ⟨rfl, rfl⟩))
    all_goals exact ⟨rfl, by first | rfl | (rw [zJ1 Hwo]; simp [Or3, *]), hb⟩
   by_cases d2 : c2 < 2
   case neg =>
    have d2' : decide (c2 < 2) = false := by simp; omega
    go_wp2_with (first
     | (go_at_call_of 83 (Value.bool true); refine (zJ4 _ _).mono ?_; rintro e w3 ⟨rfl, rfl⟩)
     | (go_at_call_of 83 (Value.bool false); refine (zJ9 _ _).mono ?_; rintro e w3 ⟨rfl, rfl⟩))
    all_goals exact ⟨rfl, by first | rfl | (rw [zJ1 Hwo]; simp [Or3, *]), hb⟩
   by_cases d3 : c3 < 2
   case neg =>
    have d3' : decide (c3 < 2) = false := by simp; omega
    go_wp2_with (first
     | (go_at_call_of 83 (Value.bool true); refine (zJ4 _ _).mono ?_; rintro e w3 ⟨rfl, rfl⟩)
     | (go_at_call_of 83 (Value.bool false); refine (zJ9 _ _).mono ?_; rintro e w3 ⟨rfl, rfl⟩))
    all_goals exact ⟨rfl, by first | rfl | (rw [zJ1 Hwo]; simp [Or3, *]), hb⟩
   by_cases d6 : c6 < 2
   case neg =>
    have d6' : decide (c6 < 2) = false := by simp; omega
    go_wp2_with (first
     | (go_at_call_of 83 (Value.bool true); refine (zJ4 _ _).mono ?_; rintro e w3 ⟨rfl, rfl⟩)
     | (go_at_call_of 83 (Value.bool false); refine (zJ9 _ _).mono ?_; rintro e w3 ⟨rfl, rfl⟩))
    all_goals exact ⟨rfl, by first | rfl | (rw [zJ1 Hwo]; simp [Or3, *]), hb⟩
   cases eb
   case false =>
    go_wp2_with (first
     | (go_at_call_of 83 (Value.bool true); refine (zJ4 _ _).mono ?_; rintro e w3 ⟨rfl, rfl⟩)
     | (go_at_call_of 83 (Value.bool false); refine (zJ9 _ _).mono ?_; rintro e w3 ⟨rfl, rfl⟩))
    all_goals exact ⟨rfl, by first | rfl | (rw [zJ1 Hwo]; simp [Or3, *]), hb⟩
   case true =>
    go_wp2_with (first
     | (go_at_call_of 83 (Value.bool true); refine (zJ4 _ _).mono ?_; rintro e w3 ⟨rfl, rfl⟩)
     | (go_at_call_of 83 (Value.bool false); refine (zJ9 _ _).mono ?_; rintro e w3 ⟨rfl, rfl⟩))
    go_end0
    exact ⟨by first | rfl | (rw [zJ1 Hwo]; simp [Or3, *]), hb⟩
  obtain ⟨s, hs⟩ : ∃ s, h.segs[k]? = some s := ⟨_, List.getElem?_eq_getElem (by rw [zJ1 Hln]; exact hlt)⟩
  obtain ⟨b1', o1, rfl, hbb, c0, c1, c2', c3, c4, c5⟩ := wJb ((zJ1 Hl).below (hb.mono hB)) hs
  have hfit := (zJ1 Hf) _ (List.mem_of_getElem? hs)
  have hcl := count_le (h.segs.take k) s.kind
  have hcl2 : (h.segs.take k).length <= k := List.length_take_le _ _
  have hcm2 := CM.step (zJ1 Hcm) s
  have Hcm2 : Hid (CM (D.put (.int .u32 (s.kind : Nat)) (.lit (.int .i64 ((El.countK (h.segs.take k) s.kind : Nat) + 1)))) (h.segs.take (k + 1))) := by rw [List.take_add_one, hs]; exact zJ2 hcm2
  obtain ⟨sk, sfl, so, sa, sf, sm⟩ := s
  have Hfit := zJ2 hfit
  obtain ⟨i1, i2, i3, i4, i5, i6⟩ := hfit
  simp only at i1 i2 i3 i4 i5 i6 c0 c1 c2' c3 c4 c5 hcl
  have hsz1 : w.heap.size + 1 < wr.heap.size := hsz
  have hkey : keyOf Tryz.prog 23 (.int .u32 ((sk : Nat) : Int)) = some (.int .u32 ((sk : Nat) : Int)) := keyOf_int_mk Tryz.underlying23 (wf_u32 i1)
  have hwf : (Lit.int .i64 (((El.countK (h.segs.take k) sk : Nat) : Int) + 1)).wf = true := wf_i64 (by omega) (by omega)
  have Hkey := zJ2 hkey
  have Hwf := zJ2 hwf
  have Hs := zJ2 hs
  clear hkey hwf hs hcm2 hb
  by_cases hk1 : sk = 1
  ·rcases Bool.eq_false_or_eq_true (false || (h.segs.take k).any (El.entersBy h)) with heb | heb
   ·have heb2 := heb
    have b1 : (((sk : Nat) : Int) == 1) = true := by simp; omega
    have hsw : El.segWhole h ⟨sk, sfl, so, sa, sf, sm⟩ = true := by simp [El.segWhole, hk1]
    have hall2 : (h.segs.take (k + 1)).all (El.segWhole h) = true := by rw [List.take_add_one, zJ1 Hs, List.all_append, zJ1 Hall]; simp [hsw]
    have Hall2 := zJ2 hall2
    have hany2 : (false || (h.segs.take (k + 1)).any (El.entersBy h)) = true := by rw [List.take_add_one, List.any_append, <- Bool.or_assoc, heb]; rfl
    have Hany2 := zJ2 hany2
    clear hall2 hany2 hsw heb2 hk1
    rw [heb]
    clear heb
    go_wp2_with (first
     | (at_lookup; refine wpList_lookup_own_int _ rfl _ _ 250 rfl 23 3 .i64 zJ5 Tryz.underlying250 Tryz.underlying3 (zJc _) (w.heap.size + 1) k _ rfl (hown.alloc _) _ _ rfl (zJ1 Hkey) ?_; intro c hat hwc; obtain rfl := (zJ1 Hcm).read hat; clear hat hwc)
     | (at_mapUpdate; refine wpList_mapUpdate_own _ rfl _ _ _ 250 rfl 23 3 zJ5 Tryz.underlying250 _ (w.heap.size + 1) k _ rfl (hown.alloc _) (by unfold maxLen; omega) _ _ _ rfl rfl (zJ1 Hkey) _ [] (plainElem_int Tryz.underlying3 (zJ1 Hwf)) ?_; intro w1 hown1 hgrow1; have g1 := zJ7 hgrow1 (zJ1 Hbox) hsz1; obtain ⟨g1a, g1b, g1c⟩ := g1; obtain ⟨q0, q1, q2, q3⟩ := zJ6 g1a; obtain ⟨p0, p1, p2, p3, p4, p5⟩ := zJa g1b; have G1a := zJ2 g1a; have Hown1 := zJ2 hown1; have Hbl := zJ2 (zJ8 (zJ1 Hb) hgrow1); clear g1a g1b hown1 hgrow1 hown)
     | (go_at_call_of 83 (Value.bool true); refine (zJ4 _ _).mono ?_; rintro e w3 ⟨rfl, rfl⟩)
     | (go_at_call_of 83 (Value.bool false); refine (zJ9 _ _).mono ?_; rintro e w3 ⟨rfl, rfl⟩))
    go_roundw
    case rel =>
     refine ⟨k + 1, _, by omega, by go_num, by rw [zJ1 Hany2], zJ1 Hall2, (zJ1 Hcm2), zJ1 Hown1, zJ1 Hbl, zJ1 G1a, by omega⟩
    case measure => simp [intOf]; omega
   ·have Heb := zJ2 heb
    rw [heb]
    clear heb
    by_cases hfl : sfl % 2 = 1
    ·have hfb : bits .and .u8 ((sfl : Nat) : Int) 1 = 1 := by rw [xJ9 _ i2, hfl]; rfl
     by_cases hlt2 : El.w64 h.entry sa < sm
     ·have hw := w64_eq h.entry sa hen i4
      have b1 : (((sk : Nat) : Int) == 1) = true := by simp; omega
      have hlt3 : (IntKind.u64.wrap (((h.entry : Nat) : Int) - ((sa : Nat) : Int))) < ((sm : Nat) : Int) := by rw [hw]; omega
      have hsw : El.segWhole h ⟨sk, sfl, so, sa, sf, sm⟩ = true := by simp [El.segWhole, hk1]
      have hent : El.entersBy h ⟨sk, sfl, so, sa, sf, sm⟩ = true := by simp [El.entersBy, El.isLoad, hk1, hfl, hlt2]
      have hall2 : (h.segs.take (k + 1)).all (El.segWhole h) = true := by rw [List.take_add_one, zJ1 Hs, List.all_append, zJ1 Hall]; simp [hsw]
      have Hall2 := zJ2 hall2
      clear hall2
      have hany2 : (h.segs.take (k + 1)).any (El.entersBy h) = ((h.segs.take k).any (El.entersBy h) || El.entersBy h ⟨sk, sfl, so, sa, sf, sm⟩) := by rw [List.take_add_one, zJ1 Hs, List.any_append]; simp
      rw [hent] at hany2
      have Hany2 := zJ2 hany2
      clear hany2 hent hsw
      clear hk1 hfl hlt2 hw
      go_wp2_with (first
       | (at_lookup; refine wpList_lookup_own_int _ rfl _ _ 250 rfl 23 3 .i64 zJ5 Tryz.underlying250 Tryz.underlying3 (zJc _) (w.heap.size + 1) k _ rfl (hown.alloc _) _ _ rfl (zJ1 Hkey) ?_; intro c hat hwc; obtain rfl := (zJ1 Hcm).read hat; clear hat hwc)
       | (at_mapUpdate; refine wpList_mapUpdate_own _ rfl _ _ _ 250 rfl 23 3 zJ5 Tryz.underlying250 _ (w.heap.size + 1) k _ rfl (hown.alloc _) (by unfold maxLen; omega) _ _ _ rfl rfl (zJ1 Hkey) _ [] (plainElem_int Tryz.underlying3 (zJ1 Hwf)) ?_; intro w1 hown1 hgrow1; have g1 := zJ7 hgrow1 (zJ1 Hbox) hsz1; obtain ⟨g1a, g1b, g1c⟩ := g1; obtain ⟨q0, q1, q2, q3⟩ := zJ6 g1a; obtain ⟨p0, p1, p2, p3, p4, p5⟩ := zJa g1b; have G1a := zJ2 g1a; have Hown1 := zJ2 hown1; have Hbl := zJ2 (zJ8 (zJ1 Hb) hgrow1); clear g1a g1b hown1 hgrow1 hown)
       | (go_at_call_of 83 (Value.bool true); refine (zJ4 _ _).mono ?_; rintro e w3 ⟨rfl, rfl⟩)
       | (go_at_call_of 83 (Value.bool false); refine (zJ9 _ _).mono ?_; rintro e w3 ⟨rfl, rfl⟩))
      go_roundw
      case rel =>
       refine ⟨k + 1, _, by omega, by go_num, by rw [zJ1 Hany2]; simp, zJ1 Hall2, (zJ1 Hcm2), zJ1 Hown1, zJ1 Hbl, zJ1 G1a, by omega⟩
      case measure => simp [intOf]; omega
     ·have hw := w64_eq h.entry sa hen i4
      have b1 : (((sk : Nat) : Int) == 1) = true := by simp; omega
      have hlt3 : decide ((IntKind.u64.wrap (((h.entry : Nat) : Int) - ((sa : Nat) : Int))) < ((sm : Nat) : Int)) = false := by rw [hw]; simp; omega
      have hsw : El.segWhole h ⟨sk, sfl, so, sa, sf, sm⟩ = true := by simp [El.segWhole, hk1]
      have hent : El.entersBy h ⟨sk, sfl, so, sa, sf, sm⟩ = false := by simp [El.entersBy, El.isLoad, hk1, hfl, hlt2]
      have hall2 : (h.segs.take (k + 1)).all (El.segWhole h) = true := by rw [List.take_add_one, zJ1 Hs, List.all_append, zJ1 Hall]; simp [hsw]
      have Hall2 := zJ2 hall2
      clear hall2
      have hany2 : (h.segs.take (k + 1)).any (El.entersBy h) = ((h.segs.take k).any (El.entersBy h) || El.entersBy h ⟨sk, sfl, so, sa, sf, sm⟩) := by rw [List.take_add_one, zJ1 Hs, List.any_append]; simp
      rw [hent] at hany2
      have Hany2 := zJ2 hany2
      clear hany2 hent hsw
      clear hk1 hfl hlt2 hw
      go_wp2_with (first
       | (at_lookup; refine wpList_lookup_own_int _ rfl _ _ 250 rfl 23 3 .i64 zJ5 Tryz.underlying250 Tryz.underlying3 (zJc _) (w.heap.size + 1) k _ rfl (hown.alloc _) _ _ rfl (zJ1 Hkey) ?_; intro c hat hwc; obtain rfl := (zJ1 Hcm).read hat; clear hat hwc)
       | (at_mapUpdate; refine wpList_mapUpdate_own _ rfl _ _ _ 250 rfl 23 3 zJ5 Tryz.underlying250 _ (w.heap.size + 1) k _ rfl (hown.alloc _) (by unfold maxLen; omega) _ _ _ rfl rfl (zJ1 Hkey) _ [] (plainElem_int Tryz.underlying3 (zJ1 Hwf)) ?_; intro w1 hown1 hgrow1; have g1 := zJ7 hgrow1 (zJ1 Hbox) hsz1; obtain ⟨g1a, g1b, g1c⟩ := g1; obtain ⟨q0, q1, q2, q3⟩ := zJ6 g1a; obtain ⟨p0, p1, p2, p3, p4, p5⟩ := zJa g1b; have G1a := zJ2 g1a; have Hown1 := zJ2 hown1; have Hbl := zJ2 (zJ8 (zJ1 Hb) hgrow1); clear g1a g1b hown1 hgrow1 hown)
       | (go_at_call_of 83 (Value.bool true); refine (zJ4 _ _).mono ?_; rintro e w3 ⟨rfl, rfl⟩)
       | (go_at_call_of 83 (Value.bool false); refine (zJ9 _ _).mono ?_; rintro e w3 ⟨rfl, rfl⟩))
      go_roundw
      case rel =>
       refine ⟨k + 1, _, by omega, by go_num, by rw [zJ1 Hany2, Bool.or_false, zJ1 Heb], zJ1 Hall2, (zJ1 Hcm2), zJ1 Hown1, zJ1 Hbl, zJ1 G1a, by omega⟩
      case measure => simp [intOf]; omega
    ·have hfl0 : sfl % 2 = 0 := by omega
     have hfb : bits .and .u8 ((sfl : Nat) : Int) 1 = 0 := by rw [xJ9 _ i2, hfl0]; rfl
     have b1 : (((sk : Nat) : Int) == 1) = true := by simp; omega
     have hsw : El.segWhole h ⟨sk, sfl, so, sa, sf, sm⟩ = true := by simp [El.segWhole, hk1]
     have hent : El.entersBy h ⟨sk, sfl, so, sa, sf, sm⟩ = false := by simp [El.entersBy, El.isLoad, hk1, hfl0]
     have hall2 : (h.segs.take (k + 1)).all (El.segWhole h) = true := by rw [List.take_add_one, zJ1 Hs, List.all_append, zJ1 Hall]; simp [hsw]
     have Hall2 := zJ2 hall2
     clear hall2
     have hany2 : (h.segs.take (k + 1)).any (El.entersBy h) = ((h.segs.take k).any (El.entersBy h) || El.entersBy h ⟨sk, sfl, so, sa, sf, sm⟩) := by rw [List.take_add_one, zJ1 Hs, List.any_append]; simp
     rw [hent] at hany2
     have Hany2 := zJ2 hany2
     clear hany2 hent hsw
     clear hk1 hfl hfl0
     go_wp2_with (first
      | (at_lookup; refine wpList_lookup_own_int _ rfl _ _ 250 rfl 23 3 .i64 zJ5 Tryz.underlying250 Tryz.underlying3 (zJc _) (w.heap.size + 1) k _ rfl (hown.alloc _) _ _ rfl (zJ1 Hkey) ?_; intro c hat hwc; obtain rfl := (zJ1 Hcm).read hat; clear hat hwc)
      | (at_mapUpdate; refine wpList_mapUpdate_own _ rfl _ _ _ 250 rfl 23 3 zJ5 Tryz.underlying250 _ (w.heap.size + 1) k _ rfl (hown.alloc _) (by unfold maxLen; omega) _ _ _ rfl rfl (zJ1 Hkey) _ [] (plainElem_int Tryz.underlying3 (zJ1 Hwf)) ?_; intro w1 hown1 hgrow1; have g1 := zJ7 hgrow1 (zJ1 Hbox) hsz1; obtain ⟨g1a, g1b, g1c⟩ := g1; obtain ⟨q0, q1, q2, q3⟩ := zJ6 g1a; obtain ⟨p0, p1, p2, p3, p4, p5⟩ := zJa g1b; have G1a := zJ2 g1a; have Hown1 := zJ2 hown1; have Hbl := zJ2 (zJ8 (zJ1 Hb) hgrow1); clear g1a g1b hown1 hgrow1 hown)
      | (go_at_call_of 83 (Value.bool true); refine (zJ4 _ _).mono ?_; rintro e w3 ⟨rfl, rfl⟩)
      | (go_at_call_of 83 (Value.bool false); refine (zJ9 _ _).mono ?_; rintro e w3 ⟨rfl, rfl⟩))
     go_roundw
     case rel =>
      refine ⟨k + 1, _, by omega, by go_num, by rw [zJ1 Hany2, Bool.or_false, zJ1 Heb], zJ1 Hall2, (zJ1 Hcm2), zJ1 Hown1, zJ1 Hbl, zJ1 G1a, by omega⟩
     case measure => simp [intOf]; omega
  ·have Hk1 := zJ2 hk1
   generalize heb : (false || (h.segs.take k).any (El.entersBy h)) = eb at *
   have Heb := zJ2 heb
   clear heb
   by_cases hk2 : sk = 2
   ·by_cases hfd : El.filled h ⟨sk, sfl, so, sa, sf, sm⟩ = true
    ·have Hfd := zJ2 hfd
     have b1 : (((sk : Nat) : Int) == 1) = false := by simp; omega
     have b2 : (((sk : Nat) : Int) == 2) = true := by simp; omega
     have hsw : El.segWhole h ⟨sk, sfl, so, sa, sf, sm⟩ = true := by subst hk2; simp [El.segWhole, hfd]
     have hent : El.entersBy h ⟨sk, sfl, so, sa, sf, sm⟩ = false := by simp [El.entersBy, El.isLoad, hk1]
     have hall2 : (h.segs.take (k + 1)).all (El.segWhole h) = true := by rw [List.take_add_one, zJ1 Hs, List.all_append, zJ1 Hall]; simp [hsw]
     have Hall2 := zJ2 hall2
     clear hall2
     have hany2 : (h.segs.take (k + 1)).any (El.entersBy h) = ((h.segs.take k).any (El.entersBy h) || El.entersBy h ⟨sk, sfl, so, sa, sf, sm⟩) := by rw [List.take_add_one, zJ1 Hs, List.any_append]; simp
     rw [hent] at hany2
     have Hany2 := zJ2 hany2
     clear hany2 hent hsw
     clear hk1 hk2 hfd
     go_wp2_with (first
      | (at_lookup; refine wpList_lookup_own_int _ rfl _ _ 250 rfl 23 3 .i64 zJ5 Tryz.underlying250 Tryz.underlying3 (zJc _) (w.heap.size + 1) k _ rfl (hown.alloc _) _ _ rfl (zJ1 Hkey) ?_; intro c hat hwc; obtain rfl := (zJ1 Hcm).read hat; clear hat hwc)
      | (at_mapUpdate; refine wpList_mapUpdate_own _ rfl _ _ _ 250 rfl 23 3 zJ5 Tryz.underlying250 _ (w.heap.size + 1) k _ rfl (hown.alloc _) (by unfold maxLen; omega) _ _ _ rfl rfl (zJ1 Hkey) _ [] (plainElem_int Tryz.underlying3 (zJ1 Hwf)) ?_; intro w1 hown1 hgrow1; have g1 := zJ7 hgrow1 (zJ1 Hbox) hsz1; obtain ⟨g1a, g1b, g1c⟩ := g1; obtain ⟨q0, q1, q2, q3⟩ := zJ6 g1a; obtain ⟨p0, p1, p2, p3, p4, p5⟩ := zJa g1b; have G1a := zJ2 g1a; have Hown1 := zJ2 hown1; have Hbl := zJ2 (zJ8 (zJ1 Hb) hgrow1); clear g1a g1b hown1 hgrow1 hown)
      | (go_at_call_of 83 (Value.bool true); refine (zJ4 _ _).mono ?_; rintro e w3 ⟨rfl, rfl⟩)
      | (go_at_call_of 83 (Value.bool false); refine (zJ9 _ _).mono ?_; rintro e w3 ⟨rfl, rfl⟩)
      | (go_at_call 137; refine ((zJ1 Hfil) ⟨sk, sfl, so, sa, sf, sm⟩ (zJ1 Hfit) _ (zJ1 Hbl)).mono ?_; rintro e w2 ⟨rfl, hb2⟩; rw [zJ1 Hfd]; have Hb2 := zJ2 hb2; have hq := (hb2.block _ g1c.1).trans (zJ1 G1a); have HQ := zJ2 hq; have hz2 := hb2.size; clear hb2 hq))
     go_roundw
     case rel =>
      refine ⟨k + 1, _, by omega, by go_num, by rw [zJ1 Hany2, Bool.or_false, zJ1 Heb], zJ1 Hall2, (zJ1 Hcm2), yJc (zJ1 Hown1) (zJ1 Hb2), (zJ1 Hbl).trans ((zJ1 Hb2).mono (zJ1 Hbl).size), zJ1 HQ, by omega⟩
     case measure => simp [intOf]; omega
    ·rw [Bool.not_eq_true] at hfd
     have Hfd := zJ2 hfd
     have b1 : (((sk : Nat) : Int) == 1) = false := by simp; omega
     have b2 : (((sk : Nat) : Int) == 2) = true := by simp; omega
     have hbad : El.wholeOk h = false := yJk (List.mem_of_getElem? (zJ1 Hs)) (by subst hk2; simp [El.segWhole, hfd])
     have Hbad := zJ2 hbad
     clear hbad
     clear hk1 hk2 hfd
     go_wp2_with (first
      | (at_lookup; refine wpList_lookup_own_int _ rfl _ _ 250 rfl 23 3 .i64 zJ5 Tryz.underlying250 Tryz.underlying3 (zJc _) (w.heap.size + 1) k _ rfl (hown.alloc _) _ _ rfl (zJ1 Hkey) ?_; intro c hat hwc; obtain rfl := (zJ1 Hcm).read hat; clear hat hwc)
      | (at_mapUpdate; refine wpList_mapUpdate_own _ rfl _ _ _ 250 rfl 23 3 zJ5 Tryz.underlying250 _ (w.heap.size + 1) k _ rfl (hown.alloc _) (by unfold maxLen; omega) _ _ _ rfl rfl (zJ1 Hkey) _ [] (plainElem_int Tryz.underlying3 (zJ1 Hwf)) ?_; intro w1 hown1 hgrow1; have g1 := zJ7 hgrow1 (zJ1 Hbox) hsz1; obtain ⟨g1a, g1b, g1c⟩ := g1; obtain ⟨q0, q1, q2, q3⟩ := zJ6 g1a; obtain ⟨p0, p1, p2, p3, p4, p5⟩ := zJa g1b; have G1a := zJ2 g1a; have Hown1 := zJ2 hown1; have Hbl := zJ2 (zJ8 (zJ1 Hb) hgrow1); clear g1a g1b hown1 hgrow1 hown)
      | (go_at_call_of 83 (Value.bool true); refine (zJ4 _ _).mono ?_; rintro e w3 ⟨rfl, rfl⟩)
      | (go_at_call_of 83 (Value.bool false); refine (zJ9 _ _).mono ?_; rintro e w3 ⟨rfl, rfl⟩)
      | (go_at_call 137; refine ((zJ1 Hfil) ⟨sk, sfl, so, sa, sf, sm⟩ (zJ1 Hfit) _ (zJ1 Hbl)).mono ?_; rintro e w2 ⟨rfl, hb2⟩; rw [zJ1 Hfd]; have Hb2 := zJ2 hb2; have hq := (hb2.block _ g1c.1).trans (zJ1 G1a); have HQ := zJ2 hq; have hz2 := hb2.size; clear hb2 hq))
     exact ⟨rfl, by rw [zJ1 Hbad]; rfl, (zJ1 Hbl).trans ((zJ1 Hb2).mono (zJ1 Hbl).size)⟩
   by_cases hk6 : sk = 6
   ·by_cases hfd : El.filled h ⟨sk, sfl, so, sa, sf, sm⟩ = true
    ·have Hfd := zJ2 hfd
     have b1 : (((sk : Nat) : Int) == 1) = false := by simp; omega
     have b2 : (((sk : Nat) : Int) == 2) = false := by simp; omega
     have b6 : (((sk : Nat) : Int) == 6) = true := by simp; omega
     have hsw : El.segWhole h ⟨sk, sfl, so, sa, sf, sm⟩ = true := by subst hk6; simp [El.segWhole, hfd]
     have hent : El.entersBy h ⟨sk, sfl, so, sa, sf, sm⟩ = false := by simp [El.entersBy, El.isLoad, hk1]
     have hall2 : (h.segs.take (k + 1)).all (El.segWhole h) = true := by rw [List.take_add_one, zJ1 Hs, List.all_append, zJ1 Hall]; simp [hsw]
     have Hall2 := zJ2 hall2
     clear hall2
     have hany2 : (h.segs.take (k + 1)).any (El.entersBy h) = ((h.segs.take k).any (El.entersBy h) || El.entersBy h ⟨sk, sfl, so, sa, sf, sm⟩) := by rw [List.take_add_one, zJ1 Hs, List.any_append]; simp
     rw [hent] at hany2
     have Hany2 := zJ2 hany2
     clear hany2 hent hsw
     clear hk1 hk6 hfd hk2
     go_wp2_with (first
      | (at_lookup; refine wpList_lookup_own_int _ rfl _ _ 250 rfl 23 3 .i64 zJ5 Tryz.underlying250 Tryz.underlying3 (zJc _) (w.heap.size + 1) k _ rfl (hown.alloc _) _ _ rfl (zJ1 Hkey) ?_; intro c hat hwc; obtain rfl := (zJ1 Hcm).read hat; clear hat hwc)
      | (at_mapUpdate; refine wpList_mapUpdate_own _ rfl _ _ _ 250 rfl 23 3 zJ5 Tryz.underlying250 _ (w.heap.size + 1) k _ rfl (hown.alloc _) (by unfold maxLen; omega) _ _ _ rfl rfl (zJ1 Hkey) _ [] (plainElem_int Tryz.underlying3 (zJ1 Hwf)) ?_; intro w1 hown1 hgrow1; have g1 := zJ7 hgrow1 (zJ1 Hbox) hsz1; obtain ⟨g1a, g1b, g1c⟩ := g1; obtain ⟨q0, q1, q2, q3⟩ := zJ6 g1a; obtain ⟨p0, p1, p2, p3, p4, p5⟩ := zJa g1b; have G1a := zJ2 g1a; have Hown1 := zJ2 hown1; have Hbl := zJ2 (zJ8 (zJ1 Hb) hgrow1); clear g1a g1b hown1 hgrow1 hown)
      | (go_at_call_of 83 (Value.bool true); refine (zJ4 _ _).mono ?_; rintro e w3 ⟨rfl, rfl⟩)
      | (go_at_call_of 83 (Value.bool false); refine (zJ9 _ _).mono ?_; rintro e w3 ⟨rfl, rfl⟩)
      | (go_at_call 137; refine ((zJ1 Hfil) ⟨sk, sfl, so, sa, sf, sm⟩ (zJ1 Hfit) _ (zJ1 Hbl)).mono ?_; rintro e w2 ⟨rfl, hb2⟩; rw [zJ1 Hfd]; have Hb2 := zJ2 hb2; have hq := (hb2.block _ g1c.1).trans (zJ1 G1a); have HQ := zJ2 hq; have hz2 := hb2.size; clear hb2 hq))
     go_roundw
     case rel =>
      refine ⟨k + 1, _, by omega, by go_num, by rw [zJ1 Hany2, Bool.or_false, zJ1 Heb], zJ1 Hall2, (zJ1 Hcm2), yJc (zJ1 Hown1) (zJ1 Hb2), (zJ1 Hbl).trans ((zJ1 Hb2).mono (zJ1 Hbl).size), zJ1 HQ, by omega⟩
     case measure => simp [intOf]; omega
    ·rw [Bool.not_eq_true] at hfd
     have Hfd := zJ2 hfd
     have b1 : (((sk : Nat) : Int) == 1) = false := by simp; omega
     have b2 : (((sk : Nat) : Int) == 2) = false := by simp; omega
     have b6 : (((sk : Nat) : Int) == 6) = true := by simp; omega
     have hbad : El.wholeOk h = false := yJk (List.mem_of_getElem? (zJ1 Hs)) (by subst hk6; simp [El.segWhole, hfd])
     have Hbad := zJ2 hbad
     clear hbad
     clear hk1 hk6 hfd hk2
     go_wp2_with (first
      | (at_lookup; refine wpList_lookup_own_int _ rfl _ _ 250 rfl 23 3 .i64 zJ5 Tryz.underlying250 Tryz.underlying3 (zJc _) (w.heap.size + 1) k _ rfl (hown.alloc _) _ _ rfl (zJ1 Hkey) ?_; intro c hat hwc; obtain rfl := (zJ1 Hcm).read hat; clear hat hwc)
      | (at_mapUpdate; refine wpList_mapUpdate_own _ rfl _ _ _ 250 rfl 23 3 zJ5 Tryz.underlying250 _ (w.heap.size + 1) k _ rfl (hown.alloc _) (by unfold maxLen; omega) _ _ _ rfl rfl (zJ1 Hkey) _ [] (plainElem_int Tryz.underlying3 (zJ1 Hwf)) ?_; intro w1 hown1 hgrow1; have g1 := zJ7 hgrow1 (zJ1 Hbox) hsz1; obtain ⟨g1a, g1b, g1c⟩ := g1; obtain ⟨q0, q1, q2, q3⟩ := zJ6 g1a; obtain ⟨p0, p1, p2, p3, p4, p5⟩ := zJa g1b; have G1a := zJ2 g1a; have Hown1 := zJ2 hown1; have Hbl := zJ2 (zJ8 (zJ1 Hb) hgrow1); clear g1a g1b hown1 hgrow1 hown)
      | (go_at_call_of 83 (Value.bool true); refine (zJ4 _ _).mono ?_; rintro e w3 ⟨rfl, rfl⟩)
      | (go_at_call_of 83 (Value.bool false); refine (zJ9 _ _).mono ?_; rintro e w3 ⟨rfl, rfl⟩)
      | (go_at_call 137; refine ((zJ1 Hfil) ⟨sk, sfl, so, sa, sf, sm⟩ (zJ1 Hfit) _ (zJ1 Hbl)).mono ?_; rintro e w2 ⟨rfl, hb2⟩; rw [zJ1 Hfd]; have Hb2 := zJ2 hb2; have hq := (hb2.block _ g1c.1).trans (zJ1 G1a); have HQ := zJ2 hq; have hz2 := hb2.size; clear hb2 hq))
     exact ⟨rfl, by rw [zJ1 Hbad]; rfl, (zJ1 Hbl).trans ((zJ1 Hb2).mono (zJ1 Hbl).size)⟩
   by_cases hk3 : sk = 3
   ·by_cases hf1 : 0 < sf
    ·by_cases hf2 : sf <= 201
     ·have f1 : decide (0 < sf) = true := by simp; omega
      have f2 : decide (((sf : Nat) : Int) <= 201) = true := by simp; omega
      clear i3 i4 i6
      have b1 : (((sk : Nat) : Int) == 1) = false := by simp; omega
      have b2 : (((sk : Nat) : Int) == 2) = false := by simp; omega
      have b6 : (((sk : Nat) : Int) == 6) = false := by simp; omega
      have b3 : (((sk : Nat) : Int) == 3) = true := by simp; omega
      have hsw : El.segWhole h ⟨sk, sfl, so, sa, sf, sm⟩ = true := by simp [El.segWhole, hk3, hf1, hf2]
      have hent : El.entersBy h ⟨sk, sfl, so, sa, sf, sm⟩ = false := by simp [El.entersBy, El.isLoad, hk1]
      have hall2 : (h.segs.take (k + 1)).all (El.segWhole h) = true := by rw [List.take_add_one, zJ1 Hs, List.all_append, zJ1 Hall]; simp [hsw]
      have Hall2 := zJ2 hall2
      clear hall2
      have hany2 : (h.segs.take (k + 1)).any (El.entersBy h) = ((h.segs.take k).any (El.entersBy h) || El.entersBy h ⟨sk, sfl, so, sa, sf, sm⟩) := by rw [List.take_add_one, zJ1 Hs, List.any_append]; simp
      rw [hent] at hany2
      have Hany2 := zJ2 hany2
      clear hany2 hent hsw
      clear hk1 hk2 hk6 hk3 hf1 hf2
      go_wp2_with (first
       | (at_lookup; refine wpList_lookup_own_int _ rfl _ _ 250 rfl 23 3 .i64 zJ5 Tryz.underlying250 Tryz.underlying3 (zJc _) (w.heap.size + 1) k _ rfl (hown.alloc _) _ _ rfl (zJ1 Hkey) ?_; intro c hat hwc; obtain rfl := (zJ1 Hcm).read hat; clear hat hwc)
       | (at_mapUpdate; refine wpList_mapUpdate_own _ rfl _ _ _ 250 rfl 23 3 zJ5 Tryz.underlying250 _ (w.heap.size + 1) k _ rfl (hown.alloc _) (by unfold maxLen; omega) _ _ _ rfl rfl (zJ1 Hkey) _ [] (plainElem_int Tryz.underlying3 (zJ1 Hwf)) ?_; intro w1 hown1 hgrow1; have g1 := zJ7 hgrow1 (zJ1 Hbox) hsz1; obtain ⟨g1a, g1b, g1c⟩ := g1; obtain ⟨q0, q1, q2, q3⟩ := zJ6 g1a; obtain ⟨p0, p1, p2, p3, p4, p5⟩ := zJa g1b; have G1a := zJ2 g1a; have Hown1 := zJ2 hown1; have Hbl := zJ2 (zJ8 (zJ1 Hb) hgrow1); clear g1a g1b hown1 hgrow1 hown)
       | (go_at_call_of 83 (Value.bool true); refine (zJ4 _ _).mono ?_; rintro e w3 ⟨rfl, rfl⟩)
       | (go_at_call_of 83 (Value.bool false); refine (zJ9 _ _).mono ?_; rintro e w3 ⟨rfl, rfl⟩))
      go_roundw
      case rel =>
       refine ⟨k + 1, _, by omega, by go_num, by rw [zJ1 Hany2, Bool.or_false, zJ1 Heb], zJ1 Hall2, (zJ1 Hcm2), zJ1 Hown1, zJ1 Hbl, zJ1 G1a, by omega⟩
      case measure => simp [intOf]; omega
     ·have f1 : decide (0 < sf) = true := by simp; omega
      clear i3 i4 i6
      have f2 : decide (((sf : Nat) : Int) <= 201) = false := by simp; omega
      have b1 : (((sk : Nat) : Int) == 1) = false := by simp; omega
      have b2 : (((sk : Nat) : Int) == 2) = false := by simp; omega
      have b6 : (((sk : Nat) : Int) == 6) = false := by simp; omega
      have b3 : (((sk : Nat) : Int) == 3) = true := by simp; omega
      have hbad : El.wholeOk h = false := yJk (List.mem_of_getElem? (zJ1 Hs)) (by simp [El.segWhole, hk3, hf2])
      have Hbad := zJ2 hbad
      clear hbad
      clear hk1 hk2 hk6 hk3 hf1 hf2
      go_wp2_with (first
       | (at_lookup; refine wpList_lookup_own_int _ rfl _ _ 250 rfl 23 3 .i64 zJ5 Tryz.underlying250 Tryz.underlying3 (zJc _) (w.heap.size + 1) k _ rfl (hown.alloc _) _ _ rfl (zJ1 Hkey) ?_; intro c hat hwc; obtain rfl := (zJ1 Hcm).read hat; clear hat hwc)
       | (at_mapUpdate; refine wpList_mapUpdate_own _ rfl _ _ _ 250 rfl 23 3 zJ5 Tryz.underlying250 _ (w.heap.size + 1) k _ rfl (hown.alloc _) (by unfold maxLen; omega) _ _ _ rfl rfl (zJ1 Hkey) _ [] (plainElem_int Tryz.underlying3 (zJ1 Hwf)) ?_; intro w1 hown1 hgrow1; have g1 := zJ7 hgrow1 (zJ1 Hbox) hsz1; obtain ⟨g1a, g1b, g1c⟩ := g1; obtain ⟨q0, q1, q2, q3⟩ := zJ6 g1a; obtain ⟨p0, p1, p2, p3, p4, p5⟩ := zJa g1b; have G1a := zJ2 g1a; have Hown1 := zJ2 hown1; have Hbl := zJ2 (zJ8 (zJ1 Hb) hgrow1); clear g1a g1b hown1 hgrow1 hown)
       | (go_at_call_of 83 (Value.bool true); refine (zJ4 _ _).mono ?_; rintro e w3 ⟨rfl, rfl⟩)
       | (go_at_call_of 83 (Value.bool false); refine (zJ9 _ _).mono ?_; rintro e w3 ⟨rfl, rfl⟩))
      exact ⟨rfl, by rw [zJ1 Hbad]; rfl, zJ1 Hbl⟩
    ·have f1 : ¬ (0 : Int) < ((sf : Nat) : Int) := by omega
     have f1' : decide (0 < sf) = false := by simp; omega
     have b1 : (((sk : Nat) : Int) == 1) = false := by simp; omega
     have b2 : (((sk : Nat) : Int) == 2) = false := by simp; omega
     have b6 : (((sk : Nat) : Int) == 6) = false := by simp; omega
     have b3 : (((sk : Nat) : Int) == 3) = true := by simp; omega
     have hbad : El.wholeOk h = false := yJk (List.mem_of_getElem? (zJ1 Hs)) (by simp [El.segWhole, hk3, hf1])
     have Hbad := zJ2 hbad
     clear hbad
     clear hk1 hk2 hk6 hk3 hf1
     go_wp2_with (first
      | (at_lookup; refine wpList_lookup_own_int _ rfl _ _ 250 rfl 23 3 .i64 zJ5 Tryz.underlying250 Tryz.underlying3 (zJc _) (w.heap.size + 1) k _ rfl (hown.alloc _) _ _ rfl (zJ1 Hkey) ?_; intro c hat hwc; obtain rfl := (zJ1 Hcm).read hat; clear hat hwc)
      | (at_mapUpdate; refine wpList_mapUpdate_own _ rfl _ _ _ 250 rfl 23 3 zJ5 Tryz.underlying250 _ (w.heap.size + 1) k _ rfl (hown.alloc _) (by unfold maxLen; omega) _ _ _ rfl rfl (zJ1 Hkey) _ [] (plainElem_int Tryz.underlying3 (zJ1 Hwf)) ?_; intro w1 hown1 hgrow1; have g1 := zJ7 hgrow1 (zJ1 Hbox) hsz1; obtain ⟨g1a, g1b, g1c⟩ := g1; obtain ⟨q0, q1, q2, q3⟩ := zJ6 g1a; obtain ⟨p0, p1, p2, p3, p4, p5⟩ := zJa g1b; have G1a := zJ2 g1a; have Hown1 := zJ2 hown1; have Hbl := zJ2 (zJ8 (zJ1 Hb) hgrow1); clear g1a g1b hown1 hgrow1 hown)
      | (go_at_call_of 83 (Value.bool true); refine (zJ4 _ _).mono ?_; rintro e w3 ⟨rfl, rfl⟩)
      | (go_at_call_of 83 (Value.bool false); refine (zJ9 _ _).mono ?_; rintro e w3 ⟨rfl, rfl⟩))
     exact ⟨rfl, by rw [zJ1 Hbad]; rfl, zJ1 Hbl⟩
   have b1 : (((sk : Nat) : Int) == 1) = false := by simp; omega
   have b2 : (((sk : Nat) : Int) == 2) = false := by simp; omega
   have b6 : (((sk : Nat) : Int) == 6) = false := by simp; omega
   have b3 : (((sk : Nat) : Int) == 3) = false := by simp; omega
   have hsw : El.segWhole h ⟨sk, sfl, so, sa, sf, sm⟩ = true := by simp [El.segWhole, hk2, hk6, hk3]
   have hent : El.entersBy h ⟨sk, sfl, so, sa, sf, sm⟩ = false := by simp [El.entersBy, El.isLoad, hk1]
   have hall2 : (h.segs.take (k + 1)).all (El.segWhole h) = true := by rw [List.take_add_one, zJ1 Hs, List.all_append, zJ1 Hall]; simp [hsw]
   have Hall2 := zJ2 hall2
   clear hall2
   have hany2 : (h.segs.take (k + 1)).any (El.entersBy h) = ((h.segs.take k).any (El.entersBy h) || El.entersBy h ⟨sk, sfl, so, sa, sf, sm⟩) := by rw [List.take_add_one, zJ1 Hs, List.any_append]; simp
   rw [hent] at hany2
   have Hany2 := zJ2 hany2
   clear hany2 hent hsw
   clear hk1 hk2 hk6 hk3
   go_wp2_with (first
    | (at_lookup; refine wpList_lookup_own_int _ rfl _ _ 250 rfl 23 3 .i64 zJ5 Tryz.underlying250 Tryz.underlying3 (zJc _) (w.heap.size + 1) k _ rfl (hown.alloc _) _ _ rfl (zJ1 Hkey) ?_; intro c hat hwc; obtain rfl := (zJ1 Hcm).read hat; clear hat hwc)
    | (at_mapUpdate; refine wpList_mapUpdate_own _ rfl _ _ _ 250 rfl 23 3 zJ5 Tryz.underlying250 _ (w.heap.size + 1) k _ rfl (hown.alloc _) (by unfold maxLen; omega) _ _ _ rfl rfl (zJ1 Hkey) _ [] (plainElem_int Tryz.underlying3 (zJ1 Hwf)) ?_; intro w1 hown1 hgrow1; have g1 := zJ7 hgrow1 (zJ1 Hbox) hsz1; obtain ⟨g1a, g1b, g1c⟩ := g1; obtain ⟨q0, q1, q2, q3⟩ := zJ6 g1a; obtain ⟨p0, p1, p2, p3, p4, p5⟩ := zJa g1b; have G1a := zJ2 g1a; have Hown1 := zJ2 hown1; have Hbl := zJ2 (zJ8 (zJ1 Hb) hgrow1); clear g1a g1b hown1 hgrow1 hown)
    | (go_at_call_of 83 (Value.bool true); refine (zJ4 _ _).mono ?_; rintro e w3 ⟨rfl, rfl⟩)
    | (go_at_call_of 83 (Value.bool false); refine (zJ9 _ _).mono ?_; rintro e w3 ⟨rfl, rfl⟩))
   go_roundw
   case rel =>
    refine ⟨k + 1, _, by omega, by go_num, by rw [zJ1 Hany2, Bool.or_false, zJ1 Heb], zJ1 Hall2, (zJ1 Hcm2), zJ1 Hown1, zJ1 Hbl, zJ1 G1a, by omega⟩
   case measure => simp [intOf]; omega
end Go.Proofs.YtiiiblmhlhikkaaGreatDoor
namespace Go.Proofs.YtiiiblmhlhikkaaGreatDoor
open Go.RowKit
structure PW (w : World) (a b c d e : Value) (w' : World) : Prop where
 below : Below w.heap.size w w'
 head : w'.heap[w.heap.size]? = some (.cells #[a, b, c, d] 49 (0, 0))
 err : w'.heap[w.heap.size + 1]? = some (.cells #[e] 32 (0, 0))
theorem PW.start (w : World) : PW w (.int .u16 0) (.int .u64 0) (.int .u64 0) (.slice none 0 0) (.int .i64 0) ((w.alloc (.cells #[.int .u16 0, .int .u64 0, .int .u64 0, .slice none 0 0] 49)).alloc (.cells #[.int .i64 0] 32)) :=
 ⟨((Below.refl _ _).alloc (Nat.le_refl _) _).alloc (by simp) _, (Below.heap_alloc _ _ _ (by simp)).trans (heap_alloc_new _ _), heap_alloc2_new _ _ _⟩
theorem PW.later {w0 w w' : World} {a b c d e : Value} (h : PW w0 a b c d e w) (hb : Below w.heap.size w w') : PW w0 a b c d e w' :=
 ⟨h.below.trans (hb.mono h.below.size), (hb.block _ (lt_of_block h.head)).trans h.head, (hb.block _ (lt_of_block h.err)).trans h.err⟩
theorem PW.setHead {w0 w : World} {a b c d e a' b' c' d' : Value} (h : PW w0 a b c d e w) : PW w0 a' b' c' d' e (w.setRow w0.heap.size #[a', b', c', d']) :=
 ⟨below_setRow h.below (Nat.le_refl _) _, setRow_heap _ _ _ _ _ _ h.head, (setRow_other _ _ _ _ (by simp)).trans h.err⟩
theorem PW.setErr {w0 w : World} {a b c d e e' : Value} (h : PW w0 a b c d e w) : PW w0 a b c d e' (w.setCell ⟨w0.heap.size + 1, 0, none⟩ e') :=
 ⟨h.below.setCell (by simp) _, (Below.heap_setCell _ _ _ _ (by simp)).trans h.head, one_setCell h.err⟩
theorem PW.reset {w0 w : World} {a b c d e0 : Value} (h : PW w0 a b c d e0 w) (e : Int) : PW w0 (.int .u16 0) (.int .u64 0) (.int .u64 0) (.slice none 0 0) (.int .i64 e) ((w.setRow w0.heap.size #[.int .u16 0, .int .u64 0, .int .u64 0, .slice none 0 0]).setCell ⟨w0.heap.size + 1, 0, none⟩ (.int .i64 e)) := h.setHead.setErr
theorem xJs : (Tryz.prog.info? 49).map (·.size) = some 4 := by kernel_rfl
theorem uJx (a b c : Int) (A : Option Addr) (n cp : Nat) : (#[.int .u16 a, .int .u64 b, .int .u64 c, .slice A n cp] : Array Value).all (·.oneCell') = true := by simp [Value.oneCell']
set_option maxRecDepth 100000 in
theorem vJo (w0 : World) (a b c d e0 : Value) (e : Int) (w : World) (h : PW w0 a b c d e0 w) :
  CallsD Tryz.prog 80 #[.pointer (some ⟨w0.heap.size, 0, none⟩), .pointer (some ⟨w0.heap.size + 1, 0, none⟩)] (.panicking [{ v := .iface 178 (.int .i64 e), recovered := false }]) w fun r u' w' =>
   r = .returned (.tuple #[]) /\ u' = .panicking [{ v := .iface 178 (.int .i64 e), recovered := true }] /\ PW w0 (.int .u16 0) (.int .u64 0) (.int .u64 0) (.slice none 0 0) (.int .i64 e) w' := by
 refine callsD_of_wpS Tryz.func80 rfl fun c₀ cs hu => ?_
 have hta : ∀ w, (Instr.typeAssert (.iface 178 (.int .i64 e)) 20 178 true).run Tryz.prog w = .ok (.tuple #[.int .i64 e, .bool true]) w := fun _ => by kernel_rfl
 have h3 := cell_of_one h.err
 have h4 := free_of_one h.err
 have h5 : (w.setRow w0.heap.size #[.int .u16 0, .int .u64 0, .int .u64 0, .slice none 0 0]).cell? ⟨w0.heap.size + 1, 0, none⟩ = some e0 := by
  rw [cell_setRow_other _ _ _ _ (by simp)]
  exact h3
 have h6 : (w.setRow w0.heap.size #[.int .u16 0, .int .u64 0, .int .u64 0, .slice none 0 0]).frozen? ⟨w0.heap.size + 1, 0, none⟩ = false := by
  rw [World.frozen?_of_block (setRow_other _ _ _ _ (by simp))]
  exact h4
 have H := zJ2 h
 clear h h3 h4
 simp only [Tryz.ntmps80, List.size_toArray, List.length_cons, List.length_nil, Nat.reduceAdd, Nat.reduceSub, Array.replicate_succ, Array.replicate_zero, List.push_toArray, List.append_toArray, List.nil_append, List.cons_append]
 apply wpS_seq
 apply wpS_region
 simp [wpOpsS, go_sem, recoverD, hu, Exit.thenS]
 refine wpS_of_wp ?_
 go_wp2_with ((with_reducible refine (@id (wpList _ _ _ (Oper.mk none (Op.store 49 (.tmp 0) (.tmp 11)) _ _ _ none :: _) _ _) ?_)); refine wpList_store_row rfl 49 (.tmp 0) (.tmp 11) rfl w0.heap.size #[.int .u16 0, .int .u64 0, .int .u64 0, .slice none 0 0] rfl rfl 49 _ (zJ1 H).head xJs rfl (uJx _ _ _ _ _ _) ?_)
 simp [bodyPostS, results, Tryz.results80]
 exact (zJ1 H).reset e
set_option maxRecDepth 100000 in
theorem catch_idle (p q : Addr) (w : World) :
  CallsD Tryz.prog 80 #[.pointer (some p), .pointer (some q)] .returning w fun r u' w' => r = .returned (.tuple #[]) /\ u' = .returning /\ w' = w := by
 refine callsD_of_wpS Tryz.func80 rfl fun c₀ cs hu => ?_
 simp only [Tryz.ntmps80, List.size_toArray, List.length_cons, List.length_nil, Nat.reduceAdd, Nat.reduceSub, Array.replicate_succ, Array.replicate_zero, List.push_toArray, List.append_toArray, List.nil_append, List.cons_append]
 apply wpS_seq
 apply wpS_region
 simp [wpOpsS, go_sem, recoverD, hu, Exit.thenS]
 refine wpS_of_wp ?_
 go_wp2
 cases c₀
 simp_all [bodyPostS, results, Tryz.results80]
abbrev noHead : Value := .agg #[.int .u16 0, .int .u64 0, .int .u64 0, .slice none 0 0]
theorem xJo {w0 w1 : World} {tmps : Array Value} {a b c d e : Value} (h : PW w0 a b c d e w1) (h2 : tmps.getD 2 undef = .pointer (some ⟨w0.heap.size, 0, none⟩)) (h3 : tmps.getD 3 undef = .pointer (some ⟨w0.heap.size + 1, 0, none⟩)) :
  (results Tryz.f50 tmps).run Tryz.prog w1 = .ok (.tuple #[.agg #[a, b, c, d], e]) w1 := by
 obtain ⟨q0, q1, q2, q3⟩ := zJ6 h.head
 have q4 := cell_of_one h.err
 have h2' : tmps[2]?.getD undef = .pointer (some ⟨w0.heap.size, 0, none⟩) := by simpa using h2
 have h3' : tmps[3]?.getD undef = .pointer (some ⟨w0.heap.size + 1, 0, none⟩) := by simpa using h3
 simp [results, Tryz.results50, go_sem, h2', h3', q0, q1, q2, q3, q4]
theorem xJt {R : Ending -> World -> Prop} {w0 w1 : World} {tmps : Array Value} {a b c d e0 : Value} {e : Int} (h : PW w0 a b c d e0 w1) (h2 : tmps.getD 2 undef = .pointer (some ⟨w0.heap.size, 0, none⟩)) (h3 : tmps.getD 3 undef = .pointer (some ⟨w0.heap.size + 1, 0, none⟩))
  (hR : ∀ w', Below w0.heap.size w0 w' -> R (.returned (.tuple #[noHead, .int .i64 e])) w') :
  bodyPostD Tryz.prog Tryz.f50 R (Exit.panic [{ v := .iface 178 (.int .i64 e), recovered := false }])
   { tmps := tmps, defers := [{ target := Target.fn (Fn.func 80) #[.pointer (some ⟨w0.heap.size, 0, none⟩), .pointer (some ⟨w0.heap.size + 1, 0, none⟩)], args := #[] }] } w1 := by
 refine leaves_cons (f := 80) (args := #[.pointer (some ⟨w0.heap.size, 0, none⟩), .pointer (some ⟨w0.heap.size + 1, 0, none⟩)]) (by simp) (by simp [go_sem]) ?_
 refine (vJo w0 a b c d e0 e w1 h).mono ?_
 rintro e u' w'' ⟨rfl, rfl, hp⟩
 exact ⟨_, xJo hp h2 h3, hR _ hp.below⟩
theorem door_ok {R : Ending -> World -> Prop} {w0 w1 : World} {tmps : Array Value} {a b c d e : Value} (h : PW w0 a b c d e w1) (h2 : tmps.getD 2 undef = .pointer (some ⟨w0.heap.size, 0, none⟩)) (h3 : tmps.getD 3 undef = .pointer (some ⟨w0.heap.size + 1, 0, none⟩))
  (hR : R (.returned (.tuple #[.agg #[a, b, c, d], e])) w1) :
  bodyPostD Tryz.prog Tryz.f50 R Exit.ret
   { tmps := tmps, defers := [{ target := Target.fn (Fn.func 80) #[.pointer (some ⟨w0.heap.size, 0, none⟩), .pointer (some ⟨w0.heap.size + 1, 0, none⟩)], args := #[] }] } w1 := by
 refine leaves_cons (f := 80) (args := #[.pointer (some ⟨w0.heap.size, 0, none⟩), .pointer (some ⟨w0.heap.size + 1, 0, none⟩)]) (by simp) (by simp [go_sem]) ?_
 refine (catch_idle _ _ _).mono ?_
 rintro e u' w'' ⟨rfl, rfl, rfl⟩
 exact ⟨_, xJo h h2 h3, hR⟩
set_option maxHeartbeats 1600000 in
set_option maxRecDepth 100000 in
theorem parse_nohdr (A : Option Addr) (m c : Nat) (b : List UInt8) (w : World) (hb : Rd w w.heap.size 1 A m (u8s b)) (hm : m <= 4294967296) (hmc : m <= c) (hh : El.hdrOk b = false) :
  Calls Tryz.prog 50 #[.slice A m c] w fun e w' => e = .returned (.tuple #[noHead, .int .i64 13]) /\ Below w.heap.size w w' := by
 have hmf : ∀ (fn : Fn) (first cap : Array Value) (w : World), (Instr.makeFunc fn first cap).run Tryz.prog w = .ok (.func fn first cap) w := fun _ _ _ _ => rfl
 have hpw : PW w (.int .u16 0) (.int .u64 0) (.int .u64 0) (.slice none 0 0) (.int .i64 0) ((w.alloc (.cells #[.int .u16 0, .int .u64 0, .int .u64 0, .slice none 0 0] 49)).alloc (.cells #[.int .i64 0] 32)) := PW.start w
 have Hpw := zJ2 hpw
 clear hpw
 go_enter_defers Tryz.func50, Tryz.ntmps50
 go_wp2_with (go_at_call 81; refine (header_bad A m c w.heap.size b _ (by simp; omega) ((hb.alloc (Nat.le_refl _) _).alloc (by simp) _) (by unfold maxLen; omega) hmc hh).mono ?_; rintro e w1 ⟨rfl, hb1⟩)
 exact xJt ((zJ1 Hpw).later hb1) rfl rfl fun w' hb => ⟨rfl, hb⟩
end Go.Proofs.YtiiiblmhlhikkaaGreatDoor
namespace Go.Proofs.YtiiiblmhlhikkaaGreatDoor.El
open Go.Proofs.YtiiiblmhlhikkaaGreatDoor
def topOf : List Sg -> Nat -> Nat
 | [], t => t
 | s :: r, t => if isLoad s then topOf r (up (s.addr + s.msz)) else topOf r t
theorem xJn (a r : List Sg) : ∀ t, rises (a ++ r) t = (rises a t && rises r (topOf a t)) := by
 induction a with
 | nil => intro t; simp [rises, topOf]
 | cons s a ih =>
  intro t
  simp only [List.cons_append, rises, topOf]
  cases isLoad s
  ·simp [ih]
  ·simp [ih, Bool.and_assoc]
theorem vJz (a : List Sg) (s : Sg) : ∀ t, topOf (a ++ [s]) t = if isLoad s then up (s.addr + s.msz) else topOf a t := by
 induction a with
 | nil => intro t; simp [topOf]
 | cons x a ih =>
  intro t
  simp only [List.cons_append, topOf]
  cases isLoad x
  ·simp [ih]
  ·simp only [if_true, ih]
theorem segsOf_succ (b : List UInt8) (k : Nat) : segsOf b (k + 1) = segsOf b k ++ [segAt b (Wd.num b 32 8 + k * 56)] := by simp [segsOf, List.range_succ]
theorem segsOf_len (b : List UInt8) (k : Nat) : (segsOf b k).length = k := by simp [segsOf]
theorem segsOf_take (b : List UInt8) {k n : Nat} (h : k <= n) : ∃ r, segsOf b n = segsOf b k ++ r := by
 obtain ⟨d, rfl⟩ := Nat.exists_eq_add_of_le h
 exact ⟨_, by unfold segsOf; rw [List.range_add, List.map_append]⟩
def readOk (b : List UInt8) (k : Nat) : Bool := (List.range k).all (fun i => segOk b (Wd.num b 32 8 + i * 56) (Wd.num b 16 2)) && rises (segsOf b k) 0
def topAt (b : List UInt8) (k : Nat) : Nat := topOf (segsOf b k) 0
theorem readOk_load {b : List UInt8} {k : Nat} (h : readOk b k = true) (hs : segOk b (Wd.num b 32 8 + k * 56) (Wd.num b 16 2) = true) (h1 : (segAt b (Wd.num b 32 8 + k * 56)).kind = 1) (ht : topAt b k <= (segAt b (Wd.num b 32 8 + k * 56)).addr) :
  readOk b (k + 1) = true /\ topAt b (k + 1) = up ((segAt b (Wd.num b 32 8 + k * 56)).addr + (segAt b (Wd.num b 32 8 + k * 56)).msz) := by
 simp only [readOk, Bool.and_eq_true] at h
 have hl : isLoad (segAt b (Wd.num b 32 8 + k * 56)) = true := by simp [isLoad, h1]
 refine ⟨?_, ?_⟩
 ·simp only [readOk, segsOf_succ, xJn, List.range_succ, List.all_append, List.all_cons, List.all_nil, hs, h.1, h.2, Bool.true_and, Bool.and_true, rises, hl, if_true]
  exact decide_eq_true ht
 ·rw [topAt, segsOf_succ, vJz, hl]; simp
theorem readOk_other {b : List UInt8} {k : Nat} (h : readOk b k = true) (hs : segOk b (Wd.num b 32 8 + k * 56) (Wd.num b 16 2) = true) (h1 : ¬ (segAt b (Wd.num b 32 8 + k * 56)).kind = 1) :
  readOk b (k + 1) = true /\ topAt b (k + 1) = topAt b k := by
 simp only [readOk, Bool.and_eq_true] at h
 have hl : isLoad (segAt b (Wd.num b 32 8 + k * 56)) = false := by simp [isLoad, h1]
 refine ⟨?_, ?_⟩
 ·simp only [readOk, segsOf_succ, xJn, List.range_succ, List.all_append, List.all_cons, List.all_nil, hs, h.1, h.2, Bool.true_and, Bool.and_true, rises, hl]
  simp
 ·rw [topAt, segsOf_succ, vJz, hl]; simp [topAt]
theorem formOk_eq (b : List UInt8) : formOk b = (decide (Wd.num b 32 8 + Wd.num b 56 2 * 56 <= b.length) && readOk b (Wd.num b 56 2) && wholeOk (headOf b)) := by
 simp only [formOk, readOk, Bool.and_assoc]
theorem readOk_mono {b : List UInt8} {k n : Nat} (hk : k <= n) (h : readOk b k = false) : readOk b n = false := by
 rw [Bool.eq_false_iff] at h ⊢
 intro hn
 apply h
 simp only [readOk, Bool.and_eq_true, List.all_eq_true, List.mem_range] at hn ⊢
 refine ⟨fun i hi => hn.1 i (by omega), ?_⟩
 obtain ⟨r, hr⟩ := segsOf_take b hk
 have := hn.2
 rw [hr, xJn, Bool.and_eq_true] at this
 exact this.1
theorem xJ4 {b : List UInt8} (hh : hdrOk b = true) (hf : formOk b = false) : parse b = (25, ⟨0, 0, 0, []⟩) := by simp [parse, hh, hf]
theorem parse_notin {b : List UInt8} (hh : hdrOk b = true) (h : ¬ Wd.num b 32 8 + Wd.num b 56 2 * 56 <= b.length) : parse b = (25, ⟨0, 0, 0, []⟩) := xJ4 hh (by simp [formOk_eq, h])
theorem wJg {b : List UInt8} (hh : hdrOk b = true) {k : Nat} (hk : k <= Wd.num b 56 2) (h : readOk b k = false) : parse b = (25, ⟨0, 0, 0, []⟩) := xJ4 hh (by simp [formOk_eq, readOk_mono hk h])
theorem parse_badseg {b : List UInt8} (hh : hdrOk b = true) {k : Nat} (hk : k < Wd.num b 56 2) (h : segOk b (Wd.num b 32 8 + k * 56) (Wd.num b 16 2) = false) : parse b = (25, ⟨0, 0, 0, []⟩) :=
 wJg hh hk (by simp [readOk, List.range_succ, h])
theorem parse_norise {b : List UInt8} (hh : hdrOk b = true) {k : Nat} (hk : k < Wd.num b 56 2) (h1 : (segAt b (Wd.num b 32 8 + k * 56)).kind = 1) (ht : ¬ topAt b k <= (segAt b (Wd.num b 32 8 + k * 56)).addr) : parse b = (25, ⟨0, 0, 0, []⟩) := by
 refine wJg hh (k := k + 1) hk ?_
 have hl : isLoad (segAt b (Wd.num b 32 8 + k * 56)) = true := by simp [isLoad, h1]
 have ht' : ¬ topOf (segsOf b k) 0 <= (segAt b (Wd.num b 32 8 + k * 56)).addr := ht
 simp [readOk, segsOf_succ, xJn, rises, hl, ht']
theorem parse_unwhole {b : List UInt8} (hh : hdrOk b = true) (h : wholeOk (headOf b) = false) : parse b = (25, ⟨0, 0, 0, []⟩) := xJ4 hh (by simp [formOk_eq, h])
theorem parse_good {b : List UInt8} (hh : hdrOk b = true) (h1 : Wd.num b 32 8 + Wd.num b 56 2 * 56 <= b.length) (h2 : readOk b (Wd.num b 56 2) = true) (h : wholeOk (headOf b) = true) : parse b = (0, headOf b) := by simp [parse, hh, formOk_eq, h1, h2, h]
theorem load_end {b : List UInt8} {p ty : Nat} (hs : segOk b p ty = true) (h1 : (segAt b p).kind = 1) : (segAt b p).addr + (segAt b p).msz <= 140737488355328 := by
 simp only [segOk, Bool.and_eq_true] at hs
 have h := hs.1.2
 have hk : knownB (segAt b p).kind = true := by rw [h1]; rfl
 have he : endOf ty <= 140737488355328 := by unfold endOf; split <;> omega
 simp only [endB, hk, Bool.not_true, Bool.false_or, decide_eq_true_eq] at h
 omega
theorem segAt_fit {b : List UInt8} {p ty : Nat} (hs : segOk b p ty = true) : SgFit (segAt b p) := by
 simp only [segOk, Bool.and_eq_true] at hs
 have h := hs.1.1.1
 simp only [flagsB, decide_eq_true_eq] at h
 exact ⟨Wd.num_lt _ _ 4, by omega, Wd.num_lt _ _ 8, Wd.num_lt _ _ 8, Wd.num_lt _ _ 8, Wd.num_lt _ _ 8⟩
theorem readOk_fit {b : List UInt8} {k : Nat} (h : readOk b k = true) : ∀ x ∈ segsOf b k, SgFit x := by
 intro x hx
 simp only [readOk, Bool.and_eq_true, List.all_eq_true, List.mem_range] at h
 simp only [segsOf, List.mem_map, List.mem_range] at hx
 obtain ⟨i, hi, rfl⟩ := hx
 exact segAt_fit (h.1 i hi)
end Go.Proofs.YtiiiblmhlhikkaaGreatDoor.El
namespace Go.Proofs.YtiiiblmhlhikkaaGreatDoor
open Go.RowKit
theorem PW.later2 {w0 w w' : World} {a b c d e : Value} (h : PW w0 a b c d e w) (hb : Below (w0.heap.size + 2) w w') : PW w0 a b c d e w' :=
 ⟨h.below.trans (hb.mono (by omega)), (hb.block _ (by omega)).trans h.head, (hb.block _ (by omega)).trans h.err⟩
theorem PW.sz {w0 w : World} {a b c d e : Value} (h : PW w0 a b c d e w) : w0.heap.size + 2 <= w.heap.size := by have := lt_of_block h.err; omega
theorem PW.own {w0 w : World} {a b c d e : Value} (h : PW w0 a b c d e w) : World.ownsRow w (w0.heap.size + 2) 58 6 (.slice none 0 0) 0 [] := World.ownsRow_nil _ _ _ _
theorem PW.setSegs {w0 w : World} {a b c d e d' : Value} (h : PW w0 a b c d e w) : PW w0 a b c d' e (w.setCell ⟨w0.heap.size, 3, none⟩ d') :=
 ⟨h.below.setCell (by simp) _, by simpa using (heap_setCell_same _ _ 3 _ _ d' h.head), (Below.heap_setCell _ _ _ _ (by simp)).trans h.err⟩
def ParseEnd (b : List UInt8) (w : World) (e : Ending) (w' : World) : Prop :=
 ∃ A' c', e = .returned (.tuple #[.agg #[.int .u16 (El.parse b).2.type, .int .u64 (El.parse b).2.entry, .int .u64 (El.parse b).2.phoff, .slice A' (El.parse b).2.segs.length c'], .int .i64 (El.parse b).1]) /\
  w'.ownsRow w.heap.size 58 6 (.slice A' (El.parse b).2.segs.length c') (El.parse b).2.segs.length (segCells (El.parse b).2.segs) /\ Below w.heap.size w w'
theorem tJ0 {b : List UInt8} {w w' : World} (h : El.parse b = (25, ⟨0, 0, 0, []⟩)) (hb : Below w.heap.size w w') : ParseEnd b w (.returned (.tuple #[noHead, .int .i64 25])) w' := by
 unfold ParseEnd
 rw [h]
 exact ⟨none, 0, rfl, World.ownsRow_nil _ _ _ _, hb⟩
theorem xJq {w w' : World} {base : Nat} {e : TypeId} {size n : Nat} {v : Value} {xs : List Value} (h : w.ownsRow base e size v n xs) (hk : ∀ g, base <= g -> g < w.heap.size -> w'.heap[g]? = w.heap[g]?) : w'.ownsRow base e size v n xs := by
 refine ⟨h.1, ?_⟩
 rcases h.2 with hn | ⟨g, cap, cur, hv, hb, hg, rest⟩
 ·exact .inl hn
 ·exact .inr ⟨g, cap, cur, hv, hb, (hk g hb (lt_of_block hg)).trans hg, rest⟩
theorem end_good {b : List UInt8} {w w' : World} {ty en ph n c' : Nat} {A' : Option Addr} {l : List El.Sg} (h : El.parse b = (0, El.headOf b)) (hd : El.headOf b = ⟨ty, en, ph, l⟩) (hl : l.length = n) (hown : w'.ownsRow (w.heap.size + 2) 58 6 (.slice A' n c') n (segCells l)) (hb : Below w.heap.size w w') :
  ParseEnd b w (.returned (.tuple #[.agg #[.int .u16 ty, .int .u64 en, .int .u64 ph, .slice A' n c'], .int .i64 0])) w' := by
 unfold ParseEnd
 rw [h, hd]
 subst hl
 exact ⟨A', c', rfl, zJd hown (by omega), hb⟩
set_option maxHeartbeats 4000000 in
set_option maxRecDepth 100000 in
theorem parse_notin (A : Option Addr) (m c : Nat) (b : List UInt8) (w : World) (hb : Rd w w.heap.size 1 A m (u8s b)) (hm : m <= 4294967296) (hmc : m <= c) (hh : El.hdrOk b = true) (hin : ¬ Wd.num b 32 8 + Wd.num b 56 2 * 56 <= m) :
  Calls Tryz.prog 50 #[.slice A m c] w (ParseEnd b w) := by
 have hmf : ∀ (fn : Fn) (first cap : Array Value) (w : World), (Instr.makeFunc fn first cap).run Tryz.prog w = .ok (.func fn first cap) w := fun _ _ _ _ => rfl
 have hpw : PW w (.int .u16 0) (.int .u64 0) (.int .u64 0) (.slice none 0 0) (.int .i64 0) ((w.alloc (.cells #[.int .u16 0, .int .u64 0, .int .u64 0, .slice none 0 0] 49)).alloc (.cells #[.int .i64 0] 32)) := PW.start w
 have hbl : b.length = m := by simpa using hb.len1
 have hpar := El.parse_notin hh (by rw [hbl]; exact hin)
 have h64 : 64 <= m := by
  have hh2 := hh
  unfold El.hdrOk at hh2
  simp only [Bool.and_eq_true, decide_eq_true_eq] at hh2
  omega
 have h8 : Wd.num b 56 2 <= 8 := by
  have hh2 := hh
  unfold El.hdrOk at hh2
  simp only [Bool.and_eq_true, decide_eq_true_eq] at hh2
  exact hh2.2.2
 have GH := zJ2 (fun (w' : World) (h : Below w.heap.size w w') => header_ok A m c w.heap.size b w' h.size (hb.below h) (by unfold maxLen; omega) hmc hh)
 have G1 := zJ2 (fun (w' : World) (h : Below w.heap.size w w') => xJw A m c w.heap.size b 16 2 2 rfl w' h.size (hb.below h) (by unfold maxLen; omega) (by omega) (by omega))
 have G2 := zJ2 (fun (w' : World) (h : Below w.heap.size w w') => xJw A m c w.heap.size b 24 8 8 rfl w' h.size (hb.below h) (by unfold maxLen; omega) (by omega) (by omega))
 have G3 := zJ2 (fun (w' : World) (h : Below w.heap.size w w') => xJw A m c w.heap.size b 32 8 8 rfl w' h.size (hb.below h) (by unfold maxLen; omega) (by omega) (by omega))
 have l0 : Wd.num b 16 2 < 65536 := Wd.num_lt _ _ _
 have l1 : Wd.num b 24 8 < 18446744073709551616 := Wd.num_lt _ _ _
 have l2 : Wd.num b 32 8 < 18446744073709551616 := Wd.num_lt _ _ _
 have Hpar := zJ2 hpar
 have Hpw := zJ2 hpw
 clear hpw hpar hh hb hbl
 generalize Wd.num b 16 2 = ty at *
 generalize Wd.num b 24 8 = en at *
 generalize Wd.num b 32 8 = ph at *
 generalize Wd.num b 56 2 = n at *
 have i1 : decide (((ph : Nat) : Int) + ((n : Nat) : Int) * 56 <= ((m : Nat) : Int)) = false := by simp; omega
 go_enter_defers Tryz.func50, Tryz.ntmps50
 go_wp2_with (first
  | (go_at_call 81; refine ((zJ1 GH) _ (zJ1 Hpw).below).mono ?_; rintro e w1 ⟨rfl, hx⟩; replace Hpw := zJ2 ((zJ1 Hpw).later hx); clear hx)
  | (go_at_call_of 82 (Value.int IntKind.u64 16); refine ((zJ1 G1) _ (zJ1 Hpw).below).mono ?_; rintro e w1 ⟨rfl, hx⟩; replace Hpw := zJ2 ((zJ1 Hpw).later hx); clear hx)
  | (go_at_call_of 82 (Value.int IntKind.u64 24); refine ((zJ1 G2) _ (zJ1 Hpw).below).mono ?_; rintro e w1 ⟨rfl, hx⟩; replace Hpw := zJ2 ((zJ1 Hpw).later hx); clear hx)
  | (go_at_call_of 82 (Value.int IntKind.u64 32); refine ((zJ1 G3) _ (zJ1 Hpw).below).mono ?_; rintro e w1 ⟨rfl, hx⟩; replace Hpw := zJ2 ((zJ1 Hpw).later hx); clear hx)
  | (go_at_call_of 83 (Value.bool true); refine (zJ4 _ _).mono ?_; rintro e w1 ⟨rfl, rfl⟩)
  | (go_at_call_of 83 (Value.bool false); refine (zJ9 _ _).mono ?_; rintro e w1 ⟨rfl, rfl⟩)
  | (go_at_call 84; refine (zJf _ _ _ _ (by omega) (by omega) (by omega) (by omega) (by omega)).mono ?_; rintro e w1 ⟨rfl, rfl⟩)
  | ((with_reducible refine (@id (wpList _ _ _ (Oper.mk none (Op.store 49 (.tmp 2) (.tmp 20)) _ _ _ none :: _) _ _) ?_)); refine wpList_store_row rfl 49 (.tmp 2) (.tmp 20) rfl w.heap.size #[.int .u16 ty, .int .u64 en, .int .u64 ph, .slice none 0 0] rfl rfl 49 _ (zJ1 Hpw).head xJs rfl (uJx _ _ _ _ _ _) ?_; replace Hpw := zJ2 ((zJ1 Hpw).setHead (a' := .int .u16 ty) (b' := .int .u64 en) (c' := .int .u64 ph) (d' := .slice none 0 0)); obtain ⟨q0, q1, q2, q3⟩ := zJ6 (zJ1 Hpw).head))
 all_goals exact xJt (zJ1 Hpw) rfl rfl fun w' hb => tJ0 (zJ1 Hpar) hb
set_option maxHeartbeats 8000000 in
set_option maxRecDepth 100000 in
theorem parse_in (A : Option Addr) (m c : Nat) (b : List UInt8) (w : World) (hb : Rd w w.heap.size 1 A m (u8s b)) (hm : m <= 4294967296) (hmc : m <= c) (hh : El.hdrOk b = true) (hin : Wd.num b 32 8 + Wd.num b 56 2 * 56 <= m) :
  Calls Tryz.prog 50 #[.slice A m c] w (ParseEnd b w) := by
 have hmf : ∀ (fn : Fn) (first cap : Array Value) (w : World), (Instr.makeFunc fn first cap).run Tryz.prog w = .ok (.func fn first cap) w := fun _ _ _ _ => rfl
 have hpw : PW w (.int .u16 0) (.int .u64 0) (.int .u64 0) (.slice none 0 0) (.int .i64 0) ((w.alloc (.cells #[.int .u16 0, .int .u64 0, .int .u64 0, .slice none 0 0] 49)).alloc (.cells #[.int .i64 0] 32)) := PW.start w
 have hbl : b.length = m := by simpa using hb.len1
 have h64 : 64 <= m := by
  have hh2 := hh
  unfold El.hdrOk at hh2
  simp only [Bool.and_eq_true, decide_eq_true_eq] at hh2
  omega
 have h8 : Wd.num b 56 2 <= 8 := by
  have hh2 := hh
  unfold El.hdrOk at hh2
  simp only [Bool.and_eq_true, decide_eq_true_eq] at hh2
  exact hh2.2.2
 have l0 : Wd.num b 16 2 < 65536 := Wd.num_lt _ _ _
 have l1 : Wd.num b 24 8 < 18446744073709551616 := Wd.num_lt _ _ _
 have l2 : Wd.num b 32 8 < 18446744073709551616 := Wd.num_lt _ _ _
 have GH := zJ2 (fun (w' : World) (h : Below w.heap.size w w') => header_ok A m c w.heap.size b w' h.size (hb.below h) (by unfold maxLen; omega) hmc hh)
 have G1 := zJ2 (fun (w' : World) (h : Below w.heap.size w w') => xJw A m c w.heap.size b 16 2 2 rfl w' h.size (hb.below h) (by unfold maxLen; omega) (by omega) (by omega))
 have G2 := zJ2 (fun (w' : World) (h : Below w.heap.size w w') => xJw A m c w.heap.size b 24 8 8 rfl w' h.size (hb.below h) (by unfold maxLen; omega) (by omega) (by omega))
 have G3 := zJ2 (fun (w' : World) (h : Below w.heap.size w w') => xJw A m c w.heap.size b 32 8 8 rfl w' h.size (hb.below h) (by unfold maxLen; omega) (by omega) (by omega))
 have GS := zJ2 (fun (k : Nat) (hk : k < Wd.num b 56 2) (w' : World) (h : Below w.heap.size w w') => segment_any A m c w.heap.size b (Wd.num b 32 8 + k * 56) (Wd.num b 16 2) w' h.size (hb.below h) (by unfold maxLen; omega) (by omega) (by omega) l0)
 have GW : Hid (∀ (A' : Option Addr) (c' B : Nat) (hr : El.readOk b (Wd.num b 56 2) = true) (w' : World) (hB : B <= w'.heap.size) (hl : Rd w' B 6 A' (Wd.num b 56 2) (segCells (El.segsOf b (Wd.num b 56 2)))),
   Calls Tryz.prog 87 #[.agg #[.int .u16 (Wd.num b 16 2), .int .u64 (Wd.num b 24 8), .int .u64 (Wd.num b 32 8), .slice A' (Wd.num b 56 2) c']] w' fun e w'' => e = Or3 (El.wholeOk (El.headOf b)) (.returned (.tuple #[])) (wrongs 25) /\ Below w'.heap.size w' w'') :=
  zJ2 fun A' c' B hr w' hB hl => whole_any A' (Wd.num b 56 2) c' B (El.headOf b) w' hB hl (by omega) (El.readOk_fit hr) l0 l1
 have P1 := zJ2 (fun (k : Nat) (hk : k < Wd.num b 56 2) (h : El.segOk b (Wd.num b 32 8 + k * 56) (Wd.num b 16 2) = false) => El.parse_badseg hh hk h)
 have P2 := zJ2 (fun (k : Nat) (hk : k < Wd.num b 56 2) (h1 : (El.segAt b (Wd.num b 32 8 + k * 56)).kind = 1) (ht : ¬ El.topAt b k <= (El.segAt b (Wd.num b 32 8 + k * 56)).addr) => El.parse_norise hh hk h1 ht)
 have P3 := zJ2 (El.parse_unwhole hh)
 have P4 := zJ2 (El.parse_good hh (by rw [hbl]; exact hin))
 have SS := zJ2 (fun k => El.segsOf_succ b k)
 have RL := zJ2 (fun (k : Nat) => El.readOk_load (b := b) (k := k))
 have RO := zJ2 (fun (k : Nat) => El.readOk_other (b := b) (k := k))
 have LE := zJ2 (fun (k : Nat) => El.load_end (b := b) (p := Wd.num b 32 8 + k * 56) (ty := Wd.num b 16 2))
 have FT := zJ2 (fun (k : Nat) => El.segAt_fit (b := b) (p := Wd.num b 32 8 + k * 56) (ty := Wd.num b 16 2))
 have SL := zJ2 (El.segsOf_len b (Wd.num b 56 2))
 have HD : Hid (El.headOf b = ⟨Wd.num b 16 2, Wd.num b 24 8, Wd.num b 32 8, El.segsOf b (Wd.num b 56 2)⟩) := zJ2 rfl
 have Hpw := zJ2 hpw
 clear hpw hh hb hbl
 generalize Wd.num b 16 2 = ty at *
 generalize Wd.num b 24 8 = en at *
 generalize Wd.num b 32 8 = ph at *
 generalize Wd.num b 56 2 = n at *
 have i1 : decide (((ph : Nat) : Int) + ((n : Nat) : Int) * 56 <= ((m : Nat) : Int)) = true := by simp; omega
 go_enter_defers Tryz.func50, Tryz.ntmps50
 go_wp2_with (first
  | (go_at_call 81; refine ((zJ1 GH) _ (zJ1 Hpw).below).mono ?_; rintro e w1 ⟨rfl, hx⟩; replace Hpw := zJ2 ((zJ1 Hpw).later hx); clear hx)
  | (go_at_call_of 82 (Value.int IntKind.u64 16); refine ((zJ1 G1) _ (zJ1 Hpw).below).mono ?_; rintro e w1 ⟨rfl, hx⟩; replace Hpw := zJ2 ((zJ1 Hpw).later hx); clear hx)
  | (go_at_call_of 82 (Value.int IntKind.u64 24); refine ((zJ1 G2) _ (zJ1 Hpw).below).mono ?_; rintro e w1 ⟨rfl, hx⟩; replace Hpw := zJ2 ((zJ1 Hpw).later hx); clear hx)
  | (go_at_call_of 82 (Value.int IntKind.u64 32); refine ((zJ1 G3) _ (zJ1 Hpw).below).mono ?_; rintro e w1 ⟨rfl, hx⟩; replace Hpw := zJ2 ((zJ1 Hpw).later hx); clear hx)
  | (go_at_call_of 83 (Value.bool true); refine (zJ4 _ _).mono ?_; rintro e w1 ⟨rfl, rfl⟩)
  | (go_at_call 84; refine (zJf _ _ _ _ (by omega) (by omega) (by omega) (by omega) (by omega)).mono ?_; rintro e w1 ⟨rfl, rfl⟩)
  | ((with_reducible refine (@id (wpList _ _ _ (Oper.mk none (Op.store 49 (.tmp 2) (.tmp 20)) _ _ _ none :: _) _ _) ?_)); refine wpList_store_row rfl 49 (.tmp 2) (.tmp 20) rfl w.heap.size #[.int .u16 ty, .int .u64 en, .int .u64 ph, .slice none 0 0] rfl rfl 49 _ (zJ1 Hpw).head xJs rfl (uJx _ _ _ _ _ _) ?_; replace Hpw := zJ2 ((zJ1 Hpw).setHead (a' := .int .u16 ty) (b' := .int .u64 en) (c' := .int .u64 ph) (d' := .slice none 0 0)); obtain ⟨q0, q1, q2, q3⟩ := zJ6 (zJ1 Hpw).head))
 clear q0 q1 q2 q3 i1 GH G1 G2 G3
 go_loopw [6, 31] (fun top i wr => ∃ (k T : Nat) (A' : Option Addr) (c' : Nat), k <= n /\ i = .int .u64 k /\ top = .int .u64 T /\ T = El.topAt b k /\ T < 18446744073709551616 /\ El.readOk b k = true /\
  wr.ownsRow (w.heap.size + 2) 58 6 (.slice A' k c') k (segCells (El.segsOf b k)) /\ PW w (.int .u16 ty) (.int .u64 en) (.int .u64 ph) (.slice A' k c') (.int .i64 0) wr) (fun _ i _ => n - (intOf i).toNat)
 case atStart => exact ⟨0, 0, none, 0, Nat.zero_le _, rfl, rfl, rfl, by omega, rfl, World.ownsRow_nil _ _ _ _, zJ1 Hpw⟩
 case round =>
 clear Hpw
 obtain ⟨k, T, A', c', hk, rfl, rfl, hT, hT2, hro, hown, hpw⟩ := hrel
 have HT := zJ2 hT
 have Hro := zJ2 hro
 have Hown := zJ2 hown
 have Hpw := zJ2 hpw
 have hsz := hpw.sz
 obtain ⟨q0, q1, q2, q3⟩ := zJ6 hpw.head
 clear hT hro hown hpw
 rcases Nat.lt_or_ge k n with hlt | hge
 case inr =>
  obtain rfl : k = n := by omega
  have gw := (zJ1 GW) A' c' wr.heap.size (zJ1 Hro) wr (Nat.le_refl _) (Rd.of_own (zJ1 Hown))
  cases hwo : El.wholeOk (El.headOf b)
  case false =>
   have hpar := (zJ1 P3) hwo
   rw [hwo] at gw
   have Gw := zJ2 gw
   have Hpar := zJ2 hpar
   clear gw hpar hwo
   go_wp2_with (go_at_call 87; refine (zJ1 Gw).mono ?_; rintro e w1 ⟨he, hx⟩; obtain rfl : e = wrongs 25 := he; replace Hpw := zJ2 ((zJ1 Hpw).later hx); clear hx)
   exact xJt (zJ1 Hpw) rfl rfl fun w' hb => tJ0 (zJ1 Hpar) hb
  case true =>
   have hpar := (zJ1 P4) (zJ1 Hro) hwo
   rw [hwo] at gw
   have Gw := zJ2 gw
   have Hpar := zJ2 hpar
   clear gw hpar hwo
   go_wp2_with (first
    | (go_at_call 87; refine (zJ1 Gw).mono ?_; rintro e w1 ⟨he, hx⟩; obtain rfl : e = .returned (.tuple #[]) := he; replace Hpw := zJ2 ((zJ1 Hpw).later hx); replace Hown := zJ2 (own_below (zJ1 Hown) hx); clear q0 q1 q2 q3)
    | ((with_reducible refine (@id (wpList _ _ _ (Oper.mk (some 69) (Op.load 49 (.tmp 2)) _ _ _ none :: _) _ _) ?_)); refine wpList_load_row rfl 49 (.tmp 2) rfl w.heap.size rfl 49 #[.int .u16 ty, .int .u64 en, .int .u64 ph, .slice A' k c'] (0, 0) _ (zJ1 Hpw).head Tryz.underlying49 rfl xJs ?_)
    | ((with_reducible refine (@id (wpList _ _ _ (Oper.mk none (Op.store 49 (.tmp 2) (.tmp 69)) _ _ _ none :: _) _ _) ?_)); refine wpList_store_row rfl 49 (.tmp 2) (.tmp 69) rfl w.heap.size #[.int .u16 ty, .int .u64 en, .int .u64 ph, .slice A' k c'] rfl rfl 49 _ (zJ1 Hpw).head xJs rfl (uJx _ _ _ _ _ _) ?_; replace Hpw := zJ2 ((zJ1 Hpw).setHead (a' := .int .u16 ty) (b' := .int .u64 en) (c' := .int .u64 ph) (d' := .slice A' k c')); replace Hown := zJ2 (xJq (zJ1 Hown) (fun g hg _ => setRow_other _ w.heap.size g #[.int .u16 ty, .int .u64 en, .int .u64 ph, .slice A' k c'] (by omega))); have q4 := cell_of_one (zJ1 Hpw).err; have q5 := free_of_one (zJ1 Hpw).err))
   have hf := (zJ1 Hpw).setErr (e' := .int .i64 0)
   exact door_ok hf rfl rfl (end_good (zJ1 Hpar) (zJ1 HD) (zJ1 SL) (xJq (zJ1 Hown) (fun g hg _ => Below.heap_setCell _ _ _ _ (by simp; omega))) hf.below)
 have gs := (zJ1 GS) k hlt
 rw [show ((ph + k * 56 : Nat) : Int) = (ph : Int) + (k : Int) * 56 from by omega] at gs
 cases hs : El.segOk b (ph + k * 56) ty
 case false =>
  have hpar := (zJ1 P1) k hlt hs
  simp only [hs, Bool.false_eq_true, if_false] at gs
  have Gs := zJ2 gs
  have Hpar := zJ2 hpar
  clear gs hpar hs
  go_wp2_with (go_at_call 85; refine ((zJ1 Gs) _ (zJ1 Hpw).below).mono ?_; rintro e ws ⟨rfl, hx⟩; replace Hpw := zJ2 ((zJ1 Hpw).later hx); clear hx)
  exact xJt (zJ1 Hpw) rfl rfl fun w' hb => tJ0 (zJ1 Hpar) hb
 case true =>
  simp only [hs, if_true, segVal] at gs
  have p2 := (zJ1 P2) k hlt
  have rl := (zJ1 RL) k (zJ1 Hro) hs
  have ro := (zJ1 RO) k (zJ1 Hro) hs
  have le := (zJ1 LE) k hs
  have ft := (zJ1 FT) k hs
  have ss := (zJ1 SS) k
  rw [<- zJ1 HT] at p2 rl
  generalize El.segAt b (ph + k * 56) = s at *
  obtain ⟨sk, sfl, so, sa, sf, sm⟩ := s
  obtain ⟨f1, f2, f3, f4, f5, f6⟩ := ft
  simp only at f1 f2 f3 f4 f5 f6 le rl ro p2 gs
  have Gs := zJ2 gs
  have P2' := zJ2 p2
  have Rl := zJ2 rl
  have Ro := zJ2 ro
  have Ss := zJ2 ss
  clear gs p2 rl ro ss hs
  by_cases h1 : sk = 1
  ·have le' := le h1
   have b1 : (((sk : Nat) : Int) == 1) = true := by simp; omega
   by_cases ht : T <= sa
   ·have b2 : decide (((T : Nat) : Int) <= ((sa : Nat) : Int)) = true := by simp; omega
    obtain ⟨hro2, hT3⟩ := (zJ1 Rl) h1 ht
    have Hro2 := zJ2 hro2
    have HT3 := zJ2 hT3
    clear hro2 hT3 le h1
    go_wp2_with (first
     | (go_at_call 85; refine ((zJ1 Gs) _ (zJ1 Hpw).below).mono ?_; rintro e ws ⟨rfl, hx⟩; replace Hown := zJ2 (own_below (zJ1 Hown) hx); replace Hpw := zJ2 ((zJ1 Hpw).later hx); clear hx; have hszs := (zJ1 Hpw).sz; clear q0 q1 q2 q3; obtain ⟨q0, q1, q2, q3⟩ := zJ6 (zJ1 Hpw).head; have r3 := (World.cell?_alloc_lt ws (.cells #[.int .u32 sk, .int .u8 sfl, .int .u64 so, .int .u64 sa, .int .u64 sf, .int .u64 sm] 58) ⟨w.heap.size, 3, none⟩ (by show w.heap.size < _; omega)).trans q3)
     | (go_at_call_of 83 (Value.bool true); refine (zJ4 _ _).mono ?_; rintro e w2 ⟨rfl, rfl⟩)
     | (go_at_call_of 83 (Value.bool false); refine (zJ9 _ _).mono ?_; rintro e w2 ⟨rfl, rfl⟩)
     | (go_at_call 86; refine (up_yes _ _ (by omega) (by omega)).mono ?_; rintro e w2 ⟨rfl, rfl⟩)
     | (at_builtin; refine zJh segTy rfl _ _ rfl (w.heap.size + 2) (.slice A' k c') k (segCells (El.segsOf b k)) rfl ((zJ1 Hown).alloc _) #[.int .u32 sk, .int .u8 sfl, .int .u64 so, .int .u64 sa, .int .u64 sf, .int .u64 sm] _ rfl (by simp) rfl (xJx ⟨sk, sfl, so, sa, sf, sm⟩) (by omega) (by simp; omega) ?_; intro A2 c2 wa hown' hgrow hat; replace Hpw := zJ2 ((zJ1 Hpw).later2 (((Below.refl _ _).alloc hszs _).grown hgrow (by simp; omega) (fun k hk => ((zJ1 Hown).lt k hk).1))); replace Hown := zJ2 hown'; clear hgrow hat hown' q0 q1 q2 q3 r3; obtain ⟨q0, q1, q2, q3⟩ := zJ6 (zJ1 Hpw).head; have q4 := frozen_of_row _ _ 3 _ _ (zJ1 Hpw).head))
    go_roundw
    case rel =>
     refine ⟨k + 1, El.up (sa + sm), A2, c2, by omega, by go_num, ?_, (zJ1 HT3).symm, ?_, zJ1 Hro2, ?_, (zJ1 Hpw).setSegs⟩
     ·unfold El.up; congr 1; omega
     ·unfold El.up; omega
     ·rw [zJ1 Ss, yJv]
      exact xJq (zJ1 Hown) (fun g hg _ => Below.heap_setCell _ _ _ _ (by simp; omega))
    case measure => simp [intOf]; omega
   ·have b2 : decide (((T : Nat) : Int) <= ((sa : Nat) : Int)) = false := by simp; omega
    have hpar := (zJ1 P2') h1 ht
    have Hpar := zJ2 hpar
    clear hpar le h1
    go_wp2_with (first
     | (go_at_call 85; refine ((zJ1 Gs) _ (zJ1 Hpw).below).mono ?_; rintro e ws ⟨rfl, hx⟩; replace Hpw := zJ2 ((zJ1 Hpw).later hx); clear hx; have hszs := (zJ1 Hpw).sz)
     | (go_at_call_of 83 (Value.bool false); refine (zJ9 _ _).mono ?_; rintro e w2 ⟨rfl, rfl⟩))
    exact xJt ((zJ1 Hpw).later2 ((Below.refl _ _).alloc hszs _)) rfl rfl fun w' hb => tJ0 (zJ1 Hpar) hb
  ·have b1 : (((sk : Nat) : Int) == 1) = false := by simp; omega
   obtain ⟨hro2, hT3⟩ := (zJ1 Ro) h1
   have Hro2 := zJ2 hro2
   have HT3 := zJ2 (hT3.trans (zJ1 HT).symm)
   clear hro2 hT3 le h1
   go_wp2_with (first
    | (go_at_call 85; refine ((zJ1 Gs) _ (zJ1 Hpw).below).mono ?_; rintro e ws ⟨rfl, hx⟩; replace Hown := zJ2 (own_below (zJ1 Hown) hx); replace Hpw := zJ2 ((zJ1 Hpw).later hx); clear hx; have hszs := (zJ1 Hpw).sz; clear q0 q1 q2 q3; obtain ⟨q0, q1, q2, q3⟩ := zJ6 (zJ1 Hpw).head; have r3 := (World.cell?_alloc_lt ws (.cells #[.int .u32 sk, .int .u8 sfl, .int .u64 so, .int .u64 sa, .int .u64 sf, .int .u64 sm] 58) ⟨w.heap.size, 3, none⟩ (by show w.heap.size < _; omega)).trans q3)
    | (go_at_call_of 83 (Value.bool true); refine (zJ4 _ _).mono ?_; rintro e w2 ⟨rfl, rfl⟩)
    | (go_at_call_of 83 (Value.bool false); refine (zJ9 _ _).mono ?_; rintro e w2 ⟨rfl, rfl⟩)
    | (go_at_call 86; refine (up_yes _ _ (by omega) (by omega)).mono ?_; rintro e w2 ⟨rfl, rfl⟩)
    | (at_builtin; refine zJh segTy rfl _ _ rfl (w.heap.size + 2) (.slice A' k c') k (segCells (El.segsOf b k)) rfl ((zJ1 Hown).alloc _) #[.int .u32 sk, .int .u8 sfl, .int .u64 so, .int .u64 sa, .int .u64 sf, .int .u64 sm] _ rfl (by simp) rfl (xJx ⟨sk, sfl, so, sa, sf, sm⟩) (by omega) (by simp; omega) ?_; intro A2 c2 wa hown' hgrow hat; replace Hpw := zJ2 ((zJ1 Hpw).later2 (((Below.refl _ _).alloc hszs _).grown hgrow (by simp; omega) (fun k hk => ((zJ1 Hown).lt k hk).1))); replace Hown := zJ2 hown'; clear hgrow hat hown' q0 q1 q2 q3 r3; obtain ⟨q0, q1, q2, q3⟩ := zJ6 (zJ1 Hpw).head; have q4 := frozen_of_row _ _ 3 _ _ (zJ1 Hpw).head))
   go_roundw
   case rel =>
    refine ⟨k + 1, T, A2, c2, by omega, by go_num, rfl, (zJ1 HT3).symm, hT2, zJ1 Hro2, ?_, (zJ1 Hpw).setSegs⟩
    rw [zJ1 Ss, yJv]
    exact xJq (zJ1 Hown) (fun g hg _ => Below.heap_setCell _ _ _ _ (by simp; omega))
   case measure => simp [intOf]; omega
theorem parse_any (A : Option Addr) (m c : Nat) (b : List UInt8) (w : World) (hb : Rd w w.heap.size 1 A m (u8s b)) (hm : m <= 4294967296) (hmc : m <= c) :
  Calls Tryz.prog 50 #[.slice A m c] w (ParseEnd b w) := by
 cases hh : El.hdrOk b
 ·refine (parse_nohdr A m c b w hb hm hmc hh).mono ?_
  rintro e w' ⟨rfl, hbl⟩
  unfold ParseEnd
  rw [show El.parse b = (13, ⟨0, 0, 0, []⟩) from by simp [El.parse, hh]]
  exact ⟨none, 0, rfl, World.ownsRow_nil _ _ _ _, hbl⟩
 ·by_cases hin : Wd.num b 32 8 + Wd.num b 56 2 * 56 <= m
  ·exact parse_in A m c b w hb hm hmc hh hin
  ·exact parse_notin A m c b w hb hm hmc hh hin
theorem syInfo : (Tryz.prog.info? 142).map (·.size) = some 5 := by kernel_rfl
set_option maxRecDepth 100000 in
set_option maxHeartbeats 2000000 in
theorem symOf_any (A : Option Addr) (c B gt : Nat) (b : List UInt8) (At : Option Addr) (mt ct : Nat) (t : List UInt8) (w : World) (hB : B <= w.heap.size) (h : Rd w B 1 A 24 (bys b)) (hgt : gt < w.heap.size) (ht : w.cell? ⟨gt, 0, none⟩ = some (.slice At mt ct)) (hT : Rd w B 1 At mt (bys t)) (hmt : mt <= 4294967296) (hmc : mt <= ct) :
  Calls Tryz.prog 94 #[.slice A 24 c, .pointer (some ⟨gt, 0, none⟩)] w (syRowE (Dy.symAt t b 0) w) := by
 have Hb0 : Hid (Below w.heap.size w (w.alloc (.cells #[.string ⟨#[]⟩, .int .u64 0, .int .u64 0, .int .u8 0, .bool false] 142))) := zJ2 ((Below.refl _ _).alloc (Nat.le_refl _) _)
 have Hk0 : Hid (Blk (w.alloc (.cells #[.string ⟨#[]⟩, .int .u64 0, .int .u64 0, .int .u8 0, .bool false] 142)) w.heap.size 142 [.string ⟨#[]⟩, .int .u64 0, .int .u64 0, .int .u8 0, .bool false]) := zJ2 (Blk.new w 142 [.string ⟨#[]⟩, .int .u64 0, .int .u64 0, .int .u8 0, .bool false])
 have KN := zJ2 (fun (p s : Nat) (hs : s = 1 \/ s = 2 \/ s = 4 \/ s = 8) (hin : p + s <= 24) w' (hb : Below w.heap.size w w') => yJf A 24 c B b p s w' (Nat.le_trans hB hb.size) (h.below (hb.mono hB)) (by unfold maxLen; omega) hs hin)
 have KT := zJ2 (fun (p : Nat) (hp : p < 18446744073709551616) w' (hb : Below w.heap.size w w') => text_any At mt ct B t p w' (Nat.le_trans hB hb.size) (hT.below (hb.mono hB)) hmt hmc hp)
 have Htc := zJ2 (fun (w' : World) (hb : Below w.heap.size w w') => (World.cell?_of_block (a := ⟨gt, 0, none⟩) (hb.block gt hgt)).trans ht)
 have hx0 := Wd.num_lt b 0 4
 obtain ⟨x0, hx⟩ : ∃ x, Wd.num b 0 4 = x := ⟨_, rfl⟩
 rw [hx] at hx0
 have Hx := zJ2 hx
 have HR := zJ2 h
 have k0 : Calls Tryz.prog 96 #[.slice A 24 c, .int .u64 0, .int .i64 4] (w.alloc (.cells #[.string ⟨#[]⟩, .int .u64 0, .int .u64 0, .int .u8 0, .bool false] 142)).drew (fun e w' => e = .returned (.int .u64 (Wd.num b 0 4 : Nat)) /\ Below (w.alloc (.cells #[.string ⟨#[]⟩, .int .u64 0, .int .u64 0, .int .u8 0, .bool false] 142)).drew.heap.size (w.alloc (.cells #[.string ⟨#[]⟩, .int .u64 0, .int .u64 0, .int .u8 0, .bool false] 142)).drew w') := (zJ1 KN) 0 4 (by omega) (by omega) _ (zJ3 (zJ1 Hb0))
 rw [hx] at k0
 have K1 := zJ2 k0
 clear h hT ht hx k0
 go_enter Tryz.func94, Tryz.ntmps94
 go_wp2_with fail
 refine wp_region_held_drew (S := fun w' => w'.cell? ⟨gt, 0, none⟩ = some (.slice At mt ct)) (by kernel_rfl) ((zJ1 Htc) _ (zJ3 (zJ1 Hb0))) (fun HS0 => ?_)
 refine takeD (i := 0) (d := some 9) (v := ?_) rfl rfl (by kernel_rfl) (by kernel_rfl) (by kernel_rfl) (fun _ _ _ h => h) (Or.inl ⟨by rfl, ?y0⟩) HS0 ?_
 case y0 => (intro w' hSw; (try dsimp only at hSw); go_simp; (try with_reducible rfl))
 simp only [Act.put, List.setIfInBounds_toArray, List.set_cons_zero, List.set_cons_succ]
 refine takeD (i := 1) (d := some 10) (v := ?_) rfl rfl (by kernel_rfl) (by kernel_rfl) (by kernel_rfl) (fun _ _ _ h => h) (Or.inl ⟨by rfl, ?y1⟩) HS0 ?_
 case y1 => (intro w' hSw; (try dsimp only at hSw); go_simp; (try with_reducible rfl))
 simp only [Act.put, List.setIfInBounds_toArray, List.set_cons_zero, List.set_cons_succ]
 refine wpAnyH_ready (rs := [2]) (by kernel_rfl) (by simp) ?_
 refine AllReadyH.cons (i := 2) rfl (fun K hK => ?_) AllReadyH.nil
 rw [if_pos (by rfl)]
 go_simp
 go_at_call 96
 with_reducible refine (zJ1 K1).mono ?_
 rintro e w1 ⟨rfl, hb1⟩
 have HB1 := zJ2 ((zJ3 (zJ1 Hb0)).trans (hb1.mono (zJ3 (zJ1 Hb0)).size))
 have HK1 := zJ2 ((zJ1 Hk0).drew.belowSz hb1)
 have K2 := zJ2 ((zJ1 KT) x0 (by simp at hx0; omega) w1 (zJ1 HB1))
 clear hb1 K1
 refine hK.out _ _ ((zJ1 Htc) _ (zJ1 HB1)) (fun hHeld => ?_)
 clear hK K HS0
 have HS0 := hHeld
 clear hHeld
 (try simp only [Act.put, List.setIfInBounds_toArray, List.set_cons_zero, List.set_cons_succ])
 refine wpAnyH_ready (rs := [3]) (by kernel_rfl) (by simp) ?_
 refine AllReadyH.cons (i := 3) rfl (fun K hK => ?_) AllReadyH.nil
 rw [if_pos (by rfl)]
 go_simp
 go_at_call 95
 with_reducible refine (zJ1 K2).mono ?_
 rintro e w2 ⟨nm, tb, rfl, htx, hb2⟩
 have HB2 := zJ2 ((zJ1 HB1).trans (hb2.mono (zJ1 HB1).size))
 have HK2 := zJ2 ((zJ1 HK1).belowSz hb2)
 have Htx := zJ2 htx
 clear hb2 K2 htx
 refine hK.out _ _ ((zJ1 Htc) _ (zJ1 HB2)) (fun hHeld => ?_)
 clear hK K HS0
 have HS0 := hHeld
 clear hHeld
 (try simp only [Act.put, List.setIfInBounds_toArray, List.set_cons_zero, List.set_cons_succ])
 refine takeD (i := 4) (d := some 8) (v := ?_) rfl rfl (by kernel_rfl) (by kernel_rfl) (by kernel_rfl) (fun _ _ _ h => h) (Or.inl ⟨by rfl, ?y4⟩) HS0 ?_
 case y4 => (intro w' hSw; (try dsimp only at hSw); go_simp; (try with_reducible rfl))
 simp only [Act.put, List.setIfInBounds_toArray, List.set_cons_zero, List.set_cons_succ]
 refine takeD (i := 5) (d := some 13) (v := ?_) rfl rfl (by kernel_rfl) (by kernel_rfl) (by kernel_rfl) (fun _ _ _ h => h) (Or.inl ⟨by rfl, ?y5⟩) HS0 ?_
 case y5 => (intro w' hSw; (try dsimp only at hSw); go_simp; (try with_reducible rfl))
 simp only [Act.put, List.setIfInBounds_toArray, List.set_cons_zero, List.set_cons_succ]
 refine takeD (i := 6) (d := some 14) (v := ?_) rfl rfl (by kernel_rfl) (by kernel_rfl) (by kernel_rfl) (fun _ _ _ h => h) (Or.inl ⟨by rfl, ?y6⟩) HS0 ?_
 case y6 => (intro w' hSw; (try dsimp only at hSw); go_simp; (try with_reducible rfl))
 simp only [Act.put, List.setIfInBounds_toArray, List.set_cons_zero, List.set_cons_succ]
 refine takeD (i := 7) (d := some 5) (v := ?_) rfl rfl (by kernel_rfl) (by kernel_rfl) (by kernel_rfl) (fun _ _ _ h => h) (Or.inl ⟨by rfl, ?y7⟩) HS0 ?_
 case y7 => (intro w' hSw; (try dsimp only at hSw); go_simp; (try with_reducible rfl))
 simp only [Act.put, List.setIfInBounds_toArray, List.set_cons_zero, List.set_cons_succ]
 refine takeD (i := 8) (d := some 6) (v := ?_) rfl rfl (by kernel_rfl) (by kernel_rfl) (by kernel_rfl) (fun _ _ _ h => h) (Or.inl ⟨by rfl, ?y8⟩) HS0 ?_
 case y8 => (intro w' hSw; (try dsimp only at hSw); go_simp; (try with_reducible rfl))
 simp only [Act.put, List.setIfInBounds_toArray, List.set_cons_zero, List.set_cons_succ]
 refine wpAnyH_done (by kernel_rfl) ?_ _
 have hb24 : b.length = 24 := by have := (zJ1 HR).1; simp [bys] at this; omega
 obtain ⟨d4, hd4⟩ : ∃ d, b[4]? = some d := ⟨_, List.getElem?_eq_getElem (by omega)⟩
 obtain ⟨b1, o1, hA1, -, hc4⟩ := ((zJ1 HR).below ((zJ1 HB2).mono hB)).at_ (k := 4) (u := .int .u8 (d4.toNat : Nat)) (by unfold bys; rw [List.getElem?_map, hd4]; rfl)
 subst hA1
 have hd4n : Wd.num b 4 1 = d4.toNat := by rw [Wd.num_cons b 4 0 d4 hd4, Wd.num_zero]; omega
 have hl4 := d4.toNat_lt
 obtain ⟨y, hy⟩ : ∃ y, d4.toNat = y := ⟨_, rfl⟩
 rw [hy] at hc4 hd4n hl4
 have k8 : ∀ W, Below w.heap.size w W -> Calls Tryz.prog 96 #[.slice (some ⟨b1, o1, none⟩) 24 c, .int .u64 8, .int .i64 8] W (fun e w' => e = .returned (.int .u64 (Wd.num b 8 8 : Nat)) /\ Below W.heap.size W w') := fun W h => (zJ1 KN) 8 8 (by omega) (by omega) W h
 have k16 : ∀ W, Below w.heap.size w W -> Calls Tryz.prog 96 #[.slice (some ⟨b1, o1, none⟩) 24 c, .int .u64 16, .int .i64 8] W (fun e w' => e = .returned (.int .u64 (Wd.num b 16 8 : Nat)) /\ Below W.heap.size W w') := fun W h => (zJ1 KN) 16 8 (by omega) (by omega) W h
 have k6 : ∀ W, Below w.heap.size w W -> Calls Tryz.prog 96 #[.slice (some ⟨b1, o1, none⟩) 24 c, .int .u64 6, .int .i64 2] W (fun e w' => e = .returned (.int .u64 (Wd.num b 6 2 : Nat)) /\ Below W.heap.size W w') := fun W h => (zJ1 KN) 6 2 (by omega) (by omega) W h
 have hsym : Dy.symAt t b 0 = match Dy.text t x0 with
  | none => none
  | some s => if 2 < y / 16 then none else some ⟨s, Wd.num b 8 8, Wd.num b 16 8, y / 16, decide (Wd.num b 6 2 ≠ 0)⟩ := by
  unfold Dy.symAt
  simp only [Nat.zero_add]
  rw [zJ1 Hx, hd4n]
  rfl
 obtain ⟨n8, hn8⟩ : ∃ x, Wd.num b 8 8 = x := ⟨_, rfl⟩
 obtain ⟨n16, hn16⟩ : ∃ x, Wd.num b 16 8 = x := ⟨_, rfl⟩
 obtain ⟨n6, hn6⟩ : ∃ x, Wd.num b 6 2 = x := ⟨_, rfl⟩
 rw [hn8] at k8 hsym
 rw [hn16] at k16 hsym
 rw [hn6] at k6 hsym
 have h16 : y / 16 < 16 := by omega
 have K8 := zJ2 k8
 have K16 := zJ2 k16
 have K6 := zJ2 k6
 have HRes : Hid (∀ W, Below w.heap.size w W -> ∀ (ok : Bool), (ok = true ↔ tb = true /\ y / 16 <= 2) -> syRowE (Dy.symAt t b 0) w (.returned (.tuple #[.agg #[.string nm, .int .u64 (n8 : Nat), .int .u64 (n16 : Nat), .int .u8 ((y : Int) / 16), .bool ((n6 : Int) != 0)], .bool ok])) W) := zJ2 (by
  intro W hW ok hok
  refine ⟨hW, ?_⟩
  rw [hsym]
  have hb6 : ((n6 : Int) != 0) = decide (n6 ≠ 0) := by by_cases h : n6 = 0 <;> simp [h] <;> omega
  rw [hb6]
  rcases zJ1 Htx with ⟨rfl, htx⟩ | ⟨rfl, htx⟩
  ·rw [htx]
   dsimp only
   by_cases h2 : 2 < y / 16
   ·rw [if_pos h2]
    have : ok = false := by cases ok with
     | false => rfl
     | true => exact absurd (hok.1 rfl).2 (by omega)
    rw [this]
    exact ⟨_, _, _, _, _, rfl⟩
   ·rw [if_neg h2]
    have : ok = true := hok.2 ⟨rfl, by omega⟩
    rw [this]
    rfl
  ·rw [htx]
   dsimp only
   have : ok = false := by cases ok with
    | false => rfl
    | true => exact absurd (hok.1 rfl).1 (by decide)
   rw [this]
   exact ⟨_, _, _, _, _, rfl⟩)
 clear HR hd4 hd4n hy k8 k16 k6 hsym hn8 hn16 hn6 KN Hx Htc HS0 Hb0 Hk0 hx0 HB1 HK1 Htx
 go_wp2_with fail
 refine ((zJ1 K8) _ (zJ1 HB2)).mono ?_
 rintro e w3 ⟨rfl, hb3⟩
 have HB3 := zJ2 ((zJ1 HB2).trans (hb3.mono (zJ1 HB2).size))
 have HK3 := zJ2 ((zJ1 HK2).belowSz hb3)
 clear hb3 K8
 go_wp2_with fail
 refine ((zJ1 K16) _ (zJ1 HB3)).mono ?_
 rintro e w4 ⟨rfl, hb4⟩
 have HB4 := zJ2 ((zJ1 HB3).trans (hb4.mono (zJ1 HB3).size))
 have HK4 := zJ2 ((zJ1 HK3).belowSz hb4)
 clear hb4 K16
 go_wp2_with fail
 refine ((zJ1 K6) _ (zJ1 HB4)).mono ?_
 rintro e w5 ⟨rfl, hb5⟩
 have HB5 := zJ2 ((zJ1 HB4).trans (hb5.mono (zJ1 HB4).size))
 have HK5 := zJ2 ((zJ1 HK4).belowSz hb5)
 clear hb5 K6 HB2 HK2 HB3 HK3 HB4 HK4
 cases tb
 all_goals (go_wp2_with ((with_reducible refine (@id (wpList _ _ _ (Oper.mk none (Op.store 142 (.tmp 3) (.tmp 28)) _ _ _ none :: _) _ _) ?_)); refine wpList_store_row rfl 142 (.tmp 3) (.tmp 28) rfl w.heap.size #[.string nm, .int .u64 (n8 : Nat), .int .u64 (n16 : Nat), .int .u8 ((y : Int) / 16), .bool ((n6 : Int) != 0)] rfl rfl 142 _ (zJ1 HK5) syInfo rfl (by simp [Value.oneCell']) ?_))
 all_goals (refine bodyPost_ret (results_cell_tmp (P := Tryz.prog) rfl _ _ w.heap.size 142 #[.string nm, .int .u64 (n8 : Nat), .int .u64 (n16 : Nat), .int .u8 ((y : Int) / 16), .bool ((n6 : Int) != 0)] (0, 0) _ rfl (setRow_heap _ _ _ _ _ _ (zJ1 HK5)) Tryz.underlying142 rfl syInfo) rfl ?_)
 ·exact (zJ1 HRes) _ (below_setRow (zJ1 HB5) (Nat.le_refl _) _) false (by simp)
 ·exact (zJ1 HRes) _ (below_setRow (zJ1 HB5) (Nat.le_refl _) _) _ (by simp; omega)
end Go.Proofs.YtiiiblmhlhikkaaGreatDoor
