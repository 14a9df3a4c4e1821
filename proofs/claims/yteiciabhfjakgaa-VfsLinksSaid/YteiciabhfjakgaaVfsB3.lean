/- All that the chapter's laws stand on. Ahead of it: VfsPaths: the law's walk. Conditions: those of the arguments. Printed by gen_law06d.py. What a way reads as. No conditions. -/
import Derived.Test.YteiciabhfjakgaaVfsB2
namespace Go.Proofs.Yteiciabhfjakgaa
set_option linter.unusedVariables false
set_option linter.unusedSimpArgs false
open Go.RowKit

set_option maxRecDepth 100000 in
set_option maxHeartbeats 4000000 in
theorem vfsPaths_walk (l : List EntA) (A : Option Addr) (n c : Nat) (piece : Int) (w : World) (h : Rd w w.heap.size 7 A n (rowCs entVals l)) (hl : l.length = n) (hnc : n ≤ c) (hcm : c ≤ maxLen) (hin : ∀ s ∈ l, EntIn w s) (hpc : -9223372036854775808 ≤ piece ∧ piece ≤ 9223372036854775807) :
    Calls Try.prog 6 #[.slice A n c, .int .i64 piece] w fun e w' => e = .returned (.bool true) ∧ Below w.heap.size w w' := by
  have KL := hide (large_any l A n c w.heap.size w h hl (Nat.le_trans hnc hcm) (fun s hs => ⟨(hin s hs).p, Nat.le_trans (hin s hs).nc (hin s hs).c, (hin s hs).t⟩))
  have KW := hide (fun w' => works_any w')
  have H := hide h
  have Hin := hide hin
  have Hl := hide hl
  have hr1 : -5000 < piece.tmod 5000 ∧ piece.tmod 5000 < 5000 := ⟨Int.lt_tmod_of_pos _ (by omega), Int.tmod_lt_of_pos _ (by omega)⟩
  obtain ⟨p1, hp1⟩ := Int.eq_ofNat_of_zero_le (show 0 ≤ piece.tmod 5000 + 5000 by omega)
  have hw1 : IntKind.i64.wrap (piece.tmod 5000 + 5000) = (p1 : Int) := by rw [IntWalk.i64_in _ (by omega), hp1]
  have hp2 : ((p1 : Int)).tmod 5000 = ((p1 % 5000 : Nat) : Int) := by rw [Int.tmod_eq_emod_of_nonneg (by omega)]; omega
  obtain ⟨p2, hp2e⟩ : ∃ p2, p1 % 5000 = p2 := ⟨_, rfl⟩
  rw [hp2e] at hp2
  obtain ⟨pc, hpce⟩ : ∃ pc, p2 + 300 = pc := ⟨_, rfl⟩
  have hw3 : IntKind.i64.wrap ((p2 : Int) + 300) = (pc : Int) := by rw [IntWalk.i64_in _ (by omega)]; omega
  have pb1 : 300 ≤ pc := by omega
  have pb2 : pc ≤ 5299 := by omega
  clear h hin hl hr1 hp1 hp2e hpce hpc
  go_enter Try.func6, Try.ntmps6
  go_wp2_with fail
  refine (unhide KL).mono ?_
  rintro e w1 ⟨lb, q, rfl, hlb, rfl⟩
  have Hb1 := hide (below_drewN' (Below.refl w.heap.size w) q)
  have Hlb := hide hlb
  clear hlb KL
  generalize w.drewN q = W1 at *
  cases lb with
  | true =>
    go_wp2_with fail
    refine ((unhide KW) _).mono ?_
    rintro e w2 ⟨rfl, hb2⟩
    have Hb2 := hide ((unhide Hb1).trans (hb2.mono (unhide Hb1).size))
    clear hb2
    go_wp2_with fail
    go_ret
    exact ⟨rfl, unhide Hb2⟩
  | false =>
  obtain ⟨hn26, hall⟩ := (unhide Hlb) (by first | rfl | trivial)
  have hfit := esFit_of (unhide Hin) hall
  have KC := copyEnts_any l A n c w.heap.size W1 ((unhide H).below (unhide Hb1)) (unhide Hb1).size (unhide Hl) (by omega) (fun s hs => ⟨((unhide Hin) s hs).d.below (unhide Hb1), by have := (hall s hs).2.1; omega⟩)
  have HKC := hide KC
  have Hfit := hide hfit
  have Hall := hide hall
  clear KC hall hfit Hlb
  go_wp2_with fail
  refine (unhide HKC).mono ?_
  rintro e w3 ⟨A3, c3, l3, rfl, hcp⟩
  obtain ⟨hr3, hok3⟩ := hcp.newArgs (unhide Hfit)
  have hlen3 : l3.length = (l.map (·.e)).length := hcp.len
  have KN := new_any l3 A3 (l.map (·.e)).length c3 w3 (by rw [← hlen3]; exact hr3) hlen3 hok3 (by rw [List.length_map, unhide Hl]; omega)
  rw [hcp.map] at KN
  have hes64 : (l.map (·.e)).length = n := by rw [List.length_map, unhide Hl]
  rw [hes64] at KN
  unfold NewE at KN
  rw [hes64] at KN
  have hmade := new_made (es := l.map (·.e))
  obtain ⟨⟨ne, ni, F⟩, hnew⟩ : ∃ r, Vf.new (l.map (·.e)) = r := ⟨_, rfl⟩
  rw [hnew] at KN hmade
  dsimp only at KN hmade
  rw [hes64]
  have Hb3 := hide ((unhide Hb1).trans (hcp.bel.mono (unhide Hb1).size))
  have HKN := hide KN
  have Hmade := hide hmade
  clear hr3 hok3 KN hlen3 HKC hcp hes64 hnew Hb1 hmade
  go_wp2_with fail
  refine (unhide HKN).mono ?_
  rintro e W ⟨hb4, ⟨h0, rfl⟩ | ⟨h0, f, Af, cf, L, rfl, hFS, hF, hFl, h01, h64⟩⟩
  · have Hb4 := hide ((unhide Hb3).trans (hb4.mono (unhide Hb3).size))
    clear hb4 HKN h0
    go_wp2_with fail
    refine ((unhide KW) _).mono ?_
    rintro e w5 ⟨rfl, hb5⟩
    have Hb5 := hide ((unhide Hb4).trans (hb5.mono (unhide Hb4).size))
    clear hb5
    go_wp2_with fail
    go_ret
    exact ⟨rfl, unhide Hb5⟩
  · have HbW := hide ((unhide Hb3).trans (hb4.mono (unhide Hb3).size))
    have hM := (unhide Hmade) h0
    have hn65 : F.length ≤ 65 := by rw [hFl]; omega
    have KP : ∀ w', Below W.heap.size W w' → ∀ ino : Int, Calls Try.prog 18 #[.pointer (some ⟨f, 0, none⟩), .int .i64 ino] w' fun e w5 => e = .returned (.string (Vf.pathOf F ino)) ∧ Below w'.heap.size w' w5 :=
      fun w' hb ino => path_any F L _ f cf Af ino w' hF (hFS.belowSz hb) hn65
    have KWk : ∀ w', Below W.heap.size W w' → ∀ (path : ByteArray), path.size ≤ 4294967296 → Calls Try.prog 21 #[.pointer (some ⟨f, 0, none⟩), .agg #[.int .u32 0, .int .u32 0, .int .u32 0, .int .u32 0, .slice none 0 0], .int .i64 0, .string path, .bool false] w' fun e w5 => e = .returned (.tuple #[.int .i64 ((Vf.walk F Vf.zc 0 path false).1 : Nat), .int .i64 (Vf.walk F Vf.zc 0 path false).2]) ∧ Below w'.heap.size w' w5 :=
      fun w' hb path hps => walk_any F L _ f cf Af none 0 0 Vf.zc 0 path false w' hF (hFS.belowSz hb) hn65 ⟨rfl, .inl rfl⟩ (by unfold maxLen; omega) hps
    have KM : ∀ w', Below W.heap.size W w' → ∀ ino : Int, Calls Try.prog 13 #[.pointer (some ⟨f, 0, none⟩), .int .i64 ino] w' fun e w5 => e = .returned (.tuple #[metaV (Vf.metaOf F ino).1, .int .i64 (Vf.metaOf F ino).2]) ∧ Below w'.heap.size w' w5 :=
      fun w' hb ino => meta_any F L f cf _ Af ino w' (hFS.belowSz hb).toR (Nat.le_refl _) hn65 hF.kind
    have KR : ∀ w', Below W.heap.size W w' → ∀ ino off m : Int, Calls Try.prog 15 #[.pointer (some ⟨f, 0, none⟩), .int .i64 ino, .int .i64 off, .int .i64 m] w' (ReadVE F ino off m w') :=
      fun w' hb ino off m => read_any F L _ f cf Af ino off m w' hF (hFS.belowSz hb) hn65
    have HKP := hide KP
    have HKWk := hide KWk
    have HKM := hide KM
    have HKR := hide KR
    have HM := hide hM
    unfold ptrV
    clear KP KWk KM KR hFS hF hFl hb4 h0 h01 h64 HKN Hmade Hb3 hn65
    go_wp2_with fail
    go_loopg [8] (n + 1) (fun gk iv wr => ∃ k : Nat, gk = n + 1 - k ∧ k ≤ n + 1 ∧ iv = .int .i64 (k : Nat) ∧ Below W.heap.size W wr)
    case atStart => exact ⟨0, by omega, Nat.zero_le _, rfl, Below.refl _ _⟩
    case round =>
    obtain ⟨k, hgk, hk, rfl, hbr⟩ := hrel
    have Hgk := hide hgk
    have Hbr := hide hbr
    clear hgk hbr
    by_cases hlt : k ≤ n
    case neg =>
      have i1 : ¬ (k : Int) ≤ (n : Int) := by omega
      go_wp2_with fail
      refine ((unhide KW) _).mono ?_
      rintro e w5 ⟨rfl, hb5⟩
      have Hb5 := hide ((unhide HbW).trans (((unhide Hbr).trans (hb5.mono (unhide Hbr).size)).mono (unhide HbW).size))
      clear hb5
      go_wp2_with fail
      go_ret
      exact ⟨rfl, unhide Hb5⟩
    have i1 : (k : Int) ≤ (n : Int) := by omega
    have hlen : (l.map (·.e)).length = n := by rw [List.length_map, unhide Hl]
    have hwp := Vf.walk_path (unhide HM) (i := k) (by omega)
    have hpsz : (Vf.pathOf F (k : Nat)).size ≤ 200 := by
      rcases Nat.eq_zero_or_pos k with h0 | h0
      · subst h0
        rw [Vf.pathOf_in (unhide HM).good (Vf.good_pos (unhide HM).good), if_pos rfl]
        decide
      · obtain ⟨j, rfl⟩ : ∃ j, k = j + 1 := ⟨k - 1, by omega⟩
        exact Pth.chk_size _ (Vf.path_facts (unhide HM) (i := j) (by omega)).1
    have hkl : k < F.length := by rw [(unhide HM).len]; omega
    obtain ⟨x, hx⟩ : ∃ x, F[k]? = some x := ⟨_, List.getElem?_eq_getElem hkl⟩
    have hmeta : Vf.metaOf F (k : Nat) = (x.m, 0) := by
      unfold Vf.metaOf
      rw [if_neg (by simp; omega), Int.toNat_natCast, Vf.nd_eq hx]
    obtain ⟨pp, hpp⟩ : ∃ p, Vf.pathOf F (k : Nat) = p := ⟨_, rfl⟩
    rw [hpp] at hwp hpsz
    have KP2 := fun w' (hb : Below W.heap.size W w') => (unhide HKP) w' hb (k : Nat)
    rw [hpp] at KP2
    have KW1 := fun w' (hb : Below W.heap.size W w') => (unhide HKWk) w' hb pp (by omega)
    rw [hwp] at KW1
    dsimp only at KW1
    have KM2 := fun w' (hb : Below W.heap.size W w') => (unhide HKM) w' hb (k : Nat)
    rw [hmeta] at KM2
    unfold metaV at KM2
    dsimp only at KM2
    have HKP2 := hide KP2
    have HKW1 := hide KW1
    have HKM2 := hide KM2
    have Hx := hide hx
    have Hlen := hide hlen
    have q0 : ((0 : Int) != 0) = false := rfl
    have qk : (((k : Nat) : Int) != ((k : Nat) : Int)) = false := by simp
    clear hwp hpsz hkl hx hmeta hpp KP2 KW1 KM2 hlen
    go_wp2_with fail
    refine ((unhide HKP2) _ (unhide Hbr)).mono ?_
    rintro e w4 ⟨rfl, hb4⟩
    have Hb4 := hide ((unhide Hbr).trans (hb4.mono (unhide Hbr).size))
    clear hb4
    go_wp2_with fail
    refine ((unhide HKW1) _ (unhide Hb4)).mono ?_
    rintro e w5 ⟨rfl, hb5⟩
    have Hb5 := hide ((unhide Hb4).trans (hb5.mono (unhide Hb4).size))
    clear hb5
    go_wp2_with fail
    refine ((unhide HKM2) _ (unhide Hb5)).mono ?_
    rintro e w6 ⟨rfl, hb6⟩
    have Hb6 := hide (((unhide Hb5).trans (hb6.mono (unhide Hb5).size)).alloc (Nat.le_trans (unhide Hb5).size hb6.size) (.cells #[.int .u8 (x.m.kind : Nat), .int .u16 (x.m.mode : Nat), .int .u32 (x.m.uid : Nat), .int .u32 (x.m.gid : Nat), .int .i64 (x.m.size : Nat)] 32))
    have hq : Blk (w6.alloc (.cells #[.int .u8 (x.m.kind : Nat), .int .u16 (x.m.mode : Nat), .int .u32 (x.m.uid : Nat), .int .u32 (x.m.gid : Nat), .int .i64 (x.m.size : Nat)] 32)) w6.heap.size 32 [.int .u8 (x.m.kind : Nat), .int .u16 (x.m.mode : Nat), .int .u32 (x.m.uid : Nat), .int .u32 (x.m.gid : Nat), .int .i64 (x.m.size : Nat)] := Blk.new w6 _ _
    have Hq := hide hq
    clear hb6 hq
    by_cases hk1 : x.m.kind = 1
    case neg =>
      have q1 : ((x.m.kind : Int) != 1) = true := by simp; omega
      clear hk1
      go_wp2_with fail
      go_roundg (n + 1 - (k + 1))
      case rel => exact ⟨k + 1, rfl, by omega, by go_num, unhide Hb6⟩
      case measure => rw [unhide Hgk]; omega
    have q1 : ((x.m.kind : Int) != 1) = false := by rw [hk1]; rfl
    have Hk1 := hide hk1
    obtain ⟨j, rfl⟩ : ∃ j, k = j + 1 := ⟨k - 1, by
      rcases Nat.eq_zero_or_pos k with h0 | h0
      · subst h0
        have := (unhide HM).good.r
        rw [unhide Hx] at this
        injection this with this
        rw [this] at hk1
        cases hk1
      · omega⟩
    obtain ⟨s, hs⟩ : ∃ s, l[j]? = some s := ⟨_, List.getElem?_eq_getElem (by rw [unhide Hl]; omega)⟩
    have hesj : (l.map (·.e))[j]? = some s.e := by rw [List.getElem?_map, hs]; rfl
    have hdat : x.data = s.e.data := by
      obtain ⟨_, up, h1, _⟩ := (unhide HM).nd j s.e hesj
      have := (unhide Hx).symm.trans h1
      injection this with this
      rw [this]
      rfl
    obtain ⟨hsz1, _, hsz2⟩ := (unhide HM).good.size _ _ (unhide Hx)
    obtain ⟨D, hD⟩ : ∃ D, x.data = D := ⟨_, rfl⟩
    obtain ⟨dl, hdl⟩ : ∃ n, D.length = n := ⟨_, rfl⟩
    have hmsz : x.m.size = dl := by rw [hsz1, hD, hdl]
    rw [hD, hdl] at hsz2
    have hread : ∀ a : Nat, Vf.readOf F ((j + 1 : Nat) : Int) (a : Nat) (pc : Nat) = ((D.drop a).take pc, 0) := by
      intro a
      have hmeta : Vf.metaOf F ((j + 1 : Nat) : Int) = (x.m, 0) := by
        unfold Vf.metaOf
        rw [if_neg (by simp; have := (List.getElem?_eq_some_iff.1 (unhide Hx)).1; omega), Int.toNat_natCast, Vf.nd_eq (unhide Hx)]
      unfold Vf.readOf
      rw [hmeta]
      dsimp only
      rw [if_neg (by simp), if_neg (by rw [unhide Hk1]; decide), if_neg (by rw [unhide Hk1]; omega), Int.toNat_natCast, Int.toNat_natCast, Int.toNat_natCast, Vf.nd_eq (unhide Hx), hD]
    have KR2 := fun w' (hb : Below W.heap.size W w') (a : Nat) => (unhide HKR) w' hb ((j + 1 : Nat) : Int) (a : Nat) (pc : Nat)
    unfold ReadVE at KR2
    simp only [hread] at KR2
    have HKR2 := hide KR2
    have Hs := hide hs
    have Hdat := hide (hdat.symm.trans hD)
    have Hdl := hide hdl
    have hq4 := (unhide Hq).cell (i := 4) rfl
    have hq0 := (unhide Hq).cell (i := 0) rfl
    rw [hmsz] at hq4
    have Hmsz := hide hmsz
    clear hk1 hs hesj hdat hsz1 hD hdl hread KR2 hmsz
    go_wp2_with fail
    generalize hWq : (w6.alloc (.cells #[.int .u8 (x.m.kind : Nat), .int .u16 (x.m.mode : Nat), .int .u32 (x.m.uid : Nat), .int .u32 (x.m.gid : Nat), .int .i64 (x.m.size : Nat)] 32)) = Wq at *
    clear hWq
    go_loopg [12, 13] (dl + pc) (fun gk av tv wr => ∃ (a : Nat) (A7 : Option Addr) (c7 : Nat), gk = dl + pc - a ∧ a ≤ dl + pc ∧ tv = .int .i64 (a : Nat) ∧ av = .slice A7 (min a dl) c7 ∧ wr.ownsRow Wq.heap.size 5 1 (.slice A7 (min a dl) c7) (min a dl) (bys (D.take a)) ∧ Below Wq.heap.size Wq wr)
    case atStart => exact ⟨0, none, 0, by omega, Nat.zero_le _, rfl, by rw [Nat.zero_min], by rw [Nat.zero_min]; exact World.ownsRow_nil _ _ _ _, Below.refl _ _⟩
    case round =>
    obtain ⟨a, A7, c7, hg2, ha, rfl, rfl, ho7, hbq⟩ := hrel
    have hb7 := (unhide Hb6).trans (hbq.mono (unhide Hb6).size)
    have Hg2 := hide hg2
    have Ho7 := hide ho7
    have Hb7 := hide hb7
    have Hbq := hide hbq
    have hq7 := (unhide Hq).belowSz hbq
    have y4 : wr.cell? ⟨w6.heap.size, 4, none⟩ = some (.int .i64 (x.m.size : Nat)) := hq7.cell rfl
    rw [unhide Hmsz] at y4
    clear hg2 ho7 hb7 hbq hq7
    by_cases hle : a ≤ dl
    · have j1 : (a : Int) ≤ (dl : Int) := by omega
      have hmin : min a dl = a := by omega
      rw [hmin] at Ho7 ⊢
      have KR3 := (unhide HKR2) wr (unhide Hb7) a
      obtain ⟨X, hX⟩ : ∃ X, (D.drop a).take pc = X := ⟨_, rfl⟩
      have hXl : X.length = min pc (dl - a) := by rw [← hX, List.length_take, List.length_drop, unhide Hdl]
      rw [hX] at KR3
      obtain ⟨xl, hxl⟩ : ∃ n, X.length = n := ⟨_, rfl⟩
      rw [hxl] at KR3 hXl
      have HKR3 := hide KR3
      have HX := hide hX
      have Hxl := hide hxl
      have j2 : ¬ (pc : Int) < (xl : Int) := by omega
      have j3 : IntKind.i64.wrap ((a : Int) + (pc : Int)) = (a : Int) + (pc : Int) := IntWalk.i64_in _ (by omega)
      have hxs : xl ≤ 5299 := by omega
      have hlo : W.heap.size ≤ wr.heap.size := (unhide Hb7).size
      have HXl := hide hXl
      clear hmin KR3 hX hxl hle hXl
      go_wp2_with fail
      refine (unhide HKR3).mono ?_
      rintro e w8 ⟨A8, c8, rfl, ho8, hb8⟩
      have Ho8 := hide (own_below (unhide Ho7) hb8)
      have Hr8 := hide (Rd.of_own ho8)
      have Hbq8 := hide ((unhide Hbq).trans (hb8.mono (unhide Hbq).size))
      have hlo8 : Wq.heap.size ≤ w8.heap.size := (unhide Hbq8).size
      have hwrap : (a : Int) + (pc : Int) = ((a + pc : Nat) : Int) := by omega
      have Hwrap := hide hwrap
      clear ho8 hb8 hwrap
      go_wp2_with (at_builtin; refine wpList_app byteTy rfl _ _ rfl Wq.heap.size (.slice A7 a c7) a _ rfl (unhide Ho8) w8.heap.size A8 xl c8 _ rfl (unhide Hr8) (bys_one _) (by omega) hlo8 ?_; intro A9 c9 w9 ho9 hg9 hat9; have hb9 := (unhide Hbq8).grown hg9 hlo8 (fun k hk => ((unhide Ho8).lt k hk).1); have Ho9 := hide ho9; have Hb9 := hide hb9; clear ho9 hg9 hat9 hb9)
      go_roundg (dl + pc - (a + pc))
      case rel =>
        have e1 : min (a + pc) dl = a + xl := by have := unhide HXl; omega
        have e2 : bys (D.take (a + pc)) = bys (D.take a) ++ bys X := by
          rw [List.take_add, unhide HX]
          simp [bys]
        refine ⟨a + pc, A9, c9, rfl, by omega, by rw [unhide Hwrap], by rw [e1], ?_, unhide Hb9⟩
        rw [e1, e2]
        exact unhide Ho9
      case measure => rw [unhide Hg2]; omega
    · have j1 : ¬ (a : Int) ≤ (dl : Int) := by omega
      have hmin : min a dl = dl := by omega
      rw [hmin] at Ho7 ⊢
      have htk : D.take a = D := List.take_of_length_le (by rw [unhide Hdl]; omega)
      rw [htk] at Ho7
      obtain ⟨b1, o1, rfl, hb1, cc1⟩ := (unhide H).open_ (by
        intro h0
        have := rowCs_len (vals := entVals) (size := 7) (fun _ => rfl) l
        rw [h0, unhide Hl] at this
        simp at this
        have := (List.getElem?_eq_some_iff.1 (unhide Hs)).1
        rw [unhide Hl] at this
        omega)
      have hbwr : Below w.heap.size w wr := (unhide HbW).trans ((unhide Hb7).mono (unhide HbW).size)
      have x5 : wr.cell? ⟨b1, o1 + (j * 7 + 5), none⟩ = some (.slice s.A s.n s.c) := by
        refine (hbwr.cell (p := ⟨b1, _, none⟩) hb1).trans (cc1 _ _ ?_)
        rw [rowCs_at (vals := entVals) (size := 7) (fun _ => rfl) l j s (unhide Hs) 5 (by omega)]
        rfl
      simp only [← Nat.add_assoc] at x5
      have hsl := (unhide Hin) s (List.mem_of_getElem? (unhide Hs))
      have KE := eqBytes_any A7 s.A dl s.n c7 s.c wr.heap.size D s.e.data wr (Rd.of_own (unhide Ho7)) ((hsl.d.below hbwr).more hbwr.size) (by unfold maxLen; omega) (by have := hsl.nc; have := hsl.c; omega)
      have hdec : decide (D = s.e.data) = true := decide_eq_true (unhide Hdat).symm
      rw [hdec] at KE
      have HKE := hide KE
      have q5 : (((j + 1 : Nat) : Int) == 0) = false := by rw [beq_eq_false_iff_ne]; omega
      have q6 : IntKind.i64.wrap (((j + 1 : Nat) : Int) - 1) = (j : Int) := by rw [IntWalk.i64_in _ (by omega)]; omega
      have q7 : (j : Int) < (n : Int) := by omega
      clear hmin htk cc1 hbwr hsl KE hdec
      go_wp2_with fail
      refine (unhide HKE).mono ?_
      rintro e w8 ⟨rfl, jj, rfl⟩
      go_wp2_with fail
      go_roundg (n + 1 - (j + 1 + 1))
      case rel => exact ⟨j + 1 + 1, rfl, by omega, by go_num, below_drewN' (unhide Hb7) jj⟩
      case measure => rw [unhide Hgk]; omega
end Go.Proofs.Yteiciabhfjakgaa
namespace Go.Proofs.Yteiciabhfjakgaa
set_option linter.unusedVariables false
set_option linter.unusedSimpArgs false
open Go.RowKit Go.ChangeShapes Go.WideShapes Go.Joins Go.Deep

theorem wayFields : ∃ fs, Try.prog.underlying 46 = some (.struct fs) ∧ oneCellFields Try.prog fs = true ∧ Try.prog.cellsOf 46 = fs.size ∧ fs.map (·.type) = #[3, 9, 4] :=
  ⟨_, Try.underlying46, by kernel_rfl, by kernel_rfl, by kernel_rfl⟩
set_option maxRecDepth 100000 in
theorem open_way_rd {H : Type} {enc : TypeId × Value → H} {w : World} {base : Nat} {held : Bool} {r : Reach} {b0 : Nat} {v : Value} {d : DataW H} {p : List MemPlace} (hv : Value.okWide Try.prog w r b0 46 v) (h : DataW.Trod enc Try.prog w base (fun _ => true) held 46 v d p) :
    ∃ (src : Int) (path : ByteArray) (last : Bool), v = .agg #[.int .i64 src, .string path, .bool last] ∧ (-9223372036854775808 ≤ src ∧ src ≤ 9223372036854775807) ∧ path.size ≤ maxLen := by
  obtain ⟨cs, rfl, hsz⟩ := okWide_struct Try.underlying46 hv
  obtain ⟨fuel, hf⟩ := h
  obtain ⟨hl, n, hf⟩ := flds_vals _ wayFields hf
  have e2 : ∃ c0 c1 c2, cs = #[c0, c1, c2] := by
    obtain ⟨l⟩ := cs
    match l, hl with
    | [c0, c1, c2], _ => exact ⟨c0, c1, c2, rfl⟩
  obtain ⟨c0, c1, c2, rfl⟩ := e2
  obtain ⟨y0, h0⟩ := hf 0 3 c0 rfl rfl
  obtain ⟨y1, h1⟩ := hf 1 9 c1 rfl rfl
  obtain ⟨y2, h2⟩ := hf 2 4 c2 rfl rfl
  obtain ⟨a, rfl, ba⟩ := fint_is Try.underlying3 h0
  obtain ⟨s, rfl, bs⟩ := fstr_is Try.underlying9 h1
  obtain ⟨b, rfl⟩ := fbool_is Try.underlying4 h2
  exact ⟨a, s, b, rfl, ba, bs⟩
end Go.Proofs.Yteiciabhfjakgaa

