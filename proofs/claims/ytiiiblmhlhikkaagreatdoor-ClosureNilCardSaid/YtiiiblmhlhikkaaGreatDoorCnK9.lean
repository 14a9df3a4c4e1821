/- Texts of the claim LawClosureNilCard (CloAn2, Law16b, VfsOpen, CloOpen, LawClosureNilCard): what the functions that the statement reaches compute, and plain laws of it. Conditions: those that each theorem states. -/
import Derived.Test.YtiiiblmhlhikkaaGreatDoorCnK5
import Derived.Test.YtiiiblmhlhikkaaGreatDoorCnK8
import Derived.Laws.EntriesVeiled
import Derived.Laws.IdiomArrays
import Derived.Test.YtiiiblmhlhikkaaGreatDoorRows
import Derived.Test.YtiiiblmhlhikkaaGreatDoorCards
import Derived.Test.YtiiiblmhlhikkaaGreatDoorTie
import Derived.Lay
import Derived.LaidMore
import Derived.SevenTiedAt
import Derived.ProofKit
import Derived.OpenShut
import Derived.ShutString
import Derived.ChangeOld
import Derived.Below
import Derived.SliceStrings
set_option linter.unusedVariables false
set_option linter.unusedSimpArgs false
namespace Go.Proofs.YtiiiblmhlhikkaaGreatDoor
open Go.RowKit
def PlE (b : List UInt8) (w : World) (e : Ending) (w' : World) : Prop :=
 ∃ A' m c', e = .returned (.slice A' m c') /\ w'.ownsRow w.heap.size 5 1 (.slice A' m c') m (bys b) /\ Below w.heap.size w w'
theorem wJl (l : List ByteArray) (b : List UInt8) (A : Option Addr) (n c : Nat) (w : World) (hn : l.length = n) (hr : Rd w w.heap.size 1 A n (l.map Value.string)) (hc : n <= c) (hl : n <= 8) (hs : ∀ s ∈ l, s.size <= 8 /\ Mk.has s = false) (hm : nfile l = b) :
  Calls Tryz.prog 18 #[.slice A n c] w (PlE b w) := by
 subst hn
 have K := rmakeN l A c w hr hl hc hs
 unfold NmE at K
 rw [hm] at K
 have HK : Hid (Calls Tryz.prog 41 #[.agg #[.int .u16 3, .int .u64 0, .string ⟨#[]⟩, .slice none 0 0, .slice none 0 0, .int .u64 0, .bool true, .slice A l.length c, .string ⟨#[]⟩, .string ⟨#[]⟩, .slice none 0 0, .slice none 0 0, .int .i64 0]] w fun e w' => Below w.heap.size w w' /\ ∃ A n c, e = .returned (.tuple #[.slice A n c, .int .i64 0]) /\ w'.ownsRow w.heap.size 5 1 (.slice A n c) n (bys b)) := zJ2 K
 clear K hr hs hm
 go_enter Tryz.func18, Tryz.ntmps18
 go_wp2_with fail
 refine (zJ1 HK).mono ?_
 rintro e w2 ⟨hb2, A2, n2, c2, rfl, ho2⟩
 have HB := zJ2 hb2
 have HO := zJ2 ho2
 clear hb2 ho2 HK
 go_wp2_with fail
 go_ret
 exact ⟨A2, n2, c2, rfl, zJ1 HO, zJ1 HB⟩
def anL (A1 : Option Addr) (c1 : Nat) (A2 : Option Addr) (c2 : Nat) (A3 : Option Addr) (c3 : Nat) : List EntA := [⟨⟨⟨#[47, 109, 97, 105, 110]⟩, 1, 493, 0, 0, Clo.fM, ⟨#[]⟩⟩, A1, 299, c1⟩, ⟨⟨⟨#[47, 108, 105, 98]⟩, 2, 493, 0, 0, [], ⟨#[]⟩⟩, none, 0, 0⟩, ⟨⟨⟨#[47, 108, 105, 98, 47, 97]⟩, 1, 493, 0, 0, Clo.fA, ⟨#[]⟩⟩, A2, 317, c2⟩, ⟨⟨⟨#[47, 108, 105, 98, 47, 98]⟩, 1, 493, 0, 0, Clo.fB, ⟨#[]⟩⟩, A3, 281, c3⟩]
theorem anEnt {w : World} {p : ByteArray} {k m : Nat} {d : List UInt8} {A : Option Addr} {n c : Nat} (hd : Rd w w.heap.size 1 A n (bys d)) (h1 : n <= 4294967296) (h2 : p.size <= 4294967296) (h3 : m < 65536) : EntOk w ⟨⟨p, k, m, 0, 0, d, ⟨#[]⟩⟩, A, n, c⟩ := ⟨hd, h1, h2, Nat.zero_le _, h3⟩
set_option maxRecDepth 100000 in
set_option maxHeartbeats 16000000 in
theorem works16_any (w : World) : Calls Tryz.prog 8 #[] w fun e w' => e = .returned (.bool true) /\ Below w.heap.size w w' := by
 have hb0 : Below w.heap.size w (w.alloc (.cells #[.string ⟨#[97]⟩] 9)) := (Below.refl _ _).alloc (Nat.le_refl _) _
 have e0 : (w.alloc (.cells #[.string ⟨#[97]⟩] 9)).heap.size = w.heap.size + 1 := by simp
 have K1 := wJl [Clo.tA] Clo.fM (some ⟨w.heap.size, 0, none⟩) 1 1 (w.alloc (.cells #[.string ⟨#[97]⟩] 9)) rfl (by rw [e0]; exact Rd.row rfl) (Nat.le_refl _) (by decide) (by decide) rfl
 unfold PlE at K1
 have HK1 := zJ2 K1
 have HB0 := zJ2 hb0
 clear K1 hb0 e0
 go_enter Tryz.func8, Tryz.ntmps8
 go_wp2_with fail
 refine (zJ1 HK1).mono ?_
 rintro e w2 ⟨A1, m1, c1, rfl, ho1, hb1⟩
 obtain rfl : m1 = 299 := by have h1 := ho1.1; have h2 := Clo.lenfM; simp [bys] at h1; omega
 have HB2 := zJ2 ((zJ1 HB0).trans (hb1.mono (zJ1 HB0).size))
 have HO1 := zJ2 ho1
 have hb3 : Below w2.heap.size w2 (w2.alloc (.cells #[.string ⟨#[98]⟩, .string ⟨#[97]⟩] 9)) := (Below.refl _ _).alloc (Nat.le_refl _) _
 have e3 : (w2.alloc (.cells #[.string ⟨#[98]⟩, .string ⟨#[97]⟩] 9)).heap.size = w2.heap.size + 1 := by simp
 have K2 := wJl [Clo.tB, Clo.tA] Clo.fA (some ⟨w2.heap.size, 0, none⟩) 2 2 (w2.alloc (.cells #[.string ⟨#[98]⟩, .string ⟨#[97]⟩] 9)) rfl (by rw [e3]; exact Rd.rowF rfl) (Nat.le_refl _) (by decide) (by decide) rfl
 unfold PlE at K2
 have HK2 := zJ2 K2
 have HB3 := zJ2 hb3
 clear K2 hb3 e3 ho1 hb1 HK1 HB0
 go_wp2_with fail
 refine (zJ1 HK2).mono ?_
 rintro e w4 ⟨A2, m2, c2, rfl, ho2, hb4⟩
 obtain rfl : m2 = 317 := by have h1 := ho2.1; have h2 := Clo.lenfA; simp [bys] at h1; omega
 have hb24 := (zJ1 HB3).trans (hb4.mono (zJ1 HB3).size)
 have HB4 := zJ2 ((zJ1 HB2).trans (hb24.mono (zJ1 HB2).size))
 have HR1 := zJ2 ((Rd.of_own (zJ1 HO1)).belowSz hb24)
 have HR2 := zJ2 (Rd.of_own ho2)
 have K3 := wJl [] Clo.fB none 0 0 w4 rfl (Rd.none_ _ _ _ _) (Nat.le_refl _) (by decide) (by decide) rfl
 unfold PlE at K3
 have HK3 := zJ2 K3
 clear K3 ho2 hb4 hb24 HK2 HB2 HB3 HO1
 go_wp2_with fail
 refine (zJ1 HK3).mono ?_
 rintro e w5 ⟨A3, m3, c3, rfl, ho3, hb5⟩
 obtain rfl : m3 = 281 := by have h1 := ho3.1; have h2 := Clo.lenfB; simp [bys] at h1; omega
 have HB5 := zJ2 ((zJ1 HB4).trans (hb5.mono (zJ1 HB4).size))
 have r1 := (zJ1 HR1).belowSz hb5
 have r2 := (zJ1 HR2).belowSz hb5
 have r3 := Rd.of_own ho3
 have hb6 : Below w5.heap.size w5 (w5.alloc (.cells (rowCs entVals (anL A1 c1 A2 c2 A3 c3)).toArray 66)) := (Below.refl _ _).alloc (Nat.le_refl _) _
 have e6 : (w5.alloc (.cells (rowCs entVals (anL A1 c1 A2 c2 A3 c3)).toArray 66)).heap.size = w5.heap.size + 1 := by simp
 have KN := new_any (anL A1 c1 A2 c2 A3 c3) (some ⟨w5.heap.size, 0, none⟩) 4 4 (w5.alloc (.cells (rowCs entVals (anL A1 c1 A2 c2 A3 c3)).toArray 66)) (by rw [e6]; simpa using Rd.rowF (w := w5) (cs := (rowCs entVals (anL A1 c1 A2 c2 A3 c3)).toArray) (e := 66) (size := 7) (n := 4) (fz := (0, 0)) rfl) rfl (by
  intro s hs
  simp only [anL, List.mem_cons, List.not_mem_nil, or_false] at hs
  rcases hs with rfl | rfl | rfl | rfl
  ·exact anEnt (r1.belowSz hb6) (by decide) (by decide) (by decide)
  ·exact anEnt ⟨rfl, .inl rfl⟩ (by decide) (by decide) (by decide)
  ·exact anEnt (r2.belowSz hb6) (by decide) (by decide) (by decide)
  ·exact anEnt (r3.belowSz hb6) (by decide) (by decide) (by decide)) (by omega)
 rw [show (anL A1 c1 A2 c2 A3 c3).map (·.e) = Clo.anE from rfl] at KN
 unfold NewE at KN
 have HKN := zJ2 KN
 have HB6 := zJ2 ((zJ1 HB5).trans (hb6.mono (zJ1 HB5).size))
 clear KN e6 r1 r2 r3 ho3 hb5 hb6 HK3 HB4 HR1 HR2 HB5
 go_wp2_with fail
 refine (zJ1 HKN).mono ?_
 rintro e w7 ⟨hb7, ⟨h0, _⟩ | ⟨_, f, Af, cf, L, rfl, hFS, hF, hFl, -, -⟩⟩
 ·exact absurd Clo.an_new h0
 have a1 := Clo.an_err
 have a2 := Clo.an_ino
 have a3 := Clo.an_dir
 obtain ⟨F, hFe⟩ : ∃ F, (Vf.new Clo.anE).2.2 = F := ⟨_, rfl⟩
 rw [hFe] at hFS hF hFl a1 a2 a3
 have hn : F.length <= 65 := by rw [hFl]; decide
 have HB7 := zJ2 ((zJ1 HB6).trans (hb7.mono (zJ1 HB6).size))
 have KC := fun (main : Int) (W : World) (hW : Below w7.heap.size w7 W) => closure_any F L _ f cf Af none 0 0 Vf.zc main ⟨#[]⟩ false W hF (hFS.belowSz hW) hn ⟨rfl, .inl rfl⟩ (by unfold maxLen; omega) (by decide)
 unfold ClosE credV at KC
 have K1 := KC 1 w7 (Below.refl _ _)
 have K2 := fun W hW => KC 2 W hW
 rw [a1] at K1
 simp only [a3] at K2
 have HC1 := zJ2 K1
 have HC2 := zJ2 K2
 have Ha2 := zJ2 a2
 unfold ptrV
 clear KC K1 K2 a1 a2 a3 hFe hFS hF hFl hb7 HKN HB6 hn
 go_wp2_with fail
 refine (zJ1 HC1).mono ?_
 rintro e w8 ⟨hb8, T, Aa, ca, hT, rfl, ha, -⟩
 have a2 := zJ1 Ha2
 rw [<- hT, List.map_map] at a2
 obtain ⟨x, y, z, rfl, hx, hy, hz⟩ : ∃ x y z, T = [x, y, z] /\ x.o.ino = 1 /\ y.o.ino = 3 /\ z.o.ino = 4 := by
  match T, a2 with
  | [], h => simp at h
  | [x], h => simp at h
  | [x, y], h => simp at h
  | [x, y, z], h => simp at h; exact ⟨x, y, z, rfl, h.1, h.2.1, h.2.2⟩
  | x :: y :: z :: u :: r, h => simp at h
 have hr8 := Rd.of_own ha
 obtain ⟨kb, hkA, -, -⟩ := yJq ha (by show 0 < 3; decide)
 subst hkA
 have HR8 := zJ2 hr8
 have HB8 := zJ2 ((zJ1 HB7).trans (hb8.mono (zJ1 HB7).size))
 have K2 := (zJ1 HC2) w8 hb8
 have HK2 := zJ2 K2
 clear a2 Ha2 hT ha hr8 hb8 K2 HC1 HC2 HB7
 go_wp2_with fail
 refine (zJ1 HK2).mono ?_
 rintro e w9 ⟨hb9, T2, Ab, cb, -, rfl, -, -⟩
 have hr9 := (zJ1 HR8).belowSz hb9
 rcases hr9.2 with h0 | ⟨b1, o1, q1, -, hc⟩
 ·have h1 := congrArg List.length h0
  simp [obC, ObA.l] at h1
 obtain ⟨rfl, rfl⟩ : b1 = kb /\ o1 = 0 := by injection q1 with e; injection e with h1 h2 h3; exact ⟨h1.symm, h2.symm⟩
 have c1' := hc 0 (.int .i64 1) (show (obC [x, y, z])[0]? = _ by show some (Value.int .i64 x.o.ino) = _; rw [hx])
 have c2' := hc 11 (.int .i64 3) (show (obC [x, y, z])[11]? = _ by show some (Value.int .i64 y.o.ino) = _; rw [hy])
 have c3' := hc 22 (.int .i64 4) (show (obC [x, y, z])[22]? = _ by show some (Value.int .i64 z.o.ino) = _; rw [hz])
 simp only [Nat.zero_add] at c1' c2' c3'
 have HB9 := zJ2 ((zJ1 HB8).trans (hb9.mono (zJ1 HB8).size))
 clear hr9 hb9 HR8 HB8 HK2 q1 hx hy hz hc
 go_wp2_with fail
 go_ret
 exact ⟨rfl, zJ1 HB9⟩
structure FrS (w wr : World) (cr : Vf.Cred) (Ag : Option Addr) (ng kg : Nat) (main : Int) (lib : ByteArray) (sec : Bool) : Prop where
 bel : Below w.heap.size w wr
 c : Blk wr w.heap.size 26 [.int .u32 (cr.uid : Nat), .int .u32 (cr.euid : Nat), .int .u32 (cr.suid : Nat), .int .u32 (cr.gid : Nat), .slice Ag ng kg]
 f : Blk wr (w.heap.size + 1) 28 [.int .i64 main, .string lib, .bool sec]
theorem FrS.start (w : World) (cr : Vf.Cred) (Ag : Option Addr) (ng kg : Nat) (main : Int) (lib : ByteArray) (sec : Bool) :
  FrS w ((w.alloc (.cells #[.int .u32 (cr.uid : Nat), .int .u32 (cr.euid : Nat), .int .u32 (cr.suid : Nat), .int .u32 (cr.gid : Nat), .slice Ag ng kg] 26)).alloc (.cells #[.int .i64 main, .string lib, .bool sec] 28)) cr Ag ng kg main lib sec := by
 have e1 : (w.alloc (.cells #[.int .u32 (cr.uid : Nat), .int .u32 (cr.euid : Nat), .int .u32 (cr.suid : Nat), .int .u32 (cr.gid : Nat), .slice Ag ng kg] 26)).heap.size = w.heap.size + 1 := by simp
 refine ⟨((Below.refl _ _).alloc (Nat.le_refl _) _).alloc (by rw [e1]; omega) _, (Blk.new w _ _).alloc _, ?_⟩
 rw [<- e1]
 exact Blk.new _ _ _
section
variable {w wr w' : World} {cr : Vf.Cred} {Ag : Option Addr} {ng kg : Nat} {main : Int} {lib : ByteArray} {sec : Bool}
theorem FrS.below (h : FrS w wr cr Ag ng kg main lib sec) (hb : Below wr.heap.size wr w') : FrS w w' cr Ag ng kg main lib sec := ⟨h.bel.trans (hb.mono h.bel.size), h.c.belowSz hb, h.f.belowSz hb⟩
theorem FrS.drewN (h : FrS w wr cr Ag ng kg main lib sec) (q : Nat) : FrS w (wr.drewN q) cr Ag ng kg main lib sec := ⟨below_drewN' h.bel q, h.c, h.f⟩
theorem FrS.cells (h : FrS w wr cr Ag ng kg main lib sec) : (wr.cell? ⟨w.heap.size, 0, none⟩ = some (.int .u32 (cr.uid : Nat)) /\ wr.cell? ⟨w.heap.size, 1, none⟩ = some (.int .u32 (cr.euid : Nat)) /\ wr.cell? ⟨w.heap.size, 2, none⟩ = some (.int .u32 (cr.suid : Nat)) /\ wr.cell? ⟨w.heap.size, 3, none⟩ = some (.int .u32 (cr.gid : Nat)) /\ wr.cell? ⟨w.heap.size, 4, none⟩ = some (.slice Ag ng kg)) /\
  wr.cell? ⟨w.heap.size + 1, 0, none⟩ = some (.int .i64 main) /\ wr.cell? ⟨w.heap.size + 1, 1, none⟩ = some (.string lib) /\ wr.cell? ⟨w.heap.size + 1, 2, none⟩ = some (.bool sec) :=
 ⟨⟨h.c.cell (i := 0) rfl, h.c.cell (i := 1) rfl, h.c.cell (i := 2) rfl, h.c.cell (i := 3) rfl, h.c.cell (i := 4) rfl⟩, h.f.cell (i := 0) rfl, h.f.cell (i := 1) rfl, h.f.cell (i := 2) rfl⟩
end
set_option maxRecDepth 100000 in
set_option maxHeartbeats 4000000 in
theorem wJv (cr : Vf.Cred) (Ag : Option Addr) (ng kg : Nat) (main : Int) (lib : ByteArray) (sec : Bool) (w : World) :
  Calls Tryz.prog 6 #[credV cr Ag ng kg, .agg #[.int .i64 main, .string lib, .bool sec]] w fun e w' => e = .returned (.bool true) /\ Below w.heap.size w w' := by
 have S0 := FrS.start w cr Ag ng kg main lib sec
 obtain ⟨⟨v0, v1, v2, v3, v4⟩, y0, y1, y2⟩ := S0.cells
 have HS0 := zJ2 S0
 have KC := fun W => closure_nil Ag ng kg cr main lib sec W
 unfold credV at KC ⊢
 have HKC := zJ2 KC
 have KW := zJ2 works16_any
 clear S0 KC
 go_enter Tryz.func6, Tryz.ntmps6
 go_wp2_with fail
 refine ((zJ1 HKC) _).mono ?_
 rintro e w1 ⟨rfl, hb1⟩
 have HS1 := zJ2 ((zJ1 HS0).below hb1)
 clear hb1 HS0 v0 v1 v2 v3 v4 y0 y1 y2 HKC
 go_wp2_with fail
 refine ((zJ1 KW) _).mono ?_
 rintro e w2 ⟨rfl, hb2⟩
 have HS2 := zJ2 ((zJ1 HS1).below hb2)
 clear hb2
 go_wp2_with fail
 go_ret
 exact ⟨rfl, (zJ1 HS2).bel⟩
end Go.Proofs.YtiiiblmhlhikkaaGreatDoor
namespace Go.Proofs.YtiiiblmhlhikkaaGreatDoor
open Go.RowKit Go.ChangeShapes Go.WideShapes Go.Joins Go.Deep
theorem credFields : ∃ fs, Tryz.prog.underlying 26 = some (.struct fs) /\ oneCellFields Tryz.prog fs = true /\ Tryz.prog.cellsOf 26 = fs.size /\ fs.map (·.type) = #[23, 23, 23, 23, 24] :=
 ⟨_, Tryz.underlying26, by kernel_rfl, by kernel_rfl, by kernel_rfl⟩
section
variable {H : Type} {enc : TypeId × Value -> H} {w : World} {base : Nat} {held : Bool}
set_option maxRecDepth 100000 in
theorem open_cred_rd {r : Reach} {b0 : Nat} {v : Value} {d : DataW H} {p : List MemPlace} (hv : Value.okWide Tryz.prog w r b0 26 v) (h : DataW.Trod enc Tryz.prog w base (fun _ => true) held 26 v d p) :
  ∃ (c : Vf.Cred) (A : Option Addr) (n k : Nat), v = credV c A n k /\ Rd w w.heap.size 1 A n (c.groups.map u32v) /\ n <= k /\ k <= maxLen := by
 obtain ⟨cs, rfl, hsz⟩ := okWide_struct Tryz.underlying26 hv
 obtain ⟨fuel, hf⟩ := h
 obtain ⟨hl, n, hf⟩ := flds_vals _ credFields hf
 have e2 : ∃ c0 c1 c2 c3 c4, cs = #[c0, c1, c2, c3, c4] := by
  obtain ⟨l⟩ := cs
  match l, hl with
  | [c0, c1, c2, c3, c4], _ => exact ⟨c0, c1, c2, c3, c4, rfl⟩
 obtain ⟨c0, c1, c2, c3, c4, rfl⟩ := e2
 obtain ⟨y0, h0⟩ := hf 0 23 c0 rfl rfl
 obtain ⟨y1, h1⟩ := hf 1 23 c1 rfl rfl
 obtain ⟨y2, h2⟩ := hf 2 23 c2 rfl rfl
 obtain ⟨y3, h3⟩ := hf 3 23 c3 rfl rfl
 obtain ⟨y4, h4⟩ := hf 4 24 c4 rfl rfl
 obtain ⟨a0, rfl, b0⟩ := uJ5 Tryz.underlying23 h0
 obtain ⟨a1, rfl, b1⟩ := uJ5 Tryz.underlying23 h1
 obtain ⟨a2, rfl, b2⟩ := uJ5 Tryz.underlying23 h2
 obtain ⟨a3, rfl, b3⟩ := uJ5 Tryz.underlying23 h3
 obtain ⟨A, m, k, rfl⟩ := fslice_is Tryz.underlying24 h4
 obtain ⟨zs, r0, hc0, hm0, hw0⟩ := open_nums_rd (d := y4.1) (p := y4.2) Tryz.underlying24 Tryz.underlying23 (by kernel_rfl) ⟨n, h4⟩
 have hz : (zs.map Int.toNat).map u32v = zs.map (Value.int .u32) := by
  rw [List.map_map]
  refine List.map_congr_left fun z hz => ?_
  have : 0 <= z /\ z <= 4294967295 := by simpa [Lit.wf, IntKind.min, IntKind.max, IntKind.signed, IntKind.bits] using hw0 z hz
  show Value.int .u32 ((z.toNat : Nat) : Int) = Value.int .u32 z
  rw [Int.toNat_of_nonneg this.1]
 exact ⟨⟨a0, a1, a2, a3, zs.map Int.toNat⟩, A, m, k, rfl, by rw [hz]; exact r0, hc0, hm0⟩
end
open Go.RowKit Go.ChangeShapes Go.WideShapes Go.Joins Go.Deep
theorem fromFields : ∃ fs, Tryz.prog.underlying 28 = some (.struct fs) /\ oneCellFields Tryz.prog fs = true /\ Tryz.prog.cellsOf 28 = fs.size /\ fs.map (·.type) = #[3, 9, 4] :=
 ⟨_, Tryz.underlying28, by kernel_rfl, by kernel_rfl, by kernel_rfl⟩
set_option maxRecDepth 100000 in
theorem open_from_rd {H : Type} {enc : TypeId × Value -> H} {w : World} {base : Nat} {held : Bool} {r : Reach} {b0 : Nat} {v : Value} {d : DataW H} {p : List MemPlace} (hv : Value.okWide Tryz.prog w r b0 28 v) (h : DataW.Trod enc Tryz.prog w base (fun _ => true) held 28 v d p) :
  ∃ (src : Int) (path : ByteArray) (last : Bool), v = .agg #[.int .i64 src, .string path, .bool last] /\ (-9223372036854775808 <= src /\ src <= 9223372036854775807) /\ path.size <= maxLen := by
 obtain ⟨cs, rfl, hsz⟩ := okWide_struct Tryz.underlying28 hv
 obtain ⟨fuel, hf⟩ := h
 obtain ⟨hl, n, hf⟩ := flds_vals _ fromFields hf
 have e2 : ∃ c0 c1 c2, cs = #[c0, c1, c2] := by
  obtain ⟨l⟩ := cs
  match l, hl with
  | [c0, c1, c2], _ => exact ⟨c0, c1, c2, rfl⟩
 obtain ⟨c0, c1, c2, rfl⟩ := e2
 obtain ⟨y0, h0⟩ := hf 0 3 c0 rfl rfl
 obtain ⟨y1, h1⟩ := hf 1 9 c1 rfl rfl
 obtain ⟨y2, h2⟩ := hf 2 4 c2 rfl rfl
 obtain ⟨a, rfl, ba⟩ := fint_is Tryz.underlying3 h0
 obtain ⟨s, rfl, bs⟩ := fstr_is Tryz.underlying9 h1
 obtain ⟨b, rfl⟩ := fbool_is Tryz.underlying4 h2
 exact ⟨a, s, b, rfl, ba, bs⟩
end Go.Proofs.YtiiiblmhlhikkaaGreatDoor
namespace Go.Proofs.YtiiiblmhlhikkaaGreatDoor.closureNil
open Go.ChangeShapes Go.WideShapes Go.ChangeAt Go.RowKit
open Go.ChangeMaps (open_string shut_string)
theorem own : ownKnob Tryz.prog.godebug = none := by kernel_rfl
theorem laidOut : laidOutB Tryz.prog = true := by kernel_rfl
theorem wfi {z : Int} (h : (Lit.int .i64 z).wf = true) : -9223372036854775808 <= z /\ z <= 9223372036854775807 := by simpa [Lit.wf, IntKind.min, IntKind.max, IntKind.signed, IntKind.bits] using h
def laid3 : List (String × DataW Unit) := [("unicode/utf8.acceptRanges", Rows.laid_unicode_utf8_acceptRanges), ("unicode/utf8.first", Rows.laid_unicode_utf8_first)]
set_option maxRecDepth 100000 in
theorem lifted (os : Os) (started : os.Started) (H : Type) (enc : TypeId × Value -> H) :
  ReturnsInHanded {} Tryz.checked os 6 .any (fun w args => (Rows.closureNilSpec.pre enc Tryz.prog Tryz.f6 [] false w args /\ laidMetH Tryz.prog laid3 w) /\ sizedMet enc Tryz.prog Tryz.f6 (OpenSpec.ofChange Rows.closureNilSpec) false w args)
   (Rows.closureNilSpec.post enc Tryz.prog Tryz.f6 false true false false) := by
 refine returnsInHanded_of_change_and (C := Tryz.checked) (X := fun w _ => laidMetH Tryz.prog laid3 w) (fun _ _ _ hh h => h.of_heap hh) own started (by kernel_rfl) Tryz.func6
  (ChangeSpec.witness_shaped (enc := enc) (C := Tryz.checked) (os := os) (X := fun w _ => laidMetH Tryz.prog laid3 w) false (World.laidAll Tryz.prog os laid3) #[.agg #[.int .u32 0, .int .u32 0, .int .u32 0, .int .u32 0, .slice none 0 0], .agg #[.int .i64 0, .string ByteArray.empty, .bool false]] 8 (World.laidAll_os _ _ _)
   (World.shaped_of_ZipB (by kernel_rfl) (by kernel_rfl)) (by kernel_rfl) (by kernel_rfl) (by kernel_rfl)
   (by rw [MakeChecks.laidMetH_plain _ _ _ (by kernel_rfl)]; exact laidMet_laidAll _ (by kernel_rfl) (by kernel_rfl))) ?_
 intro W base args ds gs before hval0 hW _ _ _ _
 have hval : ∀ (j : Nat) t v, Tryz.f6.params[j]? = some t -> args[j]? = some v -> Value.okWide Tryz.prog W .any base t v := hval0
 have hW' := hW
 obtain ⟨p, q, hA0, hV, rfl, hfz, hnd⟩ := hW
 have hA : DataW.TrodAll enc Tryz.prog W 0 (fun _ => true) true Tryz.f6.params.toList args.toList ds p := hA0
 rw [Tryz.params6] at hA hval
 obtain ⟨v0, vs0, d0, ds0, p0, q0, hargs, rfl, rfl, h0, r0⟩ := trodAll_cons hA
 obtain ⟨v1, vs1, d1, ds1, p1, q1, rfl, rfl, rfl, h1, r1⟩ := trodAll_cons r0
 obtain ⟨rfl, rfl, rfl⟩ := trodAll_nil r1
 obtain rfl : args = #[v0, v1] := by cases args; simp_all
 obtain ⟨rfl, rfl⟩ := trodVars_none hV
 have k0 := h0
 have lt0 : ∀ x ∈ p0, x.block < W.heap.size := by obtain ⟨m, hm⟩ := k0; exact DataW.trod_lt m _ _ _ hm
 obtain ⟨cr0, A0, n0, m0, rfl, w0, wc0, wm0⟩ := open_cred_rd (hval 0 26 v0 rfl rfl) h0
 have k1 := h1
 have lt1 : ∀ x ∈ p1, x.block < W.heap.size := by obtain ⟨m, hm⟩ := k1; exact DataW.trod_lt m _ _ _ hm
 obtain ⟨fi1, fl1, fb1, rfl, wi1, wl91⟩ := open_from_rd (hval 1 28 v1 rfl rfl) h1
 clear hA0 hval0
 refine (wJv cr0 A0 n0 m0 fi1 fl1 fb1 W).mono fun e W' ⟨he, bel⟩ => ?_
 subst he
 exact ⟨_, rfl, _, _, _, [], _, [], hW', trodAll_mk1 (shut_bool Tryz.underlying4 _), (trodAll_cons_mk (Below.trod laidOut (by kernel_rfl) (of_decide_eq_true (by kernel_rfl)) k0 bel lt0) (trodAll_cons_mk (Below.trod laidOut (by kernel_rfl) (of_decide_eq_true (by kernel_rfl)) k1 bel lt1) trodAll_mk0)), rfl, bel.frame _, fun h => by cases h⟩
theorem over : Rows.closureNilRow.holds Tryz.pinned (OpenSpec.ofChange Rows.closureNilSpec) :=
 OpenClaim.holds_of_wide 6 Tryz.f6 rfl rfl rfl rfl rfl rfl rfl ⟨rfl, rfl, rfl, rfl, rfl⟩ rfl rfl rfl rfl rfl (by kernel_rfl) Tryz.func6 (by kernel_rfl)
  (of_decide_eq_true (by kernel_rfl)) (by unfold Func.isWrapper; first | (rw [if_pos (by decide +kernel)]; kernel_rfl) | (rw [if_neg (by decide +kernel)]; exact ⟨rfl, rfl⟩))
  (fun os started H enc _ => lifted os started H enc)
theorem proved : Rows.ClosureNilCardSaid :=
 Claim7.holds_tied_plain_at .later [] [.data, .pinned] true Rows.closureNilCard.stood.harness Rows.closureNilCard.stood.looks over (fun _ h => by cases h) (by kernel_rfl) (fun _ h => by cases h) closureNil_row_tie rfl ⟨rfl, rfl⟩ (by kernel_rfl) rfl
  (fun f fn hf hfn => by
   obtain rfl : f = 6 := Option.some.inj ((show Tryz.prog.funcNamed "hostel/hostellaw16.ClosureNil" = some 6 by kernel_rfl).symm.trans hf) |>.symm
   obtain rfl : fn = Tryz.f6 := (Option.some.inj (Tryz.func6.symm.trans hfn)).symm
   exact ⟨by kernel_rfl, fun j t ht => by
    rw [Tryz.params6] at ht
    have hm : t ∈ ([26, 28] : List TypeId) := by simpa using Array.mem_of_getElem? ht
    have hall : (([26, 28] : List TypeId).all fun u => !Tryz.prog.wantsStandIn u) = true := by kernel_rfl
    exact (show Tryz.prog.wantsStandIn t = false by simpa using List.all_eq_true.1 hall t hm)⟩)
  (by kernel_rfl)
#print axioms proved
end Go.Proofs.YtiiiblmhlhikkaaGreatDoor.closureNil
