/- Texts of the claim LawCloManyCard (CloW, CloAn2, Law16b, CloL, CloF, ElfLaw, ElfLaw2, Elf10, MkL3, Same16, RevJoin, Vfs13, Vfs7, Vfs18, VfsOpen, Ref6a, Ref6b, Law06b, Law16c, Law16d, CloOpen, Law16e): what the functions that the statement reaches compute, and plain laws of it. Conditions: those that each theorem states. -/
import Derived.Test.YtiiiblmhlhikkaaGreatDoorCbK8
import Derived.Laws.EntriesVeiled
import Derived.Deep.DeepCutAuto
import Derived.Deep.CutBlock
import Derived.Deep.RegionHeld3
import Derived.Deep.LoopGhost
import Derived.Test.YtiiiblmhlhikkaaGreatDoorCbK5
import Derived.Test.YtiiiblmhlhikkaaGreatDoorCbK6
import Derived.Test.YtiiiblmhlhikkaaGreatDoorCbK2
import Derived.Test.YtiiiblmhlhikkaaGreatDoorCbK3
import Derived.Test.YtiiiblmhlhikkaaGreatDoorCbK4
import Derived.Test.YtiiiblmhlhikkaaGreatDoorCbK1
import Derived.Test.YtiiiblmhlhikkaaGreatDoorShelf
import Derived.Laws.IdiomCopy
import Derived.Lib.RowBridge
import Derived.Laws.IdiomArrays
import Derived.Laws.Rows
set_option linter.unusedVariables false
set_option linter.unusedSimpArgs false
namespace Go.Proofs.YtiiiblmhlhikkaaGreatDoor
open Go.RowKit
theorem Clo.joinB_sz (d p : ByteArray) : (Pth.joinB d p).size <= d.size + 1 + p.size := by
 unfold Pth.joinB
 split
 ·omega
 split
 ·rw [ByteArray.size_append]; omega
 ·rw [ByteArray.size_append, ByteArray.size_append]
  have : Pth.slash.size = 1 := rfl
  omega
theorem Clo.paths_sz {nm run lib : ByteArray} {sec : Bool} (h1 : nm.size <= 65536) (h2 : run.size <= 65536) (h3 : lib.size <= 65536) : (∀ x ∈ Se.paths nm run lib sec, x.size <= 1000000) /\ (Se.paths nm run lib sec).length <= 1000000 := by
 have e1 : run.data.toList.length = run.size := by simp
 have e2 : lib.data.toList.length = lib.size := by simp
 have l1 := xJ8 run.data.toList
 have l2 := xJ8 lib.data.toList
 have l3 : Se.libs.length = 2 := rfl
 have hlibs : ∀ x ∈ Se.libs, x.size <= 8 := by decide
 have hd : (∀ x ∈ Se.dirs run lib sec, x.size <= 70000) /\ (Se.dirs run lib sec).length <= 200000 := by
  cases sec with
  | true =>
   rw [Se.dirs_true]
   refine ⟨fun x hx => ?_, by rw [List.length_append]; omega⟩
   rcases List.mem_append.1 hx with h | h
   ·have := vJi h; omega
   ·have := hlibs x h; omega
  | false =>
   rw [Se.dirs_false]
   refine ⟨fun x hx => ?_, by rw [List.length_append, List.length_append]; omega⟩
   rcases List.mem_append.1 hx with h | h
   ·have := vJi h; omega
   rcases List.mem_append.1 h with h | h
   ·have := vJi h; omega
   ·have := hlibs x h; omega
 unfold Se.paths
 split
 ·refine ⟨fun x hx => ?_, by simp⟩
  rw [List.mem_singleton] at hx
  subst hx
  omega
 ·refine ⟨fun x hx => ?_, by rw [List.length_map]; omega⟩
  obtain ⟨d, hdm, rfl⟩ := List.mem_map.1 hx
  have := Clo.joinB_sz d nm
  have := hd.1 d hdm
  omega
theorem ObM.base {w : World} {B B2 : Nat} {x : ObA} (h : ObM w B x) (hB : B2 <= B) : ObM w B2 x := ⟨zJd h.segs hB, ⟨zJd h.dyn.needed hB, zJd h.dyn.syms hB, zJd h.dyn.relas hB⟩⟩
namespace Clo
def cont (F : List Vf.Nd) (c : Who) (i : Nat) (run : ByteArray) (r : List ByteArray) (l : List Ob) : List Ob × Int :=
 if (needs F c run r l).2 ≠ 0 then needs F c run r l else rest F c (8 - i) (i + 1) (needs F c run r l).1
theorem cont_nil {F : List Vf.Nd} {c : Who} {i : Nat} {run : ByteArray} {l : List Ob} : cont F c i run [] l = rest F c (8 - i) (i + 1) l := by
 unfold cont
 rw [needs_nil, if_neg (by simp)]
theorem cont_bad {F : List Vf.Nd} {c : Who} {i : Nat} {run nm : ByteArray} {r : List ByteArray} {l : List Ob} (h : (need F c run nm l).2 ≠ 0) : cont F c i run (nm :: r) l = need F c run nm l := by
 unfold cont
 rw [yJu h, if_pos h]
theorem cont_good {F : List Vf.Nd} {c : Who} {i : Nat} {run nm : ByteArray} {r : List ByteArray} {l : List Ob} (h : (need F c run nm l).2 = 0) : cont F c i run (nm :: r) l = cont F c i run r (need F c run nm l).1 := by
 unfold cont
 rw [yJg h]
section
variable {F : List Vf.Nd} {c : Who} {run nm : ByteArray} {l : List Ob} {n : Nat} {p : ByteArray} {e : Int}
theorem need1 (h : look F c run nm = (n, p, e)) (h1 : e ≠ 0) : need F c run nm l = ([], e) := by unfold need; rw [h]; exact if_pos h1
theorem need2 (h : look F c run nm = (n, p, 0)) (h1 : there l n = true) : need F c run nm l = (l, 0) := by unfold need; rw [h]; dsimp only; rw [if_neg (by simp), if_pos h1]
theorem need3 (h : look F c run nm = (n, p, 0)) (h1 : there l n = false) (h2 : l.length = 8) : need F c run nm l = ([], 15) := by unfold need; rw [h]; dsimp only; rw [if_neg (by simp), if_neg (by rw [h1]; simp), if_pos h2]
theorem need4 (h : look F c run nm = (n, p, 0)) (h1 : there l n = false) (h2 : ¬ l.length = 8) (h3 : (object F n).2 ≠ 0 \/ (object F n).1.head.type ≠ 3) : need F c run nm l = ([], 20) := by unfold need; rw [h]; dsimp only; rw [if_neg (by simp), if_neg (by rw [h1]; simp), if_neg h2, if_pos h3]
theorem need5 (h : look F c run nm = (n, p, 0)) (h1 : there l n = false) (h2 : ¬ l.length = 8) (h3 : ¬ ((object F n).2 ≠ 0 \/ (object F n).1.head.type ≠ 3)) : need F c run nm l = (l ++ [(object F n).1], 0) := by unfold need; rw [h]; dsimp only; rw [if_neg (by simp), if_neg (by rw [h1]; simp), if_neg h2, if_neg h3]
end
theorem rest_cont {F : List Vf.Nd} {c : Who} {i : Nat} {l : List Ob} {o : Ob} (h : l[i]? = some o) (hi : i <= 8) : rest F c (9 - i) i l = cont F c i o.dyn.run o.dyn.needed l := by
 rw [show 9 - i = (8 - i) + 1 from by omega, yJs h]
 rfl
end Clo
theorem zero_st (w : World) : (zeroValue 91).run Tryz.prog w = .ok (.agg #[]) w := by kernel_rfl
theorem there_key {T : List ObA} {n : Nat} : (Clo.there (T.map (·.o)) n = true -> (.int .i64 (n : Nat), .agg #[]) ∈ kyC T) /\ (Clo.there (T.map (·.o)) n = false -> ∀ p ∈ kyC T, p.1 ≠ .int .i64 (n : Nat)) := by
 unfold Clo.there kyC
 constructor
 ·intro h
  rw [List.any_map, List.any_eq_true] at h
  obtain ⟨x, hx, he⟩ := h
  exact List.mem_map.2 ⟨x, hx, by rw [show x.o.ino = (n : Int) from of_decide_eq_true he]⟩
 ·intro h p hp e
  obtain ⟨x, hx, rfl⟩ := List.mem_map.1 hp
  rw [List.any_map, List.any_eq_false] at h
  have h1 := h x hx
  apply h1
  injection e with _ e
  exact decide_eq_true e
def ClosE (p : List Clo.Ob × Int) (w : World) (e : Ending) (w' : World) : Prop :=
 Below w.heap.size w w' /\ ∃ (T : List ObA) (Aa : Option Addr) (ca : Nat), T.map (·.o) = p.1 /\ e = .returned (.tuple #[.slice Aa T.length ca, .int .i64 p.2]) /\ w'.ownsRow w.heap.size 56 11 (.slice Aa T.length ca) T.length (obC T) /\ ∀ x ∈ T, ObM w' w.heap.size x
theorem xJ6 {p : List Clo.Ob × Int} {er : Int} {w w' : World} (h : p = ([], er)) (hb : Below w.heap.size w w') : ClosE p w (.returned (.tuple #[.slice none 0 0, .int .i64 er])) w' := by
 subst h
 exact ⟨hb, [], none, 0, rfl, rfl, World.ownsRow_nil _ _ _ _, fun x hx => absurd hx (List.not_mem_nil (a := x))⟩
theorem obTy : SlTy Tryz.prog 39 56 11 168 := yJ0 (z := .agg #[.int .i64 0, .int .u64 0, .int .u16 0, .int .u64 0, .int .u64 0, .slice none 0 0, .slice none 0 0, .string ⟨#[]⟩, .string ⟨#[]⟩, .slice none 0 0, .slice none 0 0]) Tryz.underlying39 (by kernel_rfl) rfl (by omega) (by omega)
set_option maxRecDepth 100000 in
set_option maxHeartbeats 16000000 in
theorem xJf (F : List Vf.Nd) (L : List Pl) (lo f cf : Nat) (Af Ag : Option Addr) (ng kg : Nat) (cr : Vf.Cred) (main : Int) (lib : ByteArray) (sec : Bool) (w : World) (hF : Vf.Good F) (hFS : FsM w lo f Af cf F L) (hn : F.length <= 65)
  (hg : Rd w w.heap.size 1 Ag ng (cr.groups.map u32v)) (hng : ng <= maxLen) (hlib : lib.size <= 65536) :
  Calls Tryz.prog 12 #[.pointer (some ⟨f, 0, none⟩), credV cr Ag ng kg, .int .i64 main, .string lib, .bool sec] w (ClosE (Clo.closure F ⟨cr, lib, sec⟩ main) w) := by
 have hb0 : Below w.heap.size w (w.alloc (.cells #[.int .u32 (cr.uid : Nat), .int .u32 (cr.euid : Nat), .int .u32 (cr.suid : Nat), .int .u32 (cr.gid : Nat), .slice Ag ng kg] 26)) := (Below.refl _ _).alloc (Nat.le_refl _) _
 have hk0 : Blk (w.alloc (.cells #[.int .u32 (cr.uid : Nat), .int .u32 (cr.euid : Nat), .int .u32 (cr.suid : Nat), .int .u32 (cr.gid : Nat), .slice Ag ng kg] 26)) w.heap.size 26 [.int .u32 (cr.uid : Nat), .int .u32 (cr.euid : Nat), .int .u32 (cr.suid : Nat), .int .u32 (cr.gid : Nat), .slice Ag ng kg] := Blk.new w 26 [.int .u32 (cr.uid : Nat), .int .u32 (cr.euid : Nat), .int .u32 (cr.suid : Nat), .int .u32 (cr.gid : Nat), .slice Ag ng kg]
 have KO := zJ2 (fun (i : Int) (W : World) (hW : Below w.heap.size w W) => object_any F L lo f cf Af i W hF (hFS.belowSz hW) hn)
 have KP := zJ2 (fun (nm run : ByteArray) (h1 : nm.size <= 65536) (h2 : run.size <= 65536) (W : World) => paths_any nm run lib sec W (by omega) (by omega) (by omega))
 have KF := zJ2 (fun (Al : Option Addr) (nl cl : Nat) (l : List ByteArray) (W : World) (hW : Below w.heap.size w W) (hl : Rd W W.heap.size 1 Al nl (l.map Value.string)) (hs : ∀ x ∈ l, x.size <= 1000000) (hnl : nl <= 1000000) => find_any F L lo f cf Af Ag Al ng kg nl cl cr 0 l W hF (hFS.belowSz hW) hn ((hg.below hW).more hW.size) hng hl (fun x hx => Nat.le_trans (hs x hx) (by decide)) (by omega))
 have HB0 := zJ2 hb0
 have HK0 := zJ2 hk0
 have e0 : (w.alloc (.cells #[.int .u32 (cr.uid : Nat), .int .u32 (cr.euid : Nat), .int .u32 (cr.suid : Nat), .int .u32 (cr.gid : Nat), .slice Ag ng kg] 26)).heap.size = w.heap.size + 1 := by simp
 have K0 := (zJ1 KO) main _ hb0
 unfold ObjE at K0
 obtain ⟨⟨ob, er⟩, hob⟩ : ∃ r, Clo.object F main = r := ⟨_, rfl⟩
 have hosz := Clo.object_sz F main
 have hoin : (Clo.object F main).2 = 0 -> (Clo.object F main).1.ino = main := Clo.object_ino
 have hcl : Clo.closure F ⟨cr, lib, sec⟩ main = if er ≠ 0 then ([], er) else Clo.rest F ⟨cr, lib, sec⟩ 9 0 [ob] := by unfold Clo.closure; rw [hob]
 rw [hob] at K0 hosz hoin
 dsimp only at K0 hosz hoin
 obtain ⟨R, hR⟩ : ∃ R, Clo.closure F ⟨cr, lib, sec⟩ main = R := ⟨_, rfl⟩
 rw [hR] at hcl ⊢
 have Hcl := zJ2 hcl
 have Hosz := zJ2 hosz
 have Hoin := zJ2 hoin
 have HK := zJ2 K0
 clear hb0 hk0 K0 hcl hosz hoin hob hR hFS hg hF
 unfold credV
 go_enter Tryz.func12, Tryz.ntmps12
 go_wp2_with fail
 refine (zJ1 HK).mono ?_
 rintro e w1 ⟨hb1, x, hx, rfl, hM⟩
 obtain ⟨⟨xi, ⟨xt, xe, xp, xs⟩, xd⟩, As, cs, B1, k1, B2, k2, B3, k3⟩ := x
 subst hx
 have hl : (ObA.l ⟨⟨xi, ⟨xt, xe, xp, xs⟩, xd⟩, As, cs, B1, k1, B2, k2, B3, k3⟩).toArray = #[.int .i64 xi, .int .u64 0, .int .u16 (xt : Nat), .int .u64 (xe : Nat), .int .u64 (xp : Nat), .slice As xs.length cs, .slice B1 xd.needed.length k1, .string xd.soname, .string xd.run, .slice B2 xd.syms.length k2, .slice B3 xd.relas.length k3] := rfl
 rw [hl]
 have HM := zJ2 (hM.base (B2 := w.heap.size) (by rw [e0]; omega))
 have HB1 := zJ2 ((zJ1 HB0).trans (hb1.mono (zJ1 HB0).size))
 have HK1 := zJ2 ((zJ1 HK0).belowSz hb1)
 have hs1 : w.heap.size + 1 <= w1.heap.size := by have := hb1.size; rw [e0] at this; exact this
 clear hM hb1 hl HK HB0 HK0 e0
 by_cases h1 : er = 0
 case neg =>
  have hr := zJ1 Hcl
  rw [if_pos h1] at hr
  have Hr := zJ2 hr
  have q1 : (er != 0) = true := bne_iff_ne.2 h1
  have HB2 : Hid (Below w.heap.size w (w1.alloc (.cells #[.int .i64 xi, .int .u64 0, .int .u16 (xt : Nat), .int .u64 (xe : Nat), .int .u64 (xp : Nat), .slice As xs.length cs, .slice B1 xd.needed.length k1, .string xd.soname, .string xd.run, .slice B2 xd.syms.length k2, .slice B3 xd.relas.length k3] 56))) := zJ2 ((zJ1 HB1).alloc (zJ1 HB1).size _)
  clear hr Hcl h1
  go_wp2_with fail
  go_ret2
  exact xJ6 (zJ1 Hr) (zJ1 HB2)
 case pos =>
 have hr := zJ1 Hcl
 rw [if_neg (by rw [h1]; simp)] at hr
 have Hr := zJ2 hr
 have hxi := (zJ1 Hoin) h1
 dsimp only at hxi
 subst hxi
 subst h1
 clear hr Hcl Hoin
 have hmm := @run_makeMap Tryz.prog
 have hX0 : Blk (w1.alloc (.cells #[.int .i64 xi, .int .u64 0, .int .u16 (xt : Nat), .int .u64 (xe : Nat), .int .u64 (xp : Nat), .slice As xs.length cs, .slice B1 xd.needed.length k1, .string xd.soname, .string xd.run, .slice B2 xd.syms.length k2, .slice B3 xd.relas.length k3] 56)) w1.heap.size 56 [.int .i64 xi, .int .u64 0, .int .u16 (xt : Nat), .int .u64 (xe : Nat), .int .u64 (xp : Nat), .slice As xs.length cs, .slice B1 xd.needed.length k1, .string xd.soname, .string xd.run, .slice B2 xd.syms.length k2, .slice B3 xd.relas.length k3] := Blk.new w1 56 [.int .i64 xi, .int .u64 0, .int .u16 (xt : Nat), .int .u64 (xe : Nat), .int .u64 (xp : Nat), .slice As xs.length cs, .slice B1 xd.needed.length k1, .string xd.soname, .string xd.run, .slice B2 xd.syms.length k2, .slice B3 xd.relas.length k3]
 have e1 : (w1.alloc (.cells #[.int .i64 xi, .int .u64 0, .int .u16 (xt : Nat), .int .u64 (xe : Nat), .int .u64 (xp : Nat), .slice As xs.length cs, .slice B1 xd.needed.length k1, .string xd.soname, .string xd.run, .slice B2 xd.syms.length k2, .slice B3 xd.relas.length k3] 56)).heap.size = w1.heap.size + 1 := by simp
 have e2 : ((w1.alloc (.cells #[.int .i64 xi, .int .u64 0, .int .u16 (xt : Nat), .int .u64 (xe : Nat), .int .u64 (xp : Nat), .slice As xs.length cs, .slice B1 xd.needed.length k1, .string xd.soname, .string xd.run, .slice B2 xd.syms.length k2, .slice B3 xd.relas.length k3] 56)).alloc (.cells #[.int .i64 xi, .int .u64 0, .int .u16 (xt : Nat), .int .u64 (xe : Nat), .int .u64 (xp : Nat), .slice As xs.length cs, .slice B1 xd.needed.length k1, .string xd.soname, .string xd.run, .slice B2 xd.syms.length k2, .slice B3 xd.relas.length k3] 56)).heap.size = w1.heap.size + 1 + 1 := by simp
 have hb2 : Below w1.heap.size w1 ((w1.alloc (.cells #[.int .i64 xi, .int .u64 0, .int .u16 (xt : Nat), .int .u64 (xe : Nat), .int .u64 (xp : Nat), .slice As xs.length cs, .slice B1 xd.needed.length k1, .string xd.soname, .string xd.run, .slice B2 xd.syms.length k2, .slice B3 xd.relas.length k3] 56)).alloc (.cells #[.int .i64 xi, .int .u64 0, .int .u16 (xt : Nat), .int .u64 (xe : Nat), .int .u64 (xp : Nat), .slice As xs.length cs, .slice B1 xd.needed.length k1, .string xd.soname, .string xd.run, .slice B2 xd.syms.length k2, .slice B3 xd.relas.length k3] 56)) := ((Below.refl _ _).alloc (Nat.le_refl _) _).alloc (by rw [e1]; omega) _
 have ha2 : ((w1.alloc (.cells #[.int .i64 xi, .int .u64 0, .int .u16 (xt : Nat), .int .u64 (xe : Nat), .int .u64 (xp : Nat), .slice As xs.length cs, .slice B1 xd.needed.length k1, .string xd.soname, .string xd.run, .slice B2 xd.syms.length k2, .slice B3 xd.relas.length k3] 56)).alloc (.cells #[.int .i64 xi, .int .u64 0, .int .u16 (xt : Nat), .int .u64 (xe : Nat), .int .u64 (xp : Nat), .slice As xs.length cs, .slice B1 xd.needed.length k1, .string xd.soname, .string xd.run, .slice B2 xd.syms.length k2, .slice B3 xd.relas.length k3] 56)).ownsRow w.heap.size 56 11 (.slice (some ⟨w1.heap.size + 1, 0, none⟩) 1 1) 1 [.int .i64 xi, .int .u64 0, .int .u16 (xt : Nat), .int .u64 (xe : Nat), .int .u64 (xp : Nat), .slice As xs.length cs, .slice B1 xd.needed.length k1, .string xd.soname, .string xd.run, .slice B2 xd.syms.length k2, .slice B3 xd.relas.length k3] := by
  rw [<- e1]
  exact ⟨rfl, .inr ⟨_, 1, _, rfl, by rw [e1]; omega, heap_alloc_new _ _, Nat.le_refl _, by unfold maxLen; omega, rfl, rfl⟩⟩
 have hX2 := hX0.alloc (.cells #[.int .i64 xi, .int .u64 0, .int .u16 (xt : Nat), .int .u64 (xe : Nat), .int .u64 (xp : Nat), .slice As xs.length cs, .slice B1 xd.needed.length k1, .string xd.soname, .string xd.run, .slice B2 xd.syms.length k2, .slice B3 xd.relas.length k3] 56)
 have hM2 := (zJ1 HM).belowSz hb2
 have hK2 := (zJ1 HK1).belowSz hb2
 have hB2 := (zJ1 HB1).trans (hb2.mono (zJ1 HB1).size)
 have hm3 := MapB.nil ((w1.alloc (.cells #[.int .i64 xi, .int .u64 0, .int .u16 (xt : Nat), .int .u64 (xe : Nat), .int .u64 (xp : Nat), .slice As xs.length cs, .slice B1 xd.needed.length k1, .string xd.soname, .string xd.run, .slice B2 xd.syms.length k2, .slice B3 xd.relas.length k3] 56)).alloc (.cells #[.int .i64 xi, .int .u64 0, .int .u16 (xt : Nat), .int .u64 (xe : Nat), .int .u64 (xp : Nat), .slice As xs.length cs, .slice B1 xd.needed.length k1, .string xd.soname, .string xd.run, .slice B2 xd.syms.length k2, .slice B3 xd.relas.length k3] 56)) (.int .i64)
 have hb3 : Below w1.heap.size ((w1.alloc (.cells #[.int .i64 xi, .int .u64 0, .int .u16 (xt : Nat), .int .u64 (xe : Nat), .int .u64 (xp : Nat), .slice As xs.length cs, .slice B1 xd.needed.length k1, .string xd.soname, .string xd.run, .slice B2 xd.syms.length k2, .slice B3 xd.relas.length k3] 56)).alloc (.cells #[.int .i64 xi, .int .u64 0, .int .u16 (xt : Nat), .int .u64 (xe : Nat), .int .u64 (xp : Nat), .slice As xs.length cs, .slice B1 xd.needed.length k1, .string xd.soname, .string xd.run, .slice B2 xd.syms.length k2, .slice B3 xd.relas.length k3] 56)) (((w1.alloc (.cells #[.int .i64 xi, .int .u64 0, .int .u16 (xt : Nat), .int .u64 (xe : Nat), .int .u64 (xp : Nat), .slice As xs.length cs, .slice B1 xd.needed.length k1, .string xd.soname, .string xd.run, .slice B2 xd.syms.length k2, .slice B3 xd.relas.length k3] 56)).alloc (.cells #[.int .i64 xi, .int .u64 0, .int .u16 (xt : Nat), .int .u64 (xe : Nat), .int .u64 (xp : Nat), .slice As xs.length cs, .slice B1 xd.needed.length k1, .string xd.soname, .string xd.run, .slice B2 xd.syms.length k2, .slice B3 xd.relas.length k3] 56)).alloc (.map #[] 0)) := (Below.refl _ _).alloc (by rw [e2]; omega) _
 rw [e2] at hm3
 have HM3 := zJ2 hm3
 have H3 : Hid (Below w.heap.size w (((w1.alloc (.cells #[.int .i64 xi, .int .u64 0, .int .u16 (xt : Nat), .int .u64 (xe : Nat), .int .u64 (xp : Nat), .slice As xs.length cs, .slice B1 xd.needed.length k1, .string xd.soname, .string xd.run, .slice B2 xd.syms.length k2, .slice B3 xd.relas.length k3] 56)).alloc (.cells #[.int .i64 xi, .int .u64 0, .int .u16 (xt : Nat), .int .u64 (xe : Nat), .int .u64 (xp : Nat), .slice As xs.length cs, .slice B1 xd.needed.length k1, .string xd.soname, .string xd.run, .slice B2 xd.syms.length k2, .slice B3 xd.relas.length k3] 56)).alloc (.map #[] 0)) /\ (((w1.alloc (.cells #[.int .i64 xi, .int .u64 0, .int .u16 (xt : Nat), .int .u64 (xe : Nat), .int .u64 (xp : Nat), .slice As xs.length cs, .slice B1 xd.needed.length k1, .string xd.soname, .string xd.run, .slice B2 xd.syms.length k2, .slice B3 xd.relas.length k3] 56)).alloc (.cells #[.int .i64 xi, .int .u64 0, .int .u16 (xt : Nat), .int .u64 (xe : Nat), .int .u64 (xp : Nat), .slice As xs.length cs, .slice B1 xd.needed.length k1, .string xd.soname, .string xd.run, .slice B2 xd.syms.length k2, .slice B3 xd.relas.length k3] 56)).alloc (.map #[] 0)).ownsRow w.heap.size 56 11 (.slice (some ⟨w1.heap.size + 1, 0, none⟩) 1 1) 1 [.int .i64 xi, .int .u64 0, .int .u16 (xt : Nat), .int .u64 (xe : Nat), .int .u64 (xp : Nat), .slice As xs.length cs, .slice B1 xd.needed.length k1, .string xd.soname, .string xd.run, .slice B2 xd.syms.length k2, .slice B3 xd.relas.length k3] /\ ObM (((w1.alloc (.cells #[.int .i64 xi, .int .u64 0, .int .u16 (xt : Nat), .int .u64 (xe : Nat), .int .u64 (xp : Nat), .slice As xs.length cs, .slice B1 xd.needed.length k1, .string xd.soname, .string xd.run, .slice B2 xd.syms.length k2, .slice B3 xd.relas.length k3] 56)).alloc (.cells #[.int .i64 xi, .int .u64 0, .int .u16 (xt : Nat), .int .u64 (xe : Nat), .int .u64 (xp : Nat), .slice As xs.length cs, .slice B1 xd.needed.length k1, .string xd.soname, .string xd.run, .slice B2 xd.syms.length k2, .slice B3 xd.relas.length k3] 56)).alloc (.map #[] 0)) w.heap.size ⟨⟨xi, ⟨xt, xe, xp, xs⟩, xd⟩, As, cs, B1, k1, B2, k2, B3, k3⟩ /\ Blk (((w1.alloc (.cells #[.int .i64 xi, .int .u64 0, .int .u16 (xt : Nat), .int .u64 (xe : Nat), .int .u64 (xp : Nat), .slice As xs.length cs, .slice B1 xd.needed.length k1, .string xd.soname, .string xd.run, .slice B2 xd.syms.length k2, .slice B3 xd.relas.length k3] 56)).alloc (.cells #[.int .i64 xi, .int .u64 0, .int .u16 (xt : Nat), .int .u64 (xe : Nat), .int .u64 (xp : Nat), .slice As xs.length cs, .slice B1 xd.needed.length k1, .string xd.soname, .string xd.run, .slice B2 xd.syms.length k2, .slice B3 xd.relas.length k3] 56)).alloc (.map #[] 0)) w1.heap.size 56 [.int .i64 xi, .int .u64 0, .int .u16 (xt : Nat), .int .u64 (xe : Nat), .int .u64 (xp : Nat), .slice As xs.length cs, .slice B1 xd.needed.length k1, .string xd.soname, .string xd.run, .slice B2 xd.syms.length k2, .slice B3 xd.relas.length k3] /\ Blk (((w1.alloc (.cells #[.int .i64 xi, .int .u64 0, .int .u16 (xt : Nat), .int .u64 (xe : Nat), .int .u64 (xp : Nat), .slice As xs.length cs, .slice B1 xd.needed.length k1, .string xd.soname, .string xd.run, .slice B2 xd.syms.length k2, .slice B3 xd.relas.length k3] 56)).alloc (.cells #[.int .i64 xi, .int .u64 0, .int .u16 (xt : Nat), .int .u64 (xe : Nat), .int .u64 (xp : Nat), .slice As xs.length cs, .slice B1 xd.needed.length k1, .string xd.soname, .string xd.run, .slice B2 xd.syms.length k2, .slice B3 xd.relas.length k3] 56)).alloc (.map #[] 0)) w.heap.size 26 [.int .u32 (cr.uid : Nat), .int .u32 (cr.euid : Nat), .int .u32 (cr.suid : Nat), .int .u32 (cr.gid : Nat), .slice Ag ng kg] /\ (((w1.alloc (.cells #[.int .i64 xi, .int .u64 0, .int .u16 (xt : Nat), .int .u64 (xe : Nat), .int .u64 (xp : Nat), .slice As xs.length cs, .slice B1 xd.needed.length k1, .string xd.soname, .string xd.run, .slice B2 xd.syms.length k2, .slice B3 xd.relas.length k3] 56)).alloc (.cells #[.int .i64 xi, .int .u64 0, .int .u16 (xt : Nat), .int .u64 (xe : Nat), .int .u64 (xp : Nat), .slice As xs.length cs, .slice B1 xd.needed.length k1, .string xd.soname, .string xd.run, .slice B2 xd.syms.length k2, .slice B3 xd.relas.length k3] 56)).alloc (.map #[] 0)).heap.size = w1.heap.size + 3) := zJ2 ⟨hB2.trans (hb3.mono (by omega)), ha2.alloc _, ⟨(hM2.segs).alloc _, ⟨hM2.dyn.needed.alloc _, hM2.dyn.syms.alloc _, hM2.dyn.relas.alloc _⟩⟩, hX2.alloc _, hK2.alloc _, by simp⟩
 clear hX0 e1 e2 hb2 ha2 hX2 hM2 hK2 hB2 hm3 hb3 HM HK1 HB1
 generalize hW3 : (((w1.alloc (.cells #[.int .i64 xi, .int .u64 0, .int .u16 (xt : Nat), .int .u64 (xe : Nat), .int .u64 (xp : Nat), .slice As xs.length cs, .slice B1 xd.needed.length k1, .string xd.soname, .string xd.run, .slice B2 xd.syms.length k2, .slice B3 xd.relas.length k3] 56)).alloc (.cells #[.int .i64 xi, .int .u64 0, .int .u16 (xt : Nat), .int .u64 (xe : Nat), .int .u64 (xp : Nat), .slice As xs.length cs, .slice B1 xd.needed.length k1, .string xd.soname, .string xd.run, .slice B2 xd.syms.length k2, .slice B3 xd.relas.length k3] 56)).alloc (.map #[] 0)) = W3 at HM3 H3
 have HW3 := zJ2 hW3
 clear hW3
 have HST : Hid (∀ w4 : World, MapB w4 (w1.heap.size + 1 + 1) (.int .i64) ([] ++ [(.int .i64 xi, .agg #[])]) -> W3.grownBy w4 (some (w1.heap.size + 1 + 1)) -> w4.heap.size = W3.heap.size ->
   (w4.alloc (.cells #[.slice none 0 0] 96)).cell? ⟨w1.heap.size, 6, none⟩ = some (.slice B1 xd.needed.length k1) /\ (w4.alloc (.cells #[.slice none 0 0] 96)).cell? ⟨w1.heap.size, 7, none⟩ = some (.string xd.soname) /\ (w4.alloc (.cells #[.slice none 0 0] 96)).cell? ⟨w1.heap.size, 8, none⟩ = some (.string xd.run) /\ (w4.alloc (.cells #[.slice none 0 0] 96)).cell? ⟨w1.heap.size, 9, none⟩ = some (.slice B2 xd.syms.length k2) /\ (w4.alloc (.cells #[.slice none 0 0] 96)).cell? ⟨w1.heap.size, 10, none⟩ = some (.slice B3 xd.relas.length k3) /\
   Hid (CloS w (w4.alloc (.cells #[.slice none 0 0] 96)) (w1.heap.size + 1 + 1) w4.heap.size [⟨⟨xi, ⟨xt, xe, xp, xs⟩, xd⟩, As, cs, B1, k1, B2, k2, B3, k3⟩] (some ⟨w1.heap.size + 1, 0, none⟩) 1 1 none 0 0) /\ Hid (Blk (w4.alloc (.cells #[.slice none 0 0] 96)) w1.heap.size 56 [.int .i64 xi, .int .u64 0, .int .u16 (xt : Nat), .int .u64 (xe : Nat), .int .u64 (xp : Nat), .slice As xs.length cs, .slice B1 xd.needed.length k1, .string xd.soname, .string xd.run, .slice B2 xd.syms.length k2, .slice B3 xd.relas.length k3]) /\ Hid (Blk (w4.alloc (.cells #[.slice none 0 0] 96)) w.heap.size 26 [.int .u32 (cr.uid : Nat), .int .u32 (cr.euid : Nat), .int .u32 (cr.suid : Nat), .int .u32 (cr.gid : Nat), .slice Ag ng kg])) := zJ2 (by
  intro w4 hm4 hg4 hs4
  obtain ⟨hB3, ha3, hM3, hX3, hK3, hz3⟩ := zJ1 H3
  have hmne : ∀ k, k ≠ w1.heap.size + 1 + 1 -> k < W3.heap.size -> w4.heap[k]? = W3.heap[k]? := fun k hk hl => hg4.block k hl (fun e => hk (by injection e))
  have hb4 : Below w4.heap.size w4 (w4.alloc (.cells #[.slice none 0 0] 96)) := (Below.refl _ _).alloc (Nat.le_refl _) _
  have hX5 : Blk (w4.alloc (.cells #[.slice none 0 0] 96)) w1.heap.size 56 [.int .i64 xi, .int .u64 0, .int .u16 (xt : Nat), .int .u64 (xe : Nat), .int .u64 (xp : Nat), .slice As xs.length cs, .slice B1 xd.needed.length k1, .string xd.soname, .string xd.run, .slice B2 xd.syms.length k2, .slice B3 xd.relas.length k3] := Blk.belowSz (show Blk w4 w1.heap.size 56 [.int .i64 xi, .int .u64 0, .int .u16 (xt : Nat), .int .u64 (xe : Nat), .int .u64 (xp : Nat), .slice As xs.length cs, .slice B1 xd.needed.length k1, .string xd.soname, .string xd.run, .slice B2 xd.syms.length k2, .slice B3 xd.relas.length k3] from (hmne _ (by omega) (by omega)).trans hX3) hb4
  have hK5 : Blk (w4.alloc (.cells #[.slice none 0 0] 96)) w.heap.size 26 [.int .u32 (cr.uid : Nat), .int .u32 (cr.euid : Nat), .int .u32 (cr.suid : Nat), .int .u32 (cr.gid : Nat), .slice Ag ng kg] := Blk.belowSz (show Blk w4 w.heap.size 26 [.int .u32 (cr.uid : Nat), .int .u32 (cr.euid : Nat), .int .u32 (cr.suid : Nat), .int .u32 (cr.gid : Nat), .slice Ag ng kg] from (hmne _ (by omega) (by omega)).trans hK3) hb4
  refine ⟨hX5.cell (i := 6) rfl, hX5.cell (i := 7) rfl, hX5.cell (i := 8) rfl, hX5.cell (i := 9) rfl, hX5.cell (i := 10) rfl, zJ2 ⟨?_, ?_, ?_, ?_, ?_, ?_, rfl, by omega, by omega⟩, zJ2 hX5, zJ2 hK5⟩
  ·exact (hB3.grown hg4 (by omega) (fun k hk => by injection hk with hk; omega)).alloc (by omega) _
  ·exact (zJu ha3 (fun k hk => hmne k (wJ2 ha3 (zJ1 HM3) k hk) (ha3.lt k hk).2)).alloc _
  ·intro y hy
   rw [List.mem_singleton] at hy
   subst hy
   exact (hM3.keep (fun e9 z9 A9 n9 c9 xs9 he ho k hk => hmne k (wJ2 ho (zJ1 HM3) k hk) (ho.lt k hk).2)).belowSz hb4
  ·exact hm4.belowSz hb4
  ·exact Blk.new w4 96 [.slice none 0 0]
  ·exact QRow.nil _ _ _ _ _)
 go_wp2_with ((with_reducible refine (@id (wpList _ _ _ (Oper.mk none (Op.insert 92 _ _ _) _ _ _ none :: _) _ _) ?_)); rw [zJ1 HW3]; refine wJu (x := .int .i64 xi) (v := .agg #[]) (g := w1.heap.size + 1 + 1) rfl _ _ _ rfl Tryz.underlying92 Tryz.underlying3 (by simp [Go.MapKept.IsKey]) rfl rfl rfl (zJ1 HM3) (by simp) ?_; intro w4 hm4 hg4 hs4; obtain ⟨x6, x7, x8, x9, x10, HS5, HX5, HK5⟩ := (zJ1 HST) w4 hm4 hg4 hs4; clear hm4 hg4 hs4)
 have hS5 := zJ1 HS5
 refine (qput_any w.heap.size w4.heap.size none 0 0 [] B1 B2 B3 xd.needed.length k1 xd.syms.length k2 xd.relas.length k3 xd.soname xd.run _ hS5.gqB hS5.bel.size hS5.que (QRow.nil _ _ _ _ _) (by omega)).mono ?_
 rintro e w6 ⟨rfl, A6, c6, hk6, hq6, hg6, hqk6⟩
 have hS6 : CloS w w6 (w1.heap.size + 1 + 1) w4.heap.size [⟨⟨xi, ⟨xt, xe, xp, xs⟩, xd⟩, As, cs, B1, k1, B2, k2, B3, k3⟩] (some ⟨w1.heap.size + 1, 0, none⟩) 1 0 A6 1 c6 := hS5.grow hg6 (.inr rfl) hk6 hq6 rfl
 have hK6 := hS5.growBlk hg6 (.inr rfl) (zJ1 HK5) (by decide) (.inl (by decide))
 have HS6 := zJ2 hS6
 have HK6 := zJ2 hK6
 clear hS5 HS5 HX5 HK5 hk6 hq6 hg6 hqk6 hS6 hK6 HST H3 HM3 HW3 hmm x6 x7 x8 x9 x10
 go_wp2_with fail
 have hS6 := zJ1 HS6
 refine (uJ3 w.heap.size w4.heap.size A6 0 c6 [] B1 B2 B3 xd.needed.length k1 xd.syms.length k2 xd.relas.length k3 xd.soname xd.run _ hS6.gqB hS6.bel.size hS6.que hS6.row (by omega)).mono ?_
 rintro e w7 ⟨rfl, A7, hk7, hq7, hg7, hqk7⟩
 have hS7 : CloS w w7 (w1.heap.size + 1 + 1) w4.heap.size [⟨⟨xi, ⟨xt, xe, xp, xs⟩, xd⟩, As, cs, B1, k1, B2, k2, B3, k3⟩] (some ⟨w1.heap.size + 1, 0, none⟩) 1 1 A7 0 (c6 - 1) := hS6.grow hg7 (.inl rfl) hk7 hq7 rfl
 have hK7 := hS6.growBlk hg7 (.inl rfl) (zJ1 HK6) (by decide) (.inl (by decide))
 have hb8 : Below w7.heap.size w7 (w7.alloc (.cells #[.slice B1 xd.needed.length k1, .string xd.soname, .string xd.run, .slice B2 xd.syms.length k2, .slice B3 xd.relas.length k3] 54)) := (Below.refl _ _).alloc (Nat.le_refl _) _
 have hD8 : CloD w (w7.alloc (.cells #[.slice B1 xd.needed.length k1, .string xd.soname, .string xd.run, .slice B2 xd.syms.length k2, .slice B3 xd.relas.length k3] 54)) (w1.heap.size + 1 + 1) w4.heap.size [⟨⟨xi, ⟨xt, xe, xp, xs⟩, xd⟩, As, cs, B1, k1, B2, k2, B3, k3⟩] (some ⟨w1.heap.size + 1, 0, none⟩) 1 0 A7 0 (c6 - 1) [.int .u32 (cr.uid : Nat), .int .u32 (cr.euid : Nat), .int .u32 (cr.suid : Nat), .int .u32 (cr.gid : Nat), .slice Ag ng kg] w7.heap.size ⟨⟨xi, ⟨xt, xe, xp, xs⟩, xd⟩, As, cs, B1, k1, B2, k2, B3, k3⟩ :=
  ⟨hS7.keep hb8, hK7.belowSz hb8, Blk.new w7 54 [.slice B1 xd.needed.length k1, .string xd.soname, .string xd.run, .slice B2 xd.syms.length k2, .slice B3 xd.relas.length k3], fun e => by have := (hS7.row.ge e).2; omega, hS7.bel.size, rfl, fun y hy => by rw [List.mem_singleton] at hy; subst hy; exact zJ1 Hosz, by simp⟩
 have HD8 := zJ2 hD8
 clear hS6 HS6 HK6 hk7 hq7 hg7 hqk7 hS7 hK7 hb8 hD8 Hosz
 obtain ⟨gm, hgm⟩ : ∃ g, w1.heap.size + 1 + 1 = g := ⟨_, rfl⟩
 obtain ⟨gq, hgq⟩ : ∃ g, w4.heap.size = g := ⟨_, rfl⟩
 rw [hgm, hgq] at HD8
 rw [hgm]
 rw [hgq]
 clear hgm hgq
 go_wp2_with fail
 go_loopg [14, 17, 18] 9 (fun gk av dv okv wr => ∃ (i : Nat) (T : List ObA) (Aa : Option Addr) (ca : Nat) (Aq : Option Addr) (m cq bd : Nat) (ok : Bool), gk = 9 - i /\ okv = .bool ok /\ av = .slice Aa T.length ca /\ dv = .pointer (some ⟨bd, 0, none⟩) /\
  (ok = true -> ∃ x, CloD w wr gm gq T Aa ca i Aq m cq [.int .u32 (cr.uid : Nat), .int .u32 (cr.euid : Nat), .int .u32 (cr.suid : Nat), .int .u32 (cr.gid : Nat), .slice Ag ng kg] bd x /\ R = Clo.rest F ⟨cr, lib, sec⟩ (9 - i) i (T.map (·.o)) /\ i <= 7) /\
  (ok = false -> Below w.heap.size w wr /\ wr.ownsRow w.heap.size 56 11 (.slice Aa T.length ca) T.length (obC T) /\ (∀ y ∈ T, ObM wr w.heap.size y) /\ R = (T.map (·.o), 0)))
 case atStart => exact ⟨0, _, _, _, _, _, _, _, true, rfl, rfl, rfl, rfl, fun _ => ⟨_, zJ1 HD8, zJ1 Hr, by omega⟩, fun h => by cases h⟩
 case round =>
 obtain ⟨i, T, Aa, ca, Aq, m, cq, bd, ok, hgk, rfl, rfl, rfl, hyes, hno⟩ := hrel
 have Hgk := zJ2 hgk
 have Hyes := zJ2 hyes
 have Hno := zJ2 hno
 clear hgk hyes hno HD8 Hr
 cases ok
 case false =>
  obtain ⟨hbE, haE, hmE, hRE⟩ := (zJ1 Hno) rfl
  have HE := zJ2 (And.intro hbE (And.intro haE (And.intro hmE hRE)))
  clear hbE haE hmE hRE Hyes Hno
  go_wp2_with fail
  go_ret2
  obtain ⟨hbE, haE, hmE, hRE⟩ := zJ1 HE
  exact ⟨hbE, T, Aa, ca, by rw [hRE], by rw [hRE]; rfl, haE, hmE⟩
 case true =>
 obtain ⟨⟨⟨yi, ⟨yt, ye, yp, ys⟩, yd⟩, Ys, ycs, Y1, v1, Y2, v2, Y3, v3⟩, hD, hRR, hi7⟩ := (zJ1 Hyes) rfl
 have hato : (T.map (·.o))[i]? = some ⟨yi, ⟨yt, ye, yp, ys⟩, yd⟩ := by rw [List.getElem?_map, hD.at_]; rfl
 rw [Clo.rest_cont hato (by omega)] at hRR
 dsimp only at hRR
 have hszy := hD.sz _ (List.mem_of_getElem? hD.at_)
 dsimp only at hszy
 obtain ⟨hsz1, hsz2, hsz3⟩ := hszy
 have Hsz1 := zJ2 hsz1
 have d0 := hD.d.cell (i := 0) rfl
 have HD := zJ2 hD
 have HR := zJ2 hRR
 clear hD hRR hato hsz1 Hyes Hno
 dsimp only at d0
 go_wp2_with fail
 go_loopg [14, 64] yd.needed.length (fun gk2 av2 kv2 wr2 => ∃ (k : Nat) (T2 : List ObA) (Aa2 : Option Addr) (ca2 : Nat) (Aq2 : Option Addr) (m2 cq2 : Nat), gk2 = yd.needed.length - k /\ k <= yd.needed.length /\ kv2 = .int .i64 k /\ av2 = .slice Aa2 T2.length ca2 /\ CloD w wr2 gm gq T2 Aa2 ca2 i Aq2 m2 cq2 [.int .u32 (cr.uid : Nat), .int .u32 (cr.euid : Nat), .int .u32 (cr.suid : Nat), .int .u32 (cr.gid : Nat), .slice Ag ng kg] bd ⟨⟨yi, ⟨yt, ye, yp, ys⟩, yd⟩, Ys, ycs, Y1, v1, Y2, v2, Y3, v3⟩ /\ R = Clo.cont F ⟨cr, lib, sec⟩ i yd.run (yd.needed.drop k) (T2.map (·.o)))
 case atStart => exact ⟨0, T, Aa, ca, Aq, m, cq, by omega, Nat.zero_le _, rfl, rfl, zJ1 HD, by rw [List.drop_zero]; exact zJ1 HR⟩
 case round =>
 obtain ⟨k, T2, Aa2, ca2, Aq2, m2, cq2, hgk2, hk, rfl, rfl, hD2, hR2⟩ := hrel
 have Hgk2 := zJ2 hgk2
 clear hgk2 HD HR d0
 rcases Nat.lt_or_ge k yd.needed.length with hlt | hge
 ·have ilt : (k : Int) < (yd.needed.length : Int) := by omega
  obtain ⟨nm, hnm⟩ : ∃ nm, yd.needed[k]? = some nm := ⟨_, List.getElem?_eq_getElem hlt⟩
  have hsn := (zJ1 Hsz1) nm (List.mem_of_getElem? hnm)
  have hob := hD2.s.obs _ (List.mem_of_getElem? hD2.at_)
  obtain ⟨b1, o1, hY1, hb1, hcell⟩ := (Rd.of_own hob.dyn.needed).at_ (k := k) (u := .string nm) (by rw [List.getElem?_map, show yd.needed[k]? = some nm from hnm]; rfl)
  dsimp only at hY1
  subst hY1
  have hdr : yd.needed.drop k = nm :: yd.needed.drop (k + 1) := by rw [List.drop_eq_getElem_cons hlt, (List.getElem?_eq_some_iff.1 hnm).2]
  rw [hdr] at hR2
  have hps := Clo.paths_sz (sec := sec) hsn hsz2 hlib
  obtain ⟨⟨fn, fp, fe⟩, hlk⟩ : ∃ r, Clo.look F ⟨cr, lib, sec⟩ yd.run nm = r := ⟨_, rfl⟩
  have KP2 := (zJ1 KP) nm yd.run hsn hsz2
  unfold TxE at KP2
  have KF2 := fun (Al : Option Addr) (cl : Nat) (W : World) (hW : Below w.heap.size w W) (hl : Rd W W.heap.size 1 Al (Se.paths nm yd.run lib sec).length ((Se.paths nm yd.run lib sec).map Value.string)) => (zJ1 KF) Al _ cl (Se.paths nm yd.run lib sec) W hW hl hps.1 hps.2
  rw [show Se.find F cr 0 (Se.paths nm yd.run lib sec) = (fn, fp, fe) from hlk] at KF2
  dsimp only at KF2
  unfold credV at KF2
  obtain ⟨PL, hPL⟩ : ∃ l, Se.paths nm yd.run lib sec = l := ⟨_, rfl⟩
  rw [hPL] at KP2 KF2
  have HKP := zJ2 KP2
  have HKF := zJ2 KF2
  have Hlk := zJ2 hlk
  have HR2 := zJ2 hR2
  have HD2 := zJ2 hD2
  have HSK : Hid (∀ w', Below wr.heap.size wr w' -> (Below wr.heap.size wr w' /\ w'.cell? ⟨w.heap.size, 0, none⟩ = some (.int .u32 (cr.uid : Nat)) /\ w'.cell? ⟨w.heap.size, 1, none⟩ = some (.int .u32 (cr.euid : Nat)) /\ w'.cell? ⟨w.heap.size, 2, none⟩ = some (.int .u32 (cr.suid : Nat)) /\ w'.cell? ⟨w.heap.size, 3, none⟩ = some (.int .u32 (cr.gid : Nat)) /\ w'.cell? ⟨w.heap.size, 4, none⟩ = some (.slice Ag ng kg) /\ w'.cell? ⟨bd, 2, none⟩ = some (.string yd.run))) := zJ2 (fun w' hb => by
   have h9 := hD2.keep hb
   exact ⟨hb, h9.cr.cell (i := 0) rfl, h9.cr.cell (i := 1) rfl, h9.cr.cell (i := 2) rfl, h9.cr.cell (i := 3) rfl, h9.cr.cell (i := 4) rfl, h9.d.cell (i := 2) rfl⟩)
  obtain ⟨-, r0, r1, r2, r3, r4, r5⟩ := (zJ1 HSK) wr (Below.refl _ _)
  clear hps hlk KP2 KF2 hPL hR2 hD2 hob hdr hnm hb1
  go_wp2_with fail
  go_region_held3 (fun w' => Below wr.heap.size wr w' /\ w'.cell? ⟨w.heap.size, 0, none⟩ = some (.int .u32 (cr.uid : Nat)) /\ w'.cell? ⟨w.heap.size, 1, none⟩ = some (.int .u32 (cr.euid : Nat)) /\ w'.cell? ⟨w.heap.size, 2, none⟩ = some (.int .u32 (cr.suid : Nat)) /\ w'.cell? ⟨w.heap.size, 3, none⟩ = some (.int .u32 (cr.gid : Nat)) /\ w'.cell? ⟨w.heap.size, 4, none⟩ = some (.slice Ag ng kg) /\ w'.cell? ⟨bd, 2, none⟩ = some (.string yd.run)) (first | exact (zJ1 HSK) _ (zJ3 (Below.refl _ _)) | exact (zJ1 HSK) _ (zJ1 hbn)) (first
   | (go_at_call 17; rename Below _ _ _ /\ _ => hH; refine ((zJ1 HKP) _).mono ?_; rintro e w8 ⟨A8, c8, rfl, ho8, hb8⟩; have hbn := zJ2 (hH.1.trans (hb8.mono hH.1.size)); have Ho8 := zJ2 ho8; clear hb8 ho8)
   | (go_at_call 16; rename Below _ _ _ /\ _ => hH; refine ((zJ1 HKF) _ _ _ ((zJ1 HD2).s.bel.trans (hH.1.mono (zJ1 HD2).s.bel.size)) (Rd.of_own (zJ1 Ho8))).mono ?_; rintro e w9 ⟨rfl, hb9⟩; have hbn := zJ2 (hH.1.trans (hb9.mono hH.1.size)); clear hb9))
  have hD3 := (zJ1 HD2).keep (zJ1 hbn)
  have HD3 := zJ2 hD3
  clear r0 r1 r2 r3 r4 r5 HSK HD2 HKP HKF Ho8
  by_cases hfe : fe = 0
  case neg =>
   have hr := zJ1 HR2
   rw [Clo.cont_bad (by rw [Clo.need1 (zJ1 Hlk) hfe]; exact hfe), Clo.need1 (zJ1 Hlk) hfe] at hr
   have Hr := zJ2 hr
   have q1 : (fe != 0) = true := bne_iff_ne.2 hfe
   have HB := zJ2 hD3.s.bel
   clear hr hfe HR2 hD3 HD3
   go_wp2_with fail
   go_ret2
   exact xJ6 (zJ1 Hr) (zJ1 HB)
  case pos =>
  subst hfe
  have hth := there_key (T := T2) (n := fn)
  by_cases hthv : Clo.there (T2.map (·.o)) fn = true
  case pos =>
   have hl := (yJa Tryz.underlying92 Tryz.underlying3 (by simp [Go.MapKept.IsKey]) hD3.s.map (hth.1 hthv)).1
   have hr := zJ1 HR2
   rw [Clo.cont_good (by rw [Clo.need2 (zJ1 Hlk) hthv]), Clo.need2 (zJ1 Hlk) hthv] at hr
   have Hr := zJ2 hr
   clear hr HR2 hth hthv hD3
   go_wp2_with fail
   go_roundg (yd.needed.length - (k + 1))
   case measure => have := zJ1 Hgk2; omega
   case rel => exact ⟨k + 1, T2, Aa2, ca2, Aq2, m2, cq2, rfl, by omega, by go_num, rfl, (zJ1 HD3).keep ((Below.refl _ _).alloc (Nat.le_refl _) _), zJ1 Hr⟩
  case neg =>
  have hthf : Clo.there (T2.map (·.o)) fn = false := by simpa using hthv
  have hl := (yJl Tryz.underlying92 Tryz.underlying3 (by simp [Go.MapKept.IsKey]) (zero_st _) hD3.s.map (hth.2 hthf)).1
  have hnk := hth.2 hthf
  have hle := hD3.le
  have hD4 := hD3.keep ((Below.refl w9.heap.size w9).alloc (Nat.le_refl _) (.cells #[] 91))
  have HD4 := zJ2 hD4
  have HBw := zJ2 hD4.s.bel
  have Hnk := zJ2 hnk
  by_cases h8 : T2.length = 8
  case pos =>
   have hr := zJ1 HR2
   rw [Clo.cont_bad (by rw [Clo.need3 (zJ1 Hlk) hthf (by rw [List.length_map]; exact h8)]; decide), Clo.need3 (zJ1 Hlk) hthf (by rw [List.length_map]; exact h8)] at hr
   have Hr := zJ2 hr
   have q8 : ((T2.length : Int) == 8) = true := by rw [beq_iff_eq]; omega
   clear hr HR2 hth hthv hthf hD3 hD4 HD3 HD4 h8 hle hnk Hnk
   go_wp2_with fail
   go_ret2
   exact xJ6 (zJ1 Hr) (zJ1 HBw)
  case neg =>
  have q8 : ((T2.length : Int) == 8) = false := by rw [beq_eq_false_iff_ne]; omega
  have hobs := Clo.object_sz F (fn : Nat)
  have hoi := Clo.object_ino (F := F) (i := (fn : Nat))
  have KO9 := (zJ1 KO) (fn : Nat) _ hD4.s.bel
  unfold ObjE at KO9
  have hr := zJ1 HR2
  have hn4 := fun h3 => Clo.need4 (l := T2.map (·.o)) (zJ1 Hlk) hthf (by rw [List.length_map]; exact h8) h3
  have hn5 := fun h3 => Clo.need5 (l := T2.map (·.o)) (zJ1 Hlk) hthf (by rw [List.length_map]; exact h8) h3
  obtain ⟨⟨ob, er⟩, hob⟩ : ∃ r, Clo.object F (fn : Nat) = r := ⟨_, rfl⟩
  rw [hob] at KO9 hobs hoi hn4 hn5
  dsimp only at KO9 hobs hoi hn4 hn5
  have HKO := zJ2 KO9
  have Hobs := zJ2 hobs
  have Hoi := zJ2 hoi
  have Hn4 := zJ2 hn4
  have Hn5 := zJ2 hn5
  clear hr hth hthv hthf hD3 hD4 HD3 hnk KO9 hobs hoi hn4 hn5 hob
  go_wp2_with fail
  refine (zJ1 HKO).mono ?_
  rintro e w11 ⟨hb11, z, hz, rfl, hMz⟩
  obtain ⟨⟨zi, ⟨zt, ze, zp, zs⟩, zd⟩, Zs, zcs, Z1, j1, Z2, j2, Z3, j3⟩ := z
  subst hz
  have hl2 : (ObA.l ⟨⟨zi, ⟨zt, ze, zp, zs⟩, zd⟩, Zs, zcs, Z1, j1, Z2, j2, Z3, j3⟩).toArray = #[.int .i64 zi, .int .u64 0, .int .u16 (zt : Nat), .int .u64 (ze : Nat), .int .u64 (zp : Nat), .slice Zs zs.length zcs, .slice Z1 zd.needed.length j1, .string zd.soname, .string zd.run, .slice Z2 zd.syms.length j2, .slice Z3 zd.relas.length j3] := rfl
  rw [hl2]
  have hD11 := (zJ1 HD4).keep hb11
  have hb12 : Below w11.heap.size w11 (w11.alloc (.cells #[.int .i64 zi, .int .u64 0, .int .u16 (zt : Nat), .int .u64 (ze : Nat), .int .u64 (zp : Nat), .slice Zs zs.length zcs, .slice Z1 zd.needed.length j1, .string zd.soname, .string zd.run, .slice Z2 zd.syms.length j2, .slice Z3 zd.relas.length j3] 56)) := (Below.refl _ _).alloc (Nat.le_refl _) _
  have hD12 := hD11.keep hb12
  have hM12 := (hMz.base (B2 := w.heap.size) (zJ1 HBw).size).belowSz hb12
  have hX12 : Blk (w11.alloc (.cells #[.int .i64 zi, .int .u64 0, .int .u16 (zt : Nat), .int .u64 (ze : Nat), .int .u64 (zp : Nat), .slice Zs zs.length zcs, .slice Z1 zd.needed.length j1, .string zd.soname, .string zd.run, .slice Z2 zd.syms.length j2, .slice Z3 zd.relas.length j3] 56)) w11.heap.size 56 [.int .i64 zi, .int .u64 0, .int .u16 (zt : Nat), .int .u64 (ze : Nat), .int .u64 (zp : Nat), .slice Zs zs.length zcs, .slice Z1 zd.needed.length j1, .string zd.soname, .string zd.run, .slice Z2 zd.syms.length j2, .slice Z3 zd.relas.length j3] := Blk.new w11 56 [.int .i64 zi, .int .u64 0, .int .u16 (zt : Nat), .int .u64 (ze : Nat), .int .u64 (zp : Nat), .slice Zs zs.length zcs, .slice Z1 zd.needed.length j1, .string zd.soname, .string zd.run, .slice Z2 zd.syms.length j2, .slice Z3 zd.relas.length j3]
  have z2 := hX12.cell (i := 2) rfl
  have hal := (hD11.s.all)
  have HAL : Hid (∀ k, (Value.slice Aa2 T2.length ca2).ownBlock = some k -> k ≠ w11.heap.size) := zJ2 (fun k hk => by have := (hal.lt k hk).2; omega)
  have HD12 := zJ2 hD12
  have HM12 := zJ2 hM12
  have HX12 := zJ2 hX12
  have HB12 := zJ2 hD12.s.bel
  clear hD11 hb12 hD12 hM12 hX12 hal hMz hb11 hl2 HD4 HKO HBw hl
  by_cases he : er ≠ 0 \/ zt ≠ 3
  case pos =>
   have hr := zJ1 HR2
   have hn := (zJ1 Hn4) he
   rw [Clo.cont_bad (by rw [hn]; decide), hn] at hr
   have Hr := zJ2 hr
   clear hr hn HR2 Hn4 Hn5 Hoi Hobs HD12 HM12 HX12 HAL
   by_cases he0 : er = 0
   ·have q3 : ((zt : Int) != 3) = true := by
     rw [bne_iff_ne]
     rcases he with h | h
     ·exact absurd he0 h
     ·omega
    subst he0
    clear he
    go_wp2_with fail
    go_ret2
    exact xJ6 (zJ1 Hr) (zJ1 HB12)
   ·have q3 : (er != 0) = true := bne_iff_ne.2 he0
    clear he he0
    go_wp2_with fail
    go_ret2
    exact xJ6 (zJ1 Hr) (zJ1 HB12)
  case neg =>
  have he0 : er = 0 := Decidable.byContradiction fun h => he (.inl h)
  have ht3 : zt = 3 := Decidable.byContradiction fun h => he (.inr h)
  have q3 : ((zt : Int) != 3) = false := by rw [bne_eq_false_iff_eq]; omega
  have hzi := (zJ1 Hoi) he0
  dsimp only at hzi
  have Hzi := zJ2 hzi
  clear hzi
  have hr := zJ1 HR2
  have hn := (zJ1 Hn5) he
  rw [Clo.cont_good (by rw [hn]), hn] at hr
  have Hr := zJ2 hr
  subst he0
  clear hr hn HR2 Hn4 Hn5 Hoi he ht3
  have HST2 : Hid (∀ w13 : World, MapB w13 gm (.int .i64) (kyC T2 ++ [(.int .i64 (fn : Nat), .agg #[])]) -> (w11.alloc (.cells #[.int .i64 zi, .int .u64 0, .int .u16 (zt : Nat), .int .u64 (ze : Nat), .int .u64 (zp : Nat), .slice Zs zs.length zcs, .slice Z1 zd.needed.length j1, .string zd.soname, .string zd.run, .slice Z2 zd.syms.length j2, .slice Z3 zd.relas.length j3] 56)).grownBy w13 (some gm) -> w13.heap.size = (w11.alloc (.cells #[.int .i64 zi, .int .u64 0, .int .u16 (zt : Nat), .int .u64 (ze : Nat), .int .u64 (zp : Nat), .slice Zs zs.length zcs, .slice Z1 zd.needed.length j1, .string zd.soname, .string zd.run, .slice Z2 zd.syms.length j2, .slice Z3 zd.relas.length j3] 56)).heap.size ->
    w13.heap[w11.heap.size]? = some (.cells #[.int .i64 zi, .int .u64 0, .int .u16 (zt : Nat), .int .u64 (ze : Nat), .int .u64 (zp : Nat), .slice Zs zs.length zcs, .slice Z1 zd.needed.length j1, .string zd.soname, .string zd.run, .slice Z2 zd.syms.length j2, .slice Z3 zd.relas.length j3] 56 (0, 0)) /\ w13.ownsRow w.heap.size 56 11 (.slice Aa2 T2.length ca2) T2.length (obC T2) /\ w.heap.size <= w13.heap.size) := zJ2 (by
   intro w13 hm13 hg13 hs13
   have hD := zJ1 HD12
   refine ⟨(hg13.block _ (zJ1 HX12).lt (fun e => ?_)).trans (zJ1 HX12), zJu hD.s.all (fun k hk => hg13.block k (hD.s.all.lt k hk).2 (fun e => wJ2 hD.s.all hD.s.map k hk (by injection e))), by have := hD.s.bel.size; omega⟩
   have e2 : w11.heap.size = gm := by injection e
   obtain ⟨⟨es, clk, h2, _⟩, _, _⟩ := hD.s.map
   have hb := zJ1 HX12
   unfold Blk at hb
   rw [<- e2, hb] at h2
   simp at h2)
  go_wp2_with (first
   | (at_mapUpdate; refine xJd (x := .int .i64 (fn : Nat)) (v := .agg #[]) (g := gm) rfl _ _ _ rfl Tryz.underlying92 Tryz.underlying3 (by simp [Go.MapKept.IsKey]) rfl rfl rfl (zJ1 HD12).s.map (zJ1 Hnk) ?_; intro w13 hm13 hg13 hs13; obtain ⟨hx13, ha13, hz13⟩ := (zJ1 HST2) w13 hm13 hg13 hs13; have Hx13 := zJ2 hx13; have Ha13 := zJ2 ha13; have Hm13 := zJ2 hm13; have Hg13 := zJ2 hg13; have Hs13 := zJ2 hs13; clear hx13 ha13 hm13 hg13 hs13 z2)
   | ((with_reducible refine (@id (wpList _ _ _ (Oper.mk _ (Op.load 56 (.tmp 26)) _ _ _ none :: _) _ _) ?_)); refine wpList_load_row rfl 56 (.tmp 26) rfl w11.heap.size rfl 56 #[.int .i64 zi, .int .u64 0, .int .u16 (zt : Nat), .int .u64 (ze : Nat), .int .u64 (zp : Nat), .slice Zs zs.length zcs, .slice Z1 zd.needed.length j1, .string zd.soname, .string zd.run, .slice Z2 zd.syms.length j2, .slice Z3 zd.relas.length j3] (0, 0) _ (zJ1 Hx13) Tryz.underlying56 rfl xJa ?_)
   | (at_builtin; refine zJh obTy rfl _ _ rfl w.heap.size (.slice Aa2 T2.length ca2) T2.length (obC T2) rfl (zJ1 Ha13) #[.int .i64 zi, .int .u64 0, .int .u16 (zt : Nat), .int .u64 (ze : Nat), .int .u64 (zp : Nat), .slice Zs zs.length zcs, .slice Z1 zd.needed.length j1, .string zd.soname, .string zd.run, .slice Z2 zd.syms.length j2, .slice Z3 zd.relas.length j3] _ rfl (by simp) rfl (by simp [Value.oneCell']) (by omega) hz13 ?_; intro A14 c14 w14 ho14 hg14 ha14; have Ho14 := zJ2 ho14; have Hg14 := zJ2 hg14; have hX14 : Blk w14 w11.heap.size 56 [.int .i64 zi, .int .u64 0, .int .u16 (zt : Nat), .int .u64 (ze : Nat), .int .u64 (zp : Nat), .slice Zs zs.length zcs, .slice Z1 zd.needed.length j1, .string zd.soname, .string zd.run, .slice Z2 zd.syms.length j2, .slice Z3 zd.relas.length j3] := (hg14.block _ (lt_of_block (zJ1 Hx13)) (fun e => (zJ1 HAL) _ e.symm rfl)).trans (zJ1 Hx13); have x6 := hX14.cell (i := 6) rfl; have x7 := hX14.cell (i := 7) rfl; have x8 := hX14.cell (i := 8) rfl; have x9 := hX14.cell (i := 9) rfl; have x10 := hX14.cell (i := 10) rfl; clear ho14 hg14 ha14 hX14))
  have hky : kyC (T2 ++ [⟨⟨zi, ⟨zt, ze, zp, zs⟩, zd⟩, Zs, zcs, Z1, j1, Z2, j2, Z3, j3⟩]) = kyC T2 ++ [(.int .i64 (fn : Nat), .agg #[])] := by
   unfold kyC
   rw [List.map_append]
   simp [zJ1 Hzi]
  have hP := (zJ1 HD12).s.put (x := ⟨⟨zi, ⟨zt, ze, zp, zs⟩, zd⟩, Zs, zcs, Z1, j1, Z2, j2, Z3, j3⟩) (w2 := w13) (W := w13) (A2 := A14) (c2 := c14) (zJ1 HM12) (by rw [hky]; exact zJ1 Hm13) (zJ1 Hg13) (zJ1 Hs13) (Below.refl _ _) (zJ1 Ho14) (zJ1 Hg14)
  have hcr14 := (zJ1 HD12).s.putBlk (zJ1 Hg13) (Below.refl w13.heap.size w13) (zJ1 Hg14) (zJ1 HD12).cr (by decide)
  have hd14 := (zJ1 HD12).s.putBlk (zJ1 Hg13) (Below.refl w13.heap.size w13) (zJ1 Hg14) (zJ1 HD12).d (by decide)
  have hmq := (zJ1 HD12).s.mq
  have HP := zJ2 hP
  have Hcr14 := zJ2 hcr14
  have Hd14 := zJ2 hd14
  clear hky hP hcr14 hd14 Hm13 Hg13 Hs13 Ho14 Hg14 HST2 Hx13 Ha13 HM12 HX12 HAL
  refine (qput_any w.heap.size gq Aq2 m2 cq2 (dyC (T2.drop (i + 1))) Z1 Z2 Z3 zd.needed.length j1 zd.syms.length j2 zd.relas.length j3 zd.soname zd.run w14 (zJ1 HP).gqB (zJ1 HP).bel.size (zJ1 HP).que (zJ1 HP).row (by omega)).mono ?_
  rintro e w15 ⟨rfl, A15, c15, hk15, hq15, hg15, hqk15⟩
  have hS15 : CloS w w15 gm gq (T2 ++ [⟨⟨zi, ⟨zt, ze, zp, zs⟩, zd⟩, Zs, zcs, Z1, j1, Z2, j2, Z3, j3⟩]) A14 c14 (i + 1) A15 (m2 + 1) c15 := (zJ1 HP).grow hg15 (.inr rfl) hk15 (by
   rw [List.drop_append_of_le_length (by omega)]
   unfold dyC at hq15 ⊢
   rw [List.flatMap_append]
   simpa [ObA.d] using hq15) (by rw [List.length_append]; simp only [List.length_cons, List.length_nil]; omega)
  have hD15 : CloD w w15 gm gq (T2 ++ [⟨⟨zi, ⟨zt, ze, zp, zs⟩, zd⟩, Zs, zcs, Z1, j1, Z2, j2, Z3, j3⟩]) A14 c14 i A15 (m2 + 1) c15 [.int .u32 (cr.uid : Nat), .int .u32 (cr.euid : Nat), .int .u32 (cr.suid : Nat), .int .u32 (cr.gid : Nat), .slice Ag ng kg] bd ⟨⟨yi, ⟨yt, ye, yp, ys⟩, yd⟩, Ys, ycs, some ⟨b1, o1, none⟩, v1, Y2, v2, Y3, v3⟩ := by
   refine ⟨hS15, (zJ1 HP).growBlk hg15 (.inr rfl) (zJ1 Hcr14) (by decide) (.inl (by decide)), (zJ1 HP).growBlk hg15 (.inr rfl) (zJ1 Hd14) (by decide) (.inr (zJ1 HD12).hq), fun e => ?_, (zJ1 HD12).bdB, ?_, ?_, by rw [List.length_append]; simp only [List.length_cons, List.length_nil]; omega⟩
   ·rcases hqk15 _ e with h | h
    ·exact (zJ1 HD12).hq h
    ·have := (zJ1 Hd14).lt; omega
   ·rw [List.getElem?_append_left (List.getElem?_eq_some_iff.1 (zJ1 HD12).at_).1]
    exact (zJ1 HD12).at_
   ·intro y hy
    rcases List.mem_append.1 hy with hy | hy
    ·exact (zJ1 HD12).sz y hy
    ·rw [List.mem_singleton] at hy
     subst hy
     exact zJ1 Hobs
  have HD15 := zJ2 hD15
  clear hk15 hq15 hg15 hqk15 hS15 hD15 HP Hcr14 Hd14 hmq x6 x7 x8 x9 x10
  go_wp2_with fail
  go_roundg (yd.needed.length - (k + 1))
  case measure => have := zJ1 Hgk2; omega
  case rel => exact ⟨k + 1, T2 ++ [⟨⟨zi, ⟨zt, ze, zp, zs⟩, zd⟩, Zs, zcs, Z1, j1, Z2, j2, Z3, j3⟩], A14, c14, A15, m2 + 1, c15, rfl, by omega, by go_num, by rw [List.length_append]; rfl, zJ1 HD15, by rw [List.map_append]; exact zJ1 Hr⟩
 ·obtain rfl : k = yd.needed.length := by omega
  have ige : ¬ ((yd.needed.length : Nat) : Int) < ((yd.needed.length : Nat) : Int) := by omega
  have hr := hR2
  rw [List.drop_length, Clo.cont_nil] at hr
  have d0 := hD2.d.cell (i := 0) rfl
  have d1 := hD2.d.cell (i := 1) rfl
  have d2 := hD2.d.cell (i := 2) rfl
  have d3 := hD2.d.cell (i := 3) rfl
  have d4 := hD2.d.cell (i := 4) rfl
  dsimp only at d0 d1 d2 d3 d4
  have hb16 : Below wr.heap.size wr (wr.alloc (.cells #[.slice Y1 yd.needed.length v1, .string yd.soname, .string yd.run, .slice Y2 yd.syms.length v2, .slice Y3 yd.relas.length v3] 54)) := (Below.refl _ _).alloc (Nat.le_refl _) _
  have hD16 := hD2.keep hb16
  have hbd2 : Blk (wr.alloc (.cells #[.slice Y1 yd.needed.length v1, .string yd.soname, .string yd.run, .slice Y2 yd.syms.length v2, .slice Y3 yd.relas.length v3] 54)) wr.heap.size 54 [.slice Y1 yd.needed.length v1, .string yd.soname, .string yd.run, .slice Y2 yd.syms.length v2, .slice Y3 yd.relas.length v3] := Blk.new wr 54 [.slice Y1 yd.needed.length v1, .string yd.soname, .string yd.run, .slice Y2 yd.syms.length v2, .slice Y3 yd.relas.length v3]
  have hnq : qblk Aq2 cq2 ≠ some wr.heap.size := fun e => by have := (hD2.s.row.ge e).2; omega
  have hws : w.heap.size <= wr.heap.size := hD2.s.bel.size
  have hmq := hD2.s.mq
  have hle := hD2.le
  have HD16 := zJ2 hD16
  have HBD2 := zJ2 hbd2
  have Hr := zJ2 hr
  have Hnq := zJ2 hnq
  have Hmq := zJ2 hmq
  have Hle := zJ2 hle
  clear hr hR2 hD2 hb16 hD16 hbd2 hnq hmq hle Hsz1 hge
  cases m2 with
  | zero =>
   go_wp2_with fail
   refine (qtake_none w.heap.size gq Aq2 cq2 _ (zJ1 HD16).s.que).mono ?_
   rintro e w17 ⟨v, rfl, rfl, hb17⟩
   have hS17 := (zJ1 HD16).s.keep hb17
   have hbd17 := (zJ1 HBD2).belowSz hb17
   have hS18 := hS17.setD (cs := #[.slice none 0 0, .string ⟨#[]⟩, .string ⟨#[]⟩, .slice none 0 0, .slice none 0 0]) hbd17 (zJ1 Hnq) hws
   have HBD17 := zJ2 hbd17
   have HS18 := zJ2 hS18
   clear hb17 hS17 hbd17 hS18 d0 d1 d2 d3 d4
   go_wp2_with ((with_reducible refine (@id (wpList _ _ _ (Oper.mk none (Op.store 54 (.tmp 17) (.tmp 59)) _ _ _ none :: _) _ _) ?_)); refine wpList_store_row rfl 54 (.tmp 17) (.tmp 59) rfl wr.heap.size #[.slice none 0 0, .string ⟨#[]⟩, .string ⟨#[]⟩, .slice none 0 0, .slice none 0 0] rfl rfl 54 _ (zJ1 HBD17) zJg rfl (yJi _ _ _ _ _ _ _ _ _ _ _) ?_)
   go_roundg (9 - (i + 1))
   case measure => have := zJ1 Hgk; omega
   case rel => exact ⟨i + 1, T2, Aa2, ca2, Aq2, 0, cq2, wr.heap.size, false, rfl, rfl, rfl, rfl, fun h => (by cases h), fun _ => ⟨(zJ1 HS18).bel, (zJ1 HS18).all, (zJ1 HS18).obs, by rw [zJ1 Hr, Clo.rest_none (by rw [List.length_map]; have := zJ1 Hmq; omega)]⟩⟩
  | succ m' =>
   have hil : i + 1 < T2.length := by have := zJ1 Hmq; omega
   obtain ⟨z, hz⟩ : ∃ z, T2[i + 1]? = some z := ⟨_, List.getElem?_eq_getElem hil⟩
   have hdz : dyC (T2.drop (i + 1)) = z.d ++ dyC (T2.drop (i + 1 + 1)) := by
    rw [List.drop_eq_getElem_cons hil, (List.getElem?_eq_some_iff.1 hz).2]
    rfl
   have hrow := (zJ1 HD16).s.row
   rw [hdz] at hrow
   obtain ⟨⟨zi, ⟨zt, ze, zp, zs⟩, zd⟩, Zs, zcs, Z1, j1, Z2, j2, Z3, j3⟩ := z
   have Hrow := zJ2 hrow
   have Hz := zJ2 hz
   clear hdz hrow hz
   go_wp2_with fail
   refine (uJ3 w.heap.size gq Aq2 m' cq2 (dyC (T2.drop (i + 1 + 1))) Z1 Z2 Z3 zd.needed.length j1 zd.syms.length j2 zd.relas.length j3 zd.soname zd.run _ (zJ1 HD16).s.gqB (zJ1 HD16).s.bel.size (zJ1 HD16).s.que (zJ1 Hrow) (by have := zJ1 Hmq; have := zJ1 Hle; omega)).mono ?_
   rintro e w17 ⟨rfl, A17, hk17, hq17, hg17, hqk17⟩
   have hS17 : CloS w w17 gm gq T2 Aa2 ca2 (i + 1 + 1) A17 m' (cq2 - 1) := (zJ1 HD16).s.grow hg17 (.inl rfl) hk17 hq17 (by have := zJ1 Hmq; omega)
   have hcr17 := (zJ1 HD16).s.growBlk hg17 (.inl rfl) (zJ1 HD16).cr (by decide) (.inl (by decide))
   have hbd17 := (zJ1 HD16).s.growBlk hg17 (.inl rfl) (zJ1 HBD2) (by decide) (.inr (zJ1 Hnq))
   have hnq17 : qblk A17 (cq2 - 1) ≠ some wr.heap.size := fun e => (zJ1 Hnq) (hqk17 _ e)
   have hD18 : CloD w (w17.setRow wr.heap.size #[.slice Z1 zd.needed.length j1, .string zd.soname, .string zd.run, .slice Z2 zd.syms.length j2, .slice Z3 zd.relas.length j3]) gm gq T2 Aa2 ca2 (i + 1) A17 m' (cq2 - 1) [.int .u32 (cr.uid : Nat), .int .u32 (cr.euid : Nat), .int .u32 (cr.suid : Nat), .int .u32 (cr.gid : Nat), .slice Ag ng kg] wr.heap.size ⟨⟨zi, ⟨zt, ze, zp, zs⟩, zd⟩, Zs, zcs, Z1, j1, Z2, j2, Z3, j3⟩ :=
    ⟨hS17.setD hbd17 hnq17 hws, (setRow_other _ _ _ _ (by
     intro e
     unfold Blk at hcr17 hbd17
     rw [e, hbd17] at hcr17
     simp at hcr17)).trans hcr17, setRow_heap _ _ _ _ _ _ hbd17, hnq17, hws, zJ1 Hz, (zJ1 HD16).sz, (zJ1 HD16).le⟩
   have HBD17 := zJ2 hbd17
   have HD18 := zJ2 hD18
   clear hS17 hcr17 hbd17 hnq17 hD18 hk17 hq17 hg17 hqk17 Hrow Hnq HBD2 HD16 d0 d1 d2 d3 d4
   go_wp2_with ((with_reducible refine (@id (wpList _ _ _ (Oper.mk none (Op.store 54 (.tmp 17) (.tmp 59)) _ _ _ none :: _) _ _) ?_)); refine wpList_store_row rfl 54 (.tmp 17) (.tmp 59) rfl wr.heap.size #[.slice Z1 zd.needed.length j1, .string zd.soname, .string zd.run, .slice Z2 zd.syms.length j2, .slice Z3 zd.relas.length j3] rfl rfl 54 _ (zJ1 HBD17) zJg rfl (yJi _ _ _ _ _ _ _ _ _ _ _) ?_)
   go_roundg (9 - (i + 1))
   case measure => have := zJ1 Hgk; omega
   case rel => exact ⟨i + 1, T2, Aa2, ca2, A17, m', cq2 - 1, wr.heap.size, true, rfl, rfl, rfl, rfl, fun _ => ⟨_, zJ1 HD18, by rw [zJ1 Hr, show 9 - (i + 1) = 8 - i from by omega], by have := zJ1 Hle; omega⟩, fun h => (by cases h)⟩
open Go.RowKit
def PlE (b : List UInt8) (w : World) (e : Ending) (w' : World) : Prop :=
 ∃ A' m c', e = .returned (.slice A' m c') /\ w'.ownsRow w.heap.size 5 1 (.slice A' m c') m (bys b) /\ Below w.heap.size w w'
theorem vJ7 (l : List ByteArray) (b : List UInt8) (A : Option Addr) (n c : Nat) (w : World) (hn : l.length = n) (hr : Rd w w.heap.size 1 A n (l.map Value.string)) (hc : n <= c) (hl : n <= 8) (hs : ∀ s ∈ l, s.size <= 8 /\ Mk.has s = false) (hm : nfile l = b) :
  Calls Tryz.prog 18 #[.slice A n c] w (PlE b w) := by
 subst hn
 have K := rmakeN l A c w hr hl hc hs
 unfold NmE at K
 rw [hm] at K
 have HK : Hid (Calls Tryz.prog 41 #[.agg #[.int .u16 3, .int .u64 0, .string ⟨#[]⟩, .slice none 0 0, .slice none 0 0, .int .u64 0, .bool true, .slice A l.length c, .string ⟨#[]⟩, .string ⟨#[]⟩, .slice none 0 0, .slice none 0 0, .int .i64 0]] w fun e w' => Below w.heap.size w w' /\ ∃ A n c, e = .returned (.tuple #[.slice A n c, .int .i64 0]) /\ w'.ownsRow w.heap.size 5 1 (.slice A n c) n (bys b)) := zJ2 K
 clear K hr hs hm
 go_enter Tryz.func18, Tryz.ntmps18
 go_wp2_with fail
 refine (zJ1 HK).mono ?_
 rintro e w2 ⟨hb2, A2, n2, c2, rfl, ho2⟩
 have HB := zJ2 hb2
 have HO := zJ2 ho2
 clear hb2 ho2 HK
 go_wp2_with fail
 go_ret
 exact ⟨A2, n2, c2, rfl, zJ1 HO, zJ1 HB⟩
def anL (A1 : Option Addr) (c1 : Nat) (A2 : Option Addr) (c2 : Nat) (A3 : Option Addr) (c3 : Nat) : List EntA := [⟨⟨⟨#[47, 109, 97, 105, 110]⟩, 1, 493, 0, 0, Clo.fM, ⟨#[]⟩⟩, A1, 299, c1⟩, ⟨⟨⟨#[47, 108, 105, 98]⟩, 2, 493, 0, 0, [], ⟨#[]⟩⟩, none, 0, 0⟩, ⟨⟨⟨#[47, 108, 105, 98, 47, 97]⟩, 1, 493, 0, 0, Clo.fA, ⟨#[]⟩⟩, A2, 317, c2⟩, ⟨⟨⟨#[47, 108, 105, 98, 47, 98]⟩, 1, 493, 0, 0, Clo.fB, ⟨#[]⟩⟩, A3, 281, c3⟩]
theorem anEnt {w : World} {p : ByteArray} {k m : Nat} {d : List UInt8} {A : Option Addr} {n c : Nat} (hd : Rd w w.heap.size 1 A n (bys d)) (h1 : n <= 4294967296) (h2 : p.size <= 4294967296) (h3 : m < 65536) : EntOk w ⟨⟨p, k, m, 0, 0, d, ⟨#[]⟩⟩, A, n, c⟩ := ⟨hd, h1, h2, Nat.zero_le _, h3⟩
set_option maxRecDepth 100000 in
set_option maxHeartbeats 16000000 in
theorem wJw (w : World) : Calls Tryz.prog 8 #[] w fun e w' => e = .returned (.bool true) /\ Below w.heap.size w w' := by
 have hb0 : Below w.heap.size w (w.alloc (.cells #[.string ⟨#[97]⟩] 9)) := (Below.refl _ _).alloc (Nat.le_refl _) _
 have e0 : (w.alloc (.cells #[.string ⟨#[97]⟩] 9)).heap.size = w.heap.size + 1 := by simp
 have K1 := vJ7 [Clo.tA] Clo.fM (some ⟨w.heap.size, 0, none⟩) 1 1 (w.alloc (.cells #[.string ⟨#[97]⟩] 9)) rfl (by rw [e0]; exact Rd.row rfl) (Nat.le_refl _) (by decide) (by decide) rfl
 unfold PlE at K1
 have HK1 := zJ2 K1
 have HB0 := zJ2 hb0
 clear K1 hb0 e0
 go_enter Tryz.func8, Tryz.ntmps8
 go_wp2_with fail
 refine (zJ1 HK1).mono ?_
 rintro e w2 ⟨A1, m1, c1, rfl, ho1, hb1⟩
 obtain rfl : m1 = 299 := by have h1 := ho1.1; have h2 := Clo.lenfM; simp [bys] at h1; omega
 have HB2 := zJ2 ((zJ1 HB0).trans (hb1.mono (zJ1 HB0).size))
 have HO1 := zJ2 ho1
 have hb3 : Below w2.heap.size w2 (w2.alloc (.cells #[.string ⟨#[98]⟩, .string ⟨#[97]⟩] 9)) := (Below.refl _ _).alloc (Nat.le_refl _) _
 have e3 : (w2.alloc (.cells #[.string ⟨#[98]⟩, .string ⟨#[97]⟩] 9)).heap.size = w2.heap.size + 1 := by simp
 have K2 := vJ7 [Clo.tB, Clo.tA] Clo.fA (some ⟨w2.heap.size, 0, none⟩) 2 2 (w2.alloc (.cells #[.string ⟨#[98]⟩, .string ⟨#[97]⟩] 9)) rfl (by rw [e3]; exact Rd.rowF rfl) (Nat.le_refl _) (by decide) (by decide) rfl
 unfold PlE at K2
 have HK2 := zJ2 K2
 have HB3 := zJ2 hb3
 clear K2 hb3 e3 ho1 hb1 HK1 HB0
 go_wp2_with fail
 refine (zJ1 HK2).mono ?_
 rintro e w4 ⟨A2, m2, c2, rfl, ho2, hb4⟩
 obtain rfl : m2 = 317 := by have h1 := ho2.1; have h2 := Clo.lenfA; simp [bys] at h1; omega
 have hb24 := (zJ1 HB3).trans (hb4.mono (zJ1 HB3).size)
 have HB4 := zJ2 ((zJ1 HB2).trans (hb24.mono (zJ1 HB2).size))
 have HR1 := zJ2 ((Rd.of_own (zJ1 HO1)).belowSz hb24)
 have HR2 := zJ2 (Rd.of_own ho2)
 have K3 := vJ7 [] Clo.fB none 0 0 w4 rfl (Rd.none_ _ _ _ _) (Nat.le_refl _) (by decide) (by decide) rfl
 unfold PlE at K3
 have HK3 := zJ2 K3
 clear K3 ho2 hb4 hb24 HK2 HB2 HB3 HO1
 go_wp2_with fail
 refine (zJ1 HK3).mono ?_
 rintro e w5 ⟨A3, m3, c3, rfl, ho3, hb5⟩
 obtain rfl : m3 = 281 := by have h1 := ho3.1; have h2 := Clo.lenfB; simp [bys] at h1; omega
 have HB5 := zJ2 ((zJ1 HB4).trans (hb5.mono (zJ1 HB4).size))
 have r1 := (zJ1 HR1).belowSz hb5
 have r2 := (zJ1 HR2).belowSz hb5
 have r3 := Rd.of_own ho3
 have hb6 : Below w5.heap.size w5 (w5.alloc (.cells (rowCs entVals (anL A1 c1 A2 c2 A3 c3)).toArray 66)) := (Below.refl _ _).alloc (Nat.le_refl _) _
 have e6 : (w5.alloc (.cells (rowCs entVals (anL A1 c1 A2 c2 A3 c3)).toArray 66)).heap.size = w5.heap.size + 1 := by simp
 have KN := new_any (anL A1 c1 A2 c2 A3 c3) (some ⟨w5.heap.size, 0, none⟩) 4 4 (w5.alloc (.cells (rowCs entVals (anL A1 c1 A2 c2 A3 c3)).toArray 66)) (by rw [e6]; simpa using Rd.rowF (w := w5) (cs := (rowCs entVals (anL A1 c1 A2 c2 A3 c3)).toArray) (e := 66) (size := 7) (n := 4) (fz := (0, 0)) rfl) rfl (by
  intro s hs
  simp only [anL, List.mem_cons, List.not_mem_nil, or_false] at hs
  rcases hs with rfl | rfl | rfl | rfl
  ·exact anEnt (r1.belowSz hb6) (by decide) (by decide) (by decide)
  ·exact anEnt ⟨rfl, .inl rfl⟩ (by decide) (by decide) (by decide)
  ·exact anEnt (r2.belowSz hb6) (by decide) (by decide) (by decide)
  ·exact anEnt (r3.belowSz hb6) (by decide) (by decide) (by decide)) (by omega)
 rw [show (anL A1 c1 A2 c2 A3 c3).map (·.e) = Clo.anE from rfl] at KN
 unfold NewE at KN
 have HKN := zJ2 KN
 have HB6 := zJ2 ((zJ1 HB5).trans (hb6.mono (zJ1 HB5).size))
 clear KN e6 r1 r2 r3 ho3 hb5 hb6 HK3 HB4 HR1 HR2 HB5
 go_wp2_with fail
 refine (zJ1 HKN).mono ?_
 rintro e w7 ⟨hb7, ⟨h0, _⟩ | ⟨_, f, Af, cf, L, rfl, hFS, hF, hFl, -, -⟩⟩
 ·exact absurd Clo.an_new h0
 have a1 := Clo.an_err
 have a2 := Clo.an_ino
 have a3 := Clo.an_dir
 obtain ⟨F, hFe⟩ : ∃ F, (Vf.new Clo.anE).2.2 = F := ⟨_, rfl⟩
 rw [hFe] at hFS hF hFl a1 a2 a3
 have hn : F.length <= 65 := by rw [hFl]; decide
 have HB7 := zJ2 ((zJ1 HB6).trans (hb7.mono (zJ1 HB6).size))
 have KC := fun (main : Int) (W : World) (hW : Below w7.heap.size w7 W) => xJf F L _ f cf Af none 0 0 Vf.zc main ⟨#[]⟩ false W hF (hFS.belowSz hW) hn ⟨rfl, .inl rfl⟩ (by unfold maxLen; omega) (by decide)
 unfold ClosE credV at KC
 have K1 := KC 1 w7 (Below.refl _ _)
 have K2 := fun W hW => KC 2 W hW
 rw [a1] at K1
 simp only [a3] at K2
 have HC1 := zJ2 K1
 have HC2 := zJ2 K2
 have Ha2 := zJ2 a2
 unfold ptrV
 clear KC K1 K2 a1 a2 a3 hFe hFS hF hFl hb7 HKN HB6 hn
 go_wp2_with fail
 refine (zJ1 HC1).mono ?_
 rintro e w8 ⟨hb8, T, Aa, ca, hT, rfl, ha, -⟩
 have a2 := zJ1 Ha2
 rw [<- hT, List.map_map] at a2
 obtain ⟨x, y, z, rfl, hx, hy, hz⟩ : ∃ x y z, T = [x, y, z] /\ x.o.ino = 1 /\ y.o.ino = 3 /\ z.o.ino = 4 := by
  match T, a2 with
  | [], h => simp at h
  | [x], h => simp at h
  | [x, y], h => simp at h
  | [x, y, z], h => simp at h; exact ⟨x, y, z, rfl, h.1, h.2.1, h.2.2⟩
  | x :: y :: z :: u :: r, h => simp at h
 have hr8 := Rd.of_own ha
 obtain ⟨kb, hkA, -, -⟩ := yJx ha (by show 0 < 3; decide)
 subst hkA
 have HR8 := zJ2 hr8
 have HB8 := zJ2 ((zJ1 HB7).trans (hb8.mono (zJ1 HB7).size))
 have K2 := (zJ1 HC2) w8 hb8
 have HK2 := zJ2 K2
 clear a2 Ha2 hT ha hr8 hb8 K2 HC1 HC2 HB7
 go_wp2_with fail
 refine (zJ1 HK2).mono ?_
 rintro e w9 ⟨hb9, T2, Ab, cb, -, rfl, -, -⟩
 have hr9 := (zJ1 HR8).belowSz hb9
 rcases hr9.2 with h0 | ⟨b1, o1, q1, -, hc⟩
 ·have h1 := congrArg List.length h0
  simp [obC, ObA.l] at h1
 obtain ⟨rfl, rfl⟩ : b1 = kb /\ o1 = 0 := by injection q1 with e; injection e with h1 h2 h3; exact ⟨h1.symm, h2.symm⟩
 have c1' := hc 0 (.int .i64 1) (show (obC [x, y, z])[0]? = _ by show some (Value.int .i64 x.o.ino) = _; rw [hx])
 have c2' := hc 11 (.int .i64 3) (show (obC [x, y, z])[11]? = _ by show some (Value.int .i64 y.o.ino) = _; rw [hy])
 have c3' := hc 22 (.int .i64 4) (show (obC [x, y, z])[22]? = _ by show some (Value.int .i64 z.o.ino) = _; rw [hz])
 simp only [Nat.zero_add] at c1' c2' c3'
 have HB9 := zJ2 ((zJ1 HB8).trans (hb9.mono (zJ1 HB8).size))
 clear hr9 hb9 HR8 HB8 HK2 q1 hx hy hz hc
 go_wp2_with fail
 go_ret
 exact ⟨rfl, zJ1 HB9⟩
structure FrS (w wr : World) (cr : Vf.Cred) (Ag : Option Addr) (ng kg : Nat) (main : Int) (lib : ByteArray) (sec : Bool) : Prop where
 bel : Below w.heap.size w wr
 c : Blk wr w.heap.size 26 [.int .u32 (cr.uid : Nat), .int .u32 (cr.euid : Nat), .int .u32 (cr.suid : Nat), .int .u32 (cr.gid : Nat), .slice Ag ng kg]
 f : Blk wr (w.heap.size + 1) 28 [.int .i64 main, .string lib, .bool sec]
theorem FrS.start (w : World) (cr : Vf.Cred) (Ag : Option Addr) (ng kg : Nat) (main : Int) (lib : ByteArray) (sec : Bool) :
  FrS w ((w.alloc (.cells #[.int .u32 (cr.uid : Nat), .int .u32 (cr.euid : Nat), .int .u32 (cr.suid : Nat), .int .u32 (cr.gid : Nat), .slice Ag ng kg] 26)).alloc (.cells #[.int .i64 main, .string lib, .bool sec] 28)) cr Ag ng kg main lib sec := by
 have e1 : (w.alloc (.cells #[.int .u32 (cr.uid : Nat), .int .u32 (cr.euid : Nat), .int .u32 (cr.suid : Nat), .int .u32 (cr.gid : Nat), .slice Ag ng kg] 26)).heap.size = w.heap.size + 1 := by simp
 refine ⟨((Below.refl _ _).alloc (Nat.le_refl _) _).alloc (by rw [e1]; omega) _, (Blk.new w _ _).alloc _, ?_⟩
 rw [<- e1]
 exact Blk.new _ _ _
section
variable {w wr w' : World} {cr : Vf.Cred} {Ag : Option Addr} {ng kg : Nat} {main : Int} {lib : ByteArray} {sec : Bool}
theorem FrS.below (h : FrS w wr cr Ag ng kg main lib sec) (hb : Below wr.heap.size wr w') : FrS w w' cr Ag ng kg main lib sec := ⟨h.bel.trans (hb.mono h.bel.size), h.c.belowSz hb, h.f.belowSz hb⟩
theorem FrS.drewN (h : FrS w wr cr Ag ng kg main lib sec) (q : Nat) : FrS w (wr.drewN q) cr Ag ng kg main lib sec := ⟨below_drewN' h.bel q, h.c, h.f⟩
theorem FrS.cells (h : FrS w wr cr Ag ng kg main lib sec) : (wr.cell? ⟨w.heap.size, 0, none⟩ = some (.int .u32 (cr.uid : Nat)) /\ wr.cell? ⟨w.heap.size, 1, none⟩ = some (.int .u32 (cr.euid : Nat)) /\ wr.cell? ⟨w.heap.size, 2, none⟩ = some (.int .u32 (cr.suid : Nat)) /\ wr.cell? ⟨w.heap.size, 3, none⟩ = some (.int .u32 (cr.gid : Nat)) /\ wr.cell? ⟨w.heap.size, 4, none⟩ = some (.slice Ag ng kg)) /\
  wr.cell? ⟨w.heap.size + 1, 0, none⟩ = some (.int .i64 main) /\ wr.cell? ⟨w.heap.size + 1, 1, none⟩ = some (.string lib) /\ wr.cell? ⟨w.heap.size + 1, 2, none⟩ = some (.bool sec) :=
 ⟨⟨h.c.cell (i := 0) rfl, h.c.cell (i := 1) rfl, h.c.cell (i := 2) rfl, h.c.cell (i := 3) rfl, h.c.cell (i := 4) rfl⟩, h.f.cell (i := 0) rfl, h.f.cell (i := 1) rfl, h.f.cell (i := 2) rfl⟩
end
end Go.Proofs.YtiiiblmhlhikkaaGreatDoor
namespace Go.Proofs.YtiiiblmhlhikkaaGreatDoor
namespace Dy
theorem wJe {m : Nat} {b : List UInt8} : ∀ (k p : Nat) (ss : List Rel), relsFrom m b k p = some ss -> ss.length = k
 | 0, _, ss, h => by
  unfold relsFrom at h
  injection h with h
  subst h
  rfl
 | k + 1, p, ss, h => by
  unfold relsFrom at h
  split at h
  ·cases h
  ·cases hr : relsFrom m b k (p + 24) with
   | none => rw [hr] at h; cases h
   | some r =>
    rw [hr, Option.map_some] at h
    injection h with h
    subst h
    rw [List.length_cons, wJe k _ r hr]
theorem names_chain (b : List UInt8) (l : List El.Sg) (L : List (Nat × Nat)) : (names b l L).2.chain <= 65 := by
 unfold names
 split
 ·exact Nat.zero_le _
 split
 ·exact Nat.zero_le _
 split
 ·exact Nat.zero_le _
 rename_i h
 split
 ·exact Nat.le_of_not_lt h
 ·exact Nat.zero_le _
theorem parse_sz2 (b : List UInt8) (segs : List El.Sg) : (parse b segs).1.syms.length <= 65 /\ (parse b segs).1.relas.length <= 1536 := by
 cases ho : open_ b segs with
 | mk e o =>
  cases o with
  | none =>
   unfold parse
   rw [ho]
   exact ⟨Nat.zero_le _, Nat.zero_le _⟩
  | some L =>
   have he := open_zero ho
   subst he
   rw [parse_some ho]
   unfold pBody
   split
   ·exact ⟨Nat.zero_le _, Nat.zero_le _⟩
   split
   ·exact ⟨Nat.zero_le _, Nat.zero_le _⟩
   split
   ·exact ⟨Nat.zero_le _, Nat.zero_le _⟩
   split
   ·exact ⟨Nat.zero_le _, Nat.zero_le _⟩
   split
   ·exact ⟨Nat.zero_le _, Nat.zero_le _⟩
   rename_i ss hss
   split
   ·exact ⟨Nat.zero_le _, Nat.zero_le _⟩
   rename_i rs hrs
   have h1 := symsFrom_len hss
   have h2 := wJe _ _ _ hrs
   have h3 := names_chain b (El.loads segs) L
   have h4 := relaB_len (b := b) (l := El.loads segs) (L := L)
   exact ⟨show ss.length <= _ by omega, show rs.length <= _ by omega⟩
end Dy
namespace Clo
structure Lens (o : Ob) : Prop where
 segs : o.head.segs.length <= 65536
 needed : o.dyn.needed.length <= 65536
 syms : o.dyn.syms.length <= 65536
 relas : o.dyn.relas.length <= 131072
theorem object_lens (F : List Vf.Nd) (i : Int) : Lens (object F i).1 := by
 have hb := bytes_len F i
 have z : Lens zero := ⟨Nat.zero_le _, Nat.zero_le _, Nat.zero_le _, Nat.zero_le _⟩
 have hs := object_sz F i
 unfold object at hs ⊢
 split
 ·exact z
 split
 ·exact z
 split
 ·exact z
 ·rename_i h1 h2 h3
  rw [if_neg h1, if_neg h2, if_neg h3] at hs
  have h := Dy.parse_sz2 (bytes F i) (El.parse (bytes F i)).2.segs
  have h4 := (El.parse_segs (bytes F i)).2
  exact ⟨Nat.le_trans h4 hb, hs.2.2, Nat.le_trans h.1 (by decide), Nat.le_trans h.2 (by decide)⟩
def Of (F : List Vf.Nd) (o : Ob) : Prop := ∃ i, (object F i).2 = 0 /\ o = (object F i).1
def Behind (l : List Ob) : Prop := ∀ (j : Nat) (o : Ob), 0 < j -> l[j]? = some o -> o.head.type = 3
section
variable {F : List Vf.Nd} {c : Who} {run nm : ByteArray} {l : List Ob}
theorem need_way (h : (need F c run nm l).2 = 0) : (look F c run nm).2.2 = 0 /\ ((there l (look F c run nm).1 = true /\ (need F c run nm l).1 = l) \/ (there l (look F c run nm).1 = false /\ (object F (look F c run nm).1).2 = 0 /\ (object F (look F c run nm).1).1.head.type = 3 /\ (need F c run nm l).1 = l ++ [(object F (look F c run nm).1).1])) := by
 unfold need at h ⊢
 split
 ·rename_i h1; rw [if_pos h1] at h; exact absurd h h1
 rename_i h1
 rw [if_neg h1] at h
 refine ⟨Decidable.not_not.1 h1, ?_⟩
 split
 ·rename_i h2; exact .inl ⟨h2, rfl⟩
 rename_i h2
 rw [if_neg h2] at h
 split
 ·rename_i h3; rw [if_pos h3] at h; exact absurd h (by decide)
 rename_i h3
 rw [if_neg h3] at h
 split
 ·rename_i h4; rw [if_pos h4] at h; exact absurd h (by decide)
 rename_i h4
 have h5 := not_or.1 h4
 exact .inr ⟨Bool.eq_false_iff.2 h2, Decidable.not_not.1 h5.1, Decidable.not_not.1 h5.2, rfl⟩
theorem need_keeps (hl : ∀ o ∈ l, Of F o) (hb : Behind l) (h1 : 0 < l.length) : (∀ o ∈ (need F c run nm l).1, Of F o) /\ Behind (need F c run nm l).1 := by
 by_cases h : (need F c run nm l).2 = 0
 ·rcases (need_way h).2 with ⟨-, e⟩ | ⟨-, e0, e3, e⟩
  ·rw [e]; exact ⟨hl, hb⟩
  ·rw [e]
   refine ⟨fun o ho => ?_, fun j o hj ho => ?_⟩
   ·rcases List.mem_append.1 ho with h2 | h2
    ·exact hl o h2
    ·rw [List.mem_singleton] at h2; exact ⟨_, e0, h2⟩
   ·rcases Nat.lt_or_ge j l.length with h2 | h2
    ·rw [List.getElem?_append_left h2] at ho; exact hb j o hj ho
    ·rw [List.getElem?_append_right h2] at ho
     cases hq : j - l.length with
     | zero => rw [hq] at ho; injection ho with ho; rw [<- ho]; exact e3
     | succ q => rw [hq] at ho; cases ho
 ·rw [need_err h]
  exact ⟨fun o ho => absurd ho (List.not_mem_nil (a := o)), fun j o _ ho => by cases ho⟩
theorem vJh : ∀ (r : List ByteArray) (l : List Ob), (∀ o ∈ l, Of F o) -> Behind l -> 0 < l.length -> (∀ o ∈ (needs F c run r l).1, Of F o) /\ Behind (needs F c run r l).1
 | [], l, hl, hb, _ => ⟨hl, hb⟩
 | nm :: r, l, hl, hb, h1 => by
  have h2 := need_keeps (c := c) (run := run) (nm := nm) hl hb h1
  by_cases h : (need F c run nm l).2 = 0
  ·rw [yJg h]
   have h3 := need_pre h
   obtain ⟨t, ht⟩ := h3
   exact vJh r _ h2.1 h2.2 (by rw [ht, List.length_append]; omega)
  ·rw [yJu h]
   exact h2
theorem uJ2 : ∀ (k i : Nat) (l : List Ob), (∀ o ∈ l, Of F o) -> Behind l -> 0 < l.length -> (∀ o ∈ (rest F c k i l).1, Of F o) /\ Behind (rest F c k i l).1
 | 0, _, l, hl, hb, _ => ⟨hl, hb⟩
 | k + 1, i, l, hl, hb, h1 => by
  cases ho : l[i]? with
  | none => rw [show rest F c (k + 1) i l = (l, 0) by unfold rest; rw [ho]]; exact ⟨hl, hb⟩
  | some o =>
   rw [yJs ho]
   have h2 := vJh (c := c) (run := o.dyn.run) o.dyn.needed l hl hb h1
   split
   ·exact h2
   ·rename_i h
    obtain ⟨t, ht⟩ := vJg o.dyn.needed l (Decidable.not_not.1 h)
    exact uJ2 k (i + 1) _ h2.1 h2.2 (by rw [ht, List.length_append]; omega)
theorem closure_keeps (main : Int) : (∀ o ∈ (closure F c main).1, Of F o) /\ Behind (closure F c main).1 := by
 unfold closure
 split
 ·exact ⟨fun o ho => absurd ho (List.not_mem_nil (a := o)), fun j o _ ho => by cases ho⟩
 ·rename_i h
  refine uJ2 9 0 _ (fun o ho => ?_) (fun j o hj ho => ?_) (by simp)
  ·rw [List.mem_singleton] at ho; exact ⟨_, Decidable.not_not.1 h, ho⟩
  ·cases j with
   | zero => omega
   | succ j => cases ho
theorem closure_lens (main : Int) : ∀ o ∈ (closure F c main).1, Lens o /\ Dy.Sz 65536 65536 o.dyn := fun o ho => by
 obtain ⟨i, -, rfl⟩ := (closure_keeps main).1 o ho
 exact ⟨object_lens F i, object_sz F i⟩
end
end Clo
namespace Clo
def At (F : List Vf.Nd) (c : Who) (a : List Ob) (seen i : Nat) : Prop := seen <= a.length /\ 0 < seen /\ ∃ K, K + i = 9 /\ rest F c K i (a.take seen) = (a, 0)
def In (F : List Vf.Nd) (c : Who) (a : List Ob) (seen i k : Nat) (o : Ob) : Prop := seen <= a.length /\ 0 < seen /\ a[i]? = some o /\ (needs F c o.dyn.run (o.dyn.needed.drop k) (a.take seen)).2 = 0 /\ ∃ K, K + (i + 1) = 9 /\ rest F c K (i + 1) (needs F c o.dyn.run (o.dyn.needed.drop k) (a.take seen)).1 = (a, 0)
section
variable {F : List Vf.Nd} {c : Who} {a : List Ob} {seen i k : Nat} {o : Ob}
theorem yJt {K i : Nat} {l : List Ob} (h : l[i]? = none) : rest F c K i l = (l, 0) := by
 cases K with
 | zero => rfl
 | succ K => unfold rest; rw [h]
theorem uJk : ∀ (K i : Nat) (l : List Ob), (rest F c K i l).2 = 0 -> ∃ t, (rest F c K i l).1 = l ++ t
 | 0, _, l, _ => ⟨[], by rw [List.append_nil]; rfl⟩
 | K + 1, i, l, h => by
  cases ho : l[i]? with
  | none => rw [yJt ho]; exact ⟨[], by rw [List.append_nil]⟩
  | some o =>
   rw [yJs ho] at h ⊢
   split
   ·rename_i h1; rw [if_pos h1] at h; exact absurd h h1
   ·rename_i h1
    rw [if_neg h1] at h
    obtain ⟨t, ht⟩ := vJg o.dyn.needed l (Decidable.not_not.1 h1)
    obtain ⟨t', ht'⟩ := uJk K (i + 1) _ h
    exact ⟨t ++ t', by rw [ht', ht, List.append_assoc]⟩
theorem vJ5 : ∀ (K i : Nat) (l : List Ob), l.length <= 8 -> (rest F c K i l).1.length <= 8
 | 0, _, l, h => h
 | K + 1, i, l, h => by
  cases ho : l[i]? with
  | none => rw [yJt ho]; exact h
  | some o =>
   rw [yJs ho]
   have h2 := needs_len (F := F) (c := c) (run := o.dyn.run) o.dyn.needed l h
   split
   ·exact h2
   ·exact vJ5 K (i + 1) _ h2
theorem needs_err : ∀ (r : List ByteArray) (l : List Ob) (run : ByteArray), (needs F c run r l).2 ≠ 0 -> (needs F c run r l).1 = []
 | [], l, run, h => absurd rfl h
 | nm :: r, l, run, h => by
  by_cases h1 : (need F c run nm l).2 = 0
  ·rw [yJg h1] at h ⊢
   exact needs_err r _ run h
  ·rw [yJu h1]
   exact need_err h1
theorem rest_err : ∀ (K i : Nat) (l : List Ob), (rest F c K i l).2 ≠ 0 -> (rest F c K i l).1 = []
 | 0, _, l, h => absurd rfl h
 | K + 1, i, l, h => by
  cases ho : l[i]? with
  | none => rw [yJt ho] at h; exact absurd rfl h
  | some o =>
   rw [yJs ho] at h ⊢
   split
   ·rename_i h1; exact needs_err _ _ _ h1
   ·rename_i h1; rw [if_neg h1] at h; exact rest_err K (i + 1) _ h
theorem closure_err {main : Int} (h : (closure F c main).2 ≠ 0) : (closure F c main).1 = [] := by
 unfold closure at h ⊢
 split
 ·rfl
 ·rename_i h1; rw [if_neg h1] at h; exact rest_err _ _ _ h
theorem there_step {l : List Ob} {j n : Nat} {x : Ob} (h : l[j]? = some x) : there (l.take (j + 1)) n = (there (l.take j) n || decide (x.ino = (n : Int))) := by
 unfold there
 rw [List.take_add_one, h, List.any_append]
 simp
theorem closure_len8 (main : Int) : (closure F c main).1.length <= 8 := by
 unfold closure
 split
 ·exact Nat.zero_le _
 ·exact vJ5 9 0 _ (by simp)
theorem at_start {main : Int} (h : closure F c main = (a, 0)) : (∃ o, a[0]? = some o /\ o.ino = main) /\ a.length <= 8 /\ At F c a 1 0 := by
 unfold closure at h
 by_cases h0 : (object F main).2 = 0
 ·rw [if_neg (by rw [h0]; decide)] at h
  have hr : (rest F c 9 0 [(object F main).1]).2 = 0 := by rw [h]
  have hl := vJ5 (F := F) (c := c) 9 0 [(object F main).1] (by simp)
  obtain ⟨t, ht⟩ := uJk 9 0 [(object F main).1] hr
  rw [h] at ht hl
  have ht : a = (object F main).1 :: t := ht
  refine ⟨⟨(object F main).1, by rw [ht]; rfl, object_ino h0⟩, hl, by rw [ht, List.length_cons]; omega, by omega, 9, rfl, ?_⟩
  rw [show a.take 1 = [(object F main).1] by rw [ht]; rfl]
  exact h
 ·rw [if_pos h0] at h
  injection h with _ h2
  exact absurd h2 h0
theorem take_all (h : a.take seen = a) (h2 : seen <= a.length) : seen = a.length := by
 have h1 := congrArg List.length h
 rw [List.length_take] at h1
 omega
theorem at_end (h : At F c a seen i) (hi : a.length <= i) : seen = a.length := by
 obtain ⟨h1, h2, K, hK, h3⟩ := h
 rw [yJt (List.getElem?_eq_none (by rw [List.length_take]; omega))] at h3
 injection h3 with h3 _
 exact take_all h3 h1
theorem at_in (h : At F c a seen i) (hi : i < a.length) (h8 : a.length <= 8) : ∃ o, a[i]? = some o /\ In F c a seen i 0 o := by
 obtain ⟨h1, h2, K, hK, h3⟩ := h
 cases ho : (a.take seen)[i]? with
 | none =>
  rw [yJt ho] at h3
  injection h3 with h3 _
  rw [h3, List.getElem?_eq_none_iff] at ho
  omega
 | some o =>
  obtain ⟨K, rfl⟩ : ∃ J, K = J + 1 := ⟨K - 1, by omega⟩
  have ha : a[i]? = some o := by
   rw [List.getElem?_take] at ho
   split at ho
   ·exact ho
   ·cases ho
  rw [yJs ho] at h3
  split at h3
  ·rename_i h4; rw [h3] at h4; exact absurd rfl h4
  ·rename_i h4
   exact ⟨o, ha, h1, h2, ha, Decidable.not_not.1 h4, K, by omega, h3⟩
theorem in_out (h : In F c a seen i k o) (hk : o.dyn.needed.length <= k) : At F c a seen (i + 1) := by
 obtain ⟨h1, h2, ha, h3, K, hK, h4⟩ := h
 rw [List.drop_eq_nil_of_le hk] at h4
 exact ⟨h1, h2, K, hK, h4⟩
theorem in_step {nm : ByteArray} (h : In F c a seen i k o) (hk : o.dyn.needed[k]? = some nm) : (look F c o.dyn.run nm).2.2 = 0 /\ ((there (a.take seen) (look F c o.dyn.run nm).1 = true /\ In F c a seen i (k + 1) o) \/ (there (a.take seen) (look F c o.dyn.run nm).1 = false /\ (∃ x, a[seen]? = some x /\ x.ino = ((look F c o.dyn.run nm).1 : Nat)) /\ In F c a (seen + 1) i (k + 1) o)) := by
 obtain ⟨h1, h2, ha, h3, K, hK, h4⟩ := h
 have hd : o.dyn.needed.drop k = nm :: o.dyn.needed.drop (k + 1) := by
  obtain ⟨hlt, hg⟩ := List.getElem?_eq_some_iff.1 hk
  rw [List.drop_eq_getElem_cons hlt, hg]
 rw [hd] at h3 h4
 have hn : (need F c o.dyn.run nm (a.take seen)).2 = 0 := Decidable.byContradiction fun hx => by rw [yJu hx] at h3; exact hx h3
 rw [yJg hn] at h3 h4
 obtain ⟨e1, ⟨e2, e3⟩ | ⟨e2, e3, e4, e5⟩⟩ := need_way hn
 ·rw [e3] at h3 h4
  exact ⟨e1, .inl ⟨e2, h1, h2, ha, h3, K, hK, h4⟩⟩
 ·refine ⟨e1, .inr ⟨e2, ?_⟩⟩
  rw [e5] at h3 h4
  obtain ⟨t, ht⟩ := vJg _ _ h3
  obtain ⟨t', ht'⟩ := uJk _ _ _ (by rw [h4])
  rw [h4, ht] at ht'
  have ht' : a = a.take seen ++ [(object F (look F c o.dyn.run nm).1).1] ++ t ++ t' := ht'
  have hl : (a.take seen).length = seen := by rw [List.length_take]; omega
  have hx : a[seen]? = some (object F (look F c o.dyn.run nm).1).1 := by
   rw [ht', List.append_assoc, List.append_assoc, List.getElem?_append_right (by omega), hl, Nat.sub_self]
   rfl
  have ht2 : a.take (seen + 1) = a.take seen ++ [(object F (look F c o.dyn.run nm).1).1] := by
   rw [List.take_add_one, hx]
   rfl
  rw [<- ht2] at h3 h4
  obtain ⟨hlt, -⟩ := List.getElem?_eq_some_iff.1 hx
  exact ⟨⟨_, hx, object_ino e3⟩, by omega, by omega, ha, h3, K, hK, h4⟩
end
end Clo
end Go.Proofs.YtiiiblmhlhikkaaGreatDoor
namespace Go.Proofs.YtiiiblmhlhikkaaGreatDoor.El
open Wd (num)
end Go.Proofs.YtiiiblmhlhikkaaGreatDoor.El
namespace Go.Proofs.YtiiiblmhlhikkaaGreatDoor.El
open Wd (num)
def lookedB (i ph n : Nat) : Bool :=
 if i < 64 then decide (i < 7) || (decide (16 <= i) && decide (i < 40)) || (decide (54 <= i) && decide (i < 58))
 else if decide (i < ph) || decide (ph + 56 * n <= i) then false else decide ((i - ph) % 56 < 24) || decide (32 <= (i - ph) % 56)
def Agree (ph n : Nat) (b c : List UInt8) : Prop := c.length = b.length /\ ∀ i, lookedB i ph n = true -> b[i]? = c[i]?
theorem Agree.refl (ph n : Nat) (b : List UInt8) : Agree ph n b b := ⟨rfl, fun _ _ => rfl⟩
theorem Agree.set {ph n : Nat} {b c : List UInt8} (h : Agree ph n b c) {i : Nat} (hi : lookedB i ph n = false) (x : UInt8) : Agree ph n b (c.set i x) := by
 refine ⟨by simp [h.1], fun j hj => ?_⟩
 have : i ≠ j := by intro e; subst e; rw [hi] at hj; cases hj
 rw [List.getElem?_set_ne this]
 exact h.2 j hj
end Go.Proofs.YtiiiblmhlhikkaaGreatDoor.El
namespace Go.Proofs.YtiiiblmhlhikkaaGreatDoor
open Go.RowKit
set_option maxHeartbeats 2000000 in
theorem same_yes (A A' : Option Addr) (n c c' B : Nat) (l : List El.Sg) (ty en ph : Nat) (w : World) (hB : B <= w.heap.size) (ha : Rd w B 6 A n (segCells l)) (hb : Rd w B 6 A' n (segCells l)) (hn : n <= 4294967296) :
  Calls Tryz.prog 31 #[.agg #[.int .u16 ty, .int .u64 en, .int .u64 ph, .slice A n c], .agg #[.int .u16 ty, .int .u64 en, .int .u64 ph, .slice A' n c']] w fun e w' => e = .returned (.bool true) /\ Below w.heap.size w w' := by
 have hln : l.length = n := by have := ha.1; rw [zJw] at this; omega
 have Ha := zJ2 ha
 have Hb := zJ2 hb
 have Hln := zJ2 hln
 clear ha hb hln
 go_enter Tryz.func31, Tryz.ntmps31
 go_wp2
 go_loopw [5] (fun i wr => ∃ k : Nat, k <= n /\ i = .int .i64 k /\ Below w.heap.size w wr /\ wr.heap[w.heap.size]? = some (.cells #[.int .u16 ty, .int .u64 en, .int .u64 ph, .slice A n c] 49 (0, 0)) /\ wr.heap[w.heap.size + 1]? = some (.cells #[.int .u16 ty, .int .u64 en, .int .u64 ph, .slice A' n c'] 49 (0, 0))) (fun i _ => n - (intOf i).toNat)
 case atStart => exact ⟨0, Nat.zero_le _, rfl, ((Below.refl _ _).alloc (Nat.le_refl _) _).alloc (by simp) _, (Below.heap_alloc _ _ _ (by simp)).trans (heap_alloc_new _ _), heap_alloc2_new _ _ _⟩
 case round =>
  obtain ⟨k, hk, rfl, hbl, hx, hy⟩ := hrel
  obtain ⟨x0, x1, x2, x3⟩ := zJ6 hx
  obtain ⟨y0, y1, y2, y3⟩ := zJ6 hy
  have Hbl := zJ2 hbl
  have Hx := zJ2 hx
  have Hy := zJ2 hy
  clear hbl hx hy x0 x1 x2 y0 y1 y2
  by_cases hlt : k < n
  ·obtain ⟨s, hs⟩ : ∃ s, l[k]? = some s := ⟨_, List.getElem?_eq_getElem (by rw [zJ1 Hln]; exact hlt)⟩
   obtain ⟨b1, o1, rfl, hbb, c0, c1, c2, c3, c4, c5⟩ := wJb ((zJ1 Ha).below ((zJ1 Hbl).mono hB)) hs
   obtain ⟨b2, o2, rfl, hbb2, d0, d1, d2, d3, d4, d5⟩ := wJb ((zJ1 Hb).below ((zJ1 Hbl).mono hB)) hs
   have i0 : (0 : Int) <= (k : Int) := by omega
   have i1 : (k : Int) < (n : Int) := by omega
   clear hs
   go_wp2
   go_quiet (fail)
   go_wp2
   go_roundw
   case rel => exact ⟨k + 1, by omega, by go_num, below_drewN' (zJ1 Hbl) _, zJ1 Hx, zJ1 Hy⟩
   case measure => simp [intOf]; omega
  ·go_wp2
   go_ret
   exact ⟨rfl, zJ1 Hbl⟩
set_option maxRecDepth 100000 in
set_option maxHeartbeats 60000000 in
theorem same13_any (q r : Dq) (hqr : r.d = q.d) (B : Nat) (w : World) (hB : B <= w.heap.size) (h : DqM w B q) (h' : DqM w B r) (h1 : q.d.needed.length <= 1048576) (h2 : q.d.syms.length <= 1048576) (h3 : q.d.relas.length <= 1048576) :
  Calls Tryz.prog 32 #[.agg q.l.toArray, .agg r.l.toArray] w fun e w' => e = .returned (.bool true) /\ Below w.heap.size w w' := by
 have e1 : (w.alloc (.cells #[.slice q.A1 q.d.needed.length q.c1, .string q.d.soname, .string q.d.run, .slice q.A2 q.d.syms.length q.c2, .slice q.A3 q.d.relas.length q.c3] 54)).heap.size = w.heap.size + 1 := by simp
 have hb1 : Below w.heap.size w ((w.alloc (.cells #[.slice q.A1 q.d.needed.length q.c1, .string q.d.soname, .string q.d.run, .slice q.A2 q.d.syms.length q.c2, .slice q.A3 q.d.relas.length q.c3] 54)).alloc (.cells #[.slice r.A1 q.d.needed.length r.c1, .string q.d.soname, .string q.d.run, .slice r.A2 q.d.syms.length r.c2, .slice r.A3 q.d.relas.length r.c3] 54)) := ((Below.refl _ _).alloc (Nat.le_refl _) _).alloc (by simp) _
 have hrl : r.l = [.slice r.A1 q.d.needed.length r.c1, .string q.d.soname, .string q.d.run, .slice r.A2 q.d.syms.length r.c2, .slice r.A3 q.d.relas.length r.c3] := by unfold Dq.l; rw [hqr]
 have hx : Blk ((w.alloc (.cells #[.slice q.A1 q.d.needed.length q.c1, .string q.d.soname, .string q.d.run, .slice q.A2 q.d.syms.length q.c2, .slice q.A3 q.d.relas.length q.c3] 54)).alloc (.cells #[.slice r.A1 q.d.needed.length r.c1, .string q.d.soname, .string q.d.run, .slice r.A2 q.d.syms.length r.c2, .slice r.A3 q.d.relas.length r.c3] 54)) w.heap.size 54 q.l := (Blk.new w 54 q.l).alloc (.cells #[.slice r.A1 q.d.needed.length r.c1, .string q.d.soname, .string q.d.run, .slice r.A2 q.d.syms.length r.c2, .slice r.A3 q.d.relas.length r.c3] 54)
 have hy := Blk.new (w.alloc (.cells #[.slice q.A1 q.d.needed.length q.c1, .string q.d.soname, .string q.d.run, .slice q.A2 q.d.syms.length q.c2, .slice q.A3 q.d.relas.length q.c3] 54)) 54 [.slice r.A1 q.d.needed.length r.c1, .string q.d.soname, .string q.d.run, .slice r.A2 q.d.syms.length r.c2, .slice r.A3 q.d.relas.length r.c3]
 rw [e1] at hy
 have hq := h.below (hb1.mono hB)
 have hr := h'.below (hb1.mono hB)
 have hrn : Rd ((w.alloc (.cells #[.slice q.A1 q.d.needed.length q.c1, .string q.d.soname, .string q.d.run, .slice q.A2 q.d.syms.length q.c2, .slice q.A3 q.d.relas.length q.c3] 54)).alloc (.cells #[.slice r.A1 q.d.needed.length r.c1, .string q.d.soname, .string q.d.run, .slice r.A2 q.d.syms.length r.c2, .slice r.A3 q.d.relas.length r.c3] 54)) B 1 r.A1 q.d.needed.length (q.d.needed.map Value.string) := by have h9 := hr.needed; rw [hqr] at h9; exact h9
 have hrs : Rd ((w.alloc (.cells #[.slice q.A1 q.d.needed.length q.c1, .string q.d.soname, .string q.d.run, .slice q.A2 q.d.syms.length q.c2, .slice q.A3 q.d.relas.length q.c3] 54)).alloc (.cells #[.slice r.A1 q.d.needed.length r.c1, .string q.d.soname, .string q.d.run, .slice r.A2 q.d.syms.length r.c2, .slice r.A3 q.d.relas.length r.c3] 54)) B 5 r.A2 q.d.syms.length (symC q.d.syms) := by have h9 := hr.syms; rw [hqr] at h9; exact h9
 have hrr : Rd ((w.alloc (.cells #[.slice q.A1 q.d.needed.length q.c1, .string q.d.soname, .string q.d.run, .slice q.A2 q.d.syms.length q.c2, .slice q.A3 q.d.relas.length q.c3] 54)).alloc (.cells #[.slice r.A1 q.d.needed.length r.c1, .string q.d.soname, .string q.d.run, .slice r.A2 q.d.syms.length r.c2, .slice r.A3 q.d.relas.length r.c3] 54)) B 4 r.A3 q.d.relas.length (mrC q.d.relas) := by have h9 := hr.relas; rw [hqr] at h9; exact h9
 have KE := eqTexts_any q.A1 r.A1 q.d.needed.length q.d.needed.length q.c1 r.c1 B q.d.needed q.d.needed ((w.alloc (.cells #[.slice q.A1 q.d.needed.length q.c1, .string q.d.soname, .string q.d.run, .slice q.A2 q.d.syms.length q.c2, .slice q.A3 q.d.relas.length q.c3] 54)).alloc (.cells #[.slice r.A1 q.d.needed.length r.c1, .string q.d.soname, .string q.d.run, .slice r.A2 q.d.syms.length r.c2, .slice r.A3 q.d.relas.length r.c3] 54)) hq.needed hrn (by unfold maxLen; omega) (by unfold maxLen; omega)
 rw [show decide (q.d.needed = q.d.needed) = true from decide_eq_true rfl] at KE
 obtain ⟨x0, x1, x2, x3, x4⟩ := And.intro (hx.cell (i := 0) (u := .slice q.A1 q.d.needed.length q.c1) rfl) (And.intro (hx.cell (i := 1) (u := .string q.d.soname) rfl) (And.intro (hx.cell (i := 2) (u := .string q.d.run) rfl) (And.intro (hx.cell (i := 3) (u := .slice q.A2 q.d.syms.length q.c2) rfl) (hx.cell (i := 4) (u := .slice q.A3 q.d.relas.length q.c3) rfl))))
 obtain ⟨y0, y1, y2, y3, y4⟩ := And.intro (hy.cell (i := 0) rfl) (And.intro (hy.cell (i := 1) rfl) (And.intro (hy.cell (i := 2) rfl) (And.intro (hy.cell (i := 3) rfl) (hy.cell (i := 4) rfl))))
 have HX := zJ2 hx
 have HY := zJ2 hy
 have HB := zJ2 hb1
 have Hqs := zJ2 hq.syms
 have Hqr := zJ2 hq.relas
 have Hrs := zJ2 hrs
 have Hrr := zJ2 hrr
 have KE := zJ2 KE
 have hBw : B <= ((w.alloc (.cells #[.slice q.A1 q.d.needed.length q.c1, .string q.d.soname, .string q.d.run, .slice q.A2 q.d.syms.length q.c2, .slice q.A3 q.d.relas.length q.c3] 54)).alloc (.cells #[.slice r.A1 q.d.needed.length r.c1, .string q.d.soname, .string q.d.run, .slice r.A2 q.d.syms.length r.c2, .slice r.A3 q.d.relas.length r.c3] 54)).heap.size := Nat.le_trans hB hb1.size
 show Calls _ _ #[.agg #[.slice q.A1 q.d.needed.length q.c1, .string q.d.soname, .string q.d.run, .slice q.A2 q.d.syms.length q.c2, .slice q.A3 q.d.relas.length q.c3], .agg r.l.toArray] w _
 rw [hrl]
 show Calls _ _ #[.agg #[.slice q.A1 q.d.needed.length q.c1, .string q.d.soname, .string q.d.run, .slice q.A2 q.d.syms.length q.c2, .slice q.A3 q.d.relas.length q.c3], .agg #[.slice r.A1 q.d.needed.length r.c1, .string q.d.soname, .string q.d.run, .slice r.A2 q.d.syms.length r.c2, .slice r.A3 q.d.relas.length r.c3]] w _
 clear hb1 hrl hx hy hq hr hrn hrs hrr h h' hqr e1
 go_enter Tryz.func32, Tryz.ntmps32
 go_upto_region 1 with fail
 generalize ((w.alloc (.cells #[.slice q.A1 q.d.needed.length q.c1, .string q.d.soname, .string q.d.run, .slice q.A2 q.d.syms.length q.c2, .slice q.A3 q.d.relas.length q.c3] 54)).alloc (.cells #[.slice r.A1 q.d.needed.length r.c1, .string q.d.soname, .string q.d.run, .slice r.A2 q.d.syms.length r.c2, .slice r.A3 q.d.relas.length r.c3] 54)) = V0 at *
 go_wp2_with fail
 refine (zJ1 KE).mono ?_
 rintro e w1 ⟨rfl, j, rfl⟩
 have hx := (zJ1 HX).drewN j
 have hy := (zJ1 HY).drewN j
 have hb := below_drewN' (zJ1 HB) j
 have hsq : Rd (V0.drewN j) B 5 q.A2 q.d.syms.length (symC q.d.syms) := zJ1 Hqs
 have hsr : Rd (V0.drewN j) B 5 r.A2 q.d.syms.length (symC q.d.syms) := zJ1 Hrs
 have hrq : Rd (V0.drewN j) B 4 q.A3 q.d.relas.length (mrC q.d.relas) := zJ1 Hqr
 have hrr : Rd (V0.drewN j) B 4 r.A3 q.d.relas.length (mrC q.d.relas) := zJ1 Hrr
 have hBs : B <= (V0.drewN j).heap.size := hBw
 generalize V0.drewN j = V at *
 have HX := zJ2 hx
 have HY := zJ2 hy
 have HB := zJ2 hb
 have Hqs := zJ2 hsq
 have Hrs := zJ2 hsr
 have Hqr := zJ2 hrq
 have Hrr := zJ2 hrr
 obtain ⟨M, hM⟩ : ∃ M, q.d.syms.length = M := ⟨_, rfl⟩
 obtain ⟨R, hR⟩ : ∃ R, q.d.relas.length = R := ⟨_, rfl⟩
 obtain ⟨A2, hA2⟩ : ∃ A, q.A2 = A := ⟨_, rfl⟩
 obtain ⟨B2, hB2⟩ : ∃ A, r.A2 = A := ⟨_, rfl⟩
 obtain ⟨A3, hA3⟩ : ∃ A, q.A3 = A := ⟨_, rfl⟩
 obtain ⟨B3, hB3⟩ : ∃ A, r.A3 = A := ⟨_, rfl⟩
 have z3 : V.cell? ⟨w.heap.size, 3, none⟩ = some (.slice A2 M q.c2) := by rw [<- hA2, <- hM]; exact hx.cell (i := 3) rfl
 have z4 : V.cell? ⟨w.heap.size, 4, none⟩ = some (.slice A3 R q.c3) := by rw [<- hA3, <- hR]; exact hx.cell (i := 4) rfl
 have v3 : V.cell? ⟨w.heap.size + 1, 3, none⟩ = some (.slice B2 M r.c2) := by rw [<- hB2, <- hM]; exact hy.cell (i := 3) rfl
 have v4 : V.cell? ⟨w.heap.size + 1, 4, none⟩ = some (.slice B3 R r.c3) := by rw [<- hB3, <- hR]; exact hy.cell (i := 4) rfl
 have hMb : M <= 1048576 := by omega
 have hRb : R <= 1048576 := by omega
 rw [hM, hA2] at Hqs
 rw [hM, hB2] at Hrs
 rw [hR, hA3] at Hqr
 rw [hR, hB3] at Hrr
 have HM := zJ2 hM
 have HR := zJ2 hR
 have Hz := zJ2 (And.intro z3 (And.intro z4 (And.intro v3 v4)))
 clear x0 x1 x2 x3 x4 y0 y1 y2 y3 y4 hx hy hb hsq hsr hrq hrr KE hM hR hA2 hB2 hA3 hB3
 go_wp2_with fail
 go_loopg [5] M (fun gk iv wr => ∃ i : Nat, gk = M - i /\ i <= M /\ iv = .int .i64 i /\ Below V.heap.size V wr)
 case atStart => exact ⟨0, by omega, by omega, rfl, Below.refl _ _⟩
 case round =>
 clear z3 z4 v3 v4
 obtain ⟨i, hgk, hi, rfl, hbv⟩ := hrel
 have Hgk := zJ2 hgk
 have hx := (zJ1 HX).belowSz hbv
 have hy := (zJ1 HY).belowSz hbv
 have hqj0 := (zJ1 Hqs).below (hbv.mono hBs)
 have hrj0 := (zJ1 Hrs).below (hbv.mono hBs)
 have Hbv := zJ2 hbv
 clear hgk hbv
 have z3 := (yJe (hx.trans (zJ1 HX).symm) 3).trans (zJ1 Hz).1
 have v3 := (yJe (hy.trans (zJ1 HY).symm) 3).trans (zJ1 Hz).2.2.1
 clear hx hy
 by_cases hlt : i < M
 ·have ilt : (i : Int) < (M : Int) := by omega
  obtain ⟨x, hxx⟩ : ∃ x, q.d.syms[i]? = some x := ⟨_, List.getElem?_eq_getElem (by rw [zJ1 HM]; exact hlt)⟩
  obtain ⟨b1, o1, hAA, -, s0, s1, s2, s3, s4⟩ := mksym_at hqj0 hxx
  obtain ⟨b2, o2, hBB, -, t0, t1, t2, t3, t4⟩ := mksym_at hrj0 hxx
  subst hAA hBB
  clear hxx hqj0 hrj0
  go_wp2_with fail
  go_quiet (fail)
  have Hbn := zJ2 (below_drewN' (zJ1 Hbv) nq)
  clear z3 v3 s0 s1 s2 s3 s4 t0 t1 t2 t3 t4
  go_wp2_with fail
  go_roundg (M - (i + 1))
  case measure => have := zJ1 Hgk; omega
  case rel => exact ⟨i + 1, rfl, by omega, by go_num, zJ1 Hbn⟩
 have hiM : i = M := by omega
 subst hiM
 have ige : ¬ (i : Int) < (i : Int) := by omega
 have hx := (zJ1 HX).belowSz (zJ1 Hbv)
 have hy := (zJ1 HY).belowSz (zJ1 Hbv)
 have z4 := (yJe (hx.trans (zJ1 HX).symm) 4).trans (zJ1 Hz).2.1
 have v4 := (yJe (hy.trans (zJ1 HY).symm) 4).trans (zJ1 Hz).2.2.2
 have hBr : B <= wr.heap.size := by have := (zJ1 Hbv).size; omega
 have Hqw := zJ2 ((zJ1 Hqr).below ((zJ1 Hbv).mono hBs))
 have Hrw := zJ2 ((zJ1 Hrr).below ((zJ1 Hbv).mono hBs))
 obtain ⟨U, hU⟩ : ∃ U, wr = U := ⟨_, rfl⟩
 rw [hU] at z4 v4 hBr Hqw Hrw Hbv z3 v3 hx hy ⊢
 have HXU := zJ2 hx
 have HYU := zJ2 hy
 have HZU := zJ2 (And.intro z4 v4)
 clear hx hy hqj0 hrj0 hU hlt
 go_wp2_with fail
 go_loopg [6] R (fun gk iv wr => ∃ i : Nat, gk = R - i /\ i <= R /\ iv = .int .i64 i /\ Below U.heap.size U wr)
 case atStart => exact ⟨0, by omega, by omega, rfl, Below.refl _ _⟩
 case round =>
 clear z4 v4 z3 v3
 obtain ⟨k, hgk2, hk, rfl, hbv2⟩ := hrel
 have Hgk2 := zJ2 hgk2
 have hx := (zJ1 HXU).belowSz hbv2
 have hy := (zJ1 HYU).belowSz hbv2
 have z4 := (yJe (hx.trans (zJ1 HXU).symm) 4).trans (zJ1 HZU).1
 have v4 := (yJe (hy.trans (zJ1 HYU).symm) 4).trans (zJ1 HZU).2
 have hqj0 := (zJ1 Hqw).below (hbv2.mono hBr)
 have hrj0 := (zJ1 Hrw).below (hbv2.mono hBr)
 have Hbv2 := zJ2 hbv2
 clear hgk2 hbv2 hx hy
 by_cases hlt : k < R
 ·have klt : (k : Int) < (R : Int) := by omega
  obtain ⟨x, hxx⟩ : ∃ x, q.d.relas[k]? = some x := ⟨_, List.getElem?_eq_getElem (by rw [zJ1 HR]; exact hlt)⟩
  obtain ⟨b1, o1, hAA, -, s0, s1, s2, s3⟩ := mkrel_at hqj0 hxx
  obtain ⟨b2, o2, hBB, -, t0, t1, t2, t3⟩ := mkrel_at hrj0 hxx
  subst hAA hBB
  clear hxx hqj0 hrj0
  go_wp2_with fail
  go_quiet (fail)
  have Hbn := zJ2 (below_drewN' (zJ1 Hbv2) nq)
  clear z4 v4 s0 s1 s2 s3 t0 t1 t2 t3
  go_wp2_with fail
  go_roundg (R - (k + 1))
  case measure => have := zJ1 Hgk2; omega
  case rel => exact ⟨k + 1, rfl, by omega, by go_num, zJ1 Hbn⟩
 have hkR : k = R := by omega
 subst hkR
 have kge : ¬ (k : Int) < (k : Int) := by omega
 clear hqj0 hrj0
 go_wp2_with fail
 go_ret
 exact ⟨rfl, (zJ1 HB).trans (((zJ1 Hbv).mono (by have := (zJ1 HB).size; omega)).trans ((zJ1 Hbv2).mono (by have := (zJ1 HB).size; have := (zJ1 Hbv).size; omega)))⟩
def toMk (d : Dy.Dyn) : Mk.Dyn := ⟨d.needed, d.soname, d.run, d.syms, d.relas.map fun r => ⟨r.off, r.type, (r.sym : Nat), adI r.add⟩⟩
theorem toMk_rel (l : List Dy.Rel) : mrC (l.map fun r => ⟨r.off, r.type, (r.sym : Nat), adI r.add⟩) = relC l := by
 unfold mrC relC
 rw [List.flatMap_map]
 rfl
structure ObR (w : World) (B : Nat) (x : ObA) : Prop where
 segs : Rd w B 6 x.As x.o.head.segs.length (segCells x.o.head.segs)
 dyn : DqM w B ⟨toMk x.o.dyn, x.A1, x.c1, x.A2, x.c2, x.A3, x.c3⟩
theorem ObR.below {w w' : World} {B : Nat} {x : ObA} (h : ObR w B x) (hb : Below B w w') : ObR w' B x := ⟨h.segs.below hb, h.dyn.below hb⟩
theorem ObM.rd {w : World} {B : Nat} {x : ObA} (h : ObM w B x) : ObR w w.heap.size x := by
 refine ⟨Rd.of_own h.segs, Rd.of_own h.dyn.needed, Rd.of_own h.dyn.syms, ?_⟩
 have h1 := Rd.of_own h.dyn.relas
 rw [<- toMk_rel] at h1
 show Rd w w.heap.size 4 x.A3 (x.o.dyn.relas.map _).length _
 rw [List.length_map]
 exact h1
theorem obc_len (T : List ObA) : (obC T).length = 11 * T.length := by
 induction T with
 | nil => rfl
 | cons a r ih =>
  rw [show obC (a :: r) = a.l ++ obC r from rfl, List.length_append, ih, List.length_cons, show a.l.length = 11 from rfl]
  omega
theorem obc_at {w : World} {B n : Nat} {A : Option Addr} {T : List ObA} {k : Nat} {x : ObA} (h : Rd w B 11 A n (obC T)) (hk : T[k]? = some x) :
  ∃ b off, A = some ⟨b, off, none⟩ /\ b < B /\ ∀ j v, x.l[j]? = some v -> w.cell? ⟨b, off + k * 11 + j, none⟩ = some v := by
 have hc := vJk ObA.l 11 (fun _ => rfl) T k x hk
 obtain ⟨b, off, ea, hb, hx⟩ := h.open_ (by intro e0; have := hc 0 _ rfl; rw [show T.flatMap ObA.l = obC T from rfl, e0] at this; simp at this)
 exact ⟨b, off, ea, hb, fun j v hv => by rw [Nat.add_assoc]; exact hx _ _ (hc j v hv)⟩
def Ob22 (W w' : World) (b1 o1 b2 o2 k : Nat) (x y : ObA) : Prop := Below W.heap.size W w' /\ w'.cell? ⟨b1, o1 + k * 11, none⟩ = some (.int .i64 x.o.ino) /\ w'.cell? ⟨b1, o1 + k * 11 + 1, none⟩ = some (.int .u64 0) /\ w'.cell? ⟨b1, o1 + k * 11 + 2, none⟩ = some (.int .u16 (x.o.head.type : Nat)) /\ w'.cell? ⟨b1, o1 + k * 11 + 3, none⟩ = some (.int .u64 (x.o.head.entry : Nat)) /\ w'.cell? ⟨b1, o1 + k * 11 + 4, none⟩ = some (.int .u64 (x.o.head.phoff : Nat)) /\ w'.cell? ⟨b1, o1 + k * 11 + 5, none⟩ = some (.slice x.As x.o.head.segs.length x.cs) /\ w'.cell? ⟨b1, o1 + k * 11 + 6, none⟩ = some (.slice x.A1 x.o.dyn.needed.length x.c1) /\ w'.cell? ⟨b1, o1 + k * 11 + 7, none⟩ = some (.string x.o.dyn.soname) /\ w'.cell? ⟨b1, o1 + k * 11 + 8, none⟩ = some (.string x.o.dyn.run) /\ w'.cell? ⟨b1, o1 + k * 11 + 9, none⟩ = some (.slice x.A2 x.o.dyn.syms.length x.c2) /\ w'.cell? ⟨b1, o1 + k * 11 + 10, none⟩ = some (.slice x.A3 x.o.dyn.relas.length x.c3) /\ w'.cell? ⟨b2, o2 + k * 11, none⟩ = some (.int .i64 x.o.ino) /\ w'.cell? ⟨b2, o2 + k * 11 + 1, none⟩ = some (.int .u64 0) /\ w'.cell? ⟨b2, o2 + k * 11 + 2, none⟩ = some (.int .u16 (x.o.head.type : Nat)) /\ w'.cell? ⟨b2, o2 + k * 11 + 3, none⟩ = some (.int .u64 (x.o.head.entry : Nat)) /\ w'.cell? ⟨b2, o2 + k * 11 + 4, none⟩ = some (.int .u64 (x.o.head.phoff : Nat)) /\ w'.cell? ⟨b2, o2 + k * 11 + 5, none⟩ = some (.slice y.As x.o.head.segs.length y.cs) /\ w'.cell? ⟨b2, o2 + k * 11 + 6, none⟩ = some (.slice y.A1 x.o.dyn.needed.length y.c1) /\ w'.cell? ⟨b2, o2 + k * 11 + 7, none⟩ = some (.string x.o.dyn.soname) /\ w'.cell? ⟨b2, o2 + k * 11 + 8, none⟩ = some (.string x.o.dyn.run) /\ w'.cell? ⟨b2, o2 + k * 11 + 9, none⟩ = some (.slice y.A2 x.o.dyn.syms.length y.c2) /\ w'.cell? ⟨b2, o2 + k * 11 + 10, none⟩ = some (.slice y.A3 x.o.dyn.relas.length y.c3)
theorem ob22 {W w' : World} {b1 o1 b2 o2 k : Nat} {x y : ObA} (hb : Below W.heap.size W w') (h1 : b1 < W.heap.size) (h2 : b2 < W.heap.size) (c : ∀ j v, x.l[j]? = some v -> W.cell? ⟨b1, o1 + k * 11 + j, none⟩ = some v) (d : ∀ j v, y.l[j]? = some v -> W.cell? ⟨b2, o2 + k * 11 + j, none⟩ = some v) (hxy : y.o = x.o) : Ob22 W w' b1 o1 b2 o2 k x y := by
 have c' : ∀ j v, x.l[j]? = some v -> w'.cell? ⟨b1, o1 + k * 11 + j, none⟩ = some v := fun j v hv => (hb.cell (p := ⟨b1, _, none⟩) h1).trans (c j v hv)
 have d' : ∀ j v, y.l[j]? = some v -> w'.cell? ⟨b2, o2 + k * 11 + j, none⟩ = some v := fun j v hv => (hb.cell (p := ⟨b2, _, none⟩) h2).trans (d j v hv)
 unfold Ob22
 rw [show y.l = [.int .i64 x.o.ino, .int .u64 0, .int .u16 (x.o.head.type : Nat), .int .u64 (x.o.head.entry : Nat), .int .u64 (x.o.head.phoff : Nat), .slice y.As x.o.head.segs.length y.cs, .slice y.A1 x.o.dyn.needed.length y.c1, .string x.o.dyn.soname, .string x.o.dyn.run, .slice y.A2 x.o.dyn.syms.length y.c2, .slice y.A3 x.o.dyn.relas.length y.c3] by unfold ObA.l; rw [hxy]] at d'
 exact ⟨hb, c' 0 _ rfl, c' 1 _ rfl, c' 2 _ rfl, c' 3 _ rfl, c' 4 _ rfl, c' 5 _ rfl, c' 6 _ rfl, c' 7 _ rfl, c' 8 _ rfl, c' 9 _ rfl, c' 10 _ rfl, d' 0 _ rfl, d' 1 _ rfl, d' 2 _ rfl, d' 3 _ rfl, d' 4 _ rfl, d' 5 _ rfl, d' 6 _ rfl, d' 7 _ rfl, d' 8 _ rfl, d' 9 _ rfl, d' 10 _ rfl⟩
set_option maxRecDepth 100000 in
set_option maxHeartbeats 16000000 in
theorem same16_any (T U : List ObA) (Aa Ab : Option Addr) (ca cb B : Nat) (w : World) (hB : B <= w.heap.size) (hTU : T.map (·.o) = U.map (·.o)) (ha : Rd w B 11 Aa T.length (obC T)) (hb : Rd w B 11 Ab T.length (obC U)) (hx : ∀ x ∈ T, ObR w B x) (hy : ∀ x ∈ U, ObR w B x) (hle : ∀ x ∈ T, Clo.Lens x.o) (h8 : T.length <= 8) :
  Calls Tryz.prog 15 #[.slice Aa T.length ca, .slice Ab T.length cb] w fun e w' => e = .returned (.bool true) /\ Below w.heap.size w w' := by
 have Hax := zJ2 ha
 have Hbx := zJ2 hb
 have Hx := zJ2 hx
 have Hy := zJ2 hy
 have Hle := zJ2 hle
 have Heq := zJ2 hTU
 obtain ⟨n, hn⟩ : ∃ n, T.length = n := ⟨_, rfl⟩
 rw [hn] at Hax Hbx h8 ⊢
 have Hn := zJ2 hn
 clear ha hb hx hy hle hTU hn
 go_enter Tryz.func15, Tryz.ntmps15
 go_wp2_with fail
 go_loopg [5] n (fun gk iv wr => ∃ k : Nat, gk = n - k /\ k <= n /\ iv = .int .i64 k /\ Below w.heap.size w wr)
 case atStart => exact ⟨0, by omega, Nat.zero_le _, rfl, Below.refl _ _⟩
 case round =>
 obtain ⟨k, hgk, hk, rfl, hbl⟩ := hrel
 have Hgk := zJ2 hgk
 have Hbl := zJ2 hbl
 clear hgk hbl
 by_cases hlt : k < n
 ·obtain ⟨x, hs⟩ : ∃ x, T[k]? = some x := ⟨_, List.getElem?_eq_getElem (by rw [zJ1 Hn]; exact hlt)⟩
  obtain ⟨y, ht⟩ : ∃ y, U[k]? = some y := ⟨_, List.getElem?_eq_getElem (by have := congrArg List.length (zJ1 Heq); rw [List.length_map, List.length_map] at this; have := zJ1 Hn; omega)⟩
  have hxy : y.o = x.o := by
   have h1 := congrArg (·[k]?) (zJ1 Heq)
   simp only [List.getElem?_map, hs, ht, Option.map_some, Option.some.injEq] at h1
   exact h1.symm
  have hBw := (zJ1 Hbl).mono hB
  obtain ⟨b1, o1, rfl, hb1, c⟩ := obc_at ((zJ1 Hax).below hBw) hs
  obtain ⟨b2, o2, rfl, hb2, d⟩ := obc_at ((zJ1 Hbx).below hBw) ht
  have hsw := (zJ1 Hbl).size
  have hL := (zJ1 Hle) x (List.mem_of_getElem? hs)
  have rx := ((zJ1 Hx) x (List.mem_of_getElem? hs)).below hBw
  have ry := ((zJ1 Hy) y (List.mem_of_getElem? ht)).below hBw
  obtain ⟨yo, yAs, ycs, yA1, yc1, yA2, yc2, yA3, yc3⟩ := y
  dsimp only at hxy
  subst hxy
  have KH : Hid (∀ w', Below wr.heap.size wr w' -> Calls Tryz.prog 31 #[.agg #[.int .u16 (x.o.head.type : Nat), .int .u64 (x.o.head.entry : Nat), .int .u64 (x.o.head.phoff : Nat), .slice x.As x.o.head.segs.length x.cs], .agg #[.int .u16 (x.o.head.type : Nat), .int .u64 (x.o.head.entry : Nat), .int .u64 (x.o.head.phoff : Nat), .slice yAs x.o.head.segs.length ycs]] w' fun e w2 => e = .returned (.bool true) /\ Below w'.heap.size w' w2) := zJ2 (fun w' hb => same_yes x.As yAs x.o.head.segs.length x.cs ycs B x.o.head.segs x.o.head.type x.o.head.entry x.o.head.phoff w' (by have := hb.size; omega) (rx.segs.below (hb.mono (by omega))) (ry.segs.below (hb.mono (by omega))) (by have := hL.segs; omega))
  have KD : Hid (∀ w', Below wr.heap.size wr w' -> Calls Tryz.prog 32 #[.agg #[.slice x.A1 x.o.dyn.needed.length x.c1, .string x.o.dyn.soname, .string x.o.dyn.run, .slice x.A2 x.o.dyn.syms.length x.c2, .slice x.A3 x.o.dyn.relas.length x.c3], .agg #[.slice yA1 x.o.dyn.needed.length yc1, .string x.o.dyn.soname, .string x.o.dyn.run, .slice yA2 x.o.dyn.syms.length yc2, .slice yA3 x.o.dyn.relas.length yc3]] w' fun e w2 => e = .returned (.bool true) /\ Below w'.heap.size w' w2) := zJ2 (fun w' hb => by
   have h := same13_any ⟨toMk x.o.dyn, x.A1, x.c1, x.A2, x.c2, x.A3, x.c3⟩ ⟨toMk x.o.dyn, yA1, yc1, yA2, yc2, yA3, yc3⟩ rfl B w' (by have := hb.size; omega) (rx.dyn.below (hb.mono (by omega))) (ry.dyn.below (hb.mono (by omega))) (by have := hL.needed; show x.o.dyn.needed.length <= _; omega) (by have := hL.syms; show x.o.dyn.syms.length <= _; omega) (by have := hL.relas; show (x.o.dyn.relas.map _).length <= _; rw [List.length_map]; omega)
   unfold Dq.l toMk at h
   simp only [List.length_map] at h
   exact h)
  generalize wr = W at *
  have HS : Hid (∀ w', Below W.heap.size W w' -> Ob22 W w' b1 o1 b2 o2 k x ⟨x.o, yAs, ycs, yA1, yc1, yA2, yc2, yA3, yc3⟩) := zJ2 (fun w' hb => ob22 hb (by omega) (by omega) c d rfl)
  unfold Ob22 at HS
  obtain ⟨-, x0, x1, x2, x3, x4, x5, x6, x7, x8, x9, x10, y0, y1, y2, y3, y4, y5, y6, y7, y8, y9, y10⟩ := (zJ1 HS) W (Below.refl _ _)
  have i0 : (0 : Int) <= (k : Int) := by omega
  have i1 : (k : Int) < (n : Int) := by omega
  have e1 : (x.o.ino == x.o.ino) = true := beq_self_eq_true _
  clear rx ry hs ht c d hBw hL
  go_wp2_with fail
  go_region_held3 (fun w' => Below W.heap.size W w' /\ w'.cell? ⟨b1, o1 + k * 11, none⟩ = some (.int .i64 x.o.ino) /\ w'.cell? ⟨b1, o1 + k * 11 + 1, none⟩ = some (.int .u64 0) /\ w'.cell? ⟨b1, o1 + k * 11 + 2, none⟩ = some (.int .u16 (x.o.head.type : Nat)) /\ w'.cell? ⟨b1, o1 + k * 11 + 3, none⟩ = some (.int .u64 (x.o.head.entry : Nat)) /\ w'.cell? ⟨b1, o1 + k * 11 + 4, none⟩ = some (.int .u64 (x.o.head.phoff : Nat)) /\ w'.cell? ⟨b1, o1 + k * 11 + 5, none⟩ = some (.slice x.As x.o.head.segs.length x.cs) /\ w'.cell? ⟨b1, o1 + k * 11 + 6, none⟩ = some (.slice x.A1 x.o.dyn.needed.length x.c1) /\ w'.cell? ⟨b1, o1 + k * 11 + 7, none⟩ = some (.string x.o.dyn.soname) /\ w'.cell? ⟨b1, o1 + k * 11 + 8, none⟩ = some (.string x.o.dyn.run) /\ w'.cell? ⟨b1, o1 + k * 11 + 9, none⟩ = some (.slice x.A2 x.o.dyn.syms.length x.c2) /\ w'.cell? ⟨b1, o1 + k * 11 + 10, none⟩ = some (.slice x.A3 x.o.dyn.relas.length x.c3) /\ w'.cell? ⟨b2, o2 + k * 11, none⟩ = some (.int .i64 x.o.ino) /\ w'.cell? ⟨b2, o2 + k * 11 + 1, none⟩ = some (.int .u64 0) /\ w'.cell? ⟨b2, o2 + k * 11 + 2, none⟩ = some (.int .u16 (x.o.head.type : Nat)) /\ w'.cell? ⟨b2, o2 + k * 11 + 3, none⟩ = some (.int .u64 (x.o.head.entry : Nat)) /\ w'.cell? ⟨b2, o2 + k * 11 + 4, none⟩ = some (.int .u64 (x.o.head.phoff : Nat)) /\ w'.cell? ⟨b2, o2 + k * 11 + 5, none⟩ = some (.slice yAs x.o.head.segs.length ycs) /\ w'.cell? ⟨b2, o2 + k * 11 + 6, none⟩ = some (.slice yA1 x.o.dyn.needed.length yc1) /\ w'.cell? ⟨b2, o2 + k * 11 + 7, none⟩ = some (.string x.o.dyn.soname) /\ w'.cell? ⟨b2, o2 + k * 11 + 8, none⟩ = some (.string x.o.dyn.run) /\ w'.cell? ⟨b2, o2 + k * 11 + 9, none⟩ = some (.slice yA2 x.o.dyn.syms.length yc2) /\ w'.cell? ⟨b2, o2 + k * 11 + 10, none⟩ = some (.slice yA3 x.o.dyn.relas.length yc3)) (first | exact (zJ1 HS) _ (zJ3 (Below.refl _ _)) | exact (zJ1 HS) _ (zJ1 hbn)) (first
   | (go_at_call 31; rename Below _ _ _ /\ _ => hH; refine ((zJ1 KH) _ hH.1).mono ?_; rintro e w7 ⟨rfl, hb7⟩; have hbn := zJ2 (hH.1.trans (hb7.mono hH.1.size)); clear hb7)
   | (go_at_call 32; rename Below _ _ _ /\ _ => hH; refine ((zJ1 KD) _ hH.1).mono ?_; rintro e w8 ⟨rfl, hb8⟩; have hbn := zJ2 (hH.1.trans (hb8.mono hH.1.size)); clear hb8))
  clear x0 x1 x2 x3 x4 x5 x6 x7 x8 x9 x10 y0 y1 y2 y3 y4 y5 y6 y7 y8 y9 y10
  go_wp2_with fail
  go_roundg (n - (k + 1))
  case measure => have := zJ1 Hgk; omega
  case rel => exact ⟨k + 1, rfl, by omega, by go_num, (zJ1 Hbl).trans ((zJ1 hbn).mono hsw)⟩
 ·obtain rfl : k = n := by omega
  go_wp2_with fail
  go_ret
  exact ⟨rfl, zJ1 Hbl⟩
end Go.Proofs.YtiiiblmhlhikkaaGreatDoor
namespace Go.Proofs.YtiiiblmhlhikkaaGreatDoor
open Go.RowKit Go.Lib Go.Sort
end Go.Proofs.YtiiiblmhlhikkaaGreatDoor
namespace Go.Proofs.YtiiiblmhlhikkaaGreatDoor
open Go.RowKit
end Go.Proofs.YtiiiblmhlhikkaaGreatDoor
namespace Go.Proofs.YtiiiblmhlhikkaaGreatDoor
open Go.RowKit Go.ChangeShapes Go.WideShapes Go.Joins Go.Deep
theorem credFields : ∃ fs, Tryz.prog.underlying 26 = some (.struct fs) /\ oneCellFields Tryz.prog fs = true /\ Tryz.prog.cellsOf 26 = fs.size /\ fs.map (·.type) = #[23, 23, 23, 23, 24] :=
 ⟨_, Tryz.underlying26, by kernel_rfl, by kernel_rfl, by kernel_rfl⟩
theorem entFields : ∃ fs, Tryz.prog.underlying 66 = some (.struct fs) /\ oneCellFields Tryz.prog fs = true /\ Tryz.prog.cellsOf 66 = fs.size /\ fs.map (·.type) = #[9, 5, 45, 23, 23, 64, 9] :=
 ⟨_, Tryz.underlying66, by kernel_rfl, by kernel_rfl, by kernel_rfl⟩
structure EntIn (w : World) (s : EntA) : Prop where
 d : Rd w w.heap.size 1 s.A s.n (bys s.e.data)
 nc : s.n <= s.c
 c : s.c <= maxLen
 p : s.e.path.size <= maxLen
 t : s.e.to.size <= maxLen
 m : s.e.mode < 65536
 k : s.e.kind < 256
 u : s.e.uid < 4294967296
 g : s.e.gid < 4294967296
section
variable {H : Type} {enc : TypeId × Value -> H} {w : World} {base : Nat} {held : Bool}
set_option maxRecDepth 100000 in
theorem wJk {r : Reach} {b0 : Nat} {v : Value} {d : DataW H} {p : List MemPlace} (hv : Value.okWide Tryz.prog w r b0 26 v) (h : DataW.Trod enc Tryz.prog w base (fun _ => true) held 26 v d p) :
  ∃ (c : Vf.Cred) (A : Option Addr) (n k : Nat), v = credV c A n k /\ Rd w w.heap.size 1 A n (c.groups.map u32v) /\ n <= k /\ k <= maxLen := by
 obtain ⟨cs, rfl, hsz⟩ := okWide_struct Tryz.underlying26 hv
 obtain ⟨fuel, hf⟩ := h
 obtain ⟨hl, n, hf⟩ := vJj _ credFields hf
 have e2 : ∃ c0 c1 c2 c3 c4, cs = #[c0, c1, c2, c3, c4] := by
  obtain ⟨l⟩ := cs
  match l, hl with
  | [c0, c1, c2, c3, c4], _ => exact ⟨c0, c1, c2, c3, c4, rfl⟩
 obtain ⟨c0, c1, c2, c3, c4, rfl⟩ := e2
 obtain ⟨y0, h0⟩ := hf 0 23 c0 rfl rfl
 obtain ⟨y1, h1⟩ := hf 1 23 c1 rfl rfl
 obtain ⟨y2, h2⟩ := hf 2 23 c2 rfl rfl
 obtain ⟨y3, h3⟩ := hf 3 23 c3 rfl rfl
 obtain ⟨y4, h4⟩ := hf 4 24 c4 rfl rfl
 obtain ⟨a0, rfl, b0⟩ := wJ4 Tryz.underlying23 h0
 obtain ⟨a1, rfl, b1⟩ := wJ4 Tryz.underlying23 h1
 obtain ⟨a2, rfl, b2⟩ := wJ4 Tryz.underlying23 h2
 obtain ⟨a3, rfl, b3⟩ := wJ4 Tryz.underlying23 h3
 obtain ⟨A, m, k, rfl⟩ := fslice_is Tryz.underlying24 h4
 obtain ⟨zs, r0, hc0, hm0, hw0⟩ := wJh (d := y4.1) (p := y4.2) Tryz.underlying24 Tryz.underlying23 (by kernel_rfl) ⟨n, h4⟩
 have hz : (zs.map Int.toNat).map u32v = zs.map (Value.int .u32) := by
  rw [List.map_map]
  refine List.map_congr_left fun z hz => ?_
  have : 0 <= z /\ z <= 4294967295 := by simpa [Lit.wf, IntKind.min, IntKind.max, IntKind.signed, IntKind.bits] using hw0 z hz
  show Value.int .u32 ((z.toNat : Nat) : Int) = Value.int .u32 z
  rw [Int.toNat_of_nonneg this.1]
 exact ⟨⟨a0, a1, a2, a3, zs.map Int.toNat⟩, A, m, k, rfl, by rw [hz]; exact r0, hc0, hm0⟩
set_option maxRecDepth 100000 in
theorem ent_vals {fuel : Nat} {cs : List Value} {x : DataW H × List MemPlace} (h : DataW.trod enc Tryz.prog w base (fun _ => true) held fuel 66 cs = some x) : ∃ s : EntA, cs = entVals s /\ EntIn w s := by
 obtain ⟨hl, n, hf⟩ := vJj _ entFields h
 match cs, hl with
 | [c0, c1, c2, c3, c4, c5, c6], _ =>
  obtain ⟨y0, h0⟩ := hf 0 9 c0 rfl rfl
  obtain ⟨y1, h1⟩ := hf 1 5 c1 rfl rfl
  obtain ⟨y2, h2⟩ := hf 2 45 c2 rfl rfl
  obtain ⟨y3, h3⟩ := hf 3 23 c3 rfl rfl
  obtain ⟨y4, h4⟩ := hf 4 23 c4 rfl rfl
  obtain ⟨y5, h5⟩ := hf 5 64 c5 rfl rfl
  obtain ⟨y6, h6⟩ := hf 6 9 c6 rfl rfl
  obtain ⟨a0, rfl, b0⟩ := fstr_is Tryz.underlying9 h0
  obtain ⟨a1, rfl, b1⟩ := fu8_is Tryz.underlying5 h1
  obtain ⟨a2, rfl, b2⟩ := fu16_is Tryz.underlying45 h2
  obtain ⟨a3, rfl, b3⟩ := wJ4 Tryz.underlying23 h3
  obtain ⟨a4, rfl, b4⟩ := wJ4 Tryz.underlying23 h4
  obtain ⟨A, m, k, rfl⟩ := fslice_is Tryz.underlying64 h5
  obtain ⟨a6, rfl, b6⟩ := fstr_is Tryz.underlying9 h6
  obtain ⟨bs, r0, hc0, hm0⟩ := uJq (d := y5.1) (p := y5.2) Tryz.underlying64 Tryz.underlying5 (by kernel_rfl) ⟨n, h5⟩
  exact ⟨⟨⟨a0, a1, a2, a3, a4, bs, a6⟩, A, m, k⟩, rfl, ⟨r0, hc0, hm0, b0, b6, b2, b1, b3, b4⟩⟩
theorem wJj {A : Option Addr} {n c : Nat} {d : DataW H} {p : List MemPlace} (h : DataW.Trod enc Tryz.prog w base (fun _ => true) held 22 (.slice A n c) d p) :
  ∃ l : List EntA, Rd w w.heap.size 7 A n (rowCs entVals l) /\ l.length = n /\ n <= c /\ c <= maxLen /\ ∀ s ∈ l, EntIn w s := by
 obtain ⟨fuel, hf⟩ := h
 exact vJe (size := 7) Tryz.underlying22 (by kernel_rfl) (by omega) entVals _ (fun _ => rfl) (fun _ _ _ h => ent_vals h) hf
end
end Go.Proofs.YtiiiblmhlhikkaaGreatDoor
namespace Go.Proofs.YtiiiblmhlhikkaaGreatDoor
open Go.RowKit
theorem entTy : SlTy Tryz.prog 22 66 7 72 := yJ0 (z := .agg #[.string ⟨#[]⟩, .int .u8 0, .int .u16 0, .int .u32 0, .int .u32 0, .slice none 0 0, .string ⟨#[]⟩]) Tryz.underlying22 (by kernel_rfl) rfl (by omega) (by omega)
def LgE (l : List EntA) (n : Nat) (w : World) (e : Ending) (w' : World) : Prop :=
 ∃ b q, e = .returned (.bool b) /\ (b = false -> n <= 262144 /\ ∀ s ∈ l, s.e.path.size <= 262144 /\ s.n <= 262144 /\ s.e.to.size <= 262144) /\ w' = w.drewN q
set_option maxRecDepth 100000 in
set_option maxHeartbeats 1000000 in
theorem large_any (l : List EntA) (A : Option Addr) (n c B : Nat) (w : World) (h : Rd w B 7 A n (rowCs entVals l)) (hl : l.length = n) (hn : n <= maxLen) (hsz : ∀ s ∈ l, s.e.path.size <= maxLen /\ s.n <= maxLen /\ s.e.to.size <= maxLen) :
  Calls Tryz.prog 7 #[.slice A n c] w (LgE l n w) := by
 have H := zJ2 h
 have Hl := zJ2 hl
 have Hsz := zJ2 hsz
 unfold maxLen at hn
 clear h hl hsz
 go_enter Tryz.func7, Tryz.ntmps7
 go_wp2_with fail
 go_loopg [3, 4] n (fun gk av iv wr => ∃ (k a q : Nat), gk = n - k /\ k <= n /\ iv = .int .i64 (k : Nat) /\ av = .int .i64 (a : Nat) /\ n <= a /\ (k = 0 /\ a = n \/ a <= 1835008) /\ (∀ s ∈ l.take k, min s.e.path.size 524288 <= a /\ min s.n 524288 <= a /\ min s.e.to.size 524288 <= a) /\ wr = w.drewN q)
 case atStart => exact ⟨0, n, 0, by omega, Nat.zero_le _, rfl, rfl, Nat.le_refl _, .inl ⟨rfl, rfl⟩, by simp, rfl⟩
 case round =>
 obtain ⟨k, a, q, hgk, hk, rfl, rfl, hna, hab, hall, rfl⟩ := hrel
 have Hgk := zJ2 hgk
 have Hall := zJ2 hall
 clear hgk hall
 by_cases hgo : k < n /\ a <= 262144
 ·obtain ⟨hlt, ha⟩ := hgo
  obtain ⟨s, hs⟩ : ∃ s, l[k]? = some s := ⟨_, List.getElem?_eq_getElem (by rw [zJ1 Hl]; exact hlt)⟩
  obtain ⟨b1, o1, rfl, hb1, c1⟩ := (zJ1 H).open_ (by
   intro h0
   have := yJq (vals := entVals) (size := 7) (fun _ => rfl) l
   rw [h0, zJ1 Hl] at this
   simp at this
   omega)
  have hc : ∀ j u, (entVals s)[j]? = some u -> w.cell? ⟨b1, o1 + (k * 7 + j), none⟩ = some u := by
   intro j u hu
   have hj : j < 7 := (List.getElem?_eq_some_iff.1 hu).1
   refine c1 _ _ ?_
   rw [wJp (vals := entVals) (size := 7) (fun _ => rfl) l k s hs j hj, hu]
  have x0 := hc 0 _ rfl
  have x5 := hc 5 _ rfl
  have x6 := hc 6 _ rfl
  rw [Nat.add_zero] at x0
  simp only [<- Nat.add_assoc] at x5 x6
  obtain ⟨z0, z5, z6⟩ := (zJ1 Hsz) s (List.mem_of_getElem? hs)
  unfold maxLen at z0 z5 z6
  obtain ⟨m0, hm0⟩ : ∃ m, min s.e.path.size 524288 = m := ⟨_, rfl⟩
  obtain ⟨m5, hm5⟩ : ∃ m, min s.n 524288 = m := ⟨_, rfl⟩
  obtain ⟨m6, hm6⟩ : ∃ m, min s.e.to.size 524288 = m := ⟨_, rfl⟩
  have r0 : min (s.e.path.size : Int) 524288 = (m0 : Int) := by omega
  have r5 : min (s.n : Int) 524288 = (m5 : Int) := by omega
  have r6 : min (s.e.to.size : Int) 524288 = (m6 : Int) := by omega
  have u0 : m0 <= 524288 := by omega
  have u5 : m5 <= 524288 := by omega
  have u6 : m6 <= 524288 := by omega
  have w1 : IntKind.i64.wrap ((a : Int) + (m0 : Int)) = (a : Int) + (m0 : Int) := IntWalk.i64_in _ (by omega)
  have w2 : IntKind.i64.wrap ((a : Int) + (m0 : Int) + (m5 : Int)) = (a : Int) + (m0 : Int) + (m5 : Int) := IntWalk.i64_in _ (by omega)
  have w3 : IntKind.i64.wrap ((a : Int) + (m0 : Int) + (m5 : Int) + (m6 : Int)) = (a : Int) + (m0 : Int) + (m5 : Int) + (m6 : Int) := IntWalk.i64_in _ (by omega)
  have i1 : (k : Int) < (n : Int) := by omega
  have i0 : (0 : Int) <= (k : Int) := by omega
  have i2 : (a : Int) <= 262144 := by omega
  have Hs := zJ2 hs
  have Hm := zJ2 (And.intro hm0 (And.intro hm5 hm6))
  clear hc c1 hs hm0 hm5 hm6 z0 z5 z6 hab
  go_wp2_with fail
  go_quiet (fail)
  go_wp2_with fail
  go_roundg (n - (k + 1))
  case rel =>
   refine ⟨k + 1, a + m0 + m5 + m6, q + nq, rfl, by omega, by go_num, by go_num, by omega, .inr (by omega), ?_, ?_⟩
   ·intro t ht
    rw [List.take_add_one, zJ1 Hs] at ht
    obtain ⟨e0, e5, e6⟩ := zJ1 Hm
    rcases List.mem_append.1 ht with ht | ht
    ·have := (zJ1 Hall) t ht
     omega
    ·have : t = s := by simpa using ht
     subst this
     omega
   ·simp [World.drewN, Nat.add_assoc]
  case measure => rw [zJ1 Hgk]; omega
 ·have hor : (¬ (k : Int) < (n : Int)) \/ ((k : Int) < (n : Int) /\ ¬ (a : Int) <= 262144) := by omega
  have hres : (a <= 262144) -> n <= 262144 /\ ∀ s ∈ l, s.e.path.size <= 262144 /\ s.n <= 262144 /\ s.e.to.size <= 262144 := by
   intro ha
   have hkn : k = n := by omega
   refine ⟨by omega, fun s hs => ?_⟩
   have h1 := (zJ1 Hall) s (by rw [List.take_of_length_le (by rw [zJ1 Hl]; omega)]; exact hs)
   omega
  have Hres := zJ2 hres
  clear hgo hres hab
  by_cases hbig : 262144 < a
  ·have i2 : (262144 : Int) < (a : Int) := by omega
   rcases hor with h1 | ⟨h1, h2⟩
   all_goals
    go_wp2_with fail
    go_ret
    exact ⟨true, q, rfl, fun h => absurd h (by decide), rfl⟩
  ·have i2 : ¬ (262144 : Int) < (a : Int) := by omega
   have Hbig := zJ2 hbig
   rcases hor with h1 | ⟨h1, h2⟩
   ·clear hbig
    go_wp2_with fail
    go_ret
    exact ⟨false, q, rfl, fun _ => (zJ1 Hres) (by have := zJ1 Hbig; omega), rfl⟩
   ·exact absurd h2 (by omega)
structure CpS (w : World) (es : List Vf.Ent) (A : Option Addr) (c : Nat) (l' : List EntA) (W : World) : Prop where
 map : l'.map (·.e) = es
 row : W.ownsRow w.heap.size 66 7 (.slice A l'.length c) l'.length (rowCs entVals l')
 dat : ∀ s ∈ l', W.ownsRow w.heap.size 5 1 (.slice s.A s.n s.c) s.n (bys s.e.data)
 apart : l'.Pairwise (fun s t => ∀ g, (Value.slice s.A s.n s.c).ownBlock = some g -> (Value.slice t.A t.n t.c).ownBlock ≠ some g)
 bel : Below w.heap.size w W
section
variable {w W W' : World} {es : List Vf.Ent} {A : Option Addr} {c : Nat} {l' : List EntA}
theorem CpS.keep (h : CpS w es A c l' W) (hk : ∀ k, w.heap.size <= k -> k < W.heap.size -> W'.heap[k]? = W.heap[k]?) (hb : Below w.heap.size w W') : CpS w es A c l' W' :=
 ⟨h.map, vJc h.row hk, fun s hs => vJc (h.dat s hs) hk, h.apart, hb⟩
theorem CpS.below (h : CpS w es A c l' W) (hb : Below W.heap.size W W') : CpS w es A c l' W' := h.keep (fun k _ hk => hb.block k hk) (h.bel.trans (hb.mono h.bel.size))
theorem CpS.len (h : CpS w es A c l' W) : l'.length = es.length := by rw [<- h.map, List.length_map]
end
theorem row_blkS {w : World} {base n c k size : Nat} {e : TypeId} {A : Option Addr} {xs : List Value} (h : w.ownsRow base e size (.slice A n c) n xs) (hk : (Value.slice A n c).ownBlock = some k) : ∃ cs, w.heap[k]? = some (.cells cs e (0, 0)) := by
 rcases h.2 with ⟨h1, h2⟩ | ⟨g, cap, cur, hv, hbg, hh, hcap⟩
 ·rw [h1] at hk; cases hk
 ·rw [hv] at hk
  have : g = k := by simpa [Value.ownBlock] using hk
  exact ⟨cur, this ▸ hh⟩
theorem own_tyne {w : World} {base base2 n c n2 c2 size size2 : Nat} {e e2 : TypeId} {A A2 : Option Addr} {xs xs2 : List Value} (h : w.ownsRow base e size (.slice A n c) n xs) (h2 : w.ownsRow base2 e2 size2 (.slice A2 n2 c2) n2 xs2) (hne : e ≠ e2) : (Value.slice A n c).ownBlock = none \/ (Value.slice A n c).ownBlock ≠ (Value.slice A2 n2 c2).ownBlock := by
 cases hv : (Value.slice A n c).ownBlock with
 | none => exact .inl rfl
 | some k =>
  refine .inr fun e0 => ?_
  obtain ⟨cs, h3⟩ := row_blkS h hv
  obtain ⟨cs2, h4⟩ := row_blkS h2 e0.symm
  rw [h3] at h4
  injection h4 with h4
  injection h4 with _ h5
  exact hne h5
theorem CpS.next {w W0 W W' : World} {es : List Vf.Ent} {A0 A : Option Addr} {c0 c : Nat} {l' : List EntA} (h0 : CpS w es A c l' W0) (h : CpS w es A c l' W) (s : EntA) (hd : W.ownsRow (W0.heap.size + 1) 5 1 (.slice s.A s.n s.c) s.n (bys s.e.data)) (hlo : w.heap.size <= W0.heap.size)
  (A' : Option Addr) (c' : Nat) (hr : W'.ownsRow w.heap.size 66 7 (.slice A' (l'.length + 1) c') (l'.length + 1) (rowCs entVals l' ++ entVals s)) (hg : W.grownBy W' (Value.slice A l'.length c).ownBlock) : CpS w (es ++ [s.e]) A' c' (l' ++ [s]) W' := by
 have hne : (5 : TypeId) ≠ 66 := by decide
 refine ⟨by rw [List.map_append, h.map]; rfl, ?_, ?_, ?_, h.bel.grown hg h.bel.size (fun k hk => (h.row.lt k hk).1)⟩
 ·rw [List.length_append, rowCs_app]
  have e1 : rowCs entVals [s] = entVals s := by simp [rowCs]
  rw [e1]
  exact hr
 ·intro t ht
  rcases List.mem_append.1 ht with ht | ht
  ·exact (h.dat t ht).kept hg (own_tyne (h.dat t ht) h.row hne)
  ·have e1 : t = s := by simpa using ht
   subst e1
   exact zJd (hd.kept hg (own_tyne hd h.row hne)) (by omega)
 ·rw [List.pairwise_append]
  refine ⟨h.apart, by simp, fun t ht u hu g hg2 e => ?_⟩
  have e1 : u = s := by simpa using hu
  subst e1
  have a1 := ((h0.dat t ht).lt g hg2).2
  have a2 := (hd.lt g e).1
  omega
def CpE (es : List Vf.Ent) (w : World) (e : Ending) (w' : World) : Prop := ∃ A c l', e = .returned (.slice A es.length c) /\ CpS w es A c l' w'
theorem entC_one (s : EntA) : ∀ u ∈ (entVals s), u.oneCell' = true := by
 intro u hu
 simp only [entVals, ventC, List.mem_cons, List.not_mem_nil, or_false] at hu
 rcases hu with rfl | rfl | rfl | rfl | rfl | rfl | rfl <;> rfl
set_option maxRecDepth 100000 in
set_option maxHeartbeats 4000000 in
theorem wJl (l : List EntA) (A : Option Addr) (n c B : Nat) (w : World) (h : Rd w B 7 A n (rowCs entVals l)) (hB : B <= w.heap.size) (hl : l.length = n) (hn : n <= 4294967296) (hok : ∀ s ∈ l, Rd w B 1 s.A s.n (bys s.e.data) /\ s.n <= 4294967296) :
  Calls Tryz.prog 10 #[.slice A n c] w (CpE (l.map (·.e)) w) := by
 have H := zJ2 h
 have Hl := zJ2 hl
 have Hok := zJ2 hok
 clear h hl hok
 go_enter Tryz.func10, Tryz.ntmps10
 go_wp2_with fail
 go_loopg [3, 4] n (fun gk lv iv wr => ∃ (k : Nat) (A1 : Option Addr) (c1 : Nat) (l1 : List EntA), gk = n - k /\ k <= n /\ l1.length = k /\ iv = .int .i64 (k : Nat) /\ lv = .slice A1 k c1 /\ CpS w ((l.take k).map (·.e)) A1 c1 l1 wr)
 case atStart => exact ⟨0, none, 0, [], by omega, Nat.zero_le _, rfl, rfl, rfl, rfl, World.ownsRow_nil _ _ _ _, by simp, by simp, Below.refl _ _⟩
 case round =>
 obtain ⟨k, A1, c1, l1, hgk, hk, hl1, rfl, rfl, hS⟩ := hrel
 have Hgk := zJ2 hgk
 have Hl1 := zJ2 hl1
 have HS := zJ2 hS
 have hsz := hS.bel.size
 clear hgk hS hl1
 by_cases hlt : k < n
 ·obtain ⟨s, hs⟩ : ∃ s, l[k]? = some s := ⟨_, List.getElem?_eq_getElem (by rw [zJ1 Hl]; exact hlt)⟩
  obtain ⟨b1, o1, rfl, hb1, cc1⟩ := (zJ1 H).open_ (by
   intro h0
   have := yJq (vals := entVals) (size := 7) (fun _ => rfl) l
   rw [h0, zJ1 Hl] at this
   simp at this
   omega)
  have hc : ∀ j u, (entVals s)[j]? = some u -> wr.cell? ⟨b1, o1 + (k * 7 + j), none⟩ = some u := by
   intro j u hu
   have hj : j < 7 := (List.getElem?_eq_some_iff.1 hu).1
   refine ((zJ1 HS).bel.cell (p := ⟨b1, _, none⟩) (Nat.lt_of_lt_of_le hb1 hB)).trans (cc1 _ _ ?_)
   rw [wJp (vals := entVals) (size := 7) (fun _ => rfl) l k s hs j hj, hu]
  have x0 := hc 0 _ rfl
  have x1 := hc 1 _ rfl
  have x2 := hc 2 _ rfl
  have x3 := hc 3 _ rfl
  have x4 := hc 4 _ rfl
  have x5 := hc 5 _ rfl
  have x6 := hc 6 _ rfl
  rw [Nat.add_zero] at x0
  simp only [<- Nat.add_assoc] at x1 x2 x3 x4 x5 x6
  obtain ⟨hd, hdn⟩ := (zJ1 Hok) s (List.mem_of_getElem? hs)
  have hbA : Below wr.heap.size wr (wr.alloc (.cells #[.string s.e.path, .int .u8 (s.e.kind : Nat), .int .u16 (s.e.mode : Nat), .int .u32 (s.e.uid : Nat), .int .u32 (s.e.gid : Nat), .slice s.A s.n s.c, .string s.e.to] 66)) := (Below.refl _ _).alloc (Nat.le_refl _) _
  have hbW := (zJ1 HS).bel.trans (hbA.mono hsz)
  have KC := zJ2 (xJu s.A s.n s.c w.heap.size s.e.data (wr.alloc (.cells #[.string s.e.path, .int .u8 (s.e.kind : Nat), .int .u16 (s.e.mode : Nat), .int .u32 (s.e.uid : Nat), .int .u32 (s.e.gid : Nat), .slice s.A s.n s.c, .string s.e.to] 66)) hbW.size ((hd.more hB).below hbW) hdn)
  have ilt : (k : Int) < (n : Int) := by omega
  have Hs := zJ2 hs
  have HbA := zJ2 hbA
  clear hc cc1 hs hd hdn hbA hbW
  go_wp2_with fail
  refine (zJ1 KC).mono ?_
  rintro e w2 ⟨A2, c2, rfl, ho2, hb2⟩
  have hq : Blk w2 wr.heap.size 66 [.string s.e.path, .int .u8 (s.e.kind : Nat), .int .u16 (s.e.mode : Nat), .int .u32 (s.e.uid : Nat), .int .u32 (s.e.gid : Nat), .slice s.A s.n s.c, .string s.e.to] := (Blk.new wr 66 _).belowSz hb2
  have hq2 := hq.set 5 (.slice A2 s.n c2)
  have hb3 := (zJ1 HbA).trans (hb2.mono (by simp))
  have hb4 := hb3.setCell (p := ⟨wr.heap.size, 5, none⟩) (Nat.le_refl _) (.slice A2 s.n c2)
  have ho4 : (w2.setCell ⟨wr.heap.size, 5, none⟩ (.slice A2 s.n c2)).ownsRow (wr.heap.size + 1) 5 1 (.slice A2 s.n c2) s.n (bys s.e.data) := by
   rw [World.size_alloc] at ho2
   exact wJ3 ho2 (fun g hg => heap_setCell_other _ _ _ _ (by have := (ho2.lt g hg).1; show g ≠ wr.heap.size; omega))
  obtain ⟨p0, p1, p2, p3, p4, p5, p6⟩ : w2.cell? ⟨wr.heap.size, 0, none⟩ = some (.string s.e.path) /\ w2.cell? ⟨wr.heap.size, 1, none⟩ = some (.int .u8 (s.e.kind : Nat)) /\ w2.cell? ⟨wr.heap.size, 2, none⟩ = some (.int .u16 (s.e.mode : Nat)) /\ w2.cell? ⟨wr.heap.size, 3, none⟩ = some (.int .u32 (s.e.uid : Nat)) /\ w2.cell? ⟨wr.heap.size, 4, none⟩ = some (.int .u32 (s.e.gid : Nat)) /\ w2.cell? ⟨wr.heap.size, 5, none⟩ = some (.slice s.A s.n s.c) /\ w2.cell? ⟨wr.heap.size, 6, none⟩ = some (.string s.e.to) := ⟨hq.cell rfl, hq.cell rfl, hq.cell rfl, hq.cell rfl, hq.cell rfl, hq.cell rfl, hq.cell rfl⟩
  have pf := hq.free 5
  have HS4 := zJ2 ((zJ1 HS).below hb4)
  have Ho4 := zJ2 ho4
  have Hb4 := zJ2 hb4
  have hsz4 : wr.heap.size <= (w2.setCell ⟨wr.heap.size, 5, none⟩ (.slice A2 s.n c2)).heap.size := hb4.size
  have hszw : w.heap.size <= (w2.setCell ⟨wr.heap.size, 5, none⟩ (.slice A2 s.n c2)).heap.size := Nat.le_trans hsz hsz4
  have Hq2 := zJ2 hq2
  have hrow4 := (zJ1 HS4).row
  rw [zJ1 Hl1] at hrow4
  have Hrow4 := zJ2 hrow4
  have hent : (l.take (k + 1)).map (·.e) = (l.take k).map (·.e) ++ [s.e] := by
   rw [List.take_add_one, zJ1 Hs, List.map_append]
   rfl
  have Hent := zJ2 hent
  clear x0 x1 x2 x3 x4 x5 x6 hb2 ho2 hq hq2 hb3 hb4 ho4 KC HbA hrow4 hent
  go_wp2_with (at_builtin; refine zJh entTy rfl _ _ rfl w.heap.size (.slice A1 k c1) k _ rfl (zJ1 Hrow4) #[.string s.e.path, .int .u8 (s.e.kind : Nat), .int .u16 (s.e.mode : Nat), .int .u32 (s.e.uid : Nat), .int .u32 (s.e.gid : Nat), .slice A2 s.n c2, .string s.e.to] _ rfl (by simp) rfl (entC_one ⟨s.e, A2, s.n, c2⟩) (by omega) hszw ?_; intro A5 c5 w5 ho5 hg5 hat5; have Ho5 := zJ2 ho5; have Hg5 := zJ2 hg5; clear ho5 hg5 hat5)
  go_roundg (n - (k + 1))
  case rel =>
   have hg5 := zJ1 Hg5
   refine ⟨k + 1, A5, c5, l1 ++ [⟨s.e, A2, s.n, c2⟩], rfl, by omega, by rw [List.length_append, zJ1 Hl1]; rfl, by go_num, rfl, ?_⟩
   rw [zJ1 Hent]
   exact CpS.next (A0 := A1) (c0 := c1) (zJ1 HS) (zJ1 HS4) ⟨s.e, A2, s.n, c2⟩ (zJ1 Ho4) hsz A5 c5 (by rw [zJ1 Hl1]; exact zJ1 Ho5) (by rw [zJ1 Hl1]; exact hg5)
  case measure => rw [zJ1 Hgk]; omega
 ·have ilt : ¬ (k : Int) < (n : Int) := by omega
  have hkn : k = n := by omega
  go_wp2_with fail
  go_ret
  have hS := zJ1 HS
  rw [List.take_of_length_le (by rw [zJ1 Hl]; omega)] at hS
  refine ⟨A1, c1, l1, ?_, hS⟩
  rw [List.length_map, zJ1 Hl]
  first | rfl | rw [hkn]
open Go.RowKit
def EsFit (es : List Vf.Ent) : Prop := ∀ e ∈ es, e.path.size <= 262144 /\ e.data.length <= 262144 /\ e.to.size <= 262144 /\ e.mode < 65536
theorem CpS.newArgs {w W : World} {es : List Vf.Ent} {A : Option Addr} {c : Nat} {l' : List EntA} (h : CpS w es A c l' W) (hs : EsFit es) : Rd W W.heap.size 7 A l'.length (rowCs entVals l') /\ ∀ s ∈ l', EntOk W s := by
 refine ⟨Rd.of_own h.row, fun s hm => ?_⟩
 have hd := h.dat s hm
 have he : s.e ∈ es := by rw [<- h.map]; exact List.mem_map.2 ⟨s, hm, rfl⟩
 obtain ⟨a, b, d, e⟩ := hs s.e he
 have hlen : s.e.data.length = s.n := by have := hd.1; simpa [bys] using this
 exact ⟨Rd.of_own hd, by omega, by omega, by omega, e⟩
theorem esFit_of {l : List EntA} {w : World} (hin : ∀ s ∈ l, EntIn w s) (h : ∀ s ∈ l, s.e.path.size <= 262144 /\ s.n <= 262144 /\ s.e.to.size <= 262144) : EsFit (l.map (·.e)) := by
 intro e he
 obtain ⟨s, hs, rfl⟩ := List.mem_map.1 he
 obtain ⟨a, b, d⟩ := h s hs
 have hlen : s.e.data.length = s.n := by have := (hin s hs).d.len1; simpa [bys] using this
 exact ⟨a, by omega, d, (hin s hs).m⟩
section
variable {w W W' : World} {c : Vf.Cred} {A : Option Addr} {n k : Nat} {src : Int} {path : ByteArray} {last : Bool}
end
open Go.RowKit
theorem newE16 {es : List Vf.Ent} {w w' : World} {e : Ending} {ne ni : Int} {F : List Vf.Nd} (h : NewE es w e w') (hn : Vf.new es = (ne, ni, F)) :
  Below w.heap.size w w' /\ ∃ fo, e = .returned (.tuple #[.pointer fo, .int .i64 ne, .int .i64 ni]) /\ (fo = none \/ ∃ f A c L, fo = some ⟨f, 0, none⟩ /\ FsM w' w.heap.size f A c F L /\ Vf.Good F /\ F.length <= 65) := by
 unfold NewE at h
 rw [hn] at h
 obtain ⟨hb, ⟨h0, rfl⟩ | ⟨h0, f, A, c, L, rfl, hf, hg, hl, h1, h2⟩⟩ := h
 ·exact ⟨hb, none, rfl, .inl rfl⟩
 ·dsimp only at h0 h1
  subst h0
  subst h1
  exact ⟨hb, some ⟨f, 0, none⟩, rfl, .inr ⟨f, A, c, L, rfl, hf, hg, by rw [hl]; omega⟩⟩
set_option maxRecDepth 100000 in
set_option maxHeartbeats 4000000 in
theorem xJv (l : List EntA) (A : Option Addr) (n c : Nat) (cr : Vf.Cred) (Ag : Option Addr) (ng kg : Nat) (main : Int) (lib : ByteArray) (sec : Bool) (w : World) (h : Rd w w.heap.size 7 A n (rowCs entVals l)) (hl : l.length = n) (hnc : n <= c) (hcm : c <= maxLen) (hin : ∀ s ∈ l, EntIn w s)
  (hg : Rd w w.heap.size 1 Ag ng (cr.groups.map u32v)) (hgm : ng <= maxLen) (hlib : lib.size <= maxLen) :
  Calls Tryz.prog 5 #[.slice A n c, credV cr Ag ng kg, .agg #[.int .i64 main, .string lib, .bool sec]] w fun e w' => e = .returned (.bool true) /\ Below w.heap.size w w' := by
 have S0 := zJ2 (FrS.start w cr Ag ng kg main lib sec)
 have KL := zJ2 (large_any l A n c w.heap.size _ (h.below (zJ1 S0).bel) hl (Nat.le_trans hnc hcm) (fun s hs => ⟨(hin s hs).p, Nat.le_trans (hin s hs).nc (hin s hs).c, (hin s hs).t⟩))
 have KW := zJ2 wJw
 have H := zJ2 h
 have Hin := zJ2 hin
 have Hg := zJ2 hg
 have Hl := zJ2 hl
 unfold credV
 clear h hin hg hl
 go_enter Tryz.func5, Tryz.ntmps5
 go_wp2_with fail
 refine (zJ1 KL).mono ?_
 rintro e w1 ⟨lb, q, rfl, hlb, rfl⟩
 have S1 := zJ2 ((zJ1 S0).drewN q)
 have Hlb := zJ2 hlb
 clear hlb S0 KL
 generalize ((w.alloc (.cells #[.int .u32 (cr.uid : Nat), .int .u32 (cr.euid : Nat), .int .u32 (cr.suid : Nat), .int .u32 (cr.gid : Nat), .slice Ag ng kg] 26)).alloc (.cells #[.int .i64 main, .string lib, .bool sec] 28)).drewN q = W1 at *
 obtain ⟨⟨v0, v1, v2, v3, v4⟩, y0, y1, y2⟩ := (zJ1 S1).cells
 cases lb with
 | true =>
  go_wp2_with fail
  refine ((zJ1 KW) _).mono ?_
  rintro e w2 ⟨rfl, hb2⟩
  have S2 := zJ2 ((zJ1 S1).below hb2)
  clear hb2
  go_wp2_with fail
  go_ret
  exact ⟨rfl, (zJ1 S2).bel⟩
 | false =>
 by_cases hgr : ng <= 1024
 case neg =>
  have q1 : (1024 : Int) < (ng : Int) := by omega
  clear hgr
  go_wp2_with fail
  refine ((zJ1 KW) _).mono ?_
  rintro e w2 ⟨rfl, hb2⟩
  have S2 := zJ2 ((zJ1 S1).below hb2)
  clear hb2
  go_wp2_with fail
  go_ret
  exact ⟨rfl, (zJ1 S2).bel⟩
 have q1 : ¬ (1024 : Int) < (ng : Int) := by omega
 by_cases hlr : lib.size <= 1024
 case neg =>
  have q2 : (1024 : Int) < (lib.size : Int) := by omega
  clear hlr
  go_wp2_with fail
  refine ((zJ1 KW) _).mono ?_
  rintro e w2 ⟨rfl, hb2⟩
  have S2 := zJ2 ((zJ1 S1).below hb2)
  clear hb2
  go_wp2_with fail
  go_ret
  exact ⟨rfl, (zJ1 S2).bel⟩
 have q2 : ¬ (1024 : Int) < (lib.size : Int) := by omega
 obtain ⟨hn26, hall⟩ := (zJ1 Hlb) (by first | rfl | trivial)
 have hfit := esFit_of (zJ1 Hin) hall
 have KC := wJl l A n c w.heap.size W1 ((zJ1 H).below (zJ1 S1).bel) (zJ1 S1).bel.size (zJ1 Hl) (by omega) (fun s hs => ⟨((zJ1 Hin) s hs).d.below (zJ1 S1).bel, by have := (hall s hs).2.1; omega⟩)
 have HKC := zJ2 KC
 have Hfit := zJ2 hfit
 clear KC hall hfit Hlb Hin
 go_wp2_with fail
 refine (zJ1 HKC).mono ?_
 rintro e w3 ⟨A3, c3, l3, rfl, hcp⟩
 obtain ⟨hr3, hok3⟩ := hcp.newArgs (zJ1 Hfit)
 have hlen3 : l3.length = (l.map (·.e)).length := hcp.len
 have hes64 : (l.map (·.e)).length = n := by rw [List.length_map, zJ1 Hl]
 have KN := new_any l3 A3 (l.map (·.e)).length c3 w3 (by rw [<- hlen3]; exact hr3) hlen3 hok3 (by rw [hes64]; omega)
 rw [hcp.map, hes64] at KN
 obtain ⟨⟨ne, ni, F⟩, hnew⟩ : ∃ r, Vf.new (l.map (·.e)) = r := ⟨_, rfl⟩
 have S3 := zJ2 ((zJ1 S1).below hcp.bel)
 have HKN := zJ2 KN
 have Hnew := zJ2 hnew
 have Hes := zJ2 hes64
 rw [hes64]
 clear hr3 hok3 KN hlen3 S1 HKC hcp hes64 hnew v0 v1 v2 v3 v4 y0 y1 y2
 go_wp2_with fail
 refine (zJ1 HKN).mono ?_
 intro e w4 hN
 obtain ⟨hb4, fo, rfl, hF⟩ := newE16 hN (zJ1 Hnew)
 have S4 := zJ2 ((zJ1 S3).below hb4)
 obtain ⟨⟨v0, v1, v2, v3, v4⟩, y0, y1, y2⟩ := (zJ1 S4).cells
 rcases hF with rfl | ⟨f, Af, cf, L, rfl, hFS, hFg, hn65⟩
 ·clear hN HKN hb4
  go_wp2_with fail
  refine ((zJ1 KW) _).mono ?_
  rintro e w5 ⟨rfl, hb5⟩
  have S5 := zJ2 ((zJ1 S4).below hb5)
  clear hb5
  go_wp2_with fail
  go_ret
  exact ⟨rfl, (zJ1 S5).bel⟩
 have KX := zJ2 (fun (li : ByteArray) (se : Bool) (hli : li.size <= 65536) (w' : World) (hb : Below w4.heap.size w4 w') => xJf F L _ f cf Af Ag ng kg cr main li se w' hFg (hFS.belowSz hb) hn65 (((zJ1 Hg).below ((zJ1 S4).bel.trans (hb.mono (zJ1 S4).bel.size))).more (Nat.le_trans (zJ1 S4).bel.size hb.size)) hgm hli)
 have K1 := (zJ1 KX) lib true (by omega) w4 (Below.refl _ _)
 rw [Clo.closure_secure] at K1
 have K2 := fun w' hb => (zJ1 KX) ⟨#[]⟩ false (by decide) w' hb
 obtain ⟨p, hp⟩ : ∃ p, Clo.closure F ⟨cr, ⟨#[]⟩, false⟩ main = p := ⟨_, rfl⟩
 have hlens := Clo.closure_lens (F := F) (c := ⟨cr, ⟨#[]⟩, false⟩) main
 have h8 := Clo.closure_len8 (F := F) (c := ⟨cr, ⟨#[]⟩, false⟩) main
 rw [hp] at hlens h8
 simp only [hp] at K1 K2
 unfold ClosE credV at K1 K2
 have HK1 := zJ2 K1
 have HK2 := zJ2 K2
 have Hle := zJ2 hlens
 clear hN HKN hb4 K1 K2 KX hFS hFg hlens hp hn65
 go_wp2_with fail
 refine (zJ1 HK1).mono ?_
 rintro e w5 ⟨hb5, T, Aa, ca, hT, rfl, ha, hoa⟩
 have S5 := zJ2 ((zJ1 S4).below hb5)
 have K2 := (zJ1 HK2) w5 hb5
 have HK2' := zJ2 K2
 have Ha := zJ2 (Rd.of_own ha)
 have Hoa := zJ2 hoa
 have HT := zJ2 hT
 clear v0 v1 v2 v3 v4 y0 y1 y2 K2 HK1 HK2 ha hoa hT
 obtain ⟨⟨v0, v1, v2, v3, v4⟩, y0, y1, y2⟩ := (zJ1 S5).cells
 go_wp2_with fail
 refine (zJ1 HK2').mono ?_
 rintro e w6 ⟨hb6, U, Ab, cb, hU, rfl, hb, hob⟩
 have S6 := zJ2 ((zJ1 S5).below hb6)
 have hTU : T.map (·.o) = U.map (·.o) := (zJ1 HT).trans hU.symm
 have hlTU : T.length = U.length := by have := congrArg List.length hTU; simpa using this
 have hT8 : T.length <= 8 := by have := congrArg List.length (zJ1 HT); rw [List.length_map] at this; omega
 have KS := same16_any T U Aa Ab ca cb w6.heap.size w6 (Nat.le_refl _) hTU ((zJ1 Ha).belowSz hb6) (by rw [hlTU]; exact Rd.of_own hb) (fun x hx => (((zJ1 Hoa) x hx).belowSz hb6).rd) (fun x hx => (hob x hx).rd) (fun x hx => ((zJ1 Hle) x.o (by rw [<- zJ1 HT]; exact List.mem_map.2 ⟨x, hx, rfl⟩)).1) hT8
 have HKS := zJ2 KS
 rw [<- hlTU]
 have e9 : (p.2 == p.2) = true := beq_self_eq_true _
 clear hTU KS hb hob hU hb6 Ha Hoa HK2' HT Hle v0 v1 v2 v3 v4 y0 y1 y2 hlTU h8 S5 hb5
 go_wp2_with fail
 refine (zJ1 HKS).mono ?_
 rintro e w7 ⟨rfl, hb7⟩
 have S7 := zJ2 ((zJ1 S6).below hb7)
 clear hb7
 go_wp2_with fail
 refine ((zJ1 KW) _).mono ?_
 rintro e w8 ⟨rfl, hb8⟩
 have S8 := zJ2 ((zJ1 S7).below hb8)
 clear hb8
 go_wp2_with fail
 go_ret
 exact ⟨rfl, (zJ1 S8).bel⟩
end Go.Proofs.YtiiiblmhlhikkaaGreatDoor
namespace Go.Proofs.YtiiiblmhlhikkaaGreatDoor
open Go.RowKit Go.ChangeShapes Go.WideShapes Go.Joins Go.Deep
theorem fromFields : ∃ fs, Tryz.prog.underlying 28 = some (.struct fs) /\ oneCellFields Tryz.prog fs = true /\ Tryz.prog.cellsOf 28 = fs.size /\ fs.map (·.type) = #[3, 9, 4] :=
 ⟨_, Tryz.underlying28, by kernel_rfl, by kernel_rfl, by kernel_rfl⟩
set_option maxRecDepth 100000 in
theorem wJi {H : Type} {enc : TypeId × Value -> H} {w : World} {base : Nat} {held : Bool} {r : Reach} {b0 : Nat} {v : Value} {d : DataW H} {p : List MemPlace} (hv : Value.okWide Tryz.prog w r b0 28 v) (h : DataW.Trod enc Tryz.prog w base (fun _ => true) held 28 v d p) :
  ∃ (src : Int) (path : ByteArray) (last : Bool), v = .agg #[.int .i64 src, .string path, .bool last] /\ (-9223372036854775808 <= src /\ src <= 9223372036854775807) /\ path.size <= maxLen := by
 obtain ⟨cs, rfl, hsz⟩ := okWide_struct Tryz.underlying28 hv
 obtain ⟨fuel, hf⟩ := h
 obtain ⟨hl, n, hf⟩ := vJj _ fromFields hf
 have e2 : ∃ c0 c1 c2, cs = #[c0, c1, c2] := by
  obtain ⟨l⟩ := cs
  match l, hl with
  | [c0, c1, c2], _ => exact ⟨c0, c1, c2, rfl⟩
 obtain ⟨c0, c1, c2, rfl⟩ := e2
 obtain ⟨y0, h0⟩ := hf 0 3 c0 rfl rfl
 obtain ⟨y1, h1⟩ := hf 1 9 c1 rfl rfl
 obtain ⟨y2, h2⟩ := hf 2 4 c2 rfl rfl
 obtain ⟨a, rfl, ba⟩ := fint_is Tryz.underlying3 h0
 obtain ⟨s, rfl, bs⟩ := fstr_is Tryz.underlying9 h1
 obtain ⟨b, rfl⟩ := fbool_is Tryz.underlying4 h2
 exact ⟨a, s, b, rfl, ba, bs⟩
end Go.Proofs.YtiiiblmhlhikkaaGreatDoor
namespace Go.Proofs.YtiiiblmhlhikkaaGreatDoor
open Go.RowKit
set_option maxRecDepth 100000 in
set_option maxHeartbeats 4000000 in
theorem xJg (l : List EntA) (A : Option Addr) (n c : Nat) (cr : Vf.Cred) (Ag : Option Addr) (ng kg : Nat) (main : Int) (lib : ByteArray) (sec : Bool) (w : World) (h : Rd w w.heap.size 7 A n (rowCs entVals l)) (hl : l.length = n) (hnc : n <= c) (hcm : c <= maxLen) (hin : ∀ s ∈ l, EntIn w s)
  (hg : Rd w w.heap.size 1 Ag ng (cr.groups.map u32v)) (hgm : ng <= maxLen) (hlib : lib.size <= maxLen) :
  Calls Tryz.prog 4 #[.slice A n c, credV cr Ag ng kg, .agg #[.int .i64 main, .string lib, .bool sec]] w fun e w' => e = .returned (.bool true) /\ Below w.heap.size w w' := by
 have S0 := zJ2 (FrS.start w cr Ag ng kg main lib sec)
 have KL := zJ2 (large_any l A n c w.heap.size _ (h.below (zJ1 S0).bel) hl (Nat.le_trans hnc hcm) (fun s hs => ⟨(hin s hs).p, Nat.le_trans (hin s hs).nc (hin s hs).c, (hin s hs).t⟩))
 have KW := zJ2 wJw
 have H := zJ2 h
 have Hin := zJ2 hin
 have Hg := zJ2 hg
 have Hl := zJ2 hl
 unfold credV
 clear h hin hg hl
 go_enter Tryz.func4, Tryz.ntmps4
 go_wp2_with fail
 refine (zJ1 KL).mono ?_
 rintro e w1 ⟨lb, q, rfl, hlb, rfl⟩
 have S1 := zJ2 ((zJ1 S0).drewN q)
 have Hlb := zJ2 hlb
 clear hlb S0 KL
 generalize ((w.alloc (.cells #[.int .u32 (cr.uid : Nat), .int .u32 (cr.euid : Nat), .int .u32 (cr.suid : Nat), .int .u32 (cr.gid : Nat), .slice Ag ng kg] 26)).alloc (.cells #[.int .i64 main, .string lib, .bool sec] 28)).drewN q = W1 at *
 obtain ⟨⟨v0, v1, v2, v3, v4⟩, y0, y1, y2⟩ := (zJ1 S1).cells
 cases lb with
 | true =>
  go_wp2_with fail
  refine ((zJ1 KW) _).mono ?_
  rintro e w2 ⟨rfl, hb2⟩
  have S2 := zJ2 ((zJ1 S1).below hb2)
  clear hb2
  go_wp2_with fail
  go_ret
  exact ⟨rfl, (zJ1 S2).bel⟩
 | false =>
 by_cases hgr : ng <= 1024
 case neg =>
  have q1 : (1024 : Int) < (ng : Int) := by omega
  clear hgr
  go_wp2_with fail
  refine ((zJ1 KW) _).mono ?_
  rintro e w2 ⟨rfl, hb2⟩
  have S2 := zJ2 ((zJ1 S1).below hb2)
  clear hb2
  go_wp2_with fail
  go_ret
  exact ⟨rfl, (zJ1 S2).bel⟩
 have q1 : ¬ (1024 : Int) < (ng : Int) := by omega
 by_cases hlr : lib.size <= 1024
 case neg =>
  have q2 : (1024 : Int) < (lib.size : Int) := by omega
  clear hlr
  go_wp2_with fail
  refine ((zJ1 KW) _).mono ?_
  rintro e w2 ⟨rfl, hb2⟩
  have S2 := zJ2 ((zJ1 S1).below hb2)
  clear hb2
  go_wp2_with fail
  go_ret
  exact ⟨rfl, (zJ1 S2).bel⟩
 have q2 : ¬ (1024 : Int) < (lib.size : Int) := by omega
 obtain ⟨hn26, hall⟩ := (zJ1 Hlb) (by first | rfl | trivial)
 have hfit := esFit_of (zJ1 Hin) hall
 have KC := wJl l A n c w.heap.size W1 ((zJ1 H).below (zJ1 S1).bel) (zJ1 S1).bel.size (zJ1 Hl) (by omega) (fun s hs => ⟨((zJ1 Hin) s hs).d.below (zJ1 S1).bel, by have := (hall s hs).2.1; omega⟩)
 have HKC := zJ2 KC
 have Hfit := zJ2 hfit
 clear KC hall hfit Hlb Hin
 go_wp2_with fail
 refine (zJ1 HKC).mono ?_
 rintro e w3 ⟨A3, c3, l3, rfl, hcp⟩
 obtain ⟨hr3, hok3⟩ := hcp.newArgs (zJ1 Hfit)
 have hlen3 : l3.length = (l.map (·.e)).length := hcp.len
 have hes64 : (l.map (·.e)).length = n := by rw [List.length_map, zJ1 Hl]
 have KN := new_any l3 A3 (l.map (·.e)).length c3 w3 (by rw [<- hlen3]; exact hr3) hlen3 hok3 (by rw [hes64]; omega)
 rw [hcp.map, hes64] at KN
 obtain ⟨⟨ne, ni, F⟩, hnew⟩ : ∃ r, Vf.new (l.map (·.e)) = r := ⟨_, rfl⟩
 have S3 := zJ2 ((zJ1 S1).below hcp.bel)
 have HKN := zJ2 KN
 have Hnew := zJ2 hnew
 have Hes := zJ2 hes64
 rw [hes64]
 clear hr3 hok3 KN hlen3 S1 HKC hcp hes64 hnew v0 v1 v2 v3 v4 y0 y1 y2
 go_wp2_with fail
 refine (zJ1 HKN).mono ?_
 intro e w4 hN
 obtain ⟨hb4, fo, rfl, hF⟩ := newE16 hN (zJ1 Hnew)
 have S4 := zJ2 ((zJ1 S3).below hb4)
 obtain ⟨⟨v0, v1, v2, v3, v4⟩, y0, y1, y2⟩ := (zJ1 S4).cells
 rcases hF with rfl | ⟨f, Af, cf, L, rfl, hFS, hFg, hn65⟩
 ·clear hN HKN hb4
  go_wp2_with fail
  refine ((zJ1 KW) _).mono ?_
  rintro e w5 ⟨rfl, hb5⟩
  have S5 := zJ2 ((zJ1 S4).below hb5)
  clear hb5
  go_wp2_with fail
  go_ret
  exact ⟨rfl, (zJ1 S5).bel⟩
 have K1 := xJf F L _ f cf Af Ag ng kg cr main lib sec w4 hFg hFS hn65 (((zJ1 Hg).below (zJ1 S4).bel).more (zJ1 S4).bel.size) hgm (by omega)
 obtain ⟨⟨a9, er⟩, hp⟩ : ∃ p, Clo.closure F ⟨cr, lib, sec⟩ main = p := ⟨_, rfl⟩
 have hlens := Clo.closure_lens (F := F) (c := ⟨cr, lib, sec⟩) main
 have herr := Clo.closure_err (F := F) (c := ⟨cr, lib, sec⟩) (main := main)
 have hbeh := (Clo.closure_keeps (F := F) (c := ⟨cr, lib, sec⟩) main).2
 rw [hp] at hlens herr hbeh K1
 unfold ClosE credV at K1
 dsimp only at hlens herr hbeh K1
 have HK1 := zJ2 K1
 have Hle := zJ2 hlens
 have Herr := zJ2 herr
 have Hbeh := zJ2 hbeh
 have Hp := zJ2 hp
 have HFS := zJ2 hFS
 have HFg := zJ2 hFg
 clear hN HKN hb4 K1 hFS hFg hlens herr hbeh hp
 go_wp2_with fail
 refine (zJ1 HK1).mono ?_
 rintro e w5 ⟨hb5, T, Aa, ca, hT, rfl, ha, hoa⟩
 have S5 := zJ2 ((zJ1 S4).below hb5)
 have HF5 := zJ2 ((zJ1 HFS).belowSz hb5)
 have HT := zJ2 hT
 have Ha := zJ2 (Rd.of_own ha)
 have Hoa := zJ2 hoa
 clear hT ha hoa hb5 HFS HK1 v0 v1 v2 v3 v4 y0 y1 y2
 obtain ⟨⟨v0, v1, v2, v3, v4⟩, y0, y1, y2⟩ := (zJ1 S5).cells
 obtain ⟨n9, hn9⟩ : ∃ m, T.length = m := ⟨_, rfl⟩
 have hla : a9.length = n9 := by rw [<- zJ1 HT, List.length_map, hn9]
 by_cases her : er = 0
 case neg =>
  have h0 := (zJ1 Herr) her
  obtain rfl : n9 = 0 := by rw [<- hla, h0]; rfl
  have q3 : (er != 0) = true := bne_iff_ne.2 her
  rw [hn9]
  clear h0 her hla hn9
  go_wp2_with fail
  refine ((zJ1 KW) _).mono ?_
  rintro e w6 ⟨rfl, hb6⟩
  have S6 := zJ2 ((zJ1 S5).below hb6)
  clear hb6
  go_wp2_with fail
  go_ret
  exact ⟨rfl, (zJ1 S6).bel⟩
 case pos =>
 subst her
 obtain ⟨⟨o0, h0, hino⟩, h8, hAt⟩ := Clo.at_start (zJ1 Hp)
 have hpos : 0 < n9 := by rw [<- hla]; have := hAt.1; omega
 have hn8 : n9 <= 8 := by omega
 obtain ⟨ba, oa, rfl, hba, hca⟩ := (zJ1 Ha).open_ (by
  intro e0
  have h1 := congrArg List.length e0
  rw [obc_len, List.length_nil] at h1
  omega)
 have HC : Hid (∀ wr, Below w5.heap.size w5 wr -> ∀ (i : Nat) (x : ObA), T[i]? = some x -> ∀ j v, x.l[j]? = some v -> wr.cell? ⟨ba, oa + i * 11 + j, none⟩ = some v) := zJ2 (fun wr hb i x hx j v hv => by
  refine (hb.cell (p := ⟨ba, _, none⟩) hba).trans ?_
  rw [Nat.add_assoc]
  exact hca _ _ (vJk ObA.l 11 (fun _ => rfl) T i x hx j v hv))
 have Hob5 := zJ2 (fun x hx => ((zJ1 Hoa) x hx).rd)
 have HX : Hid (∀ (i : Nat) (o : Clo.Ob), a9[i]? = some o -> ∃ x : ObA, T[i]? = some x /\ x.o = o) := zJ2 (fun i o ho => by
  rw [<- zJ1 HT, List.getElem?_map] at ho
  cases hx : T[i]? with
  | none => rw [hx] at ho; cases ho
  | some x => rw [hx] at ho; injection ho with ho; exact ⟨x, rfl, ho⟩)
 obtain ⟨x0, hx0, rfl⟩ := (zJ1 HX) 0 o0 h0
 have z0 := (zJ1 HC) w5 (Below.refl _ _) 0 x0 hx0 0 _ rfl
 rw [hino] at z0
 have z0' : w5.cell? ⟨ba, oa, none⟩ = some (.int .i64 main) := by simpa using z0
 have HAt := zJ2 hAt
 have Hla := zJ2 hla
 have Hn9 := zJ2 hn9
 have e0 : (main == main) = true := beq_self_eq_true _
 have q3 : ¬ (8 : Int) < (n9 : Int) := by omega
 have q4 : ¬ n9 = 0 := by omega
 have q5 : ((n9 : Int) == 0) = false := beq_eq_false_iff_ne.2 (by omega)
 have q6 : (n9 == 0) = false := beq_eq_false_iff_ne.2 (by omega)
 have q7 : ¬ 8 < n9 := by omega
 have p0 : (0 : Int) < (n9 : Int) := by omega
 rw [hn9]
 clear h0 hino h8 hAt hca hla hn9 hx0 Ha Herr
 go_wp2_with fail
 go_quiet (fail)
 go_wp2_with fail
 go_loopg [12, 13] n9 (fun gk sv iv wr => ∃ (i seen : Nat), gk = n9 - i /\ i <= n9 /\ sv = .int .i64 seen /\ iv = .int .i64 i /\ Clo.At F ⟨cr, lib, sec⟩ a9 seen i /\ Below w5.heap.size w5 wr)
 case atStart => exact ⟨0, 1, by omega, Nat.zero_le _, rfl, rfl, zJ1 HAt, below_drewN' (Below.refl _ _) _⟩
 case round =>
 obtain ⟨i, seen, hgk, hi, rfl, rfl, hAt, hbw⟩ := hrel
 have Hgk := zJ2 hgk
 have Hbw := zJ2 hbw
 have hsl : seen <= n9 := by have h1 := hAt.1; have h2 := zJ1 Hla; omega
 clear hgk v0 v1 v2 v3 v4 y0 y1 y2 z0 z0' e0 q3 q4 HAt
 by_cases hlt : i < n9
 case neg =>
  obtain rfl : i = n9 := by omega
  obtain rfl : seen = i := by have h1 := Clo.at_end hAt (by rw [zJ1 Hla]; exact Nat.le_refl _); have h2 := zJ1 Hla; omega
  have S6 := zJ2 ((zJ1 S5).below hbw)
  clear hAt hbw hlt
  go_wp2_with fail
  refine ((zJ1 KW) _).mono ?_
  rintro e w7 ⟨rfl, hb7⟩
  have S7 := zJ2 ((zJ1 S6).below hb7)
  clear hb7
  go_wp2_with fail
  go_ret
  exact ⟨rfl, (zJ1 S7).bel⟩
 case pos =>
 obtain ⟨o, ho, hIn⟩ := Clo.at_in hAt (by rw [zJ1 Hla]; exact hlt) (by rw [zJ1 Hla]; exact hn8)
 obtain ⟨x, hx, rfl⟩ := (zJ1 HX) i o ho
 have hL := (zJ1 Hle) x.o (List.mem_of_getElem? ho)
 have c1 := (zJ1 HC) wr hbw i x hx 1 _ rfl
 have c2 := (zJ1 HC) wr hbw i x hx 2 _ rfl
 have c6 := (zJ1 HC) wr hbw i x hx 6 _ rfl
 have hty : 0 < i -> x.o.head.type = 3 := fun h => (zJ1 Hbeh) i x.o h ho
 have ilt : (i : Int) < (n9 : Int) := by omega
 have i0 : (0 : Int) <= (i : Int) := by omega
 have HIn := zJ2 hIn
 have HL := zJ2 hL
 have Hx := zJ2 hx
 obtain ⟨M, hM⟩ : ∃ M, x.o.dyn.needed.length = M := ⟨_, rfl⟩
 have hMb : M <= 65536 := by rw [<- hM]; exact hL.1.needed
 have HM := zJ2 hM
 obtain ⟨ty, hty2⟩ : ∃ ty, x.o.head.type = ty := ⟨_, rfl⟩
 rw [hty2] at hty c2
 clear hAt hbw ho hIn hL hx hM hty2
 rcases Nat.eq_zero_or_pos i with hz | hz
 case' inl =>
  have q0 : ¬ (0 : Int) < (i : Int) := by omega
  clear hty hz
  go_wp2_with fail
  clear q0
 case' inr =>
  obtain rfl := hty hz
  have q0 : (0 : Int) < (i : Int) := by omega
  clear hty hz
  go_wp2_with fail
  clear q0
 all_goals
  clear c1 c2 c6
  generalize wr = wq at *
  go_loopg [12, 14] M (fun gk2 sv2 kv wr => ∃ (k seen2 : Nat), gk2 = M - k /\ k <= M /\ sv2 = .int .i64 seen2 /\ kv = .int .i64 k /\ Clo.In F ⟨cr, lib, sec⟩ a9 seen2 i k x.o /\ Below w5.heap.size w5 wr)
  case atStart => exact ⟨0, seen, by omega, Nat.zero_le _, rfl, rfl, zJ1 HIn, zJ1 Hbw⟩
  case round =>
  obtain ⟨k, seen2, hgk2, hk, rfl, rfl, hIn2, hbw2⟩ := hrel
  have Hgk2 := zJ2 hgk2
  have Hbw2 := zJ2 hbw2
  have hsn2 : seen2 <= n9 := by have h1 := hIn2.1; have h2 := zJ1 Hla; omega
  clear hgk2
  by_cases hkl : k < M
  case neg =>
   have hAt2 := zJ2 (Clo.in_out hIn2 (by have := zJ1 HM; omega))
   have c6 := (zJ1 HC) wr hbw2 i x (zJ1 Hx) 6 _ rfl
   rw [zJ1 HM] at c6
   have klt : ¬ (k : Int) < (M : Int) := by omega
   clear hIn2 hbw2 hkl
   go_wp2_with fail
   go_roundg (n9 - (i + 1))
   case measure => have := zJ1 Hgk; omega
   case rel => exact ⟨i + 1, seen2, rfl, by omega, by go_num, rfl, zJ1 hAt2, zJ1 Hbw2⟩
  case pos =>
  obtain ⟨nm, hnm⟩ : ∃ nm, x.o.dyn.needed[k]? = some nm := ⟨_, List.getElem?_eq_getElem (by rw [zJ1 HM]; exact hkl)⟩
  obtain ⟨e1, hway⟩ := Clo.in_step hIn2 hnm
  have hnsz := (zJ1 HL).2.1 nm (List.mem_of_getElem? hnm)
  have hrsz := (zJ1 HL).2.2.1
  have hN := ((zJ1 Hob5) x (List.mem_of_getElem? (zJ1 Hx))).dyn.needed.belowSz hbw2
  obtain ⟨b1, o1, hY1, hb1, hcell⟩ := hN.at_ (k := k) (u := .string nm) (by rw [List.getElem?_map]; dsimp only [toMk]; rw [hnm]; rfl)
  obtain ⟨run, hrun⟩ : ∃ r, x.o.dyn.run = r := ⟨_, rfl⟩
  have HSK : Hid (∀ w', Below wr.heap.size wr w' -> (Below wr.heap.size wr w' /\ w'.cell? ⟨w.heap.size, 0, none⟩ = some (.int .u32 (cr.uid : Nat)) /\ w'.cell? ⟨w.heap.size, 1, none⟩ = some (.int .u32 (cr.euid : Nat)) /\ w'.cell? ⟨w.heap.size, 2, none⟩ = some (.int .u32 (cr.suid : Nat)) /\ w'.cell? ⟨w.heap.size, 3, none⟩ = some (.int .u32 (cr.gid : Nat)) /\ w'.cell? ⟨w.heap.size, 4, none⟩ = some (.slice Ag ng kg) /\ w'.cell? ⟨w.heap.size + 1, 1, none⟩ = some (.string lib) /\ w'.cell? ⟨w.heap.size + 1, 2, none⟩ = some (.bool sec) /\ w'.cell? ⟨ba, oa + i * 11 + 6, none⟩ = some (.slice (some ⟨b1, o1, none⟩) M x.c1) /\ w'.cell? ⟨ba, oa + i * 11 + 8, none⟩ = some (.string run) /\ w'.cell? ⟨b1, o1 + k, none⟩ = some (.string nm))) := zJ2 (fun w' hb => by
   have hb2 := hbw2.trans (hb.mono hbw2.size)
   obtain ⟨⟨u0, u1, u2, u3, u4⟩, z0, z1, z2⟩ := ((zJ1 S5).below hb2).cells
   have c6 := (zJ1 HC) w' hb2 i x (zJ1 Hx) 6 _ rfl
   rw [zJ1 HM, show x.A1 = some ⟨b1, o1, none⟩ from hY1] at c6
   have c8 := (zJ1 HC) w' hb2 i x (zJ1 Hx) 8 _ rfl
   rw [hrun] at c8
   exact ⟨hb, u0, u1, u2, u3, u4, z1, z2, c6, c8, (hb.cell (p := ⟨b1, _, none⟩) hb1).trans hcell⟩)
  obtain ⟨-, r0, r1, r2, r3, r4, r5, r6, r7, r8, r9⟩ := (zJ1 HSK) wr (Below.refl _ _)
  rw [hrun] at e1 hway hrsz
  have hps := Clo.paths_sz (sec := sec) hnsz hrsz (show lib.size <= 65536 by omega)
  have KP := fun W => paths_any nm run lib sec W (by omega) (by omega) (by omega)
  have KF := fun (Al : Option Addr) (cl : Nat) (W : World) (hW : Below w5.heap.size w5 W) (hl : Rd W W.heap.size 1 Al (Se.paths nm run lib sec).length ((Se.paths nm run lib sec).map Value.string)) => find_any F L _ f cf Af Ag Al ng kg _ cl cr 0 (Se.paths nm run lib sec) W (zJ1 HFg) ((zJ1 HF5).belowSz hW) hn65 (((zJ1 Hg).below ((zJ1 S5).bel.trans (hW.mono (zJ1 S5).bel.size))).more (Nat.le_trans (zJ1 S5).bel.size hW.size)) hgm hl (fun x hx => Nat.le_trans (hps.1 x hx) (by decide)) (by have := hps.2; omega)
  obtain ⟨⟨fn, fp, fe⟩, hlk⟩ : ∃ r, Clo.look F ⟨cr, lib, sec⟩ run nm = r := ⟨_, rfl⟩
  rw [hlk] at e1 hway
  obtain rfl : fe = 0 := e1
  dsimp only at hway
  rw [show Se.find F cr 0 (Se.paths nm run lib sec) = (fn, fp, 0) from hlk] at KF
  unfold TxE at KP
  unfold credV at KF
  dsimp only at KF
  obtain ⟨PL, hPL⟩ : ∃ l, Se.paths nm run lib sec = l := ⟨_, rfl⟩
  rw [hPL] at KP KF
  have HKP := zJ2 KP
  have HKF := zJ2 KF
  have Hway := zJ2 hway
  have i0 : (0 : Int) <= (i : Int) := by omega
  have k0 : (0 : Int) <= (k : Int) := by omega
  have klt : (k : Int) < (M : Int) := by omega
  clear hps hlk KP KF hPL hway hnm hIn2 hbw2 hN hY1 hb1 hcell hrun hnsz hrsz
  go_wp2_with fail
  go_region_held3 (fun w' => Below wr.heap.size wr w' /\ w'.cell? ⟨w.heap.size, 0, none⟩ = some (.int .u32 (cr.uid : Nat)) /\ w'.cell? ⟨w.heap.size, 1, none⟩ = some (.int .u32 (cr.euid : Nat)) /\ w'.cell? ⟨w.heap.size, 2, none⟩ = some (.int .u32 (cr.suid : Nat)) /\ w'.cell? ⟨w.heap.size, 3, none⟩ = some (.int .u32 (cr.gid : Nat)) /\ w'.cell? ⟨w.heap.size, 4, none⟩ = some (.slice Ag ng kg) /\ w'.cell? ⟨w.heap.size + 1, 1, none⟩ = some (.string lib) /\ w'.cell? ⟨w.heap.size + 1, 2, none⟩ = some (.bool sec) /\ w'.cell? ⟨ba, oa + i * 11 + 6, none⟩ = some (.slice (some ⟨b1, o1, none⟩) M x.c1) /\ w'.cell? ⟨ba, oa + i * 11 + 8, none⟩ = some (.string run) /\ w'.cell? ⟨b1, o1 + k, none⟩ = some (.string nm)) (first | exact (zJ1 HSK) _ (zJ3 (Below.refl _ _)) | exact (zJ1 HSK) _ (zJ1 hbn)) (first
   | (go_at_call 17; rename Below _ _ _ /\ _ => hH; refine ((zJ1 HKP) _).mono ?_; rintro e w8 ⟨A8, c8, rfl, ho8, hb8⟩; have hbn := zJ2 (hH.1.trans (hb8.mono hH.1.size)); have Ho8 := zJ2 ho8; clear hb8 ho8)
   | (go_at_call 16; rename Below _ _ _ /\ _ => hH; refine ((zJ1 HKF) _ _ _ ((zJ1 Hbw2).trans (hH.1.mono (zJ1 Hbw2).size)) (Rd.of_own (zJ1 Ho8))).mono ?_; rintro e w9 ⟨rfl, hb9⟩; have hbn := zJ2 (hH.1.trans (hb9.mono hH.1.size)); clear hb9))
  have Hbw3 := zJ2 ((zJ1 Hbw2).trans ((zJ1 hbn).mono (zJ1 Hbw2).size))
  clear r0 r1 r2 r3 r4 r5 r6 r7 r8 r9 HSK HKP HKF Ho8 hbn
  go_wp2_with fail
  go_loopg [18, 19] seen2 (fun gk3 tv jv wr => ∃ j : Nat, gk3 = seen2 - j /\ j <= seen2 /\ jv = .int .i64 j /\ tv = .bool (Clo.there (a9.take j) fn) /\ Below w5.heap.size w5 wr)
  case atStart => exact ⟨0, by omega, Nat.zero_le _, rfl, rfl, zJ1 Hbw3⟩
  case round =>
  obtain ⟨j, hgk3, hj, rfl, rfl, hbw4⟩ := hrel
  have Hgk3 := zJ2 hgk3
  have Hbw4 := zJ2 hbw4
  clear hgk3
  obtain ⟨tb, htb⟩ : ∃ tb, Clo.there (a9.take j) fn = tb := ⟨_, rfl⟩
  rw [htb]
  have Htb := zJ2 htb
  clear htb
  by_cases hjl : j < seen2
  ·obtain ⟨oj, hoj⟩ : ∃ o, a9[j]? = some o := ⟨_, List.getElem?_eq_getElem (by have := zJ1 Hla; omega)⟩
   obtain ⟨xj, hxj, rfl⟩ := (zJ1 HX) j oj hoj
   have d0 := (zJ1 HC) wr hbw4 j xj hxj 0 _ rfl
   rw [Nat.add_zero] at d0
   have j0 : (0 : Int) <= (j : Int) := by omega
   have jlt : (j : Int) < (n9 : Int) := by omega
   have jls : (j : Int) < (seen2 : Int) := by omega
   have Hst := zJ2 (Clo.there_step (n := fn) hoj)
   clear hbw4 hxj hoj
   cases tb
   all_goals
    go_wp2_with fail
    go_roundg (seen2 - (j + 1))
    case measure => have := zJ1 Hgk3; omega
    case rel => exact ⟨j + 1, rfl, by omega, by go_num, by rw [zJ1 Hst, zJ1 Htb]; rfl, zJ1 Hbw4⟩
  ·obtain rfl : j = seen2 := by omega
   cases tb
   case true =>
    have hin : Clo.In F ⟨cr, lib, sec⟩ a9 j i (k + 1) x.o := by
     rcases zJ1 Hway with ⟨-, h⟩ | ⟨h, -⟩
     ·exact h
     ·rw [zJ1 Htb] at h; cases h
    have Hin2 := zJ2 hin
    clear hin hbw4
    go_wp2_with fail
    go_roundg (M - (k + 1))
    case measure => have := zJ1 Hgk2; omega
    case rel => exact ⟨k + 1, j, rfl, by omega, rfl, by go_num, zJ1 Hin2, zJ1 Hbw4⟩
   case false =>
    obtain ⟨⟨o9, ho9, hi9⟩, hin⟩ : (∃ y, a9[j]? = some y /\ y.ino = (fn : Nat)) /\ Clo.In F ⟨cr, lib, sec⟩ a9 (j + 1) i (k + 1) x.o := by
     rcases zJ1 Hway with ⟨h, -⟩ | ⟨-, h⟩
     ·rw [zJ1 Htb] at h; cases h
     ·exact h
    obtain ⟨x9, hx9, rfl⟩ := (zJ1 HX) j o9 ho9
    have hjn : j < n9 := by have h1 := hin.1; have h2 := zJ1 Hla; omega
    have d0 := (zJ1 HC) wr hbw4 j x9 hx9 0 _ rfl
    rw [Nat.add_zero, hi9] at d0
    have j0 : (0 : Int) <= (j : Int) := by omega
    have jlt : (j : Int) < (n9 : Int) := by omega
    have jge : ¬ (n9 : Int) <= (j : Int) := by omega
    have jne : ((fn : Int) != (fn : Int)) = false := by simp
    have Hin2 := zJ2 hin
    clear hin hbw4 hi9 hx9 ho9
    go_wp2_with fail
    go_roundg (M - (k + 1))
    case measure => have := zJ1 Hgk2; omega
    case rel => exact ⟨k + 1, j + 1, rfl, by omega, by go_num, by go_num, zJ1 Hin2, zJ1 Hbw4⟩
end Go.Proofs.YtiiiblmhlhikkaaGreatDoor
